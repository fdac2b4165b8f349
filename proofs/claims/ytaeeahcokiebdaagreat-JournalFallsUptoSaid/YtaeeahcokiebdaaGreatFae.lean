/-
  Great text e of a proof: Yj, Yk, Za, Zb, Yl, Kn, Ym, Zc, Xb, Xc, Zd, Ze, Yn, Yo, one behind the other.
  Conditions: those that each part names.
-/
import Derived.Test.YtaeeahcokiebdaaGreatFad
import Derived.Laws.StructEq

/-
  Plain laws: how many bytes a state has, and deeds that were read.
-/
namespace Go.Proofs.YtaeeahcokiebdaaGreat

def wSum (l : List Ino) : Nat := (l.map fun x => (deedB ⟨2, 0, x⟩).length).sum
def wN (s : Sta) : Nat := wSum s.inos + 9 * s.bad.length
theorem whole_len (s : Sta) : (deedsB (whole s)).length = 9 + wN s := by
  have h1 : (deedB ⟨1, s.next, ino0⟩).length = 9 := by simp [deedB]
  have h2 : ∀ l : List Ino, (deedsB (l.map fun x => (⟨2, 0, x⟩ : Deed))).length = wSum l := by
    intro l
    induction l with
    | nil => rfl
    | cons x l ih =>
      have : deedsB ((x :: l).map fun x => (⟨2, 0, x⟩ : Deed)) = deedB ⟨2, 0, x⟩ ++ deedsB (l.map fun x => (⟨2, 0, x⟩ : Deed)) := by simp [deedsB]
      rw [this, List.length_append, ih]
      simp [wSum]
  have h3 : ∀ l : List Int, (deedsB (l.map fun n => (⟨4, n, ino0⟩ : Deed))).length = 9 * l.length := by
    intro l
    induction l with
    | nil => rfl
    | cons x l ih =>
      have : deedsB ((x :: l).map fun n => (⟨4, n, ino0⟩ : Deed)) = deedB ⟨4, x, ino0⟩ ++ deedsB (l.map fun n => (⟨4, n, ino0⟩ : Deed)) := by simp [deedsB]
      have h4 : (deedB ⟨4, x, ino0⟩).length = 9 := by simp [deedB]
      rw [this, List.length_append, ih, h4]
      simp
      omega
  have h5 : deedsB (whole s) = deedB ⟨1, s.next, ino0⟩ ++ deedsB (s.inos.map fun x => (⟨2, 0, x⟩ : Deed)) ++ deedsB (s.bad.map fun n => (⟨4, n, ino0⟩ : Deed)) := by simp [whole, deedsB]
  rw [h5, List.length_append, List.length_append, h1, h2, h3]
  unfold wN
  omega
theorem wSum_app (a b : List Ino) : wSum (a ++ b) = wSum a + wSum b := by simp [wSum]
theorem wSum_set : ∀ (l : List Ino) (i : Nat) (x : Ino), wSum (l.set i x) ≤ wSum l + (deedB ⟨2, 0, x⟩).length
  | [], i, x => by simp [wSum]
  | y :: l, 0, x => by simp [wSum]; omega
  | y :: l, i + 1, x => by
    have := wSum_set l i x
    simp [wSum] at this ⊢
    omega
theorem wSum_putI (l : List Ino) (x : Ino) : wSum (putI l x) ≤ wSum l + (deedB ⟨2, 0, x⟩).length := by
  unfold putI
  split
  · exact wSum_set _ _ _
  · split
    · rw [wSum_app]; simp [wSum]
    · rw [wSum_app, wSum_app]
      have := congrArg wSum (List.take_append_drop (ixOf (fun y => decide (x.no < y.no)) l).toNat l)
      rw [wSum_app] at this
      have h1 : wSum [x] = (deedB ⟨2, 0, x⟩).length := by simp [wSum]
      omega
theorem wSum_filter (q : Ino → Bool) : ∀ l : List Ino, wSum (l.filter q) ≤ wSum l
  | [] => by simp [wSum]
  | x :: l => by
    have := wSum_filter q l
    rw [List.filter_cons]
    split
    · simp [wSum] at this ⊢; omega
    · simp [wSum] at this ⊢; omega
theorem deedB_two (n m : Int) (x : Ino) : (deedB ⟨2, n, x⟩).length = (deedB ⟨2, m, x⟩).length := by simp [deedB]
theorem wN_apply1 (s : Sta) (d : Deed) : wN (apply1 s d) ≤ wN s + (deedB d).length := by
  unfold apply1
  split
  · unfold wN; dsimp only; omega
  · split
    · rename_i h2
      have h1 := wSum_putI s.inos d.ino
      have h3 : (deedB d).length = (deedB ⟨2, 0, d.ino⟩).length := by
        obtain ⟨k, n, x⟩ := d
        dsimp only at h2 ⊢
        subst h2
        exact deedB_two _ _ _
      unfold wN
      dsimp only
      omega
    · split
      · have := wSum_filter (fun x => !decide (x.no = d.no)) s.inos
        unfold wN
        dsimp only
        omega
      · split
        · rename_i h4
          have h1 := badI_len s.bad d.no
          have h3 : (deedB d).length = 9 := by simp [deedB, h4]
          unfold wN
          dsimp only
          omega
        · omega
theorem wN_applyL : ∀ (l : List Deed) (s : Sta), wN (applyL s l) ≤ wN s + (deedsB l).length
  | [], s => by simp [applyL]
  | d :: l, s => by
    have h1 := wN_applyL l (apply1 s d)
    have h2 := wN_apply1 s d
    have h3 : (deedsB (d :: l)).length = (deedB d).length + (deedsB l).length := by simp [deedsB]
    have h4 : applyL s (d :: l) = applyL (apply1 s d) l := rfl
    rw [h4]
    omega
/-! ### What was read takes as many bytes as it did -/
theorem rText_n {bs : List UInt8} {a b : Nat} (h : (rText bs (some a)).2 = some b) : b = a + (txtB (rText bs (some a)).1).length := by
  unfold rText at h ⊢
  dsimp only at h ⊢
  cases ht : txtAt bs a with
  | none => rw [ht] at h; cases h
  | some t =>
    rw [ht] at h
    injection h with h
    rw [← h]
    dsimp only
    rw [txtB_len]
    have e : (⟨t.toArray⟩ : ByteArray).size = t.length := by show t.toArray.size = _; simp
    rw [e]
    omega
theorem rEnts_n {bs : List UInt8} : ∀ {n a b : Nat}, (rEnts bs n (some a)).2 = some b → b = a + ((rEnts bs n (some a)).1.map entB).flatten.length ∧ (rEnts bs n (some a)).1.length = n
  | 0, a, b, h => by simp [rEnts] at h ⊢; exact h.symm
  | n + 1, a, b, h => by
    simp only [rEnts] at h ⊢
    cases h1 : (rInt bs (rText bs (some a)).2).2 with
    | none => rw [h1, rEnts_none] at h; cases h
    | some c =>
      rw [h1] at h
      obtain ⟨a1, h2, h3, h4⟩ := rInt_st h1
      have h5 := rText_n h2
      obtain ⟨i1, i2⟩ := rEnts_n h
      have h6 : ∀ e : Entry, (entB e).length = (txtB e.name).length + 8 := by intro e; simp [entB]
      refine ⟨?_, by simp [i2]⟩
      rw [List.map_cons, List.flatten_cons, List.length_append, h6]
      dsimp only
      omega
theorem rRuns_n {bs : List UInt8} : ∀ {n a b : Nat}, (rRuns bs n (some a)).2 = some b → b = a + ((rRuns bs n (some a)).1.map runB).flatten.length ∧ (rRuns bs n (some a)).1.length = n
  | 0, a, b, h => by simp [rRuns] at h ⊢; exact h.symm
  | n + 1, a, b, h => by
    simp only [rRuns] at h ⊢
    cases h1 : (rInts bs 3 (some a)).2 with
    | none => rw [h1, rRuns_none] at h; cases h
    | some c =>
      rw [h1] at h
      obtain ⟨a1, h2, h3, h4⟩ := rInts_st h1
      injection h2 with h2
      obtain ⟨i1, i2⟩ := rRuns_n h
      refine ⟨?_, by simp [i2]⟩
      rw [List.map_cons, List.flatten_cons, List.length_append, runB_len]
      omega
theorem rIno_n {bs : List UInt8} {a b : Nat} (h : (rIno bs (some a)).2 = some b) : b = a + (inoB (rIno bs (some a)).1).length := by
  unfold rIno at h ⊢
  dsimp only at h ⊢
  cases h1 : (rEnts bs (rNum bs (rText bs (rInts bs 4 (some a)).2).2 4).1 (rNum bs (rText bs (rInts bs 4 (some a)).2).2 4).2).2 with
  | none =>
    have e1 : rNum bs Option.none 4 = (0, Option.none) := rfl
    rw [h1, e1] at h
    dsimp only at h
    rw [rRuns_none] at h
    cases h
  | some e =>
    cases h2 : (rNum bs (some e) 4).2 with
    | none => rw [h1, h2, rRuns_none] at h; cases h
    | some f =>
      rw [h1, h2] at h
      obtain ⟨i1, i2⟩ := rRuns_n h
      obtain ⟨f1, h3, h4, _⟩ := rNum_st h2
      injection h3 with h3
      cases h5 : (rNum bs (rText bs (rInts bs 4 (some a)).2).2 4).2 with
      | none => rw [h5, rEnts_none] at h1; cases h1
      | some c =>
        have h1' := h1
        rw [h5] at h1'
        obtain ⟨j1, j2⟩ := rEnts_n h1'
        obtain ⟨c1, h6, h7, _⟩ := rNum_st h5
        obtain ⟨t1, h8, h9, _⟩ := rText_st h6
        obtain ⟨t2, h10, h11, _⟩ := rInts_st h8
        injection h10 with h10
        rw [h8] at h6
        have h12 := rText_n h6
        rw [h8] at j1 ⊢
        unfold inoB
        simp only [List.length_append, intsB_len, le_len, List.length_cons, List.length_nil]
        omega
theorem deedB_len (d : Deed) : (deedB d).length = 1 + (if d.kind = 1 ∨ d.kind = 3 ∨ d.kind = 4 then 8 else if d.kind = 2 then (inoB d.ino).length else 0) := by
  unfold deedB
  rw [List.length_append, le_len]
  congr 1
  split
  · simp
  · split <;> simp
theorem rDeed_n {bs : List UInt8} {a b : Nat} (h : (rDeed bs (some a)).2 = some b) : b = a + (deedB (rDeed bs (some a)).1).length := by
  unfold rDeed at h ⊢
  dsimp only at h ⊢
  split at h
  · rename_i hk
    rw [if_pos hk, deedB_len]
    dsimp only
    rw [if_pos hk]
    obtain ⟨a1, h1, h2, h3⟩ := rInt_st h
    obtain ⟨a0, h4, h5, _⟩ := rNum_st h1
    injection h4 with h4
    omega
  · rename_i hk
    rw [if_neg hk]
    split at h
    · rename_i hk2
      rw [if_pos hk2, deedB_len]
      dsimp only
      rw [if_neg hk, if_pos hk2]
      cases h1 : (rNum bs (some a) 1).2 with
      | none =>
        obtain ⟨_, _, h3⟩ := rIno_st bs (rNum bs (some a) 1).2
        obtain ⟨a1, h4, _⟩ := h3 b h
        rw [h1] at h4
        cases h4
      | some c =>
        rw [h1] at h
        have h2 := rIno_n h
        obtain ⟨a0, h4, h5, _⟩ := rNum_st h1
        injection h4 with h4
        omega
    · cases h
theorem parseAt_n (bs : List UInt8) : ∀ (k a : Nat) (l : List Deed), bs.length - a ≤ k → a ≤ bs.length → parseAt bs a = some l → a + (deedsB l).length = bs.length
  | 0, a, l, hk, ha, h => by
    rw [parseAt_end (by omega)] at h
    injection h with h
    subst h
    simp [deedsB]
    omega
  | k + 1, a, l, hk, ha, h => by
    by_cases hlt : a < bs.length
    · cases hd : (rDeed bs (some a)).2 with
      | none => rw [parseAt_none hlt hd] at h; cases h
      | some b =>
        rw [parseAt_some hlt hd] at h
        have h1 := rDeed_n hd
        have h2 := rDeed_to hd
        cases hp : parseAt bs b with
        | none => rw [hp] at h; cases h
        | some l' =>
          rw [hp] at h
          injection h with h
          subst h
          have h3 := parseAt_n bs k b l' (by omega) h2.2 hp
          simp [deedsB] at h3 ⊢
          omega
    · rw [parseAt_end (by omega)] at h
      injection h with h
      subst h
      simp [deedsB]
      omega
theorem parse_n {bs : List UInt8} {l : List Deed} (h : parse bs = some l) : (deedsB l).length = bs.length := by
  have := parseAt_n bs bs.length 0 l (by omega) (by omega) h
  omega
theorem readL_n : ∀ (l : List (List UInt8)) (i : Nat) (r r' : Sta × Nat), readL i l r = some r' → r'.2 ≤ r.2 + recsN l ∧ wN r'.1 + r.2 ≤ wN r.1 + r'.2
  | [], i, r, r', h => by
    unfold readL at h
    injection h with h
    subst h
    simp [recsN]
  | x :: l, i, r, r', h => by
    unfold readL at h
    split at h
    · split at h
      · cases h
      · injection h with h
        subst h
        omega
    · rename_i d hd
      obtain ⟨h1, h2⟩ := readL_n l (i + 1) _ r' h
      have h3 := parse_n hd
      have h4 := wN_applyL d r.1
      have h5 : (if i = 0 then x.drop 8 else x).length ≤ x.length := by split <;> simp
      rw [recsN_cons]
      dsimp only at h1 h2
      omega
/-- What a half's bytes tell is within bounds. -/
theorem readB_n (b : List UInt8) : 0 ≤ (readB b).epoch ∧ (readB b).epoch ≤ 2147483647 ∧ (readB b).used ≤ b.length ∧ wN (readB b).s ≤ (readB b).used := by
  obtain ⟨hn, _, _⟩ := recsN_le b.length b (Nat.le_refl _)
  unfold readB
  split
  · exact ⟨by decide, by decide, Nat.zero_le _, by decide⟩
  · rename_i x l hx
    split
    · exact ⟨by decide, by decide, Nat.zero_le _, by decide⟩
    · rename_i hc
      split
      · exact ⟨by decide, by decide, Nat.zero_le _, by decide⟩
      · rename_i r hr
        obtain ⟨h1, h2⟩ := readL_n _ _ _ _ hr
        have h3 : wN sta0 = 0 := by decide
        rw [hx] at hn
        dsimp only at h1 h2 ⊢
        omega
end Go.Proofs.YtaeeahcokiebdaaGreat

/-
  The walk of opening a journal.
  Conditions: the chip is as it should be.
-/
namespace Go.Proofs.YtaeeahcokiebdaaGreat
set_option maxRecDepth 20000

def pickF (r : Jr × Sta × Bool) (i : Nat) (f : Fnd) : Jr × Sta × Bool := if r.1.epoch < f.epoch then (⟨i, f.epoch, f.used, false⟩, f.s, f.more) else r
/-- What the first halves tell. -/
def foundTo (ch : Chip) : Nat → Jr × Sta × Bool
  | 0 => (⟨0, 0, 0, false⟩, sta0, false)
  | i + 1 => pickF (foundTo ch i) i (readB (ch.half i))
theorem foundTo_ok {ad : Ad} {ch : Chip} (hok : ChipOk ad ch) : ∀ i, i ≤ 2 → JOk (foundTo ch i).1 ch.g ∧ (foundTo ch i).1.ended = false ∧ wN (foundTo ch i).2.1 ≤ (foundTo ch i).1.used ∧ ((foundTo ch i).1.epoch = 0 → (foundTo ch i).2.2 = false)
  | 0, _ => ⟨⟨(by decide : (0 : Nat) < 2), (by decide : (0 : Int) ≤ 0 ∧ (0 : Int) ≤ 2147483647), Nat.zero_le _⟩, rfl, (by decide : wN sta0 ≤ 0), fun _ => rfl⟩
  | i + 1, h => by
    obtain ⟨h1, h2, h3, h4⟩ := foundTo_ok hok i (by omega)
    have hl := half_len hok (h := i) (by omega)
    obtain ⟨b1, b2, b3, b4⟩ := readB_n (ch.half i)
    unfold foundTo pickF
    split
    · exact ⟨⟨by show i < 2; omega, ⟨b1, b2⟩, by rw [← hl]; exact b3⟩, rfl, b4, fun h0 => by dsimp only at h0; have := h1.epoch; omega⟩
    · exact ⟨h1, h2, h3, h4⟩
/-- What opening leads to: the chip, the journal and its state (or none), and what it tells. -/
def openC (ch : Chip) : (Chip × Option (Jr × Sta)) × Int :=
  if (foundTo ch 2).1.epoch = 0 then ((ch, Option.none), 23)
  else if (foundTo ch 2).2.2 = true then
    if (anewC ch (foundTo ch 2).1 (foundTo ch 2).2.1).2 ≠ 0 then (((anewC ch (foundTo ch 2).1 (foundTo ch 2).2.1).1, Option.none), (anewC ch (foundTo ch 2).1 (foundTo ch 2).2.1).2)
    else (((anewC ch (foundTo ch 2).1 (foundTo ch 2).2.1).1, some (anewJ ch (foundTo ch 2).1 (foundTo ch 2).2.1, (foundTo ch 2).2.1)), 0)
  else ((ch, some ((foundTo ch 2).1, (foundTo ch 2).2.1)), 0)
theorem open_spec (M : Mem) (ad : Ad) (ch : Chip) (hok : ChipOk ad ch) :
    Spec Tryz.prog 21 [ptr ad.cb] M (chipH ad ch)
      (fun v M' H => ((openC ch).1.2 = Option.none ∧ (openC ch).2 ≠ 0 ∧ v = .tuple #[.pointer Option.none, .int .i64 (openC ch).2] ∧ H = chipH ad (openC ch).1.1) ∨
        ∃ (jb : Nat) (j : Jr) (s : StaD), (openC ch).1.2 = some (j, s.v) ∧ (openC ch).2 = 0 ∧ v = .tuple #[ptr jb, .int .i64 0] ∧ SOk M' s ∧ StaB 100000 s.v ∧ H = (jb, .cells (jrL ad.cb j s)) :: chipH ad (openC ch).1.1) := by
  obtain ⟨hz, hz1, hz2, hz3⟩ := hsz_int hok.geo
  refine Spec.of_code 73 Tryz.func21 rfl callable21 rfl rfl fun w => ?_
  refine C.region_seq ?_
  refine G.value rfl rfl rfl (Sure.assign rfl) ?_
  refine G.value rfl rfl rfl (Sure.assign rfl) ?_
  refine G.nil ?_
  refine C.region_seq ?_
  refine G.value rfl rfl rfl (Sure.move rfl) ?_
  refine G.value rfl rfl rfl (Sure.build rfl rfl) ?_
  refine G.dyn rfl rfl rfl ?_
  refine Dyn.boxAgg rfl ?_
  intro b13
  refine G.value rfl rfl rfl (Sure.assign rfl) ?_
  refine G.value rfl rfl rfl (Sure.assign rfl) ?_
  refine G.nil ?_
  refine C.seq ?_
  refine C.region_seq ?_
  refine G.value rfl rfl rfl (Sure.move rfl) ?_
  refine G.nil ?_
  refine C.block ?_
  refine C.loop (fun k E M' H => ∃ (i : Nat) (s : StaD), MLe M M' ∧ i + k = 2 ∧ s.v = (foundTo ch i).2.1 ∧ SOk M' s ∧ StaB 100000 s.v ∧ E = [(0, ptr ad.cb), (4, ptr b13), (5, .bool (foundTo ch i).2.2), (14, intV i)] ∧ H = (b13, .cells (jrL ad.cb (foundTo ch i).1 s)) :: chipH ad ch) (2) ?_ ?_
  · exact ⟨_, _, ⟨0, staD0, MLe.refl _, rfl, rfl, sok0 _, ⟨by simp [staD0, StaD.v], by simp [staD0, StaD.v], by simp [staD0, StaD.v]⟩, rfl, rfl⟩, ⟨rfl, rfl, rfl, rfl, trivial⟩, _, Split.one .all⟩
  · rintro k E M' H ⟨i, s, hle, hik, hsv, hso, hsb, rfl, rfl⟩
    obtain ⟨g1, g2, g3, g4⟩ := foundTo_ok hok i (by omega)
    refine C.region_seq ?_
    refine G.value rfl rfl rfl (Sure.lss rfl rfl) ?_
    refine G.nil ?_
    refine C.seq ?_
    refine C.cond_dec rfl (fun hlt => ?_) (fun hlt => ?_)
    · have hi : i < 2 := by omega
      have hl := half_len hok (h := i) hi
      refine C.skip ?_
      refine Fin.th ?_
      refine C.seq ?_
      refine C.block ?_
      refine C.region_seq ?_
      refine G.value rfl rfl rfl (Sure.move rfl) ?_
      refine G.value rfl rfl rfl (Sure.assign rfl) ?_
      refine G.nil ?_
      refine C.region_seq ?_
      refine G.value rfl rfl rfl (Sure.move rfl) ?_
      refine G.value rfl rfl rfl (Sure.move rfl) ?_
      refine G.call rfl rfl rfl rfl rfl rfl (halfRead_spec M' ad ch i hok hi) (Split.cons (.there .here) (Split.cons (.there .here) (Split.cons (.there .here) (Split.cons (.there .here) Split.nil)))) ?_
      rintro _ M2 _ le2 ⟨rfl, p, cap, rfl, hsc⟩
      refine G.value rfl rfl rfl (Sure.move rfl) ?_
      refine G.value rfl rfl rfl (Sure.extract rfl rfl) ?_
      refine G.value rfl rfl rfl (Sure.extract rfl rfl) ?_
      refine G.value rfl rfl rfl (Sure.assign rfl) ?_
      refine G.value rfl rfl rfl (Sure.assign rfl) ?_
      refine G.nil ?_
      refine C.seq ?_
      refine C.region_seq ?_
      refine G.value rfl rfl rfl (Sure.move rfl) ?_
      refine G.value rfl rfl rfl ((Sure.neq rfl rfl).to_f (by decide)) ?_
      refine G.nil ?_
      refine C.cond_false rfl ?_
      refine C.skip ?_
      refine Fin.th ?_
      refine C.region_seq ?_
      refine G.value rfl rfl rfl (Sure.move rfl) ?_
      refine G.call rfl rfl rfl rfl rfl rfl (jread_spec M2 p cap (ch.half i) hsc (by omega)) (Split.nil) ?_
      rintro _ M3 _ le3 ⟨rfl, f, hfv, hfo, hfb, rfl⟩
      have hfb' : StaB 100000 f.v := hfb.mono (by omega)
      have hfd : foundTo ch (i + 1) = pickF (foundTo ch i) i (readB (ch.half i)) := rfl
      obtain ⟨b1, b2, b3, b4⟩ := readB_n (ch.half i)
      generalize readB (ch.half i) = fn at hfv hfd b1 b2 b3 b4
      refine G.dyn rfl rfl rfl ?_
      refine Dyn.allocAgg ?_
      intro b9
      refine G.dyn0 rfl rfl ?_
      refine Dyn.storeAgg rfl rfl pkx rfl rfl rfl ?_
      refine G.nil ?_
      -- draws its order
      refine C.draw_seq ([(b9, .cells (fnL fn.epoch fn.used f fn.more)), (b13, .cells (jrL ad.cb (foundTo ch i).1 s))]) mixed (by kernel_rfl) incx ?_
      refine GD.val 0 rfl rfl rfl rfl (by kernel_rfl) rfl (Sure.fieldAddr rfl) ?_
      refine GD.val 1 rfl rfl rfl rfl (by kernel_rfl) rfl (Sure.load rfl rdx rfl) ?_
      refine GD.val 2 rfl rfl rfl rfl (by kernel_rfl) rfl (Sure.move rfl) ?_
      refine GD.val 3 rfl rfl rfl rfl (by kernel_rfl) rfl (Sure.nilCheck rfl) ?_
      refine GD.val 4 rfl rfl rfl rfl (by kernel_rfl) rfl (Sure.fieldAddr rfl) ?_
      refine GD.val 5 rfl rfl rfl rfl (by kernel_rfl) rfl (Sure.load rfl rdx rfl) ?_
      refine GD.val 6 rfl rfl rfl rfl (by kernel_rfl) rfl (Sure.gtr rfl rfl) ?_
      refine GD.done (by kernel_rfl) (by kernel_rfl) ?_
      refine C.cond_dec rfl (fun hgt => ?_) (fun hgt => ?_)
      · have hpk : foundTo ch (i + 1) = (⟨i, fn.epoch, fn.used, false⟩, fn.s, fn.more) := by rw [hfd]; unfold pickF; rw [if_pos hgt]
        have hen := g2
        generalize hj : (foundTo ch i).1 = j at hen
        obtain ⟨jh, je, ju, jn⟩ := j
        dsimp only at hen
        subst hen
        -- draws its order
        refine C.draw ([(b9, .cells (fnL fn.epoch fn.used f fn.more))]) mixed (by kernel_rfl) incx ?_
        refine GD.val 0 rfl rfl rfl rfl (by kernel_rfl) rfl (Sure.move rfl) ?_
        refine GD.val 1 rfl rfl rfl rfl (by kernel_rfl) rfl (Sure.move rfl) ?_
        refine GD.val 2 rfl rfl rfl rfl (by kernel_rfl) rfl (Sure.move rfl) ?_
        refine GD.val 3 rfl rfl rfl rfl (by kernel_rfl) rfl (Sure.move rfl) ?_
        refine GD.val 4 rfl rfl rfl rfl (by kernel_rfl) rfl (Sure.move rfl) ?_
        refine GD.val 5 rfl rfl rfl rfl (by kernel_rfl) rfl (Sure.fieldAddr rfl) ?_
        refine GD.val 6 rfl rfl rfl rfl (by kernel_rfl) rfl (Sure.load rfl rdx rfl) ?_
        refine GD.val 7 rfl rfl rfl rfl (by kernel_rfl) rfl (Sure.fieldAddr rfl) ?_
        refine GD.val 8 rfl rfl rfl rfl (by kernel_rfl) rfl (Sure.load rfl rdx rfl) ?_
        refine GD.val 9 rfl rfl rfl rfl (by kernel_rfl) rfl (Sure.fieldAddr rfl) ?_
        refine GD.val 10 rfl rfl rfl rfl (by kernel_rfl) rfl (Sure.loadAgg rfl rdx rfl) ?_
        refine GD.val 11 rfl rfl rfl rfl (by kernel_rfl) rfl (Sure.fieldAddr rfl) ?_
        refine GD.val 12 rfl rfl rfl rfl (by kernel_rfl) rfl (Sure.load rfl rdx rfl) ?_
        refine GD.val 13 rfl rfl rfl rfl (by kernel_rfl) rfl (Sure.nilCheck rfl) ?_
        refine GD.val 14 rfl rfl rfl rfl (by kernel_rfl) rfl (Sure.fieldAddr rfl) ?_
        refine GD.one 15 (by kernel_rfl) rfl rfl (by kernel_rfl) ?_
        refine Next.dyn0P 15 ([(b9, .cells (fnL fn.epoch fn.used f fn.more))]) rfl rfl (by kernel_rfl) (by kernel_rfl) rfl (⟨.inl (by kernel_rfl), ⟨.inr ⟨_, rfl, .inl ⟨rfl, Sure.nilCheck rfl⟩⟩, ⟨.inr ⟨_, rfl, .inl ⟨rfl, Sure.load rfl rdx rfl⟩⟩, ⟨.inr ⟨_, rfl, .inl ⟨rfl, Sure.fieldAddr rfl⟩⟩, ⟨.inr ⟨_, rfl, .inl ⟨rfl, Sure.loadAgg rfl rdx rfl⟩⟩, ⟨.inr ⟨_, rfl, .inl ⟨rfl, Sure.fieldAddr rfl⟩⟩, ⟨.inr ⟨_, rfl, .inl ⟨rfl, Sure.load rfl rdx rfl⟩⟩, ⟨.inr ⟨_, rfl, .inl ⟨rfl, Sure.fieldAddr rfl⟩⟩, ⟨.inr ⟨_, rfl, .inl ⟨rfl, Sure.load rfl rdx rfl⟩⟩, ⟨.inr ⟨_, rfl, .inl ⟨rfl, Sure.fieldAddr rfl⟩⟩, ⟨.inl (by kernel_rfl), ⟨.inr ⟨_, rfl, .inl ⟨rfl, Sure.move rfl⟩⟩, ⟨.inr ⟨_, rfl, .inl ⟨rfl, Sure.move rfl⟩⟩, ⟨.inr ⟨_, rfl, .inl ⟨rfl, Sure.move rfl⟩⟩, ⟨.inl (by kernel_rfl), trivial⟩⟩⟩⟩⟩⟩⟩⟩⟩⟩⟩⟩⟩⟩⟩) ?_
        refine Dyn.store rfl rfl (.there (.there (.there (.there (.there .here))))) rfl rfl ?_
        refine ⟨MLe.refl _, incx, ?_⟩
        refine GD.val 16 rfl rfl rfl rfl (by kernel_rfl) rfl (Sure.nilCheck rfl) ?_
        refine GD.val 17 rfl rfl rfl rfl (by kernel_rfl) rfl (Sure.fieldAddr rfl) ?_
        refine GD.one 18 (by kernel_rfl) rfl rfl (by kernel_rfl) ?_
        refine Next.dyn0P 18 ([(b9, .cells (fnL fn.epoch fn.used f fn.more))]) rfl rfl (by kernel_rfl) (by kernel_rfl) rfl (⟨.inl (by kernel_rfl), ⟨.inr ⟨_, rfl, .inl ⟨rfl, Sure.nilCheck rfl⟩⟩, ⟨.inl (by kernel_rfl), ⟨.inl (by kernel_rfl), ⟨.inr ⟨_, rfl, .inl ⟨rfl, Sure.load rfl rdx rfl⟩⟩, ⟨.inr ⟨_, rfl, .inl ⟨rfl, Sure.fieldAddr rfl⟩⟩, ⟨.inr ⟨_, rfl, .inl ⟨rfl, Sure.loadAgg rfl rdx rfl⟩⟩, ⟨.inr ⟨_, rfl, .inl ⟨rfl, Sure.fieldAddr rfl⟩⟩, ⟨.inr ⟨_, rfl, .inl ⟨rfl, Sure.load rfl rdx rfl⟩⟩, ⟨.inr ⟨_, rfl, .inl ⟨rfl, Sure.fieldAddr rfl⟩⟩, ⟨.inl (by kernel_rfl), ⟨.inl (by kernel_rfl), ⟨.inl (by kernel_rfl), ⟨.inr ⟨_, rfl, .inl ⟨rfl, Sure.move rfl⟩⟩, ⟨.inr ⟨_, rfl, .inl ⟨rfl, Sure.move rfl⟩⟩, ⟨.inl (by kernel_rfl), ⟨.inl (by kernel_rfl), trivial⟩⟩⟩⟩⟩⟩⟩⟩⟩⟩⟩⟩⟩⟩⟩⟩⟩) ?_
        refine Dyn.store rfl rfl .here rfl rfl ?_
        refine ⟨MLe.refl _, incx, ?_⟩
        refine GD.val 19 rfl rfl rfl rfl (by kernel_rfl) rfl (Sure.nilCheck rfl) ?_
        refine GD.val 20 rfl rfl rfl rfl (by kernel_rfl) rfl (Sure.fieldAddr rfl) ?_
        refine GD.one 21 (by kernel_rfl) rfl rfl (by kernel_rfl) ?_
        refine Next.dyn0P 21 ([(b9, .cells (fnL fn.epoch fn.used f fn.more))]) rfl rfl (by kernel_rfl) (by kernel_rfl) rfl (⟨.inl (by kernel_rfl), ⟨.inr ⟨_, rfl, .inl ⟨rfl, Sure.nilCheck rfl⟩⟩, ⟨.inl (by kernel_rfl), ⟨.inl (by kernel_rfl), ⟨.inl (by kernel_rfl), ⟨.inl (by kernel_rfl), ⟨.inr ⟨_, rfl, .inl ⟨rfl, Sure.load rfl rdx rfl⟩⟩, ⟨.inr ⟨_, rfl, .inl ⟨rfl, Sure.fieldAddr rfl⟩⟩, ⟨.inr ⟨_, rfl, .inl ⟨rfl, Sure.loadAgg rfl rdx rfl⟩⟩, ⟨.inr ⟨_, rfl, .inl ⟨rfl, Sure.fieldAddr rfl⟩⟩, ⟨.inl (by kernel_rfl), ⟨.inl (by kernel_rfl), ⟨.inl (by kernel_rfl), ⟨.inl (by kernel_rfl), ⟨.inl (by kernel_rfl), ⟨.inr ⟨_, rfl, .inl ⟨rfl, Sure.move rfl⟩⟩, ⟨.inl (by kernel_rfl), ⟨.inl (by kernel_rfl), ⟨.inl (by kernel_rfl), trivial⟩⟩⟩⟩⟩⟩⟩⟩⟩⟩⟩⟩⟩⟩⟩⟩⟩⟩⟩) ?_
        refine Dyn.store rfl rfl .here rfl rfl ?_
        refine ⟨MLe.refl _, incx, ?_⟩
        refine GD.val 22 rfl rfl rfl rfl (by kernel_rfl) rfl (Sure.nilCheck rfl) ?_
        refine GD.val 23 rfl rfl rfl rfl (by kernel_rfl) rfl (Sure.fieldAddr rfl) ?_
        refine GD.one 24 (by kernel_rfl) rfl rfl (by kernel_rfl) ?_
        refine Next.dyn0P 24 ([(b9, .cells (fnL fn.epoch fn.used f fn.more))]) rfl rfl (by kernel_rfl) (by kernel_rfl) rfl (⟨.inl (by kernel_rfl), ⟨.inr ⟨_, rfl, .inl ⟨rfl, Sure.nilCheck rfl⟩⟩, ⟨.inl (by kernel_rfl), ⟨.inl (by kernel_rfl), ⟨.inl (by kernel_rfl), ⟨.inl (by kernel_rfl), ⟨.inl (by kernel_rfl), ⟨.inl (by kernel_rfl), ⟨.inr ⟨_, rfl, .inl ⟨rfl, Sure.load rfl rdx rfl⟩⟩, ⟨.inr ⟨_, rfl, .inl ⟨rfl, Sure.fieldAddr rfl⟩⟩, ⟨.inl (by kernel_rfl), ⟨.inl (by kernel_rfl), ⟨.inl (by kernel_rfl), ⟨.inl (by kernel_rfl), ⟨.inl (by kernel_rfl), ⟨.inl (by kernel_rfl), ⟨.inl (by kernel_rfl), ⟨.inl (by kernel_rfl), ⟨.inl (by kernel_rfl), ⟨.inl (by kernel_rfl), ⟨.inl (by kernel_rfl), trivial⟩⟩⟩⟩⟩⟩⟩⟩⟩⟩⟩⟩⟩⟩⟩⟩⟩⟩⟩⟩⟩) ?_
        refine Dyn.storeAgg rfl rfl .here rfl rfl rfl ?_
        refine ⟨MLe.refl _, incx, ?_⟩
        refine GD.one 25 (by kernel_rfl) rfl rfl (by kernel_rfl) ?_
        refine Next.dyn 25 rfl rfl rfl (by kernel_rfl) (by kernel_rfl) rfl (Dyn.assign rfl ?_)
        refine ⟨MLe.refl _, incx, ?_⟩
        refine GD.done (by kernel_rfl) (by kernel_rfl) ?_
        refine Fin.blk ?_
        refine Fin.th ?_
        refine C.region ?_
        refine G.value rfl rfl rfl (Sure.add rfl rfl (inK64 (by omega))) ?_
        refine G.value rfl rfl rfl (Sure.move rfl) ?_
        refine G.nil ?_
        refine Fin.th ?_
        refine ⟨k - 1, _, _, by omega, ⟨i + 1, f, hle.trans (le2.trans le3), by omega, by rw [hpk]; exact hfv, hfo, hfb', rfl, rfl⟩, ⟨rfl, rfl, by rw [hpk]; rfl, rfl, trivial⟩, [(b9, .cells (fnL fn.epoch fn.used f fn.more))], ?_⟩
        rw [hpk]
        exact Split.cons .here (Split.one (.there .all))
      · have hpk : foundTo ch (i + 1) = foundTo ch i := by rw [hfd]; unfold pickF; rw [if_neg hgt]
        refine C.skip ?_
        refine Fin.blk ?_
        refine Fin.th ?_
        refine C.region ?_
        refine G.value rfl rfl rfl (Sure.add rfl rfl (inK64 (by omega))) ?_
        refine G.value rfl rfl rfl (Sure.move rfl) ?_
        refine G.nil ?_
        refine Fin.th ?_
        exact ⟨k - 1, _, _, by omega, ⟨i + 1, s, hle.trans (le2.trans le3), by omega, by rw [hpk]; exact hsv, hso.mono (le2.trans le3), hsb, rfl, rfl⟩, ⟨rfl, rfl, by rw [hpk]; rfl, rfl, trivial⟩, [(b9, .cells (fnL fn.epoch fn.used f fn.more))], by rw [hpk]; exact Split.cons (.there (.there (.there (.there (.there .here))))) (Split.one (.there .all))⟩
    · have hi : i = 2 := by omega
      subst hi
      have hop : openC ch = if (foundTo ch 2).1.epoch = 0 then ((ch, Option.none), 23)
        else if (foundTo ch 2).2.2 = true then
          if (anewC ch (foundTo ch 2).1 (foundTo ch 2).2.1).2 ≠ 0 then (((anewC ch (foundTo ch 2).1 (foundTo ch 2).2.1).1, Option.none), (anewC ch (foundTo ch 2).1 (foundTo ch 2).2.1).2)
          else (((anewC ch (foundTo ch 2).1 (foundTo ch 2).2.1).1, some (anewJ ch (foundTo ch 2).1 (foundTo ch 2).2.1, (foundTo ch 2).2.1)), 0)
        else ((ch, some ((foundTo ch 2).1, (foundTo ch 2).2.1)), 0) := rfl
      obtain ⟨⟨j, s2, more⟩, hf⟩ : ∃ r, foundTo ch 2 = r := ⟨_, rfl⟩
      rw [hf] at hop hsv g1 g2 g3 g4 ⊢
      dsimp only at hop hsv g1 g2 g3 g4 ⊢
      rw [← hsv] at hop g3
      have hwl := whole_len s.v
      have hju := g1.used
      refine C.exit ?_
      refine Fin.th_exit ?_
      refine Fin.th_exit ?_
      refine Fin.blk_eq ?_
      refine Fin.th ?_
      refine C.seq ?_
      refine C.region_seq ?_
      refine G.value rfl rfl rfl (Sure.move rfl) ?_
      refine G.value rfl rfl rfl (Sure.nilCheck rfl) ?_
      refine G.value rfl rfl rfl (Sure.fieldAddr rfl) ?_
      refine G.value rfl rfl rfl (Sure.load rfl rdx rfl) ?_
      refine G.value rfl rfl rfl (Sure.eql rfl rfl) ?_
      refine G.nil ?_
      refine C.cond_dec rfl (fun h0 => ?_) (fun h0 => ?_)
      · rw [if_pos h0] at hop
        rw [hop]
        refine C.region_seq ?_
        refine G.value rfl rfl rfl (Sure.assign rfl) ?_
        refine G.value rfl rfl rfl (Sure.assign rfl) ?_
        refine G.nil ?_
        refine C.ret ?_
        refine Fin.th_ret ?_
        exact Fin.fn (Res.tmp2 rfl rfl rfl) (Split.cons (.there .here) (Split.cons (.there .here) (Split.cons (.there .here) (Split.cons (.there .here) Split.nil)))) (.inl ⟨rfl, (by show (23 : Int) ≠ 0; decide), rfl, rfl⟩)
      · rw [if_neg h0] at hop
        refine C.skip ?_
        refine Fin.th ?_
        refine C.seq ?_
        refine C.region_seq ?_
        refine G.value rfl rfl rfl (Sure.move rfl) ?_
        refine G.nil ?_
        refine C.cond rfl (fun hm => ?_) (fun hm => ?_)
        · rw [if_pos hm] at hop
          refine C.region_seq ?_
          refine G.value rfl rfl rfl (Sure.move rfl) ?_
          refine G.value rfl rfl rfl (Sure.move rfl) ?_
          refine G.value rfl rfl rfl (Sure.nilCheck rfl) ?_
          refine G.value rfl rfl rfl (Sure.fieldAddr rfl) ?_
          refine G.value rfl rfl rfl (Sure.loadAgg rfl rdx rfl) ?_
          refine G.call rfl rfl rfl rfl rfl rfl (anew_spec M' b13 ad ch j s s hok g1 hso (hsb.ok (by omega)) (by omega)) (Split.one .all) ?_
          rintro _ M2 _ le2 ⟨rfl, rfl⟩
          have hS : anewS ch j s.v s s = s := by unfold anewS; split <;> rfl
          rw [hS]
          refine G.value rfl rfl rfl (Sure.assign rfl) ?_
          refine G.nil ?_
          refine C.region_seq ?_
          refine G.value rfl rfl rfl (Sure.move rfl) ?_
          refine G.value rfl rfl rfl (Sure.neq rfl rfl) ?_
          refine G.nil ?_
          refine C.cond_dec rfl (fun hne => ?_) (fun hne => ?_)
          · rw [if_pos hne] at hop
            rw [hop]
            refine C.region_seq ?_
            refine G.value rfl rfl rfl (Sure.move rfl) ?_
            refine G.value rfl rfl rfl (Sure.assign rfl) ?_
            refine G.value rfl rfl rfl (Sure.assign rfl) ?_
            refine G.nil ?_
            refine C.ret ?_
            refine Fin.th_ret ?_
            exact Fin.fn (Res.tmp2 rfl rfl rfl) (Split.cons (.there .here) (Split.cons (.there .here) (Split.cons (.there .here) (Split.cons (.there .here) Split.nil)))) (.inl ⟨rfl, hne, rfl, rfl⟩)
          · rw [if_neg hne] at hop
            rw [hop]
            refine C.skip ?_
            refine Fin.th ?_
            refine C.region_seq ?_
            refine G.value rfl rfl rfl (Sure.move rfl) ?_
            refine G.value rfl rfl rfl (Sure.assign rfl) ?_
            refine G.value rfl rfl rfl (Sure.assign rfl) ?_
            refine G.nil ?_
            refine C.ret ?_
            exact Fin.fn (Res.tmp2 rfl rfl rfl) (Split.one .here) (.inr ⟨b13, _, s, rfl, rfl, rfl, hso.mono le2, hsb, rfl⟩)
        · rw [if_neg (by rw [hm]; decide)] at hop
          rw [hop]
          refine C.skip ?_
          refine Fin.th ?_
          refine C.region_seq ?_
          refine G.value rfl rfl rfl (Sure.move rfl) ?_
          refine G.value rfl rfl rfl (Sure.assign rfl) ?_
          refine G.value rfl rfl rfl (Sure.assign rfl) ?_
          refine G.nil ?_
          refine C.ret ?_
          exact Fin.fn (Res.tmp2 rfl rfl rfl) (Split.one .all) (.inr ⟨b13, _, s, rfl, rfl, rfl, hso, hsb, rfl⟩)
/-! ### Small ones -/
theorem epoch_spec (M : Mem) (jb cb : Nat) (j : Jr) (s : StaD) : Spec Tryz.prog 26 [ptr jb] M [(jb, .cells (jrL cb j s))] (fun v _ H => v = intV j.epoch ∧ H = [(jb, .cells (jrL cb j s))]) := by
  refine Spec.of_code 9 Tryz.func26 rfl callable26 rfl rfl fun w => ?_
  refine C.region_seq ?_
  refine G.value rfl rfl rfl (Sure.assign rfl) ?_
  refine G.nil ?_
  refine C.seq ?_
  refine C.region_seq ?_
  refine G.value rfl rfl rfl (Sure.move rfl) ?_
  refine G.value rfl rfl rfl (ptr_eq_f rfl rfl) ?_
  refine G.nil ?_
  refine C.cond_false rfl ?_
  refine C.skip ?_
  refine Fin.th ?_
  refine C.region_seq ?_
  refine G.value rfl rfl rfl (Sure.move rfl) ?_
  refine G.value rfl rfl rfl (Sure.nilCheck rfl) ?_
  refine G.value rfl rfl rfl (Sure.fieldAddr rfl) ?_
  refine G.value rfl rfl rfl (Sure.load rfl rdx rfl) ?_
  refine G.value rfl rfl rfl (Sure.assign rfl) ?_
  refine G.nil ?_
  refine C.ret ?_
  exact Fin.fn (Res.tmp rfl rfl) (Split.one .all) ⟨rfl, rfl⟩
theorem half_spec (M : Mem) (jb cb : Nat) (j : Jr) (s : StaD) : Spec Tryz.prog 27 [ptr jb] M [(jb, .cells (jrL cb j s))] (fun v _ H => v = intV j.half ∧ H = [(jb, .cells (jrL cb j s))]) := by
  refine Spec.of_code 9 Tryz.func27 rfl callable27 rfl rfl fun w => ?_
  refine C.region_seq ?_
  refine G.value rfl rfl rfl (Sure.assign rfl) ?_
  refine G.nil ?_
  refine C.seq ?_
  refine C.region_seq ?_
  refine G.value rfl rfl rfl (Sure.move rfl) ?_
  refine G.value rfl rfl rfl (ptr_eq_f rfl rfl) ?_
  refine G.nil ?_
  refine C.cond_false rfl ?_
  refine C.skip ?_
  refine Fin.th ?_
  refine C.region_seq ?_
  refine G.value rfl rfl rfl (Sure.move rfl) ?_
  refine G.value rfl rfl rfl (Sure.nilCheck rfl) ?_
  refine G.value rfl rfl rfl (Sure.fieldAddr rfl) ?_
  refine G.value rfl rfl rfl (Sure.load rfl rdx rfl) ?_
  refine G.value rfl rfl rfl (Sure.assign rfl) ?_
  refine G.nil ?_
  refine C.ret ?_
  exact Fin.fn (Res.tmp rfl rfl) (Split.one .all) ⟨rfl, rfl⟩
end Go.Proofs.YtaeeahcokiebdaaGreat

/-
  Plain laws: numbers and records that were written are read again.
-/
namespace Go.Proofs.YtaeeahcokiebdaaGreat

theorem num_le (v : Nat) : ∀ n, num (le v n) = v % 256 ^ n
  | 0 => by simp [le, num]; omega
  | n + 1 => by
    rw [le_succ, num_snoc, num_le v n, le_len, Nat.mod_pow_succ]
    simp
theorem num_le_lt {v n : Nat} (h : v < 256 ^ n) : num (le v n) = v := by rw [num_le, Nat.mod_eq_of_lt h]
/-- A record as it stands on a chip. -/
def recB (x : List UInt8) : List UInt8 := bodyB x ++ [0]
theorem recB_len (x : List UInt8) : (recB x).length = x.length + 7 := by simp [recB, bodyB_len]
theorem nextB_rec {x : List UInt8} (hx : x.length ≤ 65000) (rest : List UInt8) : nextB (recB x ++ rest) = some x := by
  have hs := sumOf_lt (le x.length 2 ++ x)
  have e : recB x ++ rest = le x.length 2 ++ (le (sumOf (le x.length 2 ++ x)) 4 ++ (x ++ (0 :: rest))) := by simp [recB, bodyB]
  have h1 : (recB x ++ rest).take 2 = le x.length 2 := by rw [e, List.take_append_of_le_length (by simp), List.take_of_length_le (by simp)]
  have h2 : num (le x.length 2) = x.length := num_le_lt (by show x.length < 65536; omega)
  have h3 : (recB x ++ rest).drop 2 = le (sumOf (le x.length 2 ++ x)) 4 ++ (x ++ (0 :: rest)) := by rw [e]; exact List.drop_left' (by simp)
  have h4 : ((recB x ++ rest).drop 2).take 4 = le (sumOf (le x.length 2 ++ x)) 4 := by rw [h3, List.take_append_of_le_length (by simp), List.take_of_length_le (by simp)]
  have h5 : (recB x ++ rest).drop 6 = x ++ (0 :: rest) := by
    rw [show 6 = 2 + 4 from rfl, ← List.drop_drop, h3]
    exact List.drop_left' (by simp)
  have h6 : ((recB x ++ rest).drop 6).take x.length = x := by rw [h5, List.take_append_of_le_length (Nat.le_refl _), List.take_of_length_le (Nat.le_refl _)]
  have h7 : (recB x ++ rest)[x.length + 6]? = some 0 := by
    have := congrArg (·[x.length]?) h5
    simp only [List.getElem?_drop] at this
    rw [Nat.add_comm, this, List.getElem?_append_right (Nat.le_refl _)]
    simp
  unfold nextB
  rw [h1, h2, h4, h6, h7, num_le_lt (n := 4) hs, if_pos ⟨by rw [List.length_append, recB_len]; omega, hx, by rw [List.length_append, recB_len]; omega, rfl, rfl⟩]
theorem nextB_ff (m : Nat) : nextB (List.replicate m 255) = Option.none := by
  unfold nextB
  rw [if_neg]
  rintro ⟨h1, h2, _⟩
  have : (List.replicate m (255 : UInt8)).take 2 = [255, 255] := by
    rw [List.take_replicate]
    simp at h1
    rw [Nat.min_eq_left h1]
    rfl
  rw [this] at h2
  revert h2
  decide
theorem recs_written : ∀ (rs : List (List UInt8)) (m : Nat), (∀ x ∈ rs, x.length ≤ 65000) → recs ((rs.map recB).flatten ++ List.replicate m 255) = rs
  | [], m, _ => by simpa using recs_none (nextB_ff m)
  | x :: rs, m, h => by
    have e : ((x :: rs).map recB).flatten ++ List.replicate m 255 = recB x ++ ((rs.map recB).flatten ++ List.replicate m 255) := by simp
    rw [e, recs_some (nextB_rec (h x (by simp)) _)]
    congr 1
    rw [List.drop_left' (recB_len x)]
    exact recs_written rs m fun y hy => h y (by simp [hy])
theorem recB_flat : ∀ rs : List (List UInt8), ((rs.map recB).flatten).length = recsN rs
  | [] => rfl
  | x :: rs => by
    have := recB_flat rs
    rw [List.map_cons, List.flatten_cons, List.length_append, recB_len, this, recsN_cons]
theorem clean_written (rs : List (List UInt8)) (m : Nat) (h : ∀ x ∈ rs, x.length ≤ 65000) : cleanB ((rs.map recB).flatten ++ List.replicate m 255) = true := by
  unfold cleanB
  rw [recs_written rs m h, List.drop_left' (recB_flat rs), List.length_append, recB_flat]
  simp
/-- Records that stand on a half, and nothing behind them. -/
theorem readB_written {rs : List (List UInt8)} {m : Nat} {x : List UInt8} {rest : List (List UInt8)} {ep : Int} {s : Sta} (h : ∀ x ∈ rs, x.length ≤ 65000) (hrs : rs = x :: rest) (h8 : 8 ≤ x.length)
    (hep : IntKind.i64.wrap (num (x.take 8)) = ep) (h0 : 0 < ep ∧ ep ≤ 2147483647) (hr : readL 0 rs (sta0, 0) = some (s, recsN rs)) :
    readB ((rs.map recB).flatten ++ List.replicate m 255) = ⟨ep, recsN rs, s, false⟩ := by
  unfold readB
  rw [recs_written rs m h, clean_written rs m h]
  subst hrs
  simp only
  rw [hep, if_neg (by omega), hr]
  simp
end Go.Proofs.YtaeeahcokiebdaaGreat

/-
  Plain laws: deeds that were written are read again.
-/
namespace Go.Proofs.YtaeeahcokiebdaaGreat

def InR (v : Int) : Prop := -9223372036854775808 ≤ v ∧ v ≤ 9223372036854775807
structure InoR (x : Ino) : Prop where
  no : InR x.no
  kind : InR x.kind
  links : InR x.links
  size : InR x.size
  tgt : x.tgt.size < 4294967296
  ents : x.ents.length < 4294967296
  ent : ∀ e ∈ x.ents, e.name.size < 4294967296 ∧ InR e.no
  runs : x.runs.length < 4294967296
  run : ∀ r ∈ x.runs, InR r.fr ∧ InR r.ad ∧ InR r.cnt
def Canon (d : Deed) : Prop := ((d.kind = 1 ∨ d.kind = 3 ∨ d.kind = 4) ∧ InR d.no ∧ d.ino = ino0) ∨ (d.kind = 2 ∧ d.no = 0 ∧ InoR d.ino)
section
variable {bs pre post : List UInt8} {a : Nat}
theorem rNum_at {v n : Nat} (hb : bs = pre ++ (le v n ++ post)) (ha : a = pre.length) (hv : v < 256 ^ n) : rNum bs (some a) n = (v, some (a + n)) := by
  subst hb ha
  unfold rNum
  simp only
  rw [if_pos (by simp), List.drop_left' rfl, List.take_left' (by simp), num_le_lt hv]
theorem rInt_at {v : Int} (hb : bs = pre ++ (intB v ++ post)) (ha : a = pre.length) (hv : InR v) : rInt bs (some a) = (v, some (a + 8)) := by
  have hw := u64_wrap_bd v
  have h := rNum_at (v := (IntKind.u64.wrap v).toNat) (n := 8) hb ha (by show (IntKind.u64.wrap v).toNat < 18446744073709551616; omega)
  unfold rInt
  rw [h]
  obtain ⟨h1, h2⟩ := hv
  congr 1
  rw [show (((IntKind.u64.wrap v).toNat : Nat) : Int) = IntKind.u64.wrap v from by omega]
  simp only [IntKind.wrap, IntKind.bits, IntKind.signed]
  simp
  omega
theorem rText_at {t : ByteArray} (hb : bs = pre ++ (txtB t ++ post)) (ha : a = pre.length) (ht : t.size < 4294967296) : rText bs (some a) = (t, some (a + (txtB t).length)) := by
  have hsz : t.data.toList.length = t.size := by rw [Array.length_toList]; rfl
  have hb' : bs = pre ++ (le t.size 4 ++ (t.data.toList ++ post)) := by rw [hb]; simp [txtB]
  have h := rNum_at (v := t.size) (n := 4) hb' ha ht
  have hn : num ((bs.drop a).take 4) = t.size := by
    unfold rNum at h
    simp only at h
    split at h
    · injection h
    · injection h with _ h; cases h
  have hl : bs.length = pre.length + (4 + (t.size + post.length)) := by rw [hb']; simp
  have htx : txtAt bs a = some t.data.toList := by
    unfold txtAt
    rw [hn, if_pos ⟨by omega, by omega⟩]
    congr 1
    rw [← List.drop_drop, hb', ha, List.drop_left' rfl, List.drop_left' (by simp), List.take_left' hsz]
  unfold rText
  simp only
  rw [htx]
  simp only [Array.toArray_toList]
  rw [txtB_len, hsz]
  congr 2
  omega
end
theorem intsB_snoc (l : List Int) (v : Int) : intsB (l ++ [v]) = intsB l ++ intB v := by simp [intsB, intB]
theorem rInts_at {bs pre post : List UInt8} {a : Nat} : ∀ (n : Nat) (l : List Int), l.length = n → bs = pre ++ (intsB l ++ post) → a = pre.length → (∀ v ∈ l, InR v) → rInts bs n (some a) = (l, some (a + 8 * n))
  | 0, l, hl, _, _, _ => by have : l = [] := List.eq_nil_of_length_eq_zero hl; subst this; rfl
  | n + 1, l, hl, hb, ha, hv => by
    obtain ⟨l', v, rfl⟩ : ∃ l' v, l = l' ++ [v] := by
      rcases List.eq_nil_or_concat l with h | ⟨l', v, h⟩
      · rw [h] at hl; simp at hl
      · exact ⟨l', v, by rw [h, List.concat_eq_append]⟩
    have hl' : l'.length = n := by simpa using hl
    rw [intsB_snoc] at hb
    have h1 := rInts_at (bs := bs) (pre := pre) n l' hl' (post := intB v ++ post) (by rw [hb]; simp) ha (fun u hu => hv u (by simp [hu]))
    have h2 := rInt_at (bs := bs) (a := a + 8 * n) (pre := pre ++ intsB l') (v := v) (post := post) (by rw [hb]; simp) (by rw [List.length_append, intsB_len, hl']; omega) (hv v (by simp))
    simp only [rInts, h1, h2]
    congr 2
theorem rEnts_at {bs post : List UInt8} : ∀ (l : List Entry) (pre : List UInt8) (a : Nat), bs = pre ++ ((l.map entB).flatten ++ post) → a = pre.length → (∀ e ∈ l, e.name.size < 4294967296 ∧ InR e.no) →
    rEnts bs l.length (some a) = (l, some (a + (l.map entB).flatten.length))
  | [], pre, a, _, _, _ => by simp [rEnts]
  | e :: l, pre, a, hb, ha, hv => by
    obtain ⟨hv1, hv2⟩ := hv e (by simp)
    have h1 := rText_at (bs := bs) (pre := pre) (post := intB e.no ++ ((l.map entB).flatten ++ post)) (a := a) (t := e.name) (by rw [hb]; simp [entB]) ha hv1
    have h2 := rInt_at (bs := bs) (pre := pre ++ txtB e.name) (post := (l.map entB).flatten ++ post) (a := a + (txtB e.name).length) (v := e.no) (by rw [hb]; simp [entB]) (by simp [ha]) hv2
    have h3 := rEnts_at (bs := bs) (post := post) l (pre ++ entB e) (a + (txtB e.name).length + 8) (by rw [hb]; simp) (by simp [ha]; omega) (fun x hx => hv x (by simp [hx]))
    simp only [List.length_cons, rEnts, h1, h2, h3]
    congr 2
    simp
    omega
theorem rRuns_at {bs post : List UInt8} : ∀ (l : List Run) (pre : List UInt8) (a : Nat), bs = pre ++ ((l.map runB).flatten ++ post) → a = pre.length → (∀ r ∈ l, InR r.fr ∧ InR r.ad ∧ InR r.cnt) →
    rRuns bs l.length (some a) = (l, some (a + (l.map runB).flatten.length))
  | [], pre, a, _, _, _ => by simp [rRuns]
  | r :: l, pre, a, hb, ha, hv => by
    obtain ⟨hv1, hv2, hv3⟩ := hv r (by simp)
    have h1 := rInts_at 3 [r.fr, r.ad, r.cnt] rfl (bs := bs) (pre := pre) (post := (l.map runB).flatten ++ post) (a := a) (by rw [hb]; simp [runB]) ha (by intro v hv; simp at hv; rcases hv with rfl | rfl | rfl <;> assumption)
    have h3 := rRuns_at (bs := bs) (post := post) l (pre ++ runB r) (a + 8 * 3) (by rw [hb]; simp) (by simp [ha]) (fun x hx => hv x (by simp [hx]))
    simp only [List.length_cons, rRuns, h1, h3]
    congr 2
    · rw [List.map_cons, List.flatten_cons, List.length_append, runB_len]
      omega
theorem rIno_at {bs pre post : List UInt8} {a : Nat} {x : Ino} (hb : bs = pre ++ (inoB x ++ post)) (ha : a = pre.length) (hx : InoR x) : rIno bs (some a) = (x, some (a + (inoB x).length)) := by
  have hb' : bs = pre ++ (intsB [x.no, x.kind, x.links, x.size] ++ (txtB x.tgt ++ (le x.ents.length 4 ++ ((x.ents.map entB).flatten ++ (le x.runs.length 4 ++ ((x.runs.map runB).flatten ++ post)))))) := by rw [hb]; simp [inoB]
  have h1 := rInts_at 4 [x.no, x.kind, x.links, x.size] rfl hb' ha (by intro v hv; simp at hv; rcases hv with rfl | rfl | rfl | rfl; exact hx.no; exact hx.kind; exact hx.links; exact hx.size)
  have h2 := rText_at (bs := bs) (pre := pre ++ intsB [x.no, x.kind, x.links, x.size]) (post := le x.ents.length 4 ++ ((x.ents.map entB).flatten ++ (le x.runs.length 4 ++ ((x.runs.map runB).flatten ++ post)))) (a := a + 8 * 4) (t := x.tgt) (by rw [hb']; simp) (by simp [ha, intsB_len]) hx.tgt
  have h3 := rNum_at (bs := bs) (pre := pre ++ intsB [x.no, x.kind, x.links, x.size] ++ txtB x.tgt) (post := (x.ents.map entB).flatten ++ (le x.runs.length 4 ++ ((x.runs.map runB).flatten ++ post))) (a := a + 8 * 4 + (txtB x.tgt).length) (v := x.ents.length) (n := 4) (by rw [hb']; simp) (by simp only [List.length_append, intsB_len, List.length_cons, List.length_nil, ha]) hx.ents
  have h4 := rEnts_at (bs := bs) (post := le x.runs.length 4 ++ ((x.runs.map runB).flatten ++ post)) x.ents (pre ++ intsB [x.no, x.kind, x.links, x.size] ++ txtB x.tgt ++ le x.ents.length 4) (a + 8 * 4 + (txtB x.tgt).length + 4) (by rw [hb']; simp) (by simp only [List.length_append, intsB_len, le_len, List.length_cons, List.length_nil]; omega) hx.ent
  have h5 := rNum_at (bs := bs) (pre := pre ++ intsB [x.no, x.kind, x.links, x.size] ++ txtB x.tgt ++ le x.ents.length 4 ++ (x.ents.map entB).flatten) (post := (x.runs.map runB).flatten ++ post) (a := a + 8 * 4 + (txtB x.tgt).length + 4 + (x.ents.map entB).flatten.length) (v := x.runs.length) (n := 4) (by rw [hb']; simp) (by simp only [List.length_append, intsB_len, le_len, List.length_cons, List.length_nil]; omega) hx.runs
  have h6 := rRuns_at (bs := bs) (post := post) x.runs (pre ++ intsB [x.no, x.kind, x.links, x.size] ++ txtB x.tgt ++ le x.ents.length 4 ++ (x.ents.map entB).flatten ++ le x.runs.length 4) (a + 8 * 4 + (txtB x.tgt).length + 4 + (x.ents.map entB).flatten.length + 4) (by rw [hb']; simp) (by simp only [List.length_append, intsB_len, le_len, List.length_cons, List.length_nil]; omega) hx.run
  simp only [rIno, h1, h2, h3, h4, h5, h6]
  have hl : (inoB x).length = 32 + (txtB x.tgt).length + 4 + (x.ents.map entB).flatten.length + 4 + (x.runs.map runB).flatten.length := by
    unfold inoB
    simp only [List.length_append, intsB_len, le_len, List.length_cons, List.length_nil]
  rw [hl]
  congr 2
  omega
theorem kind_byte {k : Int} (h : 1 ≤ k ∧ k ≤ 4) : (IntKind.u64.wrap k).toNat = k.toNat ∧ k.toNat < 256 ^ 1 ∧ ((k.toNat : Nat) : Int) = k := by
  have : IntKind.u64.wrap k = k := inKu64 (by omega)
  rw [this]
  omega
theorem rDeed_at {bs pre post : List UInt8} {a : Nat} {d : Deed} (hb : bs = pre ++ (deedB d ++ post)) (ha : a = pre.length) (hd : Canon d) : rDeed bs (some a) = (d, some (a + (deedB d).length)) := by
  have hlen := deedB_len d
  rcases hd with ⟨hk, hn, hi⟩ | ⟨hk, hn, hi⟩
  · obtain ⟨k1, k2, k3⟩ := kind_byte (k := d.kind) (by omega)
    have hb' : bs = pre ++ (le d.kind.toNat 1 ++ (intB d.no ++ post)) := by rw [hb]; unfold deedB; rw [k1, if_pos hk]; simp
    have h1 := rNum_at hb' ha k2
    have h2 := rInt_at (bs := bs) (pre := pre ++ le d.kind.toNat 1) (post := post) (a := a + 1) (v := d.no) (by rw [hb']; simp) (by simp [ha]) hn
    unfold rDeed
    simp only [h1, k3]
    rw [if_pos hk, h2, hlen, if_pos hk]
    obtain ⟨dk, dn, di⟩ := d
    dsimp only at hi ⊢
    rw [hi]
  · have hk' : ¬ (d.kind = 1 ∨ d.kind = 3 ∨ d.kind = 4) := by omega
    obtain ⟨k1, k2, k3⟩ := kind_byte (k := d.kind) (by omega)
    have hb' : bs = pre ++ (le d.kind.toNat 1 ++ (inoB d.ino ++ post)) := by rw [hb]; unfold deedB; rw [k1, if_neg hk', if_pos hk]; simp
    have h1 := rNum_at hb' ha k2
    have h2 := rIno_at (bs := bs) (pre := pre ++ le d.kind.toNat 1) (post := post) (a := a + 1) (x := d.ino) (by rw [hb']; simp) (by simp [ha]) hi
    unfold rDeed
    simp only [h1, k3]
    rw [if_neg hk', if_pos hk, h2, hlen, if_neg hk', if_pos hk]
    obtain ⟨dk, dn, di⟩ := d
    dsimp only at hn ⊢
    rw [hn]
    congr 2
    omega
theorem parseAt_written {bs : List UInt8} : ∀ (l : List Deed) (pre : List UInt8) (a : Nat), bs = pre ++ deedsB l → a = pre.length → (∀ d ∈ l, Canon d) → parseAt bs a = some l
  | [], pre, a, hb, ha, _ => parseAt_end (by rw [hb]; simp [deedsB, ha])
  | d :: l, pre, a, hb, ha, hc => by
    have hbd : bs = pre ++ (deedB d ++ deedsB l) := by rw [hb]; simp [deedsB]
    have h1 := rDeed_at hbd ha (hc d (by simp))
    have hl := deedB_len d
    rw [parseAt_some (b := a + (deedB d).length) (by rw [hbd]; simp; omega) (by rw [h1]), h1, parseAt_written l (pre ++ deedB d) (a + (deedB d).length) (by rw [hbd]; simp) (by simp [ha]) (fun x hx => hc x (by simp [hx]))]
    rfl
/-- Deeds that were written are read again. -/
theorem parse_written {l : List Deed} (h : ∀ d ∈ l, Canon d) : parse (deedsB l) = some l := parseAt_written l [] 0 rfl rfl h
end Go.Proofs.YtaeeahcokiebdaaGreat

/-
  The walks of numbers, texts and deeds as bytes, as the references have them.
  Conditions: what is put together has at most a few hundred million bytes.
-/
namespace Go.Proofs.YtaeeahcokiebdaaGreat
set_option maxRecDepth 20000

theorem refPut_spec (M : Mem) (p : Option Addr) (cap : Nat) (bs : List UInt8) (v n : Nat) (hs : SB M p bs) (hb : bs.length ≤ 900000000) (hv : v < 18446744073709551616) (hn : n ≤ 8) :
    Spec Tryz.prog 39 [.slice p bs.length cap, .int .u64 v, .int .i64 n] M [] (fun r _ H => OwnB (bs ++ le v n) r H) := by
  refine Spec.of_code 28 Tryz.func39 rfl callable39 rfl rfl fun w => ?_
  refine C.region_seq ?_
  refine G.value rfl rfl rfl (Sure.assign rfl) ?_
  refine G.nil ?_
  refine C.region_seq ?_
  refine G.value rfl rfl rfl (Sure.move rfl) ?_
  refine G.dyn rfl rfl rfl ?_
  refine Dyn.append (xs := []) (fun k h => by cases h) rfl rfl rfl Own.nil (PickL.here (A := [])) (Sl.heap hs) (allOne_bytes bs) (by omega) (by omega) ?_
  intro v1 Hs1 hown1
  simp only [List.nil_append, Nat.zero_add] at hown1
  refine G.value rfl rfl rfl (Sure.assign rfl) ?_
  refine G.nil ?_
  refine C.seq ?_
  refine C.region_seq ?_
  refine G.value rfl rfl rfl (Sure.assign rfl) ?_
  refine G.nil ?_
  refine C.block ?_
  refine C.loop (fun k E M' H => ∃ (i : Nat) (v1 : Value), MLe M M' ∧ i + k = n ∧ OwnB (bs ++ le v i) v1 H ∧ E = [(1, .int .u64 v), (2, .int .i64 n), (7, v1), (8, .int .i64 i)]) (n) ?_ ?_
  · exact ⟨_, _, ⟨0, v1, MLe.refl _, by omega, by simpa [le] using hown1, rfl⟩, ⟨rfl, rfl, rfl, rfl, trivial⟩, _, Split.one .here⟩
  · clear hown1
    rintro k E M' H ⟨i, v1, hle, hik, hown, rfl⟩
    refine C.seq ?_
    refine C.region_seq ?_
    refine G.value rfl rfl rfl (Sure.move rfl) ?_
    refine G.value rfl rfl rfl (Sure.move rfl) ?_
    refine G.value rfl rfl rfl (Sure.min rfl rfl) ?_
    refine G.value rfl rfl rfl (Sure.max rfl rfl) ?_
    rw [show Max.max (0 : Int) (Min.min (n : Int) 8) = n from by omega]
    refine G.value rfl rfl rfl (Sure.lss rfl rfl) ?_
    refine G.nil ?_
    refine C.cond_dec rfl (fun hlt => ?_) (fun hlt => ?_)
    · refine C.skip ?_
      refine Fin.th ?_
      refine C.seq ?_
      refine C.block ?_
      refine C.region ?_
      refine G.value rfl rfl rfl (Sure.move rfl) ?_
      refine G.value rfl rfl rfl (Sure.move rfl) ?_
      refine G.value rfl rfl rfl (Sure.move rfl) ?_
      refine G.value rfl rfl rfl (Sure.mul rfl rfl (inK64 (by omega))) ?_
      refine G.value rfl rfl rfl (Sure.conv rfl (inKu64 (by omega))) ?_
      refine G.value rfl rfl rfl (Sure.shr rfl rfl (by simp [IntKind.bits]; omega)) ?_
      refine G.value rfl rfl rfl (Sure.conv' rfl) ?_
      rw [le_byte]
      refine G.dyn rfl rfl rfl ?_
      refine Dyn.buildSlice rfl rfl rfl (by simp [vcl, byteV]) (by decide) ?_
      intro b25
      refine G.dyn rfl rfl rfl ?_
      refine Dyn.append (fun k h => by cases h) rfl rfl rfl hown (.there .all) (m := 1) (news := [byteV (UInt8.ofNat (v / 256 ^ i))]) ⟨rfl, fun _ => ⟨b25, 0, _, rfl, Rd.h0, rfl⟩⟩ rfl (by simp; omega) (by simp; omega) ?_
      intro v2 Hs2 hown2
      refine G.value rfl rfl rfl (Sure.assign rfl) ?_
      refine G.nil ?_
      refine Fin.blk ?_
      refine Fin.th ?_
      refine C.region ?_
      refine G.value rfl rfl rfl (Sure.move rfl) ?_
      refine G.value rfl rfl rfl (Sure.add rfl rfl (inK64 (by omega))) ?_
      refine G.value rfl rfl rfl (Sure.assign rfl) ?_
      refine G.nil ?_
      refine Fin.th ?_
      refine ⟨k - 1, _, _, by omega, ⟨i + 1, v2, hle, by omega, ?_, rfl⟩, ⟨rfl, rfl, rfl, rfl, trivial⟩, _, Split.one .here⟩
      rw [le_succ, ← List.append_assoc]
      unfold OwnB
      rw [List.length_append]
      simpa [bytesV] using hown2
    · have hi : i = n := by omega
      subst hi
      refine C.exit ?_
      refine Fin.th_exit ?_
      refine Fin.th_exit ?_
      refine Fin.blk_eq ?_
      refine Fin.th ?_
      refine C.region_seq ?_
      refine G.value rfl rfl rfl (Sure.move rfl) ?_
      refine G.value rfl rfl rfl (Sure.assign rfl) ?_
      refine G.nil ?_
      refine C.ret ?_
      exact Fin.fn (Res.tmp rfl rfl) (Split.one .all) hown
theorem refNumber_spec (M : Mem) (p : Option Addr) (cap : Nat) (bs : List UInt8) (v : Int) (hs : SB M p bs) (hb : bs.length ≤ 900000000) :
    Spec Tryz.prog 74 [.slice p bs.length cap, .int .i64 v] M [] (fun r _ H => OwnB (bs ++ intB v) r H) := by
  have hw := u64_wrap_bd v
  refine Spec.of_code 9 Tryz.func74 rfl callable74 rfl rfl fun w => ?_
  refine C.region_seq ?_
  refine G.value rfl rfl rfl (Sure.assign rfl) ?_
  refine G.nil ?_
  refine C.region_seq ?_
  refine G.value rfl rfl rfl (Sure.move rfl) ?_
  refine G.value rfl rfl rfl (Sure.move rfl) ?_
  refine G.value rfl rfl rfl (Sure.conv' rfl) ?_
  rw [show IntKind.u64.wrap v = ((IntKind.u64.wrap v).toNat : Int) from by omega]
  refine G.call rfl rfl rfl rfl rfl rfl (refPut_spec M p cap bs (IntKind.u64.wrap v).toNat 8 hs hb (by omega) (by omega)) (Split.nil) ?_
  rintro _ M1 Hs le1 hown
  refine G.value rfl rfl rfl (Sure.assign rfl) ?_
  refine G.nil ?_
  refine C.ret ?_
  exact Fin.fn (Res.tmp rfl rfl) (Split.one .here) hown
theorem refPutText_spec (M : Mem) (p : Option Addr) (cap : Nat) (bs : List UInt8) (t : ByteArray) (hs : SB M p bs) (hb : bs.length ≤ 900000000) (ht : t.size ≤ 10000000) :
    Spec Tryz.prog 75 [.slice p bs.length cap, .string t] M [] (fun r _ H => OwnB (bs ++ txtB t) r H) := by
  refine Spec.of_code 12 Tryz.func75 rfl callable75 rfl rfl fun w => ?_
  refine C.region_seq ?_
  refine G.value rfl rfl rfl (Sure.assign rfl) ?_
  refine G.nil ?_
  refine C.region_seq ?_
  refine G.value rfl rfl rfl (Sure.move rfl) ?_
  refine G.value rfl rfl rfl (Sure.move rfl) ?_
  refine G.value rfl rfl rfl (Sure.len_string rfl) ?_
  refine G.value rfl rfl rfl (Sure.conv rfl (inKu64 (by omega))) ?_
  refine G.call rfl rfl rfl rfl rfl rfl (refPut_spec M p cap bs t.size 4 hs hb (by omega) (by omega)) (Split.nil) ?_
  rintro v1 M1 Hs le1 hown
  refine G.value rfl rfl rfl (Sure.move rfl) ?_
  refine G.dyn rfl rfl rfl ?_
  refine Dyn.appendStr rfl rfl rfl hown .here (by simp; omega) (by simp; omega) ?_
  intro v2 Hs2 hown2
  refine G.value rfl rfl rfl (Sure.assign rfl) ?_
  refine G.nil ?_
  refine C.ret ?_
  refine Fin.fn (Res.tmp rfl rfl) (Split.one .here) ?_
  have e : (bs ++ txtB t).length = (bs ++ le t.size 4).length + t.size := by simp; omega
  unfold OwnB
  rw [e, show bytesV (bs ++ txtB t) = bytesV (bs ++ le t.size 4) ++ t.data.toList.map byteV from by simp [bytesV, txtB]]
  exact hown2
theorem kindB (k : Int) : Value.int .u8 (IntKind.u8.wrap k) = byteV (UInt8.ofNat (IntKind.u64.wrap k).toNat) := by
  unfold byteV
  rw [UInt8.toNat_ofNat']
  congr 1
  simp [IntKind.wrap, IntKind.bits, IntKind.signed]
  omega
theorem kindB1 (k : Int) : le (IntKind.u64.wrap k).toNat 1 = [UInt8.ofNat (IntKind.u64.wrap k).toNat] := by simp [le, List.range_succ]
theorem deeds_count : ∀ l : List Deed, l.length ≤ (deedsB l).length
  | [] => by simp
  | d :: l => by
    have h1 := deeds_count l
    have h2 := deedB_len d
    have h3 : (deedsB (d :: l)).length = (deedB d).length + (deedsB l).length := by simp [deedsB]
    simp
    omega
theorem refPack_spec (M : Mem) (p : Option Addr) (cap : Nat) (l : List DeedD) (hd : RDeeds M p l) (hb : (deedsB (l.map DeedD.v)).length ≤ 10000000) :
    Spec Tryz.prog 41 [.slice p l.length cap] M [] (fun r _ H => OwnB (deedsB (l.map DeedD.v)) r H) := by
  have hle1 : ∀ (a b : List DeedD), (deedsB ((a ++ b).map DeedD.v)).length = (deedsB (a.map DeedD.v)).length + (deedsB (b.map DeedD.v)).length := by intro a b; simp [deedsB]
  have hll := deeds_count (l.map DeedD.v)
  rw [List.length_map] at hll
  refine Spec.of_code 119 Tryz.func41 rfl callable41 rfl rfl fun w => ?_
  refine C.region_seq ?_
  refine G.value rfl rfl rfl (Sure.assign rfl) ?_
  refine G.nil ?_
  refine C.region_seq ?_
  refine G.value rfl rfl rfl (Sure.assign rfl) ?_
  refine G.nil ?_
  refine C.seq ?_
  refine C.region_seq ?_
  refine G.value rfl rfl rfl (Sure.assign rfl) ?_
  refine G.nil ?_
  refine C.block ?_
  refine C.loop (fun k E M' H => ∃ (a b : List DeedD) (v : Value), MLe M M' ∧ l = a ++ b ∧ b.length = k ∧ OwnB (deedsB (a.map DeedD.v)) v H ∧ E = [(0, .slice p l.length cap), (3, v), (4, intV a.length)]) (l.length) ?_ ?_
  · exact ⟨_, _, ⟨[], l, _, MLe.refl _, rfl, rfl, Own.nil, rfl⟩, ⟨rfl, rfl, rfl, trivial⟩, _, Split.nil⟩
  · rintro k E M' H ⟨a, b, v, hle, hab, hk, hown, rfl⟩
    have hlen : l.length = a.length + b.length := by rw [hab]; simp
    refine C.seq ?_
    refine C.region_seq ?_
    refine G.value rfl rfl rfl (Sure.move rfl) ?_
    refine G.value rfl rfl rfl (Sure.move rfl) ?_
    refine G.value rfl rfl rfl (Sure.len_slice rfl) ?_
    refine G.value rfl rfl rfl (Sure.lss rfl rfl) ?_
    refine G.nil ?_
    refine C.cond_dec rfl (fun hlt => ?_) (fun hlt => ?_)
    · cases b with
      | nil => simp at hlen hlt; omega
      | cons x b =>
        have hxm : x ∈ l := by rw [hab]; simp
        have hsum : (deedsB (a.map DeedD.v)).length + (deedB x.v).length ≤ 10000000 := by
          rw [hab, hle1] at hb
          have : (deedsB ((x :: b).map DeedD.v)).length = (deedB x.v).length + (deedsB (b.map DeedD.v)).length := by simp [deedsB]
          omega
        have hpos : (deedB x.v).length = 1 + (if x.kind = 1 ∨ x.kind = 3 ∨ x.kind = 4 then 8 else if x.kind = 2 then (inoB x.d.x).length else 0) := deedB_len x.v
        obtain ⟨q', o, c, hq, hrd, hseg⟩ := SlL.row (i := a.length) (e := deedDL x) ((SlL.mono hd.1 hle).heap (H := H)) (by rw [hab]; simp)
        have hdo := (hd.2 x hxm).mono hle
        subst hq
        refine C.skip ?_
        refine Fin.th ?_
        refine C.seq ?_
        refine C.block ?_
        refine C.region_seq ?_
        refine G.value rfl rfl rfl (Sure.move rfl) ?_
        refine G.value rfl rfl rfl (Sure.move rfl) ?_
        refine G.value rfl rfl rfl (Sure.indexAddr rfl rfl (by omega)) ?_
        refine G.value rfl rfl rfl (Sure.loadAgg rfl hrd hseg) ?_
        refine G.dyn rfl rfl rfl ?_
        refine Dyn.allocAgg ?_
        intro b5
        refine G.dyn0 rfl rfl ?_
        refine Dyn.storeAgg rfl rfl pkx rfl rfl rfl ?_
        refine G.nil ?_
        refine C.region_seq ?_
        refine G.value rfl rfl rfl (Sure.move rfl) ?_
        refine G.value rfl rfl rfl (Sure.fieldAddr rfl) ?_
        refine G.value rfl rfl rfl (Sure.load rfl rdx rfl) ?_
        refine G.value rfl rfl rfl (Sure.conv' rfl) ?_
        rw [kindB]
        refine G.dyn rfl rfl rfl ?_
        refine Dyn.buildSlice rfl rfl rfl (by simp [vcl, byteV]) (by decide) ?_
        intro b24
        refine G.dyn rfl rfl rfl ?_
        refine Dyn.append (fun k h => by cases h) rfl rfl rfl hown (.there (.there .all)) (m := 1) (news := [byteV (UInt8.ofNat (IntKind.u64.wrap x.kind).toNat)]) ⟨rfl, fun _ => ⟨b24, 0, _, rfl, Rd.h0, rfl⟩⟩ rfl (by omega) (by omega) ?_
        intro v2 Hs2 hown2
        obtain ⟨P, hP⟩ : ∃ P, deedsB (a.map DeedD.v) ++ le (IntKind.u64.wrap x.kind).toNat 1 = P := ⟨_, rfl⟩
        have hPl : P.length = (deedsB (a.map DeedD.v)).length + 1 := by rw [← hP]; simp
        have hown3 : OwnB P v2 Hs2 := by
          rw [← hP, kindB1]
          unfold OwnB
          rw [List.length_append]
          simpa [bytesV] using hown2
        clear hown2
        have hxd : deedsB ((a ++ [x]).map DeedD.v) = P ++ (if x.kind = 1 ∨ x.kind = 3 ∨ x.kind = 4 then intB x.no else if x.kind = 2 then inoB x.d.x else []) := by
          have : deedB x.v = le (IntKind.u64.wrap x.kind).toNat 1 ++ (if x.kind = 1 ∨ x.kind = 3 ∨ x.kind = 4 then intB x.no else if x.kind = 2 then inoB x.d.x else []) := rfl
          rw [← hP, List.append_assoc, ← this]
          simp [deedsB]
        have hnext : ∀ (M2 : Mem) (v3 : Value) (H3 : Heap), MLe M' M2 → OwnB (deedsB ((a ++ [x]).map DeedD.v)) v3 H3 → ∃ a' b' : List DeedD, MLe M M2 ∧ l = a' ++ b' ∧ b'.length = b.length ∧ a'.length = a.length + 1 ∧ OwnB (deedsB (a'.map DeedD.v)) v3 H3 :=
          fun M2 v3 H3 h1 h2 => ⟨a ++ [x], b, hle.trans h1, by rw [hab]; simp, rfl, by simp, h2⟩
        refine G.value rfl rfl rfl (Sure.assign rfl) ?_
        refine G.nil ?_
        refine C.region_seq ?_
        refine G.value rfl rfl rfl (Sure.fieldAddr rfl) ?_
        refine G.value rfl rfl rfl (Sure.load rfl rdx rfl) ?_
        refine G.nil ?_
        refine C.block ?_
        refine C.seq ?_
        refine C.region_seq ?_
        refine G.value rfl rfl rfl (Sure.eql rfl rfl) ?_
        refine G.value rfl rfl rfl (Sure.assign rfl) ?_
        refine G.nil ?_
        refine C.cutTop (fun E M2 H2 => MLe M' M2 ∧ esub [(0, .slice (some ⟨q', o, Option.none⟩) l.length cap), (3, v2), (4, intV a.length), (5, ptr b5), (26, intV x.kind), (27, .bool (decide (x.kind = 1 ∨ x.kind = 3 ∨ x.kind = 4)))] E ∧ ∃ R, Split (Hs2 ++ [(b5, .cells (deedDL x))]) H2 R) ?_ ?_
        · refine C.cond_dec rfl (fun h1 => ?_) (fun h1 => ?_)
          · refine C.skip ?_
            refine Fin.th ?_
            exact ⟨MLe.refl _, ⟨rfl, rfl, rfl, rfl, rfl, congrArg (fun q => some (Value.bool q)) (decide_eq_decide.2 (by omega)), trivial⟩, _, Split.consL .here (Split.cons (.there .here) Split.nil)⟩
          · refine C.region_seq ?_
            refine G.value rfl rfl rfl (Sure.eql rfl rfl) ?_
            refine G.value rfl rfl rfl (Sure.assign rfl) ?_
            refine G.nil ?_
            refine C.cond_dec rfl (fun h3 => ?_) (fun h3 => ?_)
            · refine C.skip ?_
              refine Fin.th ?_
              exact ⟨MLe.refl _, ⟨rfl, rfl, rfl, rfl, rfl, congrArg (fun q => some (Value.bool q)) (decide_eq_decide.2 (by omega)), trivial⟩, _, Split.consL .here (Split.cons (.there .here) Split.nil)⟩
            · refine C.region ?_
              refine G.value rfl rfl rfl (Sure.eql rfl rfl) ?_
              refine G.value rfl rfl rfl (Sure.assign rfl) ?_
              refine G.nil ?_
              refine Fin.th ?_
              exact ⟨MLe.refl _, ⟨rfl, rfl, rfl, rfl, rfl, congrArg (fun q => some (Value.bool q)) (decide_eq_decide.2 (by omega)), trivial⟩, _, Split.consL .here (Split.cons (.there .here) Split.nil)⟩
        · rintro E M2 H2 ⟨le2, hsub, R, hspl⟩
          refine C.weak hsub (C.sub hspl ?_)
          clear hspl hsub
          refine C.cond_dec rfl (fun hk3 => ?_) (fun hk3 => ?_)
          · rw [if_pos hk3] at hxd
            refine C.donateOwn hown3 .here ?_
            rintro M3 p3 c3 le3 rfl hs3
            refine C.region ?_
            refine G.value rfl rfl rfl (Sure.move rfl) ?_
            refine G.value rfl rfl rfl (Sure.fieldAddr rfl) ?_
            refine G.value rfl rfl rfl (Sure.load rfl rdx rfl) ?_
            refine G.call rfl rfl rfl rfl rfl rfl (refNumber_spec M3 p3 c3 P x.no hs3 (by omega)) (Split.nil) ?_
            rintro v4 M4 H4 le4 hown4
            refine G.value rfl rfl rfl (Sure.assign rfl) ?_
            refine G.nil ?_
            refine Fin.blk ?_
            refine Fin.blk ?_
            refine Fin.th ?_
            refine C.region ?_
            refine G.value rfl rfl rfl (Sure.move rfl) ?_
            refine G.value rfl rfl rfl (Sure.add rfl rfl (inK64 (by omega))) ?_
            refine G.value rfl rfl rfl (Sure.assign rfl) ?_
            refine G.nil ?_
            refine Fin.th ?_
            rw [← hxd] at hown4
            obtain ⟨a', b', i1, i2, i3, i4, i5⟩ := hnext _ _ _ (le2.trans (le3.trans le4)) hown4
            exact ⟨b.length, _, _, by simp at hk; omega, ⟨a', b', _, i1, i2, i3, i5, rfl⟩, ⟨rfl, rfl, by rw [i4]; rfl, trivial⟩, _, Split.one .here⟩
          · rw [if_neg hk3] at hxd
            refine C.region_seq ?_
            refine G.value rfl rfl rfl (Sure.eql rfl rfl) ?_
            refine G.value rfl rfl rfl (Sure.assign rfl) ?_
            refine G.nil ?_
            refine C.cond_dec rfl (fun hk2 => ?_) (fun hk2 => ?_)
            · rw [if_pos hk2] at hxd
              have hino : inoB x.d.x = intB x.d.x.no ++ intB x.d.x.kind ++ intB x.d.x.links ++ intB x.d.x.size ++ txtB x.d.x.tgt ++ le x.d.x.ents.length 4 ++ (x.d.x.ents.map entB).flatten ++ le x.d.x.runs.length 4 ++ (x.d.x.runs.map runB).flatten := by simp [inoB, intsB, intB]
              have hil : (inoB x.d.x).length = 32 + (4 + x.d.x.tgt.size) + 4 + (x.d.x.ents.map entB).flatten.length + 4 + (x.d.x.runs.map runB).flatten.length := by rw [hino]; simp; omega
              have hin : P.length + (inoB x.d.x).length ≤ 10000000 := by
                rw [if_neg hk3, if_pos hk2] at hpos
                omega
              have hel : x.d.x.ents.length * 12 ≤ (x.d.x.ents.map entB).flatten.length := by
                generalize x.d.x.ents = es
                induction es with
                | nil => simp
                | cons e es ih => simp at ih ⊢; omega
              have hrl : x.d.x.runs.length * 24 ≤ (x.d.x.runs.map runB).flatten.length := by
                generalize x.d.x.runs = es
                induction es with
                | nil => simp
                | cons e es ih => simp at ih ⊢; omega
              refine C.donateOwn hown3 .here ?_
              rintro M3 p3 c3 le3 rfl hs3
              refine C.region_seq ?_
              refine G.value rfl rfl rfl (Sure.fieldAddr rfl) ?_
              refine G.value rfl rfl rfl (Sure.loadAgg rfl rdx rfl) ?_
              refine G.dyn rfl rfl rfl ?_
              refine Dyn.allocAgg ?_
              intro b6
              refine G.dyn0 rfl rfl ?_
              refine Dyn.storeAgg rfl rfl pkx rfl rfl rfl ?_
              refine G.nil ?_
              -- draws its order
              refine C.draw_seq ([(b6, .cells (inoDL x.d))]) mixed (by kernel_rfl) incx ?_
              refine GD.val 0 rfl rfl rfl rfl (by kernel_rfl) rfl (Sure.move rfl) ?_
              refine GD.val 1 rfl rfl rfl rfl (by kernel_rfl) rfl (Sure.fieldAddr rfl) ?_
              refine GD.val 2 rfl rfl rfl rfl (by kernel_rfl) rfl (Sure.load rfl rdx rfl) ?_
              refine GD.val 4 rfl rfl rfl rfl (by kernel_rfl) rfl (Sure.fieldAddr rfl) ?_
              refine GD.val 5 rfl rfl rfl rfl (by kernel_rfl) rfl (Sure.load rfl rdx rfl) ?_
              refine GD.val 7 rfl rfl rfl rfl (by kernel_rfl) rfl (Sure.fieldAddr rfl) ?_
              refine GD.val 8 rfl rfl rfl rfl (by kernel_rfl) rfl (Sure.load rfl rdx rfl) ?_
              refine GD.val 10 rfl rfl rfl rfl (by kernel_rfl) rfl (Sure.fieldAddr rfl) ?_
              refine GD.val 11 rfl rfl rfl rfl (by kernel_rfl) rfl (Sure.load rfl rdx rfl) ?_
              refine GD.one 3 (by kernel_rfl) rfl rfl (by kernel_rfl) ?_
              refine Next.call 3 rfl rfl rfl (by kernel_rfl) (by kernel_rfl) rfl rfl rfl rfl ((refNumber_spec M3 p3 c3 P x.d.x.no hs3 (by omega)).retB) (Split.nil) ?_
              rintro _ M4 _ le4 ⟨rfl, p4, c4, rfl, hs4⟩
              refine ⟨incx, ?_⟩
              refine GD.one 6 (by kernel_rfl) rfl rfl (by kernel_rfl) ?_
              refine Next.call 6 rfl rfl rfl (by kernel_rfl) (by kernel_rfl) rfl rfl rfl rfl ((refNumber_spec M4 p4 c4 _ x.d.x.kind hs4 (by simp; omega)).retB) (Split.nil) ?_
              rintro _ M5 _ le5 ⟨rfl, p5, c5, rfl, hs5⟩
              refine ⟨incx, ?_⟩
              refine GD.one 9 (by kernel_rfl) rfl rfl (by kernel_rfl) ?_
              refine Next.call 9 rfl rfl rfl (by kernel_rfl) (by kernel_rfl) rfl rfl rfl rfl ((refNumber_spec M5 p5 c5 _ x.d.x.links hs5 (by simp; omega)).retB) (Split.nil) ?_
              rintro _ M6 _ le6 ⟨rfl, p6, c6, rfl, hs6⟩
              refine ⟨incx, ?_⟩
              refine GD.one 12 (by kernel_rfl) rfl rfl (by kernel_rfl) ?_
              refine Next.call 12 rfl rfl rfl (by kernel_rfl) (by kernel_rfl) rfl rfl rfl rfl ((refNumber_spec M6 p6 c6 _ x.d.x.size hs6 (by simp; omega)).retB) (Split.nil) ?_
              rintro _ M7 _ le7 ⟨rfl, p7, c7, rfl, hs7⟩
              refine ⟨incx, ?_⟩
              refine GD.one 13 (by kernel_rfl) rfl rfl (by kernel_rfl) ?_
              refine Next.dyn 13 rfl rfl rfl (by kernel_rfl) (by kernel_rfl) rfl (Dyn.assign rfl ?_)
              refine ⟨MLe.refl _, incx, ?_⟩
              refine GD.done (by kernel_rfl) (by kernel_rfl) ?_
              -- draws its order
              refine C.draw_seq ([(b6, .cells (inoDL x.d))]) mixed (by kernel_rfl) incx ?_
              refine GD.val 0 rfl rfl rfl rfl (by kernel_rfl) rfl (Sure.move rfl) ?_
              refine GD.val 1 rfl rfl rfl rfl (by kernel_rfl) rfl (Sure.fieldAddr rfl) ?_
              refine GD.val 2 rfl rfl rfl rfl (by kernel_rfl) rfl (Sure.load rfl rdx rfl) ?_
              refine GD.val 4 rfl rfl rfl rfl (by kernel_rfl) rfl (Sure.fieldAddr rfl) ?_
              refine GD.val 5 rfl rfl rfl rfl (by kernel_rfl) rfl (Sure.load rfl rdx rfl) ?_
              refine GD.val 6 rfl rfl rfl rfl (by kernel_rfl) rfl (Sure.len_slice rfl) ?_
              refine GD.val 7 rfl rfl rfl rfl (by kernel_rfl) rfl (Sure.conv rfl (inKu64 (by omega))) ?_
              refine GD.one 3 (by kernel_rfl) rfl rfl (by kernel_rfl) ?_
              refine Next.call 3 rfl rfl rfl (by kernel_rfl) (by kernel_rfl) rfl rfl rfl rfl ((refPutText_spec M7 p7 c7 _ x.d.x.tgt hs7 (by simp; omega) (by omega)).retB) (Split.nil) ?_
              rintro _ M8 _ le8 ⟨rfl, p8, c8, rfl, hs8⟩
              refine ⟨incx, ?_⟩
              refine GD.one 8 (by kernel_rfl) rfl rfl (by kernel_rfl) ?_
              refine Next.call 8 rfl rfl rfl (by kernel_rfl) (by kernel_rfl) rfl rfl rfl rfl ((refPut_spec M8 p8 c8 _ x.d.x.ents.length 4 hs8 (by simp; omega) (by omega) (by omega)).retB) (Split.nil) ?_
              rintro _ M9 _ le9 ⟨rfl, p9, c9, rfl, hs9⟩
              refine ⟨incx, ?_⟩
              obtain ⟨Q, hQ⟩ : ∃ Q, P ++ intB x.d.x.no ++ intB x.d.x.kind ++ intB x.d.x.links ++ intB x.d.x.size ++ txtB x.d.x.tgt ++ le x.d.x.ents.length 4 = Q := ⟨_, rfl⟩
              have hQl : Q.length = P.length + 32 + (4 + x.d.x.tgt.size) + 4 := by rw [← hQ]; simp; omega
              rw [hQ] at hs9 ⊢
              have hfe : ∀ a1 b1 : List Entry, x.d.x.ents = a1 ++ b1 → (x.d.x.ents.map entB).flatten.length = (a1.map entB).flatten.length + (b1.map entB).flatten.length := by intro a1 b1 h; rw [h]; simp
              have hfr : ∀ a1 b1 : List Run, x.d.x.runs = a1 ++ b1 → (x.d.x.runs.map runB).flatten.length = (a1.map runB).flatten.length + (b1.map runB).flatten.length := by intro a1 b1 h; rw [h]; simp
              have hle9 := le2.trans (le3.trans (le4.trans (le5.trans (le6.trans (le7.trans (le8.trans le9))))))
              refine GD.one 9 (by kernel_rfl) rfl rfl (by kernel_rfl) ?_
              refine Next.dyn 9 rfl rfl rfl (by kernel_rfl) (by kernel_rfl) rfl (Dyn.assign rfl ?_)
              refine ⟨MLe.refl _, incx, ?_⟩
              refine GD.done (by kernel_rfl) (by kernel_rfl) ?_
              refine C.seq ?_
              refine C.region_seq ?_
              refine G.value rfl rfl rfl (Sure.assign rfl) ?_
              refine G.nil ?_
              refine C.block ?_
              refine C.loop (fun k2 E M2 H => ∃ (a1 b1 : List Entry) (pv : Option Addr) (cv : Nat), MLe M9 M2 ∧ x.d.x.ents = a1 ++ b1 ∧ b1.length = k2 ∧ SB M2 pv (Q ++ (a1.map entB).flatten) ∧ E = [(0, .slice (some ⟨q', o, Option.none⟩) l.length cap), (3, .slice pv (Q ++ (a1.map entB).flatten).length cv), (4, intV a.length), (6, ptr b6), (7, intV a1.length)] ∧ H = [(b6, .cells (inoDL x.d))]) (x.d.x.ents.length) ?_ ?_
              · exact ⟨_, _, ⟨[], x.d.x.ents, p9, c9, MLe.refl _, rfl, rfl, by simpa using hs9, rfl, rfl⟩, ⟨rfl, by simp; rfl, rfl, rfl, rfl, trivial⟩, _, Split.cons .here Split.nil⟩
              · clear hs9 hs8 hs7 hs6 hs5 hs4 hs3
                rintro k2 E M2 H ⟨a1, b1, pv, cv, hle2, hab1, hk2', hsv, rfl, rfl⟩
                have hlen1 : x.d.x.ents.length = a1.length + b1.length := by rw [hab1]; simp
                have hsl1 := hfe a1 b1 hab1
                refine C.seq ?_
                refine C.region_seq ?_
                refine G.value rfl rfl rfl (Sure.move rfl) ?_
                refine G.value rfl rfl rfl (Sure.fieldAddr rfl) ?_
                refine G.value rfl rfl rfl (Sure.load rfl rdx rfl) ?_
                refine G.value rfl rfl rfl (Sure.len_slice rfl) ?_
                refine G.value rfl rfl rfl (Sure.lss rfl rfl) ?_
                refine G.nil ?_
                refine C.cond_dec rfl (fun hlt1 => ?_) (fun hlt1 => ?_)
                · cases b1 with
                  | nil => simp at hlen1; omega
                  | cons e b1 =>
                    obtain ⟨q1, o1, cc1, hq1, hrd1, hseg1⟩ := SlL.row (i := a1.length) (e := entL e) ((SlL.mono hdo.1 (hle9.trans hle2)).heap (H := [(b6, .cells (inoDL x.d))])) (by rw [hab1]; simp)
                    have hel1 : ((e :: b1).map entB).flatten.length = (txtB e.name).length + 8 + (b1.map entB).flatten.length := by simp [entB]; omega
                    have htl : (txtB e.name).length = 4 + e.name.size := txtB_len _
                    refine C.skip ?_
                    refine Fin.th ?_
                    refine C.seq ?_
                    refine C.block ?_
                    -- draws its order
                    refine C.draw ([(b6, .cells (inoDL x.d))]) mixed (by kernel_rfl) incx ?_
                    refine GD.val 0 rfl rfl rfl rfl (by kernel_rfl) rfl (Sure.move rfl) ?_
                    refine GD.val 1 rfl rfl rfl rfl (by kernel_rfl) rfl (Sure.fieldAddr rfl) ?_
                    refine GD.val 2 rfl rfl rfl rfl (by kernel_rfl) rfl (Sure.load rfl rdx rfl) ?_
                    refine GD.val 3 rfl rfl rfl rfl (by kernel_rfl) rfl (Sure.move rfl) ?_
                    refine GD.val 4 rfl rfl rfl rfl (by kernel_rfl) rfl (Sure.indexAddr (congrArg (fun q => some (Value.slice q x.d.x.ents.length x.d.ce)) hq1) rfl (by omega)) ?_
                    refine GD.val 5 rfl rfl rfl rfl (by kernel_rfl) rfl (Sure.fieldAddr rfl) ?_
                    refine GD.val 6 rfl rfl rfl rfl (by kernel_rfl) rfl (Sure.load rfl hrd1 (seg_one (k := 0) hseg1 rfl)) ?_
                    refine GD.val 8 rfl rfl rfl rfl (by kernel_rfl) rfl (Sure.fieldAddr rfl) ?_
                    refine GD.val 9 rfl rfl rfl rfl (by kernel_rfl) rfl (Sure.load rfl rdx rfl) ?_
                    refine GD.val 10 rfl rfl rfl rfl (by kernel_rfl) rfl (Sure.move rfl) ?_
                    refine GD.val 11 rfl rfl rfl rfl (by kernel_rfl) rfl (Sure.indexAddr (congrArg (fun q => some (Value.slice q x.d.x.ents.length x.d.ce)) hq1) rfl (by omega)) ?_
                    refine GD.val 12 rfl rfl rfl rfl (by kernel_rfl) rfl (Sure.fieldAddr rfl) ?_
                    refine GD.val 13 rfl rfl rfl rfl (by kernel_rfl) rfl (Sure.load rfl hrd1 (seg_one (k := 1) hseg1 rfl)) ?_
                    refine GD.one 7 (by kernel_rfl) rfl rfl (by kernel_rfl) ?_
                    refine Next.call 7 rfl rfl rfl (by kernel_rfl) (by kernel_rfl) rfl rfl rfl rfl ((refPutText_spec M2 pv cv _ e.name hsv (by simp only [List.length_append]; omega) (by omega)).retB) (Split.nil) ?_
                    rintro _ M10 _ le10 ⟨rfl, p10, c10, rfl, hs10⟩
                    refine ⟨incx, ?_⟩
                    refine GD.one 14 (by kernel_rfl) rfl rfl (by kernel_rfl) ?_
                    refine Next.call 14 rfl rfl rfl (by kernel_rfl) (by kernel_rfl) rfl rfl rfl rfl ((refNumber_spec M10 p10 c10 _ e.no hs10 (by simp only [List.length_append]; omega)).retB) (Split.nil) ?_
                    rintro _ M11 _ le11 ⟨rfl, p11, c11, rfl, hs11⟩
                    refine ⟨incx, ?_⟩
                    have hee : Q ++ (a1.map entB).flatten ++ txtB e.name ++ intB e.no = Q ++ ((a1 ++ [e]).map entB).flatten := by simp [entB]
                    rw [hee] at hs11 ⊢
                    refine GD.one 15 (by kernel_rfl) rfl rfl (by kernel_rfl) ?_
                    refine Next.dyn 15 rfl rfl rfl (by kernel_rfl) (by kernel_rfl) rfl (Dyn.assign rfl ?_)
                    refine ⟨MLe.refl _, incx, ?_⟩
                    refine GD.done (by kernel_rfl) (by kernel_rfl) ?_
                    refine Fin.blk ?_
                    refine Fin.th ?_
                    refine C.region ?_
                    refine G.value rfl rfl rfl (Sure.move rfl) ?_
                    refine G.value rfl rfl rfl (Sure.add rfl rfl (inK64 (by omega))) ?_
                    refine G.value rfl rfl rfl (Sure.assign rfl) ?_
                    refine G.nil ?_
                    refine Fin.th ?_
                    exact ⟨b1.length, _, _, by simp at hk2'; omega, ⟨a1 ++ [e], b1, p11, c11, hle2.trans (le10.trans le11), by rw [hab1]; simp, rfl, hs11, rfl, rfl⟩, ⟨rfl, rfl, rfl, rfl, by simp; rfl, trivial⟩, _, Split.cons .here Split.nil⟩
                · have hb1 : b1 = [] := List.eq_nil_of_length_eq_zero (by omega)
                  subst hb1
                  simp only [List.append_nil] at hab1
                  have hsl2 := hfe a1 [] (by rw [hab1]; simp)
                  rw [← hab1] at hsv ⊢
                  refine C.exit ?_
                  refine Fin.th_exit ?_
                  refine Fin.th_exit ?_
                  refine Fin.blk_eq ?_
                  refine Fin.th ?_
                  refine C.region_seq ?_
                  refine G.value rfl rfl rfl (Sure.move rfl) ?_
                  refine G.value rfl rfl rfl (Sure.fieldAddr rfl) ?_
                  refine G.value rfl rfl rfl (Sure.load rfl rdx rfl) ?_
                  refine G.value rfl rfl rfl (Sure.len_slice rfl) ?_
                  refine G.value rfl rfl rfl (Sure.conv rfl (inKu64 (by omega))) ?_
                  refine G.call rfl rfl rfl rfl rfl rfl (refPut_spec M2 pv cv _ x.d.x.runs.length 4 hsv (by simp only [List.length_append]; omega) (by omega) (by omega)) (Split.nil) ?_
                  rintro v12 M12 H12 le12 hown12
                  obtain ⟨Q2, hQ2⟩ : ∃ Q2, Q ++ (x.d.x.ents.map entB).flatten ++ le x.d.x.runs.length 4 = Q2 := ⟨_, rfl⟩
                  have hQ2l : Q2.length = Q.length + (x.d.x.ents.map entB).flatten.length + 4 := by rw [← hQ2]; simp only [List.length_append, le_len]
                  rw [hQ2] at hown12
                  refine G.value rfl rfl rfl (Sure.assign rfl) ?_
                  refine G.nil ?_
                  refine C.region_seq ?_
                  refine G.value rfl rfl rfl (Sure.assign rfl) ?_
                  refine G.nil ?_
                  refine C.block ?_
                  refine C.loop (fun k3 E M3 H => ∃ (a2 b2 : List Run) (v : Value) (Hs : Heap), MLe M12 M3 ∧ x.d.x.runs = a2 ++ b2 ∧ b2.length = k3 ∧ OwnB (Q2 ++ (a2.map runB).flatten) v Hs ∧ E = [(0, .slice (some ⟨q', o, Option.none⟩) l.length cap), (3, v), (4, intV a.length), (6, ptr b6), (8, intV a2.length)] ∧ H = (b6, .cells (inoDL x.d)) :: Hs) (x.d.x.runs.length) ?_ ?_
                  · exact ⟨_, _, ⟨[], x.d.x.runs, v12, H12, MLe.refl _, rfl, rfl, by simpa using hown12, rfl, rfl⟩, ⟨rfl, rfl, rfl, rfl, rfl, trivial⟩, _, Split.cons (.over .here) (Split.one .here)⟩
                  · clear hown12 hsv
                    rintro k3 E M3 H ⟨a2, b2, v, Hs, hle3, hab2, hk3', hown5, rfl, rfl⟩
                    have hlen2 : x.d.x.runs.length = a2.length + b2.length := by rw [hab2]; simp
                    have hsl3 := hfr a2 b2 hab2
                    refine C.seq ?_
                    refine C.region_seq ?_
                    refine G.value rfl rfl rfl (Sure.move rfl) ?_
                    refine G.value rfl rfl rfl (Sure.fieldAddr rfl) ?_
                    refine G.value rfl rfl rfl (Sure.load rfl rdx rfl) ?_
                    refine G.value rfl rfl rfl (Sure.len_slice rfl) ?_
                    refine G.value rfl rfl rfl (Sure.lss rfl rfl) ?_
                    refine G.nil ?_
                    refine C.cond_dec rfl (fun hlt2 => ?_) (fun hlt2 => ?_)
                    · cases b2 with
                      | nil => simp at hlen2; omega
                      | cons r b2 =>
                        obtain ⟨q2, o2, cc2, hq2, hrd2, hseg2⟩ := SlL.row (i := a2.length) (e := runL r) ((SlL.mono hdo.2 (hle9.trans (hle2.trans (le12.trans hle3)))).heap (H := [(b6, .cells (inoDL x.d))])) (by rw [hab2]; simp)
                        have hel2 : ((r :: b2).map runB).flatten.length = 24 + (b2.map runB).flatten.length := by rw [List.map_cons, List.flatten_cons, List.length_append, runB_len]
                        refine C.donateOwn hown5 (.there .all) ?_
                        rintro M13 p13 c13 le13 rfl hs13
                        have hs13' : SB M13 p13 (Q2 ++ (a2.map runB).flatten) := hs13
                        refine C.skip ?_
                        refine Fin.th ?_
                        refine C.seq ?_
                        refine C.block ?_
                        -- draws its order
                        refine C.draw ([(b6, .cells (inoDL x.d))]) mixed (by kernel_rfl) incx ?_
                        refine GD.val 0 rfl rfl rfl rfl (by kernel_rfl) rfl (Sure.move rfl) ?_
                        refine GD.val 1 rfl rfl rfl rfl (by kernel_rfl) rfl (Sure.fieldAddr rfl) ?_
                        refine GD.val 2 rfl rfl rfl rfl (by kernel_rfl) rfl (Sure.load rfl rdx rfl) ?_
                        refine GD.val 3 rfl rfl rfl rfl (by kernel_rfl) rfl (Sure.move rfl) ?_
                        refine GD.val 4 rfl rfl rfl rfl (by kernel_rfl) rfl (Sure.indexAddr (congrArg (fun q => some (Value.slice q x.d.x.runs.length x.d.cr)) hq2) rfl (by omega)) ?_
                        refine GD.val 5 rfl rfl rfl rfl (by kernel_rfl) rfl (Sure.fieldAddr rfl) ?_
                        refine GD.val 6 rfl rfl rfl rfl (by kernel_rfl) rfl (Sure.load rfl (hrd2.mono le13) (seg_one (k := 0) hseg2 rfl)) ?_
                        refine GD.val 8 rfl rfl rfl rfl (by kernel_rfl) rfl (Sure.fieldAddr rfl) ?_
                        refine GD.val 9 rfl rfl rfl rfl (by kernel_rfl) rfl (Sure.load rfl rdx rfl) ?_
                        refine GD.val 10 rfl rfl rfl rfl (by kernel_rfl) rfl (Sure.move rfl) ?_
                        refine GD.val 11 rfl rfl rfl rfl (by kernel_rfl) rfl (Sure.indexAddr (congrArg (fun q => some (Value.slice q x.d.x.runs.length x.d.cr)) hq2) rfl (by omega)) ?_
                        refine GD.val 12 rfl rfl rfl rfl (by kernel_rfl) rfl (Sure.fieldAddr rfl) ?_
                        refine GD.val 13 rfl rfl rfl rfl (by kernel_rfl) rfl (Sure.load rfl (hrd2.mono le13) (seg_one (k := 1) hseg2 rfl)) ?_
                        refine GD.val 15 rfl rfl rfl rfl (by kernel_rfl) rfl (Sure.fieldAddr rfl) ?_
                        refine GD.val 16 rfl rfl rfl rfl (by kernel_rfl) rfl (Sure.load rfl rdx rfl) ?_
                        refine GD.val 17 rfl rfl rfl rfl (by kernel_rfl) rfl (Sure.move rfl) ?_
                        refine GD.val 18 rfl rfl rfl rfl (by kernel_rfl) rfl (Sure.indexAddr (congrArg (fun q => some (Value.slice q x.d.x.runs.length x.d.cr)) hq2) rfl (by omega)) ?_
                        refine GD.val 19 rfl rfl rfl rfl (by kernel_rfl) rfl (Sure.fieldAddr rfl) ?_
                        refine GD.val 20 rfl rfl rfl rfl (by kernel_rfl) rfl (Sure.load rfl (hrd2.mono le13) (seg_one (k := 2) hseg2 rfl)) ?_
                        refine GD.one 7 (by kernel_rfl) rfl rfl (by kernel_rfl) ?_
                        refine Next.call 7 rfl rfl rfl (by kernel_rfl) (by kernel_rfl) rfl rfl rfl rfl ((refNumber_spec M13 p13 c13 _ r.fr hs13' (by simp only [List.length_append]; omega)).retB) (Split.nil) ?_
                        rintro _ M14 _ le14 ⟨rfl, p14, c14, rfl, hs14⟩
                        refine ⟨incx, ?_⟩
                        refine GD.one 14 (by kernel_rfl) rfl rfl (by kernel_rfl) ?_
                        refine Next.call 14 rfl rfl rfl (by kernel_rfl) (by kernel_rfl) rfl rfl rfl rfl ((refNumber_spec M14 p14 c14 _ r.ad hs14 (by simp only [List.length_append, intB_len]; omega)).retB) (Split.nil) ?_
                        rintro _ M15 _ le15 ⟨rfl, p15, c15, rfl, hs15⟩
                        refine ⟨incx, ?_⟩
                        refine GD.one 21 (by kernel_rfl) rfl rfl (by kernel_rfl) ?_
                        refine Next.call 21 rfl rfl rfl (by kernel_rfl) (by kernel_rfl) rfl rfl rfl rfl (refNumber_spec M15 p15 c15 _ r.cnt hs15 (by simp only [List.length_append, intB_len]; omega)) (Split.nil) ?_
                        rintro v16 M16 H16 le16 hown16
                        refine ⟨(by intro q hq; simp at hq ⊢; exact .inr hq), ?_⟩
                        have hee : Q2 ++ (a2.map runB).flatten ++ intB r.fr ++ intB r.ad ++ intB r.cnt = Q2 ++ ((a2 ++ [r]).map runB).flatten := by simp [runB, intsB, intB]
                        rw [hee] at hown16
                        refine GD.one 22 (by kernel_rfl) rfl rfl (by kernel_rfl) ?_
                        refine Next.dyn 22 rfl rfl rfl (by kernel_rfl) (by kernel_rfl) rfl (Dyn.assign rfl ?_)
                        refine ⟨MLe.refl _, incx, ?_⟩
                        refine GD.done (by kernel_rfl) (by kernel_rfl) ?_
                        refine Fin.blk ?_
                        refine Fin.th ?_
                        refine C.region ?_
                        refine G.value rfl rfl rfl (Sure.move rfl) ?_
                        refine G.value rfl rfl rfl (Sure.add rfl rfl (inK64 (by omega))) ?_
                        refine G.value rfl rfl rfl (Sure.assign rfl) ?_
                        refine G.nil ?_
                        refine Fin.th ?_
                        exact ⟨b2.length, _, _, by simp at hk3'; omega, ⟨a2 ++ [r], b2, v16, H16, hle3.trans (le13.trans (le14.trans (le15.trans le16))), by rw [hab2]; simp, rfl, hown16, rfl, rfl⟩, ⟨rfl, rfl, rfl, rfl, by simp; rfl, trivial⟩, _, Split.cons (.over .here) (Split.one .here)⟩
                    · have hb2 : b2 = [] := List.eq_nil_of_length_eq_zero (by omega)
                      subst hb2
                      simp only [List.append_nil] at hab2
                      rw [← hab2] at hown5
                      refine C.exit ?_
                      refine Fin.th_exit ?_
                      refine Fin.th_exit ?_
                      refine Fin.blk_eq ?_
                      refine Fin.blk ?_
                      refine Fin.blk ?_
                      refine Fin.th ?_
                      refine C.region ?_
                      refine G.value rfl rfl rfl (Sure.move rfl) ?_
                      refine G.value rfl rfl rfl (Sure.add rfl rfl (inK64 (by omega))) ?_
                      refine G.value rfl rfl rfl (Sure.assign rfl) ?_
                      refine G.nil ?_
                      refine Fin.th ?_
                      have hfin : Q2 ++ (x.d.x.runs.map runB).flatten = deedsB ((a ++ [x]).map DeedD.v) := by rw [hxd, hino, ← hQ2, ← hQ]; simp only [List.append_assoc]
                      rw [hfin] at hown5
                      obtain ⟨a', b', i1, i2, i3, i4, i5⟩ := hnext _ _ _ (hle9.trans (hle2.trans (le12.trans hle3))) hown5
                      exact ⟨b.length, _, _, by simp at hk; omega, ⟨a', b', _, i1, i2, i3, i5, rfl⟩, ⟨rfl, rfl, by rw [i4]; rfl, trivial⟩, _, Split.one (.there .all)⟩
            · rw [if_neg hk2, List.append_nil] at hxd
              refine C.skip ?_
              refine Fin.blk ?_
              refine Fin.blk ?_
              refine Fin.th ?_
              refine C.region ?_
              refine G.value rfl rfl rfl (Sure.move rfl) ?_
              refine G.value rfl rfl rfl (Sure.add rfl rfl (inK64 (by omega))) ?_
              refine G.value rfl rfl rfl (Sure.assign rfl) ?_
              refine G.nil ?_
              refine Fin.th ?_
              rw [← hxd] at hown3
              obtain ⟨a', b', i1, i2, i3, i4, i5⟩ := hnext _ _ _ le2 hown3
              exact ⟨b.length, _, _, by simp at hk; omega, ⟨a', b', _, i1, i2, i3, i5, rfl⟩, ⟨rfl, rfl, by rw [i4]; rfl, trivial⟩, _, Split.one .here⟩
    · have hb0 : b = [] := List.eq_nil_of_length_eq_zero (by omega)
      subst hb0
      simp only [List.append_nil] at hab
      subst hab
      refine C.exit ?_
      refine Fin.th_exit ?_
      refine Fin.th_exit ?_
      refine Fin.blk_eq ?_
      refine Fin.th ?_
      refine C.region_seq ?_
      refine G.value rfl rfl rfl (Sure.move rfl) ?_
      refine G.value rfl rfl rfl (Sure.assign rfl) ?_
      refine G.nil ?_
      refine C.ret ?_
      exact Fin.fn (Res.tmp rfl rfl) (Split.one .all) hown
end Go.Proofs.YtaeeahcokiebdaaGreat

/-
  Appending where there is no room; slices with three indexes.
  Conditions: none; everything here is proved over any program.
-/
namespace Go.Proofs.YtaeeahcokiebdaaGreat
variable {P : Program}
section
variable {c : Cx} {E : Env} {M : Mem} {H : Heap} {d : Option Tmp} {ty : TypeId} {pos : String} {aft : Array Edge} {g : Option (Nat × Bool)} {next : Value → Mem → Heap → Prop}
/-- Appending to a slice that is full: a new block. -/
theorem Dyn.appendGrow {t t2 e sz bytes agg zz n xs x y p cp q m cap news} [ht : TyU P t (.slice e)] {d2 : TypeDesc} [ht2 : TyU P t2 d2]
    [he : TyI P e agg sz] [hz : TyZ P e zz] [hb : TyB P e bytes] (hd2 : ∀ k, d2 ≠ .int k) (hzs0 : Nat.beq zz.cells.size sz = true)
    (hx : eev E x = some (.slice p n cp)) (hy : eev E y = some (.slice q m cap)) (hsx : Sl M H sz p n xs) (hs : Sl M H sz q m news)
    (hroom : ¬ (n + m ≤ cp)) (hbytes : (n + m) * bytes ≤ 140737488355328) (h63 : n + m ≤ 9223372036854775807)
    (k : ∀ v' Hs', Own sz v' (n + m) (xs ++ news) Hs' → next v' M (Hs' ++ H)) :
    Dyn P c ⟨d, .call { callee := .builtin .append, args := #[x, y], argTypes := #[t, t2] }, ty, pos, aft, g⟩ E M H next := by
  have hzs := Nat.eq_of_beq_eq_true hzs0
  intro a w hav hst K Q hK
  have h2 := avail_ev hav (x := x) (by simp [Op.operands, Call.operands]) hx
  have h3 := avail_ev hav (x := y) (by simp [Op.operands, Call.operands]) hy
  obtain ⟨i, hi, hib⟩ := hb.bytes
  have hinfo : ∀ w, (typeInfo e).run P w = .ok i w := fun w => by simp [typeInfo, hi]
  have h63' : ¬ (9223372036854775807 < ((n : Int) + (m : Int))) := by omega
  have hfit : ¬ (281474976710656 < Builtin.nextslicecap (n + m) cp * i.bytes) := by
    have := growslice_fits (need := n + m) (old := cp) (bytes := i.bytes) (by omega) (by rw [hib]; exact hbytes); omega
  have hge : n + m ≤ grownCap w (n + m) cp e := grownCap_ge w _ _ _
  have hst2 := hst.drew
  have hf' := run_firstCells_sl (P := P) (cap := cp) hsx hst2.agr hst2.has
  have hx' := run_firstCells_sl (P := P) (cap := cap) hs hst2.agr hst2.has
  have hr : (execOp a.eval ⟨d, .call { callee := .builtin .append, args := #[x, y], argTypes := #[t, t2] }, ty, pos, aft, g⟩).run P w =
      .ok (.value (.slice (some ⟨w.heap.size, 0, Option.none⟩) (n + m) (grownCap w (n + m) cp e))) (w.drew.alloc (.cells ((xs ++ news) ++ (Builtin.zeroCells zz.cells (grownCap w (n + m) cp e - (n + m))).toList).toArray e)) := by
    simp [execOp, resolve, invoke, builtin, h2, h3, Builtin.append_, Builtin.lenOf, run_underlying ht.und, run_underlying ht2.und, he.sizeOf, hroom, h63', hinfo, hfit, Question.forced, hf', hx', hz.zero, newRow, grownCap]
    congr 2
    apply Array.ext'
    simp
  unfold Oper.wp
  rw [hr, Oper.upon_value]
  refine hK _ _ _ _ (hst2.new_cells _ e) (k _ [(w.heap.size, _)] ⟨by simp [hsx.1, hs.1, Nat.add_mul], .inr ⟨w.heap.size, _, _, rfl, hge, rfl, ?_⟩⟩)
  simp only [List.length_append, zeroCells_len, hzs, hsx.1, hs.1, ← Nat.add_mul]
  congr 1
  omega
theorem Sure.slice3' {t x y z e sz agg p n cap} {hi m : Nat} [ht : TyU P t (.slice e)] [he : TyI P e agg sz] (hx : eev E x = some (.slice p n cap)) (hy : eev E y = some (.int .i64 hi)) (hz : eev E z = some (.int .i64 m)) (h1 : hi ≤ m) (h2 : m ≤ cap) :
    Sure P ⟨d, .slice t x Option.none (some y) (some z), ty, pos, aft, g⟩ E M H (.slice (subP p m 0 sz) hi m) := by
  intro a w hav _ _
  have e1 := avail_ev hav (x := x) (by simp [Op.operands]) hx
  have e2 := avail_ev hav (x := y) (by simp [Op.operands]) hy
  have e3 := avail_ev hav (x := z) (by simp [Op.operands]) hz
  have hr : (Instr.sliceAt t (.slice p n cap) Option.none (some (.int .i64 hi)) (some (.int .i64 m))).run P w = .ok (.slice (subP p m 0 sz) hi m) w := by
    simp [Instr.sliceAt, Instr.slice, run_underlying ht.und, Instr.sliceBounds, Instr.sliceBound, asIntOf, h1, h2, he.sizeOf, subP]
  simp [execOp, e1, e2, e3, hr]
end
theorem Sl.part {M H sz p n xs} (h : Sl M H sz p n xs) {hi m : Nat} (h2 : hi ≤ n) (hm : hi ≤ m) : Sl M H sz (subP p m 0 sz) hi (xs.take (hi * sz)) := by
  have hb : hi * sz ≤ n * sz := Nat.mul_le_mul_right _ h2
  refine ⟨by rw [List.length_take, h.1]; omega, fun hpos => ?_⟩
  obtain ⟨b, o, c, rfl, h3, h4⟩ := h.2 (by omega)
  refine ⟨b, o, c, by unfold subP; split <;> simp [addr_add], h3, ?_⟩
  have := seg_sub h4 (k := 0) (m := hi * sz) (by omega)
  simpa using this
end Go.Proofs.YtaeeahcokiebdaaGreat

/-
  The walks of states, as the references have them: one inode put, one block bad.
  Conditions: a state has a few million inodes, and bad blocks, at most.
-/
namespace Go.Proofs.YtaeeahcokiebdaaGreat
set_option maxRecDepth 20000

/-- A slice of inodes that stays, and has its length as room. -/
theorem Own.cap_le {sz v n xs Hs} (h : Own sz v n xs Hs) : ∃ p cap, v = .slice p n cap ∧ n ≤ cap ∧ ∀ M, Sl M Hs sz p n xs := by
  obtain ⟨h1, h2⟩ := h
  rcases h2 with ⟨rfl, rfl, rfl⟩ | ⟨b, cap, junk, rfl, h3, rfl, h4⟩
  · exact ⟨Option.none, 0, rfl, by omega, fun M => ⟨h1, fun hn => absurd hn (by omega)⟩⟩
  · exact ⟨_, _, rfl, h3, fun M => ⟨h1, fun _ => ⟨b, 0, _, rfl, Rd.h0, by simpa [seg] using takeN_append h1⟩⟩⟩
theorem C.donateOwnC {P : Program} {c code Q E M H sz v n xs Hs R} (ho : Own sz v n xs Hs) (hp : PickL Hs H R)
    (h : ∀ M' p cap, MLe M M' → v = .slice p n cap → n ≤ cap → Sl M' [] sz p n xs → C P c code Q E M' R) : C P c code Q E M H := by
  obtain ⟨p, cap, hv, hc, _⟩ := ho.cap_le
  exact C.donateOwn ho hp fun M' p' cap' h1 h2 h3 => by
    have e := hv.symm.trans h2
    injection e with e1 _ e3
    subst e1
    subst e3
    exact h M' p cap h1 hv hc h3
theorem G.donateOwnC {P : Program} {c ops K l E M H sz v n xs Hs R} (ho : Own sz v n xs Hs) (hp : PickL Hs H R)
    (h : ∀ M' p cap, MLe M M' → v = .slice p n cap → n ≤ cap → Sl M' [] sz p n xs → G P c ops K l E M' R) : G P c ops K l E M H := by
  obtain ⟨p, cap, hv, hc, _⟩ := ho.cap_le
  exact G.donateOwn ho hp fun M' p' cap' h1 h2 h3 => by
    have e := hv.symm.trans h2
    injection e with e1 _ e3
    subst e1
    subst e3
    exact h M' p cap h1 hv hc h3
theorem ixOf_take {α : Type} {q : α → Bool} {l : List α} {i : Nat} (h1 : ∀ d ∈ l.take i, q d = false) (hi : i ≤ l.length) (h2 : i < l.length → ∃ x, l[i]? = some x ∧ q x = true) :
    ixOf q l = if i < l.length then (i : Int) else -1 := by
  by_cases hlt : i < l.length
  · rw [if_pos hlt]
    obtain ⟨x, hx, hq⟩ := h2 hlt
    have e : l = l.take i ++ x :: l.drop (i + 1) := by rw [← drop_cons hx, List.take_append_drop]
    rw [e, ixOf_at h1 hq]
    simp; omega
  · rw [if_neg hlt]
    refine ixOf_none fun d hd => h1 d ?_
    rwa [List.take_of_length_le (by omega)]
theorem putI_at {l : List Ino} {x : Ino} {i : Nat} (h1 : ∀ d ∈ l.take i, decide (d.no = x.no) = false) {y : Ino} (hy : l[i]? = some y) (h2 : y.no = x.no) : putI l x = l.set i x := by
  have hlt : i < l.length := (List.getElem?_eq_some_iff.1 hy).1
  have := ixOf_take (q := fun y : Ino => decide (y.no = x.no)) h1 (by omega) (fun _ => ⟨y, hy, decide_eq_true h2⟩)
  rw [if_pos hlt] at this
  unfold putI
  rw [this, if_pos (by omega)]
  rfl
theorem putI_new {l : List Ino} {x : Ino} {i : Nat} (h0 : ∀ d ∈ l, decide (d.no = x.no) = false) (h1 : ∀ d ∈ l.take i, decide (x.no < d.no) = false) (hi : i ≤ l.length) (h2 : i < l.length → ∃ y, l[i]? = some y ∧ decide (x.no < y.no) = true) :
    putI l x = l.take i ++ [x] ++ l.drop i := by
  have e0 := ixOf_none (q := fun y : Ino => decide (y.no = x.no)) h0
  have := ixOf_take (q := fun y : Ino => decide (x.no < y.no)) h1 hi h2
  unfold putI
  rw [e0, if_neg (by omega), this]
  by_cases hlt : i < l.length
  · rw [if_pos hlt, if_neg (by omega)]
    rfl
  · rw [if_neg hlt, if_pos (by omega), List.take_of_length_le (by omega), List.drop_eq_nil_of_le (by omega)]
    simp
theorem take_snoc {α : Type} {l : List α} {i : Nat} {x : α} (h : l[i]? = some x) : l.take (i + 1) = l.take i ++ [x] := by
  have hlt : i < l.length := (List.getElem?_eq_some_iff.1 h).1
  rw [List.take_add_one, h]
  rfl
theorem refPut1_spec (M : Mem) (p : Option Addr) (cap : Nat) (dl : List InoD) (x : InoD) (hs : RInos M p dl) (hc : dl.length ≤ cap) (hx : DOk M x) (hl : dl.length ≤ 2000000) :
    Spec Tryz.prog 59 [.slice p dl.length cap, .agg (inoDL x).toArray] M [] (fun v M' H => OwnI (putI (dl.map InoD.x) x.x) v M' H) := by
  have hfl := inos_len dl
  refine Spec.of_code 56 Tryz.func59 rfl callable59 rfl rfl fun w => ?_
  refine C.region_seq ?_
  refine G.dyn rfl rfl rfl ?_
  refine Dyn.boxAgg rfl ?_
  intro b3
  refine G.value rfl rfl rfl (Sure.assign rfl) ?_
  refine G.nil ?_
  refine C.region_seq ?_
  refine G.value rfl rfl rfl (Sure.move rfl) ?_
  refine G.dyn rfl rfl rfl ?_
  refine Dyn.append (xs := []) (n := 0) (fun k h => by cases h) rfl rfl rfl Own.nil (PickL.here (A := [])) (by have := hs.1.2; rw [List.length_map] at this; exact this.heap) (allOne_inos dl) (by omega) (by omega) ?_
  intro v1 Hs1 hown
  simp only [List.nil_append, Nat.zero_add] at hown
  obtain ⟨p1, c1, rfl, hc1, hsl⟩ := hown.cap_le
  refine G.value rfl rfl rfl (Sure.assign rfl) ?_
  refine G.nil ?_
  refine C.seq ?_
  refine C.region_seq ?_
  refine G.value rfl rfl rfl (Sure.assign rfl) ?_
  refine G.nil ?_
  refine C.block ?_
  refine C.loop (fun k E M' H => ∃ i : Nat, MLe M M' ∧ i + k = dl.length ∧ (∀ d ∈ (dl.map InoD.x).take i, decide (d.no = x.x.no) = false) ∧ E = [(0, .slice p dl.length cap), (3, ptr b3), (5, .slice p1 dl.length c1), (6, intV i)] ∧ H = Hs1 ++ [(b3, .cells (inoDL x))]) (dl.length) ?_ ?_
  · exact ⟨_, _, ⟨0, MLe.refl _, by omega, by simp, rfl, rfl⟩, ⟨rfl, rfl, rfl, rfl, trivial⟩, _, Split.consL .here (Split.cons (by first | exact .here | exact .there .here) Split.nil)⟩
  · rintro k E M' H ⟨i, hle, hik, hno, rfl, rfl⟩
    refine C.seq ?_
    refine C.region_seq ?_
    refine G.value rfl rfl rfl (Sure.move rfl) ?_
    refine G.value rfl rfl rfl (Sure.move rfl) ?_
    refine G.value rfl rfl rfl (Sure.len_slice rfl) ?_
    refine G.value rfl rfl rfl (Sure.lss rfl rfl) ?_
    refine G.nil ?_
    refine C.cond_dec rfl (fun hlt => ?_) (fun hlt => ?_)
    · obtain ⟨y, hy⟩ : ∃ y, dl[i]? = some y := ⟨dl[i]'(by omega), List.getElem?_eq_getElem (by omega)⟩
      have hsL : SlL M' (Hs1 ++ [(b3, .cells (inoDL x))]) 7 p1 (dl.map inoDL) := ⟨by intro e he; obtain ⟨z, _, rfl⟩ := List.mem_map.1 he; rfl, by rw [List.length_map]; exact (hsl M').incl (fun q hq => List.mem_append.2 (.inl hq))⟩
      obtain ⟨q1, o1, cc1, hq1, hrd1, hseg1⟩ := SlL.row (i := i) (e := inoDL y) hsL (by rw [List.getElem?_map, hy]; rfl)
      refine C.skip ?_
      refine Fin.th ?_
      refine C.seq ?_
      refine C.block ?_
      -- draws its order
      refine C.draw_seq ((Hs1 ++ [(b3, .cells (inoDL x))])) mixed (by kernel_rfl) (Incl.refl _) ?_
      refine GD.val 0 rfl rfl rfl rfl (by kernel_rfl) rfl (Sure.move rfl) ?_
      refine GD.val 1 rfl rfl rfl rfl (by kernel_rfl) rfl (Sure.move rfl) ?_
      refine GD.val 2 rfl rfl rfl rfl (by kernel_rfl) rfl (Sure.indexAddr (congrArg (fun q => some (Value.slice q dl.length c1)) hq1) rfl (by omega)) ?_
      refine GD.val 3 rfl rfl rfl rfl (by kernel_rfl) rfl (Sure.fieldAddr rfl) ?_
      refine GD.val 4 rfl rfl rfl rfl (by kernel_rfl) rfl (Sure.load rfl hrd1 (seg_one (k := 0) hseg1 rfl)) ?_
      refine GD.val 5 rfl rfl rfl rfl (by kernel_rfl) rfl (Sure.fieldAddr rfl) ?_
      refine GD.val 6 rfl rfl rfl rfl (by kernel_rfl) rfl (Sure.load rfl (Rd.over Rd.h0) rfl) ?_
      refine GD.val 7 rfl rfl rfl rfl (by kernel_rfl) rfl (Sure.eql rfl rfl) ?_
      refine GD.done (by kernel_rfl) (by kernel_rfl) ?_
      refine C.cond_dec rfl (fun heq => ?_) (fun heq => ?_)
      · obtain ⟨h1, h2⟩ := hown
        rcases h2 with ⟨_, hn0, _⟩ | ⟨b', cap', junk, hv, hcj, rfl, hlj⟩
        · omega
        · injection hv with hv1 hv2 hv3
          subst hv1
          simp only [Option.some.injEq, Addr.mk.injEq, and_true] at hq1
          obtain ⟨rfl, rfl⟩ := hq1
          refine C.region_seq ?_
          refine G.value rfl rfl rfl (Sure.move rfl) ?_
          refine G.value rfl rfl rfl (Sure.move rfl) ?_
          refine G.value rfl rfl rfl (Sure.loadAgg rfl rdx rfl) ?_
          refine G.value rfl rfl rfl (Sure.indexAddr rfl rfl (by omega)) ?_
          refine G.dyn0 rfl rfl ?_
          refine Dyn.storeAgg rfl rfl Pick.here rfl rfl (show setSeg _ (0 + i * 7) _ = _ by rw [Nat.zero_add]; exact flat_set inoDL 7 (fun _ => rfl) dl (by omega) x junk) ?_
          refine G.nil ?_
          refine C.region_seq ?_
          refine G.value rfl rfl rfl (Sure.move rfl) ?_
          refine G.value rfl rfl rfl (Sure.assign rfl) ?_
          refine G.nil ?_
          refine C.ret ?_
          refine Fin.blk_ret ?_
          refine Fin.th_ret ?_
          refine Fin.th_ret ?_
          refine Fin.blk_ret ?_
          refine Fin.th_ret ?_
          refine Fin.fn (Res.tmp rfl rfl) (Split.cons .here Split.nil) ⟨dl.set i x, ?_, ?_, ?_⟩
          · rw [List.map_set, putI_at hno (by rw [List.getElem?_map, hy]; rfl) heq]
          · intro d hd
            rcases List.mem_or_eq_of_mem_set hd with h | h
            · exact (hs.2 d h).mono hle
            · rw [h]; exact hx.mono hle
          · rw [List.length_set]
            exact ⟨by rw [inos_len, List.length_set], .inr ⟨b', c1, junk, rfl, hc1, rfl, by rw [List.length_append, inos_len, List.length_set]; rw [List.length_append, inos_len] at hlj; omega⟩⟩
      · refine C.skip ?_
        refine Fin.blk ?_
        refine Fin.th ?_
        refine C.region ?_
        refine G.value rfl rfl rfl (Sure.move rfl) ?_
        refine G.value rfl rfl rfl (Sure.add rfl rfl (inK64 (by omega))) ?_
        refine G.value rfl rfl rfl (Sure.assign rfl) ?_
        refine G.nil ?_
        refine Fin.th ?_
        refine ⟨k - 1, _, _, by omega, ⟨i + 1, hle, by omega, ?_, rfl, rfl⟩, ⟨rfl, rfl, rfl, rfl, trivial⟩, [], Split.consL .here (Split.cons .here Split.nil)⟩
        intro d hd
        rw [take_snoc (x := y.x) (by rw [List.getElem?_map, hy]; rfl)] at hd
        rcases List.mem_append.1 hd with h | h
        · exact hno d h
        · rw [List.mem_singleton.1 h]; exact decide_eq_false heq
    · have hi : i = dl.length := by omega
      subst hi
      rw [List.take_of_length_le (by simp)] at hno
      clear hlt hik
      refine C.exit ?_
      refine Fin.th_exit ?_
      refine Fin.th_exit ?_
      refine Fin.blk_eq ?_
      refine Fin.th ?_
      refine C.region_seq ?_
      refine G.value rfl rfl rfl (Sure.assign rfl) ?_
      refine G.nil ?_
      refine C.cut (fun E M2 H => ∃ i : Nat, MLe M' M2 ∧ i ≤ dl.length ∧ (∀ d ∈ (dl.map InoD.x).take i, decide (x.x.no < d.no) = false) ∧ (i < dl.length → ∃ y, (dl.map InoD.x)[i]? = some y ∧ decide (x.x.no < y.no) = true) ∧ esub [(0, .slice p dl.length cap), (3, ptr b3), (5, .slice p1 dl.length c1), (7, intV i)] E ∧ ∃ R, Split (Hs1 ++ [(b3, .cells (inoDL x))]) H R) ?_ ?_
      · refine C.block ?_
        refine C.loop (fun k E M2 H => ∃ i : Nat, MLe M' M2 ∧ i + k = dl.length ∧ (∀ d ∈ (dl.map InoD.x).take i, decide (x.x.no < d.no) = false) ∧ E = [(0, .slice p dl.length cap), (3, ptr b3), (5, .slice p1 dl.length c1), (7, intV i)] ∧ H = Hs1 ++ [(b3, .cells (inoDL x))]) (dl.length) ?_ ?_
        · exact ⟨_, _, ⟨0, MLe.refl _, by omega, by simp, rfl, rfl⟩, ⟨rfl, rfl, rfl, rfl, trivial⟩, [], Split.consL .here (Split.cons .here Split.nil)⟩
        · rintro k E M2 H ⟨i, hle2, hik, hni, rfl, rfl⟩
          refine C.seq ?_
          -- draws its order
          refine C.draw_seq ([(b3, .cells (inoDL x))]) mixed (by kernel_rfl) (by intro q hq; exact List.mem_append.2 (.inr hq)) ?_
          refine GD.val 0 rfl rfl rfl rfl (by kernel_rfl) rfl (Sure.move rfl) ?_
          refine GD.val 1 rfl rfl rfl rfl (by kernel_rfl) rfl (Sure.move rfl) ?_
          refine GD.val 2 rfl rfl rfl rfl (by kernel_rfl) rfl (Sure.len_slice rfl) ?_
          rcases Nat.lt_or_ge i dl.length with hlt | hlt
          · obtain ⟨y, hy⟩ : ∃ y, dl[i]? = some y := ⟨dl[i]'(by omega), List.getElem?_eq_getElem (by omega)⟩
            obtain ⟨q1, o1, cc1, hq1, hrd1, hseg1⟩ := SlL.row (i := i) (e := inoDL y) ((SlL.mono hs.1 (hle.trans hle2)).heap (H := [(b3, .cells (inoDL x))])) (by rw [List.getElem?_map, hy]; rfl)
            refine GD.val 3 rfl rfl rfl rfl (by kernel_rfl) rfl ((Sure.lss rfl rfl).to_t (by omega)) ?_
            refine GD.val 4 rfl rfl rfl rfl (by kernel_rfl) rfl (Sure.move rfl) ?_
            refine GD.val 5 rfl rfl rfl rfl (by kernel_rfl) rfl (Sure.move rfl) ?_
            refine GD.val 6 rfl rfl rfl rfl (by kernel_rfl) rfl (Sure.move rfl) ?_
            refine GD.val 7 rfl rfl rfl rfl (by kernel_rfl) rfl (Sure.indexAddr (congrArg (fun q => some (Value.slice q dl.length cap)) hq1) rfl (by omega)) ?_
            refine GD.val 8 rfl rfl rfl rfl (by kernel_rfl) rfl (Sure.fieldAddr rfl) ?_
            refine GD.val 9 rfl rfl rfl rfl (by kernel_rfl) rfl (Sure.load rfl hrd1 (seg_one (k := 0) hseg1 rfl)) ?_
            refine GD.val 10 rfl rfl rfl rfl (by kernel_rfl) rfl (Sure.fieldAddr rfl) ?_
            refine GD.val 11 rfl rfl rfl rfl (by kernel_rfl) rfl (Sure.load rfl rdx rfl) ?_
            refine GD.val 12 rfl rfl rfl rfl (by kernel_rfl) rfl (Sure.leq rfl rfl) ?_
            refine GD.val 13 rfl rfl rfl rfl (by kernel_rfl) rfl (Sure.pick_true rfl rfl) ?_
            refine GD.done (by kernel_rfl) (by kernel_rfl) ?_
            refine C.cond_dec rfl (fun hle3 => ?_) (fun hle3 => ?_)
            · refine C.skip ?_
              refine Fin.th ?_
              refine C.block ?_
              refine C.region ?_
              refine G.value rfl rfl rfl (Sure.move rfl) ?_
              refine G.value rfl rfl rfl (Sure.add rfl rfl (inK64 (by omega))) ?_
              refine G.value rfl rfl rfl (Sure.assign rfl) ?_
              refine G.nil ?_
              refine Fin.blk ?_
              refine Fin.th ?_
              refine ⟨k - 1, _, _, by omega, ⟨i + 1, hle2, by omega, ?_, rfl, rfl⟩, ⟨rfl, rfl, rfl, rfl, trivial⟩, [], Split.consL .here (Split.cons .here Split.nil)⟩
              intro d hd
              rw [take_snoc (x := y.x) (by rw [List.getElem?_map, hy]; rfl)] at hd
              rcases List.mem_append.1 hd with h | h
              · exact hni d h
              · rw [List.mem_singleton.1 h]; exact decide_eq_false (by omega)
            · refine C.exit ?_
              refine Fin.th_exit ?_
              refine Fin.th_exit ?_
              refine Fin.blk_eq ?_
              refine Fin.th ?_
              exact ⟨i, hle2, by omega, hni, fun _ => ⟨y.x, by rw [List.getElem?_map, hy]; rfl, decide_eq_true (by omega)⟩, ⟨rfl, rfl, rfl, rfl, trivial⟩, [], Split.consL .here (Split.cons .here Split.nil)⟩
          · skip
            refine GD.val 3 rfl rfl rfl rfl (by kernel_rfl) rfl ((Sure.lss rfl rfl).to_f (by omega)) ?_
            refine GD.val 4 rfl rfl rfl rfl (by kernel_rfl) rfl (Sure.move rfl) ?_
            refine GD.skip 5 rfl rfl rfl rfl (by kernel_rfl) rfl ?_
            refine GD.skip 6 rfl rfl rfl rfl (by kernel_rfl) rfl ?_
            refine GD.skip 7 rfl rfl rfl rfl (by kernel_rfl) rfl ?_
            refine GD.skip 8 rfl rfl rfl rfl (by kernel_rfl) rfl ?_
            refine GD.skip 9 rfl rfl rfl rfl (by kernel_rfl) rfl ?_
            refine GD.skip 10 rfl rfl rfl rfl (by kernel_rfl) rfl ?_
            refine GD.skip 11 rfl rfl rfl rfl (by kernel_rfl) rfl ?_
            refine GD.skip 12 rfl rfl rfl rfl (by kernel_rfl) rfl ?_
            refine GD.val 13 rfl rfl rfl rfl (by kernel_rfl) rfl (Sure.pick_false rfl rfl) ?_
            refine GD.done (by kernel_rfl) (by kernel_rfl) ?_
            refine C.cond_false rfl ?_
            refine C.exit ?_
            refine Fin.th_exit ?_
            refine Fin.th_exit ?_
            refine Fin.blk_eq ?_
            refine Fin.th ?_
            exact ⟨i, hle2, by omega, hni, fun h => absurd h (by omega), ⟨rfl, rfl, rfl, rfl, trivial⟩, [], Split.consL .here (Split.cons .here Split.nil)⟩
      · rintro E M2 H ⟨i, hle2, hi, hni, hiy, hsub, R, hspl⟩
        refine C.weak hsub (C.sub hspl ?_)
        clear hspl hsub
        have hs2 := hs.1.2.mono (hle.trans hle2)
        rw [List.length_map] at hs2
        have hdr := Sl.sub (cap := cap) hs2 hi (Nat.le_refl _) hc
        obtain ⟨ft1, ft2⟩ := flat_take inoDL 7 (fun _ => rfl) dl hi
        rw [ft2, List.take_of_length_le (by rw [inos_len, List.length_drop]; omega)] at hdr
        have htk : ∀ H : Heap, (∀ q ∈ Hs1, q ∈ H) → Sl M2 H 7 (subP p1 i 0 7) i ((dl.take i).map inoDL).flatten := by
          intro H hH
          have := (Sl.part (hi := i) (m := i) (hsl M2) hi (Nat.le_refl _)).incl hH
          rwa [ft1] at this
        -- draws its order
        refine C.draw_seq ([(b3, .cells (inoDL x))]) mixed (by kernel_rfl) (by intro q hq; exact List.mem_append.2 (.inr hq)) ?_
        refine GD.val 0 rfl rfl rfl rfl (by kernel_rfl) rfl (Sure.move rfl) ?_
        refine GD.val 1 rfl rfl rfl rfl (by kernel_rfl) rfl (Sure.move rfl) ?_
        refine GD.val 2 rfl rfl rfl rfl (by kernel_rfl) rfl (Sure.move rfl) ?_
        refine GD.val 3 rfl rfl rfl rfl (by kernel_rfl) rfl (Sure.slice3' rfl rfl rfl (Nat.le_refl _) (by omega)) ?_
        refine GD.val 4 rfl rfl rfl rfl (by kernel_rfl) rfl (Sure.loadAgg rfl rdx rfl) ?_
        refine GD.val 7 rfl rfl rfl rfl (by kernel_rfl) rfl (Sure.move rfl) ?_
        refine GD.val 8 rfl rfl rfl rfl (by kernel_rfl) rfl (Sure.move rfl) ?_
        refine GD.val 9 rfl rfl rfl rfl (by kernel_rfl) rfl (Sure.slice i dl.length rfl rfl rfl (.inl rfl) (.inr ⟨rfl, rfl⟩) hi hc) ?_
        refine GD.one 5 (by kernel_rfl) rfl rfl (by kernel_rfl) ?_
        refine Next.dyn 5 rfl rfl rfl (by kernel_rfl) (by kernel_rfl) rfl ?_
        refine Dyn.buildSlice rfl rfl rfl (by simp [vcl]) (by decide) ?_
        intro b50
        refine ⟨MLe.refl _, (by intro q hq; simp at hq ⊢; exact .inr (.inr hq)), ?_⟩
        refine GD.one 6 (by kernel_rfl) rfl rfl (by kernel_rfl) ?_
        refine Next.dyn 6 rfl rfl rfl (by kernel_rfl) (by kernel_rfl) rfl ?_
        refine Dyn.appendGrow (m := 1) (news := inoDL x) (fun k h => by cases h) rfl rfl rfl (htk _ (fun q hq => List.mem_cons_of_mem _ (List.mem_append.2 (.inl hq)))) ⟨rfl, fun _ => ⟨b50, 0, _, rfl, Rd.h0, rfl⟩⟩ (by omega) (by omega) (by omega) ?_
        intro v6 Hs6 hown6
        refine ⟨MLe.refl _, (by intro q hq; simp at hq ⊢; exact .inr (.inr (.inr hq))), ?_⟩
        refine GD.one 10 (by kernel_rfl) rfl rfl (by kernel_rfl) ?_
        refine Next.dyn 10 rfl rfl rfl (by kernel_rfl) (by kernel_rfl) rfl ?_
        refine Dyn.append (fun k h => by cases h) rfl rfl rfl hown6 .here (Sl.heap hdr) (allOne_inos _) (by omega) (by omega) ?_
        intro v10 Hs10 hown10
        refine ⟨MLe.refl _, (by intro q hq; simp at hq ⊢; exact .inr (.inr (.inr hq))), ?_⟩
        refine GD.one 11 (by kernel_rfl) rfl rfl (by kernel_rfl) ?_
        refine Next.dyn 11 rfl rfl rfl (by kernel_rfl) (by kernel_rfl) rfl (Dyn.assign rfl ?_)
        refine ⟨MLe.refl _, incx, ?_⟩
        refine GD.done (by kernel_rfl) (by kernel_rfl) ?_
        refine C.ret ?_
        refine Fin.fn (Res.tmp rfl rfl) (Split.one .here) ⟨dl.take i ++ [x] ++ dl.drop i, ?_, ?_, ?_⟩
        · rw [putI_new hno hni (by simpa using hi) (by simpa using hiy)]
          simp
        · intro d hd
          rcases List.mem_append.1 hd with h | h
          · rcases List.mem_append.1 h with h | h
            · exact (hs.2 d (List.mem_of_mem_take h)).mono (hle.trans hle2)
            · rw [List.mem_singleton.1 h]; exact hx.mono (hle.trans hle2)
          · exact (hs.2 d (List.mem_of_mem_drop h)).mono (hle.trans hle2)
        · have e1 : (dl.take i ++ [x] ++ dl.drop i).length = i + 1 + (dl.length - i) := by simp; omega
          have e2 : ((dl.take i ++ [x] ++ dl.drop i).map inoDL).flatten = ((dl.take i).map inoDL).flatten ++ inoDL x ++ ((dl.drop i).map inoDL).flatten := by simp
          rw [e1, e2]
          exact hown10
end Go.Proofs.YtaeeahcokiebdaaGreat

/-
  Plain laws: states whose inodes and blocks rise; a whole state, written, is read again.
-/
namespace Go.Proofs.YtaeeahcokiebdaaGreat

structure SOrd (s : Sta) : Prop where
  inos : s.inos.Pairwise fun a b => a.no < b.no
  bad : s.bad.Pairwise fun a b => a < b
structure StaR (s : Sta) : Prop where
  next : InR s.next
  inos : ∀ x ∈ s.inos, InoR x
  bad : ∀ n ∈ s.bad, InR n
theorem inR0 : InR 0 := ⟨by decide, by decide⟩
theorem inoR0 : InoR ino0 := ⟨inR0, inR0, inR0, inR0, by decide, by decide, by simp [ino0], by decide, by simp [ino0]⟩
theorem Canon.rng {d : Deed} (h : Canon d) : InR d.no ∧ InoR d.ino := by
  rcases h with ⟨_, h1, h2⟩ | ⟨_, h1, h2⟩
  · rw [h2]; exact ⟨h1, inoR0⟩
  · rw [h1]; exact ⟨inR0, h2⟩
theorem putI_end {l : List Ino} {x : Ino} (h : ∀ y ∈ l, y.no < x.no) : putI l x = l ++ [x] := by
  unfold putI
  rw [ixOf_none (q := fun y : Ino => decide (y.no = x.no)) (fun y hy => decide_eq_false (by have := h y hy; omega)), if_neg (by omega),
    ixOf_none (q := fun y : Ino => decide (x.no < y.no)) (fun y hy => decide_eq_false (by have := h y hy; omega)), if_pos (by omega)]
theorem badI_end {l : List Int} {x : Int} (h : ∀ y ∈ l, y < x) : badI l x = l ++ [x] := by
  unfold badI
  rw [ixOf_none (q := fun y : Int => decide (x = y)) (fun y hy => decide_eq_false (by have := h y hy; omega)), if_neg (by omega),
    ixOf_none (q := fun y : Int => decide (x < y)) (fun y hy => decide_eq_false (by have := h y hy; omega)), if_pos (by omega)]
/-- Where one belongs among those that rise. -/
theorem rise_split {α : Type} {f : α → Int} : ∀ {l : List α} (n : Int), (l.Pairwise fun a b => f a < f b) →
    ∃ a b, (∀ y ∈ a, f y < n) ∧ (∀ y ∈ b, n < f y) ∧ (l = a ++ b ∨ ∃ y, f y = n ∧ l = a ++ y :: b)
  | [], n, _ => ⟨[], [], by simp, by simp, .inl rfl⟩
  | x :: l, n, h => by
    rw [List.pairwise_cons] at h
    rcases Int.lt_trichotomy (f x) n with hx | hx | hx
    · obtain ⟨a, b, h1, h2, h3⟩ := rise_split n h.2
      refine ⟨x :: a, b, ?_, h2, ?_⟩
      · intro y hy
        rcases List.mem_cons.1 hy with rfl | hy
        · exact hx
        · exact h1 y hy
      · rcases h3 with h3 | ⟨y, hy, h3⟩
        · exact .inl (by rw [h3]; rfl)
        · exact .inr ⟨y, hy, by rw [h3]; rfl⟩
    · exact ⟨[], l, by simp, fun y hy => by have := h.1 y hy; omega, .inr ⟨x, hx, rfl⟩⟩
    · exact ⟨[], x :: l, by simp, fun y hy => by rcases List.mem_cons.1 hy with rfl | hy; exact hx; have := h.1 y hy; omega, .inl rfl⟩
theorem putI_rise {l : List Ino} (x : Ino) (h : l.Pairwise fun a b => a.no < b.no) : ∃ a b, (∀ y ∈ a, y.no < x.no) ∧ (∀ y ∈ b, x.no < y.no) ∧ (l = a ++ b ∨ ∃ y, y.no = x.no ∧ l = a ++ y :: b) ∧ putI l x = a ++ x :: b := by
  obtain ⟨a, b, h1, h2, h3⟩ := rise_split (f := Ino.no) x.no h
  refine ⟨a, b, h1, h2, h3, ?_⟩
  rcases h3 with h3 | ⟨y, hy, h3⟩
  · rw [h3, putI_new (i := a.length) (by
      intro d hd
      rcases List.mem_append.1 hd with hd | hd
      · exact decide_eq_false (by have := h1 d hd; omega)
      · exact decide_eq_false (by have := h2 d hd; omega)) (by
      intro d hd
      rw [List.take_left' rfl] at hd
      exact decide_eq_false (by have := h1 d hd; omega)) (by simp) (by
      intro hlt
      cases b with
      | nil => simp at hlt
      | cons z b => exact ⟨z, by simp, decide_eq_true (h2 z (by simp))⟩)]
    rw [List.take_left' rfl, List.drop_left' rfl]
    simp
  · rw [h3, putI_at (i := a.length) (y := y) (by
      intro d hd
      rw [List.take_left' rfl] at hd
      exact decide_eq_false (by have := h1 d hd; omega)) (by simp) hy]
    simp
theorem badI_rise {l : List Int} (x : Int) (h : l.Pairwise fun a b => a < b) : badI l x = l ∨ ∃ a b, (∀ y ∈ a, y < x) ∧ (∀ y ∈ b, x < y) ∧ l = a ++ b ∧ badI l x = a ++ x :: b := by
  obtain ⟨a, b, h1, h2, h3⟩ := rise_split (f := fun n : Int => n) x h
  rcases h3 with h3 | ⟨y, hy, h3⟩
  · right
    refine ⟨a, b, h1, h2, h3, ?_⟩
    have e1 := ixOf_none (q := fun y : Int => decide (x = y)) (a := l) (by
      intro d hd
      rw [h3] at hd
      rcases List.mem_append.1 hd with hd | hd
      · exact decide_eq_false (by have := h1 d hd; omega)
      · exact decide_eq_false (by have := h2 d hd; omega))
    have e2 := ixOf_take (q := fun y : Int => decide (x < y)) (l := l) (i := a.length) (by
      intro d hd
      rw [h3, List.take_left' rfl] at hd
      exact decide_eq_false (by have := h1 d hd; omega)) (by rw [h3]; simp) (by
      intro hlt
      rw [h3] at hlt ⊢
      cases b with
      | nil => simp at hlt
      | cons z b => exact ⟨z, by simp, decide_eq_true (h2 z (by simp))⟩)
    have hl : l.length = a.length + b.length := by rw [h3]; simp
    unfold badI
    by_cases hb : b = []
    · subst hb
      simp only [List.append_nil] at h3
      subst h3
      rw [if_neg (Nat.lt_irrefl _)] at e2
      rw [e1, if_neg (by omega), e2, if_pos (by omega)]
    · have : 0 < b.length := List.length_pos_iff.2 hb
      rw [if_pos (by omega)] at e2
      rw [e1, if_neg (by omega), e2, if_neg (by omega), h3]
      simp
  · left
    have hx : x ∈ l := by rw [h3]; simp; right; left; exact hy.symm
    unfold badI
    rw [if_pos]
    obtain ⟨i, hi, hxi⟩ := List.getElem_of_mem hx
    unfold ixOf
    cases hf : l.findIdx? (fun y => decide (x = y)) with
    | some j => simp
    | none =>
      rw [List.findIdx?_eq_none_iff] at hf
      have := hf x hx
      simp at this
theorem SOrd.apply1 {s : Sta} (h : SOrd s) (d : Deed) : SOrd (apply1 s d) := by
  unfold Go.Proofs.YtaeeahcokiebdaaGreat.apply1
  split
  · exact ⟨h.inos, h.bad⟩
  · split
    · refine ⟨?_, h.bad⟩
      obtain ⟨a, b, h1, h2, h3, h4⟩ := putI_rise d.ino h.inos
      dsimp only
      rw [h4]
      have hi := h.inos
      have hab : a.Pairwise (fun p q => p.no < q.no) ∧ b.Pairwise fun p q => p.no < q.no := by
        rcases h3 with h3 | ⟨y, _, h3⟩
        · rw [h3, List.pairwise_append] at hi; exact ⟨hi.1, hi.2.1⟩
        · rw [h3, List.pairwise_append, List.pairwise_cons] at hi; exact ⟨hi.1, hi.2.1.2⟩
      rw [List.pairwise_append, List.pairwise_cons]
      refine ⟨hab.1, ⟨h2, hab.2⟩, ?_⟩
      intro p hp q hq
      have := h1 p hp
      rcases List.mem_cons.1 hq with rfl | hq
      · exact this
      · have := h2 q hq; omega
    · split
      · exact ⟨h.inos.filter _, h.bad⟩
      · split
        · refine ⟨h.inos, ?_⟩
          dsimp only
          rcases badI_rise d.no h.bad with h1 | ⟨a, b, h1, h2, h3, h4⟩
          · rw [h1]; exact h.bad
          · have hi := h.bad
            rw [h3, List.pairwise_append] at hi
            rw [h4, List.pairwise_append, List.pairwise_cons]
            refine ⟨hi.1, ⟨h2, hi.2.1⟩, ?_⟩
            intro p hp q hq
            have := h1 p hp
            rcases List.mem_cons.1 hq with rfl | hq
            · exact this
            · have := h2 q hq; omega
        · exact h
theorem SOrd.applyL : ∀ (l : List Deed) {s : Sta}, SOrd s → SOrd (applyL s l)
  | [], _, h => h
  | d :: l, _, h => SOrd.applyL l (h.apply1 d)
theorem badI_mem {l : List Int} {x y : Int} (h : y ∈ badI l x) : y ∈ l ∨ y = x := by
  unfold badI at h
  split at h
  · exact .inl h
  · split at h
    · rcases List.mem_append.1 h with h | h
      · exact .inl h
      · exact .inr (List.mem_singleton.1 h)
    · rcases List.mem_append.1 h with h | h
      · rcases List.mem_append.1 h with h | h
        · exact .inl (List.mem_of_mem_take h)
        · exact .inr (List.mem_singleton.1 h)
      · exact .inl (List.mem_of_mem_drop h)
theorem StaR.apply1 {s : Sta} (h : StaR s) {d : Deed} (hd : InR d.no ∧ InoR d.ino) : StaR (apply1 s d) := by
  unfold Go.Proofs.YtaeeahcokiebdaaGreat.apply1
  split
  · exact ⟨hd.1, h.inos, h.bad⟩
  · split
    · refine ⟨h.next, fun x hx => ?_, h.bad⟩
      rcases putI_mem hx with hx | hx
      · exact h.inos x hx
      · rw [hx]; exact hd.2
    · split
      · exact ⟨h.next, fun x hx => h.inos x (List.mem_filter.1 hx).1, h.bad⟩
      · split
        · refine ⟨h.next, h.inos, fun x hx => ?_⟩
          rcases badI_mem hx with hx | hx
          · exact h.bad x hx
          · rw [hx]; exact hd.1
        · exact h
theorem StaR.applyL : ∀ (l : List Deed) {s : Sta}, StaR s → (∀ d ∈ l, InR d.no ∧ InoR d.ino) → StaR (applyL s l)
  | [], _, h, _ => h
  | d :: l, _, h, hd => StaR.applyL l (h.apply1 (hd d (by simp))) fun e he => hd e (by simp [he])
theorem whole_canon {s : Sta} (h : StaR s) : ∀ d ∈ whole s, Canon d := by
  intro d hd
  unfold whole at hd
  rcases List.mem_append.1 hd with hd | hd
  · rcases List.mem_cons.1 hd with hd | hd
    · rw [hd]; exact .inl ⟨.inl rfl, h.next, rfl⟩
    · obtain ⟨x, hx, rfl⟩ := List.mem_map.1 hd; exact .inr ⟨rfl, rfl, h.inos x hx⟩
  · obtain ⟨n, hn, rfl⟩ := List.mem_map.1 hd; exact .inl ⟨.inr (.inr rfl), h.bad n hn, rfl⟩
theorem applyL_app (s : Sta) (a b : List Deed) : applyL s (a ++ b) = applyL (applyL s a) b := by simp [applyL]
theorem applyL_inos : ∀ (l : List Ino) (s : Sta), ((s.inos ++ l).Pairwise fun a b => a.no < b.no) → applyL s (l.map fun x => (⟨2, 0, x⟩ : Deed)) = { s with inos := s.inos ++ l }
  | [], s, _ => by simp [applyL]
  | x :: l, s, h => by
    have h1 : putI s.inos x = s.inos ++ [x] := putI_end fun y hy => by
      rw [List.pairwise_append] at h
      exact h.2.2 y hy x (by simp)
    have e : applyL s ((x :: l).map fun x => (⟨2, 0, x⟩ : Deed)) = applyL { s with inos := s.inos ++ [x] } (l.map fun x => (⟨2, 0, x⟩ : Deed)) := by
      show applyL (apply1 s ⟨2, 0, x⟩) _ = _
      unfold apply1
      rw [if_neg (by show ¬ (2 : Int) = 1; decide), if_pos rfl, h1]
    rw [e, applyL_inos l _ (by simpa using h)]
    simp
theorem applyL_bad : ∀ (l : List Int) (s : Sta), ((s.bad ++ l).Pairwise fun a b => a < b) → applyL s (l.map fun n => (⟨4, n, ino0⟩ : Deed)) = { s with bad := s.bad ++ l }
  | [], s, _ => by simp [applyL]
  | x :: l, s, h => by
    have h1 : badI s.bad x = s.bad ++ [x] := badI_end fun y hy => by
      rw [List.pairwise_append] at h
      exact h.2.2 y hy x (by simp)
    have e : applyL s ((x :: l).map fun n => (⟨4, n, ino0⟩ : Deed)) = applyL { s with bad := s.bad ++ [x] } (l.map fun n => (⟨4, n, ino0⟩ : Deed)) := by
      show applyL (apply1 s ⟨4, x, ino0⟩) _ = _
      unfold apply1
      rw [if_neg (by show ¬ (4 : Int) = 1; decide), if_neg (by show ¬ (4 : Int) = 2; decide), if_neg (by show ¬ (4 : Int) = 3; decide), if_pos rfl, h1]
    rw [e, applyL_bad l _ (by simpa using h)]
    simp
/-- A whole state is that state. -/
theorem applyL_whole {s : Sta} (h : SOrd s) : applyL sta0 (whole s) = s := by
  have e : whole s = [⟨1, s.next, ino0⟩] ++ (s.inos.map fun x => (⟨2, 0, x⟩ : Deed)) ++ (s.bad.map fun n => (⟨4, n, ino0⟩ : Deed)) := by simp [whole]
  rw [e, applyL_app, applyL_app]
  have e1 : applyL sta0 [⟨1, s.next, ino0⟩] = ⟨s.next, [], []⟩ := rfl
  rw [e1, applyL_inos s.inos _ (by simpa using h.inos), applyL_bad s.bad _ (by simpa using h.bad)]
  rfl
theorem parse_whole {s : Sta} (h : StaR s) : parse (deedsB (whole s)) = some (whole s) := parse_written (whole_canon h)
end Go.Proofs.YtaeeahcokiebdaaGreat

/-
  Plain laws of chips whose power never falls.
-/
namespace Go.Proofs.YtaeeahcokiebdaaGreat

/-- Power that does not fall. -/
def Alive (p : Pw) : Prop := p.left = -1 ∧ p.off = false
theorem Alive.step {p : Pw} (h : Alive p) : p.step.2.1 = true ∧ Alive p.step.1 := by
  obtain ⟨h1, h2⟩ := h
  unfold Pw.step Alive
  rw [if_neg (by rw [h2]; decide), if_neg (by omega)]
  refine ⟨rfl, ?_, h2⟩
  dsimp only
  rw [if_neg (by omega)]
  exact h1
theorem prog_alive : ∀ (bs : List UInt8) (ch : Chip) (at_ : Nat), Alive ch.pw → at_ + bs.length ≤ ch.b.length →
    (ch.prog at_ bs).2 = 0 ∧ Alive (ch.prog at_ bs).1.pw ∧ (ch.prog at_ bs).1.b = ch.b.take at_ ++ bs ++ ch.b.drop (at_ + bs.length)
  | [], ch, a, h, hl => ⟨rfl, h, by simp [Chip.prog]⟩
  | x :: bs, ch, a, h, hl => by
    obtain ⟨h1, h2⟩ := h.step
    unfold Chip.prog
    rw [if_pos h1]
    have hl' : a + (bs.length + 1) ≤ ch.b.length := hl
    obtain ⟨e1, e2, e3⟩ := prog_alive bs { ch with pw := ch.pw.step.1, b := ch.b.set a x } (a + 1) h2 (by simp; omega)
    refine ⟨e1, e2, ?_⟩
    rw [e3]
    dsimp only
    rw [List.set_eq_take_append_cons_drop, if_pos (by omega)]
    have ht : (ch.b.take a).length = a := by simp; omega
    rw [List.take_append, List.take_of_length_le (by omega), ht, show a + 1 - a = 1 from by omega, List.take_succ_cons, List.take_zero]
    rw [List.drop_append, List.drop_eq_nil_of_le (by omega), ht, show a + 1 + bs.length - a = bs.length + 1 from by omega, List.drop_succ_cons, List.drop_drop]
    simp
    congr 1
    omega
/-- Bytes of a region that are all 255. -/
def Ff (b : List UInt8) (lo n : Nat) : Prop := ∀ i, lo ≤ i → i < lo + n → b[i]? = some 255
theorem setsBit_ff : ∀ (bs cs : List UInt8), (∀ i, i < bs.length → cs[i]? = some 255) → setsBit bs cs = false
  | [], _, _ => by unfold setsBit; rfl
  | x :: bs, [], h => by have := h 0 (by simp); simp at this
  | x :: bs, y :: cs, h => by
    have hy : y = 255 := by have := h 0 (by simp); simpa using this
    subst hy
    unfold setsBit
    rw [setsBit_ff bs cs (fun i hi => by have := h (i + 1) (by simp; omega); simpa using this)]
    have e : x &&& ~~~(255 : UInt8) = 0 := by
      have : ~~~(255 : UInt8) = 0 := by decide
      rw [this]
      apply UInt8.eq_of_toBitVec_eq
      simp
    rw [e]
    rfl
theorem program_alive {ch : Chip} {at_ : Nat} {bs : List UInt8} (h : Alive ch.pw) (hl : at_ + bs.length ≤ ch.b.length) (hf : Ff ch.b at_ bs.length) :
    (ch.program at_ bs).2 = 0 ∧ Alive (ch.program at_ bs).1.pw ∧ (ch.program at_ bs).1.b = ch.b.take at_ ++ bs ++ ch.b.drop (at_ + bs.length) := by
  unfold Chip.program
  rw [setsBit_ff bs (ch.b.drop at_) (fun i hi => by rw [List.getElem?_drop]; exact hf (at_ + i) (by omega) (by omega))]
  exact prog_alive bs ch at_ h hl
theorem Ff.after {b bs : List UInt8} {a lo n : Nat} (h : Ff b lo n) (hl : a + bs.length ≤ b.length) (ha : a + bs.length ≤ lo) : Ff (b.take a ++ bs ++ b.drop (a + bs.length)) lo n := by
  intro i h1 h2
  rw [List.getElem?_append_right (by simp; omega), List.getElem?_drop, ← h i h1 h2]
  congr 1
  simp
  omega
theorem Ff.sub {b : List UInt8} {lo n lo' n' : Nat} (h : Ff b lo n) (h1 : lo ≤ lo') (h2 : lo' + n' ≤ lo + n) : Ff b lo' n' := fun i h3 h4 => h i (by omega) (by omega)
theorem append_alive {ch : Chip} {h at_ : Nat} {b : List UInt8} (ha : Alive ch.pw) (hl : (h + 1) * hsz ch.g ≤ ch.b.length) (hfit : at_ + b.length + 7 ≤ hsz ch.g) (hs : b.length ≤ 65000)
    (hf : Ff ch.b (at_ + h * hsz ch.g) (hsz ch.g - at_)) :
    (ch.append h at_ b).2 = 0 ∧ Alive (ch.append h at_ b).1.pw ∧ Ff (ch.append h at_ b).1.b (at_ + (b.length + 7) + h * hsz ch.g) (hsz ch.g - (at_ + (b.length + 7))) := by
  have hbl := bodyB_len b
  have hm : (h + 1) * hsz ch.g = h * hsz ch.g + hsz ch.g := Nat.succ_mul _ _
  obtain ⟨p1, p2, p3⟩ := program_alive (bs := bodyB b) ha (by omega) (hf.sub (Nat.le_refl _) (by omega))
  have hlen := program_len ch (at_ + h * hsz ch.g) (bodyB b)
  have hf2 : Ff (ch.program (at_ + h * hsz ch.g) (bodyB b)).1.b (at_ + h * hsz ch.g + (bodyB b).length) (hsz ch.g - at_ - (bodyB b).length) := by
    rw [p3]
    exact (hf.sub (by omega) (by omega)).after (by omega) (Nat.le_refl _)
  obtain ⟨q1, q2, q3⟩ := program_alive (at_ := at_ + h * hsz ch.g + (bodyB b).length) (bs := [0]) p2 (by rw [hlen]; simp; omega) (hf2.sub (Nat.le_refl _) (by simp; omega))
  have e : ch.append h at_ b = (ch.program (at_ + h * hsz ch.g) (bodyB b)).1.program (at_ + h * hsz ch.g + (bodyB b).length) [0] := by
    unfold Chip.append
    rw [if_neg (by omega), if_neg (by omega), if_neg (by rw [p1]; decide)]
  rw [e]
  refine ⟨q1, q2, ?_⟩
  rw [q3]
  exact (hf2.sub (by omega) (by omega)).after (by rw [hlen]; simp; omega) (by simp; omega)
theorem orAt_get {b : List UInt8} {lo n i : Nat} {m : UInt8} (hl : lo + n ≤ b.length) : (orAt b lo n m)[i]? = if lo ≤ i ∧ i < lo + n then (b[i]?).map (· ||| m) else b[i]? := by
  unfold orAt
  by_cases h1 : i < lo
  · rw [List.getElem?_append_left (by simp; omega), if_neg (by omega), List.getElem?_take_of_lt h1]
  · rw [List.getElem?_append_right (by simp; omega)]
    have e1 : (b.take lo).length = lo := by simp; omega
    rw [e1]
    by_cases h2 : i < lo + n
    · rw [List.getElem?_append_left (by simp; omega), if_pos (by omega), List.getElem?_map, List.getElem?_take_of_lt (by omega), List.getElem?_drop, show lo + (i - lo) = i from by omega]
    · rw [List.getElem?_append_right (by simp; omega), if_neg (by omega), List.getElem?_drop]
      congr 1
      simp
      omega
theorem or255 (x : UInt8) : x ||| 255 = 255 := by
  apply UInt8.eq_of_toBitVec_eq
  have : (255 : UInt8).toBitVec = BitVec.allOnes 8 := by decide
  rw [UInt8.toBitVec_or, this, BitVec.or_allOnes]
theorem erase_alive {ad : Ad} {ch : Chip} {s : Nat} (hok : ChipOk ad ch) (hs : (s : Int) < ch.g.sectors) (ha : Alive ch.pw) :
    (ch.erase s).2 = 0 ∧ Alive (ch.erase s).1.pw ∧ Ff (ch.erase s).1.b (ch.lo s) ch.z ∧ ∀ lo n, Ff ch.b lo n → Ff (ch.erase s).1.b lo n := by
  obtain ⟨hz, hlo, hhi, hle, hz1, hz2, hs16⟩ := hok.sector hs
  obtain ⟨h1, h2⟩ := ha.step
  unfold Chip.erase
  rw [if_pos h1]
  refine ⟨rfl, h2, ?_, ?_⟩
  · intro i h3 h4
    dsimp only
    rw [orAt_get hle, if_pos ⟨h3, h4⟩, List.getElem?_eq_getElem (by omega)]
    simp [or255]
  · intro lo n hf i h3 h4
    dsimp only
    rw [orAt_get hle]
    split
    · rw [hf i h3 h4]; simp
    · exact hf i h3 h4
theorem wipeN_alive {ad : Ad} {n h : Nat} : ∀ (k : Nat) {ch : Chip}, ChipOk ad ch → k ≤ n → ((h * n + n : Nat) : Int) ≤ ch.g.sectors → Alive ch.pw →
    (wipeN n h k ch).2 = 0 ∧ Alive (wipeN n h k ch).1.pw ∧ (∀ lo m, Ff ch.b lo m → Ff (wipeN n h k ch).1.b lo m) ∧ ∀ s, h * n ≤ s → s < h * n + k → Ff (wipeN n h k ch).1.b (s * ch.z) ch.z
  | 0, ch, _, _, _, ha => ⟨rfl, ha, fun _ _ hf => hf, fun s h1 h2 => absurd h1 (by omega)⟩
  | k + 1, ch, hok, hk, hs, ha => by
    have hlt : ((h * n + k : Nat) : Int) < ch.g.sectors := by omega
    obtain ⟨e1, e2, e3, e4⟩ := erase_alive hok hlt ha
    have h1 := hok.erase hlt
    have h2 := erase_g ch (h * n + k)
    obtain ⟨w1, w2, w3, w4⟩ := wipeN_alive (n := n) (h := h) k h1 (by omega) (by rw [h2]; exact hs) e2
    have hz : (ch.erase (h * n + k)).1.z = ch.z := by unfold Chip.z; rw [h2]
    unfold wipeN
    rw [if_pos e1]
    refine ⟨w1, w2, fun lo m hf => w3 lo m (e4 lo m hf), fun s hs1 hs2 => ?_⟩
    by_cases hsk : s = h * n + k
    · subst hsk
      exact w3 _ _ e3
    · have := w4 s hs1 (by omega)
      rw [hz] at this
      exact this
theorem hsz_eq {g : Geo} (hg : GeoOk g) : hsz g = nsec g * g.sector.toNat := by
  have h1 := hg.s
  have h2 := hg.z
  unfold hsz nsec halfSize
  apply Int.ofNat_inj.1
  rw [Int.natCast_mul, Int.toNat_of_nonneg (Int.mul_nonneg (by omega) (by omega)), Int.toNat_of_nonneg (by omega), Int.toNat_of_nonneg (by omega)]
/-- A half that was wiped. -/
theorem wiped {ad : Ad} {ch : Chip} {h : Nat} (hok : ChipOk ad ch) (hh : h < 2) (ha : Alive ch.pw) :
    (wipeN (nsec ch.g) h (nsec ch.g) ch).2 = 0 ∧ Alive (wipeN (nsec ch.g) h (nsec ch.g) ch).1.pw ∧ Ff (wipeN (nsec ch.g) h (nsec ch.g) ch).1.b (h * hsz ch.g) (hsz ch.g) ∧ ∀ lo m, Ff ch.b lo m → Ff (wipeN (nsec ch.g) h (nsec ch.g) ch).1.b lo m := by
  have hns : ch.g.sectors = 2 * (nsec ch.g : Int) := by have := hok.geo.even; have := hok.geo.s; unfold nsec; omega
  have hhs : h * nsec ch.g ≤ nsec ch.g := by rcases (by omega : h = 0 ∨ h = 1) with h | h <;> rw [h] <;> omega
  obtain ⟨w1, w2, w3, w4⟩ := wipeN_alive (n := nsec ch.g) (h := h) (nsec ch.g) hok (Nat.le_refl _) (by omega) ha
  refine ⟨w1, w2, ?_, w3⟩
  intro i h1 h2
  have hz : 0 < ch.z := by have := hok.geo.z; unfold Chip.z; omega
  have he : hsz ch.g = nsec ch.g * ch.z := hsz_eq hok.geo
  rw [he, ← Nat.mul_assoc] at h1
  rw [he, ← Nat.mul_assoc, ← Nat.add_mul] at h2
  have hs1 : h * nsec ch.g ≤ i / ch.z := (Nat.le_div_iff_mul_le hz).2 h1
  have hs2 : i / ch.z < h * nsec ch.g + nsec ch.g := (Nat.div_lt_iff_lt_mul hz).2 h2
  have hm := Nat.div_add_mod i ch.z
  have hlt := Nat.mod_lt i hz
  rw [Nat.mul_comm] at hm
  exact w4 (i / ch.z) hs1 hs2 i (by omega) (by omega)
end Go.Proofs.YtaeeahcokiebdaaGreat

/-
  Plain laws of journals whose power never falls.
-/
namespace Go.Proofs.YtaeeahcokiebdaaGreat

/-- A journal in use, on a chip whose power does not fall. -/
structure Good (ad : Ad) (ch : Chip) (j : Jr) : Prop where
  ok : ChipOk ad ch
  alive : Alive ch.pw
  jok : JOk j ch.g
  ended : j.ended = false
  ff : Ff ch.b (j.used + j.half * hsz ch.g) (hsz ch.g - j.used)
theorem half_room {ad : Ad} {ch : Chip} (hok : ChipOk ad ch) {h : Nat} (hh : h < 2) : (h + 1) * hsz ch.g ≤ ch.b.length := by
  obtain ⟨hz, hz1, hz2, hz3⟩ := hsz_int hok.geo
  have hl := hok.len
  rcases (by omega : h = 0 ∨ h = 1) with rfl | rfl <;> omega
theorem anew_full {ch : Chip} {j : Jr} {s : Sta} (h : hsz ch.g < (firstB (j.epoch + 1) s).length + 7) : anewC ch j s = (ch, 10) ∧ anewJ ch j s = j := by
  unfold anewC anewJ
  rw [if_pos (.inl h), if_pos (.inl h)]
  exact ⟨rfl, rfl⟩
theorem anew_good {ad : Ad} {ch : Chip} {j : Jr} {s : Sta} (hg : Good ad ch j) (he : j.epoch < 2147483647) (hfit : (firstB (j.epoch + 1) s).length + 7 ≤ hsz ch.g) :
    (anewC ch j s).2 = 0 ∧ Good ad (anewC ch j s).1 (anewJ ch j s) ∧ (anewC ch j s).1.g = ch.g ∧ (anewJ ch j s).epoch = j.epoch + 1 := by
  obtain ⟨hz, hz1, hz2, hz3⟩ := hsz_int hg.ok.geo
  have hh := hg.jok.half
  have hep := hg.jok.epoch
  obtain ⟨w1, w2, w3, w4⟩ := wiped hg.ok (h := 1 - j.half) (by omega) hg.alive
  have hns : ch.g.sectors = 2 * (nsec ch.g : Int) := by have := hg.ok.geo.even; have := hg.ok.geo.s; unfold nsec; omega
  have hhs : (1 - j.half) * nsec ch.g ≤ nsec ch.g := by rcases (by omega : 1 - j.half = 0 ∨ 1 - j.half = 1) with h | h <;> rw [h] <;> omega
  have hw := wipeN_ok (n := nsec ch.g) (h := 1 - j.half) (nsec ch.g) hg.ok (Nat.le_refl _) (by omega)
  have hroom := half_room hw.1 (h := 1 - j.half) (by omega)
  obtain ⟨a1, a2, a3⟩ := append_alive (h := 1 - j.half) (at_ := 0) (b := firstB (j.epoch + 1) s) w2 hroom (by rw [hw.2]; omega) (by omega) (by rw [hw.2, Nat.zero_add]; exact w3)
  have ao := append_ok hw.1 (1 - j.half) 0 (firstB (j.epoch + 1) s)
  have hno : ¬ (hsz ch.g < (firstB (j.epoch + 1) s).length + 7 ∨ 2147483647 ≤ j.epoch) := by omega
  have hC : anewC ch j s = (wipeN (nsec ch.g) (1 - j.half) (nsec ch.g) ch).1.append (1 - j.half) 0 (firstB (j.epoch + 1) s) := by
    unfold anewC; rw [if_neg hno, if_neg (by rw [w1]; decide)]
  have hJ : anewJ ch j s = { j with half := 1 - j.half, epoch := j.epoch + 1, used := (firstB (j.epoch + 1) s).length + 7 } := by
    unfold anewJ; rw [if_neg hno, if_neg (by rw [hC, a1]; decide)]
  have hgg : (anewC ch j s).1.g = ch.g := by rw [hC, ao.2, hw.2]
  refine ⟨by rw [hC]; exact a1, ⟨by rw [hC]; exact ao.1, by rw [hC]; exact a2, ?_, by rw [hJ]; exact hg.ended, ?_⟩, hgg, by rw [hJ]⟩
  · rw [hgg, hJ]; exact ⟨by dsimp only; omega, by dsimp only; omega, hfit⟩
  · rw [hgg, hJ, hC]
    rw [hw.2, Nat.zero_add] at a3
    exact a3
theorem commit_good {ad : Ad} {ch : Chip} {j : Jr} {s : Sta} {l : List Deed} (hg : Good ad ch j) (he : j.epoch < 2147483647) :
    Good ad (commit ch j s l).1.1 (commit ch j s l).1.2.1 ∧ (commit ch j s l).1.1.g = ch.g ∧ (commit ch j s l).1.2.1.epoch ≤ j.epoch + 1 ∧
      (((commit ch j s l).2 = 0 ∧ (commit ch j s l).1.2.2 = applyL s l) ∨ ((commit ch j s l).2 = 10 ∧ (commit ch j s l).1.2.2 = s ∧ hsz ch.g < (firstB (j.epoch + 1) (applyL s l)).length + 7)) := by
  obtain ⟨hz, hz1, hz2, hz3⟩ := hsz_int hg.ok.geo
  have hnend : ¬ j.ended = true := by rw [hg.ended]; decide
  by_cases hbig : hsz ch.g < j.used + ((deedsB l).length + 7)
  · have hc : commit ch j s l = (((anewC ch j (applyL s l)).1, anewJ ch j (applyL s l), anewS ch j (applyL s l) s (applyL s l)), (anewC ch j (applyL s l)).2) := by
      unfold commit; rw [if_neg hnend, if_pos hbig]
    rw [hc]
    by_cases hf : hsz ch.g < (firstB (j.epoch + 1) (applyL s l)).length + 7
    · obtain ⟨e1, e2⟩ := anew_full hf
      unfold anewS
      rw [e1, e2]
      exact ⟨hg, rfl, by dsimp only; omega, .inr ⟨rfl, rfl, hf⟩⟩
    · obtain ⟨e1, e2, e3, e4⟩ := anew_good (s := applyL s l) hg he (by omega)
      refine ⟨e2, e3, by dsimp only; omega, .inl ⟨e1, ?_⟩⟩
      dsimp only
      unfold anewS
      rw [if_neg (by rw [e1]; decide)]
  · have hu := hg.jok.used
    obtain ⟨a1, a2, a3⟩ := append_alive (h := j.half) (at_ := j.used) (b := deedsB l) hg.alive (half_room hg.ok hg.jok.half) (by omega) (by omega) hg.ff
    have ao := append_ok hg.ok j.half j.used (deedsB l)
    have hc : commit ch j s l = (((ch.append j.half j.used (deedsB l)).1, { j with used := j.used + ((deedsB l).length + 7) }, applyL s l), 0) := by
      unfold commit; rw [if_neg hnend, if_neg hbig, if_neg (by rw [a1]; decide)]
    rw [hc]
    refine ⟨⟨ao.1, a2, ?_, hg.ended, ?_⟩, ao.2, by dsimp only; omega, .inl ⟨rfl, rfl⟩⟩
    · dsimp only
      rw [ao.2]
      exact ⟨hg.jok.half, hg.jok.epoch, by dsimp only; omega⟩
    · dsimp only
      rw [ao.2]
      exact a3
theorem fmt_good {ad : Ad} {ch : Chip} (hok : ChipOk ad ch) (ha : Alive ch.pw) : (fmt ch).2 = 0 ∧ Good ad (fmt ch).1 fmtJ ∧ (fmt ch).1.g = ch.g := by
  obtain ⟨hz, hz1, hz2, hz3⟩ := hsz_int hok.geo
  obtain ⟨hl1, hl2⟩ := firstR_len
  have t1 : wipeTo ch 1 = wipeN (nsec ch.g) 0 (nsec ch.g) ch := by
    unfold wipeTo wipeTo
    rw [if_neg (by simp)]
  obtain ⟨w1, w2, w3, w4⟩ := wiped hok (h := 0) (by omega) ha
  obtain ⟨ok1, g1⟩ := wipeTo_ok hok 1 (by omega)
  rw [t1] at ok1 g1
  obtain ⟨v1, v2, v3, v4⟩ := wiped ok1 (h := 1) (by omega) w2
  rw [g1] at v1 v2 v3 v4
  have t2 : wipeTo ch 2 = wipeN (nsec ch.g) 1 (nsec ch.g) (wipeN (nsec ch.g) 0 (nsec ch.g) ch).1 := by
    conv => lhs; unfold wipeTo
    rw [t1, if_neg (by rw [w1]; decide)]
  obtain ⟨ok2, g2⟩ := wipeTo_ok hok 2 (by omega)
  have hff := v4 _ _ w3
  rw [← t2] at v1 v2 hff
  have hroom := half_room ok2 (h := 0) (by omega)
  obtain ⟨a1, a2, a3⟩ := append_alive (h := 0) (at_ := 0) (b := firstB 1 staR) v2 hroom (by rw [g2]; omega) (by omega) (by rw [g2, Nat.zero_add]; exact hff)
  have ao := append_ok ok2 0 0 (firstB 1 staR)
  have hf : fmt ch = (wipeTo ch 2).1.append 0 0 (firstB 1 staR) := by unfold fmt; rw [if_neg (by rw [v1]; decide)]
  rw [hf]
  have hgg := ao.2.trans g2
  refine ⟨a1, ⟨ao.1, a2, ?_, rfl, ?_⟩, hgg⟩
  · rw [hgg]; exact ⟨by decide, by decide, by show (firstB 1 staR).length + 7 ≤ _; omega⟩
  · rw [hgg]
    rw [g2, Nat.zero_add] at a3
    exact a3
end Go.Proofs.YtaeeahcokiebdaaGreat

/-
  Plain laws: the bytes of a chip whose power does not fall; halves.
-/
namespace Go.Proofs.YtaeeahcokiebdaaGreat

/-- Bytes with others laid on them. -/
def lay (b : List UInt8) (a : Nat) (x : List UInt8) : List UInt8 := b.take a ++ x ++ b.drop (a + x.length)
theorem lay_get {b : List UInt8} {a : Nat} {x : List UInt8} (h : a + x.length ≤ b.length) (i : Nat) : (lay b a x)[i]? = if a ≤ i ∧ i < a + x.length then x[i - a]? else b[i]? := by
  unfold lay
  have e1 : (b.take a).length = a := by simp; omega
  by_cases h1 : i < a
  · rw [List.append_assoc, List.getElem?_append_left (by omega), if_neg (by omega), List.getElem?_take_of_lt h1]
  · by_cases h2 : i < a + x.length
    · rw [List.append_assoc, List.getElem?_append_right (by omega), List.getElem?_append_left (by omega), if_pos (by omega), e1]
    · rw [List.getElem?_append_right (by simp; omega), if_neg (by omega), List.getElem?_drop]
      congr 1
      simp
      omega
theorem lay_len {b : List UInt8} {a : Nat} {x : List UInt8} (h : a + x.length ≤ b.length) : (lay b a x).length = b.length := by
  unfold lay; simp; omega
theorem half_get (ch : Chip) (h i : Nat) : (ch.half h)[i]? = if i < hsz ch.g then ch.b[h * hsz ch.g + i]? else Option.none := by
  unfold Chip.half
  rw [List.getElem?_take]
  split
  · rw [List.getElem?_drop]
  · rfl
theorem half_lay_same {ad : Ad} {ch ch' : Chip} (hok : ChipOk ad ch) {h at_ : Nat} {x : List UInt8} (hh : h < 2) (hg : ch'.g = ch.g) (hb : ch'.b = lay ch.b (at_ + h * hsz ch.g) x) (hx : at_ + x.length ≤ hsz ch.g) :
    ch'.half h = lay (ch.half h) at_ x := by
  have hf := half_fit hok hh
  have hl := half_len hok hh
  apply List.ext_getElem?
  intro i
  rw [half_get, hg, hb, lay_get (by omega), lay_get (by omega), half_get]
  by_cases h1 : i < hsz ch.g
  · rw [if_pos h1, if_pos h1]
    by_cases h2 : at_ ≤ i ∧ i < at_ + x.length
    · rw [if_pos (by omega), if_pos h2]; congr 1; omega
    · rw [if_neg (by omega), if_neg h2]
  · rw [if_neg h1, if_neg (by omega), if_neg h1]
theorem half_lay_other {ad : Ad} {ch ch' : Chip} (hok : ChipOk ad ch) {h k at_ : Nat} {x : List UInt8} (hh : h < 2) (hk : k < 2) (hne : k ≠ h) (hg : ch'.g = ch.g) (hb : ch'.b = lay ch.b (at_ + h * hsz ch.g) x) (hx : at_ + x.length ≤ hsz ch.g) :
    ch'.half k = ch.half k := by
  have hf := half_fit hok hh
  apply List.ext_getElem?
  intro i
  rw [half_get, hg, hb, lay_get (by omega), half_get]
  by_cases h1 : i < hsz ch.g
  · rw [if_pos h1, if_pos h1, if_neg]
    rcases (by omega : h = 0 ∨ h = 1) with rfl | rfl <;> rcases (by omega : k = 0 ∨ k = 1) with rfl | rfl <;> omega
  · rw [if_neg h1, if_neg h1]
theorem append_bytes {ch : Chip} {h at_ : Nat} {b : List UInt8} (ha : Alive ch.pw) (hl : (h + 1) * hsz ch.g ≤ ch.b.length) (hfit : at_ + b.length + 7 ≤ hsz ch.g) (hs : b.length ≤ 65000)
    (hf : Ff ch.b (at_ + h * hsz ch.g) (hsz ch.g - at_)) : (ch.append h at_ b).1.b = lay ch.b (at_ + h * hsz ch.g) (recB b) := by
  have hbl := bodyB_len b
  have hm : (h + 1) * hsz ch.g = h * hsz ch.g + hsz ch.g := Nat.succ_mul _ _
  obtain ⟨p1, p2, p3⟩ := program_alive (bs := bodyB b) ha (by omega) (hf.sub (Nat.le_refl _) (by omega))
  have hlen := program_len ch (at_ + h * hsz ch.g) (bodyB b)
  have hf2 : Ff (ch.program (at_ + h * hsz ch.g) (bodyB b)).1.b (at_ + h * hsz ch.g + (bodyB b).length) (hsz ch.g - at_ - (bodyB b).length) := by
    rw [p3]
    exact (hf.sub (by omega) (by omega)).after (by omega) (Nat.le_refl _)
  obtain ⟨q1, q2, q3⟩ := program_alive (at_ := at_ + h * hsz ch.g + (bodyB b).length) (bs := [0]) p2 (by rw [hlen]; simp; omega) (hf2.sub (Nat.le_refl _) (by simp; omega))
  have e : ch.append h at_ b = (ch.program (at_ + h * hsz ch.g) (bodyB b)).1.program (at_ + h * hsz ch.g + (bodyB b).length) [0] := by
    unfold Chip.append
    rw [if_neg (by omega), if_neg (by omega), if_neg (by rw [p1]; decide)]
  rw [e, q3, p3]
  have h1 : at_ + h * hsz ch.g + (bodyB b).length ≤ ch.b.length := by omega
  generalize at_ + h * hsz ch.g = a at *
  have h2 : (ch.b.take a ++ bodyB b ++ ch.b.drop (a + (bodyB b).length)).take (a + (bodyB b).length) = ch.b.take a ++ bodyB b := List.take_left' (by simp; omega)
  have h3 : (ch.b.take a ++ bodyB b ++ ch.b.drop (a + (bodyB b).length)).drop (a + (bodyB b).length + ([0] : List UInt8).length) = ch.b.drop (a + (recB b).length) := by
    rw [← List.drop_drop, List.drop_left' (by simp; omega), List.drop_drop]
    congr 1
    rw [recB_len]
    simp
    omega
  rw [h2, h3]
  unfold lay recB
  simp
theorem ff_half {ad : Ad} {ch : Chip} (hok : ChipOk ad ch) {h at_ m : Nat} {A : List UInt8} (hh : h < 2) (he : ch.half h = A ++ List.replicate m 255) (hA : A.length = at_) : Ff ch.b (at_ + h * hsz ch.g) (hsz ch.g - at_) := by
  have hl := half_len hok hh
  intro i h1 h2
  have h3 := half_get ch h (i - h * hsz ch.g)
  rw [he] at hl h3
  simp at hl
  rw [if_pos (by omega), show h * hsz ch.g + (i - h * hsz ch.g) = i from by omega] at h3
  rw [← h3, List.getElem?_append_right (by omega), List.getElem?_replicate, if_pos (by omega)]
/-! ### Wiping -/
theorem erase_get {ad : Ad} {ch : Chip} {s : Nat} (hok : ChipOk ad ch) (hs : (s : Int) < ch.g.sectors) (ha : Alive ch.pw) (i : Nat) :
    (ch.erase s).1.b[i]? = if s * ch.z ≤ i ∧ i < s * ch.z + ch.z then (ch.b[i]?).map (fun _ => 255) else ch.b[i]? := by
  obtain ⟨hz, hlo, hhi, hle, hz1, hz2, hs16⟩ := hok.sector hs
  obtain ⟨h1, h2⟩ := ha.step
  have hl : ch.lo s = s * ch.z := rfl
  unfold Chip.erase
  rw [if_pos h1]
  dsimp only
  rw [orAt_get hle, hl]
  split
  · congr 1
    funext x
    exact or255 x
  · rfl
theorem wipeN_get {ad : Ad} {n h : Nat} : ∀ (k : Nat) {ch : Chip}, ChipOk ad ch → k ≤ n → ((h * n + n : Nat) : Int) ≤ ch.g.sectors → Alive ch.pw → ∀ i,
    (wipeN n h k ch).1.b[i]? = if h * n * ch.z ≤ i ∧ i < (h * n + k) * ch.z then (ch.b[i]?).map (fun _ => 255) else ch.b[i]?
  | 0, ch, _, _, _, _, i => by rw [if_neg (by rw [Nat.add_zero]; omega)]; rfl
  | k + 1, ch, hok, hk, hs, ha, i => by
    have hlt : ((h * n + k : Nat) : Int) < ch.g.sectors := by omega
    obtain ⟨e1, e2, e3, e4⟩ := erase_alive hok hlt ha
    have h1 := hok.erase hlt
    have h2 := erase_g ch (h * n + k)
    have hz : (ch.erase (h * n + k)).1.z = ch.z := by unfold Chip.z; rw [h2]
    have ih := wipeN_get (n := n) (h := h) k h1 (by omega) (by rw [h2]; exact hs) e2 i
    have hm1 : (h * n + (k + 1)) * ch.z = (h * n + k) * ch.z + ch.z := by rw [← Nat.add_assoc, Nat.succ_mul]
    have hm2 : h * n * ch.z ≤ (h * n + k) * ch.z := Nat.mul_le_mul_right _ (by omega)
    unfold wipeN
    rw [if_pos e1, ih, hz, erase_get hok hlt ha i]
    by_cases c1 : h * n * ch.z ≤ i ∧ i < (h * n + k) * ch.z
    · rw [if_pos c1, if_neg (by omega), if_pos (by omega)]
    · by_cases c2 : (h * n + k) * ch.z ≤ i ∧ i < (h * n + k) * ch.z + ch.z
      · rw [if_neg c1, if_pos c2, if_pos (by omega)]
      · rw [if_neg c1, if_neg c2, if_neg (by omega)]
/-- The halves behind the wiping of one. -/
theorem wiped_halves {ad : Ad} {ch : Chip} {h : Nat} (hok : ChipOk ad ch) (hh : h < 2) (ha : Alive ch.pw) :
    (wipeN (nsec ch.g) h (nsec ch.g) ch).1.half h = List.replicate (hsz ch.g) 255 ∧ ∀ k, k < 2 → k ≠ h → (wipeN (nsec ch.g) h (nsec ch.g) ch).1.half k = ch.half k := by
  have hns : ch.g.sectors = 2 * (nsec ch.g : Int) := by have := hok.geo.even; have := hok.geo.s; unfold nsec; omega
  have hhs : h * nsec ch.g ≤ nsec ch.g := by rcases (by omega : h = 0 ∨ h = 1) with h | h <;> rw [h] <;> omega
  have hwg := (wipeN_ok (n := nsec ch.g) (h := h) (nsec ch.g) hok (Nat.le_refl _) (by omega)).2
  have he : nsec ch.g * ch.z = hsz ch.g := (hsz_eq hok.geo).symm
  have hget := wipeN_get (n := nsec ch.g) (h := h) (nsec ch.g) hok (Nat.le_refl _) (by omega) ha
  have hf := half_fit hok hh
  have e1 : h * nsec ch.g * ch.z = h * hsz ch.g := by rw [Nat.mul_assoc, he]
  have e2 : (h * nsec ch.g + nsec ch.g) * ch.z = h * hsz ch.g + hsz ch.g := by rw [Nat.add_mul, e1, he]
  rw [e1, e2] at hget
  constructor
  · apply List.ext_getElem?
    intro i
    rw [half_get, hwg, List.getElem?_replicate]
    by_cases h1 : i < hsz ch.g
    · rw [if_pos h1, if_pos h1, hget, if_pos (by omega), List.getElem?_eq_getElem (by omega)]
      rfl
    · rw [if_neg h1, if_neg h1]
  · intro k hk hne
    apply List.ext_getElem?
    intro i
    rw [half_get, hwg, half_get, hget]
    by_cases h1 : i < hsz ch.g
    · rw [if_pos h1, if_pos h1, if_neg]
      rcases (by omega : h = 0 ∨ h = 1) with rfl | rfl <;> rcases (by omega : k = 0 ∨ k = 1) with rfl | rfl <;> omega
    · rw [if_neg h1, if_neg h1]
end Go.Proofs.YtaeeahcokiebdaaGreat

/-
  Plain laws: a journal on a chip whose power does not fall is found again as it was.
-/
namespace Go.Proofs.YtaeeahcokiebdaaGreat

/-- What stands in a half: records, the first of an epoch, that tell a state. -/
structure Told (b : List UInt8) (ep : Int) (used : Nat) (s : Sta) : Prop where
  recs : ∃ (x : List UInt8) (rest : List (List UInt8)) (m : Nat), b = ((x :: rest).map recB).flatten ++ List.replicate m 255 ∧ (∀ y ∈ x :: rest, y.length ≤ 65000) ∧ 8 ≤ x.length ∧ IntKind.i64.wrap (num (x.take 8)) = ep ∧
    readL 0 (x :: rest) (sta0, 0) = some (s, recsN (x :: rest)) ∧ used = recsN (x :: rest)
  ep : 0 < ep ∧ ep ≤ 2147483647
  room : 24 + wN s ≤ used
  ord : SOrd s
  rng : StaR s
theorem Told.read {b ep used s} (h : Told b ep used s) : readB b = ⟨ep, used, s, false⟩ := by
  obtain ⟨x, rest, m, hb, h1, h2, h3, h4, h5⟩ := h.recs
  rw [hb, readB_written h1 rfl h2 h3 h.ep h4, h5]
theorem firstB_len (ep : Int) (s : Sta) : (firstB ep s).length = 17 + wN s := by unfold firstB; rw [List.length_append, intB_len, whole_len]; omega
theorem epoch_first {ep : Int} (h : 0 ≤ ep ∧ ep ≤ 2147483647) (s : Sta) : IntKind.i64.wrap (num ((firstB ep s).take 8)) = ep := by
  have h1 : IntKind.u64.wrap ep = ep := inKu64 (by omega)
  have h2 : (firstB ep s).take 8 = le (IntKind.u64.wrap ep).toNat 8 := by unfold firstB; exact List.take_left' (by simp)
  rw [h2, h1, num_le_lt (by show ep.toNat < 18446744073709551616; omega)]
  rw [show ((ep.toNat : Nat) : Int) = ep from by omega]
  exact inK64 (by omega)
/-- One record of a whole state. -/
theorem told_first {ep : Int} {s : Sta} {m : Nat} (h : 0 < ep ∧ ep ≤ 2147483647) (ho : SOrd s) (hr : StaR s) (hl : (firstB ep s).length ≤ 65000) :
    Told (recB (firstB ep s) ++ List.replicate m 255) ep ((firstB ep s).length + 7) s := by
  have hfl := firstB_len ep s
  refine ⟨⟨firstB ep s, [], m, by simp, by simpa using hl, by omega, epoch_first (by omega) s, ?_, by simp [recsN]⟩, h, by omega, ho, hr⟩
  have hd : (firstB ep s).drop 8 = deedsB (whole s) := by unfold firstB; exact List.drop_left' (by simp)
  simp only [readL, if_true, hd, parse_whole hr, applyL_whole ho]
  simp [recsN]
theorem readL_snoc {d : List Deed} {x : List UInt8} (hp : parse x = some d) : ∀ (l : List (List UInt8)) (i : Nat) (r : Sta × Nat) (s : Sta), (i ≠ 0 ∨ l ≠ []) → readL i l r = some (s, r.2 + recsN l) → readL i (l ++ [x]) r = some (applyL s d, r.2 + recsN (l ++ [x]))
  | [], i, (r1, r2), s, hi, h => by
    have hi : i ≠ 0 := by rcases hi with h | h; exact h; exact absurd rfl h
    unfold readL at h
    injection h with h
    injection h with h1 h2
    subst h1
    rw [List.nil_append]
    unfold readL
    rw [if_neg hi, hp]
    simp only [readL]
    simp [recsN]
  | y :: l, i, r, s, _, h => by
    unfold readL at h
    rw [List.cons_append]
    unfold readL
    cases he : parse (if i = 0 then y.drop 8 else y) with
    | none =>
      rw [he] at h
      simp only at h
      split at h
      · cases h
      · injection h with h
        have := congrArg Prod.snd h
        rw [recsN_cons] at this
        dsimp only at this
        omega
    | some e =>
      rw [he] at h
      simp only at h ⊢
      rw [recsN_cons] at h
      have := readL_snoc hp l (i + 1) (applyL r.1 e, r.2 + (y.length + 7)) s (.inl (by omega)) (by rw [h]; congr 2; dsimp only; omega)
      rw [this, recsN_cons]
      congr 2
      dsimp only
      omega
/-- One more record. -/
theorem told_more {b b' : List UInt8} {ep : Int} {used : Nat} {s : Sta} {l : List Deed} (h : Told b ep used s) (hc : ∀ d ∈ l, Canon d) (hl : (deedsB l).length ≤ 65000) (hb : b' = lay b used (recB (deedsB l))) :
    Told b' ep (used + ((deedsB l).length + 7)) (applyL s l) := by
  obtain ⟨x, rest, m, e, h1, h2, h3, h4, h5⟩ := h.recs
  have hfl := recB_flat (x :: rest)
  have hbl : b.length = recsN (x :: rest) + m := by rw [e, List.length_append, hfl]; simp
  have hn : wN (applyL s l) ≤ wN s + (deedsB l).length := wN_applyL l s
  refine ⟨⟨x, rest ++ [deedsB l], m - ((deedsB l).length + 7), ?_, ?_, h2, h3, ?_, ?_⟩, h.ep, by have := h.room; omega, h.ord.applyL l, h.rng.applyL l fun d hd => (hc d hd).rng⟩
  · rw [hb, e]
    unfold lay
    rw [h5, List.take_left' hfl, ← List.drop_drop, List.drop_left' hfl, List.drop_replicate, recB_len]
    simp
  · intro y hy
    rcases List.mem_cons.1 hy with rfl | hy
    · exact h1 y (by simp)
    · rcases List.mem_append.1 hy with hy | hy
      · exact h1 y (by simp [hy])
      · rw [List.mem_singleton.1 hy]; exact hl
  · have := readL_snoc (parse_written hc) (x :: rest) 0 (sta0, 0) s (.inr (by simp)) (by rw [h4]; simp)
    simpa using this
  · rw [h5, ← List.cons_append, recsN_snoc]
/-- A journal, as its chip has it. -/
structure Kept (ch : Chip) (j : Jr) (s : Sta) : Prop where
  told : Told (ch.half j.half) j.epoch j.used s
  other : (readB (ch.half (1 - j.half))).epoch < j.epoch
theorem Kept.goodFf {ad : Ad} {ch : Chip} {j : Jr} {s : Sta} (h : Kept ch j s) (hok : ChipOk ad ch) (hj : JOk j ch.g) : Ff ch.b (j.used + j.half * hsz ch.g) (hsz ch.g - j.used) := by
  obtain ⟨x, rest, m, e, h1, h2, h3, h4, h5⟩ := h.told.recs
  exact ff_half hok hj.half e (by rw [recB_flat, h5])
theorem Kept.open {ch : Chip} {j : Jr} {s : Sta} (h : Kept ch j s) (hj : JOk j ch.g) (he : j.ended = false) : openC ch = ((ch, some (j, s)), 0) := by
  have h1 := h.told.read
  have h2 := h.other
  have h3 := h.told.ep
  have hh := hj.half
  obtain ⟨jh, je, ju, jn⟩ := j
  dsimp only at *
  subst he
  have b0 := (readB_n (ch.half 0)).1
  have b1 := (readB_n (ch.half 1)).1
  have hf : foundTo ch 2 = (⟨jh, je, ju, false⟩, s, false) := by
    rcases (by omega : jh = 0 ∨ jh = 1) with rfl | rfl
    · have h2' : (readB (ch.half 1)).epoch < je := h2
      unfold foundTo foundTo foundTo pickF
      rw [h1]
      dsimp only
      rw [if_pos h3.1]
      dsimp only
      rw [if_neg (by omega)]
    · have h2' : (readB (ch.half 0)).epoch < je := h2
      have h5 : (foundTo ch 1).1.epoch < je := by
        unfold foundTo foundTo pickF
        split
        · exact h2'
        · exact h3.1
      show pickF (foundTo ch 1) 1 (readB (ch.half 1)) = _
      unfold pickF
      rw [h1]
      dsimp only
      rw [if_pos h5]
  unfold openC
  rw [hf]
  dsimp only
  rw [if_neg (by omega), if_neg (by decide)]
theorem readB_blank (m : Nat) : readB (List.replicate m 255) = fnd0 := by
  unfold readB
  rw [recs_none (nextB_ff m)]
/-- The state is written anew into the other half. -/
theorem anew_kept {ad : Ad} {ch : Chip} {j : Jr} {s : Sta} (hok : ChipOk ad ch) (ha : Alive ch.pw) (hj : JOk j ch.g) (he : j.epoch < 2147483647) (hfit : (firstB (j.epoch + 1) s).length + 7 ≤ hsz ch.g) (ho : SOrd s) (hr : StaR s)
    (hcur : (readB (ch.half j.half)).epoch ≤ j.epoch) : (anewC ch j s).2 = 0 ∧ Kept (anewC ch j s).1 (anewJ ch j s) s ∧ ChipOk ad (anewC ch j s).1 ∧ Alive (anewC ch j s).1.pw ∧ (anewC ch j s).1.g = ch.g ∧
      anewJ ch j s = { j with half := 1 - j.half, epoch := j.epoch + 1, used := (firstB (j.epoch + 1) s).length + 7 } := by
  obtain ⟨hz, hz1, hz2, hz3⟩ := hsz_int hok.geo
  have hh := hj.half
  have hep := hj.epoch
  obtain ⟨w1, w2, w3, w4⟩ := wiped hok (h := 1 - j.half) (by omega) ha
  obtain ⟨v1, v2⟩ := wiped_halves hok (h := 1 - j.half) (by omega) ha
  have hns : ch.g.sectors = 2 * (nsec ch.g : Int) := by have := hok.geo.even; have := hok.geo.s; unfold nsec; omega
  have hhs : (1 - j.half) * nsec ch.g ≤ nsec ch.g := by rcases (by omega : 1 - j.half = 0 ∨ 1 - j.half = 1) with h | h <;> rw [h] <;> omega
  have hw := wipeN_ok (n := nsec ch.g) (h := 1 - j.half) (nsec ch.g) hok (Nat.le_refl _) (by omega)
  have hroom := half_room hw.1 (h := 1 - j.half) (by omega)
  obtain ⟨a1, a2, a3⟩ := append_alive (h := 1 - j.half) (at_ := 0) (b := firstB (j.epoch + 1) s) w2 hroom (by rw [hw.2]; omega) (by omega) (by rw [hw.2, Nat.zero_add]; exact w3)
  have ab := append_bytes (h := 1 - j.half) (at_ := 0) (b := firstB (j.epoch + 1) s) w2 hroom (by rw [hw.2]; omega) (by omega) (by rw [hw.2, Nat.zero_add]; exact w3)
  have ao := append_ok hw.1 (1 - j.half) 0 (firstB (j.epoch + 1) s)
  have hno : ¬ (hsz ch.g < (firstB (j.epoch + 1) s).length + 7 ∨ 2147483647 ≤ j.epoch) := by omega
  have hC : anewC ch j s = (wipeN (nsec ch.g) (1 - j.half) (nsec ch.g) ch).1.append (1 - j.half) 0 (firstB (j.epoch + 1) s) := by
    unfold anewC; rw [if_neg hno, if_neg (by rw [w1]; decide)]
  have hJ : anewJ ch j s = { j with half := 1 - j.half, epoch := j.epoch + 1, used := (firstB (j.epoch + 1) s).length + 7 } := by
    unfold anewJ; rw [if_neg hno, if_neg (by rw [hC, a1]; decide)]
  have hsame := half_lay_same hw.1 (h := 1 - j.half) (at_ := 0) (by omega) ao.2 ab (by rw [recB_len, hw.2]; omega)
  have hother := half_lay_other hw.1 (h := 1 - j.half) (k := j.half) (at_ := 0) (by omega) hh (by omega) ao.2 ab (by rw [recB_len, hw.2]; omega)
  rw [← hC] at hsame hother ao a1 a2
  rw [v1] at hsame
  rw [v2 j.half hh (by omega)] at hother
  refine ⟨a1, ⟨?_, ?_⟩, ao.1, a2, ao.2.trans hw.2, hJ⟩
  · rw [hJ]
    dsimp only
    rw [hsame]
    have : lay (List.replicate (hsz ch.g) 255) 0 (recB (firstB (j.epoch + 1) s)) = recB (firstB (j.epoch + 1) s) ++ List.replicate (hsz ch.g - ((firstB (j.epoch + 1) s).length + 7)) 255 := by
      unfold lay
      rw [List.drop_replicate, recB_len]
      simp
    rw [this]
    exact told_first (by omega) ho hr (by omega)
  · rw [hJ]
    dsimp only
    rw [show 1 - (1 - j.half) = j.half from by omega, hother]
    omega
/-- What committing leads to, where power does not fall. -/
theorem commit_kept {ad : Ad} {ch : Chip} {j : Jr} {s : Sta} {l : List Deed} (hok : ChipOk ad ch) (ha : Alive ch.pw) (hj : JOk j ch.g) (hn : j.ended = false) (he : j.epoch < 2147483647) (hk : Kept ch j s) (hc : ∀ d ∈ l, Canon d) :
    ((commit ch j s l).2 = 0 ∧ (commit ch j s l).1.2.2 = applyL s l ∧ (firstB 1 (applyL s l)).length + 7 ≤ hsz ch.g ∧ Kept (commit ch j s l).1.1 (commit ch j s l).1.2.1 (applyL s l) ∧ ChipOk ad (commit ch j s l).1.1 ∧ Alive (commit ch j s l).1.1.pw ∧
      JOk (commit ch j s l).1.2.1 ch.g ∧ (commit ch j s l).1.2.1.ended = false ∧ (commit ch j s l).1.1.g = ch.g ∧ (commit ch j s l).1.2.1.epoch ≤ j.epoch + 1) ∨
    ((commit ch j s l) = ((ch, j, s), 10) ∧ hsz ch.g < (firstB 1 (applyL s l)).length + 7) := by
  obtain ⟨hz, hz1, hz2, hz3⟩ := hsz_int hok.geo
  have hnend : ¬ j.ended = true := by rw [hn]; decide
  have hlen := half_len hok hj.half
  have f1 := firstB_len 1 (applyL s l)
  have f2 := firstB_len (j.epoch + 1) (applyL s l)
  have ho := hk.told.ord.applyL l
  have hr := hk.told.rng.applyL l fun d hd => (hc d hd).rng
  by_cases hbig : hsz ch.g < j.used + ((deedsB l).length + 7)
  · have hc' : commit ch j s l = (((anewC ch j (applyL s l)).1, anewJ ch j (applyL s l), anewS ch j (applyL s l) s (applyL s l)), (anewC ch j (applyL s l)).2) := by
      unfold commit; rw [if_neg hnend, if_pos hbig]
    by_cases hf : hsz ch.g < (firstB (j.epoch + 1) (applyL s l)).length + 7
    · obtain ⟨e1, e2⟩ := anew_full hf
      right
      rw [hc']
      unfold anewS
      rw [e1, e2]
      exact ⟨rfl, by omega⟩
    · obtain ⟨e1, e2, e3, e4, e5, e6⟩ := anew_kept hok ha hj he (by omega) ho hr (by rw [hk.told.read]; exact Int.le_refl _)
      left
      rw [hc']
      unfold anewS
      dsimp only
      rw [if_neg (by rw [e1]; decide)]
      refine ⟨e1, rfl, by omega, e2, e3, e4, ?_, ?_, e5, ?_⟩
      · rw [e6]; have := hj.half; have := hj.epoch; exact ⟨by dsimp only; omega, by dsimp only; omega, by dsimp only; omega⟩
      · rw [e6]; exact hn
      · rw [e6]; exact Int.le_refl _
  · have hff := hk.goodFf hok hj
    have hroom := half_room hok hj.half
    obtain ⟨a1, a2, a3⟩ := append_alive (h := j.half) (at_ := j.used) (b := deedsB l) ha hroom (by omega) (by omega) hff
    have ab := append_bytes (h := j.half) (at_ := j.used) (b := deedsB l) ha hroom (by omega) (by omega) hff
    have ao := append_ok hok j.half j.used (deedsB l)
    have hc' : commit ch j s l = (((ch.append j.half j.used (deedsB l)).1, { j with used := j.used + ((deedsB l).length + 7) }, applyL s l), 0) := by
      unfold commit; rw [if_neg hnend, if_neg hbig, if_neg (by rw [a1]; decide)]
    have hsame := half_lay_same hok hj.half ao.2 ab (by rw [recB_len]; omega)
    have hother := half_lay_other hok (k := 1 - j.half) hj.half (by have := hj.half; omega) (by have := hj.half; omega) ao.2 ab (by rw [recB_len]; omega)
    left
    rw [hc']
    dsimp only
    have hold := told_more hk.told hc (by omega) hsame
    refine ⟨rfl, rfl, ?_, ⟨hold, ?_⟩, ao.1, a2, ⟨hj.half, hj.epoch, by dsimp only; omega⟩, hn, ao.2, by omega⟩
    · have := hold.room; omega
    · dsimp only; rw [hother]; exact hk.other
theorem staR_ord : SOrd staR := ⟨by simp [staR], by simp [staR]⟩
theorem staR_rng : StaR staR := ⟨⟨by decide, by decide⟩, by intro x hx; simp [staR] at hx; subst hx; exact ⟨⟨by decide, by decide⟩, ⟨by decide, by decide⟩, ⟨by decide, by decide⟩, ⟨by decide, by decide⟩, by decide, by decide, by simp [inoR], by decide, by simp [inoR]⟩, by simp [staR]⟩
theorem fmt_kept {ad : Ad} {ch : Chip} (hok : ChipOk ad ch) (ha : Alive ch.pw) : (fmt ch).2 = 0 ∧ Kept (fmt ch).1 fmtJ staR ∧ ChipOk ad (fmt ch).1 ∧ Alive (fmt ch).1.pw ∧ (fmt ch).1.g = ch.g ∧ JOk fmtJ ch.g := by
  obtain ⟨hz, hz1, hz2, hz3⟩ := hsz_int hok.geo
  obtain ⟨hl1, hl2⟩ := firstR_len
  have t1 : wipeTo ch 1 = wipeN (nsec ch.g) 0 (nsec ch.g) ch := by
    unfold wipeTo wipeTo
    rw [if_neg (by simp)]
  obtain ⟨w1, w2, w3, w4⟩ := wiped hok (h := 0) (by omega) ha
  obtain ⟨x1, x2⟩ := wiped_halves hok (h := 0) (by omega) ha
  obtain ⟨ok1, g1⟩ := wipeTo_ok hok 1 (by omega)
  rw [t1] at ok1 g1
  obtain ⟨v1, v2, v3, v4⟩ := wiped ok1 (h := 1) (by omega) w2
  obtain ⟨y1, y2⟩ := wiped_halves ok1 (h := 1) (by omega) w2
  rw [g1] at v1 v2 v3 v4 y1 y2
  have t2 : wipeTo ch 2 = wipeN (nsec ch.g) 1 (nsec ch.g) (wipeN (nsec ch.g) 0 (nsec ch.g) ch).1 := by
    conv => lhs; unfold wipeTo
    rw [t1, if_neg (by rw [w1]; decide)]
  obtain ⟨ok2, g2⟩ := wipeTo_ok hok 2 (by omega)
  have hff := v4 _ _ w3
  have z0 : (wipeTo ch 2).1.half 0 = List.replicate (hsz ch.g) 255 := by rw [t2, y2 0 (by omega) (by omega), x1]
  have z1 : (wipeTo ch 2).1.half 1 = List.replicate (hsz ch.g) 255 := by rw [t2, y1]
  rw [← t2] at v1 v2 hff
  have hroom := half_room ok2 (h := 0) (by omega)
  obtain ⟨a1, a2, a3⟩ := append_alive (h := 0) (at_ := 0) (b := firstB 1 staR) v2 hroom (by rw [g2]; omega) (by omega) (by rw [g2, Nat.zero_add]; exact hff)
  have ab := append_bytes (h := 0) (at_ := 0) (b := firstB 1 staR) v2 hroom (by rw [g2]; omega) (by omega) (by rw [g2, Nat.zero_add]; exact hff)
  have ao := append_ok ok2 0 0 (firstB 1 staR)
  have hf : fmt ch = (wipeTo ch 2).1.append 0 0 (firstB 1 staR) := by unfold fmt; rw [if_neg (by rw [v1]; decide)]
  have hsame := half_lay_same ok2 (h := 0) (at_ := 0) (by omega) ao.2 ab (by rw [recB_len, g2]; omega)
  have hother := half_lay_other ok2 (h := 0) (k := 1) (at_ := 0) (by omega) (by omega) (by omega) ao.2 ab (by rw [recB_len, g2]; omega)
  rw [← hf] at hsame hother ao a1 a2
  rw [z0] at hsame
  rw [z1] at hother
  refine ⟨a1, ⟨?_, ?_⟩, ao.1, a2, ao.2.trans g2, ⟨by decide, by decide, by show (firstB 1 staR).length + 7 ≤ _; omega⟩⟩
  · show Told ((fmt ch).1.half 0) 1 ((firstB 1 staR).length + 7) staR
    rw [hsame]
    have : lay (List.replicate (hsz ch.g) 255) 0 (recB (firstB 1 staR)) = recB (firstB 1 staR) ++ List.replicate (hsz ch.g - ((firstB 1 staR).length + 7)) 255 := by
      unfold lay
      rw [List.drop_replicate, recB_len]
      simp
    rw [this]
    exact told_first (by omega) staR_ord staR_rng (by omega)
  · show (readB ((fmt ch).1.half 1)).epoch < 1
    rw [hother, readB_blank]
    decide
end Go.Proofs.YtaeeahcokiebdaaGreat

/-
  The walks of states behind deeds, as the references have them.
  Conditions: a state has a million inodes, and bad blocks, at most; deeds are a hundred thousand at most.
-/
namespace Go.Proofs.YtaeeahcokiebdaaGreat
set_option maxRecDepth 20000

theorem in_spec (M : Mem) (p : Option Addr) (cap : Nat) (l : List Int) (x : Int) (Hl : Heap) (hs : Sl M Hl 1 p l.length (l.map intV)) (hl : l.length ≤ 1000000000) :
    Spec Tryz.prog 97 [.slice p l.length cap, intV x] M Hl (fun v _ H => v = .bool (decide (0 ≤ ixOf (fun y => decide (x = y)) l)) ∧ H = Hl) := by
  refine Spec.of_code 18 Tryz.func97 rfl callable97 rfl rfl fun w => ?_
  refine C.region_seq ?_
  refine G.value rfl rfl rfl (Sure.assign rfl) ?_
  refine G.nil ?_
  refine C.seq ?_
  refine C.region_seq ?_
  refine G.value rfl rfl rfl (Sure.assign rfl) ?_
  refine G.nil ?_
  refine C.block ?_
  refine C.loop (fun k E M' H => ∃ i : Nat, MLe M M' ∧ i + k = l.length ∧ (∀ d ∈ l.take i, decide (x = d) = false) ∧ E = [(0, .slice p l.length cap), (1, intV x), (5, intV i)] ∧ H = Hl) (l.length) ?_ ?_
  · exact ⟨_, _, ⟨0, MLe.refl _, by omega, by simp, rfl, rfl⟩, ⟨rfl, rfl, rfl, trivial⟩, _, Split.one .all⟩
  · rintro k E M' H ⟨i, hle, hik, hno, rfl, rfl⟩
    refine C.seq ?_
    refine C.region_seq ?_
    refine G.value rfl rfl rfl (Sure.move rfl) ?_
    refine G.value rfl rfl rfl (Sure.move rfl) ?_
    refine G.value rfl rfl rfl (Sure.len_slice rfl) ?_
    refine G.value rfl rfl rfl (Sure.lss rfl rfl) ?_
    refine G.nil ?_
    refine C.cond_dec rfl (fun hlt => ?_) (fun hlt => ?_)
    · obtain ⟨y, hy⟩ : ∃ y, l[i]? = some y := ⟨l[i]'(by omega), List.getElem?_eq_getElem (by omega)⟩
      obtain ⟨q', o, c, hq, hrd, hcell⟩ := Sl.cell (i := i) (v := intV y) (hs.mono hle) (by rw [List.getElem?_map, hy]; rfl)
      subst hq
      refine C.skip ?_
      refine Fin.th ?_
      refine C.seq ?_
      refine C.block ?_
      refine C.region_seq ?_
      refine G.value rfl rfl rfl (Sure.move rfl) ?_
      refine G.value rfl rfl rfl (Sure.move rfl) ?_
      refine G.value rfl rfl rfl (Sure.indexAddr rfl rfl (by omega)) ?_
      refine G.value rfl rfl rfl (Sure.load rfl hrd hcell) ?_
      refine G.value rfl rfl rfl (Sure.move rfl) ?_
      refine G.value rfl rfl rfl (Sure.eql rfl rfl) ?_
      refine G.nil ?_
      refine C.cond_dec rfl (fun heq => ?_) (fun heq => ?_)
      · have hix := ixOf_take (q := fun y => decide (x = y)) hno (by omega) (fun _ => ⟨y, hy, decide_eq_true heq.symm⟩)
        rw [if_pos (by omega)] at hix
        rw [decide_eq_true (show 0 ≤ ixOf (fun y => decide (x = y)) l by rw [hix]; omega)]
        refine C.region_seq ?_
        refine G.value rfl rfl rfl (Sure.assign rfl) ?_
        refine G.nil ?_
        refine C.ret ?_
        refine Fin.blk_ret ?_
        refine Fin.th_ret ?_
        refine Fin.th_ret ?_
        refine Fin.blk_ret ?_
        refine Fin.th_ret ?_
        exact Fin.fn (Res.tmp rfl rfl) (Split.one .all) ⟨rfl, rfl⟩
      · refine C.skip ?_
        refine Fin.blk ?_
        refine Fin.th ?_
        refine C.region ?_
        refine G.value rfl rfl rfl (Sure.move rfl) ?_
        refine G.value rfl rfl rfl (Sure.add rfl rfl (inK64 (by omega))) ?_
        refine G.value rfl rfl rfl (Sure.assign rfl) ?_
        refine G.nil ?_
        refine Fin.th ?_
        refine ⟨k - 1, _, _, by omega, ⟨i + 1, hle, by omega, ?_, rfl, rfl⟩, ⟨rfl, rfl, rfl, trivial⟩, _, Split.one .all⟩
        intro d hd
        rw [take_snoc hy] at hd
        rcases List.mem_append.1 hd with h | h
        · exact hno d h
        · rw [List.mem_singleton.1 h]; exact decide_eq_false (fun e => heq e.symm)
    · have hix := ixOf_none (q := fun y => decide (x = y)) (a := l) (by rw [List.take_of_length_le (by omega)] at hno; exact hno)
      rw [decide_eq_false (show ¬ 0 ≤ ixOf (fun y => decide (x = y)) l by rw [hix]; omega)]
      refine C.exit ?_
      refine Fin.th_exit ?_
      refine Fin.th_exit ?_
      refine Fin.blk_eq ?_
      refine Fin.th ?_
      refine C.region_seq ?_
      refine G.value rfl rfl rfl (Sure.assign rfl) ?_
      refine G.nil ?_
      refine C.ret ?_
      exact Fin.fn (Res.tmp rfl rfl) (Split.one .all) ⟨rfl, rfl⟩
/-- Numbers that stay, and have their length as room. -/
def RetI (l : List Int) (v : Value) (M : Mem) (H : Heap) : Prop := H = [] ∧ ∃ p c, v = .slice p l.length c ∧ l.length ≤ c ∧ Sl M [] 1 p l.length (l.map intV)
theorem refBad_spec (M : Mem) (p : Option Addr) (cap : Nat) (l : List Int) (x : Int) (hs : Sl M [] 1 p l.length (l.map intV)) (hc : l.length ≤ cap) (hl : l.length ≤ 2000000) :
    Spec Tryz.prog 60 [.slice p l.length cap, intV x] M [] (fun v M' H => RetI (badI l x) v M' H) := by
  refine Spec.of_code 35 Tryz.func60 rfl callable60 rfl rfl fun w => ?_
  refine C.region_seq ?_
  refine G.value rfl rfl rfl (Sure.assign rfl) ?_
  refine G.nil ?_
  refine C.seq ?_
  refine C.region_seq ?_
  refine G.value rfl rfl rfl (Sure.move rfl) ?_
  refine G.value rfl rfl rfl (Sure.move rfl) ?_
  refine G.call rfl rfl rfl rfl rfl rfl (in_spec M p cap l x [] hs (by omega)) (Split.nil) ?_
  rintro _ M1 _ le1 ⟨rfl, rfl⟩
  refine G.nil ?_
  refine C.cond_dec rfl (fun hin => ?_) (fun hin => ?_)
  · have hb : badI l x = l := by unfold badI; rw [if_pos hin]
    rw [hb]
    refine C.region_seq ?_
    refine G.value rfl rfl rfl (Sure.move rfl) ?_
    refine G.value rfl rfl rfl (Sure.assign rfl) ?_
    refine G.nil ?_
    refine C.ret ?_
    refine Fin.th_ret ?_
    exact Fin.fn (Res.tmp rfl rfl) Split.nil ⟨rfl, p, cap, rfl, hc, hs.mono le1⟩
  · refine C.skip ?_
    refine Fin.th ?_
    refine C.region_seq ?_
    refine G.value rfl rfl rfl (Sure.assign rfl) ?_
    refine G.nil ?_
    refine C.cut (fun E M2 H => ∃ i : Nat, MLe M1 M2 ∧ i ≤ l.length ∧ (∀ d ∈ l.take i, decide (x < d) = false) ∧ (i < l.length → ∃ y, l[i]? = some y ∧ decide (x < y) = true) ∧ esub [(0, .slice p l.length cap), (1, intV x), (5, intV i)] E) ?_ ?_
    · refine C.block ?_
      refine C.loop (fun k E M2 H => ∃ i : Nat, MLe M1 M2 ∧ i + k = l.length ∧ (∀ d ∈ l.take i, decide (x < d) = false) ∧ E = [(0, .slice p l.length cap), (1, intV x), (5, intV i)] ∧ H = []) (l.length) ?_ ?_
      · exact ⟨_, _, ⟨0, MLe.refl _, by omega, by simp, rfl, rfl⟩, ⟨rfl, rfl, rfl, trivial⟩, [], Split.nil⟩
      · rintro k E M2 H ⟨i, hle2, hik, hni, rfl, rfl⟩
        refine C.seq ?_
        refine C.region_seq ?_
        refine G.value rfl rfl rfl (Sure.move rfl) ?_
        refine G.value rfl rfl rfl (Sure.move rfl) ?_
        refine G.value rfl rfl rfl (Sure.len_slice rfl) ?_
        rcases Nat.lt_or_ge i l.length with hlt | hlt
        · obtain ⟨y, hy⟩ : ∃ y, l[i]? = some y := ⟨l[i]'(by omega), List.getElem?_eq_getElem (by omega)⟩
          obtain ⟨q', o, c, hq, hrd, hcell⟩ := Sl.cell (i := i) (v := intV y) (hs.mono (le1.trans hle2)) (by rw [List.getElem?_map, hy]; rfl)
          refine G.value rfl rfl rfl ((Sure.lss rfl rfl).to_t (by omega)) ?_
          refine G.value rfl rfl rfl (Sure.move rfl) ?_
          refine G.value rfl rfl rfl (Sure.move rfl) ?_
          refine G.value rfl rfl rfl (Sure.move rfl) ?_
          refine G.value rfl rfl rfl (Sure.indexAddr (congrArg (fun q => some (Value.slice q l.length cap)) hq) rfl (by omega)) ?_
          refine G.value rfl rfl rfl (Sure.load rfl hrd hcell) ?_
          refine G.value rfl rfl rfl (Sure.move rfl) ?_
          refine G.value rfl rfl rfl (Sure.leq rfl rfl) ?_
          refine G.value rfl rfl rfl (Sure.pick_true rfl rfl) ?_
          refine G.nil ?_
          refine C.cond_dec rfl (fun hle3 => ?_) (fun hle3 => ?_)
          · refine C.skip ?_
            refine Fin.th ?_
            refine C.block ?_
            refine C.region ?_
            refine G.value rfl rfl rfl (Sure.move rfl) ?_
            refine G.value rfl rfl rfl (Sure.add rfl rfl (inK64 (by omega))) ?_
            refine G.value rfl rfl rfl (Sure.assign rfl) ?_
            refine G.nil ?_
            refine Fin.blk ?_
            refine Fin.th ?_
            refine ⟨k - 1, _, _, by omega, ⟨i + 1, hle2, by omega, ?_, rfl, rfl⟩, ⟨rfl, rfl, rfl, trivial⟩, [], Split.nil⟩
            intro d hd
            rw [take_snoc hy] at hd
            rcases List.mem_append.1 hd with h | h
            · exact hni d h
            · rw [List.mem_singleton.1 h]; exact decide_eq_false (by omega)
          · refine C.exit ?_
            refine Fin.th_exit ?_
            refine Fin.th_exit ?_
            refine Fin.blk_eq ?_
            refine Fin.th ?_
            exact ⟨i, hle2, by omega, hni, fun _ => ⟨y, hy, decide_eq_true (by omega)⟩, ⟨rfl, rfl, rfl, trivial⟩⟩
        · skip
          refine G.value rfl rfl rfl ((Sure.lss rfl rfl).to_f (by omega)) ?_
          refine G.value rfl rfl rfl (Sure.move rfl) ?_
          refine G.skip rfl rfl rfl ?_
          refine G.skip rfl rfl rfl ?_
          refine G.skip rfl rfl rfl ?_
          refine G.skip rfl rfl rfl ?_
          refine G.skip rfl rfl rfl ?_
          refine G.skip rfl rfl rfl ?_
          refine G.value rfl rfl rfl (Sure.pick_false rfl rfl) ?_
          refine G.nil ?_
          refine C.cond_false rfl ?_
          refine C.exit ?_
          refine Fin.th_exit ?_
          refine Fin.th_exit ?_
          refine Fin.blk_eq ?_
          refine Fin.th ?_
          exact ⟨i, hle2, by omega, hni, fun h => absurd h (by omega), ⟨rfl, rfl, rfl, trivial⟩⟩
    · rintro E M2 H ⟨i, hle2, hi, hni, hiy, hsub⟩
      refine C.weak hsub (C.sub Split.nil ?_)
      clear hsub
      have hs2 := hs.mono (le1.trans hle2)
      have hdr := Sl.sub (cap := cap) hs2 hi (Nat.le_refl _) hc
      have htk := Sl.sub (cap := cap) hs2 (Nat.zero_le i) hi hc
      simp only [Nat.mul_one, ← List.map_drop, ← List.map_take, List.drop_zero, Nat.sub_zero] at hdr htk
      rw [List.take_of_length_le (by simp)] at hdr
      have hbad : badI l x = l.take i ++ [x] ++ l.drop i := by
        have := ixOf_take (q := fun y => decide (x < y)) hni hi hiy
        unfold badI
        rw [if_neg hin, this]
        by_cases hlt : i < l.length
        · rw [if_pos hlt, if_neg (by omega)]; rfl
        · rw [if_neg hlt, if_pos (by omega), List.take_of_length_le (by omega), List.drop_eq_nil_of_le (by omega)]; simp
      -- draws its order
      refine C.draw_seq (_) mixed (by kernel_rfl) (Incl.refl _) ?_
      refine GD.val 0 rfl rfl rfl rfl (by kernel_rfl) rfl (Sure.move rfl) ?_
      refine GD.val 1 rfl rfl rfl rfl (by kernel_rfl) rfl (Sure.move rfl) ?_
      refine GD.val 2 rfl rfl rfl rfl (by kernel_rfl) rfl (Sure.slice 0 i rfl rfl rfl (.inr ⟨rfl, rfl⟩) (.inl rfl) (by omega) (by omega)) ?_
      refine GD.val 4 rfl rfl rfl rfl (by kernel_rfl) rfl (Sure.move rfl) ?_
      refine GD.val 7 rfl rfl rfl rfl (by kernel_rfl) rfl (Sure.move rfl) ?_
      refine GD.val 8 rfl rfl rfl rfl (by kernel_rfl) rfl (Sure.move rfl) ?_
      refine GD.val 9 rfl rfl rfl rfl (by kernel_rfl) rfl (Sure.slice i l.length rfl rfl rfl (.inl rfl) (.inr ⟨rfl, rfl⟩) hi hc) ?_
      refine GD.two 3 5 (by kernel_rfl) rfl rfl (by kernel_rfl) ?_ ?_
      · refine Next.dyn 3 rfl rfl rfl (by kernel_rfl) (by kernel_rfl) rfl ?_
        refine Dyn.append (xs := []) (n := 0) (fun k h => by cases h) rfl rfl rfl Own.nil (PickL.here (A := [])) htk (allOne_ints _) (by omega) (by omega) ?_
        intro v3 Hs3 hown3
        simp only [List.nil_append, Nat.zero_add] at hown3
        refine ⟨MLe.refl _, Incl.nil _, ?_⟩
        refine GD.one 5 (by kernel_rfl) rfl rfl (by kernel_rfl) ?_
        refine Next.dyn 5 rfl rfl rfl (by kernel_rfl) (by kernel_rfl) rfl ?_
        refine Dyn.buildSlice rfl rfl rfl (by simp [vcl]) (by decide) ?_
        intro b29
        refine ⟨MLe.refl _, Incl.nil _, ?_⟩
        refine GD.one 6 (by kernel_rfl) rfl rfl (by kernel_rfl) ?_
        refine Next.dyn 6 rfl rfl rfl (by kernel_rfl) (by kernel_rfl) rfl ?_
        refine Dyn.append (m := 1) (news := [intV x]) (fun k h => by cases h) rfl rfl rfl hown3 (.there .here) ⟨rfl, fun _ => ⟨b29, 0, _, rfl, Rd.h0, rfl⟩⟩ rfl (by omega) (by omega) ?_
        intro v6 Hs6 hown6
        refine ⟨MLe.refl _, Incl.nil _, ?_⟩
        refine GD.one 10 (by kernel_rfl) rfl rfl (by kernel_rfl) ?_
        refine Next.dyn 10 rfl rfl rfl (by kernel_rfl) (by kernel_rfl) rfl ?_
        refine Dyn.append (fun k h => by cases h) rfl rfl rfl hown6 .here (Sl.heap hdr) (allOne_ints _) (by omega) (by omega) ?_
        intro v10 Hs10 hown10
        refine ⟨MLe.refl _, Incl.nil _, ?_⟩
        refine GD.one 11 (by kernel_rfl) rfl rfl (by kernel_rfl) ?_
        refine Next.dyn 11 rfl rfl rfl (by kernel_rfl) (by kernel_rfl) rfl (Dyn.assign rfl ?_)
        refine ⟨MLe.refl _, incx, ?_⟩
        refine GD.done (by kernel_rfl) (by kernel_rfl) ?_
        have e1 : (badI l x).length = i - 0 + 1 + (l.length - i) := by rw [hbad]; simp; omega
        have e2 : (badI l x).map intV = (l.take i).map intV ++ [intV x] ++ (l.drop i).map intV := by rw [hbad]; simp
        rw [← e1, ← e2] at hown10
        refine C.donateOwnC hown10 .here ?_
        rintro M3 p3 c3 le3 rfl hc3 hs3
        refine C.ret ?_
        exact Fin.fn (Res.tmp rfl rfl) Split.nil ⟨rfl, p3, c3, rfl, hc3, hs3⟩
      · refine Next.dyn 5 rfl rfl rfl (by kernel_rfl) (by kernel_rfl) rfl ?_
        refine Dyn.buildSlice rfl rfl rfl (by simp [vcl]) (by decide) ?_
        intro b29
        refine ⟨MLe.refl _, Incl.nil _, ?_⟩
        refine GD.one 3 (by kernel_rfl) rfl rfl (by kernel_rfl) ?_
        refine Next.dyn 3 rfl rfl rfl (by kernel_rfl) (by kernel_rfl) rfl ?_
        refine Dyn.append (xs := []) (n := 0) (fun k h => by cases h) rfl rfl rfl Own.nil (PickL.here (A := [])) (Sl.heap htk) (allOne_ints _) (by omega) (by omega) ?_
        intro v3 Hs3 hown3
        simp only [List.nil_append, Nat.zero_add] at hown3
        refine ⟨MLe.refl _, Incl.nil _, ?_⟩
        refine GD.one 6 (by kernel_rfl) rfl rfl (by kernel_rfl) ?_
        refine Next.dyn 6 rfl rfl rfl (by kernel_rfl) (by kernel_rfl) rfl ?_
        refine Dyn.append (m := 1) (news := [intV x]) (fun k h => by cases h) rfl rfl rfl hown3 .here ⟨rfl, fun _ => ⟨b29, 0, _, rfl, Rd.over Rd.h0, rfl⟩⟩ rfl (by omega) (by omega) ?_
        intro v6 Hs6 hown6
        refine ⟨MLe.refl _, Incl.nil _, ?_⟩
        refine GD.one 10 (by kernel_rfl) rfl rfl (by kernel_rfl) ?_
        refine Next.dyn 10 rfl rfl rfl (by kernel_rfl) (by kernel_rfl) rfl ?_
        refine Dyn.append (fun k h => by cases h) rfl rfl rfl hown6 .here (Sl.heap hdr) (allOne_ints _) (by omega) (by omega) ?_
        intro v10 Hs10 hown10
        refine ⟨MLe.refl _, Incl.nil _, ?_⟩
        refine GD.one 11 (by kernel_rfl) rfl rfl (by kernel_rfl) ?_
        refine Next.dyn 11 rfl rfl rfl (by kernel_rfl) (by kernel_rfl) rfl (Dyn.assign rfl ?_)
        refine ⟨MLe.refl _, incx, ?_⟩
        refine GD.done (by kernel_rfl) (by kernel_rfl) ?_
        have e1 : (badI l x).length = i - 0 + 1 + (l.length - i) := by rw [hbad]; simp; omega
        have e2 : (badI l x).map intV = (l.take i).map intV ++ [intV x] ++ (l.drop i).map intV := by rw [hbad]; simp
        rw [← e1, ← e2] at hown10
        refine C.donateOwnC hown10 .here ?_
        rintro M3 p3 c3 le3 rfl hc3 hs3
        refine C.ret ?_
        exact Fin.fn (Res.tmp rfl rfl) Split.nil ⟨rfl, p3, c3, rfl, hc3, hs3⟩
/-- A state whose slices have their lengths as room. -/
def SOkC (M : Mem) (s : StaD) : Prop := SOk M s ∧ s.inos.length ≤ s.ci ∧ s.bad.length ≤ s.cb
theorem SOkC.mono {M M' s} (h : SOkC M s) (hl : MLe M M') : SOkC M' s := ⟨h.1.mono hl, h.2⟩
def RetStaC (s : Sta) (v : Value) (M : Mem) (H : Heap) : Prop := H = [] ∧ ∃ sd : StaD, sd.v = s ∧ v = .agg (staDL sd).toArray ∧ SOkC M sd
theorem filter_map_ino (dl : List InoD) (n : Int) : (dl.filter fun d => !decide (d.x.no = n)).map InoD.x = (dl.map InoD.x).filter fun x => !decide (x.no = n) := by
  rw [List.filter_map]; rfl
theorem refApply_spec (M : Mem) (s0 : StaD) (p : Option Addr) (cap : Nat) (dl : List DeedD) (hs : SOkC M s0) (hk : s0.inos.length ≤ 1000000 ∧ s0.bad.length ≤ 1000000) (hd : RDeeds M p dl) (hl : dl.length ≤ 100000) :
    Spec Tryz.prog 18 [.agg (staDL s0).toArray, .slice p dl.length cap] M [] (fun v M' H => RetStaC (applyL s0.v (dl.map DeedD.v)) v M' H) := by
  refine Spec.of_code 71 Tryz.func18 rfl callable18 rfl rfl fun w => ?_
  refine C.region_seq ?_
  refine G.dyn rfl rfl rfl ?_
  refine Dyn.boxAgg rfl ?_
  intro b2
  refine G.dyn rfl rfl rfl ?_
  refine Dyn.allocAgg ?_
  intro b4
  refine G.nil ?_
  refine C.seq ?_
  refine C.region_seq ?_
  refine G.value rfl rfl rfl (Sure.assign rfl) ?_
  refine G.nil ?_
  refine C.block ?_
  refine C.loop (fun k E M' H => ∃ (a b : List DeedD) (s : StaD), MLe M M' ∧ dl = a ++ b ∧ b.length = k ∧ s.v = applyL s0.v (a.map DeedD.v) ∧ SOkC M' s ∧ s.inos.length ≤ 1000000 + a.length ∧ s.bad.length ≤ 1000000 + a.length ∧ E = [(1, .slice p dl.length cap), (2, ptr b2), (4, ptr b4), (5, intV a.length)] ∧ H = [(b2, .cells (staDL s)), (b4, .cells (staDL staD0))]) (dl.length) ?_ ?_
  · exact ⟨_, _, ⟨[], dl, s0, MLe.refl _, rfl, rfl, rfl, hs, by simp; omega, by simp; omega, rfl, rfl⟩, ⟨rfl, rfl, rfl, rfl, trivial⟩, [], Split.cons (by first | exact .here | exact .there .here) (Split.cons (by first | exact .here | exact .there .here) Split.nil)⟩
  · rintro k E M' H ⟨a, b, s, hle, hab, hk', hsv, hso, hsi, hsb, rfl, rfl⟩
    have hlen : dl.length = a.length + b.length := by rw [hab]; simp
    refine C.seq ?_
    refine C.region_seq ?_
    refine G.value rfl rfl rfl (Sure.move rfl) ?_
    refine G.value rfl rfl rfl (Sure.move rfl) ?_
    refine G.value rfl rfl rfl (Sure.len_slice rfl) ?_
    refine G.value rfl rfl rfl (Sure.lss rfl rfl) ?_
    refine G.nil ?_
    refine C.cond_dec rfl (fun hlt => ?_) (fun hlt => ?_)
    · cases b with
      | nil => simp at hlen hlt; omega
      | cons x b =>
        have hxm : x ∈ dl := by rw [hab]; simp
        have hdo := (hd.2 x hxm).mono hle
        have hap : applyL s0.v ((a ++ [x]).map DeedD.v) = apply1 s.v x.v := by rw [List.map_append, hsv]; exact applyL_snoc _ _ _
        have hnext : ∀ (M2 : Mem) (s2 : StaD) (R : Heap), MLe M' M2 → s2.v = apply1 s.v x.v → SOkC M2 s2 → s2.inos.length ≤ s.inos.length + 1 → s2.bad.length ≤ s.bad.length + 1 →
            ∃ (a' b' : List DeedD) (s : StaD), MLe M M2 ∧ dl = a' ++ b' ∧ b'.length = b.length ∧ s.v = applyL s0.v (a'.map DeedD.v) ∧ SOkC M2 s ∧ s.inos.length ≤ 1000000 + a'.length ∧ s.bad.length ≤ 1000000 + a'.length ∧ a'.length = a.length + 1 ∧ s = s2 := by
          intro M2 s2 R h1 h2 h3 h4 h5
          exact ⟨a ++ [x], b, s2, hle.trans h1, by rw [hab]; simp, rfl, by rw [hap, h2], h3, by simp; omega, by simp; omega, by simp, rfl⟩
        obtain ⟨q', o, c, hq, hrd, hseg⟩ := SlL.row (i := a.length) (e := deedDL x) ((SlL.mono hd.1 hle).heap (H := [(b2, .cells (staDL s)), (b4, .cells (staDL staD0))])) (by rw [hab]; simp)
        refine C.skip ?_
        refine Fin.th ?_
        refine C.seq ?_
        refine C.block ?_
        refine C.region_seq ?_
        refine G.value rfl rfl rfl (Sure.move rfl) ?_
        refine G.value rfl rfl rfl (Sure.move rfl) ?_
        refine G.value rfl rfl rfl (Sure.indexAddr (congrArg (fun q => some (Value.slice q dl.length cap)) hq) rfl (by omega)) ?_
        refine G.value rfl rfl rfl (Sure.loadAgg rfl hrd hseg) ?_
        refine G.dyn rfl rfl rfl ?_
        refine Dyn.allocAgg ?_
        intro b6
        refine G.dyn0 rfl rfl ?_
        refine Dyn.storeAgg rfl rfl pkx rfl rfl rfl ?_
        refine G.nil ?_
        refine C.region_seq ?_
        refine G.value rfl rfl rfl (Sure.fieldAddr rfl) ?_
        refine G.value rfl rfl rfl (Sure.load rfl rdx rfl) ?_
        refine G.nil ?_
        refine C.block ?_
        refine C.region_seq ?_
        refine G.value rfl rfl rfl (Sure.eql rfl rfl) ?_
        refine G.value rfl rfl rfl (Sure.assign rfl) ?_
        refine G.nil ?_
        refine C.cond_dec rfl (fun h1 => ?_) (fun h1 => ?_)
        · refine C.region ?_
          refine G.value rfl rfl rfl (Sure.fieldAddr rfl) ?_
          refine G.value rfl rfl rfl (Sure.load rfl rdx rfl) ?_
          refine G.value rfl rfl rfl (Sure.fieldAddr rfl) ?_
          refine G.dyn0 rfl rfl ?_
          refine Dyn.store rfl rfl pkx rfl rfl ?_
          refine G.nil ?_
          refine Fin.blk ?_
          refine Fin.blk ?_
          refine Fin.th ?_
          refine C.region ?_
          refine G.value rfl rfl rfl (Sure.move rfl) ?_
          refine G.value rfl rfl rfl (Sure.add rfl rfl (inK64 (by omega))) ?_
          refine G.value rfl rfl rfl (Sure.assign rfl) ?_
          refine G.nil ?_
          refine Fin.th ?_
          have ha1 : apply1 s.v x.v = ⟨x.no, s.v.inos, s.v.bad⟩ := by unfold apply1; rw [if_pos (show x.v.kind = 1 from h1)]; rfl
          obtain ⟨a', b', s', i1, i2, i3, i4, i5, i6, i7, i8, rfl⟩ := hnext M' ⟨x.no, s.inos, s.pi, s.ci, s.bad, s.pb, s.cb⟩ [] (MLe.refl _) (by rw [ha1]; rfl) ⟨⟨hso.1.1, hso.1.2⟩, hso.2⟩ (by dsimp only; omega) (by dsimp only; omega)
          exact ⟨b.length, _, _, by simp at hk'; omega, ⟨a', b', _, i1, i2, i3, i4, i5, i6, i7, rfl, rfl⟩, ⟨rfl, rfl, rfl, by rw [i8]; rfl, trivial⟩, _, Split.cons .here (Split.cons (.there .here) Split.nil)⟩
        · refine C.region_seq ?_
          refine G.value rfl rfl rfl (Sure.eql rfl rfl) ?_
          refine G.value rfl rfl rfl (Sure.assign rfl) ?_
          refine G.nil ?_
          refine C.cond_dec rfl (fun h2 => ?_) (fun h2 => ?_)
          · refine C.region ?_
            refine G.value rfl rfl rfl (Sure.fieldAddr rfl) ?_
            refine G.value rfl rfl rfl (Sure.load rfl rdx rfl) ?_
            refine G.value rfl rfl rfl (Sure.fieldAddr rfl) ?_
            refine G.value rfl rfl rfl (Sure.loadAgg rfl rdx rfl) ?_
            refine G.call rfl rfl rfl rfl rfl rfl (refPut1_spec M' s.pi s.ci s.inos x.d hso.1.1 hso.2.1 hdo (by omega)) (Split.nil) ?_
            rintro v5 M2 H2 le2 ⟨dl2, hd2, ho2, hown2⟩
            refine G.value rfl rfl rfl (Sure.fieldAddr rfl) ?_
            refine G.dyn0 rfl rfl ?_
            refine Dyn.store rfl rfl (Pick.over (.there .here)) (Own.one hown2) rfl ?_
            refine G.donateOwnC hown2 (.there .here) ?_
            rintro M3 p3 c3 le3 rfl hc3 hs3
            refine G.nil ?_
            refine Fin.blk ?_
            refine Fin.blk ?_
            refine Fin.th ?_
            refine C.region ?_
            refine G.value rfl rfl rfl (Sure.move rfl) ?_
            refine G.value rfl rfl rfl (Sure.add rfl rfl (inK64 (by omega))) ?_
            refine G.value rfl rfl rfl (Sure.assign rfl) ?_
            refine G.nil ?_
            refine Fin.th ?_
            have ha2 : apply1 s.v x.v = ⟨s.next, putI s.v.inos x.d.x, s.v.bad⟩ := by unfold apply1; rw [if_neg (show ¬ x.v.kind = 1 from h1), if_pos (show x.v.kind = 2 from h2)]; rfl
            have hl2 : dl2.length ≤ s.inos.length + 1 := by
              have e := congrArg List.length hd2
              have := putI_len (s.inos.map InoD.x) x.d.x
              simp at e this
              omega
            obtain ⟨a', b', s', i1, i2, i3, i4, i5, i6, i7, i8, rfl⟩ := hnext M3 ⟨s.next, dl2, p3, c3, s.bad, s.pb, s.cb⟩ [] (le2.trans le3) (by rw [ha2]; unfold StaD.v; rw [hd2]) ⟨⟨⟨⟨by intro e he; obtain ⟨z, _, rfl⟩ := List.mem_map.1 he; rfl, by rw [List.length_map]; exact hs3⟩, fun d hd => (ho2 d hd).mono le3⟩, hso.1.2.mono (le2.trans le3)⟩, hc3, hso.2.2⟩ (by dsimp only; omega) (by dsimp only; omega)
            exact ⟨b.length, _, _, by simp at hk'; omega, ⟨a', b', _, i1, i2, i3, i4, i5, i6, i7, rfl, rfl⟩, ⟨rfl, rfl, rfl, by rw [i8]; rfl, trivial⟩, _, Split.cons .here (Split.cons (.there .here) Split.nil)⟩
          · refine C.region_seq ?_
            refine G.value rfl rfl rfl (Sure.eql rfl rfl) ?_
            refine G.value rfl rfl rfl (Sure.assign rfl) ?_
            refine G.nil ?_
            refine C.cond_dec rfl (fun h3 => ?_) (fun h3 => ?_)
            · refine C.region_seq ?_
              refine G.value rfl rfl rfl (Sure.assign rfl) ?_
              refine G.nil ?_
              refine C.seq ?_
              refine C.region_seq ?_
              refine G.value rfl rfl rfl (Sure.assign rfl) ?_
              refine G.nil ?_
              refine C.block ?_
              refine C.loop (fun k E M2 H => ∃ (i : Nat) (v : Value) (Hs : Heap), MLe M' M2 ∧ i + k = s.inos.length ∧ Own 7 v ((s.inos.take i).filter fun d => !decide (d.x.no = x.no)).length (((s.inos.take i).filter fun d => !decide (d.x.no = x.no)).map inoDL).flatten Hs ∧ E = [(1, .slice p dl.length cap), (2, ptr b2), (4, ptr b4), (5, intV a.length), (6, ptr b6), (7, v), (8, intV i)] ∧ H = (b6, .cells (deedDL x)) :: (b2, .cells (staDL s)) :: (b4, .cells (staDL staD0)) :: Hs) (s.inos.length) ?_ ?_
              · exact ⟨_, _, ⟨0, _, [], MLe.refl _, by omega, by simpa using Own.nil, rfl, rfl⟩, ⟨rfl, rfl, rfl, rfl, rfl, rfl, rfl, trivial⟩, [], Split.cons .here (Split.cons .here (Split.cons .here Split.nil))⟩
              · rintro k2 E M2 H ⟨i, v, Hs, hle2, hik, hown, rfl, rfl⟩
                refine C.seq ?_
                refine C.region_seq ?_
                refine G.value rfl rfl rfl (Sure.move rfl) ?_
                refine G.value rfl rfl rfl (Sure.fieldAddr rfl) ?_
                refine G.value rfl rfl rfl (Sure.load rfl rdx rfl) ?_
                refine G.value rfl rfl rfl (Sure.len_slice rfl) ?_
                refine G.value rfl rfl rfl (Sure.lss rfl rfl) ?_
                refine G.nil ?_
                refine C.cond_dec rfl (fun hlt2 => ?_) (fun hlt2 => ?_)
                · obtain ⟨y, hy⟩ : ∃ y, s.inos[i]? = some y := ⟨s.inos[i]'(by omega), List.getElem?_eq_getElem (by omega)⟩
                  obtain ⟨q1, o1, cc1, hq1, hrd1, hseg1⟩ := SlL.row (i := i) (e := inoDL y) ((SlL.mono hso.1.1.1 hle2).heap (H := [(b6, .cells (deedDL x)), (b2, .cells (staDL s))])) (by rw [List.getElem?_map, hy]; rfl)
                  refine C.skip ?_
                  refine Fin.th ?_
                  refine C.seq ?_
                  refine C.block ?_
                  -- draws its order
                  refine C.draw_seq ([(b6, .cells (deedDL x)), (b2, .cells (staDL s))]) mixed (by kernel_rfl) incx ?_
                  refine GD.val 0 rfl rfl rfl rfl (by kernel_rfl) rfl (Sure.fieldAddr rfl) ?_
                  refine GD.val 1 rfl rfl rfl rfl (by kernel_rfl) rfl (Sure.load rfl rdx rfl) ?_
                  refine GD.val 2 rfl rfl rfl rfl (by kernel_rfl) rfl (Sure.move rfl) ?_
                  refine GD.val 3 rfl rfl rfl rfl (by kernel_rfl) rfl (Sure.indexAddr (congrArg (fun q => some (Value.slice q s.inos.length s.ci)) hq1) rfl (by omega)) ?_
                  refine GD.val 4 rfl rfl rfl rfl (by kernel_rfl) rfl (Sure.fieldAddr rfl) ?_
                  refine GD.val 5 rfl rfl rfl rfl (by kernel_rfl) rfl (Sure.load rfl hrd1 (seg_one (k := 0) hseg1 rfl)) ?_
                  refine GD.val 6 rfl rfl rfl rfl (by kernel_rfl) rfl (Sure.fieldAddr rfl) ?_
                  refine GD.val 7 rfl rfl rfl rfl (by kernel_rfl) rfl (Sure.load rfl rdx rfl) ?_
                  refine GD.val 8 rfl rfl rfl rfl (by kernel_rfl) rfl (Sure.neq rfl rfl) ?_
                  refine GD.done (by kernel_rfl) (by kernel_rfl) ?_
                  have hft : (s.inos.take (i + 1)).filter (fun d => !decide (d.x.no = x.no)) = (s.inos.take i).filter (fun d => !decide (d.x.no = x.no)) ++ if y.x.no = x.no then [] else [y] := by
                    rw [take_snoc hy, List.filter_append]
                    congr 1
                    by_cases h : y.x.no = x.no <;> simp [h]
                  have hfl2 : ((s.inos.take i).filter fun d => !decide (d.x.no = x.no)).length ≤ i := Nat.le_trans (List.length_filter_le _ _) (by simp; omega)
                  refine C.cond_dec rfl (fun hne => ?_) (fun hne => ?_)
                  · rw [if_neg hne] at hft
                    obtain ⟨q2, o2, cc2, hq2, hrd2, hseg2⟩ := SlL.row (i := i) (e := inoDL y) ((SlL.mono hso.1.1.1 hle2).heap (H := (b6, .cells (deedDL x)) :: (b2, .cells (staDL s)) :: (b4, .cells (staDL staD0)) :: Hs)) (by rw [List.getElem?_map, hy]; rfl)
                    refine C.region ?_
                    refine G.value rfl rfl rfl (Sure.move rfl) ?_
                    refine G.value rfl rfl rfl (Sure.fieldAddr rfl) ?_
                    refine G.value rfl rfl rfl (Sure.load rfl rdx rfl) ?_
                    refine G.value rfl rfl rfl (Sure.move rfl) ?_
                    refine G.value rfl rfl rfl (Sure.indexAddr (congrArg (fun q => some (Value.slice q s.inos.length s.ci)) hq2) rfl (by omega)) ?_
                    refine G.value rfl rfl rfl (Sure.loadAgg rfl hrd2 hseg2) ?_
                    refine G.dyn rfl rfl rfl ?_
                    refine Dyn.buildSlice rfl rfl rfl (by simp [vcl]) (by decide) ?_
                    intro b58
                    refine G.dyn rfl rfl rfl ?_
                    refine Dyn.append (fun k h => by cases h) rfl rfl rfl hown (.there (.there (.there (.there .all)))) (m := 1) (news := inoDL y) ⟨rfl, fun _ => ⟨b58, 0, _, rfl, Rd.h0, rfl⟩⟩ (allOne_ino _) (by omega) (by omega) ?_
                    intro v3 Hs3 hown3
                    refine G.value rfl rfl rfl (Sure.assign rfl) ?_
                    refine G.nil ?_
                    refine Fin.blk ?_
                    refine Fin.th ?_
                    refine C.region ?_
                    refine G.value rfl rfl rfl (Sure.move rfl) ?_
                    refine G.value rfl rfl rfl (Sure.add rfl rfl (inK64 (by omega))) ?_
                    refine G.value rfl rfl rfl (Sure.assign rfl) ?_
                    refine G.nil ?_
                    refine Fin.th ?_
                    refine ⟨k2 - 1, _, _, by omega, ⟨i + 1, v3, Hs3, hle2, by omega, ?_, rfl, rfl⟩, ⟨rfl, rfl, rfl, rfl, rfl, rfl, rfl, trivial⟩, _, Split.cons (.over (.there .here)) (Split.cons (.over (.there .here)) (Split.cons (.over (.there .here)) (Split.one .here)))⟩
                    rw [hft]
                    have e2 : (((s.inos.take i).filter (fun d => !decide (d.x.no = x.no)) ++ [y]).map inoDL).flatten = (((s.inos.take i).filter (fun d => !decide (d.x.no = x.no))).map inoDL).flatten ++ inoDL y := by simp
                    rw [e2, List.length_append]
                    exact hown3
                  · rw [if_pos (by omega), List.append_nil] at hft
                    refine C.skip ?_
                    refine Fin.blk ?_
                    refine Fin.th ?_
                    refine C.region ?_
                    refine G.value rfl rfl rfl (Sure.move rfl) ?_
                    refine G.value rfl rfl rfl (Sure.add rfl rfl (inK64 (by omega))) ?_
                    refine G.value rfl rfl rfl (Sure.assign rfl) ?_
                    refine G.nil ?_
                    refine Fin.th ?_
                    refine ⟨k2 - 1, _, _, by omega, ⟨i + 1, v, Hs, hle2, by omega, by rw [hft]; exact hown, rfl, rfl⟩, ⟨rfl, rfl, rfl, rfl, rfl, rfl, rfl, trivial⟩, [], Split.cons .here (Split.cons .here (Split.cons .here (Split.one .all)))⟩
                · rw [List.take_of_length_le (by omega)] at hown
                  refine C.donateOwnC hown (.there (.there (.there .all))) ?_
                  rintro M3 p3 c3 le3 rfl hc3 hs3
                  refine C.exit ?_
                  refine Fin.th_exit ?_
                  refine Fin.th_exit ?_
                  refine Fin.blk_eq ?_
                  refine Fin.th ?_
                  refine C.region ?_
                  refine G.value rfl rfl rfl (Sure.move rfl) ?_
                  refine G.value rfl rfl rfl (Sure.fieldAddr rfl) ?_
                  refine G.dyn0 rfl rfl ?_
                  refine Dyn.store rfl rfl pkx rfl rfl ?_
                  refine G.nil ?_
                  refine Fin.blk ?_
                  refine Fin.blk ?_
                  refine Fin.th ?_
                  refine C.region ?_
                  refine G.value rfl rfl rfl (Sure.move rfl) ?_
                  refine G.value rfl rfl rfl (Sure.add rfl rfl (inK64 (by omega))) ?_
                  refine G.value rfl rfl rfl (Sure.assign rfl) ?_
                  refine G.nil ?_
                  refine Fin.th ?_
                  have ha3 : apply1 s.v x.v = ⟨s.next, s.v.inos.filter fun y => !decide (y.no = x.no), s.v.bad⟩ := by unfold apply1; rw [if_neg (show ¬ x.v.kind = 1 from h1), if_neg (show ¬ x.v.kind = 2 from h2), if_pos (show x.v.kind = 3 from h3)]; rfl
                  have hl3 : (s.inos.filter fun d => !decide (d.x.no = x.no)).length ≤ s.inos.length := List.length_filter_le _ _
                  obtain ⟨a', b', s', i1, i2, i3, i4, i5, i6, i7, i8, rfl⟩ := hnext M3 ⟨s.next, s.inos.filter fun d => !decide (d.x.no = x.no), p3, c3, s.bad, s.pb, s.cb⟩ [] (hle2.trans le3) (by rw [ha3]; unfold StaD.v; rw [filter_map_ino]) ⟨⟨⟨⟨by intro e he; obtain ⟨z, _, rfl⟩ := List.mem_map.1 he; rfl, by rw [List.length_map]; exact hs3⟩, fun d hd => (hso.1.1.2 d (List.mem_filter.1 hd).1).mono (hle2.trans le3)⟩, hso.1.2.mono (hle2.trans le3)⟩, hc3, hso.2.2⟩ (by dsimp only; omega) (by dsimp only; omega)
                  exact ⟨b.length, _, _, by simp at hk'; omega, ⟨a', b', _, i1, i2, i3, i4, i5, i6, i7, rfl, rfl⟩, ⟨rfl, rfl, rfl, by rw [i8]; rfl, trivial⟩, _, Split.cons .here (Split.cons (.there .here) Split.nil)⟩
            · refine C.region_seq ?_
              refine G.value rfl rfl rfl (Sure.eql rfl rfl) ?_
              refine G.value rfl rfl rfl (Sure.assign rfl) ?_
              refine G.nil ?_
              refine C.cond_dec rfl (fun h4 => ?_) (fun h4 => ?_)
              · refine C.region ?_
                refine G.value rfl rfl rfl (Sure.fieldAddr rfl) ?_
                refine G.value rfl rfl rfl (Sure.load rfl rdx rfl) ?_
                refine G.value rfl rfl rfl (Sure.fieldAddr rfl) ?_
                refine G.value rfl rfl rfl (Sure.load rfl rdx rfl) ?_
                refine G.call rfl rfl rfl rfl rfl rfl (refBad_spec M' s.pb s.cb s.bad x.no hso.1.2 hso.2.2 (by omega)) (Split.nil) ?_
                rintro _ M2 _ le2 ⟨rfl, p3, c3, rfl, hc3, hs3⟩
                refine G.value rfl rfl rfl (Sure.fieldAddr rfl) ?_
                refine G.dyn0 rfl rfl ?_
                refine Dyn.store rfl rfl pkx rfl rfl ?_
                refine G.nil ?_
                refine Fin.blk ?_
                refine Fin.blk ?_
                refine Fin.th ?_
                refine C.region ?_
                refine G.value rfl rfl rfl (Sure.move rfl) ?_
                refine G.value rfl rfl rfl (Sure.add rfl rfl (inK64 (by omega))) ?_
                refine G.value rfl rfl rfl (Sure.assign rfl) ?_
                refine G.nil ?_
                refine Fin.th ?_
                have ha4 : apply1 s.v x.v = ⟨s.next, s.v.inos, badI s.bad x.no⟩ := by unfold apply1; rw [if_neg (show ¬ x.v.kind = 1 from h1), if_neg (show ¬ x.v.kind = 2 from h2), if_neg (show ¬ x.v.kind = 3 from h3), if_pos (show x.v.kind = 4 from h4)]; rfl
                have hl4 := badI_len s.bad x.no
                obtain ⟨a', b', s', i1, i2, i3, i4, i5, i6, i7, i8, rfl⟩ := hnext M2 ⟨s.next, s.inos, s.pi, s.ci, badI s.bad x.no, p3, c3⟩ [] le2 (by rw [ha4]; rfl) ⟨⟨hso.1.1.mono le2, hs3⟩, hso.2.1, hc3⟩ (by dsimp only; omega) (by dsimp only; omega)
                exact ⟨b.length, _, _, by simp at hk'; omega, ⟨a', b', _, i1, i2, i3, i4, i5, i6, i7, rfl, rfl⟩, ⟨rfl, rfl, rfl, by rw [i8]; rfl, trivial⟩, _, Split.cons .here (Split.cons (.there .here) Split.nil)⟩
              · refine C.skip ?_
                refine Fin.blk ?_
                refine Fin.blk ?_
                refine Fin.th ?_
                refine C.region ?_
                refine G.value rfl rfl rfl (Sure.move rfl) ?_
                refine G.value rfl rfl rfl (Sure.add rfl rfl (inK64 (by omega))) ?_
                refine G.value rfl rfl rfl (Sure.assign rfl) ?_
                refine G.nil ?_
                refine Fin.th ?_
                have ha5 : apply1 s.v x.v = s.v := by unfold apply1; rw [if_neg (show ¬ x.v.kind = 1 from h1), if_neg (show ¬ x.v.kind = 2 from h2), if_neg (show ¬ x.v.kind = 3 from h3), if_neg (show ¬ x.v.kind = 4 from h4)]
                obtain ⟨a', b', s', i1, i2, i3, i4, i5, i6, i7, i8, rfl⟩ := hnext M' s [] (MLe.refl _) (by rw [ha5]) hso (by omega) (by omega)
                exact ⟨b.length, _, _, by simp at hk'; omega, ⟨a', b', _, i1, i2, i3, i4, i5, i6, i7, rfl, rfl⟩, ⟨rfl, rfl, rfl, by rw [i8]; rfl, trivial⟩, _, Split.cons (.there .here) (Split.cons (.there .here) Split.nil)⟩
    · have hb0 : b = [] := List.eq_nil_of_length_eq_zero (by omega)
      subst hb0
      simp only [List.append_nil] at hab
      subst hab
      refine C.exit ?_
      refine Fin.th_exit ?_
      refine Fin.th_exit ?_
      refine Fin.blk_eq ?_
      refine Fin.th ?_
      refine C.region_seq ?_
      refine G.value rfl rfl rfl (Sure.loadAgg rfl rdx rfl) ?_
      refine G.dyn0 rfl rfl ?_
      refine Dyn.storeAgg rfl rfl pkx rfl rfl rfl ?_
      refine G.nil ?_
      refine C.ret ?_
      exact Fin.fn (Res.cellAgg rfl rfl rdx rfl) Split.nil ⟨rfl, s, hsv, rfl, hso⟩
end Go.Proofs.YtaeeahcokiebdaaGreat

/-
  The walks of holding things against each other.
  Conditions: lists have a thousand million elements at most.
-/
namespace Go.Proofs.YtaeeahcokiebdaaGreat
set_option maxRecDepth 20000

def entEq (a b : Entry) : Bool := (a.name.toList == b.name.toList) && (a.no == b.no)
def runEq (a b : Run) : Bool := (a.fr == b.fr) && ((a.ad == b.ad) && (a.cnt == b.cnt))
def intEq (a b : Int) : Bool := decide (a = b)
theorem entEq_run (a b : Entry) (w : World) : (binOp .eql 119 (.agg (entL a).toArray) (.agg (entL b).toArray)).run Tryz.prog w = .ok (.bool (entEq a b)) w := by
  rw [run_eql_struct, run_equalIn_struct w 9999 119 _ _ (by kernel_rfl) (by kernel_rfl)]
  have h1 : ∀ w, (isAgg 9).run Tryz.prog w = .ok false w := (inferInstance : TyI Tryz.prog 9 false 1).isAgg
  have h2 : ∀ w, (isAgg 3).run Tryz.prog w = .ok false w := (inferInstance : TyI Tryz.prog 3 false 1).isAgg
  simp only [Program.fieldsOf, Tryz.underlying119]
  simp [Op.eqFields, part, h1, h2, run_equalIn_string w _ _ _ _ Tryz.underlying9, run_equalIn_int w _ _ _ _ _ _ Tryz.underlying3]
  unfold entEq
  by_cases e1 : a.name.toList = b.name.toList <;> by_cases e2 : a.no = b.no <;> simp [e1, e2]
theorem runEq_run (a b : Run) (w : World) : (binOp .eql 131 (.agg (runL a).toArray) (.agg (runL b).toArray)).run Tryz.prog w = .ok (.bool (runEq a b)) w := by
  rw [run_eql_struct, run_equalIn_struct w 9999 131 _ _ (by kernel_rfl) (by kernel_rfl)]
  have h2 : ∀ w, (isAgg 3).run Tryz.prog w = .ok false w := (inferInstance : TyI Tryz.prog 3 false 1).isAgg
  simp only [Program.fieldsOf, Tryz.underlying131]
  simp [Op.eqFields, part, h2, run_equalIn_int w _ _ _ _ _ _ Tryz.underlying3]
  unfold runEq
  by_cases e1 : a.fr = b.fr <;> by_cases e2 : a.ad = b.ad <;> by_cases e3 : a.cnt = b.cnt <;> simp [e1, e2, e3]
/-- Two lists, one by one. -/
def sameL {α : Type} (q : α → α → Bool) : List α → List α → Bool
  | [], [] => true
  | x :: a, y :: b => q x y && sameL q a b
  | _, _ => false
theorem sameL_len {α : Type} (q : α → α → Bool) : ∀ {a b : List α}, a.length ≠ b.length → sameL q a b = false
  | [], [], h => absurd rfl h
  | [], _ :: _, _ => rfl
  | _ :: _, [], _ => rfl
  | x :: a, y :: b, h => by
    have := sameL_len q (a := a) (b := b) (by simpa using h)
    simp [sameL, this]
theorem sameL_refl {α : Type} {q : α → α → Bool} (h : ∀ x, q x x = true) : ∀ a : List α, sameL q a a = true
  | [] => rfl
  | x :: a => by simp [sameL, h x, sameL_refl h a]

theorem sameInt_spec (M : Mem) (pa pb : Option Addr) (ca cb : Nat) (a b : List Int) (f : Nat) (q : Int → Int → Bool) (ha : Sl M [] 1 pa a.length (a.map intV)) (hb : Sl M [] 1 pb b.length (b.map intV)) (hl : a.length ≤ 1000000000)
    (hf : ∀ M', MLe M M' → ∀ x ∈ a, ∀ y ∈ b, Spec Tryz.prog f [intV x, intV y] M' [] (fun v _ H => v = .bool (q x y) ∧ H = [])) :
    Spec Tryz.prog 100 [.slice pa a.length ca, .slice pb b.length cb, .func (.func f) #[] #[]] M [] (fun v _ H => v = .bool (sameL q a b) ∧ H = []) := by
  refine Spec.of_code 30 Tryz.func100 rfl callable100 rfl rfl fun w => ?_
  refine C.region_seq ?_
  refine G.value rfl rfl rfl (Sure.assign rfl) ?_
  refine G.nil ?_
  refine C.seq ?_
  refine C.region_seq ?_
  refine G.value rfl rfl rfl (Sure.move rfl) ?_
  refine G.value rfl rfl rfl (Sure.len_slice rfl) ?_
  refine G.value rfl rfl rfl (Sure.move rfl) ?_
  refine G.value rfl rfl rfl (Sure.len_slice rfl) ?_
  refine G.value rfl rfl rfl (Sure.neq rfl rfl) ?_
  refine G.nil ?_
  refine C.cond_dec rfl (fun hne => ?_) (fun hne => ?_)
  · rw [sameL_len q (by omega)]
    refine C.region_seq ?_
    refine G.value rfl rfl rfl (Sure.assign rfl) ?_
    refine G.nil ?_
    refine C.ret ?_
    refine Fin.th_ret ?_
    exact Fin.fn (Res.tmp rfl rfl) Split.nil ⟨rfl, rfl⟩
  · have hab : a.length = b.length := by omega
    refine C.skip ?_
    refine Fin.th ?_
    refine C.seq ?_
    refine C.region_seq ?_
    refine G.value rfl rfl rfl (Sure.assign rfl) ?_
    refine G.nil ?_
    refine C.block ?_
    refine C.loop (fun k E M' H => ∃ i : Nat, MLe M M' ∧ i + k = a.length ∧ sameL q a b = sameL q (a.drop i) (b.drop i) ∧ E = [(0, .slice pa a.length ca), (1, .slice pb b.length cb), (2, .func (.func f) #[] #[]), (7, intV i)] ∧ H = []) (a.length) ?_ ?_
    · exact ⟨_, _, ⟨0, MLe.refl _, by omega, rfl, rfl, rfl⟩, ⟨rfl, rfl, rfl, rfl, trivial⟩, [], Split.nil⟩
    · rintro k E M' H ⟨i, hle, hik, hsm, rfl, rfl⟩
      refine C.seq ?_
      refine C.region_seq ?_
      refine G.value rfl rfl rfl (Sure.move rfl) ?_
      refine G.value rfl rfl rfl (Sure.move rfl) ?_
      refine G.value rfl rfl rfl (Sure.len_slice rfl) ?_
      refine G.value rfl rfl rfl (Sure.lss rfl rfl) ?_
      refine G.nil ?_
      refine C.cond_dec rfl (fun hlt => ?_) (fun hlt => ?_)
      · obtain ⟨x, hx⟩ : ∃ x, a[i]? = some x := ⟨a[i]'(by omega), List.getElem?_eq_getElem (by omega)⟩
        obtain ⟨y, hy⟩ : ∃ y, b[i]? = some y := ⟨b[i]'(by omega), List.getElem?_eq_getElem (by omega)⟩
        rw [drop_cons hx, drop_cons hy] at hsm
        obtain ⟨q1, o1, c1, hq1, hrd1, hseg1⟩ := Sl.cell (i := i) (v := intV x) (ha.mono hle) (by rw [List.getElem?_map, hx]; rfl)
        obtain ⟨q2, o2, c2, hq2, hrd2, hseg2⟩ := Sl.cell (i := i) (v := intV y) (hb.mono hle) (by rw [List.getElem?_map, hy]; rfl)
        refine C.skip ?_
        refine Fin.th ?_
        refine C.seq ?_
        refine C.block ?_
        -- draws its order
        refine C.draw_seq (_) mixed (by kernel_rfl) (Incl.refl _) ?_
        refine GD.val 0 rfl rfl rfl rfl (by kernel_rfl) rfl (Sure.move rfl) ?_
        refine GD.val 1 rfl rfl rfl rfl (by kernel_rfl) rfl (Sure.move rfl) ?_
        refine GD.val 2 rfl rfl rfl rfl (by kernel_rfl) rfl (Sure.move rfl) ?_
        refine GD.val 3 rfl rfl rfl rfl (by kernel_rfl) rfl (Sure.indexAddr (congrArg (fun q => some (Value.slice q a.length ca)) hq1) rfl (by omega)) ?_
        refine GD.val 4 rfl rfl rfl rfl (by kernel_rfl) rfl (Sure.load rfl hrd1 hseg1) ?_
        refine GD.val 5 rfl rfl rfl rfl (by kernel_rfl) rfl (Sure.move rfl) ?_
        refine GD.val 6 rfl rfl rfl rfl (by kernel_rfl) rfl (Sure.move rfl) ?_
        refine GD.val 7 rfl rfl rfl rfl (by kernel_rfl) rfl (Sure.indexAddr (congrArg (fun q => some (Value.slice q b.length cb)) hq2) rfl (by omega)) ?_
        refine GD.val 8 rfl rfl rfl rfl (by kernel_rfl) rfl (Sure.load rfl hrd2 hseg2) ?_
        refine GD.one 9 (by kernel_rfl) rfl rfl (by kernel_rfl) ?_
        refine Next.call 9 rfl rfl rfl (by kernel_rfl) (by kernel_rfl) rfl rfl rfl rfl (hf M' hle x (List.mem_of_getElem? hx) y (List.mem_of_getElem? hy)) (Split.nil) ?_
        rintro _ M1 _ le1 ⟨rfl, rfl⟩
        refine ⟨Incl.nil _, ?_⟩
        cases hq : q x y with
        | true =>
          refine GD.val 10 rfl rfl rfl rfl (by kernel_rfl) rfl (Sure.not rfl) ?_
          refine GD.done (by kernel_rfl) (by kernel_rfl) ?_
          refine C.cond_false rfl ?_
          refine C.skip ?_
          refine Fin.blk ?_
          refine Fin.th ?_
          refine C.region ?_
          refine G.value rfl rfl rfl (Sure.move rfl) ?_
          refine G.value rfl rfl rfl (Sure.add rfl rfl (inK64 (by omega))) ?_
          refine G.value rfl rfl rfl (Sure.assign rfl) ?_
          refine G.nil ?_
          refine Fin.th ?_
          exact ⟨k - 1, _, _, by omega, ⟨i + 1, hle.trans le1, by omega, by rw [hsm]; simp [sameL, hq], rfl, rfl⟩, ⟨rfl, rfl, rfl, rfl, trivial⟩, [], Split.nil⟩
        | false =>
          refine GD.val 10 rfl rfl rfl rfl (by kernel_rfl) rfl (Sure.not rfl) ?_
          rw [show sameL q a b = false from by rw [hsm]; simp [sameL, hq]]
          refine GD.done (by kernel_rfl) (by kernel_rfl) ?_
          refine C.cond_true rfl ?_
          refine C.region_seq ?_
          refine G.value rfl rfl rfl (Sure.assign rfl) ?_
          refine G.nil ?_
          refine C.ret ?_
          refine Fin.blk_ret ?_
          refine Fin.th_ret ?_
          refine Fin.th_ret ?_
          refine Fin.blk_ret ?_
          refine Fin.th_ret ?_
          exact Fin.fn (Res.tmp rfl rfl) Split.nil ⟨rfl, rfl⟩
      · rw [show sameL q a b = true from by rw [hsm, List.drop_eq_nil_of_le (by omega), List.drop_eq_nil_of_le (by omega)]; rfl]
        refine C.exit ?_
        refine Fin.th_exit ?_
        refine Fin.th_exit ?_
        refine Fin.blk_eq ?_
        refine Fin.th ?_
        refine C.region_seq ?_
        refine G.value rfl rfl rfl (Sure.assign rfl) ?_
        refine G.nil ?_
        refine C.ret ?_
        exact Fin.fn (Res.tmp rfl rfl) Split.nil ⟨rfl, rfl⟩

theorem plainInt1_spec (M : Mem) (x y : Int) : Spec Tryz.prog 101 [intV x, intV y] M [] (fun v _ H => v = .bool (intEq x y) ∧ H = []) := by
  refine Spec.of_code 8 Tryz.func101 rfl callable101 rfl rfl fun w => ?_
  refine C.region_seq ?_
  refine G.value rfl rfl rfl (Sure.assign rfl) ?_
  refine G.nil ?_
  refine C.region_seq ?_
  refine G.value rfl rfl rfl (Sure.move rfl) ?_
  refine G.value rfl rfl rfl (Sure.move rfl) ?_
  refine G.value rfl rfl rfl (Sure.eql rfl rfl) ?_
  refine G.value rfl rfl rfl (Sure.assign rfl) ?_
  refine G.nil ?_
  refine C.ret ?_
  exact Fin.fn (Res.tmp rfl rfl) Split.nil ⟨rfl, rfl⟩

theorem plainInt_spec (M : Mem) (pa pb : Option Addr) (ca cb : Nat) (a b : List Int) (ha : Sl M [] 1 pa a.length (a.map intV)) (hb : Sl M [] 1 pb b.length (b.map intV)) (hl : a.length ≤ 1000000000) :
    Spec Tryz.prog 63 [.slice pa a.length ca, .slice pb b.length cb] M [] (fun v _ H => v = .bool (sameL intEq a b) ∧ H = []) := by
  refine Spec.of_code 8 Tryz.func63 rfl callable63 rfl rfl fun w => ?_
  refine C.region_seq ?_
  refine G.value rfl rfl rfl (Sure.assign rfl) ?_
  refine G.nil ?_
  refine C.region_seq ?_
  refine G.value rfl rfl rfl (Sure.move rfl) ?_
  refine G.value rfl rfl rfl (Sure.move rfl) ?_
  refine G.call rfl rfl rfl rfl rfl rfl (sameInt_spec M pa pb ca cb a b 101 intEq ha hb hl (fun M' _ x _ y _ => plainInt1_spec M' x y)) (Split.nil) ?_
  rintro _ M1 _ le1 ⟨rfl, rfl⟩
  refine G.value rfl rfl rfl (Sure.assign rfl) ?_
  refine G.nil ?_
  refine C.ret ?_
  exact Fin.fn (Res.tmp rfl rfl) Split.nil ⟨rfl, rfl⟩

theorem sameEnt_spec (M : Mem) (pa pb : Option Addr) (ca cb : Nat) (a b : List Entry) (f : Nat) (q : Entry → Entry → Bool) (ha : SlL M [] 2 pa (a.map entL)) (hb : SlL M [] 2 pb (b.map entL)) (hl : a.length ≤ 1000000000)
    (hf : ∀ M', MLe M M' → ∀ x ∈ a, ∀ y ∈ b, Spec Tryz.prog f [.agg (entL x).toArray, .agg (entL y).toArray] M' [] (fun v _ H => v = .bool (q x y) ∧ H = [])) :
    Spec Tryz.prog 132 [.slice pa a.length ca, .slice pb b.length cb, .func (.func f) #[] #[]] M [] (fun v _ H => v = .bool (sameL q a b) ∧ H = []) := by
  refine Spec.of_code 30 Tryz.func132 rfl callable132 rfl rfl fun w => ?_
  refine C.region_seq ?_
  refine G.value rfl rfl rfl (Sure.assign rfl) ?_
  refine G.nil ?_
  refine C.seq ?_
  refine C.region_seq ?_
  refine G.value rfl rfl rfl (Sure.move rfl) ?_
  refine G.value rfl rfl rfl (Sure.len_slice rfl) ?_
  refine G.value rfl rfl rfl (Sure.move rfl) ?_
  refine G.value rfl rfl rfl (Sure.len_slice rfl) ?_
  refine G.value rfl rfl rfl (Sure.neq rfl rfl) ?_
  refine G.nil ?_
  refine C.cond_dec rfl (fun hne => ?_) (fun hne => ?_)
  · rw [sameL_len q (by omega)]
    refine C.region_seq ?_
    refine G.value rfl rfl rfl (Sure.assign rfl) ?_
    refine G.nil ?_
    refine C.ret ?_
    refine Fin.th_ret ?_
    exact Fin.fn (Res.tmp rfl rfl) Split.nil ⟨rfl, rfl⟩
  · have hab : a.length = b.length := by omega
    refine C.skip ?_
    refine Fin.th ?_
    refine C.seq ?_
    refine C.region_seq ?_
    refine G.value rfl rfl rfl (Sure.assign rfl) ?_
    refine G.nil ?_
    refine C.block ?_
    refine C.loop (fun k E M' H => ∃ i : Nat, MLe M M' ∧ i + k = a.length ∧ sameL q a b = sameL q (a.drop i) (b.drop i) ∧ E = [(0, .slice pa a.length ca), (1, .slice pb b.length cb), (2, .func (.func f) #[] #[]), (7, intV i)] ∧ H = []) (a.length) ?_ ?_
    · exact ⟨_, _, ⟨0, MLe.refl _, by omega, rfl, rfl, rfl⟩, ⟨rfl, rfl, rfl, rfl, trivial⟩, [], Split.nil⟩
    · rintro k E M' H ⟨i, hle, hik, hsm, rfl, rfl⟩
      refine C.seq ?_
      refine C.region_seq ?_
      refine G.value rfl rfl rfl (Sure.move rfl) ?_
      refine G.value rfl rfl rfl (Sure.move rfl) ?_
      refine G.value rfl rfl rfl (Sure.len_slice rfl) ?_
      refine G.value rfl rfl rfl (Sure.lss rfl rfl) ?_
      refine G.nil ?_
      refine C.cond_dec rfl (fun hlt => ?_) (fun hlt => ?_)
      · obtain ⟨x, hx⟩ : ∃ x, a[i]? = some x := ⟨a[i]'(by omega), List.getElem?_eq_getElem (by omega)⟩
        obtain ⟨y, hy⟩ : ∃ y, b[i]? = some y := ⟨b[i]'(by omega), List.getElem?_eq_getElem (by omega)⟩
        rw [drop_cons hx, drop_cons hy] at hsm
        obtain ⟨q1, o1, c1, hq1, hrd1, hseg1⟩ := SlL.row (i := i) (e := entL x) (SlL.mono ha hle) (by rw [List.getElem?_map, hx]; rfl)
        obtain ⟨q2, o2, c2, hq2, hrd2, hseg2⟩ := SlL.row (i := i) (e := entL y) (SlL.mono hb hle) (by rw [List.getElem?_map, hy]; rfl)
        refine C.skip ?_
        refine Fin.th ?_
        refine C.seq ?_
        refine C.block ?_
        -- draws its order
        refine C.draw_seq (_) mixed (by kernel_rfl) (Incl.refl _) ?_
        refine GD.val 0 rfl rfl rfl rfl (by kernel_rfl) rfl (Sure.move rfl) ?_
        refine GD.val 1 rfl rfl rfl rfl (by kernel_rfl) rfl (Sure.move rfl) ?_
        refine GD.val 2 rfl rfl rfl rfl (by kernel_rfl) rfl (Sure.move rfl) ?_
        refine GD.val 3 rfl rfl rfl rfl (by kernel_rfl) rfl (Sure.indexAddr (congrArg (fun q => some (Value.slice q a.length ca)) hq1) rfl (by omega)) ?_
        refine GD.val 4 rfl rfl rfl rfl (by kernel_rfl) rfl (Sure.loadAgg rfl hrd1 hseg1) ?_
        refine GD.val 5 rfl rfl rfl rfl (by kernel_rfl) rfl (Sure.move rfl) ?_
        refine GD.val 6 rfl rfl rfl rfl (by kernel_rfl) rfl (Sure.move rfl) ?_
        refine GD.val 7 rfl rfl rfl rfl (by kernel_rfl) rfl (Sure.indexAddr (congrArg (fun q => some (Value.slice q b.length cb)) hq2) rfl (by omega)) ?_
        refine GD.val 8 rfl rfl rfl rfl (by kernel_rfl) rfl (Sure.loadAgg rfl hrd2 hseg2) ?_
        refine GD.one 9 (by kernel_rfl) rfl rfl (by kernel_rfl) ?_
        refine Next.call 9 rfl rfl rfl (by kernel_rfl) (by kernel_rfl) rfl rfl rfl rfl (hf M' hle x (List.mem_of_getElem? hx) y (List.mem_of_getElem? hy)) (Split.nil) ?_
        rintro _ M1 _ le1 ⟨rfl, rfl⟩
        refine ⟨Incl.nil _, ?_⟩
        cases hq : q x y with
        | true =>
          refine GD.val 10 rfl rfl rfl rfl (by kernel_rfl) rfl (Sure.not rfl) ?_
          refine GD.done (by kernel_rfl) (by kernel_rfl) ?_
          refine C.cond_false rfl ?_
          refine C.skip ?_
          refine Fin.blk ?_
          refine Fin.th ?_
          refine C.region ?_
          refine G.value rfl rfl rfl (Sure.move rfl) ?_
          refine G.value rfl rfl rfl (Sure.add rfl rfl (inK64 (by omega))) ?_
          refine G.value rfl rfl rfl (Sure.assign rfl) ?_
          refine G.nil ?_
          refine Fin.th ?_
          exact ⟨k - 1, _, _, by omega, ⟨i + 1, hle.trans le1, by omega, by rw [hsm]; simp [sameL, hq], rfl, rfl⟩, ⟨rfl, rfl, rfl, rfl, trivial⟩, [], Split.nil⟩
        | false =>
          refine GD.val 10 rfl rfl rfl rfl (by kernel_rfl) rfl (Sure.not rfl) ?_
          rw [show sameL q a b = false from by rw [hsm]; simp [sameL, hq]]
          refine GD.done (by kernel_rfl) (by kernel_rfl) ?_
          refine C.cond_true rfl ?_
          refine C.region_seq ?_
          refine G.value rfl rfl rfl (Sure.assign rfl) ?_
          refine G.nil ?_
          refine C.ret ?_
          refine Fin.blk_ret ?_
          refine Fin.th_ret ?_
          refine Fin.th_ret ?_
          refine Fin.blk_ret ?_
          refine Fin.th_ret ?_
          exact Fin.fn (Res.tmp rfl rfl) Split.nil ⟨rfl, rfl⟩
      · rw [show sameL q a b = true from by rw [hsm, List.drop_eq_nil_of_le (by omega), List.drop_eq_nil_of_le (by omega)]; rfl]
        refine C.exit ?_
        refine Fin.th_exit ?_
        refine Fin.th_exit ?_
        refine Fin.blk_eq ?_
        refine Fin.th ?_
        refine C.region_seq ?_
        refine G.value rfl rfl rfl (Sure.assign rfl) ?_
        refine G.nil ?_
        refine C.ret ?_
        exact Fin.fn (Res.tmp rfl rfl) Split.nil ⟨rfl, rfl⟩

theorem plainEnt1_spec (M : Mem) (x y : Entry) : Spec Tryz.prog 133 [.agg (entL x).toArray, .agg (entL y).toArray] M [] (fun v _ H => v = .bool (entEq x y) ∧ H = []) := by
  refine Spec.of_code 8 Tryz.func133 rfl callable133 rfl rfl fun w => ?_
  refine C.region_seq ?_
  refine G.dyn rfl rfl rfl ?_
  refine Dyn.boxAgg rfl ?_
  intro b2
  refine G.dyn rfl rfl rfl ?_
  refine Dyn.boxAgg rfl ?_
  intro b3
  refine G.value rfl rfl rfl (Sure.assign rfl) ?_
  refine G.nil ?_
  refine C.region_seq ?_
  refine G.value rfl rfl rfl (Sure.loadAgg rfl rdx rfl) ?_
  refine G.value rfl rfl rfl (Sure.loadAgg rfl rdx rfl) ?_
  refine G.value rfl rfl rfl (Sure.bin rfl rfl (fun w => run_eqGuard_agg w _ _ _ _ _ _ (by kernel_rfl)) (fun w => entEq_run x y w)) ?_
  refine G.value rfl rfl rfl (Sure.assign rfl) ?_
  refine G.nil ?_
  refine C.ret ?_
  exact Fin.fn (Res.tmp rfl rfl) Split.nil ⟨rfl, rfl⟩

theorem plainEnt_spec (M : Mem) (pa pb : Option Addr) (ca cb : Nat) (a b : List Entry) (ha : SlL M [] 2 pa (a.map entL)) (hb : SlL M [] 2 pb (b.map entL)) (hl : a.length ≤ 1000000000) :
    Spec Tryz.prog 98 [.slice pa a.length ca, .slice pb b.length cb] M [] (fun v _ H => v = .bool (sameL entEq a b) ∧ H = []) := by
  refine Spec.of_code 8 Tryz.func98 rfl callable98 rfl rfl fun w => ?_
  refine C.region_seq ?_
  refine G.value rfl rfl rfl (Sure.assign rfl) ?_
  refine G.nil ?_
  refine C.region_seq ?_
  refine G.value rfl rfl rfl (Sure.move rfl) ?_
  refine G.value rfl rfl rfl (Sure.move rfl) ?_
  refine G.call rfl rfl rfl rfl rfl rfl (sameEnt_spec M pa pb ca cb a b 133 entEq ha hb hl (fun M' _ x _ y _ => plainEnt1_spec M' x y)) (Split.nil) ?_
  rintro _ M1 _ le1 ⟨rfl, rfl⟩
  refine G.value rfl rfl rfl (Sure.assign rfl) ?_
  refine G.nil ?_
  refine C.ret ?_
  exact Fin.fn (Res.tmp rfl rfl) Split.nil ⟨rfl, rfl⟩

theorem sameRun_spec (M : Mem) (pa pb : Option Addr) (ca cb : Nat) (a b : List Run) (f : Nat) (q : Run → Run → Bool) (ha : SlL M [] 3 pa (a.map runL)) (hb : SlL M [] 3 pb (b.map runL)) (hl : a.length ≤ 1000000000)
    (hf : ∀ M', MLe M M' → ∀ x ∈ a, ∀ y ∈ b, Spec Tryz.prog f [.agg (runL x).toArray, .agg (runL y).toArray] M' [] (fun v _ H => v = .bool (q x y) ∧ H = [])) :
    Spec Tryz.prog 134 [.slice pa a.length ca, .slice pb b.length cb, .func (.func f) #[] #[]] M [] (fun v _ H => v = .bool (sameL q a b) ∧ H = []) := by
  refine Spec.of_code 30 Tryz.func134 rfl callable134 rfl rfl fun w => ?_
  refine C.region_seq ?_
  refine G.value rfl rfl rfl (Sure.assign rfl) ?_
  refine G.nil ?_
  refine C.seq ?_
  refine C.region_seq ?_
  refine G.value rfl rfl rfl (Sure.move rfl) ?_
  refine G.value rfl rfl rfl (Sure.len_slice rfl) ?_
  refine G.value rfl rfl rfl (Sure.move rfl) ?_
  refine G.value rfl rfl rfl (Sure.len_slice rfl) ?_
  refine G.value rfl rfl rfl (Sure.neq rfl rfl) ?_
  refine G.nil ?_
  refine C.cond_dec rfl (fun hne => ?_) (fun hne => ?_)
  · rw [sameL_len q (by omega)]
    refine C.region_seq ?_
    refine G.value rfl rfl rfl (Sure.assign rfl) ?_
    refine G.nil ?_
    refine C.ret ?_
    refine Fin.th_ret ?_
    exact Fin.fn (Res.tmp rfl rfl) Split.nil ⟨rfl, rfl⟩
  · have hab : a.length = b.length := by omega
    refine C.skip ?_
    refine Fin.th ?_
    refine C.seq ?_
    refine C.region_seq ?_
    refine G.value rfl rfl rfl (Sure.assign rfl) ?_
    refine G.nil ?_
    refine C.block ?_
    refine C.loop (fun k E M' H => ∃ i : Nat, MLe M M' ∧ i + k = a.length ∧ sameL q a b = sameL q (a.drop i) (b.drop i) ∧ E = [(0, .slice pa a.length ca), (1, .slice pb b.length cb), (2, .func (.func f) #[] #[]), (7, intV i)] ∧ H = []) (a.length) ?_ ?_
    · exact ⟨_, _, ⟨0, MLe.refl _, by omega, rfl, rfl, rfl⟩, ⟨rfl, rfl, rfl, rfl, trivial⟩, [], Split.nil⟩
    · rintro k E M' H ⟨i, hle, hik, hsm, rfl, rfl⟩
      refine C.seq ?_
      refine C.region_seq ?_
      refine G.value rfl rfl rfl (Sure.move rfl) ?_
      refine G.value rfl rfl rfl (Sure.move rfl) ?_
      refine G.value rfl rfl rfl (Sure.len_slice rfl) ?_
      refine G.value rfl rfl rfl (Sure.lss rfl rfl) ?_
      refine G.nil ?_
      refine C.cond_dec rfl (fun hlt => ?_) (fun hlt => ?_)
      · obtain ⟨x, hx⟩ : ∃ x, a[i]? = some x := ⟨a[i]'(by omega), List.getElem?_eq_getElem (by omega)⟩
        obtain ⟨y, hy⟩ : ∃ y, b[i]? = some y := ⟨b[i]'(by omega), List.getElem?_eq_getElem (by omega)⟩
        rw [drop_cons hx, drop_cons hy] at hsm
        obtain ⟨q1, o1, c1, hq1, hrd1, hseg1⟩ := SlL.row (i := i) (e := runL x) (SlL.mono ha hle) (by rw [List.getElem?_map, hx]; rfl)
        obtain ⟨q2, o2, c2, hq2, hrd2, hseg2⟩ := SlL.row (i := i) (e := runL y) (SlL.mono hb hle) (by rw [List.getElem?_map, hy]; rfl)
        refine C.skip ?_
        refine Fin.th ?_
        refine C.seq ?_
        refine C.block ?_
        -- draws its order
        refine C.draw_seq (_) mixed (by kernel_rfl) (Incl.refl _) ?_
        refine GD.val 0 rfl rfl rfl rfl (by kernel_rfl) rfl (Sure.move rfl) ?_
        refine GD.val 1 rfl rfl rfl rfl (by kernel_rfl) rfl (Sure.move rfl) ?_
        refine GD.val 2 rfl rfl rfl rfl (by kernel_rfl) rfl (Sure.move rfl) ?_
        refine GD.val 3 rfl rfl rfl rfl (by kernel_rfl) rfl (Sure.indexAddr (congrArg (fun q => some (Value.slice q a.length ca)) hq1) rfl (by omega)) ?_
        refine GD.val 4 rfl rfl rfl rfl (by kernel_rfl) rfl (Sure.loadAgg rfl hrd1 hseg1) ?_
        refine GD.val 5 rfl rfl rfl rfl (by kernel_rfl) rfl (Sure.move rfl) ?_
        refine GD.val 6 rfl rfl rfl rfl (by kernel_rfl) rfl (Sure.move rfl) ?_
        refine GD.val 7 rfl rfl rfl rfl (by kernel_rfl) rfl (Sure.indexAddr (congrArg (fun q => some (Value.slice q b.length cb)) hq2) rfl (by omega)) ?_
        refine GD.val 8 rfl rfl rfl rfl (by kernel_rfl) rfl (Sure.loadAgg rfl hrd2 hseg2) ?_
        refine GD.one 9 (by kernel_rfl) rfl rfl (by kernel_rfl) ?_
        refine Next.call 9 rfl rfl rfl (by kernel_rfl) (by kernel_rfl) rfl rfl rfl rfl (hf M' hle x (List.mem_of_getElem? hx) y (List.mem_of_getElem? hy)) (Split.nil) ?_
        rintro _ M1 _ le1 ⟨rfl, rfl⟩
        refine ⟨Incl.nil _, ?_⟩
        cases hq : q x y with
        | true =>
          refine GD.val 10 rfl rfl rfl rfl (by kernel_rfl) rfl (Sure.not rfl) ?_
          refine GD.done (by kernel_rfl) (by kernel_rfl) ?_
          refine C.cond_false rfl ?_
          refine C.skip ?_
          refine Fin.blk ?_
          refine Fin.th ?_
          refine C.region ?_
          refine G.value rfl rfl rfl (Sure.move rfl) ?_
          refine G.value rfl rfl rfl (Sure.add rfl rfl (inK64 (by omega))) ?_
          refine G.value rfl rfl rfl (Sure.assign rfl) ?_
          refine G.nil ?_
          refine Fin.th ?_
          exact ⟨k - 1, _, _, by omega, ⟨i + 1, hle.trans le1, by omega, by rw [hsm]; simp [sameL, hq], rfl, rfl⟩, ⟨rfl, rfl, rfl, rfl, trivial⟩, [], Split.nil⟩
        | false =>
          refine GD.val 10 rfl rfl rfl rfl (by kernel_rfl) rfl (Sure.not rfl) ?_
          rw [show sameL q a b = false from by rw [hsm]; simp [sameL, hq]]
          refine GD.done (by kernel_rfl) (by kernel_rfl) ?_
          refine C.cond_true rfl ?_
          refine C.region_seq ?_
          refine G.value rfl rfl rfl (Sure.assign rfl) ?_
          refine G.nil ?_
          refine C.ret ?_
          refine Fin.blk_ret ?_
          refine Fin.th_ret ?_
          refine Fin.th_ret ?_
          refine Fin.blk_ret ?_
          refine Fin.th_ret ?_
          exact Fin.fn (Res.tmp rfl rfl) Split.nil ⟨rfl, rfl⟩
      · rw [show sameL q a b = true from by rw [hsm, List.drop_eq_nil_of_le (by omega), List.drop_eq_nil_of_le (by omega)]; rfl]
        refine C.exit ?_
        refine Fin.th_exit ?_
        refine Fin.th_exit ?_
        refine Fin.blk_eq ?_
        refine Fin.th ?_
        refine C.region_seq ?_
        refine G.value rfl rfl rfl (Sure.assign rfl) ?_
        refine G.nil ?_
        refine C.ret ?_
        exact Fin.fn (Res.tmp rfl rfl) Split.nil ⟨rfl, rfl⟩

theorem plainRun1_spec (M : Mem) (x y : Run) : Spec Tryz.prog 135 [.agg (runL x).toArray, .agg (runL y).toArray] M [] (fun v _ H => v = .bool (runEq x y) ∧ H = []) := by
  refine Spec.of_code 8 Tryz.func135 rfl callable135 rfl rfl fun w => ?_
  refine C.region_seq ?_
  refine G.dyn rfl rfl rfl ?_
  refine Dyn.boxAgg rfl ?_
  intro b2
  refine G.dyn rfl rfl rfl ?_
  refine Dyn.boxAgg rfl ?_
  intro b3
  refine G.value rfl rfl rfl (Sure.assign rfl) ?_
  refine G.nil ?_
  refine C.region_seq ?_
  refine G.value rfl rfl rfl (Sure.loadAgg rfl rdx rfl) ?_
  refine G.value rfl rfl rfl (Sure.loadAgg rfl rdx rfl) ?_
  refine G.value rfl rfl rfl (Sure.bin rfl rfl (fun w => run_eqGuard_agg w _ _ _ _ _ _ (by kernel_rfl)) (fun w => runEq_run x y w)) ?_
  refine G.value rfl rfl rfl (Sure.assign rfl) ?_
  refine G.nil ?_
  refine C.ret ?_
  exact Fin.fn (Res.tmp rfl rfl) Split.nil ⟨rfl, rfl⟩

theorem plainRun_spec (M : Mem) (pa pb : Option Addr) (ca cb : Nat) (a b : List Run) (ha : SlL M [] 3 pa (a.map runL)) (hb : SlL M [] 3 pb (b.map runL)) (hl : a.length ≤ 1000000000) :
    Spec Tryz.prog 99 [.slice pa a.length ca, .slice pb b.length cb] M [] (fun v _ H => v = .bool (sameL runEq a b) ∧ H = []) := by
  refine Spec.of_code 8 Tryz.func99 rfl callable99 rfl rfl fun w => ?_
  refine C.region_seq ?_
  refine G.value rfl rfl rfl (Sure.assign rfl) ?_
  refine G.nil ?_
  refine C.region_seq ?_
  refine G.value rfl rfl rfl (Sure.move rfl) ?_
  refine G.value rfl rfl rfl (Sure.move rfl) ?_
  refine G.call rfl rfl rfl rfl rfl rfl (sameRun_spec M pa pb ca cb a b 135 runEq ha hb hl (fun M' _ x _ y _ => plainRun1_spec M' x y)) (Split.nil) ?_
  rintro _ M1 _ le1 ⟨rfl, rfl⟩
  refine G.value rfl rfl rfl (Sure.assign rfl) ?_
  refine G.nil ?_
  refine C.ret ?_
  exact Fin.fn (Res.tmp rfl rfl) Split.nil ⟨rfl, rfl⟩

theorem sameIno_spec (M : Mem) (pa pb : Option Addr) (ca cb : Nat) (a b : List InoD) (f : Nat) (q : InoD → InoD → Bool) (ha : SlL M [] 7 pa (a.map inoDL)) (hb : SlL M [] 7 pb (b.map inoDL)) (hl : a.length ≤ 1000000000)
    (hf : ∀ M', MLe M M' → ∀ x ∈ a, ∀ y ∈ b, Spec Tryz.prog f [.agg (inoDL x).toArray, .agg (inoDL y).toArray] M' [] (fun v _ H => v = .bool (q x y) ∧ H = [])) :
    Spec Tryz.prog 61 [.slice pa a.length ca, .slice pb b.length cb, .func (.func f) #[] #[]] M [] (fun v _ H => v = .bool (sameL q a b) ∧ H = []) := by
  refine Spec.of_code 30 Tryz.func61 rfl callable61 rfl rfl fun w => ?_
  refine C.region_seq ?_
  refine G.value rfl rfl rfl (Sure.assign rfl) ?_
  refine G.nil ?_
  refine C.seq ?_
  refine C.region_seq ?_
  refine G.value rfl rfl rfl (Sure.move rfl) ?_
  refine G.value rfl rfl rfl (Sure.len_slice rfl) ?_
  refine G.value rfl rfl rfl (Sure.move rfl) ?_
  refine G.value rfl rfl rfl (Sure.len_slice rfl) ?_
  refine G.value rfl rfl rfl (Sure.neq rfl rfl) ?_
  refine G.nil ?_
  refine C.cond_dec rfl (fun hne => ?_) (fun hne => ?_)
  · rw [sameL_len q (by omega)]
    refine C.region_seq ?_
    refine G.value rfl rfl rfl (Sure.assign rfl) ?_
    refine G.nil ?_
    refine C.ret ?_
    refine Fin.th_ret ?_
    exact Fin.fn (Res.tmp rfl rfl) Split.nil ⟨rfl, rfl⟩
  · have hab : a.length = b.length := by omega
    refine C.skip ?_
    refine Fin.th ?_
    refine C.seq ?_
    refine C.region_seq ?_
    refine G.value rfl rfl rfl (Sure.assign rfl) ?_
    refine G.nil ?_
    refine C.block ?_
    refine C.loop (fun k E M' H => ∃ i : Nat, MLe M M' ∧ i + k = a.length ∧ sameL q a b = sameL q (a.drop i) (b.drop i) ∧ E = [(0, .slice pa a.length ca), (1, .slice pb b.length cb), (2, .func (.func f) #[] #[]), (7, intV i)] ∧ H = []) (a.length) ?_ ?_
    · exact ⟨_, _, ⟨0, MLe.refl _, by omega, rfl, rfl, rfl⟩, ⟨rfl, rfl, rfl, rfl, trivial⟩, [], Split.nil⟩
    · rintro k E M' H ⟨i, hle, hik, hsm, rfl, rfl⟩
      refine C.seq ?_
      refine C.region_seq ?_
      refine G.value rfl rfl rfl (Sure.move rfl) ?_
      refine G.value rfl rfl rfl (Sure.move rfl) ?_
      refine G.value rfl rfl rfl (Sure.len_slice rfl) ?_
      refine G.value rfl rfl rfl (Sure.lss rfl rfl) ?_
      refine G.nil ?_
      refine C.cond_dec rfl (fun hlt => ?_) (fun hlt => ?_)
      · obtain ⟨x, hx⟩ : ∃ x, a[i]? = some x := ⟨a[i]'(by omega), List.getElem?_eq_getElem (by omega)⟩
        obtain ⟨y, hy⟩ : ∃ y, b[i]? = some y := ⟨b[i]'(by omega), List.getElem?_eq_getElem (by omega)⟩
        rw [drop_cons hx, drop_cons hy] at hsm
        obtain ⟨q1, o1, c1, hq1, hrd1, hseg1⟩ := SlL.row (i := i) (e := inoDL x) (SlL.mono ha hle) (by rw [List.getElem?_map, hx]; rfl)
        obtain ⟨q2, o2, c2, hq2, hrd2, hseg2⟩ := SlL.row (i := i) (e := inoDL y) (SlL.mono hb hle) (by rw [List.getElem?_map, hy]; rfl)
        refine C.skip ?_
        refine Fin.th ?_
        refine C.seq ?_
        refine C.block ?_
        -- draws its order
        refine C.draw_seq (_) mixed (by kernel_rfl) (Incl.refl _) ?_
        refine GD.val 0 rfl rfl rfl rfl (by kernel_rfl) rfl (Sure.move rfl) ?_
        refine GD.val 1 rfl rfl rfl rfl (by kernel_rfl) rfl (Sure.move rfl) ?_
        refine GD.val 2 rfl rfl rfl rfl (by kernel_rfl) rfl (Sure.move rfl) ?_
        refine GD.val 3 rfl rfl rfl rfl (by kernel_rfl) rfl (Sure.indexAddr (congrArg (fun q => some (Value.slice q a.length ca)) hq1) rfl (by omega)) ?_
        refine GD.val 4 rfl rfl rfl rfl (by kernel_rfl) rfl (Sure.loadAgg rfl hrd1 hseg1) ?_
        refine GD.val 5 rfl rfl rfl rfl (by kernel_rfl) rfl (Sure.move rfl) ?_
        refine GD.val 6 rfl rfl rfl rfl (by kernel_rfl) rfl (Sure.move rfl) ?_
        refine GD.val 7 rfl rfl rfl rfl (by kernel_rfl) rfl (Sure.indexAddr (congrArg (fun q => some (Value.slice q b.length cb)) hq2) rfl (by omega)) ?_
        refine GD.val 8 rfl rfl rfl rfl (by kernel_rfl) rfl (Sure.loadAgg rfl hrd2 hseg2) ?_
        refine GD.one 9 (by kernel_rfl) rfl rfl (by kernel_rfl) ?_
        refine Next.call 9 rfl rfl rfl (by kernel_rfl) (by kernel_rfl) rfl rfl rfl rfl (hf M' hle x (List.mem_of_getElem? hx) y (List.mem_of_getElem? hy)) (Split.nil) ?_
        rintro _ M1 _ le1 ⟨rfl, rfl⟩
        refine ⟨Incl.nil _, ?_⟩
        cases hq : q x y with
        | true =>
          refine GD.val 10 rfl rfl rfl rfl (by kernel_rfl) rfl (Sure.not rfl) ?_
          refine GD.done (by kernel_rfl) (by kernel_rfl) ?_
          refine C.cond_false rfl ?_
          refine C.skip ?_
          refine Fin.blk ?_
          refine Fin.th ?_
          refine C.region ?_
          refine G.value rfl rfl rfl (Sure.move rfl) ?_
          refine G.value rfl rfl rfl (Sure.add rfl rfl (inK64 (by omega))) ?_
          refine G.value rfl rfl rfl (Sure.assign rfl) ?_
          refine G.nil ?_
          refine Fin.th ?_
          exact ⟨k - 1, _, _, by omega, ⟨i + 1, hle.trans le1, by omega, by rw [hsm]; simp [sameL, hq], rfl, rfl⟩, ⟨rfl, rfl, rfl, rfl, trivial⟩, [], Split.nil⟩
        | false =>
          refine GD.val 10 rfl rfl rfl rfl (by kernel_rfl) rfl (Sure.not rfl) ?_
          rw [show sameL q a b = false from by rw [hsm]; simp [sameL, hq]]
          refine GD.done (by kernel_rfl) (by kernel_rfl) ?_
          refine C.cond_true rfl ?_
          refine C.region_seq ?_
          refine G.value rfl rfl rfl (Sure.assign rfl) ?_
          refine G.nil ?_
          refine C.ret ?_
          refine Fin.blk_ret ?_
          refine Fin.th_ret ?_
          refine Fin.th_ret ?_
          refine Fin.blk_ret ?_
          refine Fin.th_ret ?_
          exact Fin.fn (Res.tmp rfl rfl) Split.nil ⟨rfl, rfl⟩
      · rw [show sameL q a b = true from by rw [hsm, List.drop_eq_nil_of_le (by omega), List.drop_eq_nil_of_le (by omega)]; rfl]
        refine C.exit ?_
        refine Fin.th_exit ?_
        refine Fin.th_exit ?_
        refine Fin.blk_eq ?_
        refine Fin.th ?_
        refine C.region_seq ?_
        refine G.value rfl rfl rfl (Sure.assign rfl) ?_
        refine G.nil ?_
        refine C.ret ?_
        exact Fin.fn (Res.tmp rfl rfl) Split.nil ⟨rfl, rfl⟩

end Go.Proofs.YtaeeahcokiebdaaGreat
