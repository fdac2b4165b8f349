/-
  The walk of the law on deeds that fit.
-/
import Derived.Test.YtaeeahcokiebdaaSe
import Derived.Test.YtaeeahcokiebdaaXc
namespace Go.Proofs.Ytaeeahcokiebdaa
set_option maxRecDepth 20000

/-- A state of few links. -/
def Few (s : Sta) (i : Nat) : Prop := s.inos.length ≤ i ∧ s.bad = [] ∧ ∀ x ∈ s.inos, x.ents = [] ∧ x.runs = [] ∧ x.tgt.size ≤ 150
theorem Few.ok {s : Sta} {i : Nat} (h : Few s i) (hi : i ≤ 1000) : StaOk s ∧ (deedsB (whole s)).length ≤ 1000000 := by
  obtain ⟨h1, h2, h3⟩ := h
  refine ⟨⟨by omega, by rw [h2]; simp, fun x hx => by obtain ⟨e1, e2, _⟩ := h3 x hx; exact ⟨by rw [e1]; simp, by rw [e2]; simp⟩⟩, ?_⟩
  have hA : ∀ l : List Ino, (∀ x ∈ l, x.ents = [] ∧ x.runs = [] ∧ x.tgt.size ≤ 150) → (deedsB (l.map fun x => (⟨2, 0, x⟩ : Deed))).length ≤ l.length * 300 := by
    intro l
    induction l with
    | nil => intro _; simp [deedsB]
    | cons x l ih =>
      intro hl
      have h4 := ih fun y hy => hl y (by simp [hy])
      obtain ⟨e1, e2, e3⟩ := hl x (by simp)
      have h5 : (deedB ⟨2, 0, x⟩).length ≤ 300 := by simp [deedB, inoB, intsB_len, e1, e2]; omega
      simp only [deedsB, List.map_cons, List.flatten_cons, List.length_append, List.length_cons] at h4 ⊢
      omega
  have hB := hA s.inos h3
  have h6 : deedsB (whole s) = deedB ⟨1, s.next, ino0⟩ ++ deedsB (s.inos.map fun x => (⟨2, 0, x⟩ : Deed)) := by simp [whole, deedsB, h2]
  rw [h6, List.length_append]
  have h7 : (deedB ⟨1, s.next, ino0⟩).length = 9 := by simp [deedB]
  omega
theorem Few.put {s : Sta} {i : Nat} (h : Few s i) (x : Ino) (hx : x.ents = [] ∧ x.runs = [] ∧ x.tgt.size ≤ 150) : Few (applyL s [⟨2, 0, x⟩]) (i + 1) := by
  obtain ⟨h1, h2, h3⟩ := h
  show Few (apply1 s ⟨2, 0, x⟩) (i + 1)
  unfold apply1
  rw [if_neg (by show ¬ ((2 : Int) = 1); decide), if_pos rfl]
  refine ⟨Nat.le_trans (putI_len _ _) (by omega), h2, ?_⟩
  intro y hy
  dsimp only at hy
  unfold putI at hy
  split at hy
  · rcases List.mem_or_eq_of_mem_set hy with h | h
    · exact h3 y h
    · rw [h]; exact hx
  · split at hy
    · rcases List.mem_append.1 hy with h | h
      · exact h3 y h
      · rw [List.mem_singleton.1 h]; exact hx
    · rcases List.mem_append.1 hy with h | h
      · rcases List.mem_append.1 h with h | h
        · exact h3 y (List.mem_of_mem_take h)
        · rw [List.mem_singleton.1 h]; exact hx
      · exact h3 y (List.mem_of_mem_drop h)
theorem law_spec (M : Mem) (g : Geo) (n size : Int) : Spec Try.prog 3 [geoV g, intV n, intV size] M [] (fun v _ _ => v = .bool true) := by
  refine Spec.of_code 91 Try.func3 rfl callable3 rfl rfl fun w => ?_
  refine C.region_seq ?_
  refine G.dyn rfl rfl rfl ?_
  refine Dyn.boxAgg rfl ?_
  intro b3
  refine G.value rfl rfl rfl (Sure.assign rfl) ?_
  refine G.nil ?_
  refine C.region_seq ?_
  refine G.value rfl rfl rfl (Sure.loadAgg rfl (by first | exact Rd.h0 | exact Rd.tl Rd.h0 | exact Rd.tl (Rd.tl Rd.h0) | exact Rd.tl (Rd.tl (Rd.tl Rd.h0)) | exact Rd.tl (Rd.tl (Rd.tl (Rd.tl Rd.h0))) | exact Rd.tl (Rd.tl (Rd.tl (Rd.tl (Rd.tl Rd.h0)))) | exact Rd.m (by assumption) | assumption) rfl) ?_
  refine G.call rfl rfl rfl rfl rfl rfl (geometry_spec M g) (Split.nil) ?_
  rintro _ M1 _ le1 ⟨rfl, g', rfl, hg, hg2, hg3⟩
  refine G.dyn0 rfl rfl ?_
  refine Dyn.storeAgg rfl rfl (by first | exact Pick.here | exact Pick.there Pick.here | exact Pick.there (Pick.there Pick.here) | exact Pick.there (Pick.there (Pick.there Pick.here)) | exact Pick.there (Pick.there (Pick.there (Pick.there Pick.here))) | exact Pick.there (Pick.there (Pick.there (Pick.there (Pick.there Pick.here))))) rfl rfl rfl ?_
  refine G.nil ?_
  refine C.region_seq ?_
  refine G.value rfl rfl rfl (Sure.move rfl) ?_
  refine G.value rfl rfl rfl (Sure.conv' rfl) ?_
  have hw := u64_wrap_bd size
  refine G.value rfl rfl rfl (Sure.rem rfl rfl (by omega) (by decide)) ?_
  obtain ⟨sz, hsz⟩ : ∃ sz : Nat, IntKind.u64.wrap size % 150 = sz := ⟨(IntKind.u64.wrap size % 150).toNat, by omega⟩
  have hsz2 : sz < 150 := by omega
  rw [hsz]
  refine G.value rfl rfl rfl (Sure.conv rfl (inK64 (by omega))) ?_
  refine G.value rfl rfl rfl (Sure.assign rfl) ?_
  refine G.nil ?_
  refine C.region_seq ?_
  refine G.value rfl rfl rfl (Sure.assign rfl) ?_
  refine G.nil ?_
  refine C.seq ?_
  refine C.region_seq ?_
  refine G.value rfl rfl rfl (Sure.assign rfl) ?_
  refine G.nil ?_
  refine C.block ?_
  refine C.loop (fun k E M' H => ∃ t : ByteArray, MLe M M' ∧ t.size + k = sz ∧ E = [(1, intV n), (2, .int .i64 sz), (3, ptr b3), (7, .string t), (8, .int .i64 t.size)] ∧ H = [(b3, .cells (geoL g'))]) (sz) ?_ ?_
  · exact ⟨_, _, ⟨⟨#[]⟩, le1, by simp [ByteArray.size], rfl, rfl⟩, ⟨rfl, rfl, rfl, rfl, rfl, trivial⟩, _, Split.cons .here Split.nil⟩
  · rintro k E M' H ⟨t, hle, htk, rfl, rfl⟩
    refine C.seq ?_
    refine C.region_seq ?_
    refine G.value rfl rfl rfl (Sure.move rfl) ?_
    refine G.value rfl rfl rfl (Sure.move rfl) ?_
    refine G.value rfl rfl rfl (Sure.lss rfl rfl) ?_
    refine G.nil ?_
    refine C.cond_dec rfl (fun hlt => ?_) (fun hlt => ?_)
    · have h116 : (⟨#[116]⟩ : ByteArray).size = 1 := rfl
      refine C.skip ?_
      refine Fin.th ?_
      refine C.seq ?_
      refine C.block ?_
      refine C.region ?_
      refine G.value rfl rfl rfl (Sure.move rfl) ?_
      refine G.value rfl rfl rfl (Sure.str_add rfl rfl (by omega)) ?_
      refine G.value rfl rfl rfl (Sure.assign rfl) ?_
      refine G.nil ?_
      refine Fin.blk ?_
      refine Fin.th ?_
      refine C.region ?_
      refine G.value rfl rfl rfl (Sure.move rfl) ?_
      refine G.value rfl rfl rfl (Sure.add rfl rfl (inK64 (by omega))) ?_
      refine G.value rfl rfl rfl (Sure.assign rfl) ?_
      refine G.nil ?_
      refine Fin.th ?_
      refine ⟨k - 1, _, _, by omega, ⟨t ++ ⟨#[116]⟩, hle, by rw [ByteArray.size_append]; show t.size + 1 + (k - 1) = sz; omega, rfl, rfl⟩, ⟨rfl, rfl, rfl, rfl, ?_, trivial⟩, _, Split.cons .here Split.nil⟩
      show some (Value.int .i64 ((t.size : Int) + 1)) = some (Value.int .i64 ((t ++ (⟨#[116]⟩ : ByteArray)).size : Int))
      rw [ByteArray.size_append]; rfl
    · have hts : t.size = sz := by omega
      clear htk hlt
      refine C.exit ?_
      refine Fin.th_exit ?_
      refine Fin.th_exit ?_
      refine Fin.blk_eq ?_
      refine Fin.th ?_
      -- draws its order
      refine C.draw_seq (_) mixed (by kernel_rfl) (Incl.refl _) ?_
      refine GD.val 0 rfl rfl rfl rfl (by kernel_rfl) rfl (Sure.loadAgg rfl (by first | exact Rd.h0 | exact Rd.tl Rd.h0 | exact Rd.tl (Rd.tl Rd.h0) | exact Rd.tl (Rd.tl (Rd.tl Rd.h0)) | exact Rd.tl (Rd.tl (Rd.tl (Rd.tl Rd.h0))) | exact Rd.tl (Rd.tl (Rd.tl (Rd.tl (Rd.tl Rd.h0)))) | exact Rd.m (by assumption) | assumption) rfl) ?_
      refine GD.one 1 (by kernel_rfl) rfl rfl (by kernel_rfl) ?_
      refine Next.call 1 rfl rfl rfl (by kernel_rfl) (by kernel_rfl) rfl rfl rfl rfl (pw_new_spec M') (Split.nil) ?_
      rintro _ M2 _ le2 ⟨pb, rfl, rfl⟩
      refine ⟨(by intro p hp; simp_all), ?_⟩
      refine GD.one 2 (by kernel_rfl) rfl rfl (by kernel_rfl) ?_
      refine Next.call 2 rfl rfl rfl (by kernel_rfl) (by kernel_rfl) rfl rfl rfl rfl (norNew_spec M2 g' pb ⟨-1, 0, false, 0⟩ (.map Option.none) hg ⟨by decide, by decide⟩) (Split.cons .here Split.nil) ?_
      rintro _ M3 _ le3 ⟨ad, hpb, rfl, rfl, hok⟩
      refine ⟨(by intro p hp; simp_all), ?_⟩
      refine GD.val 3 rfl rfl rfl rfl (by kernel_rfl) rfl (Sure.move rfl) ?_
      refine GD.val 4 rfl rfl rfl rfl (by kernel_rfl) rfl (Sure.extract rfl rfl) ?_
      refine GD.val 5 rfl rfl rfl rfl (by kernel_rfl) rfl (Sure.extract rfl rfl) ?_
      refine GD.one 6 (by kernel_rfl) rfl rfl (by kernel_rfl) ?_
      refine Next.dyn 6 rfl rfl rfl (by kernel_rfl) (by kernel_rfl) rfl (Dyn.assign rfl ?_)
      refine ⟨MLe.refl _, (by first | exact Incl.refl _ | exact Incl.nil _ | exact Incl.cons (by simp) (Incl.nil _) | exact Incl.cons (by simp) (Incl.cons (by simp) (Incl.nil _)) | exact Incl.cons (by simp) (Incl.cons (by simp) (Incl.cons (by simp) (Incl.nil _)))), ?_⟩
      refine GD.one 7 (by kernel_rfl) rfl rfl (by kernel_rfl) ?_
      refine Next.dyn 7 rfl rfl rfl (by kernel_rfl) (by kernel_rfl) rfl (Dyn.assign rfl ?_)
      refine ⟨MLe.refl _, (by first | exact Incl.refl _ | exact Incl.nil _ | exact Incl.cons (by simp) (Incl.nil _) | exact Incl.cons (by simp) (Incl.cons (by simp) (Incl.nil _)) | exact Incl.cons (by simp) (Incl.cons (by simp) (Incl.cons (by simp) (Incl.nil _)))), ?_⟩
      refine GD.done (by kernel_rfl) (by kernel_rfl) ?_
      refine C.region_seq ?_
      refine G.value rfl rfl rfl (Sure.move rfl) ?_
      subst hpb
      obtain ⟨f1, f2, f3⟩ := fmt_good hok ⟨rfl, rfl⟩
      refine G.call rfl rfl rfl rfl rfl rfl (format_spec M3 ad _ hok) (Split.one PickL.here) ?_
      rintro _ M4 _ le4 (⟨_, hne, _⟩ | ⟨jb, s, rfl, h0, hsv, hs, rfl⟩)
      · exact absurd f1 hne
      generalize hch : (fmt ⟨g', List.replicate (chipN g') 255, ⟨-1, 0, false, 0⟩, []⟩).1 = ch at f2 f3
      clear hch f1 h0
      refine G.value rfl rfl rfl (Sure.move rfl) ?_
      refine G.value rfl rfl rfl (Sure.extract rfl rfl) ?_
      refine G.value rfl rfl rfl (Sure.extract rfl rfl) ?_
      refine G.value rfl rfl rfl (Sure.assign rfl) ?_
      refine G.value rfl rfl rfl (Sure.assign rfl) ?_
      refine G.nil ?_
      refine C.seq ?_
      refine C.region_seq ?_
      refine G.call rfl rfl rfl rfl rfl rfl (awake_spec M4) (Split.nil) ?_
      rintro _ M5 _ le5 ⟨rfl, rfl⟩
      refine G.value rfl rfl rfl (Sure.not rfl) ?_
      refine G.value rfl rfl rfl (Sure.move rfl) ?_
      refine G.value rfl rfl rfl (Sure.move rfl) ?_
      refine G.value rfl rfl rfl ((Sure.neq rfl rfl).to_f (by decide)) ?_
      refine G.value rfl rfl rfl (Sure.pick_false rfl rfl) ?_
      refine G.value rfl rfl rfl (Sure.move rfl) ?_
      refine G.value rfl rfl rfl (Sure.move rfl) ?_
      refine G.value rfl rfl rfl (ptr_eq_f rfl rfl) ?_
      refine G.value rfl rfl rfl (Sure.pick_false rfl rfl) ?_
      refine G.nil ?_
      refine C.cond_false rfl ?_
      refine C.skip ?_
      refine Fin.th ?_
      refine C.seq ?_
      refine C.region_seq ?_
      refine G.value rfl rfl rfl (Sure.assign rfl) ?_
      refine G.nil ?_
      refine C.block ?_
      have hwn := u64_wrap_bd n
      obtain ⟨m, hm⟩ : ∃ m : Nat, IntKind.u64.wrap n % 30 = m := ⟨(IntKind.u64.wrap n % 30).toNat, by omega⟩
      have hm2 : m < 30 := by omega
      have hjep : fmtJ.epoch ≤ 1 + ((0 : Nat) : Int) := by decide
      have hfew : Few s.v 1 := by rw [hsv]; exact ⟨by simp [staR], rfl, by intro x hx; simp [staR] at hx; subst hx; exact ⟨rfl, rfl, by decide⟩⟩
      generalize fmtJ = j at f2 hjep ⊢
      refine C.loop (fun k E M' H => ∃ (i : Nat) (ch : Chip) (j : Jr) (s : StaD), MLe M5 M' ∧ i + k = m ∧ Good ad ch j ∧ ch.g = g' ∧ j.epoch ≤ 1 + (i : Int) ∧ Few s.v (1 + i) ∧ SOk M' s ∧ E = [(1, intV n), (2, .int .i64 sz), (3, ptr b3), (7, .string t), (11, ptr jb), (13, .int .i64 i)] ∧ H = (b3, .cells (geoL g')) :: (jb, .cells (jrL ad.cb j s)) :: chipH ad ch) (m) ?_ ?_
      · refine ⟨_, _, ⟨0, ch, j, s, MLe.refl _, by omega, f2, f3, hjep, hfew, hs.mono le5, rfl, rfl⟩, ⟨rfl, rfl, rfl, by rw [hts]; rfl, rfl, rfl, trivial⟩, [], ?_⟩
        exact Split.cons (.there (.there (.there (.there (.there .here))))) (Split.one PickL.all)
      · rintro k E M' H ⟨i, ch, j, s, hle5, hik, hgd, hcg, hep, hfew, hs, rfl, rfl⟩
        refine C.seq ?_
        refine C.region_seq ?_
        refine G.value rfl rfl rfl (Sure.move rfl) ?_
        refine G.value rfl rfl rfl (Sure.move rfl) ?_
        refine G.value rfl rfl rfl (Sure.conv' rfl) ?_
        refine G.value rfl rfl rfl (Sure.rem rfl rfl (by omega) (by decide)) ?_
        rw [hm]
        refine G.value rfl rfl rfl (Sure.conv rfl (inK64 (by omega))) ?_
        refine G.value rfl rfl rfl (Sure.lss rfl rfl) ?_
        refine G.nil ?_
        refine C.cond_dec rfl (fun hlt => ?_) (fun hlt => ?_)
        · refine C.skip ?_
          refine Fin.th ?_
          refine C.seq ?_
          refine C.block ?_
          refine C.region_seq ?_
          refine G.value rfl rfl rfl (Sure.move rfl) ?_
          refine G.value rfl rfl rfl (Sure.rem rfl rfl (by omega) (by decide)) ?_
          refine G.value rfl rfl rfl (Sure.add rfl rfl (inK64 (by omega))) ?_
          refine G.value rfl rfl rfl (Sure.move rfl) ?_
          refine G.value rfl rfl rfl (Sure.move rfl) ?_
          refine G.value rfl rfl rfl (Sure.move rfl) ?_
          refine G.value rfl rfl rfl (Sure.move rfl) ?_
          refine G.value rfl rfl rfl (Sure.rem rfl rfl (by omega) (by decide)) ?_
          obtain ⟨q, hq⟩ : ∃ q : Nat, (i : Int) % 3 = q := ⟨((i : Int) % 3).toNat, by omega⟩
          have hq3 : q ≤ 2 := by omega
          have hmul : sz * q ≤ 149 * 2 := Nat.mul_le_mul (by omega) hq3
          have hmul2 : sz * q ≤ sz * 2 := Nat.mul_le_mul_left _ hq3
          have hc : ((sz * q : Nat) : Int) = (sz : Int) * (q : Int) := Int.natCast_mul _ _
          rw [hq]
          refine G.value rfl rfl rfl (Sure.mul rfl rfl (inK64 (by omega))) ?_
          rw [← hc]
          refine G.value rfl rfl rfl (Sure.quo rfl rfl (by omega) (by decide) (inK64 (by omega))) ?_
          refine G.value rfl rfl rfl (Sure.sub rfl rfl (inK64 (by omega))) ?_
          obtain ⟨hi, hhi⟩ : ∃ hi : Nat, (sz : Int) - ((sz * q : Nat) : Int) / 3 = hi := ⟨((sz : Int) - ((sz * q : Nat) : Int) / 3).toNat, by omega⟩
          rw [hhi]
          refine G.value rfl rfl rfl (Sure.sliceStr 0 hi rfl rfl rfl (.inr ⟨rfl, rfl⟩) (.inl rfl) (by omega) (by omega)) ?_
          refine G.value rfl rfl rfl (Sure.build rfl rfl) ?_
          refine G.value rfl rfl rfl (Sure.build rfl rfl) ?_
          refine G.dyn rfl rfl rfl ?_
          refine Dyn.buildSlice rfl rfl rfl (by simp [vcl]) (by decide) ?_
          intro b14
          refine G.donate fun M6 le6 hM6 => ?_
          refine G.value rfl rfl rfl (Sure.assign rfl) ?_
          refine G.nil ?_
          -- draws its order
          obtain ⟨x, hx⟩ : ∃ x : Ino, x = ⟨2 + (i : Int) % 9, 3, 0, 0, t.extract 0 hi, [], []⟩ := ⟨_, rfl⟩
          have hxs : x.ents = [] ∧ x.runs = [] ∧ x.tgt.size ≤ 150 := by subst hx; exact ⟨rfl, rfl, by show (t.extract 0 hi).size ≤ 150; rw [ByteArray.size_extract]; omega⟩
          have hfp := hfew.put x hxs
          obtain ⟨hk1, hb1⟩ := hfew.ok (by omega)
          obtain ⟨hk2, hb2⟩ := hfp.ok (by omega)
          have hrd : RDeeds M6 (some ⟨b14, 0, Option.none⟩) [⟨2, 0, ⟨x, Option.none, 0, Option.none, 0⟩⟩] := by
            subst hx
            exact ⟨⟨by intro e he; simp at he; subst he; rfl, rfl, fun _ => ⟨b14, 0, _, rfl, Rd.m hM6, rfl⟩⟩, by intro d hd; simp at hd; subst hd; exact ⟨⟨by simp, Sl.empty⟩, ⟨by simp, Sl.empty⟩⟩⟩
          refine C.draw_seq ([(b3, .cells (geoL g'))]) mixed (by kernel_rfl) (by intro p hp; simp_all) ?_
          refine GD.val 0 rfl rfl rfl rfl (by kernel_rfl) rfl (Sure.move rfl) ?_
          refine GD.val 2 rfl rfl rfl rfl (by kernel_rfl) rfl (Sure.loadAgg rfl (by first | exact Rd.h0 | exact Rd.tl Rd.h0 | exact Rd.tl (Rd.tl Rd.h0) | exact Rd.tl (Rd.tl (Rd.tl Rd.h0)) | exact Rd.tl (Rd.tl (Rd.tl (Rd.tl Rd.h0))) | exact Rd.tl (Rd.tl (Rd.tl (Rd.tl (Rd.tl Rd.h0)))) | exact Rd.m (by assumption) | assumption) rfl) ?_
          refine GD.val 3 rfl rfl rfl rfl (by kernel_rfl) rfl (Sure.move rfl) ?_
          refine GD.one 1 (by kernel_rfl) rfl rfl (by kernel_rfl) ?_
          refine Next.call 1 rfl rfl rfl (by kernel_rfl) (by kernel_rfl) rfl rfl rfl rfl (jstate_spec M6 jb ad.cb j s (hs.mono le6) hk1) (Split.cons (.there .here) Split.nil) ?_
          rintro _ M7 _ le7 ⟨rfl, -, s1, hv1, rfl, hs1⟩
          refine ⟨(by intro p hp; simp_all), ?_⟩
          have hdv : ([⟨2, 0, ⟨x, Option.none, 0, Option.none, 0⟩⟩] : List DeedD).map DeedD.v = [⟨2, 0, x⟩] := rfl
          refine GD.one 4 (by kernel_rfl) rfl rfl (by kernel_rfl) ?_
          refine Next.call 4 rfl rfl rfl (by kernel_rfl) (by kernel_rfl) rfl rfl rfl rfl (spaceJournal_spec M7 s1 g' (some ⟨b14, 0, Option.none⟩) 1 [⟨2, 0, ⟨x, Option.none, 0, Option.none, 0⟩⟩] hg hs1 (by rw [hv1]; exact hk1) (hrd.mono le7) (by intro d hd; simp at hd; subst hd; exact ⟨by rw [hxs.1]; simp, by rw [hxs.2.1]; simp⟩) (by simp) (by rw [hdv, hv1]; exact hk2) (by rw [hdv, hv1]; omega)) (Split.nil) ?_
          rintro _ M8 _ le8 ⟨rfl, rfl⟩
          refine ⟨(by intro p hp; simp_all), ?_⟩
          rw [hdv, hv1]
          refine GD.one 5 (by kernel_rfl) rfl rfl (by kernel_rfl) ?_
          refine Next.dyn 5 rfl rfl rfl (by kernel_rfl) (by kernel_rfl) rfl (Dyn.assign rfl ?_)
          refine ⟨MLe.refl _, (by first | exact Incl.refl _ | exact Incl.nil _ | exact Incl.cons (by simp) (Incl.nil _) | exact Incl.cons (by simp) (Incl.cons (by simp) (Incl.nil _)) | exact Incl.cons (by simp) (Incl.cons (by simp) (Incl.cons (by simp) (Incl.nil _)))), ?_⟩
          refine GD.done (by kernel_rfl) (by kernel_rfl) ?_
          refine C.region_seq ?_
          refine G.value rfl rfl rfl (Sure.move rfl) ?_
          refine G.value rfl rfl rfl (Sure.move rfl) ?_
          have hepo : j.epoch < 2147483647 := by omega
          obtain ⟨hgd2, hcg2, hep2, hres⟩ := commit_good (s := s.v) (l := [⟨2, 0, x⟩]) hgd hepo
          refine G.call rfl rfl rfl rfl rfl rfl (commit_spec M8 jb ad ch j s (some ⟨b14, 0, Option.none⟩) 1 [⟨2, 0, ⟨x, Option.none, 0, Option.none, 0⟩⟩] hgd.ok hgd.jok (((hs.mono le6).mono le7).mono le8) hk1 ((hrd.mono le7).mono le8) (by intro d hd; simp at hd; subst hd; exact ⟨by rw [hxs.1]; simp, by rw [hxs.2.1]; simp⟩) (by simp) (by rw [hdv]; simp [deedsB, deedB, inoB, intsB_len, hxs.1, hxs.2.1]; omega) (by rw [hdv]; exact hk2) (by rw [hdv]; omega)) (Split.cons .here (Split.cons (.there .here) (Split.cons (.there .here) (Split.cons (.there .here) (Split.cons (.there .here) Split.nil))))) ?_
          rintro _ M9 _ le9 ⟨rfl, s2, hv2, hs2, rfl⟩
          rw [hdv] at hv2 ⊢
          rcases hres with ⟨e0, hs0⟩ | ⟨e10, hs10, hnf⟩
          · rw [e0]
            refine G.value rfl rfl rfl (Sure.assign rfl) ?_
            refine G.nil ?_
            refine C.region_seq ?_
            refine G.value rfl rfl rfl (Sure.move rfl) ?_
            refine G.value rfl rfl rfl ((Sure.neq rfl rfl).to_f (by decide)) ?_
            refine G.value rfl rfl rfl (Sure.move rfl) ?_
            refine G.skip rfl rfl rfl ?_
            refine G.skip rfl rfl rfl ?_
            refine G.skip rfl rfl rfl ?_
            refine G.skip rfl rfl rfl ?_
            refine G.skip rfl rfl rfl ?_
            refine G.value rfl rfl rfl (Sure.pick_false rfl rfl) ?_
            refine G.nil ?_
            refine C.cond_false rfl ?_
            refine C.skip ?_
            refine Fin.blk ?_
            refine Fin.th ?_
            refine C.region ?_
            refine G.value rfl rfl rfl (Sure.move rfl) ?_
            refine G.value rfl rfl rfl (Sure.add rfl rfl (inK64 (by omega))) ?_
            refine G.value rfl rfl rfl (Sure.assign rfl) ?_
            refine G.nil ?_
            refine Fin.th ?_
            exact ⟨k - 1, _, _, by omega, ⟨i + 1, _, _, s2, hle5.trans (le6.trans (le7.trans (le8.trans le9))), by omega, hgd2, hcg2.trans hcg, by omega, by rw [hv2, hs0]; exact by have := hfp; rwa [show 1 + i + 1 = 1 + (i + 1) from by omega] at this, hs2, rfl, rfl⟩, ⟨rfl, rfl, rfl, rfl, rfl, rfl, trivial⟩, _, Split.cons (.there (.there (.there (.there (.there .here))))) (Split.one PickL.here)⟩
          · have hfl : (firstB (j.epoch + 1) (applyL s.v [⟨2, 0, x⟩])).length = 8 + (deedsB (whole (applyL s.v [⟨2, 0, x⟩]))).length := by unfold firstB; rw [List.length_append, intB_len]
            have hcg' := congrArg Go.Proofs.Ytaeeahcokiebdaa.hsz hcg
            have hnf2 : ¬ ((8 : Int) + ((deedsB (whole (applyL s.v [⟨2, 0, x⟩]))).length : Int) + 7 ≤ (Go.Proofs.Ytaeeahcokiebdaa.hsz g' : Int)) := by omega
            rw [e10, decide_eq_false hnf2]
            refine G.value rfl rfl rfl (Sure.assign rfl) ?_
            refine G.nil ?_
            refine C.region_seq ?_
            refine G.value rfl rfl rfl (Sure.move rfl) ?_
            refine G.value rfl rfl rfl ((Sure.neq rfl rfl).to_t (by decide)) ?_
            refine G.value rfl rfl rfl (Sure.move rfl) ?_
            refine G.value rfl rfl rfl (Sure.move rfl) ?_
            refine G.value rfl rfl rfl (Sure.move rfl) ?_
            refine G.value rfl rfl rfl (Sure.move rfl) ?_
            refine G.value rfl rfl rfl ((Sure.neq rfl rfl).to_f (by decide)) ?_
            refine G.value rfl rfl rfl (Sure.pick_false rfl rfl) ?_
            refine G.value rfl rfl rfl (Sure.pick_true rfl rfl) ?_
            refine G.nil ?_
            refine C.cond_false rfl ?_
            refine C.skip ?_
            refine Fin.blk ?_
            refine Fin.th ?_
            refine C.region ?_
            refine G.value rfl rfl rfl (Sure.move rfl) ?_
            refine G.value rfl rfl rfl (Sure.add rfl rfl (inK64 (by omega))) ?_
            refine G.value rfl rfl rfl (Sure.assign rfl) ?_
            refine G.nil ?_
            refine Fin.th ?_
            exact ⟨k - 1, _, _, by omega, ⟨i + 1, _, _, s2, hle5.trans (le6.trans (le7.trans (le8.trans le9))), by omega, hgd2, hcg2.trans hcg, by omega, by rw [hv2, hs10]; exact ⟨by have := hfew.1; omega, hfew.2⟩, hs2, rfl, rfl⟩, ⟨rfl, rfl, rfl, rfl, rfl, rfl, trivial⟩, _, Split.cons (.there (.there (.there (.there (.there .here))))) (Split.one PickL.here)⟩
        · refine C.exit ?_
          refine Fin.th_exit ?_
          refine Fin.th_exit ?_
          refine Fin.blk_eq ?_
          refine Fin.th ?_
          refine C.region_seq ?_
          refine G.value rfl rfl rfl (Sure.assign rfl) ?_
          refine G.nil ?_
          refine C.ret ?_
          exact Fin.fn (Res.tmp rfl rfl) (Split.one PickL.all) rfl
end Go.Proofs.Ytaeeahcokiebdaa
