/-
  Slices that are read and slices that are owned; append, literals of slices and structs, slicing, conversions of bytes; results.
  Conditions: none; everything here is proved over any program.
-/
import Derived.Test.YtaeeahcokiebdaaKc
namespace Go.Proofs.Ytaeeahcokiebdaa
variable {P : Program}

/-- A slice (its address, its length) that reads as these cells, so many to an element. -/
def Sl (M : Mem) (H : Heap) (sz : Nat) (p : Option Addr) (n : Nat) (xs : List Value) : Prop :=
  xs.length = n * sz ∧ (0 < n → ∃ b o c, p = some ⟨b, o, Option.none⟩ ∧ Rd M H b c ∧ seg c o (n * sz) = some xs)
theorem Sl.mono {M M' H sz p n xs} (h : Sl M H sz p n xs) (hl : MLe M M') : Sl M' H sz p n xs :=
  ⟨h.1, fun hn => let ⟨b, o, c, h1, h2, h3⟩ := h.2 hn; ⟨b, o, c, h1, h2.mono hl, h3⟩⟩
theorem Sl.heap {M H sz p n xs} (h : Sl M [] sz p n xs) : Sl M H sz p n xs :=
  ⟨h.1, fun hn => let ⟨b, o, c, h1, h2, h3⟩ := h.2 hn; ⟨b, o, c, h1, Rd.m (h2.resolve_right (by simp)), h3⟩⟩
theorem Sl.empty {M H sz} {p : Option Addr} : Sl M H sz p 0 [] := ⟨by simp, fun h => absurd h (by omega)⟩
/-- A slice that the code owns: nil, or the head of a block. -/
def Own (sz : Nat) (v : Value) (n : Nat) (xs : List Value) (Hs : Heap) : Prop :=
  xs.length = n * sz ∧ ((v = .slice Option.none 0 0 ∧ n = 0 ∧ Hs = []) ∨
    ∃ b cap junk, v = .slice (some ⟨b, 0, Option.none⟩) n cap ∧ n ≤ cap ∧ Hs = [(b, .cells (xs ++ junk))] ∧ (xs ++ junk).length = cap * sz)
theorem Own.nil {sz} : Own sz (.slice Option.none 0 0) 0 [] [] := ⟨by simp, .inl ⟨rfl, rfl, rfl⟩⟩
theorem Own.mk {sz b n xs} (h : xs.length = n * sz) : Own sz (.slice (some ⟨b, 0, Option.none⟩) n n) n xs [(b, .cells xs)] :=
  ⟨h, .inr ⟨b, n, [], rfl, Nat.le_refl _, by simp, by simpa using h⟩⟩
theorem takeN_append {xs ys : List Value} {n : Nat} (h : xs.length = n) : takeN n (xs ++ ys) = some xs := by
  rw [takeN_eq (by simp; omega)]; simp [← h]
theorem Own.slice {sz v n xs Hs} (h : Own sz v n xs Hs) : ∃ p cap, v = .slice p n cap ∧ ∀ M, Sl M Hs sz p n xs := by
  obtain ⟨h1, h2⟩ := h
  rcases h2 with ⟨rfl, rfl, rfl⟩ | ⟨b, cap, junk, rfl, h3, rfl, h4⟩
  · exact ⟨Option.none, 0, rfl, fun M => ⟨h1, fun hn => absurd hn (by omega)⟩⟩
  · exact ⟨_, _, rfl, fun M => ⟨h1, fun _ => ⟨b, 0, _, rfl, Rd.h0, by simpa [seg] using takeN_append h1⟩⟩⟩
theorem C.donateOwn {c code Q E M H sz v n xs Hs R} (ho : Own sz v n xs Hs) (hp : PickL Hs H R)
    (h : ∀ M' p cap, MLe M M' → v = .slice p n cap → Sl M' [] sz p n xs → C P c code Q E M' R) : C P c code Q E M H := by
  obtain ⟨h1, h2⟩ := ho
  rcases h2 with ⟨rfl, rfl, rfl⟩ | ⟨b, cap, junk, rfl, h3, rfl, h4⟩
  · intro a w hm hst
    exact h M Option.none 0 (MLe.refl M) rfl ⟨h1, fun hn => absurd hn (by omega)⟩ a w hm (by simpa using hst.perm hp.perm)
  · intro a w hm hst
    refine C.donate (x := xs ++ junk) (fun M' hle hb => h M' _ _ hle rfl ⟨h1, fun _ => ⟨b, 0, _, rfl, Rd.m hb, by simpa [seg] using takeN_append h1⟩⟩) a w hm (by simpa using hst.perm hp.perm)
theorem G.donateOwn {c ops K l E M H sz v n xs Hs R} (ho : Own sz v n xs Hs) (hp : PickL Hs H R)
    (h : ∀ M' p cap, MLe M M' → v = .slice p n cap → Sl M' [] sz p n xs → G P c ops K l E M' R) : G P c ops K l E M H := by
  obtain ⟨h1, h2⟩ := ho
  rcases h2 with ⟨rfl, rfl, rfl⟩ | ⟨b, cap, junk, rfl, h3, rfl, h4⟩
  · intro Q hQ a w hm hst
    exact h M Option.none 0 (MLe.refl M) rfl ⟨h1, fun hn => absurd hn (by omega)⟩ Q hQ a w hm (by simpa using hst.perm hp.perm)
  · intro Q hQ a w hm hst
    refine G.donate (x := xs ++ junk) (fun M' hle hb => h M' _ _ hle rfl ⟨h1, fun _ => ⟨b, 0, _, rfl, Rd.m hb, by simpa [seg] using takeN_append h1⟩⟩) Q hQ a w hm (by simpa using hst.perm hp.perm)

/-! ### Elements of a slice -/
theorem seg_sub {c : List Value} {o n m k : Nat} {xs : List Value} (h : seg c o n = some xs) (hk : k + m ≤ n) : seg c (o + k) m = some ((xs.drop k).take m) := by
  obtain ⟨h1, h2, _⟩ := seg_some h
  have hl : o + n ≤ c.length ∨ n = 0 := by
    have := (takeN_some h).2; simp at this; omega
  unfold seg
  rw [takeN_eq (by simp; omega), h1]
  congr 1
  simp only [List.drop_take, List.drop_drop, List.take_take]
  congr 1
  omega
theorem seg_one {c : List Value} {o n k : Nat} {xs : List Value} (h : seg c o n = some xs) {v} (hv : xs[k]? = some v) : c[o + k]? = some v := (seg_some h).2.2 k v hv
theorem flatten_row {sz : Nat} : ∀ {l : List (List Value)}, (∀ e ∈ l, e.length = sz) → ∀ {i : Nat} {e}, l[i]? = some e → (l.flatten.drop (i * sz)).take sz = e
  | [], _, i, e, h => by simp at h
  | x :: l, hl, 0, e, h => by
    simp at h
    subst h
    have := hl x (by simp)
    simp [← this]
  | x :: l, hl, i + 1, e, h => by
    have hx := hl x (by simp)
    have ih := flatten_row (fun e he => hl e (List.mem_cons_of_mem _ he)) (i := i) (e := e) (by simpa using h)
    rw [List.flatten_cons, Nat.succ_mul, Nat.add_comm, ← List.drop_drop]
    rw [show (x ++ l.flatten).drop sz = l.flatten by rw [← hx]; simp]
    exact ih
theorem flatten_len {sz : Nat} : ∀ {l : List (List Value)}, (∀ e ∈ l, e.length = sz) → l.flatten.length = l.length * sz
  | [], _ => by simp
  | x :: l, h => by
    have := flatten_len (l := l) (fun e he => h e (List.mem_cons_of_mem _ he))
    simp [h x (by simp), Nat.succ_mul] at this ⊢
    omega
/-- A slice of elements of several cells each. -/
def SlL (M : Mem) (H : Heap) (sz : Nat) (p : Option Addr) (l : List (List Value)) : Prop := (∀ e ∈ l, e.length = sz) ∧ Sl M H sz p l.length l.flatten
theorem SlL.mono {M M' H sz p l} (h : SlL M H sz p l) (hl : MLe M M') : SlL M' H sz p l := ⟨h.1, h.2.mono hl⟩
theorem SlL.heap {M H sz p l} (h : SlL M [] sz p l) : SlL M H sz p l := ⟨h.1, h.2.heap⟩
theorem SlL.row {M H sz p l i e} (h : SlL M H sz p l) (hi : l[i]? = some e) : ∃ b o c, p = some ⟨b, o, Option.none⟩ ∧ Rd M H b c ∧ seg c (o + i * sz) sz = some e := by
  have hlt : i < l.length := (List.getElem?_eq_some_iff.1 hi).1
  obtain ⟨b, o, c, h1, h2, h3⟩ := h.2.2 (by omega)
  refine ⟨b, o, c, h1, h2, ?_⟩
  have hm : i * sz + sz ≤ l.length * sz := by rw [← Nat.succ_mul]; exact Nat.mul_le_mul_right _ hlt
  rw [seg_sub h3 hm, flatten_row h.1 hi]
theorem Sl.cell {M H p n xs i v} (h : Sl M H 1 p n xs) (hi : xs[i]? = some v) : ∃ b o c, p = some ⟨b, o, Option.none⟩ ∧ Rd M H b c ∧ c[o + i * 1]? = some v := by
  have hlt : i < xs.length := (List.getElem?_eq_some_iff.1 hi).1
  have hl := h.1
  obtain ⟨b, o, c, h1, h2, h3⟩ := h.2 (by omega)
  exact ⟨b, o, c, h1, h2, by rw [Nat.mul_one]; exact seg_one h3 hi⟩

/-! ### append -/
theorem run_firstCells_sl {M H sz p n xs cap w} (h : Sl M H sz p n xs) (ha : Agr M w) (hh : Has H w) : (Builtin.firstCells sz n (.slice p n cap)).run P w = .ok xs.toArray w := by
  by_cases hn : 0 < n
  · obtain ⟨b, o, c, rfl, h2, h3⟩ := h.2 hn
    simp only [Builtin.firstCells]
    exact run_load_seg h3 (fun j v hj => h2.cell ha hh hj)
  · have h0 : n = 0 := by omega
    subst h0
    have : xs = [] := List.eq_nil_of_length_eq_zero (by simpa using h.1)
    subst this
    cases p <;> simp [Builtin.firstCells, loadCells, loadCellsFrom]
theorem zeroCells_len (z : Array Value) (n : Nat) : (Builtin.zeroCells z n).toList.length = n * z.size := by simp [Builtin.zeroCells]
section
variable {c : Cx} {E : Env} {M : Mem} {H : Heap} {d : Option Tmp} {ty : TypeId} {pos : String} {aft : Array Edge} {g : Option (Nat × Bool)} {next : Value → Mem → Heap → Prop}
theorem run_append_any {t t2 e sz bytes agg z v n xs Hs R H w w0 M0 X M x m news} {d2 : TypeDesc} (ht : P.underlying t = some (.slice e)) (ht2 : P.underlying t2 = some d2) (hd2 : ∀ k, d2 ≠ .int k)
    [he : TyI P e agg sz] [hz : TyZ P e z] [hb : TyB P e bytes] (hzs : z.cells.size = sz)
    (hst : St w0 M0 X M H w) (ho : Own sz v n xs Hs) (hp : PickL Hs H R)
    (hlen : ∀ w, (Builtin.lenOf x).run P w = .ok m w) (hfirst : ∀ w, Agr M w → Has H w → (Builtin.firstCells sz m x).run P w = .ok news.toArray w) (hnl : news.length = m * sz)
    (h1 : allOne news = true) (hbytes : (n + m) * bytes ≤ 140737488355328) (h63 : n + m ≤ 9223372036854775807) :
    ∃ v' w' Hs', (Builtin.append_ #[t, t2] ty #[v, x]).run P w = .ok v' w' ∧ Own sz v' (n + m) (xs ++ news) Hs' ∧ St w0 M0 X M (Hs' ++ R) w' := by
  obtain ⟨i, hi, hib⟩ := hb.bytes
  have hxl := ho.1
  have hinfo : ∀ w, (typeInfo e).run P w = .ok i w := fun w => by simp [typeInfo, hi]
  have h63' : ¬ (9223372036854775807 < ((n : Int) + (m : Int))) := by omega
  have grown : ∀ (p : Option Addr) (cap : Nat), (∀ w, Agr M w → Has H w → (Builtin.firstCells sz n (.slice p n cap)).run P w = .ok xs.toArray w) → ¬ (n + m ≤ cap) →
      ∃ v' w' Hs', (Builtin.append_ #[t, t2] ty #[.slice p n cap, x]).run P w = .ok v' w' ∧ Own sz v' (n + m) (xs ++ news) Hs' ∧ St w0 M0 X M (Hs' ++ R) w' := by
    intro p cap hf hroom
    have hfit : ¬ (281474976710656 < Builtin.nextslicecap (n + m) cap * i.bytes) := by
      have := growslice_fits (need := n + m) (old := cap) (bytes := i.bytes) (by omega) (by rw [hib]; exact hbytes); omega
    have hge : n + m ≤ grownCap w (n + m) cap e := grownCap_ge w _ _ _
    have hst2 := hst.drew
    refine ⟨.slice (some ⟨w.heap.size, 0, Option.none⟩) (n + m) (grownCap w (n + m) cap e),
      w.drew.alloc (.cells ((xs ++ news) ++ (Builtin.zeroCells z.cells (grownCap w (n + m) cap e - (n + m))).toList).toArray e), [(w.heap.size, .cells ((xs ++ news) ++ (Builtin.zeroCells z.cells (grownCap w (n + m) cap e - (n + m))).toList))], ?_, ?_, ?_⟩
    · have hf' := hf w.drew hst2.agr hst2.has
      have hx' := hfirst w.drew hst2.agr hst2.has
      simp [Builtin.append_, run_underlying ht, run_underlying ht2, he.sizeOf, hlen, hroom, h63', hinfo, hfit, Question.forced, hf', hx', hz.zero, newRow, grownCap]
      congr 2
      apply Array.ext'
      simp
    · refine ⟨by simp [hxl, hnl, Nat.add_mul], .inr ⟨w.heap.size, _, _, rfl, hge, rfl, ?_⟩⟩
      simp only [List.length_append, zeroCells_len, hzs, hxl, hnl, ← Nat.add_mul]
      congr 1
      omega
    · have h3 := hst2.new_cells ((xs ++ news) ++ (Builtin.zeroCells z.cells (grownCap w (n + m) cap e - (n + m))).toList) e
      have h4 := (h3.perm (List.Perm.cons _ hp.perm))
      exact (h4.perm (List.Perm.cons _ List.perm_append_comm)).left (A := (w.heap.size, _) :: R)
  rcases ho.2 with ⟨rfl, rfl, rfl⟩ | ⟨b, cap, junk, rfl, hc, rfl, hlc⟩
  · have hx0 : xs = [] := List.eq_nil_of_length_eq_zero (by simpa using hxl)
    subst hx0
    by_cases hm : m = 0
    · subst hm
      have hn0 : news = [] := List.eq_nil_of_length_eq_zero (by simpa using hnl)
      subst hn0
      refine ⟨.slice Option.none 0 0, w, [], ?_, ⟨by simp, .inl ⟨rfl, rfl, rfl⟩⟩, hst.perm hp.perm⟩
      have hx' := hfirst w hst.agr hst.has
      simp [Builtin.append_, run_underlying ht, run_underlying ht2, he.sizeOf, hlen, hx']
    · exact grown Option.none 0 (fun w _ _ => by simp [Builtin.firstCells]) (by omega)
  · by_cases hroom : n + m ≤ cap
    · have hm1 : n * sz + news.length ≤ (xs ++ junk).length := by rw [hnl, hlc, ← Nat.add_mul]; exact Nat.mul_le_mul_right _ hroom
      obtain ⟨w', h2, h3⟩ := hst.store (P := P) (b := b) (o := n * sz) (vs := news) (R := R) (c' := (xs ++ news) ++ junk.drop news.length) (c := xs ++ junk)
        (by
          have hpp : ∀ {A H R}, PickL A H R → ∀ q, A = [q] → Pick q H R := by
            intro A H R h
            induction h with
            | here => intro q hq; subst hq; exact .here
            | all => intro q hq; subst hq; exact .here
            | there _ ih => intro q hq; exact .there (ih q hq)
            | over _ ih => intro q hq; exact .over (ih q hq)
          exact hpp hp _ rfl)
        (by
          rw [setSeg_eq hm1]
          congr 1
          simp [← hxl, List.drop_append])
        h1
      refine ⟨_, w', [(b, .cells ((xs ++ news) ++ junk.drop news.length))], ?_, ⟨by simp [hxl, hnl, Nat.add_mul], .inr ⟨b, cap, _, rfl, hroom, rfl, ?_⟩⟩, h3⟩
      · have hx' := hfirst w hst.agr hst.has
        simp [Builtin.append_, run_underlying ht, run_underlying ht2, he.sizeOf, hlen, hroom, hx', addr_add, h2]
      · simp at hlc hm1 ⊢; omega
    · exact grown (some ⟨b, 0, Option.none⟩) cap (fun w ha hh => by
        have hmem : (b, HB.cells (xs ++ junk)) ∈ H := hp.perm.symm.mem_iff.1 (by simp)
        exact run_firstCells_sl (M := M) (H := H) ⟨hxl, fun _ => ⟨b, 0, xs ++ junk, rfl, .inr hmem, by simpa [seg] using takeN_append hxl⟩⟩ ha hh) hroom
theorem Dyn.append {t t2 e sz bytes agg zz v n xs Hs R x y p m cap news} [ht : TyU P t (.slice e)] {d2 : TypeDesc} [ht2 : TyU P t2 d2]
    [he : TyI P e agg sz] [hz : TyZ P e zz] [hb : TyB P e bytes] (hd2 : ∀ k, d2 ≠ .int k) (hzs0 : Nat.beq zz.cells.size sz = true)
    (hx : eev E x = some v) (hy : eev E y = some (.slice p m cap)) (ho : Own sz v n xs Hs) (hp : PickL Hs H R) (hs : Sl M H sz p m news)
    (h1 : allOne news = true) (hbytes : (n + m) * bytes ≤ 140737488355328) (h63 : n + m ≤ 9223372036854775807)
    (k : ∀ v' Hs', Own sz v' (n + m) (xs ++ news) Hs' → next v' M (Hs' ++ R)) :
    Dyn P c ⟨d, .call { callee := .builtin .append, args := #[x, y], argTypes := #[t, t2] }, ty, pos, aft, g⟩ E M H next := by
  have hzs := Nat.eq_of_beq_eq_true hzs0
  intro a w hav hst K Q hK
  have h2 := avail_ev hav (x := x) (by simp [Op.operands, Call.operands]) hx
  have h3 := avail_ev hav (x := y) (by simp [Op.operands, Call.operands]) hy
  obtain ⟨v', w', Hs', h4, h5, h6⟩ := run_append_any (P := P) (ty := ty) ht.und ht2.und hd2 hzs hst ho hp (x := .slice p m cap) (m := m) (news := news) (fun w => by simp [Builtin.lenOf])
    (fun w ha hh => run_firstCells_sl hs ha hh) hs.1 h1 hbytes h63
  unfold Oper.wp
  have hr : (execOp a.eval ⟨d, .call { callee := .builtin .append, args := #[x, y], argTypes := #[t, t2] }, ty, pos, aft, g⟩).run P w = .ok (.value v') w' := by
    simp [execOp, resolve, invoke, builtin, h2, h3, h4]
  rw [hr, Oper.upon_value]
  exact hK _ _ _ _ h6 (k _ _ h5)
theorem Dyn.appendStr {t t2 e bytes agg zz v n xs Hs R x y s} [ht : TyU P t (.slice e)] [ht2 : TyU P t2 .string]
    [he : TyI P e agg 1] [hz : TyZ P e zz] [hb : TyB P e bytes] (hzs0 : Nat.beq zz.cells.size 1 = true)
    (hx : eev E x = some v) (hy : eev E y = some (.string s)) (ho : Own 1 v n xs Hs) (hp : PickL Hs H R)
    (hbytes : (n + s.size) * bytes ≤ 140737488355328) (h63 : n + s.size ≤ 9223372036854775807)
    (k : ∀ v' Hs', Own 1 v' (n + s.size) (xs ++ s.data.toList.map fun b => Value.int .u8 b.toNat) Hs' → next v' M (Hs' ++ R)) :
    Dyn P c ⟨d, .call { callee := .builtin .append, args := #[x, y], argTypes := #[t, t2] }, ty, pos, aft, g⟩ E M H next := by
  have hzs := Nat.eq_of_beq_eq_true hzs0
  intro a w hav hst K Q hK
  have h2 := avail_ev hav (x := x) (by simp [Op.operands, Call.operands]) hx
  have h3 := avail_ev hav (x := y) (by simp [Op.operands, Call.operands]) hy
  obtain ⟨v', w', Hs', h4, h5, h6⟩ := run_append_any (P := P) (ty := ty) ht.und ht2.und (fun k h => by cases h) hzs hst ho hp (x := .string s) (m := s.size) (news := s.data.toList.map fun b => Value.int .u8 b.toNat) (fun w => by simp [Builtin.lenOf])
    (fun w ha hh => by
      simp only [Builtin.firstCells, Sem.run_pure]
      have : (s.extract 0 s.size).data = s.data := by rw [ByteArray.data_extract]; exact Array.extract_size
      rw [this]
      congr 1
      apply Array.ext'
      simp) (by rw [List.length_map, Array.length_toList, Nat.mul_one]; rfl) (by unfold allOne; rw [List.all_eq_true]; intro v hv; obtain ⟨b, _, rfl⟩ := List.mem_map.1 hv; rfl) hbytes h63
  unfold Oper.wp
  have hr : (execOp a.eval ⟨d, .call { callee := .builtin .append, args := #[x, y], argTypes := #[t, t2] }, ty, pos, aft, g⟩).run P w = .ok (.value v') w' := by
    simp [execOp, resolve, invoke, builtin, h2, h3, h4]
  rw [hr, Oper.upon_value]
  exact hK _ _ _ _ h6 (k _ _ h5)
end
end Go.Proofs.Ytaeeahcokiebdaa
