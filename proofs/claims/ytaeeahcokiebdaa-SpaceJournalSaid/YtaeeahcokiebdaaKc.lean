/-
  The operations that make or write memory, over slots, immutable memory and owned blocks; slices that are read, slices that are owned.
  Conditions: none; everything here is proved over any program.
-/
import Derived.Test.YtaeeahcokiebdaaKb
namespace Go.Proofs.Ytaeeahcokiebdaa
variable {P : Program}

/-! ### New blocks, and stores -/
theorem heap_push_old (w : World) (o : Obj) (k : Nat) (hk : k < w.heap.size) : (w.alloc o).heap[k]? = w.heap[k]? := by
  show (w.heap.push o)[k]? = _
  rw [Array.getElem?_push, if_neg (by omega)]
theorem heap_push_new (w : World) (o : Obj) : (w.alloc o).heap[w.heap.size]? = some o := by
  show (w.heap.push o)[w.heap.size]? = _
  simp
/-- What holds stays while the heap only grows. -/
theorem St.grow {w0 M0 X M H w w'} (h : St w0 M0 X M H w) (os : w'.os = w.os) (tp : w'.tape = w.tape) (op : w'.output = w.output)
    (sz : w.heap.size ≤ w'.heap.size) (kp : ∀ k, k < w.heap.size → w'.heap[k]? = w.heap[k]?) : St w0 M0 X M H w' := by
  have hs := h.size
  refine ⟨os.trans h.os, tp.trans h.tape, op.trans h.output, by omega, fun b hb hx => (kp b (by omega)).trans (h.keep b hb hx), h.le, ?_, h.fresh, ?_, h.apart, h.own, h.nodup⟩
  · intro b c hb
    obtain ⟨T, fz, h1⟩ := h.agr b c hb
    exact ⟨T, fz, (kp b (h.agr.lt hb)).trans h1⟩
  · intro p hp
    exact (h.has p hp).of_eq (kp p.1 (h.has p hp).lt)
/-- One more owned block. -/
theorem St.cons {w0 M0 X M H w b x} (h : St w0 M0 X M H w) (hb : HasB w b x) (hM : M b = Option.none) (hX : b ∈ X ∨ w0.heap.size ≤ b) (hn : b ∉ ids H) : St w0 M0 X M ((b, x) :: H) w := by
  refine ⟨h.os, h.tape, h.output, h.size, h.keep, h.le, h.agr, h.fresh, ?_, ?_, ?_, ?_⟩
  · intro p hp
    rcases List.mem_cons.1 hp with rfl | hp
    · exact hb
    · exact h.has p hp
  · intro k hk
    rcases List.mem_cons.1 hk with rfl | hk
    · exact hM
    · exact h.apart k hk
  · intro k hk
    rcases List.mem_cons.1 hk with rfl | hk
    · exact hX
    · exact h.own k hk
  · exact List.nodup_cons.2 ⟨hn, h.nodup⟩
theorem St.new {w0 M0 X M H w} (h : St w0 M0 X M H w) {w' : World} {x : HB} (os : w'.os = w.os) (tp : w'.tape = w.tape) (op : w'.output = w.output)
    (sz : w'.heap.size = w.heap.size + 1) (kp : ∀ k, k < w.heap.size → w'.heap[k]? = w.heap[k]?) (hx : HasB w' w.heap.size x) : St w0 M0 X M ((w.heap.size, x) :: H) w' := by
  have hs := h.size
  refine (h.grow os tp op (by omega) kp).cons hx ?_ (.inr hs) ?_
  · cases hm : M w.heap.size with
    | none => rfl
    | some c => have := h.agr.lt hm; omega
  · intro hm
    obtain ⟨p, hp, he⟩ := List.mem_map.1 hm
    have := (h.has p hp).lt
    omega
theorem St.new_cells {w0 M0 X M H w} (h : St w0 M0 X M H w) (l : List Value) (T : TypeId) : St w0 M0 X M ((w.heap.size, .cells l) :: H) (w.alloc (.cells l.toArray T)) :=
  h.new rfl rfl rfl (by simp) (fun k hk => heap_push_old w _ k hk) ⟨T, 0, 0, heap_push_new w _, Nat.le_refl _⟩
theorem St.drew {w0 M0 X M H w} (h : St w0 M0 X M H w) : St w0 M0 X M H w.drew := h.grow rfl rfl rfl (Nat.le_refl _) (fun _ _ => rfl)
/-- An owned block is written. -/
theorem St.write {w0 M0 X M R w b c c'} (h : St w0 M0 X M ((b, .cells c) :: R) w) {w' : World} (os : w'.os = w.os) (tp : w'.tape = w.tape) (op : w'.output = w.output)
    (sz : w'.heap.size = w.heap.size) (kp : ∀ k, k ≠ b → w'.heap[k]? = w.heap[k]?) (hx : HasB w' b (.cells c')) : St w0 M0 X M ((b, .cells c') :: R) w' := by
  have hn := h.nodup
  simp only [ids, List.map_cons, List.nodup_cons] at hn
  have hMb : M b = Option.none := h.apart b (by simp [ids])
  have hob := h.own b (by simp [ids])
  refine ⟨os.trans h.os, tp.trans h.tape, op.trans h.output, by have := h.size; omega, ?_, h.le, ?_, h.fresh, ?_, ?_, ?_, ?_⟩
  · intro k hk hxk
    rw [kp k (fun e => by subst e; rcases hob with h1 | h1; exact hxk h1; omega)]
    exact h.keep k hk hxk
  · intro k x hk
    obtain ⟨T, fz, h1⟩ := h.agr k x hk
    exact ⟨T, fz, by rw [kp k (fun e => by subst e; rw [hMb] at hk; cases hk)]; exact h1⟩
  · intro p hp
    rcases List.mem_cons.1 hp with rfl | hp
    · exact hx
    · exact (h.has p (by simp [hp])).of_eq (kp p.1 (fun e => hn.1 (by rw [← e]; exact List.mem_map.2 ⟨p, hp, rfl⟩)))
  · intro k hk; exact h.apart k (by simpa [ids] using hk)
  · intro k hk; exact h.own k (by simpa [ids] using hk)
  · exact List.nodup_cons.2 hn

theorem run_storeCells_own (b o : Nat) (T : TypeId) (lo hi : Nat) : ∀ (vs : List Value) (i : Nat) (cur : Array Value) (w : World), w.heap[b]? = some (.cells cur T (lo, hi)) → (hi ≤ lo ∨ cur.size ≤ lo) →
    o + i + vs.length ≤ cur.size → allOne vs = true →
    ∃ w', (storeCells ⟨b, o, Option.none⟩ vs i).run P w = .ok () w' ∧ w'.os = w.os ∧ w'.tape = w.tape ∧ w'.output = w.output ∧ w'.heap.size = w.heap.size ∧ (∀ k, k ≠ b → w'.heap[k]? = w.heap[k]?) ∧
      w'.heap[b]? = some (.cells (cur.toList.take (o + i) ++ vs ++ cur.toList.drop (o + i + vs.length)).toArray T (lo, hi))
  | [], i, cur, w, hg, _, _, _ => ⟨w, rfl, rfl, rfl, rfl, rfl, fun _ _ => rfl, by simpa using hg⟩
  | v :: rest, i, cur, w, hg, hf, hl, h1 => by
    have hi' : o + i < cur.size := by simp at hl; omega
    simp only [allOne, List.all_cons, Bool.and_eq_true] at h1
    have hcell : w.cell? ⟨b, o + i, Option.none⟩ = some cur[o + i] := by simp [World.cell?, hg, hi']
    have hfro : w.frozen? ⟨b, o + i, Option.none⟩ = false := by
      simp only [World.frozen?, hg]
      rcases hf with hf | hf
      · have : ¬ (lo ≤ o + i ∧ o + i < hi) := by omega
        simpa using this
      · have : ¬ (lo ≤ o + i ∧ o + i < hi) := by omega
        simpa using this
    have hst : (store ((⟨b, o, Option.none⟩ : Addr).add i) v).run P w = .ok () (w.setCell ⟨b, o + i, Option.none⟩ v) := by
      rw [addr_add, run_store P w _ v _ h1.1, hcell]
      simp [hfro]
    have hg' : (w.setCell ⟨b, o + i, Option.none⟩ v).heap[b]? = some (.cells (cur.setIfInBounds (o + i) v) T (lo, hi)) := by
      simp only [World.setCell, Array.getElem?_modify, if_true, hg, Option.map_some]
      simp
    have hoth : ∀ k, k ≠ b → (w.setCell ⟨b, o + i, Option.none⟩ v).heap[k]? = w.heap[k]? := by
      intro k hk
      simp only [World.setCell, Array.getElem?_modify]
      rw [if_neg (fun e => hk e.symm)]
    obtain ⟨w', h2, h3, h4, h5, h6, h7, h8⟩ := run_storeCells_own b o T lo hi rest (i + 1) (cur.setIfInBounds (o + i) v) (w.setCell ⟨b, o + i, Option.none⟩ v) hg' (by simpa using hf) (by simp at hl ⊢; omega) h1.2
    refine ⟨w', ?_, h3, h4, h5, h6.trans (by simp), fun k hk => (h7 k hk).trans (hoth k hk), ?_⟩
    · simp only [storeCells, Sem.run_bind, hst, Result.andThen_ok, h2]
    · rw [h8]
      have e := list_seg_step cur.toList (o + i) v rest (by simp at hl ⊢; omega)
      simp only [Array.toList_setIfInBounds, Nat.add_assoc] at e ⊢
      simpa [Nat.add_assoc, Nat.add_comm, Nat.add_left_comm] using e
theorem St.store {w0 M0 X M H R w b c o vs c'} (h : St w0 M0 X M H w) (hp : Pick (b, .cells c) H R) (hs : setSeg c o vs = some c') (h1 : allOne vs = true) :
    ∃ w', (storeCells ⟨b, o, Option.none⟩ vs).run P w = .ok () w' ∧ St w0 M0 X M ((b, .cells c') :: R) w' := by
  have h2 := h.perm hp.perm
  obtain ⟨T, lo, hi, h3, h4⟩ := h2.has (b, .cells c) (by simp)
  obtain ⟨e1, e2⟩ := setSeg_some hs
  obtain ⟨w', h5, h6, h7, h8, h9, h10, h11⟩ := run_storeCells_own (P := P) b o T lo hi vs 0 c.toArray w h3 (.inl h4) (by simpa using e2) h1
  refine ⟨w', h5, h2.write h6 h7 h8 h9 h10 ⟨T, lo, hi, ?_, ?_⟩⟩
  · rw [h11, e1]; simp
  · exact h4

section dyn
variable {c : Cx} {E : Env} {M : Mem} {H : Heap} {d : Option Tmp} {ty : TypeId} {pos : String} {aft : Array Edge} {g : Option (Nat × Bool)} {next : Value → Mem → Heap → Prop}
theorem Dyn.boxAgg {t x l} (hx : eev E x = some (.agg l.toArray)) (k : ∀ b, next (.pointer (some ⟨b, 0, Option.none⟩)) M ((b, .cells l) :: H)) : Dyn P c ⟨d, .box t x, ty, pos, aft, g⟩ E M H next := by
  intro a w hav hst K Q hK
  have h1 := avail_ev hav (x := x) (by simp [Op.operands]) hx
  unfold Oper.wp
  have hr : (execOp a.eval ⟨d, .box t x, ty, pos, aft, g⟩).run P w = .ok (.value (.pointer (some ⟨w.heap.size, 0, Option.none⟩))) (w.alloc (.cells l.toArray t)) := by
    simp [execOp, h1, Instr.box, newVar, newRow, Value.cells]
  rw [hr, Oper.upon_value]
  exact hK _ _ _ _ (hst.new_cells l t) (k _)
theorem Dyn.box {t x v} (hx : eev E x = some v) (h1 : v.oneCell' = true) (k : ∀ b, next (.pointer (some ⟨b, 0, Option.none⟩)) M ((b, .cells [v]) :: H)) : Dyn P c ⟨d, .box t x, ty, pos, aft, g⟩ E M H next := by
  intro a w hav hst K Q hK
  have h1' := avail_ev hav (x := x) (by simp [Op.operands]) hx
  have hc : v.cells = #[v] := by cases v <;> first | rfl | simp [Value.oneCell'] at h1
  unfold Oper.wp
  have hr : (execOp a.eval ⟨d, .box t x, ty, pos, aft, g⟩).run P w = .ok (.value (.pointer (some ⟨w.heap.size, 0, Option.none⟩))) (w.alloc (.cells [v].toArray t)) := by
    simp [execOp, h1', Instr.box, newVar, newRow, hc]
  rw [hr, Oper.upon_value]
  exact hK _ _ _ _ (hst.new_cells [v] t) (k _)
theorem Dyn.allocAgg {t l} [hz : TyZ P t (.agg l.toArray)] (k : ∀ b, next (.pointer (some ⟨b, 0, Option.none⟩)) M ((b, .cells l) :: H)) : Dyn P c ⟨d, .alloc t, ty, pos, aft, g⟩ E M H next := by
  intro a w hav hst K Q hK
  unfold Oper.wp
  have hr : (execOp a.eval ⟨d, .alloc t, ty, pos, aft, g⟩).run P w = .ok (.value (.pointer (some ⟨w.heap.size, 0, Option.none⟩))) (w.alloc (.cells l.toArray t)) := by
    simp [execOp, Instr.alloc, hz.zero, newVar, newRow, Value.cells]
  rw [hr, Oper.upon_value]
  exact hK _ _ _ _ (hst.new_cells l t) (k _)
theorem Dyn.alloc {t v} [hz : TyZ P t v] (h1 : v.oneCell' = true) (k : ∀ b, next (.pointer (some ⟨b, 0, Option.none⟩)) M ((b, .cells [v]) :: H)) : Dyn P c ⟨d, .alloc t, ty, pos, aft, g⟩ E M H next := by
  intro a w hav hst K Q hK
  have hc : v.cells = #[v] := by cases v <;> first | rfl | simp [Value.oneCell'] at h1
  unfold Oper.wp
  have hr : (execOp a.eval ⟨d, .alloc t, ty, pos, aft, g⟩).run P w = .ok (.value (.pointer (some ⟨w.heap.size, 0, Option.none⟩))) (w.alloc (.cells [v].toArray t)) := by
    simp [execOp, Instr.alloc, hz.zero, newVar, newRow, hc]
  rw [hr, Oper.upon_value]
  exact hK _ _ _ _ (hst.new_cells [v] t) (k _)
theorem Dyn.storeAgg {t x y b o l agg n cs cs' R} [ht : TyI P t agg n] (hx : eev E x = some (.pointer (some ⟨b, o, Option.none⟩))) (hy : eev E y = some (.agg l.toArray)) (hp : Pick (b, .cells cs) H R)
    (hl : l.length = n) (h1 : allOne l = true) (hs : setSeg cs o l = some cs') (k : next undef M ((b, .cells cs') :: R)) : Dyn P c ⟨d, .store t x y, ty, pos, aft, g⟩ E M H next := by
  intro a w hav hst K Q hK
  have h2 := avail_ev hav (x := x) (by simp [Op.operands]) hx
  have h3 := avail_ev hav (x := y) (by simp [Op.operands]) hy
  obtain ⟨w', h4, h5⟩ := hst.store (P := P) hp hs h1
  unfold Oper.wp
  have hr : (execOp a.eval ⟨d, .store t x y, ty, pos, aft, g⟩).run P w = .ok .skip w' := by
    simp [execOp, h2, h3, Instr.storeAt, Instr.sureAddr, storeVar, Value.cells, ht.sizeOf, hl, h4]
  rw [hr, Oper.upon_skip]
  exact hK _ _ _ _ h5 k
theorem Dyn.store {t x y b o v agg cs cs' R} [ht : TyI P t agg 1] (hx : eev E x = some (.pointer (some ⟨b, o, Option.none⟩))) (hy : eev E y = some v) (hp : Pick (b, .cells cs) H R)
    (h1 : v.oneCell' = true) (hs : setSeg cs o [v] = some cs') (k : next undef M ((b, .cells cs') :: R)) : Dyn P c ⟨d, .store t x y, ty, pos, aft, g⟩ E M H next := by
  intro a w hav hst K Q hK
  have hc : v.cells = #[v] := by cases v <;> first | rfl | simp [Value.oneCell'] at h1
  have h2 := avail_ev hav (x := x) (by simp [Op.operands]) hx
  have h3 := avail_ev hav (x := y) (by simp [Op.operands]) hy
  obtain ⟨w', h4, h5⟩ := hst.store (P := P) hp hs (by simp [allOne, h1])
  unfold Oper.wp
  have hr : (execOp a.eval ⟨d, .store t x y, ty, pos, aft, g⟩).run P w = .ok .skip w' := by
    simp [execOp, h2, h3, Instr.storeAt, Instr.sureAddr, storeVar, hc, ht.sizeOf, h4]
  rw [hr, Oper.upon_skip]
  exact hK _ _ _ _ h5 k
end dyn
end Go.Proofs.Ytaeeahcokiebdaa
