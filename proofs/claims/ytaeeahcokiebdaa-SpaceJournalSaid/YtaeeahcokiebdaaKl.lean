/-
  Places in arrays, slices with a bound on their room, and new bytes of whatever values.
  Conditions: none; everything here is proved over any program.
-/
import Derived.Test.YtaeeahcokiebdaaKk
import Derived.Lib.MakeNoZero
namespace Go.Proofs.Ytaeeahcokiebdaa
variable {P : Program}
section
variable {c : Cx} {E : Env} {M : Mem} {H : Heap} {d : Option Tmp} {ty : TypeId} {pos : String} {aft : Array Edge} {g : Option (Nat × Bool)} {next : Value → Mem → Heap → Prop}
theorem Sure.indexAddrArr {t x y e n b o len k i agg} [ht : TyU P t (.array len e)] [he : TyI P e agg n] (hx : eev E x = some (.pointer (some ⟨b, o, Option.none⟩))) (hy : eev E y = some (.int k i))
    (hi : 0 ≤ i ∧ i < len) : Sure P ⟨d, .indexAddr t x y, ty, pos, aft, g⟩ E M H (.pointer (some ⟨b, o + i.toNat * n, Option.none⟩)) := by
  intro a w hav ha hh
  have h1 := avail_ev hav (x := x) (by simp [Op.operands]) hx
  have h2 := avail_ev hav (x := y) (by simp [Op.operands]) hy
  have hr : (Instr.indexAt t (.pointer (some ⟨b, o, Option.none⟩)) (.int k i)).run P w = .ok (.pointer (some ⟨b, o + i.toNat * n, Option.none⟩)) w := by
    simp [Instr.indexAt, run_underlying ht.und, Instr.sureAddr, asIntOf, hi, he.sizeOf, addr_add]
  simp [execOp, h1, h2, hr]
theorem Sure.slice3 {t x y z e sz agg b o n cap} {hi m : Nat} [ht : TyU P t (.slice e)] [he : TyI P e agg sz] (hx : eev E x = some (.slice (some ⟨b, o, Option.none⟩) n cap)) (hy : eev E y = some (.int .i64 hi)) (hz : eev E z = some (.int .i64 m)) (h1 : hi ≤ m) (h2 : m ≤ cap) :
    Sure P ⟨d, .slice t x Option.none (some y) (some z), ty, pos, aft, g⟩ E M H (.slice (some ⟨b, o, Option.none⟩) hi m) := by
  intro a w hav _ _
  have e1 := avail_ev hav (x := x) (by simp [Op.operands]) hx
  have e2 := avail_ev hav (x := y) (by simp [Op.operands]) hy
  have e3 := avail_ev hav (x := z) (by simp [Op.operands]) hz
  have hr : (Instr.sliceAt t (.slice (some ⟨b, o, Option.none⟩) n cap) Option.none (some (.int .i64 hi)) (some (.int .i64 m))).run P w = .ok (.slice (some ⟨b, o, Option.none⟩) hi m) w := by
    simp [Instr.sliceAt, Instr.slice, run_underlying ht.und, Instr.sliceBounds, Instr.sliceBound, asIntOf, h1, h2, he.sizeOf, addr_add]
  simp [execOp, e1, e2, e3, hr]
/-- 'bytealg.MakeNoZero'. -/
theorem Dyn.makeNoZero {o : Oper} {x y tys f fn n T e} [hT : TyU P T (.slice e)] (ho : o.op = .call { callee := .value x, args := #[y], argTypes := tys }) (hx : eev E x = some (.func (.func f) #[] #[])) (hy : eev E y = some (.int .i64 (n : Nat)))
    (hf : P.funcs[f]? = some fn) (hname : (fn.name == "runtime.NumGoroutine") = false) (hb : fn.body.isNone = true) (hnx : Extern.findNext fn = Option.none) {ps : Array TypeId} (he : Extern.find fn = some (Extern.BytealgMakeNoZero.makeNoZero ps #[T])) (hn : n ≤ 281474976710656)
    (k : ∀ b (cs : List Value), n ≤ cs.length → next (.slice (some ⟨b, 0, Option.none⟩) n cs.length) M ((b, .cells cs) :: H)) : Dyn P c o E M H next := by
  intro a w hav hst K Q hK
  have hops : o.op.operands = #[x] ++ #[y] := by rw [ho]; rfl
  have h1 : a.eval x = .func (.func f) #[] #[] := hav x (by rw [hops]; simp) _ hx
  have h2 : a.eval y = .int .i64 n := hav y (by rw [hops]; simp) _ hy
  obtain ⟨cs, hr, hcs, _⟩ := Lib.run_makeNoZero (P := P) w ps T e hT.und n hn
  have hrun : (execOp a.eval o).run P w = .ok (.value (.slice (some ⟨w.heap.size, 0, Option.none⟩) n cs.size)) (w.drew.drew.alloc (.cells cs e)) := by
    unfold execOp
    rw [ho]
    simp only [resolve, h1, Deferred.ofValue, invoke, List.map_toArray, Sem.run_bind, Sem.run_pure, Result.andThen_ok]
    have := run_callFunc_extern hf hname hb hnx he #[.int .i64 n] w
    simp [h2, this, hr]
  unfold Oper.wp
  rw [hrun, Oper.upon_value]
  have h3 := hst.drew.drew.new_cells cs.toList e
  exact hK _ _ _ _ h3 (k _ cs.toList hcs)
end
end Go.Proofs.Ytaeeahcokiebdaa
