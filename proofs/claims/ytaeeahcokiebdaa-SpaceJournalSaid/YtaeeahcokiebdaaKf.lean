/-
  Guards, results, slicing, make, conversions between bytes and texts.
  Conditions: none; everything here is proved over any program.
-/
import Derived.Test.YtaeeahcokiebdaaKe
namespace Go.Proofs.Ytaeeahcokiebdaa
variable {P : Program}
theorem Models.push {n E a d v} (h : Models n E a) (hv : eget E d = some v) : Models n ((d, v) :: E) a :=
  ⟨h.size, h.defers, fun i u hu => by
    simp only [eget] at hu
    cases hb : Nat.beq d i with
    | true =>
      have := Nat.eq_of_beq_eq_true hb
      subst this
      simp at hu
      subst hu
      exact h.get d v hv
    | false => simp [hb] at hu; exact h.get i u hu⟩
theorem G.splitB {c ops K l E M H d b} (hx : eget E d = some (.bool b)) (ht : b = true → G P c ops K l ((d, .bool true) :: E) M H) (hf : b = false → G P c ops K l ((d, .bool false) :: E) M H) : G P c ops K l E M H := by
  intro Q hQ a w hm hst
  cases b with
  | true => exact ht rfl Q hQ a w (hm.push hx) hst
  | false => exact hf rfl Q hQ a w (hm.push hx) hst
theorem G.splitD {c ops K l E M H d} {p : Prop} [Decidable p] (hx : eget E d = some (.bool (decide p))) (ht : p → G P c ops K l ((d, .bool true) :: E) M H) (hf : ¬ p → G P c ops K l ((d, .bool false) :: E) M H) : G P c ops K l E M H :=
  G.splitB hx (fun h => ht (of_decide_eq_true h)) (fun h => hf (of_decide_eq_false h))
/-- A slot's value under another spelling. -/
theorem G.slot {c ops K l E M H} (d : Nat) {v} (hx : eget E d = some v) (h : G P c ops K l ((d, v) :: E) M H) : G P c ops K l E M H :=
  fun Q hQ a w hm hst => h Q hQ a w (hm.push hx) hst
theorem C.slot {c code Q E M H} (d : Nat) {v} (hx : eget E d = some v) (h : C P c code Q ((d, v) :: E) M H) : C P c code Q E M H :=
  fun a w hm hst => h a w (hm.push hx) hst

/-! ### Results -/
theorem Res.tmp {fn : Func} {E M H t v} (hf : fn.results = #[.tmp t]) (hv : eget E t = some v) : Res P fn E M H v := by
  intro n a w hm _ _
  have := hm.eval (x := .tmp t) hv
  simp only [Act.eval] at this
  rw [results_tmp hf, this]
theorem Res.tmp2 {fn : Func} {E M H t u v v'} (hf : fn.results = #[.tmp t, .tmp u]) (hv : eget E t = some v) (hu : eget E u = some v') : Res P fn E M H (.tuple #[v, v']) := by
  intro n a w hm _ _
  have h1 := hm.eval (x := .tmp t) hv
  have h2 := hm.eval (x := .tmp u) hu
  simp only [Act.eval] at h1 h2
  rw [results_tmp2 hf, h1, h2]
theorem Res.tmp3 {fn : Func} {E M H t u s v v' v''} (hf : fn.results = #[.tmp t, .tmp u, .tmp s]) (hv : eget E t = some v) (hu : eget E u = some v') (hs : eget E s = some v'') : Res P fn E M H (.tuple #[v, v', v'']) := by
  intro n a w hm _ _
  have h1 := hm.eval (x := .tmp t) hv
  have h2 := hm.eval (x := .tmp u) hu
  have h3 := hm.eval (x := .tmp s) hs
  simp only [Act.eval] at h1 h2 h3
  simp [results, hf] at h1 h2 h3 ⊢
  simp [h1, h2, h3]
theorem Res.none {fn : Func} {E M H} (hf : fn.results = #[]) : Res P fn E M H (.tuple #[]) := by
  intro n a w hm _ _
  exact results_none hf _ _ _
theorem Res.cellAgg {fn : Func} {E M H t T b c n} [ht : TyI P T true n] (hf : fn.results = #[.cell t T]) (hv : eget E t = some (.pointer (some ⟨b, 0, Option.none⟩))) (hr : Rd M H b c) (hc0 : Nat.beq c.length n = true) : Res P fn E M H (.agg c.toArray) := by
  have hc := Nat.eq_of_beq_eq_true hc0
  intro m a w hm ha hh
  have h1 := hm.eval (x := .tmp t) hv
  have h2 := run_load_seg (P := P) (w := w) (b := b) (o := 0) (n := n) (c := c) (vs := c) (by unfold seg; rw [takeN_eq (by simp; omega)]; simp [← hc]) (fun j v hj => hr.cell ha hh hj)
  simp only [Act.eval] at h1
  simp [results, hf] at h1 ⊢
  simp [h1, asAddr, loadVar, ht.isAgg, ht.sizeOf, h2]
theorem Dyn.assign {c : Cx} {E M H d x ty pos aft g} {next : Value → Mem → Heap → Prop} {v} (hx : eev E x = some v) (k : next v M H) : Dyn P c ⟨d, .assign x, ty, pos, aft, g⟩ E M H next := by
  intro a w hav hst K Q hK
  have hs := Sure.assign (P := P) (M := M) (H := H) (d := d) (ty := ty) (pos := pos) (aft := aft) (g := g) hx a w hav hst.agr hst.has
  unfold Oper.wp
  rw [hs, Oper.upon_value]
  exact hK _ _ _ _ hst k
section
variable {E : Env} {M : Mem} {H : Heap} {d : Option Tmp} {ty : TypeId} {pos : String} {aft : Array Edge} {g : Option (Nat × Bool)} {t yt : TypeId} {x y : Operand} {k : IntKind} {a b : Int}
theorem Sure.to_t {o : Oper} {p : Prop} [Decidable p] (h : Sure P o E M H (.bool (decide p))) (hp : p) : Sure P o E M H (.bool true) := by rwa [decide_eq_true hp] at h
theorem Sure.to_f {o : Oper} {p : Prop} [Decidable p] (h : Sure P o E M H (.bool (decide p))) (hp : ¬ p) : Sure P o E M H (.bool false) := by rwa [decide_eq_false hp] at h
end
end Go.Proofs.Ytaeeahcokiebdaa
