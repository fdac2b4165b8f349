/-
  From a law's Spec to the row's closing condition: memory at the call, and that nothing of it turned.
-/
import Derived.Test.YtaeeahcokiebdaaRows
import Derived.Test.YtaeeahcokiebdaaKa
import Derived.WalkKit
import Derived.ProofKit
import Derived.OpenShut
import Derived.ShutString
import Derived.ChangeOld
import Derived.Below
import Derived.Carry
import Derived.SizedLaws
namespace Go.Proofs.Ytaeeahcokiebdaa
open Go.ChangeShapes Go.WideShapes Go.ChangeAt Go.RowKit

/-- Memory as it is at a call: all blocks of cells. -/
def memOf (W : World) : Mem := fun b => match W.heap[b]? with
  | some (.cells c _ _) => some c.toList
  | _ => Option.none
theorem memOf_agr (W : World) : Agr (memOf W) W := by
  intro b c h
  unfold memOf at h
  split at h
  · rename_i c' T fz e
    injection h with h
    subst h
    exact ⟨T, fz, by rw [e]⟩
  · cases h
theorem memOf_at (W : World) : At (memOf W) [] W := ⟨memOf_agr W, fun p hp => by simp at hp, fun b hb => by simp [ids] at hb, by simp [ids]⟩
theorem st_below {W : World} {M M' : Mem} {H : Heap} {w' : World} (h : St W M [] M' H w') : Below W.heap.size W w' :=
  ⟨h.os, h.tape, h.output, h.size, fun k hk => h.keep k hk (by simp)⟩

section
variable {H : Type} {enc : TypeId × Value → H} {P : Program}
theorem trodAll_below (hl : laidOutB P = true) {W W' : World} (hb : Below W.heap.size W W') : ∀ {ts : List TypeId} {vs : List Value} {ds : List (DataW H)} {p : List MemPlace},
    (ts.all fun t => P.readableRec t && decide (t < P.types.size)) = true → DataW.TrodAll enc P W 0 (fun _ => true) true ts vs ds p →
    (∀ x ∈ p, x.block < W.heap.size) → DataW.TrodAll enc P W' 0 (fun b => decide (b < W.heap.size)) true ts vs ds p
  | [], [], [], _, _, h, _ => h
  | t :: ts, v :: vs, d :: ds, p, ha, h, hlt => by
    obtain ⟨a, b, h1, h2, rfl⟩ := h
    simp only [List.all_cons, Bool.and_eq_true] at ha
    obtain ⟨⟨ha1, ha2⟩, ha3⟩ := ha
    have h3 := Below.trod hl ha1 (of_decide_eq_true ha2) h1 hb (fun x hx => hlt x (by simp [hx]))
    exact ⟨a, b, h3, trodAll_below hl hb ha3 h2 (fun x hx => hlt x (by simp [hx])), rfl⟩
  | [], [], _ :: _, _, _, h, _ => h.elim
  | [], _ :: _, _, _, _, h, _ => by cases h
  | _ :: _, [], _, _, _, h, _ => by cases h
  | _ :: _, _ :: _, [], _, _, h, _ => by cases h
/-- The row's closing condition of a law that answered true. -/
theorem law_post (hl : laidOutB P = true) {fn : Func} {s : ChangeSpec} {W W' : World} {args : Array Value} {ds gs : List (DataW H)} {before : List MemPlace} {bt : TypeId}
    (hW : DataW.Whole enc P fn.params.toList s.vars false W args.toList ds gs before) (hp : (fn.params.toList.all fun t => P.readableRec t && decide (t < P.types.size)) = true) (hv : s.vars = [])
    (bel : Below W.heap.size W W') (hr : fn.resultTypes = #[bt]) (hbt : P.underlying bt = some .bool) (hf : s.fn H ds = { results := [.lit (.bool true)], args := ds }) :
    s.post enc P fn false true false false W args (.bool true) W' := by
  have hW' := hW
  obtain ⟨p, q, hA, hV, rfl, hfz, hnd⟩ := hW
  rw [hv] at hV
  obtain ⟨rfl, rfl⟩ := trodVars_none hV
  rw [← List.append_nil ds] at hf
  have hlt := hW'.lt
  refine ⟨ds, [], _, [], p, [], hW', ?_, ?_, ?_, bel.frame _, fun h => by cases h⟩
  · rw [hf, hr]
    simp only [List.append_nil]
    exact trodAll_mk1 (shut_bool hbt _)
  · rw [hf]
    simp only [List.append_nil]
    exact trodAll_below hl bel hp hA (fun x hx => hlt x (by simp [hx]))
  · rw [hv, hf]
    exact rfl
/-! ### Opening arguments -/
/-- A struct of whole numbers alone. -/
def intsOnly (P : Program) (fs : Array Field) : Bool := (List.range fs.size).all fun i => match fs[i]? with
  | some f => f.offset == i && P.cellsOf f.type == 1 && (match P.underlying f.type with | some (.int .i64) => true | _ => false)
  | Option.none => false
theorem open_intsOnly {r : Reach} {b0 : Nat} {w : World} {base : Nat} {spare : Nat → Bool} {held : Bool} {t : TypeId} {fs : Array Field} {v : Value} {d : DataW H} {ps : List MemPlace}
    (N : Nat) (ht : P.underlying t = some (.struct fs)) (hN : fs.size = N) (ho : intsOnly P fs = true) (hC : P.cellsOf t = fs.size) (hval : Value.okWide P w r b0 t v) (hd : DataW.Trod enc P w base spare held t v d ps) :
    ∃ l : List Int, l.length = N ∧ v = .agg (l.map fun n => Value.int .i64 n).toArray := by
  obtain ⟨cs, rfl, hs⟩ := okWide_struct ht hval
  obtain ⟨fuel, hf⟩ := hd
  obtain ⟨xs, n, _, _, hl, hxl, hx⟩ := DataW.trod_struct ht hf
  have hcells : (Value.agg cs).cells = cs := rfl
  rw [hcells] at hl hx
  have hget : ∀ i, i < fs.size → ∃ z, cs.toList[i]? = some (Value.int .i64 z) := by
    intro i hi
    have h1 := List.all_eq_true.1 ho i (List.mem_range.2 hi)
    have hfi : fs[i]? = some fs[i] := Array.getElem?_eq_getElem hi
    rw [hfi] at h1
    simp only [Bool.and_eq_true, beq_iff_eq] at h1
    obtain ⟨⟨h1, h2⟩, h3⟩ := h1
    have h4 := hx i _ hfi
    rw [h1, h2, List.getElem?_eq_getElem (by omega)] at h4
    have h5 : P.underlying fs[i].type = some (.int .i64) := by
      revert h3
      split
      · intro _; assumption
      · intro h; cases h
    obtain ⟨z, h6, _⟩ := DataW.trod_int h5 h4
    refine ⟨z, ?_⟩
    have := congrArg (·[0]?) h6
    simpa [List.getElem?_take, List.getElem?_drop] using this
  have hall : ∀ x ∈ cs.toList, ∃ z, x = Value.int .i64 z := by
    intro x hxm
    obtain ⟨i, hi, rfl⟩ := List.getElem_of_mem hxm
    obtain ⟨z, hz⟩ := hget i (by omega)
    exact ⟨z, by rw [List.getElem?_eq_getElem hi] at hz; exact Option.some.inj hz⟩
  have hmap : ∀ l : List Value, (∀ x ∈ l, ∃ z, x = Value.int .i64 z) → ∃ k : List Int, l = k.map fun n => Value.int .i64 n := by
    intro l
    induction l with
    | nil => intro _; exact ⟨[], rfl⟩
    | cons x l ih =>
      intro h
      obtain ⟨z, rfl⟩ := h x (by simp)
      obtain ⟨k, rfl⟩ := ih fun y hy => h y (by simp [hy])
      exact ⟨z :: k, rfl⟩
  obtain ⟨k, hk⟩ := hmap _ hall
  refine ⟨k, ?_, ?_⟩
  · have := congrArg List.length hk
    simp at this
    omega
  · rw [← hk]
theorem five {l : List Int} (h : l.length = 5) : ∃ a b c d e, l = [a, b, c, d, e] := by
  match l, h with
  | [a, b, c, d, e], _ => exact ⟨a, b, c, d, e, rfl⟩
end
end Go.Proofs.Ytaeeahcokiebdaa
