/-
  The walks of power.
  Conditions: the arguments are as each theorem says.
-/
import Derived.Test.YtaeeahcokiebdaaWa
namespace Go.Proofs.Ytaeeahcokiebdaa
set_option maxRecDepth 20000

structure Pw where
  left : Int
  mask : UInt8
  off : Bool
  done : Int
abbrev ptr (b : Nat) : Value := .pointer (some ⟨b, 0, Option.none⟩)
abbrev pwL (p : Pw) (fv : Value) : List Value := [.int .i64 p.left, byteV p.mask, .bool p.off, fv, .int .i64 p.done]
def PwOk (p : Pw) : Prop := -1 ≤ p.left ∧ p.left ≤ 9223372036854775807
/-- One step: the power behind it; is it done; is it torn. -/
def Pw.step (p : Pw) : Pw × Bool × Bool :=
  if p.off then (p, false, false) else if p.left = 0 then ({ p with off := true }, false, true)
  else ({ p with left := if 0 < p.left then p.left - 1 else p.left, done := IntKind.i64.wrap (p.done + 1) }, true, false)
theorem PwOk.step {p : Pw} (h : PwOk p) : PwOk p.step.1 := by
  unfold PwOk Pw.step at *
  split
  · exact h
  · split
    · exact h
    · dsimp only; split <;> omega

theorem pw_new_spec (M : Mem) : Spec Try.prog 6 [] M [] (fun v _ H => ∃ b, v = ptr b ∧ H = [(b, .cells (pwL ⟨-1, 0, false, 0⟩ (.map Option.none)))]) := by
  refine Spec.of_code 3 Try.func6 rfl callable6 rfl rfl fun w => ?_
  refine C.region_seq ?_
  refine G.value rfl rfl rfl (Sure.assign rfl) ?_
  refine G.nil ?_
  refine C.region_seq ?_
  refine G.value rfl rfl rfl (Sure.build rfl rfl) ?_
  refine G.dyn rfl rfl rfl ?_
  refine Dyn.boxAgg rfl ?_
  intro b2
  refine G.value rfl rfl rfl (Sure.assign rfl) ?_
  refine G.nil ?_
  refine C.ret ?_
  exact Fin.fn (Res.tmp rfl rfl) (Split.cons Pick.here Split.nil) ⟨_, rfl, rfl⟩
theorem pw_mask_spec (M : Mem) (b : Nat) (p : Pw) (fv : Value) : Spec Try.prog 57 [ptr b] M [(b, .cells (pwL p fv))] (fun v _ H => v = byteV p.mask ∧ H = [(b, .cells (pwL p fv))]) := by
  refine Spec.of_code 9 Try.func57 rfl callable57 rfl rfl fun w => ?_
  refine C.region_seq ?_
  refine G.value rfl rfl rfl (Sure.assign rfl) ?_
  refine G.nil ?_
  refine C.seq ?_
  refine C.region_seq ?_
  refine G.value rfl rfl rfl (Sure.move rfl) ?_
  refine G.value rfl rfl rfl (Sure.ptr_eq_nil rfl rfl) ?_
  refine G.nil ?_
  refine C.cond_false rfl ?_
  refine C.skip ?_
  refine Fin.th ?_
  refine C.region_seq ?_
  refine G.value rfl rfl rfl (Sure.move rfl) ?_
  refine G.value rfl rfl rfl (Sure.nilCheck rfl) ?_
  refine G.value rfl rfl rfl (Sure.fieldAddr rfl) ?_
  refine G.value rfl rfl rfl (Sure.load rfl (by first | exact Rd.h0 | exact Rd.tl Rd.h0 | exact Rd.tl (Rd.tl Rd.h0) | exact Rd.tl (Rd.tl (Rd.tl Rd.h0)) | exact Rd.tl (Rd.tl (Rd.tl (Rd.tl Rd.h0))) | exact Rd.tl (Rd.tl (Rd.tl (Rd.tl (Rd.tl Rd.h0)))) | exact Rd.m (by assumption) | assumption) rfl) ?_
  refine G.value rfl rfl rfl (Sure.assign rfl) ?_
  refine G.nil ?_
  refine C.ret ?_
  exact Fin.fn (Res.tmp rfl rfl) (Split.cons Pick.here Split.nil) ⟨rfl, rfl⟩
theorem pw_step_spec (M : Mem) (b : Nat) (p : Pw) (fv : Value) (h : PwOk p) : Spec Try.prog 55 [ptr b] M [(b, .cells (pwL p fv))]
    (fun v _ H => v = .tuple #[.bool p.step.2.1, .bool p.step.2.2] ∧ H = [(b, .cells (pwL p.step.1 fv))]) := by
  unfold PwOk at h
  refine Spec.of_code 40 Try.func55 rfl callable55 rfl rfl fun w => ?_
  refine C.region_seq ?_
  refine G.value rfl rfl rfl (Sure.assign rfl) ?_
  refine G.value rfl rfl rfl (Sure.assign rfl) ?_
  refine G.nil ?_
  refine C.seq ?_
  refine C.block ?_
  refine C.region_seq ?_
  refine G.value rfl rfl rfl (Sure.move rfl) ?_
  refine G.value rfl rfl rfl (Sure.ptr_eq_nil rfl rfl) ?_
  refine G.value rfl rfl rfl (Sure.assign rfl) ?_
  refine G.nil ?_
  refine C.cond_false rfl ?_
  refine C.region_seq ?_
  refine G.value rfl rfl rfl (Sure.move rfl) ?_
  refine G.value rfl rfl rfl (Sure.nilCheck rfl) ?_
  refine G.value rfl rfl rfl (Sure.fieldAddr rfl) ?_
  refine G.value rfl rfl rfl (Sure.load rfl (by first | exact Rd.h0 | exact Rd.tl Rd.h0 | exact Rd.tl (Rd.tl Rd.h0) | exact Rd.tl (Rd.tl (Rd.tl Rd.h0)) | exact Rd.tl (Rd.tl (Rd.tl (Rd.tl Rd.h0))) | exact Rd.tl (Rd.tl (Rd.tl (Rd.tl (Rd.tl Rd.h0)))) | exact Rd.m (by assumption) | assumption) rfl) ?_
  refine G.value rfl rfl rfl (Sure.assign rfl) ?_
  refine G.nil ?_
  refine C.cond rfl (fun hoff => ?_) (fun hoff => ?_)
  · refine C.region_seq ?_
    refine G.value rfl rfl rfl (Sure.assign rfl) ?_
    refine G.value rfl rfl rfl (Sure.assign rfl) ?_
    refine G.nil ?_
    refine C.ret ?_
    refine Fin.blk_ret ?_
    refine Fin.th_ret ?_
    exact Fin.fn (Res.tmp2 rfl rfl rfl) (Split.cons Pick.here Split.nil) (by simp [Pw.step, hoff])
  refine C.region_seq ?_
  refine G.value rfl rfl rfl (Sure.move rfl) ?_
  refine G.value rfl rfl rfl (Sure.nilCheck rfl) ?_
  refine G.value rfl rfl rfl (Sure.fieldAddr rfl) ?_
  refine G.value rfl rfl rfl (Sure.load rfl (by first | exact Rd.h0 | exact Rd.tl Rd.h0 | exact Rd.tl (Rd.tl Rd.h0) | exact Rd.tl (Rd.tl (Rd.tl Rd.h0)) | exact Rd.tl (Rd.tl (Rd.tl (Rd.tl Rd.h0))) | exact Rd.tl (Rd.tl (Rd.tl (Rd.tl (Rd.tl Rd.h0)))) | exact Rd.m (by assumption) | assumption) rfl) ?_
  refine G.value rfl rfl rfl (Sure.eql rfl rfl) ?_
  refine G.value rfl rfl rfl (Sure.assign rfl) ?_
  refine G.nil ?_
  refine C.cond_dec rfl (fun h0 => ?_) (fun h0 => ?_)
  · refine C.region_seq ?_
    refine G.value rfl rfl rfl (Sure.move rfl) ?_
    refine G.value rfl rfl rfl (Sure.nilCheck rfl) ?_
    refine G.value rfl rfl rfl (Sure.fieldAddr rfl) ?_
    refine G.dyn0 rfl rfl ?_
    refine Dyn.store rfl rfl (by first | exact Pick.here | exact Pick.there Pick.here | exact Pick.there (Pick.there Pick.here) | exact Pick.there (Pick.there (Pick.there Pick.here)) | exact Pick.there (Pick.there (Pick.there (Pick.there Pick.here))) | exact Pick.there (Pick.there (Pick.there (Pick.there (Pick.there Pick.here))))) rfl rfl ?_
    refine G.nil ?_
    refine C.region_seq ?_
    refine G.value rfl rfl rfl (Sure.assign rfl) ?_
    refine G.value rfl rfl rfl (Sure.assign rfl) ?_
    refine G.nil ?_
    refine C.ret ?_
    refine Fin.blk_ret ?_
    refine Fin.th_ret ?_
    exact Fin.fn (Res.tmp2 rfl rfl rfl) (Split.cons Pick.here Split.nil) (by simp [Pw.step, hoff, h0])
  refine C.skip ?_
  refine Fin.blk ?_
  refine Fin.th ?_
  refine C.seq ?_
  refine C.region_seq ?_
  refine G.value rfl rfl rfl (Sure.move rfl) ?_
  refine G.value rfl rfl rfl (Sure.nilCheck rfl) ?_
  refine G.value rfl rfl rfl (Sure.fieldAddr rfl) ?_
  refine G.value rfl rfl rfl (Sure.load rfl (by first | exact Rd.h0 | exact Rd.tl Rd.h0 | exact Rd.tl (Rd.tl Rd.h0) | exact Rd.tl (Rd.tl (Rd.tl Rd.h0)) | exact Rd.tl (Rd.tl (Rd.tl (Rd.tl Rd.h0))) | exact Rd.tl (Rd.tl (Rd.tl (Rd.tl (Rd.tl Rd.h0)))) | exact Rd.m (by assumption) | assumption) rfl) ?_
  refine G.value rfl rfl rfl (Sure.gtr rfl rfl) ?_
  refine G.nil ?_
  refine C.cond_dec rfl (fun h1 => ?_) (fun h1 => ?_)
  · refine C.region ?_
    refine G.value rfl rfl rfl (Sure.move rfl) ?_
    refine G.value rfl rfl rfl (Sure.nilCheck rfl) ?_
    refine G.value rfl rfl rfl (Sure.fieldAddr rfl) ?_
    refine G.value rfl rfl rfl (Sure.load rfl (by first | exact Rd.h0 | exact Rd.tl Rd.h0 | exact Rd.tl (Rd.tl Rd.h0) | exact Rd.tl (Rd.tl (Rd.tl Rd.h0)) | exact Rd.tl (Rd.tl (Rd.tl (Rd.tl Rd.h0))) | exact Rd.tl (Rd.tl (Rd.tl (Rd.tl (Rd.tl Rd.h0)))) | exact Rd.m (by assumption) | assumption) rfl) ?_
    refine G.value rfl rfl rfl (Sure.sub rfl rfl (inK64 (by omega))) ?_
    refine G.value rfl rfl rfl (Sure.nilCheck rfl) ?_
    refine G.value rfl rfl rfl (Sure.fieldAddr rfl) ?_
    refine G.dyn0 rfl rfl ?_
    refine Dyn.store rfl rfl (by first | exact Pick.here | exact Pick.there Pick.here | exact Pick.there (Pick.there Pick.here) | exact Pick.there (Pick.there (Pick.there Pick.here)) | exact Pick.there (Pick.there (Pick.there (Pick.there Pick.here))) | exact Pick.there (Pick.there (Pick.there (Pick.there (Pick.there Pick.here))))) rfl rfl ?_
    refine G.nil ?_
    refine Fin.th ?_
    refine C.region_seq ?_
    refine G.value rfl rfl rfl (Sure.move rfl) ?_
    refine G.value rfl rfl rfl (Sure.nilCheck rfl) ?_
    refine G.value rfl rfl rfl (Sure.fieldAddr rfl) ?_
    refine G.value rfl rfl rfl (Sure.load rfl (by first | exact Rd.h0 | exact Rd.tl Rd.h0 | exact Rd.tl (Rd.tl Rd.h0) | exact Rd.tl (Rd.tl (Rd.tl Rd.h0)) | exact Rd.tl (Rd.tl (Rd.tl (Rd.tl Rd.h0))) | exact Rd.tl (Rd.tl (Rd.tl (Rd.tl (Rd.tl Rd.h0)))) | exact Rd.m (by assumption) | assumption) rfl) ?_
    refine G.value rfl rfl rfl (Sure.add' rfl rfl) ?_
    refine G.value rfl rfl rfl (Sure.nilCheck rfl) ?_
    refine G.value rfl rfl rfl (Sure.fieldAddr rfl) ?_
    refine G.dyn0 rfl rfl ?_
    refine Dyn.store rfl rfl (by first | exact Pick.here | exact Pick.there Pick.here | exact Pick.there (Pick.there Pick.here) | exact Pick.there (Pick.there (Pick.there Pick.here)) | exact Pick.there (Pick.there (Pick.there (Pick.there Pick.here))) | exact Pick.there (Pick.there (Pick.there (Pick.there (Pick.there Pick.here))))) rfl rfl ?_
    refine G.nil ?_
    refine C.region_seq ?_
    refine G.value rfl rfl rfl (Sure.assign rfl) ?_
    refine G.value rfl rfl rfl (Sure.assign rfl) ?_
    refine G.nil ?_
    refine C.ret ?_
    exact Fin.fn (Res.tmp2 rfl rfl rfl) (Split.cons Pick.here Split.nil) (by simp [Pw.step, hoff, h0, h1])
  · refine C.skip ?_
    refine Fin.th ?_
    refine C.region_seq ?_
    refine G.value rfl rfl rfl (Sure.move rfl) ?_
    refine G.value rfl rfl rfl (Sure.nilCheck rfl) ?_
    refine G.value rfl rfl rfl (Sure.fieldAddr rfl) ?_
    refine G.value rfl rfl rfl (Sure.load rfl (by first | exact Rd.h0 | exact Rd.tl Rd.h0 | exact Rd.tl (Rd.tl Rd.h0) | exact Rd.tl (Rd.tl (Rd.tl Rd.h0)) | exact Rd.tl (Rd.tl (Rd.tl (Rd.tl Rd.h0))) | exact Rd.tl (Rd.tl (Rd.tl (Rd.tl (Rd.tl Rd.h0)))) | exact Rd.m (by assumption) | assumption) rfl) ?_
    refine G.value rfl rfl rfl (Sure.add' rfl rfl) ?_
    refine G.value rfl rfl rfl (Sure.nilCheck rfl) ?_
    refine G.value rfl rfl rfl (Sure.fieldAddr rfl) ?_
    refine G.dyn0 rfl rfl ?_
    refine Dyn.store rfl rfl (by first | exact Pick.here | exact Pick.there Pick.here | exact Pick.there (Pick.there Pick.here) | exact Pick.there (Pick.there (Pick.there Pick.here)) | exact Pick.there (Pick.there (Pick.there (Pick.there Pick.here))) | exact Pick.there (Pick.there (Pick.there (Pick.there (Pick.there Pick.here))))) rfl rfl ?_
    refine G.nil ?_
    refine C.region_seq ?_
    refine G.value rfl rfl rfl (Sure.assign rfl) ?_
    refine G.value rfl rfl rfl (Sure.assign rfl) ?_
    refine G.nil ?_
    refine C.ret ?_
    exact Fin.fn (Res.tmp2 rfl rfl rfl) (Split.cons Pick.here Split.nil) (by simp [Pw.step, hoff, h0, h1])
end Go.Proofs.Ytaeeahcokiebdaa
