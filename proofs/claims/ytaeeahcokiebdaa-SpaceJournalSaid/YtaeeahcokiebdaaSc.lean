/-
  The walks of room, at a new state.
-/
import Derived.Test.YtaeeahcokiebdaaSb
namespace Go.Proofs.Ytaeeahcokiebdaa
set_option maxRecDepth 20000

theorem runsRight_spec (M : Mem) (p : Option Addr) (c : Nat) : Spec Try.prog 75 [.slice p 0 c] M [] (fun v _ H => v = .bool true ∧ H = []) := by
  refine Spec.of_code 76 Try.func75 rfl callable75 rfl rfl fun w => ?_
  refine C.region_seq ?_
  refine G.value rfl rfl rfl (Sure.assign rfl) ?_
  refine G.nil ?_
  refine C.seq ?_
  refine C.region_seq ?_
  refine G.value rfl rfl rfl (Sure.move rfl) ?_
  refine G.value rfl rfl rfl (Sure.len_slice rfl) ?_
  refine G.value rfl rfl rfl (Sure.move rfl) ?_
  refine G.nil ?_
  refine C.block ?_
  refine C.loop (fun k E M' H => E = [(6, .int .i64 ((0 : Nat) : Int)), (7, .int .i64 0)] ∧ H = []) (0) ?_ ?_
  · exact ⟨_, _, ⟨rfl, rfl⟩, ⟨rfl, rfl, trivial⟩, _, Split.nil⟩
  · rintro k E M' H ⟨rfl, rfl⟩
    refine C.region_seq ?_
    refine G.value rfl rfl rfl ((Sure.lss rfl rfl).to_f (by decide)) ?_
    refine G.nil ?_
    refine C.seq ?_
    refine C.cond_false rfl ?_
    refine C.exit ?_
    refine Fin.th_exit ?_
    refine Fin.th_exit ?_
    refine Fin.blk_eq ?_
    refine Fin.th ?_
    refine C.region_seq ?_
    refine G.value rfl rfl rfl (Sure.assign rfl) ?_
    refine G.nil ?_
    refine C.ret ?_
    exact Fin.fn (Res.tmp rfl rfl) Split.nil ⟨rfl, rfl⟩
theorem runsPages_spec (M : Mem) (p : Option Addr) (c : Nat) : Spec Try.prog 61 [.slice p 0 c] M [] (fun v _ H => v = .slice Option.none 0 0 ∧ H = []) := by
  refine Spec.of_code 31 Try.func61 rfl callable61 rfl rfl fun w => ?_
  refine C.region_seq ?_
  refine G.value rfl rfl rfl (Sure.assign rfl) ?_
  refine G.nil ?_
  refine C.seq ?_
  refine C.region_seq ?_
  refine G.value rfl rfl rfl (Sure.move rfl) ?_
  refine G.call rfl rfl rfl rfl rfl rfl (runsRight_spec M p c) (Split.nil) ?_
  rintro _ M1 _ le1 ⟨rfl, rfl⟩
  refine G.value rfl rfl rfl (Sure.not rfl) ?_
  refine G.nil ?_
  refine C.cond_false rfl ?_
  refine C.skip ?_
  refine Fin.th ?_
  refine C.region_seq ?_
  refine G.value rfl rfl rfl (Sure.assign rfl) ?_
  refine G.nil ?_
  refine C.seq ?_
  refine C.region_seq ?_
  refine G.value rfl rfl rfl (Sure.move rfl) ?_
  refine G.value rfl rfl rfl (Sure.len_slice rfl) ?_
  refine G.value rfl rfl rfl (Sure.move rfl) ?_
  refine G.nil ?_
  refine C.block ?_
  refine C.loop (fun k E M' H => E = [(3, .slice Option.none 0 0), (11, .int .i64 ((0 : Nat) : Int)), (12, .int .i64 0)] ∧ H = []) (0) ?_ ?_
  · exact ⟨_, _, ⟨rfl, rfl⟩, ⟨rfl, rfl, rfl, trivial⟩, _, Split.nil⟩
  · rintro k E M' H ⟨rfl, rfl⟩
    refine C.region_seq ?_
    refine G.value rfl rfl rfl ((Sure.lss rfl rfl).to_f (by decide)) ?_
    refine G.nil ?_
    refine C.seq ?_
    refine C.cond_false rfl ?_
    refine C.exit ?_
    refine Fin.th_exit ?_
    refine Fin.th_exit ?_
    refine Fin.blk_eq ?_
    refine Fin.th ?_
    refine C.region_seq ?_
    refine G.value rfl rfl rfl (Sure.move rfl) ?_
    refine G.value rfl rfl rfl (Sure.assign rfl) ?_
    refine G.nil ?_
    refine C.ret ?_
    exact Fin.fn (Res.tmp rfl rfl) Split.nil ⟨rfl, rfl⟩
theorem runsCount_spec (M : Mem) (p : Option Addr) (c : Nat) : Spec Try.prog 40 [.slice p 0 c] M [] (fun v _ H => v = .int .i64 ((0 : Nat) : Int) ∧ H = []) := by
  refine Spec.of_code 6 Try.func40 rfl callable40 rfl rfl fun w => ?_
  refine C.region_seq ?_
  refine G.value rfl rfl rfl (Sure.assign rfl) ?_
  refine G.nil ?_
  refine C.region_seq ?_
  refine G.value rfl rfl rfl (Sure.move rfl) ?_
  refine G.call rfl rfl rfl rfl rfl rfl (runsPages_spec M p c) (Split.nil) ?_
  rintro _ M1 _ le1 ⟨rfl, rfl⟩
  refine G.value rfl rfl rfl (Sure.len_slice rfl) ?_
  refine G.value rfl rfl rfl (Sure.assign rfl) ?_
  refine G.nil ?_
  refine C.ret ?_
  exact Fin.fn (Res.tmp rfl rfl) Split.nil ⟨rfl, rfl⟩
end Go.Proofs.Ytaeeahcokiebdaa
