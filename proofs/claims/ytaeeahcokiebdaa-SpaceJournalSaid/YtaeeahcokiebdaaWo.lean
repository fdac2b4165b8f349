/-
  The walk of a record.
  Conditions: sizes that the program's code handles.
-/
import Derived.Test.YtaeeahcokiebdaaWn
namespace Go.Proofs.Ytaeeahcokiebdaa
set_option maxRecDepth 20000

/-- A record without its flag. -/
def bodyB (b : List UInt8) : List UInt8 := le b.length 2 ++ le (sumOf (le b.length 2 ++ b)) 4 ++ b
theorem bodyB_len (b : List UInt8) : (bodyB b).length = b.length + 6 := by simp [bodyB]; omega
theorem body_spec (M : Mem) (p : Option Addr) (cap : Nat) (b : List UInt8) (hs : SB M p b) (hl : b.length ≤ 100000000) :
    Spec Try.prog 38 [.slice p b.length cap] M [] (fun v M' H => H = [] ∧ ∃ q c, v = .tuple #[.slice q (if b.length ≤ 65000 then (bodyB b).length else 0) c, .int .i64 (if b.length ≤ 65000 then 0 else 21)] ∧ (b.length ≤ 65000 → SB M' q (bodyB b))) := by
  refine Spec.of_code 23 Try.func38 rfl callable38 rfl rfl fun w => ?_
  refine C.region_seq ?_
  refine G.value rfl rfl rfl (Sure.assign rfl) ?_
  refine G.value rfl rfl rfl (Sure.assign rfl) ?_
  refine G.nil ?_
  refine C.seq ?_
  refine C.region_seq ?_
  refine G.value rfl rfl rfl (Sure.move rfl) ?_
  refine G.value rfl rfl rfl (Sure.len_slice rfl) ?_
  refine G.value rfl rfl rfl (Sure.gtr rfl rfl) ?_
  refine G.nil ?_
  refine C.cond_dec rfl (fun hbig => ?_) (fun hbig => ?_)
  · rw [if_neg (by omega), if_neg (by omega)]
    refine C.region_seq ?_
    refine G.value rfl rfl rfl (Sure.assign rfl) ?_
    refine G.value rfl rfl rfl (Sure.assign rfl) ?_
    refine G.nil ?_
    refine C.ret ?_
    refine Fin.th_ret ?_
    exact Fin.fn (Res.tmp2 rfl rfl rfl) Split.nil ⟨rfl, Option.none, 0, rfl, fun h => absurd h (by omega)⟩
  · rw [if_pos (by omega), if_pos (by omega)]
    refine C.skip ?_
    refine Fin.th ?_
    refine C.region_seq ?_
    refine G.value rfl rfl rfl (Sure.move rfl) ?_
    refine G.value rfl rfl rfl (Sure.len_slice rfl) ?_
    refine G.value rfl rfl rfl (Sure.conv rfl (inKu64 (by omega))) ?_
    refine G.call rfl rfl rfl rfl rfl rfl ((put_spec M Option.none 0 [] b.length 2 (sb_nil M) (by simp) (by omega) (by omega)).retB) (Split.nil) ?_
    rintro _ M2 _ le2 ⟨rfl, p2, c2, rfl, hs2⟩
    rw [List.nil_append] at hs2 ⊢
    refine G.value rfl rfl rfl (Sure.assign rfl) ?_
    refine G.nil ?_
    refine C.region_seq ?_
    refine G.value rfl rfl rfl (Sure.move rfl) ?_
    refine G.value rfl rfl rfl (Sure.move rfl) ?_
    refine G.value rfl rfl rfl (Sure.move rfl) ?_
    refine G.dyn rfl rfl rfl ?_
    refine Dyn.buildSlice rfl rfl rfl (by simp [vcl]) (by decide) ?_
    intro b3
    refine G.donate fun M3 le3 hM3 => ?_
    refine G.call rfl rfl rfl rfl rfl rfl ((concat_spec M3 (some ⟨b3, 0, Option.none⟩) 2 [(p2, c2, le b.length 2), (p, cap, b)] ⟨rfl, fun _ => ⟨b3, 0, _, rfl, Rd.m hM3, by simp [seg, takeN, vcl]⟩⟩ (by intro t ht; simp at ht; rcases ht with rfl | rfl; exact hs2.mono le3; exact hs.mono (le2.trans le3)) (by simp [catL]; omega) (by simp)).retB) (Split.nil) ?_
    rintro _ M4 _ le4 ⟨rfl, p4, c4, rfl, hs4⟩
    rw [show catL [(p2, c2, le b.length 2), (p, cap, b)] = le b.length 2 ++ b from by simp [catL]] at hs4 ⊢
    refine G.call rfl rfl rfl rfl rfl rfl (sum_spec M4 p4 c4 _ hs4 (by simp; omega)) (Split.nil) ?_
    rintro _ M5 _ le5 ⟨rfl, rfl⟩
    have hsm := sumOf_lt (le b.length 2 ++ b)
    refine G.value rfl rfl rfl (Sure.conv rfl (inKu64 (by omega))) ?_
    refine G.call rfl rfl rfl rfl rfl rfl ((put_spec M5 p2 c2 _ (sumOf (le b.length 2 ++ b)) 4 ((hs2.mono le3).mono (le4.trans le5)) (by simp) (by omega) (by omega)).retB) (Split.nil) ?_
    rintro _ M6 _ le6 ⟨rfl, p6, c6, rfl, hs6⟩
    refine G.value rfl rfl rfl (Sure.move rfl) ?_
    refine G.dyn rfl rfl rfl ?_
    refine Dyn.buildSlice rfl rfl rfl (by simp [vcl]) (by decide) ?_
    intro b7
    refine G.donate fun M7 le7 hM7 => ?_
    have lea : MLe M M7 := (le2.trans le3).trans ((le4.trans le5).trans (le6.trans le7))
    refine G.call rfl rfl rfl rfl rfl rfl ((concat_spec M7 (some ⟨b7, 0, Option.none⟩) 2 [(p6, c6, le b.length 2 ++ le (sumOf (le b.length 2 ++ b)) 4), (p, cap, b)] ⟨rfl, fun _ => ⟨b7, 0, _, rfl, Rd.m hM7, by simp [seg, takeN, vcl]⟩⟩ (by intro t ht; simp at ht; rcases ht with rfl | rfl; exact hs6.mono le7; exact hs.mono lea) (by simp [catL]; omega) (by simp)).retB) (Split.nil) ?_
    rintro _ M8 _ le8 ⟨rfl, p8, c8, rfl, hs8⟩
    rw [show catL [(p6, c6, le b.length 2 ++ le (sumOf (le b.length 2 ++ b)) 4), (p, cap, b)] = bodyB b from by simp [catL, bodyB]] at hs8 ⊢
    refine G.value rfl rfl rfl (Sure.assign rfl) ?_
    refine G.value rfl rfl rfl (Sure.assign rfl) ?_
    refine G.nil ?_
    refine C.ret ?_
    exact Fin.fn (Res.tmp2 rfl rfl rfl) Split.nil ⟨rfl, p8, c8, rfl, fun _ => hs8⟩
end Go.Proofs.Ytaeeahcokiebdaa
