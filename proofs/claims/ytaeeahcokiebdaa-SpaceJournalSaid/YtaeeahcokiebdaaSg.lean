/-
  WHAT IS PROVED: whatever the geometry and the two numbers, the law on deeds that fit (SpaceJournal) returns true, never panics, and leaves its arguments as they were. CONDITIONS: none but those of the row.
-/
import Derived.Test.YtaeeahcokiebdaaRa
import Derived.Test.YtaeeahcokiebdaaSf
namespace Go.Proofs.Ytaeeahcokiebdaa.spaceJournal
open Go.ChangeShapes Go.WideShapes Go.ChangeAt Go.RowKit Go.Proofs.Ytaeeahcokiebdaa
set_option maxRecDepth 20000

theorem own : ownKnob Try.prog.godebug = Option.none := by kernel_rfl
theorem laidOut : laidOutB Try.prog = true := by kernel_rfl

set_option maxRecDepth 100000 in
theorem lifted (os : Os) (started : os.Started) (H : Type) (enc : TypeId × Value → H) :
    ReturnsInHanded {} Try.checked os 3 .any (Rows.spaceJournalSpec.pre6 enc Try.prog Try.f3 Rows.spaceJournalRow.domain false) (Rows.spaceJournalSpec.post enc Try.prog Try.f3 false true false false) := by
  refine returnsInHanded_of_change_sized (C := Try.checked) own started (by kernel_rfl) Try.func3
    (ChangeSpec.witness6 (enc := enc) (C := Try.checked) false ⟨#[], #[.agg #[.int .i64 0, .int .i64 0, .int .i64 0, .int .i64 0, .int .i64 0], .int .i64 0, .int .i64 0], []⟩ 8 (by kernel_rfl) (by kernel_rfl) (by kernel_rfl) (by kernel_rfl)) ?_
  intro W base args ds gs before hval0 hW hcnd hsz0 _
  have hval : ∀ (j : Nat) t v, Try.f3.params[j]? = some t → args[j]? = some v → Value.okWide Try.prog W .any base t v := hval0
  have hW' := hW
  obtain ⟨p, q, hA0, hV, rfl, hfz, hnd⟩ := hW
  have hA : DataW.TrodAll enc Try.prog W 0 (fun _ => true) true Try.f3.params.toList args.toList ds p := hA0
  rw [Try.params3] at hA hval
  obtain ⟨v0, vs0, d0, ds0, p0, q0, hargs, rfl, rfl, h0, r0⟩ := trodAll_cons hA
  obtain ⟨v1, vs1, d1, ds1, p1, q1, rfl, rfl, rfl, h1, r1⟩ := trodAll_cons r0
  obtain ⟨v2, vs2, d2, ds2, p2, q2, rfl, rfl, rfl, h2, r2⟩ := trodAll_cons r1
  obtain ⟨rfl, rfl, rfl⟩ := trodAll_nil r2
  obtain rfl : args = #[v0, v1, v2] := by cases args; simp_all
  obtain ⟨l, hl, rfl⟩ := open_intsOnly 5 Try.underlying23 rfl (by kernel_rfl) (by kernel_rfl) (hval 0 _ v0 rfl rfl) h0
  obtain ⟨n, rfl, rfl, rfl, w1⟩ := open_int Try.underlying3 (hval 1 _ v1 rfl rfl) h1
  obtain ⟨size, rfl, rfl, rfl, w2⟩ := open_int Try.underlying3 (hval 2 _ v2 rfl rfl) h2
  obtain ⟨a, b, c, d, e, rfl⟩ := five hl
  refine ((law_spec (memOf W) ⟨a, b, c, d, e⟩ n size).runs W (memOf_at W)).mono fun e W' ⟨v, M', H', he, hst, hv⟩ => ?_
  subst he
  subst hv
  exact ⟨_, rfl, law_post laidOut hW' (by kernel_rfl) rfl (st_below hst) rfl Try.underlying4 rfl⟩
theorem proved : Rows.SpaceJournalSaid :=
  OpenClaim.holds_of_wide 3 Try.f3 rfl rfl rfl rfl rfl rfl rfl ⟨rfl, rfl, rfl, rfl, rfl⟩ rfl rfl rfl rfl rfl (by kernel_rfl) Try.func3 (by kernel_rfl)
    (of_decide_eq_true (by kernel_rfl)) (by unfold Func.isWrapper; first | (rw [if_pos (by decide +kernel)]; kernel_rfl) | (rw [if_neg (by decide +kernel)]; exact ⟨rfl, rfl⟩))
    (fun os started H enc _ => lifted os started H enc)
end Go.Proofs.Ytaeeahcokiebdaa.spaceJournal
namespace Go.Proofs.Ytaeeahcokiebdaa
/-- The law on deeds that fit, in the given form. -/
theorem spaceJournal_holds : Rows.SpaceJournalSaid := spaceJournal.proved
#print axioms spaceJournal_holds
end Go.Proofs.Ytaeeahcokiebdaa
