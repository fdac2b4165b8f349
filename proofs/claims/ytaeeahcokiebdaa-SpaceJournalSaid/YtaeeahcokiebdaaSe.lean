/-
  The walks of sureness at a new state, and of what the laws ask first.
-/
import Derived.Test.YtaeeahcokiebdaaSd
namespace Go.Proofs.Ytaeeahcokiebdaa
set_option maxRecDepth 20000

theorem spaceSure_spec (M : Mem) (s : StaD) (hs : SOk M s) (hv : s.v = staR) : Spec Try.prog 23 [.agg (staDL s).toArray, geoV geoW, intV 5] M [] (fun v _ H => v = .bool true ∧ H = []) := by
  have hb : s.bad.length = 0 := by obtain ⟨d, pi, pb, ci, cb, hd, rfl⟩ := staR_cases hv; rfl
  have hW : geoW.blocks = 12 := rfl
  have hP : geoW.pages = 8 := rfl
  refine Spec.of_code 41 Try.func23 rfl callable23 rfl rfl fun w => ?_
  refine C.region_seq ?_
  refine G.dyn rfl rfl rfl ?_
  refine Dyn.boxAgg rfl ?_
  intro b3
  refine G.dyn rfl rfl rfl ?_
  refine Dyn.boxAgg rfl ?_
  intro b4
  refine G.value rfl rfl rfl (Sure.assign rfl) ?_
  refine G.nil ?_
  refine C.region_seq ?_
  refine G.value rfl rfl rfl (Sure.fieldAddr rfl) ?_
  refine G.value rfl rfl rfl (Sure.load rfl (by first | exact Rd.h0 | exact Rd.tl Rd.h0 | exact Rd.tl (Rd.tl Rd.h0) | exact Rd.tl (Rd.tl (Rd.tl Rd.h0)) | exact Rd.tl (Rd.tl (Rd.tl (Rd.tl Rd.h0))) | exact Rd.tl (Rd.tl (Rd.tl (Rd.tl (Rd.tl Rd.h0)))) | exact Rd.m (by assumption) | assumption) rfl) ?_
  refine G.value rfl rfl rfl (Sure.fieldAddr rfl) ?_
  refine G.value rfl rfl rfl (Sure.load rfl (by first | exact Rd.h0 | exact Rd.tl Rd.h0 | exact Rd.tl (Rd.tl Rd.h0) | exact Rd.tl (Rd.tl (Rd.tl Rd.h0)) | exact Rd.tl (Rd.tl (Rd.tl (Rd.tl Rd.h0))) | exact Rd.tl (Rd.tl (Rd.tl (Rd.tl (Rd.tl Rd.h0)))) | exact Rd.m (by assumption) | assumption) rfl) ?_
  rw [hb]
  refine G.value rfl rfl rfl (Sure.len_slice rfl) ?_
  refine G.value rfl rfl rfl (Sure.sub rfl rfl (inK64 (by omega))) ?_
  refine G.value rfl rfl rfl (Sure.assign rfl) ?_
  refine G.nil ?_
  -- draws its order
  refine C.draw_seq (_) mixed (by kernel_rfl) (Incl.refl _) ?_
  refine GD.val 0 rfl rfl rfl rfl (by kernel_rfl) rfl (Sure.loadAgg rfl (by first | exact Rd.h0 | exact Rd.tl Rd.h0 | exact Rd.tl (Rd.tl Rd.h0) | exact Rd.tl (Rd.tl (Rd.tl Rd.h0)) | exact Rd.tl (Rd.tl (Rd.tl (Rd.tl Rd.h0))) | exact Rd.tl (Rd.tl (Rd.tl (Rd.tl (Rd.tl Rd.h0)))) | exact Rd.m (by assumption) | assumption) rfl) ?_
  refine GD.one 1 (by kernel_rfl) rfl rfl (by kernel_rfl) ?_
  refine Next.call 1 rfl rfl rfl (by kernel_rfl) (by kernel_rfl) rfl rfl rfl rfl (right_spec M geoW geoW_ok) (Split.nil) ?_
  rintro _ M1 _ le1 ⟨rfl, rfl⟩
  refine ⟨(by intro p hp; simp_all), ?_⟩
  refine GD.val 2 rfl rfl rfl rfl (by kernel_rfl) rfl (Sure.move rfl) ?_
  refine GD.val 3 rfl rfl rfl rfl (by kernel_rfl) rfl (Sure.move rfl) ?_
  refine GD.val 4 rfl rfl rfl rfl (by kernel_rfl) rfl ((Sure.geq rfl rfl).to_t (by decide)) ?_
  refine GD.val 5 rfl rfl rfl rfl (by kernel_rfl) rfl (Sure.pick_true rfl rfl) ?_
  refine GD.val 6 rfl rfl rfl rfl (by kernel_rfl) rfl (Sure.move rfl) ?_
  refine GD.val 7 rfl rfl rfl rfl (by kernel_rfl) rfl (Sure.move rfl) ?_
  refine GD.val 8 rfl rfl rfl rfl (by kernel_rfl) rfl ((Sure.leq rfl rfl).to_t (by decide)) ?_
  refine GD.val 9 rfl rfl rfl rfl (by kernel_rfl) rfl (Sure.pick_true rfl rfl) ?_
  refine GD.val 10 rfl rfl rfl rfl (by kernel_rfl) rfl (Sure.move rfl) ?_
  refine GD.val 11 rfl rfl rfl rfl (by kernel_rfl) rfl (Sure.loadAgg rfl (by first | exact Rd.h0 | exact Rd.tl Rd.h0 | exact Rd.tl (Rd.tl Rd.h0) | exact Rd.tl (Rd.tl (Rd.tl Rd.h0)) | exact Rd.tl (Rd.tl (Rd.tl (Rd.tl Rd.h0))) | exact Rd.tl (Rd.tl (Rd.tl (Rd.tl (Rd.tl Rd.h0)))) | exact Rd.m (by assumption) | assumption) rfl) ?_
  refine GD.val 12 rfl rfl rfl rfl (by kernel_rfl) rfl (Sure.loadAgg rfl (by first | exact Rd.h0 | exact Rd.tl Rd.h0 | exact Rd.tl (Rd.tl Rd.h0) | exact Rd.tl (Rd.tl (Rd.tl Rd.h0)) | exact Rd.tl (Rd.tl (Rd.tl (Rd.tl Rd.h0))) | exact Rd.tl (Rd.tl (Rd.tl (Rd.tl (Rd.tl Rd.h0)))) | exact Rd.m (by assumption) | assumption) rfl) ?_
  refine GD.val 15 rfl rfl rfl rfl (by kernel_rfl) rfl (Sure.fieldAddr rfl) ?_
  refine GD.val 16 rfl rfl rfl rfl (by kernel_rfl) rfl (Sure.load rfl (by first | exact Rd.h0 | exact Rd.tl Rd.h0 | exact Rd.tl (Rd.tl Rd.h0) | exact Rd.tl (Rd.tl (Rd.tl Rd.h0)) | exact Rd.tl (Rd.tl (Rd.tl (Rd.tl Rd.h0))) | exact Rd.tl (Rd.tl (Rd.tl (Rd.tl (Rd.tl Rd.h0)))) | exact Rd.m (by assumption) | assumption) rfl) ?_
  refine GD.val 17 rfl rfl rfl rfl (by kernel_rfl) rfl (Sure.move rfl) ?_
  refine GD.val 18 rfl rfl rfl rfl (by kernel_rfl) rfl (Sure.sub rfl rfl (inK64 (by omega))) ?_
  refine GD.val 19 rfl rfl rfl rfl (by kernel_rfl) rfl (Sure.move rfl) ?_
  refine GD.val 20 rfl rfl rfl rfl (by kernel_rfl) rfl (Sure.fieldAddr rfl) ?_
  refine GD.val 21 rfl rfl rfl rfl (by kernel_rfl) rfl (Sure.load rfl (by first | exact Rd.h0 | exact Rd.tl Rd.h0 | exact Rd.tl (Rd.tl Rd.h0) | exact Rd.tl (Rd.tl (Rd.tl Rd.h0)) | exact Rd.tl (Rd.tl (Rd.tl (Rd.tl Rd.h0))) | exact Rd.tl (Rd.tl (Rd.tl (Rd.tl (Rd.tl Rd.h0)))) | exact Rd.m (by assumption) | assumption) rfl) ?_
  refine GD.one 13 (by kernel_rfl) rfl rfl (by kernel_rfl) ?_
  refine Next.call 13 rfl rfl rfl (by kernel_rfl) (by kernel_rfl) rfl rfl rfl rfl (spaceOf_spec M1 s (hs.mono le1) hv) (Split.nil) ?_
  rintro _ M2 _ le2 ⟨rfl, rfl⟩
  refine ⟨(by intro p hp; simp_all), ?_⟩
  refine GD.val 14 rfl rfl rfl rfl (by kernel_rfl) rfl (Sure.field rfl rfl) ?_
  refine GD.one 22 (by kernel_rfl) rfl rfl (by kernel_rfl) ?_
  refine Next.call 22 rfl rfl rfl (by kernel_rfl) (by kernel_rfl) rfl rfl rfl rfl (ceil_spec M2) (Split.nil) ?_
  rintro _ M3 _ le3 ⟨rfl, rfl⟩
  refine ⟨(by intro p hp; simp_all), ?_⟩
  refine GD.val 23 rfl rfl rfl rfl (by kernel_rfl) rfl (Sure.sub rfl rfl (inK64 (by omega))) ?_
  refine GD.val 24 rfl rfl rfl rfl (by kernel_rfl) rfl (Sure.mul rfl rfl (inK64 (by show -9223372036854775808 ≤ (8 : Int) * ((12 : Int) - ((0 : Nat) : Int) - 2 - 1) ∧ (8 : Int) * ((12 : Int) - ((0 : Nat) : Int) - 2 - 1) ≤ 9223372036854775807; decide))) ?_
  refine GD.val 25 rfl rfl rfl rfl (by kernel_rfl) rfl ((Sure.lss rfl rfl).to_t (by show (0 : Int) < (8 : Int) * ((12 : Int) - ((0 : Nat) : Int) - 2 - 1); decide)) ?_
  refine GD.val 26 rfl rfl rfl rfl (by kernel_rfl) rfl (Sure.pick_true rfl rfl) ?_
  refine GD.one 27 (by kernel_rfl) rfl rfl (by kernel_rfl) ?_
  refine Next.dyn 27 rfl rfl rfl (by kernel_rfl) (by kernel_rfl) rfl (Dyn.assign rfl ?_)
  refine ⟨MLe.refl _, (by first | exact Incl.refl _ | exact Incl.nil _ | exact Incl.cons (by simp) (Incl.nil _) | exact Incl.cons (by simp) (Incl.cons (by simp) (Incl.nil _)) | exact Incl.cons (by simp) (Incl.cons (by simp) (Incl.cons (by simp) (Incl.nil _)))), ?_⟩
  refine GD.done (by kernel_rfl) (by kernel_rfl) ?_
  refine C.ret ?_
  exact Fin.fn (Res.tmp rfl rfl) Split.nil ⟨rfl, rfl⟩
theorem awake_spec (M : Mem) : Spec Try.prog 8 [] M [] (fun v _ H => v = .bool true ∧ H = []) := by
  obtain ⟨hl1, hl2⟩ := firstR_len
  have hz : hsz geoW = 8192 := rfl
  refine Spec.of_code 23 Try.func8 rfl callable8 rfl rfl fun w => ?_
  refine C.region_seq ?_
  refine G.value rfl rfl rfl (Sure.assign rfl) ?_
  refine G.nil ?_
  refine C.region_seq ?_
  refine G.call rfl rfl rfl rfl rfl rfl (refState_spec M) (Split.nil) ?_
  rintro _ M1 _ le1 ⟨rfl, s1, hv1, rfl, hs1⟩
  refine G.call rfl rfl rfl rfl rfl rfl (wide_spec M1) (Split.nil) ?_
  rintro _ M2 _ le2 ⟨rfl, rfl⟩
  refine G.call rfl rfl rfl rfl rfl rfl (spaceOf_spec M2 s1 (hs1.mono le2) hv1) (Split.nil) ?_
  rintro _ M3 _ le3 ⟨rfl, rfl⟩
  refine G.dyn rfl rfl rfl ?_
  refine Dyn.allocAgg ?_
  intro b1
  refine G.dyn0 rfl rfl ?_
  refine Dyn.storeAgg rfl rfl (by first | exact Pick.here | exact Pick.there Pick.here | exact Pick.there (Pick.there Pick.here) | exact Pick.there (Pick.there (Pick.there Pick.here)) | exact Pick.there (Pick.there (Pick.there (Pick.there Pick.here))) | exact Pick.there (Pick.there (Pick.there (Pick.there (Pick.there Pick.here))))) rfl rfl rfl ?_
  refine G.nil ?_
  refine C.region_seq ?_
  refine G.value rfl rfl rfl (Sure.fieldAddr rfl) ?_
  refine G.value rfl rfl rfl (Sure.load rfl (by first | exact Rd.h0 | exact Rd.tl Rd.h0 | exact Rd.tl (Rd.tl Rd.h0) | exact Rd.tl (Rd.tl (Rd.tl Rd.h0)) | exact Rd.tl (Rd.tl (Rd.tl (Rd.tl Rd.h0))) | exact Rd.tl (Rd.tl (Rd.tl (Rd.tl (Rd.tl Rd.h0)))) | exact Rd.m (by assumption) | assumption) rfl) ?_
  refine G.value rfl rfl rfl ((Sure.eql rfl rfl).to_t (by decide)) ?_
  refine G.value rfl rfl rfl (Sure.move rfl) ?_
  refine G.value rfl rfl rfl (Sure.fieldAddr rfl) ?_
  refine G.value rfl rfl rfl (Sure.load rfl (by first | exact Rd.h0 | exact Rd.tl Rd.h0 | exact Rd.tl (Rd.tl Rd.h0) | exact Rd.tl (Rd.tl (Rd.tl Rd.h0)) | exact Rd.tl (Rd.tl (Rd.tl (Rd.tl Rd.h0))) | exact Rd.tl (Rd.tl (Rd.tl (Rd.tl (Rd.tl Rd.h0)))) | exact Rd.m (by assumption) | assumption) rfl) ?_
  refine G.value rfl rfl rfl ((Sure.eql rfl rfl).to_t (by decide)) ?_
  refine G.value rfl rfl rfl (Sure.pick_true rfl rfl) ?_
  refine G.value rfl rfl rfl (Sure.move rfl) ?_
  refine G.call rfl rfl rfl rfl rfl rfl (refState_spec M3) (Split.nil) ?_
  rintro _ M4 _ le4 ⟨rfl, s2, hv2, rfl, hs2⟩
  refine G.call rfl rfl rfl rfl rfl rfl (wide_spec M4) (Split.nil) ?_
  rintro _ M5 _ le5 ⟨rfl, rfl⟩
  refine G.call rfl rfl rfl rfl rfl rfl (spaceSure_spec M5 s2 (hs2.mono le5) hv2) (Split.nil) ?_
  rintro _ M6 _ le6 ⟨rfl, rfl⟩
  refine G.value rfl rfl rfl (Sure.pick_true rfl rfl) ?_
  refine G.value rfl rfl rfl (Sure.move rfl) ?_
  refine G.call rfl rfl rfl rfl rfl rfl (refState_spec M6) (Split.nil) ?_
  rintro _ M7 _ le7 ⟨rfl, s3, hv3, rfl, hs3⟩
  refine G.call rfl rfl rfl rfl rfl rfl (wide_spec M7) (Split.nil) ?_
  rintro _ M8 _ le8 ⟨rfl, rfl⟩
  have hap : applyL s3.v [] = staR := hv3
  refine G.call rfl rfl rfl rfl rfl rfl (spaceJournal_spec M8 s3 geoW Option.none 0 [] geoW_ok (hs3.mono le8) (by rw [hv3]; exact staR_ok) ⟨⟨by simp, Sl.empty⟩, by simp⟩ (by simp) (by simp) (by show StaOk (applyL s3.v []); rw [hap]; exact staR_ok) (by show (deedsB (whole (applyL s3.v []))).length ≤ _; rw [hap]; omega)) (Split.nil) ?_
  rintro _ M9 _ le9 ⟨rfl, rfl⟩
  have hok : (8 : Int) + ((deedsB (whole (applyL s3.v (([] : List DeedD).map DeedD.v)))).length : Int) + 7 ≤ (hsz geoW : Int) := by
    show (8 : Int) + ((deedsB (whole (applyL s3.v []))).length : Int) + 7 ≤ _
    rw [hap]; omega
  rw [decide_eq_true hok]
  refine G.value rfl rfl rfl (Sure.pick_true rfl rfl) ?_
  refine G.value rfl rfl rfl (Sure.assign rfl) ?_
  refine G.nil ?_
  refine C.ret ?_
  exact Fin.fn (Res.tmp rfl rfl) Split.nil ⟨rfl, rfl⟩
end Go.Proofs.Ytaeeahcokiebdaa
