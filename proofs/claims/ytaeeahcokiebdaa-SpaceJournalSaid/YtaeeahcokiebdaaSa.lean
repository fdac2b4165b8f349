/-
  The walk of the question whether deeds fit.
-/
import Derived.Test.YtaeeahcokiebdaaXa
namespace Go.Proofs.Ytaeeahcokiebdaa
set_option maxRecDepth 20000

theorem spaceJournal_spec (M : Mem) (s : StaD) (g : Geo) (p : Option Addr) (cap : Nat) (dl : List DeedD) (hg : GeoOk g) (hs : SOk M s) (hk : StaOk s.v) (hd : RDeeds M p dl)
    (hdk : ∀ d ∈ dl, InoOk d.d.x) (hl : dl.length ≤ 100000) (hk2 : StaOk (applyL s.v (dl.map DeedD.v))) (hb2 : (deedsB (whole (applyL s.v (dl.map DeedD.v)))).length ≤ 10000000) :
    Spec Try.prog 9 [.agg (staDL s).toArray, geoV g, .slice p dl.length cap] M []
      (fun v _ H => H = [] ∧ v = .bool (decide ((8 : Int) + ((deedsB (whole (applyL s.v (dl.map DeedD.v)))).length : Int) + 7 ≤ (hsz g : Int)))) := by
  obtain ⟨hz, hz1, hz2, hz3⟩ := hsz_int hg
  refine Spec.of_code 20 Try.func9 rfl callable9 rfl rfl fun w => ?_
  refine C.region_seq ?_
  refine G.dyn rfl rfl rfl ?_
  refine Dyn.boxAgg rfl ?_
  intro b3
  refine G.dyn rfl rfl rfl ?_
  refine Dyn.boxAgg rfl ?_
  intro b4
  refine G.value rfl rfl rfl (Sure.assign rfl) ?_
  refine G.nil ?_
  refine C.region_seq ?_
  refine G.value rfl rfl rfl (Sure.loadAgg rfl (by first | exact Rd.h0 | exact Rd.tl Rd.h0 | exact Rd.tl (Rd.tl Rd.h0) | exact Rd.tl (Rd.tl (Rd.tl Rd.h0)) | exact Rd.tl (Rd.tl (Rd.tl (Rd.tl Rd.h0))) | exact Rd.tl (Rd.tl (Rd.tl (Rd.tl (Rd.tl Rd.h0)))) | exact Rd.m (by assumption) | assumption) rfl) ?_
  refine G.value rfl rfl rfl (Sure.move rfl) ?_
  refine G.call rfl rfl rfl rfl rfl rfl (apply_spec M s p cap dl hs hk hd hdk hl) (Split.nil) ?_
  rintro _ M3 _ le3 ⟨rfl, s', hv', rfl, hs'⟩
  rw [← hv'] at hk2 hb2 ⊢
  refine G.call rfl rfl rfl rfl rfl rfl (whole_spec M3 s' hs' hk2) (Split.nil) ?_
  rintro _ M4 _ le4 ⟨rfl, dw, p4, c4, rfl, hdw, hdv⟩
  refine G.call rfl rfl rfl rfl rfl rfl (deeds_spec M4 p4 c4 dw hdw (by rw [hdv]; exact hb2)) (Split.nil) ?_
  rintro _ M5 _ le5 ⟨rfl, p5, c5, rfl, hs5⟩
  rw [hdv]
  refine G.value rfl rfl rfl (Sure.len_slice rfl) ?_
  refine G.value rfl rfl rfl (Sure.add rfl rfl (inK64 (by omega))) ?_
  refine G.value rfl rfl rfl (Sure.assign rfl) ?_
  refine G.nil ?_
  -- draws its order
  refine C.draw_seq (_) mixed (by kernel_rfl) (Incl.refl _) ?_
  refine GD.val 0 rfl rfl rfl rfl (by kernel_rfl) rfl (Sure.move rfl) ?_
  refine GD.val 2 rfl rfl rfl rfl (by kernel_rfl) rfl (Sure.loadAgg rfl (by first | exact Rd.h0 | exact Rd.tl Rd.h0 | exact Rd.tl (Rd.tl Rd.h0) | exact Rd.tl (Rd.tl (Rd.tl Rd.h0)) | exact Rd.tl (Rd.tl (Rd.tl (Rd.tl Rd.h0))) | exact Rd.tl (Rd.tl (Rd.tl (Rd.tl (Rd.tl Rd.h0)))) | exact Rd.m (by assumption) | assumption) rfl) ?_
  refine GD.one 1 (by kernel_rfl) rfl rfl (by kernel_rfl) ?_
  refine Next.call 1 rfl rfl rfl (by kernel_rfl) (by kernel_rfl) rfl rfl rfl rfl (size_spec M5 (8 + (deedsB (whole s'.v)).length) (by omega)) (Split.nil) ?_
  rintro _ M6 _ le6 ⟨rfl, rfl⟩
  refine ⟨(by intro p hp; simp_all), ?_⟩
  refine GD.one 3 (by kernel_rfl) rfl rfl (by kernel_rfl) ?_
  refine Next.call 3 rfl rfl rfl (by kernel_rfl) (by kernel_rfl) rfl rfl rfl rfl (half_size_spec M6 g hg) (Split.nil) ?_
  rintro _ M7 _ le7 ⟨rfl, rfl⟩
  refine ⟨(by intro p hp; simp_all), ?_⟩
  rw [← hz]
  refine GD.val 4 rfl rfl rfl rfl (by kernel_rfl) rfl (Sure.leq rfl rfl) ?_
  refine GD.one 5 (by kernel_rfl) rfl rfl (by kernel_rfl) ?_
  refine Next.dyn 5 rfl rfl rfl (by kernel_rfl) (by kernel_rfl) rfl (Dyn.assign rfl ?_)
  refine ⟨MLe.refl _, (by first | exact Incl.refl _ | exact Incl.nil _ | exact Incl.cons (by simp) (Incl.nil _) | exact Incl.cons (by simp) (Incl.cons (by simp) (Incl.nil _)) | exact Incl.cons (by simp) (Incl.cons (by simp) (Incl.cons (by simp) (Incl.nil _)))), ?_⟩
  refine GD.done (by kernel_rfl) (by kernel_rfl) ?_
  refine C.ret ?_
  exact Fin.fn (Res.tmp rfl rfl) Split.nil ⟨rfl, rfl⟩
end Go.Proofs.Ytaeeahcokiebdaa
