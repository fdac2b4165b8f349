/-
  The walks of room and of sureness, at a new state.
-/
import Derived.Test.YtaeeahcokiebdaaSc
namespace Go.Proofs.Ytaeeahcokiebdaa
set_option maxRecDepth 20000

abbrev roomL : List Value := [intV 96, intV 0, intV 0]
theorem staR_cases {s : StaD} (hv : s.v = staR) : ∃ (d : InoD) (pi pb : Option Addr) (ci cb : Nat), d.x = inoR ∧ s = ⟨2, [d], pi, ci, [], pb, cb⟩ := by
  obtain ⟨nx, inos, pi, ci, bad, pb, cb⟩ := s
  unfold StaD.v staR at hv
  injection hv with h1 h2 h3
  dsimp only at h1 h2 h3
  subst h1; subst h3
  cases inos with
  | nil => simp at h2
  | cons d l =>
    cases l with
    | nil => simp at h2; exact ⟨d, pi, pb, ci, cb, h2, rfl⟩
    | cons e l => simp at h2
theorem spaceOf_spec (M : Mem) (s : StaD) (hs : SOk M s) (hv : s.v = staR) : Spec Try.prog 20 [.agg (staDL s).toArray, geoV geoW] M [] (fun v _ H => v = .agg roomL.toArray ∧ H = []) := by
  obtain ⟨d, pi, pb, ci, cb, hd, rfl⟩ := staR_cases hv
  have hr : d.x.runs.length = 0 := by rw [hd]; rfl
  refine Spec.of_code 40 Try.func20 rfl callable20 rfl rfl fun w => ?_
  refine C.region_seq ?_
  refine G.dyn rfl rfl rfl ?_
  refine Dyn.boxAgg rfl ?_
  intro b2
  refine G.dyn rfl rfl rfl ?_
  refine Dyn.boxAgg rfl ?_
  intro b3
  refine G.dyn rfl rfl rfl ?_
  refine Dyn.allocAgg ?_
  intro b4
  refine G.nil ?_
  refine C.seq ?_
  refine C.region_seq ?_
  refine G.value rfl rfl rfl (Sure.loadAgg rfl (by first | exact Rd.h0 | exact Rd.tl Rd.h0 | exact Rd.tl (Rd.tl Rd.h0) | exact Rd.tl (Rd.tl (Rd.tl Rd.h0)) | exact Rd.tl (Rd.tl (Rd.tl (Rd.tl Rd.h0))) | exact Rd.tl (Rd.tl (Rd.tl (Rd.tl (Rd.tl Rd.h0)))) | exact Rd.m (by assumption) | assumption) rfl) ?_
  refine G.call rfl rfl rfl rfl rfl rfl (right_spec M geoW geoW_ok) (Split.nil) ?_
  rintro _ M1 _ le1 ⟨rfl, rfl⟩
  refine G.value rfl rfl rfl (Sure.not rfl) ?_
  refine G.nil ?_
  refine C.cond_false rfl ?_
  refine C.skip ?_
  refine Fin.th ?_
  refine C.region_seq ?_
  refine G.value rfl rfl rfl (Sure.fieldAddr rfl) ?_
  refine G.value rfl rfl rfl (Sure.load rfl (by first | exact Rd.h0 | exact Rd.tl Rd.h0 | exact Rd.tl (Rd.tl Rd.h0) | exact Rd.tl (Rd.tl (Rd.tl Rd.h0)) | exact Rd.tl (Rd.tl (Rd.tl (Rd.tl Rd.h0))) | exact Rd.tl (Rd.tl (Rd.tl (Rd.tl (Rd.tl Rd.h0)))) | exact Rd.m (by assumption) | assumption) rfl) ?_
  refine G.value rfl rfl rfl (Sure.fieldAddr rfl) ?_
  refine G.value rfl rfl rfl (Sure.load rfl (by first | exact Rd.h0 | exact Rd.tl Rd.h0 | exact Rd.tl (Rd.tl Rd.h0) | exact Rd.tl (Rd.tl (Rd.tl Rd.h0)) | exact Rd.tl (Rd.tl (Rd.tl (Rd.tl Rd.h0))) | exact Rd.tl (Rd.tl (Rd.tl (Rd.tl (Rd.tl Rd.h0)))) | exact Rd.m (by assumption) | assumption) rfl) ?_
  refine G.value rfl rfl rfl (Sure.mul rfl rfl (inK64 (by decide))) ?_
  refine G.value rfl rfl rfl (Sure.fieldAddr rfl) ?_
  refine G.value rfl rfl rfl (Sure.load rfl (by first | exact Rd.h0 | exact Rd.tl Rd.h0 | exact Rd.tl (Rd.tl Rd.h0) | exact Rd.tl (Rd.tl (Rd.tl Rd.h0)) | exact Rd.tl (Rd.tl (Rd.tl (Rd.tl Rd.h0))) | exact Rd.tl (Rd.tl (Rd.tl (Rd.tl (Rd.tl Rd.h0)))) | exact Rd.m (by assumption) | assumption) rfl) ?_
  refine G.value rfl rfl rfl (Sure.fieldAddr rfl) ?_
  refine G.value rfl rfl rfl (Sure.load rfl (by first | exact Rd.h0 | exact Rd.tl Rd.h0 | exact Rd.tl (Rd.tl Rd.h0) | exact Rd.tl (Rd.tl (Rd.tl Rd.h0)) | exact Rd.tl (Rd.tl (Rd.tl (Rd.tl Rd.h0))) | exact Rd.tl (Rd.tl (Rd.tl (Rd.tl (Rd.tl Rd.h0)))) | exact Rd.m (by assumption) | assumption) rfl) ?_
  refine G.value rfl rfl rfl (Sure.len_slice rfl) ?_
  refine G.value rfl rfl rfl (Sure.mul rfl rfl (inK64 (by show -9223372036854775808 ≤ (8 : Int) * ((0 : Nat) : Int) ∧ (8 : Int) * ((0 : Nat) : Int) ≤ 9223372036854775807; decide))) ?_
  refine G.value rfl rfl rfl (Sure.build rfl rfl) ?_
  refine G.dyn rfl rfl rfl ?_
  refine Dyn.allocAgg ?_
  intro b5
  refine G.dyn0 rfl rfl ?_
  refine Dyn.storeAgg rfl rfl (by first | exact Pick.here | exact Pick.there Pick.here | exact Pick.there (Pick.there Pick.here) | exact Pick.there (Pick.there (Pick.there Pick.here)) | exact Pick.there (Pick.there (Pick.there (Pick.there Pick.here))) | exact Pick.there (Pick.there (Pick.there (Pick.there (Pick.there Pick.here))))) rfl rfl rfl ?_
  refine G.nil ?_
  refine C.seq ?_
  refine C.region_seq ?_
  refine G.value rfl rfl rfl (Sure.fieldAddr rfl) ?_
  refine G.value rfl rfl rfl (Sure.load rfl (by first | exact Rd.h0 | exact Rd.tl Rd.h0 | exact Rd.tl (Rd.tl Rd.h0) | exact Rd.tl (Rd.tl (Rd.tl Rd.h0)) | exact Rd.tl (Rd.tl (Rd.tl (Rd.tl Rd.h0))) | exact Rd.tl (Rd.tl (Rd.tl (Rd.tl (Rd.tl Rd.h0)))) | exact Rd.m (by assumption) | assumption) rfl) ?_
  refine G.value rfl rfl rfl (Sure.len_slice rfl) ?_
  refine G.value rfl rfl rfl (Sure.move rfl) ?_
  refine G.nil ?_
  refine C.block ?_
  refine C.loop (fun k E M' H => MLe M M' ∧ ((k = 1 ∧ E = [(4, ptr b4), (5, ptr b5), (25, .slice pi 1 ci), (26, .int .i64 ((1 : Nat) : Int)), (27, .int .i64 0)]) ∨ (k = 0 ∧ E = [(4, ptr b4), (5, ptr b5), (25, .slice pi 1 ci), (26, .int .i64 ((1 : Nat) : Int)), (27, .int .i64 1)])) ∧ H = [(b5, .cells roomL), (b4, .cells [intV 0, intV 0, intV 0])]) (1) ?_ ?_
  · exact ⟨_, _, ⟨le1, .inl ⟨rfl, rfl⟩, rfl⟩, ⟨rfl, rfl, rfl, rfl, rfl, trivial⟩, _, Split.cons .here (Split.cons .here Split.nil)⟩
  · rintro k E M' H ⟨hle, (⟨rfl, rfl⟩ | ⟨rfl, rfl⟩), rfl⟩
    · skip
      refine C.region_seq ?_
      refine G.value rfl rfl rfl ((Sure.lss rfl rfl).to_t (by decide)) ?_
      obtain ⟨q', o, c, hpe, hrd, hseg⟩ := SlL.row (i := 0) (e := inoDL d) (SlL.heap (H := [(b5, .cells roomL), (b4, .cells [intV 0, intV 0, intV 0])]) (hs.1.1.mono hle)) (by simp)
      dsimp only at hpe
      subst hpe
      refine G.nil ?_
      refine C.seq ?_
      refine C.cond_true rfl ?_
      refine C.skip ?_
      refine Fin.th ?_
      refine C.seq ?_
      refine C.block ?_
      refine C.region_seq ?_
      refine G.value rfl rfl rfl (Sure.indexAddr rfl rfl (by decide)) ?_
      refine G.value rfl rfl rfl (Sure.loadAgg rfl hrd hseg) ?_
      refine G.dyn rfl rfl rfl ?_
      refine Dyn.allocAgg ?_
      intro b7
      refine G.dyn0 rfl rfl ?_
      refine Dyn.storeAgg rfl rfl (by first | exact Pick.here | exact Pick.there Pick.here | exact Pick.there (Pick.there Pick.here) | exact Pick.there (Pick.there (Pick.there Pick.here)) | exact Pick.there (Pick.there (Pick.there (Pick.there Pick.here))) | exact Pick.there (Pick.there (Pick.there (Pick.there (Pick.there Pick.here))))) rfl rfl rfl ?_
      refine G.nil ?_
      -- draws its order
      refine C.draw (_) mixed (by kernel_rfl) (Incl.refl _) ?_
      refine GD.val 0 rfl rfl rfl rfl (by kernel_rfl) rfl (Sure.fieldAddr rfl) ?_
      refine GD.val 1 rfl rfl rfl rfl (by kernel_rfl) rfl (Sure.load rfl (by first | exact Rd.h0 | exact Rd.tl Rd.h0 | exact Rd.tl (Rd.tl Rd.h0) | exact Rd.tl (Rd.tl (Rd.tl Rd.h0)) | exact Rd.tl (Rd.tl (Rd.tl (Rd.tl Rd.h0))) | exact Rd.tl (Rd.tl (Rd.tl (Rd.tl (Rd.tl Rd.h0)))) | exact Rd.m (by assumption) | assumption) rfl) ?_
      refine GD.val 2 rfl rfl rfl rfl (by kernel_rfl) rfl (Sure.fieldAddr rfl) ?_
      refine GD.val 3 rfl rfl rfl rfl (by kernel_rfl) rfl (Sure.load rfl (by first | exact Rd.h0 | exact Rd.tl Rd.h0 | exact Rd.tl (Rd.tl Rd.h0) | exact Rd.tl (Rd.tl (Rd.tl Rd.h0)) | exact Rd.tl (Rd.tl (Rd.tl (Rd.tl Rd.h0))) | exact Rd.tl (Rd.tl (Rd.tl (Rd.tl (Rd.tl Rd.h0)))) | exact Rd.m (by assumption) | assumption) rfl) ?_
      rw [hr]
      refine GD.one 4 (by kernel_rfl) rfl rfl (by kernel_rfl) ?_
      refine Next.call 4 rfl rfl rfl (by kernel_rfl) (by kernel_rfl) rfl rfl rfl rfl (runsCount_spec M' d.pr d.cr) (Split.nil) ?_
      rintro _ M2 _ le2 ⟨rfl, rfl⟩
      refine ⟨(by intro p hp; simp_all), ?_⟩
      refine GD.val 5 rfl rfl rfl rfl (by kernel_rfl) rfl (Sure.add rfl rfl (inK64 (by omega))) ?_
      refine GD.val 6 rfl rfl rfl rfl (by kernel_rfl) rfl (Sure.fieldAddr rfl) ?_
      refine GD.one 7 (by kernel_rfl) rfl rfl (by kernel_rfl) ?_
      refine Next.dyn0W 7 rfl rfl (by kernel_rfl) (by kernel_rfl) rfl (by kernel_rfl) ?_
      refine Dyn.store rfl rfl (by first | exact Pick.here | exact Pick.there Pick.here | exact Pick.there (Pick.there Pick.here) | exact Pick.there (Pick.there (Pick.there Pick.here)) | exact Pick.there (Pick.there (Pick.there (Pick.there Pick.here))) | exact Pick.there (Pick.there (Pick.there (Pick.there (Pick.there Pick.here))))) rfl rfl ?_
      refine ⟨MLe.refl _, [], Incl.nil _, ?_⟩
      refine GD.done (by kernel_rfl) (by kernel_rfl) ?_
      refine Fin.blk ?_
      refine Fin.th ?_
      refine C.region ?_
      refine G.value rfl rfl rfl (Sure.add rfl rfl (inK64 (by omega))) ?_
      refine G.value rfl rfl rfl (Sure.move rfl) ?_
      refine G.nil ?_
      refine Fin.th ?_
      exact ⟨0, _, _, by omega, ⟨hle.trans le2, .inr ⟨rfl, rfl⟩, rfl⟩, ⟨rfl, rfl, rfl, rfl, rfl, trivial⟩, _, Split.cons .here (Split.cons (.there .here) Split.nil)⟩
    · skip
      refine C.region_seq ?_
      refine G.value rfl rfl rfl ((Sure.lss rfl rfl).to_f (by decide)) ?_
      refine G.nil ?_
      refine C.seq ?_
      refine C.cond_false rfl ?_
      refine C.exit ?_
      refine Fin.th_exit ?_
      refine Fin.th_exit ?_
      refine Fin.blk_eq ?_
      refine Fin.th ?_
      refine C.region_seq ?_
      refine G.value rfl rfl rfl (Sure.loadAgg rfl (by first | exact Rd.h0 | exact Rd.tl Rd.h0 | exact Rd.tl (Rd.tl Rd.h0) | exact Rd.tl (Rd.tl (Rd.tl Rd.h0)) | exact Rd.tl (Rd.tl (Rd.tl (Rd.tl Rd.h0))) | exact Rd.tl (Rd.tl (Rd.tl (Rd.tl (Rd.tl Rd.h0)))) | exact Rd.m (by assumption) | assumption) rfl) ?_
      refine G.dyn0 rfl rfl ?_
      refine Dyn.storeAgg rfl rfl (by first | exact Pick.here | exact Pick.there Pick.here | exact Pick.there (Pick.there Pick.here) | exact Pick.there (Pick.there (Pick.there Pick.here)) | exact Pick.there (Pick.there (Pick.there (Pick.there Pick.here))) | exact Pick.there (Pick.there (Pick.there (Pick.there (Pick.there Pick.here))))) rfl rfl rfl ?_
      refine G.nil ?_
      refine C.ret ?_
      exact Fin.fn (Res.cellAgg rfl rfl (by first | exact Rd.h0 | exact Rd.tl Rd.h0 | exact Rd.tl (Rd.tl Rd.h0) | exact Rd.tl (Rd.tl (Rd.tl Rd.h0)) | exact Rd.tl (Rd.tl (Rd.tl (Rd.tl Rd.h0))) | exact Rd.tl (Rd.tl (Rd.tl (Rd.tl (Rd.tl Rd.h0)))) | exact Rd.m (by assumption) | assumption) rfl) Split.nil ⟨rfl, rfl⟩
end Go.Proofs.Ytaeeahcokiebdaa
