/-
  The walk of a copy of an inode.
-/
import Derived.Test.YtaeeahcokiebdaaWk
namespace Go.Proofs.Ytaeeahcokiebdaa
set_option maxRecDepth 20000

theorem allOne_flatten (l : List (List Value)) (h : ∀ e ∈ l, allOne e = true) : allOne l.flatten = true := by
  unfold allOne at *
  rw [List.all_eq_true]
  intro v hv
  obtain ⟨e, he, hve⟩ := List.mem_flatten.1 hv
  exact List.all_eq_true.1 (h e he) v hve
theorem allOne_ents (l : List Entry) : allOne (l.map entL).flatten = true := allOne_flatten _ (by intro e he; obtain ⟨x, _, rfl⟩ := List.mem_map.1 he; rfl)
theorem allOne_runs (l : List Run) : allOne (l.map runL).flatten = true := allOne_flatten _ (by intro e he; obtain ⟨x, _, rfl⟩ := List.mem_map.1 he; rfl)
/-- An inode of a size that this program's code handles. -/
def InoOk (x : Ino) : Prop := x.ents.length ≤ 100000000 ∧ x.runs.length ≤ 100000000
/-- What a copy of an inode is. -/
def RetIno (x : Ino) (v : Value) (M : Mem) (H : Heap) : Prop := H = [] ∧ ∃ d : InoD, d.x = x ∧ v = .agg (inoDL d).toArray ∧ DOk M d
theorem own_spec (M : Mem) (d : InoD) (hd : DOk M d) (hx : InoOk d.x) : Spec Try.prog 45 [.agg (inoDL d).toArray] M [] (fun v M' H => RetIno d.x v M' H) := by
  have hlx := hd.1.2
  have hlr := hd.2.2
  rw [List.length_map] at hlx hlr
  refine Spec.of_code 12 Try.func45 rfl callable45 rfl rfl fun w => ?_
  refine C.region_seq ?_
  refine G.dyn rfl rfl rfl ?_
  refine Dyn.boxAgg rfl ?_
  intro b1
  refine G.dyn rfl rfl rfl ?_
  refine Dyn.allocAgg ?_
  intro b2
  refine G.nil ?_
  -- draws its order
  refine C.draw_seq (_) mixed (by kernel_rfl) (Incl.refl _) ?_
  refine GD.val 0 rfl rfl rfl rfl (by kernel_rfl) rfl (Sure.fieldAddr rfl) ?_
  refine GD.val 1 rfl rfl rfl rfl (by kernel_rfl) rfl (Sure.load rfl (by first | exact Rd.h0 | exact Rd.tl Rd.h0 | exact Rd.tl (Rd.tl Rd.h0) | exact Rd.tl (Rd.tl (Rd.tl Rd.h0)) | exact Rd.tl (Rd.tl (Rd.tl (Rd.tl Rd.h0))) | exact Rd.tl (Rd.tl (Rd.tl (Rd.tl (Rd.tl Rd.h0)))) | exact Rd.m (by assumption) | assumption) rfl) ?_
  refine GD.val 3 rfl rfl rfl rfl (by kernel_rfl) rfl (Sure.fieldAddr rfl) ?_
  refine GD.val 4 rfl rfl rfl rfl (by kernel_rfl) rfl (Sure.load rfl (by first | exact Rd.h0 | exact Rd.tl Rd.h0 | exact Rd.tl (Rd.tl Rd.h0) | exact Rd.tl (Rd.tl (Rd.tl Rd.h0)) | exact Rd.tl (Rd.tl (Rd.tl (Rd.tl Rd.h0))) | exact Rd.tl (Rd.tl (Rd.tl (Rd.tl (Rd.tl Rd.h0)))) | exact Rd.m (by assumption) | assumption) rfl) ?_
  refine GD.one 2 (by kernel_rfl) rfl rfl (by kernel_rfl) ?_
  refine Next.call 2 rfl rfl rfl (by kernel_rfl) (by kernel_rfl) rfl rfl rfl rfl ((cloneEnts_spec M d.pe d.ce d.x.ents.length _ hlx (allOne_ents _) (by have := hx.1; omega)).retL) (Split.nil) ?_
  rintro _ M2 _ le2 ⟨rfl, p2, c2, rfl, hs2⟩
  refine ⟨(by first | exact Incl.refl _ | exact Incl.nil _ | exact Incl.cons (by simp) (Incl.nil _) | exact Incl.cons (by simp) (Incl.cons (by simp) (Incl.nil _)) | exact Incl.cons (by simp) (Incl.cons (by simp) (Incl.cons (by simp) (Incl.nil _)))), ?_⟩
  refine GD.val 6 rfl rfl rfl rfl (by kernel_rfl) rfl (Sure.fieldAddr rfl) ?_
  refine GD.one 5 (by kernel_rfl) rfl rfl (by kernel_rfl) ?_
  refine Next.call 5 rfl rfl rfl (by kernel_rfl) (by kernel_rfl) rfl rfl rfl rfl ((cloneRuns_spec M2 d.pr d.cr d.x.runs.length _ (hlr.mono le2) (allOne_runs _) (by have := hx.2; omega)).retL) (Split.nil) ?_
  rintro _ M3 _ le3 ⟨rfl, p3, c3, rfl, hs3⟩
  refine ⟨(by first | exact Incl.refl _ | exact Incl.nil _ | exact Incl.cons (by simp) (Incl.nil _) | exact Incl.cons (by simp) (Incl.cons (by simp) (Incl.nil _)) | exact Incl.cons (by simp) (Incl.cons (by simp) (Incl.cons (by simp) (Incl.nil _)))), ?_⟩
  refine GD.one 7 (by kernel_rfl) rfl rfl (by kernel_rfl) ?_
  refine Next.dyn0W 7 rfl rfl (by kernel_rfl) (by kernel_rfl) rfl (by kernel_rfl) ?_
  refine Dyn.store rfl rfl (by first | exact Pick.here | exact Pick.there Pick.here | exact Pick.there (Pick.there Pick.here) | exact Pick.there (Pick.there (Pick.there Pick.here)) | exact Pick.there (Pick.there (Pick.there (Pick.there Pick.here))) | exact Pick.there (Pick.there (Pick.there (Pick.there (Pick.there Pick.here))))) rfl rfl ?_
  refine ⟨MLe.refl _, [], Incl.nil _, ?_⟩
  refine GD.val 8 rfl rfl rfl rfl (by kernel_rfl) rfl (Sure.fieldAddr rfl) ?_
  refine GD.one 9 (by kernel_rfl) rfl rfl (by kernel_rfl) ?_
  refine Next.dyn0W 9 rfl rfl (by kernel_rfl) (by kernel_rfl) rfl (by kernel_rfl) ?_
  refine Dyn.store rfl rfl (by first | exact Pick.here | exact Pick.there Pick.here | exact Pick.there (Pick.there Pick.here) | exact Pick.there (Pick.there (Pick.there Pick.here)) | exact Pick.there (Pick.there (Pick.there (Pick.there Pick.here))) | exact Pick.there (Pick.there (Pick.there (Pick.there (Pick.there Pick.here))))) rfl rfl ?_
  refine ⟨MLe.refl _, [], Incl.nil _, ?_⟩
  refine GD.done (by kernel_rfl) (by kernel_rfl) ?_
  refine C.region_seq ?_
  refine G.value rfl rfl rfl (Sure.loadAgg rfl (by first | exact Rd.h0 | exact Rd.tl Rd.h0 | exact Rd.tl (Rd.tl Rd.h0) | exact Rd.tl (Rd.tl (Rd.tl Rd.h0)) | exact Rd.tl (Rd.tl (Rd.tl (Rd.tl Rd.h0))) | exact Rd.tl (Rd.tl (Rd.tl (Rd.tl (Rd.tl Rd.h0)))) | exact Rd.m (by assumption) | assumption) rfl) ?_
  refine G.dyn0 rfl rfl ?_
  refine Dyn.storeAgg rfl rfl (by first | exact Pick.here | exact Pick.there Pick.here | exact Pick.there (Pick.there Pick.here) | exact Pick.there (Pick.there (Pick.there Pick.here)) | exact Pick.there (Pick.there (Pick.there (Pick.there Pick.here))) | exact Pick.there (Pick.there (Pick.there (Pick.there (Pick.there Pick.here))))) rfl rfl rfl ?_
  refine G.nil ?_
  refine C.ret ?_
  refine Fin.fn (Res.cellAgg rfl rfl (by first | exact Rd.h0 | exact Rd.tl Rd.h0 | exact Rd.tl (Rd.tl Rd.h0) | exact Rd.tl (Rd.tl (Rd.tl Rd.h0)) | exact Rd.tl (Rd.tl (Rd.tl (Rd.tl Rd.h0))) | exact Rd.tl (Rd.tl (Rd.tl (Rd.tl (Rd.tl Rd.h0)))) | exact Rd.m (by assumption) | assumption) rfl) Split.nil ⟨rfl, ⟨d.x, p2, c2, p3, c3⟩, rfl, rfl, ⟨by simp, ?_⟩, ⟨by simp, ?_⟩⟩
  · rw [List.length_map]; exact hs2.mono le3
  · rw [List.length_map]; exact hs3
end Go.Proofs.Ytaeeahcokiebdaa
