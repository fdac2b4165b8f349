/-
  The walks of a new state as the references have it, of wide forms, and of rounding up.
-/
import Derived.Test.YtaeeahcokiebdaaSa
namespace Go.Proofs.Ytaeeahcokiebdaa
set_option maxRecDepth 20000

theorem refInode_spec (M : Mem) : Spec Try.prog 41 [intV 1, intV 2, .string ⟨#[]⟩] M [] (fun v _ H => v = .agg (inoDL inoRD).toArray ∧ H = []) := by
  refine Spec.of_code 22 Try.func41 rfl callable41 rfl rfl fun w => ?_
  refine C.region_seq ?_
  refine G.dyn rfl rfl rfl ?_
  refine Dyn.allocAgg ?_
  intro b6
  refine G.nil ?_
  refine C.region_seq ?_
  refine G.value rfl rfl rfl (Sure.move rfl) ?_
  refine G.value rfl rfl rfl (Sure.move rfl) ?_
  refine G.value rfl rfl rfl (Sure.build rfl rfl) ?_
  refine G.dyn rfl rfl rfl ?_
  refine Dyn.allocAgg ?_
  intro b7
  refine G.dyn0 rfl rfl ?_
  refine Dyn.storeAgg rfl rfl (by first | exact Pick.here | exact Pick.there Pick.here | exact Pick.there (Pick.there Pick.here) | exact Pick.there (Pick.there (Pick.there Pick.here)) | exact Pick.there (Pick.there (Pick.there (Pick.there Pick.here))) | exact Pick.there (Pick.there (Pick.there (Pick.there (Pick.there Pick.here))))) rfl rfl rfl ?_
  refine G.nil ?_
  refine C.seq ?_
  refine C.region_seq ?_
  refine G.value rfl rfl rfl (Sure.move rfl) ?_
  refine G.value rfl rfl rfl ((Sure.eql rfl rfl).to_t (by decide)) ?_
  refine G.nil ?_
  refine C.cond_true rfl ?_
  refine C.region ?_
  refine G.value rfl rfl rfl (Sure.fieldAddr rfl) ?_
  refine G.dyn0 rfl rfl ?_
  refine Dyn.store rfl rfl (by first | exact Pick.here | exact Pick.there Pick.here | exact Pick.there (Pick.there Pick.here) | exact Pick.there (Pick.there (Pick.there Pick.here)) | exact Pick.there (Pick.there (Pick.there (Pick.there Pick.here))) | exact Pick.there (Pick.there (Pick.there (Pick.there (Pick.there Pick.here))))) rfl rfl ?_
  refine G.nil ?_
  refine Fin.th ?_
  refine C.seq ?_
  refine C.region_seq ?_
  refine G.value rfl rfl rfl (Sure.move rfl) ?_
  refine G.value rfl rfl rfl ((Sure.eql rfl rfl).to_f (by decide)) ?_
  refine G.nil ?_
  refine C.cond_false rfl ?_
  refine C.skip ?_
  refine Fin.th ?_
  refine C.region_seq ?_
  refine G.value rfl rfl rfl (Sure.loadAgg rfl (by first | exact Rd.h0 | exact Rd.tl Rd.h0 | exact Rd.tl (Rd.tl Rd.h0) | exact Rd.tl (Rd.tl (Rd.tl Rd.h0)) | exact Rd.tl (Rd.tl (Rd.tl (Rd.tl Rd.h0))) | exact Rd.tl (Rd.tl (Rd.tl (Rd.tl (Rd.tl Rd.h0)))) | exact Rd.m (by assumption) | assumption) rfl) ?_
  refine G.dyn0 rfl rfl ?_
  refine Dyn.storeAgg rfl rfl (by first | exact Pick.here | exact Pick.there Pick.here | exact Pick.there (Pick.there Pick.here) | exact Pick.there (Pick.there (Pick.there Pick.here)) | exact Pick.there (Pick.there (Pick.there (Pick.there Pick.here))) | exact Pick.there (Pick.there (Pick.there (Pick.there (Pick.there Pick.here))))) rfl rfl rfl ?_
  refine G.nil ?_
  refine C.ret ?_
  exact Fin.fn (Res.cellAgg rfl rfl (by first | exact Rd.h0 | exact Rd.tl Rd.h0 | exact Rd.tl (Rd.tl Rd.h0) | exact Rd.tl (Rd.tl (Rd.tl Rd.h0)) | exact Rd.tl (Rd.tl (Rd.tl (Rd.tl Rd.h0))) | exact Rd.tl (Rd.tl (Rd.tl (Rd.tl (Rd.tl Rd.h0)))) | exact Rd.m (by assumption) | assumption) rfl) Split.nil ⟨rfl, rfl⟩
theorem refState_spec (M : Mem) : Spec Try.prog 21 [] M [] (fun v M' H => RetSta staR v M' H) := by
  refine Spec.of_code 4 Try.func21 rfl callable21 rfl rfl fun w => ?_
  refine C.region_seq ?_
  refine G.dyn rfl rfl rfl ?_
  refine Dyn.allocAgg ?_
  intro b0
  refine G.nil ?_
  refine C.region_seq ?_
  refine G.call rfl rfl rfl rfl rfl rfl (refInode_spec M) (Split.nil) ?_
  rintro _ M1 _ le1 ⟨rfl, rfl⟩
  refine G.dyn rfl rfl rfl ?_
  refine Dyn.buildSlice rfl rfl rfl (by simp [vcl]) (by decide) ?_
  intro b2
  refine G.donate fun M2 le2 hM2 => ?_
  refine G.value rfl rfl rfl (Sure.build rfl rfl) ?_
  refine G.dyn0 rfl rfl ?_
  refine Dyn.storeAgg rfl rfl (by first | exact Pick.here | exact Pick.there Pick.here | exact Pick.there (Pick.there Pick.here) | exact Pick.there (Pick.there (Pick.there Pick.here)) | exact Pick.there (Pick.there (Pick.there (Pick.there Pick.here))) | exact Pick.there (Pick.there (Pick.there (Pick.there (Pick.there Pick.here))))) rfl rfl rfl ?_
  refine G.nil ?_
  refine C.ret ?_
  refine Fin.fn (Res.cellAgg rfl rfl (by first | exact Rd.h0 | exact Rd.tl Rd.h0 | exact Rd.tl (Rd.tl Rd.h0) | exact Rd.tl (Rd.tl (Rd.tl Rd.h0)) | exact Rd.tl (Rd.tl (Rd.tl (Rd.tl Rd.h0))) | exact Rd.tl (Rd.tl (Rd.tl (Rd.tl (Rd.tl Rd.h0)))) | exact Rd.m (by assumption) | assumption) rfl) Split.nil ⟨rfl, ⟨2, [inoRD], some ⟨b2, 0, Option.none⟩, 1, [], Option.none, 0⟩, rfl, rfl, ⟨⟨⟨?_, ?_⟩, ?_⟩, Sl.empty⟩⟩
  · intro e he; simp at he; subst he; rfl
  · exact ⟨rfl, fun _ => ⟨b2, 0, _, rfl, Rd.m hM2, rfl⟩⟩
  · intro d hd; simp at hd; subst hd; exact ⟨⟨by simp [inoR], Sl.empty⟩, ⟨by simp [inoR], Sl.empty⟩⟩
def geoW : Geo := ⟨8, 2048, 12, 8, 32⟩
theorem geoW_ok : GeoOk geoW := ⟨by decide, by decide, by decide, by decide, by decide, by decide⟩
theorem wide_spec (M : Mem) : Spec Try.prog 22 [] M [] (fun v _ H => v = geoV geoW ∧ H = []) := by
  refine Spec.of_code 2 Try.func22 rfl callable22 rfl rfl fun w => ?_
  refine C.region_seq ?_
  refine G.dyn rfl rfl rfl ?_
  refine Dyn.allocAgg ?_
  intro b0
  refine G.nil ?_
  refine C.region_seq ?_
  refine G.value rfl rfl rfl (Sure.build rfl rfl) ?_
  refine G.dyn0 rfl rfl ?_
  refine Dyn.storeAgg rfl rfl (by first | exact Pick.here | exact Pick.there Pick.here | exact Pick.there (Pick.there Pick.here) | exact Pick.there (Pick.there (Pick.there Pick.here)) | exact Pick.there (Pick.there (Pick.there (Pick.there Pick.here))) | exact Pick.there (Pick.there (Pick.there (Pick.there (Pick.there Pick.here))))) rfl rfl rfl ?_
  refine G.nil ?_
  refine C.ret ?_
  exact Fin.fn (Res.cellAgg rfl rfl (by first | exact Rd.h0 | exact Rd.tl Rd.h0 | exact Rd.tl (Rd.tl Rd.h0) | exact Rd.tl (Rd.tl (Rd.tl Rd.h0)) | exact Rd.tl (Rd.tl (Rd.tl (Rd.tl Rd.h0))) | exact Rd.tl (Rd.tl (Rd.tl (Rd.tl (Rd.tl Rd.h0)))) | exact Rd.m (by assumption) | assumption) rfl) Split.nil ⟨rfl, rfl⟩
theorem ceil_spec (M : Mem) : Spec Try.prog 42 [intV 5, intV 8] M [] (fun v _ H => v = intV 1 ∧ H = []) := by
  refine Spec.of_code 16 Try.func42 rfl callable42 rfl rfl fun w => ?_
  refine C.region_seq ?_
  refine G.value rfl rfl rfl (Sure.assign rfl) ?_
  refine G.nil ?_
  refine C.seq ?_
  refine C.region_seq ?_
  refine G.value rfl rfl rfl (Sure.move rfl) ?_
  refine G.value rfl rfl rfl ((Sure.leq rfl rfl).to_f (by decide)) ?_
  refine G.value rfl rfl rfl (Sure.move rfl) ?_
  refine G.value rfl rfl rfl (Sure.move rfl) ?_
  refine G.value rfl rfl rfl ((Sure.leq rfl rfl).to_f (by decide)) ?_
  refine G.value rfl rfl rfl (Sure.pick_false rfl rfl) ?_
  refine G.nil ?_
  refine C.cond_false rfl ?_
  refine C.skip ?_
  refine Fin.th ?_
  refine C.region_seq ?_
  refine G.value rfl rfl rfl (Sure.move rfl) ?_
  refine G.value rfl rfl rfl (Sure.sub rfl rfl (inK64 (by omega))) ?_
  refine G.value rfl rfl rfl (Sure.move rfl) ?_
  refine G.value rfl rfl rfl (Sure.quo rfl rfl (by decide) (by decide) (inK64 (by decide))) ?_
  refine G.value rfl rfl rfl (Sure.add rfl rfl (inK64 (by omega))) ?_
  refine G.value rfl rfl rfl (Sure.assign rfl) ?_
  refine G.nil ?_
  refine C.ret ?_
  exact Fin.fn (Res.tmp rfl rfl) Split.nil ⟨rfl, rfl⟩
end Go.Proofs.Ytaeeahcokiebdaa
