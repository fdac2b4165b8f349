/-
  The walks of the small functions of chips' forms.
  Conditions: the arguments are as each theorem says.
-/
import Derived.Test.YtaeeahcokiebdaaTy
namespace Go.Proofs.Ytaeeahcokiebdaa
set_option maxRecDepth 20000

structure Geo where
  sectors : Int
  sector : Int
  blocks : Int
  pages : Int
  page : Int
abbrev geoL (g : Geo) : List Value := [.int .i64 g.sectors, .int .i64 g.sector, .int .i64 g.blocks, .int .i64 g.pages, .int .i64 g.page]
abbrev geoV (g : Geo) : Value := .agg (geoL g).toArray
structure GeoOk (g : Geo) : Prop where
  even : g.sectors % 2 = 0
  s : 2 ≤ g.sectors ∧ g.sectors ≤ 16
  z : 256 ≤ g.sector ∧ g.sector ≤ 4096
  b : 4 ≤ g.blocks ∧ g.blocks ≤ 64
  p : 2 ≤ g.pages ∧ g.pages ≤ 32
  y : 16 ≤ g.page ∧ g.page ≤ 256

theorem mod_spec (M : Mem) (v n : Int) (h : 0 < n ∧ n ≤ 100) : Spec Try.prog 12 [.int .i64 v, .int .i64 n] M [] (fun r _ H => H = [] ∧ ∃ k : Int, r = .int .i64 k ∧ 0 ≤ k ∧ k < n) := by
  have hm : 0 ≤ IntKind.u64.wrap v := by simp [IntKind.wrap, IntKind.bits, IntKind.signed]; omega
  have h1 := Int.emod_nonneg (IntKind.u64.wrap v) (show n ≠ 0 by omega)
  have h2 := Int.emod_lt_of_pos (IntKind.u64.wrap v) h.1
  refine Spec.of_code 11 Try.func12 rfl callable12 rfl rfl fun w => ?_
  refine C.region_seq ?_
  refine G.value rfl rfl rfl (Sure.assign rfl) ?_
  refine G.nil ?_
  refine C.region_seq ?_
  refine G.value rfl rfl rfl (Sure.move rfl) ?_
  refine G.value rfl rfl rfl (Sure.conv' rfl) ?_
  refine G.value rfl rfl rfl (Sure.move rfl) ?_
  refine G.value rfl rfl rfl (Sure.conv rfl (inKu64 (by omega))) ?_
  refine G.value rfl rfl rfl (Sure.rem rfl rfl hm h.1) ?_
  refine G.value rfl rfl rfl (Sure.conv rfl (inK64 (by omega))) ?_
  refine G.value rfl rfl rfl (Sure.assign rfl) ?_
  refine G.nil ?_
  refine C.ret ?_
  exact Fin.fn (Res.tmp rfl rfl) Split.nil ⟨rfl, _, rfl, h1, h2⟩

theorem geometry_spec (M : Mem) (g : Geo) : Spec Try.prog 4 [geoV g] M [] (fun r _ H => H = [] ∧ ∃ g', r = geoV g' ∧ GeoOk g' ∧ g'.sector ≤ 1000 ∧ g'.sectors ≤ 6) := by
  refine Spec.of_code 27 Try.func4 rfl callable4 rfl rfl fun w => ?_
  refine C.region_seq ?_
  refine G.dyn rfl rfl rfl ?_
  refine Dyn.boxAgg rfl ?_
  intro b1
  refine G.dyn rfl rfl rfl ?_
  refine Dyn.allocAgg ?_
  intro b2
  refine G.nil ?_
  -- draws its order
  refine C.draw_seq (_) mixed (by kernel_rfl) (Incl.refl _) ?_
  refine GD.val 0 rfl rfl rfl rfl (by kernel_rfl) rfl (Sure.fieldAddr rfl) ?_
  refine GD.val 1 rfl rfl rfl rfl (by kernel_rfl) rfl (Sure.load rfl (by first | exact Rd.h0 | exact Rd.tl Rd.h0 | exact Rd.tl (Rd.tl Rd.h0) | exact Rd.tl (Rd.tl (Rd.tl Rd.h0)) | exact Rd.tl (Rd.tl (Rd.tl (Rd.tl Rd.h0))) | exact Rd.tl (Rd.tl (Rd.tl (Rd.tl (Rd.tl Rd.h0)))) | exact Rd.m (by assumption) | assumption) rfl) ?_
  refine GD.val 5 rfl rfl rfl rfl (by kernel_rfl) rfl (Sure.fieldAddr rfl) ?_
  refine GD.val 6 rfl rfl rfl rfl (by kernel_rfl) rfl (Sure.load rfl (by first | exact Rd.h0 | exact Rd.tl Rd.h0 | exact Rd.tl (Rd.tl Rd.h0) | exact Rd.tl (Rd.tl (Rd.tl Rd.h0)) | exact Rd.tl (Rd.tl (Rd.tl (Rd.tl Rd.h0))) | exact Rd.tl (Rd.tl (Rd.tl (Rd.tl (Rd.tl Rd.h0)))) | exact Rd.m (by assumption) | assumption) rfl) ?_
  refine GD.val 10 rfl rfl rfl rfl (by kernel_rfl) rfl (Sure.fieldAddr rfl) ?_
  refine GD.val 11 rfl rfl rfl rfl (by kernel_rfl) rfl (Sure.load rfl (by first | exact Rd.h0 | exact Rd.tl Rd.h0 | exact Rd.tl (Rd.tl Rd.h0) | exact Rd.tl (Rd.tl (Rd.tl Rd.h0)) | exact Rd.tl (Rd.tl (Rd.tl (Rd.tl Rd.h0))) | exact Rd.tl (Rd.tl (Rd.tl (Rd.tl (Rd.tl Rd.h0)))) | exact Rd.m (by assumption) | assumption) rfl) ?_
  refine GD.val 14 rfl rfl rfl rfl (by kernel_rfl) rfl (Sure.fieldAddr rfl) ?_
  refine GD.val 15 rfl rfl rfl rfl (by kernel_rfl) rfl (Sure.load rfl (by first | exact Rd.h0 | exact Rd.tl Rd.h0 | exact Rd.tl (Rd.tl Rd.h0) | exact Rd.tl (Rd.tl (Rd.tl Rd.h0)) | exact Rd.tl (Rd.tl (Rd.tl (Rd.tl Rd.h0))) | exact Rd.tl (Rd.tl (Rd.tl (Rd.tl (Rd.tl Rd.h0)))) | exact Rd.m (by assumption) | assumption) rfl) ?_
  refine GD.val 18 rfl rfl rfl rfl (by kernel_rfl) rfl (Sure.fieldAddr rfl) ?_
  refine GD.val 19 rfl rfl rfl rfl (by kernel_rfl) rfl (Sure.load rfl (by first | exact Rd.h0 | exact Rd.tl Rd.h0 | exact Rd.tl (Rd.tl Rd.h0) | exact Rd.tl (Rd.tl (Rd.tl Rd.h0)) | exact Rd.tl (Rd.tl (Rd.tl (Rd.tl Rd.h0))) | exact Rd.tl (Rd.tl (Rd.tl (Rd.tl (Rd.tl Rd.h0)))) | exact Rd.m (by assumption) | assumption) rfl) ?_
  refine GD.one 2 (by kernel_rfl) rfl rfl (by kernel_rfl) ?_
  refine Next.call 2 rfl rfl rfl (by kernel_rfl) (by kernel_rfl) rfl rfl rfl rfl (mod_spec _ _ _ (by omega)) (Split.nil) ?_
  rintro _ M1 _ le1 ⟨rfl, k1, rfl, l1, u1⟩
  refine ⟨(by first | exact Incl.refl _ | exact Incl.nil _ | exact Incl.cons (by simp) (Incl.nil _) | exact Incl.cons (by simp) (Incl.cons (by simp) (Incl.nil _)) | exact Incl.cons (by simp) (Incl.cons (by simp) (Incl.cons (by simp) (Incl.nil _)))), ?_⟩
  refine GD.val 3 rfl rfl rfl rfl (by kernel_rfl) rfl (Sure.mul rfl rfl (inK64 (by omega))) ?_
  refine GD.val 4 rfl rfl rfl rfl (by kernel_rfl) rfl (Sure.add rfl rfl (inK64 (by omega))) ?_
  refine GD.one 7 (by kernel_rfl) rfl rfl (by kernel_rfl) ?_
  refine Next.call 7 rfl rfl rfl (by kernel_rfl) (by kernel_rfl) rfl rfl rfl rfl (mod_spec _ _ _ (by omega)) (Split.nil) ?_
  rintro _ M2 _ le2 ⟨rfl, k2, rfl, l2, u2⟩
  refine ⟨(by first | exact Incl.refl _ | exact Incl.nil _ | exact Incl.cons (by simp) (Incl.nil _) | exact Incl.cons (by simp) (Incl.cons (by simp) (Incl.nil _)) | exact Incl.cons (by simp) (Incl.cons (by simp) (Incl.cons (by simp) (Incl.nil _)))), ?_⟩
  refine GD.val 8 rfl rfl rfl rfl (by kernel_rfl) rfl (Sure.mul rfl rfl (inK64 (by omega))) ?_
  refine GD.val 9 rfl rfl rfl rfl (by kernel_rfl) rfl (Sure.add rfl rfl (inK64 (by omega))) ?_
  refine GD.one 12 (by kernel_rfl) rfl rfl (by kernel_rfl) ?_
  refine Next.call 12 rfl rfl rfl (by kernel_rfl) (by kernel_rfl) rfl rfl rfl rfl (mod_spec _ _ _ (by omega)) (Split.nil) ?_
  rintro _ M3 _ le3 ⟨rfl, k3, rfl, l3, u3⟩
  refine ⟨(by first | exact Incl.refl _ | exact Incl.nil _ | exact Incl.cons (by simp) (Incl.nil _) | exact Incl.cons (by simp) (Incl.cons (by simp) (Incl.nil _)) | exact Incl.cons (by simp) (Incl.cons (by simp) (Incl.cons (by simp) (Incl.nil _)))), ?_⟩
  refine GD.val 13 rfl rfl rfl rfl (by kernel_rfl) rfl (Sure.add rfl rfl (inK64 (by omega))) ?_
  refine GD.one 16 (by kernel_rfl) rfl rfl (by kernel_rfl) ?_
  refine Next.call 16 rfl rfl rfl (by kernel_rfl) (by kernel_rfl) rfl rfl rfl rfl (mod_spec _ _ _ (by omega)) (Split.nil) ?_
  rintro _ M4 _ le4 ⟨rfl, k4, rfl, l4, u4⟩
  refine ⟨(by first | exact Incl.refl _ | exact Incl.nil _ | exact Incl.cons (by simp) (Incl.nil _) | exact Incl.cons (by simp) (Incl.cons (by simp) (Incl.nil _)) | exact Incl.cons (by simp) (Incl.cons (by simp) (Incl.cons (by simp) (Incl.nil _)))), ?_⟩
  refine GD.val 17 rfl rfl rfl rfl (by kernel_rfl) rfl (Sure.add rfl rfl (inK64 (by omega))) ?_
  refine GD.one 20 (by kernel_rfl) rfl rfl (by kernel_rfl) ?_
  refine Next.call 20 rfl rfl rfl (by kernel_rfl) (by kernel_rfl) rfl rfl rfl rfl (mod_spec _ _ _ (by omega)) (Split.nil) ?_
  rintro _ M5 _ le5 ⟨rfl, k5, rfl, l5, u5⟩
  refine ⟨(by first | exact Incl.refl _ | exact Incl.nil _ | exact Incl.cons (by simp) (Incl.nil _) | exact Incl.cons (by simp) (Incl.cons (by simp) (Incl.nil _)) | exact Incl.cons (by simp) (Incl.cons (by simp) (Incl.cons (by simp) (Incl.nil _)))), ?_⟩
  refine GD.val 21 rfl rfl rfl rfl (by kernel_rfl) rfl (Sure.mul rfl rfl (inK64 (by omega))) ?_
  refine GD.val 22 rfl rfl rfl rfl (by kernel_rfl) rfl (Sure.add rfl rfl (inK64 (by omega))) ?_
  refine GD.val 23 rfl rfl rfl rfl (by kernel_rfl) rfl (Sure.build rfl rfl) ?_
  refine GD.one 24 (by kernel_rfl) rfl rfl (by kernel_rfl) ?_
  refine Next.dyn0W 24 rfl rfl (by kernel_rfl) (by kernel_rfl) rfl (by kernel_rfl) ?_
  refine Dyn.storeAgg rfl rfl (by first | exact Pick.here | exact Pick.there Pick.here | exact Pick.there (Pick.there Pick.here) | exact Pick.there (Pick.there (Pick.there Pick.here)) | exact Pick.there (Pick.there (Pick.there (Pick.there Pick.here))) | exact Pick.there (Pick.there (Pick.there (Pick.there (Pick.there Pick.here))))) rfl rfl rfl ?_
  refine ⟨MLe.refl _, [], Incl.nil _, ?_⟩
  refine GD.done (by kernel_rfl) (by kernel_rfl) ?_
  refine C.ret ?_
  exact Fin.fn (Res.cellAgg rfl rfl (by first | exact Rd.h0 | exact Rd.tl Rd.h0 | exact Rd.tl (Rd.tl Rd.h0) | exact Rd.tl (Rd.tl (Rd.tl Rd.h0)) | exact Rd.tl (Rd.tl (Rd.tl (Rd.tl Rd.h0))) | exact Rd.tl (Rd.tl (Rd.tl (Rd.tl (Rd.tl Rd.h0)))) | exact Rd.m (by assumption) | assumption) rfl) Split.nil ⟨rfl, ⟨2 + 2 * k1, 256 + 64 * k2, 4 + k3, 2 + k4, 16 + 4 * k5⟩, rfl, ⟨by dsimp only; omega, by dsimp only; omega, by dsimp only; omega, by dsimp only; omega, by dsimp only; omega, by dsimp only; omega⟩, by dsimp only; omega, by dsimp only; omega⟩
theorem within_spec (M : Mem) (v l t : Int) (h : l ≤ v ∧ v ≤ t) : Spec Try.prog 30 [.int .i64 v, .int .i64 l, .int .i64 t] M [] (fun r _ H => H = [] ∧ r = .bool true) := by
  refine Spec.of_code 15 Try.func30 rfl callable30 rfl rfl fun w => ?_
  refine C.region_seq ?_
  refine G.value rfl rfl rfl (Sure.assign rfl) ?_
  refine G.nil ?_
  refine C.region_seq ?_
  refine G.value rfl rfl rfl (Sure.move rfl) ?_
  refine G.value rfl rfl rfl (Sure.move rfl) ?_
  refine G.value rfl rfl rfl ((Sure.geq rfl rfl).to_t h.1) ?_
  refine G.value rfl rfl rfl (Sure.move rfl) ?_
  refine G.value rfl rfl rfl (Sure.move rfl) ?_
  refine G.value rfl rfl rfl (Sure.move rfl) ?_
  refine G.value rfl rfl rfl ((Sure.leq rfl rfl).to_t h.2) ?_
  refine G.value rfl rfl rfl (Sure.pick_true rfl rfl) ?_
  refine G.value rfl rfl rfl (Sure.assign rfl) ?_
  refine G.nil ?_
  refine C.ret ?_
  exact Fin.fn (Res.tmp rfl rfl) Split.nil ⟨rfl, rfl⟩
theorem right_spec (M : Mem) (g : Geo) (h : GeoOk g) : Spec Try.prog 13 [geoV g] M [] (fun r _ H => H = [] ∧ r = .bool true) := by
  obtain ⟨h0, hs, hz, hb, hp, hy⟩ := h
  refine Spec.of_code 32 Try.func13 rfl callable13 rfl rfl fun w => ?_
  refine C.region_seq ?_
  refine G.dyn rfl rfl rfl ?_
  refine Dyn.boxAgg rfl ?_
  intro b1
  refine G.value rfl rfl rfl (Sure.assign rfl) ?_
  refine G.nil ?_
  refine C.region_seq ?_
  refine G.value rfl rfl rfl (Sure.fieldAddr rfl) ?_
  refine G.value rfl rfl rfl (Sure.load rfl (by first | exact Rd.h0 | exact Rd.tl Rd.h0 | exact Rd.tl (Rd.tl Rd.h0) | exact Rd.tl (Rd.tl (Rd.tl Rd.h0)) | exact Rd.tl (Rd.tl (Rd.tl (Rd.tl Rd.h0))) | exact Rd.tl (Rd.tl (Rd.tl (Rd.tl (Rd.tl Rd.h0)))) | exact Rd.m (by assumption) | assumption) rfl) ?_
  refine G.value rfl rfl rfl (Sure.rem rfl rfl (by omega) (by omega)) ?_
  refine G.value rfl rfl rfl ((Sure.eql rfl rfl).to_t h0) ?_
  refine G.value rfl rfl rfl (Sure.move rfl) ?_
  refine G.value rfl rfl rfl (Sure.fieldAddr rfl) ?_
  refine G.value rfl rfl rfl (Sure.load rfl (by first | exact Rd.h0 | exact Rd.tl Rd.h0 | exact Rd.tl (Rd.tl Rd.h0) | exact Rd.tl (Rd.tl (Rd.tl Rd.h0)) | exact Rd.tl (Rd.tl (Rd.tl (Rd.tl Rd.h0))) | exact Rd.tl (Rd.tl (Rd.tl (Rd.tl (Rd.tl Rd.h0)))) | exact Rd.m (by assumption) | assumption) rfl) ?_
  refine G.call rfl rfl rfl rfl rfl rfl (within_spec _ _ _ _ hs) (Split.nil) ?_
  rintro _ M1 _ le1 ⟨rfl, rfl⟩
  refine G.value rfl rfl rfl (Sure.pick_true rfl rfl) ?_
  refine G.value rfl rfl rfl (Sure.move rfl) ?_
  refine G.value rfl rfl rfl (Sure.fieldAddr rfl) ?_
  refine G.value rfl rfl rfl (Sure.load rfl (by first | exact Rd.h0 | exact Rd.tl Rd.h0 | exact Rd.tl (Rd.tl Rd.h0) | exact Rd.tl (Rd.tl (Rd.tl Rd.h0)) | exact Rd.tl (Rd.tl (Rd.tl (Rd.tl Rd.h0))) | exact Rd.tl (Rd.tl (Rd.tl (Rd.tl (Rd.tl Rd.h0)))) | exact Rd.m (by assumption) | assumption) rfl) ?_
  refine G.call rfl rfl rfl rfl rfl rfl (within_spec _ _ _ _ hz) (Split.nil) ?_
  rintro _ M2 _ le2 ⟨rfl, rfl⟩
  refine G.value rfl rfl rfl (Sure.pick_true rfl rfl) ?_
  refine G.value rfl rfl rfl (Sure.move rfl) ?_
  refine G.value rfl rfl rfl (Sure.fieldAddr rfl) ?_
  refine G.value rfl rfl rfl (Sure.load rfl (by first | exact Rd.h0 | exact Rd.tl Rd.h0 | exact Rd.tl (Rd.tl Rd.h0) | exact Rd.tl (Rd.tl (Rd.tl Rd.h0)) | exact Rd.tl (Rd.tl (Rd.tl (Rd.tl Rd.h0))) | exact Rd.tl (Rd.tl (Rd.tl (Rd.tl (Rd.tl Rd.h0)))) | exact Rd.m (by assumption) | assumption) rfl) ?_
  refine G.call rfl rfl rfl rfl rfl rfl (within_spec _ _ _ _ hb) (Split.nil) ?_
  rintro _ M3 _ le3 ⟨rfl, rfl⟩
  refine G.value rfl rfl rfl (Sure.pick_true rfl rfl) ?_
  refine G.value rfl rfl rfl (Sure.move rfl) ?_
  refine G.value rfl rfl rfl (Sure.fieldAddr rfl) ?_
  refine G.value rfl rfl rfl (Sure.load rfl (by first | exact Rd.h0 | exact Rd.tl Rd.h0 | exact Rd.tl (Rd.tl Rd.h0) | exact Rd.tl (Rd.tl (Rd.tl Rd.h0)) | exact Rd.tl (Rd.tl (Rd.tl (Rd.tl Rd.h0))) | exact Rd.tl (Rd.tl (Rd.tl (Rd.tl (Rd.tl Rd.h0)))) | exact Rd.m (by assumption) | assumption) rfl) ?_
  refine G.call rfl rfl rfl rfl rfl rfl (within_spec _ _ _ _ hp) (Split.nil) ?_
  rintro _ M4 _ le4 ⟨rfl, rfl⟩
  refine G.value rfl rfl rfl (Sure.pick_true rfl rfl) ?_
  refine G.value rfl rfl rfl (Sure.move rfl) ?_
  refine G.value rfl rfl rfl (Sure.fieldAddr rfl) ?_
  refine G.value rfl rfl rfl (Sure.load rfl (by first | exact Rd.h0 | exact Rd.tl Rd.h0 | exact Rd.tl (Rd.tl Rd.h0) | exact Rd.tl (Rd.tl (Rd.tl Rd.h0)) | exact Rd.tl (Rd.tl (Rd.tl (Rd.tl Rd.h0))) | exact Rd.tl (Rd.tl (Rd.tl (Rd.tl (Rd.tl Rd.h0)))) | exact Rd.m (by assumption) | assumption) rfl) ?_
  refine G.call rfl rfl rfl rfl rfl rfl (within_spec _ _ _ _ hy) (Split.nil) ?_
  rintro _ M5 _ le5 ⟨rfl, rfl⟩
  refine G.value rfl rfl rfl (Sure.pick_true rfl rfl) ?_
  refine G.value rfl rfl rfl (Sure.assign rfl) ?_
  refine G.nil ?_
  refine C.ret ?_
  exact Fin.fn (Res.tmp rfl rfl) Split.nil ⟨rfl, rfl⟩
/-- How many bytes a half has. -/
abbrev halfSize (g : Geo) : Int := g.sectors / 2 * g.sector
theorem half_size_spec (M : Mem) (g : Geo) (h : GeoOk g) : Spec Try.prog 27 [geoV g] M [] (fun r _ H => H = [] ∧ r = .int .i64 (halfSize g)) := by
  have hs := h.s
  have hz := h.z
  have hm : 0 ≤ g.sectors / 2 * g.sector ∧ g.sectors / 2 * g.sector ≤ 8 * 4096 := ⟨Int.mul_nonneg (by omega) (by omega), Int.mul_le_mul (by omega) (by omega) (by omega) (by omega)⟩
  refine Spec.of_code 12 Try.func27 rfl callable27 rfl rfl fun w => ?_
  refine C.region_seq ?_
  refine G.dyn rfl rfl rfl ?_
  refine Dyn.boxAgg rfl ?_
  intro b1
  refine G.value rfl rfl rfl (Sure.assign rfl) ?_
  refine G.nil ?_
  refine C.seq ?_
  refine C.region_seq ?_
  refine G.value rfl rfl rfl (Sure.loadAgg rfl (by first | exact Rd.h0 | exact Rd.tl Rd.h0 | exact Rd.tl (Rd.tl Rd.h0) | exact Rd.tl (Rd.tl (Rd.tl Rd.h0)) | exact Rd.tl (Rd.tl (Rd.tl (Rd.tl Rd.h0))) | exact Rd.tl (Rd.tl (Rd.tl (Rd.tl (Rd.tl Rd.h0)))) | exact Rd.m (by assumption) | assumption) rfl) ?_
  refine G.call rfl rfl rfl rfl rfl rfl (right_spec _ _ h) (Split.nil) ?_
  rintro _ M1 _ le1 ⟨rfl, rfl⟩
  refine G.value rfl rfl rfl (Sure.not rfl) ?_
  refine G.nil ?_
  refine C.cond_false rfl ?_
  refine C.skip ?_
  refine Fin.th ?_
  refine C.region_seq ?_
  refine G.value rfl rfl rfl (Sure.fieldAddr rfl) ?_
  refine G.value rfl rfl rfl (Sure.load rfl (by first | exact Rd.h0 | exact Rd.tl Rd.h0 | exact Rd.tl (Rd.tl Rd.h0) | exact Rd.tl (Rd.tl (Rd.tl Rd.h0)) | exact Rd.tl (Rd.tl (Rd.tl (Rd.tl Rd.h0))) | exact Rd.tl (Rd.tl (Rd.tl (Rd.tl (Rd.tl Rd.h0)))) | exact Rd.m (by assumption) | assumption) rfl) ?_
  refine G.value rfl rfl rfl (Sure.shr rfl rfl (by decide)) ?_
  refine G.value rfl rfl rfl (Sure.fieldAddr rfl) ?_
  refine G.value rfl rfl rfl (Sure.load rfl (by first | exact Rd.h0 | exact Rd.tl Rd.h0 | exact Rd.tl (Rd.tl Rd.h0) | exact Rd.tl (Rd.tl (Rd.tl Rd.h0)) | exact Rd.tl (Rd.tl (Rd.tl (Rd.tl Rd.h0))) | exact Rd.tl (Rd.tl (Rd.tl (Rd.tl (Rd.tl Rd.h0)))) | exact Rd.m (by assumption) | assumption) rfl) ?_
  refine G.value rfl rfl rfl (Sure.mul rfl rfl (inK64 (by simp; omega))) ?_
  refine G.value rfl rfl rfl (Sure.assign rfl) ?_
  refine G.nil ?_
  refine C.ret ?_
  exact Fin.fn (Res.tmp rfl rfl) Split.nil ⟨rfl, by simp⟩
theorem size_spec (M : Mem) (n : Int) (h : 0 ≤ n ∧ n ≤ 1000000000) : Spec Try.prog 19 [.int .i64 n] M [] (fun v _ H => H = [] ∧ v = .int .i64 (n + 7)) := by
  refine Spec.of_code 5 Try.func19 rfl callable19 rfl rfl fun w => ?_
  refine C.region_seq ?_
  refine G.value rfl rfl rfl (Sure.assign rfl) ?_
  refine G.nil ?_
  refine C.region_seq ?_
  refine G.value rfl rfl rfl (Sure.move rfl) ?_
  refine G.value rfl rfl rfl (Sure.add rfl rfl (inK64 (by omega))) ?_
  refine G.value rfl rfl rfl (Sure.assign rfl) ?_
  refine G.nil ?_
  refine C.ret ?_
  exact Fin.fn (Res.tmp rfl rfl) Split.nil ⟨rfl, rfl⟩
end Go.Proofs.Ytaeeahcokiebdaa
