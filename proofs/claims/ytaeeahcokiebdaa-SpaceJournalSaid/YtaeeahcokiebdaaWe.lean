/-
  The walks of the wiping of a half, and of programming bytes.
  Conditions: the chip is as it should be; the bytes lie within it.
-/
import Derived.Test.YtaeeahcokiebdaaWd
namespace Go.Proofs.Ytaeeahcokiebdaa
set_option maxRecDepth 20000

theorem chip_geometry_spec (M : Mem) (ad : Ad) (ch : Chip) : Spec Try.prog 34 [ptr ad.cb] M [(ad.cb, .cells (chipL ad ch))]
    (fun v _ H => v = geoV ch.g ∧ H = [(ad.cb, .cells (chipL ad ch))]) := by
  refine Spec.of_code 10 Try.func34 rfl callable34 rfl rfl fun w => ?_
  refine C.region_seq ?_
  refine G.dyn rfl rfl rfl ?_
  refine Dyn.allocAgg ?_
  intro b2
  refine G.nil ?_
  refine C.seq ?_
  refine C.region_seq ?_
  refine G.value rfl rfl rfl (Sure.move rfl) ?_
  refine G.value rfl rfl rfl (ptr_eq_f rfl rfl) ?_
  refine G.nil ?_
  refine C.cond_false rfl ?_
  refine C.skip ?_
  refine Fin.th ?_
  refine C.region_seq ?_
  refine G.value rfl rfl rfl (Sure.move rfl) ?_
  refine G.value rfl rfl rfl (Sure.nilCheck rfl) ?_
  refine G.value rfl rfl rfl (Sure.fieldAddr rfl) ?_
  refine G.value rfl rfl rfl (Sure.loadAgg rfl (by first | exact Rd.h0 | exact Rd.tl Rd.h0 | exact Rd.tl (Rd.tl Rd.h0) | exact Rd.tl (Rd.tl (Rd.tl Rd.h0)) | exact Rd.tl (Rd.tl (Rd.tl (Rd.tl Rd.h0))) | exact Rd.tl (Rd.tl (Rd.tl (Rd.tl (Rd.tl Rd.h0)))) | exact Rd.m (by assumption) | assumption) rfl) ?_
  refine G.dyn0 rfl rfl ?_
  refine Dyn.storeAgg rfl rfl (by first | exact Pick.here | exact Pick.there Pick.here | exact Pick.there (Pick.there Pick.here) | exact Pick.there (Pick.there (Pick.there Pick.here)) | exact Pick.there (Pick.there (Pick.there (Pick.there Pick.here))) | exact Pick.there (Pick.there (Pick.there (Pick.there (Pick.there Pick.here))))) rfl rfl rfl ?_
  refine G.nil ?_
  refine C.ret ?_
  exact Fin.fn (Res.cellAgg rfl rfl (by first | exact Rd.h0 | exact Rd.tl Rd.h0 | exact Rd.tl (Rd.tl Rd.h0) | exact Rd.tl (Rd.tl (Rd.tl Rd.h0)) | exact Rd.tl (Rd.tl (Rd.tl (Rd.tl Rd.h0))) | exact Rd.tl (Rd.tl (Rd.tl (Rd.tl (Rd.tl Rd.h0)))) | exact Rd.m (by assumption) | assumption) rfl) (Split.cons (.there .here) Split.nil) ⟨rfl, rfl⟩
theorem half_ask_spec (M : Mem) (b : Nat) (h : Int) (hh : 0 ≤ h ∧ h < 2) : Spec Try.prog 33 [ptr b, .int .i64 h] M [] (fun v _ H => v = .int .i64 0 ∧ H = []) := by
  refine Spec.of_code 15 Try.func33 rfl callable33 rfl rfl fun w => ?_
  refine C.region_seq ?_
  refine G.value rfl rfl rfl (Sure.assign rfl) ?_
  refine G.nil ?_
  refine C.seq ?_
  refine C.block ?_
  refine C.region_seq ?_
  refine G.value rfl rfl rfl (Sure.move rfl) ?_
  refine G.value rfl rfl rfl (ptr_eq_f rfl rfl) ?_
  refine G.value rfl rfl rfl (Sure.assign rfl) ?_
  refine G.nil ?_
  refine C.cond_false rfl ?_
  refine C.region_seq ?_
  refine G.value rfl rfl rfl (Sure.move rfl) ?_
  refine G.value rfl rfl rfl ((Sure.lss rfl rfl).to_f (by omega)) ?_
  refine G.value rfl rfl rfl (Sure.move rfl) ?_
  refine G.value rfl rfl rfl (Sure.move rfl) ?_
  refine G.value rfl rfl rfl ((Sure.geq rfl rfl).to_f (by omega)) ?_
  refine G.value rfl rfl rfl (Sure.pick_false rfl rfl) ?_
  refine G.value rfl rfl rfl (Sure.assign rfl) ?_
  refine G.nil ?_
  refine C.cond_false rfl ?_
  refine C.skip ?_
  refine Fin.blk ?_
  refine Fin.th ?_
  refine C.region_seq ?_
  refine G.value rfl rfl rfl (Sure.assign rfl) ?_
  refine G.nil ?_
  refine C.ret ?_
  exact Fin.fn (Res.tmp rfl rfl) Split.nil ⟨rfl, rfl⟩
/-- So many sectors of a half are erased, the last one first, till one fails. -/
def wipeN (n h : Nat) : Nat → Chip → Chip × Int
  | 0, ch => (ch, 0)
  | k + 1, ch => if (ch.erase (h * n + k)).2 = 0 then wipeN n h k (ch.erase (h * n + k)).1 else ch.erase (h * n + k)
theorem erase_g (ch : Chip) (s : Nat) : (ch.erase s).1.g = ch.g := by
  unfold Chip.erase; split
  · rfl
  · split <;> rfl
theorem wipeN_ok {ad : Ad} {n h : Nat} : ∀ (k : Nat) {ch : Chip}, ChipOk ad ch → k ≤ n → ((h * n + n : Nat) : Int) ≤ ch.g.sectors → ChipOk ad (wipeN n h k ch).1 ∧ (wipeN n h k ch).1.g = ch.g
  | 0, ch, hok, _, _ => ⟨hok, rfl⟩
  | k + 1, ch, hok, hk, hs => by
    have hlt : ((h * n + k : Nat) : Int) < ch.g.sectors := by omega
    have h1 := hok.erase hlt
    have h2 := erase_g ch (h * n + k)
    unfold wipeN
    split
    · have := wipeN_ok (n := n) (h := h) k h1 (by omega) (by rw [h2]; exact hs)
      rw [h2] at this
      exact this
    · exact ⟨h1, h2⟩
theorem wipe_spec (M : Mem) (ad : Ad) (ch : Chip) (n h : Nat) (hok : ChipOk ad ch) (hn : ch.g.sectors = 2 * n) (hh : h < 2) :
    Spec Try.prog 15 [ptr ad.cb, .int .i64 h] M (chipH ad ch) (fun v _ H => v = .int .i64 (wipeN n h n ch).2 ∧ H = chipH ad (wipeN n h n ch).1) := by
  have hs := hok.geo.s
  have hhn : h * n ≤ n := by rcases (by omega : h = 0 ∨ h = 1) with rfl | rfl <;> omega
  have hhs : ((h * n + n : Nat) : Int) ≤ ch.g.sectors := by omega
  refine Spec.of_code 35 Try.func15 rfl callable15 rfl rfl fun w => ?_
  refine C.region_seq ?_
  refine G.value rfl rfl rfl (Sure.assign rfl) ?_
  refine G.nil ?_
  refine C.seq ?_
  refine C.region_seq ?_
  refine G.value rfl rfl rfl (Sure.move rfl) ?_
  refine G.value rfl rfl rfl (Sure.move rfl) ?_
  refine G.call rfl rfl rfl rfl rfl rfl (half_ask_spec M ad.cb h (by omega)) (Split.nil) ?_
  rintro _ M1 _ le1 ⟨rfl, rfl⟩
  refine G.value rfl rfl rfl (Sure.assign rfl) ?_
  refine G.nil ?_
  refine C.region_seq ?_
  refine G.value rfl rfl rfl (Sure.move rfl) ?_
  refine G.value rfl rfl rfl ((Sure.neq rfl rfl).to_f (by simp)) ?_
  refine G.nil ?_
  refine C.cond_false rfl ?_
  refine C.skip ?_
  refine Fin.th ?_
  refine C.region_seq ?_
  refine G.value rfl rfl rfl (Sure.move rfl) ?_
  refine G.call rfl rfl rfl rfl rfl rfl (chip_geometry_spec M1 ad ch) (Split.cons .here Split.nil) ?_
  rintro _ M2 _ le2 ⟨rfl, rfl⟩
  refine G.value rfl rfl rfl (Sure.field rfl rfl) ?_
  refine G.value rfl rfl rfl (Sure.shr rfl rfl (by decide)) ?_
  rw [show ch.g.sectors / 2 ^ (1 : Int).toNat = (n : Int) from by rw [hn]; simp]
  refine G.value rfl rfl rfl (Sure.assign rfl) ?_
  refine G.nil ?_
  refine C.seq ?_
  refine C.region_seq ?_
  refine G.value rfl rfl rfl (Sure.move rfl) ?_
  refine G.value rfl rfl rfl (Sure.sub rfl rfl (inK64 (by omega))) ?_
  refine G.value rfl rfl rfl (Sure.assign rfl) ?_
  refine G.nil ?_
  refine C.block ?_
  refine C.loop (fun k E _ H => ∃ ch', ChipOk ad ch' ∧ ch'.g = ch.g ∧ k ≤ n ∧ wipeN n h k ch' = wipeN n h n ch ∧ E = [(0, ptr ad.cb), (1, .int .i64 h), (6, .int .i64 n), (7, .int .i64 (k - 1))] ∧ H = chipH ad ch') (n) ?_ ?_
  · exact ⟨_, _, ⟨ch, hok, rfl, Nat.le_refl _, rfl, rfl, rfl⟩, ⟨rfl, rfl, rfl, rfl, trivial⟩, _, Split.cons .here (Split.cons .here (Split.cons .here (Split.cons .here Split.nil)))⟩
  · rintro k E M H ⟨ch', hok', hg, hk, heq, rfl, rfl⟩
    refine C.seq ?_
    refine C.region_seq ?_
    refine G.value rfl rfl rfl (Sure.move rfl) ?_
    refine G.value rfl rfl rfl (Sure.geq rfl rfl) ?_
    refine G.nil ?_
    refine C.cond_dec rfl (fun hge => ?_) (fun hge => ?_)
    · obtain ⟨k, rfl⟩ : ∃ m, k = m + 1 := ⟨k - 1, by omega⟩
      have hlt : ((h * n + k : Nat) : Int) < ch'.g.sectors := by rw [hg]; omega
      refine C.skip ?_
      refine Fin.th ?_
      refine C.seq ?_
      refine C.block ?_
      refine C.region_seq ?_
      refine G.value rfl rfl rfl (Sure.move rfl) ?_
      refine G.value rfl rfl rfl (Sure.move rfl) ?_
      refine G.value rfl rfl rfl (Sure.move rfl) ?_
      refine G.value rfl rfl rfl (Sure.mul rfl rfl (inK64 (by have : ((h * n : Nat) : Int) = (h : Int) * n := Int.natCast_mul h n; omega))) ?_
      refine G.value rfl rfl rfl (Sure.move rfl) ?_
      refine G.value rfl rfl rfl (Sure.add rfl rfl (inK64 (by have : ((h * n : Nat) : Int) = (h : Int) * n := Int.natCast_mul h n; omega))) ?_
      rw [show (h : Int) * n + (((k + 1 : Nat) : Int) - 1) = ((h * n + k : Nat) : Int) from by have := Int.natCast_mul h n; omega]
      refine G.call rfl rfl rfl rfl rfl rfl (erase_spec M ad ch' (h * n + k) hok' hlt) (Split.cons .here (Split.cons .here (Split.cons .here (Split.cons .here Split.nil)))) ?_
      rintro _ M3 _ le3 ⟨rfl, rfl⟩
      refine G.value rfl rfl rfl (Sure.assign rfl) ?_
      refine G.nil ?_
      refine C.region_seq ?_
      refine G.value rfl rfl rfl (Sure.move rfl) ?_
      refine G.value rfl rfl rfl (Sure.neq rfl rfl) ?_
      refine G.nil ?_
      refine C.cond_dec rfl (fun hne => ?_) (fun hne => ?_)
      · refine C.region_seq ?_
        refine G.value rfl rfl rfl (Sure.move rfl) ?_
        refine G.value rfl rfl rfl (Sure.assign rfl) ?_
        refine G.nil ?_
        refine C.ret ?_
        refine Fin.blk_ret ?_
        refine Fin.th_ret ?_
        refine Fin.th_ret ?_
        refine Fin.blk_ret ?_
        refine Fin.th_ret ?_
        refine Fin.fn (Res.tmp rfl rfl) (Split.cons .here (Split.cons .here (Split.cons .here (Split.cons .here Split.nil)))) ?_
        have hne' : ¬ (ch'.erase (h * n + k)).2 = 0 := hne
        rw [← heq]
        unfold wipeN
        rw [if_neg hne']
        exact ⟨rfl, rfl⟩
      · have he : (ch'.erase (h * n + k)).2 = 0 := by omega
        refine C.skip ?_
        refine Fin.blk ?_
        refine Fin.th ?_
        refine C.region ?_
        refine G.value rfl rfl rfl (Sure.move rfl) ?_
        refine G.value rfl rfl rfl (Sure.sub rfl rfl (inK64 (by omega))) ?_
        refine G.value rfl rfl rfl (Sure.assign rfl) ?_
        refine G.nil ?_
        refine Fin.th ?_
        refine ⟨k, _, _, by omega, ⟨(ch'.erase (h * n + k)).1, hok'.erase hlt, (erase_g _ _).trans hg, by omega, ?_, rfl, rfl⟩, ⟨rfl, rfl, rfl, ?_, trivial⟩, _, Split.cons .here (Split.cons .here (Split.cons .here (Split.cons .here Split.nil)))⟩
        · rw [← heq]
          conv => rhs; unfold wipeN
          rw [if_pos he]
        · show some (Value.int .i64 (((k + 1 : Nat) : Int) - 1 - 1)) = some (.int .i64 ((k : Int) - 1))
          congr 2
          omega
    · have hk0 : k = 0 := by omega
      subst hk0
      refine C.exit ?_
      refine Fin.th_exit ?_
      refine Fin.th_exit ?_
      refine Fin.blk_eq ?_
      refine Fin.th ?_
      refine C.region_seq ?_
      refine G.value rfl rfl rfl (Sure.assign rfl) ?_
      refine G.nil ?_
      refine C.ret ?_
      refine Fin.fn (Res.tmp rfl rfl) (Split.cons .here (Split.cons .here (Split.cons .here (Split.cons .here Split.nil)))) ?_
      rw [← heq]
      exact ⟨rfl, rfl⟩
end Go.Proofs.Ytaeeahcokiebdaa
