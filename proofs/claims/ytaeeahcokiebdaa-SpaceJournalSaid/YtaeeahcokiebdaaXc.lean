/-
  Plain laws of journals whose power never falls.
-/
import Derived.Test.YtaeeahcokiebdaaXb
namespace Go.Proofs.Ytaeeahcokiebdaa

/-- A journal in use, on a chip whose power does not fall. -/
structure Good (ad : Ad) (ch : Chip) (j : Jr) : Prop where
  ok : ChipOk ad ch
  alive : Alive ch.pw
  jok : JOk j ch.g
  ended : j.ended = false
  ff : Ff ch.b (j.used + j.half * hsz ch.g) (hsz ch.g - j.used)
theorem half_room {ad : Ad} {ch : Chip} (hok : ChipOk ad ch) {h : Nat} (hh : h < 2) : (h + 1) * hsz ch.g ≤ ch.b.length := by
  obtain ⟨hz, hz1, hz2, hz3⟩ := hsz_int hok.geo
  have hl := hok.len
  rcases (by omega : h = 0 ∨ h = 1) with rfl | rfl <;> omega
theorem anew_full {ch : Chip} {j : Jr} {s : Sta} (h : hsz ch.g < (firstB (j.epoch + 1) s).length + 7) : anewC ch j s = (ch, 10) ∧ anewJ ch j s = j := by
  unfold anewC anewJ
  rw [if_pos (.inl h), if_pos (.inl h)]
  exact ⟨rfl, rfl⟩
theorem anew_good {ad : Ad} {ch : Chip} {j : Jr} {s : Sta} (hg : Good ad ch j) (he : j.epoch < 2147483647) (hfit : (firstB (j.epoch + 1) s).length + 7 ≤ hsz ch.g) :
    (anewC ch j s).2 = 0 ∧ Good ad (anewC ch j s).1 (anewJ ch j s) ∧ (anewC ch j s).1.g = ch.g ∧ (anewJ ch j s).epoch = j.epoch + 1 := by
  obtain ⟨hz, hz1, hz2, hz3⟩ := hsz_int hg.ok.geo
  have hh := hg.jok.half
  have hep := hg.jok.epoch
  obtain ⟨w1, w2, w3, w4⟩ := wiped hg.ok (h := 1 - j.half) (by omega) hg.alive
  have hns : ch.g.sectors = 2 * (nsec ch.g : Int) := by have := hg.ok.geo.even; have := hg.ok.geo.s; unfold nsec; omega
  have hhs : (1 - j.half) * nsec ch.g ≤ nsec ch.g := by rcases (by omega : 1 - j.half = 0 ∨ 1 - j.half = 1) with h | h <;> rw [h] <;> omega
  have hw := wipeN_ok (n := nsec ch.g) (h := 1 - j.half) (nsec ch.g) hg.ok (Nat.le_refl _) (by omega)
  have hroom := half_room hw.1 (h := 1 - j.half) (by omega)
  obtain ⟨a1, a2, a3⟩ := append_alive (h := 1 - j.half) (at_ := 0) (b := firstB (j.epoch + 1) s) w2 hroom (by rw [hw.2]; omega) (by omega) (by rw [hw.2, Nat.zero_add]; exact w3)
  have ao := append_ok hw.1 (1 - j.half) 0 (firstB (j.epoch + 1) s)
  have hno : ¬ (hsz ch.g < (firstB (j.epoch + 1) s).length + 7 ∨ 2147483647 ≤ j.epoch) := by omega
  have hC : anewC ch j s = (wipeN (nsec ch.g) (1 - j.half) (nsec ch.g) ch).1.append (1 - j.half) 0 (firstB (j.epoch + 1) s) := by
    unfold anewC; rw [if_neg hno, if_neg (by rw [w1]; decide)]
  have hJ : anewJ ch j s = { j with half := 1 - j.half, epoch := j.epoch + 1, used := (firstB (j.epoch + 1) s).length + 7 } := by
    unfold anewJ; rw [if_neg hno, if_neg (by rw [hC, a1]; decide)]
  have hgg : (anewC ch j s).1.g = ch.g := by rw [hC, ao.2, hw.2]
  refine ⟨by rw [hC]; exact a1, ⟨by rw [hC]; exact ao.1, by rw [hC]; exact a2, ?_, by rw [hJ]; exact hg.ended, ?_⟩, hgg, by rw [hJ]⟩
  · rw [hgg, hJ]; exact ⟨by dsimp only; omega, by dsimp only; omega, hfit⟩
  · rw [hgg, hJ, hC]
    rw [hw.2, Nat.zero_add] at a3
    exact a3
theorem commit_good {ad : Ad} {ch : Chip} {j : Jr} {s : Sta} {l : List Deed} (hg : Good ad ch j) (he : j.epoch < 2147483647) :
    Good ad (commit ch j s l).1.1 (commit ch j s l).1.2.1 ∧ (commit ch j s l).1.1.g = ch.g ∧ (commit ch j s l).1.2.1.epoch ≤ j.epoch + 1 ∧
      (((commit ch j s l).2 = 0 ∧ (commit ch j s l).1.2.2 = applyL s l) ∨ ((commit ch j s l).2 = 10 ∧ (commit ch j s l).1.2.2 = s ∧ hsz ch.g < (firstB (j.epoch + 1) (applyL s l)).length + 7)) := by
  obtain ⟨hz, hz1, hz2, hz3⟩ := hsz_int hg.ok.geo
  have hnend : ¬ j.ended = true := by rw [hg.ended]; decide
  by_cases hbig : hsz ch.g < j.used + ((deedsB l).length + 7)
  · have hc : commit ch j s l = (((anewC ch j (applyL s l)).1, anewJ ch j (applyL s l), anewS ch j (applyL s l) s (applyL s l)), (anewC ch j (applyL s l)).2) := by
      unfold commit; rw [if_neg hnend, if_pos hbig]
    rw [hc]
    by_cases hf : hsz ch.g < (firstB (j.epoch + 1) (applyL s l)).length + 7
    · obtain ⟨e1, e2⟩ := anew_full hf
      unfold anewS
      rw [e1, e2]
      exact ⟨hg, rfl, by dsimp only; omega, .inr ⟨rfl, rfl, hf⟩⟩
    · obtain ⟨e1, e2, e3, e4⟩ := anew_good (s := applyL s l) hg he (by omega)
      refine ⟨e2, e3, by dsimp only; omega, .inl ⟨e1, ?_⟩⟩
      dsimp only
      unfold anewS
      rw [if_neg (by rw [e1]; decide)]
  · have hu := hg.jok.used
    obtain ⟨a1, a2, a3⟩ := append_alive (h := j.half) (at_ := j.used) (b := deedsB l) hg.alive (half_room hg.ok hg.jok.half) (by omega) (by omega) hg.ff
    have ao := append_ok hg.ok j.half j.used (deedsB l)
    have hc : commit ch j s l = (((ch.append j.half j.used (deedsB l)).1, { j with used := j.used + ((deedsB l).length + 7) }, applyL s l), 0) := by
      unfold commit; rw [if_neg hnend, if_neg hbig, if_neg (by rw [a1]; decide)]
    rw [hc]
    refine ⟨⟨ao.1, a2, ?_, hg.ended, ?_⟩, ao.2, by dsimp only; omega, .inl ⟨rfl, rfl⟩⟩
    · dsimp only
      rw [ao.2]
      exact ⟨hg.jok.half, hg.jok.epoch, by dsimp only; omega⟩
    · dsimp only
      rw [ao.2]
      exact a3
theorem fmt_good {ad : Ad} {ch : Chip} (hok : ChipOk ad ch) (ha : Alive ch.pw) : (fmt ch).2 = 0 ∧ Good ad (fmt ch).1 fmtJ ∧ (fmt ch).1.g = ch.g := by
  obtain ⟨hz, hz1, hz2, hz3⟩ := hsz_int hok.geo
  obtain ⟨hl1, hl2⟩ := firstR_len
  have t1 : wipeTo ch 1 = wipeN (nsec ch.g) 0 (nsec ch.g) ch := by
    unfold wipeTo wipeTo
    rw [if_neg (by simp)]
  obtain ⟨w1, w2, w3, w4⟩ := wiped hok (h := 0) (by omega) ha
  obtain ⟨ok1, g1⟩ := wipeTo_ok hok 1 (by omega)
  rw [t1] at ok1 g1
  obtain ⟨v1, v2, v3, v4⟩ := wiped ok1 (h := 1) (by omega) w2
  rw [g1] at v1 v2 v3 v4
  have t2 : wipeTo ch 2 = wipeN (nsec ch.g) 1 (nsec ch.g) (wipeN (nsec ch.g) 0 (nsec ch.g) ch).1 := by
    conv => lhs; unfold wipeTo
    rw [t1, if_neg (by rw [w1]; decide)]
  obtain ⟨ok2, g2⟩ := wipeTo_ok hok 2 (by omega)
  have hff := v4 _ _ w3
  rw [← t2] at v1 v2 hff
  have hroom := half_room ok2 (h := 0) (by omega)
  obtain ⟨a1, a2, a3⟩ := append_alive (h := 0) (at_ := 0) (b := firstB 1 staR) v2 hroom (by rw [g2]; omega) (by omega) (by rw [g2, Nat.zero_add]; exact hff)
  have ao := append_ok ok2 0 0 (firstB 1 staR)
  have hf : fmt ch = (wipeTo ch 2).1.append 0 0 (firstB 1 staR) := by unfold fmt; rw [if_neg (by rw [v1]; decide)]
  rw [hf]
  have hgg := ao.2.trans g2
  refine ⟨a1, ⟨ao.1, a2, ?_, rfl, ?_⟩, hgg⟩
  · rw [hgg]; exact ⟨by decide, by decide, by show (firstB 1 staR).length + 7 ≤ _; omega⟩
  · rw [hgg]
    rw [g2, Nat.zero_add] at a3
    exact a3
end Go.Proofs.Ytaeeahcokiebdaa
