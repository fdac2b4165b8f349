/-
  The walks of formatting, and of a journal's state.
-/
import Derived.Test.YtaeeahcokiebdaaWz
namespace Go.Proofs.Ytaeeahcokiebdaa
set_option maxRecDepth 20000

/-- So many halves are wiped, till one fails. -/
def wipeTo (ch : Chip) : Nat → Chip × Int
  | 0 => (ch, 0)
  | i + 1 => if (wipeTo ch i).2 ≠ 0 then wipeTo ch i else wipeN (nsec ch.g) i (nsec ch.g) (wipeTo ch i).1
/-- What formatting leads to. -/
def fmt (ch : Chip) : Chip × Int :=
  if (wipeTo ch 2).2 ≠ 0 then wipeTo ch 2 else (wipeTo ch 2).1.append 0 0 (firstB 1 staR)
def fmtJ : Jr := ⟨0, 1, (firstB 1 staR).length + 7, false⟩
theorem wipeTo_stop {ch : Chip} {i : Nat} (h : (wipeTo ch i).2 ≠ 0) (hi : i ≤ 2) : wipeTo ch 2 = wipeTo ch i := by
  rcases (by omega : i = 0 ∨ i = 1 ∨ i = 2) with rfl | rfl | rfl
  · exact absurd rfl h
  · conv => lhs; unfold wipeTo
    rw [if_pos h]
  · rfl
theorem wipeTo_ok {ad : Ad} {ch : Chip} (hok : ChipOk ad ch) : ∀ i, i ≤ 2 → ChipOk ad (wipeTo ch i).1 ∧ (wipeTo ch i).1.g = ch.g
  | 0, _ => ⟨hok, rfl⟩
  | i + 1, hi => by
    have ih := wipeTo_ok hok i (by omega)
    have hns : ch.g.sectors = 2 * (nsec ch.g : Int) := by have := hok.geo.even; have := hok.geo.s; unfold nsec; omega
    have hhs : i * nsec ch.g ≤ nsec ch.g := by rcases (by omega : i = 0 ∨ i = 1) with h | h <;> rw [h] <;> omega
    unfold wipeTo
    split
    · exact ih
    · have := wipeN_ok (n := nsec ch.g) (h := i) (nsec ch.g) ih.1 (Nat.le_refl _) (by rw [ih.2]; omega)
      rw [ih.2] at this
      exact this
theorem firstR_len : (firstB 1 staR).length = 8 + (deedsB (whole staR)).length ∧ (deedsB (whole staR)).length = 54 := by
  refine ⟨by simp [firstB], by simp [whole, staR, deedsB, deedB, inoB, inoR, intB, txtB, intsB_len]⟩
theorem staR_ok : StaOk staR := ⟨by simp [staR], by simp [staR], by intro x hx; simp [staR] at hx; subst hx; exact ⟨by simp [inoR], by simp [inoR]⟩⟩
theorem format_spec (M : Mem) (ad : Ad) (ch : Chip) (hok : ChipOk ad ch) :
    Spec Try.prog 7 [ptr ad.cb] M (chipH ad ch)
      (fun v M' H => (v = .tuple #[.pointer Option.none, .int .i64 (fmt ch).2] ∧ (fmt ch).2 ≠ 0 ∧ H = chipH ad (fmt ch).1) ∨
        ∃ (jb : Nat) (s : StaD), v = .tuple #[ptr jb, .int .i64 0] ∧ (fmt ch).2 = 0 ∧ s.v = staR ∧ SOk M' s ∧ H = (jb, .cells (jrL ad.cb fmtJ s)) :: chipH ad (fmt ch).1) := by
  have hns : ch.g.sectors = 2 * (nsec ch.g : Int) := by have := hok.geo.even; have := hok.geo.s; unfold nsec; omega
  refine Spec.of_code 49 Try.func7 rfl callable7 rfl rfl fun w => ?_
  refine C.region_seq ?_
  refine G.value rfl rfl rfl (Sure.assign rfl) ?_
  refine G.value rfl rfl rfl (Sure.assign rfl) ?_
  refine G.nil ?_
  refine C.seq ?_
  refine C.region_seq ?_
  refine G.value rfl rfl rfl (Sure.move rfl) ?_
  refine G.nil ?_
  refine C.block ?_
  refine C.loop (fun k E M' H => ∃ i : Nat, i + k = 2 ∧ (wipeTo ch i).2 = 0 ∧ MLe M M' ∧ E = [(0, ptr ad.cb), (9, .int .i64 i)] ∧ H = chipH ad (wipeTo ch i).1) (2) ?_ ?_
  · exact ⟨_, _, ⟨0, rfl, rfl, MLe.refl _, rfl, rfl⟩, ⟨rfl, rfl, trivial⟩, [], Split.one PickL.all⟩
  · rintro k E M' H ⟨i, hik, h0, hle, rfl, rfl⟩
    obtain ⟨hoki, hgi⟩ := wipeTo_ok hok i (by omega)
    refine C.region_seq ?_
    refine G.value rfl rfl rfl (Sure.lss rfl rfl) ?_
    refine G.nil ?_
    refine C.seq ?_
    refine C.cond_dec rfl (fun hlt => ?_) (fun hlt => ?_)
    · have hstep : wipeTo ch (i + 1) = wipeN (nsec ch.g) i (nsec ch.g) (wipeTo ch i).1 := by
        conv => lhs; unfold wipeTo
        rw [if_neg (by omega)]
      refine C.skip ?_
      refine Fin.th ?_
      refine C.seq ?_
      refine C.block ?_
      refine C.region_seq ?_
      refine G.value rfl rfl rfl (Sure.move rfl) ?_
      refine G.value rfl rfl rfl (Sure.assign rfl) ?_
      refine G.nil ?_
      refine C.region_seq ?_
      refine G.value rfl rfl rfl (Sure.move rfl) ?_
      refine G.value rfl rfl rfl (Sure.move rfl) ?_
      refine G.call rfl rfl rfl rfl rfl rfl (wipe_spec M' ad _ (nsec ch.g) i hoki (by rw [hgi]; exact hns) (by omega)) (Split.one PickL.all) ?_
      rintro _ M2 _ le2 ⟨rfl, rfl⟩
      rw [← hstep]
      refine G.value rfl rfl rfl (Sure.assign rfl) ?_
      refine G.nil ?_
      refine C.region_seq ?_
      refine G.value rfl rfl rfl (Sure.move rfl) ?_
      refine G.value rfl rfl rfl (Sure.neq rfl rfl) ?_
      refine G.nil ?_
      refine C.cond_dec rfl (fun hne => ?_) (fun hne => ?_)
      · have hst := wipeTo_stop (ch := ch) (i := i + 1) hne (by omega)
        have hf : fmt ch = wipeTo ch (i + 1) := by unfold fmt; rw [hst, if_pos hne]
        refine C.region_seq ?_
        refine G.value rfl rfl rfl (Sure.move rfl) ?_
        refine G.value rfl rfl rfl (Sure.assign rfl) ?_
        refine G.value rfl rfl rfl (Sure.assign rfl) ?_
        refine G.nil ?_
        refine C.ret ?_
        refine Fin.blk_ret ?_
        refine Fin.th_ret ?_
        refine Fin.th_ret ?_
        refine Fin.blk_ret ?_
        refine Fin.th_ret ?_
        exact Fin.fn (Res.tmp2 rfl rfl rfl) (Split.one PickL.here) (.inl ⟨by rw [hf], by rw [hf]; exact hne, by rw [hf]⟩)
      · refine C.skip ?_
        refine Fin.blk ?_
        refine Fin.th ?_
        refine C.region ?_
        refine G.value rfl rfl rfl (Sure.add rfl rfl (inK64 (by omega))) ?_
        refine G.value rfl rfl rfl (Sure.move rfl) ?_
        refine G.nil ?_
        refine Fin.th ?_
        exact ⟨k - 1, _, _, by omega, ⟨i + 1, by omega, by omega, hle.trans le2, rfl, rfl⟩, ⟨rfl, rfl, trivial⟩, _, Split.one PickL.here⟩
    · have hi2 : i = 2 := by omega
      subst hi2
      have hfm : fmt ch = (wipeTo ch 2).1.append 0 0 (firstB 1 staR) := by unfold fmt; rw [if_neg (by omega)]
      obtain ⟨hl1, hl2⟩ := firstR_len
      refine C.exit ?_
      refine Fin.th_exit ?_
      refine Fin.th_exit ?_
      refine Fin.blk_eq ?_
      refine Fin.th ?_
      refine C.region_seq ?_
      refine G.value rfl rfl rfl (Sure.move rfl) ?_
      refine G.call rfl rfl rfl rfl rfl rfl (stateNew_spec M') (Split.nil) ?_
      rintro _ M2 _ le2 ⟨rfl, s, hsv, rfl, hs⟩
      refine G.value rfl rfl rfl (Sure.build rfl rfl) ?_
      refine G.dyn rfl rfl rfl ?_
      refine Dyn.boxAgg rfl ?_
      intro b22
      refine G.value rfl rfl rfl (Sure.assign rfl) ?_
      refine G.nil ?_
      -- draws its order
      refine C.draw_seq (_) mixed (by kernel_rfl) (Incl.refl _) ?_
      refine GD.val 0 rfl rfl rfl rfl (by kernel_rfl) rfl (Sure.move rfl) ?_
      refine GD.val 1 rfl rfl rfl rfl (by kernel_rfl) rfl (Sure.nilCheck rfl) ?_
      refine GD.val 2 rfl rfl rfl rfl (by kernel_rfl) rfl (Sure.fieldAddr rfl) ?_
      refine GD.val 3 rfl rfl rfl rfl (by kernel_rfl) rfl (Sure.load rfl (by first | exact Rd.h0 | exact Rd.tl Rd.h0 | exact Rd.tl (Rd.tl Rd.h0) | exact Rd.tl (Rd.tl (Rd.tl Rd.h0)) | exact Rd.tl (Rd.tl (Rd.tl (Rd.tl Rd.h0))) | exact Rd.tl (Rd.tl (Rd.tl (Rd.tl (Rd.tl Rd.h0)))) | exact Rd.m (by assumption) | assumption) rfl) ?_
      refine GD.val 4 rfl rfl rfl rfl (by kernel_rfl) rfl (Sure.move rfl) ?_
      refine GD.val 5 rfl rfl rfl rfl (by kernel_rfl) rfl (Sure.nilCheck rfl) ?_
      refine GD.val 6 rfl rfl rfl rfl (by kernel_rfl) rfl (Sure.fieldAddr rfl) ?_
      refine GD.val 7 rfl rfl rfl rfl (by kernel_rfl) rfl (Sure.loadAgg rfl (by first | exact Rd.h0 | exact Rd.tl Rd.h0 | exact Rd.tl (Rd.tl Rd.h0) | exact Rd.tl (Rd.tl (Rd.tl Rd.h0)) | exact Rd.tl (Rd.tl (Rd.tl (Rd.tl Rd.h0))) | exact Rd.tl (Rd.tl (Rd.tl (Rd.tl (Rd.tl Rd.h0)))) | exact Rd.m (by assumption) | assumption) rfl) ?_
      refine GD.one 8 (by kernel_rfl) rfl rfl (by kernel_rfl) ?_
      refine Next.call 8 rfl rfl rfl (by kernel_rfl) (by kernel_rfl) rfl rfl rfl rfl (first_spec M2 1 s hs (by rw [hsv]; exact staR_ok) (by rw [hsv]; omega)) (Split.nil) ?_
      rintro v1 M3 Hs1 le3 hown
      refine ⟨(by intro p hp; simp_all), ?_⟩
      refine GD.donateOwn hown PickL.here (by intro p hp; simp_all) ?_
      rintro M4 p4 c4 le4 rfl hs4
      rw [hsv] at hs4 ⊢
      refine GD.one 9 (by kernel_rfl) rfl rfl (by kernel_rfl) ?_
      refine Next.dyn 9 rfl rfl rfl (by kernel_rfl) (by kernel_rfl) rfl (Dyn.assign rfl ?_)
      refine ⟨MLe.refl _, (by first | exact Incl.refl _ | exact Incl.nil _ | exact Incl.cons (by simp) (Incl.nil _) | exact Incl.cons (by simp) (Incl.cons (by simp) (Incl.nil _)) | exact Incl.cons (by simp) (Incl.cons (by simp) (Incl.cons (by simp) (Incl.nil _)))), ?_⟩
      refine GD.done (by kernel_rfl) (by kernel_rfl) ?_
      refine C.seq ?_
      refine C.region_seq ?_
      refine G.value rfl rfl rfl (Sure.move rfl) ?_
      refine G.value rfl rfl rfl (Sure.move rfl) ?_
      refine G.value rfl rfl rfl (Sure.nilCheck rfl) ?_
      refine G.value rfl rfl rfl (Sure.fieldAddr rfl) ?_
      refine G.value rfl rfl rfl (Sure.load rfl (by first | exact Rd.h0 | exact Rd.tl Rd.h0 | exact Rd.tl (Rd.tl Rd.h0) | exact Rd.tl (Rd.tl (Rd.tl Rd.h0)) | exact Rd.tl (Rd.tl (Rd.tl (Rd.tl Rd.h0))) | exact Rd.tl (Rd.tl (Rd.tl (Rd.tl (Rd.tl Rd.h0)))) | exact Rd.m (by assumption) | assumption) rfl) ?_
      refine G.value rfl rfl rfl (Sure.move rfl) ?_
      refine G.call rfl rfl rfl rfl rfl rfl (append_spec M4 ad _ 0 0 p4 c4 (firstB 1 staR) hoki (by omega) (by omega) hs4 (by omega)) (Split.cons (.there .here) (Split.cons (.there .here) (Split.cons (.there .here) (Split.cons (.there .here) Split.nil)))) ?_
      rintro _ M5 _ le5 ⟨rfl, rfl⟩
      rw [← hfm]
      refine G.value rfl rfl rfl (Sure.assign rfl) ?_
      refine G.nil ?_
      refine C.region_seq ?_
      refine G.value rfl rfl rfl (Sure.move rfl) ?_
      refine G.value rfl rfl rfl (Sure.neq rfl rfl) ?_
      refine G.nil ?_
      refine C.cond_dec rfl (fun hne => ?_) (fun hne => ?_)
      · refine C.region_seq ?_
        refine G.value rfl rfl rfl (Sure.move rfl) ?_
        refine G.value rfl rfl rfl (Sure.assign rfl) ?_
        refine G.value rfl rfl rfl (Sure.assign rfl) ?_
        refine G.nil ?_
        refine C.ret ?_
        refine Fin.th_ret ?_
        exact Fin.fn (Res.tmp2 rfl rfl rfl) (Split.one PickL.here) (.inl ⟨rfl, hne, rfl⟩)
      · refine C.skip ?_
        refine Fin.th ?_
        refine C.region_seq ?_
        refine G.value rfl rfl rfl (Sure.move rfl) ?_
        refine G.value rfl rfl rfl (Sure.move rfl) ?_
        refine G.value rfl rfl rfl (Sure.len_slice rfl) ?_
        refine G.call rfl rfl rfl rfl rfl rfl (size_spec M5 (firstB 1 staR).length (by omega)) (Split.nil) ?_
        rintro _ M6 _ le6 ⟨rfl, rfl⟩
        refine G.value rfl rfl rfl (Sure.nilCheck rfl) ?_
        refine G.value rfl rfl rfl (Sure.fieldAddr rfl) ?_
        refine G.dyn0 rfl rfl ?_
        refine Dyn.store rfl rfl (by first | exact Pick.here | exact Pick.there Pick.here | exact Pick.there (Pick.there Pick.here) | exact Pick.there (Pick.there (Pick.there Pick.here)) | exact Pick.there (Pick.there (Pick.there (Pick.there Pick.here))) | exact Pick.there (Pick.there (Pick.there (Pick.there (Pick.there Pick.here))))) rfl rfl ?_
        refine G.nil ?_
        refine C.region_seq ?_
        refine G.value rfl rfl rfl (Sure.move rfl) ?_
        refine G.value rfl rfl rfl (Sure.assign rfl) ?_
        refine G.value rfl rfl rfl (Sure.assign rfl) ?_
        refine G.nil ?_
        refine C.ret ?_
        exact Fin.fn (Res.tmp2 rfl rfl rfl) (Split.cons .here (Split.cons .here (Split.cons .here (Split.cons .here (Split.cons .here Split.nil))))) (.inr ⟨b22, s, rfl, by omega, hsv, hs.mono (le3.trans (le4.trans (le5.trans le6))), rfl⟩)
theorem jstate_spec (M : Mem) (jb : Nat) (cb : Nat) (j : Jr) (s : StaD) (hs : SOk M s) (hk : StaOk s.v) :
    Spec Try.prog 10 [ptr jb] M [(jb, .cells (jrL cb j s))] (fun v M' H => H = [(jb, .cells (jrL cb j s))] ∧ RetSta s.v v M' []) := by
  refine Spec.of_code 11 Try.func10 rfl callable10 rfl rfl fun w => ?_
  refine C.region_seq ?_
  refine G.dyn rfl rfl rfl ?_
  refine Dyn.allocAgg ?_
  intro b2
  refine G.nil ?_
  refine C.seq ?_
  refine C.region_seq ?_
  refine G.value rfl rfl rfl (Sure.move rfl) ?_
  refine G.value rfl rfl rfl (ptr_eq_f rfl rfl) ?_
  refine G.nil ?_
  refine C.cond_false rfl ?_
  refine C.skip ?_
  refine Fin.th ?_
  refine C.region_seq ?_
  refine G.value rfl rfl rfl (Sure.move rfl) ?_
  refine G.value rfl rfl rfl (Sure.nilCheck rfl) ?_
  refine G.value rfl rfl rfl (Sure.fieldAddr rfl) ?_
  refine G.value rfl rfl rfl (Sure.loadAgg rfl (by first | exact Rd.h0 | exact Rd.tl Rd.h0 | exact Rd.tl (Rd.tl Rd.h0) | exact Rd.tl (Rd.tl (Rd.tl Rd.h0)) | exact Rd.tl (Rd.tl (Rd.tl (Rd.tl Rd.h0))) | exact Rd.tl (Rd.tl (Rd.tl (Rd.tl (Rd.tl Rd.h0)))) | exact Rd.m (by assumption) | assumption) rfl) ?_
  refine G.call rfl rfl rfl rfl rfl rfl (apply_spec M s Option.none 0 [] hs hk ⟨⟨by simp, Sl.empty⟩, by simp⟩ (by simp) (by simp)) (Split.nil) ?_
  rintro _ M3 _ le3 ⟨rfl, s', hv', rfl, hs'⟩
  refine G.dyn0 rfl rfl ?_
  refine Dyn.storeAgg rfl rfl (by first | exact Pick.here | exact Pick.there Pick.here | exact Pick.there (Pick.there Pick.here) | exact Pick.there (Pick.there (Pick.there Pick.here)) | exact Pick.there (Pick.there (Pick.there (Pick.there Pick.here))) | exact Pick.there (Pick.there (Pick.there (Pick.there (Pick.there Pick.here))))) rfl rfl rfl ?_
  refine G.nil ?_
  refine C.ret ?_
  exact Fin.fn (Res.cellAgg rfl rfl (by first | exact Rd.h0 | exact Rd.tl Rd.h0 | exact Rd.tl (Rd.tl Rd.h0) | exact Rd.tl (Rd.tl (Rd.tl Rd.h0)) | exact Rd.tl (Rd.tl (Rd.tl (Rd.tl Rd.h0))) | exact Rd.tl (Rd.tl (Rd.tl (Rd.tl (Rd.tl Rd.h0)))) | exact Rd.m (by assumption) | assumption) rfl) (Split.cons (.there .here) Split.nil) ⟨rfl, rfl, s', hv', rfl, hs'⟩
end Go.Proofs.Ytaeeahcokiebdaa
