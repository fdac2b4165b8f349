/-
  The walks of a journal: its room, and its state in the other half.
-/
import Derived.Test.YtaeeahcokiebdaaWx
namespace Go.Proofs.Ytaeeahcokiebdaa
set_option maxRecDepth 20000

/-- A journal, but for its state. -/
structure Jr where
  half : Nat
  epoch : Int
  used : Nat
  ended : Bool
abbrev jrL (cb : Nat) (j : Jr) (s : StaD) : List Value := [ptr cb, .int .i64 j.half, .int .i64 j.epoch, .int .i64 j.used, intV s.next, .slice s.pi s.inos.length s.ci, .slice s.pb s.bad.length s.cb, .bool j.ended]
structure JOk (j : Jr) (g : Geo) : Prop where
  half : j.half < 2
  epoch : 0 ≤ j.epoch ∧ j.epoch ≤ 2147483647
  used : j.used ≤ hsz g
/-- Half of a chip's sectors. -/
def nsec (g : Geo) : Nat := (g.sectors / 2).toNat
theorem room_spec (M : Mem) (jb : Nat) (ad : Ad) (ch : Chip) (j : Jr) (s : StaD) (hok : ChipOk ad ch) : Spec Try.prog 28 [ptr jb] M [(jb, .cells (jrL ad.cb j s)), (ad.cb, .cells (chipL ad ch))]
    (fun v _ H => v = .int .i64 (hsz ch.g) ∧ H = [(jb, .cells (jrL ad.cb j s)), (ad.cb, .cells (chipL ad ch))]) := by
  obtain ⟨hz, hz1, hz2, hz3⟩ := hsz_int hok.geo
  refine Spec.of_code 9 Try.func28 rfl callable28 rfl rfl fun w => ?_
  refine C.region_seq ?_
  refine G.value rfl rfl rfl (Sure.assign rfl) ?_
  refine G.nil ?_
  refine C.region_seq ?_
  refine G.value rfl rfl rfl (Sure.move rfl) ?_
  refine G.value rfl rfl rfl (Sure.nilCheck rfl) ?_
  refine G.value rfl rfl rfl (Sure.fieldAddr rfl) ?_
  refine G.value rfl rfl rfl (Sure.load rfl (by first | exact Rd.h0 | exact Rd.tl Rd.h0 | exact Rd.tl (Rd.tl Rd.h0) | exact Rd.tl (Rd.tl (Rd.tl Rd.h0)) | exact Rd.tl (Rd.tl (Rd.tl (Rd.tl Rd.h0))) | exact Rd.tl (Rd.tl (Rd.tl (Rd.tl (Rd.tl Rd.h0)))) | exact Rd.m (by assumption) | assumption) rfl) ?_
  refine G.call rfl rfl rfl rfl rfl rfl (chip_geometry_spec M ad ch) (Split.cons (.there .here) Split.nil) ?_
  rintro _ M3 _ le3 ⟨rfl, rfl⟩
  refine G.call rfl rfl rfl rfl rfl rfl (half_size_spec M3 ch.g hok.geo) (Split.nil) ?_
  rintro _ M4 _ le4 ⟨rfl, rfl⟩
  rw [← hz]
  refine G.value rfl rfl rfl (Sure.assign rfl) ?_
  refine G.nil ?_
  refine C.ret ?_
  exact Fin.fn (Res.tmp rfl rfl) (Split.cons (.there .here) (Split.cons .here Split.nil)) ⟨rfl, rfl⟩
/-- A state is written into the other half. -/
def anewC (ch : Chip) (j : Jr) (s : Sta) : Chip × Int :=
  if hsz ch.g < (firstB (j.epoch + 1) s).length + 7 ∨ 2147483647 ≤ j.epoch then (ch, 10)
  else if (wipeN (nsec ch.g) (1 - j.half) (nsec ch.g) ch).2 ≠ 0 then wipeN (nsec ch.g) (1 - j.half) (nsec ch.g) ch
  else (wipeN (nsec ch.g) (1 - j.half) (nsec ch.g) ch).1.append (1 - j.half) 0 (firstB (j.epoch + 1) s)
/-- What the journal is then. -/
def anewJ (ch : Chip) (j : Jr) (s : Sta) : Jr :=
  if hsz ch.g < (firstB (j.epoch + 1) s).length + 7 ∨ 2147483647 ≤ j.epoch then j
  else if (anewC ch j s).2 ≠ 0 then { j with ended := true }
  else { j with half := 1 - j.half, epoch := j.epoch + 1, used := (firstB (j.epoch + 1) s).length + 7 }
/-- Which of two states it has then. -/
def anewS {α : Type} (ch : Chip) (j : Jr) (s : Sta) (old new : α) : α := if (anewC ch j s).2 ≠ 0 then old else new
theorem append_ok {ad : Ad} {ch : Chip} (hok : ChipOk ad ch) (h at_ : Nat) (b : List UInt8) : ChipOk ad (ch.append h at_ b).1 ∧ (ch.append h at_ b).1.g = ch.g := by
  unfold Chip.append
  split
  · exact ⟨hok, rfl⟩
  · split
    · exact ⟨hok, rfl⟩
    · have h1 := hok.program (at_ + h * hsz ch.g) (bodyB b)
      split
      · exact h1
      · have h2 := h1.1.program (at_ + h * hsz ch.g + (bodyB b).length) [0]
        exact ⟨h2.1, h2.2.trans h1.2⟩
theorem anew_spec (M : Mem) (jb : Nat) (ad : Ad) (ch : Chip) (j : Jr) (s0 s : StaD) (hok : ChipOk ad ch) (hj : JOk j ch.g) (hs : SOk M s) (hk : StaOk s.v) (hb : (deedsB (whole s.v)).length ≤ 10000000) :
    Spec Try.prog 29 [ptr jb, .agg (staDL s).toArray] M ((jb, .cells (jrL ad.cb j s0)) :: chipH ad ch)
      (fun v _ H => v = .int .i64 (anewC ch j s.v).2 ∧ H = (jb, .cells (jrL ad.cb (anewJ ch j s.v) (anewS ch j s.v s0 s))) :: chipH ad (anewC ch j s.v).1) := by
  have hfl : (firstB (j.epoch + 1) s.v).length = 8 + (deedsB (whole s.v)).length := by simp [firstB]
  have hep := hj.epoch
  have hhf := hj.half
  refine Spec.of_code 76 Try.func29 rfl callable29 rfl rfl fun w => ?_
  refine C.region_seq ?_
  refine G.dyn rfl rfl rfl ?_
  refine Dyn.boxAgg rfl ?_
  intro b3
  refine G.value rfl rfl rfl (Sure.assign rfl) ?_
  refine G.nil ?_
  -- draws its order
  refine C.draw_seq (_) mixed (by kernel_rfl) (Incl.refl _) ?_
  refine GD.val 0 rfl rfl rfl rfl (by kernel_rfl) rfl (Sure.move rfl) ?_
  refine GD.val 1 rfl rfl rfl rfl (by kernel_rfl) rfl (Sure.nilCheck rfl) ?_
  refine GD.val 2 rfl rfl rfl rfl (by kernel_rfl) rfl (Sure.fieldAddr rfl) ?_
  refine GD.val 3 rfl rfl rfl rfl (by kernel_rfl) rfl (Sure.load rfl (by first | exact Rd.h0 | exact Rd.tl Rd.h0 | exact Rd.tl (Rd.tl Rd.h0) | exact Rd.tl (Rd.tl (Rd.tl Rd.h0)) | exact Rd.tl (Rd.tl (Rd.tl (Rd.tl Rd.h0))) | exact Rd.tl (Rd.tl (Rd.tl (Rd.tl (Rd.tl Rd.h0)))) | exact Rd.m (by assumption) | assumption) rfl) ?_
  refine GD.val 4 rfl rfl rfl rfl (by kernel_rfl) rfl (Sure.sub rfl rfl (inK64 (by omega))) ?_
  refine GD.val 5 rfl rfl rfl rfl (by kernel_rfl) rfl (Sure.move rfl) ?_
  refine GD.val 6 rfl rfl rfl rfl (by kernel_rfl) rfl (Sure.nilCheck rfl) ?_
  refine GD.val 7 rfl rfl rfl rfl (by kernel_rfl) rfl (Sure.fieldAddr rfl) ?_
  refine GD.val 8 rfl rfl rfl rfl (by kernel_rfl) rfl (Sure.load rfl (by first | exact Rd.h0 | exact Rd.tl Rd.h0 | exact Rd.tl (Rd.tl Rd.h0) | exact Rd.tl (Rd.tl (Rd.tl Rd.h0)) | exact Rd.tl (Rd.tl (Rd.tl (Rd.tl Rd.h0))) | exact Rd.tl (Rd.tl (Rd.tl (Rd.tl (Rd.tl Rd.h0)))) | exact Rd.m (by assumption) | assumption) rfl) ?_
  refine GD.val 9 rfl rfl rfl rfl (by kernel_rfl) rfl (Sure.add rfl rfl (inK64 (by omega))) ?_
  refine GD.val 10 rfl rfl rfl rfl (by kernel_rfl) rfl (Sure.loadAgg rfl (by first | exact Rd.h0 | exact Rd.tl Rd.h0 | exact Rd.tl (Rd.tl Rd.h0) | exact Rd.tl (Rd.tl (Rd.tl Rd.h0)) | exact Rd.tl (Rd.tl (Rd.tl (Rd.tl Rd.h0))) | exact Rd.tl (Rd.tl (Rd.tl (Rd.tl (Rd.tl Rd.h0)))) | exact Rd.m (by assumption) | assumption) rfl) ?_
  refine GD.one 11 (by kernel_rfl) rfl rfl (by kernel_rfl) ?_
  refine Next.call 11 rfl rfl rfl (by kernel_rfl) (by kernel_rfl) rfl rfl rfl rfl (first_spec M (j.epoch + 1) s hs hk hb) (Split.nil) ?_
  rintro v1 M1 Hs1 le1 hown
  refine ⟨(by intro p hp; simp_all), ?_⟩
  refine GD.donateOwn hown PickL.here (Incl.refl _) ?_
  rintro M2 p2 c2 le2 rfl hs2
  refine GD.one 12 (by kernel_rfl) rfl rfl (by kernel_rfl) ?_
  refine Next.dyn 12 rfl rfl rfl (by kernel_rfl) (by kernel_rfl) rfl (Dyn.assign rfl ?_)
  refine ⟨MLe.refl _, (by first | exact Incl.refl _ | exact Incl.nil _ | exact Incl.cons (by simp) (Incl.nil _) | exact Incl.cons (by simp) (Incl.cons (by simp) (Incl.nil _)) | exact Incl.cons (by simp) (Incl.cons (by simp) (Incl.cons (by simp) (Incl.nil _)))), ?_⟩
  refine GD.one 13 (by kernel_rfl) rfl rfl (by kernel_rfl) ?_
  refine Next.dyn 13 rfl rfl rfl (by kernel_rfl) (by kernel_rfl) rfl (Dyn.assign rfl ?_)
  refine ⟨MLe.refl _, (by first | exact Incl.refl _ | exact Incl.nil _ | exact Incl.cons (by simp) (Incl.nil _) | exact Incl.cons (by simp) (Incl.cons (by simp) (Incl.nil _)) | exact Incl.cons (by simp) (Incl.cons (by simp) (Incl.cons (by simp) (Incl.nil _)))), ?_⟩
  refine GD.done (by kernel_rfl) (by kernel_rfl) ?_
  refine C.seq ?_
  refine C.region_seq ?_
  refine G.value rfl rfl rfl (Sure.move rfl) ?_
  refine G.value rfl rfl rfl (Sure.len_slice rfl) ?_
  rw [show (1 : Int) - (j.half : Int) = ((1 - j.half : Nat) : Int) from by omega]
  refine G.call rfl rfl rfl rfl rfl rfl (size_spec M2 (firstB (j.epoch + 1) s.v).length (by omega)) (Split.nil) ?_
  rintro _ M3 _ le3 ⟨rfl, rfl⟩
  refine G.value rfl rfl rfl (Sure.move rfl) ?_
  refine G.call rfl rfl rfl rfl rfl rfl (room_spec M3 jb ad ch j s0 hok) (Split.cons (.there .here) (Split.cons (.there .here) Split.nil)) ?_
  rintro _ M4 _ le4 ⟨rfl, rfl⟩
  refine G.value rfl rfl rfl (Sure.gtr rfl rfl) ?_
  refine G.value rfl rfl rfl (Sure.move rfl) ?_
  refine G.splitD (d := 26) rfl (fun hbig => ?_) (fun hbig => ?_)
  · refine G.skip rfl rfl rfl ?_
    refine G.skip rfl rfl rfl ?_
    refine G.skip rfl rfl rfl ?_
    refine G.skip rfl rfl rfl ?_
    refine G.skip rfl rfl rfl ?_
    refine G.value rfl rfl rfl (Sure.pick_true rfl rfl) ?_
    refine G.nil ?_
    refine C.cond_true rfl ?_
    refine C.region_seq ?_
    refine G.value rfl rfl rfl (Sure.assign rfl) ?_
    refine G.nil ?_
    refine C.ret ?_
    refine Fin.th_ret ?_
    refine Fin.fn (Res.tmp rfl rfl) (Split.cons .here (Split.cons .here (Split.cons (.there .here) (Split.cons (.there .here) (Split.cons (.there .here) Split.nil))))) ?_
    unfold anewS anewJ anewC
    rw [if_pos (by omega), if_pos (by omega)]
    exact ⟨rfl, rfl⟩
  · refine G.value rfl rfl rfl (Sure.move rfl) ?_
    refine G.value rfl rfl rfl (Sure.nilCheck rfl) ?_
    refine G.value rfl rfl rfl (Sure.fieldAddr rfl) ?_
    refine G.value rfl rfl rfl (Sure.load rfl (by first | exact Rd.h0 | exact Rd.tl Rd.h0 | exact Rd.tl (Rd.tl Rd.h0) | exact Rd.tl (Rd.tl (Rd.tl Rd.h0)) | exact Rd.tl (Rd.tl (Rd.tl (Rd.tl Rd.h0))) | exact Rd.tl (Rd.tl (Rd.tl (Rd.tl (Rd.tl Rd.h0)))) | exact Rd.m (by assumption) | assumption) rfl) ?_
    refine G.value rfl rfl rfl (Sure.geq rfl rfl) ?_
    refine G.value rfl rfl rfl (Sure.pick_false rfl rfl) ?_
    refine G.nil ?_
    refine C.cond_dec rfl (fun hmax => ?_) (fun hmax => ?_)
    · refine C.region_seq ?_
      refine G.value rfl rfl rfl (Sure.assign rfl) ?_
      refine G.nil ?_
      refine C.ret ?_
      refine Fin.th_ret ?_
      refine Fin.fn (Res.tmp rfl rfl) (Split.cons .here (Split.cons .here (Split.cons (.there .here) (Split.cons (.there .here) (Split.cons (.there .here) Split.nil))))) ?_
      unfold anewS anewJ anewC
      rw [if_pos (by omega), if_pos (by omega)]
      exact ⟨rfl, rfl⟩
    · have hno : ¬ (hsz ch.g < (firstB (j.epoch + 1) s.v).length + 7 ∨ 2147483647 ≤ j.epoch) := by omega
      have hJ : anewJ ch j s.v = if (anewC ch j s.v).2 ≠ 0 then { j with ended := true } else { j with half := 1 - j.half, epoch := j.epoch + 1, used := (firstB (j.epoch + 1) s.v).length + 7 } := by unfold anewJ; rw [if_neg hno]
      have hC : anewC ch j s.v = if (wipeN (nsec ch.g) (1 - j.half) (nsec ch.g) ch).2 ≠ 0 then wipeN (nsec ch.g) (1 - j.half) (nsec ch.g) ch else (wipeN (nsec ch.g) (1 - j.half) (nsec ch.g) ch).1.append (1 - j.half) 0 (firstB (j.epoch + 1) s.v) := by unfold anewC; rw [if_neg hno]
      have hns : ch.g.sectors = 2 * (nsec ch.g : Int) := by have := hok.geo.even; have := hok.geo.s; unfold nsec; omega
      have hhs : (1 - j.half) * nsec ch.g ≤ nsec ch.g := by rcases (by omega : 1 - j.half = 0 ∨ 1 - j.half = 1) with h | h <;> rw [h] <;> omega
      have hw := wipeN_ok (n := nsec ch.g) (h := 1 - j.half) (nsec ch.g) hok (Nat.le_refl _) (by omega)
      refine C.skip ?_
      refine Fin.th ?_
      refine C.region_seq ?_
      refine G.value rfl rfl rfl (Sure.move rfl) ?_
      refine G.value rfl rfl rfl (Sure.nilCheck rfl) ?_
      refine G.value rfl rfl rfl (Sure.fieldAddr rfl) ?_
      refine G.value rfl rfl rfl (Sure.load rfl (by first | exact Rd.h0 | exact Rd.tl Rd.h0 | exact Rd.tl (Rd.tl Rd.h0) | exact Rd.tl (Rd.tl (Rd.tl Rd.h0)) | exact Rd.tl (Rd.tl (Rd.tl (Rd.tl Rd.h0))) | exact Rd.tl (Rd.tl (Rd.tl (Rd.tl (Rd.tl Rd.h0)))) | exact Rd.m (by assumption) | assumption) rfl) ?_
      refine G.value rfl rfl rfl (Sure.move rfl) ?_
      refine G.call rfl rfl rfl rfl rfl rfl (wipe_spec M4 ad ch (nsec ch.g) (1 - j.half) hok hns (by omega)) (Split.cons (.there .here) (Split.cons (.there (.there .here)) (Split.cons (.there (.there .here)) (Split.cons (.there (.there .here)) Split.nil)))) ?_
      rintro _ M5 _ le5 ⟨rfl, rfl⟩
      refine G.value rfl rfl rfl (Sure.assign rfl) ?_
      refine G.nil ?_
      refine C.seq ?_
      refine C.region_seq ?_
      refine G.value rfl rfl rfl (Sure.move rfl) ?_
      refine G.value rfl rfl rfl (Sure.eql rfl rfl) ?_
      refine G.nil ?_
      refine C.cond_dec rfl (fun hwok => ?_) (fun hwok => ?_)
      · have hwok : (wipeN (nsec ch.g) (1 - j.half) (nsec ch.g) ch).2 = 0 := hwok
        rw [if_neg (by omega)] at hC
        refine C.region ?_
        refine G.value rfl rfl rfl (Sure.move rfl) ?_
        refine G.value rfl rfl rfl (Sure.nilCheck rfl) ?_
        refine G.value rfl rfl rfl (Sure.fieldAddr rfl) ?_
        refine G.value rfl rfl rfl (Sure.load rfl (by first | exact Rd.h0 | exact Rd.tl Rd.h0 | exact Rd.tl (Rd.tl Rd.h0) | exact Rd.tl (Rd.tl (Rd.tl Rd.h0)) | exact Rd.tl (Rd.tl (Rd.tl (Rd.tl Rd.h0))) | exact Rd.tl (Rd.tl (Rd.tl (Rd.tl (Rd.tl Rd.h0)))) | exact Rd.m (by assumption) | assumption) rfl) ?_
        refine G.value rfl rfl rfl (Sure.move rfl) ?_
        refine G.value rfl rfl rfl (Sure.move rfl) ?_
        refine G.call rfl rfl rfl rfl rfl rfl (append_spec M5 ad _ (1 - j.half) 0 p2 c2 (firstB (j.epoch + 1) s.v) hw.1 (by omega) (by omega) (SB.mono hs2 (le3.trans (le4.trans le5))) (by omega)) ((Split.cons .here (Split.cons .here (Split.cons .here (Split.cons .here Split.nil))))) ?_
        rintro _ M6 _ le6 ⟨rfl, rfl⟩
        rw [← hC]
        refine G.value rfl rfl rfl (Sure.assign rfl) ?_
        refine G.nil ?_
        refine Fin.th ?_
        refine C.seq ?_
        refine C.region_seq ?_
        refine G.value rfl rfl rfl (Sure.move rfl) ?_
        refine G.value rfl rfl rfl (Sure.neq rfl rfl) ?_
        refine G.nil ?_
        refine C.cond_dec rfl (fun hne => ?_) (fun hne => ?_)
        · have hne : (anewC ch j s.v).2 ≠ 0 := hne
          rw [if_pos hne] at hJ
          have hS : anewS ch j s.v s0 s = s0 := by unfold anewS; rw [if_pos hne]
          rw [hJ, hS]
          refine C.region_seq ?_
          refine G.value rfl rfl rfl (Sure.move rfl) ?_
          refine G.value rfl rfl rfl (Sure.nilCheck rfl) ?_
          refine G.value rfl rfl rfl (Sure.fieldAddr rfl) ?_
          refine G.dyn0 rfl rfl ?_
          refine Dyn.store rfl rfl (by first | exact Pick.here | exact Pick.there Pick.here | exact Pick.there (Pick.there Pick.here) | exact Pick.there (Pick.there (Pick.there Pick.here)) | exact Pick.there (Pick.there (Pick.there (Pick.there Pick.here))) | exact Pick.there (Pick.there (Pick.there (Pick.there (Pick.there Pick.here))))) rfl rfl ?_
          refine G.nil ?_
          refine C.region_seq ?_
          refine G.value rfl rfl rfl (Sure.move rfl) ?_
          refine G.value rfl rfl rfl (Sure.assign rfl) ?_
          refine G.nil ?_
          refine C.ret ?_
          refine Fin.th_ret ?_
          exact Fin.fn (Res.tmp rfl rfl) (Split.cons .here (Split.cons .here (Split.cons .here (Split.cons .here (Split.cons .here Split.nil))))) ⟨rfl, rfl⟩
        · have hne : ¬ (anewC ch j s.v).2 ≠ 0 := hne
          rw [if_neg hne] at hJ
          have hS : anewS ch j s.v s0 s = s := by unfold anewS; rw [if_neg hne]
          have h0 : (anewC ch j s.v).2 = 0 := by omega
          rw [hJ, hS, h0]
          refine C.skip ?_
          refine Fin.th ?_
          -- draws its order
          refine C.draw_seq (_) mixed (by kernel_rfl) (Incl.refl _) ?_
          refine GD.val 0 rfl rfl rfl rfl (by kernel_rfl) rfl (Sure.move rfl) ?_
          refine GD.val 1 rfl rfl rfl rfl (by kernel_rfl) rfl (Sure.move rfl) ?_
          refine GD.val 2 rfl rfl rfl rfl (by kernel_rfl) rfl (Sure.move rfl) ?_
          refine GD.val 3 rfl rfl rfl rfl (by kernel_rfl) rfl (Sure.move rfl) ?_
          refine GD.val 4 rfl rfl rfl rfl (by kernel_rfl) rfl (Sure.move rfl) ?_
          refine GD.val 5 rfl rfl rfl rfl (by kernel_rfl) rfl (Sure.move rfl) ?_
          refine GD.val 6 rfl rfl rfl rfl (by kernel_rfl) rfl (Sure.nilCheck rfl) ?_
          refine GD.val 7 rfl rfl rfl rfl (by kernel_rfl) rfl (Sure.fieldAddr rfl) ?_
          refine GD.val 8 rfl rfl rfl rfl (by kernel_rfl) rfl (Sure.load rfl (by first | exact Rd.h0 | exact Rd.tl Rd.h0 | exact Rd.tl (Rd.tl Rd.h0) | exact Rd.tl (Rd.tl (Rd.tl Rd.h0)) | exact Rd.tl (Rd.tl (Rd.tl (Rd.tl Rd.h0))) | exact Rd.tl (Rd.tl (Rd.tl (Rd.tl (Rd.tl Rd.h0)))) | exact Rd.m (by assumption) | assumption) rfl) ?_
          refine GD.val 9 rfl rfl rfl rfl (by kernel_rfl) rfl (Sure.add rfl rfl (inK64 (by omega))) ?_
          refine GD.val 10 rfl rfl rfl rfl (by kernel_rfl) rfl (Sure.move rfl) ?_
          refine GD.val 11 rfl rfl rfl rfl (by kernel_rfl) rfl (Sure.len_slice rfl) ?_
          refine GD.val 13 rfl rfl rfl rfl (by kernel_rfl) rfl (Sure.loadAgg rfl (by first | exact Rd.h0 | exact Rd.tl Rd.h0 | exact Rd.tl (Rd.tl Rd.h0) | exact Rd.tl (Rd.tl (Rd.tl Rd.h0)) | exact Rd.tl (Rd.tl (Rd.tl (Rd.tl Rd.h0))) | exact Rd.tl (Rd.tl (Rd.tl (Rd.tl (Rd.tl Rd.h0)))) | exact Rd.m (by assumption) | assumption) rfl) ?_
          refine GD.one 12 (by kernel_rfl) rfl rfl (by kernel_rfl) ?_
          refine Next.call 12 rfl rfl rfl (by kernel_rfl) (by kernel_rfl) rfl rfl rfl rfl (size_spec M6 (firstB (j.epoch + 1) s.v).length (by omega)) (Split.nil) ?_
          rintro _ M7 _ le7 ⟨rfl, rfl⟩
          refine ⟨(by intro p hp; simp_all), ?_⟩
          refine GD.val 14 rfl rfl rfl rfl (by kernel_rfl) rfl (Sure.nilCheck rfl) ?_
          refine GD.val 15 rfl rfl rfl rfl (by kernel_rfl) rfl (Sure.fieldAddr rfl) ?_
          refine GD.one 16 (by kernel_rfl) rfl rfl (by kernel_rfl) ?_
          refine Next.dyn0P 16 ([(b3, .cells (staDL s))]) rfl rfl (by kernel_rfl) (by kernel_rfl) rfl (⟨.inl (by kernel_rfl), ⟨.inr ⟨_, rfl, .inl ⟨rfl, Sure.nilCheck rfl⟩⟩, ⟨.inr ⟨_, rfl, .inl ⟨rfl, Sure.loadAgg rfl (by first | exact Rd.h0 | exact Rd.tl Rd.h0 | exact Rd.tl (Rd.tl Rd.h0) | exact Rd.tl (Rd.tl (Rd.tl Rd.h0)) | exact Rd.tl (Rd.tl (Rd.tl (Rd.tl Rd.h0))) | exact Rd.tl (Rd.tl (Rd.tl (Rd.tl (Rd.tl Rd.h0)))) | exact Rd.m (by assumption) | assumption) rfl⟩⟩, ⟨.inr ⟨_, rfl, .inl ⟨rfl, Sure.len_slice rfl⟩⟩, ⟨.inr ⟨_, rfl, .inl ⟨rfl, Sure.move rfl⟩⟩, ⟨.inr ⟨_, rfl, .inl ⟨rfl, Sure.add rfl rfl (inK64 (by omega))⟩⟩, ⟨.inl (by kernel_rfl), ⟨.inr ⟨_, rfl, .inl ⟨rfl, Sure.fieldAddr rfl⟩⟩, ⟨.inr ⟨_, rfl, .inl ⟨rfl, Sure.nilCheck rfl⟩⟩, ⟨.inr ⟨_, rfl, .inl ⟨rfl, Sure.move rfl⟩⟩, ⟨.inl (by kernel_rfl), ⟨.inr ⟨_, rfl, .inl ⟨rfl, Sure.move rfl⟩⟩, ⟨.inr ⟨_, rfl, .inl ⟨rfl, Sure.move rfl⟩⟩, ⟨.inr ⟨_, rfl, .inl ⟨rfl, Sure.move rfl⟩⟩, ⟨.inl (by kernel_rfl), trivial⟩⟩⟩⟩⟩⟩⟩⟩⟩⟩⟩⟩⟩⟩⟩) ?_
          refine Dyn.store rfl rfl (.there (.there (.there (.there .here)))) rfl rfl ?_
          refine ⟨MLe.refl _, (by intro p hp; simp_all), ?_⟩
          refine GD.val 17 rfl rfl rfl rfl (by kernel_rfl) rfl (Sure.nilCheck rfl) ?_
          refine GD.val 18 rfl rfl rfl rfl (by kernel_rfl) rfl (Sure.fieldAddr rfl) ?_
          refine GD.one 19 (by kernel_rfl) rfl rfl (by kernel_rfl) ?_
          refine Next.dyn0 19 rfl rfl (by kernel_rfl) (by kernel_rfl) rfl ?_
          refine Dyn.store rfl rfl (by first | exact Pick.here | exact Pick.there Pick.here | exact Pick.there (Pick.there Pick.here) | exact Pick.there (Pick.there (Pick.there Pick.here)) | exact Pick.there (Pick.there (Pick.there (Pick.there Pick.here))) | exact Pick.there (Pick.there (Pick.there (Pick.there (Pick.there Pick.here))))) rfl rfl ?_
          refine ⟨MLe.refl _, (by first | exact Incl.refl _ | exact Incl.nil _ | exact Incl.cons (by simp) (Incl.nil _) | exact Incl.cons (by simp) (Incl.cons (by simp) (Incl.nil _)) | exact Incl.cons (by simp) (Incl.cons (by simp) (Incl.cons (by simp) (Incl.nil _)))), ?_⟩
          refine GD.val 20 rfl rfl rfl rfl (by kernel_rfl) rfl (Sure.nilCheck rfl) ?_
          refine GD.val 21 rfl rfl rfl rfl (by kernel_rfl) rfl (Sure.fieldAddr rfl) ?_
          refine GD.one 22 (by kernel_rfl) rfl rfl (by kernel_rfl) ?_
          refine Next.dyn0 22 rfl rfl (by kernel_rfl) (by kernel_rfl) rfl ?_
          refine Dyn.store rfl rfl (by first | exact Pick.here | exact Pick.there Pick.here | exact Pick.there (Pick.there Pick.here) | exact Pick.there (Pick.there (Pick.there Pick.here)) | exact Pick.there (Pick.there (Pick.there (Pick.there Pick.here))) | exact Pick.there (Pick.there (Pick.there (Pick.there (Pick.there Pick.here))))) rfl rfl ?_
          refine ⟨MLe.refl _, (by first | exact Incl.refl _ | exact Incl.nil _ | exact Incl.cons (by simp) (Incl.nil _) | exact Incl.cons (by simp) (Incl.cons (by simp) (Incl.nil _)) | exact Incl.cons (by simp) (Incl.cons (by simp) (Incl.cons (by simp) (Incl.nil _)))), ?_⟩
          refine GD.val 23 rfl rfl rfl rfl (by kernel_rfl) rfl (Sure.nilCheck rfl) ?_
          refine GD.val 24 rfl rfl rfl rfl (by kernel_rfl) rfl (Sure.fieldAddr rfl) ?_
          refine GD.one 25 (by kernel_rfl) rfl rfl (by kernel_rfl) ?_
          refine Next.dyn0 25 rfl rfl (by kernel_rfl) (by kernel_rfl) rfl ?_
          refine Dyn.storeAgg rfl rfl (by first | exact Pick.here | exact Pick.there Pick.here | exact Pick.there (Pick.there Pick.here) | exact Pick.there (Pick.there (Pick.there Pick.here)) | exact Pick.there (Pick.there (Pick.there (Pick.there Pick.here))) | exact Pick.there (Pick.there (Pick.there (Pick.there (Pick.there Pick.here))))) rfl rfl rfl ?_
          refine ⟨MLe.refl _, (by first | exact Incl.refl _ | exact Incl.nil _ | exact Incl.cons (by simp) (Incl.nil _) | exact Incl.cons (by simp) (Incl.cons (by simp) (Incl.nil _)) | exact Incl.cons (by simp) (Incl.cons (by simp) (Incl.cons (by simp) (Incl.nil _)))), ?_⟩
          refine GD.done (by kernel_rfl) (by kernel_rfl) ?_
          refine C.region_seq ?_
          refine G.value rfl rfl rfl (Sure.assign rfl) ?_
          refine G.nil ?_
          refine C.ret ?_
          exact Fin.fn (Res.tmp rfl rfl) (Split.cons .here (Split.cons .here (Split.cons .here (Split.cons .here (Split.cons .here Split.nil))))) ⟨rfl, rfl⟩
      · have hwno : (wipeN (nsec ch.g) (1 - j.half) (nsec ch.g) ch).2 ≠ 0 := hwok
        rw [if_pos hwno] at hC
        rw [← hC] at hwno ⊢
        rw [if_pos hwno] at hJ
        have hS : anewS ch j s.v s0 s = s0 := by unfold anewS; rw [if_pos hwno]
        rw [hJ, hS]
        refine C.skip ?_
        refine Fin.th ?_
        refine C.seq ?_
        refine C.region_seq ?_
        refine G.value rfl rfl rfl (Sure.move rfl) ?_
        refine G.value rfl rfl rfl ((Sure.neq rfl rfl).to_t hwno) ?_
        refine G.nil ?_
        refine C.cond_true rfl ?_
        refine C.region_seq ?_
        refine G.value rfl rfl rfl (Sure.move rfl) ?_
        refine G.value rfl rfl rfl (Sure.nilCheck rfl) ?_
        refine G.value rfl rfl rfl (Sure.fieldAddr rfl) ?_
        refine G.dyn0 rfl rfl ?_
        refine Dyn.store rfl rfl (by first | exact Pick.here | exact Pick.there Pick.here | exact Pick.there (Pick.there Pick.here) | exact Pick.there (Pick.there (Pick.there Pick.here)) | exact Pick.there (Pick.there (Pick.there (Pick.there Pick.here))) | exact Pick.there (Pick.there (Pick.there (Pick.there (Pick.there Pick.here))))) rfl rfl ?_
        refine G.nil ?_
        refine C.region_seq ?_
        refine G.value rfl rfl rfl (Sure.move rfl) ?_
        refine G.value rfl rfl rfl (Sure.assign rfl) ?_
        refine G.nil ?_
        refine C.ret ?_
        refine Fin.th_ret ?_
        exact Fin.fn (Res.tmp rfl rfl) (Split.cons .here (Split.cons .here (Split.cons .here (Split.cons .here (Split.cons .here Split.nil))))) ⟨rfl, rfl⟩
end Go.Proofs.Ytaeeahcokiebdaa
