/-
  The walk of the writing of a record.
  Conditions: the chip is as it should be, the place lies within it.
-/
import Derived.Test.YtaeeahcokiebdaaWo
namespace Go.Proofs.Ytaeeahcokiebdaa
set_option maxRecDepth 20000

/-- How many bytes a half has, as a natural number. -/
def hsz (g : Geo) : Nat := (halfSize g).toNat
theorem hsz_int {g : Geo} (h : GeoOk g) : (hsz g : Int) = halfSize g ∧ 256 ≤ hsz g ∧ hsz g ≤ 32768 ∧ ((2 * hsz g : Nat) : Int) ≤ g.sectors * g.sector := by
  have hs := h.s
  have hz := h.z
  have hm : 1 * 256 ≤ g.sectors / 2 * g.sector ∧ g.sectors / 2 * g.sector ≤ 8 * 4096 := ⟨Int.mul_le_mul (by omega) (by omega) (by omega) (by omega), Int.mul_le_mul (by omega) (by omega) (by omega) (by omega)⟩
  have h3 : (2 * (g.sectors / 2)) * g.sector ≤ g.sectors * g.sector := Int.mul_le_mul_of_nonneg_right (by omega) (by omega)
  rw [Int.mul_assoc] at h3
  unfold hsz halfSize
  refine ⟨by omega, by omega, by omega, by omega⟩
/-- The writing of a record. -/
def Chip.append (ch : Chip) (h at_ : Nat) (b : List UInt8) : Chip × Int :=
  if 65000 < b.length then (ch, 21)
  else if hsz ch.g < at_ + b.length + 7 then (ch, 10)
  else if (ch.program (at_ + h * hsz ch.g) (bodyB b)).2 ≠ 0 then ch.program (at_ + h * hsz ch.g) (bodyB b)
  else (ch.program (at_ + h * hsz ch.g) (bodyB b)).1.program (at_ + h * hsz ch.g + (bodyB b).length) [0]
theorem program_len (ch : Chip) (at_ : Nat) (bs : List UInt8) : (ch.program at_ bs).1.b.length = ch.b.length := by
  unfold Chip.program
  split
  · rfl
  · exact (prog_keep bs ch at_).2
theorem append_spec (M : Mem) (ad : Ad) (ch : Chip) (h at_ : Nat) (p : Option Addr) (cap : Nat) (b : List UInt8) (hok : ChipOk ad ch) (hh : h < 2) (hat : at_ ≤ hsz ch.g) (hs : SB M p b) (hl : b.length ≤ 100000000) :
    Spec Try.prog 18 [ptr ad.cb, .int .i64 h, .int .i64 at_, .slice p b.length cap] M (chipH ad ch) (fun v _ H => v = .int .i64 (ch.append h at_ b).2 ∧ H = chipH ad (ch.append h at_ b).1) := by
  obtain ⟨hz, hz1, hz2, hz3⟩ := hsz_int hok.geo
  have hlen := hok.len
  have hhz : h * hsz ch.g ≤ hsz ch.g := by rcases (by omega : h = 0 ∨ h = 1) with rfl | rfl <;> omega
  have hhi : ((h * hsz ch.g : Nat) : Int) = (h : Int) * (hsz ch.g : Int) := Int.natCast_mul _ _
  refine Spec.of_code 60 Try.func18 rfl callable18 rfl rfl fun w => ?_
  refine C.region_seq ?_
  refine G.value rfl rfl rfl (Sure.assign rfl) ?_
  refine G.nil ?_
  refine C.seq ?_
  refine C.region_seq ?_
  refine G.value rfl rfl rfl (Sure.move rfl) ?_
  refine G.value rfl rfl rfl (Sure.move rfl) ?_
  refine G.call rfl rfl rfl rfl rfl rfl (half_ask_spec M ad.cb h (by omega)) (Split.nil) ?_
  rintro _ M1 _ le1 ⟨rfl, rfl⟩
  refine G.value rfl rfl rfl (Sure.assign rfl) ?_
  refine G.nil ?_
  refine C.region_seq ?_
  refine G.value rfl rfl rfl (Sure.move rfl) ?_
  refine G.value rfl rfl rfl ((Sure.neq rfl rfl).to_f (by simp)) ?_
  refine G.nil ?_
  refine C.cond_false rfl ?_
  refine C.skip ?_
  refine Fin.th ?_
  refine C.seq ?_
  refine C.region_seq ?_
  refine G.value rfl rfl rfl (Sure.move rfl) ?_
  refine G.value rfl rfl rfl ((Sure.lss rfl rfl).to_f (by omega)) ?_
  refine G.nil ?_
  refine C.cond_false rfl ?_
  refine C.skip ?_
  refine Fin.th ?_
  refine C.region_seq ?_
  refine G.value rfl rfl rfl (Sure.move rfl) ?_
  refine G.call rfl rfl rfl rfl rfl rfl (body_spec M1 p cap b (hs.mono le1) hl) (Split.nil) ?_
  rintro _ M2 _ le2 ⟨rfl, q, c, rfl, hq⟩
  refine G.value rfl rfl rfl (Sure.move rfl) ?_
  refine G.value rfl rfl rfl (Sure.extract rfl rfl) ?_
  refine G.value rfl rfl rfl (Sure.extract rfl rfl) ?_
  refine G.value rfl rfl rfl (Sure.assign rfl) ?_
  refine G.value rfl rfl rfl (Sure.assign rfl) ?_
  refine G.nil ?_
  refine C.region_seq ?_
  refine G.value rfl rfl rfl (Sure.move rfl) ?_
  refine G.call rfl rfl rfl rfl rfl rfl (chip_geometry_spec M2 ad ch) (Split.cons .here Split.nil) ?_
  rintro _ M3 _ le3 ⟨rfl, rfl⟩
  refine G.call rfl rfl rfl rfl rfl rfl (half_size_spec M3 ch.g hok.geo) (Split.nil) ?_
  rintro _ M4 _ le4 ⟨rfl, rfl⟩
  rw [← hz]
  refine G.value rfl rfl rfl (Sure.assign rfl) ?_
  refine G.nil ?_
  refine C.seq ?_
  refine C.block ?_
  refine C.region_seq ?_
  refine G.value rfl rfl rfl (Sure.move rfl) ?_
  refine G.value rfl rfl rfl (Sure.neq rfl rfl) ?_
  refine G.value rfl rfl rfl (Sure.assign rfl) ?_
  refine G.nil ?_
  refine C.cond_dec rfl (fun hbig => ?_) (fun hbig => ?_)
  · have hb : 65000 < b.length := by
      rcases Nat.lt_or_ge 65000 b.length with h | h
      · exact h
      · rw [if_pos h] at hbig; exact absurd rfl hbig
    rw [if_neg (by omega)]
    refine C.region_seq ?_
    refine G.value rfl rfl rfl (Sure.move rfl) ?_
    refine G.value rfl rfl rfl (Sure.assign rfl) ?_
    refine G.nil ?_
    refine C.ret ?_
    refine Fin.blk_ret ?_
    refine Fin.th_ret ?_
    refine Fin.fn (Res.tmp rfl rfl) (Split.cons .here (Split.cons .here (Split.cons .here (Split.cons .here Split.nil)))) ?_
    unfold Chip.append
    rw [if_pos hb]
    exact ⟨rfl, rfl⟩
  · have hb : b.length ≤ 65000 := by
      rcases Nat.lt_or_ge 65000 b.length with h | h
      · rw [if_neg (by omega)] at hbig; exact absurd (by decide) hbig
      · exact h
    have hq := hq hb
    have hbl := bodyB_len b
    rw [if_pos hb, if_pos hb]
    refine C.region_seq ?_
    refine G.value rfl rfl rfl (Sure.move rfl) ?_
    refine G.value rfl rfl rfl (Sure.move rfl) ?_
    refine G.value rfl rfl rfl (Sure.move rfl) ?_
    refine G.value rfl rfl rfl (Sure.len_slice rfl) ?_
    refine G.call rfl rfl rfl rfl rfl rfl (size_spec M4 b.length (by omega)) (Split.nil) ?_
    rintro _ M5 _ le5 ⟨rfl, rfl⟩
    refine G.value rfl rfl rfl (Sure.sub rfl rfl (inK64 (by omega))) ?_
    refine G.value rfl rfl rfl (Sure.gtr rfl rfl) ?_
    refine G.value rfl rfl rfl (Sure.assign rfl) ?_
    refine G.nil ?_
    refine C.cond_dec rfl (fun hsp => ?_) (fun hsp => ?_)
    · refine C.region_seq ?_
      refine G.value rfl rfl rfl (Sure.assign rfl) ?_
      refine G.nil ?_
      refine C.ret ?_
      refine Fin.blk_ret ?_
      refine Fin.th_ret ?_
      refine Fin.fn (Res.tmp rfl rfl) (Split.cons .here (Split.cons .here (Split.cons .here (Split.cons .here Split.nil)))) ?_
      unfold Chip.append
      rw [if_neg (by omega), if_pos (by omega)]
      exact ⟨rfl, rfl⟩
    · have hap : ch.append h at_ b = if (ch.program (at_ + h * hsz ch.g) (bodyB b)).2 ≠ 0 then ch.program (at_ + h * hsz ch.g) (bodyB b)
          else (ch.program (at_ + h * hsz ch.g) (bodyB b)).1.program (at_ + h * hsz ch.g + (bodyB b).length) [0] := by
        unfold Chip.append
        rw [if_neg (by omega), if_neg (by omega)]
      refine C.skip ?_
      refine Fin.blk ?_
      refine Fin.th ?_
      refine C.region_seq ?_
      refine G.value rfl rfl rfl (Sure.move rfl) ?_
      refine G.value rfl rfl rfl (Sure.move rfl) ?_
      refine G.value rfl rfl rfl (Sure.move rfl) ?_
      refine G.value rfl rfl rfl (Sure.mul rfl rfl (inK64 (by omega))) ?_
      refine G.value rfl rfl rfl (Sure.add rfl rfl (inK64 (by omega))) ?_
      rw [show (at_ : Int) + (h : Int) * (hsz ch.g : Int) = ((at_ + h * hsz ch.g : Nat) : Int) from by omega]
      refine G.value rfl rfl rfl (Sure.assign rfl) ?_
      refine G.nil ?_
      refine C.seq ?_
      refine C.region_seq ?_
      refine G.value rfl rfl rfl (Sure.move rfl) ?_
      refine G.value rfl rfl rfl (Sure.move rfl) ?_
      refine G.value rfl rfl rfl (Sure.move rfl) ?_
      refine G.call rfl rfl rfl rfl rfl rfl (program_spec M5 ad ch (at_ + h * hsz ch.g) q c (bodyB b) hok (hq.mono (le3.trans (le4.trans le5))) (by omega)) ((Split.cons .here (Split.cons .here (Split.cons .here (Split.cons .here Split.nil))))) ?_
      rintro _ M6 _ le6 ⟨rfl, rfl⟩
      refine G.value rfl rfl rfl (Sure.assign rfl) ?_
      refine G.nil ?_
      refine C.region_seq ?_
      refine G.value rfl rfl rfl (Sure.move rfl) ?_
      refine G.value rfl rfl rfl (Sure.neq rfl rfl) ?_
      refine G.nil ?_
      obtain ⟨hok2, hg2⟩ := hok.program (at_ + h * hsz ch.g) (bodyB b)
      have hpl := program_len ch (at_ + h * hsz ch.g) (bodyB b)
      refine C.cond_dec rfl (fun hne => ?_) (fun hne => ?_)
      · rw [if_pos hne] at hap
        rw [hap]
        refine C.region_seq ?_
        refine G.value rfl rfl rfl (Sure.move rfl) ?_
        refine G.value rfl rfl rfl (Sure.assign rfl) ?_
        refine G.nil ?_
        refine C.ret ?_
        refine Fin.th_ret ?_
        exact Fin.fn (Res.tmp rfl rfl) (Split.cons .here (Split.cons .here (Split.cons .here (Split.cons .here Split.nil)))) ⟨rfl, rfl⟩
      · rw [if_neg hne] at hap
        rw [hap]
        refine C.skip ?_
        refine Fin.th ?_
        refine C.region_seq ?_
        refine G.value rfl rfl rfl (Sure.move rfl) ?_
        refine G.value rfl rfl rfl (Sure.move rfl) ?_
        refine G.value rfl rfl rfl (Sure.move rfl) ?_
        refine G.value rfl rfl rfl (Sure.len_slice rfl) ?_
        refine G.value rfl rfl rfl (Sure.add rfl rfl (inK64 (by omega))) ?_
        refine G.dyn rfl rfl rfl ?_
        refine Dyn.buildSlice rfl rfl rfl (by simp [vcl]) (by decide) ?_
        intro b7
        refine G.donate fun M7 le7 hM7 => ?_
        rw [show ((at_ + h * hsz ch.g : Nat) : Int) + ((bodyB b).length : Int) = ((at_ + h * hsz ch.g + (bodyB b).length : Nat) : Int) from by omega]
        refine G.call rfl rfl rfl rfl rfl rfl (program_spec M7 ad _ (at_ + h * hsz ch.g + (bodyB b).length) (some ⟨b7, 0, Option.none⟩) 1 [0] hok2 ⟨rfl, fun _ => ⟨b7, 0, _, rfl, Rd.m hM7, rfl⟩⟩ (by simp; omega)) ((Split.cons .here (Split.cons .here (Split.cons .here (Split.cons .here Split.nil))))) ?_
        rintro _ M8 _ le8 ⟨rfl, rfl⟩
        refine G.value rfl rfl rfl (Sure.assign rfl) ?_
        refine G.nil ?_
        refine C.ret ?_
        exact Fin.fn (Res.tmp rfl rfl) (Split.cons .here (Split.cons .here (Split.cons .here (Split.cons .here Split.nil)))) ⟨rfl, rfl⟩
end Go.Proofs.Ytaeeahcokiebdaa
