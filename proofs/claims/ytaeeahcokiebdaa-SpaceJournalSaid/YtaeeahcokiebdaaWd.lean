/-
  The walk of the erasing of a sector.
  Conditions: the chip is as it should be; the sector is one of its.
-/
import Derived.Test.YtaeeahcokiebdaaWc
namespace Go.Proofs.Ytaeeahcokiebdaa
set_option maxRecDepth 20000

def orAt (b : List UInt8) (lo n : Nat) (m : UInt8) : List UInt8 := b.take lo ++ (((b.drop lo).take n).map (· ||| m) ++ b.drop (lo + n))
theorem orAt_len (b : List UInt8) (lo n : Nat) (m : UInt8) (h : lo + n ≤ b.length) : (orAt b lo n m).length = b.length := by
  simp [orAt]; omega
def Chip.erase (ch : Chip) (s : Nat) : Chip × Int :=
  if ch.pw.step.2.1 then ({ ch with pw := ch.pw.step.1, b := orAt ch.b (ch.lo s) ch.z 255, er := cntPut ch.er s (IntKind.i64.wrap (cntGet ch.er s + 1)) }, 0)
  else if ch.pw.step.2.2 then ({ ch with pw := ch.pw.step.1, b := orAt ch.b (ch.lo s) ch.z ch.pw.mask }, 6)
  else ({ ch with pw := ch.pw.step.1 }, 6)
theorem ChipOk.erase {ad ch} (h : ChipOk ad ch) {s : Nat} (hs : (s : Int) < ch.g.sectors) : ChipOk ad (ch.erase s).1 := by
  obtain ⟨hz, hlo, hhi, hle, hz1, hz2, hs16⟩ := h.sector hs
  have hl := fun m => orAt_len ch.b (ch.lo s) ch.z m hle
  unfold Chip.erase
  split
  · exact ⟨h.geo, by simpa [hl] using h.len, by simpa [hl] using h.cap, h.pw.step⟩
  · split
    · exact ⟨h.geo, by simpa [hl] using h.len, by simpa [hl] using h.cap, h.pw.step⟩
    · exact ⟨h.geo, h.len, h.cap, h.pw.step⟩
theorem Pw.step_mask (p : Pw) : p.step.1.mask = p.mask := by
  unfold Pw.step; split
  · rfl
  · split <;> rfl
theorem Pw.step_cases (p : Pw) : p.step.2 = (true, false) ∨ p.step.2 = (false, true) ∨ p.step.2 = (false, false) := by
  unfold Pw.step; split
  · exact .inr (.inr rfl)
  · split
    · exact .inr (.inl rfl)
    · exact .inl rfl
theorem cut3 (b : List UInt8) (lo n : Nat) (j : List Value) : b.map byteV ++ j = (b.take lo).map byteV ++ (((b.drop lo).take n).map byteV ++ ((b.drop (lo + n)).map byteV ++ j)) := by
  have : b = b.take lo ++ ((b.drop lo).take n ++ b.drop (lo + n)) := by
    rw [← List.drop_drop, List.take_append_drop, List.take_append_drop]
  conv => lhs; rw [this]
  simp
theorem set_at (M : Mem) (ad : Ad) (b : List UInt8) (lo n cap : Nat) (m : UInt8) (h : lo + n ≤ b.length) (hn : n ≤ 100000) :
    Spec Try.prog 56 [.slice (some ⟨ad.bb, lo, Option.none⟩) n cap, byteV m] M [(ad.bb, .cells (b.map byteV ++ ad.junk))] (fun _ _ H => H = [(ad.bb, .cells ((orAt b lo n m).map byteV ++ ad.junk))]) := by
  have hl : ((b.drop lo).take n).length = n := by simp; omega
  have := set_spec M ad.bb lo cap ((b.take lo).map byteV) ((b.drop (lo + n)).map byteV ++ ad.junk) ((b.drop lo).take n) m (by omega) (by simp; omega)
  rw [hl, ← cut3] at this
  refine this.mono fun v M' H' _ hp => ?_
  rw [hp]
  simp [orAt]
theorem cntGet_touch (l : Cnt) (k : Int) : cntGet (cntTouch l k) k = cntGet l k := by
  unfold cntTouch
  cases h : l.findIdx? fun p => p.1 == k with
  | some i => rfl
  | none =>
    unfold cntGet
    have hn : l.find? (fun p => p.1 == k) = Option.none := by
      rw [List.find?_eq_none]
      intro x hx
      have := List.findIdx?_eq_none_iff.1 h x hx
      simpa using this
    simp only
    rw [List.find?_append, hn]
    simp
theorem erase_spec (M : Mem) (ad : Ad) (ch : Chip) (s : Nat) (h : ChipOk ad ch) (hs : (s : Int) < ch.g.sectors) :
    Spec Try.prog 35 [ptr ad.cb, .int .i64 s] M (chipH ad ch) (fun v _ H => v = .int .i64 (ch.erase s).2 ∧ H = chipH ad (ch.erase s).1) := by
  obtain ⟨hz, hlo, hhi, hle, hz1, hz2, hs16⟩ := h.sector hs
  have hcap := h.cap
  have hsz := h.size
  refine Spec.of_code 48 Try.func35 rfl callable35 rfl rfl fun w => ?_
  refine C.region_seq ?_
  refine G.value rfl rfl rfl (Sure.assign rfl) ?_
  refine G.nil ?_
  refine C.region_seq ?_
  refine G.value rfl rfl rfl (Sure.move rfl) ?_
  refine G.value rfl rfl rfl (Sure.move rfl) ?_
  refine G.call rfl rfl rfl rfl rfl rfl (sector_spec M ad ch s h hs) (Split.cons Pick.here Split.nil) ?_
  rintro _ M1 _ le1 ⟨rfl, rfl⟩
  refine G.value rfl rfl rfl (Sure.assign rfl) ?_
  refine G.nil ?_
  refine C.seq ?_
  refine C.block ?_
  refine C.region_seq ?_
  refine G.value rfl rfl rfl (Sure.move rfl) ?_
  refine G.value rfl rfl rfl (ptr_eq_f rfl rfl) ?_
  refine G.value rfl rfl rfl (Sure.assign rfl) ?_
  refine G.nil ?_
  refine C.cond_false rfl ?_
  refine C.region_seq ?_
  refine G.value rfl rfl rfl (Sure.move rfl) ?_
  refine G.value rfl rfl rfl (Sure.slice_eq_nil rfl rfl) ?_
  refine G.value rfl rfl rfl (Sure.assign rfl) ?_
  refine G.nil ?_
  refine C.cond_false rfl ?_
  refine C.skip ?_
  refine Fin.blk ?_
  refine Fin.th ?_
  refine C.region_seq ?_
  refine G.value rfl rfl rfl (Sure.move rfl) ?_
  refine G.value rfl rfl rfl (Sure.nilCheck rfl) ?_
  refine G.value rfl rfl rfl (Sure.fieldAddr rfl) ?_
  refine G.value rfl rfl rfl (Sure.load rfl (by first | exact Rd.h0 | exact Rd.tl Rd.h0 | exact Rd.tl (Rd.tl Rd.h0) | exact Rd.tl (Rd.tl (Rd.tl Rd.h0)) | exact Rd.tl (Rd.tl (Rd.tl (Rd.tl Rd.h0))) | exact Rd.tl (Rd.tl (Rd.tl (Rd.tl (Rd.tl Rd.h0)))) | exact Rd.m (by assumption) | assumption) rfl) ?_
  refine G.call rfl rfl rfl rfl rfl rfl (pw_step_spec M1 ad.pb ch.pw ad.fv h.pw) (Split.cons (.there (.there (.there .here))) Split.nil) ?_
  rintro _ M2 _ le2 ⟨rfl, rfl⟩
  refine G.value rfl rfl rfl (Sure.move rfl) ?_
  refine G.value rfl rfl rfl (Sure.extract rfl rfl) ?_
  refine G.value rfl rfl rfl (Sure.extract rfl rfl) ?_
  refine G.value rfl rfl rfl (Sure.assign rfl) ?_
  refine G.value rfl rfl rfl (Sure.assign rfl) ?_
  refine G.nil ?_
  refine C.seq ?_
  refine C.block ?_
  refine C.region_seq ?_
  refine G.value rfl rfl rfl (Sure.move rfl) ?_
  refine G.value rfl rfl rfl (Sure.assign rfl) ?_
  refine G.nil ?_
  refine C.cond rfl (fun hd => ?_) (fun hd => ?_)
  · refine C.region_seq ?_
    refine G.value rfl rfl rfl (Sure.move rfl) ?_
    refine G.call rfl rfl rfl rfl rfl rfl (set_at M2 ad ch.b (ch.lo s) ch.z _ 255 hle (by omega)) (Split.cons (.there (.there .here)) Split.nil) ?_
    rintro _ M3 _ le3 rfl
    refine G.nil ?_
    -- draws its order
    refine C.draw_seq ([(ad.cb, .cells (chipL ad ch))]) mixed (by kernel_rfl) (by first | exact Incl.refl _ | exact Incl.nil _ | exact Incl.cons (by simp) (Incl.nil _) | exact Incl.cons (by simp) (Incl.cons (by simp) (Incl.nil _)) | exact Incl.cons (by simp) (Incl.cons (by simp) (Incl.cons (by simp) (Incl.nil _)))) ?_
    refine GD.val 0 rfl rfl rfl rfl (by kernel_rfl) rfl (Sure.move rfl) ?_
    refine GD.val 1 rfl rfl rfl rfl (by kernel_rfl) rfl (Sure.nilCheck rfl) ?_
    refine GD.val 2 rfl rfl rfl rfl (by kernel_rfl) rfl (Sure.fieldAddr rfl) ?_
    refine GD.val 3 rfl rfl rfl rfl (by kernel_rfl) rfl (Sure.load rfl (by first | exact Rd.h0 | exact Rd.tl Rd.h0 | exact Rd.tl (Rd.tl Rd.h0) | exact Rd.tl (Rd.tl (Rd.tl Rd.h0)) | exact Rd.tl (Rd.tl (Rd.tl (Rd.tl Rd.h0))) | exact Rd.tl (Rd.tl (Rd.tl (Rd.tl (Rd.tl Rd.h0)))) | exact Rd.m (by assumption) | assumption) rfl) ?_
    refine GD.val 4 rfl rfl rfl rfl (by kernel_rfl) rfl (Sure.move rfl) ?_
    refine GD.val 5 rfl rfl rfl rfl (by kernel_rfl) rfl (Sure.build rfl rfl) ?_
    refine GD.two 6 8 (by kernel_rfl) rfl rfl (by kernel_rfl) ?_ ?_
    · refine Next.dyn 6 rfl rfl rfl (by kernel_rfl) (by kernel_rfl) rfl ?_
      refine Dyn.lookupCnt cntTy rfl rfl (.there (.there (.there .here))) ?_
      refine ⟨MLe.refl _, (by first | exact Incl.refl _ | exact Incl.nil _ | exact Incl.cons (by simp) (Incl.nil _) | exact Incl.cons (by simp) (Incl.cons (by simp) (Incl.nil _)) | exact Incl.cons (by simp) (Incl.cons (by simp) (Incl.cons (by simp) (Incl.nil _)))), ?_⟩
      refine GD.val 7 rfl rfl rfl rfl (by kernel_rfl) rfl (Sure.add' rfl rfl) ?_
      refine GD.one 8 (by kernel_rfl) rfl rfl (by kernel_rfl) ?_
      refine Next.dyn 8 rfl rfl rfl (by kernel_rfl) (by kernel_rfl) rfl ?_
      refine Dyn.mapEntryCnt cntTy rfl rfl (.there (.there (.there .here))) ?_
      refine ⟨MLe.refl _, (by first | exact Incl.refl _ | exact Incl.nil _ | exact Incl.cons (by simp) (Incl.nil _) | exact Incl.cons (by simp) (Incl.cons (by simp) (Incl.nil _)) | exact Incl.cons (by simp) (Incl.cons (by simp) (Incl.cons (by simp) (Incl.nil _)))), ?_⟩
      refine GD.val 9 rfl rfl rfl rfl (by kernel_rfl) rfl (Sure.extract rfl rfl) ?_
      refine GD.one 10 (by kernel_rfl) rfl rfl (by kernel_rfl) ?_
      refine Next.dyn0 10 rfl rfl (by kernel_rfl) (by kernel_rfl) rfl ?_
      refine Dyn.entryStoreCnt rfl rfl rfl Pick.here ?_
      refine ⟨MLe.refl _, (by first | exact Incl.refl _ | exact Incl.nil _ | exact Incl.cons (by simp) (Incl.nil _) | exact Incl.cons (by simp) (Incl.cons (by simp) (Incl.nil _)) | exact Incl.cons (by simp) (Incl.cons (by simp) (Incl.cons (by simp) (Incl.nil _)))), ?_⟩
      refine GD.done (by kernel_rfl) (by kernel_rfl) ?_
      refine C.region_seq ?_
      refine G.value rfl rfl rfl (Sure.assign rfl) ?_
      refine G.nil ?_
      refine C.ret ?_
      refine Fin.blk_ret ?_
      refine Fin.th_ret ?_
      refine Fin.fn (Res.tmp rfl rfl) (R := []) (Split.cons (.there (.there (.there .here))) (Split.cons (.there .here) (Split.cons .here (Split.cons .here Split.nil)))) ?_
      simp [Chip.erase, hd, orAt_len _ _ _ _ hle]
    · refine Next.dyn 8 rfl rfl rfl (by kernel_rfl) (by kernel_rfl) rfl ?_
      refine Dyn.mapEntryCnt cntTy rfl rfl (.there (.there (.there .here))) ?_
      refine ⟨MLe.refl _, (by first | exact Incl.refl _ | exact Incl.nil _ | exact Incl.cons (by simp) (Incl.nil _) | exact Incl.cons (by simp) (Incl.cons (by simp) (Incl.nil _)) | exact Incl.cons (by simp) (Incl.cons (by simp) (Incl.cons (by simp) (Incl.nil _)))), ?_⟩
      refine GD.val 9 rfl rfl rfl rfl (by kernel_rfl) rfl (Sure.extract rfl rfl) ?_
      refine GD.one 6 (by kernel_rfl) rfl rfl (by kernel_rfl) ?_
      refine Next.dyn 6 rfl rfl rfl (by kernel_rfl) (by kernel_rfl) rfl ?_
      refine Dyn.lookupCnt cntTy rfl rfl .here ?_
      refine ⟨MLe.refl _, (by first | exact Incl.refl _ | exact Incl.nil _ | exact Incl.cons (by simp) (Incl.nil _) | exact Incl.cons (by simp) (Incl.cons (by simp) (Incl.nil _)) | exact Incl.cons (by simp) (Incl.cons (by simp) (Incl.cons (by simp) (Incl.nil _)))), ?_⟩
      rw [cntGet_touch]
      refine GD.val 7 rfl rfl rfl rfl (by kernel_rfl) rfl (Sure.add' rfl rfl) ?_
      refine GD.one 10 (by kernel_rfl) rfl rfl (by kernel_rfl) ?_
      refine Next.dyn0 10 rfl rfl (by kernel_rfl) (by kernel_rfl) rfl ?_
      refine Dyn.entryStoreCnt rfl rfl rfl Pick.here ?_
      refine ⟨MLe.refl _, (by first | exact Incl.refl _ | exact Incl.nil _ | exact Incl.cons (by simp) (Incl.nil _) | exact Incl.cons (by simp) (Incl.cons (by simp) (Incl.nil _)) | exact Incl.cons (by simp) (Incl.cons (by simp) (Incl.cons (by simp) (Incl.nil _)))), ?_⟩
      refine GD.done (by kernel_rfl) (by kernel_rfl) ?_
      refine C.region_seq ?_
      refine G.value rfl rfl rfl (Sure.assign rfl) ?_
      refine G.nil ?_
      refine C.ret ?_
      refine Fin.blk_ret ?_
      refine Fin.th_ret ?_
      refine Fin.fn (Res.tmp rfl rfl) (R := []) (Split.cons (.there (.there (.there .here))) (Split.cons (.there .here) (Split.cons .here (Split.cons .here Split.nil)))) ?_
      simp [Chip.erase, hd, orAt_len _ _ _ _ hle]
  · refine C.region_seq ?_
    refine G.value rfl rfl rfl (Sure.move rfl) ?_
    refine G.value rfl rfl rfl (Sure.assign rfl) ?_
    refine G.nil ?_
    refine C.cond rfl (fun ht => ?_) (fun ht => ?_)
    · refine C.region ?_
      refine G.value rfl rfl rfl (Sure.move rfl) ?_
      refine G.value rfl rfl rfl (Sure.move rfl) ?_
      refine G.value rfl rfl rfl (Sure.nilCheck rfl) ?_
      refine G.value rfl rfl rfl (Sure.fieldAddr rfl) ?_
      refine G.value rfl rfl rfl (Sure.load rfl (by first | exact Rd.h0 | exact Rd.tl Rd.h0 | exact Rd.tl (Rd.tl Rd.h0) | exact Rd.tl (Rd.tl (Rd.tl Rd.h0)) | exact Rd.tl (Rd.tl (Rd.tl (Rd.tl Rd.h0))) | exact Rd.tl (Rd.tl (Rd.tl (Rd.tl (Rd.tl Rd.h0)))) | exact Rd.m (by assumption) | assumption) rfl) ?_
      refine G.call rfl rfl rfl rfl rfl rfl (pw_mask_spec M2 ad.pb ch.pw.step.1 ad.fv) (Split.cons .here Split.nil) ?_
      rintro _ M3 _ le3 ⟨rfl, rfl⟩
      rw [Pw.step_mask]
      refine G.call rfl rfl rfl rfl rfl rfl (set_at M3 ad ch.b (ch.lo s) ch.z _ ch.pw.mask hle (by omega)) (Split.cons (.there (.there .here)) Split.nil) ?_
      rintro _ M4 _ le4 rfl
      refine G.nil ?_
      refine Fin.blk ?_
      refine Fin.th ?_
      refine C.region_seq ?_
      refine G.value rfl rfl rfl (Sure.assign rfl) ?_
      refine G.nil ?_
      refine C.ret ?_
      refine Fin.fn (Res.tmp rfl rfl) (R := []) (Split.cons (.there (.there .here)) (Split.cons .here (Split.cons (.there .here) (Split.cons .here Split.nil)))) ?_
      simp [Chip.erase, hd, ht, orAt_len _ _ _ _ hle]
    · refine C.skip ?_
      refine Fin.blk ?_
      refine Fin.th ?_
      refine C.region_seq ?_
      refine G.value rfl rfl rfl (Sure.assign rfl) ?_
      refine G.nil ?_
      refine C.ret ?_
      refine Fin.fn (Res.tmp rfl rfl) (R := []) (Split.cons (.there .here) (Split.cons (.there .here) (Split.cons (.there .here) (Split.cons .here Split.nil)))) ?_
      simp [Chip.erase, hd, ht, orAt_len _ _ _ _ hle]
end Go.Proofs.Ytaeeahcokiebdaa
