/-
  The walk of programming bytes.
  Conditions: the chip is as it should be; the bytes lie within it.
-/
import Derived.Test.YtaeeahcokiebdaaWe
namespace Go.Proofs.Ytaeeahcokiebdaa
set_option maxRecDepth 20000

theorem ofInt_u8 (z : UInt8) : BitVec.ofInt IntKind.u8.bits (z.toNat : Int) = z.toBitVec := by
  apply BitVec.eq_of_toNat_eq
  simp [IntKind.bits]
theorem bits_and_u8 (x y : UInt8) : bits .and .u8 x.toNat y.toNat = ((x &&& y).toNat : Int) := by
  unfold bits
  simp only [ofInt_u8]
  exact IntWalk.u8_in ((x &&& y).toNat : Int) (by have := (x &&& y).toNat_lt; omega)
theorem bits_andNot_u8 (x y : UInt8) : bits .andNot .u8 x.toNat y.toNat = ((x &&& ~~~y).toNat : Int) := by
  unfold bits
  simp only [ofInt_u8]
  exact IntWalk.u8_in ((x &&& ~~~y).toNat : Int) (by have := (x &&& ~~~y).toNat_lt; omega)
theorem bytes_get {b : List UInt8} {j : List Value} {i : Nat} {x : UInt8} (h : b[i]? = some x) : (b.map byteV ++ j)[i]? = some (byteV x) := by
  have hl : i < b.length := (List.getElem?_eq_some_iff.1 h).1
  rw [List.getElem?_append_left (by simpa using hl), List.getElem?_map, h]; rfl
theorem bytes_set {b : List UInt8} {j : List Value} {i : Nat} {y : UInt8} (h : i < b.length) : setSeg (b.map byteV ++ j) i [byteV y] = some ((b.set i y).map byteV ++ j) := by
  rw [setSeg_eq (by simp; omega)]
  congr 1
  have : (b.set i y) = b.take i ++ y :: b.drop (i + 1) := by
    rw [List.set_eq_take_append_cons_drop, if_pos h]
  rw [this]
  have h1 : (List.map byteV b ++ j).take i = (b.take i).map byteV := by
    rw [List.take_append_of_le_length (by simp; omega), List.map_take]
  have h2 : (List.map byteV b ++ j).drop (i + 1) = (b.drop (i + 1)).map byteV ++ j := by
    rw [List.drop_append_of_le_length (by simp; omega), List.map_drop]
  simp [h1, h2]
theorem byteV_inj {x : UInt8} : ((x.toNat : Int) ≠ 0) ↔ x ≠ 0 := by
  constructor
  · intro h e; subst e; exact h rfl
  · intro h e; exact h (UInt8.toNat_inj.1 (by simpa using e))
/-- Would a bit have to be set? -/
def setsBit : List UInt8 → List UInt8 → Bool
  | x :: bs, y :: cs => (x &&& ~~~y) != 0 || setsBit bs cs
  | _, _ => false
/-- Bytes are written one by one, till power is off. -/
def Chip.prog (ch : Chip) (at_ : Nat) : List UInt8 → Chip × Int
  | [] => (ch, 0)
  | x :: bs =>
    if ch.pw.step.2.1 then Chip.prog { ch with pw := ch.pw.step.1, b := ch.b.set at_ x } (at_ + 1) bs
    else if ch.pw.step.2.2 then ({ ch with pw := ch.pw.step.1, b := ch.b.set at_ (x ||| (ch.b.getD at_ 0 &&& ch.pw.mask)) }, 6)
    else ({ ch with pw := ch.pw.step.1 }, 6)
def Chip.program (ch : Chip) (at_ : Nat) (bs : List UInt8) : Chip × Int :=
  if setsBit bs (ch.b.drop at_) then (ch, 9) else ch.prog at_ bs
theorem ask_spec (M : Mem) (ad : Ad) (ch : Chip) (a n : Int) (hr : 0 ≤ a ∧ 0 ≤ n ∧ a + n ≤ ch.b.length) (hb : ch.b.length ≤ 65536) : Spec Try.prog 60 [ptr ad.cb, .int .i64 a, .int .i64 n] M [(ad.cb, .cells (chipL ad ch))]
    (fun v _ H => v = .int .i64 0 ∧ H = [(ad.cb, .cells (chipL ad ch))]) := by
  refine Spec.of_code 28 Try.func60 rfl callable60 rfl rfl fun w => ?_
  refine C.region_seq ?_
  refine G.value rfl rfl rfl (Sure.assign rfl) ?_
  refine G.nil ?_
  refine C.seq ?_
  refine C.block ?_
  refine C.region_seq ?_
  refine G.value rfl rfl rfl (Sure.move rfl) ?_
  refine G.value rfl rfl rfl (ptr_eq_f rfl rfl) ?_
  refine G.value rfl rfl rfl (Sure.assign rfl) ?_
  refine G.nil ?_
  refine C.cond_false rfl ?_
  refine C.region_seq ?_
  refine G.value rfl rfl rfl (Sure.move rfl) ?_
  refine G.value rfl rfl rfl ((Sure.lss rfl rfl).to_f (by omega)) ?_
  refine G.value rfl rfl rfl (Sure.move rfl) ?_
  refine G.value rfl rfl rfl (Sure.move rfl) ?_
  refine G.value rfl rfl rfl ((Sure.lss rfl rfl).to_f (by omega)) ?_
  refine G.value rfl rfl rfl (Sure.pick_false rfl rfl) ?_
  refine G.value rfl rfl rfl (Sure.move rfl) ?_
  refine G.value rfl rfl rfl (Sure.move rfl) ?_
  refine G.value rfl rfl rfl (Sure.nilCheck rfl) ?_
  refine G.value rfl rfl rfl (Sure.fieldAddr rfl) ?_
  refine G.value rfl rfl rfl (Sure.load rfl (by first | exact Rd.h0 | exact Rd.tl Rd.h0 | exact Rd.tl (Rd.tl Rd.h0) | exact Rd.tl (Rd.tl (Rd.tl Rd.h0)) | exact Rd.tl (Rd.tl (Rd.tl (Rd.tl Rd.h0))) | exact Rd.tl (Rd.tl (Rd.tl (Rd.tl (Rd.tl Rd.h0)))) | exact Rd.m (by assumption) | assumption) rfl) ?_
  refine G.value rfl rfl rfl (Sure.len_slice rfl) ?_
  refine G.value rfl rfl rfl (Sure.move rfl) ?_
  refine G.value rfl rfl rfl (Sure.sub rfl rfl (inK64 (by omega))) ?_
  refine G.value rfl rfl rfl (Sure.move rfl) ?_
  refine G.value rfl rfl rfl ((Sure.lss rfl rfl).to_f (by omega)) ?_
  refine G.value rfl rfl rfl (Sure.pick_false rfl rfl) ?_
  refine G.value rfl rfl rfl (Sure.assign rfl) ?_
  refine G.nil ?_
  refine C.cond_false rfl ?_
  refine C.skip ?_
  refine Fin.blk ?_
  refine Fin.th ?_
  refine C.region_seq ?_
  refine G.value rfl rfl rfl (Sure.assign rfl) ?_
  refine G.nil ?_
  refine C.ret ?_
  exact Fin.fn (Res.tmp rfl rfl) (Split.cons .here Split.nil) ⟨rfl, rfl⟩
theorem prog_keep : ∀ (bs : List UInt8) (ch : Chip) (at_ : Nat), (ch.prog at_ bs).1.g = ch.g ∧ (ch.prog at_ bs).1.b.length = ch.b.length
  | [], ch, a => ⟨rfl, rfl⟩
  | x :: bs, ch, a => by
    unfold Chip.prog
    split
    · obtain ⟨h1, h2⟩ := prog_keep bs { ch with pw := ch.pw.step.1, b := ch.b.set a x } (a + 1)
      exact ⟨h1, by rw [h2]; simp⟩
    · split
      · exact ⟨rfl, by simp⟩
      · exact ⟨rfl, rfl⟩
theorem prog_pw : ∀ (bs : List UInt8) (ch : Chip) (at_ : Nat), PwOk ch.pw → PwOk (ch.prog at_ bs).1.pw
  | [], ch, a, h => h
  | x :: bs, ch, a, h => by
    unfold Chip.prog
    split
    · exact prog_pw bs _ (a + 1) h.step
    · split
      · exact h.step
      · exact h.step
theorem ChipOk.program {ad ch} (h : ChipOk ad ch) (at_ : Nat) (bs : List UInt8) : ChipOk ad (ch.program at_ bs).1 ∧ (ch.program at_ bs).1.g = ch.g := by
  unfold Chip.program
  split
  · exact ⟨h, rfl⟩
  · obtain ⟨h1, h2⟩ := prog_keep bs ch at_
    exact ⟨⟨by rw [h1]; exact h.geo, by rw [h1, h2]; exact h.len, by rw [h2]; exact h.cap, prog_pw bs ch at_ h.pw⟩, h1⟩
theorem drop_cons {α : Type} {l : List α} {i : Nat} {x : α} (h : l[i]? = some x) : l.drop i = x :: l.drop (i + 1) := by
  have hl : i < l.length := (List.getElem?_eq_some_iff.1 h).1
  rw [List.drop_eq_getElem_cons hl]
  congr 1
  rw [List.getElem?_eq_getElem hl] at h
  injection h
theorem chipH_set (ad : Ad) (ch : Chip) (pw : Pw) (i : Nat) (v : UInt8) : chipH ad { ch with pw := pw, b := ch.b.set i v } =
    [(ad.cb, .cells (chipL ad ch)), (ad.bb, .cells ((ch.b.set i v).map byteV ++ ad.junk)), (ad.eb, cntB ch.er), (ad.pb, .cells (pwL pw ad.fv))] := by
  simp
theorem program_spec (M : Mem) (ad : Ad) (ch : Chip) (at_ : Nat) (p : Option Addr) (cap : Nat) (bs : List UInt8) (hok : ChipOk ad ch) (hs : Sl M [] 1 p bs.length (bs.map byteV)) (hr : at_ + bs.length ≤ ch.b.length) :
    Spec Try.prog 39 [ptr ad.cb, .int .i64 at_, .slice p bs.length cap] M (chipH ad ch) (fun v _ H => v = .int .i64 (ch.program at_ bs).2 ∧ H = chipH ad (ch.program at_ bs).1) := by
  have hsz := hok.size
  have hcap := hok.cap
  refine Spec.of_code 91 Try.func39 rfl callable39 rfl rfl fun w => ?_
  refine C.region_seq ?_
  refine G.value rfl rfl rfl (Sure.assign rfl) ?_
  refine G.nil ?_
  refine C.seq ?_
  refine C.region_seq ?_
  refine G.value rfl rfl rfl (Sure.move rfl) ?_
  refine G.value rfl rfl rfl (Sure.move rfl) ?_
  refine G.value rfl rfl rfl (Sure.move rfl) ?_
  refine G.value rfl rfl rfl (Sure.len_slice rfl) ?_
  refine G.call rfl rfl rfl rfl rfl rfl (ask_spec M ad ch at_ bs.length (by omega) (by omega)) (Split.cons .here Split.nil) ?_
  rintro _ M1 _ le1 ⟨rfl, rfl⟩
  refine G.value rfl rfl rfl (Sure.assign rfl) ?_
  refine G.nil ?_
  refine C.region_seq ?_
  refine G.value rfl rfl rfl (Sure.move rfl) ?_
  refine G.value rfl rfl rfl ((Sure.neq rfl rfl).to_f (by simp)) ?_
  refine G.nil ?_
  refine C.cond_false rfl ?_
  refine C.skip ?_
  refine Fin.th ?_
  refine C.seq ?_
  refine C.region_seq ?_
  refine G.value rfl rfl rfl (Sure.move rfl) ?_
  refine G.value rfl rfl rfl (Sure.len_slice rfl) ?_
  refine G.value rfl rfl rfl (Sure.move rfl) ?_
  refine G.nil ?_
  refine C.block ?_
  refine C.loop (fun k E M' H => ∃ i : Nat, MLe M M' ∧ i + k = bs.length ∧ setsBit bs (ch.b.drop at_) = setsBit (bs.drop i) (ch.b.drop (at_ + i)) ∧ E = [(0, ptr ad.cb), (1, .int .i64 at_), (2, .slice p bs.length cap), (22, .slice p bs.length cap), (23, .int .i64 bs.length), (24, .int .i64 i)] ∧ H = chipH ad ch) (bs.length) ?_ ?_
  · exact ⟨_, _, ⟨0, le1, by omega, by simp, rfl, rfl⟩, ⟨rfl, rfl, rfl, rfl, rfl, rfl, trivial⟩, _, Split.cons .here (Split.cons .here (Split.cons .here (Split.cons .here Split.nil)))⟩
  · rintro k E M' H ⟨i, hle, hik, hbits, rfl, rfl⟩
    refine C.region_seq ?_
    refine G.value rfl rfl rfl (Sure.lss rfl rfl) ?_
    refine G.nil ?_
    refine C.seq ?_
    refine C.cond_dec rfl (fun hlt => ?_) (fun hlt => ?_)
    · have hib : i < bs.length := by omega
      have hxi : bs[i]? = some bs[i] := List.getElem?_eq_getElem hib
      have hyi : ch.b[at_ + i]? = some (ch.b[at_ + i]'(by omega)) := List.getElem?_eq_getElem (by omega)
      obtain ⟨b, o, c, rfl, hrd, hcell⟩ := Sl.cell (i := i) (v := byteV bs[i]) (hs.mono hle).heap (by rw [List.getElem?_map, hxi]; rfl)
      refine C.skip ?_
      refine Fin.th ?_
      refine C.seq ?_
      refine C.block ?_
      refine C.region_seq ?_
      refine G.value rfl rfl rfl (Sure.move rfl) ?_
      refine G.value rfl rfl rfl (Sure.indexAddr rfl rfl (by omega)) ?_
      refine G.value rfl rfl rfl (Sure.load rfl hrd (by simpa using hcell)) ?_
      refine G.value rfl rfl rfl (Sure.assign rfl) ?_
      refine G.value rfl rfl rfl (Sure.assign rfl) ?_
      refine G.nil ?_
      refine C.region_seq ?_
      refine G.value rfl rfl rfl (Sure.move rfl) ?_
      refine G.value rfl rfl rfl (Sure.move rfl) ?_
      refine G.value rfl rfl rfl (Sure.nilCheck rfl) ?_
      refine G.value rfl rfl rfl (Sure.fieldAddr rfl) ?_
      refine G.value rfl rfl rfl (Sure.load rfl (by first | exact Rd.h0 | exact Rd.tl Rd.h0 | exact Rd.tl (Rd.tl Rd.h0) | exact Rd.tl (Rd.tl (Rd.tl Rd.h0)) | exact Rd.tl (Rd.tl (Rd.tl (Rd.tl Rd.h0))) | exact Rd.tl (Rd.tl (Rd.tl (Rd.tl (Rd.tl Rd.h0)))) | exact Rd.m (by assumption) | assumption) rfl) ?_
      refine G.value rfl rfl rfl (Sure.move rfl) ?_
      refine G.value rfl rfl rfl (Sure.move rfl) ?_
      refine G.value rfl rfl rfl (Sure.add rfl rfl (inK64 (by omega))) ?_
      refine G.value rfl rfl rfl (Sure.indexAddr rfl rfl (by omega)) ?_
      refine G.value rfl rfl rfl (Sure.load rfl (Rd.tl Rd.h0) (by rw [show 0 + ((at_ : Int) + (i : Int)).toNat * 1 = at_ + i from by omega]; exact bytes_get hyi)) ?_
      refine G.value rfl rfl rfl (Sure.andNot rfl rfl) ?_
      refine G.value rfl rfl rfl (Sure.neq rfl rfl) ?_
      refine G.nil ?_
      rw [bits_andNot_u8]
      refine C.cond_dec rfl (fun hne => ?_) (fun hne => ?_)
      · refine C.region_seq ?_
        refine G.value rfl rfl rfl (Sure.assign rfl) ?_
        refine G.nil ?_
        refine C.ret ?_
        refine Fin.blk_ret ?_
        refine Fin.th_ret ?_
        refine Fin.th_ret ?_
        refine Fin.blk_ret ?_
        refine Fin.th_ret ?_
        refine Fin.fn (Res.tmp rfl rfl) (Split.cons .here (Split.cons .here (Split.cons .here (Split.cons .here Split.nil)))) ?_
        have hb : setsBit bs (ch.b.drop at_) = true := by
          rw [hbits, drop_cons hxi, drop_cons hyi]
          unfold setsBit
          simp [byteV_inj.1 hne]
        unfold Chip.program
        rw [if_pos hb]
        exact ⟨rfl, rfl⟩
      · refine C.skip ?_
        refine Fin.blk ?_
        refine Fin.th ?_
        refine C.region ?_
        refine G.value rfl rfl rfl (Sure.add rfl rfl (inK64 (by omega))) ?_
        refine G.value rfl rfl rfl (Sure.move rfl) ?_
        refine G.nil ?_
        refine Fin.th ?_
        refine ⟨k - 1, _, _, by omega, ⟨i + 1, hle, by omega, ?_, rfl, rfl⟩, ⟨rfl, rfl, rfl, rfl, rfl, rfl, trivial⟩, _, Split.cons .here (Split.cons .here (Split.cons .here (Split.cons .here Split.nil)))⟩
        rw [hbits, drop_cons hxi, drop_cons hyi]
        conv => lhs; unfold setsBit
        have h0 : bs[i] &&& ~~~(ch.b[at_ + i]'(by omega)) = 0 := Decidable.byContradiction fun hc => hne (byteV_inj.2 hc)
        simp [h0, Nat.add_assoc]
    · have hi : i = bs.length := by omega
      subst hi
      have hnb : setsBit bs (ch.b.drop at_) = false := by rw [hbits]; simp [setsBit]
      have hpg : ch.program at_ bs = ch.prog at_ bs := by unfold Chip.program; rw [hnb]; rfl
      rw [hpg]
      clear hbits hik
      refine C.exit ?_
      refine Fin.th_exit ?_
      refine Fin.th_exit ?_
      refine Fin.blk_eq ?_
      refine Fin.th ?_
      refine C.seq ?_
      refine C.region_seq ?_
      refine G.value rfl rfl rfl (Sure.move rfl) ?_
      refine G.value rfl rfl rfl (Sure.len_slice rfl) ?_
      refine G.value rfl rfl rfl (Sure.move rfl) ?_
      refine G.nil ?_
      refine C.block ?_
      refine C.loop (fun k E M' H => ∃ (i : Nat) (ch' : Chip), MLe M M' ∧ i + k = bs.length ∧ ChipOk ad ch' ∧ ch'.b.length = ch.b.length ∧ ch'.prog (at_ + i) (bs.drop i) = ch.prog at_ bs ∧ E = [(0, ptr ad.cb), (1, .int .i64 at_), (42, .slice p bs.length cap), (43, .int .i64 bs.length), (44, .int .i64 i)] ∧ H = chipH ad ch') (bs.length) ?_ ?_
      · exact ⟨_, _, ⟨0, ch, hle, by omega, hok, rfl, by simp, rfl, rfl⟩, ⟨rfl, rfl, rfl, rfl, rfl, trivial⟩, _, Split.cons .here (Split.cons .here (Split.cons .here (Split.cons .here Split.nil)))⟩
      · clear hle
        rintro k E M' H ⟨i, ch', hle, hik, hok', hl, heq, rfl, rfl⟩
        have hcap' := hok'.cap
        refine C.region_seq ?_
        refine G.value rfl rfl rfl (Sure.lss rfl rfl) ?_
        refine G.nil ?_
        refine C.seq ?_
        refine C.cond_dec rfl (fun hlt2 => ?_) (fun hlt2 => ?_)
        · have hib : i < bs.length := by omega
          have hxi : bs[i]? = some bs[i] := List.getElem?_eq_getElem hib
          have hyi : ch'.b[at_ + i]? = some (ch'.b[at_ + i]'(by omega)) := List.getElem?_eq_getElem (by omega)
          obtain ⟨b, o, c, rfl, hrd, hcell⟩ := Sl.cell (i := i) (v := byteV bs[i]) (hs.mono hle).heap (by rw [List.getElem?_map, hxi]; rfl)
          refine C.skip ?_
          refine Fin.th ?_
          refine C.seq ?_
          refine C.block ?_
          refine C.region_seq ?_
          refine G.value rfl rfl rfl (Sure.move rfl) ?_
          refine G.value rfl rfl rfl (Sure.indexAddr rfl rfl (by omega)) ?_
          refine G.value rfl rfl rfl (Sure.load rfl hrd (by simpa using hcell)) ?_
          refine G.value rfl rfl rfl (Sure.assign rfl) ?_
          refine G.value rfl rfl rfl (Sure.assign rfl) ?_
          refine G.nil ?_
          refine C.region_seq ?_
          refine G.value rfl rfl rfl (Sure.move rfl) ?_
          refine G.value rfl rfl rfl (Sure.nilCheck rfl) ?_
          refine G.value rfl rfl rfl (Sure.fieldAddr rfl) ?_
          refine G.value rfl rfl rfl (Sure.load rfl (by first | exact Rd.h0 | exact Rd.tl Rd.h0 | exact Rd.tl (Rd.tl Rd.h0) | exact Rd.tl (Rd.tl (Rd.tl Rd.h0)) | exact Rd.tl (Rd.tl (Rd.tl (Rd.tl Rd.h0))) | exact Rd.tl (Rd.tl (Rd.tl (Rd.tl (Rd.tl Rd.h0)))) | exact Rd.m (by assumption) | assumption) rfl) ?_
          refine G.call rfl rfl rfl rfl rfl rfl (pw_step_spec M' ad.pb ch'.pw ad.fv hok'.pw) (Split.cons (.there (.there (.there .here))) Split.nil) ?_
          rintro _ M2 _ le2 ⟨rfl, rfl⟩
          have hd : (byteV bs[i]) = byteV bs[i] := rfl
          have hpos : 0 + ((at_ : Int) + (i : Int)).toNat * 1 = at_ + i := by omega
          have hib2 : at_ + i < ch'.b.length := by omega
          have hstep : ch'.prog (at_ + i) (bs.drop i) = (if ch'.pw.step.2.1 then Chip.prog { ch' with pw := ch'.pw.step.1, b := ch'.b.set (at_ + i) bs[i] } (at_ + i + 1) (bs.drop (i + 1))
              else if ch'.pw.step.2.2 then ({ ch' with pw := ch'.pw.step.1, b := ch'.b.set (at_ + i) (bs[i] ||| (ch'.b.getD (at_ + i) 0 &&& ch'.pw.mask)) }, 6)
              else ({ ch' with pw := ch'.pw.step.1 }, 6)) := by
            rw [drop_cons hxi]; rfl
          rw [heq] at hstep
          rcases ch'.pw.step_cases with hc | hc | hc
          · rw [show ch'.pw.step.2.1 = true from by rw [hc], show ch'.pw.step.2.2 = false from by rw [hc]]
            rw [hc] at hstep
            simp only [if_true] at hstep
            refine G.value rfl rfl rfl (Sure.move rfl) ?_
            refine G.value rfl rfl rfl (Sure.extract rfl rfl) ?_
            refine G.value rfl rfl rfl (Sure.extract rfl rfl) ?_
            refine G.value rfl rfl rfl (Sure.assign rfl) ?_
            refine G.value rfl rfl rfl (Sure.assign rfl) ?_
            refine G.nil ?_
            refine C.seq ?_
            refine C.region_seq ?_
            refine G.value rfl rfl rfl (Sure.move rfl) ?_
            refine G.nil ?_
            refine C.cond_false rfl ?_
            refine C.skip ?_
            refine Fin.th ?_
            refine C.seq ?_
            refine C.region_seq ?_
            refine G.value rfl rfl rfl (Sure.move rfl) ?_
            refine G.value rfl rfl rfl (Sure.move rfl) ?_
            refine G.skip rfl rfl rfl ?_
            refine G.value rfl rfl rfl (Sure.pick_true rfl rfl) ?_
            refine G.nil ?_
            refine C.cond_true rfl ?_
            refine C.region ?_
            refine G.value rfl rfl rfl (Sure.move rfl) ?_
            refine G.value rfl rfl rfl (Sure.nilCheck rfl) ?_
            refine G.value rfl rfl rfl (Sure.fieldAddr rfl) ?_
            refine G.value rfl rfl rfl (Sure.load rfl (by first | exact Rd.h0 | exact Rd.tl Rd.h0 | exact Rd.tl (Rd.tl Rd.h0) | exact Rd.tl (Rd.tl (Rd.tl Rd.h0)) | exact Rd.tl (Rd.tl (Rd.tl (Rd.tl Rd.h0))) | exact Rd.tl (Rd.tl (Rd.tl (Rd.tl (Rd.tl Rd.h0)))) | exact Rd.m (by assumption) | assumption) rfl) ?_
            refine G.value rfl rfl rfl (Sure.move rfl) ?_
            refine G.value rfl rfl rfl (Sure.move rfl) ?_
            refine G.value rfl rfl rfl (Sure.add rfl rfl (inK64 (by omega))) ?_
            refine G.value rfl rfl rfl (Sure.move rfl) ?_
            refine G.value rfl rfl rfl (Sure.indexAddr rfl rfl (by omega)) ?_
            refine G.dyn0 rfl rfl ?_
            refine Dyn.store rfl rfl (.there (.there .here)) rfl (by rw [hpos]; exact bytes_set hib2) ?_
            refine G.nil ?_
            refine Fin.th ?_
            refine C.region_seq ?_
            refine G.value rfl rfl rfl (Sure.move rfl) ?_
            refine G.value rfl rfl rfl (Sure.not rfl) ?_
            refine G.nil ?_
            refine C.cond_false rfl ?_
            refine C.skip ?_
            refine Fin.blk ?_
            refine Fin.th ?_
            refine C.region ?_
            refine G.value rfl rfl rfl (Sure.add rfl rfl (inK64 (by omega))) ?_
            refine G.value rfl rfl rfl (Sure.move rfl) ?_
            refine G.nil ?_
            refine Fin.th ?_
            refine ⟨k - 1, _, _, by omega, ⟨i + 1, { ch' with pw := ch'.pw.step.1, b := ch'.b.set (at_ + i) bs[i] }, hle.trans le2, by omega, ⟨hok'.geo, by simpa using hok'.len, by simpa using hok'.cap, hok'.pw.step⟩, by simpa using hl, ?_, rfl, rfl⟩, ⟨rfl, rfl, rfl, rfl, rfl, trivial⟩, ?_⟩
            · rw [hstep]; rfl
            · refine ⟨[], ?_⟩
              rw [chipH_set]
              exact Split.cons (.there (.there .here)) (Split.cons .here (Split.cons (.there .here) (Split.cons .here Split.nil)))
          · rw [show ch'.pw.step.2.1 = false from by rw [hc], show ch'.pw.step.2.2 = true from by rw [hc]]
            rw [hc] at hstep
            simp only [Bool.false_eq_true, if_false, if_true] at hstep
            refine G.value rfl rfl rfl (Sure.move rfl) ?_
            refine G.value rfl rfl rfl (Sure.extract rfl rfl) ?_
            refine G.value rfl rfl rfl (Sure.extract rfl rfl) ?_
            refine G.value rfl rfl rfl (Sure.assign rfl) ?_
            refine G.value rfl rfl rfl (Sure.assign rfl) ?_
            refine G.nil ?_
            refine C.seq ?_
            refine C.region_seq ?_
            refine G.value rfl rfl rfl (Sure.move rfl) ?_
            refine G.nil ?_
            refine C.cond_true rfl ?_
            -- draws its order
            refine C.draw ([(ad.cb, .cells (chipL ad ch')), (ad.bb, .cells (ch'.b.map byteV ++ ad.junk)), (ad.pb, .cells (pwL ch'.pw.step.1 ad.fv))]) mixed (by kernel_rfl) (by first | exact Incl.refl _ | exact Incl.nil _ | exact Incl.cons (by simp) (Incl.nil _) | exact Incl.cons (by simp) (Incl.cons (by simp) (Incl.nil _)) | exact Incl.cons (by simp) (Incl.cons (by simp) (Incl.cons (by simp) (Incl.nil _)))) ?_
            refine GD.val 0 rfl rfl rfl rfl (by kernel_rfl) rfl (Sure.move rfl) ?_
            refine GD.val 1 rfl rfl rfl rfl (by kernel_rfl) rfl (Sure.move rfl) ?_
            refine GD.val 2 rfl rfl rfl rfl (by kernel_rfl) rfl (Sure.nilCheck rfl) ?_
            refine GD.val 3 rfl rfl rfl rfl (by kernel_rfl) rfl (Sure.fieldAddr rfl) ?_
            refine GD.val 4 rfl rfl rfl rfl (by kernel_rfl) rfl (Sure.load rfl (by first | exact Rd.h0 | exact Rd.tl Rd.h0 | exact Rd.tl (Rd.tl Rd.h0) | exact Rd.tl (Rd.tl (Rd.tl Rd.h0)) | exact Rd.tl (Rd.tl (Rd.tl (Rd.tl Rd.h0))) | exact Rd.tl (Rd.tl (Rd.tl (Rd.tl (Rd.tl Rd.h0)))) | exact Rd.m (by assumption) | assumption) rfl) ?_
            refine GD.val 5 rfl rfl rfl rfl (by kernel_rfl) rfl (Sure.move rfl) ?_
            refine GD.val 6 rfl rfl rfl rfl (by kernel_rfl) rfl (Sure.move rfl) ?_
            refine GD.val 7 rfl rfl rfl rfl (by kernel_rfl) rfl (Sure.add rfl rfl (inK64 (by omega))) ?_
            refine GD.val 8 rfl rfl rfl rfl (by kernel_rfl) rfl (Sure.indexAddr rfl rfl (by omega)) ?_
            refine GD.val 9 rfl rfl rfl rfl (by kernel_rfl) rfl (Sure.load rfl (Rd.tl Rd.h0) (by rw [hpos]; exact bytes_get hyi)) ?_
            refine GD.val 10 rfl rfl rfl rfl (by kernel_rfl) rfl (Sure.move rfl) ?_
            refine GD.val 11 rfl rfl rfl rfl (by kernel_rfl) rfl (Sure.nilCheck rfl) ?_
            refine GD.val 12 rfl rfl rfl rfl (by kernel_rfl) rfl (Sure.fieldAddr rfl) ?_
            refine GD.val 13 rfl rfl rfl rfl (by kernel_rfl) rfl (Sure.load rfl (by first | exact Rd.h0 | exact Rd.tl Rd.h0 | exact Rd.tl (Rd.tl Rd.h0) | exact Rd.tl (Rd.tl (Rd.tl Rd.h0)) | exact Rd.tl (Rd.tl (Rd.tl (Rd.tl Rd.h0))) | exact Rd.tl (Rd.tl (Rd.tl (Rd.tl (Rd.tl Rd.h0)))) | exact Rd.m (by assumption) | assumption) rfl) ?_
            refine GD.one 14 (by kernel_rfl) rfl rfl (by kernel_rfl) ?_
            refine Next.call 14 rfl rfl rfl (by kernel_rfl) (by kernel_rfl) rfl rfl rfl rfl (pw_mask_spec M2 ad.pb ch'.pw.step.1 ad.fv) (Split.cons .here Split.nil) ?_
            rintro _ M3 _ le3 ⟨rfl, rfl⟩
            refine ⟨(by first | exact Incl.refl _ | exact Incl.nil _ | exact Incl.cons (by simp) (Incl.nil _) | exact Incl.cons (by simp) (Incl.cons (by simp) (Incl.nil _)) | exact Incl.cons (by simp) (Incl.cons (by simp) (Incl.cons (by simp) (Incl.nil _)))), ?_⟩
            refine GD.val 15 rfl rfl rfl rfl (by kernel_rfl) rfl (Sure.and rfl rfl) ?_
            refine GD.val 16 rfl rfl rfl rfl (by kernel_rfl) rfl (Sure.or rfl rfl) ?_
            refine GD.one 17 (by kernel_rfl) rfl rfl (by kernel_rfl) ?_
            refine Next.dyn 17 rfl rfl rfl (by kernel_rfl) (by kernel_rfl) rfl (Dyn.assign rfl ?_)
            refine ⟨MLe.refl _, (by first | exact Incl.refl _ | exact Incl.nil _ | exact Incl.cons (by simp) (Incl.nil _) | exact Incl.cons (by simp) (Incl.cons (by simp) (Incl.nil _)) | exact Incl.cons (by simp) (Incl.cons (by simp) (Incl.cons (by simp) (Incl.nil _)))), ?_⟩
            refine GD.done (by kernel_rfl) (by kernel_rfl) ?_
            refine Fin.th ?_
            refine C.seq ?_
            refine C.region_seq ?_
            refine G.value rfl rfl rfl (Sure.move rfl) ?_
            refine G.value rfl rfl rfl (Sure.move rfl) ?_
            refine G.value rfl rfl rfl (Sure.move rfl) ?_
            refine G.value rfl rfl rfl (Sure.pick_false rfl rfl) ?_
            refine G.nil ?_
            refine C.cond_true rfl ?_
            refine C.region ?_
            refine G.value rfl rfl rfl (Sure.move rfl) ?_
            refine G.value rfl rfl rfl (Sure.nilCheck rfl) ?_
            refine G.value rfl rfl rfl (Sure.fieldAddr rfl) ?_
            refine G.value rfl rfl rfl (Sure.load rfl (by first | exact Rd.h0 | exact Rd.tl Rd.h0 | exact Rd.tl (Rd.tl Rd.h0) | exact Rd.tl (Rd.tl (Rd.tl Rd.h0)) | exact Rd.tl (Rd.tl (Rd.tl (Rd.tl Rd.h0))) | exact Rd.tl (Rd.tl (Rd.tl (Rd.tl (Rd.tl Rd.h0)))) | exact Rd.m (by assumption) | assumption) rfl) ?_
            refine G.value rfl rfl rfl (Sure.move rfl) ?_
            refine G.value rfl rfl rfl (Sure.move rfl) ?_
            refine G.value rfl rfl rfl (Sure.add rfl rfl (inK64 (by omega))) ?_
            refine G.value rfl rfl rfl (Sure.move rfl) ?_
            refine G.value rfl rfl rfl (Sure.indexAddr rfl rfl (by omega)) ?_
            rw [Pw.step_mask, bits_and_u8, bits_or_u8]
            refine G.dyn0 rfl rfl ?_
            refine Dyn.store rfl rfl (.there (.there .here)) rfl (by rw [hpos]; exact bytes_set hib2) ?_
            refine G.nil ?_
            refine Fin.th ?_
            refine C.region_seq ?_
            refine G.value rfl rfl rfl (Sure.move rfl) ?_
            refine G.value rfl rfl rfl (Sure.not rfl) ?_
            refine G.nil ?_
            refine C.cond_true rfl ?_
            refine C.region_seq ?_
            refine G.value rfl rfl rfl (Sure.assign rfl) ?_
            refine G.nil ?_
            refine C.ret ?_
            refine Fin.blk_ret ?_
            refine Fin.th_ret ?_
            refine Fin.th_ret ?_
            refine Fin.blk_ret ?_
            refine Fin.th_ret ?_
            refine Fin.fn (Res.tmp rfl rfl) (R := []) (H0 := chipH ad { ch' with pw := ch'.pw.step.1, b := ch'.b.set (at_ + i) (bs[i] ||| (ch'.b.getD (at_ + i) 0 &&& ch'.pw.mask)) }) ?_ (by rw [hstep]; exact ⟨rfl, rfl⟩)
            have hgd : ch'.b.getD (at_ + i) 0 = ch'.b[at_ + i]'(by omega) := by simp [List.getD_eq_getElem?_getD, hyi]
            rw [hgd, chipH_set]
            exact Split.cons (.there (.there .here)) (Split.cons .here (Split.cons (.there .here) (Split.cons .here Split.nil)))
          · rw [show ch'.pw.step.2.1 = false from by rw [hc], show ch'.pw.step.2.2 = false from by rw [hc]]
            rw [hc] at hstep
            simp only [Bool.false_eq_true, if_false] at hstep
            refine G.value rfl rfl rfl (Sure.move rfl) ?_
            refine G.value rfl rfl rfl (Sure.extract rfl rfl) ?_
            refine G.value rfl rfl rfl (Sure.extract rfl rfl) ?_
            refine G.value rfl rfl rfl (Sure.assign rfl) ?_
            refine G.value rfl rfl rfl (Sure.assign rfl) ?_
            refine G.nil ?_
            refine C.seq ?_
            refine C.region_seq ?_
            refine G.value rfl rfl rfl (Sure.move rfl) ?_
            refine G.nil ?_
            refine C.cond_false rfl ?_
            refine C.skip ?_
            refine Fin.th ?_
            refine C.seq ?_
            refine C.region_seq ?_
            refine G.value rfl rfl rfl (Sure.move rfl) ?_
            refine G.value rfl rfl rfl (Sure.move rfl) ?_
            refine G.value rfl rfl rfl (Sure.move rfl) ?_
            refine G.value rfl rfl rfl (Sure.pick_false rfl rfl) ?_
            refine G.nil ?_
            refine C.cond_false rfl ?_
            refine C.skip ?_
            refine Fin.th ?_
            refine C.region_seq ?_
            refine G.value rfl rfl rfl (Sure.move rfl) ?_
            refine G.value rfl rfl rfl (Sure.not rfl) ?_
            refine G.nil ?_
            refine C.cond_true rfl ?_
            refine C.region_seq ?_
            refine G.value rfl rfl rfl (Sure.assign rfl) ?_
            refine G.nil ?_
            refine C.ret ?_
            refine Fin.blk_ret ?_
            refine Fin.th_ret ?_
            refine Fin.th_ret ?_
            refine Fin.blk_ret ?_
            refine Fin.th_ret ?_
            refine Fin.fn (Res.tmp rfl rfl) (R := []) (H0 := chipH ad { ch' with pw := ch'.pw.step.1 }) ?_ (by rw [hstep]; exact ⟨rfl, rfl⟩)
            exact Split.cons (.there .here) (Split.cons (.there .here) (Split.cons (.there .here) (Split.cons .here Split.nil)))
        · have hi : i = bs.length := by omega
          subst hi
          rw [List.drop_length] at heq
          refine C.exit ?_
          refine Fin.th_exit ?_
          refine Fin.th_exit ?_
          refine Fin.blk_eq ?_
          refine Fin.th ?_
          refine C.region_seq ?_
          refine G.value rfl rfl rfl (Sure.assign rfl) ?_
          refine G.nil ?_
          refine C.ret ?_
          refine Fin.fn (Res.tmp rfl rfl) (Split.cons .here (Split.cons .here (Split.cons .here (Split.cons .here Split.nil)))) ?_
          rw [← heq]
          exact ⟨rfl, rfl⟩
end Go.Proofs.Ytaeeahcokiebdaa
