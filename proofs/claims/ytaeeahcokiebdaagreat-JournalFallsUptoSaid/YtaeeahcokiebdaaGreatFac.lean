/-
  Great text c of a proof: Wg, Wh, Wi, Wj, Wk, Wl, Wm, Wn, Wo, Wp, Kk, Wq, Wr, Ws, Wt, Wu, Wv, Kl, Ww, one behind the other.
  Conditions: those that each part names.
-/
import Derived.Test.YtaeeahcokiebdaaGreatFab
import Derived.Laws.BitsAllLaws
import Derived.Lib.Overlaps
import Derived.Laws.Externs
import Derived.Lib.MakeNoZero

/-
  The walks of numbers and texts as bytes.
  Conditions: what is put together has at most a thousand million bytes.
-/
namespace Go.Proofs.YtaeeahcokiebdaaGreat
set_option maxRecDepth 20000

abbrev bytesV (b : List UInt8) : List Value := b.map byteV
/-- A slice that reads as these bytes. -/
def SB (M : Mem) (p : Option Addr) (bs : List UInt8) : Prop := Sl M [] 1 p bs.length (bytesV bs)
theorem SB.mono {M M' p bs} (h : SB M p bs) (hl : MLe M M') : SB M' p bs := Sl.mono h hl
theorem bytesV_len (b : List UInt8) : (bytesV b).length = b.length := by simp
theorem allOne_bytes (b : List UInt8) : allOne (bytesV b) = true := by
  unfold allOne; rw [List.all_eq_true]; intro v hv; obtain ⟨x, _, rfl⟩ := List.mem_map.1 hv; rfl
/-- What a function that makes bytes hands back: memory of its own. -/
abbrev OwnB (bs : List UInt8) (v : Value) (H : Heap) : Prop := Own 1 v bs.length (bytesV bs) H

theorem grow_spec (M : Mem) (n : Nat) (hn : n ≤ 1000000000) : Spec Tryz.prog 146 [.slice Option.none 0 0, .int .i64 n] M [] (fun v _ H => OwnB [] v H) := by
  refine Spec.of_code 27 Tryz.func146 rfl callable146 rfl rfl fun w => ?_
  refine C.region_seq ?_
  refine G.value rfl rfl rfl (Sure.assign rfl) ?_
  refine G.nil ?_
  refine C.seq ?_
  refine C.region_seq ?_
  refine G.value rfl rfl rfl (Sure.move rfl) ?_
  refine G.value rfl rfl rfl ((Sure.lss rfl rfl).to_f (by omega)) ?_
  refine G.nil ?_
  refine C.cond_false rfl ?_
  refine C.skip ?_
  refine Fin.th ?_
  refine C.seq ?_
  refine C.region_seq ?_
  refine G.value rfl rfl rfl (Sure.move rfl) ?_
  refine G.value rfl rfl rfl (Sure.move rfl) ?_
  refine G.value rfl rfl rfl (Sure.cap_slice rfl) ?_
  refine G.value rfl rfl rfl (Sure.move rfl) ?_
  refine G.value rfl rfl rfl (Sure.len_slice rfl) ?_
  refine G.value rfl rfl rfl (Sure.sub rfl rfl (inK64 (by omega))) ?_
  refine G.value rfl rfl rfl (Sure.sub rfl rfl (inK64 (by omega))) ?_
  refine G.value rfl rfl rfl (Sure.assign rfl) ?_
  refine G.nil ?_
  refine C.region_seq ?_
  refine G.value rfl rfl rfl (Sure.move rfl) ?_
  refine G.value rfl rfl rfl (Sure.gtr rfl rfl) ?_
  refine G.nil ?_
  refine C.cond_dec rfl (fun hpos => ?_) (fun hpos => ?_)
  · refine C.region ?_
    refine G.value rfl rfl rfl (Sure.move rfl) ?_
    refine G.value rfl rfl rfl (Sure.move rfl) ?_
    refine G.value rfl rfl rfl (Sure.cap_slice rfl) ?_
    refine G.value rfl rfl rfl (Sure.slice 0 0 rfl rfl rfl (.inr ⟨rfl, rfl⟩) (.inl rfl) (by omega) (by omega)) ?_
    refine G.value rfl rfl rfl (Sure.move rfl) ?_
    rw [show (n : Int) - ((0 : Nat) - (0 : Nat)) = n from by omega]
    refine G.dyn rfl rfl rfl ?_
    refine Dyn.appendMake (n := n) rfl rfl rfl (by simp at hpos; omega) (by omega) (by omega) ?_
    intro b cap hcap
    refine G.value rfl rfl rfl (Sure.move rfl) ?_
    refine G.value rfl rfl rfl (Sure.len_slice rfl) ?_
    refine G.value rfl rfl rfl (Sure.slice 0 0 rfl rfl rfl (.inr ⟨rfl, rfl⟩) (.inl rfl) (by omega) (by omega)) ?_
    refine G.value rfl rfl rfl (Sure.assign rfl) ?_
    refine G.nil ?_
    refine Fin.th ?_
    refine C.region_seq ?_
    refine G.value rfl rfl rfl (Sure.move rfl) ?_
    refine G.value rfl rfl rfl (Sure.assign rfl) ?_
    refine G.nil ?_
    refine C.ret ?_
    refine Fin.fn (Res.tmp rfl rfl) (Split.cons .here Split.nil) ⟨rfl, .inr ⟨b, cap, List.replicate cap (.int .u8 0), ?_, by simp, by simp, by simp⟩⟩
    simp [subP, addr_add]
  · refine C.skip ?_
    refine Fin.th ?_
    refine C.region_seq ?_
    refine G.value rfl rfl rfl (Sure.move rfl) ?_
    refine G.value rfl rfl rfl (Sure.assign rfl) ?_
    refine G.nil ?_
    refine C.ret ?_
    exact Fin.fn (Res.tmp rfl rfl) Split.nil Own.nil

abbrev BSl := Option Addr × Nat × List UInt8
abbrev bslV (t : BSl) : Value := .slice t.1 t.2.2.length t.2.1
def catL (l : List BSl) : List UInt8 := (l.map (·.2.2)).flatten
theorem catL_append (a b : List BSl) : catL (a ++ b) = catL a ++ catL b := by simp [catL]
theorem catL_cons (t : BSl) (b : List BSl) : catL (t :: b) = t.2.2 ++ catL b := by simp [catL]
theorem concat_spec (M : Mem) (p : Option Addr) (cap : Nat) (l : List BSl) (hl : Sl M [] 1 p l.length (l.map bslV)) (hb : ∀ t ∈ l, SB M t.1 t.2.2) (hn : (catL l).length ≤ 1000000000) (hc : l.length ≤ 1000000000) :
    Spec Tryz.prog 120 [.slice p l.length cap] M [] (fun v _ H => OwnB (catL l) v H) := by
  refine Spec.of_code 36 Tryz.func120 rfl callable120 rfl rfl fun w => ?_
  refine C.region_seq ?_
  refine G.value rfl rfl rfl (Sure.assign rfl) ?_
  refine G.nil ?_
  refine C.region_seq ?_
  refine G.value rfl rfl rfl (Sure.assign rfl) ?_
  refine G.nil ?_
  refine C.seq ?_
  refine C.region_seq ?_
  refine G.value rfl rfl rfl (Sure.move rfl) ?_
  refine G.value rfl rfl rfl (Sure.len_slice rfl) ?_
  refine G.value rfl rfl rfl (Sure.move rfl) ?_
  refine G.nil ?_
  refine C.block ?_
  refine C.loop (fun k E M' H => ∃ (a b : List BSl), MLe M M' ∧ l = a ++ b ∧ b.length = k ∧ E = [(0, .slice p l.length cap), (3, .int .i64 (catL a).length), (9, .slice p l.length cap), (10, .int .i64 l.length), (11, .int .i64 a.length)] ∧ H = []) (l.length) ?_ ?_
  · exact ⟨_, _, ⟨[], l, MLe.refl _, rfl, rfl, rfl, rfl⟩, ⟨rfl, rfl, rfl, rfl, rfl, trivial⟩, _, Split.nil⟩
  · rintro k E M' H ⟨a, b, hle, rfl, hk, rfl, rfl⟩
    have hlen : (a ++ b).length = a.length + b.length := by simp
    rw [catL_append, List.length_append] at hn
    refine C.region_seq ?_
    refine G.value rfl rfl rfl (Sure.lss rfl rfl) ?_
    refine G.nil ?_
    refine C.seq ?_
    refine C.cond_dec rfl (fun hlt => ?_) (fun hlt => ?_)
    · cases b with
      | nil => simp at hlt
      | cons t b =>
        rw [catL_cons, List.length_append] at hn
        obtain ⟨q, o, c, rfl, hrd, hcell⟩ := Sl.cell (i := a.length) (v := bslV t) (Sl.heap (H := []) (hl.mono hle)) (by simp)
        refine C.skip ?_
        refine Fin.th ?_
        refine C.seq ?_
        refine C.block ?_
        refine C.region_seq ?_
        refine G.value rfl rfl rfl (Sure.indexAddr rfl rfl (by simp; omega)) ?_
        refine G.value rfl rfl rfl (Sure.load rfl hrd hcell) ?_
        refine G.value rfl rfl rfl (Sure.assign rfl) ?_
        refine G.nil ?_
        refine C.region_seq ?_
        refine G.value rfl rfl rfl (Sure.move rfl) ?_
        refine G.value rfl rfl rfl (Sure.move rfl) ?_
        refine G.value rfl rfl rfl (Sure.len_slice rfl) ?_
        refine G.value rfl rfl rfl (Sure.add rfl rfl (inK64 (by omega))) ?_
        refine G.value rfl rfl rfl (Sure.assign rfl) ?_
        refine G.nil ?_
        refine C.region_seq ?_
        refine G.value rfl rfl rfl (Sure.move rfl) ?_
        refine G.value rfl rfl rfl ((Sure.lss rfl rfl).to_f (by omega)) ?_
        refine G.nil ?_
        refine C.cond_false rfl ?_
        refine C.skip ?_
        refine Fin.blk ?_
        refine Fin.th ?_
        refine C.region ?_
        refine G.value rfl rfl rfl (Sure.add rfl rfl (inK64 (by omega))) ?_
        refine G.value rfl rfl rfl (Sure.move rfl) ?_
        refine G.nil ?_
        refine Fin.th ?_
        refine ⟨b.length, _, _, by simp at hk; omega, ⟨a ++ [t], b, hle, by simp, rfl, rfl, rfl⟩, ⟨rfl, ?_, rfl, rfl, ?_, trivial⟩, _, Split.nil⟩
        · show some (Value.int .i64 (((catL a).length : Int) + (t.2.2.length : Int))) = _
          rw [catL_append, catL_cons]
          simp [catL]
        · simp; rfl
    · have hb0 : b = [] := List.eq_nil_of_length_eq_zero (by omega)
      subst hb0
      simp only [List.append_nil] at hl hb hc hlt ⊢
      clear hlen hk
      have hn : (catL a).length ≤ 1000000000 := by omega
      refine C.exit ?_
      refine Fin.th_exit ?_
      refine Fin.th_exit ?_
      refine Fin.blk_eq ?_
      refine Fin.th ?_
      refine C.region_seq ?_
      refine G.value rfl rfl rfl (Sure.move rfl) ?_
      refine G.call rfl rfl rfl rfl rfl rfl (grow_spec M' (catL a).length hn) (Split.nil) ?_
      rintro _ M1 Hs le1 hown
      refine G.value rfl rfl rfl (Sure.assign rfl) ?_
      refine G.nil ?_
      refine C.seq ?_
      refine C.region_seq ?_
      refine G.value rfl rfl rfl (Sure.move rfl) ?_
      refine G.value rfl rfl rfl (Sure.len_slice rfl) ?_
      refine G.value rfl rfl rfl (Sure.move rfl) ?_
      refine G.nil ?_
      refine C.block ?_
      refine C.loop (fun k E M' H => ∃ (a1 b1 : List BSl) (v : Value), MLe M M' ∧ a = a1 ++ b1 ∧ b1.length = k ∧ OwnB (catL a1) v H ∧ E = [(0, .slice p a.length cap), (6, v), (25, .slice p a.length cap), (26, .int .i64 a.length), (27, .int .i64 a1.length)]) (a.length) ?_ ?_
      · exact ⟨_, _, ⟨[], a, _, hle.trans le1, rfl, rfl, hown, rfl⟩, ⟨rfl, rfl, rfl, rfl, rfl, trivial⟩, _, Split.one PickL.here⟩
      · clear hle le1 hown
        rintro k E M' H ⟨a1, b1, v, hle, rfl, hk, hown, rfl⟩
        have hlen : (a1 ++ b1).length = a1.length + b1.length := by simp
        have hcat : (catL (a1 ++ b1)).length = (catL a1).length + (catL b1).length := by rw [catL_append]; simp
        refine C.region_seq ?_
        refine G.value rfl rfl rfl (Sure.lss rfl rfl) ?_
        refine G.nil ?_
        refine C.seq ?_
        refine C.cond_dec rfl (fun hlt2 => ?_) (fun hlt2 => ?_)
        · cases b1 with
          | nil => simp at hlt2
          | cons t b1 =>
            rw [catL_cons, List.length_append] at hcat
            obtain ⟨q, o, c, rfl, hrd, hcell⟩ := Sl.cell (i := a1.length) (v := bslV t) (Sl.heap (H := H) (hl.mono hle)) (by simp)
            refine C.skip ?_
            refine Fin.th ?_
            refine C.seq ?_
            refine C.block ?_
            refine C.region_seq ?_
            refine G.value rfl rfl rfl (Sure.indexAddr rfl rfl (by simp; omega)) ?_
            refine G.value rfl rfl rfl (Sure.load rfl hrd hcell) ?_
            refine G.value rfl rfl rfl (Sure.assign rfl) ?_
            refine G.nil ?_
            refine C.region ?_
            refine G.value rfl rfl rfl (Sure.move rfl) ?_
            refine G.value rfl rfl rfl (Sure.move rfl) ?_
            refine G.dyn rfl rfl rfl ?_
            refine Dyn.append (fun k h => by cases h) rfl rfl rfl hown PickL.all (Sl.heap ((hb t (by simp)).mono hle)) (allOne_bytes _) (by omega) (by omega) ?_
            intro v2 Hs2 hown2
            refine G.value rfl rfl rfl (Sure.assign rfl) ?_
            refine G.nil ?_
            refine Fin.blk ?_
            refine Fin.th ?_
            refine C.region ?_
            refine G.value rfl rfl rfl (Sure.add rfl rfl (inK64 (by omega))) ?_
            refine G.value rfl rfl rfl (Sure.move rfl) ?_
            refine G.nil ?_
            refine Fin.th ?_
            refine ⟨b1.length, _, _, by simp at hk; omega, ⟨a1 ++ [t], b1, v2, hle, by simp, rfl, ?_, rfl⟩, ⟨rfl, rfl, rfl, rfl, by simp; rfl, trivial⟩, _, Split.one PickL.here⟩
            have : OwnB (catL (a1 ++ [t])) v2 Hs2 := by
              unfold OwnB
              rw [catL_append]
              simp [catL] at hown2 ⊢
              exact hown2
            exact this
        · have hb0 : b1 = [] := List.eq_nil_of_length_eq_zero (by omega)
          subst hb0
          refine C.exit ?_
          refine Fin.th_exit ?_
          refine Fin.th_exit ?_
          refine Fin.blk_eq ?_
          refine Fin.th ?_
          refine C.region_seq ?_
          refine G.value rfl rfl rfl (Sure.move rfl) ?_
          refine G.value rfl rfl rfl (Sure.assign rfl) ?_
          refine G.nil ?_
          refine C.ret ?_
          refine Fin.fn (Res.tmp rfl rfl) (Split.one PickL.all) ?_
          simpa using hown
end Go.Proofs.YtaeeahcokiebdaaGreat

/-
  The walks of numbers, texts and sums as bytes, and of records.
  Conditions: what is put together has at most a few hundred million bytes.
-/
namespace Go.Proofs.YtaeeahcokiebdaaGreat
set_option maxRecDepth 20000

/-- The lowest bytes of a number, the lowest first. -/
def le (v n : Nat) : List UInt8 := (List.range n).map fun i => UInt8.ofNat (v / 256 ^ i)
@[simp] theorem le_len (v n : Nat) : (le v n).length = n := by simp [le]
theorem le_succ (v n : Nat) : le v (n + 1) = le v n ++ [UInt8.ofNat (v / 256 ^ n)] := by simp [le, List.range_succ]
theorem le_byte (v i : Nat) : Value.int .u8 (IntKind.u8.wrap ((v : Int) / 2 ^ ((8 * (i : Int)).toNat))) = byteV (UInt8.ofNat (v / 256 ^ i)) := by
  have h1 : (8 * (i : Int)).toNat = 8 * i := by omega
  have h2 : ((2 : Int) ^ (8 * i)) = ((256 ^ i : Nat) : Int) := by rw [Int.pow_mul]; simp
  unfold byteV
  rw [h1, h2, IntKind.wrap_u8, ← Int.natCast_ediv, UInt8.toNat_ofNat']
  simp
theorem seg_all {c : List Value} {n : Nat} (h : n = c.length) : seg c 0 n = some c := by
  subst h; unfold seg; rw [takeN_eq (by simp)]; simp
theorem put_spec (M : Mem) (p : Option Addr) (cap : Nat) (bs : List UInt8) (v n : Nat) (hs : SB M p bs) (hb : bs.length ≤ 900000000) (hv : v < 18446744073709551616) (hn : n ≤ 8) :
    Spec Tryz.prog 88 [.slice p bs.length cap, .int .u64 v, .int .i64 n] M [] (fun r _ H => OwnB (bs ++ le v n) r H) := by
  refine Spec.of_code 31 Tryz.func88 rfl callable88 rfl rfl fun w => ?_
  refine C.region_seq ?_
  refine G.value rfl rfl rfl (Sure.assign rfl) ?_
  refine G.nil ?_
  refine C.region_seq ?_
  refine G.value rfl rfl rfl (Sure.move rfl) ?_
  refine G.value rfl rfl rfl (Sure.max rfl rfl) ?_
  refine G.value rfl rfl rfl (Sure.min rfl rfl) ?_
  rw [show Min.min (Max.max (n : Int) 0) 8 = n from by omega]
  refine G.dyn rfl rfl rfl ?_
  refine Dyn.makeSlice (n := n) (cap := n) rfl (by decide) rfl rfl (by omega) (by omega) (by omega) ?_
  intro b
  rw [zrow_one rfl]
  refine G.value rfl rfl rfl (Sure.assign rfl) ?_
  refine G.nil ?_
  refine C.seq ?_
  refine C.region_seq ?_
  refine G.value rfl rfl rfl (Sure.move rfl) ?_
  refine G.value rfl rfl rfl (Sure.len_slice rfl) ?_
  refine G.value rfl rfl rfl (Sure.move rfl) ?_
  refine G.nil ?_
  refine C.block ?_
  refine C.loop (fun k E M' H => ∃ i : Nat, MLe M M' ∧ i + k = n ∧ E = [(0, .slice p bs.length cap), (1, .int .u64 v), (7, .slice (some ⟨b, 0, Option.none⟩) n n), (14, .int .i64 n), (15, .int .i64 i)] ∧ H = [(b, .cells (bytesV (le v i) ++ List.replicate k (byteV 0)))]) (n) ?_ ?_
  · exact ⟨_, _, ⟨0, MLe.refl _, by omega, rfl, rfl⟩, ⟨rfl, rfl, rfl, rfl, rfl, trivial⟩, _, Split.cons .here Split.nil⟩
  · rintro k E M' H ⟨i, hle, hik, rfl, rfl⟩
    refine C.region_seq ?_
    refine G.value rfl rfl rfl (Sure.lss rfl rfl) ?_
    refine G.nil ?_
    refine C.seq ?_
    refine C.cond_dec rfl (fun hlt => ?_) (fun hlt => ?_)
    · obtain ⟨k, rfl⟩ : ∃ m, k = m + 1 := ⟨k - 1, by omega⟩
      rw [List.replicate_succ]
      refine C.skip ?_
      refine Fin.th ?_
      refine C.seq ?_
      refine C.block ?_
      refine C.region_seq ?_
      refine G.value rfl rfl rfl (Sure.move rfl) ?_
      refine G.value rfl rfl rfl (Sure.assign rfl) ?_
      refine G.nil ?_
      refine C.region ?_
      refine G.value rfl rfl rfl (Sure.move rfl) ?_
      refine G.value rfl rfl rfl (Sure.move rfl) ?_
      refine G.value rfl rfl rfl (Sure.move rfl) ?_
      refine G.value rfl rfl rfl (Sure.move rfl) ?_
      refine G.value rfl rfl rfl (Sure.mul rfl rfl (inK64 (by omega))) ?_
      refine G.value rfl rfl rfl (Sure.shr rfl rfl (by simp [IntKind.bits]; omega)) ?_
      refine G.value rfl rfl rfl (Sure.conv' rfl) ?_
      rw [le_byte]
      refine G.value rfl rfl rfl (Sure.indexAddr rfl rfl (by omega)) ?_
      refine G.dyn0 rfl rfl ?_
      refine Dyn.store rfl rfl .here rfl (mid_set (by simp)) ?_
      refine G.nil ?_
      refine Fin.blk ?_
      refine Fin.th ?_
      refine C.region ?_
      refine G.value rfl rfl rfl (Sure.add rfl rfl (inK64 (by omega))) ?_
      refine G.value rfl rfl rfl (Sure.move rfl) ?_
      refine G.nil ?_
      refine Fin.th ?_
      refine ⟨k, _, _, by omega, ⟨i + 1, hle, by omega, rfl, rfl⟩, ⟨rfl, rfl, rfl, rfl, rfl, trivial⟩, [], ?_⟩
      rw [le_succ]
      simp
      exact Split.cons .here Split.nil
    · have hk : k = 0 := by omega
      subst hk
      have hi : i = n := by omega
      subst hi
      simp only [List.replicate_zero, List.append_nil]
      refine C.exit ?_
      refine Fin.th_exit ?_
      refine Fin.th_exit ?_
      refine Fin.blk_eq ?_
      refine Fin.th ?_
      refine C.region_seq ?_
      refine G.value rfl rfl rfl (Sure.move rfl) ?_
      refine G.value rfl rfl rfl (Sure.move rfl) ?_
      refine G.donate fun M2 le2 hM2 => ?_
      refine G.dyn rfl rfl rfl ?_
      refine Dyn.buildSlice rfl rfl rfl (by simp [vcl]) (by decide) ?_
      intro b2
      refine G.donate fun M3 le3 hM3 => ?_
      have hsb : SB M3 (some ⟨b, 0, Option.none⟩) (le v i) := ⟨by simp, fun _ => ⟨b, 0, _, rfl, Rd.m (le3 _ _ hM2), seg_all (by simp)⟩⟩
      refine G.call rfl rfl rfl rfl rfl rfl (concat_spec M3 (some ⟨b2, 0, Option.none⟩) 2 [(p, cap, bs), (some ⟨b, 0, Option.none⟩, i, le v i)] ⟨rfl, fun _ => ⟨b2, 0, _, rfl, Rd.m hM3, by simp [seg, takeN, vcl]⟩⟩ (by intro t ht; simp at ht; rcases ht with rfl | rfl; exact hs.mono ((hle.trans le2).trans le3); exact hsb) (by simp [catL]; omega) (by simp)) (Split.nil) ?_
      rintro _ M4 Hs le4 hown
      refine G.value rfl rfl rfl (Sure.assign rfl) ?_
      refine G.nil ?_
      refine C.ret ?_
      refine Fin.fn (Res.tmp rfl rfl) (Split.one PickL.here) ?_
      simpa [catL] using hown
theorem putInt_spec (M : Mem) (p : Option Addr) (cap : Nat) (bs : List UInt8) (v : Int) (hs : SB M p bs) (hb : bs.length ≤ 900000000) :
    Spec Tryz.prog 83 [.slice p bs.length cap, .int .i64 v] M [] (fun r _ H => OwnB (bs ++ le (IntKind.u64.wrap v).toNat 8) r H) := by
  have hw : 0 ≤ IntKind.u64.wrap v ∧ IntKind.u64.wrap v < 18446744073709551616 := by simp [IntKind.wrap, IntKind.bits, IntKind.signed]; omega
  refine Spec.of_code 9 Tryz.func83 rfl callable83 rfl rfl fun w => ?_
  refine C.region_seq ?_
  refine G.value rfl rfl rfl (Sure.assign rfl) ?_
  refine G.nil ?_
  refine C.region_seq ?_
  refine G.value rfl rfl rfl (Sure.move rfl) ?_
  refine G.value rfl rfl rfl (Sure.move rfl) ?_
  refine G.value rfl rfl rfl (Sure.conv' rfl) ?_
  rw [show IntKind.u64.wrap v = ((IntKind.u64.wrap v).toNat : Int) from by omega]
  refine G.call rfl rfl rfl rfl rfl rfl (put_spec M p cap bs (IntKind.u64.wrap v).toNat 8 hs hb (by omega) (by omega)) (Split.nil) ?_
  rintro _ M1 Hs le1 hown
  refine G.value rfl rfl rfl (Sure.assign rfl) ?_
  refine G.nil ?_
  refine C.ret ?_
  exact Fin.fn (Res.tmp rfl rfl) (Split.one PickL.here) hown
theorem putText_spec (M : Mem) (p : Option Addr) (cap : Nat) (bs : List UInt8) (t : ByteArray) (hs : SB M p bs) (hb : bs.length ≤ 900000000) (ht : t.size ≤ 10000000) :
    Spec Tryz.prog 122 [.slice p bs.length cap, .string t] M [] (fun r _ H => OwnB (bs ++ le t.size 4 ++ t.data.toList) r H) := by
  refine Spec.of_code 14 Tryz.func122 rfl callable122 rfl rfl fun w => ?_
  refine C.region_seq ?_
  refine G.value rfl rfl rfl (Sure.assign rfl) ?_
  refine G.nil ?_
  refine C.region_seq ?_
  refine G.value rfl rfl rfl (Sure.move rfl) ?_
  refine G.value rfl rfl rfl (Sure.move rfl) ?_
  refine G.value rfl rfl rfl (Sure.len_string rfl) ?_
  refine G.value rfl rfl rfl (Sure.conv rfl (inKu64 (by omega))) ?_
  refine G.call rfl rfl rfl rfl rfl rfl (put_spec M p cap bs t.size 4 hs hb (by omega) (by omega)) (Split.nil) ?_
  rintro v1 M1 Hs le1 hown
  refine G.donateOwn hown PickL.here ?_
  rintro M2 p2 cap2 le2 rfl hs2
  refine G.value rfl rfl rfl (Sure.move rfl) ?_
  refine G.dyn rfl rfl rfl ?_
  refine Dyn.toBytes rfl rfl ?_
  intro p3 cap3 M3 le3 hs3 _
  refine G.dyn rfl rfl rfl ?_
  refine Dyn.buildSlice rfl rfl rfl (by simp [vcl]) (by decide) ?_
  intro b2
  refine G.donate fun M4 le4 hM4 => ?_
  have hl3 : t.size = t.data.toList.length := by rw [Array.length_toList]; rfl
  refine G.call rfl rfl rfl rfl rfl rfl (concat_spec M4 (some ⟨b2, 0, Option.none⟩) 2 [(p2, cap2, bs ++ le t.size 4), (p3, cap3, t.data.toList)] ⟨rfl, fun _ => ⟨b2, 0, _, rfl, Rd.m hM4, by simp [seg, takeN, vcl]⟩⟩ (by intro q hq; simp at hq; rcases hq with rfl | rfl; exact SB.mono hs2 (le3.trans le4); exact (show SB M3 p3 t.data.toList from by unfold SB; rw [← hl3]; exact hs3).mono le4) (by simp [catL]; have : t.data.size = t.size := rfl; omega) (by simp)) (Split.nil) ?_
  rintro _ M5 Hs5 le5 hown5
  refine G.value rfl rfl rfl (Sure.assign rfl) ?_
  refine G.nil ?_
  refine C.ret ?_
  refine Fin.fn (Res.tmp rfl rfl) (Split.one PickL.here) ?_
  simpa [catL] using hown5
/-- Numbers as bytes, eight of each. -/
def intsB (l : List Int) : List UInt8 := (l.map fun v => le (IntKind.u64.wrap v).toNat 8).flatten
theorem intsB_cons (v : Int) (l : List Int) : intsB (v :: l) = le (IntKind.u64.wrap v).toNat 8 ++ intsB l := by simp [intsB]
theorem intsB_len (l : List Int) : (intsB l).length = 8 * l.length := by
  induction l with
  | nil => rfl
  | cons v l ih => rw [intsB_cons, List.length_append, ih]; simp; omega
abbrev intV (n : Int) : Value := .int .i64 n
def xs_of (_ : Nat) (bs : List UInt8) (junk : List Value) : List Value := bytesV bs ++ junk
/-- What a function that makes bytes hands back: bytes that stay as they are. -/
def RetB (bs : List UInt8) (v : Value) (M : Mem) (H : Heap) : Prop := H = [] ∧ ∃ p cap, v = .slice p bs.length cap ∧ SB M p bs
theorem Spec.retB {f args M} {bs : List UInt8} (h : Spec Tryz.prog f args M [] (fun v _ H => OwnB bs v H)) : Spec Tryz.prog f args M [] (fun v M' H => RetB bs v M' H) := by
  refine ⟨h.callable, fun w hw => (h.runs w hw).mono ?_⟩
  rintro e w' ⟨v, M', H', rfl, hst, h1, h2⟩
  rcases h2 with ⟨rfl, hn, rfl⟩ | ⟨b, cap, junk, rfl, h3, rfl, h4⟩
  · exact ⟨_, M', [], rfl, hst, rfl, Option.none, 0, by rw [hn], h1, fun hp => absurd hp (by omega)⟩
  · exact ⟨_, _, [], rfl, hst.donate, rfl, _, _, rfl, h1, fun _ => ⟨b, 0, xs_of b bs junk, rfl, Rd.m (by simp [mput, xs_of]), by simpa [seg, xs_of] using takeN_append h1⟩⟩
theorem ints_spec (M : Mem) (p q : Option Addr) (cap cq : Nat) (bs : List UInt8) (l : List Int) (hs : SB M p bs) (hq : Sl M [] 1 q l.length (l.map intV)) (hb : bs.length + 8 * l.length ≤ 900000000) :
    Spec Tryz.prog 123 [.slice p bs.length cap, .slice q l.length cq] M [] (fun r M' H => RetB (bs ++ intsB l) r M' H) := by
  refine Spec.of_code 18 Tryz.func123 rfl callable123 rfl rfl fun w => ?_
  refine C.region_seq ?_
  refine G.value rfl rfl rfl (Sure.assign rfl) ?_
  refine G.nil ?_
  refine C.seq ?_
  refine C.region_seq ?_
  refine G.value rfl rfl rfl (Sure.move rfl) ?_
  refine G.value rfl rfl rfl (Sure.len_slice rfl) ?_
  refine G.value rfl rfl rfl (Sure.move rfl) ?_
  refine G.nil ?_
  refine C.block ?_
  refine C.loop (fun k E M' H => ∃ (a b : List Int) (v : Value), MLe M M' ∧ l = a ++ b ∧ b.length = k ∧ RetB (bs ++ intsB a) v M' H ∧ E = [(0, v), (7, .slice q l.length cq), (8, .int .i64 l.length), (9, .int .i64 a.length)]) (l.length) ?_ ?_
  · exact ⟨_, _, ⟨[], l, .slice p bs.length cap, MLe.refl _, rfl, rfl, ⟨rfl, p, cap, by simp [intsB], by rw [show bs ++ intsB [] = bs from by simp [intsB]]; exact hs⟩, rfl⟩, ⟨rfl, rfl, rfl, rfl, trivial⟩, _, Split.nil⟩
  · rintro k E M' H ⟨a, b, v, hle, rfl, hk, ⟨rfl, p1, c1, rfl, hsb⟩, rfl⟩
    have hlen : (a ++ b).length = a.length + b.length := by simp
    refine C.region_seq ?_
    refine G.value rfl rfl rfl (Sure.lss rfl rfl) ?_
    refine G.nil ?_
    refine C.seq ?_
    refine C.cond_dec rfl (fun hlt => ?_) (fun hlt => ?_)
    · cases b with
      | nil => simp at hlt
      | cons x b =>
        obtain ⟨q', o, c, rfl, hrd, hcell⟩ := Sl.cell (i := a.length) (v := intV x) (Sl.heap (H := []) (hq.mono hle)) (by simp)
        refine C.skip ?_
        refine Fin.th ?_
        refine C.seq ?_
        refine C.block ?_
        refine C.region_seq ?_
        refine G.value rfl rfl rfl (Sure.indexAddr rfl rfl (by simp; omega)) ?_
        refine G.value rfl rfl rfl (Sure.load rfl hrd hcell) ?_
        refine G.value rfl rfl rfl (Sure.assign rfl) ?_
        refine G.nil ?_
        refine C.region ?_
        refine G.value rfl rfl rfl (Sure.move rfl) ?_
        refine G.value rfl rfl rfl (Sure.move rfl) ?_
        refine G.call rfl rfl rfl rfl rfl rfl ((putInt_spec M' p1 c1 (bs ++ intsB a) x hsb (by rw [List.length_append, intsB_len]; simp at hb; omega)).retB) (Split.nil) ?_
        rintro v2 M2 H2 le2 ⟨rfl, p2, c2, rfl, hs2⟩
        refine G.value rfl rfl rfl (Sure.assign rfl) ?_
        refine G.nil ?_
        refine Fin.blk ?_
        refine Fin.th ?_
        refine C.region ?_
        refine G.value rfl rfl rfl (Sure.add rfl rfl (inK64 (by omega))) ?_
        refine G.value rfl rfl rfl (Sure.move rfl) ?_
        refine G.nil ?_
        refine Fin.th ?_
        have e : bs ++ intsB a ++ le (IntKind.u64.wrap x).toNat 8 = bs ++ intsB (a ++ [x]) := by simp [intsB]
        rw [e] at hs2 ⊢
        refine ⟨b.length, _, _, by simp at hk; omega, ⟨a ++ [x], b, _, hle.trans le2, by simp, rfl, ⟨rfl, p2, c2, rfl, hs2⟩, rfl⟩, ⟨rfl, rfl, rfl, by simp; rfl, trivial⟩, _, Split.nil⟩
    · have hb0 : b = [] := List.eq_nil_of_length_eq_zero (by omega)
      subst hb0
      refine C.exit ?_
      refine Fin.th_exit ?_
      refine Fin.th_exit ?_
      refine Fin.blk_eq ?_
      refine Fin.th ?_
      refine C.region_seq ?_
      refine G.value rfl rfl rfl (Sure.move rfl) ?_
      refine G.value rfl rfl rfl (Sure.assign rfl) ?_
      refine G.nil ?_
      refine C.ret ?_
      refine Fin.fn (Res.tmp rfl rfl) Split.nil ⟨rfl, p1, c1, ?_, ?_⟩
      · simp
      · simpa using hsb
end Go.Proofs.YtaeeahcokiebdaaGreat

/-
  The walks of deeds as bytes.
  Conditions: the bytes are at most ten million.
-/
namespace Go.Proofs.YtaeeahcokiebdaaGreat
set_option maxRecDepth 20000

structure Entry where
  name : ByteArray
  no : Int
structure Run where
  fr : Int
  ad : Int
  cnt : Int
structure Ino where
  no : Int
  kind : Int
  links : Int
  size : Int
  tgt : ByteArray
  ents : List Entry
  runs : List Run
structure Deed where
  kind : Int
  no : Int
  ino : Ino
abbrev entL (e : Entry) : List Value := [.string e.name, intV e.no]
abbrev runL (r : Run) : List Value := [intV r.fr, intV r.ad, intV r.cnt]
def REnts (M : Mem) (p : Option Addr) (l : List Entry) : Prop := SlL M [] 2 p (l.map entL)
def RRuns (M : Mem) (p : Option Addr) (l : List Run) : Prop := SlL M [] 3 p (l.map runL)
/-- An inode, and where its lists lie. -/
structure InoD where
  x : Ino
  pe : Option Addr
  ce : Nat
  pr : Option Addr
  cr : Nat
abbrev inoDL (d : InoD) : List Value := [intV d.x.no, intV d.x.kind, intV d.x.links, intV d.x.size, .string d.x.tgt, .slice d.pe d.x.ents.length d.ce, .slice d.pr d.x.runs.length d.cr]
def DOk (M : Mem) (d : InoD) : Prop := REnts M d.pe d.x.ents ∧ RRuns M d.pr d.x.runs
theorem DOk.mono {M M' d} (h : DOk M d) (hl : MLe M M') : DOk M' d := ⟨SlL.mono h.1 hl, SlL.mono h.2 hl⟩
structure DeedD where
  kind : Int
  no : Int
  d : InoD
abbrev deedDL (d : DeedD) : List Value := intV d.kind :: intV d.no :: inoDL d.d
def DeedD.v (d : DeedD) : Deed := ⟨d.kind, d.no, d.d.x⟩
def RInos (M : Mem) (p : Option Addr) (l : List InoD) : Prop := SlL M [] 7 p (l.map inoDL) ∧ ∀ d ∈ l, DOk M d
def RDeeds (M : Mem) (p : Option Addr) (l : List DeedD) : Prop := SlL M [] 9 p (l.map deedDL) ∧ ∀ d ∈ l, DOk M d.d
theorem RInos.mono {M M' p l} (h : RInos M p l) (hl : MLe M M') : RInos M' p l := ⟨h.1.mono hl, fun d hd => (h.2 d hd).mono hl⟩
theorem RDeeds.mono {M M' p l} (h : RDeeds M p l) (hl : MLe M M') : RDeeds M' p l := ⟨h.1.mono hl, fun d hd => (h.2 d hd).mono hl⟩

/-! ### as bytes -/
def intB (v : Int) : List UInt8 := le (IntKind.u64.wrap v).toNat 8
def txtB (t : ByteArray) : List UInt8 := le t.size 4 ++ t.data.toList
def entB (e : Entry) : List UInt8 := txtB e.name ++ intB e.no
def runB (r : Run) : List UInt8 := intsB [r.fr, r.ad, r.cnt]
def inoB (x : Ino) : List UInt8 := intsB [x.no, x.kind, x.links, x.size] ++ txtB x.tgt ++ le x.ents.length 4 ++ (x.ents.map entB).flatten ++ le x.runs.length 4 ++ (x.runs.map runB).flatten
def deedB (d : Deed) : List UInt8 := le (IntKind.u64.wrap d.kind).toNat 1 ++ (if d.kind = 1 ∨ d.kind = 3 ∨ d.kind = 4 then intB d.no else if d.kind = 2 then inoB d.ino else [])
def deedsB (l : List Deed) : List UInt8 := (l.map deedB).flatten
@[simp] theorem intB_len (v : Int) : (intB v).length = 8 := by simp [intB]
@[simp] theorem txtB_len (t : ByteArray) : (txtB t).length = 4 + t.size := by
  have : t.data.size = t.size := rfl
  simp [txtB, this]
@[simp] theorem entB_len (e : Entry) : (entB e).length = 12 + e.name.size := by simp [entB]; omega
@[simp] theorem runB_len (r : Run) : (runB r).length = 24 := by simp [runB, intsB_len]
theorem data_len (t : ByteArray) : t.data.toList.length = t.size := by rw [Array.length_toList]; rfl
theorem u64_wrap_bd (v : Int) : 0 ≤ IntKind.u64.wrap v ∧ IntKind.u64.wrap v < 18446744073709551616 := by simp [IntKind.wrap, IntKind.bits, IntKind.signed]; omega
theorem flatten_app {α : Type} (f : α → List UInt8) (a : List α) (x : α) (b : List α) : ((a ++ x :: b).map f).flatten = (a.map f).flatten ++ f x ++ (b.map f).flatten := by simp
theorem pack_inode_spec (M : Mem) (p : Option Addr) (cap : Nat) (bs : List UInt8) (d : InoD) (hs : SB M p bs) (hd : DOk M d) (hb : bs.length + (inoB d.x).length ≤ 10000000) :
    Spec Tryz.prog 89 [.slice p bs.length cap, .agg (inoDL d).toArray] M [] (fun r M' H => RetB (bs ++ inoB d.x) r M' H) := by
  have hbl : (inoB d.x).length = 32 + (4 + d.x.tgt.size) + 4 + ((d.x.ents.map entB).flatten).length + 4 + ((d.x.runs.map runB).flatten).length := by simp [inoB, intsB_len]; omega
  have hel : d.x.ents.length ≤ ((d.x.ents.map entB).flatten).length := by
    induction d.x.ents with
    | nil => simp
    | cons e l ih => simp at ih ⊢; omega
  have hrl : d.x.runs.length ≤ ((d.x.runs.map runB).flatten).length := by
    induction d.x.runs with
    | nil => simp
    | cons e l ih => simp at ih ⊢; omega
  refine Spec.of_code 68 Tryz.func89 rfl callable89 rfl rfl fun w => ?_
  refine C.region_seq ?_
  refine G.dyn rfl rfl rfl ?_
  refine Dyn.boxAgg rfl ?_
  intro b3
  refine G.value rfl rfl rfl (Sure.assign rfl) ?_
  refine G.nil ?_
  -- draws its order
  refine C.draw_seq (_) mixed (by kernel_rfl) (Incl.refl _) ?_
  refine GD.val 0 rfl rfl rfl rfl (by kernel_rfl) rfl (Sure.move rfl) ?_
  refine GD.val 1 rfl rfl rfl rfl (by kernel_rfl) rfl (Sure.fieldAddr rfl) ?_
  refine GD.val 2 rfl rfl rfl rfl (by kernel_rfl) rfl (Sure.load rfl rdx rfl) ?_
  refine GD.val 3 rfl rfl rfl rfl (by kernel_rfl) rfl (Sure.fieldAddr rfl) ?_
  refine GD.val 4 rfl rfl rfl rfl (by kernel_rfl) rfl (Sure.load rfl rdx rfl) ?_
  refine GD.val 5 rfl rfl rfl rfl (by kernel_rfl) rfl (Sure.fieldAddr rfl) ?_
  refine GD.val 6 rfl rfl rfl rfl (by kernel_rfl) rfl (Sure.load rfl rdx rfl) ?_
  refine GD.val 7 rfl rfl rfl rfl (by kernel_rfl) rfl (Sure.fieldAddr rfl) ?_
  refine GD.val 8 rfl rfl rfl rfl (by kernel_rfl) rfl (Sure.load rfl rdx rfl) ?_
  refine GD.val 11 rfl rfl rfl rfl (by kernel_rfl) rfl (Sure.fieldAddr rfl) ?_
  refine GD.val 12 rfl rfl rfl rfl (by kernel_rfl) rfl (Sure.load rfl rdx rfl) ?_
  refine GD.one 9 (by kernel_rfl) rfl rfl (by kernel_rfl) ?_
  refine Next.dyn 9 rfl rfl rfl (by kernel_rfl) (by kernel_rfl) rfl ?_
  refine Dyn.buildSlice rfl rfl rfl (by simp [vcl]) (by decide) ?_
  intro b2
  refine ⟨MLe.refl _, Incl.cons (by simp) (Incl.nil _), ?_⟩
  refine GD.mem (Incl.refl _) fun M2 le2 hM2 => ?_
  refine GD.one 10 (by kernel_rfl) rfl rfl (by kernel_rfl) ?_
  refine Next.call 10 rfl rfl rfl (by kernel_rfl) (by kernel_rfl) rfl rfl rfl rfl (ints_spec M2 p (some ⟨b2, 0, Option.none⟩) cap 4 bs [d.x.no, d.x.kind, d.x.links, d.x.size] (hs.mono le2) ⟨rfl, fun _ => ⟨b2, 0, _, rfl, Rd.m hM2, rfl⟩⟩ (by simp; omega)) (Split.nil) ?_
  rintro _ M3 _ le3 ⟨rfl, p3, c3, rfl, hs3⟩
  refine ⟨incx, ?_⟩
  refine GD.one 13 (by kernel_rfl) rfl rfl (by kernel_rfl) ?_
  refine Next.call 13 rfl rfl rfl (by kernel_rfl) (by kernel_rfl) rfl rfl rfl rfl ((putText_spec M3 p3 c3 _ d.x.tgt hs3 (by simp [intsB_len]; omega) (by omega)).retB) (Split.nil) ?_
  rintro _ M4 _ le4 ⟨rfl, p4, c4, rfl, hs4⟩
  refine ⟨incx, ?_⟩
  refine GD.one 14 (by kernel_rfl) rfl rfl (by kernel_rfl) ?_
  refine Next.dyn 14 rfl rfl rfl (by kernel_rfl) (by kernel_rfl) rfl (Dyn.assign rfl ?_)
  refine ⟨MLe.refl _, incx, ?_⟩
  refine GD.done (by kernel_rfl) (by kernel_rfl) ?_
  refine C.region_seq ?_
  refine G.value rfl rfl rfl (Sure.move rfl) ?_
  refine G.value rfl rfl rfl (Sure.fieldAddr rfl) ?_
  refine G.value rfl rfl rfl (Sure.load rfl rdx rfl) ?_
  refine G.value rfl rfl rfl (Sure.len_slice rfl) ?_
  refine G.value rfl rfl rfl (Sure.conv rfl (inKu64 (by omega))) ?_
  refine G.call rfl rfl rfl rfl rfl rfl ((put_spec M4 p4 c4 _ d.x.ents.length 4 hs4 (by simp [intsB_len]; omega) (by omega) (by omega)).retB) (Split.nil) ?_
  rintro _ M5 _ le5 ⟨rfl, p5, c5, rfl, hs5⟩
  refine G.value rfl rfl rfl (Sure.assign rfl) ?_
  refine G.nil ?_
  refine C.seq ?_
  refine C.region_seq ?_
  refine G.value rfl rfl rfl (Sure.fieldAddr rfl) ?_
  refine G.value rfl rfl rfl (Sure.load rfl rdx rfl) ?_
  refine G.value rfl rfl rfl (Sure.len_slice rfl) ?_
  refine G.value rfl rfl rfl (Sure.move rfl) ?_
  refine G.nil ?_
  refine C.block ?_
  have e5 : bs ++ intsB [d.x.no, d.x.kind, d.x.links, d.x.size] ++ le d.x.tgt.size 4 ++ d.x.tgt.data.toList ++ le d.x.ents.length 4 = bs ++ (intsB [d.x.no, d.x.kind, d.x.links, d.x.size] ++ txtB d.x.tgt ++ le d.x.ents.length 4) := by simp [txtB]
  rw [e5] at hs5 ⊢
  have hl1 : (intsB [d.x.no, d.x.kind, d.x.links, d.x.size] ++ txtB d.x.tgt ++ le d.x.ents.length 4).length = 32 + (4 + d.x.tgt.size) + 4 := by simp [intsB_len]; omega
  generalize hP : intsB [d.x.no, d.x.kind, d.x.links, d.x.size] ++ txtB d.x.tgt ++ le d.x.ents.length 4 = P at hs5 hl1 ⊢
  clear e5
  have hle5 : MLe M M5 := ((le2.trans le3).trans le4).trans le5
  refine C.loop (fun k E M' H => ∃ (a b : List Entry) (v : Value), MLe M M' ∧ d.x.ents = a ++ b ∧ b.length = k ∧ RetB (bs ++ (P ++ (a.map entB).flatten)) v M' [] ∧ E = [(0, v), (3, .pointer (some ⟨b3, 0, Option.none⟩)), (30, .slice d.pe d.x.ents.length d.ce), (31, .int .i64 d.x.ents.length), (32, .int .i64 a.length)] ∧ H = [(b3, .cells (inoDL d))]) (d.x.ents.length) ?_ ?_
  · exact ⟨_, _, ⟨[], d.x.ents, _, hle5, rfl, rfl, ⟨rfl, p5, c5, rfl, by simpa using hs5⟩, rfl, rfl⟩, ⟨by simp; rfl, rfl, rfl, rfl, rfl, trivial⟩, _, Split.cons .here Split.nil⟩
  · clear hle5 le2 le3 le4 le5 hs5 hs4 hs3
    rintro k E M' H ⟨a, b, v, hle, hab, hk, ⟨-, p1, c1, rfl, hsb⟩, rfl, rfl⟩
    have hfl : (d.x.ents.map entB).flatten.length = (a.map entB).flatten.length + (b.map entB).flatten.length := by rw [hab]; simp
    have hlen : d.x.ents.length = a.length + b.length := by rw [hab]; simp
    refine C.region_seq ?_
    refine G.value rfl rfl rfl (Sure.lss rfl rfl) ?_
    refine G.nil ?_
    refine C.seq ?_
    refine C.cond_dec rfl (fun hlt => ?_) (fun hlt => ?_)
    · cases b with
      | nil => simp at hlen hlt; omega
      | cons x b =>
        have hxl : ((x :: b).map entB).flatten.length = 12 + x.name.size + (b.map entB).flatten.length := by simp
        obtain ⟨q', o, c, hpe, hrd, hseg⟩ := SlL.row (i := a.length) (e := entL x) (SlL.heap (H := [(b3, .cells (inoDL d))]) (hd.1.mono hle)) (by simp [hab])
        rw [hpe]
        refine C.skip ?_
        refine Fin.th ?_
        refine C.seq ?_
        refine C.block ?_
        refine C.region_seq ?_
        refine G.value rfl rfl rfl (Sure.indexAddr rfl rfl (by simp; omega)) ?_
        refine G.value rfl rfl rfl (Sure.loadAgg rfl hrd hseg) ?_
        refine G.dyn rfl rfl rfl ?_
        refine Dyn.allocAgg ?_
        intro b6
        refine G.dyn0 rfl rfl ?_
        refine Dyn.storeAgg rfl rfl pkx rfl rfl rfl ?_
        refine G.nil ?_
        -- draws its order
        refine C.draw (_) mixed (by kernel_rfl) (Incl.refl _) ?_
        refine GD.val 0 rfl rfl rfl rfl (by kernel_rfl) rfl (Sure.move rfl) ?_
        refine GD.val 1 rfl rfl rfl rfl (by kernel_rfl) rfl (Sure.fieldAddr rfl) ?_
        refine GD.val 2 rfl rfl rfl rfl (by kernel_rfl) rfl (Sure.load rfl rdx rfl) ?_
        refine GD.val 4 rfl rfl rfl rfl (by kernel_rfl) rfl (Sure.fieldAddr rfl) ?_
        refine GD.val 5 rfl rfl rfl rfl (by kernel_rfl) rfl (Sure.load rfl rdx rfl) ?_
        refine GD.one 3 (by kernel_rfl) rfl rfl (by kernel_rfl) ?_
        refine Next.call 3 rfl rfl rfl (by kernel_rfl) (by kernel_rfl) rfl rfl rfl rfl ((putText_spec M' p1 c1 _ x.name hsb (by simp only [List.length_append]; omega) (by omega)).retB) (Split.nil) ?_
        rintro _ M2 _ le2 ⟨rfl, p2, c2, rfl, hs2⟩
        refine ⟨incx, ?_⟩
        refine GD.one 6 (by kernel_rfl) rfl rfl (by kernel_rfl) ?_
        refine Next.call 6 rfl rfl rfl (by kernel_rfl) (by kernel_rfl) rfl rfl rfl rfl ((putInt_spec M2 p2 c2 _ x.no hs2 (by simp only [List.length_append, le_len, data_len]; omega)).retB) (Split.nil) ?_
        rintro _ M3 _ le3 ⟨rfl, p3, c3, rfl, hs3⟩
        refine ⟨incx, ?_⟩
        refine GD.one 7 (by kernel_rfl) rfl rfl (by kernel_rfl) ?_
        refine Next.dyn 7 rfl rfl rfl (by kernel_rfl) (by kernel_rfl) rfl (Dyn.assign rfl ?_)
        refine ⟨MLe.refl _, incx, ?_⟩
        refine GD.done (by kernel_rfl) (by kernel_rfl) ?_
        refine Fin.blk ?_
        refine Fin.th ?_
        refine C.region ?_
        refine G.value rfl rfl rfl (Sure.add rfl rfl (inK64 (by omega))) ?_
        refine G.value rfl rfl rfl (Sure.move rfl) ?_
        refine G.nil ?_
        refine Fin.th ?_
        have e3 : bs ++ (P ++ (a.map entB).flatten) ++ le x.name.size 4 ++ x.name.data.toList ++ le (IntKind.u64.wrap x.no).toNat 8 = bs ++ (P ++ ((a ++ [x]).map entB).flatten) := by simp [entB, txtB, intB]
        rw [e3] at hs3 ⊢
        refine ⟨b.length, _, _, by simp at hk; omega, ⟨a ++ [x], b, _, (hle.trans le2).trans le3, by simp [hab], rfl, ⟨rfl, p3, c3, rfl, hs3⟩, rfl, rfl⟩, ⟨rfl, rfl, rfl, rfl, by simp; rfl, trivial⟩, _, Split.cons (by simpa using Pick.there Pick.here) Split.nil⟩
    · have hb0 : b = [] := List.eq_nil_of_length_eq_zero (by omega)
      subst hb0
      simp only [List.append_nil] at hab
      subst hab
      clear hlen hk hfl
      refine C.exit ?_
      refine Fin.th_exit ?_
      refine Fin.th_exit ?_
      refine Fin.blk_eq ?_
      refine Fin.th ?_
      refine C.region_seq ?_
      refine G.value rfl rfl rfl (Sure.move rfl) ?_
      refine G.value rfl rfl rfl (Sure.fieldAddr rfl) ?_
      refine G.value rfl rfl rfl (Sure.load rfl rdx rfl) ?_
      refine G.value rfl rfl rfl (Sure.len_slice rfl) ?_
      refine G.value rfl rfl rfl (Sure.conv rfl (inKu64 (by omega))) ?_
      refine G.call rfl rfl rfl rfl rfl rfl ((put_spec M' p1 c1 _ d.x.runs.length 4 hsb (by simp only [List.length_append]; omega) (by omega) (by omega)).retB) (Split.nil) ?_
      rintro _ M5 _ le5 ⟨rfl, p5, c5, rfl, hs5⟩
      refine G.value rfl rfl rfl (Sure.assign rfl) ?_
      refine G.nil ?_
      refine C.seq ?_
      refine C.region_seq ?_
      refine G.value rfl rfl rfl (Sure.fieldAddr rfl) ?_
      refine G.value rfl rfl rfl (Sure.load rfl rdx rfl) ?_
      refine G.value rfl rfl rfl (Sure.len_slice rfl) ?_
      refine G.value rfl rfl rfl (Sure.move rfl) ?_
      refine G.nil ?_
      refine C.block ?_
      have e5 : bs ++ (P ++ (d.x.ents.map entB).flatten) ++ le d.x.runs.length 4 = bs ++ (P ++ (d.x.ents.map entB).flatten ++ le d.x.runs.length 4) := by simp
      rw [e5] at hs5 ⊢
      have hql : (P ++ (d.x.ents.map entB).flatten ++ le d.x.runs.length 4).length = 32 + (4 + d.x.tgt.size) + 4 + (d.x.ents.map entB).flatten.length + 4 := by simp only [List.length_append, le_len]; omega
      have hino : inoB d.x = (P ++ (d.x.ents.map entB).flatten ++ le d.x.runs.length 4) ++ (d.x.runs.map runB).flatten := by subst hP; simp [inoB]
      rw [hino]
      generalize P ++ (d.x.ents.map entB).flatten ++ le d.x.runs.length 4 = Q at hs5 hql ⊢
      have hle5 := hle.trans le5
      clear hP hl1 hsb hle le5 e5 hino
      refine C.loop (fun k E M' H => ∃ (a b : List Run) (v : Value), MLe M M' ∧ d.x.runs = a ++ b ∧ b.length = k ∧ RetB (bs ++ (Q ++ (a.map runB).flatten)) v M' [] ∧ E = [(0, v), (3, .pointer (some ⟨b3, 0, Option.none⟩)), (51, .slice d.pr d.x.runs.length d.cr), (52, .int .i64 d.x.runs.length), (53, .int .i64 a.length)] ∧ H = [(b3, .cells (inoDL d))]) (d.x.runs.length) ?_ ?_
      · exact ⟨_, _, ⟨[], d.x.runs, _, hle5, rfl, rfl, ⟨rfl, p5, c5, rfl, by simpa using hs5⟩, rfl, rfl⟩, ⟨by simp; rfl, rfl, rfl, rfl, rfl, trivial⟩, _, Split.cons .here Split.nil⟩
      · clear hle5 hs5
        rintro k E M' H ⟨a, b, v, hle, hab, hk, ⟨-, p1, c1, rfl, hsb⟩, rfl, rfl⟩
        have hfl : (d.x.runs.map runB).flatten.length = (a.map runB).flatten.length + (b.map runB).flatten.length := by rw [hab]; simp
        have hlen : d.x.runs.length = a.length + b.length := by rw [hab]; simp
        refine C.region_seq ?_
        refine G.value rfl rfl rfl (Sure.lss rfl rfl) ?_
        refine G.nil ?_
        refine C.seq ?_
        refine C.cond_dec rfl (fun hlt => ?_) (fun hlt => ?_)
        · cases b with
          | nil => simp at hlen hlt; omega
          | cons x b =>
            have hxl : ((x :: b).map runB).flatten.length = 24 + (b.map runB).flatten.length := by simp
            obtain ⟨q', o, c, hpe, hrd, hseg⟩ := SlL.row (i := a.length) (e := runL x) (SlL.heap (H := [(b3, .cells (inoDL d))]) (hd.2.mono hle)) (by simp [hab])
            rw [hpe]
            refine C.skip ?_
            refine Fin.th ?_
            refine C.seq ?_
            refine C.block ?_
            refine C.region_seq ?_
            refine G.value rfl rfl rfl (Sure.indexAddr rfl rfl (by simp; omega)) ?_
            refine G.value rfl rfl rfl (Sure.loadAgg rfl hrd hseg) ?_
            refine G.dyn rfl rfl rfl ?_
            refine Dyn.allocAgg ?_
            intro b8
            refine G.dyn0 rfl rfl ?_
            refine Dyn.storeAgg rfl rfl pkx rfl rfl rfl ?_
            refine G.nil ?_
            refine C.region ?_
            refine G.value rfl rfl rfl (Sure.move rfl) ?_
            refine G.value rfl rfl rfl (Sure.fieldAddr rfl) ?_
            refine G.value rfl rfl rfl (Sure.load rfl rdx rfl) ?_
            refine G.value rfl rfl rfl (Sure.fieldAddr rfl) ?_
            refine G.value rfl rfl rfl (Sure.load rfl rdx rfl) ?_
            refine G.value rfl rfl rfl (Sure.fieldAddr rfl) ?_
            refine G.value rfl rfl rfl (Sure.load rfl rdx rfl) ?_
            refine G.dyn rfl rfl rfl ?_
            refine Dyn.buildSlice rfl rfl rfl (by simp [vcl]) (by decide) ?_
            intro b4
            refine G.donate fun M2 le2 hM2 => ?_
            refine G.call rfl rfl rfl rfl rfl rfl (ints_spec M2 p1 (some ⟨b4, 0, Option.none⟩) c1 3 _ [x.fr, x.ad, x.cnt] (hsb.mono le2) ⟨rfl, fun _ => ⟨b4, 0, _, rfl, Rd.m hM2, rfl⟩⟩ (by simp only [List.length_append, List.length_cons, List.length_nil]; omega)) (Split.nil) ?_
            rintro _ M3 _ le3 ⟨rfl, p3, c3, rfl, hs3⟩
            refine G.value rfl rfl rfl (Sure.assign rfl) ?_
            refine G.nil ?_
            refine Fin.blk ?_
            refine Fin.th ?_
            refine C.region ?_
            refine G.value rfl rfl rfl (Sure.add rfl rfl (inK64 (by omega))) ?_
            refine G.value rfl rfl rfl (Sure.move rfl) ?_
            refine G.nil ?_
            refine Fin.th ?_
            have e3 : bs ++ (Q ++ (a.map runB).flatten) ++ intsB [x.fr, x.ad, x.cnt] = bs ++ (Q ++ ((a ++ [x]).map runB).flatten) := by simp [runB]
            rw [e3] at hs3 ⊢
            refine ⟨b.length, _, _, by simp at hk; omega, ⟨a ++ [x], b, _, (hle.trans le2).trans le3, by simp [hab], rfl, ⟨rfl, p3, c3, rfl, hs3⟩, rfl, rfl⟩, ⟨rfl, rfl, rfl, rfl, by simp; rfl, trivial⟩, _, Split.cons (by simpa using Pick.there Pick.here) Split.nil⟩
        · have hb0 : b = [] := List.eq_nil_of_length_eq_zero (by omega)
          subst hb0
          simp only [List.append_nil] at hab
          subst hab
          refine C.exit ?_
          refine Fin.th_exit ?_
          refine Fin.th_exit ?_
          refine Fin.blk_eq ?_
          refine Fin.th ?_
          refine C.region_seq ?_
          refine G.value rfl rfl rfl (Sure.move rfl) ?_
          refine G.value rfl rfl rfl (Sure.assign rfl) ?_
          refine G.nil ?_
          refine C.ret ?_
          refine Fin.fn (Res.tmp rfl rfl) Split.nil ⟨rfl, p1, c1, rfl, hsb⟩
end Go.Proofs.YtaeeahcokiebdaaGreat

/-
  The walk of deeds as bytes.
  Conditions: the bytes are at most ten million.
-/
namespace Go.Proofs.YtaeeahcokiebdaaGreat
set_option maxRecDepth 20000

theorem deedB_pos (d : Deed) : 1 ≤ (deedB d).length := by simp [deedB]
theorem deeds_spec (M : Mem) (p : Option Addr) (cap : Nat) (l : List DeedD) (hd : RDeeds M p l) (hb : (deedsB (l.map DeedD.v)).length ≤ 10000000) :
    Spec Tryz.prog 52 [.slice p l.length cap] M [] (fun r M' H => RetB (deedsB (l.map DeedD.v)) r M' H) := by
  have hll : l.length ≤ (deedsB (l.map DeedD.v)).length := by
    unfold deedsB
    clear hb hd
    induction l with
    | nil => simp
    | cons e l ih => have := deedB_pos e.v; simp at ih ⊢; omega
  refine Spec.of_code 35 Tryz.func52 rfl callable52 rfl rfl fun w => ?_
  refine C.region_seq ?_
  refine G.value rfl rfl rfl (Sure.assign rfl) ?_
  refine G.nil ?_
  refine C.region_seq ?_
  refine G.value rfl rfl rfl (Sure.assign rfl) ?_
  refine G.nil ?_
  refine C.seq ?_
  refine C.region_seq ?_
  refine G.value rfl rfl rfl (Sure.move rfl) ?_
  refine G.value rfl rfl rfl (Sure.len_slice rfl) ?_
  refine G.value rfl rfl rfl (Sure.move rfl) ?_
  refine G.nil ?_
  refine C.block ?_
  refine C.loop (fun k E M' H => ∃ (a b : List DeedD) (v : Value), MLe M M' ∧ l = a ++ b ∧ b.length = k ∧ RetB (deedsB (a.map DeedD.v)) v M' H ∧ E = [(3, v), (6, .slice p l.length cap), (7, .int .i64 l.length), (8, .int .i64 a.length)]) (l.length) ?_ ?_
  · exact ⟨_, _, ⟨[], l, _, MLe.refl _, rfl, rfl, ⟨rfl, Option.none, 0, rfl, Sl.empty⟩, rfl⟩, ⟨rfl, rfl, rfl, rfl, trivial⟩, _, Split.nil⟩
  · rintro k E M' H ⟨a, b, v, hle, rfl, hk, ⟨rfl, p1, c1, rfl, hsb⟩, rfl⟩
    have hfl : (deedsB ((a ++ b).map DeedD.v)).length = (deedsB (a.map DeedD.v)).length + (deedsB (b.map DeedD.v)).length := by simp [deedsB]
    have hlen : (a ++ b).length = a.length + b.length := by simp
    refine C.region_seq ?_
    refine G.value rfl rfl rfl (Sure.lss rfl rfl) ?_
    refine G.nil ?_
    refine C.seq ?_
    refine C.cond_dec rfl (fun hlt => ?_) (fun hlt => ?_)
    · cases b with
      | nil => simp at hlt
      | cons x b =>
        have hxl : (deedsB ((x :: b).map DeedD.v)).length = (deedB x.v).length + (deedsB (b.map DeedD.v)).length := by simp [deedsB]
        obtain ⟨q', o, c, rfl, hrd, hseg⟩ := SlL.row (i := a.length) (e := deedDL x) (SlL.heap (H := []) (hd.1.mono hle)) (by simp)
        have hdx : DOk M' x.d := (hd.2 x (by simp)).mono hle
        refine C.skip ?_
        refine Fin.th ?_
        refine C.seq ?_
        refine C.block ?_
        refine C.region_seq ?_
        refine G.value rfl rfl rfl (Sure.indexAddr rfl rfl (by simp; omega)) ?_
        refine G.value rfl rfl rfl (Sure.loadAgg rfl hrd hseg) ?_
        refine G.dyn rfl rfl rfl ?_
        refine Dyn.allocAgg ?_
        intro b5
        refine G.dyn0 rfl rfl ?_
        refine Dyn.storeAgg rfl rfl pkx rfl rfl rfl ?_
        refine G.nil ?_
        refine C.region_seq ?_
        refine G.value rfl rfl rfl (Sure.move rfl) ?_
        refine G.value rfl rfl rfl (Sure.fieldAddr rfl) ?_
        refine G.value rfl rfl rfl (Sure.load rfl rdx rfl) ?_
        refine G.value rfl rfl rfl (Sure.conv' rfl) ?_
        have hw := u64_wrap_bd x.kind
        have hkl : 1 ≤ (deedB x.v).length := deedB_pos _
        rw [show IntKind.u64.wrap x.kind = ((IntKind.u64.wrap x.kind).toNat : Int) from by omega]
        refine G.call rfl rfl rfl rfl rfl rfl ((put_spec M' p1 c1 _ (IntKind.u64.wrap x.kind).toNat 1 hsb (by omega) (by omega) (by omega)).retB) (Split.nil) ?_
        rintro _ M5 _ le5 ⟨rfl, p5, c5, rfl, hs5⟩
        refine G.value rfl rfl rfl (Sure.assign rfl) ?_
        refine G.nil ?_
        refine C.region_seq ?_
        refine G.value rfl rfl rfl (Sure.fieldAddr rfl) ?_
        refine G.value rfl rfl rfl (Sure.load rfl rdx rfl) ?_
        refine G.nil ?_
        refine C.block ?_
        refine C.seq ?_
        refine C.region_seq ?_
        refine G.value rfl rfl rfl (Sure.eql rfl rfl) ?_
        refine G.value rfl rfl rfl (Sure.assign rfl) ?_
        refine G.nil ?_
        refine C.cond_dec rfl (fun h1 => ?_) (fun h1 => ?_)
        · rw [decide_eq_true (show x.kind = 1 from h1)]
          refine C.skip ?_
          refine Fin.th ?_
          refine C.cond_true rfl ?_
          refine C.region ?_
          refine G.value rfl rfl rfl (Sure.move rfl) ?_
          refine G.value rfl rfl rfl (Sure.fieldAddr rfl) ?_
          refine G.value rfl rfl rfl (Sure.load rfl rdx rfl) ?_
          refine G.call rfl rfl rfl rfl rfl rfl ((putInt_spec M5 p5 c5 _ x.no hs5 (by simp only [List.length_append, le_len]; omega)).retB) (Split.nil) ?_
          rintro _ M6 _ le6 ⟨rfl, p6, c6, rfl, hs6⟩
          refine G.value rfl rfl rfl (Sure.assign rfl) ?_
          refine G.nil ?_
          refine Fin.blk ?_
          refine Fin.blk ?_
          refine Fin.th ?_
          refine C.region ?_
          refine G.value rfl rfl rfl (Sure.add rfl rfl (inK64 (by omega))) ?_
          refine G.value rfl rfl rfl (Sure.move rfl) ?_
          refine G.nil ?_
          refine Fin.th ?_
          have e6 : deedsB (a.map DeedD.v) ++ le (IntKind.u64.wrap x.kind).toNat 1 ++ le (IntKind.u64.wrap x.no).toNat 8 = deedsB ((a ++ [x]).map DeedD.v) := by
            have : deedB x.v = le (IntKind.u64.wrap x.kind).toNat 1 ++ intB x.no := by simp [deedB, DeedD.v, show x.kind = 1 from h1]
            simp [deedsB, this, intB]
          rw [e6] at hs6 ⊢
          refine ⟨b.length, _, _, by simp at hk; omega, ⟨a ++ [x], b, _, (hle.trans le5).trans le6, by simp, rfl, ⟨rfl, p6, c6, rfl, hs6⟩, rfl⟩, ⟨rfl, rfl, rfl, by simp; rfl, trivial⟩, _, Split.nil⟩
        · refine C.region_seq ?_
          refine G.value rfl rfl rfl (Sure.eql rfl rfl) ?_
          refine G.value rfl rfl rfl (Sure.assign rfl) ?_
          refine G.nil ?_
          refine C.cond_dec rfl (fun h3 => ?_) (fun h3 => ?_)
          · rw [decide_eq_true (show x.kind = 3 from h3)]
            refine C.skip ?_
            refine Fin.th ?_
            refine C.cond_true rfl ?_
            refine C.region ?_
            refine G.value rfl rfl rfl (Sure.move rfl) ?_
            refine G.value rfl rfl rfl (Sure.fieldAddr rfl) ?_
            refine G.value rfl rfl rfl (Sure.load rfl rdx rfl) ?_
            refine G.call rfl rfl rfl rfl rfl rfl ((putInt_spec M5 p5 c5 _ x.no hs5 (by simp only [List.length_append, le_len]; omega)).retB) (Split.nil) ?_
            rintro _ M6 _ le6 ⟨rfl, p6, c6, rfl, hs6⟩
            refine G.value rfl rfl rfl (Sure.assign rfl) ?_
            refine G.nil ?_
            refine Fin.blk ?_
            refine Fin.blk ?_
            refine Fin.th ?_
            refine C.region ?_
            refine G.value rfl rfl rfl (Sure.add rfl rfl (inK64 (by omega))) ?_
            refine G.value rfl rfl rfl (Sure.move rfl) ?_
            refine G.nil ?_
            refine Fin.th ?_
            have e6 : deedsB (a.map DeedD.v) ++ le (IntKind.u64.wrap x.kind).toNat 1 ++ le (IntKind.u64.wrap x.no).toNat 8 = deedsB ((a ++ [x]).map DeedD.v) := by
              have : deedB x.v = le (IntKind.u64.wrap x.kind).toNat 1 ++ intB x.no := by simp [deedB, DeedD.v, show x.kind = 3 from h3]
              simp [deedsB, this, intB]
            rw [e6] at hs6 ⊢
            refine ⟨b.length, _, _, by simp at hk; omega, ⟨a ++ [x], b, _, (hle.trans le5).trans le6, by simp, rfl, ⟨rfl, p6, c6, rfl, hs6⟩, rfl⟩, ⟨rfl, rfl, rfl, by simp; rfl, trivial⟩, _, Split.nil⟩
          · refine C.region ?_
            refine G.value rfl rfl rfl (Sure.eql rfl rfl) ?_
            refine G.value rfl rfl rfl (Sure.assign rfl) ?_
            refine G.nil ?_
            refine Fin.th ?_
            refine C.cond_dec rfl (fun h4 => ?_) (fun h4 => ?_)
            ·
              refine C.region ?_
              refine G.value rfl rfl rfl (Sure.move rfl) ?_
              refine G.value rfl rfl rfl (Sure.fieldAddr rfl) ?_
              refine G.value rfl rfl rfl (Sure.load rfl rdx rfl) ?_
              refine G.call rfl rfl rfl rfl rfl rfl ((putInt_spec M5 p5 c5 _ x.no hs5 (by simp only [List.length_append, le_len]; omega)).retB) (Split.nil) ?_
              rintro _ M6 _ le6 ⟨rfl, p6, c6, rfl, hs6⟩
              refine G.value rfl rfl rfl (Sure.assign rfl) ?_
              refine G.nil ?_
              refine Fin.blk ?_
              refine Fin.blk ?_
              refine Fin.th ?_
              refine C.region ?_
              refine G.value rfl rfl rfl (Sure.add rfl rfl (inK64 (by omega))) ?_
              refine G.value rfl rfl rfl (Sure.move rfl) ?_
              refine G.nil ?_
              refine Fin.th ?_
              have e6 : deedsB (a.map DeedD.v) ++ le (IntKind.u64.wrap x.kind).toNat 1 ++ le (IntKind.u64.wrap x.no).toNat 8 = deedsB ((a ++ [x]).map DeedD.v) := by
                have : deedB x.v = le (IntKind.u64.wrap x.kind).toNat 1 ++ intB x.no := by simp [deedB, DeedD.v, show x.kind = 4 from h4]
                simp [deedsB, this, intB]
              rw [e6] at hs6 ⊢
              refine ⟨b.length, _, _, by simp at hk; omega, ⟨a ++ [x], b, _, (hle.trans le5).trans le6, by simp, rfl, ⟨rfl, p6, c6, rfl, hs6⟩, rfl⟩, ⟨rfl, rfl, rfl, by simp; rfl, trivial⟩, _, Split.nil⟩
            · refine C.region_seq ?_
              refine G.value rfl rfl rfl (Sure.eql rfl rfl) ?_
              refine G.value rfl rfl rfl (Sure.assign rfl) ?_
              refine G.nil ?_
              refine C.cond_dec rfl (fun h2 => ?_) (fun h2 => ?_)
              · refine C.region ?_
                refine G.value rfl rfl rfl (Sure.move rfl) ?_
                refine G.value rfl rfl rfl (Sure.fieldAddr rfl) ?_
                refine G.value rfl rfl rfl (Sure.loadAgg rfl rdx rfl) ?_
                have hkv : deedB x.v = le (IntKind.u64.wrap x.kind).toNat 1 ++ inoB x.d.x := by simp [deedB, DeedD.v, show x.kind = 2 from h2]
                have hkl2 : (deedB x.v).length = 1 + (inoB x.d.x).length := by rw [hkv]; simp
                refine G.call rfl rfl rfl rfl rfl rfl (pack_inode_spec M5 p5 c5 _ x.d hs5 (hdx.mono le5) (by simp only [List.length_append, le_len]; omega)) (Split.nil) ?_
                rintro _ M6 _ le6 ⟨rfl, p6, c6, rfl, hs6⟩
                refine G.value rfl rfl rfl (Sure.assign rfl) ?_
                refine G.nil ?_
                refine Fin.blk ?_
                refine Fin.blk ?_
                refine Fin.th ?_
                refine C.region ?_
                refine G.value rfl rfl rfl (Sure.add rfl rfl (inK64 (by omega))) ?_
                refine G.value rfl rfl rfl (Sure.move rfl) ?_
                refine G.nil ?_
                refine Fin.th ?_
                have e6 : deedsB (a.map DeedD.v) ++ le (IntKind.u64.wrap x.kind).toNat 1 ++ inoB x.d.x = deedsB ((a ++ [x]).map DeedD.v) := by
                  simp [deedsB, hkv]
                rw [e6] at hs6 ⊢
                refine ⟨b.length, _, _, by simp at hk; omega, ⟨a ++ [x], b, _, (hle.trans le5).trans le6, by simp, rfl, ⟨rfl, p6, c6, rfl, hs6⟩, rfl⟩, ⟨rfl, rfl, rfl, by simp; rfl, trivial⟩, _, Split.nil⟩
              · refine C.skip ?_
                refine Fin.blk ?_
                refine Fin.blk ?_
                refine Fin.th ?_
                refine C.region ?_
                refine G.value rfl rfl rfl (Sure.add rfl rfl (inK64 (by omega))) ?_
                refine G.value rfl rfl rfl (Sure.move rfl) ?_
                refine G.nil ?_
                refine Fin.th ?_
                have e6 : deedsB (a.map DeedD.v) ++ le (IntKind.u64.wrap x.kind).toNat 1 = deedsB ((a ++ [x]).map DeedD.v) := by
                  have : deedB x.v = le (IntKind.u64.wrap x.kind).toNat 1 := by simp [deedB, DeedD.v, show ¬ x.kind = 1 from h1, show ¬ x.kind = 2 from h2, show ¬ x.kind = 3 from h3, show ¬ x.kind = 4 from h4]
                  simp [deedsB, this]
                rw [e6] at hs5 ⊢
                refine ⟨b.length, _, _, by simp at hk; omega, ⟨a ++ [x], b, _, hle.trans le5, by simp, rfl, ⟨rfl, p5, c5, rfl, hs5⟩, rfl⟩, ⟨rfl, rfl, rfl, by simp; rfl, trivial⟩, _, Split.nil⟩
    · have hb0 : b = [] := List.eq_nil_of_length_eq_zero (by omega)
      subst hb0
      refine C.exit ?_
      refine Fin.th_exit ?_
      refine Fin.th_exit ?_
      refine Fin.blk_eq ?_
      refine Fin.th ?_
      refine C.region_seq ?_
      refine G.value rfl rfl rfl (Sure.move rfl) ?_
      refine G.value rfl rfl rfl (Sure.assign rfl) ?_
      refine G.nil ?_
      refine C.ret ?_
      refine Fin.fn (Res.tmp rfl rfl) Split.nil ⟨rfl, p1, c1, ?_, ?_⟩
      · simp
      · simpa using hsb
end Go.Proofs.YtaeeahcokiebdaaGreat

/-
  The walks of copies of slices, and of inodes.
  Conditions: a slice has at most a thousand million elements.
-/
namespace Go.Proofs.YtaeeahcokiebdaaGreat
set_option maxRecDepth 20000

/-- What a function that makes a slice hands back: a slice that stays as it is. -/
def RetL (sz n : Nat) (xs : List Value) (v : Value) (M : Mem) (H : Heap) : Prop := H = [] ∧ ∃ p cap, v = .slice p n cap ∧ Sl M [] sz p n xs
theorem Spec.retL {f args M sz n xs} (h : Spec Tryz.prog f args M [] (fun v _ H => Own sz v n xs H)) : Spec Tryz.prog f args M [] (fun v M' H => RetL sz n xs v M' H) := by
  refine ⟨h.callable, fun w hw => (h.runs w hw).mono ?_⟩
  rintro e w' ⟨v, M', H', rfl, hst, h1, h2⟩
  rcases h2 with ⟨rfl, rfl, rfl⟩ | ⟨b, cap, junk, rfl, h3, rfl, h4⟩
  · exact ⟨_, M', [], rfl, hst, rfl, Option.none, 0, rfl, h1, fun hp => absurd hp (by omega)⟩
  · exact ⟨_, _, [], rfl, hst.donate, rfl, _, _, rfl, h1, fun _ => ⟨b, 0, xs ++ junk, rfl, Rd.m (by simp [mput]), by simpa [seg] using takeN_append h1⟩⟩
theorem cloneEnts_spec (M : Mem) (p : Option Addr) (cap n : Nat) (xs : List Value) (hs : Sl M [] 2 p n xs) (h1 : allOne xs = true) (hn : n ≤ 1000000000) :
    Spec Tryz.prog 144 [.slice p n cap] M [] (fun v _ H => Own 2 v n xs H) := by
  refine Spec.of_code 8 Tryz.func144 rfl callable144 rfl rfl fun w => ?_
  refine C.region_seq ?_
  refine G.value rfl rfl rfl (Sure.assign rfl) ?_
  refine G.nil ?_
  refine C.seq ?_
  refine C.region_seq ?_
  refine G.value rfl rfl rfl (Sure.move rfl) ?_
  refine G.value rfl rfl rfl (Sure.slice_eq_nil rfl rfl) ?_
  refine G.nil ?_
  refine C.cond rfl (fun hnil => ?_) (fun hnil => ?_)
  · have hp0 : n = 0 := by
      rcases Nat.eq_zero_or_pos n with h | h
      · exact h
      · obtain ⟨b, o, c, rfl, _⟩ := hs.2 h
        simp at hnil
    subst hp0
    have hx0 : xs = [] := List.eq_nil_of_length_eq_zero (by simpa using hs.1)
    subst hx0
    refine C.region_seq ?_
    refine G.value rfl rfl rfl (Sure.assign rfl) ?_
    refine G.nil ?_
    refine C.ret ?_
    refine Fin.th_ret ?_
    exact Fin.fn (Res.tmp rfl rfl) Split.nil Own.nil
  · refine C.skip ?_
    refine Fin.th ?_
    refine C.region_seq ?_
    refine G.dyn rfl rfl rfl ?_
    refine Dyn.buildSlice rfl rfl rfl (by simp) (by decide) ?_
    intro b
    refine G.value rfl rfl rfl (Sure.move rfl) ?_
    refine G.dyn rfl rfl rfl ?_
    refine Dyn.append (xs := []) (fun k h => by cases h) rfl rfl rfl (Own.mk (by simp)) PickL.here (Sl.heap hs) h1 (by omega) (by omega) ?_
    intro v2 Hs2 hown2
    refine G.value rfl rfl rfl (Sure.assign rfl) ?_
    refine G.nil ?_
    refine C.ret ?_
    refine Fin.fn (Res.tmp rfl rfl) (Split.one PickL.all) ?_
    simpa using hown2
theorem cloneRuns_spec (M : Mem) (p : Option Addr) (cap n : Nat) (xs : List Value) (hs : Sl M [] 3 p n xs) (h1 : allOne xs = true) (hn : n ≤ 1000000000) :
    Spec Tryz.prog 145 [.slice p n cap] M [] (fun v _ H => Own 3 v n xs H) := by
  refine Spec.of_code 8 Tryz.func145 rfl callable145 rfl rfl fun w => ?_
  refine C.region_seq ?_
  refine G.value rfl rfl rfl (Sure.assign rfl) ?_
  refine G.nil ?_
  refine C.seq ?_
  refine C.region_seq ?_
  refine G.value rfl rfl rfl (Sure.move rfl) ?_
  refine G.value rfl rfl rfl (Sure.slice_eq_nil rfl rfl) ?_
  refine G.nil ?_
  refine C.cond rfl (fun hnil => ?_) (fun hnil => ?_)
  · have hp0 : n = 0 := by
      rcases Nat.eq_zero_or_pos n with h | h
      · exact h
      · obtain ⟨b, o, c, rfl, _⟩ := hs.2 h
        simp at hnil
    subst hp0
    have hx0 : xs = [] := List.eq_nil_of_length_eq_zero (by simpa using hs.1)
    subst hx0
    refine C.region_seq ?_
    refine G.value rfl rfl rfl (Sure.assign rfl) ?_
    refine G.nil ?_
    refine C.ret ?_
    refine Fin.th_ret ?_
    exact Fin.fn (Res.tmp rfl rfl) Split.nil Own.nil
  · refine C.skip ?_
    refine Fin.th ?_
    refine C.region_seq ?_
    refine G.dyn rfl rfl rfl ?_
    refine Dyn.buildSlice rfl rfl rfl (by simp) (by decide) ?_
    intro b
    refine G.value rfl rfl rfl (Sure.move rfl) ?_
    refine G.dyn rfl rfl rfl ?_
    refine Dyn.append (xs := []) (fun k h => by cases h) rfl rfl rfl (Own.mk (by simp)) PickL.here (Sl.heap hs) h1 (by omega) (by omega) ?_
    intro v2 Hs2 hown2
    refine G.value rfl rfl rfl (Sure.assign rfl) ?_
    refine G.nil ?_
    refine C.ret ?_
    refine Fin.fn (Res.tmp rfl rfl) (Split.one PickL.all) ?_
    simpa using hown2
theorem cloneInts_spec (M : Mem) (p : Option Addr) (cap n : Nat) (xs : List Value) (hs : Sl M [] 1 p n xs) (h1 : allOne xs = true) (hn : n ≤ 1000000000) :
    Spec Tryz.prog 91 [.slice p n cap] M [] (fun v _ H => Own 1 v n xs H) := by
  refine Spec.of_code 8 Tryz.func91 rfl callable91 rfl rfl fun w => ?_
  refine C.region_seq ?_
  refine G.value rfl rfl rfl (Sure.assign rfl) ?_
  refine G.nil ?_
  refine C.seq ?_
  refine C.region_seq ?_
  refine G.value rfl rfl rfl (Sure.move rfl) ?_
  refine G.value rfl rfl rfl (Sure.slice_eq_nil rfl rfl) ?_
  refine G.nil ?_
  refine C.cond rfl (fun hnil => ?_) (fun hnil => ?_)
  · have hp0 : n = 0 := by
      rcases Nat.eq_zero_or_pos n with h | h
      · exact h
      · obtain ⟨b, o, c, rfl, _⟩ := hs.2 h
        simp at hnil
    subst hp0
    have hx0 : xs = [] := List.eq_nil_of_length_eq_zero (by simpa using hs.1)
    subst hx0
    refine C.region_seq ?_
    refine G.value rfl rfl rfl (Sure.assign rfl) ?_
    refine G.nil ?_
    refine C.ret ?_
    refine Fin.th_ret ?_
    exact Fin.fn (Res.tmp rfl rfl) Split.nil Own.nil
  · refine C.skip ?_
    refine Fin.th ?_
    refine C.region_seq ?_
    refine G.dyn rfl rfl rfl ?_
    refine Dyn.buildSlice rfl rfl rfl (by simp) (by decide) ?_
    intro b
    refine G.value rfl rfl rfl (Sure.move rfl) ?_
    refine G.dyn rfl rfl rfl ?_
    refine Dyn.append (xs := []) (fun k h => by cases h) rfl rfl rfl (Own.mk (by simp)) PickL.here (Sl.heap hs) h1 (by omega) (by omega) ?_
    intro v2 Hs2 hown2
    refine G.value rfl rfl rfl (Sure.assign rfl) ?_
    refine G.nil ?_
    refine C.ret ?_
    refine Fin.fn (Res.tmp rfl rfl) (Split.one PickL.all) ?_
    simpa using hown2
end Go.Proofs.YtaeeahcokiebdaaGreat

/-
  The walk of a copy of an inode.
-/
namespace Go.Proofs.YtaeeahcokiebdaaGreat
set_option maxRecDepth 20000

theorem allOne_flatten (l : List (List Value)) (h : ∀ e ∈ l, allOne e = true) : allOne l.flatten = true := by
  unfold allOne at *
  rw [List.all_eq_true]
  intro v hv
  obtain ⟨e, he, hve⟩ := List.mem_flatten.1 hv
  exact List.all_eq_true.1 (h e he) v hve
theorem allOne_ents (l : List Entry) : allOne (l.map entL).flatten = true := allOne_flatten _ (by intro e he; obtain ⟨x, _, rfl⟩ := List.mem_map.1 he; rfl)
theorem allOne_runs (l : List Run) : allOne (l.map runL).flatten = true := allOne_flatten _ (by intro e he; obtain ⟨x, _, rfl⟩ := List.mem_map.1 he; rfl)
/-- An inode of a size that this program's code handles. -/
def InoOk (x : Ino) : Prop := x.ents.length ≤ 100000000 ∧ x.runs.length ≤ 100000000
/-- What a copy of an inode is. -/
def RetIno (x : Ino) (v : Value) (M : Mem) (H : Heap) : Prop := H = [] ∧ ∃ d : InoD, d.x = x ∧ v = .agg (inoDL d).toArray ∧ DOk M d
theorem own_spec (M : Mem) (d : InoD) (hd : DOk M d) (hx : InoOk d.x) : Spec Tryz.prog 119 [.agg (inoDL d).toArray] M [] (fun v M' H => RetIno d.x v M' H) := by
  have hlx := hd.1.2
  have hlr := hd.2.2
  rw [List.length_map] at hlx hlr
  refine Spec.of_code 12 Tryz.func119 rfl callable119 rfl rfl fun w => ?_
  refine C.region_seq ?_
  refine G.dyn rfl rfl rfl ?_
  refine Dyn.boxAgg rfl ?_
  intro b1
  refine G.dyn rfl rfl rfl ?_
  refine Dyn.allocAgg ?_
  intro b2
  refine G.nil ?_
  -- draws its order
  refine C.draw_seq (_) mixed (by kernel_rfl) (Incl.refl _) ?_
  refine GD.val 0 rfl rfl rfl rfl (by kernel_rfl) rfl (Sure.fieldAddr rfl) ?_
  refine GD.val 1 rfl rfl rfl rfl (by kernel_rfl) rfl (Sure.load rfl rdx rfl) ?_
  refine GD.val 3 rfl rfl rfl rfl (by kernel_rfl) rfl (Sure.fieldAddr rfl) ?_
  refine GD.val 4 rfl rfl rfl rfl (by kernel_rfl) rfl (Sure.load rfl rdx rfl) ?_
  refine GD.one 2 (by kernel_rfl) rfl rfl (by kernel_rfl) ?_
  refine Next.call 2 rfl rfl rfl (by kernel_rfl) (by kernel_rfl) rfl rfl rfl rfl ((cloneEnts_spec M d.pe d.ce d.x.ents.length _ hlx (allOne_ents _) (by have := hx.1; omega)).retL) (Split.nil) ?_
  rintro _ M2 _ le2 ⟨rfl, p2, c2, rfl, hs2⟩
  refine ⟨incx, ?_⟩
  refine GD.val 6 rfl rfl rfl rfl (by kernel_rfl) rfl (Sure.fieldAddr rfl) ?_
  refine GD.one 5 (by kernel_rfl) rfl rfl (by kernel_rfl) ?_
  refine Next.call 5 rfl rfl rfl (by kernel_rfl) (by kernel_rfl) rfl rfl rfl rfl ((cloneRuns_spec M2 d.pr d.cr d.x.runs.length _ (hlr.mono le2) (allOne_runs _) (by have := hx.2; omega)).retL) (Split.nil) ?_
  rintro _ M3 _ le3 ⟨rfl, p3, c3, rfl, hs3⟩
  refine ⟨incx, ?_⟩
  refine GD.one 7 (by kernel_rfl) rfl rfl (by kernel_rfl) ?_
  refine Next.dyn0W 7 rfl rfl (by kernel_rfl) (by kernel_rfl) rfl (by kernel_rfl) ?_
  refine Dyn.store rfl rfl pkx rfl rfl ?_
  refine ⟨MLe.refl _, [], Incl.nil _, ?_⟩
  refine GD.val 8 rfl rfl rfl rfl (by kernel_rfl) rfl (Sure.fieldAddr rfl) ?_
  refine GD.one 9 (by kernel_rfl) rfl rfl (by kernel_rfl) ?_
  refine Next.dyn0W 9 rfl rfl (by kernel_rfl) (by kernel_rfl) rfl (by kernel_rfl) ?_
  refine Dyn.store rfl rfl pkx rfl rfl ?_
  refine ⟨MLe.refl _, [], Incl.nil _, ?_⟩
  refine GD.done (by kernel_rfl) (by kernel_rfl) ?_
  refine C.region_seq ?_
  refine G.value rfl rfl rfl (Sure.loadAgg rfl rdx rfl) ?_
  refine G.dyn0 rfl rfl ?_
  refine Dyn.storeAgg rfl rfl pkx rfl rfl rfl ?_
  refine G.nil ?_
  refine C.ret ?_
  refine Fin.fn (Res.cellAgg rfl rfl rdx rfl) Split.nil ⟨rfl, ⟨d.x, p2, c2, p3, c3⟩, rfl, rfl, ⟨by simp, ?_⟩, ⟨by simp, ?_⟩⟩
  · rw [List.length_map]; exact hs2.mono le3
  · rw [List.length_map]; exact hs3
end Go.Proofs.YtaeeahcokiebdaaGreat

/-
  The walk of a state as deeds.
  Conditions: the lists are of sizes that the program's code handles.
-/
namespace Go.Proofs.YtaeeahcokiebdaaGreat
set_option maxRecDepth 20000

structure Sta where
  next : Int
  inos : List Ino
  bad : List Int
/-- A state, and where its lists lie. -/
structure StaD where
  next : Int
  inos : List InoD
  pi : Option Addr
  ci : Nat
  bad : List Int
  pb : Option Addr
  cb : Nat
def StaD.v (s : StaD) : Sta := ⟨s.next, s.inos.map InoD.x, s.bad⟩
abbrev staDL (s : StaD) : List Value := [intV s.next, .slice s.pi s.inos.length s.ci, .slice s.pb s.bad.length s.cb]
def SOk (M : Mem) (s : StaD) : Prop := RInos M s.pi s.inos ∧ Sl M [] 1 s.pb s.bad.length (s.bad.map intV)
theorem SOk.mono {M M' s} (h : SOk M s) (hl : MLe M M') : SOk M' s := ⟨h.1.mono hl, h.2.mono hl⟩
/-- A state of a size that the program's code handles. -/
def StaOk (s : Sta) : Prop := s.inos.length ≤ 1000000 ∧ s.bad.length ≤ 1000000 ∧ ∀ x ∈ s.inos, InoOk x
def ino0 : Ino := ⟨0, 0, 0, 0, ⟨#[]⟩, [], []⟩
def inoD0 : InoD := ⟨ino0, Option.none, 0, Option.none, 0⟩
theorem dOk0 (M : Mem) : DOk M inoD0 := ⟨⟨by simp [inoD0, ino0], Sl.empty⟩, ⟨by simp [inoD0, ino0], Sl.empty⟩⟩
def whole (s : Sta) : List Deed := ⟨1, s.next, ino0⟩ :: (s.inos.map fun x => ⟨2, 0, x⟩) ++ s.bad.map fun n => ⟨4, n, ino0⟩
/-- What a function that makes deeds hands back. -/
def RetDeeds (l : List Deed) (v : Value) (M : Mem) (H : Heap) : Prop := H = [] ∧ ∃ (dl : List DeedD) (p : Option Addr) (cap : Nat), v = .slice p dl.length cap ∧ RDeeds M p dl ∧ dl.map DeedD.v = l
theorem allOne_deed (d : DeedD) : allOne (deedDL d) = true := rfl
theorem deedDL_len (l : List DeedD) : (l.map deedDL).flatten.length = l.length * 9 := by
  induction l with
  | nil => rfl
  | cons d l ih => simp at ih ⊢; omega
theorem whole_spec (M : Mem) (s : StaD) (hs : SOk M s) (hk : StaOk s.v) : Spec Tryz.prog 84 [.agg (staDL s).toArray] M [] (fun v M' H => RetDeeds (whole s.v) v M' H) := by
  have hk1 : s.inos.length ≤ 1000000 := by simpa [StaD.v] using hk.1
  have hk2 : s.bad.length ≤ 1000000 := hk.2.1
  have hk3 : ∀ d ∈ s.inos, InoOk d.x := fun d hd => hk.2.2 d.x (by simpa [StaD.v] using ⟨d, hd, rfl⟩)
  refine Spec.of_code 40 Tryz.func84 rfl callable84 rfl rfl fun w => ?_
  refine C.region_seq ?_
  refine G.dyn rfl rfl rfl ?_
  refine Dyn.boxAgg rfl ?_
  intro b1
  refine G.value rfl rfl rfl (Sure.assign rfl) ?_
  refine G.nil ?_
  refine C.region_seq ?_
  refine G.value rfl rfl rfl (Sure.fieldAddr rfl) ?_
  refine G.value rfl rfl rfl (Sure.load rfl rdx rfl) ?_
  refine G.value rfl rfl rfl (Sure.build rfl rfl) ?_
  refine G.dyn rfl rfl rfl ?_
  refine Dyn.buildSlice rfl rfl rfl (by simp [vcl]) (by decide) ?_
  intro b2
  refine G.value rfl rfl rfl (Sure.assign rfl) ?_
  refine G.nil ?_
  refine C.seq ?_
  refine C.region_seq ?_
  refine G.value rfl rfl rfl (Sure.fieldAddr rfl) ?_
  refine G.value rfl rfl rfl (Sure.load rfl rdx rfl) ?_
  refine G.value rfl rfl rfl (Sure.len_slice rfl) ?_
  refine G.value rfl rfl rfl (Sure.move rfl) ?_
  refine G.nil ?_
  refine C.block ?_
  refine C.loop (fun k E M' H => ∃ (a b : List InoD) (v : Value) (dl : List DeedD) (Hs : Heap), MLe M M' ∧ s.inos = a ++ b ∧ b.length = k ∧ dl.map DeedD.v = ⟨1, s.next, ino0⟩ :: (a.map fun d => (⟨2, 0, d.x⟩ : Deed)) ∧ (∀ d ∈ dl, DOk M' d.d) ∧ Own 9 v dl.length (dl.map deedDL).flatten Hs ∧ E = [(1, .pointer (some ⟨b1, 0, Option.none⟩)), (3, v), (13, .slice s.pi s.inos.length s.ci), (14, .int .i64 s.inos.length), (15, .int .i64 a.length)] ∧ H = (b1, .cells (staDL s)) :: Hs) (s.inos.length) ?_ ?_
  · refine ⟨_, _, ⟨[], s.inos, _, [⟨1, s.next, inoD0⟩], [(b2, .cells (deedDL ⟨1, s.next, inoD0⟩))], MLe.refl _, rfl, rfl, rfl, by simpa using dOk0 M, Own.mk rfl, rfl, rfl⟩, ⟨rfl, rfl, rfl, rfl, rfl, trivial⟩, [], Split.cons (.there .here) (Split.one PickL.all)⟩
  · rintro k E M' H ⟨a, b, v, dl, Hs, hle, hab, hk, hdl, hok, hown, rfl, rfl⟩
    have hlen : s.inos.length = a.length + b.length := by rw [hab]; simp
    have hdn : dl.length = 1 + a.length := by have := congrArg List.length hdl; simp at this; omega
    refine C.region_seq ?_
    refine G.value rfl rfl rfl (Sure.lss rfl rfl) ?_
    refine G.nil ?_
    refine C.seq ?_
    refine C.cond_dec rfl (fun hlt => ?_) (fun hlt => ?_)
    · cases b with
      | nil => simp at hlen hlt; omega
      | cons x b =>
        have hxm : x ∈ s.inos := by rw [hab]; simp
        obtain ⟨q', o, c, hpe, hrd, hseg⟩ := SlL.row (i := a.length) (e := inoDL x) (SlL.heap (H := (b1, .cells (staDL s)) :: Hs) (hs.1.1.mono hle)) (by simp [hab])
        rw [hpe]
        refine C.skip ?_
        refine Fin.th ?_
        refine C.seq ?_
        refine C.block ?_
        refine C.region_seq ?_
        refine G.value rfl rfl rfl (Sure.indexAddr rfl rfl (by simp; omega)) ?_
        refine G.value rfl rfl rfl (Sure.loadAgg rfl hrd hseg) ?_
        refine G.dyn rfl rfl rfl ?_
        refine Dyn.allocAgg ?_
        intro b5
        refine G.dyn0 rfl rfl ?_
        refine Dyn.storeAgg rfl rfl pkx rfl rfl rfl ?_
        refine G.nil ?_
        refine C.region ?_
        refine G.value rfl rfl rfl (Sure.move rfl) ?_
        refine G.value rfl rfl rfl (Sure.loadAgg rfl rdx rfl) ?_
        refine G.call rfl rfl rfl rfl rfl rfl (own_spec M' x ((hs.1.2 x hxm).mono hle) (hk3 x hxm)) (Split.nil) ?_
        rintro _ M2 _ le2 ⟨rfl, y, hyx, rfl, hy⟩
        refine G.value rfl rfl rfl (Sure.build rfl rfl) ?_
        refine G.dyn rfl rfl rfl ?_
        refine Dyn.buildSlice rfl rfl rfl (by simp [vcl]) (by decide) ?_
        intro b6
        refine G.dyn rfl rfl rfl ?_
        refine Dyn.append (fun k h => by cases h) rfl rfl rfl hown (PickL.there (PickL.there (PickL.there PickL.all))) (m := 1) (news := deedDL ⟨2, 0, y⟩) ⟨rfl, fun _ => ⟨b6, 0, _, rfl, Rd.h0, rfl⟩⟩ (allOne_deed _) (by omega) (by omega) ?_
        intro v2 Hs2 hown2
        refine G.value rfl rfl rfl (Sure.assign rfl) ?_
        refine G.nil ?_
        refine Fin.blk ?_
        refine Fin.th ?_
        refine C.region ?_
        refine G.value rfl rfl rfl (Sure.add rfl rfl (inK64 (by omega))) ?_
        refine G.value rfl rfl rfl (Sure.move rfl) ?_
        refine G.nil ?_
        refine Fin.th ?_
        have hfl : ((dl ++ [(⟨2, 0, y⟩ : DeedD)]).map deedDL).flatten = (dl.map deedDL).flatten ++ deedDL ⟨2, 0, y⟩ := by simp
        refine ⟨b.length, _, _, by simp at hk; omega, ⟨a ++ [x], b, v2, dl ++ [(⟨2, 0, y⟩ : DeedD)], Hs2, hle.trans le2, by simp [hab], rfl, by simp [hdl, DeedD.v, hyx], ?_, ?_, rfl, rfl⟩, ⟨rfl, rfl, rfl, rfl, by simp; rfl, trivial⟩, _, Split.cons (Pick.over (.there (.there .here))) (Split.one PickL.here)⟩
        · intro d hd
          rcases List.mem_append.1 hd with h | h
          · exact (hok d h).mono le2
          · rw [List.mem_singleton.1 h]; exact hy
        · rw [hfl, List.length_append]; exact hown2
    · have hb0 : b = [] := List.eq_nil_of_length_eq_zero (by omega)
      subst hb0
      simp only [List.append_nil] at hab
      have hdn2 : dl.length ≤ 1000001 := by omega
      have hdl2 : dl.map DeedD.v = ⟨1, s.next, ino0⟩ :: (s.inos.map fun d => (⟨2, 0, d.x⟩ : Deed)) := by rw [hdl, hab]
      clear hdn hlen hk hab hdl hlt
      refine C.exit ?_
      refine Fin.th_exit ?_
      refine Fin.th_exit ?_
      refine Fin.blk_eq ?_
      refine Fin.th ?_
      refine C.seq ?_
      refine C.region_seq ?_
      refine G.value rfl rfl rfl (Sure.fieldAddr rfl) ?_
      refine G.value rfl rfl rfl (Sure.load rfl rdx rfl) ?_
      refine G.value rfl rfl rfl (Sure.len_slice rfl) ?_
      refine G.value rfl rfl rfl (Sure.move rfl) ?_
      refine G.nil ?_
      refine C.block ?_
      refine C.loop (fun k E M' H => ∃ (a b : List Int) (v : Value) (dl : List DeedD), MLe M M' ∧ s.bad = a ++ b ∧ b.length = k ∧ dl.map DeedD.v = ⟨1, s.next, ino0⟩ :: (s.inos.map fun d => (⟨2, 0, d.x⟩ : Deed)) ++ a.map (fun n => ⟨4, n, ino0⟩) ∧ (∀ d ∈ dl, DOk M' d.d) ∧ Own 9 v dl.length (dl.map deedDL).flatten H ∧ E = [(3, v), (27, .slice s.pb s.bad.length s.cb), (28, .int .i64 s.bad.length), (29, .int .i64 a.length)]) (s.bad.length) ?_ ?_
      · refine ⟨_, _, ⟨[], s.bad, _, dl, hle, rfl, rfl, by simp [hdl2], hok, hown, rfl⟩, ⟨rfl, rfl, rfl, rfl, trivial⟩, _, Split.one (PickL.there PickL.all)⟩
      · clear hle hdl2 hok hown
        rintro k E M' H ⟨a, b, v, dl, hle, hab, hk, hdl, hok, hown, rfl⟩
        have hlen : s.bad.length = a.length + b.length := by rw [hab]; simp
        have hdn : dl.length = 1 + s.inos.length + a.length := by have := congrArg List.length hdl; simp at this; omega
        refine C.region_seq ?_
        refine G.value rfl rfl rfl (Sure.lss rfl rfl) ?_
        refine G.nil ?_
        refine C.seq ?_
        refine C.cond_dec rfl (fun hlt => ?_) (fun hlt => ?_)
        · cases b with
          | nil => simp at hlen hlt; omega
          | cons x b =>
            obtain ⟨q', o, c, hpe, hrd, hcell⟩ := Sl.cell (i := a.length) (v := intV x) (Sl.heap (H := H) (hs.2.mono hle)) (by simp [hab])
            rw [hpe]
            refine C.skip ?_
            refine Fin.th ?_
            refine C.seq ?_
            refine C.block ?_
            refine C.region_seq ?_
            refine G.value rfl rfl rfl (Sure.indexAddr rfl rfl (by simp; omega)) ?_
            refine G.value rfl rfl rfl (Sure.load rfl hrd hcell) ?_
            refine G.value rfl rfl rfl (Sure.assign rfl) ?_
            refine G.nil ?_
            refine C.region ?_
            refine G.value rfl rfl rfl (Sure.move rfl) ?_
            refine G.value rfl rfl rfl (Sure.move rfl) ?_
            refine G.value rfl rfl rfl (Sure.build rfl rfl) ?_
            refine G.dyn rfl rfl rfl ?_
            refine Dyn.buildSlice rfl rfl rfl (by simp [vcl]) (by decide) ?_
            intro b6
            refine G.dyn rfl rfl rfl ?_
            refine Dyn.append (fun k h => by cases h) rfl rfl rfl hown (PickL.there PickL.all) (m := 1) (news := deedDL ⟨4, x, inoD0⟩) ⟨rfl, fun _ => ⟨b6, 0, _, rfl, Rd.h0, rfl⟩⟩ (allOne_deed _) (by omega) (by omega) ?_
            intro v2 Hs2 hown2
            refine G.value rfl rfl rfl (Sure.assign rfl) ?_
            refine G.nil ?_
            refine Fin.blk ?_
            refine Fin.th ?_
            refine C.region ?_
            refine G.value rfl rfl rfl (Sure.add rfl rfl (inK64 (by omega))) ?_
            refine G.value rfl rfl rfl (Sure.move rfl) ?_
            refine G.nil ?_
            refine Fin.th ?_
            have hfl : ((dl ++ [(⟨4, x, inoD0⟩ : DeedD)]).map deedDL).flatten = (dl.map deedDL).flatten ++ deedDL ⟨4, x, inoD0⟩ := by simp
            refine ⟨b.length, _, _, by simp at hk; omega, ⟨a ++ [x], b, v2, dl ++ [(⟨4, x, inoD0⟩ : DeedD)], hle, by simp [hab], rfl, by simp [hdl, DeedD.v, inoD0], ?_, ?_, rfl⟩, ⟨rfl, rfl, rfl, by simp; rfl, trivial⟩, _, Split.one PickL.here⟩
            · intro d hd
              rcases List.mem_append.1 hd with h | h
              · exact hok d h
              · rw [List.mem_singleton.1 h]; exact dOk0 _
            · rw [hfl, List.length_append]; exact hown2
        · have hb0 : b = [] := List.eq_nil_of_length_eq_zero (by omega)
          subst hb0
          simp only [List.append_nil] at hab
          subst hab
          refine C.exit ?_
          refine Fin.th_exit ?_
          refine Fin.th_exit ?_
          refine Fin.blk_eq ?_
          refine Fin.th ?_
          refine C.region_seq ?_
          refine G.value rfl rfl rfl (Sure.move rfl) ?_
          refine G.value rfl rfl rfl (Sure.assign rfl) ?_
          refine G.nil ?_
          refine C.donateOwn hown PickL.all ?_
          rintro M2 p2 cap2 le2 rfl hs2
          refine C.ret ?_
          refine Fin.fn (Res.tmp rfl rfl) Split.nil ⟨rfl, dl, p2, cap2, rfl, ⟨⟨?_, ?_⟩, fun d hd => (hok d hd).mono le2⟩, ?_⟩
          · intro e he; obtain ⟨x, _, rfl⟩ := List.mem_map.1 he; rfl
          · rw [List.length_map]; exact hs2
          · simp [hdl, whole, StaD.v]
end Go.Proofs.YtaeeahcokiebdaaGreat

/-
  The walks of a state's first record, of sums, and of records.
  Conditions: sizes that the program's code handles.
-/
namespace Go.Proofs.YtaeeahcokiebdaaGreat
set_option maxRecDepth 20000

theorem sb_nil (M : Mem) : SB M Option.none [] := Sl.empty
/-- What the first record of a state has. -/
def firstB (epoch : Int) (s : Sta) : List UInt8 := intB epoch ++ deedsB (whole s)
theorem first_spec (M : Mem) (epoch : Int) (s : StaD) (hs : SOk M s) (hk : StaOk s.v) (hb : (deedsB (whole s.v)).length ≤ 10000000) :
    Spec Tryz.prog 48 [intV epoch, .agg (staDL s).toArray] M [] (fun v _ H => OwnB (firstB epoch s.v) v H) := by
  refine Spec.of_code 11 Tryz.func48 rfl callable48 rfl rfl fun w => ?_
  refine C.region_seq ?_
  refine G.dyn rfl rfl rfl ?_
  refine Dyn.boxAgg rfl ?_
  intro b3
  refine G.value rfl rfl rfl (Sure.assign rfl) ?_
  refine G.nil ?_
  -- draws its order
  refine C.draw_seq (_) mixed (by kernel_rfl) (Incl.refl _) ?_
  refine GD.val 0 rfl rfl rfl rfl (by kernel_rfl) rfl (Sure.move rfl) ?_
  refine GD.val 2 rfl rfl rfl rfl (by kernel_rfl) rfl (Sure.loadAgg rfl rdx rfl) ?_
  refine GD.one 1 (by kernel_rfl) rfl rfl (by kernel_rfl) ?_
  refine Next.call 1 rfl rfl rfl (by kernel_rfl) (by kernel_rfl) rfl rfl rfl rfl ((putInt_spec M Option.none 0 [] epoch (sb_nil M) (by simp))) (Split.nil) ?_
  rintro v1 M1 Hs1 le1 hown
  refine ⟨(by intro p hp; simp_all), ?_⟩
  refine GD.one 3 (by kernel_rfl) rfl rfl (by kernel_rfl) ?_
  refine Next.call 3 rfl rfl rfl (by kernel_rfl) (by kernel_rfl) rfl rfl rfl rfl (whole_spec M1 s (hs.mono le1) hk) (Split.nil) ?_
  rintro _ M2 _ le2 ⟨rfl, dl, p2, c2, rfl, hdl, hdv⟩
  refine ⟨(by intro p hp; simp_all), ?_⟩
  refine GD.one 4 (by kernel_rfl) rfl rfl (by kernel_rfl) ?_
  refine Next.call 4 rfl rfl rfl (by kernel_rfl) (by kernel_rfl) rfl rfl rfl rfl (deeds_spec M2 p2 c2 dl hdl (by rw [hdv]; exact hb)) (Split.nil) ?_
  rintro _ M3 _ le3 ⟨rfl, p3, c3, rfl, hs3⟩
  refine ⟨(by intro p hp; simp_all), ?_⟩
  refine GD.one 5 (by kernel_rfl) rfl rfl (by kernel_rfl) ?_
  refine Next.dyn 5 rfl rfl rfl (by kernel_rfl) (by kernel_rfl) rfl ?_
  refine Dyn.append (fun k h => by cases h) rfl rfl rfl hown PickL.here (Sl.heap hs3) (allOne_bytes _) (by rw [hdv]; simp; omega) (by rw [hdv]; simp; omega) ?_
  intro v2 Hs2 hown2
  refine ⟨MLe.refl _, by intro p hp; simp_all, ?_⟩
  refine GD.one 6 (by kernel_rfl) rfl rfl (by kernel_rfl) ?_
  refine Next.dyn 6 rfl rfl rfl (by kernel_rfl) (by kernel_rfl) rfl (Dyn.assign rfl ?_)
  refine ⟨MLe.refl _, incx, ?_⟩
  refine GD.done (by kernel_rfl) (by kernel_rfl) ?_
  refine C.ret ?_
  refine Fin.fn (Res.tmp rfl rfl) (Split.one PickL.here) ?_
  rw [hdv] at hown2
  show Own 1 v2 _ _ Hs2
  simpa [firstB, intB, Nat.add_comm] using hown2
/-- The two halves of a sum. -/
def sumStep (t : Nat × Nat) (c : UInt8) : Nat × Nat := ((t.1 + c.toNat) % 65521, (t.2 + (t.1 + c.toNat) % 65521) % 65521)
def sumN (l : List UInt8) : Nat × Nat := l.foldl sumStep (1, 0)
def sumOf (l : List UInt8) : Nat := (sumN l).2 * 65536 + (sumN l).1
theorem sumN_snoc (l : List UInt8) (c : UInt8) : sumN (l ++ [c]) = sumStep (sumN l) c := by simp [sumN]
theorem sumN_lt (l : List UInt8) : (sumN l).1 < 65521 ∧ (sumN l).2 < 65521 := by
  rcases List.eq_nil_or_concat l with rfl | ⟨a, c, rfl⟩
  · simp [sumN]
  · rw [List.concat_eq_append, sumN_snoc]; exact ⟨Nat.mod_lt _ (by decide), Nat.mod_lt _ (by decide)⟩
theorem sumOf_lt (l : List UInt8) : sumOf l < 4294967296 := by have := sumN_lt l; unfold sumOf; omega
theorem sum_spec (M : Mem) (p : Option Addr) (cap : Nat) (l : List UInt8) (hs : SB M p l) (hl : l.length ≤ 1000000000) :
    Spec Tryz.prog 121 [.slice p l.length cap] M [] (fun v _ H => H = [] ∧ v = .int .u32 (sumOf l)) := by
  refine Spec.of_code 27 Tryz.func121 rfl callable121 rfl rfl fun w => ?_
  refine C.region_seq ?_
  refine G.value rfl rfl rfl (Sure.assign rfl) ?_
  refine G.nil ?_
  refine C.region_seq ?_
  refine G.value rfl rfl rfl (Sure.assign rfl) ?_
  refine G.value rfl rfl rfl (Sure.assign rfl) ?_
  refine G.nil ?_
  refine C.seq ?_
  refine C.region_seq ?_
  refine G.value rfl rfl rfl (Sure.move rfl) ?_
  refine G.value rfl rfl rfl (Sure.len_slice rfl) ?_
  refine G.value rfl rfl rfl (Sure.move rfl) ?_
  refine G.nil ?_
  refine C.block ?_
  refine C.loop (fun k E M' H => ∃ (a b : List UInt8), MLe M M' ∧ l = a ++ b ∧ b.length = k ∧ E = [(3, .int .u32 (sumN a).1), (4, .int .u32 (sumN a).2), (7, .slice p l.length cap), (8, .int .i64 l.length), (9, .int .i64 a.length)] ∧ H = []) (l.length) ?_ ?_
  · exact ⟨_, _, ⟨[], l, MLe.refl _, rfl, rfl, rfl, rfl⟩, ⟨rfl, rfl, rfl, rfl, rfl, trivial⟩, _, Split.nil⟩
  · rintro k E M' H ⟨a, b, hle, rfl, hk, rfl, rfl⟩
    have hlen : (a ++ b).length = a.length + b.length := by simp
    have hlt := sumN_lt a
    refine C.region_seq ?_
    refine G.value rfl rfl rfl (Sure.lss rfl rfl) ?_
    refine G.nil ?_
    refine C.seq ?_
    refine C.cond_dec rfl (fun hlt2 => ?_) (fun hlt2 => ?_)
    · cases b with
      | nil => simp at hlt2
      | cons x b =>
        obtain ⟨q', o, c, rfl, hrd, hcell⟩ := Sl.cell (i := a.length) (v := byteV x) (Sl.heap (H := []) (hs.mono hle)) (by simp)
        have hx := x.toNat_lt
        refine C.skip ?_
        refine Fin.th ?_
        refine C.seq ?_
        refine C.block ?_
        refine C.region_seq ?_
        refine G.value rfl rfl rfl (Sure.indexAddr rfl rfl (by simp; omega)) ?_
        refine G.value rfl rfl rfl (Sure.load rfl hrd hcell) ?_
        unfold byteV
        refine G.value rfl rfl rfl (Sure.assign rfl) ?_
        refine G.nil ?_
        refine C.region_seq ?_
        refine G.value rfl rfl rfl (Sure.move rfl) ?_
        refine G.value rfl rfl rfl (Sure.move rfl) ?_
        refine G.value rfl rfl rfl (Sure.conv rfl (inK32 (by omega))) ?_
        refine G.value rfl rfl rfl (Sure.add rfl rfl (inK32 (by omega))) ?_
        refine G.value rfl rfl rfl (Sure.rem rfl rfl (by omega) (by decide)) ?_
        refine G.value rfl rfl rfl (Sure.assign rfl) ?_
        refine G.nil ?_
        refine C.region ?_
        refine G.value rfl rfl rfl (Sure.move rfl) ?_
        refine G.value rfl rfl rfl (Sure.move rfl) ?_
        refine G.value rfl rfl rfl (Sure.add rfl rfl (inK32 (by omega))) ?_
        refine G.value rfl rfl rfl (Sure.rem rfl rfl (by omega) (by decide)) ?_
        refine G.value rfl rfl rfl (Sure.assign rfl) ?_
        refine G.nil ?_
        refine Fin.blk ?_
        refine Fin.th ?_
        refine C.region ?_
        refine G.value rfl rfl rfl (Sure.add rfl rfl (inK64 (by omega))) ?_
        refine G.value rfl rfl rfl (Sure.move rfl) ?_
        refine G.nil ?_
        refine Fin.th ?_
        refine ⟨b.length, _, _, by simp at hk; omega, ⟨a ++ [x], b, hle, by simp, rfl, rfl, rfl⟩, ⟨?_, ?_, rfl, rfl, by simp; rfl, trivial⟩, _, Split.nil⟩
        · show some (Value.int .u32 _) = some (Value.int .u32 _)
          rw [sumN_snoc]; simp [sumStep]
        · show some (Value.int .u32 _) = some (Value.int .u32 _)
          rw [sumN_snoc]; simp [sumStep]
    · have hb0 : b = [] := List.eq_nil_of_length_eq_zero (by omega)
      subst hb0
      simp only [List.append_nil]
      refine C.exit ?_
      refine Fin.th_exit ?_
      refine Fin.th_exit ?_
      refine Fin.blk_eq ?_
      refine Fin.th ?_
      refine C.region_seq ?_
      refine G.value rfl rfl rfl (Sure.move rfl) ?_
      refine G.value rfl rfl rfl (Sure.shl rfl rfl (by simp [IntKind.bits])) ?_
      rw [show IntKind.u32.wrap (((sumN a).2 : Int) * 2 ^ (16 : Int).toNat) = (((sumN a).2 * 65536 : Nat) : Int) from by rw [IntKind.wrap_u32]; have e : (2 : Int) ^ (16 : Int).toNat = 65536 := rfl; rw [e]; omega]
      refine G.value rfl rfl rfl (Sure.move rfl) ?_
      refine G.value rfl rfl rfl (Sure.or rfl rfl) ?_
      refine G.value rfl rfl rfl (Sure.assign rfl) ?_
      refine G.nil ?_
      rw [Go.u32_or_nat _ _ (by omega) (by omega), show (sumN a).2 * 65536 ||| (sumN a).1 = sumOf a from by
        have := Nat.shiftLeft_add_eq_or_of_lt (i := 16) (b := (sumN a).1) (by omega) (sumN a).2
        rw [Nat.shiftLeft_eq, show (2 : Nat) ^ 16 = 65536 from rfl] at this
        unfold sumOf
        omega]
      refine C.ret ?_
      exact Fin.fn (Res.tmp rfl rfl) Split.nil ⟨rfl, rfl⟩
end Go.Proofs.YtaeeahcokiebdaaGreat

/-
  The walk of a record.
  Conditions: sizes that the program's code handles.
-/
namespace Go.Proofs.YtaeeahcokiebdaaGreat
set_option maxRecDepth 20000

/-- A record without its flag. -/
def bodyB (b : List UInt8) : List UInt8 := le b.length 2 ++ le (sumOf (le b.length 2 ++ b)) 4 ++ b
theorem bodyB_len (b : List UInt8) : (bodyB b).length = b.length + 6 := by simp [bodyB]; omega
theorem body_spec (M : Mem) (p : Option Addr) (cap : Nat) (b : List UInt8) (hs : SB M p b) (hl : b.length ≤ 100000000) :
    Spec Tryz.prog 85 [.slice p b.length cap] M [] (fun v M' H => H = [] ∧ ∃ q c, v = .tuple #[.slice q (if b.length ≤ 65000 then (bodyB b).length else 0) c, .int .i64 (if b.length ≤ 65000 then 0 else 21)] ∧ (b.length ≤ 65000 → SB M' q (bodyB b))) := by
  refine Spec.of_code 23 Tryz.func85 rfl callable85 rfl rfl fun w => ?_
  refine C.region_seq ?_
  refine G.value rfl rfl rfl (Sure.assign rfl) ?_
  refine G.value rfl rfl rfl (Sure.assign rfl) ?_
  refine G.nil ?_
  refine C.seq ?_
  refine C.region_seq ?_
  refine G.value rfl rfl rfl (Sure.move rfl) ?_
  refine G.value rfl rfl rfl (Sure.len_slice rfl) ?_
  refine G.value rfl rfl rfl (Sure.gtr rfl rfl) ?_
  refine G.nil ?_
  refine C.cond_dec rfl (fun hbig => ?_) (fun hbig => ?_)
  · rw [if_neg (by omega), if_neg (by omega)]
    refine C.region_seq ?_
    refine G.value rfl rfl rfl (Sure.assign rfl) ?_
    refine G.value rfl rfl rfl (Sure.assign rfl) ?_
    refine G.nil ?_
    refine C.ret ?_
    refine Fin.th_ret ?_
    exact Fin.fn (Res.tmp2 rfl rfl rfl) Split.nil ⟨rfl, Option.none, 0, rfl, fun h => absurd h (by omega)⟩
  · rw [if_pos (by omega), if_pos (by omega)]
    refine C.skip ?_
    refine Fin.th ?_
    refine C.region_seq ?_
    refine G.value rfl rfl rfl (Sure.move rfl) ?_
    refine G.value rfl rfl rfl (Sure.len_slice rfl) ?_
    refine G.value rfl rfl rfl (Sure.conv rfl (inKu64 (by omega))) ?_
    refine G.call rfl rfl rfl rfl rfl rfl ((put_spec M Option.none 0 [] b.length 2 (sb_nil M) (by simp) (by omega) (by omega)).retB) (Split.nil) ?_
    rintro _ M2 _ le2 ⟨rfl, p2, c2, rfl, hs2⟩
    rw [List.nil_append] at hs2 ⊢
    refine G.value rfl rfl rfl (Sure.assign rfl) ?_
    refine G.nil ?_
    refine C.region_seq ?_
    refine G.value rfl rfl rfl (Sure.move rfl) ?_
    refine G.value rfl rfl rfl (Sure.move rfl) ?_
    refine G.value rfl rfl rfl (Sure.move rfl) ?_
    refine G.dyn rfl rfl rfl ?_
    refine Dyn.buildSlice rfl rfl rfl (by simp [vcl]) (by decide) ?_
    intro b3
    refine G.donate fun M3 le3 hM3 => ?_
    refine G.call rfl rfl rfl rfl rfl rfl ((concat_spec M3 (some ⟨b3, 0, Option.none⟩) 2 [(p2, c2, le b.length 2), (p, cap, b)] ⟨rfl, fun _ => ⟨b3, 0, _, rfl, Rd.m hM3, by simp [seg, takeN, vcl]⟩⟩ (by intro t ht; simp at ht; rcases ht with rfl | rfl; exact hs2.mono le3; exact hs.mono (le2.trans le3)) (by simp [catL]; omega) (by simp)).retB) (Split.nil) ?_
    rintro _ M4 _ le4 ⟨rfl, p4, c4, rfl, hs4⟩
    rw [show catL [(p2, c2, le b.length 2), (p, cap, b)] = le b.length 2 ++ b from by simp [catL]] at hs4 ⊢
    refine G.call rfl rfl rfl rfl rfl rfl (sum_spec M4 p4 c4 _ hs4 (by simp; omega)) (Split.nil) ?_
    rintro _ M5 _ le5 ⟨rfl, rfl⟩
    have hsm := sumOf_lt (le b.length 2 ++ b)
    refine G.value rfl rfl rfl (Sure.conv rfl (inKu64 (by omega))) ?_
    refine G.call rfl rfl rfl rfl rfl rfl ((put_spec M5 p2 c2 _ (sumOf (le b.length 2 ++ b)) 4 ((hs2.mono le3).mono (le4.trans le5)) (by simp) (by omega) (by omega)).retB) (Split.nil) ?_
    rintro _ M6 _ le6 ⟨rfl, p6, c6, rfl, hs6⟩
    refine G.value rfl rfl rfl (Sure.move rfl) ?_
    refine G.dyn rfl rfl rfl ?_
    refine Dyn.buildSlice rfl rfl rfl (by simp [vcl]) (by decide) ?_
    intro b7
    refine G.donate fun M7 le7 hM7 => ?_
    have lea : MLe M M7 := (le2.trans le3).trans ((le4.trans le5).trans (le6.trans le7))
    refine G.call rfl rfl rfl rfl rfl rfl ((concat_spec M7 (some ⟨b7, 0, Option.none⟩) 2 [(p6, c6, le b.length 2 ++ le (sumOf (le b.length 2 ++ b)) 4), (p, cap, b)] ⟨rfl, fun _ => ⟨b7, 0, _, rfl, Rd.m hM7, by simp [seg, takeN, vcl]⟩⟩ (by intro t ht; simp at ht; rcases ht with rfl | rfl; exact hs6.mono le7; exact hs.mono lea) (by simp [catL]; omega) (by simp)).retB) (Split.nil) ?_
    rintro _ M8 _ le8 ⟨rfl, p8, c8, rfl, hs8⟩
    rw [show catL [(p6, c6, le b.length 2 ++ le (sumOf (le b.length 2 ++ b)) 4), (p, cap, b)] = bodyB b from by simp [catL, bodyB]] at hs8 ⊢
    refine G.value rfl rfl rfl (Sure.assign rfl) ?_
    refine G.value rfl rfl rfl (Sure.assign rfl) ?_
    refine G.nil ?_
    refine C.ret ?_
    exact Fin.fn (Res.tmp2 rfl rfl rfl) Split.nil ⟨rfl, p8, c8, rfl, fun _ => hs8⟩
end Go.Proofs.YtaeeahcokiebdaaGreat

/-
  The walk of the writing of a record.
  Conditions: the chip is as it should be, the place lies within it.
-/
namespace Go.Proofs.YtaeeahcokiebdaaGreat
set_option maxRecDepth 20000

/-- How many bytes a half has, as a natural number. -/
def hsz (g : Geo) : Nat := (halfSize g).toNat
theorem hsz_int {g : Geo} (h : GeoOk g) : (hsz g : Int) = halfSize g ∧ 256 ≤ hsz g ∧ hsz g ≤ 32768 ∧ ((2 * hsz g : Nat) : Int) ≤ g.sectors * g.sector := by
  have hs := h.s
  have hz := h.z
  have hm : 1 * 256 ≤ g.sectors / 2 * g.sector ∧ g.sectors / 2 * g.sector ≤ 8 * 4096 := ⟨Int.mul_le_mul (by omega) (by omega) (by omega) (by omega), Int.mul_le_mul (by omega) (by omega) (by omega) (by omega)⟩
  have h3 : (2 * (g.sectors / 2)) * g.sector ≤ g.sectors * g.sector := Int.mul_le_mul_of_nonneg_right (by omega) (by omega)
  rw [Int.mul_assoc] at h3
  unfold hsz halfSize
  refine ⟨by omega, by omega, by omega, by omega⟩
/-- The writing of a record. -/
def Chip.append (ch : Chip) (h at_ : Nat) (b : List UInt8) : Chip × Int :=
  if 65000 < b.length then (ch, 21)
  else if hsz ch.g < at_ + b.length + 7 then (ch, 10)
  else if (ch.program (at_ + h * hsz ch.g) (bodyB b)).2 ≠ 0 then ch.program (at_ + h * hsz ch.g) (bodyB b)
  else (ch.program (at_ + h * hsz ch.g) (bodyB b)).1.program (at_ + h * hsz ch.g + (bodyB b).length) [0]
theorem program_len (ch : Chip) (at_ : Nat) (bs : List UInt8) : (ch.program at_ bs).1.b.length = ch.b.length := by
  unfold Chip.program
  split
  · rfl
  · exact (prog_keep bs ch at_).2
theorem append_spec (M : Mem) (ad : Ad) (ch : Chip) (h at_ : Nat) (p : Option Addr) (cap : Nat) (b : List UInt8) (hok : ChipOk ad ch) (hh : h < 2) (hat : at_ ≤ hsz ch.g) (hs : SB M p b) (hl : b.length ≤ 100000000) :
    Spec Tryz.prog 49 [ptr ad.cb, .int .i64 h, .int .i64 at_, .slice p b.length cap] M (chipH ad ch) (fun v _ H => v = .int .i64 (ch.append h at_ b).2 ∧ H = chipH ad (ch.append h at_ b).1) := by
  obtain ⟨hz, hz1, hz2, hz3⟩ := hsz_int hok.geo
  have hlen := hok.len
  have hhz : h * hsz ch.g ≤ hsz ch.g := by rcases (by omega : h = 0 ∨ h = 1) with rfl | rfl <;> omega
  have hhi : ((h * hsz ch.g : Nat) : Int) = (h : Int) * (hsz ch.g : Int) := Int.natCast_mul _ _
  refine Spec.of_code 60 Tryz.func49 rfl callable49 rfl rfl fun w => ?_
  refine C.region_seq ?_
  refine G.value rfl rfl rfl (Sure.assign rfl) ?_
  refine G.nil ?_
  refine C.seq ?_
  refine C.region_seq ?_
  refine G.value rfl rfl rfl (Sure.move rfl) ?_
  refine G.value rfl rfl rfl (Sure.move rfl) ?_
  refine G.call rfl rfl rfl rfl rfl rfl (half_ask_spec M ad.cb h (by omega)) (Split.nil) ?_
  rintro _ M1 _ le1 ⟨rfl, rfl⟩
  refine G.value rfl rfl rfl (Sure.assign rfl) ?_
  refine G.nil ?_
  refine C.region_seq ?_
  refine G.value rfl rfl rfl (Sure.move rfl) ?_
  refine G.value rfl rfl rfl ((Sure.neq rfl rfl).to_f (by simp)) ?_
  refine G.nil ?_
  refine C.cond_false rfl ?_
  refine C.skip ?_
  refine Fin.th ?_
  refine C.seq ?_
  refine C.region_seq ?_
  refine G.value rfl rfl rfl (Sure.move rfl) ?_
  refine G.value rfl rfl rfl ((Sure.lss rfl rfl).to_f (by omega)) ?_
  refine G.nil ?_
  refine C.cond_false rfl ?_
  refine C.skip ?_
  refine Fin.th ?_
  refine C.region_seq ?_
  refine G.value rfl rfl rfl (Sure.move rfl) ?_
  refine G.call rfl rfl rfl rfl rfl rfl (body_spec M1 p cap b (hs.mono le1) hl) (Split.nil) ?_
  rintro _ M2 _ le2 ⟨rfl, q, c, rfl, hq⟩
  refine G.value rfl rfl rfl (Sure.move rfl) ?_
  refine G.value rfl rfl rfl (Sure.extract rfl rfl) ?_
  refine G.value rfl rfl rfl (Sure.extract rfl rfl) ?_
  refine G.value rfl rfl rfl (Sure.assign rfl) ?_
  refine G.value rfl rfl rfl (Sure.assign rfl) ?_
  refine G.nil ?_
  refine C.region_seq ?_
  refine G.value rfl rfl rfl (Sure.move rfl) ?_
  refine G.call rfl rfl rfl rfl rfl rfl (chip_geometry_spec M2 ad ch) (Split.cons .here Split.nil) ?_
  rintro _ M3 _ le3 ⟨rfl, rfl⟩
  refine G.call rfl rfl rfl rfl rfl rfl (half_size_spec M3 ch.g hok.geo) (Split.nil) ?_
  rintro _ M4 _ le4 ⟨rfl, rfl⟩
  rw [← hz]
  refine G.value rfl rfl rfl (Sure.assign rfl) ?_
  refine G.nil ?_
  refine C.seq ?_
  refine C.block ?_
  refine C.region_seq ?_
  refine G.value rfl rfl rfl (Sure.move rfl) ?_
  refine G.value rfl rfl rfl (Sure.neq rfl rfl) ?_
  refine G.value rfl rfl rfl (Sure.assign rfl) ?_
  refine G.nil ?_
  refine C.cond_dec rfl (fun hbig => ?_) (fun hbig => ?_)
  · have hb : 65000 < b.length := by
      rcases Nat.lt_or_ge 65000 b.length with h | h
      · exact h
      · rw [if_pos h] at hbig; exact absurd rfl hbig
    rw [if_neg (by omega)]
    refine C.region_seq ?_
    refine G.value rfl rfl rfl (Sure.move rfl) ?_
    refine G.value rfl rfl rfl (Sure.assign rfl) ?_
    refine G.nil ?_
    refine C.ret ?_
    refine Fin.blk_ret ?_
    refine Fin.th_ret ?_
    refine Fin.fn (Res.tmp rfl rfl) (Split.cons .here (Split.cons .here (Split.cons .here (Split.cons .here Split.nil)))) ?_
    unfold Chip.append
    rw [if_pos hb]
    exact ⟨rfl, rfl⟩
  · have hb : b.length ≤ 65000 := by
      rcases Nat.lt_or_ge 65000 b.length with h | h
      · rw [if_neg (by omega)] at hbig; exact absurd (by decide) hbig
      · exact h
    have hq := hq hb
    have hbl := bodyB_len b
    rw [if_pos hb, if_pos hb]
    refine C.region_seq ?_
    refine G.value rfl rfl rfl (Sure.move rfl) ?_
    refine G.value rfl rfl rfl (Sure.move rfl) ?_
    refine G.value rfl rfl rfl (Sure.move rfl) ?_
    refine G.value rfl rfl rfl (Sure.len_slice rfl) ?_
    refine G.call rfl rfl rfl rfl rfl rfl (size_spec M4 b.length (by omega)) (Split.nil) ?_
    rintro _ M5 _ le5 ⟨rfl, rfl⟩
    refine G.value rfl rfl rfl (Sure.sub rfl rfl (inK64 (by omega))) ?_
    refine G.value rfl rfl rfl (Sure.gtr rfl rfl) ?_
    refine G.value rfl rfl rfl (Sure.assign rfl) ?_
    refine G.nil ?_
    refine C.cond_dec rfl (fun hsp => ?_) (fun hsp => ?_)
    · refine C.region_seq ?_
      refine G.value rfl rfl rfl (Sure.assign rfl) ?_
      refine G.nil ?_
      refine C.ret ?_
      refine Fin.blk_ret ?_
      refine Fin.th_ret ?_
      refine Fin.fn (Res.tmp rfl rfl) (Split.cons .here (Split.cons .here (Split.cons .here (Split.cons .here Split.nil)))) ?_
      unfold Chip.append
      rw [if_neg (by omega), if_pos (by omega)]
      exact ⟨rfl, rfl⟩
    · have hap : ch.append h at_ b = if (ch.program (at_ + h * hsz ch.g) (bodyB b)).2 ≠ 0 then ch.program (at_ + h * hsz ch.g) (bodyB b)
          else (ch.program (at_ + h * hsz ch.g) (bodyB b)).1.program (at_ + h * hsz ch.g + (bodyB b).length) [0] := by
        unfold Chip.append
        rw [if_neg (by omega), if_neg (by omega)]
      refine C.skip ?_
      refine Fin.blk ?_
      refine Fin.th ?_
      refine C.region_seq ?_
      refine G.value rfl rfl rfl (Sure.move rfl) ?_
      refine G.value rfl rfl rfl (Sure.move rfl) ?_
      refine G.value rfl rfl rfl (Sure.move rfl) ?_
      refine G.value rfl rfl rfl (Sure.mul rfl rfl (inK64 (by omega))) ?_
      refine G.value rfl rfl rfl (Sure.add rfl rfl (inK64 (by omega))) ?_
      rw [show (at_ : Int) + (h : Int) * (hsz ch.g : Int) = ((at_ + h * hsz ch.g : Nat) : Int) from by omega]
      refine G.value rfl rfl rfl (Sure.assign rfl) ?_
      refine G.nil ?_
      refine C.seq ?_
      refine C.region_seq ?_
      refine G.value rfl rfl rfl (Sure.move rfl) ?_
      refine G.value rfl rfl rfl (Sure.move rfl) ?_
      refine G.value rfl rfl rfl (Sure.move rfl) ?_
      refine G.call rfl rfl rfl rfl rfl rfl (program_spec M5 ad ch (at_ + h * hsz ch.g) q c (bodyB b) hok (hq.mono (le3.trans (le4.trans le5))) (by omega)) ((Split.cons .here (Split.cons .here (Split.cons .here (Split.cons .here Split.nil))))) ?_
      rintro _ M6 _ le6 ⟨rfl, rfl⟩
      refine G.value rfl rfl rfl (Sure.assign rfl) ?_
      refine G.nil ?_
      refine C.region_seq ?_
      refine G.value rfl rfl rfl (Sure.move rfl) ?_
      refine G.value rfl rfl rfl (Sure.neq rfl rfl) ?_
      refine G.nil ?_
      obtain ⟨hok2, hg2⟩ := hok.program (at_ + h * hsz ch.g) (bodyB b)
      have hpl := program_len ch (at_ + h * hsz ch.g) (bodyB b)
      refine C.cond_dec rfl (fun hne => ?_) (fun hne => ?_)
      · rw [if_pos hne] at hap
        rw [hap]
        refine C.region_seq ?_
        refine G.value rfl rfl rfl (Sure.move rfl) ?_
        refine G.value rfl rfl rfl (Sure.assign rfl) ?_
        refine G.nil ?_
        refine C.ret ?_
        refine Fin.th_ret ?_
        exact Fin.fn (Res.tmp rfl rfl) (Split.cons .here (Split.cons .here (Split.cons .here (Split.cons .here Split.nil)))) ⟨rfl, rfl⟩
      · rw [if_neg hne] at hap
        rw [hap]
        refine C.skip ?_
        refine Fin.th ?_
        refine C.region_seq ?_
        refine G.value rfl rfl rfl (Sure.move rfl) ?_
        refine G.value rfl rfl rfl (Sure.move rfl) ?_
        refine G.value rfl rfl rfl (Sure.move rfl) ?_
        refine G.value rfl rfl rfl (Sure.len_slice rfl) ?_
        refine G.value rfl rfl rfl (Sure.add rfl rfl (inK64 (by omega))) ?_
        refine G.dyn rfl rfl rfl ?_
        refine Dyn.buildSlice rfl rfl rfl (by simp [vcl]) (by decide) ?_
        intro b7
        refine G.donate fun M7 le7 hM7 => ?_
        rw [show ((at_ + h * hsz ch.g : Nat) : Int) + ((bodyB b).length : Int) = ((at_ + h * hsz ch.g + (bodyB b).length : Nat) : Int) from by omega]
        refine G.call rfl rfl rfl rfl rfl rfl (program_spec M7 ad _ (at_ + h * hsz ch.g + (bodyB b).length) (some ⟨b7, 0, Option.none⟩) 1 [0] hok2 ⟨rfl, fun _ => ⟨b7, 0, _, rfl, Rd.m hM7, rfl⟩⟩ (by simp; omega)) ((Split.cons .here (Split.cons .here (Split.cons .here (Split.cons .here Split.nil))))) ?_
        rintro _ M8 _ le8 ⟨rfl, rfl⟩
        refine G.value rfl rfl rfl (Sure.assign rfl) ?_
        refine G.nil ?_
        refine C.ret ?_
        exact Fin.fn (Res.tmp rfl rfl) (Split.cons .here (Split.cons .here (Split.cons .here (Split.cons .here Split.nil)))) ⟨rfl, rfl⟩
end Go.Proofs.YtaeeahcokiebdaaGreat

/-
  Copying between slices, clearing one, growing one into a new block, and the functions that the model itself gives.
  Conditions: none; everything here is proved over any program.
-/
namespace Go.Proofs.YtaeeahcokiebdaaGreat
variable {P : Program}
section
variable {c : Cx} {E : Env} {M : Mem} {H : Heap} {d : Option Tmp} {ty : TypeId} {pos : String} {aft : Array Edge} {g : Option (Nat × Bool)} {next : Value → Mem → Heap → Prop}
theorem run_firstCells_sl' {M H sz p n xs l cap w} (h : Sl M H sz p n xs) (ha : Agr M w) (hh : Has H w) : (Builtin.firstCells sz n (.slice p l cap)).run P w = .ok xs.toArray w := by
  have := run_firstCells_sl (P := P) (cap := cap) h ha hh
  cases p <;> exact this
/-- 'copy(dst, src)': dst lies in a block of its own code. -/
theorem Dyn.copy {t t2 e sz agg x y b o dLen dCap p sLen sCap n xs cs cs' R} [ht : TyU P t (.slice e)] [he : TyI P e agg sz]
    (hx : eev E x = some (.slice (some ⟨b, o, Option.none⟩) dLen dCap)) (hy : eev E y = some (.slice p sLen sCap)) (hn : Nat.min sLen dLen = n) (hs : Sl M H sz p n xs) (hp : Pick (b, .cells cs) H R)
    (h1 : allOne xs = true) (hset : setSeg cs o xs = some cs') (k : next (.int .i64 n) M ((b, .cells cs') :: R)) :
    Dyn P c ⟨d, .call { callee := .builtin .copy, args := #[x, y], argTypes := #[t, t2] }, ty, pos, aft, g⟩ E M H next := by
  intro a w hav hst K Q hK
  have h2 := avail_ev hav (x := x) (by simp [Op.operands, Call.operands]) hx
  have h3 := avail_ev hav (x := y) (by simp [Op.operands, Call.operands]) hy
  obtain ⟨w', h4, h5⟩ := hst.store (P := P) hp hset h1
  have hf : (Builtin.firstCells sz n (.slice p sLen sCap)).run P w = .ok xs.toArray w := run_firstCells_sl' hs hst.agr hst.has
  unfold Oper.wp
  have hr : (execOp a.eval ⟨d, .call { callee := .builtin .copy, args := #[x, y], argTypes := #[t, t2] }, ty, pos, aft, g⟩).run P w = .ok (.value (.int .i64 n)) w' := by
    simp [execOp, resolve, invoke, builtin, h2, h3, Builtin.copy_, run_underlying ht.und, Builtin.lenOf, he.sizeOf, hn, hf, h4, goInt]
  rw [hr, Oper.upon_value]
  exact hK _ _ _ _ h5 k
/-- 'clear(s)': s lies in a block of its own code. -/
theorem Dyn.clear {t e sz agg zz x b o n cap cs R} [ht : TyU P t (.slice e)] [he : TyI P e agg sz] [hz : TyZ P e zz] (hzs : zz.cells.size = sz) (hz1 : allOne zz.cells.toList = true)
    (hx : eev E x = some (.slice (some ⟨b, o, Option.none⟩) n cap)) (hp : Pick (b, .cells cs) H R) (hfit : o + n * sz ≤ cs.length)
    (k : ∀ cs', cs'.length = cs.length → cs'.take o = cs.take o → next (.tuple #[]) M ((b, .cells cs') :: R)) :
    Dyn P c ⟨d, .call { callee := .builtin .clear, args := #[x], argTypes := #[t] }, ty, pos, aft, g⟩ E M H next := by
  intro a w hav hst K Q hK
  have h2 := avail_ev hav (x := x) (by simp [Op.operands, Call.operands]) hx
  by_cases hn0 : n = 0
  · subst hn0
    have hr : (execOp a.eval ⟨d, .call { callee := .builtin .clear, args := #[x], argTypes := #[t] }, ty, pos, aft, g⟩).run P w = .ok (.value (.tuple #[])) w := by
      simp [execOp, resolve, invoke, builtin, h2, Builtin.clear_, run_underlying ht.und]
    unfold Oper.wp
    rw [hr, Oper.upon_value]
    exact hK _ _ _ _ (hst.perm hp.perm) (k cs rfl rfl)
  · have hlen := zeroCells_len zz.cells n
    rw [hzs] at hlen
    have hall : allOne (Builtin.zeroCells zz.cells n).toList = true := by
      unfold allOne at hz1 ⊢
      rw [List.all_eq_true] at hz1 ⊢
      intro v hv
      simp only [Builtin.zeroCells, Array.toList_map, List.mem_map, Array.toList_range, List.mem_range] at hv
      obtain ⟨i, hi, rfl⟩ := hv
      have hpos : 0 < zz.cells.size := by
        rcases Nat.eq_zero_or_pos zz.cells.size with h | h
        · rw [h] at hi; omega
        · exact h
      have hlt : i % zz.cells.size < zz.cells.size := Nat.mod_lt _ hpos
      rw [getElem!_pos zz.cells _ hlt]
      exact hz1 _ (by rw [← Array.getElem_toList]; exact List.getElem_mem _)
    have hset := setSeg_eq (c := cs) (o := o) (vs := (Builtin.zeroCells zz.cells n).toList) (by rw [hlen]; exact hfit)
    obtain ⟨w', h4, h5⟩ := hst.store (P := P) hp hset hall
    have hr : (execOp a.eval ⟨d, .call { callee := .builtin .clear, args := #[x], argTypes := #[t] }, ty, pos, aft, g⟩).run P w = .ok (.value (.tuple #[])) w' := by
      obtain ⟨m, rfl⟩ : ∃ m, n = m + 1 := ⟨n - 1, by omega⟩
      simp [execOp, resolve, invoke, builtin, h2, Builtin.clear_, run_underlying ht.und, hz.zero, h4]
    unfold Oper.wp
    rw [hr, Oper.upon_value]
    refine hK _ _ _ _ h5 (k _ ?_ ?_)
    · simp [hlen]; omega
    · rw [List.append_assoc, List.take_append_of_le_length (by simp; omega), List.take_take, Nat.min_self]
/-- 'append(s, make([]T, n)...)' where s has no room for n more: a new block. -/
theorem Dyn.appendMakeGrow {t t2 e sz bytes agg zz x y p i cap xs} {n : Nat} [ht : TyU P t (.slice e)] [ht2 : TyU P t2 (.int .i64)]
    [he : TyI P e agg sz] [hz : TyZ P e zz] [hb : TyB P e bytes] (hzs : zz.cells.size = sz) (hn : 0 < n) (hsz : 0 < sz)
    (hx : eev E x = some (.slice p i cap)) (hy : eev E y = some (.int .i64 n)) (hs : Sl M H sz p i xs) (hroom : ¬ i + n ≤ cap)
    (hbytes : (i + n) * bytes ≤ 140737488355328) (h63 : i + n ≤ 9223372036854775807)
    (k : ∀ b cap' junk, i + n ≤ cap' → (xs ++ junk).length = cap' * sz → next (.slice (some ⟨b, 0, Option.none⟩) (i + n) cap') M ((b, .cells (xs ++ junk)) :: H)) :
    Dyn P c ⟨d, .call { callee := .builtin .append, args := #[x, y], argTypes := #[t, t2] }, ty, pos, aft, g⟩ E M H next := by
  intro a w hav hst K Q hK
  have h2 := avail_ev hav (x := x) (by simp [Op.operands, Call.operands]) hx
  have h3 := avail_ev hav (x := y) (by simp [Op.operands, Call.operands]) hy
  obtain ⟨ti, hi, hib⟩ := hb.bytes
  have hinfo : ∀ w, (typeInfo e).run P w = .ok ti w := fun w => by simp [typeInfo, hi]
  have w1 : IntKind.i64.wrap (n : Int) = n := IntWalk.i64_in _ (by omega)
  have hneg : ¬ ((n : Int) < 0) := by omega
  have hbig : ¬ (281474976710656 < (n : Int) * (ti.bytes : Int)) := by
    have : ((n * bytes : Nat) : Int) ≤ ((140737488355328 : Nat) : Int) := Int.ofNat_le.2 (Nat.le_trans (Nat.mul_le_mul_right _ (by omega)) hbytes)
    rw [hib, ← Int.natCast_mul]
    omega
  have h63' : ¬ (9223372036854775807 < ((i : Int) + (n : Int))) := by omega
  have hfit : ¬ (281474976710656 < Builtin.nextslicecap (i + n) cap * ti.bytes) := by
    have := growslice_fits (need := i + n) (old := cap) (bytes := ti.bytes) (by omega) (by rw [hib]; exact hbytes); omega
  have hge : i + n ≤ grownCap w (i + n) cap e := grownCap_ge w _ _ _
  have hst2 := hst.drew
  have hf' : (Builtin.firstCells sz i (.slice p i cap)).run P w.drew = .ok xs.toArray w.drew := run_firstCells_sl hs hst2.agr hst2.has
  have hr : ∃ junk : List Value, (xs ++ junk).length = grownCap w (i + n) cap e * sz ∧ (execOp a.eval ⟨d, .call { callee := .builtin .append, args := #[x, y], argTypes := #[t, t2] }, ty, pos, aft, g⟩).run P w =
      .ok (.value (.slice (some ⟨w.heap.size, 0, Option.none⟩) (i + n) (grownCap w (i + n) cap e))) (w.drew.alloc (.cells (xs ++ junk).toArray e)) := by
    have hnz : ¬ (n * sz = 0) := Nat.ne_of_gt (Nat.mul_pos hn hsz)
    refine ⟨(Builtin.zeroCells zz.cells n).toList ++ (Builtin.zeroCells zz.cells (grownCap w (i + n) cap e - (i + n))).toList, ?_, ?_⟩
    · simp only [List.length_append, zeroCells_len, hzs, hs.1, ← Nat.add_mul]
      congr 1
      omega
    · simp [execOp, resolve, invoke, builtin, h2, h3, Builtin.append_, run_underlying ht.und, run_underlying ht2.und, he.sizeOf, asInt, asIntOf, w1, hneg, hinfo, hbig, h63', hroom, hfit, Question.forced, hf', hz.zero, newRow, grownCap, hnz]
      congr 2
      apply Array.ext'
      simp
  obtain ⟨junk, hjl, hr⟩ := hr
  unfold Oper.wp
  rw [hr, Oper.upon_value]
  exact hK _ _ _ _ (hst2.new_cells _ e) (k _ _ _ hge hjl)
/-- A function that the model itself gives, and that leaves the world as it is. -/
theorem Dyn.extern {o : Oper} {x args tys f vs v} (ho : o.op = .call { callee := .value x, args := args.toArray, argTypes := tys }) (hx : eev E x = some (.func (.func f) #[] #[])) (ha : evs E args = some vs)
    (hr : ∀ w, Agr M w → Has H w → (callFunc f vs.toArray).run P w = .ok (.value v) w) (k : next v M H) : Dyn P c o E M H next := by
  intro a w hav hst K Q hK
  have hev : ∀ (l : List Operand) (us : List Value), (∀ y ∈ l, ∀ v, eev E y = some v → a.eval y = v) → evs E l = some us → l.map a.eval = us := by
    intro l
    induction l with
    | nil => intro us _ h; simp [evs] at h; simp [h]
    | cons y l ih =>
      intro us hy h
      simp only [evs] at h
      cases h1 : eev E y with
      | none => simp [h1] at h
      | some u =>
        cases h2 : evs E l with
        | none => simp [h1, h2] at h
        | some us' =>
          simp [h1, h2] at h
          subst h
          simp [hy y (by simp) u h1, ih us' (fun z hz => hy z (by simp [hz])) h2]
  have hops : o.op.operands = #[x] ++ args.toArray := by rw [ho]; rfl
  have h1 : a.eval x = .func (.func f) #[] #[] := hav x (by rw [hops]; simp) _ hx
  have h2 : args.map a.eval = vs := hev args vs (fun y hy v hv => hav y (by rw [hops]; simp [hy]) v hv) ha
  have hrun : (execOp a.eval o).run P w = .ok (.value v) w := by
    unfold execOp
    rw [ho]
    simp only [resolve, h1, Deferred.ofValue, invoke, List.map_toArray, h2, Sem.run_bind, Sem.run_pure, Result.andThen_ok]
    have := hr w hst.agr hst.has
    simpa using this
  unfold Oper.wp
  rw [hrun, Oper.upon_value]
  exact hK _ _ _ _ hst k
theorem G.nodup {c : Cx} {ops K l E M H} (h : (ids H).Nodup → G P c ops K l E M H) : G P c ops K l E M H :=
  fun Q hQ a w hm hst => h hst.nodup Q hQ a w hm hst
/-- 'slices.overlaps' at slices of two owned blocks. -/
theorem run_overlaps_own {H : Heap} {w tS tR e sz agg b b' o o' l l' cap cap'} {cs cs' : List Value} [ht : TyU P tS (.slice e)] [he : TyI P e agg sz] (hh : Has H w)
    (hb : (b, HB.cells cs) ∈ H) (hb' : (b', HB.cells cs') ∈ H) (hne : b ≠ b') (hl' : cs' ≠ []) :
    (Extern.SlicesOverlaps.overlaps #[tS, tS] #[tR] #[.slice (some ⟨b, o, Option.none⟩) l cap, .slice (some ⟨b', o', Option.none⟩) l' cap']).run P w = .ok (.bool false) w := by
  obtain ⟨T, lo, hi, h1, h2⟩ := hh _ hb
  obtain ⟨T', lo', hi', h3, h4⟩ := hh _ hb'
  dsimp only at h1 h3
  have hfr : ∀ k, w.frozen? ⟨b, k, Option.none⟩ = false := by
    intro k
    simp only [World.frozen?, h1]
    have : ¬ (lo ≤ k ∧ k < hi) := by omega
    simpa using this
  exact Lib.run_overlaps_apart w tS tR e ht.und sz he.sizeOf ⟨b, o, Option.none⟩ ⟨b', o', Option.none⟩ l cap l' cap' hne T T' cs.toArray.size cs'.toArray.size
    (by simp [World.shape?, h1]) (by simp [World.shape?, h3]) (by simpa using hl') (hfr _) (hfr _)
end
end Go.Proofs.YtaeeahcokiebdaaGreat

/-
  The walks of copies of inodes, and of the search among them.
-/
namespace Go.Proofs.YtaeeahcokiebdaaGreat
set_option maxRecDepth 20000

/-- Inodes that the code owns. -/
def OwnI (l : List Ino) (v : Value) (M : Mem) (H : Heap) : Prop := ∃ dl : List InoD, dl.map InoD.x = l ∧ (∀ d ∈ dl, DOk M d) ∧ Own 7 v dl.length (dl.map inoDL).flatten H
theorem allOne_ino (d : InoD) : allOne (inoDL d) = true := rfl
theorem allOne_inos (l : List InoD) : allOne (l.map inoDL).flatten = true := allOne_flatten _ (by intro e he; obtain ⟨x, _, rfl⟩ := List.mem_map.1 he; rfl)
theorem inos_len (l : List InoD) : (l.map inoDL).flatten.length = l.length * 7 := by
  induction l with
  | nil => rfl
  | cons d l ih => simp at ih ⊢; omega
theorem copied_spec (M : Mem) (p : Option Addr) (cap : Nat) (l : List InoD) (hs : RInos M p l) (hl : l.length ≤ 1000000) (hk : ∀ d ∈ l, InoOk d.x) :
    Spec Tryz.prog 90 [.slice p l.length cap] M [] (fun v M' H => OwnI (l.map InoD.x) v M' H) := by
  refine Spec.of_code 19 Tryz.func90 rfl callable90 rfl rfl fun w => ?_
  refine C.region_seq ?_
  refine G.value rfl rfl rfl (Sure.assign rfl) ?_
  refine G.nil ?_
  refine C.region_seq ?_
  refine G.value rfl rfl rfl (Sure.assign rfl) ?_
  refine G.nil ?_
  refine C.seq ?_
  refine C.region_seq ?_
  refine G.value rfl rfl rfl (Sure.move rfl) ?_
  refine G.value rfl rfl rfl (Sure.len_slice rfl) ?_
  refine G.value rfl rfl rfl (Sure.move rfl) ?_
  refine G.nil ?_
  refine C.block ?_
  refine C.loop (fun k E M' H => ∃ (a b : List InoD) (v : Value) (dl : List InoD), MLe M M' ∧ l = a ++ b ∧ b.length = k ∧ dl.map InoD.x = a.map InoD.x ∧ (∀ d ∈ dl, DOk M' d) ∧ Own 7 v dl.length (dl.map inoDL).flatten H ∧ E = [(3, v), (6, .slice p l.length cap), (7, .int .i64 l.length), (8, .int .i64 a.length)]) (l.length) ?_ ?_
  · exact ⟨_, _, ⟨[], l, _, [], MLe.refl _, rfl, rfl, rfl, by simp, Own.nil, rfl⟩, ⟨rfl, rfl, rfl, rfl, trivial⟩, _, Split.nil⟩
  · rintro k E M' H ⟨a, b, v, dl, hle, rfl, hk', hdl, hok, hown, rfl⟩
    have hlen : (a ++ b).length = a.length + b.length := by simp
    have hdn : dl.length = a.length := by have := congrArg List.length hdl; simpa using this
    refine C.region_seq ?_
    refine G.value rfl rfl rfl (Sure.lss rfl rfl) ?_
    refine G.nil ?_
    refine C.seq ?_
    refine C.cond_dec rfl (fun hlt => ?_) (fun hlt => ?_)
    · cases b with
      | nil => simp at hlt
      | cons x b =>
        obtain ⟨q', o, c, rfl, hrd, hseg⟩ := SlL.row (i := a.length) (e := inoDL x) (SlL.heap (H := H) (hs.1.mono hle)) (by simp)
        refine C.skip ?_
        refine Fin.th ?_
        refine C.seq ?_
        refine C.block ?_
        refine C.region_seq ?_
        refine G.value rfl rfl rfl (Sure.indexAddr rfl rfl (by simp; omega)) ?_
        refine G.value rfl rfl rfl (Sure.loadAgg rfl hrd hseg) ?_
        refine G.dyn rfl rfl rfl ?_
        refine Dyn.allocAgg ?_
        intro b5
        refine G.dyn0 rfl rfl ?_
        refine Dyn.storeAgg rfl rfl pkx rfl rfl rfl ?_
        refine G.nil ?_
        refine C.region ?_
        refine G.value rfl rfl rfl (Sure.move rfl) ?_
        refine G.value rfl rfl rfl (Sure.loadAgg rfl rdx rfl) ?_
        refine G.call rfl rfl rfl rfl rfl rfl (own_spec M' x ((hs.2 x (by simp)).mono hle) (hk x (by simp))) (Split.nil) ?_
        rintro _ M2 _ le2 ⟨rfl, y, hyx, rfl, hy⟩
        refine G.dyn rfl rfl rfl ?_
        refine Dyn.buildSlice rfl rfl rfl (by simp [vcl]) (by decide) ?_
        intro b6
        refine G.dyn rfl rfl rfl ?_
        refine Dyn.append (fun k h => by cases h) rfl rfl rfl hown (PickL.there (PickL.there PickL.all)) (m := 1) (news := inoDL y) ⟨rfl, fun _ => ⟨b6, 0, _, rfl, Rd.h0, rfl⟩⟩ (allOne_ino _) (by omega) (by omega) ?_
        intro v2 Hs2 hown2
        refine G.value rfl rfl rfl (Sure.assign rfl) ?_
        refine G.nil ?_
        refine Fin.blk ?_
        refine Fin.th ?_
        refine C.region ?_
        refine G.value rfl rfl rfl (Sure.add rfl rfl (inK64 (by omega))) ?_
        refine G.value rfl rfl rfl (Sure.move rfl) ?_
        refine G.nil ?_
        refine Fin.th ?_
        have hfl : ((dl ++ [y]).map inoDL).flatten = (dl.map inoDL).flatten ++ inoDL y := by simp
        refine ⟨b.length, _, _, by simp at hk'; omega, ⟨a ++ [x], b, v2, dl ++ [y], hle.trans le2, by simp, rfl, by simp [hdl, hyx], ?_, ?_, rfl⟩, ⟨rfl, rfl, rfl, by simp; rfl, trivial⟩, _, Split.one PickL.here⟩
        · intro d hd
          rcases List.mem_append.1 hd with h | h
          · exact (hok d h).mono le2
          · rw [List.mem_singleton.1 h]; exact hy
        · rw [hfl, List.length_append]; exact hown2
    · have hb0 : b = [] := List.eq_nil_of_length_eq_zero (by omega)
      subst hb0
      simp only [List.append_nil]
      refine C.exit ?_
      refine Fin.th_exit ?_
      refine Fin.th_exit ?_
      refine Fin.blk_eq ?_
      refine Fin.th ?_
      refine C.region_seq ?_
      refine G.value rfl rfl rfl (Sure.move rfl) ?_
      refine G.value rfl rfl rfl (Sure.assign rfl) ?_
      refine G.nil ?_
      refine C.ret ?_
      exact Fin.fn (Res.tmp rfl rfl) (Split.one PickL.all) ⟨dl, hdl, hok, hown⟩
theorem Sl.incl {M H H' sz p n xs} (h : Sl M H sz p n xs) (hi : Incl H H') : Sl M H' sz p n xs :=
  ⟨h.1, fun hn => let ⟨b, o, c, h1, h2, h3⟩ := h.2 hn; ⟨b, o, c, h1, h2.elim Rd.m (fun h => .inr (hi _ h)), h3⟩⟩
/-- Where the first is that is so, or -1. -/
def ixOf {α : Type} (q : α → Bool) (l : List α) : Int := match l.findIdx? q with | some i => (i : Int) | Option.none => -1
theorem ixOf_at {α : Type} {q : α → Bool} {a b : List α} {x : α} (ha : ∀ d ∈ a, q d = false) (hx : q x = true) : ixOf q (a ++ x :: b) = a.length := by
  unfold ixOf
  rw [List.findIdx?_append, List.findIdx?_eq_none_iff.2 ha]
  simp [List.findIdx?_cons, hx]
theorem ixOf_none {α : Type} {q : α → Bool} {a : List α} (ha : ∀ d ∈ a, q d = false) : ixOf q a = -1 := by
  unfold ixOf
  rw [List.findIdx?_eq_none_iff.2 ha]
theorem indexFunc_spec (M : Mem) (p : Option Addr) (cap : Nat) (l : List InoD) (Hl Hc : Heap) (f : Nat) (capt : List Value) (q : InoD → Bool) (hs : Sl M Hl 7 p l.length (l.map inoDL).flatten) (hl : l.length ≤ 1000000000)
    (hf : ∀ d ∈ l, ∀ M', MLe M M' → Spec Tryz.prog f ([.agg (inoDL d).toArray] ++ capt) M' Hc (fun v _ H => v = .bool (q d) ∧ H = Hc)) :
    Spec Tryz.prog 124 [.slice p l.length cap, .func (.func f) #[] capt.toArray] M (Hl ++ Hc) (fun v _ H => v = .int .i64 (ixOf q l) ∧ H = Hl ++ Hc) := by
  refine Spec.of_code 19 Tryz.func124 rfl callable124 rfl rfl fun w => ?_
  refine C.region_seq ?_
  refine G.value rfl rfl rfl (Sure.assign rfl) ?_
  refine G.nil ?_
  refine C.seq ?_
  refine C.region_seq ?_
  refine G.value rfl rfl rfl (Sure.move rfl) ?_
  refine G.value rfl rfl rfl (Sure.len_slice rfl) ?_
  refine G.value rfl rfl rfl (Sure.move rfl) ?_
  refine G.nil ?_
  refine C.block ?_
  refine C.loop (fun k E M' H => ∃ (a b : List InoD), MLe M M' ∧ l = a ++ b ∧ b.length = k ∧ (∀ d ∈ a, q d = false) ∧ E = [(0, .slice p l.length cap), (1, .func (.func f) #[] capt.toArray), (7, .int .i64 l.length), (8, .int .i64 a.length)] ∧ H = Hl ++ Hc) (l.length) ?_ ?_
  · exact ⟨_, _, ⟨[], l, MLe.refl _, rfl, rfl, by simp, rfl, rfl⟩, ⟨rfl, rfl, rfl, rfl, trivial⟩, [], Split.one PickL.all⟩
  · rintro k E M' H ⟨a, b, hle, rfl, hk', hq, rfl, rfl⟩
    have hlen : (a ++ b).length = a.length + b.length := by simp
    refine C.region_seq ?_
    refine G.value rfl rfl rfl (Sure.lss rfl rfl) ?_
    refine G.nil ?_
    refine C.seq ?_
    refine C.cond_dec rfl (fun hlt => ?_) (fun hlt => ?_)
    · cases b with
      | nil => simp at hlt
      | cons x b =>
        have hsl : SlL M' (Hl ++ Hc) 7 p ((a ++ x :: b).map inoDL) := ⟨by intro e he; obtain ⟨x, _, rfl⟩ := List.mem_map.1 he; rfl, by rw [List.length_map]; exact (hs.mono hle).incl (fun p hp => by simp [hp])⟩
        obtain ⟨q', o, c, rfl, hrd, hseg⟩ := SlL.row (i := a.length) (e := inoDL x) hsl (by simp)
        refine C.skip ?_
        refine Fin.th ?_
        refine C.seq ?_
        refine C.block ?_
        refine C.region_seq ?_
        refine G.value rfl rfl rfl (Sure.move rfl) ?_
        refine G.value rfl rfl rfl (Sure.assign rfl) ?_
        refine G.nil ?_
        refine C.region_seq ?_
        refine G.value rfl rfl rfl (Sure.move rfl) ?_
        refine G.value rfl rfl rfl (Sure.move rfl) ?_
        refine G.value rfl rfl rfl (Sure.move rfl) ?_
        refine G.value rfl rfl rfl (Sure.indexAddr rfl rfl (by simp; omega)) ?_
        refine G.value rfl rfl rfl (Sure.loadAgg rfl hrd hseg) ?_
        refine G.call rfl rfl rfl rfl rfl rfl (hf x (by simp) M' hle) (Split.one (PickL.over PickL.all)) ?_
        rintro _ M2 H2 le2 ⟨rfl, rfl⟩
        refine G.nil ?_
        refine C.cond rfl (fun hc => ?_) (fun hc => ?_)
        · refine C.region_seq ?_
          refine G.value rfl rfl rfl (Sure.move rfl) ?_
          refine G.value rfl rfl rfl (Sure.assign rfl) ?_
          refine G.nil ?_
          refine C.ret ?_
          refine Fin.blk_ret ?_
          refine Fin.th_ret ?_
          refine Fin.th_ret ?_
          refine Fin.blk_ret ?_
          refine Fin.th_ret ?_
          refine Fin.fn (Res.tmp rfl rfl) (Split.consL (PickL.over PickL.here) (Split.one PickL.here)) ⟨?_, rfl⟩
          rw [ixOf_at hq hc]
        · refine C.skip ?_
          refine Fin.blk ?_
          refine Fin.th ?_
          refine C.region ?_
          refine G.value rfl rfl rfl (Sure.add rfl rfl (inK64 (by omega))) ?_
          refine G.value rfl rfl rfl (Sure.move rfl) ?_
          refine G.nil ?_
          refine Fin.th ?_
          refine ⟨b.length, _, _, by simp at hk'; omega, ⟨a ++ [x], b, hle.trans le2, by simp, rfl, ?_, rfl, rfl⟩, ⟨rfl, rfl, rfl, by simp; rfl, trivial⟩, _, Split.consL (PickL.over PickL.here) (Split.one PickL.here)⟩
          intro d hd
          rcases List.mem_append.1 hd with h | h
          · exact hq d h
          · rw [List.mem_singleton.1 h]; exact hc
    · have hb0 : b = [] := List.eq_nil_of_length_eq_zero (by omega)
      subst hb0
      simp only [List.append_nil]
      refine C.exit ?_
      refine Fin.th_exit ?_
      refine Fin.th_exit ?_
      refine Fin.blk_eq ?_
      refine Fin.th ?_
      refine C.region_seq ?_
      refine G.value rfl rfl rfl (Sure.assign rfl) ?_
      refine G.nil ?_
      refine C.ret ?_
      refine Fin.fn (Res.tmp rfl rfl) (Split.one PickL.all) ⟨?_, rfl⟩
      rw [ixOf_none hq]
end Go.Proofs.YtaeeahcokiebdaaGreat

/-
  The walks of slices.Insert.
-/
namespace Go.Proofs.YtaeeahcokiebdaaGreat
set_option maxRecDepth 20000

theorem setSeg_app {A J vs : List Value} {o : Nat} (ho : A.length = o) (hl : vs.length ≤ J.length) : setSeg (A ++ J) o vs = some (A ++ vs ++ J.drop vs.length) := by
  subst ho
  rw [setSeg_eq (by simp; omega)]
  simp [List.drop_append]
theorem ins_inplace {xs junk row : List Value} {k s : Nat} (hr : row.length = s) (hk : k ≤ xs.length) (hj : s ≤ junk.length) :
    ∃ C1, setSeg (xs ++ junk) (k + s) (xs.drop k) = some C1 ∧ C1.length = (xs ++ junk).length ∧ setSeg C1 k row = some (xs.take k ++ row ++ xs.drop k ++ junk.drop s) := by
  have h1 := setSeg_eq (c := xs ++ junk) (o := k + s) (vs := xs.drop k) (by simp; omega)
  refine ⟨_, h1, by simp; omega, ?_⟩
  rw [setSeg_eq (by simp; omega)]
  have hd : (xs ++ junk).drop (k + s + (xs.drop k).length) = junk.drop s := by
    rw [List.drop_append, List.drop_eq_nil_of_le (by simp; omega), List.nil_append]
    congr 1
    simp; omega
  rw [hd]
  congr 1
  have ht : ((xs ++ junk).take (k + s)).length = k + s := by simp; omega
  have e1 : ((xs ++ junk).take (k + s) ++ xs.drop k ++ junk.drop s).take k = xs.take k := by
    rw [List.append_assoc, List.take_append_of_le_length (by omega), List.take_take, Nat.min_eq_left (by omega), List.take_append_of_le_length hk]
  have e2 : ((xs ++ junk).take (k + s) ++ xs.drop k ++ junk.drop s).drop (k + row.length) = xs.drop k ++ junk.drop s := by
    rw [List.append_assoc, List.drop_append, List.drop_eq_nil_of_le (by omega), List.nil_append, ht, hr]
    simp
  rw [e1, e2]
  simp
theorem insertIno_spec_run {H : Heap} {M : Mem} {b b' o o' l l' cap cap' : Nat} {cs cs' : List Value} (hb : (b, HB.cells cs) ∈ H) (hb' : (b', HB.cells cs') ∈ H) (hne : b ≠ b') (hl' : cs' ≠ []) (w : World) (_ : Agr M w) (hh : Has H w) :
    (callFunc 147 [Value.slice (some ⟨b, o, Option.none⟩) l cap, Value.slice (some ⟨b', o', Option.none⟩) l' cap'].toArray).run Tryz.prog w = .ok (.value (.bool false)) w := by
  rw [run_callFunc_extern (fn := Tryz.f147) (by kernel_rfl) (by kernel_rfl) (by kernel_rfl) (by kernel_rfl) (e := Extern.SlicesOverlaps.overlaps #[36, 36] #[4]) (by kernel_rfl)]
  show ((Extern.SlicesOverlaps.overlaps #[36, 36] #[4] #[.slice (some ⟨b, o, Option.none⟩) l cap, .slice (some ⟨b', o', Option.none⟩) l' cap']).run Tryz.prog w).andThen _ = _
  rw [run_overlaps_own hh hb hb' hne hl']
  rfl
theorem insertIno_spec (M : Mem) (v : Value) (n i : Nat) (xs row : List Value) (Hs : Heap) (b2 : Nat) (hown : Own 7 v n xs Hs) (hi : i ≤ n) (hn : n ≤ 2000000) (hrow : row.length = 7) (h1 : allOne row = true) (hx1 : allOne xs = true) :
    Spec Tryz.prog 127 [v, .int .i64 i, .slice (some ⟨b2, 0, Option.none⟩) 1 1] M (Hs ++ [(b2, .cells row)]) (fun r _ H => Own 7 r (n + 1) (xs.take (i * 7) ++ row ++ xs.drop (i * 7)) H) := by
  obtain ⟨p, cap, rfl, hsl⟩ := hown.slice
  have hcap : n ≤ cap := by
    rcases hown.2 with ⟨h, rfl, _⟩ | ⟨b, c, junk, h, h2, _, _⟩
    · omega
    · injection h; omega
  have hxl := hown.1
  have hrs : ∀ M (H : Heap), (b2, HB.cells row) ∈ H → Sl M H 7 (some ⟨b2, 0, Option.none⟩) 1 row := fun M H hm => ⟨by omega, fun _ => ⟨b2, 0, row, rfl, .inr hm, seg_all (by omega)⟩⟩
  refine Spec.of_code 95 Tryz.func127 rfl callable127 rfl rfl fun w => ?_
  refine C.region_seq ?_
  refine G.value rfl rfl rfl (Sure.assign rfl) ?_
  refine G.nil ?_
  refine C.region_seq ?_
  refine G.value rfl rfl rfl (Sure.move rfl) ?_
  refine G.value rfl rfl rfl (Sure.move rfl) ?_
  refine G.value rfl rfl rfl (Sure.slice i n rfl rfl rfl (.inl rfl) (.inr ⟨rfl, rfl⟩) hi hcap) ?_
  refine G.nil ?_
  refine C.region_seq ?_
  refine G.value rfl rfl rfl (Sure.move rfl) ?_
  refine G.value rfl rfl rfl (Sure.len_slice rfl) ?_
  refine G.value rfl rfl rfl (Sure.assign rfl) ?_
  refine G.nil ?_
  refine C.seq ?_
  refine C.region_seq ?_
  refine G.value rfl rfl rfl (Sure.move rfl) ?_
  refine G.value rfl rfl rfl ((Sure.eql rfl rfl).to_f (by decide)) ?_
  refine G.nil ?_
  refine C.cond_false rfl ?_
  refine C.skip ?_
  refine Fin.th ?_
  refine C.region_seq ?_
  refine G.value rfl rfl rfl (Sure.move rfl) ?_
  refine G.value rfl rfl rfl (Sure.len_slice rfl) ?_
  refine G.value rfl rfl rfl (Sure.assign rfl) ?_
  refine G.nil ?_
  refine C.seq ?_
  refine C.region_seq ?_
  refine G.value rfl rfl rfl (Sure.move rfl) ?_
  refine G.value rfl rfl rfl (Sure.move rfl) ?_
  refine G.value rfl rfl rfl (Sure.eql rfl rfl) ?_
  refine G.nil ?_
  refine C.cond_dec rfl (fun heq => ?_) (fun heq => ?_)
  · have hin : i = n := by omega
    subst hin
    refine C.region_seq ?_
    refine G.value rfl rfl rfl (Sure.move rfl) ?_
    refine G.value rfl rfl rfl (Sure.move rfl) ?_
    refine G.dyn rfl rfl rfl ?_
    refine Dyn.append (fun k h => by cases h) rfl rfl rfl hown PickL.here (hrs _ _ (by simp)) h1 (by omega) (by omega) ?_
    intro v2 Hs2 hown2
    refine G.value rfl rfl rfl (Sure.assign rfl) ?_
    refine G.nil ?_
    refine C.ret ?_
    refine Fin.th_ret ?_
    refine Fin.fn (Res.tmp rfl rfl) (Split.one PickL.here) ?_
    rw [show xs.take (i * 7) = xs from List.take_of_length_le (by omega), show xs.drop (i * 7) = [] from List.drop_eq_nil_of_le (by omega), List.append_nil]
    exact hown2
  · have hin : i < n := by omega
    have hbl : i * 7 ≤ n * 7 := Nat.mul_le_mul_right _ hi
    obtain ⟨b, junk, rfl, rfl, hjl⟩ : ∃ b junk, p = some ⟨b, 0, Option.none⟩ ∧ Hs = [(b, .cells (xs ++ junk))] ∧ (xs ++ junk).length = cap * 7 := by
      rcases hown.2 with ⟨_, h, _⟩ | ⟨b, c, junk, h, _, h3, h4⟩
      · omega
      · injection h with e1 e2 e3; subst e3; exact ⟨b, junk, e1, h3, h4⟩
    have hs0 : ∀ M (H : Heap), (b, HB.cells (xs ++ junk)) ∈ H → Sl M H 7 (some ⟨b, 0, Option.none⟩) n xs := fun M H hm => ⟨hxl, fun _ => ⟨b, 0, _, rfl, .inr hm, by unfold seg; rw [takeN_eq (by simp; omega)]; simp [← hxl]⟩⟩
    have hdrop : (xs.drop (i * 7)).take ((n - i) * 7) = xs.drop (i * 7) := List.take_of_length_le (by rw [List.length_drop, hxl, Nat.sub_mul]; omega)
    refine C.skip ?_
    refine Fin.th ?_
    refine C.seq ?_
    refine C.region_seq ?_
    refine G.value rfl rfl rfl (Sure.move rfl) ?_
    refine G.value rfl rfl rfl (Sure.move rfl) ?_
    refine G.value rfl rfl rfl (Sure.add rfl rfl (inK64 (by omega))) ?_
    refine G.value rfl rfl rfl (Sure.move rfl) ?_
    refine G.value rfl rfl rfl (Sure.cap_slice rfl) ?_
    refine G.value rfl rfl rfl (Sure.gtr rfl rfl) ?_
    refine G.nil ?_
    refine C.cond_dec rfl (fun hroom => ?_) (fun hroom => ?_)
    · have hroom' : ¬ (i + (n + 1 - i) ≤ cap) := by omega
      refine C.region_seq ?_
      refine G.value rfl rfl rfl (Sure.move rfl) ?_
      refine G.value rfl rfl rfl (Sure.move rfl) ?_
      refine G.value rfl rfl rfl (Sure.slice 0 i rfl rfl rfl (.inr ⟨rfl, rfl⟩) (.inl rfl) (by omega) (by omega)) ?_
      refine G.value rfl rfl rfl (Sure.move rfl) ?_
      refine G.value rfl rfl rfl (Sure.move rfl) ?_
      refine G.value rfl rfl rfl (Sure.add rfl rfl (inK64 (by omega))) ?_
      refine G.value rfl rfl rfl (Sure.move rfl) ?_
      refine G.value rfl rfl rfl (Sure.sub rfl rfl (inK64 (by omega))) ?_
      rw [show ((n : Int) + ((1 : Nat) : Int) - (i : Int)) = ((n + 1 - i : Nat) : Int) from by omega]
      have hs1 : ∀ M (H : Heap), (b, HB.cells (xs ++ junk)) ∈ H → Sl M H 7 (subP (some ⟨b, 0, Option.none⟩) cap 0 7) (i - 0) (xs.take (i * 7)) := by
        intro M H hm
        have := (hs0 M H hm).sub (lo := 0) (hi := i) (by omega) hi hcap
        simpa using this
      refine G.dyn rfl rfl rfl ?_
      refine Dyn.appendMakeGrow (sz := 7) rfl (by omega) (by decide) rfl rfl (hs1 _ _ (by simp)) (by omega) (by omega) (by omega) ?_
      intro b3 cap3 junk3 hcap3 hjl3
      have htl : (xs.take (i * 7)).length = i * 7 := by simp; omega
      rw [show i - 0 + (n + 1 - i) = n + 1 from by omega] at hcap3 ⊢
      have hj3 : (n + 1) * 7 ≤ cap3 * 7 := Nat.mul_le_mul_right _ hcap3
      rw [List.length_append, htl] at hjl3
      refine G.value rfl rfl rfl (Sure.assign rfl) ?_
      refine G.nil ?_
      refine C.region_seq ?_
      refine G.value rfl rfl rfl (Sure.move rfl) ?_
      refine G.value rfl rfl rfl (Sure.move rfl) ?_
      refine G.value rfl rfl rfl (Sure.slice i (n + 1) rfl rfl rfl (.inl rfl) (.inr ⟨rfl, rfl⟩) (by omega) (by omega)) ?_
      rw [show subP (some ⟨b3, 0, Option.none⟩) cap3 i 7 = some ⟨b3, i * 7, Option.none⟩ from by unfold subP; rw [if_neg (by omega)]; simp [addr_add]]
      refine G.value rfl rfl rfl (Sure.move rfl) ?_
      refine G.dyn rfl rfl rfl ?_
      refine Dyn.copy (n := 1) rfl rfl (Nat.min_eq_left (by omega)) (hrs _ _ (by simp)) Pick.here h1 (setSeg_app htl (by omega)) ?_
      refine G.nil ?_
      -- draws its order
      refine C.draw_seq ([]) mixed (by kernel_rfl) (Incl.nil _) ?_
      refine GD.val 0 rfl rfl rfl rfl (by kernel_rfl) rfl (Sure.move rfl) ?_
      refine GD.val 1 rfl rfl rfl rfl (by kernel_rfl) rfl (Sure.move rfl) ?_
      refine GD.val 2 rfl rfl rfl rfl (by kernel_rfl) rfl (Sure.move rfl) ?_
      refine GD.val 3 rfl rfl rfl rfl (by kernel_rfl) rfl (Sure.add rfl rfl (inK64 (by omega))) ?_
      refine GD.val 4 rfl rfl rfl rfl (by kernel_rfl) rfl (Sure.slice (i + 1) (n + 1) rfl rfl rfl (.inl (by simp)) (.inr ⟨rfl, rfl⟩) (by omega) (by omega)) ?_
      rw [show subP (some ⟨b3, 0, Option.none⟩) cap3 (i + 1) 7 = some ⟨b3, (i + 1) * 7, Option.none⟩ from by unfold subP; rw [if_neg (by omega)]; simp [addr_add]]
      refine GD.val 5 rfl rfl rfl rfl (by kernel_rfl) rfl (Sure.move rfl) ?_
      refine GD.val 6 rfl rfl rfl rfl (by kernel_rfl) rfl (Sure.move rfl) ?_
      refine GD.val 7 rfl rfl rfl rfl (by kernel_rfl) rfl (Sure.slice i n rfl rfl rfl (.inl rfl) (.inr ⟨rfl, rfl⟩) (by omega) (by omega)) ?_
      have hsd : ∀ M (H : Heap), (b, HB.cells (xs ++ junk)) ∈ H → Sl M H 7 (subP (some ⟨b, 0, Option.none⟩) cap i 7) (n - i) (xs.drop (i * 7)) := by
        intro M H hm
        have := (hs0 M H hm).sub (lo := i) (hi := n) hi (by omega) hcap
        rwa [hdrop] at this
      have hdl : (xs.drop (i * 7)).length = n * 7 - i * 7 := by rw [List.length_drop, hxl]
      refine GD.one 8 (by kernel_rfl) rfl rfl (by kernel_rfl) ?_
      refine Next.dyn 8 rfl rfl rfl (by kernel_rfl) (by kernel_rfl) rfl ?_
      refine Dyn.copy (n := n - i) rfl rfl (Nat.min_eq_left (by omega)) (hsd _ _ (by simp)) Pick.here (by unfold allOne at hx1 ⊢; rw [List.all_eq_true] at hx1 ⊢; intro v hv; exact hx1 v (List.mem_of_mem_drop hv)) (setSeg_app (by simp only [List.length_append, htl]; omega) (by simp only [List.length_drop]; omega)) ?_
      refine ⟨MLe.refl _, Incl.nil _, ?_⟩
      refine GD.done (by kernel_rfl) (by kernel_rfl) ?_
      refine C.region_seq ?_
      refine G.value rfl rfl rfl (Sure.move rfl) ?_
      refine G.value rfl rfl rfl (Sure.assign rfl) ?_
      refine G.nil ?_
      refine C.ret ?_
      refine Fin.th_ret ?_
      refine Fin.fn (Res.tmp rfl rfl) (Split.cons .here Split.nil) ⟨by simp only [List.length_append, htl, hdl]; omega, .inr ⟨b3, cap3, _, rfl, hcap3, rfl, ?_⟩⟩
      simp only [List.length_append, List.length_drop, htl, hdl]
      omega
    · refine C.skip ?_
      refine Fin.th ?_
      refine C.region_seq ?_
      refine G.value rfl rfl rfl (Sure.move rfl) ?_
      refine G.value rfl rfl rfl (Sure.move rfl) ?_
      refine G.value rfl rfl rfl (Sure.move rfl) ?_
      refine G.value rfl rfl rfl (Sure.add rfl rfl (inK64 (by omega))) ?_
      refine G.value rfl rfl rfl (Sure.slice 0 (n + 1) rfl rfl rfl (.inr ⟨rfl, rfl⟩) (.inl (by simp)) (by omega) (by omega)) ?_
      rw [show subP (some ⟨b, 0, Option.none⟩) cap 0 7 = some ⟨b, 0, Option.none⟩ from by unfold subP; rw [if_neg (by omega)]; simp [addr_add], Nat.sub_zero cap, Nat.sub_zero (n + 1)]
      refine G.value rfl rfl rfl (Sure.assign rfl) ?_
      refine G.nil ?_
      refine C.seq ?_
      refine C.region_seq ?_
      refine G.value rfl rfl rfl (Sure.move rfl) ?_
      refine G.value rfl rfl rfl (Sure.move rfl) ?_
      refine G.value rfl rfl rfl (Sure.move rfl) ?_
      refine G.value rfl rfl rfl (Sure.move rfl) ?_
      refine G.value rfl rfl rfl (Sure.add rfl rfl (inK64 (by omega))) ?_
      refine G.value rfl rfl rfl (Sure.slice (i + 1) (n + 1) rfl rfl rfl (.inl (by simp)) (.inr ⟨rfl, rfl⟩) (by omega) (by omega)) ?_
      rw [show subP (some ⟨b, 0, Option.none⟩) cap (i + 1) 7 = some ⟨b, (i + 1) * 7, Option.none⟩ from by unfold subP; rw [if_neg (by omega)]; simp [addr_add]]
      refine G.nodup fun hnd => ?_
      have hne : b2 ≠ b := by intro e; subst e; simp [ids] at hnd
      have hnil : xs ++ junk ≠ [] := by intro e; rw [e] at hjl; simp only [List.length_nil] at hjl; omega
      have hov := insertIno_spec_run (H := [(b, HB.cells (xs ++ junk)), (b2, HB.cells row)]) (M := M) (o := 0) (o' := (i + 1) * 7) (l := 1) (l' := n + 1 - (i + 1)) (cap := 1) (cap' := cap - (i + 1)) (cs := row) (cs' := xs ++ junk) (by simp) (by simp) hne hnil
      refine G.dyn rfl rfl rfl ?_
      refine Dyn.extern (P := Tryz.prog) (E := _) (M := M) (o := _) rfl rfl rfl hov ?_
      refine G.value rfl rfl rfl (Sure.not rfl) ?_
      refine G.nil ?_
      refine C.cond_true rfl ?_
      -- draws its order
      have hcs : (n + 1) * 7 ≤ cap * 7 := Nat.mul_le_mul_right _ (by omega)
      have hjl2 : n * 7 + junk.length = cap * 7 := by rw [← hjl, List.length_append, hxl]
      have hsd : ∀ M (H : Heap), (b, HB.cells (xs ++ junk)) ∈ H → Sl M H 7 (some ⟨b, i * 7, Option.none⟩) (n - i) (xs.drop (i * 7)) := by
        intro M H hm
        have := (hs0 M H hm).sub (lo := i) (hi := n) hi (by omega) hcap
        rw [hdrop, show subP (some ⟨b, 0, Option.none⟩) cap i 7 = some ⟨b, i * 7, Option.none⟩ from by unfold subP; rw [if_neg (by omega)]; simp [addr_add]] at this
        exact this
      obtain ⟨C1, hset1, hC1, hset2⟩ := ins_inplace (xs := xs) (junk := junk) (row := row) (k := i * 7) hrow (by omega) (by omega)
      rw [show i * 7 + 7 = (i + 1) * 7 from by omega] at hset1
      refine C.draw_seq ([]) mixed (by kernel_rfl) (Incl.nil _) ?_
      refine GD.val 0 rfl rfl rfl rfl (by kernel_rfl) rfl (Sure.move rfl) ?_
      refine GD.val 1 rfl rfl rfl rfl (by kernel_rfl) rfl (Sure.move rfl) ?_
      refine GD.val 2 rfl rfl rfl rfl (by kernel_rfl) rfl (Sure.move rfl) ?_
      refine GD.val 3 rfl rfl rfl rfl (by kernel_rfl) rfl (Sure.add rfl rfl (inK64 (by omega))) ?_
      refine GD.val 4 rfl rfl rfl rfl (by kernel_rfl) rfl (Sure.slice (i + 1) (n + 1) rfl rfl rfl (.inl (by simp)) (.inr ⟨rfl, rfl⟩) (by omega) (by omega)) ?_
      rw [show subP (some ⟨b, 0, Option.none⟩) cap (i + 1) 7 = some ⟨b, (i + 1) * 7, Option.none⟩ from by unfold subP; rw [if_neg (by omega)]; simp [addr_add]]
      refine GD.val 5 rfl rfl rfl rfl (by kernel_rfl) rfl (Sure.move rfl) ?_
      refine GD.val 6 rfl rfl rfl rfl (by kernel_rfl) rfl (Sure.move rfl) ?_
      refine GD.val 7 rfl rfl rfl rfl (by kernel_rfl) rfl (Sure.slice i (n + 1) rfl rfl rfl (.inl rfl) (.inr ⟨rfl, rfl⟩) (by omega) (by omega)) ?_
      rw [show subP (some ⟨b, 0, Option.none⟩) cap i 7 = some ⟨b, i * 7, Option.none⟩ from by unfold subP; rw [if_neg (by omega)]; simp [addr_add]]
      refine GD.one 8 (by kernel_rfl) rfl rfl (by kernel_rfl) ?_
      refine Next.dyn 8 rfl rfl rfl (by kernel_rfl) (by kernel_rfl) rfl ?_
      refine Dyn.copy (n := n - i) rfl rfl (by show min (n + 1 - i) (n + 1 - (i + 1)) = n - i; omega) (hsd _ _ (by simp)) Pick.here (by unfold allOne at hx1 ⊢; rw [List.all_eq_true] at hx1 ⊢; intro v hv; exact hx1 v (List.mem_of_mem_drop hv)) hset1 ?_
      refine ⟨MLe.refl _, Incl.nil _, ?_⟩
      refine GD.done (by kernel_rfl) (by kernel_rfl) ?_
      refine C.region_seq ?_
      refine G.value rfl rfl rfl (Sure.move rfl) ?_
      refine G.value rfl rfl rfl (Sure.move rfl) ?_
      refine G.value rfl rfl rfl (Sure.slice i (n + 1) rfl rfl rfl (.inl rfl) (.inr ⟨rfl, rfl⟩) (by omega) (by omega)) ?_
      rw [show subP (some ⟨b, 0, Option.none⟩) cap i 7 = some ⟨b, i * 7, Option.none⟩ from by unfold subP; rw [if_neg (by omega)]; simp [addr_add]]
      refine G.value rfl rfl rfl (Sure.move rfl) ?_
      refine G.dyn rfl rfl rfl ?_
      refine Dyn.copy (n := 1) rfl rfl (Nat.min_eq_left (by omega)) (hrs _ _ (by simp)) Pick.here h1 hset2 ?_
      refine G.nil ?_
      refine C.region_seq ?_
      refine G.value rfl rfl rfl (Sure.move rfl) ?_
      refine G.value rfl rfl rfl (Sure.assign rfl) ?_
      refine G.nil ?_
      refine C.ret ?_
      refine Fin.th_ret ?_
      refine Fin.fn (Res.tmp rfl rfl) (Split.cons .here Split.nil) ⟨?_, .inr ⟨b, cap, junk.drop 7, rfl, by omega, rfl, ?_⟩⟩
      · simp only [List.length_append, List.length_take, List.length_drop]; omega
      · simp only [List.length_append, List.length_take, List.length_drop]; omega
theorem insertInt_spec_run {H : Heap} {M : Mem} {b b' o o' l l' cap cap' : Nat} {cs cs' : List Value} (hb : (b, HB.cells cs) ∈ H) (hb' : (b', HB.cells cs') ∈ H) (hne : b ≠ b') (hl' : cs' ≠ []) (w : World) (_ : Agr M w) (hh : Has H w) :
    (callFunc 150 [Value.slice (some ⟨b, o, Option.none⟩) l cap, Value.slice (some ⟨b', o', Option.none⟩) l' cap'].toArray).run Tryz.prog w = .ok (.value (.bool false)) w := by
  rw [run_callFunc_extern (fn := Tryz.f150) (by kernel_rfl) (by kernel_rfl) (by kernel_rfl) (by kernel_rfl) (e := Extern.SlicesOverlaps.overlaps #[37, 37] #[4]) (by kernel_rfl)]
  show ((Extern.SlicesOverlaps.overlaps #[37, 37] #[4] #[.slice (some ⟨b, o, Option.none⟩) l cap, .slice (some ⟨b', o', Option.none⟩) l' cap']).run Tryz.prog w).andThen _ = _
  rw [run_overlaps_own hh hb hb' hne hl']
  rfl
theorem insertInt_spec (M : Mem) (v : Value) (n i : Nat) (xs row : List Value) (Hs : Heap) (b2 : Nat) (hown : Own 1 v n xs Hs) (hi : i ≤ n) (hn : n ≤ 2000000) (hrow : row.length = 1) (h1 : allOne row = true) (hx1 : allOne xs = true) :
    Spec Tryz.prog 131 [v, .int .i64 i, .slice (some ⟨b2, 0, Option.none⟩) 1 1] M (Hs ++ [(b2, .cells row)]) (fun r _ H => Own 1 r (n + 1) (xs.take (i * 1) ++ row ++ xs.drop (i * 1)) H) := by
  obtain ⟨p, cap, rfl, hsl⟩ := hown.slice
  have hcap : n ≤ cap := by
    rcases hown.2 with ⟨h, rfl, _⟩ | ⟨b, c, junk, h, h2, _, _⟩
    · omega
    · injection h; omega
  have hxl := hown.1
  have hrs : ∀ M (H : Heap), (b2, HB.cells row) ∈ H → Sl M H 1 (some ⟨b2, 0, Option.none⟩) 1 row := fun M H hm => ⟨by omega, fun _ => ⟨b2, 0, row, rfl, .inr hm, seg_all (by omega)⟩⟩
  refine Spec.of_code 95 Tryz.func131 rfl callable131 rfl rfl fun w => ?_
  refine C.region_seq ?_
  refine G.value rfl rfl rfl (Sure.assign rfl) ?_
  refine G.nil ?_
  refine C.region_seq ?_
  refine G.value rfl rfl rfl (Sure.move rfl) ?_
  refine G.value rfl rfl rfl (Sure.move rfl) ?_
  refine G.value rfl rfl rfl (Sure.slice i n rfl rfl rfl (.inl rfl) (.inr ⟨rfl, rfl⟩) hi hcap) ?_
  refine G.nil ?_
  refine C.region_seq ?_
  refine G.value rfl rfl rfl (Sure.move rfl) ?_
  refine G.value rfl rfl rfl (Sure.len_slice rfl) ?_
  refine G.value rfl rfl rfl (Sure.assign rfl) ?_
  refine G.nil ?_
  refine C.seq ?_
  refine C.region_seq ?_
  refine G.value rfl rfl rfl (Sure.move rfl) ?_
  refine G.value rfl rfl rfl ((Sure.eql rfl rfl).to_f (by decide)) ?_
  refine G.nil ?_
  refine C.cond_false rfl ?_
  refine C.skip ?_
  refine Fin.th ?_
  refine C.region_seq ?_
  refine G.value rfl rfl rfl (Sure.move rfl) ?_
  refine G.value rfl rfl rfl (Sure.len_slice rfl) ?_
  refine G.value rfl rfl rfl (Sure.assign rfl) ?_
  refine G.nil ?_
  refine C.seq ?_
  refine C.region_seq ?_
  refine G.value rfl rfl rfl (Sure.move rfl) ?_
  refine G.value rfl rfl rfl (Sure.move rfl) ?_
  refine G.value rfl rfl rfl (Sure.eql rfl rfl) ?_
  refine G.nil ?_
  refine C.cond_dec rfl (fun heq => ?_) (fun heq => ?_)
  · have hin : i = n := by omega
    subst hin
    refine C.region_seq ?_
    refine G.value rfl rfl rfl (Sure.move rfl) ?_
    refine G.value rfl rfl rfl (Sure.move rfl) ?_
    refine G.dyn rfl rfl rfl ?_
    refine Dyn.append (fun k h => by cases h) rfl rfl rfl hown PickL.here (hrs _ _ (by simp)) h1 (by omega) (by omega) ?_
    intro v2 Hs2 hown2
    refine G.value rfl rfl rfl (Sure.assign rfl) ?_
    refine G.nil ?_
    refine C.ret ?_
    refine Fin.th_ret ?_
    refine Fin.fn (Res.tmp rfl rfl) (Split.one PickL.here) ?_
    rw [show xs.take (i * 1) = xs from List.take_of_length_le (by omega), show xs.drop (i * 1) = [] from List.drop_eq_nil_of_le (by omega), List.append_nil]
    exact hown2
  · have hin : i < n := by omega
    have hbl : i * 1 ≤ n * 1 := Nat.mul_le_mul_right _ hi
    obtain ⟨b, junk, rfl, rfl, hjl⟩ : ∃ b junk, p = some ⟨b, 0, Option.none⟩ ∧ Hs = [(b, .cells (xs ++ junk))] ∧ (xs ++ junk).length = cap * 1 := by
      rcases hown.2 with ⟨_, h, _⟩ | ⟨b, c, junk, h, _, h3, h4⟩
      · omega
      · injection h with e1 e2 e3; subst e3; exact ⟨b, junk, e1, h3, h4⟩
    have hs0 : ∀ M (H : Heap), (b, HB.cells (xs ++ junk)) ∈ H → Sl M H 1 (some ⟨b, 0, Option.none⟩) n xs := fun M H hm => ⟨hxl, fun _ => ⟨b, 0, _, rfl, .inr hm, by unfold seg; rw [takeN_eq (by simp; omega)]; simp [← hxl]⟩⟩
    have hdrop : (xs.drop (i * 1)).take ((n - i) * 1) = xs.drop (i * 1) := List.take_of_length_le (by rw [List.length_drop, hxl, Nat.sub_mul]; omega)
    refine C.skip ?_
    refine Fin.th ?_
    refine C.seq ?_
    refine C.region_seq ?_
    refine G.value rfl rfl rfl (Sure.move rfl) ?_
    refine G.value rfl rfl rfl (Sure.move rfl) ?_
    refine G.value rfl rfl rfl (Sure.add rfl rfl (inK64 (by omega))) ?_
    refine G.value rfl rfl rfl (Sure.move rfl) ?_
    refine G.value rfl rfl rfl (Sure.cap_slice rfl) ?_
    refine G.value rfl rfl rfl (Sure.gtr rfl rfl) ?_
    refine G.nil ?_
    refine C.cond_dec rfl (fun hroom => ?_) (fun hroom => ?_)
    · have hroom' : ¬ (i + (n + 1 - i) ≤ cap) := by omega
      refine C.region_seq ?_
      refine G.value rfl rfl rfl (Sure.move rfl) ?_
      refine G.value rfl rfl rfl (Sure.move rfl) ?_
      refine G.value rfl rfl rfl (Sure.slice 0 i rfl rfl rfl (.inr ⟨rfl, rfl⟩) (.inl rfl) (by omega) (by omega)) ?_
      refine G.value rfl rfl rfl (Sure.move rfl) ?_
      refine G.value rfl rfl rfl (Sure.move rfl) ?_
      refine G.value rfl rfl rfl (Sure.add rfl rfl (inK64 (by omega))) ?_
      refine G.value rfl rfl rfl (Sure.move rfl) ?_
      refine G.value rfl rfl rfl (Sure.sub rfl rfl (inK64 (by omega))) ?_
      rw [show ((n : Int) + ((1 : Nat) : Int) - (i : Int)) = ((n + 1 - i : Nat) : Int) from by omega]
      have hs1 : ∀ M (H : Heap), (b, HB.cells (xs ++ junk)) ∈ H → Sl M H 1 (subP (some ⟨b, 0, Option.none⟩) cap 0 1) (i - 0) (xs.take (i * 1)) := by
        intro M H hm
        have := (hs0 M H hm).sub (lo := 0) (hi := i) (by omega) hi hcap
        simpa using this
      refine G.dyn rfl rfl rfl ?_
      refine Dyn.appendMakeGrow (sz := 1) rfl (by omega) (by decide) rfl rfl (hs1 _ _ (by simp)) (by omega) (by omega) (by omega) ?_
      intro b3 cap3 junk3 hcap3 hjl3
      have htl : (xs.take (i * 1)).length = i * 1 := by simp; omega
      rw [show i - 0 + (n + 1 - i) = n + 1 from by omega] at hcap3 ⊢
      have hj3 : (n + 1) * 1 ≤ cap3 * 1 := Nat.mul_le_mul_right _ hcap3
      rw [List.length_append, htl] at hjl3
      refine G.value rfl rfl rfl (Sure.assign rfl) ?_
      refine G.nil ?_
      refine C.region_seq ?_
      refine G.value rfl rfl rfl (Sure.move rfl) ?_
      refine G.value rfl rfl rfl (Sure.move rfl) ?_
      refine G.value rfl rfl rfl (Sure.slice i (n + 1) rfl rfl rfl (.inl rfl) (.inr ⟨rfl, rfl⟩) (by omega) (by omega)) ?_
      rw [show subP (some ⟨b3, 0, Option.none⟩) cap3 i 1 = some ⟨b3, i * 1, Option.none⟩ from by unfold subP; rw [if_neg (by omega)]; simp [addr_add]]
      refine G.value rfl rfl rfl (Sure.move rfl) ?_
      refine G.dyn rfl rfl rfl ?_
      refine Dyn.copy (n := 1) rfl rfl (Nat.min_eq_left (by omega)) (hrs _ _ (by simp)) Pick.here h1 (setSeg_app htl (by omega)) ?_
      refine G.nil ?_
      -- draws its order
      refine C.draw_seq ([]) mixed (by kernel_rfl) (Incl.nil _) ?_
      refine GD.val 0 rfl rfl rfl rfl (by kernel_rfl) rfl (Sure.move rfl) ?_
      refine GD.val 1 rfl rfl rfl rfl (by kernel_rfl) rfl (Sure.move rfl) ?_
      refine GD.val 2 rfl rfl rfl rfl (by kernel_rfl) rfl (Sure.move rfl) ?_
      refine GD.val 3 rfl rfl rfl rfl (by kernel_rfl) rfl (Sure.add rfl rfl (inK64 (by omega))) ?_
      refine GD.val 4 rfl rfl rfl rfl (by kernel_rfl) rfl (Sure.slice (i + 1) (n + 1) rfl rfl rfl (.inl (by simp)) (.inr ⟨rfl, rfl⟩) (by omega) (by omega)) ?_
      rw [show subP (some ⟨b3, 0, Option.none⟩) cap3 (i + 1) 1 = some ⟨b3, (i + 1) * 1, Option.none⟩ from by unfold subP; rw [if_neg (by omega)]; simp [addr_add]]
      refine GD.val 5 rfl rfl rfl rfl (by kernel_rfl) rfl (Sure.move rfl) ?_
      refine GD.val 6 rfl rfl rfl rfl (by kernel_rfl) rfl (Sure.move rfl) ?_
      refine GD.val 7 rfl rfl rfl rfl (by kernel_rfl) rfl (Sure.slice i n rfl rfl rfl (.inl rfl) (.inr ⟨rfl, rfl⟩) (by omega) (by omega)) ?_
      have hsd : ∀ M (H : Heap), (b, HB.cells (xs ++ junk)) ∈ H → Sl M H 1 (subP (some ⟨b, 0, Option.none⟩) cap i 1) (n - i) (xs.drop (i * 1)) := by
        intro M H hm
        have := (hs0 M H hm).sub (lo := i) (hi := n) hi (by omega) hcap
        rwa [hdrop] at this
      have hdl : (xs.drop (i * 1)).length = n * 1 - i * 1 := by rw [List.length_drop, hxl]
      refine GD.one 8 (by kernel_rfl) rfl rfl (by kernel_rfl) ?_
      refine Next.dyn 8 rfl rfl rfl (by kernel_rfl) (by kernel_rfl) rfl ?_
      refine Dyn.copy (n := n - i) rfl rfl (Nat.min_eq_left (by omega)) (hsd _ _ (by simp)) Pick.here (by unfold allOne at hx1 ⊢; rw [List.all_eq_true] at hx1 ⊢; intro v hv; exact hx1 v (List.mem_of_mem_drop hv)) (setSeg_app (by simp only [List.length_append, htl]; omega) (by simp only [List.length_drop]; omega)) ?_
      refine ⟨MLe.refl _, Incl.nil _, ?_⟩
      refine GD.done (by kernel_rfl) (by kernel_rfl) ?_
      refine C.region_seq ?_
      refine G.value rfl rfl rfl (Sure.move rfl) ?_
      refine G.value rfl rfl rfl (Sure.assign rfl) ?_
      refine G.nil ?_
      refine C.ret ?_
      refine Fin.th_ret ?_
      refine Fin.fn (Res.tmp rfl rfl) (Split.cons .here Split.nil) ⟨by simp only [List.length_append, htl, hdl]; omega, .inr ⟨b3, cap3, _, rfl, hcap3, rfl, ?_⟩⟩
      simp only [List.length_append, List.length_drop, htl, hdl]
      omega
    · refine C.skip ?_
      refine Fin.th ?_
      refine C.region_seq ?_
      refine G.value rfl rfl rfl (Sure.move rfl) ?_
      refine G.value rfl rfl rfl (Sure.move rfl) ?_
      refine G.value rfl rfl rfl (Sure.move rfl) ?_
      refine G.value rfl rfl rfl (Sure.add rfl rfl (inK64 (by omega))) ?_
      refine G.value rfl rfl rfl (Sure.slice 0 (n + 1) rfl rfl rfl (.inr ⟨rfl, rfl⟩) (.inl (by simp)) (by omega) (by omega)) ?_
      rw [show subP (some ⟨b, 0, Option.none⟩) cap 0 1 = some ⟨b, 0, Option.none⟩ from by unfold subP; rw [if_neg (by omega)]; simp [addr_add], Nat.sub_zero cap, Nat.sub_zero (n + 1)]
      refine G.value rfl rfl rfl (Sure.assign rfl) ?_
      refine G.nil ?_
      refine C.seq ?_
      refine C.region_seq ?_
      refine G.value rfl rfl rfl (Sure.move rfl) ?_
      refine G.value rfl rfl rfl (Sure.move rfl) ?_
      refine G.value rfl rfl rfl (Sure.move rfl) ?_
      refine G.value rfl rfl rfl (Sure.move rfl) ?_
      refine G.value rfl rfl rfl (Sure.add rfl rfl (inK64 (by omega))) ?_
      refine G.value rfl rfl rfl (Sure.slice (i + 1) (n + 1) rfl rfl rfl (.inl (by simp)) (.inr ⟨rfl, rfl⟩) (by omega) (by omega)) ?_
      rw [show subP (some ⟨b, 0, Option.none⟩) cap (i + 1) 1 = some ⟨b, (i + 1) * 1, Option.none⟩ from by unfold subP; rw [if_neg (by omega)]; simp [addr_add]]
      refine G.nodup fun hnd => ?_
      have hne : b2 ≠ b := by intro e; subst e; simp [ids] at hnd
      have hnil : xs ++ junk ≠ [] := by intro e; rw [e] at hjl; simp only [List.length_nil] at hjl; omega
      have hov := insertInt_spec_run (H := [(b, HB.cells (xs ++ junk)), (b2, HB.cells row)]) (M := M) (o := 0) (o' := (i + 1) * 1) (l := 1) (l' := n + 1 - (i + 1)) (cap := 1) (cap' := cap - (i + 1)) (cs := row) (cs' := xs ++ junk) (by simp) (by simp) hne hnil
      refine G.dyn rfl rfl rfl ?_
      refine Dyn.extern (P := Tryz.prog) (E := _) (M := M) (o := _) rfl rfl rfl hov ?_
      refine G.value rfl rfl rfl (Sure.not rfl) ?_
      refine G.nil ?_
      refine C.cond_true rfl ?_
      -- draws its order
      have hcs : (n + 1) * 1 ≤ cap * 1 := Nat.mul_le_mul_right _ (by omega)
      have hjl2 : n * 1 + junk.length = cap * 1 := by rw [← hjl, List.length_append, hxl]
      have hsd : ∀ M (H : Heap), (b, HB.cells (xs ++ junk)) ∈ H → Sl M H 1 (some ⟨b, i * 1, Option.none⟩) (n - i) (xs.drop (i * 1)) := by
        intro M H hm
        have := (hs0 M H hm).sub (lo := i) (hi := n) hi (by omega) hcap
        rw [hdrop, show subP (some ⟨b, 0, Option.none⟩) cap i 1 = some ⟨b, i * 1, Option.none⟩ from by unfold subP; rw [if_neg (by omega)]; simp [addr_add]] at this
        exact this
      obtain ⟨C1, hset1, hC1, hset2⟩ := ins_inplace (xs := xs) (junk := junk) (row := row) (k := i * 1) hrow (by omega) (by omega)
      rw [show i * 1 + 1 = (i + 1) * 1 from by omega] at hset1
      refine C.draw_seq ([]) mixed (by kernel_rfl) (Incl.nil _) ?_
      refine GD.val 0 rfl rfl rfl rfl (by kernel_rfl) rfl (Sure.move rfl) ?_
      refine GD.val 1 rfl rfl rfl rfl (by kernel_rfl) rfl (Sure.move rfl) ?_
      refine GD.val 2 rfl rfl rfl rfl (by kernel_rfl) rfl (Sure.move rfl) ?_
      refine GD.val 3 rfl rfl rfl rfl (by kernel_rfl) rfl (Sure.add rfl rfl (inK64 (by omega))) ?_
      refine GD.val 4 rfl rfl rfl rfl (by kernel_rfl) rfl (Sure.slice (i + 1) (n + 1) rfl rfl rfl (.inl (by simp)) (.inr ⟨rfl, rfl⟩) (by omega) (by omega)) ?_
      rw [show subP (some ⟨b, 0, Option.none⟩) cap (i + 1) 1 = some ⟨b, (i + 1) * 1, Option.none⟩ from by unfold subP; rw [if_neg (by omega)]; simp [addr_add]]
      refine GD.val 5 rfl rfl rfl rfl (by kernel_rfl) rfl (Sure.move rfl) ?_
      refine GD.val 6 rfl rfl rfl rfl (by kernel_rfl) rfl (Sure.move rfl) ?_
      refine GD.val 7 rfl rfl rfl rfl (by kernel_rfl) rfl (Sure.slice i (n + 1) rfl rfl rfl (.inl rfl) (.inr ⟨rfl, rfl⟩) (by omega) (by omega)) ?_
      rw [show subP (some ⟨b, 0, Option.none⟩) cap i 1 = some ⟨b, i * 1, Option.none⟩ from by unfold subP; rw [if_neg (by omega)]; simp [addr_add]]
      refine GD.one 8 (by kernel_rfl) rfl rfl (by kernel_rfl) ?_
      refine Next.dyn 8 rfl rfl rfl (by kernel_rfl) (by kernel_rfl) rfl ?_
      refine Dyn.copy (n := n - i) rfl rfl (by show min (n + 1 - i) (n + 1 - (i + 1)) = n - i; omega) (hsd _ _ (by simp)) Pick.here (by unfold allOne at hx1 ⊢; rw [List.all_eq_true] at hx1 ⊢; intro v hv; exact hx1 v (List.mem_of_mem_drop hv)) hset1 ?_
      refine ⟨MLe.refl _, Incl.nil _, ?_⟩
      refine GD.done (by kernel_rfl) (by kernel_rfl) ?_
      refine C.region_seq ?_
      refine G.value rfl rfl rfl (Sure.move rfl) ?_
      refine G.value rfl rfl rfl (Sure.move rfl) ?_
      refine G.value rfl rfl rfl (Sure.slice i (n + 1) rfl rfl rfl (.inl rfl) (.inr ⟨rfl, rfl⟩) (by omega) (by omega)) ?_
      rw [show subP (some ⟨b, 0, Option.none⟩) cap i 1 = some ⟨b, i * 1, Option.none⟩ from by unfold subP; rw [if_neg (by omega)]; simp [addr_add]]
      refine G.value rfl rfl rfl (Sure.move rfl) ?_
      refine G.dyn rfl rfl rfl ?_
      refine Dyn.copy (n := 1) rfl rfl (Nat.min_eq_left (by omega)) (hrs _ _ (by simp)) Pick.here h1 hset2 ?_
      refine G.nil ?_
      refine C.region_seq ?_
      refine G.value rfl rfl rfl (Sure.move rfl) ?_
      refine G.value rfl rfl rfl (Sure.assign rfl) ?_
      refine G.nil ?_
      refine C.ret ?_
      refine Fin.th_ret ?_
      refine Fin.fn (Res.tmp rfl rfl) (Split.cons .here Split.nil) ⟨?_, .inr ⟨b, cap, junk.drop 1, rfl, by omega, rfl, ?_⟩⟩
      · simp only [List.length_append, List.length_take, List.length_drop]; omega
      · simp only [List.length_append, List.length_take, List.length_drop]; omega
end Go.Proofs.YtaeeahcokiebdaaGreat

/-
  The walk of the putting of an inode among others.
-/
namespace Go.Proofs.YtaeeahcokiebdaaGreat
set_option maxRecDepth 20000

theorem flat_len {α : Type} (f : α → List Value) (sz : Nat) (hf : ∀ x, (f x).length = sz) (l : List α) : (l.map f).flatten.length = l.length * sz := by
  induction l with
  | nil => simp
  | cons d l ih => simp only [List.map_cons, List.flatten_cons, List.length_append, List.length_cons, hf, ih, Nat.add_mul]; omega
theorem flat_take {α : Type} (f : α → List Value) (sz : Nat) (hf : ∀ x, (f x).length = sz) (l : List α) {i : Nat} (hi : i ≤ l.length) :
    (l.map f).flatten.take (i * sz) = ((l.take i).map f).flatten ∧ (l.map f).flatten.drop (i * sz) = ((l.drop i).map f).flatten := by
  have h1 : ((l.take i).map f).flatten.length = i * sz := by rw [flat_len f sz hf]; simp; rw [Nat.min_eq_left hi]
  have h2 : (l.map f).flatten = ((l.take i).map f).flatten ++ ((l.drop i).map f).flatten := by rw [← List.flatten_append, ← List.map_append, List.take_append_drop]
  rw [h2, ← h1]
  simp
theorem flat_set {α : Type} (f : α → List Value) (sz : Nat) (hf : ∀ x, (f x).length = sz) (l : List α) {i : Nat} (hi : i < l.length) (y : α) (junk : List Value) :
    setSeg ((l.map f).flatten ++ junk) (i * sz) (f y) = some (((l.set i y).map f).flatten ++ junk) := by
  have h1 : ((l.take i).map f).flatten.length = i * sz := by rw [flat_len f sz hf]; simp; rw [Nat.min_eq_left (by omega)]
  have h2 : l = l.take i ++ l[i] :: l.drop (i + 1) := by rw [← List.drop_eq_getElem_cons hi, List.take_append_drop]
  have h3 : l.set i y = l.take i ++ y :: l.drop (i + 1) := by rw [List.set_eq_take_append_cons_drop, if_pos hi]
  have e1 : (l.map f).flatten = ((l.take i).map f).flatten ++ (f l[i] ++ ((l.drop (i + 1)).map f).flatten) := by
    have := congrArg (fun l => (l.map f).flatten) h2
    simp only [List.map_append, List.map_cons, List.flatten_append, List.flatten_cons] at this
    exact this
  rw [e1, List.append_assoc, setSeg_app h1 (by simp only [List.length_append, hf]; omega), h3]
  congr 1
  have e2 : (f l[i] ++ (((l.drop (i + 1)).map f).flatten ++ junk)).drop (f y).length = ((l.drop (i + 1)).map f).flatten ++ junk := by
    rw [hf, ← hf l[i], List.drop_left]
  rw [List.append_assoc (f l[i]), e2]
  simp
theorem ixOf_lt {α : Type} {q : α → Bool} {l : List α} (h : 0 ≤ ixOf q l) : ∃ i : Nat, ixOf q l = i ∧ i < l.length := by
  unfold ixOf at h ⊢
  cases hf : l.findIdx? q with
  | none => rw [hf] at h; exact absurd h (by decide)
  | some i => exact ⟨i, rfl, (List.findIdx?_eq_some_iff_getElem.1 hf).1⟩
theorem ixOf_neg {α : Type} {q : α → Bool} {l : List α} (h : ixOf q l < 0) : ixOf q l = -1 := by
  unfold ixOf at h ⊢
  cases hf : l.findIdx? q with
  | none => rfl
  | some i => rw [hf] at h; simp at h; omega
theorem ixOf_map {α β : Type} {q : β → Bool} {g : α → β} {l : List α} : ixOf q (l.map g) = ixOf (fun x => q (g x)) l := by
  unfold ixOf
  rw [List.findIdx?_map]
  rfl
/-- Inodes with one of them. -/
def putI (l : List Ino) (x : Ino) : List Ino :=
  if 0 ≤ ixOf (fun y => decide (y.no = x.no)) l then l.set (ixOf (fun y => decide (y.no = x.no)) l).toNat x
  else if ixOf (fun y => decide (x.no < y.no)) l < 0 then l ++ [x]
  else l.take (ixOf (fun y => decide (x.no < y.no)) l).toNat ++ [x] ++ l.drop (ixOf (fun y => decide (x.no < y.no)) l).toNat
theorem put1_spec (M : Mem) (b : Nat) (d x : InoD) : Spec Tryz.prog 125 [.agg (inoDL d).toArray, ptr b] M [(b, .cells (inoDL x))] (fun v _ H => v = .bool (decide (d.x.no = x.x.no)) ∧ H = [(b, .cells (inoDL x))]) := by
  refine Spec.of_code 9 Tryz.func125 rfl callable125 rfl rfl fun w => ?_
  refine C.region_seq ?_
  refine G.dyn rfl rfl rfl ?_
  refine Dyn.boxAgg rfl ?_
  intro b2
  refine G.value rfl rfl rfl (Sure.assign rfl) ?_
  refine G.nil ?_
  refine C.region_seq ?_
  refine G.value rfl rfl rfl (Sure.fieldAddr rfl) ?_
  refine G.value rfl rfl rfl (Sure.load rfl rdx rfl) ?_
  refine G.value rfl rfl rfl (Sure.fieldAddr rfl) ?_
  refine G.value rfl rfl rfl (Sure.load rfl rdx rfl) ?_
  refine G.value rfl rfl rfl (Sure.eql rfl rfl) ?_
  refine G.value rfl rfl rfl (Sure.assign rfl) ?_
  refine G.nil ?_
  refine C.ret ?_
  exact Fin.fn (Res.tmp rfl rfl) (Split.cons (.there .here) Split.nil) ⟨rfl, rfl⟩
theorem put2_spec (M : Mem) (b : Nat) (d x : InoD) : Spec Tryz.prog 126 [.agg (inoDL d).toArray, ptr b] M [(b, .cells (inoDL x))] (fun v _ H => v = .bool (decide (x.x.no < d.x.no)) ∧ H = [(b, .cells (inoDL x))]) := by
  refine Spec.of_code 9 Tryz.func126 rfl callable126 rfl rfl fun w => ?_
  refine C.region_seq ?_
  refine G.dyn rfl rfl rfl ?_
  refine Dyn.boxAgg rfl ?_
  intro b2
  refine G.value rfl rfl rfl (Sure.assign rfl) ?_
  refine G.nil ?_
  refine C.region_seq ?_
  refine G.value rfl rfl rfl (Sure.fieldAddr rfl) ?_
  refine G.value rfl rfl rfl (Sure.load rfl rdx rfl) ?_
  refine G.value rfl rfl rfl (Sure.fieldAddr rfl) ?_
  refine G.value rfl rfl rfl (Sure.load rfl rdx rfl) ?_
  refine G.value rfl rfl rfl (Sure.gtr rfl rfl) ?_
  refine G.value rfl rfl rfl (Sure.assign rfl) ?_
  refine G.nil ?_
  refine C.ret ?_
  exact Fin.fn (Res.tmp rfl rfl) (Split.cons (.there .here) Split.nil) ⟨rfl, rfl⟩
theorem statePut_spec (M : Mem) (v : Value) (dl : List InoD) (x : InoD) (Hs : Heap) (hown : Own 7 v dl.length (dl.map inoDL).flatten Hs) (hd : ∀ d ∈ dl, DOk M d) (hx : DOk M x) (hk : InoOk x.x) (hl : dl.length ≤ 2000000) :
    Spec Tryz.prog 92 [v, .agg (inoDL x).toArray] M Hs (fun r M' H => OwnI (putI (dl.map InoD.x) x.x) r M' H) := by
  obtain ⟨p, cap, rfl, hsl⟩ := hown.slice
  have hz : ∀ d : InoD, (inoDL d).length = 7 := fun _ => rfl
  refine Spec.of_code 31 Tryz.func92 rfl callable92 rfl rfl fun w => ?_
  refine C.region_seq ?_
  refine G.dyn rfl rfl rfl ?_
  refine Dyn.boxAgg rfl ?_
  intro b3
  refine G.value rfl rfl rfl (Sure.assign rfl) ?_
  refine G.nil ?_
  refine C.region_seq ?_
  refine G.value rfl rfl rfl (Sure.loadAgg rfl rdx rfl) ?_
  refine G.call rfl rfl rfl rfl rfl rfl (own_spec M x hx hk) (Split.nil) ?_
  rintro _ M2 _ le2 ⟨rfl, y, hyx, rfl, hy⟩
  refine G.dyn0 rfl rfl ?_
  refine Dyn.storeAgg rfl rfl pkx rfl rfl rfl ?_
  refine G.nil ?_
  refine C.seq ?_
  refine C.region_seq ?_
  refine G.value rfl rfl rfl (Sure.move rfl) ?_
  refine G.value rfl rfl rfl (Sure.makeFunc rfl) ?_
  refine G.call rfl rfl rfl rfl rfl rfl (indexFunc_spec M2 p cap dl Hs [(b3, .cells (inoDL y))] 125 [ptr b3] (fun d => decide (d.x.no = y.x.no)) (hsl M2) (by omega) (fun d _ M' _ => put1_spec M' b3 d y)) (Split.consL (PickL.there PickL.all) (Split.one PickL.all)) ?_
  rintro _ M3 _ le3 ⟨rfl, rfl⟩
  refine G.value rfl rfl rfl (Sure.assign rfl) ?_
  refine G.nil ?_
  refine C.region_seq ?_
  refine G.value rfl rfl rfl (Sure.move rfl) ?_
  refine G.value rfl rfl rfl (Sure.geq rfl rfl) ?_
  refine G.nil ?_
  have hmap1 : ixOf (fun d : InoD => decide (d.x.no = y.x.no)) dl = ixOf (fun z : Ino => decide (z.no = x.x.no)) (dl.map InoD.x) := by rw [ixOf_map, hyx]
  have hmap2 : ixOf (fun d : InoD => decide (y.x.no < d.x.no)) dl = ixOf (fun z : Ino => decide (x.x.no < z.no)) (dl.map InoD.x) := by rw [ixOf_map, hyx]
  have lea := le2.trans le3
  refine C.cond_dec rfl (fun hge => ?_) (fun hge => ?_)
  · obtain ⟨i, hi, hil⟩ := ixOf_lt hge
    rw [hi]
    obtain ⟨b, junk, rfl, rfl, hc, hjl⟩ : ∃ b junk, p = some ⟨b, 0, Option.none⟩ ∧ Hs = [(b, .cells ((dl.map inoDL).flatten ++ junk))] ∧ dl.length ≤ cap ∧ ((dl.map inoDL).flatten ++ junk).length = cap * 7 := by
      rcases hown.2 with ⟨_, h, _⟩ | ⟨b, c, junk, h, h2, h3, h4⟩
      · omega
      · injection h with e1 e2 e3; subst e3; exact ⟨b, junk, e1, h3, h2, h4⟩
    refine C.region_seq ?_
    refine G.value rfl rfl rfl (Sure.move rfl) ?_
    refine G.value rfl rfl rfl (Sure.move rfl) ?_
    refine G.value rfl rfl rfl (Sure.loadAgg rfl rdx rfl) ?_
    refine G.value rfl rfl rfl (Sure.indexAddr rfl rfl (by omega)) ?_
    refine G.dyn0 rfl rfl ?_
    refine Dyn.storeAgg rfl rfl Pick.here rfl rfl (by rw [show 0 + (i : Int).toNat * 7 = i * 7 from by omega]; exact flat_set inoDL 7 hz dl hil y junk) ?_
    refine G.nil ?_
    refine C.region_seq ?_
    refine G.value rfl rfl rfl (Sure.move rfl) ?_
    refine G.value rfl rfl rfl (Sure.assign rfl) ?_
    refine G.nil ?_
    refine C.ret ?_
    refine Fin.th_ret ?_
    refine Fin.fn (Res.tmp rfl rfl) (Split.cons .here Split.nil) ⟨dl.set i y, ?_, ?_, ?_⟩
    · unfold putI
      rw [← hmap1, hi, if_pos (by omega), List.map_set, hyx]
      rfl
    · intro d hd'
      rcases List.mem_or_eq_of_mem_set hd' with h | h
      · exact (hd d h).mono lea
      · rw [h]; exact hy.mono le3
    · refine ⟨by rw [flat_len inoDL 7 hz], .inr ⟨b, cap, junk, by simp, by simpa using hc, rfl, ?_⟩⟩
      simp only [List.length_append, flat_len inoDL 7 hz, List.length_set] at hjl ⊢
      omega
  · refine C.skip ?_
    refine Fin.th ?_
    refine C.region_seq ?_
    refine G.value rfl rfl rfl (Sure.move rfl) ?_
    refine G.value rfl rfl rfl (Sure.makeFunc rfl) ?_
    rw [ixOf_neg (by omega)]
    refine G.call rfl rfl rfl rfl rfl rfl (indexFunc_spec M3 p cap dl Hs [(b3, .cells (inoDL y))] 126 [ptr b3] (fun d => decide (y.x.no < d.x.no)) (hsl M3) (by omega) (fun d _ M' _ => put2_spec M' b3 d y)) (Split.one PickL.here) ?_
    rintro _ M4 _ le4 ⟨rfl, rfl⟩
    rw [List.append_nil]
    refine G.value rfl rfl rfl (Sure.assign rfl) ?_
    refine G.nil ?_
    refine C.seq ?_
    refine C.region_seq ?_
    refine G.value rfl rfl rfl (Sure.move rfl) ?_
    refine G.value rfl rfl rfl (Sure.lss rfl rfl) ?_
    refine G.nil ?_
    refine C.cond_dec rfl (fun hneg => ?_) (fun hneg => ?_)
    · refine C.region ?_
      refine G.value rfl rfl rfl (Sure.move rfl) ?_
      refine G.value rfl rfl rfl (Sure.len_slice rfl) ?_
      refine G.value rfl rfl rfl (Sure.assign rfl) ?_
      refine G.nil ?_
      refine Fin.th ?_
      refine C.region_seq ?_
      refine G.value rfl rfl rfl (Sure.move rfl) ?_
      refine G.value rfl rfl rfl (Sure.move rfl) ?_
      refine G.value rfl rfl rfl (Sure.loadAgg rfl (show Rd M4 _ b3 (inoDL y) from .inr (by simp)) rfl) ?_
      refine G.dyn rfl rfl rfl ?_
      refine Dyn.buildSlice rfl rfl rfl (by simp [vcl]) (by decide) ?_
      intro b6
      refine G.call rfl rfl rfl rfl rfl rfl (insertIno_spec M4 _ dl.length dl.length _ (inoDL y) Hs b6 hown (by omega) (by omega) rfl (allOne_ino _) (allOne_inos _)) (Split.consL (PickL.there PickL.here) (Split.cons .here Split.nil)) ?_
      rintro r5 M5 H5 le5 hown5
      refine G.value rfl rfl rfl (Sure.assign rfl) ?_
      refine G.nil ?_
      refine C.ret ?_
      refine Fin.fn (Res.tmp rfl rfl) (Split.one PickL.here) ⟨dl.take dl.length ++ [y] ++ dl.drop dl.length, ?_, ?_, ?_⟩
      · unfold putI
        rw [← hmap1, ← hmap2, if_neg (by omega), if_pos hneg]
        simp [hyx]
      · intro d hd'
        have leb := ((lea.trans le4).trans le5)
        rcases List.mem_append.1 hd' with h | h
        · rcases List.mem_append.1 h with h | h
          · exact (hd d (List.mem_of_mem_take h)).mono leb
          · rw [List.mem_singleton.1 h]; exact ((hy.mono le3).mono le4).mono le5
        · exact (hd d (List.mem_of_mem_drop h)).mono leb
      · have hft := flat_take inoDL 7 hz dl (i := dl.length) (by omega)
        rw [hft.1, hft.2] at hown5
        have e1 : ((dl.take dl.length ++ [y] ++ dl.drop dl.length).map inoDL).flatten = ((dl.take dl.length).map inoDL).flatten ++ inoDL y ++ ((dl.drop dl.length).map inoDL).flatten := by simp
        rw [e1, show (dl.take dl.length ++ [y] ++ dl.drop dl.length).length = dl.length + 1 from by simp <;> omega]
        exact hown5
    · obtain ⟨i, hi, hil⟩ := ixOf_lt (Int.not_lt.1 hneg)
      rw [hi]
      refine C.skip ?_
      refine Fin.th ?_
      refine C.region_seq ?_
      refine G.value rfl rfl rfl (Sure.move rfl) ?_
      refine G.value rfl rfl rfl (Sure.move rfl) ?_
      refine G.value rfl rfl rfl (Sure.loadAgg rfl (show Rd M4 _ b3 (inoDL y) from .inr (by simp)) rfl) ?_
      refine G.dyn rfl rfl rfl ?_
      refine Dyn.buildSlice rfl rfl rfl (by simp [vcl]) (by decide) ?_
      intro b6
      refine G.call rfl rfl rfl rfl rfl rfl (insertIno_spec M4 _ dl.length i _ (inoDL y) Hs b6 hown (by omega) (by omega) rfl (allOne_ino _) (allOne_inos _)) (Split.consL (PickL.there PickL.here) (Split.cons .here Split.nil)) ?_
      rintro r5 M5 H5 le5 hown5
      refine G.value rfl rfl rfl (Sure.assign rfl) ?_
      refine G.nil ?_
      refine C.ret ?_
      refine Fin.fn (Res.tmp rfl rfl) (Split.one PickL.here) ⟨dl.take i ++ [y] ++ dl.drop i, ?_, ?_, ?_⟩
      · unfold putI
        rw [← hmap1, ← hmap2, if_neg (by omega), if_neg hneg, hi, Int.toNat_natCast]
        simp [hyx]
      · intro d hd'
        have leb := ((lea.trans le4).trans le5)
        rcases List.mem_append.1 hd' with h | h
        · rcases List.mem_append.1 h with h | h
          · exact (hd d (List.mem_of_mem_take h)).mono leb
          · rw [List.mem_singleton.1 h]; exact ((hy.mono le3).mono le4).mono le5
        · exact (hd d (List.mem_of_mem_drop h)).mono leb
      · have hft := flat_take inoDL 7 hz dl (i := i) (by omega)
        rw [hft.1, hft.2] at hown5
        have e1 : ((dl.take i ++ [y] ++ dl.drop i).map inoDL).flatten = ((dl.take i).map inoDL).flatten ++ inoDL y ++ ((dl.drop i).map inoDL).flatten := by simp
        rw [e1, show (dl.take i ++ [y] ++ dl.drop i).length = dl.length + 1 from by simp <;> omega]
        exact hown5
end Go.Proofs.YtaeeahcokiebdaaGreat

/-
  The walk of the dropping of inodes.
-/
namespace Go.Proofs.YtaeeahcokiebdaaGreat
set_option maxRecDepth 20000

theorem split_at {α : Type} {q : α → Bool} {l : List α} {i : Nat} (h : ixOf q l = i) : ∃ a x b, l = a ++ x :: b ∧ a.length = i ∧ q x = true ∧ ∀ d ∈ a, q d = false := by
  unfold ixOf at h
  cases hf : l.findIdx? q with
  | none => rw [hf] at h; simp at h
  | some k =>
    rw [hf] at h
    have hk : k = i := by have : (k : Int) = i := h; omega
    subst hk
    obtain ⟨hlt, hq, hn⟩ := List.findIdx?_eq_some_iff_getElem.1 hf
    refine ⟨l.take k, l[k], l.drop (k + 1), by rw [← List.drop_eq_getElem_cons hlt, List.take_append_drop], by simp; omega, hq, ?_⟩
    intro d hd
    obtain ⟨j, hj, rfl⟩ := List.getElem_of_mem hd
    have hjk : j < k := by simp at hj; omega
    have := hn j hjk
    rw [List.getElem_take]
    simpa using this
theorem deleteFunc_spec (M : Mem) (v : Value) (dl : List InoD) (Hs Hc : Heap) (f : Nat) (capt : List Value) (q : InoD → Bool) (hown : Own 7 v dl.length (dl.map inoDL).flatten Hs) (hl : dl.length ≤ 2000000)
    (hf : ∀ d ∈ dl, ∀ M', MLe M M' → Spec Tryz.prog f ([.agg (inoDL d).toArray] ++ capt) M' Hc (fun v _ H => v = .bool (q d) ∧ H = Hc)) :
    Spec Tryz.prog 93 [v, .func (.func f) #[] capt.toArray] M (Hs ++ Hc) (fun v _ H => Own 7 v (dl.filter fun d => !q d).length ((dl.filter fun d => !q d).map inoDL).flatten H) := by
  obtain ⟨p, cap, rfl, hsl⟩ := hown.slice
  have hz : ∀ d : InoD, (inoDL d).length = 7 := fun _ => rfl
  refine Spec.of_code 42 Tryz.func93 rfl callable93 rfl rfl fun w => ?_
  refine C.region_seq ?_
  refine G.value rfl rfl rfl (Sure.assign rfl) ?_
  refine G.nil ?_
  refine C.region_seq ?_
  refine G.value rfl rfl rfl (Sure.move rfl) ?_
  refine G.value rfl rfl rfl (Sure.move rfl) ?_
  refine G.call rfl rfl rfl rfl rfl rfl (indexFunc_spec M p cap dl Hs Hc f capt q (hsl M) (by omega) hf) (Split.one PickL.all) ?_
  rintro _ M2 _ le2 ⟨rfl, rfl⟩
  rw [List.append_nil]
  refine G.value rfl rfl rfl (Sure.assign rfl) ?_
  refine G.nil ?_
  refine C.seq ?_
  refine C.region_seq ?_
  refine G.value rfl rfl rfl (Sure.move rfl) ?_
  refine G.value rfl rfl rfl (Sure.eql rfl rfl) ?_
  refine G.nil ?_
  refine C.cond_dec rfl (fun hno => ?_) (fun hno => ?_)
  · refine C.region_seq ?_
    refine G.value rfl rfl rfl (Sure.move rfl) ?_
    refine G.value rfl rfl rfl (Sure.assign rfl) ?_
    refine G.nil ?_
    refine C.ret ?_
    refine Fin.th_ret ?_
    refine Fin.fn (Res.tmp rfl rfl) (Split.one PickL.here) ?_
    have : dl.filter (fun d => !q d) = dl := by
      rw [List.filter_eq_self]
      intro d hd
      unfold ixOf at hno
      cases hf : dl.findIdx? q with
      | none => simpa using List.findIdx?_eq_none_iff.1 hf d hd
      | some k => rw [hf] at hno; simp at hno
    rw [this]
    exact hown
  · obtain ⟨i, hi, hil⟩ := ixOf_lt (q := q) (l := dl) (by
      by_cases h : ixOf q dl < 0
      · exact absurd (ixOf_neg h) hno
      · omega)
    obtain ⟨a, x, b0, rfl, ha, hqx, hqa⟩ := split_at hi
    obtain ⟨b, junk, rfl, rfl, hc, hjl⟩ : ∃ b junk, p = some ⟨b, 0, Option.none⟩ ∧ Hs = [(b, .cells (((a ++ x :: b0).map inoDL).flatten ++ junk))] ∧ (a ++ x :: b0).length ≤ cap ∧ (((a ++ x :: b0).map inoDL).flatten ++ junk).length = cap * 7 := by
      rcases hown.2 with ⟨_, h, _⟩ | ⟨b, c, junk, h, h2, h3, h4⟩
      · omega
      · injection h with e1 e2 e3; subst e3; exact ⟨b, junk, e1, h3, h2, h4⟩
    rw [hi]
    refine C.skip ?_
    refine Fin.th ?_
    refine C.seq ?_
    refine C.region_seq ?_
    refine G.value rfl rfl rfl (Sure.move rfl) ?_
    refine G.value rfl rfl rfl (Sure.add rfl rfl (inK64 (by omega))) ?_
    refine G.value rfl rfl rfl (Sure.assign rfl) ?_
    refine G.nil ?_
    refine C.block ?_
    refine C.loop (fun k E M' H => ∃ (a1 b1 mid : List InoD), MLe M M' ∧ a ++ x :: b0 = a1 ++ b1 ∧ b1.length = k ∧ mid ≠ [] ∧ (a1.filter fun d => !q d).length + mid.length = a1.length ∧ E = [(0, .slice (some ⟨b, 0, Option.none⟩) (a ++ x :: b0).length cap), (1, .func (.func f) #[] capt.toArray), (5, .int .i64 (a1.filter fun d => !q d).length), (6, .int .i64 a1.length)] ∧ H = (b, .cells ((((a1.filter fun d => !q d) ++ mid ++ b1).map inoDL).flatten ++ junk)) :: Hc) (b0.length) ?_ ?_
    · have hfa : a.filter (fun d => !q d) = a := List.filter_eq_self.2 (fun d hd => by simp [hqa d hd])
      have hf1 : (a ++ [x]).filter (fun d => !q d) = a := by rw [List.filter_append, hfa]; simp [hqx]
      refine ⟨_, _, ⟨a ++ [x], b0, [x], le2, by simp, rfl, by simp, by rw [hf1]; simp, rfl, rfl⟩, ⟨rfl, rfl, ?_, ?_, trivial⟩, [], ?_⟩
      · rw [hf1, ha]; rfl
      · show some (Value.int .i64 ((i : Int) + 1)) = some (Value.int .i64 ((a ++ [x]).length : Int))
        rw [← ha]; simp
      · rw [hf1, show a ++ [x] ++ b0 = a ++ x :: b0 from by simp]
        exact Split.cons .here (Split.one PickL.all)
    · rintro k E M' H ⟨a1, b1, mid, hle, hab, hk, hmid, hlen1, rfl, rfl⟩
      have hlen : (a ++ x :: b0).length = a1.length + b1.length := by rw [hab]; simp
      refine C.seq ?_
      refine C.region_seq ?_
      refine G.value rfl rfl rfl (Sure.move rfl) ?_
      refine G.value rfl rfl rfl (Sure.move rfl) ?_
      refine G.value rfl rfl rfl (Sure.len_slice rfl) ?_
      refine G.value rfl rfl rfl (Sure.lss rfl rfl) ?_
      refine G.nil ?_
      refine C.cond_dec rfl (fun hlt => ?_) (fun hlt => ?_)
      · cases b1 with
        | nil => simp at hlen hlt; omega
        | cons y b1 =>
          have hcl : (a1.filter (fun d => !q d) ++ mid ++ y :: b1)[a1.length]? = some y := by
            rw [List.getElem?_append_right (by simp; omega)]
            simp [hlen1]
          have hflt := List.length_filter_le (fun d => !q d) a1
          have hmid1 : 1 ≤ mid.length := by cases mid with | nil => exact absurd rfl hmid | cons _ _ => simp
          have hsl2 : SlL M' ((b, HB.cells (((a1.filter (fun d => !q d) ++ mid ++ y :: b1).map inoDL).flatten ++ junk)) :: Hc) 7 (some ⟨b, 0, Option.none⟩) ((a1.filter (fun d => !q d) ++ mid ++ y :: b1).map inoDL) :=
            ⟨by intro e he; obtain ⟨x, _, rfl⟩ := List.mem_map.1 he; rfl, by rw [flat_len inoDL 7 hz, List.length_map], fun _ => ⟨b, 0, _, rfl, Rd.h0, by unfold seg; rw [List.drop_zero]; exact takeN_append (by rw [flat_len inoDL 7 hz, List.length_map])⟩⟩
          obtain ⟨q', o, c, hpe, hrd, hseg⟩ := SlL.row (i := a1.length) (e := inoDL y) hsl2 (by rw [List.getElem?_map, hcl]; rfl)
          injection hpe with hpe; injection hpe with hq' ho'; subst hq'; subst ho'
          have hym : y ∈ a ++ x :: b0 := by rw [hab]; simp
          refine C.skip ?_
          refine Fin.th ?_
          refine C.seq ?_
          refine C.block ?_
          refine C.region_seq ?_
          refine G.value rfl rfl rfl (Sure.move rfl) ?_
          refine G.value rfl rfl rfl (Sure.move rfl) ?_
          refine G.value rfl rfl rfl (Sure.indexAddr rfl rfl (by omega)) ?_
          refine G.value rfl rfl rfl (Sure.loadAgg rfl hrd hseg) ?_
          refine G.dyn rfl rfl rfl ?_
          refine Dyn.allocAgg ?_
          intro b7
          refine G.dyn0 rfl rfl ?_
          refine Dyn.storeAgg rfl rfl pkx rfl rfl rfl ?_
          refine G.nil ?_
          refine C.region_seq ?_
          refine G.value rfl rfl rfl (Sure.move rfl) ?_
          refine G.value rfl rfl rfl (Sure.loadAgg rfl rdx rfl) ?_
          refine G.call rfl rfl rfl rfl rfl rfl (hf y hym M' hle) (Split.one (PickL.there (PickL.there PickL.all))) ?_
          rintro _ M3 _ le3 ⟨rfl, rfl⟩
          refine G.value rfl rfl rfl (Sure.not rfl) ?_
          refine G.nil ?_
          obtain ⟨m0, mt, rfl⟩ : ∃ m0 mt, mid = m0 :: mt := by
            cases mid with
            | nil => exact absurd rfl hmid
            | cons m0 mt => exact ⟨m0, mt, rfl⟩
          refine C.cond rfl (fun hq => ?_) (fun hq => ?_)
          · have hqy : q y = false := by simpa using hq
            have hfy : (a1 ++ [y]).filter (fun d => !q d) = a1.filter (fun d => !q d) ++ [y] := by rw [List.filter_append]; simp [hqy]
            have hset : ((a1.filter (fun d => !q d)) ++ m0 :: mt ++ y :: b1).set (a1.filter (fun d => !q d)).length y = (a1.filter (fun d => !q d)) ++ [y] ++ (mt ++ [y]) ++ b1 := by
              rw [List.append_assoc, List.set_append_right _ _ (Nat.le_refl _), Nat.sub_self]
              simp
            refine C.region_seq ?_
            refine G.value rfl rfl rfl (Sure.move rfl) ?_
            refine G.value rfl rfl rfl (Sure.move rfl) ?_
            refine G.value rfl rfl rfl (Sure.loadAgg rfl (show Rd M3 _ b7 (inoDL y) from .inr (by simp)) rfl) ?_
            refine G.value rfl rfl rfl (Sure.indexAddr rfl rfl (by omega)) ?_
            refine G.dyn0 rfl rfl ?_
            refine Dyn.storeAgg rfl rfl (Pick.over (.there .here)) rfl rfl (by rw [show 0 + (((a1.filter (fun d => !q d)).length : Nat) : Int).toNat * 7 = (a1.filter (fun d => !q d)).length * 7 from by omega]; exact flat_set inoDL 7 hz _ (by simp only [List.length_append, List.length_cons] at hlen1 ⊢; omega) y junk) ?_
            rw [hset]
            refine G.nil ?_
            refine C.region ?_
            refine G.value rfl rfl rfl (Sure.move rfl) ?_
            refine G.value rfl rfl rfl (Sure.add rfl rfl (inK64 (by omega))) ?_
            refine G.value rfl rfl rfl (Sure.assign rfl) ?_
            refine G.nil ?_
            refine Fin.blk ?_
            refine Fin.th ?_
            refine C.region ?_
            refine G.value rfl rfl rfl (Sure.move rfl) ?_
            refine G.value rfl rfl rfl (Sure.add rfl rfl (inK64 (by omega))) ?_
            refine G.value rfl rfl rfl (Sure.assign rfl) ?_
            refine G.nil ?_
            refine Fin.th ?_
            refine ⟨b1.length, _, _, by simp at hk; omega, ⟨a1 ++ [y], b1, mt ++ [y], hle.trans le3, by rw [hab]; simp, rfl, by simp, by rw [hfy]; simp at hlen1 ⊢; omega, rfl, rfl⟩, ⟨rfl, rfl, ?_, ?_, trivial⟩, [(b7, .cells (inoDL y))], ?_⟩
            · rw [hfy]; simp; rfl
            · simp; rfl
            · rw [hfy]
              exact Split.cons .here (Split.one PickL.here)
          · have hqy : q y = true := by simpa using hq
            have hfy : (a1 ++ [y]).filter (fun d => !q d) = a1.filter (fun d => !q d) := by rw [List.filter_append]; simp [hqy]
            refine C.skip ?_
            refine Fin.blk ?_
            refine Fin.th ?_
            refine C.region ?_
            refine G.value rfl rfl rfl (Sure.move rfl) ?_
            refine G.value rfl rfl rfl (Sure.add rfl rfl (inK64 (by omega))) ?_
            refine G.value rfl rfl rfl (Sure.assign rfl) ?_
            refine G.nil ?_
            refine Fin.th ?_
            refine ⟨b1.length, _, _, by simp at hk; omega, ⟨a1 ++ [y], b1, m0 :: mt ++ [y], hle.trans le3, by rw [hab]; simp, rfl, by simp, by rw [hfy]; simp at hlen1 ⊢; omega, rfl, rfl⟩, ⟨rfl, rfl, ?_, ?_, trivial⟩, [(b7, .cells (inoDL y))], ?_⟩
            · rw [hfy]; rfl
            · simp; rfl
            · rw [hfy, show a1.filter (fun d => !q d) ++ (m0 :: mt ++ [y]) ++ b1 = a1.filter (fun d => !q d) ++ m0 :: mt ++ y :: b1 from by simp]
              exact Split.cons (Pick.over (.there .here)) (Split.one PickL.here)
      · have hb0 : b1 = [] := List.eq_nil_of_length_eq_zero (by omega)
        subst hb0
        simp only [List.append_nil] at hab
        subst hab
        rw [List.append_nil]
        have hmid1 : 1 ≤ mid.length := by cases mid with | nil => exact absurd rfl hmid | cons _ _ => simp
        have hjl2 : (a ++ x :: b0).length * 7 + junk.length = cap * 7 := by rw [← hjl, ← flat_len inoDL 7 hz, ← List.length_append]
        generalize hkept : (a ++ x :: b0).filter (fun d => !q d) = kept at hlen1
        generalize (a ++ x :: b0).length = n at hlen1 hc hlt hjl2
        have hcl : (((kept ++ mid).map inoDL).flatten ++ junk).length = cap * 7 := by
          rw [List.length_append, flat_len inoDL 7 hz, List.length_append]
          omega
        have hkl : (kept.map inoDL).flatten.length = kept.length * 7 := flat_len inoDL 7 hz kept
        refine C.exit ?_
        refine Fin.th_exit ?_
        refine Fin.th_exit ?_
        refine Fin.blk_eq ?_
        refine Fin.th ?_
        refine C.region_seq ?_
        refine G.value rfl rfl rfl (Sure.move rfl) ?_
        refine G.value rfl rfl rfl (Sure.move rfl) ?_
        refine G.value rfl rfl rfl (Sure.slice kept.length n rfl rfl rfl (.inl rfl) (.inr ⟨rfl, rfl⟩) (by omega) (by omega)) ?_
        rw [show subP (some ⟨b, 0, Option.none⟩) cap kept.length 7 = some ⟨b, kept.length * 7, Option.none⟩ from by unfold subP; rw [if_neg (by omega)]; simp [addr_add]]
        refine G.dyn0 rfl rfl ?_
        refine Dyn.clear (sz := 7) rfl (by decide) rfl Pick.here (by rw [hcl]; omega) ?_
        intro cs' hcs1 hcs2
        refine G.nil ?_
        refine C.region_seq ?_
        refine G.value rfl rfl rfl (Sure.move rfl) ?_
        refine G.value rfl rfl rfl (Sure.move rfl) ?_
        refine G.value rfl rfl rfl (Sure.slice 0 kept.length rfl rfl rfl (.inr ⟨rfl, rfl⟩) (.inl rfl) (by omega) (by omega)) ?_
        rw [show subP (some ⟨b, 0, Option.none⟩) cap 0 7 = some ⟨b, 0, Option.none⟩ from by unfold subP; rw [if_neg (by omega)]; simp [addr_add]]
        refine G.value rfl rfl rfl (Sure.assign rfl) ?_
        refine G.nil ?_
        refine C.ret ?_
        have hcs3 : cs' = (kept.map inoDL).flatten ++ cs'.drop (kept.length * 7) := by
          conv => lhs; rw [← List.take_append_drop (kept.length * 7) cs', hcs2]
          congr 1
          rw [List.map_append, List.flatten_append, List.append_assoc, List.take_append_of_le_length (by omega), List.take_of_length_le (by omega)]
        refine Fin.fn (Res.tmp rfl rfl) (Split.cons .here Split.nil) ⟨hkl, .inr ⟨b, cap, cs'.drop (kept.length * 7), rfl, by omega, by rw [← hcs3], by rw [← hcs3, hcs1, hcl]⟩⟩
end Go.Proofs.YtaeeahcokiebdaaGreat

/-
  The walks of bad blocks' numbers.
-/
namespace Go.Proofs.YtaeeahcokiebdaaGreat
set_option maxRecDepth 20000

theorem allOne_ints (l : List Int) : allOne (l.map intV) = true := by
  unfold allOne; rw [List.all_eq_true]; intro v hv; obtain ⟨x, _, rfl⟩ := List.mem_map.1 hv; rfl
theorem index_spec (M : Mem) (p : Option Addr) (cap : Nat) (l : List Int) (x : Int) (Hl : Heap) (hs : Sl M Hl 1 p l.length (l.map intV)) (hl : l.length ≤ 1000000000) :
    Spec Tryz.prog 149 [.slice p l.length cap, intV x] M Hl (fun v _ H => v = .int .i64 (ixOf (fun y => decide (x = y)) l) ∧ H = Hl) := by
  refine Spec.of_code 19 Tryz.func149 rfl callable149 rfl rfl fun w => ?_
  refine C.region_seq ?_
  refine G.value rfl rfl rfl (Sure.assign rfl) ?_
  refine G.nil ?_
  refine C.seq ?_
  refine C.region_seq ?_
  refine G.value rfl rfl rfl (Sure.move rfl) ?_
  refine G.value rfl rfl rfl (Sure.len_slice rfl) ?_
  refine G.value rfl rfl rfl (Sure.move rfl) ?_
  refine G.nil ?_
  refine C.block ?_
  refine C.loop (fun k E M' H => ∃ (a b : List Int), MLe M M' ∧ l = a ++ b ∧ b.length = k ∧ (∀ d ∈ a, decide (x = d) = false) ∧ E = [(0, .slice p l.length cap), (1, intV x), (7, .int .i64 l.length), (8, .int .i64 a.length)] ∧ H = Hl) (l.length) ?_ ?_
  · exact ⟨_, _, ⟨[], l, MLe.refl _, rfl, rfl, by simp, rfl, rfl⟩, ⟨rfl, rfl, rfl, rfl, trivial⟩, [], Split.one PickL.all⟩
  · rintro k E M' H ⟨a, b, hle, rfl, hk', hq, rfl, rfl⟩
    have hlen : (a ++ b).length = a.length + b.length := by simp
    refine C.region_seq ?_
    refine G.value rfl rfl rfl (Sure.lss rfl rfl) ?_
    refine G.nil ?_
    refine C.seq ?_
    refine C.cond_dec rfl (fun hlt => ?_) (fun hlt => ?_)
    · cases b with
      | nil => simp at hlt
      | cons y b =>
        obtain ⟨q', o, c, rfl, hrd, hcell⟩ := Sl.cell (i := a.length) (v := intV y) (hs.mono hle) (by simp)
        refine C.skip ?_
        refine Fin.th ?_
        refine C.seq ?_
        refine C.block ?_
        refine C.region_seq ?_
        refine G.value rfl rfl rfl (Sure.move rfl) ?_
        refine G.value rfl rfl rfl (Sure.assign rfl) ?_
        refine G.nil ?_
        refine C.region_seq ?_
        refine G.value rfl rfl rfl (Sure.move rfl) ?_
        refine G.value rfl rfl rfl (Sure.move rfl) ?_
        refine G.value rfl rfl rfl (Sure.move rfl) ?_
        refine G.value rfl rfl rfl (Sure.indexAddr rfl rfl (by simp; omega)) ?_
        refine G.value rfl rfl rfl (Sure.load rfl hrd hcell) ?_
        refine G.value rfl rfl rfl (Sure.eql rfl rfl) ?_
        refine G.nil ?_
        refine C.cond_dec rfl (fun hc => ?_) (fun hc => ?_)
        · refine C.region_seq ?_
          refine G.value rfl rfl rfl (Sure.move rfl) ?_
          refine G.value rfl rfl rfl (Sure.assign rfl) ?_
          refine G.nil ?_
          refine C.ret ?_
          refine Fin.blk_ret ?_
          refine Fin.th_ret ?_
          refine Fin.th_ret ?_
          refine Fin.blk_ret ?_
          refine Fin.th_ret ?_
          refine Fin.fn (Res.tmp rfl rfl) (Split.one PickL.all) ⟨?_, rfl⟩
          rw [ixOf_at hq (decide_eq_true hc)]
        · refine C.skip ?_
          refine Fin.blk ?_
          refine Fin.th ?_
          refine C.region ?_
          refine G.value rfl rfl rfl (Sure.add rfl rfl (inK64 (by omega))) ?_
          refine G.value rfl rfl rfl (Sure.move rfl) ?_
          refine G.nil ?_
          refine Fin.th ?_
          refine ⟨b.length, _, _, by simp at hk'; omega, ⟨a ++ [y], b, hle, by simp, rfl, ?_, rfl, rfl⟩, ⟨rfl, rfl, rfl, by simp; rfl, trivial⟩, [], Split.one PickL.all⟩
          intro d hd
          rcases List.mem_append.1 hd with h | h
          · exact hq d h
          · rw [List.mem_singleton.1 h]; exact decide_eq_false hc
    · have hb0 : b = [] := List.eq_nil_of_length_eq_zero (by omega)
      subst hb0
      simp only [List.append_nil]
      refine C.exit ?_
      refine Fin.th_exit ?_
      refine Fin.th_exit ?_
      refine Fin.blk_eq ?_
      refine Fin.th ?_
      refine C.region_seq ?_
      refine G.value rfl rfl rfl (Sure.assign rfl) ?_
      refine G.nil ?_
      refine C.ret ?_
      refine Fin.fn (Res.tmp rfl rfl) (Split.one PickL.all) ⟨?_, rfl⟩
      rw [ixOf_none hq]
theorem contains_spec (M : Mem) (p : Option Addr) (cap : Nat) (l : List Int) (x : Int) (Hl : Heap) (hs : Sl M Hl 1 p l.length (l.map intV)) (hl : l.length ≤ 1000000000) :
    Spec Tryz.prog 128 [.slice p l.length cap, intV x] M Hl (fun v _ H => v = .bool (decide (0 ≤ ixOf (fun y => decide (x = y)) l)) ∧ H = Hl) := by
  refine Spec.of_code 9 Tryz.func128 rfl callable128 rfl rfl fun w => ?_
  refine C.region_seq ?_
  refine G.value rfl rfl rfl (Sure.assign rfl) ?_
  refine G.nil ?_
  refine C.region_seq ?_
  refine G.value rfl rfl rfl (Sure.move rfl) ?_
  refine G.value rfl rfl rfl (Sure.move rfl) ?_
  refine G.call rfl rfl rfl rfl rfl rfl (index_spec M p cap l x Hl hs hl) (Split.one PickL.all) ?_
  rintro _ M1 _ le1 ⟨rfl, rfl⟩
  refine G.value rfl rfl rfl (Sure.geq rfl rfl) ?_
  refine G.value rfl rfl rfl (Sure.assign rfl) ?_
  refine G.nil ?_
  refine C.ret ?_
  exact Fin.fn (Res.tmp rfl rfl) (Split.one PickL.here) ⟨rfl, rfl⟩
theorem indexFuncInt_spec (M : Mem) (p : Option Addr) (cap : Nat) (l : List Int) (Hl Hc : Heap) (f : Nat) (capt : List Value) (q : Int → Bool) (hs : Sl M Hl 1 p l.length (l.map intV)) (hl : l.length ≤ 1000000000)
    (hf : ∀ d ∈ l, ∀ M', MLe M M' → Spec Tryz.prog f ([intV d] ++ capt) M' Hc (fun v _ H => v = .bool (q d) ∧ H = Hc)) :
    Spec Tryz.prog 129 [.slice p l.length cap, .func (.func f) #[] capt.toArray] M (Hl ++ Hc) (fun v _ H => v = .int .i64 (ixOf q l) ∧ H = Hl ++ Hc) := by
  refine Spec.of_code 19 Tryz.func129 rfl callable129 rfl rfl fun w => ?_
  refine C.region_seq ?_
  refine G.value rfl rfl rfl (Sure.assign rfl) ?_
  refine G.nil ?_
  refine C.seq ?_
  refine C.region_seq ?_
  refine G.value rfl rfl rfl (Sure.move rfl) ?_
  refine G.value rfl rfl rfl (Sure.len_slice rfl) ?_
  refine G.value rfl rfl rfl (Sure.move rfl) ?_
  refine G.nil ?_
  refine C.block ?_
  refine C.loop (fun k E M' H => ∃ (a b : List Int), MLe M M' ∧ l = a ++ b ∧ b.length = k ∧ (∀ d ∈ a, q d = false) ∧ E = [(0, .slice p l.length cap), (1, .func (.func f) #[] capt.toArray), (7, .int .i64 l.length), (8, .int .i64 a.length)] ∧ H = Hl ++ Hc) (l.length) ?_ ?_
  · exact ⟨_, _, ⟨[], l, MLe.refl _, rfl, rfl, by simp, rfl, rfl⟩, ⟨rfl, rfl, rfl, rfl, trivial⟩, [], Split.one PickL.all⟩
  · rintro k E M' H ⟨a, b, hle, rfl, hk', hq, rfl, rfl⟩
    have hlen : (a ++ b).length = a.length + b.length := by simp
    refine C.region_seq ?_
    refine G.value rfl rfl rfl (Sure.lss rfl rfl) ?_
    refine G.nil ?_
    refine C.seq ?_
    refine C.cond_dec rfl (fun hlt => ?_) (fun hlt => ?_)
    · cases b with
      | nil => simp at hlt
      | cons x b =>
        obtain ⟨q', o, c, rfl, hrd, hcell⟩ := Sl.cell (i := a.length) (v := intV x) ((hs.mono hle).incl (H' := Hl ++ Hc) (fun p hp => by simp [hp])) (by simp)
        refine C.skip ?_
        refine Fin.th ?_
        refine C.seq ?_
        refine C.block ?_
        refine C.region_seq ?_
        refine G.value rfl rfl rfl (Sure.move rfl) ?_
        refine G.value rfl rfl rfl (Sure.assign rfl) ?_
        refine G.nil ?_
        refine C.region_seq ?_
        refine G.value rfl rfl rfl (Sure.move rfl) ?_
        refine G.value rfl rfl rfl (Sure.move rfl) ?_
        refine G.value rfl rfl rfl (Sure.move rfl) ?_
        refine G.value rfl rfl rfl (Sure.indexAddr rfl rfl (by simp; omega)) ?_
        refine G.value rfl rfl rfl (Sure.load rfl hrd hcell) ?_
        refine G.call rfl rfl rfl rfl rfl rfl (hf x (by simp) M' hle) (Split.one (PickL.over PickL.all)) ?_
        rintro _ M2 H2 le2 ⟨rfl, rfl⟩
        refine G.nil ?_
        refine C.cond rfl (fun hc => ?_) (fun hc => ?_)
        · refine C.region_seq ?_
          refine G.value rfl rfl rfl (Sure.move rfl) ?_
          refine G.value rfl rfl rfl (Sure.assign rfl) ?_
          refine G.nil ?_
          refine C.ret ?_
          refine Fin.blk_ret ?_
          refine Fin.th_ret ?_
          refine Fin.th_ret ?_
          refine Fin.blk_ret ?_
          refine Fin.th_ret ?_
          refine Fin.fn (Res.tmp rfl rfl) (Split.consL (PickL.over PickL.here) (Split.one PickL.here)) ⟨?_, rfl⟩
          rw [ixOf_at hq hc]
        · refine C.skip ?_
          refine Fin.blk ?_
          refine Fin.th ?_
          refine C.region ?_
          refine G.value rfl rfl rfl (Sure.add rfl rfl (inK64 (by omega))) ?_
          refine G.value rfl rfl rfl (Sure.move rfl) ?_
          refine G.nil ?_
          refine Fin.th ?_
          refine ⟨b.length, _, _, by simp at hk'; omega, ⟨a ++ [x], b, hle.trans le2, by simp, rfl, ?_, rfl, rfl⟩, ⟨rfl, rfl, rfl, by simp; rfl, trivial⟩, _, Split.consL (PickL.over PickL.here) (Split.one PickL.here)⟩
          intro d hd
          rcases List.mem_append.1 hd with h | h
          · exact hq d h
          · rw [List.mem_singleton.1 h]; exact hc
    · have hb0 : b = [] := List.eq_nil_of_length_eq_zero (by omega)
      subst hb0
      simp only [List.append_nil]
      refine C.exit ?_
      refine Fin.th_exit ?_
      refine Fin.th_exit ?_
      refine Fin.blk_eq ?_
      refine Fin.th ?_
      refine C.region_seq ?_
      refine G.value rfl rfl rfl (Sure.assign rfl) ?_
      refine G.nil ?_
      refine C.ret ?_
      refine Fin.fn (Res.tmp rfl rfl) (Split.one PickL.all) ⟨?_, rfl⟩
      rw [ixOf_none hq]
theorem bad1_spec (M : Mem) (b : Nat) (d x : Int) : Spec Tryz.prog 130 [intV d, ptr b] M [(b, .cells [intV x])] (fun v _ H => v = .bool (decide (x < d)) ∧ H = [(b, .cells [intV x])]) := by
  refine Spec.of_code 7 Tryz.func130 rfl callable130 rfl rfl fun w => ?_
  refine C.region_seq ?_
  refine G.value rfl rfl rfl (Sure.assign rfl) ?_
  refine G.nil ?_
  refine C.region_seq ?_
  refine G.value rfl rfl rfl (Sure.move rfl) ?_
  refine G.value rfl rfl rfl (Sure.load rfl rdx rfl) ?_
  refine G.value rfl rfl rfl (Sure.gtr rfl rfl) ?_
  refine G.value rfl rfl rfl (Sure.assign rfl) ?_
  refine G.nil ?_
  refine C.ret ?_
  exact Fin.fn (Res.tmp rfl rfl) (Split.cons .here Split.nil) ⟨rfl, rfl⟩
/-- Numbers with one of them, once. -/
def badI (l : List Int) (x : Int) : List Int :=
  if 0 ≤ ixOf (fun y => decide (x = y)) l then l
  else if ixOf (fun y => decide (x < y)) l < 0 then l ++ [x]
  else l.take (ixOf (fun y => decide (x < y)) l).toNat ++ [x] ++ l.drop (ixOf (fun y => decide (x < y)) l).toNat
theorem bad_spec (M : Mem) (v : Value) (l : List Int) (x : Int) (Hs : Heap) (hown : Own 1 v l.length (l.map intV) Hs) (hl : l.length ≤ 2000000) :
    Spec Tryz.prog 95 [v, intV x] M Hs (fun r M' H => Own 1 r (badI l x).length ((badI l x).map intV) H) := by
  obtain ⟨p, cap, rfl, hsl⟩ := hown.slice
  refine Spec.of_code 22 Tryz.func95 rfl callable95 rfl rfl fun w => ?_
  refine C.region_seq ?_
  refine G.dyn rfl rfl rfl ?_
  refine Dyn.box rfl rfl ?_
  intro b3
  refine G.value rfl rfl rfl (Sure.assign rfl) ?_
  refine G.nil ?_
  refine C.seq ?_
  refine C.region_seq ?_
  refine G.value rfl rfl rfl (Sure.move rfl) ?_
  refine G.value rfl rfl rfl (Sure.load rfl rdx rfl) ?_
  refine G.call rfl rfl rfl rfl rfl rfl (contains_spec M p cap l x Hs (hsl M) (by omega)) (Split.one (PickL.there PickL.all)) ?_
  rintro _ M2 Hs le2 ⟨rfl, rfl⟩
  refine G.nil ?_
  refine C.cond_dec rfl (fun hin => ?_) (fun hin => ?_)
  · refine C.region_seq ?_
    refine G.value rfl rfl rfl (Sure.move rfl) ?_
    refine G.value rfl rfl rfl (Sure.assign rfl) ?_
    refine G.nil ?_
    refine C.ret ?_
    refine Fin.th_ret ?_
    refine Fin.fn (Res.tmp rfl rfl) (Split.one PickL.here) ?_
    unfold badI
    rw [if_pos hin]
    exact hown
  · refine C.skip ?_
    refine Fin.th ?_
    refine C.region_seq ?_
    refine G.value rfl rfl rfl (Sure.move rfl) ?_
    refine G.value rfl rfl rfl (Sure.makeFunc rfl) ?_
    refine G.call rfl rfl rfl rfl rfl rfl (indexFuncInt_spec M2 p cap l Hs [(b3, .cells [intV x])] 130 [ptr b3] (fun d => decide (x < d)) (hsl M2) (by omega) (fun d _ M' _ => bad1_spec M' b3 d x)) (Split.one PickL.all) ?_
    rintro _ M3 _ le3 ⟨rfl, rfl⟩
    rw [List.append_nil]
    refine G.value rfl rfl rfl (Sure.assign rfl) ?_
    refine G.nil ?_
    refine C.seq ?_
    refine C.region_seq ?_
    refine G.value rfl rfl rfl (Sure.move rfl) ?_
    refine G.value rfl rfl rfl (Sure.lss rfl rfl) ?_
    refine G.nil ?_
    refine C.cond_dec rfl (fun hneg => ?_) (fun hneg => ?_)
    · refine C.region ?_
      refine G.value rfl rfl rfl (Sure.move rfl) ?_
      refine G.value rfl rfl rfl (Sure.len_slice rfl) ?_
      refine G.value rfl rfl rfl (Sure.assign rfl) ?_
      refine G.nil ?_
      refine Fin.th ?_
      refine C.region_seq ?_
      refine G.value rfl rfl rfl (Sure.move rfl) ?_
      refine G.value rfl rfl rfl (Sure.move rfl) ?_
      refine G.value rfl rfl rfl (Sure.load rfl (show Rd M3 _ b3 [intV x] from .inr (by simp)) rfl) ?_
      refine G.dyn rfl rfl rfl ?_
      refine Dyn.buildSlice rfl rfl rfl (by simp [vcl]) (by decide) ?_
      intro b6
      refine G.call rfl rfl rfl rfl rfl rfl (insertInt_spec M3 _ l.length l.length _ [intV x] Hs b6 hown (by omega) (by omega) rfl rfl (allOne_ints _)) (Split.consL (PickL.there PickL.here) (Split.cons .here Split.nil)) ?_
      rintro r5 M5 H5 le5 hown5
      refine G.value rfl rfl rfl (Sure.assign rfl) ?_
      refine G.nil ?_
      refine C.ret ?_
      refine Fin.fn (Res.tmp rfl rfl) (Split.one PickL.here) ?_
      unfold badI
      rw [if_neg hin, if_pos hneg]
      rw [Nat.mul_one, ← List.map_take, ← List.map_drop, List.take_length, List.drop_length] at hown5
      simpa using hown5
    · obtain ⟨i, hi, hil⟩ := ixOf_lt (Int.not_lt.1 hneg)
      rw [hi]
      refine C.skip ?_
      refine Fin.th ?_
      refine C.region_seq ?_
      refine G.value rfl rfl rfl (Sure.move rfl) ?_
      refine G.value rfl rfl rfl (Sure.move rfl) ?_
      refine G.value rfl rfl rfl (Sure.load rfl (show Rd M3 _ b3 [intV x] from .inr (by simp)) rfl) ?_
      refine G.dyn rfl rfl rfl ?_
      refine Dyn.buildSlice rfl rfl rfl (by simp [vcl]) (by decide) ?_
      intro b6
      refine G.call rfl rfl rfl rfl rfl rfl (insertInt_spec M3 _ l.length i _ [intV x] Hs b6 hown (by omega) (by omega) rfl rfl (allOne_ints _)) (Split.consL (PickL.there PickL.here) (Split.cons .here Split.nil)) ?_
      rintro r5 M5 H5 le5 hown5
      refine G.value rfl rfl rfl (Sure.assign rfl) ?_
      refine G.nil ?_
      refine C.ret ?_
      refine Fin.fn (Res.tmp rfl rfl) (Split.one PickL.here) ?_
      unfold badI
      rw [if_neg hin, if_neg hneg, hi, Int.toNat_natCast]
      rw [Nat.mul_one, ← List.map_take, ← List.map_drop] at hown5
      have e1 : (l.take i ++ [x] ++ l.drop i).map intV = (l.take i).map intV ++ [intV x] ++ (l.drop i).map intV := by simp
      rw [e1, show (l.take i ++ [x] ++ l.drop i).length = l.length + 1 from by simp; omega]
      exact hown5
end Go.Proofs.YtaeeahcokiebdaaGreat

/-
  The walk of a state behind deeds.
-/
namespace Go.Proofs.YtaeeahcokiebdaaGreat
set_option maxRecDepth 20000

/-- A state behind one deed, and behind some. -/
def apply1 (s : Sta) (d : Deed) : Sta :=
  if d.kind = 1 then { s with next := d.no }
  else if d.kind = 2 then { s with inos := putI s.inos d.ino }
  else if d.kind = 3 then { s with inos := s.inos.filter fun x => !decide (x.no = d.no) }
  else if d.kind = 4 then { s with bad := badI s.bad d.no }
  else s
def applyL (s : Sta) (l : List Deed) : Sta := l.foldl apply1 s
theorem applyL_snoc (s : Sta) (l : List Deed) (d : Deed) : applyL s (l ++ [d]) = apply1 (applyL s l) d := by simp [applyL]
theorem putI_len (l : List Ino) (x : Ino) : (putI l x).length ≤ l.length + 1 := by
  unfold putI; split
  · simp
  · split <;> simp <;> omega
theorem badI_len (l : List Int) (x : Int) : (badI l x).length ≤ l.length + 1 := by
  unfold badI; split
  · omega
  · split <;> simp <;> omega
theorem apply1_spec_del (M : Mem) (b : Nat) (d : InoD) (x : DeedD) : Spec Tryz.prog 94 [.agg (inoDL d).toArray, ptr b] M [(b, .cells (deedDL x))] (fun v _ H => v = .bool (decide (d.x.no = x.no)) ∧ H = [(b, .cells (deedDL x))]) := by
  refine Spec.of_code 9 Tryz.func94 rfl callable94 rfl rfl fun w => ?_
  refine C.region_seq ?_
  refine G.dyn rfl rfl rfl ?_
  refine Dyn.boxAgg rfl ?_
  intro b2
  refine G.value rfl rfl rfl (Sure.assign rfl) ?_
  refine G.nil ?_
  refine C.region_seq ?_
  refine G.value rfl rfl rfl (Sure.fieldAddr rfl) ?_
  refine G.value rfl rfl rfl (Sure.load rfl rdx rfl) ?_
  refine G.value rfl rfl rfl (Sure.fieldAddr rfl) ?_
  refine G.value rfl rfl rfl (Sure.load rfl rdx rfl) ?_
  refine G.value rfl rfl rfl (Sure.eql rfl rfl) ?_
  refine G.value rfl rfl rfl (Sure.assign rfl) ?_
  refine G.nil ?_
  refine C.ret ?_
  exact Fin.fn (Res.tmp rfl rfl) (Split.cons (.there .here) Split.nil) ⟨rfl, rfl⟩
/-- What a function that makes a state hands back. -/
def RetSta (s : Sta) (v : Value) (M : Mem) (H : Heap) : Prop := H = [] ∧ ∃ sd : StaD, sd.v = s ∧ v = .agg (staDL sd).toArray ∧ SOk M sd
theorem apply_spec (M : Mem) (s : StaD) (p : Option Addr) (cap : Nat) (dl : List DeedD) (hs : SOk M s) (hk : StaOk s.v) (hd : RDeeds M p dl) (hdk : ∀ d ∈ dl, InoOk d.d.x) (hl : dl.length ≤ 100000) :
    Spec Tryz.prog 53 [.agg (staDL s).toArray, .slice p dl.length cap] M [] (fun v M' H => RetSta (applyL s.v (dl.map DeedD.v)) v M' H) := by
  have hk1 : s.inos.length ≤ 1000000 := by simpa [StaD.v] using hk.1
  have hk2 : s.bad.length ≤ 1000000 := hk.2.1
  have hk3 : ∀ d ∈ s.inos, InoOk d.x := fun d hd => hk.2.2 d.x (by simpa [StaD.v] using ⟨d, hd, rfl⟩)
  refine Spec.of_code 53 Tryz.func53 rfl callable53 rfl rfl fun w => ?_
  refine C.region_seq ?_
  refine G.dyn rfl rfl rfl ?_
  refine Dyn.boxAgg rfl ?_
  intro b2
  refine G.dyn rfl rfl rfl ?_
  refine Dyn.allocAgg ?_
  intro b4
  refine G.nil ?_
  -- draws its order
  refine C.draw_seq (_) mixed (by kernel_rfl) (Incl.refl _) ?_
  refine GD.val 0 rfl rfl rfl rfl (by kernel_rfl) rfl (Sure.fieldAddr rfl) ?_
  refine GD.val 1 rfl rfl rfl rfl (by kernel_rfl) rfl (Sure.load rfl rdx rfl) ?_
  refine GD.val 3 rfl rfl rfl rfl (by kernel_rfl) rfl (Sure.fieldAddr rfl) ?_
  refine GD.val 4 rfl rfl rfl rfl (by kernel_rfl) rfl (Sure.load rfl rdx rfl) ?_
  refine GD.one 2 (by kernel_rfl) rfl rfl (by kernel_rfl) ?_
  refine Next.call 2 rfl rfl rfl (by kernel_rfl) (by kernel_rfl) rfl rfl rfl rfl (copied_spec M s.pi s.ci s.inos hs.1 (by omega) hk3) (Split.nil) ?_
  rintro v1 M2 Hi le2 ⟨di, hdi, hok, hI⟩
  refine ⟨(by intro p hp; simp_all), ?_⟩
  refine GD.val 6 rfl rfl rfl rfl (by kernel_rfl) rfl (Sure.fieldAddr rfl) ?_
  refine GD.one 5 (by kernel_rfl) rfl rfl (by kernel_rfl) ?_
  refine Next.call 5 rfl rfl rfl (by kernel_rfl) (by kernel_rfl) rfl rfl rfl rfl (cloneInts_spec M2 s.pb s.cb s.bad.length _ (hs.2.mono le2) (allOne_ints _) (by omega)) (Split.nil) ?_
  rintro v2 M3 Hb le3 hB
  refine ⟨(by intro p hp; simp_all), ?_⟩
  obtain ⟨pi, ci, rfl, -⟩ := hI.slice
  obtain ⟨pb, cb, rfl, -⟩ := hB.slice
  refine GD.one 7 (by kernel_rfl) rfl rfl (by kernel_rfl) ?_
  refine Next.dyn0W 7 rfl rfl (by kernel_rfl) (by kernel_rfl) rfl (by kernel_rfl) ?_
  refine Dyn.store rfl rfl (Pick.over (Pick.over (.there .here))) rfl rfl ?_
  refine ⟨MLe.refl _, [], Incl.nil _, ?_⟩
  refine GD.val 8 rfl rfl rfl rfl (by kernel_rfl) rfl (Sure.fieldAddr rfl) ?_
  refine GD.one 9 (by kernel_rfl) rfl rfl (by kernel_rfl) ?_
  refine Next.dyn0W 9 rfl rfl (by kernel_rfl) (by kernel_rfl) rfl (by kernel_rfl) ?_
  refine Dyn.store rfl rfl Pick.here rfl rfl ?_
  refine ⟨MLe.refl _, [], Incl.nil _, ?_⟩
  refine GD.done (by kernel_rfl) (by kernel_rfl) ?_
  refine C.seq ?_
  refine C.region_seq ?_
  refine G.value rfl rfl rfl (Sure.move rfl) ?_
  refine G.value rfl rfl rfl (Sure.len_slice rfl) ?_
  refine G.value rfl rfl rfl (Sure.move rfl) ?_
  refine G.nil ?_
  refine C.block ?_
  refine C.loop (fun k E M' H => ∃ (a b : List DeedD) (st : Sta) (di : List InoD) (pi pb : Option Addr) (ci cb : Nat) (Hi Hb : Heap), MLe M M' ∧ dl = a ++ b ∧ b.length = k ∧ applyL s.v (a.map DeedD.v) = st ∧ di.map InoD.x = st.inos ∧ (∀ d ∈ di, DOk M' d) ∧ Own 7 (.slice pi di.length ci) di.length (di.map inoDL).flatten Hi ∧ Own 1 (.slice pb st.bad.length cb) st.bad.length (st.bad.map intV) Hb ∧ di.length ≤ s.inos.length + a.length ∧ st.bad.length ≤ s.bad.length + a.length ∧ E = [(2, ptr b2), (4, ptr b4), (15, .slice p dl.length cap), (16, .int .i64 dl.length), (17, .int .i64 a.length)] ∧ H = (b2, .cells [intV st.next, .slice pi di.length ci, .slice pb st.bad.length cb]) :: (b4, .cells [intV 0, .slice Option.none 0 0, .slice Option.none 0 0]) :: (Hi ++ Hb)) (dl.length) ?_ ?_
  · exact ⟨_, _, ⟨[], dl, s.v, di, pi, pb, ci, cb, Hi, Hb, le2.trans le3, rfl, rfl, rfl, hdi, fun d hd => (hok d hd).mono le3, hI, hB, by have := congrArg List.length hdi; simp at this; simp; omega, Nat.le_refl _, rfl, rfl⟩, ⟨rfl, rfl, rfl, rfl, rfl, trivial⟩, _, Split.cons .here (Split.cons (Pick.over (Pick.over .here)) (Split.consL (PickL.over PickL.here) (Split.one PickL.here)))⟩
  · clear hdi hok hI hB le2 le3
    rintro k E M' H ⟨a, b, st, di, pi, pb, ci, cb, Hi, Hb, hle, rfl, hk', hst, hdi, hok, hI, hB, hl1, hl2, rfl, rfl⟩
    have hlen : (a ++ b).length = a.length + b.length := by simp
    refine C.region_seq ?_
    refine G.value rfl rfl rfl (Sure.lss rfl rfl) ?_
    refine G.nil ?_
    refine C.seq ?_
    refine C.cond_dec rfl (fun hlt => ?_) (fun hlt => ?_)
    · cases b with
      | nil => simp at hlt
      | cons x b =>
        obtain ⟨q', o, c, rfl, hrd, hseg⟩ := SlL.row (i := a.length) (e := deedDL x) (SlL.heap (H := (b2, .cells [intV st.next, .slice pi di.length ci, .slice pb st.bad.length cb]) :: (b4, .cells [intV 0, .slice Option.none 0 0, .slice Option.none 0 0]) :: (Hi ++ Hb)) (hd.1.mono hle)) (by simp)
        have hdx : DOk M' x.d := (hd.2 x (by simp)).mono hle
        refine C.skip ?_
        refine Fin.th ?_
        refine C.seq ?_
        refine C.block ?_
        refine C.region_seq ?_
        refine G.value rfl rfl rfl (Sure.indexAddr rfl rfl (by simp; omega)) ?_
        refine G.value rfl rfl rfl (Sure.loadAgg rfl hrd hseg) ?_
        refine G.dyn rfl rfl rfl ?_
        refine Dyn.allocAgg ?_
        intro b6
        refine G.dyn0 rfl rfl ?_
        refine Dyn.storeAgg rfl rfl pkx rfl rfl rfl ?_
        refine G.nil ?_
        refine C.region_seq ?_
        refine G.value rfl rfl rfl (Sure.fieldAddr rfl) ?_
        refine G.value rfl rfl rfl (Sure.load rfl rdx rfl) ?_
        refine G.nil ?_
        refine C.block ?_
        refine C.region_seq ?_
        refine G.value rfl rfl rfl (Sure.eql rfl rfl) ?_
        refine G.value rfl rfl rfl (Sure.assign rfl) ?_
        refine G.nil ?_
        refine C.cond_dec rfl (fun h1 => ?_) (fun h1 => ?_)
        · have h1 : x.kind = 1 := h1
          refine C.region ?_
          refine G.value rfl rfl rfl (Sure.fieldAddr rfl) ?_
          refine G.value rfl rfl rfl (Sure.load rfl rdx rfl) ?_
          refine G.value rfl rfl rfl (Sure.fieldAddr rfl) ?_
          refine G.dyn0 rfl rfl ?_
          refine Dyn.store rfl rfl pkx rfl rfl ?_
          refine G.nil ?_
          refine Fin.blk ?_
          refine Fin.blk ?_
          refine Fin.th ?_
          refine C.region ?_
          refine G.value rfl rfl rfl (Sure.add rfl rfl (inK64 (by omega))) ?_
          refine G.value rfl rfl rfl (Sure.move rfl) ?_
          refine G.nil ?_
          refine Fin.th ?_
          have hap : applyL s.v ((a ++ [x]).map DeedD.v) = { st with next := x.no } := by
            rw [List.map_append, List.map_cons, List.map_nil, applyL_snoc, hst]
            simp [apply1, DeedD.v, h1]
          refine ⟨b.length, _, _, by simp at hk'; omega, ⟨a ++ [x], b, { st with next := x.no }, di, pi, pb, ci, cb, Hi, Hb, hle, by simp, rfl, hap, hdi, hok, hI, hB, by simp; omega, by simp; omega, rfl, rfl⟩, ⟨rfl, rfl, rfl, rfl, by simp; rfl, trivial⟩, _, Split.cons .here (Split.cons (.there .here) (Split.one (PickL.there PickL.all)))⟩
        · have h1 : ¬ x.kind = 1 := h1
          refine C.region_seq ?_
          refine G.value rfl rfl rfl (Sure.eql rfl rfl) ?_
          refine G.value rfl rfl rfl (Sure.assign rfl) ?_
          refine G.nil ?_
          refine C.cond_dec rfl (fun h2 => ?_) (fun h2 => ?_)
          · have h2 : x.kind = 2 := h2
            refine C.region ?_
            refine G.value rfl rfl rfl (Sure.fieldAddr rfl) ?_
            refine G.value rfl rfl rfl (Sure.load rfl rdx rfl) ?_
            refine G.value rfl rfl rfl (Sure.fieldAddr rfl) ?_
            refine G.value rfl rfl rfl (Sure.loadAgg rfl rdx rfl) ?_
            refine G.call rfl rfl rfl rfl rfl rfl (statePut_spec M' _ di x.d Hi hI hok hdx (hdk x (by simp)) (by omega)) (Split.one (PickL.there (PickL.there (PickL.there PickL.here)))) ?_
            rintro v5 M5 H5 le5 ⟨di5, hdi5, hok5, hI5⟩
            obtain ⟨p5, c5, rfl, -⟩ := hI5.slice
            refine G.value rfl rfl rfl (Sure.fieldAddr rfl) ?_
            refine G.dyn0 rfl rfl ?_
            refine Dyn.store rfl rfl (Pick.over (.there .here)) rfl rfl ?_
            refine G.nil ?_
            refine Fin.blk ?_
            refine Fin.blk ?_
            refine Fin.th ?_
            refine C.region ?_
            refine G.value rfl rfl rfl (Sure.add rfl rfl (inK64 (by omega))) ?_
            refine G.value rfl rfl rfl (Sure.move rfl) ?_
            refine G.nil ?_
            refine Fin.th ?_
            have hl5 : di5.length ≤ di.length + 1 := by
              have h1 := congrArg List.length hdi5
              have h2 := putI_len (di.map InoD.x) x.d.x
              simp at h1 h2; omega
            have hap : applyL s.v ((a ++ [x]).map DeedD.v) = { st with inos := putI st.inos x.d.x } := by
              rw [List.map_append, List.map_cons, List.map_nil, applyL_snoc, hst]
              simp [apply1, DeedD.v, h2]
            refine ⟨b.length, _, _, by simp at hk'; omega, ⟨a ++ [x], b, { st with inos := putI st.inos x.d.x }, di5, p5, pb, c5, cb, H5, Hb, (hle.trans le5), by simp, rfl, hap, (by rw [hdi5, hdi]), hok5, hI5, hB, by simp; omega, by simp; omega, rfl, rfl⟩, ⟨rfl, rfl, rfl, rfl, by simp; rfl, trivial⟩, _, Split.cons .here (Split.cons (Pick.over (.there .here)) (Split.consL PickL.here (Split.one (PickL.there PickL.all))))⟩
          · have h2 : ¬ x.kind = 2 := h2
            refine C.region_seq ?_
            refine G.value rfl rfl rfl (Sure.eql rfl rfl) ?_
            refine G.value rfl rfl rfl (Sure.assign rfl) ?_
            refine G.nil ?_
            refine C.cond_dec rfl (fun h3 => ?_) (fun h3 => ?_)
            · have h3 : x.kind = 3 := h3
              refine C.region ?_
              refine G.value rfl rfl rfl (Sure.fieldAddr rfl) ?_
              refine G.value rfl rfl rfl (Sure.load rfl rdx rfl) ?_
              refine G.value rfl rfl rfl (Sure.makeFunc rfl) ?_
              refine G.call rfl rfl rfl rfl rfl rfl (deleteFunc_spec M' _ di Hi [(b6, .cells (deedDL x))] 94 [ptr b6] (fun d => decide (d.x.no = x.no)) hI (by omega) (fun d _ M' _ => apply1_spec_del M' b6 d x)) (Split.consL (PickL.there (PickL.there (PickL.there PickL.here))) (Split.cons .here Split.nil)) ?_
              rintro v5 M5 H5 le5 hI5
              obtain ⟨p5, c5, rfl, -⟩ := hI5.slice
              refine G.value rfl rfl rfl (Sure.fieldAddr rfl) ?_
              refine G.dyn0 rfl rfl ?_
              refine Dyn.store rfl rfl (Pick.over .here) rfl rfl ?_
              refine G.nil ?_
              refine Fin.blk ?_
              refine Fin.blk ?_
              refine Fin.th ?_
              refine C.region ?_
              refine G.value rfl rfl rfl (Sure.add rfl rfl (inK64 (by omega))) ?_
              refine G.value rfl rfl rfl (Sure.move rfl) ?_
              refine G.nil ?_
              refine Fin.th ?_
              have hl5 := List.length_filter_le (fun d : InoD => !decide (d.x.no = x.no)) di
              have hap : applyL s.v ((a ++ [x]).map DeedD.v) = { st with inos := st.inos.filter fun z => !decide (z.no = x.no) } := by
                rw [List.map_append, List.map_cons, List.map_nil, applyL_snoc, hst]
                simp [apply1, DeedD.v, h3]
              refine ⟨b.length, _, _, by simp at hk'; omega, ⟨a ++ [x], b, { st with inos := st.inos.filter fun z => !decide (z.no = x.no) }, (di.filter fun d => !decide (d.x.no = x.no)), p5, pb, c5, cb, H5, Hb, (hle.trans le5), by simp, rfl, hap, (by rw [← hdi, List.filter_map]; rfl), (fun d hd => (hok d (List.mem_filter.1 hd).1).mono le5), hI5, hB, by simp; omega, by simp; omega, rfl, rfl⟩, ⟨rfl, rfl, rfl, rfl, by simp; rfl, trivial⟩, _, Split.cons .here (Split.cons (Pick.over .here) (Split.consL PickL.here (Split.one PickL.all)))⟩
            · have h3 : ¬ x.kind = 3 := h3
              refine C.region_seq ?_
              refine G.value rfl rfl rfl (Sure.eql rfl rfl) ?_
              refine G.value rfl rfl rfl (Sure.assign rfl) ?_
              refine G.nil ?_
              refine C.cond_dec rfl (fun h4 => ?_) (fun h4 => ?_)
              · have h4 : x.kind = 4 := h4
                refine C.region ?_
                refine G.value rfl rfl rfl (Sure.fieldAddr rfl) ?_
                refine G.value rfl rfl rfl (Sure.load rfl rdx rfl) ?_
                refine G.value rfl rfl rfl (Sure.fieldAddr rfl) ?_
                refine G.value rfl rfl rfl (Sure.load rfl rdx rfl) ?_
                refine G.call rfl rfl rfl rfl rfl rfl (bad_spec M' _ st.bad x.no Hb hB (by omega)) (Split.one (PickL.there (PickL.there (PickL.there (PickL.over PickL.all))))) ?_
                rintro v5 M5 H5 le5 hB5
                obtain ⟨p5, c5, rfl, -⟩ := hB5.slice
                refine G.value rfl rfl rfl (Sure.fieldAddr rfl) ?_
                refine G.dyn0 rfl rfl ?_
                refine Dyn.store rfl rfl (Pick.over (.there .here)) rfl rfl ?_
                refine G.nil ?_
                refine Fin.blk ?_
                refine Fin.blk ?_
                refine Fin.th ?_
                refine C.region ?_
                refine G.value rfl rfl rfl (Sure.add rfl rfl (inK64 (by omega))) ?_
                refine G.value rfl rfl rfl (Sure.move rfl) ?_
                refine G.nil ?_
                refine Fin.th ?_
                have hl5 := badI_len st.bad x.no
                have hap : applyL s.v ((a ++ [x]).map DeedD.v) = { st with bad := badI st.bad x.no } := by
                  rw [List.map_append, List.map_cons, List.map_nil, applyL_snoc, hst]
                  simp [apply1, DeedD.v, h4]
                refine ⟨b.length, _, _, by simp at hk'; omega, ⟨a ++ [x], b, { st with bad := badI st.bad x.no }, di, pi, p5, ci, c5, Hi, H5, (hle.trans le5), by simp, rfl, hap, hdi, (fun d hd => (hok d hd).mono le5), hI, hB5, by simp; omega, by simp; omega, rfl, rfl⟩, ⟨rfl, rfl, rfl, rfl, by simp; rfl, trivial⟩, _, Split.cons .here (Split.cons (Pick.over (.there .here)) (Split.consL (PickL.over (PickL.there PickL.here)) (Split.one PickL.here)))⟩
              · have h4 : ¬ x.kind = 4 := h4
                refine C.skip ?_
                refine Fin.blk ?_
                refine Fin.blk ?_
                refine Fin.th ?_
                refine C.region ?_
                refine G.value rfl rfl rfl (Sure.add rfl rfl (inK64 (by omega))) ?_
                refine G.value rfl rfl rfl (Sure.move rfl) ?_
                refine G.nil ?_
                refine Fin.th ?_
                have hap : applyL s.v ((a ++ [x]).map DeedD.v) = st := by
                  rw [List.map_append, List.map_cons, List.map_nil, applyL_snoc, hst]
                  simp [apply1, DeedD.v, h1, h2, h3, h4]
                refine ⟨b.length, _, _, by simp at hk'; omega, ⟨a ++ [x], b, st, di, pi, pb, ci, cb, Hi, Hb, hle, by simp, rfl, hap, hdi, hok, hI, hB, by simp; omega, by simp; omega, rfl, rfl⟩, ⟨rfl, rfl, rfl, rfl, by simp; rfl, trivial⟩, _, Split.cons (.there .here) (Split.cons (.there .here) (Split.one (PickL.there PickL.all)))⟩
    · have hb0 : b = [] := List.eq_nil_of_length_eq_zero (by omega)
      subst hb0
      refine C.exit ?_
      refine Fin.th_exit ?_
      refine Fin.th_exit ?_
      refine Fin.blk_eq ?_
      refine Fin.th ?_
      refine C.region_seq ?_
      refine G.value rfl rfl rfl (Sure.loadAgg rfl rdx rfl) ?_
      refine G.dyn0 rfl rfl ?_
      refine Dyn.storeAgg rfl rfl pkx rfl rfl rfl ?_
      refine G.nil ?_
      refine C.donateOwn hI (PickL.there (PickL.there PickL.here)) ?_
      rintro M5 p5 c5 le5 heq hs5
      injection heq with e1 e2 e3
      subst e1; subst e3
      refine C.donateOwn hB (PickL.there (PickL.there PickL.all)) ?_
      rintro M6 p6 c6 le6 heq hs6
      injection heq with e1 e2 e3
      subst e1; subst e3
      refine C.ret ?_
      refine Fin.fn (Res.cellAgg rfl rfl rdx rfl) Split.nil ⟨rfl, ⟨st.next, di, pi, ci, st.bad, pb, cb⟩, ?_, rfl, ⟨⟨⟨?_, ?_⟩, fun d hd => ((hok d hd).mono le5).mono le6⟩, hs6⟩⟩
      · rw [List.append_nil, hst]
        unfold StaD.v
        rw [hdi]
      · intro e he; obtain ⟨x, _, rfl⟩ := List.mem_map.1 he; rfl
      · rw [List.length_map]; exact hs5.mono le6
end Go.Proofs.YtaeeahcokiebdaaGreat

/-
  Places in arrays, slices with a bound on their room, and new bytes of whatever values.
  Conditions: none; everything here is proved over any program.
-/
namespace Go.Proofs.YtaeeahcokiebdaaGreat
variable {P : Program}
section
variable {c : Cx} {E : Env} {M : Mem} {H : Heap} {d : Option Tmp} {ty : TypeId} {pos : String} {aft : Array Edge} {g : Option (Nat × Bool)} {next : Value → Mem → Heap → Prop}
theorem Sure.indexAddrArr {t x y e n b o len k i agg} [ht : TyU P t (.array len e)] [he : TyI P e agg n] (hx : eev E x = some (.pointer (some ⟨b, o, Option.none⟩))) (hy : eev E y = some (.int k i))
    (hi : 0 ≤ i ∧ i < len) : Sure P ⟨d, .indexAddr t x y, ty, pos, aft, g⟩ E M H (.pointer (some ⟨b, o + i.toNat * n, Option.none⟩)) := by
  intro a w hav ha hh
  have h1 := avail_ev hav (x := x) (by simp [Op.operands]) hx
  have h2 := avail_ev hav (x := y) (by simp [Op.operands]) hy
  have hr : (Instr.indexAt t (.pointer (some ⟨b, o, Option.none⟩)) (.int k i)).run P w = .ok (.pointer (some ⟨b, o + i.toNat * n, Option.none⟩)) w := by
    simp [Instr.indexAt, run_underlying ht.und, Instr.sureAddr, asIntOf, hi, he.sizeOf, addr_add]
  simp [execOp, h1, h2, hr]
theorem Sure.slice3 {t x y z e sz agg b o n cap} {hi m : Nat} [ht : TyU P t (.slice e)] [he : TyI P e agg sz] (hx : eev E x = some (.slice (some ⟨b, o, Option.none⟩) n cap)) (hy : eev E y = some (.int .i64 hi)) (hz : eev E z = some (.int .i64 m)) (h1 : hi ≤ m) (h2 : m ≤ cap) :
    Sure P ⟨d, .slice t x Option.none (some y) (some z), ty, pos, aft, g⟩ E M H (.slice (some ⟨b, o, Option.none⟩) hi m) := by
  intro a w hav _ _
  have e1 := avail_ev hav (x := x) (by simp [Op.operands]) hx
  have e2 := avail_ev hav (x := y) (by simp [Op.operands]) hy
  have e3 := avail_ev hav (x := z) (by simp [Op.operands]) hz
  have hr : (Instr.sliceAt t (.slice (some ⟨b, o, Option.none⟩) n cap) Option.none (some (.int .i64 hi)) (some (.int .i64 m))).run P w = .ok (.slice (some ⟨b, o, Option.none⟩) hi m) w := by
    simp [Instr.sliceAt, Instr.slice, run_underlying ht.und, Instr.sliceBounds, Instr.sliceBound, asIntOf, h1, h2, he.sizeOf, addr_add]
  simp [execOp, e1, e2, e3, hr]
/-- 'bytealg.MakeNoZero'. -/
theorem Dyn.makeNoZero {o : Oper} {x y tys f fn n T e} [hT : TyU P T (.slice e)] (ho : o.op = .call { callee := .value x, args := #[y], argTypes := tys }) (hx : eev E x = some (.func (.func f) #[] #[])) (hy : eev E y = some (.int .i64 (n : Nat)))
    (hf : P.funcs[f]? = some fn) (hname : (fn.name == "runtime.NumGoroutine") = false) (hb : fn.body.isNone = true) (hnx : Extern.findNext fn = Option.none) {ps : Array TypeId} (he : Extern.find fn = some (Extern.BytealgMakeNoZero.makeNoZero ps #[T])) (hn : n ≤ 281474976710656)
    (k : ∀ b (cs : List Value), n ≤ cs.length → next (.slice (some ⟨b, 0, Option.none⟩) n cs.length) M ((b, .cells cs) :: H)) : Dyn P c o E M H next := by
  intro a w hav hst K Q hK
  have hops : o.op.operands = #[x] ++ #[y] := by rw [ho]; rfl
  have h1 : a.eval x = .func (.func f) #[] #[] := hav x (by rw [hops]; simp) _ hx
  have h2 : a.eval y = .int .i64 n := hav y (by rw [hops]; simp) _ hy
  obtain ⟨cs, hr, hcs, _⟩ := Lib.run_makeNoZero (P := P) w ps T e hT.und n hn
  have hrun : (execOp a.eval o).run P w = .ok (.value (.slice (some ⟨w.heap.size, 0, Option.none⟩) n cs.size)) (w.drew.drew.alloc (.cells cs e)) := by
    unfold execOp
    rw [ho]
    simp only [resolve, h1, Deferred.ofValue, invoke, List.map_toArray, Sem.run_bind, Sem.run_pure, Result.andThen_ok]
    have := run_callFunc_extern hf hname hb hnx he #[.int .i64 n] w
    simp [h2, this, hr]
  unfold Oper.wp
  rw [hrun, Oper.upon_value]
  have h3 := hst.drew.drew.new_cells cs.toList e
  exact hK _ _ _ _ h3 (k _ cs.toList hcs)
end
end Go.Proofs.YtaeeahcokiebdaaGreat

/-
  The walks of a new inode, of a new state, of products, and of bytes that are alike.
-/
namespace Go.Proofs.YtaeeahcokiebdaaGreat
set_option maxRecDepth 20000

/-- The root of a new state, and that state. -/
def inoR : Ino := ⟨1, 2, 2, 0, ⟨#[]⟩, [], []⟩
def staR : Sta := ⟨2, [inoR], []⟩
abbrev inoRD : InoD := ⟨inoR, Option.none, 0, Option.none, 0⟩
theorem inodeNew_spec (M : Mem) : Spec Tryz.prog 82 [intV 1, intV 2, .string ⟨#[]⟩] M [] (fun v _ H => v = .agg (inoDL inoRD).toArray ∧ H = []) := by
  refine Spec.of_code 31 Tryz.func82 rfl callable82 rfl rfl fun w => ?_
  refine C.region_seq ?_
  refine G.dyn rfl rfl rfl ?_
  refine Dyn.allocAgg ?_
  intro b6
  refine G.nil ?_
  refine C.region_seq ?_
  refine G.value rfl rfl rfl (Sure.build rfl rfl) ?_
  refine G.dyn rfl rfl rfl ?_
  refine Dyn.allocAgg ?_
  intro b7
  refine G.dyn0 rfl rfl ?_
  refine Dyn.storeAgg rfl rfl pkx rfl rfl rfl ?_
  refine G.nil ?_
  refine C.region_seq ?_
  refine G.value rfl rfl rfl (Sure.move rfl) ?_
  refine G.value rfl rfl rfl (Sure.move rfl) ?_
  refine G.value rfl rfl rfl (Sure.build rfl rfl) ?_
  refine G.dyn rfl rfl rfl ?_
  refine Dyn.allocAgg ?_
  intro b8
  refine G.dyn0 rfl rfl ?_
  refine Dyn.storeAgg rfl rfl pkx rfl rfl rfl ?_
  refine G.nil ?_
  refine C.seq ?_
  refine C.region_seq ?_
  refine G.value rfl rfl rfl (Sure.move rfl) ?_
  refine G.value rfl rfl rfl ((Sure.gtr rfl rfl).to_t (by decide)) ?_
  refine G.value rfl rfl rfl (Sure.move rfl) ?_
  refine G.value rfl rfl rfl (Sure.move rfl) ?_
  refine G.value rfl rfl rfl ((Sure.lss rfl rfl).to_t (by decide)) ?_
  refine G.value rfl rfl rfl (Sure.pick_true rfl rfl) ?_
  refine G.nil ?_
  refine C.cond_true rfl ?_
  refine C.region ?_
  refine G.value rfl rfl rfl (Sure.move rfl) ?_
  refine G.value rfl rfl rfl (Sure.indexAddrArr rfl rfl (by decide)) ?_
  refine G.value rfl rfl rfl (Sure.load rfl rdx rfl) ?_
  refine G.value rfl rfl rfl (Sure.fieldAddr rfl) ?_
  refine G.dyn0 rfl rfl ?_
  refine Dyn.store rfl rfl pkx rfl rfl ?_
  refine G.nil ?_
  refine Fin.th ?_
  refine C.seq ?_
  refine C.region_seq ?_
  refine G.value rfl rfl rfl (Sure.move rfl) ?_
  refine G.value rfl rfl rfl ((Sure.eql rfl rfl).to_f (by decide)) ?_
  refine G.nil ?_
  refine C.cond_false rfl ?_
  refine C.skip ?_
  refine Fin.th ?_
  refine C.region_seq ?_
  refine G.value rfl rfl rfl (Sure.loadAgg rfl rdx rfl) ?_
  refine G.dyn0 rfl rfl ?_
  refine Dyn.storeAgg rfl rfl pkx rfl rfl rfl ?_
  refine G.nil ?_
  refine C.ret ?_
  exact Fin.fn (Res.cellAgg rfl rfl rdx rfl) Split.nil ⟨rfl, rfl⟩
theorem stateNew_spec (M : Mem) : Spec Tryz.prog 47 [] M [] (fun v M' H => RetSta staR v M' H) := by
  refine Spec.of_code 4 Tryz.func47 rfl callable47 rfl rfl fun w => ?_
  refine C.region_seq ?_
  refine G.dyn rfl rfl rfl ?_
  refine Dyn.allocAgg ?_
  intro b0
  refine G.nil ?_
  refine C.region_seq ?_
  refine G.call rfl rfl rfl rfl rfl rfl (inodeNew_spec M) (Split.nil) ?_
  rintro _ M1 _ le1 ⟨rfl, rfl⟩
  refine G.dyn rfl rfl rfl ?_
  refine Dyn.buildSlice rfl rfl rfl (by simp [vcl]) (by decide) ?_
  intro b2
  refine G.donate fun M2 le2 hM2 => ?_
  refine G.value rfl rfl rfl (Sure.build rfl rfl) ?_
  refine G.dyn0 rfl rfl ?_
  refine Dyn.storeAgg rfl rfl pkx rfl rfl rfl ?_
  refine G.nil ?_
  refine C.ret ?_
  refine Fin.fn (Res.cellAgg rfl rfl rdx rfl) Split.nil ⟨rfl, ⟨2, [inoRD], some ⟨b2, 0, Option.none⟩, 1, [], Option.none, 0⟩, rfl, rfl, ⟨⟨⟨?_, ?_⟩, ?_⟩, Sl.empty⟩⟩
  · intro e he; simp at he; subst he; rfl
  · exact ⟨rfl, fun _ => ⟨b2, 0, _, rfl, Rd.m hM2, rfl⟩⟩
  · intro d hd; simp at hd; subst hd; exact ⟨⟨by simp [inoR], Sl.empty⟩, ⟨by simp [inoR], Sl.empty⟩⟩
theorem and32 (n : Nat) (h : n < 4294967296) : bits .and .u64 (n : Int) 4294967295 = n := by
  have := Go.u64_and_nat n 4294967295 (by omega) (by decide)
  rw [show ((4294967295 : Nat) : Int) = 4294967295 from rfl] at this
  rw [this, show (4294967295 : Nat) = 2 ^ 32 - 1 from rfl, Nat.and_two_pow_sub_one_eq_mod, Nat.mod_eq_of_lt (by simpa using h)]
theorem shr32 (n : Nat) (h : n < 4294967296) : (n : Int) / 2 ^ (32 : Int).toNat = ((0 : Nat) : Int) := by
  have : (2 : Int) ^ (32 : Int).toNat = 4294967296 := rfl
  rw [this]; omega
theorem mul64_spec (M : Mem) (n : Nat) (h : n < 4294967296) : Spec Tryz.prog 114 [.int .u64 ((1 : Nat) : Int), .int .u64 n] M [] (fun v _ H => v = .tuple #[.int .u64 ((0 : Nat) : Int), .int .u64 n] ∧ H = []) := by
  refine Spec.of_code 51 Tryz.func114 rfl callable114 rfl rfl fun w => ?_
  refine C.region_seq ?_
  refine G.value rfl rfl rfl (Sure.assign rfl) ?_
  refine G.value rfl rfl rfl (Sure.assign rfl) ?_
  refine G.nil ?_
  refine C.region_seq ?_
  refine G.value rfl rfl rfl (Sure.move rfl) ?_
  refine G.value rfl rfl rfl (Sure.and rfl rfl) ?_
  rw [and32 1 (by decide)]
  refine G.value rfl rfl rfl (Sure.assign rfl) ?_
  refine G.nil ?_
  refine C.region_seq ?_
  refine G.value rfl rfl rfl (Sure.move rfl) ?_
  refine G.value rfl rfl rfl (Sure.shr rfl rfl (by decide)) ?_
  rw [shr32 1 (by decide)]
  refine G.value rfl rfl rfl (Sure.assign rfl) ?_
  refine G.nil ?_
  refine C.region_seq ?_
  refine G.value rfl rfl rfl (Sure.move rfl) ?_
  refine G.value rfl rfl rfl (Sure.and rfl rfl) ?_
  rw [and32 n h]
  refine G.value rfl rfl rfl (Sure.assign rfl) ?_
  refine G.nil ?_
  refine C.region_seq ?_
  refine G.value rfl rfl rfl (Sure.move rfl) ?_
  refine G.value rfl rfl rfl (Sure.shr rfl rfl (by decide)) ?_
  rw [shr32 n h]
  refine G.value rfl rfl rfl (Sure.assign rfl) ?_
  refine G.nil ?_
  refine C.region_seq ?_
  refine G.value rfl rfl rfl (Sure.move rfl) ?_
  refine G.value rfl rfl rfl (Sure.move rfl) ?_
  refine G.value rfl rfl rfl (Sure.mul rfl rfl (inKu64 (by omega))) ?_
  rw [show ((1 : Nat) : Int) * (n : Int) = n from by omega]
  refine G.value rfl rfl rfl (Sure.assign rfl) ?_
  refine G.nil ?_
  refine C.region_seq ?_
  refine G.value rfl rfl rfl (Sure.move rfl) ?_
  refine G.value rfl rfl rfl (Sure.move rfl) ?_
  refine G.value rfl rfl rfl (Sure.mul rfl rfl (inKu64 (by omega))) ?_
  refine G.value rfl rfl rfl (Sure.move rfl) ?_
  refine G.value rfl rfl rfl (Sure.shr rfl rfl (by decide)) ?_
  rw [shr32 n h]
  refine G.value rfl rfl rfl (Sure.add rfl rfl (inKu64 (by omega))) ?_
  rw [show ((0 : Nat) : Int) * (n : Int) + ((0 : Nat) : Int) = ((0 : Nat) : Int) from by omega]
  refine G.value rfl rfl rfl (Sure.assign rfl) ?_
  refine G.nil ?_
  refine C.region_seq ?_
  refine G.value rfl rfl rfl (Sure.move rfl) ?_
  refine G.value rfl rfl rfl (Sure.and rfl rfl) ?_
  rw [and32 0 (by decide)]
  refine G.value rfl rfl rfl (Sure.assign rfl) ?_
  refine G.nil ?_
  refine C.region_seq ?_
  refine G.value rfl rfl rfl (Sure.move rfl) ?_
  refine G.value rfl rfl rfl (Sure.shr rfl rfl (by decide)) ?_
  rw [shr32 0 (by decide)]
  refine G.value rfl rfl rfl (Sure.assign rfl) ?_
  refine G.nil ?_
  refine C.region_seq ?_
  refine G.value rfl rfl rfl (Sure.move rfl) ?_
  refine G.value rfl rfl rfl (Sure.move rfl) ?_
  refine G.value rfl rfl rfl (Sure.move rfl) ?_
  refine G.value rfl rfl rfl (Sure.mul rfl rfl (inKu64 (by omega))) ?_
  refine G.value rfl rfl rfl (Sure.add rfl rfl (inKu64 (by omega))) ?_
  rw [show ((0 : Nat) : Int) + ((1 : Nat) : Int) * ((0 : Nat) : Int) = ((0 : Nat) : Int) from by omega]
  refine G.value rfl rfl rfl (Sure.assign rfl) ?_
  refine G.nil ?_
  refine C.region_seq ?_
  refine G.value rfl rfl rfl (Sure.move rfl) ?_
  refine G.value rfl rfl rfl (Sure.move rfl) ?_
  refine G.value rfl rfl rfl (Sure.mul rfl rfl (inKu64 (by omega))) ?_
  refine G.value rfl rfl rfl (Sure.move rfl) ?_
  refine G.value rfl rfl rfl (Sure.add rfl rfl (inKu64 (by omega))) ?_
  rw [show ((0 : Nat) : Int) * ((0 : Nat) : Int) + ((0 : Nat) : Int) = ((0 : Nat) : Int) from by omega]
  refine G.value rfl rfl rfl (Sure.move rfl) ?_
  refine G.value rfl rfl rfl (Sure.shr rfl rfl (by decide)) ?_
  rw [shr32 0 (by decide)]
  refine G.value rfl rfl rfl (Sure.add rfl rfl (inKu64 (by omega))) ?_
  rw [show ((0 : Nat) : Int) + ((0 : Nat) : Int) = ((0 : Nat) : Int) from by omega]
  refine G.value rfl rfl rfl (Sure.assign rfl) ?_
  refine G.nil ?_
  refine C.region_seq ?_
  refine G.value rfl rfl rfl (Sure.move rfl) ?_
  refine G.value rfl rfl rfl (Sure.move rfl) ?_
  refine G.value rfl rfl rfl (Sure.mul rfl rfl (inKu64 (by omega))) ?_
  rw [show ((1 : Nat) : Int) * (n : Int) = n from by omega]
  refine G.value rfl rfl rfl (Sure.assign rfl) ?_
  refine G.nil ?_
  refine C.ret ?_
  exact Fin.fn (Res.tmp2 rfl rfl rfl) Split.nil ⟨rfl, rfl⟩
theorem mul_spec (M : Mem) (n : Nat) (h : n < 4294967296) : Spec Tryz.prog 77 [.int .u64 ((1 : Nat) : Int), .int .u64 n] M [] (fun v _ H => v = .tuple #[.int .u64 ((0 : Nat) : Int), .int .u64 n] ∧ H = []) := by
  refine Spec.of_code 30 Tryz.func77 rfl callable77 rfl rfl fun w => ?_
  refine C.region_seq ?_
  refine G.value rfl rfl rfl (Sure.assign rfl) ?_
  refine G.value rfl rfl rfl (Sure.assign rfl) ?_
  refine G.nil ?_
  refine C.seq ?_
  refine C.cond_false rfl ?_
  refine C.skip ?_
  refine Fin.th ?_
  refine C.region_seq ?_
  refine G.value rfl rfl rfl (Sure.move rfl) ?_
  refine G.value rfl rfl rfl (Sure.move rfl) ?_
  refine G.call rfl rfl rfl rfl rfl rfl (mul64_spec M n h) (Split.nil) ?_
  rintro _ M1 _ le1 ⟨rfl, rfl⟩
  refine G.value rfl rfl rfl (Sure.move rfl) ?_
  refine G.value rfl rfl rfl (Sure.extract rfl rfl) ?_
  refine G.value rfl rfl rfl (Sure.extract rfl rfl) ?_
  refine G.value rfl rfl rfl (Sure.assign rfl) ?_
  refine G.value rfl rfl rfl (Sure.assign rfl) ?_
  refine G.nil ?_
  refine C.region_seq ?_
  refine G.value rfl rfl rfl (Sure.move rfl) ?_
  refine G.value rfl rfl rfl (Sure.move rfl) ?_
  refine G.value rfl rfl rfl (Sure.assign rfl) ?_
  refine G.value rfl rfl rfl (Sure.assign rfl) ?_
  refine G.nil ?_
  refine C.ret ?_
  exact Fin.fn (Res.tmp2 rfl rfl rfl) Split.nil ⟨rfl, rfl⟩
end Go.Proofs.YtaeeahcokiebdaaGreat
