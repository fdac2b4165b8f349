/-
  The walks of numbers, texts and sums as bytes, and of records.
  Conditions: what is put together has at most a few hundred million bytes.
-/
import Derived.Test.YtaeeahcokiebdaaWg
namespace Go.Proofs.Ytaeeahcokiebdaa
set_option maxRecDepth 20000

/-- The lowest bytes of a number, the lowest first. -/
def le (v n : Nat) : List UInt8 := (List.range n).map fun i => UInt8.ofNat (v / 256 ^ i)
@[simp] theorem le_len (v n : Nat) : (le v n).length = n := by simp [le]
theorem le_succ (v n : Nat) : le v (n + 1) = le v n ++ [UInt8.ofNat (v / 256 ^ n)] := by simp [le, List.range_succ]
theorem le_byte (v i : Nat) : Value.int .u8 (IntKind.u8.wrap ((v : Int) / 2 ^ ((8 * (i : Int)).toNat))) = byteV (UInt8.ofNat (v / 256 ^ i)) := by
  have h1 : (8 * (i : Int)).toNat = 8 * i := by omega
  have h2 : ((2 : Int) ^ (8 * i)) = ((256 ^ i : Nat) : Int) := by rw [Int.pow_mul]; simp
  unfold byteV
  rw [h1, h2, IntKind.wrap_u8, ← Int.natCast_ediv, UInt8.toNat_ofNat']
  simp
theorem seg_all {c : List Value} {n : Nat} (h : n = c.length) : seg c 0 n = some c := by
  subst h; unfold seg; rw [takeN_eq (by simp)]; simp
theorem put_spec (M : Mem) (p : Option Addr) (cap : Nat) (bs : List UInt8) (v n : Nat) (hs : SB M p bs) (hb : bs.length ≤ 900000000) (hv : v < 18446744073709551616) (hn : n ≤ 8) :
    Spec Try.prog 43 [.slice p bs.length cap, .int .u64 v, .int .i64 n] M [] (fun r _ H => OwnB (bs ++ le v n) r H) := by
  refine Spec.of_code 31 Try.func43 rfl callable43 rfl rfl fun w => ?_
  refine C.region_seq ?_
  refine G.value rfl rfl rfl (Sure.assign rfl) ?_
  refine G.nil ?_
  refine C.region_seq ?_
  refine G.value rfl rfl rfl (Sure.move rfl) ?_
  refine G.value rfl rfl rfl (Sure.max rfl rfl) ?_
  refine G.value rfl rfl rfl (Sure.min rfl rfl) ?_
  rw [show Min.min (Max.max (n : Int) 0) 8 = n from by omega]
  refine G.dyn rfl rfl rfl ?_
  refine Dyn.makeSlice (n := n) (cap := n) rfl (by decide) rfl rfl (by omega) (by omega) (by omega) ?_
  intro b
  rw [zrow_one rfl]
  refine G.value rfl rfl rfl (Sure.assign rfl) ?_
  refine G.nil ?_
  refine C.seq ?_
  refine C.region_seq ?_
  refine G.value rfl rfl rfl (Sure.move rfl) ?_
  refine G.value rfl rfl rfl (Sure.len_slice rfl) ?_
  refine G.value rfl rfl rfl (Sure.move rfl) ?_
  refine G.nil ?_
  refine C.block ?_
  refine C.loop (fun k E M' H => ∃ i : Nat, MLe M M' ∧ i + k = n ∧ E = [(0, .slice p bs.length cap), (1, .int .u64 v), (7, .slice (some ⟨b, 0, Option.none⟩) n n), (14, .int .i64 n), (15, .int .i64 i)] ∧ H = [(b, .cells (bytesV (le v i) ++ List.replicate k (byteV 0)))]) (n) ?_ ?_
  · exact ⟨_, _, ⟨0, MLe.refl _, by omega, rfl, rfl⟩, ⟨rfl, rfl, rfl, rfl, rfl, trivial⟩, _, Split.cons .here Split.nil⟩
  · rintro k E M' H ⟨i, hle, hik, rfl, rfl⟩
    refine C.region_seq ?_
    refine G.value rfl rfl rfl (Sure.lss rfl rfl) ?_
    refine G.nil ?_
    refine C.seq ?_
    refine C.cond_dec rfl (fun hlt => ?_) (fun hlt => ?_)
    · obtain ⟨k, rfl⟩ : ∃ m, k = m + 1 := ⟨k - 1, by omega⟩
      rw [List.replicate_succ]
      refine C.skip ?_
      refine Fin.th ?_
      refine C.seq ?_
      refine C.block ?_
      refine C.region_seq ?_
      refine G.value rfl rfl rfl (Sure.move rfl) ?_
      refine G.value rfl rfl rfl (Sure.assign rfl) ?_
      refine G.nil ?_
      refine C.region ?_
      refine G.value rfl rfl rfl (Sure.move rfl) ?_
      refine G.value rfl rfl rfl (Sure.move rfl) ?_
      refine G.value rfl rfl rfl (Sure.move rfl) ?_
      refine G.value rfl rfl rfl (Sure.move rfl) ?_
      refine G.value rfl rfl rfl (Sure.mul rfl rfl (inK64 (by omega))) ?_
      refine G.value rfl rfl rfl (Sure.shr rfl rfl (by simp [IntKind.bits]; omega)) ?_
      refine G.value rfl rfl rfl (Sure.conv' rfl) ?_
      rw [le_byte]
      refine G.value rfl rfl rfl (Sure.indexAddr rfl rfl (by omega)) ?_
      refine G.dyn0 rfl rfl ?_
      refine Dyn.store rfl rfl .here rfl (mid_set (by simp)) ?_
      refine G.nil ?_
      refine Fin.blk ?_
      refine Fin.th ?_
      refine C.region ?_
      refine G.value rfl rfl rfl (Sure.add rfl rfl (inK64 (by omega))) ?_
      refine G.value rfl rfl rfl (Sure.move rfl) ?_
      refine G.nil ?_
      refine Fin.th ?_
      refine ⟨k, _, _, by omega, ⟨i + 1, hle, by omega, rfl, rfl⟩, ⟨rfl, rfl, rfl, rfl, rfl, trivial⟩, [], ?_⟩
      rw [le_succ]
      simp
      exact Split.cons .here Split.nil
    · have hk : k = 0 := by omega
      subst hk
      have hi : i = n := by omega
      subst hi
      simp only [List.replicate_zero, List.append_nil]
      refine C.exit ?_
      refine Fin.th_exit ?_
      refine Fin.th_exit ?_
      refine Fin.blk_eq ?_
      refine Fin.th ?_
      refine C.region_seq ?_
      refine G.value rfl rfl rfl (Sure.move rfl) ?_
      refine G.value rfl rfl rfl (Sure.move rfl) ?_
      refine G.donate fun M2 le2 hM2 => ?_
      refine G.dyn rfl rfl rfl ?_
      refine Dyn.buildSlice rfl rfl rfl (by simp [vcl]) (by decide) ?_
      intro b2
      refine G.donate fun M3 le3 hM3 => ?_
      have hsb : SB M3 (some ⟨b, 0, Option.none⟩) (le v i) := ⟨by simp, fun _ => ⟨b, 0, _, rfl, Rd.m (le3 _ _ hM2), seg_all (by simp)⟩⟩
      refine G.call rfl rfl rfl rfl rfl rfl (concat_spec M3 (some ⟨b2, 0, Option.none⟩) 2 [(p, cap, bs), (some ⟨b, 0, Option.none⟩, i, le v i)] ⟨rfl, fun _ => ⟨b2, 0, _, rfl, Rd.m hM3, by simp [seg, takeN, vcl]⟩⟩ (by intro t ht; simp at ht; rcases ht with rfl | rfl; exact hs.mono ((hle.trans le2).trans le3); exact hsb) (by simp [catL]; omega) (by simp)) (Split.nil) ?_
      rintro _ M4 Hs le4 hown
      refine G.value rfl rfl rfl (Sure.assign rfl) ?_
      refine G.nil ?_
      refine C.ret ?_
      refine Fin.fn (Res.tmp rfl rfl) (Split.one PickL.here) ?_
      simpa [catL] using hown
theorem putInt_spec (M : Mem) (p : Option Addr) (cap : Nat) (bs : List UInt8) (v : Int) (hs : SB M p bs) (hb : bs.length ≤ 900000000) :
    Spec Try.prog 37 [.slice p bs.length cap, .int .i64 v] M [] (fun r _ H => OwnB (bs ++ le (IntKind.u64.wrap v).toNat 8) r H) := by
  have hw : 0 ≤ IntKind.u64.wrap v ∧ IntKind.u64.wrap v < 18446744073709551616 := by simp [IntKind.wrap, IntKind.bits, IntKind.signed]; omega
  refine Spec.of_code 9 Try.func37 rfl callable37 rfl rfl fun w => ?_
  refine C.region_seq ?_
  refine G.value rfl rfl rfl (Sure.assign rfl) ?_
  refine G.nil ?_
  refine C.region_seq ?_
  refine G.value rfl rfl rfl (Sure.move rfl) ?_
  refine G.value rfl rfl rfl (Sure.move rfl) ?_
  refine G.value rfl rfl rfl (Sure.conv' rfl) ?_
  rw [show IntKind.u64.wrap v = ((IntKind.u64.wrap v).toNat : Int) from by omega]
  refine G.call rfl rfl rfl rfl rfl rfl (put_spec M p cap bs (IntKind.u64.wrap v).toNat 8 hs hb (by omega) (by omega)) (Split.nil) ?_
  rintro _ M1 Hs le1 hown
  refine G.value rfl rfl rfl (Sure.assign rfl) ?_
  refine G.nil ?_
  refine C.ret ?_
  exact Fin.fn (Res.tmp rfl rfl) (Split.one PickL.here) hown
theorem putText_spec (M : Mem) (p : Option Addr) (cap : Nat) (bs : List UInt8) (t : ByteArray) (hs : SB M p bs) (hb : bs.length ≤ 900000000) (ht : t.size ≤ 10000000) :
    Spec Try.prog 62 [.slice p bs.length cap, .string t] M [] (fun r _ H => OwnB (bs ++ le t.size 4 ++ t.data.toList) r H) := by
  refine Spec.of_code 14 Try.func62 rfl callable62 rfl rfl fun w => ?_
  refine C.region_seq ?_
  refine G.value rfl rfl rfl (Sure.assign rfl) ?_
  refine G.nil ?_
  refine C.region_seq ?_
  refine G.value rfl rfl rfl (Sure.move rfl) ?_
  refine G.value rfl rfl rfl (Sure.move rfl) ?_
  refine G.value rfl rfl rfl (Sure.len_string rfl) ?_
  refine G.value rfl rfl rfl (Sure.conv rfl (inKu64 (by omega))) ?_
  refine G.call rfl rfl rfl rfl rfl rfl (put_spec M p cap bs t.size 4 hs hb (by omega) (by omega)) (Split.nil) ?_
  rintro v1 M1 Hs le1 hown
  refine G.donateOwn hown PickL.here ?_
  rintro M2 p2 cap2 le2 rfl hs2
  refine G.value rfl rfl rfl (Sure.move rfl) ?_
  refine G.dyn rfl rfl rfl ?_
  refine Dyn.toBytes rfl rfl ?_
  intro p3 cap3 M3 le3 hs3 _
  refine G.dyn rfl rfl rfl ?_
  refine Dyn.buildSlice rfl rfl rfl (by simp [vcl]) (by decide) ?_
  intro b2
  refine G.donate fun M4 le4 hM4 => ?_
  have hl3 : t.size = t.data.toList.length := by rw [Array.length_toList]; rfl
  refine G.call rfl rfl rfl rfl rfl rfl (concat_spec M4 (some ⟨b2, 0, Option.none⟩) 2 [(p2, cap2, bs ++ le t.size 4), (p3, cap3, t.data.toList)] ⟨rfl, fun _ => ⟨b2, 0, _, rfl, Rd.m hM4, by simp [seg, takeN, vcl]⟩⟩ (by intro q hq; simp at hq; rcases hq with rfl | rfl; exact SB.mono hs2 (le3.trans le4); exact (show SB M3 p3 t.data.toList from by unfold SB; rw [← hl3]; exact hs3).mono le4) (by simp [catL]; have : t.data.size = t.size := rfl; omega) (by simp)) (Split.nil) ?_
  rintro _ M5 Hs5 le5 hown5
  refine G.value rfl rfl rfl (Sure.assign rfl) ?_
  refine G.nil ?_
  refine C.ret ?_
  refine Fin.fn (Res.tmp rfl rfl) (Split.one PickL.here) ?_
  simpa [catL] using hown5
/-- Numbers as bytes, eight of each. -/
def intsB (l : List Int) : List UInt8 := (l.map fun v => le (IntKind.u64.wrap v).toNat 8).flatten
theorem intsB_cons (v : Int) (l : List Int) : intsB (v :: l) = le (IntKind.u64.wrap v).toNat 8 ++ intsB l := by simp [intsB]
theorem intsB_len (l : List Int) : (intsB l).length = 8 * l.length := by
  induction l with
  | nil => rfl
  | cons v l ih => rw [intsB_cons, List.length_append, ih]; simp; omega
abbrev intV (n : Int) : Value := .int .i64 n
def xs_of (_ : Nat) (bs : List UInt8) (junk : List Value) : List Value := bytesV bs ++ junk
/-- What a function that makes bytes hands back: bytes that stay as they are. -/
def RetB (bs : List UInt8) (v : Value) (M : Mem) (H : Heap) : Prop := H = [] ∧ ∃ p cap, v = .slice p bs.length cap ∧ SB M p bs
theorem Spec.retB {f args M} {bs : List UInt8} (h : Spec Try.prog f args M [] (fun v _ H => OwnB bs v H)) : Spec Try.prog f args M [] (fun v M' H => RetB bs v M' H) := by
  refine ⟨h.callable, fun w hw => (h.runs w hw).mono ?_⟩
  rintro e w' ⟨v, M', H', rfl, hst, h1, h2⟩
  rcases h2 with ⟨rfl, hn, rfl⟩ | ⟨b, cap, junk, rfl, h3, rfl, h4⟩
  · exact ⟨_, M', [], rfl, hst, rfl, Option.none, 0, by rw [hn], h1, fun hp => absurd hp (by omega)⟩
  · exact ⟨_, _, [], rfl, hst.donate, rfl, _, _, rfl, h1, fun _ => ⟨b, 0, xs_of b bs junk, rfl, Rd.m (by simp [mput, xs_of]), by simpa [seg, xs_of] using takeN_append h1⟩⟩
theorem ints_spec (M : Mem) (p q : Option Addr) (cap cq : Nat) (bs : List UInt8) (l : List Int) (hs : SB M p bs) (hq : Sl M [] 1 q l.length (l.map intV)) (hb : bs.length + 8 * l.length ≤ 900000000) :
    Spec Try.prog 63 [.slice p bs.length cap, .slice q l.length cq] M [] (fun r M' H => RetB (bs ++ intsB l) r M' H) := by
  refine Spec.of_code 18 Try.func63 rfl callable63 rfl rfl fun w => ?_
  refine C.region_seq ?_
  refine G.value rfl rfl rfl (Sure.assign rfl) ?_
  refine G.nil ?_
  refine C.seq ?_
  refine C.region_seq ?_
  refine G.value rfl rfl rfl (Sure.move rfl) ?_
  refine G.value rfl rfl rfl (Sure.len_slice rfl) ?_
  refine G.value rfl rfl rfl (Sure.move rfl) ?_
  refine G.nil ?_
  refine C.block ?_
  refine C.loop (fun k E M' H => ∃ (a b : List Int) (v : Value), MLe M M' ∧ l = a ++ b ∧ b.length = k ∧ RetB (bs ++ intsB a) v M' H ∧ E = [(0, v), (7, .slice q l.length cq), (8, .int .i64 l.length), (9, .int .i64 a.length)]) (l.length) ?_ ?_
  · exact ⟨_, _, ⟨[], l, .slice p bs.length cap, MLe.refl _, rfl, rfl, ⟨rfl, p, cap, by simp [intsB], by rw [show bs ++ intsB [] = bs from by simp [intsB]]; exact hs⟩, rfl⟩, ⟨rfl, rfl, rfl, rfl, trivial⟩, _, Split.nil⟩
  · rintro k E M' H ⟨a, b, v, hle, rfl, hk, ⟨rfl, p1, c1, rfl, hsb⟩, rfl⟩
    have hlen : (a ++ b).length = a.length + b.length := by simp
    refine C.region_seq ?_
    refine G.value rfl rfl rfl (Sure.lss rfl rfl) ?_
    refine G.nil ?_
    refine C.seq ?_
    refine C.cond_dec rfl (fun hlt => ?_) (fun hlt => ?_)
    · cases b with
      | nil => simp at hlt
      | cons x b =>
        obtain ⟨q', o, c, rfl, hrd, hcell⟩ := Sl.cell (i := a.length) (v := intV x) (Sl.heap (H := []) (hq.mono hle)) (by simp)
        refine C.skip ?_
        refine Fin.th ?_
        refine C.seq ?_
        refine C.block ?_
        refine C.region_seq ?_
        refine G.value rfl rfl rfl (Sure.indexAddr rfl rfl (by simp; omega)) ?_
        refine G.value rfl rfl rfl (Sure.load rfl hrd hcell) ?_
        refine G.value rfl rfl rfl (Sure.assign rfl) ?_
        refine G.nil ?_
        refine C.region ?_
        refine G.value rfl rfl rfl (Sure.move rfl) ?_
        refine G.value rfl rfl rfl (Sure.move rfl) ?_
        refine G.call rfl rfl rfl rfl rfl rfl ((putInt_spec M' p1 c1 (bs ++ intsB a) x hsb (by rw [List.length_append, intsB_len]; simp at hb; omega)).retB) (Split.nil) ?_
        rintro v2 M2 H2 le2 ⟨rfl, p2, c2, rfl, hs2⟩
        refine G.value rfl rfl rfl (Sure.assign rfl) ?_
        refine G.nil ?_
        refine Fin.blk ?_
        refine Fin.th ?_
        refine C.region ?_
        refine G.value rfl rfl rfl (Sure.add rfl rfl (inK64 (by omega))) ?_
        refine G.value rfl rfl rfl (Sure.move rfl) ?_
        refine G.nil ?_
        refine Fin.th ?_
        have e : bs ++ intsB a ++ le (IntKind.u64.wrap x).toNat 8 = bs ++ intsB (a ++ [x]) := by simp [intsB]
        rw [e] at hs2 ⊢
        refine ⟨b.length, _, _, by simp at hk; omega, ⟨a ++ [x], b, _, hle.trans le2, by simp, rfl, ⟨rfl, p2, c2, rfl, hs2⟩, rfl⟩, ⟨rfl, rfl, rfl, by simp; rfl, trivial⟩, _, Split.nil⟩
    · have hb0 : b = [] := List.eq_nil_of_length_eq_zero (by omega)
      subst hb0
      refine C.exit ?_
      refine Fin.th_exit ?_
      refine Fin.th_exit ?_
      refine Fin.blk_eq ?_
      refine Fin.th ?_
      refine C.region_seq ?_
      refine G.value rfl rfl rfl (Sure.move rfl) ?_
      refine G.value rfl rfl rfl (Sure.assign rfl) ?_
      refine G.nil ?_
      refine C.ret ?_
      refine Fin.fn (Res.tmp rfl rfl) Split.nil ⟨rfl, p1, c1, ?_, ?_⟩
      · simp
      · simpa using hsb
end Go.Proofs.Ytaeeahcokiebdaa
