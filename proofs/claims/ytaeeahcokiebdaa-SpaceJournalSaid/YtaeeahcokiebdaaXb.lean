/-
  Plain laws of chips whose power never falls.
-/
import Derived.Test.YtaeeahcokiebdaaXa
namespace Go.Proofs.Ytaeeahcokiebdaa

/-- Power that does not fall. -/
def Alive (p : Pw) : Prop := p.left = -1 ∧ p.off = false
theorem Alive.step {p : Pw} (h : Alive p) : p.step.2.1 = true ∧ Alive p.step.1 := by
  obtain ⟨h1, h2⟩ := h
  unfold Pw.step Alive
  rw [if_neg (by rw [h2]; decide), if_neg (by omega)]
  refine ⟨rfl, ?_, h2⟩
  dsimp only
  rw [if_neg (by omega)]
  exact h1
theorem prog_alive : ∀ (bs : List UInt8) (ch : Chip) (at_ : Nat), Alive ch.pw → at_ + bs.length ≤ ch.b.length →
    (ch.prog at_ bs).2 = 0 ∧ Alive (ch.prog at_ bs).1.pw ∧ (ch.prog at_ bs).1.b = ch.b.take at_ ++ bs ++ ch.b.drop (at_ + bs.length)
  | [], ch, a, h, hl => ⟨rfl, h, by simp [Chip.prog]⟩
  | x :: bs, ch, a, h, hl => by
    obtain ⟨h1, h2⟩ := h.step
    unfold Chip.prog
    rw [if_pos h1]
    have hl' : a + (bs.length + 1) ≤ ch.b.length := hl
    obtain ⟨e1, e2, e3⟩ := prog_alive bs { ch with pw := ch.pw.step.1, b := ch.b.set a x } (a + 1) h2 (by simp; omega)
    refine ⟨e1, e2, ?_⟩
    rw [e3]
    dsimp only
    rw [List.set_eq_take_append_cons_drop, if_pos (by omega)]
    have ht : (ch.b.take a).length = a := by simp; omega
    rw [List.take_append, List.take_of_length_le (by omega), ht, show a + 1 - a = 1 from by omega, List.take_succ_cons, List.take_zero]
    rw [List.drop_append, List.drop_eq_nil_of_le (by omega), ht, show a + 1 + bs.length - a = bs.length + 1 from by omega, List.drop_succ_cons, List.drop_drop]
    simp
    congr 1
    omega
/-- Bytes of a region that are all 255. -/
def Ff (b : List UInt8) (lo n : Nat) : Prop := ∀ i, lo ≤ i → i < lo + n → b[i]? = some 255
theorem setsBit_ff : ∀ (bs cs : List UInt8), (∀ i, i < bs.length → cs[i]? = some 255) → setsBit bs cs = false
  | [], _, _ => by unfold setsBit; rfl
  | x :: bs, [], h => by have := h 0 (by simp); simp at this
  | x :: bs, y :: cs, h => by
    have hy : y = 255 := by have := h 0 (by simp); simpa using this
    subst hy
    unfold setsBit
    rw [setsBit_ff bs cs (fun i hi => by have := h (i + 1) (by simp; omega); simpa using this)]
    have e : x &&& ~~~(255 : UInt8) = 0 := by
      have : ~~~(255 : UInt8) = 0 := by decide
      rw [this]
      apply UInt8.eq_of_toBitVec_eq
      simp
    rw [e]
    rfl
theorem program_alive {ch : Chip} {at_ : Nat} {bs : List UInt8} (h : Alive ch.pw) (hl : at_ + bs.length ≤ ch.b.length) (hf : Ff ch.b at_ bs.length) :
    (ch.program at_ bs).2 = 0 ∧ Alive (ch.program at_ bs).1.pw ∧ (ch.program at_ bs).1.b = ch.b.take at_ ++ bs ++ ch.b.drop (at_ + bs.length) := by
  unfold Chip.program
  rw [setsBit_ff bs (ch.b.drop at_) (fun i hi => by rw [List.getElem?_drop]; exact hf (at_ + i) (by omega) (by omega))]
  exact prog_alive bs ch at_ h hl
theorem Ff.after {b bs : List UInt8} {a lo n : Nat} (h : Ff b lo n) (hl : a + bs.length ≤ b.length) (ha : a + bs.length ≤ lo) : Ff (b.take a ++ bs ++ b.drop (a + bs.length)) lo n := by
  intro i h1 h2
  rw [List.getElem?_append_right (by simp; omega), List.getElem?_drop, ← h i h1 h2]
  congr 1
  simp
  omega
theorem Ff.sub {b : List UInt8} {lo n lo' n' : Nat} (h : Ff b lo n) (h1 : lo ≤ lo') (h2 : lo' + n' ≤ lo + n) : Ff b lo' n' := fun i h3 h4 => h i (by omega) (by omega)
theorem append_alive {ch : Chip} {h at_ : Nat} {b : List UInt8} (ha : Alive ch.pw) (hl : (h + 1) * hsz ch.g ≤ ch.b.length) (hfit : at_ + b.length + 7 ≤ hsz ch.g) (hs : b.length ≤ 65000)
    (hf : Ff ch.b (at_ + h * hsz ch.g) (hsz ch.g - at_)) :
    (ch.append h at_ b).2 = 0 ∧ Alive (ch.append h at_ b).1.pw ∧ Ff (ch.append h at_ b).1.b (at_ + (b.length + 7) + h * hsz ch.g) (hsz ch.g - (at_ + (b.length + 7))) := by
  have hbl := bodyB_len b
  have hm : (h + 1) * hsz ch.g = h * hsz ch.g + hsz ch.g := Nat.succ_mul _ _
  obtain ⟨p1, p2, p3⟩ := program_alive (bs := bodyB b) ha (by omega) (hf.sub (Nat.le_refl _) (by omega))
  have hlen := program_len ch (at_ + h * hsz ch.g) (bodyB b)
  have hf2 : Ff (ch.program (at_ + h * hsz ch.g) (bodyB b)).1.b (at_ + h * hsz ch.g + (bodyB b).length) (hsz ch.g - at_ - (bodyB b).length) := by
    rw [p3]
    exact (hf.sub (by omega) (by omega)).after (by omega) (Nat.le_refl _)
  obtain ⟨q1, q2, q3⟩ := program_alive (at_ := at_ + h * hsz ch.g + (bodyB b).length) (bs := [0]) p2 (by rw [hlen]; simp; omega) (hf2.sub (Nat.le_refl _) (by simp; omega))
  have e : ch.append h at_ b = (ch.program (at_ + h * hsz ch.g) (bodyB b)).1.program (at_ + h * hsz ch.g + (bodyB b).length) [0] := by
    unfold Chip.append
    rw [if_neg (by omega), if_neg (by omega), if_neg (by rw [p1]; decide)]
  rw [e]
  refine ⟨q1, q2, ?_⟩
  rw [q3]
  exact (hf2.sub (by omega) (by omega)).after (by rw [hlen]; simp; omega) (by simp; omega)
theorem orAt_get {b : List UInt8} {lo n i : Nat} {m : UInt8} (hl : lo + n ≤ b.length) : (orAt b lo n m)[i]? = if lo ≤ i ∧ i < lo + n then (b[i]?).map (· ||| m) else b[i]? := by
  unfold orAt
  by_cases h1 : i < lo
  · rw [List.getElem?_append_left (by simp; omega), if_neg (by omega), List.getElem?_take_of_lt h1]
  · rw [List.getElem?_append_right (by simp; omega)]
    have e1 : (b.take lo).length = lo := by simp; omega
    rw [e1]
    by_cases h2 : i < lo + n
    · rw [List.getElem?_append_left (by simp; omega), if_pos (by omega), List.getElem?_map, List.getElem?_take_of_lt (by omega), List.getElem?_drop, show lo + (i - lo) = i from by omega]
    · rw [List.getElem?_append_right (by simp; omega), if_neg (by omega), List.getElem?_drop]
      congr 1
      simp
      omega
theorem or255 (x : UInt8) : x ||| 255 = 255 := by
  apply UInt8.eq_of_toBitVec_eq
  have : (255 : UInt8).toBitVec = BitVec.allOnes 8 := by decide
  rw [UInt8.toBitVec_or, this, BitVec.or_allOnes]
theorem erase_alive {ad : Ad} {ch : Chip} {s : Nat} (hok : ChipOk ad ch) (hs : (s : Int) < ch.g.sectors) (ha : Alive ch.pw) :
    (ch.erase s).2 = 0 ∧ Alive (ch.erase s).1.pw ∧ Ff (ch.erase s).1.b (ch.lo s) ch.z ∧ ∀ lo n, Ff ch.b lo n → Ff (ch.erase s).1.b lo n := by
  obtain ⟨hz, hlo, hhi, hle, hz1, hz2, hs16⟩ := hok.sector hs
  obtain ⟨h1, h2⟩ := ha.step
  unfold Chip.erase
  rw [if_pos h1]
  refine ⟨rfl, h2, ?_, ?_⟩
  · intro i h3 h4
    dsimp only
    rw [orAt_get hle, if_pos ⟨h3, h4⟩, List.getElem?_eq_getElem (by omega)]
    simp [or255]
  · intro lo n hf i h3 h4
    dsimp only
    rw [orAt_get hle]
    split
    · rw [hf i h3 h4]; simp
    · exact hf i h3 h4
theorem wipeN_alive {ad : Ad} {n h : Nat} : ∀ (k : Nat) {ch : Chip}, ChipOk ad ch → k ≤ n → ((h * n + n : Nat) : Int) ≤ ch.g.sectors → Alive ch.pw →
    (wipeN n h k ch).2 = 0 ∧ Alive (wipeN n h k ch).1.pw ∧ (∀ lo m, Ff ch.b lo m → Ff (wipeN n h k ch).1.b lo m) ∧ ∀ s, h * n ≤ s → s < h * n + k → Ff (wipeN n h k ch).1.b (s * ch.z) ch.z
  | 0, ch, _, _, _, ha => ⟨rfl, ha, fun _ _ hf => hf, fun s h1 h2 => absurd h1 (by omega)⟩
  | k + 1, ch, hok, hk, hs, ha => by
    have hlt : ((h * n + k : Nat) : Int) < ch.g.sectors := by omega
    obtain ⟨e1, e2, e3, e4⟩ := erase_alive hok hlt ha
    have h1 := hok.erase hlt
    have h2 := erase_g ch (h * n + k)
    obtain ⟨w1, w2, w3, w4⟩ := wipeN_alive (n := n) (h := h) k h1 (by omega) (by rw [h2]; exact hs) e2
    have hz : (ch.erase (h * n + k)).1.z = ch.z := by unfold Chip.z; rw [h2]
    unfold wipeN
    rw [if_pos e1]
    refine ⟨w1, w2, fun lo m hf => w3 lo m (e4 lo m hf), fun s hs1 hs2 => ?_⟩
    by_cases hsk : s = h * n + k
    · subst hsk
      exact w3 _ _ e3
    · have := w4 s hs1 (by omega)
      rw [hz] at this
      exact this
theorem hsz_eq {g : Geo} (hg : GeoOk g) : hsz g = nsec g * g.sector.toNat := by
  have h1 := hg.s
  have h2 := hg.z
  unfold hsz nsec halfSize
  apply Int.ofNat_inj.1
  rw [Int.natCast_mul, Int.toNat_of_nonneg (Int.mul_nonneg (by omega) (by omega)), Int.toNat_of_nonneg (by omega), Int.toNat_of_nonneg (by omega)]
/-- A half that was wiped. -/
theorem wiped {ad : Ad} {ch : Chip} {h : Nat} (hok : ChipOk ad ch) (hh : h < 2) (ha : Alive ch.pw) :
    (wipeN (nsec ch.g) h (nsec ch.g) ch).2 = 0 ∧ Alive (wipeN (nsec ch.g) h (nsec ch.g) ch).1.pw ∧ Ff (wipeN (nsec ch.g) h (nsec ch.g) ch).1.b (h * hsz ch.g) (hsz ch.g) ∧ ∀ lo m, Ff ch.b lo m → Ff (wipeN (nsec ch.g) h (nsec ch.g) ch).1.b lo m := by
  have hns : ch.g.sectors = 2 * (nsec ch.g : Int) := by have := hok.geo.even; have := hok.geo.s; unfold nsec; omega
  have hhs : h * nsec ch.g ≤ nsec ch.g := by rcases (by omega : h = 0 ∨ h = 1) with h | h <;> rw [h] <;> omega
  obtain ⟨w1, w2, w3, w4⟩ := wipeN_alive (n := nsec ch.g) (h := h) (nsec ch.g) hok (Nat.le_refl _) (by omega) ha
  refine ⟨w1, w2, ?_, w3⟩
  intro i h1 h2
  have hz : 0 < ch.z := by have := hok.geo.z; unfold Chip.z; omega
  have he : hsz ch.g = nsec ch.g * ch.z := hsz_eq hok.geo
  rw [he, ← Nat.mul_assoc] at h1
  rw [he, ← Nat.mul_assoc, ← Nat.add_mul] at h2
  have hs1 : h * nsec ch.g ≤ i / ch.z := (Nat.le_div_iff_mul_le hz).2 h1
  have hs2 : i / ch.z < h * nsec ch.g + nsec ch.g := (Nat.div_lt_iff_lt_mul hz).2 h2
  have hm := Nat.div_add_mod i ch.z
  have hlt := Nat.mod_lt i hz
  rw [Nat.mul_comm] at hm
  exact w4 (i / ch.z) hs1 hs2 i (by omega) (by omega)
end Go.Proofs.Ytaeeahcokiebdaa
