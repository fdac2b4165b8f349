/-
  The operations, one by one: what each comes to, over slots, immutable memory and owned blocks.
  Conditions: none; everything here is proved over any program.
-/
import Derived.Test.YtaeeahcokiebdaaKa
namespace Go.Proofs.Ytaeeahcokiebdaa
variable {P : Program}

/-! ### Facts on types -/
class TyI (P : Program) (t : TypeId) (agg : outParam Bool) (size : outParam Nat) : Prop where
  isAgg : ∀ w, (isAgg t).run P w = .ok agg w
  sizeOf : ∀ w, (sizeOf t).run P w = .ok size w
class TyU (P : Program) (t : TypeId) (d : outParam TypeDesc) : Prop where
  und : P.underlying t = some d
class TyZ (P : Program) (t : TypeId) (z : outParam Value) : Prop where
  zero : ∀ w, (zeroValue t).run P w = .ok z w
class TyB (P : Program) (t : TypeId) (b : outParam Nat) : Prop where
  bytes : ∃ i, P.info? t = some i ∧ i.bytes = b
class TyF (P : Program) (s : TypeId) (f : Nat) (off : outParam Nat) : Prop where
  place : ∃ fs fld, P.underlying s = some (.struct fs) ∧ fs[f]? = some fld ∧ fld.offset = off ∧ ∀ w, ∃ n, (Go.sizeOf fld.type).run P w = .ok n w ∧ n ≠ 0

/-! ### Cells -/
def takeN : Nat → List Value → Option (List Value)
  | 0, _ => some []
  | _ + 1, [] => Option.none
  | n + 1, x :: l => match takeN n l with
    | some r => some (x :: r)
    | Option.none => Option.none
def seg (c : List Value) (o n : Nat) : Option (List Value) := takeN n (c.drop o)
def ovr : List Value → List Value → Option (List Value)
  | c, [] => some c
  | [], _ :: _ => Option.none
  | _ :: c, v :: vs => match ovr c vs with
    | some r => some (v :: r)
    | Option.none => Option.none
def setSeg : List Value → Nat → List Value → Option (List Value)
  | c, 0, vs => ovr c vs
  | [], _ + 1, _ => Option.none
  | x :: c, o + 1, vs => match setSeg c o vs with
    | some r => some (x :: r)
    | Option.none => Option.none
theorem takeN_some : ∀ {n : Nat} {l r : List Value}, takeN n l = some r → r = l.take n ∧ n ≤ l.length
  | 0, l, r, h => by simp [takeN] at h; simp [h]
  | n + 1, [], r, h => by simp [takeN] at h
  | n + 1, x :: l, r, h => by
    simp only [takeN] at h
    split at h
    · rename_i r' h'
      obtain ⟨h1, h2⟩ := takeN_some h'
      simp at h
      subst h
      simp [h1, h2]
    · cases h
theorem takeN_eq {n : Nat} {l : List Value} (h : n ≤ l.length) : takeN n l = some (l.take n) := by
  induction n generalizing l with
  | zero => simp [takeN]
  | succ n ih =>
    cases l with
    | nil => simp at h
    | cons x l => simp at h; simp [takeN, ih h]
theorem seg_some {c o n r} (h : seg c o n = some r) : r = (c.drop o).take n ∧ r.length = n ∧ ∀ j v, r[j]? = some v → c[o + j]? = some v := by
  obtain ⟨h1, h2⟩ := takeN_some h
  refine ⟨h1, by rw [h1]; simp at h2 ⊢; omega, ?_⟩
  intro j v hv
  rw [h1, List.getElem?_take] at hv
  split at hv
  · simpa [List.getElem?_drop] using hv
  · cases hv
theorem ovr_some : ∀ {vs c r : List Value}, ovr c vs = some r → r = vs ++ c.drop vs.length ∧ vs.length ≤ c.length
  | [], c, r, h => by simp [ovr] at h; simp [h]
  | v :: vs, [], r, h => by simp [ovr] at h
  | v :: vs, x :: c, r, h => by
    simp only [ovr] at h
    split at h
    · rename_i r' h'
      obtain ⟨h1, h2⟩ := ovr_some h'
      simp at h
      subst h
      simp [h1, h2]
    · cases h
theorem setSeg_some : ∀ {c : List Value} {o : Nat} {vs r : List Value}, setSeg c o vs = some r → r = c.take o ++ vs ++ c.drop (o + vs.length) ∧ o + vs.length ≤ c.length
  | c, 0, vs, r, h => by
    have h' : ovr c vs = some r := by cases c <;> simpa [setSeg] using h
    obtain ⟨h1, h2⟩ := ovr_some h'
    simp [h1, h2]
  | [], o + 1, vs, r, h => by simp [setSeg] at h
  | x :: c, o + 1, vs, r, h => by
    simp only [setSeg] at h
    split at h
    · rename_i r' h'
      obtain ⟨h1, h2⟩ := setSeg_some h'
      simp at h
      subst h
      subst h1
      constructor
      · simp [Nat.add_right_comm]
      · simp; omega
    · cases h
theorem setSeg_eq {c : List Value} {o : Nat} {vs : List Value} (h : o + vs.length ≤ c.length) : setSeg c o vs = some (c.take o ++ vs ++ c.drop (o + vs.length)) := by
  induction o generalizing c with
  | zero =>
    have : ∀ (vs c : List Value), vs.length ≤ c.length → ovr c vs = some (vs ++ c.drop vs.length) := by
      intro vs
      induction vs with
      | nil => intro c _; simp [ovr]
      | cons v vs ih =>
        intro c hc
        cases c with
        | nil => simp at hc
        | cons x c => simp at hc; simp [ovr, ih c hc]
    have h0 := this vs c (by omega)
    cases c <;> simpa [setSeg] using h0
  | succ o ih =>
    cases c with
    | nil => simp at h
    | cons x c =>
      simp at h
      have := ih (c := c) (by omega)
      simp [setSeg, this, Nat.add_right_comm]
def allOne (l : List Value) : Bool := l.all Value.oneCell'

/-- A block whose cells are known. -/
def Rd (M : Mem) (H : Heap) (b : Nat) (c : List Value) : Prop := M b = some c ∨ (b, HB.cells c) ∈ H
theorem Rd.m {M H b c} (h : M b = some c) : Rd M H b c := .inl h
theorem Rd.h0 {M b c H} : Rd M ((b, .cells c) :: H) b c := .inr (List.mem_cons_self ..)
theorem Rd.tl {M p b c H} (h : Rd M H b c) : Rd M (p :: H) b c := h.imp id (List.mem_cons_of_mem _)
theorem Rd.over {M B b c H} (h : Rd M H b c) : Rd M (B ++ H) b c := h.imp id (fun h => List.mem_append.2 (.inr h))
theorem Rd.inLeft {M B b c H} (h : Rd M B b c) : Rd M (B ++ H) b c := h.imp id (fun h => List.mem_append.2 (.inl h))
theorem Rd.mono {M M' H b c} (h : Rd M H b c) (hl : MLe M M') : Rd M' H b c := h.imp (hl b c) id
theorem Rd.block {M H b c w} (h : Rd M H b c) (ha : Agr M w) (hh : Has H w) : ∃ T fz, w.heap[b]? = some (.cells c.toArray T fz) := by
  rcases h with h | h
  · exact ha b c h
  · obtain ⟨T, lo, hi, h1, _⟩ := hh _ h; exact ⟨T, _, h1⟩
theorem Rd.cell {M H b c w} (h : Rd M H b c) (ha : Agr M w) (hh : Has H w) {o v} (hv : c[o]? = some v) : w.cell? ⟨b, o, Option.none⟩ = some v := by
  obtain ⟨T, fz, h1⟩ := h.block ha hh
  simp [World.cell?, h1, hv]

/-! ### Operations that only compute and read -/
section sure
variable {E : Env} {M : Mem} {H : Heap} {d : Option Tmp} {ty : TypeId} {pos : String} {aft : Array Edge} {g : Option (Nat × Bool)}
theorem avail_ev {a : Act} {o : Oper} {x : Operand} {v : Value} (h : Avail E a o) (hm : x ∈ o.op.operands) (hx : eev E x = some v) : a.eval x = v := h x hm v hx
theorem Sure.move {x v} (hx : eev E x = some v) : Sure P ⟨d, .move x, ty, pos, aft, g⟩ E M H v := by
  intro a w hav _ _
  have h1 := avail_ev hav (x := x) (by simp [Op.operands]) hx
  simp [execOp, h1]
theorem Sure.assign {x v} (hx : eev E x = some v) : Sure P ⟨d, .assign x, ty, pos, aft, g⟩ E M H v := by
  intro a w hav _ _
  have h1 := avail_ev hav (x := x) (by simp [Op.operands]) hx
  simp [execOp, h1]
theorem Sure.pick_true {x y z v} (hx : eev E x = some (.bool true)) (hy : eev E y = some v) : Sure P ⟨d, .pick x y z, ty, pos, aft, g⟩ E M H v := by
  intro a w hav _ _
  have h1 := avail_ev hav (x := x) (by simp [Op.operands]) hx
  have h2 := avail_ev hav (x := y) (by simp [Op.operands]) hy
  simp [execOp, h1, h2, asBool]
theorem Sure.pick_false {x y z v} (hx : eev E x = some (.bool false)) (hz : eev E z = some v) : Sure P ⟨d, .pick x y z, ty, pos, aft, g⟩ E M H v := by
  intro a w hav _ _
  have h1 := avail_ev hav (x := x) (by simp [Op.operands]) hx
  have h2 := avail_ev hav (x := z) (by simp [Op.operands]) hz
  simp [execOp, h1, h2, asBool]
theorem Sure.nilCheck {x p} (hx : eev E x = some (.pointer (some p))) : Sure P ⟨d, .nilCheck x, ty, pos, aft, g⟩ E M H (.pointer (some p)) := by
  intro a w hav _ _
  have h1 := avail_ev hav (x := x) (by simp [Op.operands]) hx
  simp [execOp, h1]
theorem Sure.extract {x i v} {vs : List Value} (hx : eev E x = some (.tuple vs.toArray)) (hi : vs[i]? = some v) : Sure P ⟨d, .extract x i, ty, pos, aft, g⟩ E M H v := by
  intro a w hav _ _
  have h1 := avail_ev hav (x := x) (by simp [Op.operands]) hx
  simp [execOp, h1, Instr.extract, hi]
theorem Sure.makeFunc {fn caps vs} (hc : evs E caps = some vs) : Sure P ⟨d, .makeFunc fn #[] caps.toArray, ty, pos, aft, g⟩ E M H (.func fn #[] vs.toArray) := by
  intro a w hav _ _
  have hev : ∀ (l : List Operand) (us : List Value), (∀ y ∈ l, ∀ v, eev E y = some v → a.eval y = v) → evs E l = some us → l.map a.eval = us := by
    intro l
    induction l with
    | nil => intro us _ h; simp [evs] at h; simp [h]
    | cons y l ih =>
      intro us hy h
      simp only [evs] at h
      cases h1 : eev E y with
      | none => simp [h1] at h
      | some u =>
        cases h2 : evs E l with
        | none => simp [h1, h2] at h
        | some us' =>
          simp [h1, h2] at h
          subst h
          simp [hy y (by simp) u h1, ih us' (fun z hz => hy z (by simp [hz])) h2]
  have h2 := hev caps vs (fun y hy v hv => hav y (by simp [Op.operands, hy]) v hv) hc
  simp [execOp, Instr.makeFunc, h2]

/-! numbers -/
theorem Sure.bin {op t x y yt u v r} (hx : eev E x = some u) (hy : eev E y = some v)
    (hr : ∀ w, (eqGuard op t x y u v).run P w = .ok () w) (hb : ∀ w, (binOp op t u v).run P w = .ok r w) : Sure P ⟨d, .binOp op t x y yt, ty, pos, aft, g⟩ E M H r := by
  intro a w hav _ _
  have h1 := avail_ev hav (x := x) (by simp [Op.operands]) hx
  have h2 := avail_ev hav (x := y) (by simp [Op.operands]) hy
  simp [execOp, h1, h2, hr, hb]
section ints
variable {t yt : TypeId} {x y : Operand} {k : IntKind} {a b : Int}
theorem eqGuard_int {op} {u} : ∀ w, (eqGuard op t x y (.int k a) u).run P w = .ok () w := fun w => by rw [eqGuard_at_int]; rfl
theorem Sure.add' (hx : eev E x = some (.int k a)) (hy : eev E y = some (.int k b)) : Sure P ⟨d, .binOp .add t x y yt, ty, pos, aft, g⟩ E M H (.int k (k.wrap (a + b))) :=
  Sure.bin hx hy eqGuard_int fun w => by simp [binOp, Op.intArith]
theorem Sure.sub' (hx : eev E x = some (.int k a)) (hy : eev E y = some (.int k b)) : Sure P ⟨d, .binOp .sub t x y yt, ty, pos, aft, g⟩ E M H (.int k (k.wrap (a - b))) :=
  Sure.bin hx hy eqGuard_int fun w => by simp [binOp, Op.intArith]
theorem Sure.mul' (hx : eev E x = some (.int k a)) (hy : eev E y = some (.int k b)) : Sure P ⟨d, .binOp .mul t x y yt, ty, pos, aft, g⟩ E M H (.int k (k.wrap (a * b))) :=
  Sure.bin hx hy eqGuard_int fun w => by simp [binOp, Op.intArith]
def InK (k : IntKind) (n : Int) : Prop := k.wrap n = n
theorem inK64 {n : Int} (h : -9223372036854775808 ≤ n ∧ n ≤ 9223372036854775807) : InK .i64 n := IntWalk.i64_in n h
theorem inK8 {n : Int} (h : 0 ≤ n ∧ n ≤ 255) : InK .u8 n := IntWalk.u8_in n h
theorem inK32 {n : Int} (h : 0 ≤ n ∧ n ≤ 4294967295) : InK .u32 n := IntWalk.u32_in n h
theorem inKu64 {n : Int} (h : 0 ≤ n ∧ n ≤ 18446744073709551615) : InK .u64 n := IntWalk.u64_in n h
theorem Sure.add (hx : eev E x = some (.int k a)) (hy : eev E y = some (.int k b)) (h : InK k (a + b)) : Sure P ⟨d, .binOp .add t x y yt, ty, pos, aft, g⟩ E M H (.int k (a + b)) := by
  have := Sure.add' (P := P) (M := M) (H := H) (d := d) (ty := ty) (pos := pos) (aft := aft) (g := g) (t := t) (yt := yt) hx hy; rwa [show k.wrap (a + b) = a + b from h] at this
theorem Sure.sub (hx : eev E x = some (.int k a)) (hy : eev E y = some (.int k b)) (h : InK k (a - b)) : Sure P ⟨d, .binOp .sub t x y yt, ty, pos, aft, g⟩ E M H (.int k (a - b)) := by
  have := Sure.sub' (P := P) (M := M) (H := H) (d := d) (ty := ty) (pos := pos) (aft := aft) (g := g) (t := t) (yt := yt) hx hy; rwa [show k.wrap (a - b) = a - b from h] at this
theorem Sure.mul (hx : eev E x = some (.int k a)) (hy : eev E y = some (.int k b)) (h : InK k (a * b)) : Sure P ⟨d, .binOp .mul t x y yt, ty, pos, aft, g⟩ E M H (.int k (a * b)) := by
  have := Sure.mul' (P := P) (M := M) (H := H) (d := d) (ty := ty) (pos := pos) (aft := aft) (g := g) (t := t) (yt := yt) hx hy; rwa [show k.wrap (a * b) = a * b from h] at this
theorem Sure.quo (hx : eev E x = some (.int k a)) (hy : eev E y = some (.int k b)) (ha : 0 ≤ a) (hb : 0 < b) (h : InK k (a / b)) : Sure P ⟨d, .binOp .quo t x y yt, ty, pos, aft, g⟩ E M H (.int k (a / b)) :=
  Sure.bin hx hy eqGuard_int fun w => by
    have : b ≠ 0 := by omega
    simp [binOp, Op.intDiv, this, Int.tdiv_eq_ediv_of_nonneg ha, show k.wrap (a / b) = a / b from h]
theorem Sure.rem (hx : eev E x = some (.int k a)) (hy : eev E y = some (.int k b)) (ha : 0 ≤ a) (hb : 0 < b) : Sure P ⟨d, .binOp .rem t x y yt, ty, pos, aft, g⟩ E M H (.int k (a % b)) :=
  Sure.bin hx hy eqGuard_int fun w => by
    have : b ≠ 0 := by omega
    simp [binOp, Op.intDiv, this, Int.tmod_eq_emod_of_nonneg ha]
theorem Sure.rem' (hx : eev E x = some (.int k a)) (hy : eev E y = some (.int k b)) (hb : b ≠ 0) : Sure P ⟨d, .binOp .rem t x y yt, ty, pos, aft, g⟩ E M H (.int k (a.tmod b)) :=
  Sure.bin hx hy eqGuard_int fun w => by
    simp [binOp, Op.intDiv, hb]
theorem Sure.lss (hx : eev E x = some (.int k a)) (hy : eev E y = some (.int k b)) : Sure P ⟨d, .binOp .lss t x y yt, ty, pos, aft, g⟩ E M H (.bool (decide (a < b))) :=
  Sure.bin hx hy eqGuard_int fun w => by simp [binOp, Op.intCmp]
theorem Sure.leq (hx : eev E x = some (.int k a)) (hy : eev E y = some (.int k b)) : Sure P ⟨d, .binOp .leq t x y yt, ty, pos, aft, g⟩ E M H (.bool (decide (a ≤ b))) :=
  Sure.bin hx hy eqGuard_int fun w => by simp [binOp, Op.intCmp]
theorem Sure.gtr (hx : eev E x = some (.int k a)) (hy : eev E y = some (.int k b)) : Sure P ⟨d, .binOp .gtr t x y yt, ty, pos, aft, g⟩ E M H (.bool (decide (b < a))) :=
  Sure.bin hx hy eqGuard_int fun w => by simp [binOp, Op.intCmp]
theorem Sure.geq (hx : eev E x = some (.int k a)) (hy : eev E y = some (.int k b)) : Sure P ⟨d, .binOp .geq t x y yt, ty, pos, aft, g⟩ E M H (.bool (decide (b ≤ a))) :=
  Sure.bin hx hy eqGuard_int fun w => by simp [binOp, Op.intCmp]
theorem Sure.eql (hx : eev E x = some (.int k a)) (hy : eev E y = some (.int k b)) : Sure P ⟨d, .binOp .eql t x y yt, ty, pos, aft, g⟩ E M H (.bool (decide (a = b))) :=
  Sure.bin hx hy eqGuard_int fun w => by simp [binOp, Op.intCmp]; rfl
theorem Sure.neq (hx : eev E x = some (.int k a)) (hy : eev E y = some (.int k b)) : Sure P ⟨d, .binOp .neq t x y yt, ty, pos, aft, g⟩ E M H (.bool (decide (a ≠ b))) :=
  Sure.bin hx hy eqGuard_int fun w => by simp [binOp, Op.intCmp]; rfl
theorem Sure.and (hx : eev E x = some (.int k a)) (hy : eev E y = some (.int k b)) : Sure P ⟨d, .binOp .and t x y yt, ty, pos, aft, g⟩ E M H (.int k (bits .and k a b)) :=
  Sure.bin hx hy eqGuard_int fun w => by simp [binOp, intBits_and]
theorem Sure.or (hx : eev E x = some (.int k a)) (hy : eev E y = some (.int k b)) : Sure P ⟨d, .binOp .or t x y yt, ty, pos, aft, g⟩ E M H (.int k (bits .or k a b)) :=
  Sure.bin hx hy eqGuard_int fun w => by simp [binOp, intBits_or]
theorem Sure.xor (hx : eev E x = some (.int k a)) (hy : eev E y = some (.int k b)) : Sure P ⟨d, .binOp .xor t x y yt, ty, pos, aft, g⟩ E M H (.int k (bits .xor k a b)) :=
  Sure.bin hx hy eqGuard_int fun w => by simp [binOp, intBits_xor]
theorem Sure.andNot (hx : eev E x = some (.int k a)) (hy : eev E y = some (.int k b)) : Sure P ⟨d, .binOp .andNot t x y yt, ty, pos, aft, g⟩ E M H (.int k (bits .andNot k a b)) :=
  Sure.bin hx hy eqGuard_int fun w => by simp [binOp, intBits_andNot]
theorem Sure.shl {k' : IntKind} (hx : eev E x = some (.int k a)) (hy : eev E y = some (.int k' b)) (h : 0 ≤ b ∧ b ≤ k.bits) : Sure P ⟨d, .binOp .shl t x y yt, ty, pos, aft, g⟩ E M H (.int k (k.wrap (a * 2 ^ b.toNat))) :=
  Sure.bin hx hy eqGuard_int fun w => by rw [binOp_shl, shift_shl k k' a b h.1 h.2]; rfl
theorem Sure.shr {k' : IntKind} (hx : eev E x = some (.int k a)) (hy : eev E y = some (.int k' b)) (h : 0 ≤ b ∧ b ≤ k.bits) : Sure P ⟨d, .binOp .shr t x y yt, ty, pos, aft, g⟩ E M H (.int k (a / 2 ^ b.toNat)) :=
  Sure.bin hx hy eqGuard_int fun w => by rw [binOp_shr, shift_shr k k' a b h.1 h.2]; rfl
theorem Sure.conv' {src dst k2} {ds} [hs : TyU P src ds] [hd : TyU P dst (.int k2)] (hx : eev E x = some (.int k a)) : Sure P ⟨d, .convert src dst x, ty, pos, aft, g⟩ E M H (.int k2 (k2.wrap a)) := by
  intro ac w hav _ _
  have h1 := avail_ev hav (x := x) (by simp [Op.operands]) hx
  simp [execOp, h1, Go.convert, run_underlying hs.und, run_underlying hd.und, Conv.intToInt]
theorem Sure.conv {src dst k2} {ds} [hs : TyU P src ds] [hd : TyU P dst (.int k2)] (hx : eev E x = some (.int k a)) (h : InK k2 a) : Sure P ⟨d, .convert src dst x, ty, pos, aft, g⟩ E M H (.int k2 a) := by
  have := Sure.conv' (P := P) (M := M) (H := H) (d := d) (ty := ty) (pos := pos) (aft := aft) (g := g) (src := src) (dst := dst) hx; rwa [show k2.wrap a = a from h] at this
end ints
theorem Sure.not {t x b} (hx : eev E x = some (.bool b)) : Sure P ⟨d, .unOp .not t x, ty, pos, aft, g⟩ E M H (.bool (!b)) := by
  intro a w hav _ _
  have h1 := avail_ev hav (x := x) (by simp [Op.operands]) hx
  simp [execOp, h1, Op.unary]

/-! addresses and cells -/
theorem addr_add (b o n : Nat) : Addr.add ⟨b, o, Option.none⟩ n = ⟨b, o + n, Option.none⟩ := Addr.add_lit b o n
theorem Sure.fieldAddr {s x f off b o} [hf : TyF P s f off] (hx : eev E x = some (.pointer (some ⟨b, o, Option.none⟩))) : Sure P ⟨d, .fieldAddr s x f, ty, pos, aft, g⟩ E M H (.pointer (some ⟨b, o + off, Option.none⟩)) := by
  intro a w hav _ _
  have h1 := avail_ev hav (x := x) (by simp [Op.operands]) hx
  obtain ⟨fs, fld, h2, h3, h4, h5⟩ := hf.place
  obtain ⟨n, h6, h7⟩ := h5 w
  simp [execOp, h1, Instr.fieldAt, run_underlying h2, h3, Instr.sureAddr, fieldPlace, h6, h7, h4, addr_add]
theorem Sure.load {t x b o c v n} [ht : TyI P t false n] (hx : eev E x = some (.pointer (some ⟨b, o, Option.none⟩))) (hr : Rd M H b c) (hv : c[o]? = some v) : Sure P ⟨d, .load t x, ty, pos, aft, g⟩ E M H v := by
  intro a w hav ha hh
  have h1 := avail_ev hav (x := x) (by simp [Op.operands]) hx
  simp [execOp, h1, Instr.loadAt, Instr.sureAddr, loadVar, ht.isAgg, hr.cell ha hh hv]
theorem run_load_seg {b o n c vs w} (hc : seg c o n = some vs) (hcell : ∀ j v, c[j]? = some v → w.cell? ⟨b, j, Option.none⟩ = some v) : (loadCells ⟨b, o, Option.none⟩ n).run P w = .ok vs.toArray w := by
  obtain ⟨_, h2, h3⟩ := seg_some hc
  have := run_loadCells_list (P := P) w ⟨b, o, Option.none⟩ vs (fun j v hv => by rw [addr_add]; exact hcell _ _ (h3 j v hv))
  rwa [h2] at this
theorem Sure.loadAgg {t x b o c vs n} [ht : TyI P t true n] (hx : eev E x = some (.pointer (some ⟨b, o, Option.none⟩))) (hr : Rd M H b c) (hv : seg c o n = some vs) : Sure P ⟨d, .load t x, ty, pos, aft, g⟩ E M H (.agg vs.toArray) := by
  intro a w hav ha hh
  have h1 := avail_ev hav (x := x) (by simp [Op.operands]) hx
  have h2 := run_load_seg (P := P) (w := w) (b := b) hv (fun j v hj => hr.cell ha hh hj)
  simp [execOp, h1, Instr.loadAt, Instr.sureAddr, loadVar, ht.isAgg, ht.sizeOf, h2]
theorem Sure.indexAddr {t x y e n b o len cap k i agg} [ht : TyU P t (.slice e)] [he : TyI P e agg n] (hx : eev E x = some (.slice (some ⟨b, o, Option.none⟩) len cap)) (hy : eev E y = some (.int k i))
    (hi : 0 ≤ i ∧ i < len) : Sure P ⟨d, .indexAddr t x y, ty, pos, aft, g⟩ E M H (.pointer (some ⟨b, o + i.toNat * n, Option.none⟩)) := by
  intro a w hav ha hh
  have h1 := avail_ev hav (x := x) (by simp [Op.operands]) hx
  have h2 := avail_ev hav (x := y) (by simp [Op.operands]) hy
  have h3 : (sizeOf (P.elem t)).run P w = .ok n w := by simp [Program.elem, ht.und, he.sizeOf]
  have h4 := run_indexAt_slice (P := P) w t ⟨b, o, Option.none⟩ len cap k i (by simp [Program.elem, ht.und])
  rw [if_pos hi, h3] at h4
  simp [execOp, h1, h2, h4, addr_add]
theorem Sure.len_slice {t x e p n c} [ht : TyU P t (.slice e)] (hx : eev E x = some (.slice p n c)) : Sure P ⟨d, .call { callee := .builtin .len, args := #[x], argTypes := #[t] }, ty, pos, aft, g⟩ E M H (.int .i64 n) := by
  intro a w hav ha hh
  have h1 := avail_ev hav (x := x) (by simp [Op.operands, Call.operands]) hx
  simp [execOp, resolve, invoke, builtin, h1, Builtin.len_, run_underlying ht.und, goInt]
theorem Sure.cap_slice {t x e p n c} [ht : TyU P t (.slice e)] (hx : eev E x = some (.slice p n c)) : Sure P ⟨d, .call { callee := .builtin .cap, args := #[x], argTypes := #[t] }, ty, pos, aft, g⟩ E M H (.int .i64 c) := by
  intro a w hav ha hh
  have h1 := avail_ev hav (x := x) (by simp [Op.operands, Call.operands]) hx
  simp [execOp, resolve, invoke, builtin, h1, Builtin.cap_, run_underlying ht.und, goInt]
theorem Sure.len_string {t x s} [ht : TyU P t .string] (hx : eev E x = some (.string s)) : Sure P ⟨d, .call { callee := .builtin .len, args := #[x], argTypes := #[t] }, ty, pos, aft, g⟩ E M H (.int .i64 s.size) := by
  intro a w hav ha hh
  have h1 := avail_ev hav (x := x) (by simp [Op.operands, Call.operands]) hx
  simp [execOp, resolve, invoke, builtin, h1, Builtin.len_, run_underlying ht.und, goInt]

/-! comparing pointers, bools, slices with nil -/
theorem run_equal_ptr {t e p w} (ht : P.underlying t = some (.pointer e)) : (Op.equal t (.pointer p) (.pointer Option.none)).run P w = .ok p.isNone w := by
  show (Op.equalIn (9999 + 1) t (.pointer p) (.pointer Option.none)).run P w = _
  unfold Op.equalIn
  cases p <;> simp [run_underlying ht]
theorem run_equal_slice {t e p n c n' c' w} (ht : P.underlying t = some (.slice e)) : (Op.equal t (.slice p n c) (.slice Option.none n' c')).run P w = .ok p.isNone w := by
  show (Op.equalIn (9999 + 1) t (.slice p n c) (.slice Option.none n' c')).run P w = _
  unfold Op.equalIn
  cases p <;> simp [run_underlying ht]
theorem run_equal_bool {t u v w} (ht : P.underlying t = some .bool) : (Op.equal t (.bool u) (.bool v)).run P w = .ok (u == v) w := by
  show (Op.equalIn (9999 + 1) t (.bool u) (.bool v)).run P w = _
  unfold Op.equalIn
  simp [run_underlying ht]
theorem Sure.ptr_eq_nil {t x y yt e p} [ht : TyU P t (.pointer e)] (hx : eev E x = some (.pointer p)) (hy : eev E y = some (.pointer Option.none)) : Sure P ⟨d, .binOp .eql t x y yt, ty, pos, aft, g⟩ E M H (.bool p.isNone) :=
  Sure.bin hx hy (fun w => by rw [eqGuard_at_pointer]; rfl) fun w => by
    show (Op.equal t (.pointer p) (.pointer Option.none) >>= fun b => pure (Value.bool b)).run P w = _
    simp [run_equal_ptr ht.und]
theorem Sure.ptr_ne_nil {t x y yt e p} [ht : TyU P t (.pointer e)] (hx : eev E x = some (.pointer p)) (hy : eev E y = some (.pointer Option.none)) : Sure P ⟨d, .binOp .neq t x y yt, ty, pos, aft, g⟩ E M H (.bool (!p.isNone)) :=
  Sure.bin hx hy (fun w => by rw [eqGuard_at_pointer]; rfl) fun w => by
    show (Op.equal t (.pointer p) (.pointer Option.none) >>= fun b => pure (Value.bool (!b))).run P w = _
    simp only [Sem.run_bind, run_equal_ptr ht.und, Result.andThen_ok, Sem.run_pure]
theorem Sure.slice_eq_nil {t x y yt e p n c n' c'} [ht : TyU P t (.slice e)] (hx : eev E x = some (.slice p n c)) (hy : eev E y = some (.slice Option.none n' c')) : Sure P ⟨d, .binOp .eql t x y yt, ty, pos, aft, g⟩ E M H (.bool p.isNone) :=
  Sure.bin hx hy (fun w => by rw [eqGuard_at_slice]; rfl) fun w => by
    show (Op.equal t (.slice p n c) (.slice Option.none n' c') >>= fun b => pure (Value.bool b)).run P w = _
    simp [run_equal_slice ht.und]
theorem Sure.bool_eql {t x y yt u v} [ht : TyU P t .bool] (hx : eev E x = some (.bool u)) (hy : eev E y = some (.bool v)) : Sure P ⟨d, .binOp .eql t x y yt, ty, pos, aft, g⟩ E M H (.bool (u == v)) :=
  Sure.bin hx hy (fun w => by rw [eqGuard_at_bool]; rfl) fun w => by
    show (Op.equal t (.bool u) (.bool v) >>= fun b => pure (Value.bool b)).run P w = _
    simp [run_equal_bool ht.und]
theorem Sure.bool_neq {t x y yt u v} [ht : TyU P t .bool] (hx : eev E x = some (.bool u)) (hy : eev E y = some (.bool v)) : Sure P ⟨d, .binOp .neq t x y yt, ty, pos, aft, g⟩ E M H (.bool (!(u == v))) :=
  Sure.bin hx hy (fun w => by rw [eqGuard_at_bool]; rfl) fun w => by
    show (Op.equal t (.bool u) (.bool v) >>= fun b => pure (Value.bool (!b))).run P w = _
    simp only [Sem.run_bind, run_equal_bool ht.und, Result.andThen_ok, Sem.run_pure]
theorem Sure.str_eql {t x y yt u v} (hx : eev E x = some (.string u)) (hy : eev E y = some (.string v)) : Sure P ⟨d, .binOp .eql t x y yt, ty, pos, aft, g⟩ E M H (.bool (u.toList == v.toList)) :=
  Sure.bin hx hy (fun w => by rw [eqGuard_at_string]; rfl) fun w => by simp [binOp, Op.stringOp]
theorem Sure.str_neq {t x y yt u v} (hx : eev E x = some (.string u)) (hy : eev E y = some (.string v)) : Sure P ⟨d, .binOp .neq t x y yt, ty, pos, aft, g⟩ E M H (.bool (!(u.toList == v.toList))) :=
  Sure.bin hx hy (fun w => by rw [eqGuard_at_string]; rfl) fun w => by simp [binOp, Op.stringOp]
theorem Sure.str_add {t x y yt u v} (hx : eev E x = some (.string u)) (hy : eev E y = some (.string v)) (h : u.size + v.size ≤ 9223372036854775807) : Sure P ⟨d, .binOp .add t x y yt, ty, pos, aft, g⟩ E M H (.string (u ++ v)) :=
  Sure.bin hx hy (fun w => by rw [eqGuard_at_string]; rfl) fun w => by
    have : ¬ (9223372036854775807 < ((u.size : Int) + (v.size : Int))) := by omega
    simp [binOp, Op.stringOp, this]
theorem Sure.index_string {t x y k i u s} [ht : TyU P t .string] (hx : eev E x = some (.string s)) (hy : eev E y = some (.int k i)) (h0 : 0 ≤ i) (hi : s[i.toNat]? = some u) : Sure P ⟨d, .index t x y, ty, pos, aft, g⟩ E M H (.int .u8 u.toNat) := by
  intro a w hav ha hh
  have h1 := avail_ev hav (x := x) (by simp [Op.operands]) hx
  have h2 := avail_ev hav (x := y) (by simp [Op.operands]) hy
  simp [execOp, h1, h2, Instr.index, asIntOf, run_underlying ht.und, h0, hi]
end sure
end Go.Proofs.Ytaeeahcokiebdaa
