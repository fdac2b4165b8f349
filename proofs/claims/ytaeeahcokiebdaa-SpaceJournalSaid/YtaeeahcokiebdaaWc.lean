/-
  The walks of a chip whose bits are cleared one by one: sectors, steps, erasing.
  Conditions: the arguments are as each theorem says.
-/
import Derived.Test.YtaeeahcokiebdaaWb
namespace Go.Proofs.Ytaeeahcokiebdaa
set_option maxRecDepth 20000

theorem bits_or_u8 (x y : UInt8) : bits .or .u8 x.toNat y.toNat = ((x ||| y).toNat : Int) := by
  unfold bits
  have h : ∀ z : UInt8, BitVec.ofInt IntKind.u8.bits (z.toNat : Int) = z.toBitVec := by
    intro z
    apply BitVec.eq_of_toNat_eq
    simp [IntKind.bits]
  simp only [h]
  exact IntWalk.u8_in ((x ||| y).toNat : Int) (by have := (x ||| y).toNat_lt; omega)
theorem mid_get {A : List Value} {x : Value} {B : List Value} {i : Nat} (h : i = A.length) : (A ++ x :: B)[i]? = some x := by subst h; simp
theorem mid_set {A : List Value} {x y : Value} {B : List Value} {i : Nat} (h : i = A.length) : setSeg (A ++ x :: B) i [y] = some (A ++ y :: B) := by
  subst h
  rw [setSeg_eq (by simp)]
  simp
theorem set_spec (M : Mem) (bb o cap : Nat) (pre post : List Value) (bs : List UInt8) (m : UInt8) (hl : bs.length ≤ 100000) (ho : o = pre.length) :
    Spec Try.prog 56 [.slice (some ⟨bb, o, Option.none⟩) bs.length cap, byteV m] M [(bb, .cells (pre ++ (bs.map byteV ++ post)))]
      (fun _ _ H => H = [(bb, .cells (pre ++ ((bs.map (· ||| m)).map byteV ++ post)))]) := by
  refine Spec.of_code 18 Try.func56 rfl callable56 rfl rfl fun w => ?_
  refine C.region_seq ?_
  refine G.value rfl rfl rfl (Sure.move rfl) ?_
  refine G.value rfl rfl rfl (Sure.len_slice rfl) ?_
  refine G.value rfl rfl rfl (Sure.move rfl) ?_
  refine G.nil ?_
  refine C.block ?_
  refine C.loop (fun n E _ H => ∃ l r : List UInt8, bs = l ++ r ∧ r.length = n ∧ E = [(0, .slice (some ⟨bb, o, Option.none⟩) bs.length cap), (1, byteV m), (6, .int .i64 bs.length), (7, .int .i64 l.length)] ∧ H = [(bb, .cells ((pre ++ (l.map (· ||| m)).map byteV) ++ (r.map byteV ++ post)))]) (bs.length) ?_ ?_
  · exact ⟨_, _, ⟨[], bs, rfl, rfl, rfl, rfl⟩, ⟨rfl, rfl, rfl, rfl, trivial⟩, _, by simpa using Split.cons Pick.here Split.nil⟩
  · rintro n E M H ⟨l, r, hb, hn, rfl, rfl⟩
    have hlen : bs.length = l.length + r.length := by rw [hb]; simp
    refine C.region_seq ?_
    refine G.value rfl rfl rfl (Sure.lss rfl rfl) ?_
    refine G.nil ?_
    refine C.seq ?_
    refine C.cond_dec rfl (fun hlt => ?_) (fun hlt => ?_)
    · cases r with
      | nil => simp at hlen; omega
      | cons x r =>
        refine C.skip ?_
        refine Fin.th ?_
        refine C.seq ?_
        refine C.block ?_
        refine C.region_seq ?_
        refine G.value rfl rfl rfl (Sure.move rfl) ?_
        refine G.value rfl rfl rfl (Sure.assign rfl) ?_
        refine G.nil ?_
        refine C.region ?_
        refine G.value rfl rfl rfl (Sure.move rfl) ?_
        refine G.value rfl rfl rfl (Sure.move rfl) ?_
        refine G.value rfl rfl rfl (Sure.indexAddr rfl rfl (by simp at hlen ⊢; omega)) ?_
        refine G.value rfl rfl rfl (Sure.load rfl Rd.h0 (mid_get (by simp [ho]))) ?_
        refine G.value rfl rfl rfl (Sure.move rfl) ?_
        refine G.value rfl rfl rfl (Sure.or rfl rfl) ?_
        refine G.value rfl rfl rfl (Sure.indexAddr rfl rfl (by simp at hlen ⊢; omega)) ?_
        refine G.dyn0 rfl rfl ?_
        refine Dyn.store rfl rfl Pick.here rfl (mid_set (by simp [ho])) ?_
        refine G.nil ?_
        refine Fin.blk ?_
        refine Fin.th ?_
        refine C.region ?_
        refine G.value rfl rfl rfl (Sure.add rfl rfl (inK64 (by omega))) ?_
        refine G.value rfl rfl rfl (Sure.move rfl) ?_
        refine G.nil ?_
        refine Fin.th ?_
        refine ⟨r.length, _, _, ?_, ⟨l ++ [x], r, by simp [hb], rfl, rfl, rfl⟩, ⟨rfl, rfl, rfl, by simp; rfl, trivial⟩, ?_⟩
        · simp at hn; omega
        · simp only [bits_or_u8]
          simp
          exact ⟨_, Split.cons Pick.here Split.nil⟩
    · have hr : r = [] := List.eq_nil_of_length_eq_zero (by omega)
      subst hr
      refine C.exit ?_
      refine Fin.th_exit ?_
      refine Fin.th_exit ?_
      refine Fin.blk_eq ?_
      exact Fin.fn_normal (Res.none rfl) (Split.cons Pick.here Split.nil) (by simp [hb])

structure Ad where
  cb : Nat
  bb : Nat
  eb : Nat
  pb : Nat
  cap : Nat
  fv : Value
  junk : List Value
structure Chip where
  g : Geo
  b : List UInt8
  pw : Pw
  er : Cnt
abbrev chipL (ad : Ad) (ch : Chip) : List Value := [.int .i64 ch.g.sectors, .int .i64 ch.g.sector, .int .i64 ch.g.blocks, .int .i64 ch.g.pages, .int .i64 ch.g.page, ptr ad.pb,
  .slice (some ⟨ad.bb, 0, Option.none⟩) ch.b.length ad.cap, .map (some ad.eb)]
abbrev chipH (ad : Ad) (ch : Chip) : Heap := [(ad.cb, .cells (chipL ad ch)), (ad.bb, .cells (ch.b.map byteV ++ ad.junk)), (ad.eb, cntB ch.er), (ad.pb, .cells (pwL ch.pw ad.fv))]
structure ChipOk (ad : Ad) (ch : Chip) : Prop where
  geo : GeoOk ch.g
  len : (ch.b.length : Int) = ch.g.sectors * ch.g.sector
  cap : ch.b.length ≤ ad.cap
  pw : PwOk ch.pw
theorem ChipOk.size {ad ch} (h : ChipOk ad ch) : ch.b.length ≤ 65536 ∧ 512 ≤ ch.b.length := by
  have h1 := h.geo.s
  have h2 := h.geo.z
  have h3 : ch.g.sectors * ch.g.sector ≤ 16 * 4096 := Int.mul_le_mul (by omega) (by omega) (by omega) (by omega)
  have h4 : 2 * 256 ≤ ch.g.sectors * ch.g.sector := Int.mul_le_mul (by omega) (by omega) (by omega) (by omega)
  have := h.len
  omega
/-- Where a sector begins, and how many bytes it has. -/
def Chip.lo (ch : Chip) (s : Nat) : Nat := s * ch.g.sector.toNat
def Chip.z (ch : Chip) : Nat := ch.g.sector.toNat
theorem ChipOk.sector {ad ch} (h : ChipOk ad ch) {s : Nat} (hs : (s : Int) < ch.g.sectors) :
    (ch.z : Int) = ch.g.sector ∧ (ch.lo s : Int) = s * ch.g.sector ∧ ((ch.lo s + ch.z : Nat) : Int) = (s + 1) * ch.g.sector ∧ ch.lo s + ch.z ≤ ch.b.length ∧ 256 ≤ ch.z ∧ ch.z ≤ 4096 ∧ s < 16 := by
  have h1 := h.geo.s
  have h2 := h.geo.z
  have hz : (ch.z : Int) = ch.g.sector := by unfold Chip.z; omega
  have hlo : (ch.lo s : Int) = s * ch.g.sector := by unfold Chip.lo; rw [Int.natCast_mul]; unfold Chip.z at hz; rw [hz]
  have h3 : ((ch.lo s + ch.z : Nat) : Int) = (s + 1) * ch.g.sector := by rw [Int.natCast_add, hlo, hz, Int.add_mul, Int.one_mul]
  have h4 : ((s : Int) + 1) * ch.g.sector ≤ ch.g.sectors * ch.g.sector := Int.mul_le_mul_of_nonneg_right (by omega) (by omega)
  have := h.len
  exact ⟨hz, hlo, h3, by omega, by omega, by omega, by omega⟩
theorem ptr_eq_f {E M H d ty pos aft g t x y yt e b} {P : Program} [ht : TyU P t (.pointer e)] (hx : eev E x = some (ptr b)) (hy : eev E y = some (.pointer Option.none)) :
    Sure P ⟨d, .binOp .eql t x y yt, ty, pos, aft, g⟩ E M H (.bool false) := Sure.ptr_eq_nil (ht := ht) hx hy
theorem ptr_ne_t {E M H d ty pos aft g t x y yt e b} {P : Program} [ht : TyU P t (.pointer e)] (hx : eev E x = some (ptr b)) (hy : eev E y = some (.pointer Option.none)) :
    Sure P ⟨d, .binOp .neq t x y yt, ty, pos, aft, g⟩ E M H (.bool true) := Sure.ptr_ne_nil (ht := ht) hx hy
theorem sector_spec (M : Mem) (ad : Ad) (ch : Chip) (s : Nat) (h : ChipOk ad ch) (hs : (s : Int) < ch.g.sectors) :
    Spec Try.prog 54 [ptr ad.cb, .int .i64 s] M [(ad.cb, .cells (chipL ad ch))]
      (fun v _ H => v = .slice (some ⟨ad.bb, ch.lo s, Option.none⟩) ch.z (ad.cap - ch.lo s) ∧ H = [(ad.cb, .cells (chipL ad ch))]) := by
  obtain ⟨hz, hlo, hhi, hle, hz1, hz2, hs16⟩ := h.sector hs
  have hcap := h.cap
  have hsz := h.size
  refine Spec.of_code 40 Try.func54 rfl callable54 rfl rfl fun w => ?_
  refine C.region_seq ?_
  refine G.value rfl rfl rfl (Sure.assign rfl) ?_
  refine G.nil ?_
  refine C.seq ?_
  refine C.region_seq ?_
  refine G.value rfl rfl rfl (Sure.move rfl) ?_
  refine G.value rfl rfl rfl (ptr_eq_f rfl rfl) ?_
  refine G.value rfl rfl rfl (Sure.move rfl) ?_
  refine G.value rfl rfl rfl (Sure.move rfl) ?_
  refine G.value rfl rfl rfl ((Sure.lss rfl rfl).to_f (by omega)) ?_
  refine G.value rfl rfl rfl (Sure.pick_false rfl rfl) ?_
  refine G.value rfl rfl rfl (Sure.move rfl) ?_
  refine G.value rfl rfl rfl (Sure.move rfl) ?_
  refine G.value rfl rfl rfl (Sure.move rfl) ?_
  refine G.value rfl rfl rfl (Sure.nilCheck rfl) ?_
  refine G.value rfl rfl rfl (Sure.fieldAddr rfl) ?_
  refine G.value rfl rfl rfl (Sure.fieldAddr rfl) ?_
  refine G.value rfl rfl rfl (Sure.load rfl (by first | exact Rd.h0 | exact Rd.tl Rd.h0 | exact Rd.tl (Rd.tl Rd.h0) | exact Rd.tl (Rd.tl (Rd.tl Rd.h0)) | exact Rd.tl (Rd.tl (Rd.tl (Rd.tl Rd.h0))) | exact Rd.tl (Rd.tl (Rd.tl (Rd.tl (Rd.tl Rd.h0)))) | exact Rd.m (by assumption) | assumption) rfl) ?_
  refine G.value rfl rfl rfl ((Sure.geq rfl rfl).to_f (by omega)) ?_
  refine G.value rfl rfl rfl (Sure.pick_false rfl rfl) ?_
  refine G.nil ?_
  refine C.cond_false rfl ?_
  refine C.skip ?_
  refine Fin.th ?_
  -- draws its order
  refine C.draw_seq (_) mixed (by kernel_rfl) (Incl.refl _) ?_
  refine GD.val 0 rfl rfl rfl rfl (by kernel_rfl) rfl (Sure.move rfl) ?_
  refine GD.val 1 rfl rfl rfl rfl (by kernel_rfl) rfl (Sure.nilCheck rfl) ?_
  refine GD.val 2 rfl rfl rfl rfl (by kernel_rfl) rfl (Sure.fieldAddr rfl) ?_
  refine GD.val 3 rfl rfl rfl rfl (by kernel_rfl) rfl (Sure.load rfl (by first | exact Rd.h0 | exact Rd.tl Rd.h0 | exact Rd.tl (Rd.tl Rd.h0) | exact Rd.tl (Rd.tl (Rd.tl Rd.h0)) | exact Rd.tl (Rd.tl (Rd.tl (Rd.tl Rd.h0))) | exact Rd.tl (Rd.tl (Rd.tl (Rd.tl (Rd.tl Rd.h0)))) | exact Rd.m (by assumption) | assumption) rfl) ?_
  refine GD.val 4 rfl rfl rfl rfl (by kernel_rfl) rfl (Sure.move rfl) ?_
  refine GD.val 5 rfl rfl rfl rfl (by kernel_rfl) rfl (Sure.move rfl) ?_
  refine GD.val 6 rfl rfl rfl rfl (by kernel_rfl) rfl (Sure.nilCheck rfl) ?_
  refine GD.val 7 rfl rfl rfl rfl (by kernel_rfl) rfl (Sure.fieldAddr rfl) ?_
  refine GD.val 8 rfl rfl rfl rfl (by kernel_rfl) rfl (Sure.fieldAddr rfl) ?_
  refine GD.val 9 rfl rfl rfl rfl (by kernel_rfl) rfl (Sure.load rfl (by first | exact Rd.h0 | exact Rd.tl Rd.h0 | exact Rd.tl (Rd.tl Rd.h0) | exact Rd.tl (Rd.tl (Rd.tl Rd.h0)) | exact Rd.tl (Rd.tl (Rd.tl (Rd.tl Rd.h0))) | exact Rd.tl (Rd.tl (Rd.tl (Rd.tl (Rd.tl Rd.h0)))) | exact Rd.m (by assumption) | assumption) rfl) ?_
  refine GD.val 10 rfl rfl rfl rfl (by kernel_rfl) rfl (Sure.mul rfl rfl (inK64 (by omega))) ?_
  refine GD.val 11 rfl rfl rfl rfl (by kernel_rfl) rfl (Sure.move rfl) ?_
  refine GD.val 12 rfl rfl rfl rfl (by kernel_rfl) rfl (Sure.add rfl rfl (inK64 (by omega))) ?_
  refine GD.val 13 rfl rfl rfl rfl (by kernel_rfl) rfl (Sure.move rfl) ?_
  refine GD.val 14 rfl rfl rfl rfl (by kernel_rfl) rfl (Sure.nilCheck rfl) ?_
  refine GD.val 15 rfl rfl rfl rfl (by kernel_rfl) rfl (Sure.fieldAddr rfl) ?_
  refine GD.val 16 rfl rfl rfl rfl (by kernel_rfl) rfl (Sure.fieldAddr rfl) ?_
  refine GD.val 17 rfl rfl rfl rfl (by kernel_rfl) rfl (Sure.load rfl (by first | exact Rd.h0 | exact Rd.tl Rd.h0 | exact Rd.tl (Rd.tl Rd.h0) | exact Rd.tl (Rd.tl (Rd.tl Rd.h0)) | exact Rd.tl (Rd.tl (Rd.tl (Rd.tl Rd.h0))) | exact Rd.tl (Rd.tl (Rd.tl (Rd.tl (Rd.tl Rd.h0)))) | exact Rd.m (by assumption) | assumption) rfl) ?_
  refine GD.val 18 rfl rfl rfl rfl (by kernel_rfl) rfl (Sure.mul rfl rfl (inK64 (by omega))) ?_
  refine GD.val 19 rfl rfl rfl rfl (by kernel_rfl) rfl (Sure.slice (ch.lo s) (ch.lo s + ch.z) rfl rfl rfl (.inl (by rw [hlo])) (.inl (by rw [hhi])) (by omega) (by omega)) ?_
  refine GD.one 20 (by kernel_rfl) rfl rfl (by kernel_rfl) ?_
  refine Next.dyn 20 rfl rfl rfl (by kernel_rfl) (by kernel_rfl) rfl (Dyn.assign rfl ?_)
  refine ⟨MLe.refl _, (by first | exact Incl.refl _ | exact Incl.nil _ | exact Incl.cons (by simp) (Incl.nil _) | exact Incl.cons (by simp) (Incl.cons (by simp) (Incl.nil _)) | exact Incl.cons (by simp) (Incl.cons (by simp) (Incl.cons (by simp) (Incl.nil _)))), ?_⟩
  refine GD.done (by kernel_rfl) (by kernel_rfl) ?_
  refine C.ret ?_
  refine Fin.fn (Res.tmp rfl rfl) (Split.cons Pick.here Split.nil) ⟨?_, rfl⟩
  have hne : ¬ ad.cap = ch.lo s := by omega
  simp [subP, hne, addr_add]
end Go.Proofs.Ytaeeahcokiebdaa
