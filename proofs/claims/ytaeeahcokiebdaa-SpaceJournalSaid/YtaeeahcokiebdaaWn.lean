/-
  The walks of a state's first record, of sums, and of records.
  Conditions: sizes that the program's code handles.
-/
import Derived.Test.YtaeeahcokiebdaaWm
import Derived.Laws.BitsAllLaws
namespace Go.Proofs.Ytaeeahcokiebdaa
set_option maxRecDepth 20000

theorem sb_nil (M : Mem) : SB M Option.none [] := Sl.empty
/-- What the first record of a state has. -/
def firstB (epoch : Int) (s : Sta) : List UInt8 := intB epoch ++ deedsB (whole s)
theorem first_spec (M : Mem) (epoch : Int) (s : StaD) (hs : SOk M s) (hk : StaOk s.v) (hb : (deedsB (whole s.v)).length ≤ 10000000) :
    Spec Try.prog 17 [intV epoch, .agg (staDL s).toArray] M [] (fun v _ H => OwnB (firstB epoch s.v) v H) := by
  refine Spec.of_code 11 Try.func17 rfl callable17 rfl rfl fun w => ?_
  refine C.region_seq ?_
  refine G.dyn rfl rfl rfl ?_
  refine Dyn.boxAgg rfl ?_
  intro b3
  refine G.value rfl rfl rfl (Sure.assign rfl) ?_
  refine G.nil ?_
  -- draws its order
  refine C.draw_seq (_) mixed (by kernel_rfl) (Incl.refl _) ?_
  refine GD.val 0 rfl rfl rfl rfl (by kernel_rfl) rfl (Sure.move rfl) ?_
  refine GD.val 2 rfl rfl rfl rfl (by kernel_rfl) rfl (Sure.loadAgg rfl (by first | exact Rd.h0 | exact Rd.tl Rd.h0 | exact Rd.tl (Rd.tl Rd.h0) | exact Rd.tl (Rd.tl (Rd.tl Rd.h0)) | exact Rd.tl (Rd.tl (Rd.tl (Rd.tl Rd.h0))) | exact Rd.tl (Rd.tl (Rd.tl (Rd.tl (Rd.tl Rd.h0)))) | exact Rd.m (by assumption) | assumption) rfl) ?_
  refine GD.one 1 (by kernel_rfl) rfl rfl (by kernel_rfl) ?_
  refine Next.call 1 rfl rfl rfl (by kernel_rfl) (by kernel_rfl) rfl rfl rfl rfl ((putInt_spec M Option.none 0 [] epoch (sb_nil M) (by simp))) (Split.nil) ?_
  rintro v1 M1 Hs1 le1 hown
  refine ⟨(by intro p hp; simp_all), ?_⟩
  refine GD.one 3 (by kernel_rfl) rfl rfl (by kernel_rfl) ?_
  refine Next.call 3 rfl rfl rfl (by kernel_rfl) (by kernel_rfl) rfl rfl rfl rfl (whole_spec M1 s (hs.mono le1) hk) (Split.nil) ?_
  rintro _ M2 _ le2 ⟨rfl, dl, p2, c2, rfl, hdl, hdv⟩
  refine ⟨(by intro p hp; simp_all), ?_⟩
  refine GD.one 4 (by kernel_rfl) rfl rfl (by kernel_rfl) ?_
  refine Next.call 4 rfl rfl rfl (by kernel_rfl) (by kernel_rfl) rfl rfl rfl rfl (deeds_spec M2 p2 c2 dl hdl (by rw [hdv]; exact hb)) (Split.nil) ?_
  rintro _ M3 _ le3 ⟨rfl, p3, c3, rfl, hs3⟩
  refine ⟨(by intro p hp; simp_all), ?_⟩
  refine GD.one 5 (by kernel_rfl) rfl rfl (by kernel_rfl) ?_
  refine Next.dyn 5 rfl rfl rfl (by kernel_rfl) (by kernel_rfl) rfl ?_
  refine Dyn.append (fun k h => by cases h) rfl rfl rfl hown PickL.here (Sl.heap hs3) (allOne_bytes _) (by rw [hdv]; simp; omega) (by rw [hdv]; simp; omega) ?_
  intro v2 Hs2 hown2
  refine ⟨MLe.refl _, by intro p hp; simp_all, ?_⟩
  refine GD.one 6 (by kernel_rfl) rfl rfl (by kernel_rfl) ?_
  refine Next.dyn 6 rfl rfl rfl (by kernel_rfl) (by kernel_rfl) rfl (Dyn.assign rfl ?_)
  refine ⟨MLe.refl _, (by first | exact Incl.refl _ | exact Incl.nil _ | exact Incl.cons (by simp) (Incl.nil _) | exact Incl.cons (by simp) (Incl.cons (by simp) (Incl.nil _)) | exact Incl.cons (by simp) (Incl.cons (by simp) (Incl.cons (by simp) (Incl.nil _)))), ?_⟩
  refine GD.done (by kernel_rfl) (by kernel_rfl) ?_
  refine C.ret ?_
  refine Fin.fn (Res.tmp rfl rfl) (Split.one PickL.here) ?_
  rw [hdv] at hown2
  show Own 1 v2 _ _ Hs2
  simpa [firstB, intB, Nat.add_comm] using hown2
/-- The two halves of a sum. -/
def sumStep (t : Nat × Nat) (c : UInt8) : Nat × Nat := ((t.1 + c.toNat) % 65521, (t.2 + (t.1 + c.toNat) % 65521) % 65521)
def sumN (l : List UInt8) : Nat × Nat := l.foldl sumStep (1, 0)
def sumOf (l : List UInt8) : Nat := (sumN l).2 * 65536 + (sumN l).1
theorem sumN_snoc (l : List UInt8) (c : UInt8) : sumN (l ++ [c]) = sumStep (sumN l) c := by simp [sumN]
theorem sumN_lt (l : List UInt8) : (sumN l).1 < 65521 ∧ (sumN l).2 < 65521 := by
  rcases List.eq_nil_or_concat l with rfl | ⟨a, c, rfl⟩
  · simp [sumN]
  · rw [List.concat_eq_append, sumN_snoc]; exact ⟨Nat.mod_lt _ (by decide), Nat.mod_lt _ (by decide)⟩
theorem sumOf_lt (l : List UInt8) : sumOf l < 4294967296 := by have := sumN_lt l; unfold sumOf; omega
theorem sum_spec (M : Mem) (p : Option Addr) (cap : Nat) (l : List UInt8) (hs : SB M p l) (hl : l.length ≤ 1000000000) :
    Spec Try.prog 59 [.slice p l.length cap] M [] (fun v _ H => H = [] ∧ v = .int .u32 (sumOf l)) := by
  refine Spec.of_code 27 Try.func59 rfl callable59 rfl rfl fun w => ?_
  refine C.region_seq ?_
  refine G.value rfl rfl rfl (Sure.assign rfl) ?_
  refine G.nil ?_
  refine C.region_seq ?_
  refine G.value rfl rfl rfl (Sure.assign rfl) ?_
  refine G.value rfl rfl rfl (Sure.assign rfl) ?_
  refine G.nil ?_
  refine C.seq ?_
  refine C.region_seq ?_
  refine G.value rfl rfl rfl (Sure.move rfl) ?_
  refine G.value rfl rfl rfl (Sure.len_slice rfl) ?_
  refine G.value rfl rfl rfl (Sure.move rfl) ?_
  refine G.nil ?_
  refine C.block ?_
  refine C.loop (fun k E M' H => ∃ (a b : List UInt8), MLe M M' ∧ l = a ++ b ∧ b.length = k ∧ E = [(3, .int .u32 (sumN a).1), (4, .int .u32 (sumN a).2), (7, .slice p l.length cap), (8, .int .i64 l.length), (9, .int .i64 a.length)] ∧ H = []) (l.length) ?_ ?_
  · exact ⟨_, _, ⟨[], l, MLe.refl _, rfl, rfl, rfl, rfl⟩, ⟨rfl, rfl, rfl, rfl, rfl, trivial⟩, _, Split.nil⟩
  · rintro k E M' H ⟨a, b, hle, rfl, hk, rfl, rfl⟩
    have hlen : (a ++ b).length = a.length + b.length := by simp
    have hlt := sumN_lt a
    refine C.region_seq ?_
    refine G.value rfl rfl rfl (Sure.lss rfl rfl) ?_
    refine G.nil ?_
    refine C.seq ?_
    refine C.cond_dec rfl (fun hlt2 => ?_) (fun hlt2 => ?_)
    · cases b with
      | nil => simp at hlt2
      | cons x b =>
        obtain ⟨q', o, c, rfl, hrd, hcell⟩ := Sl.cell (i := a.length) (v := byteV x) (Sl.heap (H := []) (hs.mono hle)) (by simp)
        have hx := x.toNat_lt
        refine C.skip ?_
        refine Fin.th ?_
        refine C.seq ?_
        refine C.block ?_
        refine C.region_seq ?_
        refine G.value rfl rfl rfl (Sure.indexAddr rfl rfl (by simp; omega)) ?_
        refine G.value rfl rfl rfl (Sure.load rfl hrd hcell) ?_
        unfold byteV
        refine G.value rfl rfl rfl (Sure.assign rfl) ?_
        refine G.nil ?_
        refine C.region_seq ?_
        refine G.value rfl rfl rfl (Sure.move rfl) ?_
        refine G.value rfl rfl rfl (Sure.move rfl) ?_
        refine G.value rfl rfl rfl (Sure.conv rfl (inK32 (by omega))) ?_
        refine G.value rfl rfl rfl (Sure.add rfl rfl (inK32 (by omega))) ?_
        refine G.value rfl rfl rfl (Sure.rem rfl rfl (by omega) (by decide)) ?_
        refine G.value rfl rfl rfl (Sure.assign rfl) ?_
        refine G.nil ?_
        refine C.region ?_
        refine G.value rfl rfl rfl (Sure.move rfl) ?_
        refine G.value rfl rfl rfl (Sure.move rfl) ?_
        refine G.value rfl rfl rfl (Sure.add rfl rfl (inK32 (by omega))) ?_
        refine G.value rfl rfl rfl (Sure.rem rfl rfl (by omega) (by decide)) ?_
        refine G.value rfl rfl rfl (Sure.assign rfl) ?_
        refine G.nil ?_
        refine Fin.blk ?_
        refine Fin.th ?_
        refine C.region ?_
        refine G.value rfl rfl rfl (Sure.add rfl rfl (inK64 (by omega))) ?_
        refine G.value rfl rfl rfl (Sure.move rfl) ?_
        refine G.nil ?_
        refine Fin.th ?_
        refine ⟨b.length, _, _, by simp at hk; omega, ⟨a ++ [x], b, hle, by simp, rfl, rfl, rfl⟩, ⟨?_, ?_, rfl, rfl, by simp; rfl, trivial⟩, _, Split.nil⟩
        · show some (Value.int .u32 _) = some (Value.int .u32 _)
          rw [sumN_snoc]; simp [sumStep]
        · show some (Value.int .u32 _) = some (Value.int .u32 _)
          rw [sumN_snoc]; simp [sumStep]
    · have hb0 : b = [] := List.eq_nil_of_length_eq_zero (by omega)
      subst hb0
      simp only [List.append_nil]
      refine C.exit ?_
      refine Fin.th_exit ?_
      refine Fin.th_exit ?_
      refine Fin.blk_eq ?_
      refine Fin.th ?_
      refine C.region_seq ?_
      refine G.value rfl rfl rfl (Sure.move rfl) ?_
      refine G.value rfl rfl rfl (Sure.shl rfl rfl (by simp [IntKind.bits])) ?_
      rw [show IntKind.u32.wrap (((sumN a).2 : Int) * 2 ^ (16 : Int).toNat) = (((sumN a).2 * 65536 : Nat) : Int) from by rw [IntKind.wrap_u32]; have e : (2 : Int) ^ (16 : Int).toNat = 65536 := rfl; rw [e]; omega]
      refine G.value rfl rfl rfl (Sure.move rfl) ?_
      refine G.value rfl rfl rfl (Sure.or rfl rfl) ?_
      refine G.value rfl rfl rfl (Sure.assign rfl) ?_
      refine G.nil ?_
      rw [Go.u32_or_nat _ _ (by omega) (by omega), show (sumN a).2 * 65536 ||| (sumN a).1 = sumOf a from by
        have := Nat.shiftLeft_add_eq_or_of_lt (i := 16) (b := (sumN a).1) (by omega) (sumN a).2
        rw [Nat.shiftLeft_eq, show (2 : Nat) ^ 16 = 65536 from rfl] at this
        unfold sumOf
        omega]
      refine C.ret ?_
      exact Fin.fn (Res.tmp rfl rfl) Split.nil ⟨rfl, rfl⟩
end Go.Proofs.Ytaeeahcokiebdaa
