/-
  The walks of bad blocks' numbers.
-/
import Derived.Test.YtaeeahcokiebdaaWt
namespace Go.Proofs.Ytaeeahcokiebdaa
set_option maxRecDepth 20000

theorem allOne_ints (l : List Int) : allOne (l.map intV) = true := by
  unfold allOne; rw [List.all_eq_true]; intro v hv; obtain ⟨x, _, rfl⟩ := List.mem_map.1 hv; rfl
theorem index_spec (M : Mem) (p : Option Addr) (cap : Nat) (l : List Int) (x : Int) (Hl : Heap) (hs : Sl M Hl 1 p l.length (l.map intV)) (hl : l.length ≤ 1000000000) :
    Spec Try.prog 78 [.slice p l.length cap, intV x] M Hl (fun v _ H => v = .int .i64 (ixOf (fun y => decide (x = y)) l) ∧ H = Hl) := by
  refine Spec.of_code 19 Try.func78 rfl callable78 rfl rfl fun w => ?_
  refine C.region_seq ?_
  refine G.value rfl rfl rfl (Sure.assign rfl) ?_
  refine G.nil ?_
  refine C.seq ?_
  refine C.region_seq ?_
  refine G.value rfl rfl rfl (Sure.move rfl) ?_
  refine G.value rfl rfl rfl (Sure.len_slice rfl) ?_
  refine G.value rfl rfl rfl (Sure.move rfl) ?_
  refine G.nil ?_
  refine C.block ?_
  refine C.loop (fun k E M' H => ∃ (a b : List Int), MLe M M' ∧ l = a ++ b ∧ b.length = k ∧ (∀ d ∈ a, decide (x = d) = false) ∧ E = [(0, .slice p l.length cap), (1, intV x), (7, .int .i64 l.length), (8, .int .i64 a.length)] ∧ H = Hl) (l.length) ?_ ?_
  · exact ⟨_, _, ⟨[], l, MLe.refl _, rfl, rfl, by simp, rfl, rfl⟩, ⟨rfl, rfl, rfl, rfl, trivial⟩, [], Split.one PickL.all⟩
  · rintro k E M' H ⟨a, b, hle, rfl, hk', hq, rfl, rfl⟩
    have hlen : (a ++ b).length = a.length + b.length := by simp
    refine C.region_seq ?_
    refine G.value rfl rfl rfl (Sure.lss rfl rfl) ?_
    refine G.nil ?_
    refine C.seq ?_
    refine C.cond_dec rfl (fun hlt => ?_) (fun hlt => ?_)
    · cases b with
      | nil => simp at hlt
      | cons y b =>
        obtain ⟨q', o, c, rfl, hrd, hcell⟩ := Sl.cell (i := a.length) (v := intV y) (hs.mono hle) (by simp)
        refine C.skip ?_
        refine Fin.th ?_
        refine C.seq ?_
        refine C.block ?_
        refine C.region_seq ?_
        refine G.value rfl rfl rfl (Sure.move rfl) ?_
        refine G.value rfl rfl rfl (Sure.assign rfl) ?_
        refine G.nil ?_
        refine C.region_seq ?_
        refine G.value rfl rfl rfl (Sure.move rfl) ?_
        refine G.value rfl rfl rfl (Sure.move rfl) ?_
        refine G.value rfl rfl rfl (Sure.move rfl) ?_
        refine G.value rfl rfl rfl (Sure.indexAddr rfl rfl (by simp; omega)) ?_
        refine G.value rfl rfl rfl (Sure.load rfl hrd hcell) ?_
        refine G.value rfl rfl rfl (Sure.eql rfl rfl) ?_
        refine G.nil ?_
        refine C.cond_dec rfl (fun hc => ?_) (fun hc => ?_)
        · refine C.region_seq ?_
          refine G.value rfl rfl rfl (Sure.move rfl) ?_
          refine G.value rfl rfl rfl (Sure.assign rfl) ?_
          refine G.nil ?_
          refine C.ret ?_
          refine Fin.blk_ret ?_
          refine Fin.th_ret ?_
          refine Fin.th_ret ?_
          refine Fin.blk_ret ?_
          refine Fin.th_ret ?_
          refine Fin.fn (Res.tmp rfl rfl) (Split.one PickL.all) ⟨?_, rfl⟩
          rw [ixOf_at hq (decide_eq_true hc)]
        · refine C.skip ?_
          refine Fin.blk ?_
          refine Fin.th ?_
          refine C.region ?_
          refine G.value rfl rfl rfl (Sure.add rfl rfl (inK64 (by omega))) ?_
          refine G.value rfl rfl rfl (Sure.move rfl) ?_
          refine G.nil ?_
          refine Fin.th ?_
          refine ⟨b.length, _, _, by simp at hk'; omega, ⟨a ++ [y], b, hle, by simp, rfl, ?_, rfl, rfl⟩, ⟨rfl, rfl, rfl, by simp; rfl, trivial⟩, [], Split.one PickL.all⟩
          intro d hd
          rcases List.mem_append.1 hd with h | h
          · exact hq d h
          · rw [List.mem_singleton.1 h]; exact decide_eq_false hc
    · have hb0 : b = [] := List.eq_nil_of_length_eq_zero (by omega)
      subst hb0
      simp only [List.append_nil]
      refine C.exit ?_
      refine Fin.th_exit ?_
      refine Fin.th_exit ?_
      refine Fin.blk_eq ?_
      refine Fin.th ?_
      refine C.region_seq ?_
      refine G.value rfl rfl rfl (Sure.assign rfl) ?_
      refine G.nil ?_
      refine C.ret ?_
      refine Fin.fn (Res.tmp rfl rfl) (Split.one PickL.all) ⟨?_, rfl⟩
      rw [ixOf_none hq]
theorem contains_spec (M : Mem) (p : Option Addr) (cap : Nat) (l : List Int) (x : Int) (Hl : Heap) (hs : Sl M Hl 1 p l.length (l.map intV)) (hl : l.length ≤ 1000000000) :
    Spec Try.prog 70 [.slice p l.length cap, intV x] M Hl (fun v _ H => v = .bool (decide (0 ≤ ixOf (fun y => decide (x = y)) l)) ∧ H = Hl) := by
  refine Spec.of_code 9 Try.func70 rfl callable70 rfl rfl fun w => ?_
  refine C.region_seq ?_
  refine G.value rfl rfl rfl (Sure.assign rfl) ?_
  refine G.nil ?_
  refine C.region_seq ?_
  refine G.value rfl rfl rfl (Sure.move rfl) ?_
  refine G.value rfl rfl rfl (Sure.move rfl) ?_
  refine G.call rfl rfl rfl rfl rfl rfl (index_spec M p cap l x Hl hs hl) (Split.one PickL.all) ?_
  rintro _ M1 _ le1 ⟨rfl, rfl⟩
  refine G.value rfl rfl rfl (Sure.geq rfl rfl) ?_
  refine G.value rfl rfl rfl (Sure.assign rfl) ?_
  refine G.nil ?_
  refine C.ret ?_
  exact Fin.fn (Res.tmp rfl rfl) (Split.one PickL.here) ⟨rfl, rfl⟩
theorem indexFuncInt_spec (M : Mem) (p : Option Addr) (cap : Nat) (l : List Int) (Hl Hc : Heap) (f : Nat) (capt : List Value) (q : Int → Bool) (hs : Sl M Hl 1 p l.length (l.map intV)) (hl : l.length ≤ 1000000000)
    (hf : ∀ d ∈ l, ∀ M', MLe M M' → Spec Try.prog f ([intV d] ++ capt) M' Hc (fun v _ H => v = .bool (q d) ∧ H = Hc)) :
    Spec Try.prog 71 [.slice p l.length cap, .func (.func f) #[] capt.toArray] M (Hl ++ Hc) (fun v _ H => v = .int .i64 (ixOf q l) ∧ H = Hl ++ Hc) := by
  refine Spec.of_code 19 Try.func71 rfl callable71 rfl rfl fun w => ?_
  refine C.region_seq ?_
  refine G.value rfl rfl rfl (Sure.assign rfl) ?_
  refine G.nil ?_
  refine C.seq ?_
  refine C.region_seq ?_
  refine G.value rfl rfl rfl (Sure.move rfl) ?_
  refine G.value rfl rfl rfl (Sure.len_slice rfl) ?_
  refine G.value rfl rfl rfl (Sure.move rfl) ?_
  refine G.nil ?_
  refine C.block ?_
  refine C.loop (fun k E M' H => ∃ (a b : List Int), MLe M M' ∧ l = a ++ b ∧ b.length = k ∧ (∀ d ∈ a, q d = false) ∧ E = [(0, .slice p l.length cap), (1, .func (.func f) #[] capt.toArray), (7, .int .i64 l.length), (8, .int .i64 a.length)] ∧ H = Hl ++ Hc) (l.length) ?_ ?_
  · exact ⟨_, _, ⟨[], l, MLe.refl _, rfl, rfl, by simp, rfl, rfl⟩, ⟨rfl, rfl, rfl, rfl, trivial⟩, [], Split.one PickL.all⟩
  · rintro k E M' H ⟨a, b, hle, rfl, hk', hq, rfl, rfl⟩
    have hlen : (a ++ b).length = a.length + b.length := by simp
    refine C.region_seq ?_
    refine G.value rfl rfl rfl (Sure.lss rfl rfl) ?_
    refine G.nil ?_
    refine C.seq ?_
    refine C.cond_dec rfl (fun hlt => ?_) (fun hlt => ?_)
    · cases b with
      | nil => simp at hlt
      | cons x b =>
        obtain ⟨q', o, c, rfl, hrd, hcell⟩ := Sl.cell (i := a.length) (v := intV x) ((hs.mono hle).incl (H' := Hl ++ Hc) (fun p hp => by simp [hp])) (by simp)
        refine C.skip ?_
        refine Fin.th ?_
        refine C.seq ?_
        refine C.block ?_
        refine C.region_seq ?_
        refine G.value rfl rfl rfl (Sure.move rfl) ?_
        refine G.value rfl rfl rfl (Sure.assign rfl) ?_
        refine G.nil ?_
        refine C.region_seq ?_
        refine G.value rfl rfl rfl (Sure.move rfl) ?_
        refine G.value rfl rfl rfl (Sure.move rfl) ?_
        refine G.value rfl rfl rfl (Sure.move rfl) ?_
        refine G.value rfl rfl rfl (Sure.indexAddr rfl rfl (by simp; omega)) ?_
        refine G.value rfl rfl rfl (Sure.load rfl hrd hcell) ?_
        refine G.call rfl rfl rfl rfl rfl rfl (hf x (by simp) M' hle) (Split.one (PickL.over PickL.all)) ?_
        rintro _ M2 H2 le2 ⟨rfl, rfl⟩
        refine G.nil ?_
        refine C.cond rfl (fun hc => ?_) (fun hc => ?_)
        · refine C.region_seq ?_
          refine G.value rfl rfl rfl (Sure.move rfl) ?_
          refine G.value rfl rfl rfl (Sure.assign rfl) ?_
          refine G.nil ?_
          refine C.ret ?_
          refine Fin.blk_ret ?_
          refine Fin.th_ret ?_
          refine Fin.th_ret ?_
          refine Fin.blk_ret ?_
          refine Fin.th_ret ?_
          refine Fin.fn (Res.tmp rfl rfl) (Split.consL (PickL.over PickL.here) (Split.one PickL.here)) ⟨?_, rfl⟩
          rw [ixOf_at hq hc]
        · refine C.skip ?_
          refine Fin.blk ?_
          refine Fin.th ?_
          refine C.region ?_
          refine G.value rfl rfl rfl (Sure.add rfl rfl (inK64 (by omega))) ?_
          refine G.value rfl rfl rfl (Sure.move rfl) ?_
          refine G.nil ?_
          refine Fin.th ?_
          refine ⟨b.length, _, _, by simp at hk'; omega, ⟨a ++ [x], b, hle.trans le2, by simp, rfl, ?_, rfl, rfl⟩, ⟨rfl, rfl, rfl, by simp; rfl, trivial⟩, _, Split.consL (PickL.over PickL.here) (Split.one PickL.here)⟩
          intro d hd
          rcases List.mem_append.1 hd with h | h
          · exact hq d h
          · rw [List.mem_singleton.1 h]; exact hc
    · have hb0 : b = [] := List.eq_nil_of_length_eq_zero (by omega)
      subst hb0
      simp only [List.append_nil]
      refine C.exit ?_
      refine Fin.th_exit ?_
      refine Fin.th_exit ?_
      refine Fin.blk_eq ?_
      refine Fin.th ?_
      refine C.region_seq ?_
      refine G.value rfl rfl rfl (Sure.assign rfl) ?_
      refine G.nil ?_
      refine C.ret ?_
      refine Fin.fn (Res.tmp rfl rfl) (Split.one PickL.all) ⟨?_, rfl⟩
      rw [ixOf_none hq]
theorem bad1_spec (M : Mem) (b : Nat) (d x : Int) : Spec Try.prog 72 [intV d, ptr b] M [(b, .cells [intV x])] (fun v _ H => v = .bool (decide (x < d)) ∧ H = [(b, .cells [intV x])]) := by
  refine Spec.of_code 7 Try.func72 rfl callable72 rfl rfl fun w => ?_
  refine C.region_seq ?_
  refine G.value rfl rfl rfl (Sure.assign rfl) ?_
  refine G.nil ?_
  refine C.region_seq ?_
  refine G.value rfl rfl rfl (Sure.move rfl) ?_
  refine G.value rfl rfl rfl (Sure.load rfl (by first | exact Rd.h0 | exact Rd.tl Rd.h0 | exact Rd.tl (Rd.tl Rd.h0) | exact Rd.tl (Rd.tl (Rd.tl Rd.h0)) | exact Rd.tl (Rd.tl (Rd.tl (Rd.tl Rd.h0))) | exact Rd.tl (Rd.tl (Rd.tl (Rd.tl (Rd.tl Rd.h0)))) | exact Rd.m (by assumption) | assumption) rfl) ?_
  refine G.value rfl rfl rfl (Sure.gtr rfl rfl) ?_
  refine G.value rfl rfl rfl (Sure.assign rfl) ?_
  refine G.nil ?_
  refine C.ret ?_
  exact Fin.fn (Res.tmp rfl rfl) (Split.cons .here Split.nil) ⟨rfl, rfl⟩
/-- Numbers with one of them, once. -/
def badI (l : List Int) (x : Int) : List Int :=
  if 0 ≤ ixOf (fun y => decide (x = y)) l then l
  else if ixOf (fun y => decide (x < y)) l < 0 then l ++ [x]
  else l.take (ixOf (fun y => decide (x < y)) l).toNat ++ [x] ++ l.drop (ixOf (fun y => decide (x < y)) l).toNat
theorem bad_spec (M : Mem) (v : Value) (l : List Int) (x : Int) (Hs : Heap) (hown : Own 1 v l.length (l.map intV) Hs) (hl : l.length ≤ 2000000) :
    Spec Try.prog 51 [v, intV x] M Hs (fun r M' H => Own 1 r (badI l x).length ((badI l x).map intV) H) := by
  obtain ⟨p, cap, rfl, hsl⟩ := hown.slice
  refine Spec.of_code 22 Try.func51 rfl callable51 rfl rfl fun w => ?_
  refine C.region_seq ?_
  refine G.dyn rfl rfl rfl ?_
  refine Dyn.box rfl rfl ?_
  intro b3
  refine G.value rfl rfl rfl (Sure.assign rfl) ?_
  refine G.nil ?_
  refine C.seq ?_
  refine C.region_seq ?_
  refine G.value rfl rfl rfl (Sure.move rfl) ?_
  refine G.value rfl rfl rfl (Sure.load rfl (by first | exact Rd.h0 | exact Rd.tl Rd.h0 | exact Rd.tl (Rd.tl Rd.h0) | exact Rd.tl (Rd.tl (Rd.tl Rd.h0)) | exact Rd.tl (Rd.tl (Rd.tl (Rd.tl Rd.h0))) | exact Rd.tl (Rd.tl (Rd.tl (Rd.tl (Rd.tl Rd.h0)))) | exact Rd.m (by assumption) | assumption) rfl) ?_
  refine G.call rfl rfl rfl rfl rfl rfl (contains_spec M p cap l x Hs (hsl M) (by omega)) (Split.one (PickL.there PickL.all)) ?_
  rintro _ M2 Hs le2 ⟨rfl, rfl⟩
  refine G.nil ?_
  refine C.cond_dec rfl (fun hin => ?_) (fun hin => ?_)
  · refine C.region_seq ?_
    refine G.value rfl rfl rfl (Sure.move rfl) ?_
    refine G.value rfl rfl rfl (Sure.assign rfl) ?_
    refine G.nil ?_
    refine C.ret ?_
    refine Fin.th_ret ?_
    refine Fin.fn (Res.tmp rfl rfl) (Split.one PickL.here) ?_
    unfold badI
    rw [if_pos hin]
    exact hown
  · refine C.skip ?_
    refine Fin.th ?_
    refine C.region_seq ?_
    refine G.value rfl rfl rfl (Sure.move rfl) ?_
    refine G.value rfl rfl rfl (Sure.makeFunc rfl) ?_
    refine G.call rfl rfl rfl rfl rfl rfl (indexFuncInt_spec M2 p cap l Hs [(b3, .cells [intV x])] 72 [ptr b3] (fun d => decide (x < d)) (hsl M2) (by omega) (fun d _ M' _ => bad1_spec M' b3 d x)) (Split.one PickL.all) ?_
    rintro _ M3 _ le3 ⟨rfl, rfl⟩
    rw [List.append_nil]
    refine G.value rfl rfl rfl (Sure.assign rfl) ?_
    refine G.nil ?_
    refine C.seq ?_
    refine C.region_seq ?_
    refine G.value rfl rfl rfl (Sure.move rfl) ?_
    refine G.value rfl rfl rfl (Sure.lss rfl rfl) ?_
    refine G.nil ?_
    refine C.cond_dec rfl (fun hneg => ?_) (fun hneg => ?_)
    · refine C.region ?_
      refine G.value rfl rfl rfl (Sure.move rfl) ?_
      refine G.value rfl rfl rfl (Sure.len_slice rfl) ?_
      refine G.value rfl rfl rfl (Sure.assign rfl) ?_
      refine G.nil ?_
      refine Fin.th ?_
      refine C.region_seq ?_
      refine G.value rfl rfl rfl (Sure.move rfl) ?_
      refine G.value rfl rfl rfl (Sure.move rfl) ?_
      refine G.value rfl rfl rfl (Sure.load rfl (show Rd M3 _ b3 [intV x] from .inr (by simp)) rfl) ?_
      refine G.dyn rfl rfl rfl ?_
      refine Dyn.buildSlice rfl rfl rfl (by simp [vcl]) (by decide) ?_
      intro b6
      refine G.call rfl rfl rfl rfl rfl rfl (insertInt_spec M3 _ l.length l.length _ [intV x] Hs b6 hown (by omega) (by omega) rfl rfl (allOne_ints _)) (Split.consL (PickL.there PickL.here) (Split.cons .here Split.nil)) ?_
      rintro r5 M5 H5 le5 hown5
      refine G.value rfl rfl rfl (Sure.assign rfl) ?_
      refine G.nil ?_
      refine C.ret ?_
      refine Fin.fn (Res.tmp rfl rfl) (Split.one PickL.here) ?_
      unfold badI
      rw [if_neg hin, if_pos hneg]
      rw [Nat.mul_one, ← List.map_take, ← List.map_drop, List.take_length, List.drop_length] at hown5
      simpa using hown5
    · obtain ⟨i, hi, hil⟩ := ixOf_lt (Int.not_lt.1 hneg)
      rw [hi]
      refine C.skip ?_
      refine Fin.th ?_
      refine C.region_seq ?_
      refine G.value rfl rfl rfl (Sure.move rfl) ?_
      refine G.value rfl rfl rfl (Sure.move rfl) ?_
      refine G.value rfl rfl rfl (Sure.load rfl (show Rd M3 _ b3 [intV x] from .inr (by simp)) rfl) ?_
      refine G.dyn rfl rfl rfl ?_
      refine Dyn.buildSlice rfl rfl rfl (by simp [vcl]) (by decide) ?_
      intro b6
      refine G.call rfl rfl rfl rfl rfl rfl (insertInt_spec M3 _ l.length i _ [intV x] Hs b6 hown (by omega) (by omega) rfl rfl (allOne_ints _)) (Split.consL (PickL.there PickL.here) (Split.cons .here Split.nil)) ?_
      rintro r5 M5 H5 le5 hown5
      refine G.value rfl rfl rfl (Sure.assign rfl) ?_
      refine G.nil ?_
      refine C.ret ?_
      refine Fin.fn (Res.tmp rfl rfl) (Split.one PickL.here) ?_
      unfold badI
      rw [if_neg hin, if_neg hneg, hi, Int.toNat_natCast]
      rw [Nat.mul_one, ← List.map_take, ← List.map_drop] at hown5
      have e1 : (l.take i ++ [x] ++ l.drop i).map intV = (l.take i).map intV ++ [intV x] ++ (l.drop i).map intV := by simp
      rw [e1, show (l.take i ++ [x] ++ l.drop i).length = l.length + 1 from by simp; omega]
      exact hown5
end Go.Proofs.Ytaeeahcokiebdaa
