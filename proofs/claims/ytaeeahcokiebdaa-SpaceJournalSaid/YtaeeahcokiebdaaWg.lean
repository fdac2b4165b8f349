/-
  The walks of numbers and texts as bytes.
  Conditions: what is put together has at most a thousand million bytes.
-/
import Derived.Test.YtaeeahcokiebdaaWf
namespace Go.Proofs.Ytaeeahcokiebdaa
set_option maxRecDepth 20000

abbrev bytesV (b : List UInt8) : List Value := b.map byteV
/-- A slice that reads as these bytes. -/
def SB (M : Mem) (p : Option Addr) (bs : List UInt8) : Prop := Sl M [] 1 p bs.length (bytesV bs)
theorem SB.mono {M M' p bs} (h : SB M p bs) (hl : MLe M M') : SB M' p bs := Sl.mono h hl
theorem bytesV_len (b : List UInt8) : (bytesV b).length = b.length := by simp
theorem allOne_bytes (b : List UInt8) : allOne (bytesV b) = true := by
  unfold allOne; rw [List.all_eq_true]; intro v hv; obtain ⟨x, _, rfl⟩ := List.mem_map.1 hv; rfl
/-- What a function that makes bytes hands back: memory of its own. -/
abbrev OwnB (bs : List UInt8) (v : Value) (H : Heap) : Prop := Own 1 v bs.length (bytesV bs) H

theorem grow_spec (M : Mem) (n : Nat) (hn : n ≤ 1000000000) : Spec Try.prog 74 [.slice Option.none 0 0, .int .i64 n] M [] (fun v _ H => OwnB [] v H) := by
  refine Spec.of_code 27 Try.func74 rfl callable74 rfl rfl fun w => ?_
  refine C.region_seq ?_
  refine G.value rfl rfl rfl (Sure.assign rfl) ?_
  refine G.nil ?_
  refine C.seq ?_
  refine C.region_seq ?_
  refine G.value rfl rfl rfl (Sure.move rfl) ?_
  refine G.value rfl rfl rfl ((Sure.lss rfl rfl).to_f (by omega)) ?_
  refine G.nil ?_
  refine C.cond_false rfl ?_
  refine C.skip ?_
  refine Fin.th ?_
  refine C.seq ?_
  refine C.region_seq ?_
  refine G.value rfl rfl rfl (Sure.move rfl) ?_
  refine G.value rfl rfl rfl (Sure.move rfl) ?_
  refine G.value rfl rfl rfl (Sure.cap_slice rfl) ?_
  refine G.value rfl rfl rfl (Sure.move rfl) ?_
  refine G.value rfl rfl rfl (Sure.len_slice rfl) ?_
  refine G.value rfl rfl rfl (Sure.sub rfl rfl (inK64 (by omega))) ?_
  refine G.value rfl rfl rfl (Sure.sub rfl rfl (inK64 (by omega))) ?_
  refine G.value rfl rfl rfl (Sure.assign rfl) ?_
  refine G.nil ?_
  refine C.region_seq ?_
  refine G.value rfl rfl rfl (Sure.move rfl) ?_
  refine G.value rfl rfl rfl (Sure.gtr rfl rfl) ?_
  refine G.nil ?_
  refine C.cond_dec rfl (fun hpos => ?_) (fun hpos => ?_)
  · refine C.region ?_
    refine G.value rfl rfl rfl (Sure.move rfl) ?_
    refine G.value rfl rfl rfl (Sure.move rfl) ?_
    refine G.value rfl rfl rfl (Sure.cap_slice rfl) ?_
    refine G.value rfl rfl rfl (Sure.slice 0 0 rfl rfl rfl (.inr ⟨rfl, rfl⟩) (.inl rfl) (by omega) (by omega)) ?_
    refine G.value rfl rfl rfl (Sure.move rfl) ?_
    rw [show (n : Int) - ((0 : Nat) - (0 : Nat)) = n from by omega]
    refine G.dyn rfl rfl rfl ?_
    refine Dyn.appendMake (n := n) rfl rfl rfl (by simp at hpos; omega) (by omega) (by omega) ?_
    intro b cap hcap
    refine G.value rfl rfl rfl (Sure.move rfl) ?_
    refine G.value rfl rfl rfl (Sure.len_slice rfl) ?_
    refine G.value rfl rfl rfl (Sure.slice 0 0 rfl rfl rfl (.inr ⟨rfl, rfl⟩) (.inl rfl) (by omega) (by omega)) ?_
    refine G.value rfl rfl rfl (Sure.assign rfl) ?_
    refine G.nil ?_
    refine Fin.th ?_
    refine C.region_seq ?_
    refine G.value rfl rfl rfl (Sure.move rfl) ?_
    refine G.value rfl rfl rfl (Sure.assign rfl) ?_
    refine G.nil ?_
    refine C.ret ?_
    refine Fin.fn (Res.tmp rfl rfl) (Split.cons .here Split.nil) ⟨rfl, .inr ⟨b, cap, List.replicate cap (.int .u8 0), ?_, by simp, by simp, by simp⟩⟩
    simp [subP, addr_add]
  · refine C.skip ?_
    refine Fin.th ?_
    refine C.region_seq ?_
    refine G.value rfl rfl rfl (Sure.move rfl) ?_
    refine G.value rfl rfl rfl (Sure.assign rfl) ?_
    refine G.nil ?_
    refine C.ret ?_
    exact Fin.fn (Res.tmp rfl rfl) Split.nil Own.nil

abbrev BSl := Option Addr × Nat × List UInt8
abbrev bslV (t : BSl) : Value := .slice t.1 t.2.2.length t.2.1
def catL (l : List BSl) : List UInt8 := (l.map (·.2.2)).flatten
theorem catL_append (a b : List BSl) : catL (a ++ b) = catL a ++ catL b := by simp [catL]
theorem catL_cons (t : BSl) (b : List BSl) : catL (t :: b) = t.2.2 ++ catL b := by simp [catL]
theorem concat_spec (M : Mem) (p : Option Addr) (cap : Nat) (l : List BSl) (hl : Sl M [] 1 p l.length (l.map bslV)) (hb : ∀ t ∈ l, SB M t.1 t.2.2) (hn : (catL l).length ≤ 1000000000) (hc : l.length ≤ 1000000000) :
    Spec Try.prog 58 [.slice p l.length cap] M [] (fun v _ H => OwnB (catL l) v H) := by
  refine Spec.of_code 36 Try.func58 rfl callable58 rfl rfl fun w => ?_
  refine C.region_seq ?_
  refine G.value rfl rfl rfl (Sure.assign rfl) ?_
  refine G.nil ?_
  refine C.region_seq ?_
  refine G.value rfl rfl rfl (Sure.assign rfl) ?_
  refine G.nil ?_
  refine C.seq ?_
  refine C.region_seq ?_
  refine G.value rfl rfl rfl (Sure.move rfl) ?_
  refine G.value rfl rfl rfl (Sure.len_slice rfl) ?_
  refine G.value rfl rfl rfl (Sure.move rfl) ?_
  refine G.nil ?_
  refine C.block ?_
  refine C.loop (fun k E M' H => ∃ (a b : List BSl), MLe M M' ∧ l = a ++ b ∧ b.length = k ∧ E = [(0, .slice p l.length cap), (3, .int .i64 (catL a).length), (9, .slice p l.length cap), (10, .int .i64 l.length), (11, .int .i64 a.length)] ∧ H = []) (l.length) ?_ ?_
  · exact ⟨_, _, ⟨[], l, MLe.refl _, rfl, rfl, rfl, rfl⟩, ⟨rfl, rfl, rfl, rfl, rfl, trivial⟩, _, Split.nil⟩
  · rintro k E M' H ⟨a, b, hle, rfl, hk, rfl, rfl⟩
    have hlen : (a ++ b).length = a.length + b.length := by simp
    rw [catL_append, List.length_append] at hn
    refine C.region_seq ?_
    refine G.value rfl rfl rfl (Sure.lss rfl rfl) ?_
    refine G.nil ?_
    refine C.seq ?_
    refine C.cond_dec rfl (fun hlt => ?_) (fun hlt => ?_)
    · cases b with
      | nil => simp at hlt
      | cons t b =>
        rw [catL_cons, List.length_append] at hn
        obtain ⟨q, o, c, rfl, hrd, hcell⟩ := Sl.cell (i := a.length) (v := bslV t) (Sl.heap (H := []) (hl.mono hle)) (by simp)
        refine C.skip ?_
        refine Fin.th ?_
        refine C.seq ?_
        refine C.block ?_
        refine C.region_seq ?_
        refine G.value rfl rfl rfl (Sure.indexAddr rfl rfl (by simp; omega)) ?_
        refine G.value rfl rfl rfl (Sure.load rfl hrd hcell) ?_
        refine G.value rfl rfl rfl (Sure.assign rfl) ?_
        refine G.nil ?_
        refine C.region_seq ?_
        refine G.value rfl rfl rfl (Sure.move rfl) ?_
        refine G.value rfl rfl rfl (Sure.move rfl) ?_
        refine G.value rfl rfl rfl (Sure.len_slice rfl) ?_
        refine G.value rfl rfl rfl (Sure.add rfl rfl (inK64 (by omega))) ?_
        refine G.value rfl rfl rfl (Sure.assign rfl) ?_
        refine G.nil ?_
        refine C.region_seq ?_
        refine G.value rfl rfl rfl (Sure.move rfl) ?_
        refine G.value rfl rfl rfl ((Sure.lss rfl rfl).to_f (by omega)) ?_
        refine G.nil ?_
        refine C.cond_false rfl ?_
        refine C.skip ?_
        refine Fin.blk ?_
        refine Fin.th ?_
        refine C.region ?_
        refine G.value rfl rfl rfl (Sure.add rfl rfl (inK64 (by omega))) ?_
        refine G.value rfl rfl rfl (Sure.move rfl) ?_
        refine G.nil ?_
        refine Fin.th ?_
        refine ⟨b.length, _, _, by simp at hk; omega, ⟨a ++ [t], b, hle, by simp, rfl, rfl, rfl⟩, ⟨rfl, ?_, rfl, rfl, ?_, trivial⟩, _, Split.nil⟩
        · show some (Value.int .i64 (((catL a).length : Int) + (t.2.2.length : Int))) = _
          rw [catL_append, catL_cons]
          simp [catL]
        · simp; rfl
    · have hb0 : b = [] := List.eq_nil_of_length_eq_zero (by omega)
      subst hb0
      simp only [List.append_nil] at hl hb hc hlt ⊢
      clear hlen hk
      have hn : (catL a).length ≤ 1000000000 := by omega
      refine C.exit ?_
      refine Fin.th_exit ?_
      refine Fin.th_exit ?_
      refine Fin.blk_eq ?_
      refine Fin.th ?_
      refine C.region_seq ?_
      refine G.value rfl rfl rfl (Sure.move rfl) ?_
      refine G.call rfl rfl rfl rfl rfl rfl (grow_spec M' (catL a).length hn) (Split.nil) ?_
      rintro _ M1 Hs le1 hown
      refine G.value rfl rfl rfl (Sure.assign rfl) ?_
      refine G.nil ?_
      refine C.seq ?_
      refine C.region_seq ?_
      refine G.value rfl rfl rfl (Sure.move rfl) ?_
      refine G.value rfl rfl rfl (Sure.len_slice rfl) ?_
      refine G.value rfl rfl rfl (Sure.move rfl) ?_
      refine G.nil ?_
      refine C.block ?_
      refine C.loop (fun k E M' H => ∃ (a1 b1 : List BSl) (v : Value), MLe M M' ∧ a = a1 ++ b1 ∧ b1.length = k ∧ OwnB (catL a1) v H ∧ E = [(0, .slice p a.length cap), (6, v), (25, .slice p a.length cap), (26, .int .i64 a.length), (27, .int .i64 a1.length)]) (a.length) ?_ ?_
      · exact ⟨_, _, ⟨[], a, _, hle.trans le1, rfl, rfl, hown, rfl⟩, ⟨rfl, rfl, rfl, rfl, rfl, trivial⟩, _, Split.one PickL.here⟩
      · clear hle le1 hown
        rintro k E M' H ⟨a1, b1, v, hle, rfl, hk, hown, rfl⟩
        have hlen : (a1 ++ b1).length = a1.length + b1.length := by simp
        have hcat : (catL (a1 ++ b1)).length = (catL a1).length + (catL b1).length := by rw [catL_append]; simp
        refine C.region_seq ?_
        refine G.value rfl rfl rfl (Sure.lss rfl rfl) ?_
        refine G.nil ?_
        refine C.seq ?_
        refine C.cond_dec rfl (fun hlt2 => ?_) (fun hlt2 => ?_)
        · cases b1 with
          | nil => simp at hlt2
          | cons t b1 =>
            rw [catL_cons, List.length_append] at hcat
            obtain ⟨q, o, c, rfl, hrd, hcell⟩ := Sl.cell (i := a1.length) (v := bslV t) (Sl.heap (H := H) (hl.mono hle)) (by simp)
            refine C.skip ?_
            refine Fin.th ?_
            refine C.seq ?_
            refine C.block ?_
            refine C.region_seq ?_
            refine G.value rfl rfl rfl (Sure.indexAddr rfl rfl (by simp; omega)) ?_
            refine G.value rfl rfl rfl (Sure.load rfl hrd hcell) ?_
            refine G.value rfl rfl rfl (Sure.assign rfl) ?_
            refine G.nil ?_
            refine C.region ?_
            refine G.value rfl rfl rfl (Sure.move rfl) ?_
            refine G.value rfl rfl rfl (Sure.move rfl) ?_
            refine G.dyn rfl rfl rfl ?_
            refine Dyn.append (fun k h => by cases h) rfl rfl rfl hown PickL.all (Sl.heap ((hb t (by simp)).mono hle)) (allOne_bytes _) (by omega) (by omega) ?_
            intro v2 Hs2 hown2
            refine G.value rfl rfl rfl (Sure.assign rfl) ?_
            refine G.nil ?_
            refine Fin.blk ?_
            refine Fin.th ?_
            refine C.region ?_
            refine G.value rfl rfl rfl (Sure.add rfl rfl (inK64 (by omega))) ?_
            refine G.value rfl rfl rfl (Sure.move rfl) ?_
            refine G.nil ?_
            refine Fin.th ?_
            refine ⟨b1.length, _, _, by simp at hk; omega, ⟨a1 ++ [t], b1, v2, hle, by simp, rfl, ?_, rfl⟩, ⟨rfl, rfl, rfl, rfl, by simp; rfl, trivial⟩, _, Split.one PickL.here⟩
            have : OwnB (catL (a1 ++ [t])) v2 Hs2 := by
              unfold OwnB
              rw [catL_append]
              simp [catL] at hown2 ⊢
              exact hown2
            exact this
        · have hb0 : b1 = [] := List.eq_nil_of_length_eq_zero (by omega)
          subst hb0
          refine C.exit ?_
          refine Fin.th_exit ?_
          refine Fin.th_exit ?_
          refine Fin.blk_eq ?_
          refine Fin.th ?_
          refine C.region_seq ?_
          refine G.value rfl rfl rfl (Sure.move rfl) ?_
          refine G.value rfl rfl rfl (Sure.assign rfl) ?_
          refine G.nil ?_
          refine C.ret ?_
          refine Fin.fn (Res.tmp rfl rfl) (Split.one PickL.all) ?_
          simpa using hown
end Go.Proofs.Ytaeeahcokiebdaa
