/-
  The walks of copies of inodes, and of the search among them.
-/
import Derived.Test.YtaeeahcokiebdaaWp
import Derived.Test.YtaeeahcokiebdaaKk
namespace Go.Proofs.Ytaeeahcokiebdaa
set_option maxRecDepth 20000

/-- Inodes that the code owns. -/
def OwnI (l : List Ino) (v : Value) (M : Mem) (H : Heap) : Prop := ∃ dl : List InoD, dl.map InoD.x = l ∧ (∀ d ∈ dl, DOk M d) ∧ Own 7 v dl.length (dl.map inoDL).flatten H
theorem allOne_ino (d : InoD) : allOne (inoDL d) = true := rfl
theorem allOne_inos (l : List InoD) : allOne (l.map inoDL).flatten = true := allOne_flatten _ (by intro e he; obtain ⟨x, _, rfl⟩ := List.mem_map.1 he; rfl)
theorem inos_len (l : List InoD) : (l.map inoDL).flatten.length = l.length * 7 := by
  induction l with
  | nil => rfl
  | cons d l ih => simp at ih ⊢; omega
theorem copied_spec (M : Mem) (p : Option Addr) (cap : Nat) (l : List InoD) (hs : RInos M p l) (hl : l.length ≤ 1000000) (hk : ∀ d ∈ l, InoOk d.x) :
    Spec Try.prog 46 [.slice p l.length cap] M [] (fun v M' H => OwnI (l.map InoD.x) v M' H) := by
  refine Spec.of_code 19 Try.func46 rfl callable46 rfl rfl fun w => ?_
  refine C.region_seq ?_
  refine G.value rfl rfl rfl (Sure.assign rfl) ?_
  refine G.nil ?_
  refine C.region_seq ?_
  refine G.value rfl rfl rfl (Sure.assign rfl) ?_
  refine G.nil ?_
  refine C.seq ?_
  refine C.region_seq ?_
  refine G.value rfl rfl rfl (Sure.move rfl) ?_
  refine G.value rfl rfl rfl (Sure.len_slice rfl) ?_
  refine G.value rfl rfl rfl (Sure.move rfl) ?_
  refine G.nil ?_
  refine C.block ?_
  refine C.loop (fun k E M' H => ∃ (a b : List InoD) (v : Value) (dl : List InoD), MLe M M' ∧ l = a ++ b ∧ b.length = k ∧ dl.map InoD.x = a.map InoD.x ∧ (∀ d ∈ dl, DOk M' d) ∧ Own 7 v dl.length (dl.map inoDL).flatten H ∧ E = [(3, v), (6, .slice p l.length cap), (7, .int .i64 l.length), (8, .int .i64 a.length)]) (l.length) ?_ ?_
  · exact ⟨_, _, ⟨[], l, _, [], MLe.refl _, rfl, rfl, rfl, by simp, Own.nil, rfl⟩, ⟨rfl, rfl, rfl, rfl, trivial⟩, _, Split.nil⟩
  · rintro k E M' H ⟨a, b, v, dl, hle, rfl, hk', hdl, hok, hown, rfl⟩
    have hlen : (a ++ b).length = a.length + b.length := by simp
    have hdn : dl.length = a.length := by have := congrArg List.length hdl; simpa using this
    refine C.region_seq ?_
    refine G.value rfl rfl rfl (Sure.lss rfl rfl) ?_
    refine G.nil ?_
    refine C.seq ?_
    refine C.cond_dec rfl (fun hlt => ?_) (fun hlt => ?_)
    · cases b with
      | nil => simp at hlt
      | cons x b =>
        obtain ⟨q', o, c, rfl, hrd, hseg⟩ := SlL.row (i := a.length) (e := inoDL x) (SlL.heap (H := H) (hs.1.mono hle)) (by simp)
        refine C.skip ?_
        refine Fin.th ?_
        refine C.seq ?_
        refine C.block ?_
        refine C.region_seq ?_
        refine G.value rfl rfl rfl (Sure.indexAddr rfl rfl (by simp; omega)) ?_
        refine G.value rfl rfl rfl (Sure.loadAgg rfl hrd hseg) ?_
        refine G.dyn rfl rfl rfl ?_
        refine Dyn.allocAgg ?_
        intro b5
        refine G.dyn0 rfl rfl ?_
        refine Dyn.storeAgg rfl rfl (by first | exact Pick.here | exact Pick.there Pick.here | exact Pick.there (Pick.there Pick.here) | exact Pick.there (Pick.there (Pick.there Pick.here)) | exact Pick.there (Pick.there (Pick.there (Pick.there Pick.here))) | exact Pick.there (Pick.there (Pick.there (Pick.there (Pick.there Pick.here))))) rfl rfl rfl ?_
        refine G.nil ?_
        refine C.region ?_
        refine G.value rfl rfl rfl (Sure.move rfl) ?_
        refine G.value rfl rfl rfl (Sure.loadAgg rfl (by first | exact Rd.h0 | exact Rd.tl Rd.h0 | exact Rd.tl (Rd.tl Rd.h0) | exact Rd.tl (Rd.tl (Rd.tl Rd.h0)) | exact Rd.tl (Rd.tl (Rd.tl (Rd.tl Rd.h0))) | exact Rd.tl (Rd.tl (Rd.tl (Rd.tl (Rd.tl Rd.h0)))) | exact Rd.m (by assumption) | assumption) rfl) ?_
        refine G.call rfl rfl rfl rfl rfl rfl (own_spec M' x ((hs.2 x (by simp)).mono hle) (hk x (by simp))) (Split.nil) ?_
        rintro _ M2 _ le2 ⟨rfl, y, hyx, rfl, hy⟩
        refine G.dyn rfl rfl rfl ?_
        refine Dyn.buildSlice rfl rfl rfl (by simp [vcl]) (by decide) ?_
        intro b6
        refine G.dyn rfl rfl rfl ?_
        refine Dyn.append (fun k h => by cases h) rfl rfl rfl hown (PickL.there (PickL.there PickL.all)) (m := 1) (news := inoDL y) ⟨rfl, fun _ => ⟨b6, 0, _, rfl, Rd.h0, rfl⟩⟩ (allOne_ino _) (by omega) (by omega) ?_
        intro v2 Hs2 hown2
        refine G.value rfl rfl rfl (Sure.assign rfl) ?_
        refine G.nil ?_
        refine Fin.blk ?_
        refine Fin.th ?_
        refine C.region ?_
        refine G.value rfl rfl rfl (Sure.add rfl rfl (inK64 (by omega))) ?_
        refine G.value rfl rfl rfl (Sure.move rfl) ?_
        refine G.nil ?_
        refine Fin.th ?_
        have hfl : ((dl ++ [y]).map inoDL).flatten = (dl.map inoDL).flatten ++ inoDL y := by simp
        refine ⟨b.length, _, _, by simp at hk'; omega, ⟨a ++ [x], b, v2, dl ++ [y], hle.trans le2, by simp, rfl, by simp [hdl, hyx], ?_, ?_, rfl⟩, ⟨rfl, rfl, rfl, by simp; rfl, trivial⟩, _, Split.one PickL.here⟩
        · intro d hd
          rcases List.mem_append.1 hd with h | h
          · exact (hok d h).mono le2
          · rw [List.mem_singleton.1 h]; exact hy
        · rw [hfl, List.length_append]; exact hown2
    · have hb0 : b = [] := List.eq_nil_of_length_eq_zero (by omega)
      subst hb0
      simp only [List.append_nil]
      refine C.exit ?_
      refine Fin.th_exit ?_
      refine Fin.th_exit ?_
      refine Fin.blk_eq ?_
      refine Fin.th ?_
      refine C.region_seq ?_
      refine G.value rfl rfl rfl (Sure.move rfl) ?_
      refine G.value rfl rfl rfl (Sure.assign rfl) ?_
      refine G.nil ?_
      refine C.ret ?_
      exact Fin.fn (Res.tmp rfl rfl) (Split.one PickL.all) ⟨dl, hdl, hok, hown⟩
theorem Sl.incl {M H H' sz p n xs} (h : Sl M H sz p n xs) (hi : Incl H H') : Sl M H' sz p n xs :=
  ⟨h.1, fun hn => let ⟨b, o, c, h1, h2, h3⟩ := h.2 hn; ⟨b, o, c, h1, h2.elim Rd.m (fun h => .inr (hi _ h)), h3⟩⟩
/-- Where the first is that is so, or -1. -/
def ixOf {α : Type} (q : α → Bool) (l : List α) : Int := match l.findIdx? q with | some i => (i : Int) | Option.none => -1
theorem ixOf_at {α : Type} {q : α → Bool} {a b : List α} {x : α} (ha : ∀ d ∈ a, q d = false) (hx : q x = true) : ixOf q (a ++ x :: b) = a.length := by
  unfold ixOf
  rw [List.findIdx?_append, List.findIdx?_eq_none_iff.2 ha]
  simp [List.findIdx?_cons, hx]
theorem ixOf_none {α : Type} {q : α → Bool} {a : List α} (ha : ∀ d ∈ a, q d = false) : ixOf q a = -1 := by
  unfold ixOf
  rw [List.findIdx?_eq_none_iff.2 ha]
theorem indexFunc_spec (M : Mem) (p : Option Addr) (cap : Nat) (l : List InoD) (Hl Hc : Heap) (f : Nat) (capt : List Value) (q : InoD → Bool) (hs : Sl M Hl 7 p l.length (l.map inoDL).flatten) (hl : l.length ≤ 1000000000)
    (hf : ∀ d ∈ l, ∀ M', MLe M M' → Spec Try.prog f ([.agg (inoDL d).toArray] ++ capt) M' Hc (fun v _ H => v = .bool (q d) ∧ H = Hc)) :
    Spec Try.prog 66 [.slice p l.length cap, .func (.func f) #[] capt.toArray] M (Hl ++ Hc) (fun v _ H => v = .int .i64 (ixOf q l) ∧ H = Hl ++ Hc) := by
  refine Spec.of_code 19 Try.func66 rfl callable66 rfl rfl fun w => ?_
  refine C.region_seq ?_
  refine G.value rfl rfl rfl (Sure.assign rfl) ?_
  refine G.nil ?_
  refine C.seq ?_
  refine C.region_seq ?_
  refine G.value rfl rfl rfl (Sure.move rfl) ?_
  refine G.value rfl rfl rfl (Sure.len_slice rfl) ?_
  refine G.value rfl rfl rfl (Sure.move rfl) ?_
  refine G.nil ?_
  refine C.block ?_
  refine C.loop (fun k E M' H => ∃ (a b : List InoD), MLe M M' ∧ l = a ++ b ∧ b.length = k ∧ (∀ d ∈ a, q d = false) ∧ E = [(0, .slice p l.length cap), (1, .func (.func f) #[] capt.toArray), (7, .int .i64 l.length), (8, .int .i64 a.length)] ∧ H = Hl ++ Hc) (l.length) ?_ ?_
  · exact ⟨_, _, ⟨[], l, MLe.refl _, rfl, rfl, by simp, rfl, rfl⟩, ⟨rfl, rfl, rfl, rfl, trivial⟩, [], Split.one PickL.all⟩
  · rintro k E M' H ⟨a, b, hle, rfl, hk', hq, rfl, rfl⟩
    have hlen : (a ++ b).length = a.length + b.length := by simp
    refine C.region_seq ?_
    refine G.value rfl rfl rfl (Sure.lss rfl rfl) ?_
    refine G.nil ?_
    refine C.seq ?_
    refine C.cond_dec rfl (fun hlt => ?_) (fun hlt => ?_)
    · cases b with
      | nil => simp at hlt
      | cons x b =>
        have hsl : SlL M' (Hl ++ Hc) 7 p ((a ++ x :: b).map inoDL) := ⟨by intro e he; obtain ⟨x, _, rfl⟩ := List.mem_map.1 he; rfl, by rw [List.length_map]; exact (hs.mono hle).incl (fun p hp => by simp [hp])⟩
        obtain ⟨q', o, c, rfl, hrd, hseg⟩ := SlL.row (i := a.length) (e := inoDL x) hsl (by simp)
        refine C.skip ?_
        refine Fin.th ?_
        refine C.seq ?_
        refine C.block ?_
        refine C.region_seq ?_
        refine G.value rfl rfl rfl (Sure.move rfl) ?_
        refine G.value rfl rfl rfl (Sure.assign rfl) ?_
        refine G.nil ?_
        refine C.region_seq ?_
        refine G.value rfl rfl rfl (Sure.move rfl) ?_
        refine G.value rfl rfl rfl (Sure.move rfl) ?_
        refine G.value rfl rfl rfl (Sure.move rfl) ?_
        refine G.value rfl rfl rfl (Sure.indexAddr rfl rfl (by simp; omega)) ?_
        refine G.value rfl rfl rfl (Sure.loadAgg rfl hrd hseg) ?_
        refine G.call rfl rfl rfl rfl rfl rfl (hf x (by simp) M' hle) (Split.one (PickL.over PickL.all)) ?_
        rintro _ M2 H2 le2 ⟨rfl, rfl⟩
        refine G.nil ?_
        refine C.cond rfl (fun hc => ?_) (fun hc => ?_)
        · refine C.region_seq ?_
          refine G.value rfl rfl rfl (Sure.move rfl) ?_
          refine G.value rfl rfl rfl (Sure.assign rfl) ?_
          refine G.nil ?_
          refine C.ret ?_
          refine Fin.blk_ret ?_
          refine Fin.th_ret ?_
          refine Fin.th_ret ?_
          refine Fin.blk_ret ?_
          refine Fin.th_ret ?_
          refine Fin.fn (Res.tmp rfl rfl) (Split.consL (PickL.over PickL.here) (Split.one PickL.here)) ⟨?_, rfl⟩
          rw [ixOf_at hq hc]
        · refine C.skip ?_
          refine Fin.blk ?_
          refine Fin.th ?_
          refine C.region ?_
          refine G.value rfl rfl rfl (Sure.add rfl rfl (inK64 (by omega))) ?_
          refine G.value rfl rfl rfl (Sure.move rfl) ?_
          refine G.nil ?_
          refine Fin.th ?_
          refine ⟨b.length, _, _, by simp at hk'; omega, ⟨a ++ [x], b, hle.trans le2, by simp, rfl, ?_, rfl, rfl⟩, ⟨rfl, rfl, rfl, by simp; rfl, trivial⟩, _, Split.consL (PickL.over PickL.here) (Split.one PickL.here)⟩
          intro d hd
          rcases List.mem_append.1 hd with h | h
          · exact hq d h
          · rw [List.mem_singleton.1 h]; exact hc
    · have hb0 : b = [] := List.eq_nil_of_length_eq_zero (by omega)
      subst hb0
      simp only [List.append_nil]
      refine C.exit ?_
      refine Fin.th_exit ?_
      refine Fin.th_exit ?_
      refine Fin.blk_eq ?_
      refine Fin.th ?_
      refine C.region_seq ?_
      refine G.value rfl rfl rfl (Sure.assign rfl) ?_
      refine G.nil ?_
      refine C.ret ?_
      refine Fin.fn (Res.tmp rfl rfl) (Split.one PickL.all) ⟨?_, rfl⟩
      rw [ixOf_none hq]
end Go.Proofs.Ytaeeahcokiebdaa
