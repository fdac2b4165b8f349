/-
  The walk of a state as deeds.
  Conditions: the lists are of sizes that the program's code handles.
-/
import Derived.Test.YtaeeahcokiebdaaWl
namespace Go.Proofs.Ytaeeahcokiebdaa
set_option maxRecDepth 20000

structure Sta where
  next : Int
  inos : List Ino
  bad : List Int
/-- A state, and where its lists lie. -/
structure StaD where
  next : Int
  inos : List InoD
  pi : Option Addr
  ci : Nat
  bad : List Int
  pb : Option Addr
  cb : Nat
def StaD.v (s : StaD) : Sta := ⟨s.next, s.inos.map InoD.x, s.bad⟩
abbrev staDL (s : StaD) : List Value := [intV s.next, .slice s.pi s.inos.length s.ci, .slice s.pb s.bad.length s.cb]
def SOk (M : Mem) (s : StaD) : Prop := RInos M s.pi s.inos ∧ Sl M [] 1 s.pb s.bad.length (s.bad.map intV)
theorem SOk.mono {M M' s} (h : SOk M s) (hl : MLe M M') : SOk M' s := ⟨h.1.mono hl, h.2.mono hl⟩
/-- A state of a size that the program's code handles. -/
def StaOk (s : Sta) : Prop := s.inos.length ≤ 1000000 ∧ s.bad.length ≤ 1000000 ∧ ∀ x ∈ s.inos, InoOk x
def ino0 : Ino := ⟨0, 0, 0, 0, ⟨#[]⟩, [], []⟩
def inoD0 : InoD := ⟨ino0, Option.none, 0, Option.none, 0⟩
theorem dOk0 (M : Mem) : DOk M inoD0 := ⟨⟨by simp [inoD0, ino0], Sl.empty⟩, ⟨by simp [inoD0, ino0], Sl.empty⟩⟩
def whole (s : Sta) : List Deed := ⟨1, s.next, ino0⟩ :: (s.inos.map fun x => ⟨2, 0, x⟩) ++ s.bad.map fun n => ⟨4, n, ino0⟩
/-- What a function that makes deeds hands back. -/
def RetDeeds (l : List Deed) (v : Value) (M : Mem) (H : Heap) : Prop := H = [] ∧ ∃ (dl : List DeedD) (p : Option Addr) (cap : Nat), v = .slice p dl.length cap ∧ RDeeds M p dl ∧ dl.map DeedD.v = l
theorem allOne_deed (d : DeedD) : allOne (deedDL d) = true := rfl
theorem deedDL_len (l : List DeedD) : (l.map deedDL).flatten.length = l.length * 9 := by
  induction l with
  | nil => rfl
  | cons d l ih => simp at ih ⊢; omega
theorem whole_spec (M : Mem) (s : StaD) (hs : SOk M s) (hk : StaOk s.v) : Spec Try.prog 25 [.agg (staDL s).toArray] M [] (fun v M' H => RetDeeds (whole s.v) v M' H) := by
  have hk1 : s.inos.length ≤ 1000000 := by simpa [StaD.v] using hk.1
  have hk2 : s.bad.length ≤ 1000000 := hk.2.1
  have hk3 : ∀ d ∈ s.inos, InoOk d.x := fun d hd => hk.2.2 d.x (by simpa [StaD.v] using ⟨d, hd, rfl⟩)
  refine Spec.of_code 40 Try.func25 rfl callable25 rfl rfl fun w => ?_
  refine C.region_seq ?_
  refine G.dyn rfl rfl rfl ?_
  refine Dyn.boxAgg rfl ?_
  intro b1
  refine G.value rfl rfl rfl (Sure.assign rfl) ?_
  refine G.nil ?_
  refine C.region_seq ?_
  refine G.value rfl rfl rfl (Sure.fieldAddr rfl) ?_
  refine G.value rfl rfl rfl (Sure.load rfl (by first | exact Rd.h0 | exact Rd.tl Rd.h0 | exact Rd.tl (Rd.tl Rd.h0) | exact Rd.tl (Rd.tl (Rd.tl Rd.h0)) | exact Rd.tl (Rd.tl (Rd.tl (Rd.tl Rd.h0))) | exact Rd.tl (Rd.tl (Rd.tl (Rd.tl (Rd.tl Rd.h0)))) | exact Rd.m (by assumption) | assumption) rfl) ?_
  refine G.value rfl rfl rfl (Sure.build rfl rfl) ?_
  refine G.dyn rfl rfl rfl ?_
  refine Dyn.buildSlice rfl rfl rfl (by simp [vcl]) (by decide) ?_
  intro b2
  refine G.value rfl rfl rfl (Sure.assign rfl) ?_
  refine G.nil ?_
  refine C.seq ?_
  refine C.region_seq ?_
  refine G.value rfl rfl rfl (Sure.fieldAddr rfl) ?_
  refine G.value rfl rfl rfl (Sure.load rfl (by first | exact Rd.h0 | exact Rd.tl Rd.h0 | exact Rd.tl (Rd.tl Rd.h0) | exact Rd.tl (Rd.tl (Rd.tl Rd.h0)) | exact Rd.tl (Rd.tl (Rd.tl (Rd.tl Rd.h0))) | exact Rd.tl (Rd.tl (Rd.tl (Rd.tl (Rd.tl Rd.h0)))) | exact Rd.m (by assumption) | assumption) rfl) ?_
  refine G.value rfl rfl rfl (Sure.len_slice rfl) ?_
  refine G.value rfl rfl rfl (Sure.move rfl) ?_
  refine G.nil ?_
  refine C.block ?_
  refine C.loop (fun k E M' H => ∃ (a b : List InoD) (v : Value) (dl : List DeedD) (Hs : Heap), MLe M M' ∧ s.inos = a ++ b ∧ b.length = k ∧ dl.map DeedD.v = ⟨1, s.next, ino0⟩ :: (a.map fun d => (⟨2, 0, d.x⟩ : Deed)) ∧ (∀ d ∈ dl, DOk M' d.d) ∧ Own 9 v dl.length (dl.map deedDL).flatten Hs ∧ E = [(1, .pointer (some ⟨b1, 0, Option.none⟩)), (3, v), (13, .slice s.pi s.inos.length s.ci), (14, .int .i64 s.inos.length), (15, .int .i64 a.length)] ∧ H = (b1, .cells (staDL s)) :: Hs) (s.inos.length) ?_ ?_
  · refine ⟨_, _, ⟨[], s.inos, _, [⟨1, s.next, inoD0⟩], [(b2, .cells (deedDL ⟨1, s.next, inoD0⟩))], MLe.refl _, rfl, rfl, rfl, by simpa using dOk0 M, Own.mk rfl, rfl, rfl⟩, ⟨rfl, rfl, rfl, rfl, rfl, trivial⟩, [], Split.cons (.there .here) (Split.one PickL.all)⟩
  · rintro k E M' H ⟨a, b, v, dl, Hs, hle, hab, hk, hdl, hok, hown, rfl, rfl⟩
    have hlen : s.inos.length = a.length + b.length := by rw [hab]; simp
    have hdn : dl.length = 1 + a.length := by have := congrArg List.length hdl; simp at this; omega
    refine C.region_seq ?_
    refine G.value rfl rfl rfl (Sure.lss rfl rfl) ?_
    refine G.nil ?_
    refine C.seq ?_
    refine C.cond_dec rfl (fun hlt => ?_) (fun hlt => ?_)
    · cases b with
      | nil => simp at hlen hlt; omega
      | cons x b =>
        have hxm : x ∈ s.inos := by rw [hab]; simp
        obtain ⟨q', o, c, hpe, hrd, hseg⟩ := SlL.row (i := a.length) (e := inoDL x) (SlL.heap (H := (b1, .cells (staDL s)) :: Hs) (hs.1.1.mono hle)) (by simp [hab])
        rw [hpe]
        refine C.skip ?_
        refine Fin.th ?_
        refine C.seq ?_
        refine C.block ?_
        refine C.region_seq ?_
        refine G.value rfl rfl rfl (Sure.indexAddr rfl rfl (by simp; omega)) ?_
        refine G.value rfl rfl rfl (Sure.loadAgg rfl hrd hseg) ?_
        refine G.dyn rfl rfl rfl ?_
        refine Dyn.allocAgg ?_
        intro b5
        refine G.dyn0 rfl rfl ?_
        refine Dyn.storeAgg rfl rfl (by first | exact Pick.here | exact Pick.there Pick.here | exact Pick.there (Pick.there Pick.here) | exact Pick.there (Pick.there (Pick.there Pick.here)) | exact Pick.there (Pick.there (Pick.there (Pick.there Pick.here))) | exact Pick.there (Pick.there (Pick.there (Pick.there (Pick.there Pick.here))))) rfl rfl rfl ?_
        refine G.nil ?_
        refine C.region ?_
        refine G.value rfl rfl rfl (Sure.move rfl) ?_
        refine G.value rfl rfl rfl (Sure.loadAgg rfl (by first | exact Rd.h0 | exact Rd.tl Rd.h0 | exact Rd.tl (Rd.tl Rd.h0) | exact Rd.tl (Rd.tl (Rd.tl Rd.h0)) | exact Rd.tl (Rd.tl (Rd.tl (Rd.tl Rd.h0))) | exact Rd.tl (Rd.tl (Rd.tl (Rd.tl (Rd.tl Rd.h0)))) | exact Rd.m (by assumption) | assumption) rfl) ?_
        refine G.call rfl rfl rfl rfl rfl rfl (own_spec M' x ((hs.1.2 x hxm).mono hle) (hk3 x hxm)) (Split.nil) ?_
        rintro _ M2 _ le2 ⟨rfl, y, hyx, rfl, hy⟩
        refine G.value rfl rfl rfl (Sure.build rfl rfl) ?_
        refine G.dyn rfl rfl rfl ?_
        refine Dyn.buildSlice rfl rfl rfl (by simp [vcl]) (by decide) ?_
        intro b6
        refine G.dyn rfl rfl rfl ?_
        refine Dyn.append (fun k h => by cases h) rfl rfl rfl hown (PickL.there (PickL.there (PickL.there PickL.all))) (m := 1) (news := deedDL ⟨2, 0, y⟩) ⟨rfl, fun _ => ⟨b6, 0, _, rfl, Rd.h0, rfl⟩⟩ (allOne_deed _) (by omega) (by omega) ?_
        intro v2 Hs2 hown2
        refine G.value rfl rfl rfl (Sure.assign rfl) ?_
        refine G.nil ?_
        refine Fin.blk ?_
        refine Fin.th ?_
        refine C.region ?_
        refine G.value rfl rfl rfl (Sure.add rfl rfl (inK64 (by omega))) ?_
        refine G.value rfl rfl rfl (Sure.move rfl) ?_
        refine G.nil ?_
        refine Fin.th ?_
        have hfl : ((dl ++ [(⟨2, 0, y⟩ : DeedD)]).map deedDL).flatten = (dl.map deedDL).flatten ++ deedDL ⟨2, 0, y⟩ := by simp
        refine ⟨b.length, _, _, by simp at hk; omega, ⟨a ++ [x], b, v2, dl ++ [(⟨2, 0, y⟩ : DeedD)], Hs2, hle.trans le2, by simp [hab], rfl, by simp [hdl, DeedD.v, hyx], ?_, ?_, rfl, rfl⟩, ⟨rfl, rfl, rfl, rfl, by simp; rfl, trivial⟩, _, Split.cons (Pick.over (.there (.there .here))) (Split.one PickL.here)⟩
        · intro d hd
          rcases List.mem_append.1 hd with h | h
          · exact (hok d h).mono le2
          · rw [List.mem_singleton.1 h]; exact hy
        · rw [hfl, List.length_append]; exact hown2
    · have hb0 : b = [] := List.eq_nil_of_length_eq_zero (by omega)
      subst hb0
      simp only [List.append_nil] at hab
      have hdn2 : dl.length ≤ 1000001 := by omega
      have hdl2 : dl.map DeedD.v = ⟨1, s.next, ino0⟩ :: (s.inos.map fun d => (⟨2, 0, d.x⟩ : Deed)) := by rw [hdl, hab]
      clear hdn hlen hk hab hdl hlt
      refine C.exit ?_
      refine Fin.th_exit ?_
      refine Fin.th_exit ?_
      refine Fin.blk_eq ?_
      refine Fin.th ?_
      refine C.seq ?_
      refine C.region_seq ?_
      refine G.value rfl rfl rfl (Sure.fieldAddr rfl) ?_
      refine G.value rfl rfl rfl (Sure.load rfl (by first | exact Rd.h0 | exact Rd.tl Rd.h0 | exact Rd.tl (Rd.tl Rd.h0) | exact Rd.tl (Rd.tl (Rd.tl Rd.h0)) | exact Rd.tl (Rd.tl (Rd.tl (Rd.tl Rd.h0))) | exact Rd.tl (Rd.tl (Rd.tl (Rd.tl (Rd.tl Rd.h0)))) | exact Rd.m (by assumption) | assumption) rfl) ?_
      refine G.value rfl rfl rfl (Sure.len_slice rfl) ?_
      refine G.value rfl rfl rfl (Sure.move rfl) ?_
      refine G.nil ?_
      refine C.block ?_
      refine C.loop (fun k E M' H => ∃ (a b : List Int) (v : Value) (dl : List DeedD), MLe M M' ∧ s.bad = a ++ b ∧ b.length = k ∧ dl.map DeedD.v = ⟨1, s.next, ino0⟩ :: (s.inos.map fun d => (⟨2, 0, d.x⟩ : Deed)) ++ a.map (fun n => ⟨4, n, ino0⟩) ∧ (∀ d ∈ dl, DOk M' d.d) ∧ Own 9 v dl.length (dl.map deedDL).flatten H ∧ E = [(3, v), (27, .slice s.pb s.bad.length s.cb), (28, .int .i64 s.bad.length), (29, .int .i64 a.length)]) (s.bad.length) ?_ ?_
      · refine ⟨_, _, ⟨[], s.bad, _, dl, hle, rfl, rfl, by simp [hdl2], hok, hown, rfl⟩, ⟨rfl, rfl, rfl, rfl, trivial⟩, _, Split.one (PickL.there PickL.all)⟩
      · clear hle hdl2 hok hown
        rintro k E M' H ⟨a, b, v, dl, hle, hab, hk, hdl, hok, hown, rfl⟩
        have hlen : s.bad.length = a.length + b.length := by rw [hab]; simp
        have hdn : dl.length = 1 + s.inos.length + a.length := by have := congrArg List.length hdl; simp at this; omega
        refine C.region_seq ?_
        refine G.value rfl rfl rfl (Sure.lss rfl rfl) ?_
        refine G.nil ?_
        refine C.seq ?_
        refine C.cond_dec rfl (fun hlt => ?_) (fun hlt => ?_)
        · cases b with
          | nil => simp at hlen hlt; omega
          | cons x b =>
            obtain ⟨q', o, c, hpe, hrd, hcell⟩ := Sl.cell (i := a.length) (v := intV x) (Sl.heap (H := H) (hs.2.mono hle)) (by simp [hab])
            rw [hpe]
            refine C.skip ?_
            refine Fin.th ?_
            refine C.seq ?_
            refine C.block ?_
            refine C.region_seq ?_
            refine G.value rfl rfl rfl (Sure.indexAddr rfl rfl (by simp; omega)) ?_
            refine G.value rfl rfl rfl (Sure.load rfl hrd hcell) ?_
            refine G.value rfl rfl rfl (Sure.assign rfl) ?_
            refine G.nil ?_
            refine C.region ?_
            refine G.value rfl rfl rfl (Sure.move rfl) ?_
            refine G.value rfl rfl rfl (Sure.move rfl) ?_
            refine G.value rfl rfl rfl (Sure.build rfl rfl) ?_
            refine G.dyn rfl rfl rfl ?_
            refine Dyn.buildSlice rfl rfl rfl (by simp [vcl]) (by decide) ?_
            intro b6
            refine G.dyn rfl rfl rfl ?_
            refine Dyn.append (fun k h => by cases h) rfl rfl rfl hown (PickL.there PickL.all) (m := 1) (news := deedDL ⟨4, x, inoD0⟩) ⟨rfl, fun _ => ⟨b6, 0, _, rfl, Rd.h0, rfl⟩⟩ (allOne_deed _) (by omega) (by omega) ?_
            intro v2 Hs2 hown2
            refine G.value rfl rfl rfl (Sure.assign rfl) ?_
            refine G.nil ?_
            refine Fin.blk ?_
            refine Fin.th ?_
            refine C.region ?_
            refine G.value rfl rfl rfl (Sure.add rfl rfl (inK64 (by omega))) ?_
            refine G.value rfl rfl rfl (Sure.move rfl) ?_
            refine G.nil ?_
            refine Fin.th ?_
            have hfl : ((dl ++ [(⟨4, x, inoD0⟩ : DeedD)]).map deedDL).flatten = (dl.map deedDL).flatten ++ deedDL ⟨4, x, inoD0⟩ := by simp
            refine ⟨b.length, _, _, by simp at hk; omega, ⟨a ++ [x], b, v2, dl ++ [(⟨4, x, inoD0⟩ : DeedD)], hle, by simp [hab], rfl, by simp [hdl, DeedD.v, inoD0], ?_, ?_, rfl⟩, ⟨rfl, rfl, rfl, by simp; rfl, trivial⟩, _, Split.one PickL.here⟩
            · intro d hd
              rcases List.mem_append.1 hd with h | h
              · exact hok d h
              · rw [List.mem_singleton.1 h]; exact dOk0 _
            · rw [hfl, List.length_append]; exact hown2
        · have hb0 : b = [] := List.eq_nil_of_length_eq_zero (by omega)
          subst hb0
          simp only [List.append_nil] at hab
          subst hab
          refine C.exit ?_
          refine Fin.th_exit ?_
          refine Fin.th_exit ?_
          refine Fin.blk_eq ?_
          refine Fin.th ?_
          refine C.region_seq ?_
          refine G.value rfl rfl rfl (Sure.move rfl) ?_
          refine G.value rfl rfl rfl (Sure.assign rfl) ?_
          refine G.nil ?_
          refine C.donateOwn hown PickL.all ?_
          rintro M2 p2 cap2 le2 rfl hs2
          refine C.ret ?_
          refine Fin.fn (Res.tmp rfl rfl) Split.nil ⟨rfl, dl, p2, cap2, rfl, ⟨⟨?_, ?_⟩, fun d hd => (hok d hd).mono le2⟩, ?_⟩
          · intro e he; obtain ⟨x, _, rfl⟩ := List.mem_map.1 he; rfl
          · rw [List.length_map]; exact hs2
          · simp [hdl, whole, StaD.v]
end Go.Proofs.Ytaeeahcokiebdaa
