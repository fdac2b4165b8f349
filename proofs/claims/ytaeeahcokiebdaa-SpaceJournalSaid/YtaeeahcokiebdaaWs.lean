/-
  The walk of the putting of an inode among others.
-/
import Derived.Test.YtaeeahcokiebdaaWr
namespace Go.Proofs.Ytaeeahcokiebdaa
set_option maxRecDepth 20000

theorem flat_len {α : Type} (f : α → List Value) (sz : Nat) (hf : ∀ x, (f x).length = sz) (l : List α) : (l.map f).flatten.length = l.length * sz := by
  induction l with
  | nil => simp
  | cons d l ih => simp only [List.map_cons, List.flatten_cons, List.length_append, List.length_cons, hf, ih, Nat.add_mul]; omega
theorem flat_take {α : Type} (f : α → List Value) (sz : Nat) (hf : ∀ x, (f x).length = sz) (l : List α) {i : Nat} (hi : i ≤ l.length) :
    (l.map f).flatten.take (i * sz) = ((l.take i).map f).flatten ∧ (l.map f).flatten.drop (i * sz) = ((l.drop i).map f).flatten := by
  have h1 : ((l.take i).map f).flatten.length = i * sz := by rw [flat_len f sz hf]; simp; rw [Nat.min_eq_left hi]
  have h2 : (l.map f).flatten = ((l.take i).map f).flatten ++ ((l.drop i).map f).flatten := by rw [← List.flatten_append, ← List.map_append, List.take_append_drop]
  rw [h2, ← h1]
  simp
theorem flat_set {α : Type} (f : α → List Value) (sz : Nat) (hf : ∀ x, (f x).length = sz) (l : List α) {i : Nat} (hi : i < l.length) (y : α) (junk : List Value) :
    setSeg ((l.map f).flatten ++ junk) (i * sz) (f y) = some (((l.set i y).map f).flatten ++ junk) := by
  have h1 : ((l.take i).map f).flatten.length = i * sz := by rw [flat_len f sz hf]; simp; rw [Nat.min_eq_left (by omega)]
  have h2 : l = l.take i ++ l[i] :: l.drop (i + 1) := by rw [← List.drop_eq_getElem_cons hi, List.take_append_drop]
  have h3 : l.set i y = l.take i ++ y :: l.drop (i + 1) := by rw [List.set_eq_take_append_cons_drop, if_pos hi]
  have e1 : (l.map f).flatten = ((l.take i).map f).flatten ++ (f l[i] ++ ((l.drop (i + 1)).map f).flatten) := by
    have := congrArg (fun l => (l.map f).flatten) h2
    simp only [List.map_append, List.map_cons, List.flatten_append, List.flatten_cons] at this
    exact this
  rw [e1, List.append_assoc, setSeg_app h1 (by simp only [List.length_append, hf]; omega), h3]
  congr 1
  have e2 : (f l[i] ++ (((l.drop (i + 1)).map f).flatten ++ junk)).drop (f y).length = ((l.drop (i + 1)).map f).flatten ++ junk := by
    rw [hf, ← hf l[i], List.drop_left]
  rw [List.append_assoc (f l[i]), e2]
  simp
theorem ixOf_lt {α : Type} {q : α → Bool} {l : List α} (h : 0 ≤ ixOf q l) : ∃ i : Nat, ixOf q l = i ∧ i < l.length := by
  unfold ixOf at h ⊢
  cases hf : l.findIdx? q with
  | none => rw [hf] at h; exact absurd h (by decide)
  | some i => exact ⟨i, rfl, (List.findIdx?_eq_some_iff_getElem.1 hf).1⟩
theorem ixOf_neg {α : Type} {q : α → Bool} {l : List α} (h : ixOf q l < 0) : ixOf q l = -1 := by
  unfold ixOf at h ⊢
  cases hf : l.findIdx? q with
  | none => rfl
  | some i => rw [hf] at h; simp at h; omega
theorem ixOf_map {α β : Type} {q : β → Bool} {g : α → β} {l : List α} : ixOf q (l.map g) = ixOf (fun x => q (g x)) l := by
  unfold ixOf
  rw [List.findIdx?_map]
  rfl
/-- Inodes with one of them. -/
def putI (l : List Ino) (x : Ino) : List Ino :=
  if 0 ≤ ixOf (fun y => decide (y.no = x.no)) l then l.set (ixOf (fun y => decide (y.no = x.no)) l).toNat x
  else if ixOf (fun y => decide (x.no < y.no)) l < 0 then l ++ [x]
  else l.take (ixOf (fun y => decide (x.no < y.no)) l).toNat ++ [x] ++ l.drop (ixOf (fun y => decide (x.no < y.no)) l).toNat
theorem put1_spec (M : Mem) (b : Nat) (d x : InoD) : Spec Try.prog 67 [.agg (inoDL d).toArray, ptr b] M [(b, .cells (inoDL x))] (fun v _ H => v = .bool (decide (d.x.no = x.x.no)) ∧ H = [(b, .cells (inoDL x))]) := by
  refine Spec.of_code 9 Try.func67 rfl callable67 rfl rfl fun w => ?_
  refine C.region_seq ?_
  refine G.dyn rfl rfl rfl ?_
  refine Dyn.boxAgg rfl ?_
  intro b2
  refine G.value rfl rfl rfl (Sure.assign rfl) ?_
  refine G.nil ?_
  refine C.region_seq ?_
  refine G.value rfl rfl rfl (Sure.fieldAddr rfl) ?_
  refine G.value rfl rfl rfl (Sure.load rfl (by first | exact Rd.h0 | exact Rd.tl Rd.h0 | exact Rd.tl (Rd.tl Rd.h0) | exact Rd.tl (Rd.tl (Rd.tl Rd.h0)) | exact Rd.tl (Rd.tl (Rd.tl (Rd.tl Rd.h0))) | exact Rd.tl (Rd.tl (Rd.tl (Rd.tl (Rd.tl Rd.h0)))) | exact Rd.m (by assumption) | assumption) rfl) ?_
  refine G.value rfl rfl rfl (Sure.fieldAddr rfl) ?_
  refine G.value rfl rfl rfl (Sure.load rfl (by first | exact Rd.h0 | exact Rd.tl Rd.h0 | exact Rd.tl (Rd.tl Rd.h0) | exact Rd.tl (Rd.tl (Rd.tl Rd.h0)) | exact Rd.tl (Rd.tl (Rd.tl (Rd.tl Rd.h0))) | exact Rd.tl (Rd.tl (Rd.tl (Rd.tl (Rd.tl Rd.h0)))) | exact Rd.m (by assumption) | assumption) rfl) ?_
  refine G.value rfl rfl rfl (Sure.eql rfl rfl) ?_
  refine G.value rfl rfl rfl (Sure.assign rfl) ?_
  refine G.nil ?_
  refine C.ret ?_
  exact Fin.fn (Res.tmp rfl rfl) (Split.cons (.there .here) Split.nil) ⟨rfl, rfl⟩
theorem put2_spec (M : Mem) (b : Nat) (d x : InoD) : Spec Try.prog 68 [.agg (inoDL d).toArray, ptr b] M [(b, .cells (inoDL x))] (fun v _ H => v = .bool (decide (x.x.no < d.x.no)) ∧ H = [(b, .cells (inoDL x))]) := by
  refine Spec.of_code 9 Try.func68 rfl callable68 rfl rfl fun w => ?_
  refine C.region_seq ?_
  refine G.dyn rfl rfl rfl ?_
  refine Dyn.boxAgg rfl ?_
  intro b2
  refine G.value rfl rfl rfl (Sure.assign rfl) ?_
  refine G.nil ?_
  refine C.region_seq ?_
  refine G.value rfl rfl rfl (Sure.fieldAddr rfl) ?_
  refine G.value rfl rfl rfl (Sure.load rfl (by first | exact Rd.h0 | exact Rd.tl Rd.h0 | exact Rd.tl (Rd.tl Rd.h0) | exact Rd.tl (Rd.tl (Rd.tl Rd.h0)) | exact Rd.tl (Rd.tl (Rd.tl (Rd.tl Rd.h0))) | exact Rd.tl (Rd.tl (Rd.tl (Rd.tl (Rd.tl Rd.h0)))) | exact Rd.m (by assumption) | assumption) rfl) ?_
  refine G.value rfl rfl rfl (Sure.fieldAddr rfl) ?_
  refine G.value rfl rfl rfl (Sure.load rfl (by first | exact Rd.h0 | exact Rd.tl Rd.h0 | exact Rd.tl (Rd.tl Rd.h0) | exact Rd.tl (Rd.tl (Rd.tl Rd.h0)) | exact Rd.tl (Rd.tl (Rd.tl (Rd.tl Rd.h0))) | exact Rd.tl (Rd.tl (Rd.tl (Rd.tl (Rd.tl Rd.h0)))) | exact Rd.m (by assumption) | assumption) rfl) ?_
  refine G.value rfl rfl rfl (Sure.gtr rfl rfl) ?_
  refine G.value rfl rfl rfl (Sure.assign rfl) ?_
  refine G.nil ?_
  refine C.ret ?_
  exact Fin.fn (Res.tmp rfl rfl) (Split.cons (.there .here) Split.nil) ⟨rfl, rfl⟩
theorem statePut_spec (M : Mem) (v : Value) (dl : List InoD) (x : InoD) (Hs : Heap) (hown : Own 7 v dl.length (dl.map inoDL).flatten Hs) (hd : ∀ d ∈ dl, DOk M d) (hx : DOk M x) (hk : InoOk x.x) (hl : dl.length ≤ 2000000) :
    Spec Try.prog 48 [v, .agg (inoDL x).toArray] M Hs (fun r M' H => OwnI (putI (dl.map InoD.x) x.x) r M' H) := by
  obtain ⟨p, cap, rfl, hsl⟩ := hown.slice
  have hz : ∀ d : InoD, (inoDL d).length = 7 := fun _ => rfl
  refine Spec.of_code 31 Try.func48 rfl callable48 rfl rfl fun w => ?_
  refine C.region_seq ?_
  refine G.dyn rfl rfl rfl ?_
  refine Dyn.boxAgg rfl ?_
  intro b3
  refine G.value rfl rfl rfl (Sure.assign rfl) ?_
  refine G.nil ?_
  refine C.region_seq ?_
  refine G.value rfl rfl rfl (Sure.loadAgg rfl (by first | exact Rd.h0 | exact Rd.tl Rd.h0 | exact Rd.tl (Rd.tl Rd.h0) | exact Rd.tl (Rd.tl (Rd.tl Rd.h0)) | exact Rd.tl (Rd.tl (Rd.tl (Rd.tl Rd.h0))) | exact Rd.tl (Rd.tl (Rd.tl (Rd.tl (Rd.tl Rd.h0)))) | exact Rd.m (by assumption) | assumption) rfl) ?_
  refine G.call rfl rfl rfl rfl rfl rfl (own_spec M x hx hk) (Split.nil) ?_
  rintro _ M2 _ le2 ⟨rfl, y, hyx, rfl, hy⟩
  refine G.dyn0 rfl rfl ?_
  refine Dyn.storeAgg rfl rfl (by first | exact Pick.here | exact Pick.there Pick.here | exact Pick.there (Pick.there Pick.here) | exact Pick.there (Pick.there (Pick.there Pick.here)) | exact Pick.there (Pick.there (Pick.there (Pick.there Pick.here))) | exact Pick.there (Pick.there (Pick.there (Pick.there (Pick.there Pick.here))))) rfl rfl rfl ?_
  refine G.nil ?_
  refine C.seq ?_
  refine C.region_seq ?_
  refine G.value rfl rfl rfl (Sure.move rfl) ?_
  refine G.value rfl rfl rfl (Sure.makeFunc rfl) ?_
  refine G.call rfl rfl rfl rfl rfl rfl (indexFunc_spec M2 p cap dl Hs [(b3, .cells (inoDL y))] 67 [ptr b3] (fun d => decide (d.x.no = y.x.no)) (hsl M2) (by omega) (fun d _ M' _ => put1_spec M' b3 d y)) (Split.consL (PickL.there PickL.all) (Split.one PickL.all)) ?_
  rintro _ M3 _ le3 ⟨rfl, rfl⟩
  refine G.value rfl rfl rfl (Sure.assign rfl) ?_
  refine G.nil ?_
  refine C.region_seq ?_
  refine G.value rfl rfl rfl (Sure.move rfl) ?_
  refine G.value rfl rfl rfl (Sure.geq rfl rfl) ?_
  refine G.nil ?_
  have hmap1 : ixOf (fun d : InoD => decide (d.x.no = y.x.no)) dl = ixOf (fun z : Ino => decide (z.no = x.x.no)) (dl.map InoD.x) := by rw [ixOf_map, hyx]
  have hmap2 : ixOf (fun d : InoD => decide (y.x.no < d.x.no)) dl = ixOf (fun z : Ino => decide (x.x.no < z.no)) (dl.map InoD.x) := by rw [ixOf_map, hyx]
  have lea := le2.trans le3
  refine C.cond_dec rfl (fun hge => ?_) (fun hge => ?_)
  · obtain ⟨i, hi, hil⟩ := ixOf_lt hge
    rw [hi]
    obtain ⟨b, junk, rfl, rfl, hc, hjl⟩ : ∃ b junk, p = some ⟨b, 0, Option.none⟩ ∧ Hs = [(b, .cells ((dl.map inoDL).flatten ++ junk))] ∧ dl.length ≤ cap ∧ ((dl.map inoDL).flatten ++ junk).length = cap * 7 := by
      rcases hown.2 with ⟨_, h, _⟩ | ⟨b, c, junk, h, h2, h3, h4⟩
      · omega
      · injection h with e1 e2 e3; subst e3; exact ⟨b, junk, e1, h3, h2, h4⟩
    refine C.region_seq ?_
    refine G.value rfl rfl rfl (Sure.move rfl) ?_
    refine G.value rfl rfl rfl (Sure.move rfl) ?_
    refine G.value rfl rfl rfl (Sure.loadAgg rfl (by first | exact Rd.h0 | exact Rd.tl Rd.h0 | exact Rd.tl (Rd.tl Rd.h0) | exact Rd.tl (Rd.tl (Rd.tl Rd.h0)) | exact Rd.tl (Rd.tl (Rd.tl (Rd.tl Rd.h0))) | exact Rd.tl (Rd.tl (Rd.tl (Rd.tl (Rd.tl Rd.h0)))) | exact Rd.m (by assumption) | assumption) rfl) ?_
    refine G.value rfl rfl rfl (Sure.indexAddr rfl rfl (by omega)) ?_
    refine G.dyn0 rfl rfl ?_
    refine Dyn.storeAgg rfl rfl Pick.here rfl rfl (by rw [show 0 + (i : Int).toNat * 7 = i * 7 from by omega]; exact flat_set inoDL 7 hz dl hil y junk) ?_
    refine G.nil ?_
    refine C.region_seq ?_
    refine G.value rfl rfl rfl (Sure.move rfl) ?_
    refine G.value rfl rfl rfl (Sure.assign rfl) ?_
    refine G.nil ?_
    refine C.ret ?_
    refine Fin.th_ret ?_
    refine Fin.fn (Res.tmp rfl rfl) (Split.cons .here Split.nil) ⟨dl.set i y, ?_, ?_, ?_⟩
    · unfold putI
      rw [← hmap1, hi, if_pos (by omega), List.map_set, hyx]
      rfl
    · intro d hd'
      rcases List.mem_or_eq_of_mem_set hd' with h | h
      · exact (hd d h).mono lea
      · rw [h]; exact hy.mono le3
    · refine ⟨by rw [flat_len inoDL 7 hz], .inr ⟨b, cap, junk, by simp, by simpa using hc, rfl, ?_⟩⟩
      simp only [List.length_append, flat_len inoDL 7 hz, List.length_set] at hjl ⊢
      omega
  · refine C.skip ?_
    refine Fin.th ?_
    refine C.region_seq ?_
    refine G.value rfl rfl rfl (Sure.move rfl) ?_
    refine G.value rfl rfl rfl (Sure.makeFunc rfl) ?_
    rw [ixOf_neg (by omega)]
    refine G.call rfl rfl rfl rfl rfl rfl (indexFunc_spec M3 p cap dl Hs [(b3, .cells (inoDL y))] 68 [ptr b3] (fun d => decide (y.x.no < d.x.no)) (hsl M3) (by omega) (fun d _ M' _ => put2_spec M' b3 d y)) (Split.one PickL.here) ?_
    rintro _ M4 _ le4 ⟨rfl, rfl⟩
    rw [List.append_nil]
    refine G.value rfl rfl rfl (Sure.assign rfl) ?_
    refine G.nil ?_
    refine C.seq ?_
    refine C.region_seq ?_
    refine G.value rfl rfl rfl (Sure.move rfl) ?_
    refine G.value rfl rfl rfl (Sure.lss rfl rfl) ?_
    refine G.nil ?_
    refine C.cond_dec rfl (fun hneg => ?_) (fun hneg => ?_)
    · refine C.region ?_
      refine G.value rfl rfl rfl (Sure.move rfl) ?_
      refine G.value rfl rfl rfl (Sure.len_slice rfl) ?_
      refine G.value rfl rfl rfl (Sure.assign rfl) ?_
      refine G.nil ?_
      refine Fin.th ?_
      refine C.region_seq ?_
      refine G.value rfl rfl rfl (Sure.move rfl) ?_
      refine G.value rfl rfl rfl (Sure.move rfl) ?_
      refine G.value rfl rfl rfl (Sure.loadAgg rfl (show Rd M4 _ b3 (inoDL y) from .inr (by simp)) rfl) ?_
      refine G.dyn rfl rfl rfl ?_
      refine Dyn.buildSlice rfl rfl rfl (by simp [vcl]) (by decide) ?_
      intro b6
      refine G.call rfl rfl rfl rfl rfl rfl (insertIno_spec M4 _ dl.length dl.length _ (inoDL y) Hs b6 hown (by omega) (by omega) rfl (allOne_ino _) (allOne_inos _)) (Split.consL (PickL.there PickL.here) (Split.cons .here Split.nil)) ?_
      rintro r5 M5 H5 le5 hown5
      refine G.value rfl rfl rfl (Sure.assign rfl) ?_
      refine G.nil ?_
      refine C.ret ?_
      refine Fin.fn (Res.tmp rfl rfl) (Split.one PickL.here) ⟨dl.take dl.length ++ [y] ++ dl.drop dl.length, ?_, ?_, ?_⟩
      · unfold putI
        rw [← hmap1, ← hmap2, if_neg (by omega), if_pos hneg]
        simp [hyx]
      · intro d hd'
        have leb := ((lea.trans le4).trans le5)
        rcases List.mem_append.1 hd' with h | h
        · rcases List.mem_append.1 h with h | h
          · exact (hd d (List.mem_of_mem_take h)).mono leb
          · rw [List.mem_singleton.1 h]; exact ((hy.mono le3).mono le4).mono le5
        · exact (hd d (List.mem_of_mem_drop h)).mono leb
      · have hft := flat_take inoDL 7 hz dl (i := dl.length) (by omega)
        rw [hft.1, hft.2] at hown5
        have e1 : ((dl.take dl.length ++ [y] ++ dl.drop dl.length).map inoDL).flatten = ((dl.take dl.length).map inoDL).flatten ++ inoDL y ++ ((dl.drop dl.length).map inoDL).flatten := by simp
        rw [e1, show (dl.take dl.length ++ [y] ++ dl.drop dl.length).length = dl.length + 1 from by simp <;> omega]
        exact hown5
    · obtain ⟨i, hi, hil⟩ := ixOf_lt (Int.not_lt.1 hneg)
      rw [hi]
      refine C.skip ?_
      refine Fin.th ?_
      refine C.region_seq ?_
      refine G.value rfl rfl rfl (Sure.move rfl) ?_
      refine G.value rfl rfl rfl (Sure.move rfl) ?_
      refine G.value rfl rfl rfl (Sure.loadAgg rfl (show Rd M4 _ b3 (inoDL y) from .inr (by simp)) rfl) ?_
      refine G.dyn rfl rfl rfl ?_
      refine Dyn.buildSlice rfl rfl rfl (by simp [vcl]) (by decide) ?_
      intro b6
      refine G.call rfl rfl rfl rfl rfl rfl (insertIno_spec M4 _ dl.length i _ (inoDL y) Hs b6 hown (by omega) (by omega) rfl (allOne_ino _) (allOne_inos _)) (Split.consL (PickL.there PickL.here) (Split.cons .here Split.nil)) ?_
      rintro r5 M5 H5 le5 hown5
      refine G.value rfl rfl rfl (Sure.assign rfl) ?_
      refine G.nil ?_
      refine C.ret ?_
      refine Fin.fn (Res.tmp rfl rfl) (Split.one PickL.here) ⟨dl.take i ++ [y] ++ dl.drop i, ?_, ?_, ?_⟩
      · unfold putI
        rw [← hmap1, ← hmap2, if_neg (by omega), if_neg hneg, hi, Int.toNat_natCast]
        simp [hyx]
      · intro d hd'
        have leb := ((lea.trans le4).trans le5)
        rcases List.mem_append.1 hd' with h | h
        · rcases List.mem_append.1 h with h | h
          · exact (hd d (List.mem_of_mem_take h)).mono leb
          · rw [List.mem_singleton.1 h]; exact ((hy.mono le3).mono le4).mono le5
        · exact (hd d (List.mem_of_mem_drop h)).mono leb
      · have hft := flat_take inoDL 7 hz dl (i := i) (by omega)
        rw [hft.1, hft.2] at hown5
        have e1 : ((dl.take i ++ [y] ++ dl.drop i).map inoDL).flatten = ((dl.take i).map inoDL).flatten ++ inoDL y ++ ((dl.drop i).map inoDL).flatten := by simp
        rw [e1, show (dl.take i ++ [y] ++ dl.drop i).length = dl.length + 1 from by simp <;> omega]
        exact hown5
end Go.Proofs.Ytaeeahcokiebdaa
