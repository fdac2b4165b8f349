/-
  The walk of the dropping of inodes.
-/
import Derived.Test.YtaeeahcokiebdaaWs
namespace Go.Proofs.Ytaeeahcokiebdaa
set_option maxRecDepth 20000

theorem split_at {α : Type} {q : α → Bool} {l : List α} {i : Nat} (h : ixOf q l = i) : ∃ a x b, l = a ++ x :: b ∧ a.length = i ∧ q x = true ∧ ∀ d ∈ a, q d = false := by
  unfold ixOf at h
  cases hf : l.findIdx? q with
  | none => rw [hf] at h; simp at h
  | some k =>
    rw [hf] at h
    have hk : k = i := by have : (k : Int) = i := h; omega
    subst hk
    obtain ⟨hlt, hq, hn⟩ := List.findIdx?_eq_some_iff_getElem.1 hf
    refine ⟨l.take k, l[k], l.drop (k + 1), by rw [← List.drop_eq_getElem_cons hlt, List.take_append_drop], by simp; omega, hq, ?_⟩
    intro d hd
    obtain ⟨j, hj, rfl⟩ := List.getElem_of_mem hd
    have hjk : j < k := by simp at hj; omega
    have := hn j hjk
    rw [List.getElem_take]
    simpa using this
theorem deleteFunc_spec (M : Mem) (v : Value) (dl : List InoD) (Hs Hc : Heap) (f : Nat) (capt : List Value) (q : InoD → Bool) (hown : Own 7 v dl.length (dl.map inoDL).flatten Hs) (hl : dl.length ≤ 2000000)
    (hf : ∀ d ∈ dl, ∀ M', MLe M M' → Spec Try.prog f ([.agg (inoDL d).toArray] ++ capt) M' Hc (fun v _ H => v = .bool (q d) ∧ H = Hc)) :
    Spec Try.prog 49 [v, .func (.func f) #[] capt.toArray] M (Hs ++ Hc) (fun v _ H => Own 7 v (dl.filter fun d => !q d).length ((dl.filter fun d => !q d).map inoDL).flatten H) := by
  obtain ⟨p, cap, rfl, hsl⟩ := hown.slice
  have hz : ∀ d : InoD, (inoDL d).length = 7 := fun _ => rfl
  refine Spec.of_code 42 Try.func49 rfl callable49 rfl rfl fun w => ?_
  refine C.region_seq ?_
  refine G.value rfl rfl rfl (Sure.assign rfl) ?_
  refine G.nil ?_
  refine C.region_seq ?_
  refine G.value rfl rfl rfl (Sure.move rfl) ?_
  refine G.value rfl rfl rfl (Sure.move rfl) ?_
  refine G.call rfl rfl rfl rfl rfl rfl (indexFunc_spec M p cap dl Hs Hc f capt q (hsl M) (by omega) hf) (Split.one PickL.all) ?_
  rintro _ M2 _ le2 ⟨rfl, rfl⟩
  rw [List.append_nil]
  refine G.value rfl rfl rfl (Sure.assign rfl) ?_
  refine G.nil ?_
  refine C.seq ?_
  refine C.region_seq ?_
  refine G.value rfl rfl rfl (Sure.move rfl) ?_
  refine G.value rfl rfl rfl (Sure.eql rfl rfl) ?_
  refine G.nil ?_
  refine C.cond_dec rfl (fun hno => ?_) (fun hno => ?_)
  · refine C.region_seq ?_
    refine G.value rfl rfl rfl (Sure.move rfl) ?_
    refine G.value rfl rfl rfl (Sure.assign rfl) ?_
    refine G.nil ?_
    refine C.ret ?_
    refine Fin.th_ret ?_
    refine Fin.fn (Res.tmp rfl rfl) (Split.one PickL.here) ?_
    have : dl.filter (fun d => !q d) = dl := by
      rw [List.filter_eq_self]
      intro d hd
      unfold ixOf at hno
      cases hf : dl.findIdx? q with
      | none => simpa using List.findIdx?_eq_none_iff.1 hf d hd
      | some k => rw [hf] at hno; simp at hno
    rw [this]
    exact hown
  · obtain ⟨i, hi, hil⟩ := ixOf_lt (q := q) (l := dl) (by
      by_cases h : ixOf q dl < 0
      · exact absurd (ixOf_neg h) hno
      · omega)
    obtain ⟨a, x, b0, rfl, ha, hqx, hqa⟩ := split_at hi
    obtain ⟨b, junk, rfl, rfl, hc, hjl⟩ : ∃ b junk, p = some ⟨b, 0, Option.none⟩ ∧ Hs = [(b, .cells (((a ++ x :: b0).map inoDL).flatten ++ junk))] ∧ (a ++ x :: b0).length ≤ cap ∧ (((a ++ x :: b0).map inoDL).flatten ++ junk).length = cap * 7 := by
      rcases hown.2 with ⟨_, h, _⟩ | ⟨b, c, junk, h, h2, h3, h4⟩
      · omega
      · injection h with e1 e2 e3; subst e3; exact ⟨b, junk, e1, h3, h2, h4⟩
    rw [hi]
    refine C.skip ?_
    refine Fin.th ?_
    refine C.seq ?_
    refine C.region_seq ?_
    refine G.value rfl rfl rfl (Sure.move rfl) ?_
    refine G.value rfl rfl rfl (Sure.add rfl rfl (inK64 (by omega))) ?_
    refine G.value rfl rfl rfl (Sure.assign rfl) ?_
    refine G.nil ?_
    refine C.block ?_
    refine C.loop (fun k E M' H => ∃ (a1 b1 mid : List InoD), MLe M M' ∧ a ++ x :: b0 = a1 ++ b1 ∧ b1.length = k ∧ mid ≠ [] ∧ (a1.filter fun d => !q d).length + mid.length = a1.length ∧ E = [(0, .slice (some ⟨b, 0, Option.none⟩) (a ++ x :: b0).length cap), (1, .func (.func f) #[] capt.toArray), (5, .int .i64 (a1.filter fun d => !q d).length), (6, .int .i64 a1.length)] ∧ H = (b, .cells ((((a1.filter fun d => !q d) ++ mid ++ b1).map inoDL).flatten ++ junk)) :: Hc) (b0.length) ?_ ?_
    · have hfa : a.filter (fun d => !q d) = a := List.filter_eq_self.2 (fun d hd => by simp [hqa d hd])
      have hf1 : (a ++ [x]).filter (fun d => !q d) = a := by rw [List.filter_append, hfa]; simp [hqx]
      refine ⟨_, _, ⟨a ++ [x], b0, [x], le2, by simp, rfl, by simp, by rw [hf1]; simp, rfl, rfl⟩, ⟨rfl, rfl, ?_, ?_, trivial⟩, [], ?_⟩
      · rw [hf1, ha]; rfl
      · show some (Value.int .i64 ((i : Int) + 1)) = some (Value.int .i64 ((a ++ [x]).length : Int))
        rw [← ha]; simp
      · rw [hf1, show a ++ [x] ++ b0 = a ++ x :: b0 from by simp]
        exact Split.cons .here (Split.one PickL.all)
    · rintro k E M' H ⟨a1, b1, mid, hle, hab, hk, hmid, hlen1, rfl, rfl⟩
      have hlen : (a ++ x :: b0).length = a1.length + b1.length := by rw [hab]; simp
      refine C.seq ?_
      refine C.region_seq ?_
      refine G.value rfl rfl rfl (Sure.move rfl) ?_
      refine G.value rfl rfl rfl (Sure.move rfl) ?_
      refine G.value rfl rfl rfl (Sure.len_slice rfl) ?_
      refine G.value rfl rfl rfl (Sure.lss rfl rfl) ?_
      refine G.nil ?_
      refine C.cond_dec rfl (fun hlt => ?_) (fun hlt => ?_)
      · cases b1 with
        | nil => simp at hlen hlt; omega
        | cons y b1 =>
          have hcl : (a1.filter (fun d => !q d) ++ mid ++ y :: b1)[a1.length]? = some y := by
            rw [List.getElem?_append_right (by simp; omega)]
            simp [hlen1]
          have hflt := List.length_filter_le (fun d => !q d) a1
          have hmid1 : 1 ≤ mid.length := by cases mid with | nil => exact absurd rfl hmid | cons _ _ => simp
          have hsl2 : SlL M' ((b, HB.cells (((a1.filter (fun d => !q d) ++ mid ++ y :: b1).map inoDL).flatten ++ junk)) :: Hc) 7 (some ⟨b, 0, Option.none⟩) ((a1.filter (fun d => !q d) ++ mid ++ y :: b1).map inoDL) :=
            ⟨by intro e he; obtain ⟨x, _, rfl⟩ := List.mem_map.1 he; rfl, by rw [flat_len inoDL 7 hz, List.length_map], fun _ => ⟨b, 0, _, rfl, Rd.h0, by unfold seg; rw [List.drop_zero]; exact takeN_append (by rw [flat_len inoDL 7 hz, List.length_map])⟩⟩
          obtain ⟨q', o, c, hpe, hrd, hseg⟩ := SlL.row (i := a1.length) (e := inoDL y) hsl2 (by rw [List.getElem?_map, hcl]; rfl)
          injection hpe with hpe; injection hpe with hq' ho'; subst hq'; subst ho'
          have hym : y ∈ a ++ x :: b0 := by rw [hab]; simp
          refine C.skip ?_
          refine Fin.th ?_
          refine C.seq ?_
          refine C.block ?_
          refine C.region_seq ?_
          refine G.value rfl rfl rfl (Sure.move rfl) ?_
          refine G.value rfl rfl rfl (Sure.move rfl) ?_
          refine G.value rfl rfl rfl (Sure.indexAddr rfl rfl (by omega)) ?_
          refine G.value rfl rfl rfl (Sure.loadAgg rfl hrd hseg) ?_
          refine G.dyn rfl rfl rfl ?_
          refine Dyn.allocAgg ?_
          intro b7
          refine G.dyn0 rfl rfl ?_
          refine Dyn.storeAgg rfl rfl (by first | exact Pick.here | exact Pick.there Pick.here | exact Pick.there (Pick.there Pick.here) | exact Pick.there (Pick.there (Pick.there Pick.here)) | exact Pick.there (Pick.there (Pick.there (Pick.there Pick.here))) | exact Pick.there (Pick.there (Pick.there (Pick.there (Pick.there Pick.here))))) rfl rfl rfl ?_
          refine G.nil ?_
          refine C.region_seq ?_
          refine G.value rfl rfl rfl (Sure.move rfl) ?_
          refine G.value rfl rfl rfl (Sure.loadAgg rfl (by first | exact Rd.h0 | exact Rd.tl Rd.h0 | exact Rd.tl (Rd.tl Rd.h0) | exact Rd.tl (Rd.tl (Rd.tl Rd.h0)) | exact Rd.tl (Rd.tl (Rd.tl (Rd.tl Rd.h0))) | exact Rd.tl (Rd.tl (Rd.tl (Rd.tl (Rd.tl Rd.h0)))) | exact Rd.m (by assumption) | assumption) rfl) ?_
          refine G.call rfl rfl rfl rfl rfl rfl (hf y hym M' hle) (Split.one (PickL.there (PickL.there PickL.all))) ?_
          rintro _ M3 _ le3 ⟨rfl, rfl⟩
          refine G.value rfl rfl rfl (Sure.not rfl) ?_
          refine G.nil ?_
          obtain ⟨m0, mt, rfl⟩ : ∃ m0 mt, mid = m0 :: mt := by
            cases mid with
            | nil => exact absurd rfl hmid
            | cons m0 mt => exact ⟨m0, mt, rfl⟩
          refine C.cond rfl (fun hq => ?_) (fun hq => ?_)
          · have hqy : q y = false := by simpa using hq
            have hfy : (a1 ++ [y]).filter (fun d => !q d) = a1.filter (fun d => !q d) ++ [y] := by rw [List.filter_append]; simp [hqy]
            have hset : ((a1.filter (fun d => !q d)) ++ m0 :: mt ++ y :: b1).set (a1.filter (fun d => !q d)).length y = (a1.filter (fun d => !q d)) ++ [y] ++ (mt ++ [y]) ++ b1 := by
              rw [List.append_assoc, List.set_append_right _ _ (Nat.le_refl _), Nat.sub_self]
              simp
            refine C.region_seq ?_
            refine G.value rfl rfl rfl (Sure.move rfl) ?_
            refine G.value rfl rfl rfl (Sure.move rfl) ?_
            refine G.value rfl rfl rfl (Sure.loadAgg rfl (show Rd M3 _ b7 (inoDL y) from .inr (by simp)) rfl) ?_
            refine G.value rfl rfl rfl (Sure.indexAddr rfl rfl (by omega)) ?_
            refine G.dyn0 rfl rfl ?_
            refine Dyn.storeAgg rfl rfl (Pick.over (.there .here)) rfl rfl (by rw [show 0 + (((a1.filter (fun d => !q d)).length : Nat) : Int).toNat * 7 = (a1.filter (fun d => !q d)).length * 7 from by omega]; exact flat_set inoDL 7 hz _ (by simp only [List.length_append, List.length_cons] at hlen1 ⊢; omega) y junk) ?_
            rw [hset]
            refine G.nil ?_
            refine C.region ?_
            refine G.value rfl rfl rfl (Sure.move rfl) ?_
            refine G.value rfl rfl rfl (Sure.add rfl rfl (inK64 (by omega))) ?_
            refine G.value rfl rfl rfl (Sure.assign rfl) ?_
            refine G.nil ?_
            refine Fin.blk ?_
            refine Fin.th ?_
            refine C.region ?_
            refine G.value rfl rfl rfl (Sure.move rfl) ?_
            refine G.value rfl rfl rfl (Sure.add rfl rfl (inK64 (by omega))) ?_
            refine G.value rfl rfl rfl (Sure.assign rfl) ?_
            refine G.nil ?_
            refine Fin.th ?_
            refine ⟨b1.length, _, _, by simp at hk; omega, ⟨a1 ++ [y], b1, mt ++ [y], hle.trans le3, by rw [hab]; simp, rfl, by simp, by rw [hfy]; simp at hlen1 ⊢; omega, rfl, rfl⟩, ⟨rfl, rfl, ?_, ?_, trivial⟩, [(b7, .cells (inoDL y))], ?_⟩
            · rw [hfy]; simp; rfl
            · simp; rfl
            · rw [hfy]
              exact Split.cons .here (Split.one PickL.here)
          · have hqy : q y = true := by simpa using hq
            have hfy : (a1 ++ [y]).filter (fun d => !q d) = a1.filter (fun d => !q d) := by rw [List.filter_append]; simp [hqy]
            refine C.skip ?_
            refine Fin.blk ?_
            refine Fin.th ?_
            refine C.region ?_
            refine G.value rfl rfl rfl (Sure.move rfl) ?_
            refine G.value rfl rfl rfl (Sure.add rfl rfl (inK64 (by omega))) ?_
            refine G.value rfl rfl rfl (Sure.assign rfl) ?_
            refine G.nil ?_
            refine Fin.th ?_
            refine ⟨b1.length, _, _, by simp at hk; omega, ⟨a1 ++ [y], b1, m0 :: mt ++ [y], hle.trans le3, by rw [hab]; simp, rfl, by simp, by rw [hfy]; simp at hlen1 ⊢; omega, rfl, rfl⟩, ⟨rfl, rfl, ?_, ?_, trivial⟩, [(b7, .cells (inoDL y))], ?_⟩
            · rw [hfy]; rfl
            · simp; rfl
            · rw [hfy, show a1.filter (fun d => !q d) ++ (m0 :: mt ++ [y]) ++ b1 = a1.filter (fun d => !q d) ++ m0 :: mt ++ y :: b1 from by simp]
              exact Split.cons (Pick.over (.there .here)) (Split.one PickL.here)
      · have hb0 : b1 = [] := List.eq_nil_of_length_eq_zero (by omega)
        subst hb0
        simp only [List.append_nil] at hab
        subst hab
        rw [List.append_nil]
        have hmid1 : 1 ≤ mid.length := by cases mid with | nil => exact absurd rfl hmid | cons _ _ => simp
        have hjl2 : (a ++ x :: b0).length * 7 + junk.length = cap * 7 := by rw [← hjl, ← flat_len inoDL 7 hz, ← List.length_append]
        generalize hkept : (a ++ x :: b0).filter (fun d => !q d) = kept at hlen1
        generalize (a ++ x :: b0).length = n at hlen1 hc hlt hjl2
        have hcl : (((kept ++ mid).map inoDL).flatten ++ junk).length = cap * 7 := by
          rw [List.length_append, flat_len inoDL 7 hz, List.length_append]
          omega
        have hkl : (kept.map inoDL).flatten.length = kept.length * 7 := flat_len inoDL 7 hz kept
        refine C.exit ?_
        refine Fin.th_exit ?_
        refine Fin.th_exit ?_
        refine Fin.blk_eq ?_
        refine Fin.th ?_
        refine C.region_seq ?_
        refine G.value rfl rfl rfl (Sure.move rfl) ?_
        refine G.value rfl rfl rfl (Sure.move rfl) ?_
        refine G.value rfl rfl rfl (Sure.slice kept.length n rfl rfl rfl (.inl rfl) (.inr ⟨rfl, rfl⟩) (by omega) (by omega)) ?_
        rw [show subP (some ⟨b, 0, Option.none⟩) cap kept.length 7 = some ⟨b, kept.length * 7, Option.none⟩ from by unfold subP; rw [if_neg (by omega)]; simp [addr_add]]
        refine G.dyn0 rfl rfl ?_
        refine Dyn.clear (sz := 7) rfl (by decide) rfl Pick.here (by rw [hcl]; omega) ?_
        intro cs' hcs1 hcs2
        refine G.nil ?_
        refine C.region_seq ?_
        refine G.value rfl rfl rfl (Sure.move rfl) ?_
        refine G.value rfl rfl rfl (Sure.move rfl) ?_
        refine G.value rfl rfl rfl (Sure.slice 0 kept.length rfl rfl rfl (.inr ⟨rfl, rfl⟩) (.inl rfl) (by omega) (by omega)) ?_
        rw [show subP (some ⟨b, 0, Option.none⟩) cap 0 7 = some ⟨b, 0, Option.none⟩ from by unfold subP; rw [if_neg (by omega)]; simp [addr_add]]
        refine G.value rfl rfl rfl (Sure.assign rfl) ?_
        refine G.nil ?_
        refine C.ret ?_
        have hcs3 : cs' = (kept.map inoDL).flatten ++ cs'.drop (kept.length * 7) := by
          conv => lhs; rw [← List.take_append_drop (kept.length * 7) cs', hcs2]
          congr 1
          rw [List.map_append, List.flatten_append, List.append_assoc, List.take_append_of_le_length (by omega), List.take_of_length_le (by omega)]
        refine Fin.fn (Res.tmp rfl rfl) (Split.cons .here Split.nil) ⟨hkl, .inr ⟨b, cap, cs'.drop (kept.length * 7), rfl, by omega, by rw [← hcs3], by rw [← hcs3, hcs1, hcl]⟩⟩
end Go.Proofs.Ytaeeahcokiebdaa
