/-
  The walks of slices.Insert.
-/
import Derived.Test.YtaeeahcokiebdaaWq
import Derived.Laws.Externs
namespace Go.Proofs.Ytaeeahcokiebdaa
set_option maxRecDepth 20000

theorem setSeg_app {A J vs : List Value} {o : Nat} (ho : A.length = o) (hl : vs.length ≤ J.length) : setSeg (A ++ J) o vs = some (A ++ vs ++ J.drop vs.length) := by
  subst ho
  rw [setSeg_eq (by simp; omega)]
  simp [List.drop_append]
theorem ins_inplace {xs junk row : List Value} {k s : Nat} (hr : row.length = s) (hk : k ≤ xs.length) (hj : s ≤ junk.length) :
    ∃ C1, setSeg (xs ++ junk) (k + s) (xs.drop k) = some C1 ∧ C1.length = (xs ++ junk).length ∧ setSeg C1 k row = some (xs.take k ++ row ++ xs.drop k ++ junk.drop s) := by
  have h1 := setSeg_eq (c := xs ++ junk) (o := k + s) (vs := xs.drop k) (by simp; omega)
  refine ⟨_, h1, by simp; omega, ?_⟩
  rw [setSeg_eq (by simp; omega)]
  have hd : (xs ++ junk).drop (k + s + (xs.drop k).length) = junk.drop s := by
    rw [List.drop_append, List.drop_eq_nil_of_le (by simp; omega), List.nil_append]
    congr 1
    simp; omega
  rw [hd]
  congr 1
  have ht : ((xs ++ junk).take (k + s)).length = k + s := by simp; omega
  have e1 : ((xs ++ junk).take (k + s) ++ xs.drop k ++ junk.drop s).take k = xs.take k := by
    rw [List.append_assoc, List.take_append_of_le_length (by omega), List.take_take, Nat.min_eq_left (by omega), List.take_append_of_le_length hk]
  have e2 : ((xs ++ junk).take (k + s) ++ xs.drop k ++ junk.drop s).drop (k + row.length) = xs.drop k ++ junk.drop s := by
    rw [List.append_assoc, List.drop_append, List.drop_eq_nil_of_le (by omega), List.nil_append, ht, hr]
    simp
  rw [e1, e2]
  simp
theorem insertIno_spec_run {H : Heap} {M : Mem} {b b' o o' l l' cap cap' : Nat} {cs cs' : List Value} (hb : (b, HB.cells cs) ∈ H) (hb' : (b', HB.cells cs') ∈ H) (hne : b ≠ b') (hl' : cs' ≠ []) (w : World) (_ : Agr M w) (hh : Has H w) :
    (callFunc 76 [Value.slice (some ⟨b, o, Option.none⟩) l cap, Value.slice (some ⟨b', o', Option.none⟩) l' cap'].toArray).run Try.prog w = .ok (.value (.bool false)) w := by
  rw [run_callFunc_extern (fn := Try.f76) (by kernel_rfl) (by kernel_rfl) (by kernel_rfl) (by kernel_rfl) (e := Extern.SlicesOverlaps.overlaps #[44, 44] #[4]) (by kernel_rfl)]
  show ((Extern.SlicesOverlaps.overlaps #[44, 44] #[4] #[.slice (some ⟨b, o, Option.none⟩) l cap, .slice (some ⟨b', o', Option.none⟩) l' cap']).run Try.prog w).andThen _ = _
  rw [run_overlaps_own hh hb hb' hne hl']
  rfl
theorem insertIno_spec (M : Mem) (v : Value) (n i : Nat) (xs row : List Value) (Hs : Heap) (b2 : Nat) (hown : Own 7 v n xs Hs) (hi : i ≤ n) (hn : n ≤ 2000000) (hrow : row.length = 7) (h1 : allOne row = true) (hx1 : allOne xs = true) :
    Spec Try.prog 69 [v, .int .i64 i, .slice (some ⟨b2, 0, Option.none⟩) 1 1] M (Hs ++ [(b2, .cells row)]) (fun r _ H => Own 7 r (n + 1) (xs.take (i * 7) ++ row ++ xs.drop (i * 7)) H) := by
  obtain ⟨p, cap, rfl, hsl⟩ := hown.slice
  have hcap : n ≤ cap := by
    rcases hown.2 with ⟨h, rfl, _⟩ | ⟨b, c, junk, h, h2, _, _⟩
    · omega
    · injection h; omega
  have hxl := hown.1
  have hrs : ∀ M (H : Heap), (b2, HB.cells row) ∈ H → Sl M H 7 (some ⟨b2, 0, Option.none⟩) 1 row := fun M H hm => ⟨by omega, fun _ => ⟨b2, 0, row, rfl, .inr hm, seg_all (by omega)⟩⟩
  refine Spec.of_code 95 Try.func69 rfl callable69 rfl rfl fun w => ?_
  refine C.region_seq ?_
  refine G.value rfl rfl rfl (Sure.assign rfl) ?_
  refine G.nil ?_
  refine C.region_seq ?_
  refine G.value rfl rfl rfl (Sure.move rfl) ?_
  refine G.value rfl rfl rfl (Sure.move rfl) ?_
  refine G.value rfl rfl rfl (Sure.slice i n rfl rfl rfl (.inl rfl) (.inr ⟨rfl, rfl⟩) hi hcap) ?_
  refine G.nil ?_
  refine C.region_seq ?_
  refine G.value rfl rfl rfl (Sure.move rfl) ?_
  refine G.value rfl rfl rfl (Sure.len_slice rfl) ?_
  refine G.value rfl rfl rfl (Sure.assign rfl) ?_
  refine G.nil ?_
  refine C.seq ?_
  refine C.region_seq ?_
  refine G.value rfl rfl rfl (Sure.move rfl) ?_
  refine G.value rfl rfl rfl ((Sure.eql rfl rfl).to_f (by decide)) ?_
  refine G.nil ?_
  refine C.cond_false rfl ?_
  refine C.skip ?_
  refine Fin.th ?_
  refine C.region_seq ?_
  refine G.value rfl rfl rfl (Sure.move rfl) ?_
  refine G.value rfl rfl rfl (Sure.len_slice rfl) ?_
  refine G.value rfl rfl rfl (Sure.assign rfl) ?_
  refine G.nil ?_
  refine C.seq ?_
  refine C.region_seq ?_
  refine G.value rfl rfl rfl (Sure.move rfl) ?_
  refine G.value rfl rfl rfl (Sure.move rfl) ?_
  refine G.value rfl rfl rfl (Sure.eql rfl rfl) ?_
  refine G.nil ?_
  refine C.cond_dec rfl (fun heq => ?_) (fun heq => ?_)
  · have hin : i = n := by omega
    subst hin
    refine C.region_seq ?_
    refine G.value rfl rfl rfl (Sure.move rfl) ?_
    refine G.value rfl rfl rfl (Sure.move rfl) ?_
    refine G.dyn rfl rfl rfl ?_
    refine Dyn.append (fun k h => by cases h) rfl rfl rfl hown PickL.here (hrs _ _ (by simp)) h1 (by omega) (by omega) ?_
    intro v2 Hs2 hown2
    refine G.value rfl rfl rfl (Sure.assign rfl) ?_
    refine G.nil ?_
    refine C.ret ?_
    refine Fin.th_ret ?_
    refine Fin.fn (Res.tmp rfl rfl) (Split.one PickL.here) ?_
    rw [show xs.take (i * 7) = xs from List.take_of_length_le (by omega), show xs.drop (i * 7) = [] from List.drop_eq_nil_of_le (by omega), List.append_nil]
    exact hown2
  · have hin : i < n := by omega
    have hbl : i * 7 ≤ n * 7 := Nat.mul_le_mul_right _ hi
    obtain ⟨b, junk, rfl, rfl, hjl⟩ : ∃ b junk, p = some ⟨b, 0, Option.none⟩ ∧ Hs = [(b, .cells (xs ++ junk))] ∧ (xs ++ junk).length = cap * 7 := by
      rcases hown.2 with ⟨_, h, _⟩ | ⟨b, c, junk, h, _, h3, h4⟩
      · omega
      · injection h with e1 e2 e3; subst e3; exact ⟨b, junk, e1, h3, h4⟩
    have hs0 : ∀ M (H : Heap), (b, HB.cells (xs ++ junk)) ∈ H → Sl M H 7 (some ⟨b, 0, Option.none⟩) n xs := fun M H hm => ⟨hxl, fun _ => ⟨b, 0, _, rfl, .inr hm, by unfold seg; rw [takeN_eq (by simp; omega)]; simp [← hxl]⟩⟩
    have hdrop : (xs.drop (i * 7)).take ((n - i) * 7) = xs.drop (i * 7) := List.take_of_length_le (by rw [List.length_drop, hxl, Nat.sub_mul]; omega)
    refine C.skip ?_
    refine Fin.th ?_
    refine C.seq ?_
    refine C.region_seq ?_
    refine G.value rfl rfl rfl (Sure.move rfl) ?_
    refine G.value rfl rfl rfl (Sure.move rfl) ?_
    refine G.value rfl rfl rfl (Sure.add rfl rfl (inK64 (by omega))) ?_
    refine G.value rfl rfl rfl (Sure.move rfl) ?_
    refine G.value rfl rfl rfl (Sure.cap_slice rfl) ?_
    refine G.value rfl rfl rfl (Sure.gtr rfl rfl) ?_
    refine G.nil ?_
    refine C.cond_dec rfl (fun hroom => ?_) (fun hroom => ?_)
    · have hroom' : ¬ (i + (n + 1 - i) ≤ cap) := by omega
      refine C.region_seq ?_
      refine G.value rfl rfl rfl (Sure.move rfl) ?_
      refine G.value rfl rfl rfl (Sure.move rfl) ?_
      refine G.value rfl rfl rfl (Sure.slice 0 i rfl rfl rfl (.inr ⟨rfl, rfl⟩) (.inl rfl) (by omega) (by omega)) ?_
      refine G.value rfl rfl rfl (Sure.move rfl) ?_
      refine G.value rfl rfl rfl (Sure.move rfl) ?_
      refine G.value rfl rfl rfl (Sure.add rfl rfl (inK64 (by omega))) ?_
      refine G.value rfl rfl rfl (Sure.move rfl) ?_
      refine G.value rfl rfl rfl (Sure.sub rfl rfl (inK64 (by omega))) ?_
      rw [show ((n : Int) + ((1 : Nat) : Int) - (i : Int)) = ((n + 1 - i : Nat) : Int) from by omega]
      have hs1 : ∀ M (H : Heap), (b, HB.cells (xs ++ junk)) ∈ H → Sl M H 7 (subP (some ⟨b, 0, Option.none⟩) cap 0 7) (i - 0) (xs.take (i * 7)) := by
        intro M H hm
        have := (hs0 M H hm).sub (lo := 0) (hi := i) (by omega) hi hcap
        simpa using this
      refine G.dyn rfl rfl rfl ?_
      refine Dyn.appendMakeGrow (sz := 7) rfl (by omega) (by decide) rfl rfl (hs1 _ _ (by simp)) (by omega) (by omega) (by omega) ?_
      intro b3 cap3 junk3 hcap3 hjl3
      have htl : (xs.take (i * 7)).length = i * 7 := by simp; omega
      rw [show i - 0 + (n + 1 - i) = n + 1 from by omega] at hcap3 ⊢
      have hj3 : (n + 1) * 7 ≤ cap3 * 7 := Nat.mul_le_mul_right _ hcap3
      rw [List.length_append, htl] at hjl3
      refine G.value rfl rfl rfl (Sure.assign rfl) ?_
      refine G.nil ?_
      refine C.region_seq ?_
      refine G.value rfl rfl rfl (Sure.move rfl) ?_
      refine G.value rfl rfl rfl (Sure.move rfl) ?_
      refine G.value rfl rfl rfl (Sure.slice i (n + 1) rfl rfl rfl (.inl rfl) (.inr ⟨rfl, rfl⟩) (by omega) (by omega)) ?_
      rw [show subP (some ⟨b3, 0, Option.none⟩) cap3 i 7 = some ⟨b3, i * 7, Option.none⟩ from by unfold subP; rw [if_neg (by omega)]; simp [addr_add]]
      refine G.value rfl rfl rfl (Sure.move rfl) ?_
      refine G.dyn rfl rfl rfl ?_
      refine Dyn.copy (n := 1) rfl rfl (Nat.min_eq_left (by omega)) (hrs _ _ (by simp)) Pick.here h1 (setSeg_app htl (by omega)) ?_
      refine G.nil ?_
      -- draws its order
      refine C.draw_seq ([]) mixed (by kernel_rfl) (Incl.nil _) ?_
      refine GD.val 0 rfl rfl rfl rfl (by kernel_rfl) rfl (Sure.move rfl) ?_
      refine GD.val 1 rfl rfl rfl rfl (by kernel_rfl) rfl (Sure.move rfl) ?_
      refine GD.val 2 rfl rfl rfl rfl (by kernel_rfl) rfl (Sure.move rfl) ?_
      refine GD.val 3 rfl rfl rfl rfl (by kernel_rfl) rfl (Sure.add rfl rfl (inK64 (by omega))) ?_
      refine GD.val 4 rfl rfl rfl rfl (by kernel_rfl) rfl (Sure.slice (i + 1) (n + 1) rfl rfl rfl (.inl (by simp)) (.inr ⟨rfl, rfl⟩) (by omega) (by omega)) ?_
      rw [show subP (some ⟨b3, 0, Option.none⟩) cap3 (i + 1) 7 = some ⟨b3, (i + 1) * 7, Option.none⟩ from by unfold subP; rw [if_neg (by omega)]; simp [addr_add]]
      refine GD.val 5 rfl rfl rfl rfl (by kernel_rfl) rfl (Sure.move rfl) ?_
      refine GD.val 6 rfl rfl rfl rfl (by kernel_rfl) rfl (Sure.move rfl) ?_
      refine GD.val 7 rfl rfl rfl rfl (by kernel_rfl) rfl (Sure.slice i n rfl rfl rfl (.inl rfl) (.inr ⟨rfl, rfl⟩) (by omega) (by omega)) ?_
      have hsd : ∀ M (H : Heap), (b, HB.cells (xs ++ junk)) ∈ H → Sl M H 7 (subP (some ⟨b, 0, Option.none⟩) cap i 7) (n - i) (xs.drop (i * 7)) := by
        intro M H hm
        have := (hs0 M H hm).sub (lo := i) (hi := n) hi (by omega) hcap
        rwa [hdrop] at this
      have hdl : (xs.drop (i * 7)).length = n * 7 - i * 7 := by rw [List.length_drop, hxl]
      refine GD.one 8 (by kernel_rfl) rfl rfl (by kernel_rfl) ?_
      refine Next.dyn 8 rfl rfl rfl (by kernel_rfl) (by kernel_rfl) rfl ?_
      refine Dyn.copy (n := n - i) rfl rfl (Nat.min_eq_left (by omega)) (hsd _ _ (by simp)) Pick.here (by unfold allOne at hx1 ⊢; rw [List.all_eq_true] at hx1 ⊢; intro v hv; exact hx1 v (List.mem_of_mem_drop hv)) (setSeg_app (by simp only [List.length_append, htl]; omega) (by simp only [List.length_drop]; omega)) ?_
      refine ⟨MLe.refl _, Incl.nil _, ?_⟩
      refine GD.done (by kernel_rfl) (by kernel_rfl) ?_
      refine C.region_seq ?_
      refine G.value rfl rfl rfl (Sure.move rfl) ?_
      refine G.value rfl rfl rfl (Sure.assign rfl) ?_
      refine G.nil ?_
      refine C.ret ?_
      refine Fin.th_ret ?_
      refine Fin.fn (Res.tmp rfl rfl) (Split.cons .here Split.nil) ⟨by simp only [List.length_append, htl, hdl]; omega, .inr ⟨b3, cap3, _, rfl, hcap3, rfl, ?_⟩⟩
      simp only [List.length_append, List.length_drop, htl, hdl]
      omega
    · refine C.skip ?_
      refine Fin.th ?_
      refine C.region_seq ?_
      refine G.value rfl rfl rfl (Sure.move rfl) ?_
      refine G.value rfl rfl rfl (Sure.move rfl) ?_
      refine G.value rfl rfl rfl (Sure.move rfl) ?_
      refine G.value rfl rfl rfl (Sure.add rfl rfl (inK64 (by omega))) ?_
      refine G.value rfl rfl rfl (Sure.slice 0 (n + 1) rfl rfl rfl (.inr ⟨rfl, rfl⟩) (.inl (by simp)) (by omega) (by omega)) ?_
      rw [show subP (some ⟨b, 0, Option.none⟩) cap 0 7 = some ⟨b, 0, Option.none⟩ from by unfold subP; rw [if_neg (by omega)]; simp [addr_add], Nat.sub_zero cap, Nat.sub_zero (n + 1)]
      refine G.value rfl rfl rfl (Sure.assign rfl) ?_
      refine G.nil ?_
      refine C.seq ?_
      refine C.region_seq ?_
      refine G.value rfl rfl rfl (Sure.move rfl) ?_
      refine G.value rfl rfl rfl (Sure.move rfl) ?_
      refine G.value rfl rfl rfl (Sure.move rfl) ?_
      refine G.value rfl rfl rfl (Sure.move rfl) ?_
      refine G.value rfl rfl rfl (Sure.add rfl rfl (inK64 (by omega))) ?_
      refine G.value rfl rfl rfl (Sure.slice (i + 1) (n + 1) rfl rfl rfl (.inl (by simp)) (.inr ⟨rfl, rfl⟩) (by omega) (by omega)) ?_
      rw [show subP (some ⟨b, 0, Option.none⟩) cap (i + 1) 7 = some ⟨b, (i + 1) * 7, Option.none⟩ from by unfold subP; rw [if_neg (by omega)]; simp [addr_add]]
      refine G.nodup fun hnd => ?_
      have hne : b2 ≠ b := by intro e; subst e; simp [ids] at hnd
      have hnil : xs ++ junk ≠ [] := by intro e; rw [e] at hjl; simp only [List.length_nil] at hjl; omega
      have hov := insertIno_spec_run (H := [(b, HB.cells (xs ++ junk)), (b2, HB.cells row)]) (M := M) (o := 0) (o' := (i + 1) * 7) (l := 1) (l' := n + 1 - (i + 1)) (cap := 1) (cap' := cap - (i + 1)) (cs := row) (cs' := xs ++ junk) (by simp) (by simp) hne hnil
      refine G.dyn rfl rfl rfl ?_
      refine Dyn.extern (P := Try.prog) (E := _) (M := M) (o := _) rfl rfl rfl hov ?_
      refine G.value rfl rfl rfl (Sure.not rfl) ?_
      refine G.nil ?_
      refine C.cond_true rfl ?_
      -- draws its order
      have hcs : (n + 1) * 7 ≤ cap * 7 := Nat.mul_le_mul_right _ (by omega)
      have hjl2 : n * 7 + junk.length = cap * 7 := by rw [← hjl, List.length_append, hxl]
      have hsd : ∀ M (H : Heap), (b, HB.cells (xs ++ junk)) ∈ H → Sl M H 7 (some ⟨b, i * 7, Option.none⟩) (n - i) (xs.drop (i * 7)) := by
        intro M H hm
        have := (hs0 M H hm).sub (lo := i) (hi := n) hi (by omega) hcap
        rw [hdrop, show subP (some ⟨b, 0, Option.none⟩) cap i 7 = some ⟨b, i * 7, Option.none⟩ from by unfold subP; rw [if_neg (by omega)]; simp [addr_add]] at this
        exact this
      obtain ⟨C1, hset1, hC1, hset2⟩ := ins_inplace (xs := xs) (junk := junk) (row := row) (k := i * 7) hrow (by omega) (by omega)
      rw [show i * 7 + 7 = (i + 1) * 7 from by omega] at hset1
      refine C.draw_seq ([]) mixed (by kernel_rfl) (Incl.nil _) ?_
      refine GD.val 0 rfl rfl rfl rfl (by kernel_rfl) rfl (Sure.move rfl) ?_
      refine GD.val 1 rfl rfl rfl rfl (by kernel_rfl) rfl (Sure.move rfl) ?_
      refine GD.val 2 rfl rfl rfl rfl (by kernel_rfl) rfl (Sure.move rfl) ?_
      refine GD.val 3 rfl rfl rfl rfl (by kernel_rfl) rfl (Sure.add rfl rfl (inK64 (by omega))) ?_
      refine GD.val 4 rfl rfl rfl rfl (by kernel_rfl) rfl (Sure.slice (i + 1) (n + 1) rfl rfl rfl (.inl (by simp)) (.inr ⟨rfl, rfl⟩) (by omega) (by omega)) ?_
      rw [show subP (some ⟨b, 0, Option.none⟩) cap (i + 1) 7 = some ⟨b, (i + 1) * 7, Option.none⟩ from by unfold subP; rw [if_neg (by omega)]; simp [addr_add]]
      refine GD.val 5 rfl rfl rfl rfl (by kernel_rfl) rfl (Sure.move rfl) ?_
      refine GD.val 6 rfl rfl rfl rfl (by kernel_rfl) rfl (Sure.move rfl) ?_
      refine GD.val 7 rfl rfl rfl rfl (by kernel_rfl) rfl (Sure.slice i (n + 1) rfl rfl rfl (.inl rfl) (.inr ⟨rfl, rfl⟩) (by omega) (by omega)) ?_
      rw [show subP (some ⟨b, 0, Option.none⟩) cap i 7 = some ⟨b, i * 7, Option.none⟩ from by unfold subP; rw [if_neg (by omega)]; simp [addr_add]]
      refine GD.one 8 (by kernel_rfl) rfl rfl (by kernel_rfl) ?_
      refine Next.dyn 8 rfl rfl rfl (by kernel_rfl) (by kernel_rfl) rfl ?_
      refine Dyn.copy (n := n - i) rfl rfl (by show min (n + 1 - i) (n + 1 - (i + 1)) = n - i; omega) (hsd _ _ (by simp)) Pick.here (by unfold allOne at hx1 ⊢; rw [List.all_eq_true] at hx1 ⊢; intro v hv; exact hx1 v (List.mem_of_mem_drop hv)) hset1 ?_
      refine ⟨MLe.refl _, Incl.nil _, ?_⟩
      refine GD.done (by kernel_rfl) (by kernel_rfl) ?_
      refine C.region_seq ?_
      refine G.value rfl rfl rfl (Sure.move rfl) ?_
      refine G.value rfl rfl rfl (Sure.move rfl) ?_
      refine G.value rfl rfl rfl (Sure.slice i (n + 1) rfl rfl rfl (.inl rfl) (.inr ⟨rfl, rfl⟩) (by omega) (by omega)) ?_
      rw [show subP (some ⟨b, 0, Option.none⟩) cap i 7 = some ⟨b, i * 7, Option.none⟩ from by unfold subP; rw [if_neg (by omega)]; simp [addr_add]]
      refine G.value rfl rfl rfl (Sure.move rfl) ?_
      refine G.dyn rfl rfl rfl ?_
      refine Dyn.copy (n := 1) rfl rfl (Nat.min_eq_left (by omega)) (hrs _ _ (by simp)) Pick.here h1 hset2 ?_
      refine G.nil ?_
      refine C.region_seq ?_
      refine G.value rfl rfl rfl (Sure.move rfl) ?_
      refine G.value rfl rfl rfl (Sure.assign rfl) ?_
      refine G.nil ?_
      refine C.ret ?_
      refine Fin.th_ret ?_
      refine Fin.fn (Res.tmp rfl rfl) (Split.cons .here Split.nil) ⟨?_, .inr ⟨b, cap, junk.drop 7, rfl, by omega, rfl, ?_⟩⟩
      · simp only [List.length_append, List.length_take, List.length_drop]; omega
      · simp only [List.length_append, List.length_take, List.length_drop]; omega
theorem insertInt_spec_run {H : Heap} {M : Mem} {b b' o o' l l' cap cap' : Nat} {cs cs' : List Value} (hb : (b, HB.cells cs) ∈ H) (hb' : (b', HB.cells cs') ∈ H) (hne : b ≠ b') (hl' : cs' ≠ []) (w : World) (_ : Agr M w) (hh : Has H w) :
    (callFunc 79 [Value.slice (some ⟨b, o, Option.none⟩) l cap, Value.slice (some ⟨b', o', Option.none⟩) l' cap'].toArray).run Try.prog w = .ok (.value (.bool false)) w := by
  rw [run_callFunc_extern (fn := Try.f79) (by kernel_rfl) (by kernel_rfl) (by kernel_rfl) (by kernel_rfl) (e := Extern.SlicesOverlaps.overlaps #[45, 45] #[4]) (by kernel_rfl)]
  show ((Extern.SlicesOverlaps.overlaps #[45, 45] #[4] #[.slice (some ⟨b, o, Option.none⟩) l cap, .slice (some ⟨b', o', Option.none⟩) l' cap']).run Try.prog w).andThen _ = _
  rw [run_overlaps_own hh hb hb' hne hl']
  rfl
theorem insertInt_spec (M : Mem) (v : Value) (n i : Nat) (xs row : List Value) (Hs : Heap) (b2 : Nat) (hown : Own 1 v n xs Hs) (hi : i ≤ n) (hn : n ≤ 2000000) (hrow : row.length = 1) (h1 : allOne row = true) (hx1 : allOne xs = true) :
    Spec Try.prog 73 [v, .int .i64 i, .slice (some ⟨b2, 0, Option.none⟩) 1 1] M (Hs ++ [(b2, .cells row)]) (fun r _ H => Own 1 r (n + 1) (xs.take (i * 1) ++ row ++ xs.drop (i * 1)) H) := by
  obtain ⟨p, cap, rfl, hsl⟩ := hown.slice
  have hcap : n ≤ cap := by
    rcases hown.2 with ⟨h, rfl, _⟩ | ⟨b, c, junk, h, h2, _, _⟩
    · omega
    · injection h; omega
  have hxl := hown.1
  have hrs : ∀ M (H : Heap), (b2, HB.cells row) ∈ H → Sl M H 1 (some ⟨b2, 0, Option.none⟩) 1 row := fun M H hm => ⟨by omega, fun _ => ⟨b2, 0, row, rfl, .inr hm, seg_all (by omega)⟩⟩
  refine Spec.of_code 95 Try.func73 rfl callable73 rfl rfl fun w => ?_
  refine C.region_seq ?_
  refine G.value rfl rfl rfl (Sure.assign rfl) ?_
  refine G.nil ?_
  refine C.region_seq ?_
  refine G.value rfl rfl rfl (Sure.move rfl) ?_
  refine G.value rfl rfl rfl (Sure.move rfl) ?_
  refine G.value rfl rfl rfl (Sure.slice i n rfl rfl rfl (.inl rfl) (.inr ⟨rfl, rfl⟩) hi hcap) ?_
  refine G.nil ?_
  refine C.region_seq ?_
  refine G.value rfl rfl rfl (Sure.move rfl) ?_
  refine G.value rfl rfl rfl (Sure.len_slice rfl) ?_
  refine G.value rfl rfl rfl (Sure.assign rfl) ?_
  refine G.nil ?_
  refine C.seq ?_
  refine C.region_seq ?_
  refine G.value rfl rfl rfl (Sure.move rfl) ?_
  refine G.value rfl rfl rfl ((Sure.eql rfl rfl).to_f (by decide)) ?_
  refine G.nil ?_
  refine C.cond_false rfl ?_
  refine C.skip ?_
  refine Fin.th ?_
  refine C.region_seq ?_
  refine G.value rfl rfl rfl (Sure.move rfl) ?_
  refine G.value rfl rfl rfl (Sure.len_slice rfl) ?_
  refine G.value rfl rfl rfl (Sure.assign rfl) ?_
  refine G.nil ?_
  refine C.seq ?_
  refine C.region_seq ?_
  refine G.value rfl rfl rfl (Sure.move rfl) ?_
  refine G.value rfl rfl rfl (Sure.move rfl) ?_
  refine G.value rfl rfl rfl (Sure.eql rfl rfl) ?_
  refine G.nil ?_
  refine C.cond_dec rfl (fun heq => ?_) (fun heq => ?_)
  · have hin : i = n := by omega
    subst hin
    refine C.region_seq ?_
    refine G.value rfl rfl rfl (Sure.move rfl) ?_
    refine G.value rfl rfl rfl (Sure.move rfl) ?_
    refine G.dyn rfl rfl rfl ?_
    refine Dyn.append (fun k h => by cases h) rfl rfl rfl hown PickL.here (hrs _ _ (by simp)) h1 (by omega) (by omega) ?_
    intro v2 Hs2 hown2
    refine G.value rfl rfl rfl (Sure.assign rfl) ?_
    refine G.nil ?_
    refine C.ret ?_
    refine Fin.th_ret ?_
    refine Fin.fn (Res.tmp rfl rfl) (Split.one PickL.here) ?_
    rw [show xs.take (i * 1) = xs from List.take_of_length_le (by omega), show xs.drop (i * 1) = [] from List.drop_eq_nil_of_le (by omega), List.append_nil]
    exact hown2
  · have hin : i < n := by omega
    have hbl : i * 1 ≤ n * 1 := Nat.mul_le_mul_right _ hi
    obtain ⟨b, junk, rfl, rfl, hjl⟩ : ∃ b junk, p = some ⟨b, 0, Option.none⟩ ∧ Hs = [(b, .cells (xs ++ junk))] ∧ (xs ++ junk).length = cap * 1 := by
      rcases hown.2 with ⟨_, h, _⟩ | ⟨b, c, junk, h, _, h3, h4⟩
      · omega
      · injection h with e1 e2 e3; subst e3; exact ⟨b, junk, e1, h3, h4⟩
    have hs0 : ∀ M (H : Heap), (b, HB.cells (xs ++ junk)) ∈ H → Sl M H 1 (some ⟨b, 0, Option.none⟩) n xs := fun M H hm => ⟨hxl, fun _ => ⟨b, 0, _, rfl, .inr hm, by unfold seg; rw [takeN_eq (by simp; omega)]; simp [← hxl]⟩⟩
    have hdrop : (xs.drop (i * 1)).take ((n - i) * 1) = xs.drop (i * 1) := List.take_of_length_le (by rw [List.length_drop, hxl, Nat.sub_mul]; omega)
    refine C.skip ?_
    refine Fin.th ?_
    refine C.seq ?_
    refine C.region_seq ?_
    refine G.value rfl rfl rfl (Sure.move rfl) ?_
    refine G.value rfl rfl rfl (Sure.move rfl) ?_
    refine G.value rfl rfl rfl (Sure.add rfl rfl (inK64 (by omega))) ?_
    refine G.value rfl rfl rfl (Sure.move rfl) ?_
    refine G.value rfl rfl rfl (Sure.cap_slice rfl) ?_
    refine G.value rfl rfl rfl (Sure.gtr rfl rfl) ?_
    refine G.nil ?_
    refine C.cond_dec rfl (fun hroom => ?_) (fun hroom => ?_)
    · have hroom' : ¬ (i + (n + 1 - i) ≤ cap) := by omega
      refine C.region_seq ?_
      refine G.value rfl rfl rfl (Sure.move rfl) ?_
      refine G.value rfl rfl rfl (Sure.move rfl) ?_
      refine G.value rfl rfl rfl (Sure.slice 0 i rfl rfl rfl (.inr ⟨rfl, rfl⟩) (.inl rfl) (by omega) (by omega)) ?_
      refine G.value rfl rfl rfl (Sure.move rfl) ?_
      refine G.value rfl rfl rfl (Sure.move rfl) ?_
      refine G.value rfl rfl rfl (Sure.add rfl rfl (inK64 (by omega))) ?_
      refine G.value rfl rfl rfl (Sure.move rfl) ?_
      refine G.value rfl rfl rfl (Sure.sub rfl rfl (inK64 (by omega))) ?_
      rw [show ((n : Int) + ((1 : Nat) : Int) - (i : Int)) = ((n + 1 - i : Nat) : Int) from by omega]
      have hs1 : ∀ M (H : Heap), (b, HB.cells (xs ++ junk)) ∈ H → Sl M H 1 (subP (some ⟨b, 0, Option.none⟩) cap 0 1) (i - 0) (xs.take (i * 1)) := by
        intro M H hm
        have := (hs0 M H hm).sub (lo := 0) (hi := i) (by omega) hi hcap
        simpa using this
      refine G.dyn rfl rfl rfl ?_
      refine Dyn.appendMakeGrow (sz := 1) rfl (by omega) (by decide) rfl rfl (hs1 _ _ (by simp)) (by omega) (by omega) (by omega) ?_
      intro b3 cap3 junk3 hcap3 hjl3
      have htl : (xs.take (i * 1)).length = i * 1 := by simp; omega
      rw [show i - 0 + (n + 1 - i) = n + 1 from by omega] at hcap3 ⊢
      have hj3 : (n + 1) * 1 ≤ cap3 * 1 := Nat.mul_le_mul_right _ hcap3
      rw [List.length_append, htl] at hjl3
      refine G.value rfl rfl rfl (Sure.assign rfl) ?_
      refine G.nil ?_
      refine C.region_seq ?_
      refine G.value rfl rfl rfl (Sure.move rfl) ?_
      refine G.value rfl rfl rfl (Sure.move rfl) ?_
      refine G.value rfl rfl rfl (Sure.slice i (n + 1) rfl rfl rfl (.inl rfl) (.inr ⟨rfl, rfl⟩) (by omega) (by omega)) ?_
      rw [show subP (some ⟨b3, 0, Option.none⟩) cap3 i 1 = some ⟨b3, i * 1, Option.none⟩ from by unfold subP; rw [if_neg (by omega)]; simp [addr_add]]
      refine G.value rfl rfl rfl (Sure.move rfl) ?_
      refine G.dyn rfl rfl rfl ?_
      refine Dyn.copy (n := 1) rfl rfl (Nat.min_eq_left (by omega)) (hrs _ _ (by simp)) Pick.here h1 (setSeg_app htl (by omega)) ?_
      refine G.nil ?_
      -- draws its order
      refine C.draw_seq ([]) mixed (by kernel_rfl) (Incl.nil _) ?_
      refine GD.val 0 rfl rfl rfl rfl (by kernel_rfl) rfl (Sure.move rfl) ?_
      refine GD.val 1 rfl rfl rfl rfl (by kernel_rfl) rfl (Sure.move rfl) ?_
      refine GD.val 2 rfl rfl rfl rfl (by kernel_rfl) rfl (Sure.move rfl) ?_
      refine GD.val 3 rfl rfl rfl rfl (by kernel_rfl) rfl (Sure.add rfl rfl (inK64 (by omega))) ?_
      refine GD.val 4 rfl rfl rfl rfl (by kernel_rfl) rfl (Sure.slice (i + 1) (n + 1) rfl rfl rfl (.inl (by simp)) (.inr ⟨rfl, rfl⟩) (by omega) (by omega)) ?_
      rw [show subP (some ⟨b3, 0, Option.none⟩) cap3 (i + 1) 1 = some ⟨b3, (i + 1) * 1, Option.none⟩ from by unfold subP; rw [if_neg (by omega)]; simp [addr_add]]
      refine GD.val 5 rfl rfl rfl rfl (by kernel_rfl) rfl (Sure.move rfl) ?_
      refine GD.val 6 rfl rfl rfl rfl (by kernel_rfl) rfl (Sure.move rfl) ?_
      refine GD.val 7 rfl rfl rfl rfl (by kernel_rfl) rfl (Sure.slice i n rfl rfl rfl (.inl rfl) (.inr ⟨rfl, rfl⟩) (by omega) (by omega)) ?_
      have hsd : ∀ M (H : Heap), (b, HB.cells (xs ++ junk)) ∈ H → Sl M H 1 (subP (some ⟨b, 0, Option.none⟩) cap i 1) (n - i) (xs.drop (i * 1)) := by
        intro M H hm
        have := (hs0 M H hm).sub (lo := i) (hi := n) hi (by omega) hcap
        rwa [hdrop] at this
      have hdl : (xs.drop (i * 1)).length = n * 1 - i * 1 := by rw [List.length_drop, hxl]
      refine GD.one 8 (by kernel_rfl) rfl rfl (by kernel_rfl) ?_
      refine Next.dyn 8 rfl rfl rfl (by kernel_rfl) (by kernel_rfl) rfl ?_
      refine Dyn.copy (n := n - i) rfl rfl (Nat.min_eq_left (by omega)) (hsd _ _ (by simp)) Pick.here (by unfold allOne at hx1 ⊢; rw [List.all_eq_true] at hx1 ⊢; intro v hv; exact hx1 v (List.mem_of_mem_drop hv)) (setSeg_app (by simp only [List.length_append, htl]; omega) (by simp only [List.length_drop]; omega)) ?_
      refine ⟨MLe.refl _, Incl.nil _, ?_⟩
      refine GD.done (by kernel_rfl) (by kernel_rfl) ?_
      refine C.region_seq ?_
      refine G.value rfl rfl rfl (Sure.move rfl) ?_
      refine G.value rfl rfl rfl (Sure.assign rfl) ?_
      refine G.nil ?_
      refine C.ret ?_
      refine Fin.th_ret ?_
      refine Fin.fn (Res.tmp rfl rfl) (Split.cons .here Split.nil) ⟨by simp only [List.length_append, htl, hdl]; omega, .inr ⟨b3, cap3, _, rfl, hcap3, rfl, ?_⟩⟩
      simp only [List.length_append, List.length_drop, htl, hdl]
      omega
    · refine C.skip ?_
      refine Fin.th ?_
      refine C.region_seq ?_
      refine G.value rfl rfl rfl (Sure.move rfl) ?_
      refine G.value rfl rfl rfl (Sure.move rfl) ?_
      refine G.value rfl rfl rfl (Sure.move rfl) ?_
      refine G.value rfl rfl rfl (Sure.add rfl rfl (inK64 (by omega))) ?_
      refine G.value rfl rfl rfl (Sure.slice 0 (n + 1) rfl rfl rfl (.inr ⟨rfl, rfl⟩) (.inl (by simp)) (by omega) (by omega)) ?_
      rw [show subP (some ⟨b, 0, Option.none⟩) cap 0 1 = some ⟨b, 0, Option.none⟩ from by unfold subP; rw [if_neg (by omega)]; simp [addr_add], Nat.sub_zero cap, Nat.sub_zero (n + 1)]
      refine G.value rfl rfl rfl (Sure.assign rfl) ?_
      refine G.nil ?_
      refine C.seq ?_
      refine C.region_seq ?_
      refine G.value rfl rfl rfl (Sure.move rfl) ?_
      refine G.value rfl rfl rfl (Sure.move rfl) ?_
      refine G.value rfl rfl rfl (Sure.move rfl) ?_
      refine G.value rfl rfl rfl (Sure.move rfl) ?_
      refine G.value rfl rfl rfl (Sure.add rfl rfl (inK64 (by omega))) ?_
      refine G.value rfl rfl rfl (Sure.slice (i + 1) (n + 1) rfl rfl rfl (.inl (by simp)) (.inr ⟨rfl, rfl⟩) (by omega) (by omega)) ?_
      rw [show subP (some ⟨b, 0, Option.none⟩) cap (i + 1) 1 = some ⟨b, (i + 1) * 1, Option.none⟩ from by unfold subP; rw [if_neg (by omega)]; simp [addr_add]]
      refine G.nodup fun hnd => ?_
      have hne : b2 ≠ b := by intro e; subst e; simp [ids] at hnd
      have hnil : xs ++ junk ≠ [] := by intro e; rw [e] at hjl; simp only [List.length_nil] at hjl; omega
      have hov := insertInt_spec_run (H := [(b, HB.cells (xs ++ junk)), (b2, HB.cells row)]) (M := M) (o := 0) (o' := (i + 1) * 1) (l := 1) (l' := n + 1 - (i + 1)) (cap := 1) (cap' := cap - (i + 1)) (cs := row) (cs' := xs ++ junk) (by simp) (by simp) hne hnil
      refine G.dyn rfl rfl rfl ?_
      refine Dyn.extern (P := Try.prog) (E := _) (M := M) (o := _) rfl rfl rfl hov ?_
      refine G.value rfl rfl rfl (Sure.not rfl) ?_
      refine G.nil ?_
      refine C.cond_true rfl ?_
      -- draws its order
      have hcs : (n + 1) * 1 ≤ cap * 1 := Nat.mul_le_mul_right _ (by omega)
      have hjl2 : n * 1 + junk.length = cap * 1 := by rw [← hjl, List.length_append, hxl]
      have hsd : ∀ M (H : Heap), (b, HB.cells (xs ++ junk)) ∈ H → Sl M H 1 (some ⟨b, i * 1, Option.none⟩) (n - i) (xs.drop (i * 1)) := by
        intro M H hm
        have := (hs0 M H hm).sub (lo := i) (hi := n) hi (by omega) hcap
        rw [hdrop, show subP (some ⟨b, 0, Option.none⟩) cap i 1 = some ⟨b, i * 1, Option.none⟩ from by unfold subP; rw [if_neg (by omega)]; simp [addr_add]] at this
        exact this
      obtain ⟨C1, hset1, hC1, hset2⟩ := ins_inplace (xs := xs) (junk := junk) (row := row) (k := i * 1) hrow (by omega) (by omega)
      rw [show i * 1 + 1 = (i + 1) * 1 from by omega] at hset1
      refine C.draw_seq ([]) mixed (by kernel_rfl) (Incl.nil _) ?_
      refine GD.val 0 rfl rfl rfl rfl (by kernel_rfl) rfl (Sure.move rfl) ?_
      refine GD.val 1 rfl rfl rfl rfl (by kernel_rfl) rfl (Sure.move rfl) ?_
      refine GD.val 2 rfl rfl rfl rfl (by kernel_rfl) rfl (Sure.move rfl) ?_
      refine GD.val 3 rfl rfl rfl rfl (by kernel_rfl) rfl (Sure.add rfl rfl (inK64 (by omega))) ?_
      refine GD.val 4 rfl rfl rfl rfl (by kernel_rfl) rfl (Sure.slice (i + 1) (n + 1) rfl rfl rfl (.inl (by simp)) (.inr ⟨rfl, rfl⟩) (by omega) (by omega)) ?_
      rw [show subP (some ⟨b, 0, Option.none⟩) cap (i + 1) 1 = some ⟨b, (i + 1) * 1, Option.none⟩ from by unfold subP; rw [if_neg (by omega)]; simp [addr_add]]
      refine GD.val 5 rfl rfl rfl rfl (by kernel_rfl) rfl (Sure.move rfl) ?_
      refine GD.val 6 rfl rfl rfl rfl (by kernel_rfl) rfl (Sure.move rfl) ?_
      refine GD.val 7 rfl rfl rfl rfl (by kernel_rfl) rfl (Sure.slice i (n + 1) rfl rfl rfl (.inl rfl) (.inr ⟨rfl, rfl⟩) (by omega) (by omega)) ?_
      rw [show subP (some ⟨b, 0, Option.none⟩) cap i 1 = some ⟨b, i * 1, Option.none⟩ from by unfold subP; rw [if_neg (by omega)]; simp [addr_add]]
      refine GD.one 8 (by kernel_rfl) rfl rfl (by kernel_rfl) ?_
      refine Next.dyn 8 rfl rfl rfl (by kernel_rfl) (by kernel_rfl) rfl ?_
      refine Dyn.copy (n := n - i) rfl rfl (by show min (n + 1 - i) (n + 1 - (i + 1)) = n - i; omega) (hsd _ _ (by simp)) Pick.here (by unfold allOne at hx1 ⊢; rw [List.all_eq_true] at hx1 ⊢; intro v hv; exact hx1 v (List.mem_of_mem_drop hv)) hset1 ?_
      refine ⟨MLe.refl _, Incl.nil _, ?_⟩
      refine GD.done (by kernel_rfl) (by kernel_rfl) ?_
      refine C.region_seq ?_
      refine G.value rfl rfl rfl (Sure.move rfl) ?_
      refine G.value rfl rfl rfl (Sure.move rfl) ?_
      refine G.value rfl rfl rfl (Sure.slice i (n + 1) rfl rfl rfl (.inl rfl) (.inr ⟨rfl, rfl⟩) (by omega) (by omega)) ?_
      rw [show subP (some ⟨b, 0, Option.none⟩) cap i 1 = some ⟨b, i * 1, Option.none⟩ from by unfold subP; rw [if_neg (by omega)]; simp [addr_add]]
      refine G.value rfl rfl rfl (Sure.move rfl) ?_
      refine G.dyn rfl rfl rfl ?_
      refine Dyn.copy (n := 1) rfl rfl (Nat.min_eq_left (by omega)) (hrs _ _ (by simp)) Pick.here h1 hset2 ?_
      refine G.nil ?_
      refine C.region_seq ?_
      refine G.value rfl rfl rfl (Sure.move rfl) ?_
      refine G.value rfl rfl rfl (Sure.assign rfl) ?_
      refine G.nil ?_
      refine C.ret ?_
      refine Fin.th_ret ?_
      refine Fin.fn (Res.tmp rfl rfl) (Split.cons .here Split.nil) ⟨?_, .inr ⟨b, cap, junk.drop 1, rfl, by omega, rfl, ?_⟩⟩
      · simp only [List.length_append, List.length_take, List.length_drop]; omega
      · simp only [List.length_append, List.length_take, List.length_drop]; omega
end Go.Proofs.Ytaeeahcokiebdaa
