/-
  The walks of copies of slices, and of inodes.
  Conditions: a slice has at most a thousand million elements.
-/
import Derived.Test.YtaeeahcokiebdaaWj
namespace Go.Proofs.Ytaeeahcokiebdaa
set_option maxRecDepth 20000

/-- What a function that makes a slice hands back: a slice that stays as it is. -/
def RetL (sz n : Nat) (xs : List Value) (v : Value) (M : Mem) (H : Heap) : Prop := H = [] ∧ ∃ p cap, v = .slice p n cap ∧ Sl M [] sz p n xs
theorem Spec.retL {f args M sz n xs} (h : Spec Try.prog f args M [] (fun v _ H => Own sz v n xs H)) : Spec Try.prog f args M [] (fun v M' H => RetL sz n xs v M' H) := by
  refine ⟨h.callable, fun w hw => (h.runs w hw).mono ?_⟩
  rintro e w' ⟨v, M', H', rfl, hst, h1, h2⟩
  rcases h2 with ⟨rfl, rfl, rfl⟩ | ⟨b, cap, junk, rfl, h3, rfl, h4⟩
  · exact ⟨_, M', [], rfl, hst, rfl, Option.none, 0, rfl, h1, fun hp => absurd hp (by omega)⟩
  · exact ⟨_, _, [], rfl, hst.donate, rfl, _, _, rfl, h1, fun _ => ⟨b, 0, xs ++ junk, rfl, Rd.m (by simp [mput]), by simpa [seg] using takeN_append h1⟩⟩
theorem cloneEnts_spec (M : Mem) (p : Option Addr) (cap n : Nat) (xs : List Value) (hs : Sl M [] 2 p n xs) (h1 : allOne xs = true) (hn : n ≤ 1000000000) :
    Spec Try.prog 64 [.slice p n cap] M [] (fun v _ H => Own 2 v n xs H) := by
  refine Spec.of_code 8 Try.func64 rfl callable64 rfl rfl fun w => ?_
  refine C.region_seq ?_
  refine G.value rfl rfl rfl (Sure.assign rfl) ?_
  refine G.nil ?_
  refine C.seq ?_
  refine C.region_seq ?_
  refine G.value rfl rfl rfl (Sure.move rfl) ?_
  refine G.value rfl rfl rfl (Sure.slice_eq_nil rfl rfl) ?_
  refine G.nil ?_
  refine C.cond rfl (fun hnil => ?_) (fun hnil => ?_)
  · have hp0 : n = 0 := by
      rcases Nat.eq_zero_or_pos n with h | h
      · exact h
      · obtain ⟨b, o, c, rfl, _⟩ := hs.2 h
        simp at hnil
    subst hp0
    have hx0 : xs = [] := List.eq_nil_of_length_eq_zero (by simpa using hs.1)
    subst hx0
    refine C.region_seq ?_
    refine G.value rfl rfl rfl (Sure.assign rfl) ?_
    refine G.nil ?_
    refine C.ret ?_
    refine Fin.th_ret ?_
    exact Fin.fn (Res.tmp rfl rfl) Split.nil Own.nil
  · refine C.skip ?_
    refine Fin.th ?_
    refine C.region_seq ?_
    refine G.dyn rfl rfl rfl ?_
    refine Dyn.buildSlice rfl rfl rfl (by simp) (by decide) ?_
    intro b
    refine G.value rfl rfl rfl (Sure.move rfl) ?_
    refine G.dyn rfl rfl rfl ?_
    refine Dyn.append (xs := []) (fun k h => by cases h) rfl rfl rfl (Own.mk (by simp)) PickL.here (Sl.heap hs) h1 (by omega) (by omega) ?_
    intro v2 Hs2 hown2
    refine G.value rfl rfl rfl (Sure.assign rfl) ?_
    refine G.nil ?_
    refine C.ret ?_
    refine Fin.fn (Res.tmp rfl rfl) (Split.one PickL.all) ?_
    simpa using hown2
theorem cloneRuns_spec (M : Mem) (p : Option Addr) (cap n : Nat) (xs : List Value) (hs : Sl M [] 3 p n xs) (h1 : allOne xs = true) (hn : n ≤ 1000000000) :
    Spec Try.prog 65 [.slice p n cap] M [] (fun v _ H => Own 3 v n xs H) := by
  refine Spec.of_code 8 Try.func65 rfl callable65 rfl rfl fun w => ?_
  refine C.region_seq ?_
  refine G.value rfl rfl rfl (Sure.assign rfl) ?_
  refine G.nil ?_
  refine C.seq ?_
  refine C.region_seq ?_
  refine G.value rfl rfl rfl (Sure.move rfl) ?_
  refine G.value rfl rfl rfl (Sure.slice_eq_nil rfl rfl) ?_
  refine G.nil ?_
  refine C.cond rfl (fun hnil => ?_) (fun hnil => ?_)
  · have hp0 : n = 0 := by
      rcases Nat.eq_zero_or_pos n with h | h
      · exact h
      · obtain ⟨b, o, c, rfl, _⟩ := hs.2 h
        simp at hnil
    subst hp0
    have hx0 : xs = [] := List.eq_nil_of_length_eq_zero (by simpa using hs.1)
    subst hx0
    refine C.region_seq ?_
    refine G.value rfl rfl rfl (Sure.assign rfl) ?_
    refine G.nil ?_
    refine C.ret ?_
    refine Fin.th_ret ?_
    exact Fin.fn (Res.tmp rfl rfl) Split.nil Own.nil
  · refine C.skip ?_
    refine Fin.th ?_
    refine C.region_seq ?_
    refine G.dyn rfl rfl rfl ?_
    refine Dyn.buildSlice rfl rfl rfl (by simp) (by decide) ?_
    intro b
    refine G.value rfl rfl rfl (Sure.move rfl) ?_
    refine G.dyn rfl rfl rfl ?_
    refine Dyn.append (xs := []) (fun k h => by cases h) rfl rfl rfl (Own.mk (by simp)) PickL.here (Sl.heap hs) h1 (by omega) (by omega) ?_
    intro v2 Hs2 hown2
    refine G.value rfl rfl rfl (Sure.assign rfl) ?_
    refine G.nil ?_
    refine C.ret ?_
    refine Fin.fn (Res.tmp rfl rfl) (Split.one PickL.all) ?_
    simpa using hown2
theorem cloneInts_spec (M : Mem) (p : Option Addr) (cap n : Nat) (xs : List Value) (hs : Sl M [] 1 p n xs) (h1 : allOne xs = true) (hn : n ≤ 1000000000) :
    Spec Try.prog 47 [.slice p n cap] M [] (fun v _ H => Own 1 v n xs H) := by
  refine Spec.of_code 8 Try.func47 rfl callable47 rfl rfl fun w => ?_
  refine C.region_seq ?_
  refine G.value rfl rfl rfl (Sure.assign rfl) ?_
  refine G.nil ?_
  refine C.seq ?_
  refine C.region_seq ?_
  refine G.value rfl rfl rfl (Sure.move rfl) ?_
  refine G.value rfl rfl rfl (Sure.slice_eq_nil rfl rfl) ?_
  refine G.nil ?_
  refine C.cond rfl (fun hnil => ?_) (fun hnil => ?_)
  · have hp0 : n = 0 := by
      rcases Nat.eq_zero_or_pos n with h | h
      · exact h
      · obtain ⟨b, o, c, rfl, _⟩ := hs.2 h
        simp at hnil
    subst hp0
    have hx0 : xs = [] := List.eq_nil_of_length_eq_zero (by simpa using hs.1)
    subst hx0
    refine C.region_seq ?_
    refine G.value rfl rfl rfl (Sure.assign rfl) ?_
    refine G.nil ?_
    refine C.ret ?_
    refine Fin.th_ret ?_
    exact Fin.fn (Res.tmp rfl rfl) Split.nil Own.nil
  · refine C.skip ?_
    refine Fin.th ?_
    refine C.region_seq ?_
    refine G.dyn rfl rfl rfl ?_
    refine Dyn.buildSlice rfl rfl rfl (by simp) (by decide) ?_
    intro b
    refine G.value rfl rfl rfl (Sure.move rfl) ?_
    refine G.dyn rfl rfl rfl ?_
    refine Dyn.append (xs := []) (fun k h => by cases h) rfl rfl rfl (Own.mk (by simp)) PickL.here (Sl.heap hs) h1 (by omega) (by omega) ?_
    intro v2 Hs2 hown2
    refine G.value rfl rfl rfl (Sure.assign rfl) ?_
    refine G.nil ?_
    refine C.ret ?_
    refine Fin.fn (Res.tmp rfl rfl) (Split.one PickL.all) ?_
    simpa using hown2
end Go.Proofs.Ytaeeahcokiebdaa
