/-
  WHAT IS PROVED: whatever the geometry and the two numbers, the law JournalTurns returns true, never panics, and leaves its arguments as they were. CONDITIONS: none but those of the row.
-/
import Derived.Test.YtaeeahcokiebdaaGreatTne

/-
  The walks of holding inodes and states against each other, and of what fits, as the references have it.
  Conditions: lists have a million elements at most.
-/
namespace Go.Proofs.YtaeeahcokiebdaaGreat
set_option maxRecDepth 20000

def inoEq (a b : Ino) : Bool := decide (a.no = b.no) && (decide (a.kind = b.kind) && (decide (a.links = b.links) && (decide (a.size = b.size) && ((a.tgt.toList == b.tgt.toList) && (sameL entEq a.ents b.ents && sameL runEq a.runs b.runs)))))
def inoDEq (a b : InoD) : Bool := inoEq a.x b.x
def staEq (a b : Sta) : Bool := decide (a.next = b.next) && (sameL inoEq a.inos b.inos && sameL intEq a.bad b.bad)
theorem inoEq_refl (a : Ino) : inoEq a a = true := by
  unfold inoEq
  rw [sameL_refl (fun x => by simp [entEq]), sameL_refl (fun x => by simp [runEq])]
  simp
theorem staEq_refl (a : Sta) : staEq a a = true := by
  unfold staEq
  rw [sameL_refl inoEq_refl, sameL_refl (fun x => by simp [intEq])]
  simp
theorem sameL_map {α β : Type} (q : β → β → Bool) (g : α → β) : ∀ a b : List α, sameL (fun x y => q (g x) (g y)) a b = sameL q (a.map g) (b.map g)
  | [], [] => rfl
  | [], _ :: _ => rfl
  | _ :: _, [] => rfl
  | x :: a, y :: b => by simp [sameL, sameL_map q g a b]
theorem inode_spec (M : Mem) (a b : InoD) (ha : DOk M a) (hb : DOk M b) (hk : InoOk a.x) : Spec Tryz.prog 62 [.agg (inoDL a).toArray, .agg (inoDL b).toArray] M [] (fun v _ H => v = .bool (inoEq a.x b.x) ∧ H = []) := by
  refine Spec.of_code 52 Tryz.func62 rfl callable62 rfl rfl fun w => ?_
  refine C.region_seq ?_
  refine G.dyn rfl rfl rfl ?_
  refine Dyn.boxAgg rfl ?_
  intro b2
  refine G.dyn rfl rfl rfl ?_
  refine Dyn.boxAgg rfl ?_
  intro b3
  refine G.value rfl rfl rfl (Sure.assign rfl) ?_
  refine G.nil ?_
  refine C.region_seq ?_
  refine G.value rfl rfl rfl (Sure.fieldAddr rfl) ?_
  refine G.value rfl rfl rfl (Sure.load rfl rdx rfl) ?_
  refine G.value rfl rfl rfl (Sure.fieldAddr rfl) ?_
  refine G.value rfl rfl rfl (Sure.load rfl rdx rfl) ?_
  rcases Decidable.em (a.x.no = b.x.no) with h0 | h0
  · refine G.value rfl rfl rfl ((Sure.eql rfl rfl).to_t h0) ?_
    refine G.value rfl rfl rfl (Sure.move rfl) ?_
    refine G.value rfl rfl rfl (Sure.fieldAddr rfl) ?_
    refine G.value rfl rfl rfl (Sure.load rfl rdx rfl) ?_
    refine G.value rfl rfl rfl (Sure.fieldAddr rfl) ?_
    refine G.value rfl rfl rfl (Sure.load rfl rdx rfl) ?_
    rcases Decidable.em (a.x.kind = b.x.kind) with h1 | h1
    · refine G.value rfl rfl rfl ((Sure.eql rfl rfl).to_t h1) ?_
      refine G.value rfl rfl rfl (Sure.pick_true rfl rfl) ?_
      refine G.value rfl rfl rfl (Sure.move rfl) ?_
      refine G.value rfl rfl rfl (Sure.fieldAddr rfl) ?_
      refine G.value rfl rfl rfl (Sure.load rfl rdx rfl) ?_
      refine G.value rfl rfl rfl (Sure.fieldAddr rfl) ?_
      refine G.value rfl rfl rfl (Sure.load rfl rdx rfl) ?_
      rcases Decidable.em (a.x.links = b.x.links) with h2 | h2
      · refine G.value rfl rfl rfl ((Sure.eql rfl rfl).to_t h2) ?_
        refine G.value rfl rfl rfl (Sure.pick_true rfl rfl) ?_
        refine G.value rfl rfl rfl (Sure.move rfl) ?_
        refine G.value rfl rfl rfl (Sure.fieldAddr rfl) ?_
        refine G.value rfl rfl rfl (Sure.load rfl rdx rfl) ?_
        refine G.value rfl rfl rfl (Sure.fieldAddr rfl) ?_
        refine G.value rfl rfl rfl (Sure.load rfl rdx rfl) ?_
        rcases Decidable.em (a.x.size = b.x.size) with h3 | h3
        · refine G.value rfl rfl rfl ((Sure.eql rfl rfl).to_t h3) ?_
          refine G.value rfl rfl rfl (Sure.pick_true rfl rfl) ?_
          refine G.value rfl rfl rfl (Sure.move rfl) ?_
          refine G.value rfl rfl rfl (Sure.fieldAddr rfl) ?_
          refine G.value rfl rfl rfl (Sure.load rfl rdx rfl) ?_
          refine G.value rfl rfl rfl (Sure.fieldAddr rfl) ?_
          refine G.value rfl rfl rfl (Sure.load rfl rdx rfl) ?_
          refine G.value rfl rfl rfl (Sure.str_eql rfl rfl) ?_
          cases h4 : (a.x.tgt.toList == b.x.tgt.toList) with
          | true =>
            refine G.value rfl rfl rfl (Sure.pick_true rfl rfl) ?_
            refine G.value rfl rfl rfl (Sure.move rfl) ?_
            refine G.value rfl rfl rfl (Sure.fieldAddr rfl) ?_
            refine G.value rfl rfl rfl (Sure.load rfl rdx rfl) ?_
            refine G.value rfl rfl rfl (Sure.fieldAddr rfl) ?_
            refine G.value rfl rfl rfl (Sure.load rfl rdx rfl) ?_
            refine G.call rfl rfl rfl rfl rfl rfl (plainEnt_spec M a.pe b.pe a.ce b.ce a.x.ents b.x.ents ha.1 hb.1 (by have := hk.1; omega)) (Split.nil) ?_
            rintro _ M1 _ le1 ⟨rfl, rfl⟩
            cases h5 : sameL entEq a.x.ents b.x.ents with
            | true =>
              refine G.value rfl rfl rfl (Sure.pick_true rfl rfl) ?_
              refine G.value rfl rfl rfl (Sure.move rfl) ?_
              refine G.value rfl rfl rfl (Sure.fieldAddr rfl) ?_
              refine G.value rfl rfl rfl (Sure.load rfl rdx rfl) ?_
              refine G.value rfl rfl rfl (Sure.fieldAddr rfl) ?_
              refine G.value rfl rfl rfl (Sure.load rfl rdx rfl) ?_
              refine G.call rfl rfl rfl rfl rfl rfl (plainRun_spec M1 a.pr b.pr a.cr b.cr a.x.runs b.x.runs (SlL.mono ha.2 le1) (SlL.mono hb.2 le1) (by have := hk.2; omega)) (Split.nil) ?_
              rintro _ M2 _ le2 ⟨rfl, rfl⟩
              refine G.value rfl rfl rfl (Sure.pick_true rfl rfl) ?_
              refine G.value rfl rfl rfl (Sure.assign rfl) ?_
              refine G.nil ?_
              refine C.ret ?_
              exact Fin.fn (Res.tmp rfl rfl) Split.nil ⟨by simp only [inoEq, h0, h1, h2, h3, h4, h5, decide_true, Bool.true_and], rfl⟩
            | false =>
              refine G.value rfl rfl rfl (Sure.pick_true rfl rfl) ?_
              refine G.value rfl rfl rfl (Sure.move rfl) ?_
              refine G.skip rfl rfl rfl ?_
              refine G.skip rfl rfl rfl ?_
              refine G.skip rfl rfl rfl ?_
              refine G.skip rfl rfl rfl ?_
              refine G.skip rfl rfl rfl ?_
              refine G.value rfl rfl rfl (Sure.pick_false rfl rfl) ?_
              refine G.value rfl rfl rfl (Sure.assign rfl) ?_
              refine G.nil ?_
              refine C.ret ?_
              exact Fin.fn (Res.tmp rfl rfl) Split.nil ⟨by simp only [inoEq, h0, h1, h2, h3, h4, h5, decide_true, Bool.true_and, Bool.false_and], rfl⟩
          | false =>
            refine G.value rfl rfl rfl (Sure.pick_true rfl rfl) ?_
            refine G.value rfl rfl rfl (Sure.move rfl) ?_
            refine G.skip rfl rfl rfl ?_
            refine G.skip rfl rfl rfl ?_
            refine G.skip rfl rfl rfl ?_
            refine G.skip rfl rfl rfl ?_
            refine G.skip rfl rfl rfl ?_
            refine G.value rfl rfl rfl (Sure.pick_false rfl rfl) ?_
            refine G.value rfl rfl rfl (Sure.move rfl) ?_
            refine G.skip rfl rfl rfl ?_
            refine G.skip rfl rfl rfl ?_
            refine G.skip rfl rfl rfl ?_
            refine G.skip rfl rfl rfl ?_
            refine G.skip rfl rfl rfl ?_
            refine G.value rfl rfl rfl (Sure.pick_false rfl rfl) ?_
            refine G.value rfl rfl rfl (Sure.assign rfl) ?_
            refine G.nil ?_
            refine C.ret ?_
            exact Fin.fn (Res.tmp rfl rfl) Split.nil ⟨by simp only [inoEq, h0, h1, h2, h3, h4, decide_true, Bool.true_and, Bool.false_and], rfl⟩
        · skip
          refine G.value rfl rfl rfl ((Sure.eql rfl rfl).to_f h3) ?_
          refine G.value rfl rfl rfl (Sure.pick_true rfl rfl) ?_
          refine G.value rfl rfl rfl (Sure.move rfl) ?_
          refine G.skip rfl rfl rfl ?_
          refine G.skip rfl rfl rfl ?_
          refine G.skip rfl rfl rfl ?_
          refine G.skip rfl rfl rfl ?_
          refine G.skip rfl rfl rfl ?_
          refine G.value rfl rfl rfl (Sure.pick_false rfl rfl) ?_
          refine G.value rfl rfl rfl (Sure.move rfl) ?_
          refine G.skip rfl rfl rfl ?_
          refine G.skip rfl rfl rfl ?_
          refine G.skip rfl rfl rfl ?_
          refine G.skip rfl rfl rfl ?_
          refine G.skip rfl rfl rfl ?_
          refine G.value rfl rfl rfl (Sure.pick_false rfl rfl) ?_
          refine G.value rfl rfl rfl (Sure.move rfl) ?_
          refine G.skip rfl rfl rfl ?_
          refine G.skip rfl rfl rfl ?_
          refine G.skip rfl rfl rfl ?_
          refine G.skip rfl rfl rfl ?_
          refine G.skip rfl rfl rfl ?_
          refine G.value rfl rfl rfl (Sure.pick_false rfl rfl) ?_
          refine G.value rfl rfl rfl (Sure.assign rfl) ?_
          refine G.nil ?_
          refine C.ret ?_
          exact Fin.fn (Res.tmp rfl rfl) Split.nil ⟨by simp [inoEq, h0, h1, h2, h3], rfl⟩
      · skip
        refine G.value rfl rfl rfl ((Sure.eql rfl rfl).to_f h2) ?_
        refine G.value rfl rfl rfl (Sure.pick_true rfl rfl) ?_
        refine G.value rfl rfl rfl (Sure.move rfl) ?_
        refine G.skip rfl rfl rfl ?_
        refine G.skip rfl rfl rfl ?_
        refine G.skip rfl rfl rfl ?_
        refine G.skip rfl rfl rfl ?_
        refine G.skip rfl rfl rfl ?_
        refine G.value rfl rfl rfl (Sure.pick_false rfl rfl) ?_
        refine G.value rfl rfl rfl (Sure.move rfl) ?_
        refine G.skip rfl rfl rfl ?_
        refine G.skip rfl rfl rfl ?_
        refine G.skip rfl rfl rfl ?_
        refine G.skip rfl rfl rfl ?_
        refine G.skip rfl rfl rfl ?_
        refine G.value rfl rfl rfl (Sure.pick_false rfl rfl) ?_
        refine G.value rfl rfl rfl (Sure.move rfl) ?_
        refine G.skip rfl rfl rfl ?_
        refine G.skip rfl rfl rfl ?_
        refine G.skip rfl rfl rfl ?_
        refine G.skip rfl rfl rfl ?_
        refine G.skip rfl rfl rfl ?_
        refine G.value rfl rfl rfl (Sure.pick_false rfl rfl) ?_
        refine G.value rfl rfl rfl (Sure.move rfl) ?_
        refine G.skip rfl rfl rfl ?_
        refine G.skip rfl rfl rfl ?_
        refine G.skip rfl rfl rfl ?_
        refine G.skip rfl rfl rfl ?_
        refine G.skip rfl rfl rfl ?_
        refine G.value rfl rfl rfl (Sure.pick_false rfl rfl) ?_
        refine G.value rfl rfl rfl (Sure.assign rfl) ?_
        refine G.nil ?_
        refine C.ret ?_
        exact Fin.fn (Res.tmp rfl rfl) Split.nil ⟨by simp [inoEq, h0, h1, h2], rfl⟩
    · skip
      refine G.value rfl rfl rfl ((Sure.eql rfl rfl).to_f h1) ?_
      refine G.value rfl rfl rfl (Sure.pick_true rfl rfl) ?_
      refine G.value rfl rfl rfl (Sure.move rfl) ?_
      refine G.skip rfl rfl rfl ?_
      refine G.skip rfl rfl rfl ?_
      refine G.skip rfl rfl rfl ?_
      refine G.skip rfl rfl rfl ?_
      refine G.skip rfl rfl rfl ?_
      refine G.value rfl rfl rfl (Sure.pick_false rfl rfl) ?_
      refine G.value rfl rfl rfl (Sure.move rfl) ?_
      refine G.skip rfl rfl rfl ?_
      refine G.skip rfl rfl rfl ?_
      refine G.skip rfl rfl rfl ?_
      refine G.skip rfl rfl rfl ?_
      refine G.skip rfl rfl rfl ?_
      refine G.value rfl rfl rfl (Sure.pick_false rfl rfl) ?_
      refine G.value rfl rfl rfl (Sure.move rfl) ?_
      refine G.skip rfl rfl rfl ?_
      refine G.skip rfl rfl rfl ?_
      refine G.skip rfl rfl rfl ?_
      refine G.skip rfl rfl rfl ?_
      refine G.skip rfl rfl rfl ?_
      refine G.value rfl rfl rfl (Sure.pick_false rfl rfl) ?_
      refine G.value rfl rfl rfl (Sure.move rfl) ?_
      refine G.skip rfl rfl rfl ?_
      refine G.skip rfl rfl rfl ?_
      refine G.skip rfl rfl rfl ?_
      refine G.skip rfl rfl rfl ?_
      refine G.skip rfl rfl rfl ?_
      refine G.value rfl rfl rfl (Sure.pick_false rfl rfl) ?_
      refine G.value rfl rfl rfl (Sure.move rfl) ?_
      refine G.skip rfl rfl rfl ?_
      refine G.skip rfl rfl rfl ?_
      refine G.skip rfl rfl rfl ?_
      refine G.skip rfl rfl rfl ?_
      refine G.skip rfl rfl rfl ?_
      refine G.value rfl rfl rfl (Sure.pick_false rfl rfl) ?_
      refine G.value rfl rfl rfl (Sure.assign rfl) ?_
      refine G.nil ?_
      refine C.ret ?_
      exact Fin.fn (Res.tmp rfl rfl) Split.nil ⟨by simp [inoEq, h0, h1], rfl⟩
  · skip
    refine G.value rfl rfl rfl ((Sure.eql rfl rfl).to_f h0) ?_
    refine G.value rfl rfl rfl (Sure.move rfl) ?_
    refine G.skip rfl rfl rfl ?_
    refine G.skip rfl rfl rfl ?_
    refine G.skip rfl rfl rfl ?_
    refine G.skip rfl rfl rfl ?_
    refine G.skip rfl rfl rfl ?_
    refine G.value rfl rfl rfl (Sure.pick_false rfl rfl) ?_
    refine G.value rfl rfl rfl (Sure.move rfl) ?_
    refine G.skip rfl rfl rfl ?_
    refine G.skip rfl rfl rfl ?_
    refine G.skip rfl rfl rfl ?_
    refine G.skip rfl rfl rfl ?_
    refine G.skip rfl rfl rfl ?_
    refine G.value rfl rfl rfl (Sure.pick_false rfl rfl) ?_
    refine G.value rfl rfl rfl (Sure.move rfl) ?_
    refine G.skip rfl rfl rfl ?_
    refine G.skip rfl rfl rfl ?_
    refine G.skip rfl rfl rfl ?_
    refine G.skip rfl rfl rfl ?_
    refine G.skip rfl rfl rfl ?_
    refine G.value rfl rfl rfl (Sure.pick_false rfl rfl) ?_
    refine G.value rfl rfl rfl (Sure.move rfl) ?_
    refine G.skip rfl rfl rfl ?_
    refine G.skip rfl rfl rfl ?_
    refine G.skip rfl rfl rfl ?_
    refine G.skip rfl rfl rfl ?_
    refine G.skip rfl rfl rfl ?_
    refine G.value rfl rfl rfl (Sure.pick_false rfl rfl) ?_
    refine G.value rfl rfl rfl (Sure.move rfl) ?_
    refine G.skip rfl rfl rfl ?_
    refine G.skip rfl rfl rfl ?_
    refine G.skip rfl rfl rfl ?_
    refine G.skip rfl rfl rfl ?_
    refine G.skip rfl rfl rfl ?_
    refine G.value rfl rfl rfl (Sure.pick_false rfl rfl) ?_
    refine G.value rfl rfl rfl (Sure.move rfl) ?_
    refine G.skip rfl rfl rfl ?_
    refine G.skip rfl rfl rfl ?_
    refine G.skip rfl rfl rfl ?_
    refine G.skip rfl rfl rfl ?_
    refine G.skip rfl rfl rfl ?_
    refine G.value rfl rfl rfl (Sure.pick_false rfl rfl) ?_
    refine G.value rfl rfl rfl (Sure.assign rfl) ?_
    refine G.nil ?_
    refine C.ret ?_
    exact Fin.fn (Res.tmp rfl rfl) Split.nil ⟨by simp [inoEq, h0], rfl⟩
theorem state_spec (M : Mem) (a b : StaD) (ha : SOk M a) (hb : SOk M b) (hk : StaOk a.v) : Spec Tryz.prog 19 [.agg (staDL a).toArray, .agg (staDL b).toArray] M [] (fun v _ H => v = .bool (staEq a.v b.v) ∧ H = []) := by
  have hl : a.inos.length ≤ 1000000 := by have := hk.1; simpa [StaD.v] using this
  have hlb : a.bad.length ≤ 1000000 := hk.2.1
  have hse : staEq a.v b.v = (decide (a.next = b.next) && (sameL inoDEq a.inos b.inos && sameL intEq a.bad b.bad)) := by
    have := sameL_map inoEq InoD.x a.inos b.inos
    unfold staEq StaD.v
    dsimp only
    rw [← this]
    rfl
  rw [hse]
  refine Spec.of_code 24 Tryz.func19 rfl callable19 rfl rfl fun w => ?_
  refine C.region_seq ?_
  refine G.dyn rfl rfl rfl ?_
  refine Dyn.boxAgg rfl ?_
  intro b2
  refine G.dyn rfl rfl rfl ?_
  refine Dyn.boxAgg rfl ?_
  intro b3
  refine G.value rfl rfl rfl (Sure.assign rfl) ?_
  refine G.nil ?_
  refine C.region_seq ?_
  refine G.value rfl rfl rfl (Sure.fieldAddr rfl) ?_
  refine G.value rfl rfl rfl (Sure.load rfl rdx rfl) ?_
  refine G.value rfl rfl rfl (Sure.fieldAddr rfl) ?_
  refine G.value rfl rfl rfl (Sure.load rfl rdx rfl) ?_
  rcases Decidable.em (a.next = b.next) with h0 | h0
  · refine G.value rfl rfl rfl ((Sure.eql rfl rfl).to_t h0) ?_
    refine G.value rfl rfl rfl (Sure.move rfl) ?_
    refine G.value rfl rfl rfl (Sure.fieldAddr rfl) ?_
    refine G.value rfl rfl rfl (Sure.load rfl rdx rfl) ?_
    refine G.value rfl rfl rfl (Sure.fieldAddr rfl) ?_
    refine G.value rfl rfl rfl (Sure.load rfl rdx rfl) ?_
    refine G.call rfl rfl rfl rfl rfl rfl (sameIno_spec M a.pi b.pi a.ci b.ci a.inos b.inos 62 inoDEq ha.1.1 hb.1.1 (by omega) (fun M' hle x hx y hy => inode_spec M' x y ((ha.1.2 x hx).mono hle) ((hb.1.2 y hy).mono hle) (hk.2.2 x.x (List.mem_map_of_mem hx)))) (Split.nil) ?_
    rintro _ M1 _ le1 ⟨rfl, rfl⟩
    cases h1 : sameL inoDEq a.inos b.inos with
    | true =>
      refine G.value rfl rfl rfl (Sure.pick_true rfl rfl) ?_
      refine G.value rfl rfl rfl (Sure.move rfl) ?_
      refine G.value rfl rfl rfl (Sure.fieldAddr rfl) ?_
      refine G.value rfl rfl rfl (Sure.load rfl rdx rfl) ?_
      refine G.value rfl rfl rfl (Sure.fieldAddr rfl) ?_
      refine G.value rfl rfl rfl (Sure.load rfl rdx rfl) ?_
      refine G.call rfl rfl rfl rfl rfl rfl (plainInt_spec M1 a.pb b.pb a.cb b.cb a.bad b.bad (ha.2.mono le1) (hb.2.mono le1) (by omega)) (Split.nil) ?_
      rintro _ M2 _ le2 ⟨rfl, rfl⟩
      refine G.value rfl rfl rfl (Sure.pick_true rfl rfl) ?_
      refine G.value rfl rfl rfl (Sure.assign rfl) ?_
      refine G.nil ?_
      refine C.ret ?_
      exact Fin.fn (Res.tmp rfl rfl) Split.nil ⟨by simp only [h0, decide_true, Bool.true_and], rfl⟩
    | false =>
      refine G.value rfl rfl rfl (Sure.pick_true rfl rfl) ?_
      refine G.value rfl rfl rfl (Sure.move rfl) ?_
      refine G.skip rfl rfl rfl ?_
      refine G.skip rfl rfl rfl ?_
      refine G.skip rfl rfl rfl ?_
      refine G.skip rfl rfl rfl ?_
      refine G.skip rfl rfl rfl ?_
      refine G.value rfl rfl rfl (Sure.pick_false rfl rfl) ?_
      refine G.value rfl rfl rfl (Sure.assign rfl) ?_
      refine G.nil ?_
      refine C.ret ?_
      exact Fin.fn (Res.tmp rfl rfl) Split.nil ⟨by simp only [h0, decide_true, Bool.true_and, Bool.false_and], rfl⟩
  · skip
    refine G.value rfl rfl rfl ((Sure.eql rfl rfl).to_f h0) ?_
    refine G.value rfl rfl rfl (Sure.move rfl) ?_
    refine G.skip rfl rfl rfl ?_
    refine G.skip rfl rfl rfl ?_
    refine G.skip rfl rfl rfl ?_
    refine G.skip rfl rfl rfl ?_
    refine G.skip rfl rfl rfl ?_
    refine G.value rfl rfl rfl (Sure.pick_false rfl rfl) ?_
    refine G.value rfl rfl rfl (Sure.move rfl) ?_
    refine G.skip rfl rfl rfl ?_
    refine G.skip rfl rfl rfl ?_
    refine G.skip rfl rfl rfl ?_
    refine G.skip rfl rfl rfl ?_
    refine G.skip rfl rfl rfl ?_
    refine G.value rfl rfl rfl (Sure.pick_false rfl rfl) ?_
    refine G.value rfl rfl rfl (Sure.assign rfl) ?_
    refine G.nil ?_
    refine C.ret ?_
    exact Fin.fn (Res.tmp rfl rfl) Split.nil ⟨by simp [h0], rfl⟩
theorem bytes_spec (M : Mem) (pa pb : Option Addr) (ca cb : Nat) (a b : List UInt8) (ha : SB M pa a) (hb : SB M pb b) : Spec Tryz.prog 28 [.slice pa a.length ca, .slice pb b.length cb] M [] (fun v _ H => v = .bool (decide (a = b)) ∧ H = []) := by
  refine Spec.of_code 10 Tryz.func28 rfl callable28 rfl rfl fun w => ?_
  refine C.region_seq ?_
  refine G.value rfl rfl rfl (Sure.assign rfl) ?_
  refine G.nil ?_
  refine C.region_seq ?_
  refine G.value rfl rfl rfl (Sure.move rfl) ?_
  refine G.value rfl rfl rfl (Sure.toStr rfl (Sl.heap ha)) ?_
  refine G.value rfl rfl rfl (Sure.move rfl) ?_
  refine G.value rfl rfl rfl (Sure.toStr rfl (Sl.heap hb)) ?_
  refine G.value rfl rfl rfl (Sure.str_eql rfl rfl) ?_
  refine G.value rfl rfl rfl (Sure.assign rfl) ?_
  refine G.nil ?_
  refine C.ret ?_
  refine Fin.fn (Res.tmp rfl rfl) Split.nil ⟨?_, rfl⟩
  congr 1
  rw [ByteArray.toList_eq, ByteArray.toList_eq]
  by_cases h : a = b <;> simp [h]
end Go.Proofs.YtaeeahcokiebdaaGreat

/-
  The walks of what fits, as the references have it, of new states, and of wide forms.
  Conditions: states are small.
-/
namespace Go.Proofs.YtaeeahcokiebdaaGreat
set_option maxRecDepth 20000

theorem refWhole_spec (M : Mem) (s : StaD) (hs : SOk M s) (hk : s.inos.length ≤ 2000000 ∧ s.bad.length ≤ 2000000) :
    Spec Tryz.prog 96 [.agg (staDL s).toArray] M [] (fun v M' H => RetDeeds (whole s.v) v M' H) := by
  refine Spec.of_code 43 Tryz.func96 rfl callable96 rfl rfl fun w => ?_
  refine C.region_seq ?_
  refine G.dyn rfl rfl rfl ?_
  refine Dyn.boxAgg rfl ?_
  intro b1
  refine G.value rfl rfl rfl (Sure.assign rfl) ?_
  refine G.nil ?_
  refine C.region_seq ?_
  refine G.value rfl rfl rfl (Sure.fieldAddr rfl) ?_
  refine G.value rfl rfl rfl (Sure.load rfl rdx rfl) ?_
  refine G.value rfl rfl rfl (Sure.build rfl rfl) ?_
  refine G.dyn rfl rfl rfl ?_
  refine Dyn.buildSlice rfl rfl rfl (by simp [vcl]) (by decide) ?_
  intro b9
  refine G.value rfl rfl rfl (Sure.assign rfl) ?_
  refine G.nil ?_
  refine C.seq ?_
  refine C.region_seq ?_
  refine G.value rfl rfl rfl (Sure.assign rfl) ?_
  refine G.nil ?_
  refine C.block ?_
  refine C.loop (fun k E M' H => ∃ (i : Nat) (v : Value) (dl : List DeedD) (Hs : Heap), MLe M M' ∧ i + k = s.inos.length ∧ dl.map DeedD.v = ⟨1, s.next, ino0⟩ :: ((s.inos.take i).map fun d => (⟨2, 0, d.x⟩ : Deed)) ∧ (∀ d ∈ dl, DOk M' d.d) ∧ Own 9 v dl.length (dl.map deedDL).flatten Hs ∧ E = [(1, ptr b1), (3, v), (4, intV i)] ∧ H = (b1, .cells (staDL s)) :: Hs) (s.inos.length) ?_ ?_
  · refine ⟨_, _, ⟨0, _, [⟨1, s.next, inoD0⟩], [(b9, .cells (deedDL ⟨1, s.next, inoD0⟩))], MLe.refl _, by omega, rfl, ?_, Own.mk (n := 1) (b := b9) (xs := deedDL ⟨1, s.next, inoD0⟩) rfl, rfl, rfl⟩, ⟨rfl, rfl, rfl, trivial⟩, [], Split.cons (.there .here) (Split.one .all)⟩
    intro d hd; rw [List.mem_singleton.1 hd]; exact dOk0 _
  · rintro k E M' H ⟨i, v, dl, Hs, hle, hik, hdl, hdo, hown, rfl, rfl⟩
    have hdn : dl.length = 1 + i := by have := congrArg List.length hdl; simp at this; omega
    refine C.seq ?_
    refine C.region_seq ?_
    refine G.value rfl rfl rfl (Sure.move rfl) ?_
    refine G.value rfl rfl rfl (Sure.fieldAddr rfl) ?_
    refine G.value rfl rfl rfl (Sure.load rfl rdx rfl) ?_
    refine G.value rfl rfl rfl (Sure.len_slice rfl) ?_
    refine G.value rfl rfl rfl (Sure.lss rfl rfl) ?_
    refine G.nil ?_
    refine C.cond_dec rfl (fun hlt => ?_) (fun hlt => ?_)
    · obtain ⟨y, hy⟩ : ∃ y, s.inos[i]? = some y := ⟨s.inos[i]'(by omega), List.getElem?_eq_getElem (by omega)⟩
      obtain ⟨q1, o1, c1, hq1, hrd1, hseg1⟩ := SlL.row (i := i) (e := inoDL y) ((SlL.mono hs.1.1 hle).heap (H := (b1, .cells (staDL s)) :: Hs)) (by rw [List.getElem?_map, hy]; rfl)
      refine C.skip ?_
      refine Fin.th ?_
      refine C.seq ?_
      refine C.block ?_
      refine C.region ?_
      refine G.value rfl rfl rfl (Sure.move rfl) ?_
      refine G.value rfl rfl rfl (Sure.fieldAddr rfl) ?_
      refine G.value rfl rfl rfl (Sure.load rfl rdx rfl) ?_
      refine G.value rfl rfl rfl (Sure.move rfl) ?_
      refine G.value rfl rfl rfl (Sure.indexAddr (congrArg (fun q => some (Value.slice q s.inos.length s.ci)) hq1) rfl (by omega)) ?_
      refine G.value rfl rfl rfl (Sure.loadAgg rfl hrd1 hseg1) ?_
      refine G.value rfl rfl rfl (Sure.build rfl rfl) ?_
      refine G.dyn rfl rfl rfl ?_
      refine Dyn.buildSlice rfl rfl rfl (by simp [vcl]) (by decide) ?_
      intro b24
      refine G.dyn rfl rfl rfl ?_
      refine Dyn.append (fun k h => by cases h) rfl rfl rfl hown (.there (.there .all)) (m := 1) (news := deedDL ⟨2, 0, y⟩) ⟨rfl, fun _ => ⟨b24, 0, _, rfl, Rd.h0, rfl⟩⟩ (allOne_deed _) (by omega) (by omega) ?_
      intro v2 Hs2 hown2
      refine G.value rfl rfl rfl (Sure.assign rfl) ?_
      refine G.nil ?_
      refine Fin.blk ?_
      refine Fin.th ?_
      refine C.region ?_
      refine G.value rfl rfl rfl (Sure.move rfl) ?_
      refine G.value rfl rfl rfl (Sure.add rfl rfl (inK64 (by omega))) ?_
      refine G.value rfl rfl rfl (Sure.assign rfl) ?_
      refine G.nil ?_
      refine Fin.th ?_
      have hfl : ((dl ++ [(⟨2, 0, y⟩ : DeedD)]).map deedDL).flatten = (dl.map deedDL).flatten ++ deedDL ⟨2, 0, y⟩ := by simp
      refine ⟨k - 1, _, _, by omega, ⟨i + 1, v2, dl ++ [⟨2, 0, y⟩], Hs2, hle, by omega, by rw [take_snoc hy]; simp [hdl, DeedD.v], ?_, ?_, rfl, rfl⟩, ⟨rfl, rfl, rfl, trivial⟩, _, Split.cons (.over (.there .here)) (Split.one .here)⟩
      · intro d hd
        rcases List.mem_append.1 hd with h | h
        · exact hdo d h
        · rw [List.mem_singleton.1 h]; exact (hs.1.2 y (List.mem_of_getElem? hy)).mono hle
      · rw [hfl, List.length_append]; exact hown2
    · rw [List.take_of_length_le (by omega)] at hdl
      have hdn2 : dl.length = 1 + s.inos.length := by omega
      clear hdn hlt hik
      refine C.exit ?_
      refine Fin.th_exit ?_
      refine Fin.th_exit ?_
      refine Fin.blk_eq ?_
      refine Fin.th ?_
      refine C.seq ?_
      refine C.region_seq ?_
      refine G.value rfl rfl rfl (Sure.assign rfl) ?_
      refine G.nil ?_
      refine C.block ?_
      refine C.loop (fun k E M2 H => ∃ (i : Nat) (v : Value) (dl : List DeedD) (Hs : Heap), MLe M' M2 ∧ i + k = s.bad.length ∧ dl.map DeedD.v = ⟨1, s.next, ino0⟩ :: (s.inos.map fun d => (⟨2, 0, d.x⟩ : Deed)) ++ (s.bad.take i).map (fun n => ⟨4, n, ino0⟩) ∧ (∀ d ∈ dl, DOk M2 d.d) ∧ Own 9 v dl.length (dl.map deedDL).flatten Hs ∧ E = [(1, ptr b1), (3, v), (5, intV i)] ∧ H = (b1, .cells (staDL s)) :: Hs) (s.bad.length) ?_ ?_
      · exact ⟨_, _, ⟨0, v, dl, Hs, MLe.refl _, by omega, by simpa using hdl, hdo, hown, rfl, rfl⟩, ⟨rfl, rfl, rfl, trivial⟩, [], Split.cons .here (Split.one .all)⟩
      · clear hdl hdo hown hdn2
        rintro k E M2 H ⟨i, v, dl, Hs, hle2, hik, hdl, hdo, hown, rfl, rfl⟩
        have hdn : dl.length = 1 + s.inos.length + i := by have := congrArg List.length hdl; simp at this; omega
        refine C.seq ?_
        refine C.region_seq ?_
        refine G.value rfl rfl rfl (Sure.move rfl) ?_
        refine G.value rfl rfl rfl (Sure.fieldAddr rfl) ?_
        refine G.value rfl rfl rfl (Sure.load rfl rdx rfl) ?_
        refine G.value rfl rfl rfl (Sure.len_slice rfl) ?_
        refine G.value rfl rfl rfl (Sure.lss rfl rfl) ?_
        refine G.nil ?_
        refine C.cond_dec rfl (fun hlt => ?_) (fun hlt => ?_)
        · obtain ⟨y, hy⟩ : ∃ y, s.bad[i]? = some y := ⟨s.bad[i]'(by omega), List.getElem?_eq_getElem (by omega)⟩
          obtain ⟨q1, o1, c1, hq1, hrd1, hcell1⟩ := Sl.cell (i := i) (v := intV y) (Sl.heap (H := (b1, .cells (staDL s)) :: Hs) (hs.2.mono (hle.trans hle2))) (by rw [List.getElem?_map, hy]; rfl)
          refine C.skip ?_
          refine Fin.th ?_
          refine C.seq ?_
          refine C.block ?_
          refine C.region ?_
          refine G.value rfl rfl rfl (Sure.move rfl) ?_
          refine G.value rfl rfl rfl (Sure.fieldAddr rfl) ?_
          refine G.value rfl rfl rfl (Sure.load rfl rdx rfl) ?_
          refine G.value rfl rfl rfl (Sure.move rfl) ?_
          refine G.value rfl rfl rfl (Sure.indexAddr (congrArg (fun q => some (Value.slice q s.bad.length s.cb)) hq1) rfl (by omega)) ?_
          refine G.value rfl rfl rfl (Sure.load rfl hrd1 hcell1) ?_
          refine G.value rfl rfl rfl (Sure.build rfl rfl) ?_
          refine G.dyn rfl rfl rfl ?_
          refine Dyn.buildSlice rfl rfl rfl (by simp [vcl]) (by decide) ?_
          intro b40
          refine G.dyn rfl rfl rfl ?_
          refine Dyn.append (fun k h => by cases h) rfl rfl rfl hown (.there (.there .all)) (m := 1) (news := deedDL ⟨4, y, inoD0⟩) ⟨rfl, fun _ => ⟨b40, 0, _, rfl, Rd.h0, rfl⟩⟩ (allOne_deed _) (by omega) (by omega) ?_
          intro v2 Hs2 hown2
          refine G.value rfl rfl rfl (Sure.assign rfl) ?_
          refine G.nil ?_
          refine Fin.blk ?_
          refine Fin.th ?_
          refine C.region ?_
          refine G.value rfl rfl rfl (Sure.move rfl) ?_
          refine G.value rfl rfl rfl (Sure.add rfl rfl (inK64 (by omega))) ?_
          refine G.value rfl rfl rfl (Sure.assign rfl) ?_
          refine G.nil ?_
          refine Fin.th ?_
          have hfl : ((dl ++ [(⟨4, y, inoD0⟩ : DeedD)]).map deedDL).flatten = (dl.map deedDL).flatten ++ deedDL ⟨4, y, inoD0⟩ := by simp
          refine ⟨k - 1, _, _, by omega, ⟨i + 1, v2, dl ++ [⟨4, y, inoD0⟩], Hs2, hle2, by omega, by rw [take_snoc hy]; simp [hdl, DeedD.v, inoD0], ?_, ?_, rfl, rfl⟩, ⟨rfl, rfl, rfl, trivial⟩, _, Split.cons (.over (.there .here)) (Split.one .here)⟩
          · intro d hd
            rcases List.mem_append.1 hd with h | h
            · exact hdo d h
            · rw [List.mem_singleton.1 h]; exact dOk0 _
          · rw [hfl, List.length_append]; exact hown2
        · rw [List.take_of_length_le (by omega)] at hdl
          refine C.exit ?_
          refine Fin.th_exit ?_
          refine Fin.th_exit ?_
          refine Fin.blk_eq ?_
          refine Fin.th ?_
          refine C.region_seq ?_
          refine G.value rfl rfl rfl (Sure.move rfl) ?_
          refine G.value rfl rfl rfl (Sure.assign rfl) ?_
          refine G.nil ?_
          refine C.donateOwn hown (.there .all) ?_
          rintro M3 p3 cap3 le3 rfl hs3
          refine C.ret ?_
          refine Fin.fn (Res.tmp rfl rfl) Split.nil ⟨rfl, dl, p3, cap3, rfl, ⟨⟨?_, ?_⟩, fun d hd => (hdo d hd).mono le3⟩, ?_⟩
          · intro e he; obtain ⟨x, _, rfl⟩ := List.mem_map.1 he; rfl
          · rw [List.length_map]; exact hs3
          · simp [hdl, whole, StaD.v]
theorem refRight_spec (M : Mem) (g : Geo) (h : GeoOk g) : Spec Tryz.prog 57 [geoV g] M [] (fun v _ H => v = .bool true ∧ H = []) := by
  have he := h.even
  have hs := h.s
  have hz := h.z
  have hb := h.b
  have hp := h.p
  have hy := h.y
  refine Spec.of_code 57 Tryz.func57 rfl callable57 rfl rfl fun w => ?_
  refine C.region_seq ?_
  refine G.dyn rfl rfl rfl ?_
  refine Dyn.boxAgg rfl ?_
  intro b1
  refine G.value rfl rfl rfl (Sure.assign rfl) ?_
  refine G.nil ?_
  refine C.region_seq ?_
  refine G.value rfl rfl rfl (Sure.fieldAddr rfl) ?_
  refine G.value rfl rfl rfl (Sure.load rfl rdx rfl) ?_
  refine G.value rfl rfl rfl ((Sure.geq rfl rfl).to_t (by omega)) ?_
  refine G.value rfl rfl rfl (Sure.move rfl) ?_
  refine G.value rfl rfl rfl (Sure.fieldAddr rfl) ?_
  refine G.value rfl rfl rfl (Sure.load rfl rdx rfl) ?_
  refine G.value rfl rfl rfl ((Sure.leq rfl rfl).to_t (by omega)) ?_
  refine G.value rfl rfl rfl (Sure.pick_true rfl rfl) ?_
  refine G.value rfl rfl rfl (Sure.move rfl) ?_
  refine G.value rfl rfl rfl (Sure.fieldAddr rfl) ?_
  refine G.value rfl rfl rfl (Sure.load rfl rdx rfl) ?_
  refine G.value rfl rfl rfl (Sure.rem rfl rfl (by omega) (by decide)) ?_
  refine G.value rfl rfl rfl ((Sure.eql rfl rfl).to_t he) ?_
  refine G.value rfl rfl rfl (Sure.pick_true rfl rfl) ?_
  refine G.value rfl rfl rfl (Sure.move rfl) ?_
  refine G.value rfl rfl rfl (Sure.fieldAddr rfl) ?_
  refine G.value rfl rfl rfl (Sure.load rfl rdx rfl) ?_
  refine G.value rfl rfl rfl ((Sure.geq rfl rfl).to_t (by omega)) ?_
  refine G.value rfl rfl rfl (Sure.pick_true rfl rfl) ?_
  refine G.value rfl rfl rfl (Sure.move rfl) ?_
  refine G.value rfl rfl rfl (Sure.fieldAddr rfl) ?_
  refine G.value rfl rfl rfl (Sure.load rfl rdx rfl) ?_
  refine G.value rfl rfl rfl ((Sure.leq rfl rfl).to_t (by omega)) ?_
  refine G.value rfl rfl rfl (Sure.pick_true rfl rfl) ?_
  refine G.value rfl rfl rfl (Sure.move rfl) ?_
  refine G.value rfl rfl rfl (Sure.fieldAddr rfl) ?_
  refine G.value rfl rfl rfl (Sure.load rfl rdx rfl) ?_
  refine G.value rfl rfl rfl ((Sure.geq rfl rfl).to_t (by omega)) ?_
  refine G.value rfl rfl rfl (Sure.pick_true rfl rfl) ?_
  refine G.value rfl rfl rfl (Sure.move rfl) ?_
  refine G.value rfl rfl rfl (Sure.fieldAddr rfl) ?_
  refine G.value rfl rfl rfl (Sure.load rfl rdx rfl) ?_
  refine G.value rfl rfl rfl ((Sure.leq rfl rfl).to_t (by omega)) ?_
  refine G.value rfl rfl rfl (Sure.pick_true rfl rfl) ?_
  refine G.value rfl rfl rfl (Sure.move rfl) ?_
  refine G.value rfl rfl rfl (Sure.fieldAddr rfl) ?_
  refine G.value rfl rfl rfl (Sure.load rfl rdx rfl) ?_
  refine G.value rfl rfl rfl ((Sure.geq rfl rfl).to_t (by omega)) ?_
  refine G.value rfl rfl rfl (Sure.pick_true rfl rfl) ?_
  refine G.value rfl rfl rfl (Sure.move rfl) ?_
  refine G.value rfl rfl rfl (Sure.fieldAddr rfl) ?_
  refine G.value rfl rfl rfl (Sure.load rfl rdx rfl) ?_
  refine G.value rfl rfl rfl ((Sure.leq rfl rfl).to_t (by omega)) ?_
  refine G.value rfl rfl rfl (Sure.pick_true rfl rfl) ?_
  refine G.value rfl rfl rfl (Sure.move rfl) ?_
  refine G.value rfl rfl rfl (Sure.fieldAddr rfl) ?_
  refine G.value rfl rfl rfl (Sure.load rfl rdx rfl) ?_
  refine G.value rfl rfl rfl ((Sure.geq rfl rfl).to_t (by omega)) ?_
  refine G.value rfl rfl rfl (Sure.pick_true rfl rfl) ?_
  refine G.value rfl rfl rfl (Sure.move rfl) ?_
  refine G.value rfl rfl rfl (Sure.fieldAddr rfl) ?_
  refine G.value rfl rfl rfl (Sure.load rfl rdx rfl) ?_
  refine G.value rfl rfl rfl ((Sure.leq rfl rfl).to_t (by omega)) ?_
  refine G.value rfl rfl rfl (Sure.pick_true rfl rfl) ?_
  refine G.value rfl rfl rfl (Sure.assign rfl) ?_
  refine G.nil ?_
  refine C.ret ?_
  exact Fin.fn (Res.tmp rfl rfl) Split.nil ⟨rfl, rfl⟩
theorem refHalf_spec (M : Mem) (g : Geo) (h : GeoOk g) : Spec Tryz.prog 58 [geoV g] M [] (fun v _ H => v = intV (hsz g) ∧ H = []) := by
  obtain ⟨hz, hz1, hz2, hz3⟩ := hsz_int h
  have hs := h.s
  have he := h.even
  refine Spec.of_code 12 Tryz.func58 rfl callable58 rfl rfl fun w => ?_
  refine C.region_seq ?_
  refine G.dyn rfl rfl rfl ?_
  refine Dyn.boxAgg rfl ?_
  intro b1
  refine G.value rfl rfl rfl (Sure.assign rfl) ?_
  refine G.nil ?_
  refine C.seq ?_
  refine C.region_seq ?_
  refine G.value rfl rfl rfl (Sure.loadAgg rfl rdx rfl) ?_
  refine G.call rfl rfl rfl rfl rfl rfl (refRight_spec M g h) (Split.nil) ?_
  rintro _ M1 _ le1 ⟨rfl, rfl⟩
  refine G.value rfl rfl rfl (Sure.not rfl) ?_
  refine G.nil ?_
  refine C.cond_false rfl ?_
  refine C.skip ?_
  refine Fin.th ?_
  refine C.region_seq ?_
  refine G.value rfl rfl rfl (Sure.fieldAddr rfl) ?_
  refine G.value rfl rfl rfl (Sure.load rfl rdx rfl) ?_
  refine G.value rfl rfl rfl (Sure.quo rfl rfl (by omega) (by decide) (inK64 (by omega))) ?_
  refine G.value rfl rfl rfl (Sure.fieldAddr rfl) ?_
  refine G.value rfl rfl rfl (Sure.load rfl rdx rfl) ?_
  refine G.value rfl rfl rfl (Sure.mul rfl rfl (inK64 (by have : halfSize g = g.sectors / 2 * g.sector := rfl; omega))) ?_
  refine G.value rfl rfl rfl (Sure.assign rfl) ?_
  refine G.nil ?_
  refine C.ret ?_
  refine Fin.fn (Res.tmp rfl rfl) Split.nil ⟨?_, rfl⟩
  rw [hz]
theorem refFirst_spec (M : Mem) (epoch : Int) (s : StaD) (hs : SOk M s) (hk : s.inos.length ≤ 2000000 ∧ s.bad.length ≤ 2000000) (hb : (deedsB (whole s.v)).length ≤ 10000000) :
    Spec Tryz.prog 56 [intV epoch, .agg (staDL s).toArray] M [] (fun v _ H => OwnB (firstB epoch s.v) v H) := by
  have hw := u64_wrap_bd epoch
  have hfin : ∀ (v : Value) (H : Heap) (m : Nat), m = (deedsB (whole s.v)).length → Own 1 v ((intB epoch).length + m) (bytesV (intB epoch) ++ bytesV (deedsB (whole s.v))) H → OwnB (firstB epoch s.v) v H := by
    intro v H m hm h
    subst hm
    unfold OwnB firstB
    rw [List.length_append, show bytesV (intB epoch ++ deedsB (whole s.v)) = bytesV (intB epoch) ++ bytesV (deedsB (whole s.v)) from by simp [bytesV]]
    exact h
  have hput := refPut_spec M Option.none 0 [] (IntKind.u64.wrap epoch).toNat 8 (sb_nil M) (by decide) (by omega) (by decide)
  refine Spec.of_code 12 Tryz.func56 rfl callable56 rfl rfl fun w => ?_
  refine C.region_seq ?_
  refine G.dyn rfl rfl rfl ?_
  refine Dyn.boxAgg rfl ?_
  intro b3
  refine G.value rfl rfl rfl (Sure.assign rfl) ?_
  refine G.nil ?_
  -- draws its order
  refine C.draw_seq ([(b3, .cells (staDL s))]) mixed (by kernel_rfl) (Incl.refl _) ?_
  refine GD.val 0 rfl rfl rfl rfl (by kernel_rfl) rfl (Sure.move rfl) ?_
  refine GD.val 1 rfl rfl rfl rfl (by kernel_rfl) rfl (Sure.conv' rfl) ?_
  rw [show IntKind.u64.wrap epoch = ((IntKind.u64.wrap epoch).toNat : Int) from by omega]
  refine GD.val 3 rfl rfl rfl rfl (by kernel_rfl) rfl (Sure.loadAgg rfl rdx rfl) ?_
  refine GD.one 2 (by kernel_rfl) rfl rfl (by kernel_rfl) ?_
  refine Next.call 2 rfl rfl rfl (by kernel_rfl) (by kernel_rfl) rfl rfl rfl rfl (hput) (Split.nil) ?_
  rintro v7 M2 H2 le2 hown7
  refine ⟨(by intro q hq; exact List.mem_append.2 (.inr hq)), ?_⟩
  refine GD.one 4 (by kernel_rfl) rfl rfl (by kernel_rfl) ?_
  refine Next.call 4 rfl rfl rfl (by kernel_rfl) (by kernel_rfl) rfl rfl rfl rfl (refWhole_spec M2 s (hs.mono le2) hk) (Split.nil) ?_
  rintro _ M3 _ le3 ⟨rfl, dl, p, cap, rfl, hrd, hdv⟩
  refine ⟨(by intro q hq; exact List.mem_append.2 (.inr (List.mem_append.2 (.inr hq)))), ?_⟩
  have hpk := refPack_spec M3 p cap dl hrd (by rw [hdv]; exact hb)
  rw [hdv] at hpk
  refine GD.one 5 (by kernel_rfl) rfl rfl (by kernel_rfl) ?_
  refine Next.call 5 rfl rfl rfl (by kernel_rfl) (by kernel_rfl) rfl rfl rfl rfl (hpk) (Split.nil) ?_
  rintro v9 M4 H9 le4 hown9
  refine ⟨(by intro q hq; exact List.mem_append.2 (.inr (List.mem_append.2 (.inr (List.mem_append.2 (.inr hq)))))), ?_⟩
  refine GD.donateOwn hown9 .here (by intro q hq; exact List.mem_append.2 (.inr (List.mem_append.2 (.inr hq)))) ?_
  rintro M5 p9 c9 le5 rfl hs9
  refine GD.one 6 (by kernel_rfl) rfl rfl (by kernel_rfl) ?_
  refine Next.dyn 6 rfl rfl rfl (by kernel_rfl) (by kernel_rfl) rfl ?_
  refine Dyn.append (fun k h => by cases h) rfl rfl rfl hown7 (.over .here) (Sl.heap hs9) (allOne_bytes _) (by simp; omega) (by simp; omega) ?_
  intro v10 Hs10 hown10
  refine ⟨MLe.refl _, (by intro q hq; simp at hq ⊢; exact .inr hq), ?_⟩
  refine GD.one 7 (by kernel_rfl) rfl rfl (by kernel_rfl) ?_
  refine Next.dyn 7 rfl rfl rfl (by kernel_rfl) (by kernel_rfl) rfl (Dyn.assign rfl ?_)
  refine ⟨MLe.refl _, incx, ?_⟩
  refine GD.done (by kernel_rfl) (by kernel_rfl) ?_
  refine C.ret ?_
  exact Fin.fn (Res.tmp rfl rfl) (Split.one .here) (hfin v10 Hs10 _ rfl hown10)
theorem refFits_spec (M : Mem) (s : StaD) (g : Geo) (p : Option Addr) (cap : Nat) (dl : List DeedD) (hs : SOkC M s) (hg : GeoOk g) (hk : s.inos.length ≤ 1000000 ∧ s.bad.length ≤ 1000000) (hd : RDeeds M p dl) (hl : dl.length ≤ 100000)
    (hb : (deedsB (whole (applyL s.v (dl.map DeedD.v)))).length ≤ 10000000) :
    Spec Tryz.prog 17 [.agg (staDL s).toArray, geoV g, .slice p dl.length cap] M [] (fun v _ H => v = .bool (decide ((firstB 1 (applyL s.v (dl.map DeedD.v))).length + 7 ≤ hsz g)) ∧ H = []) := by
  obtain ⟨hz, hz1, hz2, hz3⟩ := hsz_int hg
  refine Spec.of_code 26 Tryz.func17 rfl callable17 rfl rfl fun w => ?_
  refine C.region_seq ?_
  refine G.dyn rfl rfl rfl ?_
  refine Dyn.boxAgg rfl ?_
  intro b3
  refine G.dyn rfl rfl rfl ?_
  refine Dyn.boxAgg rfl ?_
  intro b4
  refine G.value rfl rfl rfl (Sure.assign rfl) ?_
  refine G.nil ?_
  refine C.region_seq ?_
  refine G.value rfl rfl rfl (Sure.loadAgg rfl rdx rfl) ?_
  refine G.value rfl rfl rfl (Sure.move rfl) ?_
  refine G.call rfl rfl rfl rfl rfl rfl (refApply_spec M s p cap dl hs hk hd hl) (Split.nil) ?_
  rintro _ M1 _ le1 ⟨rfl, s2, hs2, rfl, hso2⟩
  rw [← hs2] at hb ⊢
  have hwl := whole_len s2.v
  have hbd : s2.inos.length ≤ 2000000 ∧ s2.bad.length ≤ 2000000 := by
    have h1 : ∀ l : List Ino, 45 * l.length ≤ wSum l := by
      intro l
      induction l with
      | nil => simp
      | cons x l ih =>
        have h2 := deedB_len ⟨2, 0, x⟩
        dsimp only at h2
        rw [if_neg (by decide), if_pos rfl] at h2
        have h3 : 44 ≤ (inoB x).length := by simp [inoB, intsB_len]; omega
        have h4 : wSum (x :: l) = (deedB ⟨2, 0, x⟩).length + wSum l := by simp [wSum]
        simp
        omega
    have h2 := h1 s2.v.inos
    have h3 : s2.v.inos.length = s2.inos.length := by simp [StaD.v]
    have h4 : s2.v.bad = s2.bad := rfl
    unfold wN at hwl
    rw [h4] at hwl
    omega
  refine G.call rfl rfl rfl rfl rfl rfl (refFirst_spec M1 1 s2 hso2.1 hbd hb) (Split.nil) ?_
  rintro v2 M2 H2 le2 hown2
  refine G.donateOwn hown2 .here ?_
  rintro M2 p2 c2 le2' rfl _
  have hfl : (firstB 1 s2.v).length = 8 + (deedsB (whole s2.v)).length := by unfold firstB; rw [List.length_append, intB_len]
  refine G.value rfl rfl rfl (Sure.len_slice rfl) ?_
  refine G.value rfl rfl rfl (Sure.assign rfl) ?_
  refine G.nil ?_
  refine C.region_seq ?_
  refine G.value rfl rfl rfl (Sure.loadAgg rfl rdx rfl) ?_
  refine G.call rfl rfl rfl rfl rfl rfl (refRight_spec M2 g hg) (Split.nil) ?_
  rintro _ M3 _ le3 ⟨rfl, rfl⟩
  refine G.value rfl rfl rfl (Sure.move rfl) ?_
  refine G.value rfl rfl rfl (Sure.move rfl) ?_
  rcases Nat.lt_or_ge 65000 (firstB 1 s2.v).length with hbig | hbig
  · rw [decide_eq_false (show ¬ (firstB 1 s2.v).length + 7 ≤ hsz g by omega)]
    refine G.value rfl rfl rfl ((Sure.leq rfl rfl).to_f (by omega)) ?_
    refine G.value rfl rfl rfl (Sure.pick_true rfl rfl) ?_
    refine G.value rfl rfl rfl (Sure.move rfl) ?_
    refine G.skip rfl rfl rfl ?_
    refine G.skip rfl rfl rfl ?_
    refine G.skip rfl rfl rfl ?_
    refine G.skip rfl rfl rfl ?_
    refine G.skip rfl rfl rfl ?_
    refine G.value rfl rfl rfl (Sure.pick_false rfl rfl) ?_
    refine G.value rfl rfl rfl (Sure.assign rfl) ?_
    refine G.nil ?_
    refine C.ret ?_
    exact Fin.fn (Res.tmp rfl rfl) Split.nil ⟨rfl, rfl⟩
  · skip
    refine G.value rfl rfl rfl ((Sure.leq rfl rfl).to_t (by omega)) ?_
    refine G.value rfl rfl rfl (Sure.pick_true rfl rfl) ?_
    refine G.value rfl rfl rfl (Sure.move rfl) ?_
    refine G.value rfl rfl rfl (Sure.move rfl) ?_
    refine G.value rfl rfl rfl (Sure.add rfl rfl (inK64 (by omega))) ?_
    refine G.value rfl rfl rfl (Sure.loadAgg rfl rdx rfl) ?_
    refine G.call rfl rfl rfl rfl rfl rfl (refHalf_spec M3 g hg) (Split.nil) ?_
    rintro _ M4 _ le4 ⟨rfl, rfl⟩
    rw [show decide ((firstB 1 s2.v).length + 7 ≤ hsz g) = decide (((firstB 1 s2.v).length : Int) + 7 ≤ (hsz g : Int)) from decide_eq_decide.2 (by omega)]
    refine G.value rfl rfl rfl (Sure.leq rfl rfl) ?_
    refine G.value rfl rfl rfl (Sure.pick_true rfl rfl) ?_
    refine G.value rfl rfl rfl (Sure.assign rfl) ?_
    refine G.nil ?_
    refine C.ret ?_
    exact Fin.fn (Res.tmp rfl rfl) Split.nil ⟨rfl, rfl⟩
theorem refInode_spec (M : Mem) : Spec Tryz.prog 51 [intV 1, intV 2, .string ⟨#[]⟩] M [] (fun v _ H => v = .agg (inoDL inoRD).toArray ∧ H = []) := by
  refine Spec.of_code 22 Tryz.func51 rfl callable51 rfl rfl fun w => ?_
  refine C.region_seq ?_
  refine G.dyn rfl rfl rfl ?_
  refine Dyn.allocAgg ?_
  intro b6
  refine G.nil ?_
  refine C.region_seq ?_
  refine G.value rfl rfl rfl (Sure.move rfl) ?_
  refine G.value rfl rfl rfl (Sure.move rfl) ?_
  refine G.value rfl rfl rfl (Sure.build rfl rfl) ?_
  refine G.dyn rfl rfl rfl ?_
  refine Dyn.allocAgg ?_
  intro b7
  refine G.dyn0 rfl rfl ?_
  refine Dyn.storeAgg rfl rfl pkx rfl rfl rfl ?_
  refine G.nil ?_
  refine C.seq ?_
  refine C.region_seq ?_
  refine G.value rfl rfl rfl (Sure.move rfl) ?_
  refine G.value rfl rfl rfl ((Sure.eql rfl rfl).to_t (by decide)) ?_
  refine G.nil ?_
  refine C.cond_true rfl ?_
  refine C.region ?_
  refine G.value rfl rfl rfl (Sure.fieldAddr rfl) ?_
  refine G.dyn0 rfl rfl ?_
  refine Dyn.store rfl rfl pkx rfl rfl ?_
  refine G.nil ?_
  refine Fin.th ?_
  refine C.seq ?_
  refine C.region_seq ?_
  refine G.value rfl rfl rfl (Sure.move rfl) ?_
  refine G.value rfl rfl rfl ((Sure.eql rfl rfl).to_f (by decide)) ?_
  refine G.nil ?_
  refine C.cond_false rfl ?_
  refine C.skip ?_
  refine Fin.th ?_
  refine C.region_seq ?_
  refine G.value rfl rfl rfl (Sure.loadAgg rfl rdx rfl) ?_
  refine G.dyn0 rfl rfl ?_
  refine Dyn.storeAgg rfl rfl pkx rfl rfl rfl ?_
  refine G.nil ?_
  refine C.ret ?_
  exact Fin.fn (Res.cellAgg rfl rfl rdx rfl) Split.nil ⟨rfl, rfl⟩
theorem refStateC_spec (M : Mem) : Spec Tryz.prog 15 [] M [] (fun v M' H => RetStaC staR v M' H) := by
  refine Spec.of_code 4 Tryz.func15 rfl callable15 rfl rfl fun w => ?_
  refine C.region_seq ?_
  refine G.dyn rfl rfl rfl ?_
  refine Dyn.allocAgg ?_
  intro b0
  refine G.nil ?_
  refine C.region_seq ?_
  refine G.call rfl rfl rfl rfl rfl rfl (refInode_spec M) (Split.nil) ?_
  rintro _ M1 _ le1 ⟨rfl, rfl⟩
  refine G.dyn rfl rfl rfl ?_
  refine Dyn.buildSlice rfl rfl rfl (by simp [vcl]) (by decide) ?_
  intro b2
  refine G.donate fun M2 le2 hM2 => ?_
  refine G.value rfl rfl rfl (Sure.build rfl rfl) ?_
  refine G.dyn0 rfl rfl ?_
  refine Dyn.storeAgg rfl rfl pkx rfl rfl rfl ?_
  refine G.nil ?_
  refine C.ret ?_
  refine Fin.fn (Res.cellAgg rfl rfl rdx rfl) Split.nil ⟨rfl, ⟨2, [inoRD], some ⟨b2, 0, Option.none⟩, 1, [], Option.none, 0⟩, rfl, rfl, ⟨⟨⟨⟨?_, ?_⟩, ?_⟩, Sl.empty⟩, Nat.le_refl 1, Nat.zero_le _⟩⟩
  · intro e he; simp at he; subst he; rfl
  · exact ⟨rfl, fun _ => ⟨b2, 0, _, rfl, Rd.m hM2, rfl⟩⟩
  · intro d hd; simp at hd; subst hd; exact ⟨⟨by simp [inoR], Sl.empty⟩, ⟨by simp [inoR], Sl.empty⟩⟩
def geoW : Geo := ⟨8, 2048, 12, 8, 32⟩
theorem geoW_ok : GeoOk geoW := ⟨by decide, by decide, by decide, by decide, by decide, by decide⟩
theorem wide_spec (M : Mem) : Spec Tryz.prog 22 [] M [] (fun v _ H => v = geoV geoW ∧ H = []) := by
  refine Spec.of_code 2 Tryz.func22 rfl callable22 rfl rfl fun w => ?_
  refine C.region_seq ?_
  refine G.dyn rfl rfl rfl ?_
  refine Dyn.allocAgg ?_
  intro b0
  refine G.nil ?_
  refine C.region_seq ?_
  refine G.value rfl rfl rfl (Sure.build rfl rfl) ?_
  refine G.dyn0 rfl rfl ?_
  refine Dyn.storeAgg rfl rfl pkx rfl rfl rfl ?_
  refine G.nil ?_
  refine C.ret ?_
  exact Fin.fn (Res.cellAgg rfl rfl rdx rfl) Split.nil ⟨rfl, rfl⟩
end Go.Proofs.YtaeeahcokiebdaaGreat

/-
  Journals whose power does not fall: the walks of committing, opening and formatting, in short; what the laws ask first.
-/
namespace Go.Proofs.YtaeeahcokiebdaaGreat
set_option maxRecDepth 20000

theorem wSum_mem : ∀ {l : List Ino} {x : Ino}, x ∈ l → (deedB ⟨2, 0, x⟩).length ≤ wSum l
  | y :: l, x, h => by
    have e : wSum (y :: l) = (deedB ⟨2, 0, y⟩).length + wSum l := by simp [wSum]
    rcases List.mem_cons.1 h with rfl | h
    · omega
    · have := wSum_mem h; omega
theorem ino_small (x : Ino) : 45 + 12 * x.ents.length + 24 * x.runs.length ≤ (deedB ⟨2, 0, x⟩).length := by
  have h2 := deedB_len ⟨2, 0, x⟩
  dsimp only at h2
  rw [if_neg (by decide), if_pos rfl] at h2
  have he : ∀ l : List Entry, 12 * l.length ≤ (l.map entB).flatten.length := by
    intro l
    induction l with
    | nil => simp
    | cons e l ih =>
      have := entB_len e
      rw [List.map_cons, List.flatten_cons, List.length_append, List.length_cons]
      omega
  have hr : ∀ l : List Run, 24 * l.length ≤ (l.map runB).flatten.length := by
    intro l
    induction l with
    | nil => simp
    | cons e l ih =>
      have := runB_len e
      rw [List.map_cons, List.flatten_cons, List.length_append, List.length_cons]
      omega
  have h3 : (inoB x).length = 32 + (4 + x.tgt.size) + 4 + (x.ents.map entB).flatten.length + 4 + (x.runs.map runB).flatten.length := by
    unfold inoB
    simp only [List.length_append, intsB_len, le_len, txtB_len, List.length_cons, List.length_nil]
  have := he x.ents
  have := hr x.runs
  omega
theorem wSum_count : ∀ l : List Ino, 45 * l.length ≤ wSum l
  | [] => by simp
  | x :: l => by
    have := wSum_count l
    have := ino_small x
    have e : wSum (x :: l) = (deedB ⟨2, 0, x⟩).length + wSum l := by simp [wSum]
    rw [List.length_cons]
    omega
theorem staOk_small {s : Sta} (h : wN s ≤ 1000000) : StaOk s := by
  unfold wN at h
  have := wSum_count s.inos
  refine ⟨by omega, by omega, fun x hx => ?_⟩
  have h1 := wSum_mem hx
  have h2 := ino_small x
  exact ⟨by omega, by omega⟩
theorem deeds_mem : ∀ {l : List Deed} {d : Deed}, d ∈ l → (deedB d).length ≤ (deedsB l).length
  | e :: l, d, h => by
    have h3 : (deedsB (e :: l)).length = (deedB e).length + (deedsB l).length := by simp [deedsB]
    rcases List.mem_cons.1 h with rfl | h
    · omega
    · have := deeds_mem h; omega
theorem canon_ok {d : Deed} (hc : Canon d) (hl : (deedB d).length ≤ 1000000) : InoOk d.ino := by
  rcases hc with ⟨_, _, h⟩ | ⟨hk, hn, _⟩
  · rw [h]; exact ⟨by simp [ino0], by simp [ino0]⟩
  · have h2 := ino_small d.ino
    have h3 : (deedB d).length = (deedB ⟨2, 0, d.ino⟩).length := by
      obtain ⟨k, n, x⟩ := d
      dsimp only at hk hn ⊢
      rw [hk, hn]
    exact ⟨by omega, by omega⟩
/-- A journal in use, on a chip whose power does not fall. -/
structure Live (ad : Ad) (ch : Chip) (j : Jr) (s : Sta) : Prop where
  ok : ChipOk ad ch
  alive : Alive ch.pw
  jok : JOk j ch.g
  ended : j.ended = false
  kept : Kept ch j s
theorem Live.small {ad ch j s} (h : Live ad ch j s) : wN s + 24 ≤ hsz ch.g ∧ hsz ch.g ≤ 32768 := by
  obtain ⟨hz, hz1, hz2, hz3⟩ := hsz_int h.ok.geo
  have := h.kept.told.room
  have := h.jok.used
  exact ⟨by omega, hz2⟩
theorem commit_live (M : Mem) (jb : Nat) (ad : Ad) (ch : Chip) (j : Jr) (s : StaD) (p : Option Addr) (cap : Nat) (dl : List DeedD) (hv : Live ad ch j s.v) (hs : SOk M s) (hd : RDeeds M p dl) (hc : ∀ d ∈ dl.map DeedD.v, Canon d)
    (hb : (deedsB (dl.map DeedD.v)).length ≤ 90000) (he : j.epoch < 2147483647) :
    Spec Tryz.prog 16 [ptr jb, .slice p dl.length cap] M ((jb, .cells (jrL ad.cb j s)) :: chipH ad ch)
      (fun v M' H => ∃ (ch' : Chip) (j' : Jr) (s' : StaD), H = (jb, .cells (jrL ad.cb j' s')) :: chipH ad ch' ∧ SOk M' s' ∧ Live ad ch' j' s'.v ∧ ch'.g = ch.g ∧ j'.epoch ≤ j.epoch + 1 ∧
        ((v = intV 0 ∧ s'.v = applyL s.v (dl.map DeedD.v) ∧ (firstB 1 (applyL s.v (dl.map DeedD.v))).length + 7 ≤ hsz ch.g ∧ commit ch j s.v (dl.map DeedD.v) = ((ch', j', s'.v), 0)) ∨
          (v = intV 10 ∧ s'.v = s.v ∧ j' = j ∧ ch' = ch ∧ hsz ch.g < (firstB 1 (applyL s.v (dl.map DeedD.v))).length + 7))) := by
  have hsm := hv.small
  have hwa := wN_applyL (dl.map DeedD.v) s.v
  have hwl := whole_len (applyL s.v (dl.map DeedD.v))
  have hcnt := deeds_count (dl.map DeedD.v)
  rw [List.length_map] at hcnt
  have hdk : ∀ d ∈ dl, InoOk d.d.x := fun d hm => canon_ok (hc d.v (List.mem_map_of_mem hm)) (by have := deeds_mem (List.mem_map_of_mem (f := DeedD.v) hm); omega)
  have hsp := commit_spec M jb ad ch j s p cap dl hv.ok hv.jok hs (staOk_small (by omega)) hd hdk (by omega) (by omega) (staOk_small (by omega)) (by omega)
  refine hsp.mono ?_
  rintro v M' H hle ⟨rfl, s', hs', hso, rfl⟩
  rcases commit_kept hv.ok hv.alive hv.jok hv.ended he hv.kept hc with ⟨c1, c2, c3, c4, c5, c6, c7, c8, c9, c10⟩ | ⟨c1, c2⟩
  · refine ⟨_, _, s', rfl, hso, ⟨c5, c6, by rw [c9]; exact c7, c8, by rw [hs', c2]; exact c4⟩, c9, c10, .inl ⟨by rw [c1], by rw [hs', c2], c3, ?_⟩⟩
    have e : ∀ r : (Chip × Jr × Sta) × Int, r.2 = 0 → r = ((r.1.1, r.1.2.1, r.1.2.2), 0) := by rintro ⟨⟨a, b, c⟩, d⟩ h; dsimp only at h ⊢; rw [h]
    rw [hs']
    exact e _ c1
  · rw [c1] at hs'
    refine ⟨ch, j, s', by rw [c1], hso, ?_, rfl, by omega, .inr ⟨by rw [c1], hs', rfl, rfl, c2⟩⟩
    have hs2 : s'.v = s.v := hs'
    rw [hs2]
    exact hv
theorem open_live (M : Mem) (ad : Ad) (ch : Chip) (j : Jr) (s : Sta) (hv : Live ad ch j s) :
    Spec Tryz.prog 21 [ptr ad.cb] M (chipH ad ch) (fun v M' H => ∃ (jb : Nat) (s' : StaD), v = .tuple #[ptr jb, .int .i64 0] ∧ s'.v = s ∧ SOk M' s' ∧ H = (jb, .cells (jrL ad.cb j s')) :: chipH ad ch) := by
  have ho := hv.kept.open hv.jok hv.ended
  refine (open_spec M ad ch hv.ok).mono ?_
  rintro v M' H hle (⟨h1, _⟩ | ⟨jb, j', s', h1, h2, rfl, hso, _, rfl⟩)
  · rw [ho] at h1; cases h1
  · rw [ho] at h1 ⊢
    injection h1 with h1
    injection h1 with h1 h3
    subst h1
    exact ⟨jb, s', rfl, h3.symm, hso, rfl⟩
theorem format_live (M : Mem) (ad : Ad) (ch : Chip) (hok : ChipOk ad ch) (ha : Alive ch.pw) :
    Spec Tryz.prog 14 [ptr ad.cb] M (chipH ad ch) (fun v M' H => ∃ (jb : Nat) (s : StaD) (ch' : Chip), v = .tuple #[ptr jb, .int .i64 0] ∧ s.v = staR ∧ SOk M' s ∧ Live ad ch' fmtJ staR ∧ ch'.g = ch.g ∧ ch' = (fmt ch).1 ∧ H = (jb, .cells (jrL ad.cb fmtJ s)) :: chipH ad ch') := by
  obtain ⟨f1, f2, f3, f4, f5, f6⟩ := fmt_kept hok ha
  refine (format_spec M ad ch hok).mono ?_
  rintro v M' H hle (⟨_, hne, _⟩ | ⟨jb, s, rfl, h0, hsv, hso, rfl⟩)
  · exact absurd f1 hne
  · exact ⟨jb, s, (fmt ch).1, rfl, hsv, hso, ⟨f3, f4, by rw [f5]; exact f6, rfl, f2⟩, f5, rfl, rfl⟩
theorem jstate_live (M : Mem) (jb : Nat) (ad : Ad) (ch : Chip) (j : Jr) (s : StaD) (hv : Live ad ch j s.v) (hs : SOk M s) :
    Spec Tryz.prog 20 [ptr jb] M [(jb, .cells (jrL ad.cb j s))] (fun v M' H => H = [(jb, .cells (jrL ad.cb j s))] ∧ RetSta s.v v M' []) :=
  jstate_spec M jb ad.cb j s hs (staOk_small (by have := hv.small; omega))
theorem chip_new (M : Mem) (g : Geo) (pb : Nat) (hg : GeoOk g) : Spec Tryz.prog 11 [geoV g, ptr pb] M [(pb, .cells (pwL ⟨-1, 0, false, 0⟩ (.map Option.none)))]
    (fun v _ H => ∃ ad : Ad, v = .tuple #[ptr ad.cb, .int .i64 0] ∧ H = chipH ad ⟨g, List.replicate (chipN g) 255, ⟨-1, 0, false, 0⟩, []⟩ ∧ ChipOk ad ⟨g, List.replicate (chipN g) 255, ⟨-1, 0, false, 0⟩, []⟩ ∧ Alive (⟨-1, 0, false, 0⟩ : Pw)) :=
  (norNew_spec M g pb ⟨-1, 0, false, 0⟩ (.map Option.none) hg ⟨by decide, by decide⟩).mono fun _ _ _ _ ⟨ad, _, h2, h3, h4⟩ => ⟨ad, h2, h3, h4, rfl, rfl⟩
/-- A deed that gives a number out. -/
theorem next_canon (n : Int) (h : InR n) : Canon ⟨1, n, ino0⟩ := .inl ⟨.inl rfl, h, rfl⟩
theorem next_rdeeds {M : Mem} {b : Nat} {n : Int} (h : M b = some (deedDL ⟨1, n, inoD0⟩)) : RDeeds M (some ⟨b, 0, Option.none⟩) [⟨1, n, inoD0⟩] :=
  ⟨⟨by intro e he; simp at he; subst he; rfl, rfl, fun _ => ⟨b, 0, _, rfl, Rd.m h, rfl⟩⟩, by intro d hd; rw [List.mem_singleton.1 hd]; exact dOk0 _⟩
theorem awake17_spec (M : Mem) : Spec Tryz.prog 13 [] M [] (fun v _ H => v = .bool true ∧ H = []) := by
  refine Spec.of_code 46 Tryz.func13 rfl callable13 rfl rfl fun w => ?_
  refine C.region_seq ?_
  refine G.value rfl rfl rfl (Sure.assign rfl) ?_
  refine G.nil ?_
  refine C.region_seq ?_
  refine G.call rfl rfl rfl rfl rfl rfl (wide_spec M) (Split.nil) ?_
  rintro _ M1 _ le1 ⟨rfl, rfl⟩
  refine G.call rfl rfl rfl rfl rfl rfl (pw_new_spec M1) (Split.nil) ?_
  rintro _ M2 _ le2 ⟨pb, rfl, rfl⟩
  refine G.call rfl rfl rfl rfl rfl rfl (chip_new M2 geoW pb geoW_ok) (Split.cons .here Split.nil) ?_
  rintro _ M3 _ le3 ⟨ad, rfl, rfl, hok, hal⟩
  refine G.value rfl rfl rfl (Sure.move rfl) ?_
  refine G.value rfl rfl rfl (Sure.extract rfl rfl) ?_
  refine G.value rfl rfl rfl (Sure.extract rfl rfl) ?_
  refine G.value rfl rfl rfl (Sure.assign rfl) ?_
  refine G.value rfl rfl rfl (Sure.assign rfl) ?_
  refine G.nil ?_
  refine C.seq ?_
  refine C.region_seq ?_
  refine G.value rfl rfl rfl (Sure.move rfl) ?_
  refine G.value rfl rfl rfl ((Sure.neq rfl rfl).to_f (by decide)) ?_
  refine G.value rfl rfl rfl (Sure.move rfl) ?_
  refine G.value rfl rfl rfl (Sure.move rfl) ?_
  refine G.value rfl rfl rfl (ptr_eq_f rfl rfl) ?_
  refine G.value rfl rfl rfl (Sure.pick_false rfl rfl) ?_
  refine G.nil ?_
  refine C.cond_false rfl ?_
  refine C.skip ?_
  refine Fin.th ?_
  refine C.region_seq ?_
  refine G.value rfl rfl rfl (Sure.move rfl) ?_
  refine G.call rfl rfl rfl rfl rfl rfl (format_live M3 ad _ hok hal) (Split.one .here) ?_
  rintro _ M4 _ le4 ⟨jb, s, ch, rfl, hsv, hso, hlv, hcg, _, rfl⟩
  refine G.value rfl rfl rfl (Sure.move rfl) ?_
  refine G.value rfl rfl rfl (Sure.extract rfl rfl) ?_
  refine G.value rfl rfl rfl (Sure.extract rfl rfl) ?_
  refine G.value rfl rfl rfl (Sure.assign rfl) ?_
  refine G.value rfl rfl rfl (Sure.assign rfl) ?_
  refine G.nil ?_
  refine C.region_seq ?_
  refine G.value rfl rfl rfl (Sure.move rfl) ?_
  refine G.value rfl rfl rfl ((Sure.eql rfl rfl).to_t rfl) ?_
  refine G.value rfl rfl rfl (Sure.move rfl) ?_
  refine G.value rfl rfl rfl (Sure.move rfl) ?_
  refine G.value rfl rfl rfl (ptr_ne_t rfl rfl) ?_
  refine G.value rfl rfl rfl (Sure.pick_true rfl rfl) ?_
  refine G.value rfl rfl rfl (Sure.move rfl) ?_
  refine G.value rfl rfl rfl (Sure.move rfl) ?_
  refine G.call rfl rfl rfl rfl rfl rfl (epoch_spec M4 jb ad.cb fmtJ s) (Split.cons .here Split.nil) ?_
  rintro _ M5 _ le5 ⟨rfl, rfl⟩
  refine G.value rfl rfl rfl ((Sure.eql rfl rfl).to_t rfl) ?_
  refine G.value rfl rfl rfl (Sure.pick_true rfl rfl) ?_
  refine G.value rfl rfl rfl (Sure.move rfl) ?_
  refine G.value rfl rfl rfl (Sure.move rfl) ?_
  refine G.value rfl rfl rfl (Sure.build rfl rfl) ?_
  refine G.dyn rfl rfl rfl ?_
  refine Dyn.buildSlice rfl rfl rfl (by simp [vcl]) (by decide) ?_
  intro b36
  refine G.donate fun M6 le6 hM6 => ?_
  rw [← hsv] at hlv
  refine G.call rfl rfl rfl rfl rfl rfl (commit_live M6 jb ad ch fmtJ s (some ⟨b36, 0, Option.none⟩) 1 [⟨1, 9, inoD0⟩] hlv (hso.mono (le5.trans le6)) (next_rdeeds hM6) (by intro d hd; simp at hd; subst hd; exact next_canon 9 ⟨by decide, by decide⟩) (by simp [deedsB, DeedD.v, deedB]) (by decide)) (Split.cons .here (Split.one .here)) ?_
  rintro _ M7 _ le7 ⟨ch', j', s', rfl, hso', hlv', hg', hep', hres⟩
  have hsm := hlv.small
  have hap : applyL s.v [(⟨1, 9, ino0⟩ : Deed)] = ⟨9, s.v.inos, s.v.bad⟩ := rfl
  have hfl := firstB_len 1 (applyL s.v [(⟨1, 9, ino0⟩ : Deed)])
  have hwn : wN (applyL s.v [(⟨1, 9, ino0⟩ : Deed)]) = wN s.v := rfl
  rcases hres with ⟨rfl, hs2, _, _⟩ | ⟨rfl, _, _, _, hno⟩
  · have hs3 : s'.v = ⟨9, s.v.inos, s.v.bad⟩ := hs2
    refine G.value rfl rfl rfl ((Sure.eql rfl rfl).to_t rfl) ?_
    refine G.value rfl rfl rfl (Sure.pick_true rfl rfl) ?_
    refine G.value rfl rfl rfl (Sure.move rfl) ?_
    refine G.value rfl rfl rfl (Sure.move rfl) ?_
    refine G.call rfl rfl rfl rfl rfl rfl (jstate_live M7 jb ad ch' j' s' hlv' hso') (Split.cons .here Split.nil) ?_
    rintro _ M8 _ le8 ⟨rfl, -, s4, hs4, rfl, hso4⟩
    have hn4 : s4.next = 9 := by have := congrArg Sta.next (hs4.trans hs3); exact this
    refine G.value rfl rfl rfl (Sure.field rfl rfl) ?_
    refine G.value rfl rfl rfl ((Sure.eql rfl rfl).to_t hn4) ?_
    refine G.value rfl rfl rfl (Sure.pick_true rfl rfl) ?_
    refine G.value rfl rfl rfl (Sure.assign rfl) ?_
    refine G.nil ?_
    refine C.ret ?_
    exact Fin.fn (Res.tmp rfl rfl) Split.nil ⟨rfl, rfl⟩
  · exfalso
    have hno' : hsz ch.g < (firstB 1 (applyL s.v [(⟨1, 9, ino0⟩ : Deed)])).length + 7 := hno
    omega
end Go.Proofs.YtaeeahcokiebdaaGreat

/-
  How often sectors are erased: the plain law, and the walk of Erases.
  Conditions: as each theorem says.
-/
namespace Go.Proofs.YtaeeahcokiebdaaGreat
set_option maxRecDepth 20000

theorem cntPut_cons (a b k v : Int) (l : Cnt) : cntPut ((a, b) :: l) k v = if a = k then (a, v) :: l else (a, b) :: cntPut l k v := by
  unfold cntPut
  rw [List.findIdx?_cons]
  by_cases h : a = k
  · rw [if_pos h]
    simp [h]
  · rw [if_neg h]
    have h1 : ((a, b).1 == k) = false := by simpa using h
    rw [h1]
    cases List.findIdx? (fun p : Int × Int => p.1 == k) l with
    | none => rfl
    | some i => rfl
theorem cntGet_cons (a b k : Int) (l : Cnt) : cntGet ((a, b) :: l) k = if a = k then b else cntGet l k := by
  unfold cntGet
  rw [List.find?_cons]
  by_cases h : a = k
  · rw [if_pos h]
    simp [h]
  · rw [if_neg h]
    have h1 : ((a, b).1 == k) = false := by simpa using h
    rw [h1]
theorem cntGet_put (l : Cnt) (k v k' : Int) : cntGet (cntPut l k v) k' = if k = k' then v else cntGet l k' := by
  induction l with
  | nil =>
    show cntGet [(k, v)] k' = _
    rw [cntGet_cons]
  | cons p l ih =>
    obtain ⟨a, b⟩ := p
    rw [cntPut_cons]
    by_cases h : a = k
    · rw [if_pos h, cntGet_cons, cntGet_cons, h]
      by_cases h2 : k = k'
      · rw [if_pos h2, if_pos h2]
      · rw [if_neg h2, if_neg h2, if_neg h2]
    · rw [if_neg h, cntGet_cons, cntGet_cons, ih]
      by_cases h2 : a = k'
      · rw [if_pos h2, if_pos h2, if_neg (by omega)]
      · rw [if_neg h2, if_neg h2]
theorem prog_er : ∀ (bs : List UInt8) (ch : Chip) (at_ : Nat), (ch.prog at_ bs).1.er = ch.er
  | [], ch, at_ => rfl
  | x :: bs, ch, at_ => by
    unfold Chip.prog
    split
    · rw [prog_er bs]
    · split <;> rfl
theorem program_er (ch : Chip) (at_ : Nat) (bs : List UInt8) : (ch.program at_ bs).1.er = ch.er := by
  unfold Chip.program
  split
  · rfl
  · exact prog_er bs ch at_
theorem append_er (ch : Chip) (h at_ : Nat) (b : List UInt8) : (ch.append h at_ b).1.er = ch.er := by
  unfold Chip.append
  split
  · rfl
  · split
    · rfl
    · split
      · exact program_er _ _ _
      · rw [program_er, program_er]
theorem erase_er {ch : Chip} {s : Nat} (ha : Alive ch.pw) (i : Int) : cntGet (ch.erase s).1.er i = if (s : Int) = i then IntKind.i64.wrap (cntGet ch.er s + 1) else cntGet ch.er i := by
  obtain ⟨h1, h2⟩ := ha.step
  unfold Chip.erase
  rw [if_pos h1]
  exact cntGet_put _ _ _ _
theorem wipeN_er {ad : Ad} {n h : Nat} : ∀ (k : Nat) {ch : Chip}, ChipOk ad ch → k ≤ n → ((h * n + n : Nat) : Int) ≤ ch.g.sectors → Alive ch.pw → ∀ i : Nat,
    cntGet (wipeN n h k ch).1.er i = if h * n ≤ i ∧ i < h * n + k then IntKind.i64.wrap (cntGet ch.er i + 1) else cntGet ch.er i
  | 0, ch, _, _, _, _, i => by rw [if_neg (by omega)]; rfl
  | k + 1, ch, hok, hk, hs, ha, i => by
    have hlt : ((h * n + k : Nat) : Int) < ch.g.sectors := by omega
    obtain ⟨e1, e2, e3, e4⟩ := erase_alive hok hlt ha
    have h1 := hok.erase hlt
    have h2 := erase_g ch (h * n + k)
    have ih := wipeN_er (n := n) (h := h) k h1 (by omega) (by rw [h2]; exact hs) e2 i
    unfold wipeN
    rw [if_pos e1, ih]
    simp only [erase_er ha]
    by_cases c1 : h * n ≤ i ∧ i < h * n + k
    · rw [if_pos c1, if_neg (by omega), if_pos (by omega)]
    · rw [if_neg c1]
      by_cases c2 : h * n + k = i
      · subst c2
        rw [if_pos rfl, if_pos (by omega)]
      · rw [if_neg (by omega), if_neg (by omega)]
/-- The halves' sectors are erased in turn. -/
def Turned (ch : Chip) (j : Jr) : Prop := ∃ c : Int, 1 ≤ c ∧ c ≤ j.epoch ∧ ∀ i : Nat, (i : Int) < ch.g.sectors → cntGet ch.er i = if i < nsec ch.g then c else c + j.half
theorem i64_small {v : Int} (h : -9223372036854775808 ≤ v ∧ v ≤ 9223372036854775807) : IntKind.i64.wrap v = v := by
  simp [IntKind.wrap, IntKind.bits, IntKind.signed]
  omega
theorem wiped_er {ad : Ad} {ch : Chip} {h : Nat} (hok : ChipOk ad ch) (hh : h < 2) (ha : Alive ch.pw) (i : Nat) :
    cntGet (wipeN (nsec ch.g) h (nsec ch.g) ch).1.er i = if h * nsec ch.g ≤ i ∧ i < h * nsec ch.g + nsec ch.g then IntKind.i64.wrap (cntGet ch.er i + 1) else cntGet ch.er i := by
  have hns : ch.g.sectors = 2 * (nsec ch.g : Int) := by have := hok.geo.even; have := hok.geo.s; unfold nsec; omega
  have hhs : h * nsec ch.g ≤ nsec ch.g := by rcases (by omega : h = 0 ∨ h = 1) with h | h <;> rw [h] <;> omega
  exact wipeN_er (nsec ch.g) hok (Nat.le_refl _) (by omega) ha i
theorem anew_turned {ad : Ad} {ch : Chip} {j : Jr} {s : Sta} (hok : ChipOk ad ch) (ha : Alive ch.pw) (hj : JOk j ch.g) (he : j.epoch < 2147483647) (hfit : (firstB (j.epoch + 1) s).length + 7 ≤ hsz ch.g) (ht : Turned ch j)
    (hg : (anewC ch j s).1.g = ch.g) : Turned (anewC ch j s).1 { j with half := 1 - j.half, epoch := j.epoch + 1, used := (firstB (j.epoch + 1) s).length + 7 } := by
  have hh := hj.half
  obtain ⟨w1, w2, w3, w4⟩ := wiped hok (h := 1 - j.half) (by omega) ha
  have hno : ¬ (hsz ch.g < (firstB (j.epoch + 1) s).length + 7 ∨ 2147483647 ≤ j.epoch) := by omega
  have hC : anewC ch j s = (wipeN (nsec ch.g) (1 - j.half) (nsec ch.g) ch).1.append (1 - j.half) 0 (firstB (j.epoch + 1) s) := by
    unfold anewC; rw [if_neg hno, if_neg (by rw [w1]; decide)]
  have hns : ch.g.sectors = 2 * (nsec ch.g : Int) := by have := hok.geo.even; have := hok.geo.s; unfold nsec; omega
  obtain ⟨c, hc1, hc2, hc⟩ := ht
  have her : ∀ i : Nat, cntGet (anewC ch j s).1.er i = if (1 - j.half) * nsec ch.g ≤ i ∧ i < (1 - j.half) * nsec ch.g + nsec ch.g then IntKind.i64.wrap (cntGet ch.er i + 1) else cntGet ch.er i := by
    intro i
    rw [hC, append_er]
    exact wiped_er hok (by omega) ha i
  rcases (by omega : j.half = 0 ∨ j.half = 1) with h0 | h0
  · refine ⟨c, hc1, by dsimp only; omega, fun i hi => ?_⟩
    rw [hg] at hi ⊢
    rw [her i, hc i hi, h0]
    simp only [Nat.sub_zero, Nat.one_mul]
    by_cases h1 : i < nsec ch.g
    · rw [if_pos h1, if_neg (by omega), if_pos h1]
    · rw [if_neg h1, if_pos (by omega), if_neg h1, i64_small (by omega)]
      simp
  · refine ⟨c + 1, by omega, by dsimp only; omega, fun i hi => ?_⟩
    rw [hg] at hi ⊢
    rw [her i, hc i hi, h0]
    simp only [Nat.sub_self, Nat.zero_mul]
    by_cases h1 : i < nsec ch.g
    · rw [if_pos h1, if_pos (by omega), if_pos h1, i64_small (by omega)]
    · rw [if_neg h1, if_neg (by omega), if_neg h1]
      simp
theorem commit_turned {ad : Ad} {ch : Chip} {j : Jr} {s : Sta} {l : List Deed} (hv : Live ad ch j s) (he : j.epoch < 2147483647) (hc : ∀ d ∈ l, Canon d) (ht : Turned ch j) (hz : (commit ch j s l).2 = 0) :
    Turned (commit ch j s l).1.1 (commit ch j s l).1.2.1 ∧ (((commit ch j s l).1.2.1.epoch = j.epoch ∧ (commit ch j s l).1.2.1.half = j.half) ∨ ((commit ch j s l).1.2.1.epoch = j.epoch + 1 ∧ (commit ch j s l).1.2.1.half = 1 - j.half)) := by
  have hok := hv.ok
  have ha := hv.alive
  have hj := hv.jok
  have hk := hv.kept
  have hnend : ¬ j.ended = true := by rw [hv.ended]; decide
  have ho := hk.told.ord.applyL l
  have hr := hk.told.rng.applyL l fun d hd => (hc d hd).rng
  by_cases hbig : hsz ch.g < j.used + ((deedsB l).length + 7)
  · have hc' : commit ch j s l = (((anewC ch j (applyL s l)).1, anewJ ch j (applyL s l), anewS ch j (applyL s l) s (applyL s l)), (anewC ch j (applyL s l)).2) := by
      unfold commit; rw [if_neg hnend, if_pos hbig]
    rw [hc'] at hz ⊢
    by_cases hf : hsz ch.g < (firstB (j.epoch + 1) (applyL s l)).length + 7
    · obtain ⟨e1, e2⟩ := anew_full hf
      rw [e1] at hz
      exact absurd hz (by simp)
    · obtain ⟨e1, e2, e3, e4, e5, e6⟩ := anew_kept hok ha hj he (by omega) ho hr (by rw [hk.told.read]; exact Int.le_refl _)
      dsimp only
      rw [e6]
      exact ⟨anew_turned hok ha hj he (by omega) ht e5, .inr ⟨rfl, rfl⟩⟩
  · have hc' : commit ch j s l = if (ch.append j.half j.used (deedsB l)).2 ≠ 0 then (((ch.append j.half j.used (deedsB l)).1, { j with ended := true }, s), (ch.append j.half j.used (deedsB l)).2)
        else (((ch.append j.half j.used (deedsB l)).1, { j with used := j.used + ((deedsB l).length + 7) }, applyL s l), 0) := by
      unfold commit; rw [if_neg hnend, if_neg hbig]
    have hg := (append_ok hok j.half j.used (deedsB l)).2
    have her := append_er ch j.half j.used (deedsB l)
    rw [hc'] at hz ⊢
    by_cases h2 : (ch.append j.half j.used (deedsB l)).2 = 0
    · rw [if_neg (by rw [h2]; decide)]
      refine ⟨?_, .inl ⟨rfl, rfl⟩⟩
      unfold Turned at *
      dsimp only
      rw [hg, her]
      exact ht
    · rw [if_pos h2] at hz
      exact absurd hz h2
theorem fmt_turned {ad : Ad} {ch : Chip} (hok : ChipOk ad ch) (ha : Alive ch.pw) (hem : ch.er = []) : Turned (fmt ch).1 fmtJ := by
  have hns : ch.g.sectors = 2 * (nsec ch.g : Int) := by have := hok.geo.even; have := hok.geo.s; unfold nsec; omega
  obtain ⟨f1, f2, f3, f4, f5, f6⟩ := fmt_kept hok ha
  have t1 : wipeTo ch 1 = wipeN (nsec ch.g) 0 (nsec ch.g) ch := by
    unfold wipeTo wipeTo
    rw [if_neg (by simp)]
  obtain ⟨x1, x2, x3, x4⟩ := wiped hok (h := 0) (by omega) ha
  obtain ⟨ok1, g1⟩ := wipeTo_ok hok 1 (by omega)
  rw [t1] at ok1 g1
  obtain ⟨y1, y2, y3, y4⟩ := wiped ok1 (h := 1) (by omega) x2
  have t2 : wipeTo ch 2 = wipeN (nsec ch.g) 1 (nsec ch.g) (wipeN (nsec ch.g) 0 (nsec ch.g) ch).1 := by
    conv => lhs; unfold wipeTo
    rw [t1, if_neg (by rw [x1]; decide)]
  have r1 := wiped_er hok (h := 0) (by omega) ha
  have r2 := wiped_er ok1 (h := 1) (by omega) x2
  rw [g1] at r2 y1
  have hf : fmt ch = (wipeTo ch 2).1.append 0 0 (firstB 1 staR) := by
    unfold fmt
    rw [if_neg]
    rw [t2, y1]
    decide
  refine ⟨1, by decide, by decide, fun i hi => ?_⟩
  rw [f5] at hi ⊢
  rw [hf, append_er, t2, r2 i, r1 i, hem]
  have h0 : cntGet [] (i : Int) = 0 := rfl
  have hw : IntKind.i64.wrap (0 + 1) = 1 := by decide
  have hh : fmtJ.half = 0 := rfl
  rw [h0, hh]
  simp only [Nat.zero_mul, Nat.one_mul, Nat.zero_add, hw]
  by_cases h1 : i < nsec ch.g
  · rw [if_neg (by omega), if_pos (by omega), if_pos h1]
  · rw [if_pos (by omega), if_neg (by omega), if_neg h1, hw]
    rfl
theorem erases_spec (M : Mem) (ad : Ad) (ch : Chip) (i : Int) : Spec Tryz.prog 31 [ptr ad.cb, intV i] M (chipH ad ch) (fun v _ H => v = intV (cntGet ch.er i) ∧ H = chipH ad ch) := by
  refine Spec.of_code 14 Tryz.func31 rfl callable31 rfl rfl fun w => ?_
  refine C.region_seq ?_
  refine G.value rfl rfl rfl (Sure.assign rfl) ?_
  refine G.nil ?_
  refine C.seq ?_
  refine C.region_seq ?_
  refine G.value rfl rfl rfl (Sure.move rfl) ?_
  refine G.value rfl rfl rfl (ptr_eq_f rfl rfl) ?_
  refine G.nil ?_
  refine C.cond_false rfl ?_
  refine C.skip ?_
  refine Fin.th ?_
  refine C.region_seq ?_
  refine G.value rfl rfl rfl (Sure.move rfl) ?_
  refine G.value rfl rfl rfl (Sure.nilCheck rfl) ?_
  refine G.value rfl rfl rfl (Sure.fieldAddr rfl) ?_
  refine G.value rfl rfl rfl (Sure.load rfl rdx rfl) ?_
  refine G.value rfl rfl rfl (Sure.move rfl) ?_
  refine G.value rfl rfl rfl (Sure.build rfl rfl) ?_
  refine G.dyn rfl rfl rfl ?_
  refine Dyn.lookupCnt cntTy rfl rfl pkx ?_
  refine G.value rfl rfl rfl (Sure.assign rfl) ?_
  refine G.nil ?_
  refine C.ret ?_
  exact Fin.fn (Res.tmp rfl rfl) (Split.one .all) ⟨rfl, rfl⟩
end Go.Proofs.YtaeeahcokiebdaaGreat

/-
  The walk of JournalRoom.
-/
namespace Go.Proofs.YtaeeahcokiebdaaGreat
set_option maxRecDepth 20000

theorem link_canon (no : Int) (t : ByteArray) (h : InR no) (ht : t.size < 4294967296) : Canon ⟨2, 0, ⟨no, 3, 0, 0, t, [], []⟩⟩ :=
  .inr ⟨rfl, rfl, ⟨h, (⟨by decide, by decide⟩ : InR 3), inR0, inR0, ht, by show (0 : Nat) < _; decide, by intro e he; simp at he, by show (0 : Nat) < _; decide, by intro e he; simp at he⟩⟩
abbrev linkD (no : Int) (t : ByteArray) : DeedD := ⟨2, 0, ⟨⟨no, 3, 0, 0, t, [], []⟩, Option.none, 0, Option.none, 0⟩⟩
theorem link_rdeeds {M : Mem} {b : Nat} {no : Int} {t : ByteArray} (h : M b = some (deedDL (linkD no t))) : RDeeds M (some ⟨b, 0, Option.none⟩) [linkD no t] :=
  ⟨⟨by intro e he; simp at he; subst he; rfl, rfl, fun _ => ⟨b, 0, _, rfl, Rd.m h, rfl⟩⟩, by intro d hd; rw [List.mem_singleton.1 hd]; exact ⟨⟨by simp, Sl.empty⟩, ⟨by simp, Sl.empty⟩⟩⟩
theorem link_len (no : Int) (t : ByteArray) : (deedsB [(⟨2, 0, ⟨no, 3, 0, 0, t, [], []⟩⟩ : Deed)]).length = 45 + t.size := by simp [deedsB, deedB, inoB, intsB_len]; omega
theorem room_law (M : Mem) (g : Geo) (n : Int) : Spec Tryz.prog 3 [geoV g, intV n] M [] (fun v _ _ => v = .bool true) := by
  refine Spec.of_code 116 Tryz.func3 rfl callable3 rfl rfl fun w => ?_
  refine C.region_seq ?_
  refine G.dyn rfl rfl rfl ?_
  refine Dyn.boxAgg rfl ?_
  intro b2
  refine G.value rfl rfl rfl (Sure.assign rfl) ?_
  refine G.nil ?_
  refine C.region_seq ?_
  refine G.value rfl rfl rfl (Sure.loadAgg rfl rdx rfl) ?_
  refine G.call rfl rfl rfl rfl rfl rfl (geometry_spec M g) (Split.nil) ?_
  rintro _ M1 _ le1 ⟨rfl, g', rfl, hg, hg2, hg3⟩
  refine G.dyn0 rfl rfl ?_
  refine Dyn.storeAgg rfl rfl pkx rfl rfl rfl ?_
  refine G.nil ?_
  -- draws its order
  refine C.draw_seq ([(b2, .cells (geoL g'))]) mixed (by kernel_rfl) (Incl.refl _) ?_
  refine GD.val 0 rfl rfl rfl rfl (by kernel_rfl) rfl (Sure.loadAgg rfl rdx rfl) ?_
  refine GD.one 1 (by kernel_rfl) rfl rfl (by kernel_rfl) ?_
  refine Next.call 1 rfl rfl rfl (by kernel_rfl) (by kernel_rfl) rfl rfl rfl rfl (pw_new_spec M1) (Split.nil) ?_
  rintro _ M2 _ le2 ⟨pb, rfl, rfl⟩
  refine ⟨incx, ?_⟩
  refine GD.one 2 (by kernel_rfl) rfl rfl (by kernel_rfl) ?_
  refine Next.call 2 rfl rfl rfl (by kernel_rfl) (by kernel_rfl) rfl rfl rfl rfl (chip_new M2 g' pb hg) (Split.cons .here Split.nil) ?_
  rintro _ M3 _ le3 ⟨ad, rfl, rfl, hok, hal⟩
  refine ⟨incx, ?_⟩
  refine GD.val 3 rfl rfl rfl rfl (by kernel_rfl) rfl (Sure.move rfl) ?_
  refine GD.val 4 rfl rfl rfl rfl (by kernel_rfl) rfl (Sure.extract rfl rfl) ?_
  refine GD.val 5 rfl rfl rfl rfl (by kernel_rfl) rfl (Sure.extract rfl rfl) ?_
  refine GD.one 6 (by kernel_rfl) rfl rfl (by kernel_rfl) ?_
  refine Next.dyn 6 rfl rfl rfl (by kernel_rfl) (by kernel_rfl) rfl (Dyn.assign rfl ?_)
  refine ⟨MLe.refl _, incx, ?_⟩
  refine GD.one 7 (by kernel_rfl) rfl rfl (by kernel_rfl) ?_
  refine Next.dyn 7 rfl rfl rfl (by kernel_rfl) (by kernel_rfl) rfl (Dyn.assign rfl ?_)
  refine ⟨MLe.refl _, incx, ?_⟩
  refine GD.done (by kernel_rfl) (by kernel_rfl) ?_
  refine C.seq ?_
  refine C.region_seq ?_
  refine G.call rfl rfl rfl rfl rfl rfl (awake17_spec M3) (Split.nil) ?_
  rintro _ M4 _ le4 ⟨rfl, rfl⟩
  refine G.value rfl rfl rfl (Sure.not rfl) ?_
  refine G.value rfl rfl rfl (Sure.move rfl) ?_
  refine G.value rfl rfl rfl (Sure.move rfl) ?_
  refine G.value rfl rfl rfl (ptr_eq_f rfl rfl) ?_
  refine G.value rfl rfl rfl (Sure.pick_false rfl rfl) ?_
  refine G.nil ?_
  refine C.cond_false rfl ?_
  refine C.skip ?_
  refine Fin.th ?_
  refine C.region_seq ?_
  refine G.value rfl rfl rfl (Sure.move rfl) ?_
  refine G.call rfl rfl rfl rfl rfl rfl (format_live M4 ad _ hok hal) (Split.one .here) ?_
  rintro _ M5 _ le5 ⟨jb, s, ch, rfl, hsv, hso, hlv, hcg, _, rfl⟩
  refine G.value rfl rfl rfl (Sure.move rfl) ?_
  refine G.value rfl rfl rfl (Sure.extract rfl rfl) ?_
  refine G.value rfl rfl rfl (Sure.extract rfl rfl) ?_
  refine G.value rfl rfl rfl (Sure.assign rfl) ?_
  refine G.value rfl rfl rfl (Sure.assign rfl) ?_
  refine G.nil ?_
  refine C.seq ?_
  refine C.region_seq ?_
  refine G.value rfl rfl rfl (Sure.move rfl) ?_
  refine G.value rfl rfl rfl ((Sure.neq rfl rfl).to_f (by decide)) ?_
  refine G.value rfl rfl rfl (Sure.move rfl) ?_
  refine G.value rfl rfl rfl (Sure.move rfl) ?_
  refine G.value rfl rfl rfl (ptr_eq_f rfl rfl) ?_
  refine G.value rfl rfl rfl (Sure.pick_false rfl rfl) ?_
  refine G.nil ?_
  refine C.cond_false rfl ?_
  refine C.skip ?_
  refine Fin.th ?_
  refine C.region_seq ?_
  refine G.value rfl rfl rfl (Sure.move rfl) ?_
  refine G.value rfl rfl rfl (Sure.conv' rfl) ?_
  have hwn := u64_wrap_bd n
  refine G.value rfl rfl rfl (Sure.rem rfl rfl (by omega) (by decide)) ?_
  obtain ⟨m, hm⟩ : ∃ m : Nat, IntKind.u64.wrap n % 40 = m := ⟨(IntKind.u64.wrap n % 40).toNat, by omega⟩
  have hm2 : m < 40 := by omega
  rw [hm]
  refine G.value rfl rfl rfl (Sure.conv rfl (inK64 (by omega))) ?_
  refine G.value rfl rfl rfl (Sure.assign rfl) ?_
  refine G.nil ?_
  refine C.region_seq ?_
  refine G.value rfl rfl rfl (Sure.assign rfl) ?_
  refine G.nil ?_
  refine C.seq ?_
  refine C.region_seq ?_
  refine G.value rfl rfl rfl (Sure.assign rfl) ?_
  refine G.nil ?_
  refine C.block ?_
  refine C.loop (fun k E M' H => ∃ t : ByteArray, MLe M5 M' ∧ t.size + k = 100 ∧ E = [(1, .int .i64 m), (2, ptr b2), (5, ptr ad.cb), (7, ptr jb), (9, .string t), (10, .int .i64 t.size)] ∧ H = (b2, .cells (geoL g')) :: (jb, .cells (jrL ad.cb fmtJ s)) :: chipH ad ch) (100) ?_ ?_
  · exact ⟨_, _, ⟨⟨#[]⟩, MLe.refl _, by simp [ByteArray.size], rfl, rfl⟩, ⟨rfl, rfl, rfl, rfl, rfl, rfl, trivial⟩, [], Split.cons (.there (.there (.there (.there (.there .here))))) (Split.cons .here (Split.one .all))⟩
  · rintro k E M' H ⟨t, hle, htk, rfl, rfl⟩
    refine C.seq ?_
    refine C.region_seq ?_
    refine G.value rfl rfl rfl (Sure.move rfl) ?_
    refine G.value rfl rfl rfl (Sure.lss rfl rfl) ?_
    refine G.nil ?_
    refine C.cond_dec rfl (fun hlt => ?_) (fun hlt => ?_)
    · have h116 : (⟨#[116]⟩ : ByteArray).size = 1 := rfl
      refine C.skip ?_
      refine Fin.th ?_
      refine C.seq ?_
      refine C.block ?_
      refine C.region ?_
      refine G.value rfl rfl rfl (Sure.move rfl) ?_
      refine G.value rfl rfl rfl (Sure.str_add rfl rfl (by omega)) ?_
      refine G.value rfl rfl rfl (Sure.assign rfl) ?_
      refine G.nil ?_
      refine Fin.blk ?_
      refine Fin.th ?_
      refine C.region ?_
      refine G.value rfl rfl rfl (Sure.move rfl) ?_
      refine G.value rfl rfl rfl (Sure.add rfl rfl (inK64 (by omega))) ?_
      refine G.value rfl rfl rfl (Sure.assign rfl) ?_
      refine G.nil ?_
      refine Fin.th ?_
      refine ⟨k - 1, _, _, by omega, ⟨t ++ ⟨#[116]⟩, hle, by rw [ByteArray.size_append]; show t.size + 1 + (k - 1) = 100; omega, rfl, rfl⟩, ⟨rfl, rfl, rfl, rfl, rfl, ?_, trivial⟩, [], Split.cons .here (Split.cons .here (Split.one .all))⟩
      show some (Value.int .i64 ((t.size : Int) + 1)) = some (Value.int .i64 ((t ++ (⟨#[116]⟩ : ByteArray)).size : Int))
      rw [ByteArray.size_append]; rfl
    · have hts : t.size = 100 := by omega
      clear htk hlt
      refine C.exit ?_
      refine Fin.th_exit ?_
      refine Fin.th_exit ?_
      refine Fin.blk_eq ?_
      refine Fin.th ?_
      refine C.region_seq ?_
      refine G.call rfl rfl rfl rfl rfl rfl (refStateC_spec M') (Split.nil) ?_
      rintro _ M6 _ le6 ⟨rfl, r, hrv, rfl, hro⟩
      refine G.dyn rfl rfl rfl ?_
      refine Dyn.allocAgg ?_
      intro b11
      refine G.dyn0 rfl rfl ?_
      refine Dyn.storeAgg rfl rfl pkx rfl rfl rfl ?_
      refine G.nil ?_
      refine C.seq ?_
      refine C.region_seq ?_
      refine G.value rfl rfl rfl (Sure.assign rfl) ?_
      refine G.nil ?_
      refine C.block ?_
      have hfj : fmtJ.epoch = 1 := rfl
      have hjep : fmtJ.epoch ≤ 1 + ((0 : Nat) : Int) := by omega
      have hsr : r.v = s.v := hrv.trans hsv.symm
      rw [← hsv] at hlv
      have hso6 := (hso.mono hle).mono le6
      clear hso
      generalize fmtJ = j at hlv hjep ⊢
      refine C.loop (fun k E M' H => ∃ (i : Nat) (ch : Chip) (j : Jr) (s r : StaD), MLe M6 M' ∧ i + k = m ∧ Live ad ch j s.v ∧ ch.g = g' ∧ j.epoch ≤ 1 + (i : Int) ∧ SOk M' s ∧ SOkC M' r ∧ r.v = s.v ∧ E = [(1, .int .i64 m), (2, ptr b2), (5, ptr ad.cb), (7, ptr jb), (9, .string t), (11, ptr b11), (12, .int .i64 i)] ∧ H = (b2, .cells (geoL g')) :: (b11, .cells (staDL r)) :: (jb, .cells (jrL ad.cb j s)) :: chipH ad ch) (m) ?_ ?_
      · exact ⟨_, _, ⟨0, ch, j, s, r, MLe.refl _, by omega, hlv, hcg, hjep, hso6, hro, hsr, rfl, rfl⟩, ⟨rfl, rfl, rfl, rfl, rfl, rfl, rfl, trivial⟩, [], Split.cons (.there .here) (Split.cons .here (Split.cons .here (Split.one .all)))⟩
      · clear hro hso6 hsr hrv hlv hcg hsv hjep hfj
        rintro k E M' H ⟨i, ch, j, s, r, hle6, hik, hlv, hcg, hep, hso, hro, hrs, rfl, rfl⟩
        have hsm := hlv.small
        have hstk : StaOk s.v := staOk_small (by omega)
        have hrk : r.inos.length ≤ 1000000 ∧ r.bad.length ≤ 1000000 := by
          rw [← hrs] at hstk
          exact ⟨by have := hstk.1; simpa [StaD.v] using this, hstk.2.1⟩
        refine C.seq ?_
        refine C.region_seq ?_
        refine G.value rfl rfl rfl (Sure.move rfl) ?_
        refine G.value rfl rfl rfl (Sure.move rfl) ?_
        refine G.value rfl rfl rfl (Sure.lss rfl rfl) ?_
        refine G.nil ?_
        refine C.cond_dec rfl (fun hlt => ?_) (fun hlt => ?_)
        · refine C.skip ?_
          refine Fin.th ?_
          refine C.seq ?_
          refine C.block ?_
          refine C.region_seq ?_
          refine G.value rfl rfl rfl (Sure.move rfl) ?_
          refine G.value rfl rfl rfl (Sure.add rfl rfl (inK64 (by omega))) ?_
          refine G.value rfl rfl rfl (Sure.move rfl) ?_
          refine G.value rfl rfl rfl (Sure.build rfl rfl) ?_
          refine G.value rfl rfl rfl (Sure.build rfl rfl) ?_
          refine G.dyn rfl rfl rfl ?_
          refine Dyn.buildSlice rfl rfl rfl (by simp [vcl]) (by decide) ?_
          intro b13
          refine G.donate fun M7 le7 hM7 => ?_
          refine G.value rfl rfl rfl (Sure.assign rfl) ?_
          refine G.nil ?_
          refine C.region_seq ?_
          refine G.value rfl rfl rfl (Sure.move rfl) ?_
          refine G.value rfl rfl rfl (Sure.move rfl) ?_
          have hca := link_canon (2 + (i : Int)) t ⟨by omega, by omega⟩ (by omega)
          have hdl := link_len (2 + (i : Int)) t
          have hwa := wN_applyL [(⟨2, 0, ⟨2 + (i : Int), 3, 0, 0, t, [], []⟩⟩ : Deed)] s.v
          have hdv : ([linkD (2 + (i : Int)) t] : List DeedD).map DeedD.v = [⟨2, 0, ⟨2 + (i : Int), 3, 0, 0, t, [], []⟩⟩] := rfl
          have hrd : RDeeds M7 (some ⟨b13, 0, Option.none⟩) [linkD (2 + (i : Int)) t] := link_rdeeds hM7
          have hcl := commit_live M7 jb ad ch j s (some ⟨b13, 0, Option.none⟩) 1 [linkD (2 + (i : Int)) t] hlv (hso.mono le7) hrd (by intro d hd; rw [hdv] at hd; rw [List.mem_singleton.1 hd]; exact hca) (by rw [hdv]; omega) (by omega)
          rw [hdv] at hcl
          have hft := fun M (h : SOkC M r) (hd : RDeeds M (some ⟨b13, 0, Option.none⟩) [linkD (2 + (i : Int)) t]) => refFits_spec M r g' (some ⟨b13, 0, Option.none⟩) 1 [linkD (2 + (i : Int)) t] h hg hrk hd (by simp) (by rw [hdv, hrs, whole_len]; omega)
          rw [hdv, hrs] at hft
          have hfa := fun M (h : SOkC M r) (hd : RDeeds M (some ⟨b13, 0, Option.none⟩) [linkD (2 + (i : Int)) t]) => refApply_spec M r (some ⟨b13, 0, Option.none⟩) 1 [linkD (2 + (i : Int)) t] h hrk hd (by simp)
          rw [hdv, hrs] at hfa
          clear hdv hwa hca hdl
          generalize [(⟨2, 0, ⟨2 + (i : Int), 3, 0, 0, t, [], []⟩⟩ : Deed)] = l at hcl hft hfa
          refine G.call rfl rfl rfl rfl rfl rfl (hcl) (Split.one (.there (.there .all))) ?_
          rintro _ M8 _ le8 ⟨ch', j', s', rfl, hso', hlv', hg', hep', hres⟩
          rw [hcg] at hg' hres
          have hrd8 := hrd.mono le8
          have hro8 := (hro.mono le7).mono le8
          rcases hres with ⟨rfl, hs2, hfit, _⟩ | ⟨rfl, hs2, rfl, rfl, hfit⟩
          · refine G.value rfl rfl rfl (Sure.assign rfl) ?_
            refine G.nil ?_
            refine C.seq ?_
            refine C.region_seq ?_
            refine G.value rfl rfl rfl (Sure.move rfl) ?_
            refine G.value rfl rfl rfl ((Sure.eql rfl rfl).to_t rfl) ?_
            refine G.value rfl rfl rfl (Sure.loadAgg rfl rdx rfl) ?_
            refine G.value rfl rfl rfl (Sure.loadAgg rfl rdx rfl) ?_
            refine G.value rfl rfl rfl (Sure.move rfl) ?_
            refine G.call rfl rfl rfl rfl rfl rfl (hft M8 hro8 hrd8) (Split.nil) ?_
            rintro _ M9 _ le9 ⟨rfl, rfl⟩
            rw [decide_eq_true hfit]
            refine G.value rfl rfl rfl (Sure.bool_neq rfl rfl) ?_
            refine G.value rfl rfl rfl (Sure.move rfl) ?_
            refine G.value rfl rfl rfl (Sure.move rfl) ?_
            refine G.value rfl rfl rfl ((Sure.neq rfl rfl).to_f (by decide)) ?_
            refine G.value rfl rfl rfl (Sure.move rfl) ?_
            refine G.skip rfl rfl rfl ?_
            refine G.skip rfl rfl rfl ?_
            refine G.value rfl rfl rfl (Sure.pick_false rfl rfl) ?_
            refine G.value rfl rfl rfl (Sure.pick_false rfl rfl) ?_
            refine G.nil ?_
            refine C.cond_false rfl ?_
            refine C.skip ?_
            refine Fin.th ?_
            refine C.seq ?_
            refine C.region_seq ?_
            refine G.value rfl rfl rfl (Sure.move rfl) ?_
            refine G.value rfl rfl rfl ((Sure.eql rfl rfl).to_t rfl) ?_
            refine G.nil ?_
            refine C.cond_true rfl ?_
            refine C.region ?_
            refine G.value rfl rfl rfl (Sure.loadAgg rfl rdx rfl) ?_
            refine G.value rfl rfl rfl (Sure.move rfl) ?_
            refine G.call rfl rfl rfl rfl rfl rfl (hfa M9 (hro8.mono le9) (hrd8.mono le9)) (Split.nil) ?_
            rintro _ M10 _ le10 ⟨rfl, r', hr', rfl, hro'⟩
            refine G.dyn0 rfl rfl ?_
            refine Dyn.storeAgg rfl rfl pkx rfl rfl rfl ?_
            refine G.nil ?_
            refine Fin.th ?_
            -- draws its order
            refine C.draw_seq ([(b11, .cells (staDL r'))]) mixed (by kernel_rfl) (by intro q hq; simp at hq; subst hq; simp) ?_
            refine GD.val 0 rfl rfl rfl rfl (by kernel_rfl) rfl (Sure.move rfl) ?_
            refine GD.val 2 rfl rfl rfl rfl (by kernel_rfl) rfl (Sure.loadAgg rfl rdx rfl) ?_
            refine GD.one 1 (by kernel_rfl) rfl rfl (by kernel_rfl) ?_
            refine Next.call 1 rfl rfl rfl (by kernel_rfl) (by kernel_rfl) rfl rfl rfl rfl (jstate_live M10 jb ad ch' j' s' hlv' ((hso'.mono le9).mono le10)) (Split.cons (.there .here) Split.nil) ?_
            rintro _ M11 _ le11 ⟨rfl, -, s4, hs4, rfl, hso4⟩
            refine ⟨(by intro q hq; simp at hq; subst hq; simp), ?_⟩
            refine GD.one 3 (by kernel_rfl) rfl rfl (by kernel_rfl) ?_
            refine Next.call 3 rfl rfl rfl (by kernel_rfl) (by kernel_rfl) rfl rfl rfl rfl (state_spec M11 s4 r' hso4 (hro'.mono le11).1 (by rw [hs4]; exact staOk_small (by have := hlv'.small; omega))) (Split.nil) ?_
            rintro _ M12 _ le12 ⟨rfl, rfl⟩
            refine ⟨(by intro q hq; simp at hq; subst hq; simp), ?_⟩
            rw [show staEq s4.v r'.v = true from by rw [hs4, hr', hs2]; exact staEq_refl _]
            refine GD.val 4 rfl rfl rfl rfl (by kernel_rfl) rfl (Sure.not rfl) ?_
            refine GD.done (by kernel_rfl) (by kernel_rfl) ?_
            refine C.cond_false rfl ?_
            refine C.skip ?_
            refine Fin.blk ?_
            refine Fin.th ?_
            refine C.region ?_
            refine G.value rfl rfl rfl (Sure.move rfl) ?_
            refine G.value rfl rfl rfl (Sure.add rfl rfl (inK64 (by omega))) ?_
            refine G.value rfl rfl rfl (Sure.assign rfl) ?_
            refine G.nil ?_
            refine Fin.th ?_
            refine ⟨k - 1, _, _, by omega, ⟨i + 1, ch', j', s', r', hle6.trans (le7.trans (le8.trans (le9.trans (le10.trans (le11.trans le12))))), by omega, hlv', hg', by omega, (((hso'.mono le9).mono le10).mono le11).mono le12, (hro'.mono le11).mono le12, by rw [hr', hs2], rfl, rfl⟩, ⟨rfl, rfl, rfl, rfl, rfl, rfl, rfl, trivial⟩, [], ?_⟩
            exact Split.cons (.there (.there (.there (.there (.there (.there .here)))))) (Split.cons (.there .here) (Split.cons .here (Split.one .all)))
          · skip
            refine G.value rfl rfl rfl (Sure.assign rfl) ?_
            refine G.nil ?_
            refine C.seq ?_
            refine C.region_seq ?_
            refine G.value rfl rfl rfl (Sure.move rfl) ?_
            refine G.value rfl rfl rfl ((Sure.eql rfl rfl).to_f (by decide)) ?_
            refine G.value rfl rfl rfl (Sure.loadAgg rfl rdx rfl) ?_
            refine G.value rfl rfl rfl (Sure.loadAgg rfl rdx rfl) ?_
            refine G.value rfl rfl rfl (Sure.move rfl) ?_
            refine G.call rfl rfl rfl rfl rfl rfl (hft M8 hro8 hrd8) (Split.nil) ?_
            rintro _ M9 _ le9 ⟨rfl, rfl⟩
            rw [decide_eq_false (show ¬ (firstB 1 (applyL s.v l)).length + 7 ≤ Go.Proofs.YtaeeahcokiebdaaGreat.hsz g' by omega)]
            refine G.value rfl rfl rfl (Sure.bool_neq rfl rfl) ?_
            refine G.value rfl rfl rfl (Sure.move rfl) ?_
            refine G.value rfl rfl rfl (Sure.move rfl) ?_
            refine G.value rfl rfl rfl ((Sure.neq rfl rfl).to_t (by decide)) ?_
            refine G.value rfl rfl rfl (Sure.move rfl) ?_
            refine G.value rfl rfl rfl (Sure.move rfl) ?_
            refine G.value rfl rfl rfl ((Sure.neq rfl rfl).to_f (by decide)) ?_
            refine G.value rfl rfl rfl (Sure.pick_true rfl rfl) ?_
            refine G.value rfl rfl rfl (Sure.pick_false rfl rfl) ?_
            refine G.nil ?_
            refine C.cond_false rfl ?_
            refine C.skip ?_
            refine Fin.th ?_
            refine C.seq ?_
            refine C.region_seq ?_
            refine G.value rfl rfl rfl (Sure.move rfl) ?_
            refine G.value rfl rfl rfl ((Sure.eql rfl rfl).to_f (by decide)) ?_
            refine G.nil ?_
            refine C.cond_false rfl ?_
            refine C.skip ?_
            refine Fin.th ?_
            -- draws its order
            refine C.draw_seq ([(b11, .cells (staDL r))]) mixed (by kernel_rfl) (by intro q hq; simp at hq; subst hq; simp) ?_
            refine GD.val 0 rfl rfl rfl rfl (by kernel_rfl) rfl (Sure.move rfl) ?_
            refine GD.val 2 rfl rfl rfl rfl (by kernel_rfl) rfl (Sure.loadAgg rfl rdx rfl) ?_
            refine GD.one 1 (by kernel_rfl) rfl rfl (by kernel_rfl) ?_
            refine Next.call 1 rfl rfl rfl (by kernel_rfl) (by kernel_rfl) rfl rfl rfl rfl (jstate_live M9 jb ad ch' j' s' hlv' (hso'.mono le9)) (Split.cons .here Split.nil) ?_
            rintro _ M11 _ le11 ⟨rfl, -, s4, hs4, rfl, hso4⟩
            refine ⟨(by intro q hq; simp at hq; subst hq; simp), ?_⟩
            refine GD.one 3 (by kernel_rfl) rfl rfl (by kernel_rfl) ?_
            refine Next.call 3 rfl rfl rfl (by kernel_rfl) (by kernel_rfl) rfl rfl rfl rfl (state_spec M11 s4 r hso4 ((hro8.mono le9).mono le11).1 (by rw [hs4]; exact staOk_small (by have := hlv'.small; omega))) (Split.nil) ?_
            rintro _ M12 _ le12 ⟨rfl, rfl⟩
            refine ⟨(by intro q hq; simp at hq; subst hq; simp), ?_⟩
            rw [show staEq s4.v r.v = true from by rw [hs4, hs2, hrs]; exact staEq_refl _]
            refine GD.val 4 rfl rfl rfl rfl (by kernel_rfl) rfl (Sure.not rfl) ?_
            refine GD.done (by kernel_rfl) (by kernel_rfl) ?_
            refine C.cond_false rfl ?_
            refine C.skip ?_
            refine Fin.blk ?_
            refine Fin.th ?_
            refine C.region ?_
            refine G.value rfl rfl rfl (Sure.move rfl) ?_
            refine G.value rfl rfl rfl (Sure.add rfl rfl (inK64 (by omega))) ?_
            refine G.value rfl rfl rfl (Sure.assign rfl) ?_
            refine G.nil ?_
            refine Fin.th ?_
            refine ⟨k - 1, _, _, by omega, ⟨i + 1, ch', j', s', r, hle6.trans (le7.trans (le8.trans (le9.trans (le11.trans le12)))), by omega, hlv', hg', by omega, ((hso'.mono le9).mono le11).mono le12, ((hro8.mono le9).mono le11).mono le12, by rw [hs2, hrs], rfl, rfl⟩, ⟨rfl, rfl, rfl, rfl, rfl, rfl, rfl, trivial⟩, [], ?_⟩
            exact Split.cons (.there (.there (.there (.there (.there .here))))) (Split.cons (.there (.there (.there (.there (.there .here))))) (Split.one .all))
        · refine C.exit ?_
          refine Fin.th_exit ?_
          refine Fin.th_exit ?_
          refine Fin.blk_eq ?_
          refine Fin.th ?_
          refine C.region_seq ?_
          refine G.value rfl rfl rfl (Sure.move rfl) ?_
          refine G.call rfl rfl rfl rfl rfl rfl (open_live M' ad ch j s.v hlv) (Split.one (.there (.there (.there .all)))) ?_
          rintro _ M7 _ le7 ⟨ob, s5, rfl, hs5, hso5, rfl⟩
          rw [← hs5] at hlv
          refine G.value rfl rfl rfl (Sure.move rfl) ?_
          refine G.value rfl rfl rfl (Sure.extract rfl rfl) ?_
          refine G.value rfl rfl rfl (Sure.extract rfl rfl) ?_
          refine G.value rfl rfl rfl (Sure.assign rfl) ?_
          refine G.value rfl rfl rfl (Sure.assign rfl) ?_
          refine G.nil ?_
          -- draws its order
          refine C.draw_seq ([(b11, .cells (staDL r))]) mixed (by kernel_rfl) (by intro q hq; simp at hq; subst hq; simp) ?_
          refine GD.val 0 rfl rfl rfl rfl (by kernel_rfl) rfl (Sure.move rfl) ?_
          refine GD.val 1 rfl rfl rfl rfl (by kernel_rfl) rfl ((Sure.eql rfl rfl).to_t rfl) ?_
          refine GD.val 2 rfl rfl rfl rfl (by kernel_rfl) rfl (Sure.move rfl) ?_
          refine GD.val 3 rfl rfl rfl rfl (by kernel_rfl) rfl (Sure.move rfl) ?_
          refine GD.val 4 rfl rfl rfl rfl (by kernel_rfl) rfl (ptr_ne_t rfl rfl) ?_
          refine GD.val 5 rfl rfl rfl rfl (by kernel_rfl) rfl (Sure.pick_true rfl rfl) ?_
          refine GD.val 6 rfl rfl rfl rfl (by kernel_rfl) rfl (Sure.move rfl) ?_
          refine GD.val 7 rfl rfl rfl rfl (by kernel_rfl) rfl (Sure.move rfl) ?_
          refine GD.val 9 rfl rfl rfl rfl (by kernel_rfl) rfl (Sure.loadAgg rfl rdx rfl) ?_
          refine GD.one 8 (by kernel_rfl) rfl rfl (by kernel_rfl) ?_
          refine Next.call 8 rfl rfl rfl (by kernel_rfl) (by kernel_rfl) rfl rfl rfl rfl (jstate_live M7 ob ad ch j s5 hlv hso5) (Split.cons .here Split.nil) ?_
          rintro _ M8 _ le8 ⟨rfl, -, s6, hs6, rfl, hso6⟩
          refine ⟨(by intro q hq; simp at hq; subst hq; simp), ?_⟩
          refine GD.one 10 (by kernel_rfl) rfl rfl (by kernel_rfl) ?_
          refine Next.call 10 rfl rfl rfl (by kernel_rfl) (by kernel_rfl) rfl rfl rfl rfl (state_spec M8 s6 r hso6 ((hro.mono le7).mono le8).1 (by rw [hs6, hs5]; exact hstk)) (Split.nil) ?_
          rintro _ M9 _ le9 ⟨rfl, rfl⟩
          refine ⟨(by intro q hq; simp at hq; subst hq; simp), ?_⟩
          rw [show staEq s6.v r.v = true from by rw [hs6, hs5, hrs]; exact staEq_refl _]
          refine GD.val 11 rfl rfl rfl rfl (by kernel_rfl) rfl (Sure.pick_true rfl rfl) ?_
          refine GD.val 12 rfl rfl rfl rfl (by kernel_rfl) rfl (Sure.move rfl) ?_
          refine GD.val 13 rfl rfl rfl rfl (by kernel_rfl) rfl (Sure.move rfl) ?_
          refine GD.val 14 rfl rfl rfl rfl (by kernel_rfl) rfl (Sure.build rfl rfl) ?_
          refine GD.one 15 (by kernel_rfl) rfl rfl (by kernel_rfl) ?_
          refine Next.dyn 15 rfl rfl rfl (by kernel_rfl) (by kernel_rfl) rfl ?_
          refine Dyn.buildSlice rfl rfl rfl (by simp [vcl]) (by decide) ?_
          intro b112
          refine ⟨MLe.refl _, (by intro q hq; simp at hq; subst hq; simp), ?_⟩
          refine GD.mem (by intro q hq; simp at hq; subst hq; simp) fun M10 le10 hM10 => ?_
          have hwn : wN (applyL s5.v [(⟨1, 3, ino0⟩ : Deed)]) = wN s5.v := rfl
          have hfl := firstB_len 1 (applyL s5.v [(⟨1, 3, ino0⟩ : Deed)])
          have hsm5 := hlv.small
          refine GD.one 16 (by kernel_rfl) rfl rfl (by kernel_rfl) ?_
          refine Next.call 16 rfl rfl rfl (by kernel_rfl) (by kernel_rfl) rfl rfl rfl rfl (commit_live M10 ob ad ch j s5 (some ⟨b112, 0, Option.none⟩) 1 [⟨1, 3, inoD0⟩] hlv (((hso5.mono le8).mono le9).mono le10) (next_rdeeds hM10) (by intro d hd; simp at hd; subst hd; exact next_canon 3 ⟨by decide, by decide⟩) (by simp [deedsB, DeedD.v, deedB]) (by omega)) (Split.cons .here (Split.one .here)) ?_
          rintro _ M11 _ le11 ⟨ch', j', s', rfl, hso', hlv', hg', hep', hres⟩
          refine ⟨(by intro q hq; simp at hq; subst hq; simp), ?_⟩
          rcases hres with ⟨rfl, _, _, _⟩ | ⟨rfl, _, _, _, hno⟩
          · skip
            refine GD.val 17 rfl rfl rfl rfl (by kernel_rfl) rfl ((Sure.eql rfl rfl).to_t rfl) ?_
            refine GD.val 18 rfl rfl rfl rfl (by kernel_rfl) rfl (Sure.pick_true rfl rfl) ?_
            refine GD.one 19 (by kernel_rfl) rfl rfl (by kernel_rfl) ?_
            refine Next.dyn 19 rfl rfl rfl (by kernel_rfl) (by kernel_rfl) rfl (Dyn.assign rfl ?_)
            refine ⟨MLe.refl _, incx, ?_⟩
            refine GD.done (by kernel_rfl) (by kernel_rfl) ?_
            refine C.ret ?_
            exact Fin.fn (Res.tmp rfl rfl) Split.nil rfl
          · exfalso
            have hno' : Go.Proofs.YtaeeahcokiebdaaGreat.hsz ch.g < (firstB 1 (applyL s5.v [(⟨1, 3, ino0⟩ : Deed)])).length + 7 := hno
            omega
end Go.Proofs.YtaeeahcokiebdaaGreat

/-
  The walk of JournalTurns: the halves are taken in turn, and the sectors erased alike.
-/
namespace Go.Proofs.YtaeeahcokiebdaaGreat
set_option maxRecDepth 20000

abbrev turnI (t : ByteArray) : Ino := ⟨3, 3, 0, 0, t, [], []⟩
theorem turn_put0 (t : ByteArray) : putI [inoR] (turnI t) = [inoR, turnI t] := by rfl
theorem turn_put1 (t : ByteArray) : putI [inoR, turnI t] (turnI t) = [inoR, turnI t] := by rfl
def TurnS (t : ByteArray) (s : Sta) : Prop := (s.inos = [inoR] ∨ s.inos = [inoR, turnI t]) ∧ s.bad = []
theorem turn_apply {t : ByteArray} {s : Sta} (h : TurnS t s) (n : Int) : TurnS t (applyL s [⟨1, n, ino0⟩, ⟨2, 0, turnI t⟩]) ∧ (applyL s [⟨1, n, ino0⟩, ⟨2, 0, turnI t⟩]).next = n ∧ wN (applyL s [⟨1, n, ino0⟩, ⟨2, 0, turnI t⟩]) = 90 + t.size := by
  have e : applyL s [⟨1, n, ino0⟩, ⟨2, 0, turnI t⟩] = ⟨n, putI s.inos (turnI t), s.bad⟩ := rfl
  have h2 : putI s.inos (turnI t) = [inoR, turnI t] := by
    rcases h.1 with h | h <;> rw [h]
    · exact turn_put0 t
    · exact turn_put1 t
  rw [e, h2, h.2]
  refine ⟨⟨.inr rfl, rfl⟩, rfl, ?_⟩
  have h0 : (⟨#[]⟩ : ByteArray).size = 0 := rfl
  simp [wN, wSum, deedB, inoB, intsB_len, inoR]
  omega
abbrev nextD (n : Int) : DeedD := ⟨1, n, inoD0⟩
theorem turn_rdeeds {M : Mem} {b : Nat} {n : Int} {t : ByteArray} (h : M b = some (deedDL (nextD n) ++ deedDL (linkD 3 t))) : RDeeds M (some ⟨b, 0, Option.none⟩) [nextD n, linkD 3 t] :=
  ⟨⟨by intro e he; simp at he; rcases he with rfl | rfl <;> rfl, rfl, fun _ => ⟨b, 0, _, rfl, Rd.m h, rfl⟩⟩, by
    intro d hd
    simp only [List.mem_cons, List.not_mem_nil, or_false] at hd
    rcases hd with rfl | rfl
    · exact dOk0 _
    · exact ⟨⟨by simp, Sl.empty⟩, ⟨by simp, Sl.empty⟩⟩⟩
theorem turn_len (n : Int) (t : ByteArray) : (deedsB [(⟨1, n, ino0⟩ : Deed), ⟨2, 0, turnI t⟩]).length = 54 + t.size := by simp [deedsB, deedB, inoB, intsB_len]; omega
theorem turn_canon {n : Int} {t : ByteArray} (h : InR n) (ht : t.size < 4294967296) : ∀ d ∈ [(⟨1, n, ino0⟩ : Deed), ⟨2, 0, turnI t⟩], Canon d := by
  intro d hd
  simp only [List.mem_cons, List.not_mem_nil, or_false] at hd
  rcases hd with rfl | rfl
  · exact next_canon n h
  · exact link_canon 3 t ⟨by decide, by decide⟩ ht
theorem turns_law (M : Mem) (g : Geo) (n size : Int) : Spec Tryz.prog 6 [geoV g, intV n, intV size] M [] (fun v _ _ => v = .bool true) := by
  refine Spec.of_code 159 Tryz.func6 rfl callable6 rfl rfl fun w => ?_
  refine C.region_seq ?_
  refine G.dyn rfl rfl rfl ?_
  refine Dyn.boxAgg rfl ?_
  intro b3
  refine G.value rfl rfl rfl (Sure.assign rfl) ?_
  refine G.nil ?_
  refine C.region_seq ?_
  refine G.value rfl rfl rfl (Sure.loadAgg rfl rdx rfl) ?_
  refine G.call rfl rfl rfl rfl rfl rfl (geometry_spec M g) (Split.nil) ?_
  rintro _ M1 _ le1 ⟨rfl, g', rfl, hg, hg2, hg3⟩
  refine G.dyn0 rfl rfl ?_
  refine Dyn.storeAgg rfl rfl pkx rfl rfl rfl ?_
  refine G.nil ?_
  refine C.region_seq ?_
  refine G.value rfl rfl rfl (Sure.move rfl) ?_
  refine G.value rfl rfl rfl (Sure.conv' rfl) ?_
  have hwn := u64_wrap_bd n
  refine G.value rfl rfl rfl (Sure.rem rfl rfl (by omega) (by decide)) ?_
  obtain ⟨m, hm⟩ : ∃ m : Nat, IntKind.u64.wrap n % 80 = m := ⟨(IntKind.u64.wrap n % 80).toNat, by omega⟩
  have hm2 : m < 80 := by omega
  rw [hm]
  refine G.value rfl rfl rfl (Sure.conv rfl (inK64 (by omega))) ?_
  refine G.value rfl rfl rfl (Sure.move rfl) ?_
  refine G.value rfl rfl rfl (Sure.conv' rfl) ?_
  have hws := u64_wrap_bd size
  refine G.value rfl rfl rfl (Sure.rem rfl rfl (by omega) (by decide)) ?_
  obtain ⟨z, hz⟩ : ∃ z : Nat, IntKind.u64.wrap size % 60 = z := ⟨(IntKind.u64.wrap size % 60).toNat, by omega⟩
  have hz2 : z < 60 := by omega
  rw [hz]
  refine G.value rfl rfl rfl (Sure.conv rfl (inK64 (by omega))) ?_
  clear hwn hws hm hz
  refine G.value rfl rfl rfl (Sure.assign rfl) ?_
  refine G.value rfl rfl rfl (Sure.assign rfl) ?_
  refine G.nil ?_
  -- draws its order
  refine C.draw_seq ([(b3, .cells (geoL g'))]) mixed (by kernel_rfl) (Incl.refl _) ?_
  refine GD.val 0 rfl rfl rfl rfl (by kernel_rfl) rfl (Sure.loadAgg rfl rdx rfl) ?_
  refine GD.one 1 (by kernel_rfl) rfl rfl (by kernel_rfl) ?_
  refine Next.call 1 rfl rfl rfl (by kernel_rfl) (by kernel_rfl) rfl rfl rfl rfl (pw_new_spec M1) (Split.nil) ?_
  rintro _ M2 _ le2 ⟨pb, rfl, rfl⟩
  refine ⟨incx, ?_⟩
  refine GD.one 2 (by kernel_rfl) rfl rfl (by kernel_rfl) ?_
  refine Next.call 2 rfl rfl rfl (by kernel_rfl) (by kernel_rfl) rfl rfl rfl rfl (chip_new M2 g' pb hg) (Split.cons .here Split.nil) ?_
  rintro _ M3 _ le3 ⟨ad, rfl, rfl, hok, hal⟩
  refine ⟨incx, ?_⟩
  refine GD.val 3 rfl rfl rfl rfl (by kernel_rfl) rfl (Sure.move rfl) ?_
  refine GD.val 4 rfl rfl rfl rfl (by kernel_rfl) rfl (Sure.extract rfl rfl) ?_
  refine GD.val 5 rfl rfl rfl rfl (by kernel_rfl) rfl (Sure.extract rfl rfl) ?_
  refine GD.one 6 (by kernel_rfl) rfl rfl (by kernel_rfl) ?_
  refine Next.dyn 6 rfl rfl rfl (by kernel_rfl) (by kernel_rfl) rfl (Dyn.assign rfl ?_)
  refine ⟨MLe.refl _, incx, ?_⟩
  refine GD.one 7 (by kernel_rfl) rfl rfl (by kernel_rfl) ?_
  refine Next.dyn 7 rfl rfl rfl (by kernel_rfl) (by kernel_rfl) rfl (Dyn.assign rfl ?_)
  refine ⟨MLe.refl _, incx, ?_⟩
  refine GD.done (by kernel_rfl) (by kernel_rfl) ?_
  refine C.seq ?_
  refine C.region_seq ?_
  refine G.call rfl rfl rfl rfl rfl rfl (awake17_spec M3) (Split.nil) ?_
  rintro _ M4 _ le4 ⟨rfl, rfl⟩
  refine G.value rfl rfl rfl (Sure.not rfl) ?_
  refine G.value rfl rfl rfl (Sure.move rfl) ?_
  refine G.value rfl rfl rfl (Sure.move rfl) ?_
  refine G.value rfl rfl rfl (ptr_eq_f rfl rfl) ?_
  refine G.value rfl rfl rfl (Sure.pick_false rfl rfl) ?_
  refine G.nil ?_
  refine C.cond_false rfl ?_
  refine C.skip ?_
  refine Fin.th ?_
  refine C.region_seq ?_
  refine G.value rfl rfl rfl (Sure.move rfl) ?_
  refine G.call rfl rfl rfl rfl rfl rfl (format_live M4 ad _ hok hal) (Split.one .here) ?_
  rintro _ M5 _ le5 ⟨jb, s, ch, rfl, hsv, hso, hlv, hcg, hch, rfl⟩
  have htu : Turned ch fmtJ := by rw [hch]; exact fmt_turned hok hal rfl
  clear hch
  refine G.value rfl rfl rfl (Sure.move rfl) ?_
  refine G.value rfl rfl rfl (Sure.extract rfl rfl) ?_
  refine G.value rfl rfl rfl (Sure.extract rfl rfl) ?_
  refine G.value rfl rfl rfl (Sure.assign rfl) ?_
  refine G.value rfl rfl rfl (Sure.assign rfl) ?_
  refine G.nil ?_
  refine C.seq ?_
  refine C.region_seq ?_
  refine G.value rfl rfl rfl (Sure.move rfl) ?_
  refine G.value rfl rfl rfl ((Sure.neq rfl rfl).to_f (by decide)) ?_
  refine G.value rfl rfl rfl (Sure.move rfl) ?_
  refine G.value rfl rfl rfl (Sure.move rfl) ?_
  refine G.value rfl rfl rfl (ptr_eq_f rfl rfl) ?_
  refine G.value rfl rfl rfl (Sure.pick_false rfl rfl) ?_
  refine G.nil ?_
  refine C.cond_false rfl ?_
  refine C.skip ?_
  refine Fin.th ?_
  refine C.region_seq ?_
  refine G.value rfl rfl rfl (Sure.assign rfl) ?_
  refine G.nil ?_
  refine C.seq ?_
  refine C.region_seq ?_
  refine G.value rfl rfl rfl (Sure.assign rfl) ?_
  refine G.nil ?_
  refine C.block ?_
  refine C.loop (fun k E M' H => ∃ t : ByteArray, MLe M5 M' ∧ t.size + k = z ∧ E = [(1, .int .i64 m), (2, .int .i64 z), (3, ptr b3), (7, ptr ad.cb), (9, ptr jb), (11, .string t), (12, .int .i64 t.size)] ∧ H = (b3, .cells (geoL g')) :: (jb, .cells (jrL ad.cb fmtJ s)) :: chipH ad ch) (z) ?_ ?_
  · exact ⟨_, _, ⟨⟨#[]⟩, MLe.refl _, by simp [ByteArray.size], rfl, rfl⟩, ⟨rfl, rfl, rfl, rfl, rfl, rfl, rfl, trivial⟩, [], Split.cons pkx (Split.cons .here (Split.one .all))⟩
  · rintro k E M' H ⟨t, hle, htk, rfl, rfl⟩
    refine C.seq ?_
    refine C.region_seq ?_
    refine G.value rfl rfl rfl (Sure.move rfl) ?_
    refine G.value rfl rfl rfl (Sure.move rfl) ?_
    refine G.value rfl rfl rfl (Sure.lss rfl rfl) ?_
    refine G.nil ?_
    refine C.cond_dec rfl (fun hlt => ?_) (fun hlt => ?_)
    · have h116 : (⟨#[116]⟩ : ByteArray).size = 1 := rfl
      refine C.skip ?_
      refine Fin.th ?_
      refine C.seq ?_
      refine C.block ?_
      refine C.region ?_
      refine G.value rfl rfl rfl (Sure.move rfl) ?_
      refine G.value rfl rfl rfl (Sure.str_add rfl rfl (by omega)) ?_
      refine G.value rfl rfl rfl (Sure.assign rfl) ?_
      refine G.nil ?_
      refine Fin.blk ?_
      refine Fin.th ?_
      refine C.region ?_
      refine G.value rfl rfl rfl (Sure.move rfl) ?_
      refine G.value rfl rfl rfl (Sure.add rfl rfl (inK64 (by omega))) ?_
      refine G.value rfl rfl rfl (Sure.assign rfl) ?_
      refine G.nil ?_
      refine Fin.th ?_
      refine ⟨k - 1, _, _, by omega, ⟨t ++ ⟨#[116]⟩, hle, by rw [ByteArray.size_append]; show t.size + 1 + (k - 1) = z; omega, rfl, rfl⟩, ⟨rfl, rfl, rfl, rfl, rfl, rfl, ?_, trivial⟩, [], Split.cons .here (Split.cons .here (Split.one .all))⟩
      show some (Value.int .i64 ((t.size : Int) + 1)) = some (Value.int .i64 ((t ++ (⟨#[116]⟩ : ByteArray)).size : Int))
      rw [ByteArray.size_append]; rfl
    · have hts : t.size < 60 := by omega
      clear htk hlt
      refine C.exit ?_
      refine Fin.th_exit ?_
      refine Fin.th_exit ?_
      refine Fin.blk_eq ?_
      refine Fin.th ?_
      refine C.seq ?_
      refine C.region_seq ?_
      refine G.value rfl rfl rfl (Sure.assign rfl) ?_
      refine G.nil ?_
      refine C.block ?_
      have hjep : fmtJ.epoch ≤ 1 + ((0 : Nat) : Int) := by decide
      have hst : TurnS t s.v := by rw [hsv]; exact ⟨.inl rfl, rfl⟩
      rw [← hsv] at hlv
      have hso6 := hso.mono hle
      clear hso
      generalize fmtJ = j at hlv hjep htu ⊢
      refine C.loop (fun k E M' H => ∃ (i : Nat) (ch : Chip) (j : Jr) (s : StaD), MLe M5 M' ∧ i + k = m ∧ Live ad ch j s.v ∧ ch.g = g' ∧ j.epoch ≤ 1 + (i : Int) ∧ SOk M' s ∧ TurnS t s.v ∧ Turned ch j ∧ E = [(1, .int .i64 m), (3, ptr b3), (7, ptr ad.cb), (9, ptr jb), (11, .string t), (13, .int .i64 i)] ∧ H = (b3, .cells (geoL g')) :: (jb, .cells (jrL ad.cb j s)) :: chipH ad ch) (m) ?_ ?_
      · exact ⟨_, _, ⟨0, ch, j, s, hle, by omega, hlv, hcg, hjep, hso6, hst, htu, rfl, rfl⟩, ⟨rfl, rfl, rfl, rfl, rfl, rfl, trivial⟩, [], Split.cons .here (Split.cons .here (Split.one .all))⟩
      · clear hso6 hst hlv hcg hsv hjep htu
        rintro k E M' H ⟨i, ch, j, s, hle6, hik, hlv, hcg, hep, hso, hst, htu, rfl, rfl⟩
        have hsm := hlv.small
        have hstk : StaOk s.v := staOk_small (by omega)
        have hjh := hlv.jok.half
        have hje := hlv.jok.epoch
        refine C.seq ?_
        refine C.region_seq ?_
        refine G.value rfl rfl rfl (Sure.move rfl) ?_
        refine G.value rfl rfl rfl (Sure.move rfl) ?_
        refine G.value rfl rfl rfl (Sure.lss rfl rfl) ?_
        refine G.nil ?_
        refine C.cond_dec rfl (fun hlt => ?_) (fun hlt => ?_)
        · refine C.skip ?_
          refine Fin.th ?_
          refine C.seq ?_
          refine C.block ?_
          refine C.region_seq ?_
          refine G.value rfl rfl rfl (Sure.move rfl) ?_
          refine G.call rfl rfl rfl rfl rfl rfl (half_spec M' jb ad.cb j s) (Split.cons pkx Split.nil) ?_
          rintro _ M7 _ le7 ⟨rfl, rfl⟩
          refine G.value rfl rfl rfl (Sure.move rfl) ?_
          refine G.call rfl rfl rfl rfl rfl rfl (epoch_spec M7 jb ad.cb j s) (Split.cons pkx Split.nil) ?_
          rintro _ M8 _ le8 ⟨rfl, rfl⟩
          refine G.value rfl rfl rfl (Sure.assign rfl) ?_
          refine G.value rfl rfl rfl (Sure.assign rfl) ?_
          refine G.nil ?_
          refine C.region_seq ?_
          refine G.value rfl rfl rfl (Sure.move rfl) ?_
          refine G.value rfl rfl rfl (Sure.add rfl rfl (inK64 (by omega))) ?_
          refine G.value rfl rfl rfl (Sure.build rfl rfl) ?_
          refine G.value rfl rfl rfl (Sure.move rfl) ?_
          refine G.value rfl rfl rfl (Sure.build rfl rfl) ?_
          refine G.value rfl rfl rfl (Sure.build rfl rfl) ?_
          refine G.dyn rfl rfl rfl ?_
          refine Dyn.buildSlice rfl rfl rfl (by simp [vcl]) (by decide) ?_
          intro b16
          refine G.donate fun M9 le9 hM9 => ?_
          refine G.value rfl rfl rfl (Sure.assign rfl) ?_
          refine G.nil ?_
          refine C.region_seq ?_
          refine G.value rfl rfl rfl (Sure.move rfl) ?_
          refine G.value rfl rfl rfl (Sure.move rfl) ?_
          obtain ⟨ta1, ta2, ta3⟩ := turn_apply hst ((i : Int) + 5)
          have hca := turn_canon (n := (i : Int) + 5) (t := t) ⟨by omega, by omega⟩ (by omega)
          have hdv : ([nextD ((i : Int) + 5), linkD 3 t] : List DeedD).map DeedD.v = [⟨1, (i : Int) + 5, ino0⟩, ⟨2, 0, turnI t⟩] := rfl
          have hcl := commit_live M9 jb ad ch j s (some ⟨b16, 0, Option.none⟩) 2 [nextD ((i : Int) + 5), linkD 3 t] hlv (((hso.mono le7).mono le8).mono le9) (turn_rdeeds hM9) (by rw [hdv]; exact hca) (by rw [hdv, turn_len]; omega) (by omega)
          rw [hdv] at hcl
          have hct := commit_turned hlv (by omega) hca htu
          have hzg := hsz_int hlv.ok.geo
          refine G.call rfl rfl rfl rfl rfl rfl (hcl) (Split.cons pkx (Split.one (.there .all))) ?_
          rintro _ M10 _ le10 ⟨ch', j', s', rfl, hso', hlv', hg', hep', hres⟩
          rcases hres with ⟨rfl, hs2, hfit, hceq⟩ | ⟨rfl, _, _, _, hno⟩
          · rw [hceq] at hct
            obtain ⟨htu', hturn⟩ := hct rfl
            have hle' := hle6.trans (le7.trans (le8.trans (le9.trans le10)))
            have hbe : (!(decide (j'.epoch = j.epoch) == decide ((j'.half : Int) = (j.half : Int)))) = false := by
              rcases hturn with ⟨h1, h2⟩ | ⟨h1, h2⟩
              · dsimp only at h1 h2; rw [h1, h2]; simp
              · dsimp only at h1 h2
                rw [decide_eq_false (show ¬ j'.epoch = j.epoch by omega), decide_eq_false (show ¬ (j'.half : Int) = (j.half : Int) by omega)]
                rfl
            have hnx : s'.v.next = (i : Int) + 5 := by rw [hs2]; exact ta2
            refine G.value rfl rfl rfl ((Sure.neq rfl rfl).to_f (by decide)) ?_
            refine G.value rfl rfl rfl (Sure.move rfl) ?_
            refine G.value rfl rfl rfl (Sure.move rfl) ?_
            refine G.call rfl rfl rfl rfl rfl rfl (jstate_live M10 jb ad ch' j' s' hlv' hso') (Split.cons pkx Split.nil) ?_
            rintro _ M11 _ le11 ⟨rfl, -, s4, hs4, rfl, hso4⟩
            have hn4 : s4.next = (i : Int) + 5 := by have := congrArg Sta.next hs4; exact this.trans hnx
            refine G.value rfl rfl rfl (Sure.field rfl rfl) ?_
            refine G.value rfl rfl rfl (Sure.move rfl) ?_
            refine G.value rfl rfl rfl (Sure.add rfl rfl (inK64 (by omega))) ?_
            refine G.value rfl rfl rfl ((Sure.neq rfl rfl).to_f (by simpa using hn4)) ?_
            refine G.value rfl rfl rfl (Sure.pick_false rfl rfl) ?_
            refine G.value rfl rfl rfl (Sure.move rfl) ?_
            refine G.value rfl rfl rfl (Sure.move rfl) ?_
            refine G.call rfl rfl rfl rfl rfl rfl (epoch_spec M11 jb ad.cb j' s') (Split.cons pkx Split.nil) ?_
            rintro _ M12 _ le12 ⟨rfl, rfl⟩
            refine G.value rfl rfl rfl (Sure.move rfl) ?_
            refine G.value rfl rfl rfl (Sure.add rfl rfl (inK64 (by omega))) ?_
            refine G.value rfl rfl rfl ((Sure.gtr rfl rfl).to_f (by omega)) ?_
            refine G.value rfl rfl rfl (Sure.pick_false rfl rfl) ?_
            refine G.value rfl rfl rfl (Sure.move rfl) ?_
            refine G.value rfl rfl rfl (Sure.move rfl) ?_
            refine G.call rfl rfl rfl rfl rfl rfl (epoch_spec M12 jb ad.cb j' s') (Split.cons pkx Split.nil) ?_
            rintro _ M13 _ le13 ⟨rfl, rfl⟩
            refine G.value rfl rfl rfl (Sure.move rfl) ?_
            refine G.value rfl rfl rfl (Sure.eql rfl rfl) ?_
            refine G.value rfl rfl rfl (Sure.move rfl) ?_
            refine G.call rfl rfl rfl rfl rfl rfl (half_spec M13 jb ad.cb j' s') (Split.cons pkx Split.nil) ?_
            rintro _ M14 _ le14 ⟨rfl, rfl⟩
            refine G.value rfl rfl rfl (Sure.move rfl) ?_
            refine G.value rfl rfl rfl (Sure.eql rfl rfl) ?_
            refine G.value rfl rfl rfl (Sure.bool_neq rfl rfl) ?_
            rw [hbe]
            refine G.value rfl rfl rfl (Sure.pick_false rfl rfl) ?_
            refine G.nil ?_
            refine C.cond_false rfl ?_
            refine C.skip ?_
            refine Fin.blk ?_
            refine Fin.th ?_
            refine C.region ?_
            refine G.value rfl rfl rfl (Sure.move rfl) ?_
            refine G.value rfl rfl rfl (Sure.add rfl rfl (inK64 (by omega))) ?_
            refine G.value rfl rfl rfl (Sure.assign rfl) ?_
            refine G.nil ?_
            refine Fin.th ?_
            refine ⟨k - 1, _, _, by omega, ⟨i + 1, ch', j', s', hle'.trans (le11.trans (le12.trans (le13.trans le14))), by omega, hlv', hg'.trans hcg, by omega, (hso'.mono le11).mono (le12.trans (le13.trans le14)), by rw [hs2]; exact ta1, htu', rfl, rfl⟩, ⟨rfl, rfl, rfl, rfl, rfl, rfl, trivial⟩, [], ?_⟩
            exact Split.cons pkx (Split.cons .here (Split.one .all))
          · exfalso
            have hno' : Go.Proofs.YtaeeahcokiebdaaGreat.hsz ch.g < (firstB 1 (applyL s.v [(⟨1, (i : Int) + 5, ino0⟩ : Deed), ⟨2, 0, turnI t⟩])).length + 7 := hno
            rw [firstB_len] at hno'
            omega
        · clear hlt hep
          have htu2 := htu
          obtain ⟨c, hc1, hc2, hc⟩ := htu2
          have hsec : 2 ≤ g'.sectors ∧ g'.sectors ≤ 16 := hg.s
          have hns : g'.sectors = 2 * (nsec g' : Int) := by have := hg.even; unfold nsec; omega
          rw [hcg] at hc
          have hc0 : cntGet ch.er 0 = c := by
            have := hc 0 (by omega)
            rw [if_pos (by omega)] at this
            exact this
          have hcb : ∀ i : Nat, (i : Int) < g'.sectors → c ≤ cntGet ch.er i ∧ cntGet ch.er i ≤ c + 1 := by
            intro i hi
            rw [hc i hi]
            split <;> omega
          clear hc
          refine C.exit ?_
          refine Fin.th_exit ?_
          refine Fin.th_exit ?_
          refine Fin.blk_eq ?_
          refine Fin.th ?_
          refine C.region_seq ?_
          refine G.value rfl rfl rfl (Sure.move rfl) ?_
          refine G.call rfl rfl rfl rfl rfl rfl (erases_spec M' ad ch 0) (Split.one (.there (.there .all))) ?_
          rintro _ M7 _ le7 ⟨rfl, rfl⟩
          refine G.value rfl rfl rfl (Sure.move rfl) ?_
          refine G.call rfl rfl rfl rfl rfl rfl (erases_spec M7 ad ch 0) (Split.one .here) ?_
          rintro _ M8 _ le8 ⟨rfl, rfl⟩
          rw [hc0]
          refine G.value rfl rfl rfl (Sure.assign rfl) ?_
          refine G.value rfl rfl rfl (Sure.assign rfl) ?_
          refine G.nil ?_
          refine C.seq ?_
          refine C.region_seq ?_
          refine G.value rfl rfl rfl (Sure.assign rfl) ?_
          refine G.nil ?_
          refine C.block ?_
          refine C.loop (fun k E M' H => ∃ (i : Nat) (hi : Int), MLe M8 M' ∧ (i : Int) + k = g'.sectors ∧ c ≤ hi ∧ hi ≤ c + 1 ∧ E = [(3, ptr b3), (7, ptr ad.cb), (9, ptr jb), (17, intV c), (18, intV hi), (19, intV i)] ∧ H = (b3, .cells (geoL g')) :: (jb, .cells (jrL ad.cb j s)) :: chipH ad ch) (g'.sectors.toNat) ?_ ?_
          · exact ⟨_, _, ⟨0, c, MLe.refl _, by omega, by omega, by omega, rfl, rfl⟩, ⟨rfl, rfl, rfl, rfl, rfl, rfl, trivial⟩, [], Split.cons pkx (Split.cons pkx (Split.one .all))⟩
          · rintro k E M9 H ⟨i, hi, hle9, hik, hh1, hh2, rfl, rfl⟩
            refine C.seq ?_
            refine C.region_seq ?_
            refine G.value rfl rfl rfl (Sure.move rfl) ?_
            refine G.value rfl rfl rfl (Sure.fieldAddr rfl) ?_
            refine G.value rfl rfl rfl (Sure.load rfl rdx rfl) ?_
            refine G.value rfl rfl rfl (Sure.lss rfl rfl) ?_
            refine G.nil ?_
            refine C.cond_dec rfl (fun hlt => ?_) (fun hlt => ?_)
            · obtain ⟨hb1, hb2⟩ := hcb i (by omega)
              refine C.skip ?_
              refine Fin.th ?_
              refine C.seq ?_
              refine C.block ?_
              refine C.region ?_
              refine G.value rfl rfl rfl (Sure.move rfl) ?_
              refine G.value rfl rfl rfl (Sure.move rfl) ?_
              refine G.value rfl rfl rfl (Sure.move rfl) ?_
              refine G.call rfl rfl rfl rfl rfl rfl (erases_spec M9 ad ch i) (Split.one (.there (.there .all))) ?_
              rintro _ M10 _ le10 ⟨rfl, rfl⟩
              refine G.value rfl rfl rfl (Sure.min rfl rfl) ?_
              refine G.value rfl rfl rfl (Sure.move rfl) ?_
              refine G.value rfl rfl rfl (Sure.move rfl) ?_
              refine G.value rfl rfl rfl (Sure.move rfl) ?_
              refine G.call rfl rfl rfl rfl rfl rfl (erases_spec M10 ad ch i) (Split.one .here) ?_
              rintro _ M11 _ le11 ⟨rfl, rfl⟩
              refine G.value rfl rfl rfl (Sure.max rfl rfl) ?_
              refine G.value rfl rfl rfl (Sure.assign rfl) ?_
              refine G.value rfl rfl rfl (Sure.assign rfl) ?_
              refine G.nil ?_
              refine Fin.blk ?_
              refine Fin.th ?_
              refine C.region ?_
              refine G.value rfl rfl rfl (Sure.move rfl) ?_
              refine G.value rfl rfl rfl (Sure.add rfl rfl (inK64 (by omega))) ?_
              refine G.value rfl rfl rfl (Sure.assign rfl) ?_
              refine G.nil ?_
              refine Fin.th ?_
              refine ⟨k - 1, _, _, by omega, ⟨i + 1, max hi (cntGet ch.er i), hle9.trans (le10.trans le11), by omega, by omega, by omega, rfl, rfl⟩, ⟨rfl, rfl, rfl, by show some (Value.int .i64 (min c (cntGet ch.er i))) = some (intV c); rw [Int.min_eq_left hb1], rfl, rfl, trivial⟩, [], ?_⟩
              exact Split.cons pkx (Split.cons pkx (Split.one .all))
            · clear hlt
              refine C.exit ?_
              refine Fin.th_exit ?_
              refine Fin.th_exit ?_
              refine Fin.blk_eq ?_
              refine Fin.th ?_
              refine C.region_seq ?_
              refine G.value rfl rfl rfl (Sure.move rfl) ?_
              have hso9 := hso.mono (le7.trans (le8.trans hle9))
              refine G.call rfl rfl rfl rfl rfl rfl (open_live M9 ad ch j s.v hlv) (Split.one (.there (.there .all))) ?_
              rintro _ M10 _ le10 ⟨ob, s5, rfl, hs5, hso5, rfl⟩
              have hlv5 : Live ad ch j s5.v := by rw [hs5]; exact hlv
              refine G.value rfl rfl rfl (Sure.move rfl) ?_
              refine G.value rfl rfl rfl (Sure.extract rfl rfl) ?_
              refine G.value rfl rfl rfl (Sure.extract rfl rfl) ?_
              refine G.value rfl rfl rfl (Sure.assign rfl) ?_
              refine G.value rfl rfl rfl (Sure.assign rfl) ?_
              refine G.nil ?_
              refine C.region_seq ?_
              refine G.value rfl rfl rfl (Sure.move rfl) ?_
              refine G.value rfl rfl rfl (Sure.move rfl) ?_
              refine G.value rfl rfl rfl (Sure.sub rfl rfl (inK64 (by omega))) ?_
              refine G.value rfl rfl rfl ((Sure.leq rfl rfl).to_t (by omega)) ?_
              refine G.value rfl rfl rfl (Sure.move rfl) ?_
              refine G.value rfl rfl rfl (Sure.move rfl) ?_
              refine G.value rfl rfl rfl ((Sure.eql rfl rfl).to_t rfl) ?_
              refine G.value rfl rfl rfl (Sure.pick_true rfl rfl) ?_
              refine G.value rfl rfl rfl (Sure.move rfl) ?_
              refine G.value rfl rfl rfl (Sure.move rfl) ?_
              refine G.value rfl rfl rfl (ptr_ne_t rfl rfl) ?_
              refine G.value rfl rfl rfl (Sure.pick_true rfl rfl) ?_
              refine G.value rfl rfl rfl (Sure.move rfl) ?_
              refine G.value rfl rfl rfl (Sure.move rfl) ?_
              refine G.call rfl rfl rfl rfl rfl rfl (jstate_live M10 ob ad ch j s5 hlv5 hso5) (Split.cons pkx Split.nil) ?_
              rintro _ M11 _ le11 ⟨rfl, -, s6, hs6, rfl, hso6⟩
              refine G.value rfl rfl rfl (Sure.move rfl) ?_
              refine G.call rfl rfl rfl rfl rfl rfl (jstate_live M11 jb ad ch j s hlv (hso9.mono (le10.trans le11))) (Split.cons (.there (.there (.there (.there (.there (.there .here)))))) Split.nil) ?_
              rintro _ M12 _ le12 ⟨rfl, -, s7, hs7, rfl, hso7⟩
              refine G.call rfl rfl rfl rfl rfl rfl (state_spec M12 s6 s7 (hso6.mono le12) hso7 (by rw [hs6, hs5]; exact hstk)) (Split.nil) ?_
              rintro _ M13 _ le13 ⟨rfl, rfl⟩
              rw [show staEq s6.v s7.v = true from by rw [hs6, hs5, hs7]; exact staEq_refl _]
              refine G.value rfl rfl rfl (Sure.pick_true rfl rfl) ?_
              refine G.value rfl rfl rfl (Sure.move rfl) ?_
              refine G.value rfl rfl rfl (Sure.move rfl) ?_
              refine G.call rfl rfl rfl rfl rfl rfl (epoch_spec M13 ob ad.cb j s5) (Split.cons pkx Split.nil) ?_
              rintro _ M14 _ le14 ⟨rfl, rfl⟩
              refine G.value rfl rfl rfl (Sure.move rfl) ?_
              refine G.call rfl rfl rfl rfl rfl rfl (epoch_spec M14 jb ad.cb j s) (Split.cons pkx Split.nil) ?_
              rintro _ M15 _ le15 ⟨rfl, rfl⟩
              refine G.value rfl rfl rfl ((Sure.eql rfl rfl).to_t rfl) ?_
              refine G.value rfl rfl rfl (Sure.pick_true rfl rfl) ?_
              refine G.value rfl rfl rfl (Sure.assign rfl) ?_
              refine G.nil ?_
              refine C.ret ?_
              exact Fin.fn (Res.tmp rfl rfl) Split.nil rfl
end Go.Proofs.YtaeeahcokiebdaaGreat
namespace Go.Proofs.YtaeeahcokiebdaaGreat.journalTurns
open Go.ChangeShapes Go.WideShapes Go.ChangeAt Go.RowKit Go.Proofs.YtaeeahcokiebdaaGreat
set_option maxRecDepth 20000

theorem own : ownKnob Tryz.prog.godebug = Option.none := by kernel_rfl
theorem laidOut : laidOutB Tryz.prog = true := by kernel_rfl

set_option maxRecDepth 100000 in
theorem lifted (os : Os) (started : os.Started) (H : Type) (enc : TypeId × Value → H) :
    ReturnsInHanded {} Tryz.checked os 6 .any (Rows.journalTurnsSpec.pre6 enc Tryz.prog Tryz.f6 Rows.journalTurnsRow.domain false) (Rows.journalTurnsSpec.post enc Tryz.prog Tryz.f6 false true false false) := by
  refine returnsInHanded_of_change_sized (C := Tryz.checked) own started (by kernel_rfl) Tryz.func6
    (ChangeSpec.witness6 (enc := enc) (C := Tryz.checked) false ⟨#[], #[.agg #[.int .i64 0, .int .i64 0, .int .i64 0, .int .i64 0, .int .i64 0], .int .i64 0, .int .i64 0], []⟩ 8 (by kernel_rfl) (by kernel_rfl) (by kernel_rfl) (by kernel_rfl)) ?_
  intro W base args ds gs before hval0 hW hcnd hsz0 _
  have hval : ∀ (j : Nat) t v, Tryz.f6.params[j]? = some t → args[j]? = some v → Value.okWide Tryz.prog W .any base t v := hval0
  have hW' := hW
  obtain ⟨p, q, hA0, hV, rfl, hfz, hnd⟩ := hW
  have hA : DataW.TrodAll enc Tryz.prog W 0 (fun _ => true) true Tryz.f6.params.toList args.toList ds p := hA0
  rw [Tryz.params6] at hA hval
  obtain ⟨v0, vs0, d0, ds0, p0, q0, hargs, rfl, rfl, h0, r0⟩ := trodAll_cons hA
  obtain ⟨v1, vs1, d1, ds1, p1, q1, rfl, rfl, rfl, h1, r1⟩ := trodAll_cons r0
  obtain ⟨v2, vs2, d2, ds2, p2, q2, rfl, rfl, rfl, h2, r2⟩ := trodAll_cons r1
  obtain ⟨rfl, rfl, rfl⟩ := trodAll_nil r2
  obtain rfl : args = #[v0, v1, v2] := by cases args; simp_all
  obtain ⟨l, hl, rfl⟩ := open_intsOnly 5 Tryz.underlying23 rfl (by kernel_rfl) (by kernel_rfl) (hval 0 _ v0 rfl rfl) h0
  obtain ⟨n, rfl, rfl, rfl, w1⟩ := open_int Tryz.underlying3 (hval 1 _ v1 rfl rfl) h1
  obtain ⟨size, rfl, rfl, rfl, w2⟩ := open_int Tryz.underlying3 (hval 2 _ v2 rfl rfl) h2
  obtain ⟨a, b, c, d, e, rfl⟩ := five hl
  refine ((turns_law (memOf W) ⟨a, b, c, d, e⟩ n size).runs W (memOf_at W)).mono fun e W' ⟨v, M', H', he, hst, hv⟩ => ?_
  subst he
  subst hv
  exact ⟨_, rfl, law_post laidOut hW' (by kernel_rfl) rfl (st_below hst) rfl Tryz.underlying4 rfl⟩
theorem proved : Rows.JournalTurnsSaid :=
  OpenClaim.holds_of_wide 6 Tryz.f6 rfl rfl rfl rfl rfl rfl rfl ⟨rfl, rfl, rfl, rfl, rfl⟩ rfl rfl rfl rfl rfl (by kernel_rfl) Tryz.func6 (by kernel_rfl)
    (of_decide_eq_true (by kernel_rfl)) (by unfold Func.isWrapper; first | (rw [if_pos (by decide +kernel)]; kernel_rfl) | (rw [if_neg (by decide +kernel)]; exact ⟨rfl, rfl⟩))
    (fun os started H enc _ => lifted os started H enc)
end Go.Proofs.YtaeeahcokiebdaaGreat.journalTurns
namespace Go.Proofs.YtaeeahcokiebdaaGreat
/-- The law JournalTurns, in the given form. -/
theorem journalTurns_holds : Rows.JournalTurnsSaid := journalTurns.proved
#print axioms journalTurns_holds
end Go.Proofs.YtaeeahcokiebdaaGreat
