/-
  WHAT IS PROVED: whatever the geometry, the deeds, the numbers and the mask, the law JournalFalls returns true, never panics, and leaves its arguments as they were. CONDITIONS: those of the row, and that what comes in is of bulk at most 1048576.
-/
import Derived.Test.YtaeeahcokiebdaaGreatFae
import Derived.JoinedCond

/-
  The walks of holding inodes and states against each other, and of what fits, as the references have it.
  Conditions: lists have a million elements at most.
-/
namespace Go.Proofs.YtaeeahcokiebdaaGreat
set_option maxRecDepth 20000

def inoEq (a b : Ino) : Bool := decide (a.no = b.no) && (decide (a.kind = b.kind) && (decide (a.links = b.links) && (decide (a.size = b.size) && ((a.tgt.toList == b.tgt.toList) && (sameL entEq a.ents b.ents && sameL runEq a.runs b.runs)))))
def inoDEq (a b : InoD) : Bool := inoEq a.x b.x
def staEq (a b : Sta) : Bool := decide (a.next = b.next) && (sameL inoEq a.inos b.inos && sameL intEq a.bad b.bad)
theorem inoEq_refl (a : Ino) : inoEq a a = true := by
  unfold inoEq
  rw [sameL_refl (fun x => by simp [entEq]), sameL_refl (fun x => by simp [runEq])]
  simp
theorem staEq_refl (a : Sta) : staEq a a = true := by
  unfold staEq
  rw [sameL_refl inoEq_refl, sameL_refl (fun x => by simp [intEq])]
  simp
theorem sameL_map {α β : Type} (q : β → β → Bool) (g : α → β) : ∀ a b : List α, sameL (fun x y => q (g x) (g y)) a b = sameL q (a.map g) (b.map g)
  | [], [] => rfl
  | [], _ :: _ => rfl
  | _ :: _, [] => rfl
  | x :: a, y :: b => by simp [sameL, sameL_map q g a b]
theorem inode_spec (M : Mem) (a b : InoD) (ha : DOk M a) (hb : DOk M b) (hk : InoOk a.x) : Spec Tryz.prog 62 [.agg (inoDL a).toArray, .agg (inoDL b).toArray] M [] (fun v _ H => v = .bool (inoEq a.x b.x) ∧ H = []) := by
  refine Spec.of_code 52 Tryz.func62 rfl callable62 rfl rfl fun w => ?_
  refine C.region_seq ?_
  refine G.dyn rfl rfl rfl ?_
  refine Dyn.boxAgg rfl ?_
  intro b2
  refine G.dyn rfl rfl rfl ?_
  refine Dyn.boxAgg rfl ?_
  intro b3
  refine G.value rfl rfl rfl (Sure.assign rfl) ?_
  refine G.nil ?_
  refine C.region_seq ?_
  refine G.value rfl rfl rfl (Sure.fieldAddr rfl) ?_
  refine G.value rfl rfl rfl (Sure.load rfl rdx rfl) ?_
  refine G.value rfl rfl rfl (Sure.fieldAddr rfl) ?_
  refine G.value rfl rfl rfl (Sure.load rfl rdx rfl) ?_
  rcases Decidable.em (a.x.no = b.x.no) with h0 | h0
  · refine G.value rfl rfl rfl ((Sure.eql rfl rfl).to_t h0) ?_
    refine G.value rfl rfl rfl (Sure.move rfl) ?_
    refine G.value rfl rfl rfl (Sure.fieldAddr rfl) ?_
    refine G.value rfl rfl rfl (Sure.load rfl rdx rfl) ?_
    refine G.value rfl rfl rfl (Sure.fieldAddr rfl) ?_
    refine G.value rfl rfl rfl (Sure.load rfl rdx rfl) ?_
    rcases Decidable.em (a.x.kind = b.x.kind) with h1 | h1
    · refine G.value rfl rfl rfl ((Sure.eql rfl rfl).to_t h1) ?_
      refine G.value rfl rfl rfl (Sure.pick_true rfl rfl) ?_
      refine G.value rfl rfl rfl (Sure.move rfl) ?_
      refine G.value rfl rfl rfl (Sure.fieldAddr rfl) ?_
      refine G.value rfl rfl rfl (Sure.load rfl rdx rfl) ?_
      refine G.value rfl rfl rfl (Sure.fieldAddr rfl) ?_
      refine G.value rfl rfl rfl (Sure.load rfl rdx rfl) ?_
      rcases Decidable.em (a.x.links = b.x.links) with h2 | h2
      · refine G.value rfl rfl rfl ((Sure.eql rfl rfl).to_t h2) ?_
        refine G.value rfl rfl rfl (Sure.pick_true rfl rfl) ?_
        refine G.value rfl rfl rfl (Sure.move rfl) ?_
        refine G.value rfl rfl rfl (Sure.fieldAddr rfl) ?_
        refine G.value rfl rfl rfl (Sure.load rfl rdx rfl) ?_
        refine G.value rfl rfl rfl (Sure.fieldAddr rfl) ?_
        refine G.value rfl rfl rfl (Sure.load rfl rdx rfl) ?_
        rcases Decidable.em (a.x.size = b.x.size) with h3 | h3
        · refine G.value rfl rfl rfl ((Sure.eql rfl rfl).to_t h3) ?_
          refine G.value rfl rfl rfl (Sure.pick_true rfl rfl) ?_
          refine G.value rfl rfl rfl (Sure.move rfl) ?_
          refine G.value rfl rfl rfl (Sure.fieldAddr rfl) ?_
          refine G.value rfl rfl rfl (Sure.load rfl rdx rfl) ?_
          refine G.value rfl rfl rfl (Sure.fieldAddr rfl) ?_
          refine G.value rfl rfl rfl (Sure.load rfl rdx rfl) ?_
          refine G.value rfl rfl rfl (Sure.str_eql rfl rfl) ?_
          cases h4 : (a.x.tgt.toList == b.x.tgt.toList) with
          | true =>
            refine G.value rfl rfl rfl (Sure.pick_true rfl rfl) ?_
            refine G.value rfl rfl rfl (Sure.move rfl) ?_
            refine G.value rfl rfl rfl (Sure.fieldAddr rfl) ?_
            refine G.value rfl rfl rfl (Sure.load rfl rdx rfl) ?_
            refine G.value rfl rfl rfl (Sure.fieldAddr rfl) ?_
            refine G.value rfl rfl rfl (Sure.load rfl rdx rfl) ?_
            refine G.call rfl rfl rfl rfl rfl rfl (plainEnt_spec M a.pe b.pe a.ce b.ce a.x.ents b.x.ents ha.1 hb.1 (by have := hk.1; omega)) (Split.nil) ?_
            rintro _ M1 _ le1 ⟨rfl, rfl⟩
            cases h5 : sameL entEq a.x.ents b.x.ents with
            | true =>
              refine G.value rfl rfl rfl (Sure.pick_true rfl rfl) ?_
              refine G.value rfl rfl rfl (Sure.move rfl) ?_
              refine G.value rfl rfl rfl (Sure.fieldAddr rfl) ?_
              refine G.value rfl rfl rfl (Sure.load rfl rdx rfl) ?_
              refine G.value rfl rfl rfl (Sure.fieldAddr rfl) ?_
              refine G.value rfl rfl rfl (Sure.load rfl rdx rfl) ?_
              refine G.call rfl rfl rfl rfl rfl rfl (plainRun_spec M1 a.pr b.pr a.cr b.cr a.x.runs b.x.runs (SlL.mono ha.2 le1) (SlL.mono hb.2 le1) (by have := hk.2; omega)) (Split.nil) ?_
              rintro _ M2 _ le2 ⟨rfl, rfl⟩
              refine G.value rfl rfl rfl (Sure.pick_true rfl rfl) ?_
              refine G.value rfl rfl rfl (Sure.assign rfl) ?_
              refine G.nil ?_
              refine C.ret ?_
              exact Fin.fn (Res.tmp rfl rfl) Split.nil ⟨by simp only [inoEq, h0, h1, h2, h3, h4, h5, decide_true, Bool.true_and], rfl⟩
            | false =>
              refine G.value rfl rfl rfl (Sure.pick_true rfl rfl) ?_
              refine G.value rfl rfl rfl (Sure.move rfl) ?_
              refine G.skip rfl rfl rfl ?_
              refine G.skip rfl rfl rfl ?_
              refine G.skip rfl rfl rfl ?_
              refine G.skip rfl rfl rfl ?_
              refine G.skip rfl rfl rfl ?_
              refine G.value rfl rfl rfl (Sure.pick_false rfl rfl) ?_
              refine G.value rfl rfl rfl (Sure.assign rfl) ?_
              refine G.nil ?_
              refine C.ret ?_
              exact Fin.fn (Res.tmp rfl rfl) Split.nil ⟨by simp only [inoEq, h0, h1, h2, h3, h4, h5, decide_true, Bool.true_and, Bool.false_and], rfl⟩
          | false =>
            refine G.value rfl rfl rfl (Sure.pick_true rfl rfl) ?_
            refine G.value rfl rfl rfl (Sure.move rfl) ?_
            refine G.skip rfl rfl rfl ?_
            refine G.skip rfl rfl rfl ?_
            refine G.skip rfl rfl rfl ?_
            refine G.skip rfl rfl rfl ?_
            refine G.skip rfl rfl rfl ?_
            refine G.value rfl rfl rfl (Sure.pick_false rfl rfl) ?_
            refine G.value rfl rfl rfl (Sure.move rfl) ?_
            refine G.skip rfl rfl rfl ?_
            refine G.skip rfl rfl rfl ?_
            refine G.skip rfl rfl rfl ?_
            refine G.skip rfl rfl rfl ?_
            refine G.skip rfl rfl rfl ?_
            refine G.value rfl rfl rfl (Sure.pick_false rfl rfl) ?_
            refine G.value rfl rfl rfl (Sure.assign rfl) ?_
            refine G.nil ?_
            refine C.ret ?_
            exact Fin.fn (Res.tmp rfl rfl) Split.nil ⟨by simp only [inoEq, h0, h1, h2, h3, h4, decide_true, Bool.true_and, Bool.false_and], rfl⟩
        · skip
          refine G.value rfl rfl rfl ((Sure.eql rfl rfl).to_f h3) ?_
          refine G.value rfl rfl rfl (Sure.pick_true rfl rfl) ?_
          refine G.value rfl rfl rfl (Sure.move rfl) ?_
          refine G.skip rfl rfl rfl ?_
          refine G.skip rfl rfl rfl ?_
          refine G.skip rfl rfl rfl ?_
          refine G.skip rfl rfl rfl ?_
          refine G.skip rfl rfl rfl ?_
          refine G.value rfl rfl rfl (Sure.pick_false rfl rfl) ?_
          refine G.value rfl rfl rfl (Sure.move rfl) ?_
          refine G.skip rfl rfl rfl ?_
          refine G.skip rfl rfl rfl ?_
          refine G.skip rfl rfl rfl ?_
          refine G.skip rfl rfl rfl ?_
          refine G.skip rfl rfl rfl ?_
          refine G.value rfl rfl rfl (Sure.pick_false rfl rfl) ?_
          refine G.value rfl rfl rfl (Sure.move rfl) ?_
          refine G.skip rfl rfl rfl ?_
          refine G.skip rfl rfl rfl ?_
          refine G.skip rfl rfl rfl ?_
          refine G.skip rfl rfl rfl ?_
          refine G.skip rfl rfl rfl ?_
          refine G.value rfl rfl rfl (Sure.pick_false rfl rfl) ?_
          refine G.value rfl rfl rfl (Sure.assign rfl) ?_
          refine G.nil ?_
          refine C.ret ?_
          exact Fin.fn (Res.tmp rfl rfl) Split.nil ⟨by simp [inoEq, h0, h1, h2, h3], rfl⟩
      · skip
        refine G.value rfl rfl rfl ((Sure.eql rfl rfl).to_f h2) ?_
        refine G.value rfl rfl rfl (Sure.pick_true rfl rfl) ?_
        refine G.value rfl rfl rfl (Sure.move rfl) ?_
        refine G.skip rfl rfl rfl ?_
        refine G.skip rfl rfl rfl ?_
        refine G.skip rfl rfl rfl ?_
        refine G.skip rfl rfl rfl ?_
        refine G.skip rfl rfl rfl ?_
        refine G.value rfl rfl rfl (Sure.pick_false rfl rfl) ?_
        refine G.value rfl rfl rfl (Sure.move rfl) ?_
        refine G.skip rfl rfl rfl ?_
        refine G.skip rfl rfl rfl ?_
        refine G.skip rfl rfl rfl ?_
        refine G.skip rfl rfl rfl ?_
        refine G.skip rfl rfl rfl ?_
        refine G.value rfl rfl rfl (Sure.pick_false rfl rfl) ?_
        refine G.value rfl rfl rfl (Sure.move rfl) ?_
        refine G.skip rfl rfl rfl ?_
        refine G.skip rfl rfl rfl ?_
        refine G.skip rfl rfl rfl ?_
        refine G.skip rfl rfl rfl ?_
        refine G.skip rfl rfl rfl ?_
        refine G.value rfl rfl rfl (Sure.pick_false rfl rfl) ?_
        refine G.value rfl rfl rfl (Sure.move rfl) ?_
        refine G.skip rfl rfl rfl ?_
        refine G.skip rfl rfl rfl ?_
        refine G.skip rfl rfl rfl ?_
        refine G.skip rfl rfl rfl ?_
        refine G.skip rfl rfl rfl ?_
        refine G.value rfl rfl rfl (Sure.pick_false rfl rfl) ?_
        refine G.value rfl rfl rfl (Sure.assign rfl) ?_
        refine G.nil ?_
        refine C.ret ?_
        exact Fin.fn (Res.tmp rfl rfl) Split.nil ⟨by simp [inoEq, h0, h1, h2], rfl⟩
    · skip
      refine G.value rfl rfl rfl ((Sure.eql rfl rfl).to_f h1) ?_
      refine G.value rfl rfl rfl (Sure.pick_true rfl rfl) ?_
      refine G.value rfl rfl rfl (Sure.move rfl) ?_
      refine G.skip rfl rfl rfl ?_
      refine G.skip rfl rfl rfl ?_
      refine G.skip rfl rfl rfl ?_
      refine G.skip rfl rfl rfl ?_
      refine G.skip rfl rfl rfl ?_
      refine G.value rfl rfl rfl (Sure.pick_false rfl rfl) ?_
      refine G.value rfl rfl rfl (Sure.move rfl) ?_
      refine G.skip rfl rfl rfl ?_
      refine G.skip rfl rfl rfl ?_
      refine G.skip rfl rfl rfl ?_
      refine G.skip rfl rfl rfl ?_
      refine G.skip rfl rfl rfl ?_
      refine G.value rfl rfl rfl (Sure.pick_false rfl rfl) ?_
      refine G.value rfl rfl rfl (Sure.move rfl) ?_
      refine G.skip rfl rfl rfl ?_
      refine G.skip rfl rfl rfl ?_
      refine G.skip rfl rfl rfl ?_
      refine G.skip rfl rfl rfl ?_
      refine G.skip rfl rfl rfl ?_
      refine G.value rfl rfl rfl (Sure.pick_false rfl rfl) ?_
      refine G.value rfl rfl rfl (Sure.move rfl) ?_
      refine G.skip rfl rfl rfl ?_
      refine G.skip rfl rfl rfl ?_
      refine G.skip rfl rfl rfl ?_
      refine G.skip rfl rfl rfl ?_
      refine G.skip rfl rfl rfl ?_
      refine G.value rfl rfl rfl (Sure.pick_false rfl rfl) ?_
      refine G.value rfl rfl rfl (Sure.move rfl) ?_
      refine G.skip rfl rfl rfl ?_
      refine G.skip rfl rfl rfl ?_
      refine G.skip rfl rfl rfl ?_
      refine G.skip rfl rfl rfl ?_
      refine G.skip rfl rfl rfl ?_
      refine G.value rfl rfl rfl (Sure.pick_false rfl rfl) ?_
      refine G.value rfl rfl rfl (Sure.assign rfl) ?_
      refine G.nil ?_
      refine C.ret ?_
      exact Fin.fn (Res.tmp rfl rfl) Split.nil ⟨by simp [inoEq, h0, h1], rfl⟩
  · skip
    refine G.value rfl rfl rfl ((Sure.eql rfl rfl).to_f h0) ?_
    refine G.value rfl rfl rfl (Sure.move rfl) ?_
    refine G.skip rfl rfl rfl ?_
    refine G.skip rfl rfl rfl ?_
    refine G.skip rfl rfl rfl ?_
    refine G.skip rfl rfl rfl ?_
    refine G.skip rfl rfl rfl ?_
    refine G.value rfl rfl rfl (Sure.pick_false rfl rfl) ?_
    refine G.value rfl rfl rfl (Sure.move rfl) ?_
    refine G.skip rfl rfl rfl ?_
    refine G.skip rfl rfl rfl ?_
    refine G.skip rfl rfl rfl ?_
    refine G.skip rfl rfl rfl ?_
    refine G.skip rfl rfl rfl ?_
    refine G.value rfl rfl rfl (Sure.pick_false rfl rfl) ?_
    refine G.value rfl rfl rfl (Sure.move rfl) ?_
    refine G.skip rfl rfl rfl ?_
    refine G.skip rfl rfl rfl ?_
    refine G.skip rfl rfl rfl ?_
    refine G.skip rfl rfl rfl ?_
    refine G.skip rfl rfl rfl ?_
    refine G.value rfl rfl rfl (Sure.pick_false rfl rfl) ?_
    refine G.value rfl rfl rfl (Sure.move rfl) ?_
    refine G.skip rfl rfl rfl ?_
    refine G.skip rfl rfl rfl ?_
    refine G.skip rfl rfl rfl ?_
    refine G.skip rfl rfl rfl ?_
    refine G.skip rfl rfl rfl ?_
    refine G.value rfl rfl rfl (Sure.pick_false rfl rfl) ?_
    refine G.value rfl rfl rfl (Sure.move rfl) ?_
    refine G.skip rfl rfl rfl ?_
    refine G.skip rfl rfl rfl ?_
    refine G.skip rfl rfl rfl ?_
    refine G.skip rfl rfl rfl ?_
    refine G.skip rfl rfl rfl ?_
    refine G.value rfl rfl rfl (Sure.pick_false rfl rfl) ?_
    refine G.value rfl rfl rfl (Sure.move rfl) ?_
    refine G.skip rfl rfl rfl ?_
    refine G.skip rfl rfl rfl ?_
    refine G.skip rfl rfl rfl ?_
    refine G.skip rfl rfl rfl ?_
    refine G.skip rfl rfl rfl ?_
    refine G.value rfl rfl rfl (Sure.pick_false rfl rfl) ?_
    refine G.value rfl rfl rfl (Sure.assign rfl) ?_
    refine G.nil ?_
    refine C.ret ?_
    exact Fin.fn (Res.tmp rfl rfl) Split.nil ⟨by simp [inoEq, h0], rfl⟩
theorem state_spec (M : Mem) (a b : StaD) (ha : SOk M a) (hb : SOk M b) (hk : StaOk a.v) : Spec Tryz.prog 19 [.agg (staDL a).toArray, .agg (staDL b).toArray] M [] (fun v _ H => v = .bool (staEq a.v b.v) ∧ H = []) := by
  have hl : a.inos.length ≤ 1000000 := by have := hk.1; simpa [StaD.v] using this
  have hlb : a.bad.length ≤ 1000000 := hk.2.1
  have hse : staEq a.v b.v = (decide (a.next = b.next) && (sameL inoDEq a.inos b.inos && sameL intEq a.bad b.bad)) := by
    have := sameL_map inoEq InoD.x a.inos b.inos
    unfold staEq StaD.v
    dsimp only
    rw [← this]
    rfl
  rw [hse]
  refine Spec.of_code 24 Tryz.func19 rfl callable19 rfl rfl fun w => ?_
  refine C.region_seq ?_
  refine G.dyn rfl rfl rfl ?_
  refine Dyn.boxAgg rfl ?_
  intro b2
  refine G.dyn rfl rfl rfl ?_
  refine Dyn.boxAgg rfl ?_
  intro b3
  refine G.value rfl rfl rfl (Sure.assign rfl) ?_
  refine G.nil ?_
  refine C.region_seq ?_
  refine G.value rfl rfl rfl (Sure.fieldAddr rfl) ?_
  refine G.value rfl rfl rfl (Sure.load rfl rdx rfl) ?_
  refine G.value rfl rfl rfl (Sure.fieldAddr rfl) ?_
  refine G.value rfl rfl rfl (Sure.load rfl rdx rfl) ?_
  rcases Decidable.em (a.next = b.next) with h0 | h0
  · refine G.value rfl rfl rfl ((Sure.eql rfl rfl).to_t h0) ?_
    refine G.value rfl rfl rfl (Sure.move rfl) ?_
    refine G.value rfl rfl rfl (Sure.fieldAddr rfl) ?_
    refine G.value rfl rfl rfl (Sure.load rfl rdx rfl) ?_
    refine G.value rfl rfl rfl (Sure.fieldAddr rfl) ?_
    refine G.value rfl rfl rfl (Sure.load rfl rdx rfl) ?_
    refine G.call rfl rfl rfl rfl rfl rfl (sameIno_spec M a.pi b.pi a.ci b.ci a.inos b.inos 62 inoDEq ha.1.1 hb.1.1 (by omega) (fun M' hle x hx y hy => inode_spec M' x y ((ha.1.2 x hx).mono hle) ((hb.1.2 y hy).mono hle) (hk.2.2 x.x (List.mem_map_of_mem hx)))) (Split.nil) ?_
    rintro _ M1 _ le1 ⟨rfl, rfl⟩
    cases h1 : sameL inoDEq a.inos b.inos with
    | true =>
      refine G.value rfl rfl rfl (Sure.pick_true rfl rfl) ?_
      refine G.value rfl rfl rfl (Sure.move rfl) ?_
      refine G.value rfl rfl rfl (Sure.fieldAddr rfl) ?_
      refine G.value rfl rfl rfl (Sure.load rfl rdx rfl) ?_
      refine G.value rfl rfl rfl (Sure.fieldAddr rfl) ?_
      refine G.value rfl rfl rfl (Sure.load rfl rdx rfl) ?_
      refine G.call rfl rfl rfl rfl rfl rfl (plainInt_spec M1 a.pb b.pb a.cb b.cb a.bad b.bad (ha.2.mono le1) (hb.2.mono le1) (by omega)) (Split.nil) ?_
      rintro _ M2 _ le2 ⟨rfl, rfl⟩
      refine G.value rfl rfl rfl (Sure.pick_true rfl rfl) ?_
      refine G.value rfl rfl rfl (Sure.assign rfl) ?_
      refine G.nil ?_
      refine C.ret ?_
      exact Fin.fn (Res.tmp rfl rfl) Split.nil ⟨by simp only [h0, decide_true, Bool.true_and], rfl⟩
    | false =>
      refine G.value rfl rfl rfl (Sure.pick_true rfl rfl) ?_
      refine G.value rfl rfl rfl (Sure.move rfl) ?_
      refine G.skip rfl rfl rfl ?_
      refine G.skip rfl rfl rfl ?_
      refine G.skip rfl rfl rfl ?_
      refine G.skip rfl rfl rfl ?_
      refine G.skip rfl rfl rfl ?_
      refine G.value rfl rfl rfl (Sure.pick_false rfl rfl) ?_
      refine G.value rfl rfl rfl (Sure.assign rfl) ?_
      refine G.nil ?_
      refine C.ret ?_
      exact Fin.fn (Res.tmp rfl rfl) Split.nil ⟨by simp only [h0, decide_true, Bool.true_and, Bool.false_and], rfl⟩
  · skip
    refine G.value rfl rfl rfl ((Sure.eql rfl rfl).to_f h0) ?_
    refine G.value rfl rfl rfl (Sure.move rfl) ?_
    refine G.skip rfl rfl rfl ?_
    refine G.skip rfl rfl rfl ?_
    refine G.skip rfl rfl rfl ?_
    refine G.skip rfl rfl rfl ?_
    refine G.skip rfl rfl rfl ?_
    refine G.value rfl rfl rfl (Sure.pick_false rfl rfl) ?_
    refine G.value rfl rfl rfl (Sure.move rfl) ?_
    refine G.skip rfl rfl rfl ?_
    refine G.skip rfl rfl rfl ?_
    refine G.skip rfl rfl rfl ?_
    refine G.skip rfl rfl rfl ?_
    refine G.skip rfl rfl rfl ?_
    refine G.value rfl rfl rfl (Sure.pick_false rfl rfl) ?_
    refine G.value rfl rfl rfl (Sure.assign rfl) ?_
    refine G.nil ?_
    refine C.ret ?_
    exact Fin.fn (Res.tmp rfl rfl) Split.nil ⟨by simp [h0], rfl⟩
theorem bytes_spec (M : Mem) (pa pb : Option Addr) (ca cb : Nat) (a b : List UInt8) (ha : SB M pa a) (hb : SB M pb b) : Spec Tryz.prog 28 [.slice pa a.length ca, .slice pb b.length cb] M [] (fun v _ H => v = .bool (decide (a = b)) ∧ H = []) := by
  refine Spec.of_code 10 Tryz.func28 rfl callable28 rfl rfl fun w => ?_
  refine C.region_seq ?_
  refine G.value rfl rfl rfl (Sure.assign rfl) ?_
  refine G.nil ?_
  refine C.region_seq ?_
  refine G.value rfl rfl rfl (Sure.move rfl) ?_
  refine G.value rfl rfl rfl (Sure.toStr rfl (Sl.heap ha)) ?_
  refine G.value rfl rfl rfl (Sure.move rfl) ?_
  refine G.value rfl rfl rfl (Sure.toStr rfl (Sl.heap hb)) ?_
  refine G.value rfl rfl rfl (Sure.str_eql rfl rfl) ?_
  refine G.value rfl rfl rfl (Sure.assign rfl) ?_
  refine G.nil ?_
  refine C.ret ?_
  refine Fin.fn (Res.tmp rfl rfl) Split.nil ⟨?_, rfl⟩
  congr 1
  rw [ByteArray.toList_eq, ByteArray.toList_eq]
  by_cases h : a = b <;> simp [h]
end Go.Proofs.YtaeeahcokiebdaaGreat

/-
  The walks of what fits, as the references have it, of new states, and of wide forms.
  Conditions: states are small.
-/
namespace Go.Proofs.YtaeeahcokiebdaaGreat
set_option maxRecDepth 20000

theorem refWhole_spec (M : Mem) (s : StaD) (hs : SOk M s) (hk : s.inos.length ≤ 2000000 ∧ s.bad.length ≤ 2000000) :
    Spec Tryz.prog 96 [.agg (staDL s).toArray] M [] (fun v M' H => RetDeeds (whole s.v) v M' H) := by
  refine Spec.of_code 43 Tryz.func96 rfl callable96 rfl rfl fun w => ?_
  refine C.region_seq ?_
  refine G.dyn rfl rfl rfl ?_
  refine Dyn.boxAgg rfl ?_
  intro b1
  refine G.value rfl rfl rfl (Sure.assign rfl) ?_
  refine G.nil ?_
  refine C.region_seq ?_
  refine G.value rfl rfl rfl (Sure.fieldAddr rfl) ?_
  refine G.value rfl rfl rfl (Sure.load rfl rdx rfl) ?_
  refine G.value rfl rfl rfl (Sure.build rfl rfl) ?_
  refine G.dyn rfl rfl rfl ?_
  refine Dyn.buildSlice rfl rfl rfl (by simp [vcl]) (by decide) ?_
  intro b9
  refine G.value rfl rfl rfl (Sure.assign rfl) ?_
  refine G.nil ?_
  refine C.seq ?_
  refine C.region_seq ?_
  refine G.value rfl rfl rfl (Sure.assign rfl) ?_
  refine G.nil ?_
  refine C.block ?_
  refine C.loop (fun k E M' H => ∃ (i : Nat) (v : Value) (dl : List DeedD) (Hs : Heap), MLe M M' ∧ i + k = s.inos.length ∧ dl.map DeedD.v = ⟨1, s.next, ino0⟩ :: ((s.inos.take i).map fun d => (⟨2, 0, d.x⟩ : Deed)) ∧ (∀ d ∈ dl, DOk M' d.d) ∧ Own 9 v dl.length (dl.map deedDL).flatten Hs ∧ E = [(1, ptr b1), (3, v), (4, intV i)] ∧ H = (b1, .cells (staDL s)) :: Hs) (s.inos.length) ?_ ?_
  · refine ⟨_, _, ⟨0, _, [⟨1, s.next, inoD0⟩], [(b9, .cells (deedDL ⟨1, s.next, inoD0⟩))], MLe.refl _, by omega, rfl, ?_, Own.mk (n := 1) (b := b9) (xs := deedDL ⟨1, s.next, inoD0⟩) rfl, rfl, rfl⟩, ⟨rfl, rfl, rfl, trivial⟩, [], Split.cons (.there .here) (Split.one .all)⟩
    intro d hd; rw [List.mem_singleton.1 hd]; exact dOk0 _
  · rintro k E M' H ⟨i, v, dl, Hs, hle, hik, hdl, hdo, hown, rfl, rfl⟩
    have hdn : dl.length = 1 + i := by have := congrArg List.length hdl; simp at this; omega
    refine C.seq ?_
    refine C.region_seq ?_
    refine G.value rfl rfl rfl (Sure.move rfl) ?_
    refine G.value rfl rfl rfl (Sure.fieldAddr rfl) ?_
    refine G.value rfl rfl rfl (Sure.load rfl rdx rfl) ?_
    refine G.value rfl rfl rfl (Sure.len_slice rfl) ?_
    refine G.value rfl rfl rfl (Sure.lss rfl rfl) ?_
    refine G.nil ?_
    refine C.cond_dec rfl (fun hlt => ?_) (fun hlt => ?_)
    · obtain ⟨y, hy⟩ : ∃ y, s.inos[i]? = some y := ⟨s.inos[i]'(by omega), List.getElem?_eq_getElem (by omega)⟩
      obtain ⟨q1, o1, c1, hq1, hrd1, hseg1⟩ := SlL.row (i := i) (e := inoDL y) ((SlL.mono hs.1.1 hle).heap (H := (b1, .cells (staDL s)) :: Hs)) (by rw [List.getElem?_map, hy]; rfl)
      refine C.skip ?_
      refine Fin.th ?_
      refine C.seq ?_
      refine C.block ?_
      refine C.region ?_
      refine G.value rfl rfl rfl (Sure.move rfl) ?_
      refine G.value rfl rfl rfl (Sure.fieldAddr rfl) ?_
      refine G.value rfl rfl rfl (Sure.load rfl rdx rfl) ?_
      refine G.value rfl rfl rfl (Sure.move rfl) ?_
      refine G.value rfl rfl rfl (Sure.indexAddr (congrArg (fun q => some (Value.slice q s.inos.length s.ci)) hq1) rfl (by omega)) ?_
      refine G.value rfl rfl rfl (Sure.loadAgg rfl hrd1 hseg1) ?_
      refine G.value rfl rfl rfl (Sure.build rfl rfl) ?_
      refine G.dyn rfl rfl rfl ?_
      refine Dyn.buildSlice rfl rfl rfl (by simp [vcl]) (by decide) ?_
      intro b24
      refine G.dyn rfl rfl rfl ?_
      refine Dyn.append (fun k h => by cases h) rfl rfl rfl hown (.there (.there .all)) (m := 1) (news := deedDL ⟨2, 0, y⟩) ⟨rfl, fun _ => ⟨b24, 0, _, rfl, Rd.h0, rfl⟩⟩ (allOne_deed _) (by omega) (by omega) ?_
      intro v2 Hs2 hown2
      refine G.value rfl rfl rfl (Sure.assign rfl) ?_
      refine G.nil ?_
      refine Fin.blk ?_
      refine Fin.th ?_
      refine C.region ?_
      refine G.value rfl rfl rfl (Sure.move rfl) ?_
      refine G.value rfl rfl rfl (Sure.add rfl rfl (inK64 (by omega))) ?_
      refine G.value rfl rfl rfl (Sure.assign rfl) ?_
      refine G.nil ?_
      refine Fin.th ?_
      have hfl : ((dl ++ [(⟨2, 0, y⟩ : DeedD)]).map deedDL).flatten = (dl.map deedDL).flatten ++ deedDL ⟨2, 0, y⟩ := by simp
      refine ⟨k - 1, _, _, by omega, ⟨i + 1, v2, dl ++ [⟨2, 0, y⟩], Hs2, hle, by omega, by rw [take_snoc hy]; simp [hdl, DeedD.v], ?_, ?_, rfl, rfl⟩, ⟨rfl, rfl, rfl, trivial⟩, _, Split.cons (.over (.there .here)) (Split.one .here)⟩
      · intro d hd
        rcases List.mem_append.1 hd with h | h
        · exact hdo d h
        · rw [List.mem_singleton.1 h]; exact (hs.1.2 y (List.mem_of_getElem? hy)).mono hle
      · rw [hfl, List.length_append]; exact hown2
    · rw [List.take_of_length_le (by omega)] at hdl
      have hdn2 : dl.length = 1 + s.inos.length := by omega
      clear hdn hlt hik
      refine C.exit ?_
      refine Fin.th_exit ?_
      refine Fin.th_exit ?_
      refine Fin.blk_eq ?_
      refine Fin.th ?_
      refine C.seq ?_
      refine C.region_seq ?_
      refine G.value rfl rfl rfl (Sure.assign rfl) ?_
      refine G.nil ?_
      refine C.block ?_
      refine C.loop (fun k E M2 H => ∃ (i : Nat) (v : Value) (dl : List DeedD) (Hs : Heap), MLe M' M2 ∧ i + k = s.bad.length ∧ dl.map DeedD.v = ⟨1, s.next, ino0⟩ :: (s.inos.map fun d => (⟨2, 0, d.x⟩ : Deed)) ++ (s.bad.take i).map (fun n => ⟨4, n, ino0⟩) ∧ (∀ d ∈ dl, DOk M2 d.d) ∧ Own 9 v dl.length (dl.map deedDL).flatten Hs ∧ E = [(1, ptr b1), (3, v), (5, intV i)] ∧ H = (b1, .cells (staDL s)) :: Hs) (s.bad.length) ?_ ?_
      · exact ⟨_, _, ⟨0, v, dl, Hs, MLe.refl _, by omega, by simpa using hdl, hdo, hown, rfl, rfl⟩, ⟨rfl, rfl, rfl, trivial⟩, [], Split.cons .here (Split.one .all)⟩
      · clear hdl hdo hown hdn2
        rintro k E M2 H ⟨i, v, dl, Hs, hle2, hik, hdl, hdo, hown, rfl, rfl⟩
        have hdn : dl.length = 1 + s.inos.length + i := by have := congrArg List.length hdl; simp at this; omega
        refine C.seq ?_
        refine C.region_seq ?_
        refine G.value rfl rfl rfl (Sure.move rfl) ?_
        refine G.value rfl rfl rfl (Sure.fieldAddr rfl) ?_
        refine G.value rfl rfl rfl (Sure.load rfl rdx rfl) ?_
        refine G.value rfl rfl rfl (Sure.len_slice rfl) ?_
        refine G.value rfl rfl rfl (Sure.lss rfl rfl) ?_
        refine G.nil ?_
        refine C.cond_dec rfl (fun hlt => ?_) (fun hlt => ?_)
        · obtain ⟨y, hy⟩ : ∃ y, s.bad[i]? = some y := ⟨s.bad[i]'(by omega), List.getElem?_eq_getElem (by omega)⟩
          obtain ⟨q1, o1, c1, hq1, hrd1, hcell1⟩ := Sl.cell (i := i) (v := intV y) (Sl.heap (H := (b1, .cells (staDL s)) :: Hs) (hs.2.mono (hle.trans hle2))) (by rw [List.getElem?_map, hy]; rfl)
          refine C.skip ?_
          refine Fin.th ?_
          refine C.seq ?_
          refine C.block ?_
          refine C.region ?_
          refine G.value rfl rfl rfl (Sure.move rfl) ?_
          refine G.value rfl rfl rfl (Sure.fieldAddr rfl) ?_
          refine G.value rfl rfl rfl (Sure.load rfl rdx rfl) ?_
          refine G.value rfl rfl rfl (Sure.move rfl) ?_
          refine G.value rfl rfl rfl (Sure.indexAddr (congrArg (fun q => some (Value.slice q s.bad.length s.cb)) hq1) rfl (by omega)) ?_
          refine G.value rfl rfl rfl (Sure.load rfl hrd1 hcell1) ?_
          refine G.value rfl rfl rfl (Sure.build rfl rfl) ?_
          refine G.dyn rfl rfl rfl ?_
          refine Dyn.buildSlice rfl rfl rfl (by simp [vcl]) (by decide) ?_
          intro b40
          refine G.dyn rfl rfl rfl ?_
          refine Dyn.append (fun k h => by cases h) rfl rfl rfl hown (.there (.there .all)) (m := 1) (news := deedDL ⟨4, y, inoD0⟩) ⟨rfl, fun _ => ⟨b40, 0, _, rfl, Rd.h0, rfl⟩⟩ (allOne_deed _) (by omega) (by omega) ?_
          intro v2 Hs2 hown2
          refine G.value rfl rfl rfl (Sure.assign rfl) ?_
          refine G.nil ?_
          refine Fin.blk ?_
          refine Fin.th ?_
          refine C.region ?_
          refine G.value rfl rfl rfl (Sure.move rfl) ?_
          refine G.value rfl rfl rfl (Sure.add rfl rfl (inK64 (by omega))) ?_
          refine G.value rfl rfl rfl (Sure.assign rfl) ?_
          refine G.nil ?_
          refine Fin.th ?_
          have hfl : ((dl ++ [(⟨4, y, inoD0⟩ : DeedD)]).map deedDL).flatten = (dl.map deedDL).flatten ++ deedDL ⟨4, y, inoD0⟩ := by simp
          refine ⟨k - 1, _, _, by omega, ⟨i + 1, v2, dl ++ [⟨4, y, inoD0⟩], Hs2, hle2, by omega, by rw [take_snoc hy]; simp [hdl, DeedD.v, inoD0], ?_, ?_, rfl, rfl⟩, ⟨rfl, rfl, rfl, trivial⟩, _, Split.cons (.over (.there .here)) (Split.one .here)⟩
          · intro d hd
            rcases List.mem_append.1 hd with h | h
            · exact hdo d h
            · rw [List.mem_singleton.1 h]; exact dOk0 _
          · rw [hfl, List.length_append]; exact hown2
        · rw [List.take_of_length_le (by omega)] at hdl
          refine C.exit ?_
          refine Fin.th_exit ?_
          refine Fin.th_exit ?_
          refine Fin.blk_eq ?_
          refine Fin.th ?_
          refine C.region_seq ?_
          refine G.value rfl rfl rfl (Sure.move rfl) ?_
          refine G.value rfl rfl rfl (Sure.assign rfl) ?_
          refine G.nil ?_
          refine C.donateOwn hown (.there .all) ?_
          rintro M3 p3 cap3 le3 rfl hs3
          refine C.ret ?_
          refine Fin.fn (Res.tmp rfl rfl) Split.nil ⟨rfl, dl, p3, cap3, rfl, ⟨⟨?_, ?_⟩, fun d hd => (hdo d hd).mono le3⟩, ?_⟩
          · intro e he; obtain ⟨x, _, rfl⟩ := List.mem_map.1 he; rfl
          · rw [List.length_map]; exact hs3
          · simp [hdl, whole, StaD.v]
theorem refRight_spec (M : Mem) (g : Geo) (h : GeoOk g) : Spec Tryz.prog 57 [geoV g] M [] (fun v _ H => v = .bool true ∧ H = []) := by
  have he := h.even
  have hs := h.s
  have hz := h.z
  have hb := h.b
  have hp := h.p
  have hy := h.y
  refine Spec.of_code 57 Tryz.func57 rfl callable57 rfl rfl fun w => ?_
  refine C.region_seq ?_
  refine G.dyn rfl rfl rfl ?_
  refine Dyn.boxAgg rfl ?_
  intro b1
  refine G.value rfl rfl rfl (Sure.assign rfl) ?_
  refine G.nil ?_
  refine C.region_seq ?_
  refine G.value rfl rfl rfl (Sure.fieldAddr rfl) ?_
  refine G.value rfl rfl rfl (Sure.load rfl rdx rfl) ?_
  refine G.value rfl rfl rfl ((Sure.geq rfl rfl).to_t (by omega)) ?_
  refine G.value rfl rfl rfl (Sure.move rfl) ?_
  refine G.value rfl rfl rfl (Sure.fieldAddr rfl) ?_
  refine G.value rfl rfl rfl (Sure.load rfl rdx rfl) ?_
  refine G.value rfl rfl rfl ((Sure.leq rfl rfl).to_t (by omega)) ?_
  refine G.value rfl rfl rfl (Sure.pick_true rfl rfl) ?_
  refine G.value rfl rfl rfl (Sure.move rfl) ?_
  refine G.value rfl rfl rfl (Sure.fieldAddr rfl) ?_
  refine G.value rfl rfl rfl (Sure.load rfl rdx rfl) ?_
  refine G.value rfl rfl rfl (Sure.rem rfl rfl (by omega) (by decide)) ?_
  refine G.value rfl rfl rfl ((Sure.eql rfl rfl).to_t he) ?_
  refine G.value rfl rfl rfl (Sure.pick_true rfl rfl) ?_
  refine G.value rfl rfl rfl (Sure.move rfl) ?_
  refine G.value rfl rfl rfl (Sure.fieldAddr rfl) ?_
  refine G.value rfl rfl rfl (Sure.load rfl rdx rfl) ?_
  refine G.value rfl rfl rfl ((Sure.geq rfl rfl).to_t (by omega)) ?_
  refine G.value rfl rfl rfl (Sure.pick_true rfl rfl) ?_
  refine G.value rfl rfl rfl (Sure.move rfl) ?_
  refine G.value rfl rfl rfl (Sure.fieldAddr rfl) ?_
  refine G.value rfl rfl rfl (Sure.load rfl rdx rfl) ?_
  refine G.value rfl rfl rfl ((Sure.leq rfl rfl).to_t (by omega)) ?_
  refine G.value rfl rfl rfl (Sure.pick_true rfl rfl) ?_
  refine G.value rfl rfl rfl (Sure.move rfl) ?_
  refine G.value rfl rfl rfl (Sure.fieldAddr rfl) ?_
  refine G.value rfl rfl rfl (Sure.load rfl rdx rfl) ?_
  refine G.value rfl rfl rfl ((Sure.geq rfl rfl).to_t (by omega)) ?_
  refine G.value rfl rfl rfl (Sure.pick_true rfl rfl) ?_
  refine G.value rfl rfl rfl (Sure.move rfl) ?_
  refine G.value rfl rfl rfl (Sure.fieldAddr rfl) ?_
  refine G.value rfl rfl rfl (Sure.load rfl rdx rfl) ?_
  refine G.value rfl rfl rfl ((Sure.leq rfl rfl).to_t (by omega)) ?_
  refine G.value rfl rfl rfl (Sure.pick_true rfl rfl) ?_
  refine G.value rfl rfl rfl (Sure.move rfl) ?_
  refine G.value rfl rfl rfl (Sure.fieldAddr rfl) ?_
  refine G.value rfl rfl rfl (Sure.load rfl rdx rfl) ?_
  refine G.value rfl rfl rfl ((Sure.geq rfl rfl).to_t (by omega)) ?_
  refine G.value rfl rfl rfl (Sure.pick_true rfl rfl) ?_
  refine G.value rfl rfl rfl (Sure.move rfl) ?_
  refine G.value rfl rfl rfl (Sure.fieldAddr rfl) ?_
  refine G.value rfl rfl rfl (Sure.load rfl rdx rfl) ?_
  refine G.value rfl rfl rfl ((Sure.leq rfl rfl).to_t (by omega)) ?_
  refine G.value rfl rfl rfl (Sure.pick_true rfl rfl) ?_
  refine G.value rfl rfl rfl (Sure.move rfl) ?_
  refine G.value rfl rfl rfl (Sure.fieldAddr rfl) ?_
  refine G.value rfl rfl rfl (Sure.load rfl rdx rfl) ?_
  refine G.value rfl rfl rfl ((Sure.geq rfl rfl).to_t (by omega)) ?_
  refine G.value rfl rfl rfl (Sure.pick_true rfl rfl) ?_
  refine G.value rfl rfl rfl (Sure.move rfl) ?_
  refine G.value rfl rfl rfl (Sure.fieldAddr rfl) ?_
  refine G.value rfl rfl rfl (Sure.load rfl rdx rfl) ?_
  refine G.value rfl rfl rfl ((Sure.leq rfl rfl).to_t (by omega)) ?_
  refine G.value rfl rfl rfl (Sure.pick_true rfl rfl) ?_
  refine G.value rfl rfl rfl (Sure.assign rfl) ?_
  refine G.nil ?_
  refine C.ret ?_
  exact Fin.fn (Res.tmp rfl rfl) Split.nil ⟨rfl, rfl⟩
theorem refHalf_spec (M : Mem) (g : Geo) (h : GeoOk g) : Spec Tryz.prog 58 [geoV g] M [] (fun v _ H => v = intV (hsz g) ∧ H = []) := by
  obtain ⟨hz, hz1, hz2, hz3⟩ := hsz_int h
  have hs := h.s
  have he := h.even
  refine Spec.of_code 12 Tryz.func58 rfl callable58 rfl rfl fun w => ?_
  refine C.region_seq ?_
  refine G.dyn rfl rfl rfl ?_
  refine Dyn.boxAgg rfl ?_
  intro b1
  refine G.value rfl rfl rfl (Sure.assign rfl) ?_
  refine G.nil ?_
  refine C.seq ?_
  refine C.region_seq ?_
  refine G.value rfl rfl rfl (Sure.loadAgg rfl rdx rfl) ?_
  refine G.call rfl rfl rfl rfl rfl rfl (refRight_spec M g h) (Split.nil) ?_
  rintro _ M1 _ le1 ⟨rfl, rfl⟩
  refine G.value rfl rfl rfl (Sure.not rfl) ?_
  refine G.nil ?_
  refine C.cond_false rfl ?_
  refine C.skip ?_
  refine Fin.th ?_
  refine C.region_seq ?_
  refine G.value rfl rfl rfl (Sure.fieldAddr rfl) ?_
  refine G.value rfl rfl rfl (Sure.load rfl rdx rfl) ?_
  refine G.value rfl rfl rfl (Sure.quo rfl rfl (by omega) (by decide) (inK64 (by omega))) ?_
  refine G.value rfl rfl rfl (Sure.fieldAddr rfl) ?_
  refine G.value rfl rfl rfl (Sure.load rfl rdx rfl) ?_
  refine G.value rfl rfl rfl (Sure.mul rfl rfl (inK64 (by have : halfSize g = g.sectors / 2 * g.sector := rfl; omega))) ?_
  refine G.value rfl rfl rfl (Sure.assign rfl) ?_
  refine G.nil ?_
  refine C.ret ?_
  refine Fin.fn (Res.tmp rfl rfl) Split.nil ⟨?_, rfl⟩
  rw [hz]
theorem refFirst_spec (M : Mem) (epoch : Int) (s : StaD) (hs : SOk M s) (hk : s.inos.length ≤ 2000000 ∧ s.bad.length ≤ 2000000) (hb : (deedsB (whole s.v)).length ≤ 10000000) :
    Spec Tryz.prog 56 [intV epoch, .agg (staDL s).toArray] M [] (fun v _ H => OwnB (firstB epoch s.v) v H) := by
  have hw := u64_wrap_bd epoch
  have hfin : ∀ (v : Value) (H : Heap) (m : Nat), m = (deedsB (whole s.v)).length → Own 1 v ((intB epoch).length + m) (bytesV (intB epoch) ++ bytesV (deedsB (whole s.v))) H → OwnB (firstB epoch s.v) v H := by
    intro v H m hm h
    subst hm
    unfold OwnB firstB
    rw [List.length_append, show bytesV (intB epoch ++ deedsB (whole s.v)) = bytesV (intB epoch) ++ bytesV (deedsB (whole s.v)) from by simp [bytesV]]
    exact h
  have hput := refPut_spec M Option.none 0 [] (IntKind.u64.wrap epoch).toNat 8 (sb_nil M) (by decide) (by omega) (by decide)
  refine Spec.of_code 12 Tryz.func56 rfl callable56 rfl rfl fun w => ?_
  refine C.region_seq ?_
  refine G.dyn rfl rfl rfl ?_
  refine Dyn.boxAgg rfl ?_
  intro b3
  refine G.value rfl rfl rfl (Sure.assign rfl) ?_
  refine G.nil ?_
  -- draws its order
  refine C.draw_seq ([(b3, .cells (staDL s))]) mixed (by kernel_rfl) (Incl.refl _) ?_
  refine GD.val 0 rfl rfl rfl rfl (by kernel_rfl) rfl (Sure.move rfl) ?_
  refine GD.val 1 rfl rfl rfl rfl (by kernel_rfl) rfl (Sure.conv' rfl) ?_
  rw [show IntKind.u64.wrap epoch = ((IntKind.u64.wrap epoch).toNat : Int) from by omega]
  refine GD.val 3 rfl rfl rfl rfl (by kernel_rfl) rfl (Sure.loadAgg rfl rdx rfl) ?_
  refine GD.one 2 (by kernel_rfl) rfl rfl (by kernel_rfl) ?_
  refine Next.call 2 rfl rfl rfl (by kernel_rfl) (by kernel_rfl) rfl rfl rfl rfl (hput) (Split.nil) ?_
  rintro v7 M2 H2 le2 hown7
  refine ⟨(by intro q hq; exact List.mem_append.2 (.inr hq)), ?_⟩
  refine GD.one 4 (by kernel_rfl) rfl rfl (by kernel_rfl) ?_
  refine Next.call 4 rfl rfl rfl (by kernel_rfl) (by kernel_rfl) rfl rfl rfl rfl (refWhole_spec M2 s (hs.mono le2) hk) (Split.nil) ?_
  rintro _ M3 _ le3 ⟨rfl, dl, p, cap, rfl, hrd, hdv⟩
  refine ⟨(by intro q hq; exact List.mem_append.2 (.inr (List.mem_append.2 (.inr hq)))), ?_⟩
  have hpk := refPack_spec M3 p cap dl hrd (by rw [hdv]; exact hb)
  rw [hdv] at hpk
  refine GD.one 5 (by kernel_rfl) rfl rfl (by kernel_rfl) ?_
  refine Next.call 5 rfl rfl rfl (by kernel_rfl) (by kernel_rfl) rfl rfl rfl rfl (hpk) (Split.nil) ?_
  rintro v9 M4 H9 le4 hown9
  refine ⟨(by intro q hq; exact List.mem_append.2 (.inr (List.mem_append.2 (.inr (List.mem_append.2 (.inr hq)))))), ?_⟩
  refine GD.donateOwn hown9 .here (by intro q hq; exact List.mem_append.2 (.inr (List.mem_append.2 (.inr hq)))) ?_
  rintro M5 p9 c9 le5 rfl hs9
  refine GD.one 6 (by kernel_rfl) rfl rfl (by kernel_rfl) ?_
  refine Next.dyn 6 rfl rfl rfl (by kernel_rfl) (by kernel_rfl) rfl ?_
  refine Dyn.append (fun k h => by cases h) rfl rfl rfl hown7 (.over .here) (Sl.heap hs9) (allOne_bytes _) (by simp; omega) (by simp; omega) ?_
  intro v10 Hs10 hown10
  refine ⟨MLe.refl _, (by intro q hq; simp at hq ⊢; exact .inr hq), ?_⟩
  refine GD.one 7 (by kernel_rfl) rfl rfl (by kernel_rfl) ?_
  refine Next.dyn 7 rfl rfl rfl (by kernel_rfl) (by kernel_rfl) rfl (Dyn.assign rfl ?_)
  refine ⟨MLe.refl _, incx, ?_⟩
  refine GD.done (by kernel_rfl) (by kernel_rfl) ?_
  refine C.ret ?_
  exact Fin.fn (Res.tmp rfl rfl) (Split.one .here) (hfin v10 Hs10 _ rfl hown10)
theorem refFits_spec (M : Mem) (s : StaD) (g : Geo) (p : Option Addr) (cap : Nat) (dl : List DeedD) (hs : SOkC M s) (hg : GeoOk g) (hk : s.inos.length ≤ 1000000 ∧ s.bad.length ≤ 1000000) (hd : RDeeds M p dl) (hl : dl.length ≤ 100000)
    (hb : (deedsB (whole (applyL s.v (dl.map DeedD.v)))).length ≤ 10000000) :
    Spec Tryz.prog 17 [.agg (staDL s).toArray, geoV g, .slice p dl.length cap] M [] (fun v _ H => v = .bool (decide ((firstB 1 (applyL s.v (dl.map DeedD.v))).length + 7 ≤ hsz g)) ∧ H = []) := by
  obtain ⟨hz, hz1, hz2, hz3⟩ := hsz_int hg
  refine Spec.of_code 26 Tryz.func17 rfl callable17 rfl rfl fun w => ?_
  refine C.region_seq ?_
  refine G.dyn rfl rfl rfl ?_
  refine Dyn.boxAgg rfl ?_
  intro b3
  refine G.dyn rfl rfl rfl ?_
  refine Dyn.boxAgg rfl ?_
  intro b4
  refine G.value rfl rfl rfl (Sure.assign rfl) ?_
  refine G.nil ?_
  refine C.region_seq ?_
  refine G.value rfl rfl rfl (Sure.loadAgg rfl rdx rfl) ?_
  refine G.value rfl rfl rfl (Sure.move rfl) ?_
  refine G.call rfl rfl rfl rfl rfl rfl (refApply_spec M s p cap dl hs hk hd hl) (Split.nil) ?_
  rintro _ M1 _ le1 ⟨rfl, s2, hs2, rfl, hso2⟩
  rw [← hs2] at hb ⊢
  have hwl := whole_len s2.v
  have hbd : s2.inos.length ≤ 2000000 ∧ s2.bad.length ≤ 2000000 := by
    have h1 : ∀ l : List Ino, 45 * l.length ≤ wSum l := by
      intro l
      induction l with
      | nil => simp
      | cons x l ih =>
        have h2 := deedB_len ⟨2, 0, x⟩
        dsimp only at h2
        rw [if_neg (by decide), if_pos rfl] at h2
        have h3 : 44 ≤ (inoB x).length := by simp [inoB, intsB_len]; omega
        have h4 : wSum (x :: l) = (deedB ⟨2, 0, x⟩).length + wSum l := by simp [wSum]
        simp
        omega
    have h2 := h1 s2.v.inos
    have h3 : s2.v.inos.length = s2.inos.length := by simp [StaD.v]
    have h4 : s2.v.bad = s2.bad := rfl
    unfold wN at hwl
    rw [h4] at hwl
    omega
  refine G.call rfl rfl rfl rfl rfl rfl (refFirst_spec M1 1 s2 hso2.1 hbd hb) (Split.nil) ?_
  rintro v2 M2 H2 le2 hown2
  refine G.donateOwn hown2 .here ?_
  rintro M2 p2 c2 le2' rfl _
  have hfl : (firstB 1 s2.v).length = 8 + (deedsB (whole s2.v)).length := by unfold firstB; rw [List.length_append, intB_len]
  refine G.value rfl rfl rfl (Sure.len_slice rfl) ?_
  refine G.value rfl rfl rfl (Sure.assign rfl) ?_
  refine G.nil ?_
  refine C.region_seq ?_
  refine G.value rfl rfl rfl (Sure.loadAgg rfl rdx rfl) ?_
  refine G.call rfl rfl rfl rfl rfl rfl (refRight_spec M2 g hg) (Split.nil) ?_
  rintro _ M3 _ le3 ⟨rfl, rfl⟩
  refine G.value rfl rfl rfl (Sure.move rfl) ?_
  refine G.value rfl rfl rfl (Sure.move rfl) ?_
  rcases Nat.lt_or_ge 65000 (firstB 1 s2.v).length with hbig | hbig
  · rw [decide_eq_false (show ¬ (firstB 1 s2.v).length + 7 ≤ hsz g by omega)]
    refine G.value rfl rfl rfl ((Sure.leq rfl rfl).to_f (by omega)) ?_
    refine G.value rfl rfl rfl (Sure.pick_true rfl rfl) ?_
    refine G.value rfl rfl rfl (Sure.move rfl) ?_
    refine G.skip rfl rfl rfl ?_
    refine G.skip rfl rfl rfl ?_
    refine G.skip rfl rfl rfl ?_
    refine G.skip rfl rfl rfl ?_
    refine G.skip rfl rfl rfl ?_
    refine G.value rfl rfl rfl (Sure.pick_false rfl rfl) ?_
    refine G.value rfl rfl rfl (Sure.assign rfl) ?_
    refine G.nil ?_
    refine C.ret ?_
    exact Fin.fn (Res.tmp rfl rfl) Split.nil ⟨rfl, rfl⟩
  · skip
    refine G.value rfl rfl rfl ((Sure.leq rfl rfl).to_t (by omega)) ?_
    refine G.value rfl rfl rfl (Sure.pick_true rfl rfl) ?_
    refine G.value rfl rfl rfl (Sure.move rfl) ?_
    refine G.value rfl rfl rfl (Sure.move rfl) ?_
    refine G.value rfl rfl rfl (Sure.add rfl rfl (inK64 (by omega))) ?_
    refine G.value rfl rfl rfl (Sure.loadAgg rfl rdx rfl) ?_
    refine G.call rfl rfl rfl rfl rfl rfl (refHalf_spec M3 g hg) (Split.nil) ?_
    rintro _ M4 _ le4 ⟨rfl, rfl⟩
    rw [show decide ((firstB 1 s2.v).length + 7 ≤ hsz g) = decide (((firstB 1 s2.v).length : Int) + 7 ≤ (hsz g : Int)) from decide_eq_decide.2 (by omega)]
    refine G.value rfl rfl rfl (Sure.leq rfl rfl) ?_
    refine G.value rfl rfl rfl (Sure.pick_true rfl rfl) ?_
    refine G.value rfl rfl rfl (Sure.assign rfl) ?_
    refine G.nil ?_
    refine C.ret ?_
    exact Fin.fn (Res.tmp rfl rfl) Split.nil ⟨rfl, rfl⟩
theorem refInode_spec (M : Mem) : Spec Tryz.prog 51 [intV 1, intV 2, .string ⟨#[]⟩] M [] (fun v _ H => v = .agg (inoDL inoRD).toArray ∧ H = []) := by
  refine Spec.of_code 22 Tryz.func51 rfl callable51 rfl rfl fun w => ?_
  refine C.region_seq ?_
  refine G.dyn rfl rfl rfl ?_
  refine Dyn.allocAgg ?_
  intro b6
  refine G.nil ?_
  refine C.region_seq ?_
  refine G.value rfl rfl rfl (Sure.move rfl) ?_
  refine G.value rfl rfl rfl (Sure.move rfl) ?_
  refine G.value rfl rfl rfl (Sure.build rfl rfl) ?_
  refine G.dyn rfl rfl rfl ?_
  refine Dyn.allocAgg ?_
  intro b7
  refine G.dyn0 rfl rfl ?_
  refine Dyn.storeAgg rfl rfl pkx rfl rfl rfl ?_
  refine G.nil ?_
  refine C.seq ?_
  refine C.region_seq ?_
  refine G.value rfl rfl rfl (Sure.move rfl) ?_
  refine G.value rfl rfl rfl ((Sure.eql rfl rfl).to_t (by decide)) ?_
  refine G.nil ?_
  refine C.cond_true rfl ?_
  refine C.region ?_
  refine G.value rfl rfl rfl (Sure.fieldAddr rfl) ?_
  refine G.dyn0 rfl rfl ?_
  refine Dyn.store rfl rfl pkx rfl rfl ?_
  refine G.nil ?_
  refine Fin.th ?_
  refine C.seq ?_
  refine C.region_seq ?_
  refine G.value rfl rfl rfl (Sure.move rfl) ?_
  refine G.value rfl rfl rfl ((Sure.eql rfl rfl).to_f (by decide)) ?_
  refine G.nil ?_
  refine C.cond_false rfl ?_
  refine C.skip ?_
  refine Fin.th ?_
  refine C.region_seq ?_
  refine G.value rfl rfl rfl (Sure.loadAgg rfl rdx rfl) ?_
  refine G.dyn0 rfl rfl ?_
  refine Dyn.storeAgg rfl rfl pkx rfl rfl rfl ?_
  refine G.nil ?_
  refine C.ret ?_
  exact Fin.fn (Res.cellAgg rfl rfl rdx rfl) Split.nil ⟨rfl, rfl⟩
theorem refStateC_spec (M : Mem) : Spec Tryz.prog 15 [] M [] (fun v M' H => RetStaC staR v M' H) := by
  refine Spec.of_code 4 Tryz.func15 rfl callable15 rfl rfl fun w => ?_
  refine C.region_seq ?_
  refine G.dyn rfl rfl rfl ?_
  refine Dyn.allocAgg ?_
  intro b0
  refine G.nil ?_
  refine C.region_seq ?_
  refine G.call rfl rfl rfl rfl rfl rfl (refInode_spec M) (Split.nil) ?_
  rintro _ M1 _ le1 ⟨rfl, rfl⟩
  refine G.dyn rfl rfl rfl ?_
  refine Dyn.buildSlice rfl rfl rfl (by simp [vcl]) (by decide) ?_
  intro b2
  refine G.donate fun M2 le2 hM2 => ?_
  refine G.value rfl rfl rfl (Sure.build rfl rfl) ?_
  refine G.dyn0 rfl rfl ?_
  refine Dyn.storeAgg rfl rfl pkx rfl rfl rfl ?_
  refine G.nil ?_
  refine C.ret ?_
  refine Fin.fn (Res.cellAgg rfl rfl rdx rfl) Split.nil ⟨rfl, ⟨2, [inoRD], some ⟨b2, 0, Option.none⟩, 1, [], Option.none, 0⟩, rfl, rfl, ⟨⟨⟨⟨?_, ?_⟩, ?_⟩, Sl.empty⟩, Nat.le_refl 1, Nat.zero_le _⟩⟩
  · intro e he; simp at he; subst he; rfl
  · exact ⟨rfl, fun _ => ⟨b2, 0, _, rfl, Rd.m hM2, rfl⟩⟩
  · intro d hd; simp at hd; subst hd; exact ⟨⟨by simp [inoR], Sl.empty⟩, ⟨by simp [inoR], Sl.empty⟩⟩
def geoW : Geo := ⟨8, 2048, 12, 8, 32⟩
theorem geoW_ok : GeoOk geoW := ⟨by decide, by decide, by decide, by decide, by decide, by decide⟩
theorem wide_spec (M : Mem) : Spec Tryz.prog 22 [] M [] (fun v _ H => v = geoV geoW ∧ H = []) := by
  refine Spec.of_code 2 Tryz.func22 rfl callable22 rfl rfl fun w => ?_
  refine C.region_seq ?_
  refine G.dyn rfl rfl rfl ?_
  refine Dyn.allocAgg ?_
  intro b0
  refine G.nil ?_
  refine C.region_seq ?_
  refine G.value rfl rfl rfl (Sure.build rfl rfl) ?_
  refine G.dyn0 rfl rfl ?_
  refine Dyn.storeAgg rfl rfl pkx rfl rfl rfl ?_
  refine G.nil ?_
  refine C.ret ?_
  exact Fin.fn (Res.cellAgg rfl rfl rdx rfl) Split.nil ⟨rfl, rfl⟩
end Go.Proofs.YtaeeahcokiebdaaGreat

/-
  Journals whose power does not fall: the walks of committing, opening and formatting, in short; what the laws ask first.
-/
namespace Go.Proofs.YtaeeahcokiebdaaGreat
set_option maxRecDepth 20000

theorem wSum_mem : ∀ {l : List Ino} {x : Ino}, x ∈ l → (deedB ⟨2, 0, x⟩).length ≤ wSum l
  | y :: l, x, h => by
    have e : wSum (y :: l) = (deedB ⟨2, 0, y⟩).length + wSum l := by simp [wSum]
    rcases List.mem_cons.1 h with rfl | h
    · omega
    · have := wSum_mem h; omega
theorem ino_small (x : Ino) : 45 + 12 * x.ents.length + 24 * x.runs.length ≤ (deedB ⟨2, 0, x⟩).length := by
  have h2 := deedB_len ⟨2, 0, x⟩
  dsimp only at h2
  rw [if_neg (by decide), if_pos rfl] at h2
  have he : ∀ l : List Entry, 12 * l.length ≤ (l.map entB).flatten.length := by
    intro l
    induction l with
    | nil => simp
    | cons e l ih =>
      have := entB_len e
      rw [List.map_cons, List.flatten_cons, List.length_append, List.length_cons]
      omega
  have hr : ∀ l : List Run, 24 * l.length ≤ (l.map runB).flatten.length := by
    intro l
    induction l with
    | nil => simp
    | cons e l ih =>
      have := runB_len e
      rw [List.map_cons, List.flatten_cons, List.length_append, List.length_cons]
      omega
  have h3 : (inoB x).length = 32 + (4 + x.tgt.size) + 4 + (x.ents.map entB).flatten.length + 4 + (x.runs.map runB).flatten.length := by
    unfold inoB
    simp only [List.length_append, intsB_len, le_len, txtB_len, List.length_cons, List.length_nil]
  have := he x.ents
  have := hr x.runs
  omega
theorem wSum_count : ∀ l : List Ino, 45 * l.length ≤ wSum l
  | [] => by simp
  | x :: l => by
    have := wSum_count l
    have := ino_small x
    have e : wSum (x :: l) = (deedB ⟨2, 0, x⟩).length + wSum l := by simp [wSum]
    rw [List.length_cons]
    omega
theorem staOk_small {s : Sta} (h : wN s ≤ 1000000) : StaOk s := by
  unfold wN at h
  have := wSum_count s.inos
  refine ⟨by omega, by omega, fun x hx => ?_⟩
  have h1 := wSum_mem hx
  have h2 := ino_small x
  exact ⟨by omega, by omega⟩
theorem deeds_mem : ∀ {l : List Deed} {d : Deed}, d ∈ l → (deedB d).length ≤ (deedsB l).length
  | e :: l, d, h => by
    have h3 : (deedsB (e :: l)).length = (deedB e).length + (deedsB l).length := by simp [deedsB]
    rcases List.mem_cons.1 h with rfl | h
    · omega
    · have := deeds_mem h; omega
theorem canon_ok {d : Deed} (hc : Canon d) (hl : (deedB d).length ≤ 1000000) : InoOk d.ino := by
  rcases hc with ⟨_, _, h⟩ | ⟨hk, hn, _⟩
  · rw [h]; exact ⟨by simp [ino0], by simp [ino0]⟩
  · have h2 := ino_small d.ino
    have h3 : (deedB d).length = (deedB ⟨2, 0, d.ino⟩).length := by
      obtain ⟨k, n, x⟩ := d
      dsimp only at hk hn ⊢
      rw [hk, hn]
    exact ⟨by omega, by omega⟩
/-- A journal in use, on a chip whose power does not fall. -/
structure Live (ad : Ad) (ch : Chip) (j : Jr) (s : Sta) : Prop where
  ok : ChipOk ad ch
  alive : Alive ch.pw
  jok : JOk j ch.g
  ended : j.ended = false
  kept : Kept ch j s
theorem Live.small {ad ch j s} (h : Live ad ch j s) : wN s + 24 ≤ hsz ch.g ∧ hsz ch.g ≤ 32768 := by
  obtain ⟨hz, hz1, hz2, hz3⟩ := hsz_int h.ok.geo
  have := h.kept.told.room
  have := h.jok.used
  exact ⟨by omega, hz2⟩
theorem commit_live (M : Mem) (jb : Nat) (ad : Ad) (ch : Chip) (j : Jr) (s : StaD) (p : Option Addr) (cap : Nat) (dl : List DeedD) (hv : Live ad ch j s.v) (hs : SOk M s) (hd : RDeeds M p dl) (hc : ∀ d ∈ dl.map DeedD.v, Canon d)
    (hb : (deedsB (dl.map DeedD.v)).length ≤ 90000) (he : j.epoch < 2147483647) :
    Spec Tryz.prog 16 [ptr jb, .slice p dl.length cap] M ((jb, .cells (jrL ad.cb j s)) :: chipH ad ch)
      (fun v M' H => ∃ (ch' : Chip) (j' : Jr) (s' : StaD), H = (jb, .cells (jrL ad.cb j' s')) :: chipH ad ch' ∧ SOk M' s' ∧ Live ad ch' j' s'.v ∧ ch'.g = ch.g ∧ j'.epoch ≤ j.epoch + 1 ∧
        ((v = intV 0 ∧ s'.v = applyL s.v (dl.map DeedD.v) ∧ (firstB 1 (applyL s.v (dl.map DeedD.v))).length + 7 ≤ hsz ch.g ∧ commit ch j s.v (dl.map DeedD.v) = ((ch', j', s'.v), 0)) ∨
          (v = intV 10 ∧ s'.v = s.v ∧ j' = j ∧ ch' = ch ∧ hsz ch.g < (firstB 1 (applyL s.v (dl.map DeedD.v))).length + 7))) := by
  have hsm := hv.small
  have hwa := wN_applyL (dl.map DeedD.v) s.v
  have hwl := whole_len (applyL s.v (dl.map DeedD.v))
  have hcnt := deeds_count (dl.map DeedD.v)
  rw [List.length_map] at hcnt
  have hdk : ∀ d ∈ dl, InoOk d.d.x := fun d hm => canon_ok (hc d.v (List.mem_map_of_mem hm)) (by have := deeds_mem (List.mem_map_of_mem (f := DeedD.v) hm); omega)
  have hsp := commit_spec M jb ad ch j s p cap dl hv.ok hv.jok hs (staOk_small (by omega)) hd hdk (by omega) (by omega) (staOk_small (by omega)) (by omega)
  refine hsp.mono ?_
  rintro v M' H hle ⟨rfl, s', hs', hso, rfl⟩
  rcases commit_kept hv.ok hv.alive hv.jok hv.ended he hv.kept hc with ⟨c1, c2, c3, c4, c5, c6, c7, c8, c9, c10⟩ | ⟨c1, c2⟩
  · refine ⟨_, _, s', rfl, hso, ⟨c5, c6, by rw [c9]; exact c7, c8, by rw [hs', c2]; exact c4⟩, c9, c10, .inl ⟨by rw [c1], by rw [hs', c2], c3, ?_⟩⟩
    have e : ∀ r : (Chip × Jr × Sta) × Int, r.2 = 0 → r = ((r.1.1, r.1.2.1, r.1.2.2), 0) := by rintro ⟨⟨a, b, c⟩, d⟩ h; dsimp only at h ⊢; rw [h]
    rw [hs']
    exact e _ c1
  · rw [c1] at hs'
    refine ⟨ch, j, s', by rw [c1], hso, ?_, rfl, by omega, .inr ⟨by rw [c1], hs', rfl, rfl, c2⟩⟩
    have hs2 : s'.v = s.v := hs'
    rw [hs2]
    exact hv
theorem open_live (M : Mem) (ad : Ad) (ch : Chip) (j : Jr) (s : Sta) (hv : Live ad ch j s) :
    Spec Tryz.prog 21 [ptr ad.cb] M (chipH ad ch) (fun v M' H => ∃ (jb : Nat) (s' : StaD), v = .tuple #[ptr jb, .int .i64 0] ∧ s'.v = s ∧ SOk M' s' ∧ H = (jb, .cells (jrL ad.cb j s')) :: chipH ad ch) := by
  have ho := hv.kept.open hv.jok hv.ended
  refine (open_spec M ad ch hv.ok).mono ?_
  rintro v M' H hle (⟨h1, _⟩ | ⟨jb, j', s', h1, h2, rfl, hso, _, rfl⟩)
  · rw [ho] at h1; cases h1
  · rw [ho] at h1 ⊢
    injection h1 with h1
    injection h1 with h1 h3
    subst h1
    exact ⟨jb, s', rfl, h3.symm, hso, rfl⟩
theorem format_live (M : Mem) (ad : Ad) (ch : Chip) (hok : ChipOk ad ch) (ha : Alive ch.pw) :
    Spec Tryz.prog 14 [ptr ad.cb] M (chipH ad ch) (fun v M' H => ∃ (jb : Nat) (s : StaD) (ch' : Chip), v = .tuple #[ptr jb, .int .i64 0] ∧ s.v = staR ∧ SOk M' s ∧ Live ad ch' fmtJ staR ∧ ch'.g = ch.g ∧ ch' = (fmt ch).1 ∧ H = (jb, .cells (jrL ad.cb fmtJ s)) :: chipH ad ch') := by
  obtain ⟨f1, f2, f3, f4, f5, f6⟩ := fmt_kept hok ha
  refine (format_spec M ad ch hok).mono ?_
  rintro v M' H hle (⟨_, hne, _⟩ | ⟨jb, s, rfl, h0, hsv, hso, rfl⟩)
  · exact absurd f1 hne
  · exact ⟨jb, s, (fmt ch).1, rfl, hsv, hso, ⟨f3, f4, by rw [f5]; exact f6, rfl, f2⟩, f5, rfl, rfl⟩
theorem jstate_live (M : Mem) (jb : Nat) (ad : Ad) (ch : Chip) (j : Jr) (s : StaD) (hv : Live ad ch j s.v) (hs : SOk M s) :
    Spec Tryz.prog 20 [ptr jb] M [(jb, .cells (jrL ad.cb j s))] (fun v M' H => H = [(jb, .cells (jrL ad.cb j s))] ∧ RetSta s.v v M' []) :=
  jstate_spec M jb ad.cb j s hs (staOk_small (by have := hv.small; omega))
theorem chip_new (M : Mem) (g : Geo) (pb : Nat) (hg : GeoOk g) : Spec Tryz.prog 11 [geoV g, ptr pb] M [(pb, .cells (pwL ⟨-1, 0, false, 0⟩ (.map Option.none)))]
    (fun v _ H => ∃ ad : Ad, v = .tuple #[ptr ad.cb, .int .i64 0] ∧ H = chipH ad ⟨g, List.replicate (chipN g) 255, ⟨-1, 0, false, 0⟩, []⟩ ∧ ChipOk ad ⟨g, List.replicate (chipN g) 255, ⟨-1, 0, false, 0⟩, []⟩ ∧ Alive (⟨-1, 0, false, 0⟩ : Pw)) :=
  (norNew_spec M g pb ⟨-1, 0, false, 0⟩ (.map Option.none) hg ⟨by decide, by decide⟩).mono fun _ _ _ _ ⟨ad, _, h2, h3, h4⟩ => ⟨ad, h2, h3, h4, rfl, rfl⟩
/-- A deed that gives a number out. -/
theorem next_canon (n : Int) (h : InR n) : Canon ⟨1, n, ino0⟩ := .inl ⟨.inl rfl, h, rfl⟩
theorem next_rdeeds {M : Mem} {b : Nat} {n : Int} (h : M b = some (deedDL ⟨1, n, inoD0⟩)) : RDeeds M (some ⟨b, 0, Option.none⟩) [⟨1, n, inoD0⟩] :=
  ⟨⟨by intro e he; simp at he; subst he; rfl, rfl, fun _ => ⟨b, 0, _, rfl, Rd.m h, rfl⟩⟩, by intro d hd; rw [List.mem_singleton.1 hd]; exact dOk0 _⟩
theorem awake17_spec (M : Mem) : Spec Tryz.prog 13 [] M [] (fun v _ H => v = .bool true ∧ H = []) := by
  refine Spec.of_code 46 Tryz.func13 rfl callable13 rfl rfl fun w => ?_
  refine C.region_seq ?_
  refine G.value rfl rfl rfl (Sure.assign rfl) ?_
  refine G.nil ?_
  refine C.region_seq ?_
  refine G.call rfl rfl rfl rfl rfl rfl (wide_spec M) (Split.nil) ?_
  rintro _ M1 _ le1 ⟨rfl, rfl⟩
  refine G.call rfl rfl rfl rfl rfl rfl (pw_new_spec M1) (Split.nil) ?_
  rintro _ M2 _ le2 ⟨pb, rfl, rfl⟩
  refine G.call rfl rfl rfl rfl rfl rfl (chip_new M2 geoW pb geoW_ok) (Split.cons .here Split.nil) ?_
  rintro _ M3 _ le3 ⟨ad, rfl, rfl, hok, hal⟩
  refine G.value rfl rfl rfl (Sure.move rfl) ?_
  refine G.value rfl rfl rfl (Sure.extract rfl rfl) ?_
  refine G.value rfl rfl rfl (Sure.extract rfl rfl) ?_
  refine G.value rfl rfl rfl (Sure.assign rfl) ?_
  refine G.value rfl rfl rfl (Sure.assign rfl) ?_
  refine G.nil ?_
  refine C.seq ?_
  refine C.region_seq ?_
  refine G.value rfl rfl rfl (Sure.move rfl) ?_
  refine G.value rfl rfl rfl ((Sure.neq rfl rfl).to_f (by decide)) ?_
  refine G.value rfl rfl rfl (Sure.move rfl) ?_
  refine G.value rfl rfl rfl (Sure.move rfl) ?_
  refine G.value rfl rfl rfl (ptr_eq_f rfl rfl) ?_
  refine G.value rfl rfl rfl (Sure.pick_false rfl rfl) ?_
  refine G.nil ?_
  refine C.cond_false rfl ?_
  refine C.skip ?_
  refine Fin.th ?_
  refine C.region_seq ?_
  refine G.value rfl rfl rfl (Sure.move rfl) ?_
  refine G.call rfl rfl rfl rfl rfl rfl (format_live M3 ad _ hok hal) (Split.one .here) ?_
  rintro _ M4 _ le4 ⟨jb, s, ch, rfl, hsv, hso, hlv, hcg, _, rfl⟩
  refine G.value rfl rfl rfl (Sure.move rfl) ?_
  refine G.value rfl rfl rfl (Sure.extract rfl rfl) ?_
  refine G.value rfl rfl rfl (Sure.extract rfl rfl) ?_
  refine G.value rfl rfl rfl (Sure.assign rfl) ?_
  refine G.value rfl rfl rfl (Sure.assign rfl) ?_
  refine G.nil ?_
  refine C.region_seq ?_
  refine G.value rfl rfl rfl (Sure.move rfl) ?_
  refine G.value rfl rfl rfl ((Sure.eql rfl rfl).to_t rfl) ?_
  refine G.value rfl rfl rfl (Sure.move rfl) ?_
  refine G.value rfl rfl rfl (Sure.move rfl) ?_
  refine G.value rfl rfl rfl (ptr_ne_t rfl rfl) ?_
  refine G.value rfl rfl rfl (Sure.pick_true rfl rfl) ?_
  refine G.value rfl rfl rfl (Sure.move rfl) ?_
  refine G.value rfl rfl rfl (Sure.move rfl) ?_
  refine G.call rfl rfl rfl rfl rfl rfl (epoch_spec M4 jb ad.cb fmtJ s) (Split.cons .here Split.nil) ?_
  rintro _ M5 _ le5 ⟨rfl, rfl⟩
  refine G.value rfl rfl rfl ((Sure.eql rfl rfl).to_t rfl) ?_
  refine G.value rfl rfl rfl (Sure.pick_true rfl rfl) ?_
  refine G.value rfl rfl rfl (Sure.move rfl) ?_
  refine G.value rfl rfl rfl (Sure.move rfl) ?_
  refine G.value rfl rfl rfl (Sure.build rfl rfl) ?_
  refine G.dyn rfl rfl rfl ?_
  refine Dyn.buildSlice rfl rfl rfl (by simp [vcl]) (by decide) ?_
  intro b36
  refine G.donate fun M6 le6 hM6 => ?_
  rw [← hsv] at hlv
  refine G.call rfl rfl rfl rfl rfl rfl (commit_live M6 jb ad ch fmtJ s (some ⟨b36, 0, Option.none⟩) 1 [⟨1, 9, inoD0⟩] hlv (hso.mono (le5.trans le6)) (next_rdeeds hM6) (by intro d hd; simp at hd; subst hd; exact next_canon 9 ⟨by decide, by decide⟩) (by simp [deedsB, DeedD.v, deedB]) (by decide)) (Split.cons .here (Split.one .here)) ?_
  rintro _ M7 _ le7 ⟨ch', j', s', rfl, hso', hlv', hg', hep', hres⟩
  have hsm := hlv.small
  have hap : applyL s.v [(⟨1, 9, ino0⟩ : Deed)] = ⟨9, s.v.inos, s.v.bad⟩ := rfl
  have hfl := firstB_len 1 (applyL s.v [(⟨1, 9, ino0⟩ : Deed)])
  have hwn : wN (applyL s.v [(⟨1, 9, ino0⟩ : Deed)]) = wN s.v := rfl
  rcases hres with ⟨rfl, hs2, _, _⟩ | ⟨rfl, _, _, _, hno⟩
  · have hs3 : s'.v = ⟨9, s.v.inos, s.v.bad⟩ := hs2
    refine G.value rfl rfl rfl ((Sure.eql rfl rfl).to_t rfl) ?_
    refine G.value rfl rfl rfl (Sure.pick_true rfl rfl) ?_
    refine G.value rfl rfl rfl (Sure.move rfl) ?_
    refine G.value rfl rfl rfl (Sure.move rfl) ?_
    refine G.call rfl rfl rfl rfl rfl rfl (jstate_live M7 jb ad ch' j' s' hlv' hso') (Split.cons .here Split.nil) ?_
    rintro _ M8 _ le8 ⟨rfl, -, s4, hs4, rfl, hso4⟩
    have hn4 : s4.next = 9 := by have := congrArg Sta.next (hs4.trans hs3); exact this
    refine G.value rfl rfl rfl (Sure.field rfl rfl) ?_
    refine G.value rfl rfl rfl ((Sure.eql rfl rfl).to_t hn4) ?_
    refine G.value rfl rfl rfl (Sure.pick_true rfl rfl) ?_
    refine G.value rfl rfl rfl (Sure.assign rfl) ?_
    refine G.nil ?_
    refine C.ret ?_
    exact Fin.fn (Res.tmp rfl rfl) Split.nil ⟨rfl, rfl⟩
  · exfalso
    have hno' : hsz ch.g < (firstB 1 (applyL s.v [(⟨1, 9, ino0⟩ : Deed)])).length + 7 := hno
    omega
end Go.Proofs.YtaeeahcokiebdaaGreat

/-
  The walks of what the laws let in: few deeds, and clean ones.
  Conditions: what is counted fits.
-/
namespace Go.Proofs.YtaeeahcokiebdaaGreat
set_option maxRecDepth 20000

def entsN (l : List Entry) : Nat := (l.map fun e => 10 + e.name.size).sum
def fewD (d : Deed) : Nat := 10 + d.ino.tgt.size + d.ino.runs.length + entsN d.ino.ents
def fewN (l : List Deed) : Nat := (l.map fewD).sum
theorem entsN_app (a b : List Entry) : entsN (a ++ b) = entsN a + entsN b := by simp [entsN]
theorem fewN_app (a b : List Deed) : fewN (a ++ b) = fewN a + fewN b := by simp [fewN]
theorem entsN_cons (e : Entry) (b : List Entry) : entsN (e :: b) = 10 + e.name.size + entsN b := by simp [entsN]
theorem fewN_cons (e : Deed) (b : List Deed) : fewN (e :: b) = fewD e + fewN b := by simp [fewN]
theorem entsN_ge (l : List Entry) : 10 * l.length ≤ entsN l := by
  induction l with
  | nil => simp
  | cons d l ih => rw [entsN_cons, List.length_cons]; omega
theorem few_spec (M : Mem) (p : Option Addr) (cap : Nat) (dl : List DeedD) (hd : RDeeds M p dl) (hb : fewN (dl.map DeedD.v) ≤ 1000000000000) :
    Spec Tryz.prog 23 [.slice p dl.length cap] M [] (fun v _ H => v = .bool (decide (fewN (dl.map DeedD.v) ≤ 3000)) ∧ H = []) := by
  have hlen10 : ∀ l : List Deed, 10 * l.length ≤ fewN l := by
    intro l
    induction l with
    | nil => simp
    | cons d l ih => rw [fewN_cons, List.length_cons]; unfold fewD; omega
  have hln := hlen10 (dl.map DeedD.v)
  rw [List.length_map] at hln
  refine Spec.of_code 47 Tryz.func23 rfl callable23 rfl rfl fun w => ?_
  refine C.region_seq ?_
  refine G.value rfl rfl rfl (Sure.assign rfl) ?_
  refine G.nil ?_
  refine C.region_seq ?_
  refine G.value rfl rfl rfl (Sure.assign rfl) ?_
  refine G.nil ?_
  refine C.seq ?_
  refine C.region_seq ?_
  refine G.value rfl rfl rfl (Sure.assign rfl) ?_
  refine G.nil ?_
  refine C.block ?_
  refine C.loop (fun k E M' H => ∃ a b : List DeedD, MLe M M' ∧ dl = a ++ b ∧ b.length = k ∧ E = [(0, .slice p dl.length cap), (3, intV (fewN (a.map DeedD.v))), (4, intV a.length)] ∧ H = []) (dl.length) ?_ ?_
  · exact ⟨_, _, ⟨[], dl, MLe.refl _, rfl, rfl, rfl, rfl⟩, ⟨rfl, rfl, rfl, trivial⟩, [], Split.nil⟩
  · rintro k E M' H ⟨a, b, hle, hab, hk, rfl, rfl⟩
    have hlen : dl.length = a.length + b.length := by rw [hab]; simp
    refine C.seq ?_
    refine C.region_seq ?_
    refine G.value rfl rfl rfl (Sure.move rfl) ?_
    refine G.value rfl rfl rfl (Sure.move rfl) ?_
    refine G.value rfl rfl rfl (Sure.len_slice rfl) ?_
    refine G.value rfl rfl rfl (Sure.lss rfl rfl) ?_
    refine G.nil ?_
    refine C.cond_dec rfl (fun hlt => ?_) (fun hlt => ?_)
    · cases b with
      | nil => simp at hlen hlt; omega
      | cons x b =>
        have hxm : x ∈ dl := by rw [hab]; simp
        have hsum : fewN (dl.map DeedD.v) = fewN (a.map DeedD.v) + (fewD x.v + fewN (b.map DeedD.v)) := by rw [hab, List.map_append, fewN_app, List.map_cons, fewN_cons]
        have hxd : fewD x.v = 10 + x.d.x.tgt.size + x.d.x.runs.length + entsN x.d.x.ents := rfl
        obtain ⟨q1, o1, c1, hq1, hrd1, hseg1⟩ := SlL.row (i := a.length) (e := deedDL x) (SlL.mono hd.1 hle) (by rw [hab]; simp)
        have hse : seg c1 (o1 + a.length * 9 + 2) 7 = some (inoDL x.d) := seg_sub hseg1 (k := 2) (m := 7) (by omega)
        have hdo := (hd.2 x hxm).mono hle
        refine C.skip ?_
        refine Fin.th ?_
        refine C.seq ?_
        refine C.block ?_
        refine C.region_seq ?_
        refine G.value rfl rfl rfl (Sure.move rfl) ?_
        refine G.value rfl rfl rfl (Sure.move rfl) ?_
        refine G.value rfl rfl rfl (Sure.indexAddr (congrArg (fun q => some (Value.slice q dl.length cap)) hq1) rfl (by omega)) ?_
        refine G.value rfl rfl rfl (Sure.fieldAddr rfl) ?_
        refine G.value rfl rfl rfl (Sure.loadAgg rfl hrd1 hse) ?_
        refine G.dyn rfl rfl rfl ?_
        refine Dyn.allocAgg ?_
        intro b5
        refine G.dyn0 rfl rfl ?_
        refine Dyn.storeAgg rfl rfl pkx rfl rfl rfl ?_
        refine G.nil ?_
        refine C.region_seq ?_
        refine G.value rfl rfl rfl (Sure.move rfl) ?_
        refine G.value rfl rfl rfl (Sure.add rfl rfl (inK64 (by omega))) ?_
        refine G.value rfl rfl rfl (Sure.fieldAddr rfl) ?_
        refine G.value rfl rfl rfl (Sure.load rfl rdx rfl) ?_
        refine G.value rfl rfl rfl (Sure.len_string rfl) ?_
        refine G.value rfl rfl rfl (Sure.add rfl rfl (inK64 (by omega))) ?_
        refine G.value rfl rfl rfl (Sure.fieldAddr rfl) ?_
        refine G.value rfl rfl rfl (Sure.load rfl rdx rfl) ?_
        refine G.value rfl rfl rfl (Sure.len_slice rfl) ?_
        refine G.value rfl rfl rfl (Sure.add rfl rfl (inK64 (by omega))) ?_
        refine G.value rfl rfl rfl (Sure.assign rfl) ?_
        refine G.nil ?_
        refine C.region_seq ?_
        refine G.value rfl rfl rfl (Sure.assign rfl) ?_
        refine G.nil ?_
        refine C.block ?_
        refine C.loop (fun k2 E M2 H => ∃ c d : List Entry, MLe M' M2 ∧ x.d.x.ents = c ++ d ∧ d.length = k2 ∧ E = [(0, .slice p dl.length cap), (3, intV ((fewN (a.map DeedD.v) + (10 + x.d.x.tgt.size + x.d.x.runs.length + entsN c) : Nat) : Int)), (4, intV a.length), (5, ptr b5), (6, intV c.length)] ∧ H = [(b5, .cells (inoDL x.d))]) (x.d.x.ents.length) ?_ ?_
        · refine ⟨_, _, ⟨[], x.d.x.ents, MLe.refl _, rfl, rfl, rfl, rfl⟩, ⟨rfl, ?_, rfl, rfl, rfl, trivial⟩, [], Split.cons .here Split.nil⟩
          show some (intV ((fewN (a.map DeedD.v) : Int) + 10 + (x.d.x.tgt.size : Int) + (x.d.x.runs.length : Int))) = some (intV ((fewN (a.map DeedD.v) + (10 + x.d.x.tgt.size + x.d.x.runs.length + 0) : Nat) : Int))
          congr 2
          omega
        · rintro k2 E M2 H ⟨c, d, hle2, hcd, hk2, rfl, rfl⟩
          have hlen2 : x.d.x.ents.length = c.length + d.length := by rw [hcd]; simp
          have hes : entsN x.d.x.ents = entsN c + entsN d := by rw [hcd, entsN_app]
          have hge := entsN_ge x.d.x.ents
          refine C.seq ?_
          refine C.region_seq ?_
          refine G.value rfl rfl rfl (Sure.move rfl) ?_
          refine G.value rfl rfl rfl (Sure.fieldAddr rfl) ?_
          refine G.value rfl rfl rfl (Sure.load rfl rdx rfl) ?_
          refine G.value rfl rfl rfl (Sure.len_slice rfl) ?_
          refine G.value rfl rfl rfl (Sure.lss rfl rfl) ?_
          refine G.nil ?_
          refine C.cond_dec rfl (fun hlt2 => ?_) (fun hlt2 => ?_)
          · cases d with
            | nil => simp at hlen2; omega
            | cons e d =>
              rw [entsN_cons] at hes
              obtain ⟨q2, o2, c2, hq2, hrd2, hseg2⟩ := SlL.row (i := c.length) (e := entL e) ((SlL.mono hdo.1 hle2).heap (H := [(b5, .cells (inoDL x.d))])) (by rw [hcd]; simp)
              refine C.skip ?_
              refine Fin.th ?_
              refine C.seq ?_
              refine C.block ?_
              refine C.region ?_
              refine G.value rfl rfl rfl (Sure.move rfl) ?_
              refine G.value rfl rfl rfl (Sure.add rfl rfl (inK64 (by omega))) ?_
              refine G.value rfl rfl rfl (Sure.fieldAddr rfl) ?_
              refine G.value rfl rfl rfl (Sure.load rfl rdx rfl) ?_
              refine G.value rfl rfl rfl (Sure.move rfl) ?_
              refine G.value rfl rfl rfl (Sure.indexAddr (congrArg (fun q => some (Value.slice q x.d.x.ents.length x.d.ce)) hq2) rfl (by omega)) ?_
              refine G.value rfl rfl rfl (Sure.fieldAddr rfl) ?_
              refine G.value rfl rfl rfl (Sure.load rfl hrd2 (seg_one (k := 0) hseg2 rfl)) ?_
              refine G.value rfl rfl rfl (Sure.len_string rfl) ?_
              refine G.value rfl rfl rfl (Sure.add rfl rfl (inK64 (by omega))) ?_
              refine G.value rfl rfl rfl (Sure.assign rfl) ?_
              refine G.nil ?_
              refine Fin.blk ?_
              refine Fin.th ?_
              refine C.region ?_
              refine G.value rfl rfl rfl (Sure.move rfl) ?_
              refine G.value rfl rfl rfl (Sure.add rfl rfl (inK64 (by omega))) ?_
              refine G.value rfl rfl rfl (Sure.assign rfl) ?_
              refine G.nil ?_
              refine Fin.th ?_
              refine ⟨d.length, _, _, by simp at hk2; omega, ⟨c ++ [e], d, hle2, by rw [hcd]; simp, rfl, rfl, rfl⟩, ⟨rfl, ?_, rfl, rfl, by simp; rfl, trivial⟩, [], Split.cons .here Split.nil⟩
              rw [entsN_app, entsN_cons]
              show some (intV (((fewN (a.map DeedD.v) + (10 + x.d.x.tgt.size + x.d.x.runs.length + entsN c) : Nat) : Int) + 10 + (e.name.size : Int))) = some (intV ((fewN (a.map DeedD.v) + (10 + x.d.x.tgt.size + x.d.x.runs.length + (entsN c + (10 + e.name.size + 0))) : Nat) : Int))
              congr 2
              omega
          · have hd0 : d = [] := List.eq_nil_of_length_eq_zero (by omega)
            subst hd0
            simp only [List.append_nil] at hcd
            refine C.exit ?_
            refine Fin.th_exit ?_
            refine Fin.th_exit ?_
            refine Fin.blk_eq ?_
            refine Fin.blk ?_
            refine Fin.th ?_
            refine C.region ?_
            refine G.value rfl rfl rfl (Sure.move rfl) ?_
            refine G.value rfl rfl rfl (Sure.add rfl rfl (inK64 (by omega))) ?_
            refine G.value rfl rfl rfl (Sure.assign rfl) ?_
            refine G.nil ?_
            refine Fin.th ?_
            refine ⟨b.length, _, _, by simp at hk; omega, ⟨a ++ [x], b, hle.trans hle2, by rw [hab]; simp, rfl, rfl, rfl⟩, ⟨rfl, ?_, by simp; rfl, trivial⟩, [(b5, .cells (inoDL x.d))], Split.nil⟩
            rw [List.map_append, fewN_app, List.map_cons, fewN_cons, hxd, hcd]
            rfl
    · have hb0 : b = [] := List.eq_nil_of_length_eq_zero (by omega)
      subst hb0
      simp only [List.append_nil] at hab
      rw [← hab]
      refine C.exit ?_
      refine Fin.th_exit ?_
      refine Fin.th_exit ?_
      refine Fin.blk_eq ?_
      refine Fin.th ?_
      refine C.region_seq ?_
      refine G.value rfl rfl rfl (Sure.move rfl) ?_
      refine G.value rfl rfl rfl (Sure.leq rfl rfl) ?_
      refine G.value rfl rfl rfl (Sure.assign rfl) ?_
      refine G.nil ?_
      refine C.ret ?_
      refine Fin.fn (Res.tmp rfl rfl) Split.nil ⟨?_, rfl⟩
      rw [show decide ((fewN (dl.map DeedD.v) : Int) ≤ 3000) = decide (fewN (dl.map DeedD.v) ≤ 3000) from decide_eq_decide.2 (by omega)]
def cleanK (k : Int) : Int := 1 + IntKind.u64.wrap k % 4
def cleanD (d : Deed) : Deed := if cleanK d.kind = 2 then ⟨2, 0, d.ino⟩ else ⟨cleanK d.kind, d.no, ino0⟩
theorem clean_spec (M : Mem) (p : Option Addr) (cap : Nat) (dl : List DeedD) (hd : RDeeds M p dl) (hl : dl.length ≤ 1000000) :
    Spec Tryz.prog 24 [.slice p dl.length cap] M [] (fun v M' H => RetDeeds ((dl.map DeedD.v).map cleanD) v M' H) := by
  refine Spec.of_code 42 Tryz.func24 rfl callable24 rfl rfl fun w => ?_
  refine C.region_seq ?_
  refine G.value rfl rfl rfl (Sure.assign rfl) ?_
  refine G.nil ?_
  refine C.region_seq ?_
  refine G.value rfl rfl rfl (Sure.assign rfl) ?_
  refine G.nil ?_
  refine C.seq ?_
  refine C.region_seq ?_
  refine G.value rfl rfl rfl (Sure.assign rfl) ?_
  refine G.nil ?_
  refine C.block ?_
  refine C.loop (fun k E M' H => ∃ (a b out : List DeedD) (v : Value), MLe M M' ∧ dl = a ++ b ∧ b.length = k ∧ out.map DeedD.v = (a.map DeedD.v).map cleanD ∧ (∀ d ∈ out, DOk M' d.d) ∧ Own 9 v out.length (out.map deedDL).flatten H ∧ E = [(0, .slice p dl.length cap), (3, v), (4, intV a.length)]) (dl.length) ?_ ?_
  · exact ⟨_, _, ⟨[], dl, [], _, MLe.refl _, rfl, rfl, rfl, by simp, Own.nil, rfl⟩, ⟨rfl, rfl, rfl, trivial⟩, [], Split.nil⟩
  · rintro k E M' H ⟨a, b, out, v, hle, hab, hk0, hout, hoo, hown, rfl⟩
    have hlen : dl.length = a.length + b.length := by rw [hab]; simp
    have hol : out.length = a.length := by have := congrArg List.length hout; simpa using this
    refine C.seq ?_
    refine C.region_seq ?_
    refine G.value rfl rfl rfl (Sure.move rfl) ?_
    refine G.value rfl rfl rfl (Sure.move rfl) ?_
    refine G.value rfl rfl rfl (Sure.len_slice rfl) ?_
    refine G.value rfl rfl rfl (Sure.lss rfl rfl) ?_
    refine G.nil ?_
    refine C.cond_dec rfl (fun hlt => ?_) (fun hlt => ?_)
    · cases b with
      | nil => simp at hlen hlt; omega
      | cons x b =>
        have hxm : x ∈ dl := by rw [hab]; simp
        have hw := u64_wrap_bd x.kind
        obtain ⟨q1, o1, c1, hq1, hrd0, hseg1⟩ := SlL.row (i := a.length) (e := deedDL x) (SlL.mono hd.1 hle) (by rw [hab]; simp)
        have hrdm := hrd0.resolve_right (by simp)
        have hdo := (hd.2 x hxm).mono hle
        have hse : seg c1 (o1 + a.length * 9 + 2) 7 = some (inoDL x.d) := seg_sub hseg1 (k := 2) (m := 7) (by omega)
        refine C.skip ?_
        refine Fin.th ?_
        refine C.seq ?_
        refine C.block ?_
        refine C.region_seq ?_
        refine G.value rfl rfl rfl (Sure.move rfl) ?_
        refine G.value rfl rfl rfl (Sure.move rfl) ?_
        refine G.value rfl rfl rfl (Sure.indexAddr (congrArg (fun q => some (Value.slice q dl.length cap)) hq1) rfl (by omega)) ?_
        refine G.value rfl rfl rfl (Sure.fieldAddr rfl) ?_
        refine G.value rfl rfl rfl (Sure.load rfl (Rd.m hrdm) (seg_one (k := 0) hseg1 rfl)) ?_
        refine G.value rfl rfl rfl (Sure.conv' rfl) ?_
        refine G.value rfl rfl rfl (Sure.rem rfl rfl (by omega) (by decide)) ?_
        refine G.value rfl rfl rfl (Sure.conv rfl (inK64 (by omega))) ?_
        refine G.value rfl rfl rfl (Sure.add rfl rfl (inK64 (by omega))) ?_
        refine G.value rfl rfl rfl (Sure.build rfl rfl) ?_
        refine G.dyn rfl rfl rfl ?_
        refine Dyn.allocAgg ?_
        intro b5
        refine G.dyn0 rfl rfl ?_
        refine Dyn.storeAgg rfl rfl pkx rfl rfl rfl ?_
        refine G.nil ?_
        refine C.seq ?_
        refine C.region_seq ?_
        refine G.value rfl rfl rfl (Sure.fieldAddr rfl) ?_
        refine G.value rfl rfl rfl (Sure.load rfl rdx rfl) ?_
        have hck : cleanK x.kind = 1 + IntKind.u64.wrap x.kind % 4 := rfl
        rw [← hck]
        have hcv : cleanD x.v = if cleanK x.kind = 2 then ⟨2, 0, x.d.x⟩ else ⟨cleanK x.kind, x.no, ino0⟩ := rfl
        generalize cleanK x.kind = ck at hck hcv
        refine G.value rfl rfl rfl (Sure.eql rfl rfl) ?_
        refine G.nil ?_
        refine C.cond_dec rfl (fun hk => ?_) (fun hk => ?_)
        · subst hk
          rw [if_pos rfl] at hcv
          refine C.region ?_
          refine G.value rfl rfl rfl (Sure.move rfl) ?_
          refine G.value rfl rfl rfl (Sure.move rfl) ?_
          refine G.value rfl rfl rfl (Sure.indexAddr (congrArg (fun q => some (Value.slice q dl.length cap)) hq1) rfl (by omega)) ?_
          refine G.value rfl rfl rfl (Sure.fieldAddr rfl) ?_
          refine G.value rfl rfl rfl (Sure.loadAgg rfl (Rd.m hrdm) hse) ?_
          refine G.value rfl rfl rfl (Sure.fieldAddr rfl) ?_
          refine G.dyn0 rfl rfl ?_
          refine Dyn.storeAgg rfl rfl pkx rfl rfl rfl ?_
          refine G.nil ?_
          refine Fin.th ?_
          refine C.region ?_
          refine G.value rfl rfl rfl (Sure.move rfl) ?_
          refine G.value rfl rfl rfl (Sure.loadAgg rfl rdx rfl) ?_
          refine G.dyn rfl rfl rfl ?_
          refine Dyn.buildSlice rfl rfl rfl (by simp [vcl]) (by decide) ?_
          intro b6
          refine G.dyn rfl rfl rfl ?_
          refine Dyn.append (fun k h => by cases h) rfl rfl rfl hown (.there (.there .all)) (m := 1) (news := deedDL ⟨2, 0, x.d⟩) ⟨rfl, fun _ => ⟨b6, 0, _, rfl, Rd.h0, rfl⟩⟩ (allOne_deed _) (by omega) (by omega) ?_
          intro v2 Hs2 hown2
          refine G.value rfl rfl rfl (Sure.assign rfl) ?_
          refine G.nil ?_
          refine Fin.blk ?_
          refine Fin.th ?_
          refine C.region ?_
          refine G.value rfl rfl rfl (Sure.move rfl) ?_
          refine G.value rfl rfl rfl (Sure.add rfl rfl (inK64 (by omega))) ?_
          refine G.value rfl rfl rfl (Sure.assign rfl) ?_
          refine G.nil ?_
          refine Fin.th ?_
          have hfl : ((out ++ [(⟨2, 0, x.d⟩ : DeedD)]).map deedDL).flatten = (out.map deedDL).flatten ++ deedDL ⟨2, 0, x.d⟩ := by simp
          refine ⟨b.length, _, _, by simp at hk0; omega, ⟨a ++ [x], b, out ++ [⟨2, 0, x.d⟩], v2, hle, by rw [hab]; simp, rfl, ?_, ?_, ?_, rfl⟩, ⟨rfl, rfl, by simp; rfl, trivial⟩, _, Split.one PickL.here⟩
          · rw [List.map_append, hout, List.map_append, List.map_append]
            congr 1
            show [_] = [cleanD x.v]
            rw [hcv]
            rfl
          · intro e he
            rcases List.mem_append.1 he with h | h
            · exact hoo e h
            · rw [List.mem_singleton.1 h]; exact hdo
          · rw [hfl, List.length_append]; exact hown2
        · rw [if_neg hk] at hcv
          refine C.region ?_
          refine G.value rfl rfl rfl (Sure.move rfl) ?_
          refine G.value rfl rfl rfl (Sure.move rfl) ?_
          refine G.value rfl rfl rfl (Sure.indexAddr (congrArg (fun q => some (Value.slice q dl.length cap)) hq1) rfl (by omega)) ?_
          refine G.value rfl rfl rfl (Sure.fieldAddr rfl) ?_
          refine G.value rfl rfl rfl (Sure.load rfl (Rd.m hrdm) (seg_one (k := 1) hseg1 rfl)) ?_
          refine G.value rfl rfl rfl (Sure.fieldAddr rfl) ?_
          refine G.dyn0 rfl rfl ?_
          refine Dyn.store rfl rfl pkx rfl rfl ?_
          refine G.nil ?_
          refine Fin.th ?_
          refine C.region ?_
          refine G.value rfl rfl rfl (Sure.move rfl) ?_
          refine G.value rfl rfl rfl (Sure.loadAgg rfl rdx rfl) ?_
          refine G.dyn rfl rfl rfl ?_
          refine Dyn.buildSlice rfl rfl rfl (by simp [vcl]) (by decide) ?_
          intro b6
          refine G.dyn rfl rfl rfl ?_
          refine Dyn.append (fun k h => by cases h) rfl rfl rfl hown (.there (.there .all)) (m := 1) (news := deedDL ⟨ck, x.no, inoD0⟩) ⟨rfl, fun _ => ⟨b6, 0, _, rfl, Rd.h0, rfl⟩⟩ (allOne_deed _) (by omega) (by omega) ?_
          intro v2 Hs2 hown2
          refine G.value rfl rfl rfl (Sure.assign rfl) ?_
          refine G.nil ?_
          refine Fin.blk ?_
          refine Fin.th ?_
          refine C.region ?_
          refine G.value rfl rfl rfl (Sure.move rfl) ?_
          refine G.value rfl rfl rfl (Sure.add rfl rfl (inK64 (by omega))) ?_
          refine G.value rfl rfl rfl (Sure.assign rfl) ?_
          refine G.nil ?_
          refine Fin.th ?_
          have hfl : ((out ++ [(⟨ck, x.no, inoD0⟩ : DeedD)]).map deedDL).flatten = (out.map deedDL).flatten ++ deedDL ⟨ck, x.no, inoD0⟩ := by simp
          refine ⟨b.length, _, _, by simp at hk0; omega, ⟨a ++ [x], b, out ++ [⟨ck, x.no, inoD0⟩], v2, hle, by rw [hab]; simp, rfl, ?_, ?_, ?_, rfl⟩, ⟨rfl, rfl, by simp; rfl, trivial⟩, _, Split.one PickL.here⟩
          · rw [List.map_append, hout, List.map_append, List.map_append]
            congr 1
            show [_] = [cleanD x.v]
            rw [hcv]
            rfl
          · intro e he
            rcases List.mem_append.1 he with h | h
            · exact hoo e h
            · rw [List.mem_singleton.1 h]; exact dOk0 _
          · rw [hfl, List.length_append]; exact hown2
    · have hb0 : b = [] := List.eq_nil_of_length_eq_zero (by omega)
      subst hb0
      simp only [List.append_nil] at hab
      refine C.exit ?_
      refine Fin.th_exit ?_
      refine Fin.th_exit ?_
      refine Fin.blk_eq ?_
      refine Fin.th ?_
      refine C.region_seq ?_
      refine G.value rfl rfl rfl (Sure.move rfl) ?_
      refine G.value rfl rfl rfl (Sure.assign rfl) ?_
      refine G.nil ?_
      refine C.donateOwn hown .all ?_
      rintro M3 p3 cap3 le3 rfl hs3
      refine C.ret ?_
      refine Fin.fn (Res.tmp rfl rfl) Split.nil ⟨rfl, out, p3, cap3, rfl, ⟨⟨?_, ?_⟩, fun d hd => (hoo d hd).mono le3⟩, by rw [hout, hab]⟩
      · intro e he; obtain ⟨x, _, rfl⟩ := List.mem_map.1 he; rfl
      · rw [List.length_map]; exact hs3
end Go.Proofs.YtaeeahcokiebdaaGreat

/-
  The walk of JournalAgain: clean deeds are whole and fit a write; opened again, a chip is as it was.
  Conditions: what is counted fits.
-/
namespace Go.Proofs.YtaeeahcokiebdaaGreat
set_option maxRecDepth 20000

/-- The numbers of a deed are Go's. -/
structure DeedIn (d : Deed) : Prop where
  kind : InR d.kind
  no : InR d.no
  ino : InR d.ino.no ∧ InR d.ino.kind ∧ InR d.ino.links ∧ InR d.ino.size
  ent : ∀ e ∈ d.ino.ents, InR e.no
  run : ∀ r ∈ d.ino.runs, InR r.fr ∧ InR r.ad ∧ InR r.cnt
theorem ent_mem_le {l : List Entry} {e : Entry} (h : e ∈ l) : 10 + e.name.size ≤ entsN l := by
  induction l with
  | nil => cases h
  | cons x l ih =>
    rw [entsN_cons]
    rcases List.mem_cons.1 h with rfl | h
    · omega
    · have := ih h; omega
theorem fewD_mem_le {l : List Deed} {d : Deed} (h : d ∈ l) : fewD d ≤ fewN l := by
  induction l with
  | nil => cases h
  | cons x l ih =>
    rw [fewN_cons]
    rcases List.mem_cons.1 h with rfl | h
    · omega
    · have := ih h; omega
theorem cleanK_bd (k : Int) : 1 ≤ cleanK k ∧ cleanK k ≤ 4 := by
  have := u64_wrap_bd k
  unfold cleanK
  omega
theorem clean_canon {d : Deed} (h : DeedIn d) (hf : fewD d ≤ 3000) : Canon (cleanD d) := by
  have hk := cleanK_bd d.kind
  unfold fewD at hf
  have hel := entsN_ge d.ino.ents
  unfold cleanD
  split
  · obtain ⟨h1, h2, h3, h4⟩ := h.ino
    refine .inr ⟨rfl, rfl, h1, h2, h3, h4, ?_, ?_, ?_, ?_, h.run⟩
    · show d.ino.tgt.size < _; omega
    · show d.ino.ents.length < _; omega
    · intro e he
      have := ent_mem_le (show e ∈ d.ino.ents from he)
      exact ⟨by omega, h.ent e he⟩
    · show d.ino.runs.length < _; omega
  · refine .inl ⟨?_, h.no, rfl⟩
    show cleanK d.kind = 1 ∨ cleanK d.kind = 3 ∨ cleanK d.kind = 4
    omega
theorem ents_len (l : List Entry) : (l.map entB).flatten.length + 10 * l.length ≤ 3 * entsN l := by
  induction l with
  | nil => simp [entsN]
  | cons e l ih =>
    rw [entsN_cons, List.map_cons, List.flatten_cons, List.length_append, entB_len, List.length_cons]
    omega
theorem runs_len (l : List Run) : (l.map runB).flatten.length = 24 * l.length := by
  induction l with
  | nil => rfl
  | cons r l ih =>
    rw [List.map_cons, List.flatten_cons, List.length_append, ih, List.length_cons]
    simp [runB, intsB_len]
    omega
theorem clean_len (d : Deed) : (deedB (cleanD d)).length ≤ 24 * fewD d := by
  have hk := cleanK_bd d.kind
  unfold cleanD
  split
  · have h1 : (deedB ⟨2, 0, d.ino⟩).length = 1 + (inoB d.ino).length := by simp [deedB]
    have h2 : (inoB d.ino).length = 32 + (4 + d.ino.tgt.size) + 4 + ((d.ino.ents.map entB).flatten).length + 4 + ((d.ino.runs.map runB).flatten).length := by simp [inoB, intsB_len]; omega
    have h3 := ents_len d.ino.ents
    have h4 := runs_len d.ino.runs
    unfold fewD
    omega
  · rename_i hne
    have h1 : (deedB ⟨cleanK d.kind, d.no, ino0⟩).length = 9 := by
      have : cleanK d.kind = 1 ∨ cleanK d.kind = 3 ∨ cleanK d.kind = 4 := by omega
      simp [deedB, this]
    unfold fewD
    omega
theorem cleans_len (l : List Deed) : (deedsB (l.map cleanD)).length ≤ 24 * fewN l := by
  induction l with
  | nil => simp [deedsB]
  | cons d l ih =>
    have h1 : deedsB ((d :: l).map cleanD) = deedB (cleanD d) ++ deedsB (l.map cleanD) := by simp [deedsB]
    have := clean_len d
    rw [h1, List.length_append, fewN_cons]
    omega
theorem cleans_canon {l : List Deed} (h : ∀ d ∈ l, DeedIn d) (hf : fewN l ≤ 3000) : ∀ d ∈ l.map cleanD, Canon d := by
  intro d hd
  obtain ⟨x, hx, rfl⟩ := List.mem_map.1 hd
  exact clean_canon (h x hx) (by have := fewD_mem_le hx; omega)
theorem few_length (l : List Deed) : 10 * l.length ≤ fewN l := by
  induction l with
  | nil => simp
  | cons d l ih => rw [fewN_cons, List.length_cons]; unfold fewD; omega
/-- A list of deeds among lists. -/
structure DlD where
  dl : List DeedD
  p : Option Addr
  cap : Nat
abbrev dlL (x : DlD) : List Value := [.slice x.p x.dl.length x.cap]
/-- Lists of deeds as they lie in memory. -/
structure RDls (M : Mem) (p : Option Addr) (ll : List DlD) : Prop where
  sl : SlL M [] 1 p (ll.map dlL)
  rd : ∀ x ∈ ll, RDeeds M x.p x.dl
  rg : ∀ x ∈ ll, ∀ d ∈ x.dl.map DeedD.v, DeedIn d
  few : ∀ x ∈ ll, fewN (x.dl.map DeedD.v) ≤ 1000000000000
theorem again_law (M : Mem) (p : Option Addr) (cap : Nat) (ll : List DlD) (n : Int) (hr : RDls M p ll) :
    Spec Tryz.prog 4 [.slice p ll.length cap, intV n] M [] (fun v _ _ => v = .bool true) := by
  refine Spec.of_code 134 Tryz.func4 rfl callable4 rfl rfl fun w => ?_
  refine C.region_seq ?_
  refine G.value rfl rfl rfl (Sure.assign rfl) ?_
  refine G.nil ?_
  refine C.region_seq ?_
  refine G.call rfl rfl rfl rfl rfl rfl (wide_spec M) (Split.nil) ?_
  rintro _ M1 _ le1 ⟨rfl, rfl⟩
  refine G.call rfl rfl rfl rfl rfl rfl (pw_new_spec M1) (Split.nil) ?_
  rintro _ M2 _ le2 ⟨pb, rfl, rfl⟩
  refine G.call rfl rfl rfl rfl rfl rfl (chip_new M2 geoW pb geoW_ok) (Split.cons .here Split.nil) ?_
  rintro _ M3 _ le3 ⟨ad, rfl, rfl, hok, hal⟩
  refine G.value rfl rfl rfl (Sure.move rfl) ?_
  refine G.value rfl rfl rfl (Sure.extract rfl rfl) ?_
  refine G.value rfl rfl rfl (Sure.extract rfl rfl) ?_
  refine G.value rfl rfl rfl (Sure.assign rfl) ?_
  refine G.value rfl rfl rfl (Sure.assign rfl) ?_
  refine G.nil ?_
  refine C.seq ?_
  refine C.region_seq ?_
  refine G.call rfl rfl rfl rfl rfl rfl (awake17_spec M3) (Split.nil) ?_
  rintro _ M4 _ le4 ⟨rfl, rfl⟩
  refine G.value rfl rfl rfl (Sure.not rfl) ?_
  refine G.value rfl rfl rfl (Sure.move rfl) ?_
  refine G.value rfl rfl rfl (Sure.move rfl) ?_
  refine G.value rfl rfl rfl (ptr_eq_f rfl rfl) ?_
  refine G.value rfl rfl rfl (Sure.pick_false rfl rfl) ?_
  refine G.nil ?_
  refine C.cond_false rfl ?_
  refine C.skip ?_
  refine Fin.th ?_
  refine C.region_seq ?_
  refine G.value rfl rfl rfl (Sure.move rfl) ?_
  refine G.call rfl rfl rfl rfl rfl rfl (format_live M4 ad _ hok hal) (Split.one .here) ?_
  rintro _ M5 _ le5 ⟨jb, s, ch, rfl, hsv, hso, hlv, hcg, _, rfl⟩
  refine G.value rfl rfl rfl (Sure.move rfl) ?_
  refine G.value rfl rfl rfl (Sure.extract rfl rfl) ?_
  refine G.value rfl rfl rfl (Sure.extract rfl rfl) ?_
  refine G.value rfl rfl rfl (Sure.assign rfl) ?_
  refine G.value rfl rfl rfl (Sure.assign rfl) ?_
  refine G.nil ?_
  refine C.seq ?_
  refine C.region_seq ?_
  refine G.value rfl rfl rfl (Sure.move rfl) ?_
  refine G.value rfl rfl rfl ((Sure.neq rfl rfl).to_f (by decide)) ?_
  refine G.value rfl rfl rfl (Sure.move rfl) ?_
  refine G.value rfl rfl rfl (Sure.move rfl) ?_
  refine G.value rfl rfl rfl (ptr_eq_f rfl rfl) ?_
  refine G.value rfl rfl rfl (Sure.pick_false rfl rfl) ?_
  refine G.nil ?_
  refine C.cond_false rfl ?_
  refine C.skip ?_
  refine Fin.th ?_
  refine C.seq ?_
  refine C.region_seq ?_
  refine G.value rfl rfl rfl (Sure.assign rfl) ?_
  refine G.nil ?_
  rw [← hsv] at hlv
  have hjep : fmtJ.epoch ≤ 1 + ((0 : Nat) : Int) := by decide
  generalize fmtJ = j at hlv hjep ⊢
  have hle0 := le1.trans (le2.trans (le3.trans (le4.trans le5)))
  refine C.cutTop (fun E M' H => ∃ (ch : Chip) (j : Jr) (s : StaD), MLe M M' ∧ Live ad ch j s.v ∧ ch.g = geoW ∧ SOk M' s ∧ esub [(1, intV n), (5, ptr ad.cb), (7, ptr jb)] E ∧ ∃ R, Split ((jb, .cells (jrL ad.cb j s)) :: chipH ad ch) H R) ?_ ?_
  · refine C.block ?_
    refine C.loop (fun k E M' H => ∃ (i : Nat) (ch : Chip) (j : Jr) (s : StaD), MLe M M' ∧ i + k = ll.length ∧ i ≤ 10 ∧ Live ad ch j s.v ∧ ch.g = geoW ∧ j.epoch ≤ 1 + (i : Int) ∧ SOk M' s ∧ E = [(0, .slice p ll.length cap), (1, intV n), (5, ptr ad.cb), (7, ptr jb), (9, intV i)] ∧ H = (jb, .cells (jrL ad.cb j s)) :: chipH ad ch) (ll.length) ?_ ?_
    · exact ⟨_, _, ⟨0, ch, j, s, hle0, by omega, by omega, hlv, hcg, hjep, hso, rfl, rfl⟩, ⟨rfl, rfl, rfl, rfl, rfl, trivial⟩, [], Split.cons .here (Split.one .all)⟩
    · clear hso hlv hcg hsv hjep
      rintro k E M' H ⟨i, ch, j, s, hle, hik, hi10, hlv, hcg, hep, hso, rfl, rfl⟩
      rcases Nat.lt_or_ge i ll.length with hlt | hge
      · refine C.seq ?_
        refine C.region_seq ?_
        refine G.value rfl rfl rfl (Sure.move rfl) ?_
        refine G.value rfl rfl rfl (Sure.move rfl) ?_
        refine G.value rfl rfl rfl (Sure.len_slice rfl) ?_
        refine G.value rfl rfl rfl ((Sure.lss rfl rfl).to_t (by omega)) ?_
        refine G.value rfl rfl rfl (Sure.move rfl) ?_
        refine G.value rfl rfl rfl (Sure.move rfl) ?_
        refine G.value rfl rfl rfl (Sure.lss rfl rfl) ?_
        refine G.value rfl rfl rfl (Sure.pick_true rfl rfl) ?_
        refine G.nil ?_
        refine C.cond_dec rfl (fun h10 => ?_) (fun h10 => ?_)
        · have hx : ll[i] ∈ ll := List.getElem_mem hlt
          have hxe : ll[i]? = some ll[i] := List.getElem?_eq_getElem hlt
          generalize ll[i] = x at hx hxe
          have hxr := (hr.rd x hx).mono hle
          have hxf := hr.few x hx
          have hxg := hr.rg x hx
          obtain ⟨q1, o1, c1, hq1, hrd0, hseg1⟩ := SlL.row (i := i) (e := dlL x) (SlL.mono hr.sl hle) (by rw [List.getElem?_map, hxe]; rfl)
          have hrdm := hrd0.resolve_right (by simp)
          refine C.skip ?_
          refine Fin.th ?_
          refine C.seq ?_
          refine C.block ?_
          refine C.seq ?_
          refine C.region_seq ?_
          refine G.value rfl rfl rfl (Sure.move rfl) ?_
          refine G.value rfl rfl rfl (Sure.move rfl) ?_
          refine G.value rfl rfl rfl (Sure.indexAddr (congrArg (fun q => some (Value.slice q ll.length cap)) hq1) rfl (by omega)) ?_
          refine G.value rfl rfl rfl (Sure.load rfl (Rd.m hrdm) (seg_one (k := 0) hseg1 rfl)) ?_
          refine G.call rfl rfl rfl rfl rfl rfl (few_spec M' x.p x.cap x.dl hxr hxf) (Split.nil) ?_
          rintro _ M6 _ le6 ⟨rfl, rfl⟩
          by_cases hfew : fewN (x.dl.map DeedD.v) ≤ 3000
          · rw [decide_eq_true hfew]
            refine G.value rfl rfl rfl (Sure.not rfl) ?_
            have hln := few_length (x.dl.map DeedD.v)
            rw [List.length_map] at hln
            refine G.nil ?_
            refine C.cond_false rfl ?_
            refine C.skip ?_
            refine Fin.th ?_
            refine C.region_seq ?_
            refine G.value rfl rfl rfl (Sure.move rfl) ?_
            refine G.value rfl rfl rfl (Sure.move rfl) ?_
            refine G.value rfl rfl rfl (Sure.move rfl) ?_
            refine G.value rfl rfl rfl (Sure.indexAddr (congrArg (fun q => some (Value.slice q ll.length cap)) hq1) rfl (by omega)) ?_
            refine G.value rfl rfl rfl (Sure.load rfl (Rd.m (le6 _ _ hrdm)) (seg_one (k := 0) hseg1 rfl)) ?_
            refine G.call rfl rfl rfl rfl rfl rfl (clean_spec M6 x.p x.cap x.dl (hxr.mono le6) (by omega)) (Split.nil) ?_
            rintro _ M7 _ le7 ⟨rfl, dl, pc, cc, rfl, hrc, hvc⟩
            have hcl := commit_live M7 jb ad ch j s pc cc dl hlv ((hso.mono le6).mono le7) hrc (by rw [hvc]; exact cleans_canon hxg hfew) (by rw [hvc]; have := cleans_len (x.dl.map DeedD.v); omega) (by omega)
            refine G.call rfl rfl rfl rfl rfl rfl (hcl) (Split.one .all) ?_
            rintro _ M8 _ le8 ⟨ch', j', s', rfl, hso', hlv', hg', hep', hres⟩
            have hle' := hle.trans (le6.trans (le7.trans le8))
            rcases hres with ⟨rfl, _⟩ | ⟨rfl, _⟩
            · refine G.value rfl rfl rfl (Sure.assign rfl) ?_
              refine G.nil ?_
              refine C.region_seq ?_
              refine G.value rfl rfl rfl (Sure.move rfl) ?_
              refine G.value rfl rfl rfl ((Sure.neq rfl rfl).to_f (by decide)) ?_
              refine G.value rfl rfl rfl (Sure.move rfl) ?_
              refine G.skip rfl rfl rfl ?_
              refine G.skip rfl rfl rfl ?_
              refine G.value rfl rfl rfl (Sure.pick_false rfl rfl) ?_
              refine G.nil ?_
              refine C.cond_false rfl ?_
              refine C.skip ?_
              refine Fin.blk ?_
              refine Fin.th ?_
              refine C.region ?_
              refine G.value rfl rfl rfl (Sure.move rfl) ?_
              refine G.value rfl rfl rfl (Sure.add rfl rfl (inK64 (by omega))) ?_
              refine G.value rfl rfl rfl (Sure.assign rfl) ?_
              refine G.nil ?_
              refine Fin.th ?_
              exact ⟨k - 1, _, _, by omega, ⟨i + 1, ch', j', s', hle', by omega, by omega, hlv', hg'.trans hcg, by omega, hso', rfl, rfl⟩, ⟨rfl, rfl, rfl, rfl, rfl, trivial⟩, [], Split.cons .here (Split.one .all)⟩
            · skip
              refine G.value rfl rfl rfl (Sure.assign rfl) ?_
              refine G.nil ?_
              refine C.region_seq ?_
              refine G.value rfl rfl rfl (Sure.move rfl) ?_
              refine G.value rfl rfl rfl ((Sure.neq rfl rfl).to_t (by decide)) ?_
              refine G.value rfl rfl rfl (Sure.move rfl) ?_
              refine G.value rfl rfl rfl (Sure.move rfl) ?_
              refine G.value rfl rfl rfl ((Sure.neq rfl rfl).to_f (by decide)) ?_
              refine G.value rfl rfl rfl (Sure.pick_true rfl rfl) ?_
              refine G.nil ?_
              refine C.cond_false rfl ?_
              refine C.skip ?_
              refine Fin.blk ?_
              refine Fin.th ?_
              refine C.region ?_
              refine G.value rfl rfl rfl (Sure.move rfl) ?_
              refine G.value rfl rfl rfl (Sure.add rfl rfl (inK64 (by omega))) ?_
              refine G.value rfl rfl rfl (Sure.assign rfl) ?_
              refine G.nil ?_
              refine Fin.th ?_
              exact ⟨k - 1, _, _, by omega, ⟨i + 1, ch', j', s', hle', by omega, by omega, hlv', hg'.trans hcg, by omega, hso', rfl, rfl⟩, ⟨rfl, rfl, rfl, rfl, rfl, trivial⟩, [], Split.cons .here (Split.one .all)⟩
          · skip
            rw [decide_eq_false hfew]
            refine G.value rfl rfl rfl (Sure.not rfl) ?_
            refine G.nil ?_
            refine C.cond_true rfl ?_
            refine C.region_seq ?_
            refine G.value rfl rfl rfl (Sure.assign rfl) ?_
            refine G.nil ?_
            refine C.ret ?_
            refine Fin.th_ret ?_
            refine Fin.blk_ret ?_
            refine Fin.th_ret ?_
            refine Fin.th_ret ?_
            refine Fin.blk_ret ?_
            refine Fin.th_ret ?_
            exact Fin.fn (Res.tmp rfl rfl) Split.nil rfl
        · refine C.exit ?_
          refine Fin.th_exit ?_
          refine Fin.th_exit ?_
          refine Fin.blk_eq ?_
          refine Fin.th ?_
          exact ⟨ch, j, s, hle, hlv, hcg, hso, ⟨rfl, rfl, rfl, trivial⟩, [], Split.cons .here (Split.one .all)⟩
      · skip
        refine C.seq ?_
        refine C.region_seq ?_
        refine G.value rfl rfl rfl (Sure.move rfl) ?_
        refine G.value rfl rfl rfl (Sure.move rfl) ?_
        refine G.value rfl rfl rfl (Sure.len_slice rfl) ?_
        refine G.value rfl rfl rfl ((Sure.lss rfl rfl).to_f (by omega)) ?_
        refine G.value rfl rfl rfl (Sure.move rfl) ?_
        refine G.skip rfl rfl rfl ?_
        refine G.skip rfl rfl rfl ?_
        refine G.value rfl rfl rfl (Sure.pick_false rfl rfl) ?_
        refine G.nil ?_
        refine C.cond_false rfl ?_
        refine C.exit ?_
        refine Fin.th_exit ?_
        refine Fin.th_exit ?_
        refine Fin.blk_eq ?_
        refine Fin.th ?_
        exact ⟨ch, j, s, hle, hlv, hcg, hso, ⟨rfl, rfl, rfl, trivial⟩, [], Split.cons .here (Split.one .all)⟩
  · clear hso hlv hcg hsv hjep
    rintro E M6 H ⟨ch, j, s, hle, hlv, hcg, hso, hsub, R, hspl⟩
    refine C.weak hsub (C.sub hspl ?_)
    clear hspl hsub
    have hchl := hlv.ok.len
    rw [hcg] at hchl
    have hchl2 : ch.b.length = 16384 := by
      have h1 : geoW.sectors * geoW.sector = 16384 := by decide
      omega
    have hsm := hlv.small
    have hstk : StaOk s.v := staOk_small (by omega)
    refine C.region_seq ?_
    refine G.value rfl rfl rfl (Sure.assign rfl) ?_
    refine G.nil ?_
    refine C.region_seq ?_
    refine G.value rfl rfl rfl (Sure.move rfl) ?_
    refine G.value rfl rfl rfl (Sure.move rfl) ?_
    refine G.call rfl rfl rfl rfl rfl rfl (read_spec M6 ad ch 0 16384 hlv.ok (by omega)) (Split.one (.there .all)) ?_
    rintro _ M7 _ le7 ⟨rfl, p1, c1, rfl, hb1⟩
    have hbl : (List.take 16384 (List.drop 0 ch.b)).length = 16384 := by simp; omega
    generalize hbs : List.take 16384 (List.drop 0 ch.b) = bs at hb1 hbl
    have hwn := u64_wrap_bd n
    obtain ⟨m, hm⟩ : ∃ m : Nat, 1 + IntKind.u64.wrap n % 4 = m := ⟨(1 + IntKind.u64.wrap n % 4).toNat, by omega⟩
    have hm2 : 1 ≤ m ∧ m ≤ 4 := by omega
    refine G.value rfl rfl rfl (Sure.move rfl) ?_
    refine G.value rfl rfl rfl (Sure.extract rfl rfl) ?_
    refine G.value rfl rfl rfl (Sure.extract rfl rfl) ?_
    refine G.value rfl rfl rfl (Sure.assign rfl) ?_
    refine G.value rfl rfl rfl (Sure.assign rfl) ?_
    refine G.nil ?_
    refine C.seq ?_
    refine C.region_seq ?_
    refine G.value rfl rfl rfl (Sure.assign rfl) ?_
    refine G.nil ?_
    refine C.block ?_
    refine C.loop (fun k E M' H => ∃ i : Nat, MLe M7 M' ∧ i + k = m ∧ E = [(1, intV n), (5, ptr ad.cb), (7, ptr jb), (11, intV 16384), (12, .slice p1 16384 c1), (14, intV i)] ∧ H = (jb, .cells (jrL ad.cb j s)) :: chipH ad ch) (m) ?_ ?_
    · exact ⟨_, _, ⟨0, MLe.refl _, by omega, rfl, rfl⟩, ⟨rfl, rfl, rfl, rfl, rfl, rfl, trivial⟩, [], Split.cons pkx (Split.one .all)⟩
    · rintro k E M' H ⟨i, hle7, hik, rfl, rfl⟩
      refine C.seq ?_
      refine C.region_seq ?_
      refine G.value rfl rfl rfl (Sure.move rfl) ?_
      refine G.value rfl rfl rfl (Sure.move rfl) ?_
      refine G.value rfl rfl rfl (Sure.conv' rfl) ?_
      refine G.value rfl rfl rfl (Sure.rem rfl rfl (by omega) (by decide)) ?_
      refine G.value rfl rfl rfl (Sure.conv rfl (inK64 (by omega))) ?_
      refine G.value rfl rfl rfl (Sure.add rfl rfl (inK64 (by omega))) ?_
      refine G.value rfl rfl rfl (Sure.lss rfl rfl) ?_
      refine G.nil ?_
      refine C.cond_dec rfl (fun hlt => ?_) (fun hlt => ?_)
      · refine C.skip ?_
        refine Fin.th ?_
        refine C.seq ?_
        refine C.block ?_
        refine C.region_seq ?_
        refine G.value rfl rfl rfl (Sure.move rfl) ?_
        refine G.call rfl rfl rfl rfl rfl rfl (open_live M' ad ch j s.v hlv) (Split.one (.there .all)) ?_
        rintro _ M8 _ le8 ⟨ob, s5, rfl, hs5, hso5, rfl⟩
        have hlv5 : Live ad ch j s5.v := by rw [hs5]; exact hlv
        refine G.value rfl rfl rfl (Sure.move rfl) ?_
        refine G.value rfl rfl rfl (Sure.extract rfl rfl) ?_
        refine G.value rfl rfl rfl (Sure.extract rfl rfl) ?_
        refine G.value rfl rfl rfl (Sure.assign rfl) ?_
        refine G.value rfl rfl rfl (Sure.assign rfl) ?_
        refine G.nil ?_
        refine C.region_seq ?_
        refine G.value rfl rfl rfl (Sure.move rfl) ?_
        refine G.value rfl rfl rfl ((Sure.neq rfl rfl).to_f (by decide)) ?_
        refine G.value rfl rfl rfl (Sure.move rfl) ?_
        refine G.value rfl rfl rfl (Sure.move rfl) ?_
        refine G.value rfl rfl rfl (ptr_eq_f rfl rfl) ?_
        refine G.value rfl rfl rfl (Sure.pick_false rfl rfl) ?_
        refine G.value rfl rfl rfl (Sure.move rfl) ?_
        refine G.value rfl rfl rfl (Sure.move rfl) ?_
        refine G.call rfl rfl rfl rfl rfl rfl (jstate_live M8 ob ad ch j s5 hlv5 hso5) (Split.cons pkx Split.nil) ?_
        rintro _ M9 _ le9 ⟨rfl, -, s6, hs6, rfl, hso6⟩
        refine G.value rfl rfl rfl (Sure.move rfl) ?_
        refine G.call rfl rfl rfl rfl rfl rfl (jstate_live M9 jb ad ch j s hlv ((hso.mono (le7.trans hle7)).mono (le8.trans le9))) (Split.cons pkx Split.nil) ?_
        rintro _ M10 _ le10 ⟨rfl, -, s7, hs7, rfl, hso7⟩
        refine G.call rfl rfl rfl rfl rfl rfl (state_spec M10 s6 s7 (hso6.mono le10) hso7 (by rw [hs6, hs5]; exact hstk)) (Split.nil) ?_
        rintro _ M11 _ le11 ⟨rfl, rfl⟩
        rw [show staEq s6.v s7.v = true from by rw [hs6, hs5, hs7]; exact staEq_refl _]
        refine G.value rfl rfl rfl (Sure.not rfl) ?_
        refine G.value rfl rfl rfl (Sure.pick_false rfl rfl) ?_
        refine G.value rfl rfl rfl (Sure.move rfl) ?_
        refine G.value rfl rfl rfl (Sure.move rfl) ?_
        refine G.call rfl rfl rfl rfl rfl rfl (epoch_spec M11 ob ad.cb j s5) (Split.cons pkx Split.nil) ?_
        rintro _ M12 _ le12 ⟨rfl, rfl⟩
        refine G.value rfl rfl rfl (Sure.move rfl) ?_
        refine G.call rfl rfl rfl rfl rfl rfl (epoch_spec M12 jb ad.cb j s) (Split.cons pkx Split.nil) ?_
        rintro _ M13 _ le13 ⟨rfl, rfl⟩
        refine G.value rfl rfl rfl ((Sure.neq rfl rfl).to_f (by simp)) ?_
        refine G.value rfl rfl rfl (Sure.pick_false rfl rfl) ?_
        refine G.value rfl rfl rfl (Sure.move rfl) ?_
        refine G.value rfl rfl rfl (Sure.move rfl) ?_
        refine G.call rfl rfl rfl rfl rfl rfl (half_spec M13 ob ad.cb j s5) (Split.cons pkx Split.nil) ?_
        rintro _ M14 _ le14 ⟨rfl, rfl⟩
        refine G.value rfl rfl rfl (Sure.move rfl) ?_
        refine G.call rfl rfl rfl rfl rfl rfl (half_spec M14 jb ad.cb j s) (Split.cons pkx Split.nil) ?_
        rintro _ M15 _ le15 ⟨rfl, rfl⟩
        refine G.value rfl rfl rfl ((Sure.neq rfl rfl).to_f (by simp)) ?_
        refine G.value rfl rfl rfl (Sure.pick_false rfl rfl) ?_
        refine G.nil ?_
        refine C.cond_false rfl ?_
        refine C.skip ?_
        refine Fin.blk ?_
        refine Fin.th ?_
        refine C.region ?_
        refine G.value rfl rfl rfl (Sure.move rfl) ?_
        refine G.value rfl rfl rfl (Sure.add rfl rfl (inK64 (by omega))) ?_
        refine G.value rfl rfl rfl (Sure.assign rfl) ?_
        refine G.nil ?_
        refine Fin.th ?_
        refine ⟨k - 1, _, _, by omega, ⟨i + 1, hle7.trans (le8.trans (le9.trans (le10.trans (le11.trans (le12.trans (le13.trans (le14.trans le15))))))), by omega, rfl, rfl⟩, ⟨rfl, rfl, rfl, rfl, rfl, rfl, trivial⟩, [(ob, .cells (jrL ad.cb j s5))], ?_⟩
        exact Split.cons .here (Split.one (.there .all))
      · refine C.exit ?_
        refine Fin.th_exit ?_
        refine Fin.th_exit ?_
        refine Fin.blk_eq ?_
        refine Fin.th ?_
        refine C.region_seq ?_
        refine G.value rfl rfl rfl (Sure.move rfl) ?_
        refine G.value rfl rfl rfl (Sure.move rfl) ?_
        refine G.call rfl rfl rfl rfl rfl rfl (read_spec M' ad ch 0 16384 hlv.ok (by omega)) (Split.one (.there .all)) ?_
        rintro _ M8 _ le8 ⟨rfl, p2, c2, rfl, hb2⟩
        rw [hbs] at hb2
        have hby := bytes_spec M8 p1 p2 c1 c2 bs bs ((hb1.mono hle7).mono le8).1 hb2.1
        rw [hbl] at hby
        refine G.value rfl rfl rfl (Sure.move rfl) ?_
        refine G.value rfl rfl rfl (Sure.extract rfl rfl) ?_
        refine G.value rfl rfl rfl (Sure.extract rfl rfl) ?_
        refine G.value rfl rfl rfl (Sure.assign rfl) ?_
        refine G.value rfl rfl rfl (Sure.assign rfl) ?_
        refine G.nil ?_
        refine C.region_seq ?_
        refine G.value rfl rfl rfl (Sure.move rfl) ?_
        refine G.value rfl rfl rfl (Sure.move rfl) ?_
        refine G.call rfl rfl rfl rfl rfl rfl (hby) (Split.nil) ?_
        rintro _ M9 _ le9 ⟨rfl, rfl⟩
        rw [show decide (bs = bs) = true from by simp]
        refine G.value rfl rfl rfl (Sure.move rfl) ?_
        refine G.value rfl rfl rfl (Sure.move rfl) ?_
        refine G.value rfl rfl rfl (Sure.len_slice rfl) ?_
        refine G.value rfl rfl rfl (Sure.move rfl) ?_
        refine G.value rfl rfl rfl (Sure.eql rfl rfl) ?_
        refine G.value rfl rfl rfl (Sure.pick_true rfl rfl) ?_
        refine G.value rfl rfl rfl (Sure.assign rfl) ?_
        refine G.nil ?_
        refine C.ret ?_
        exact Fin.fn (Res.tmp rfl rfl) Split.nil (by simp)
end Go.Proofs.YtaeeahcokiebdaaGreat

/-
  Deeds among a law's arguments: what the reading of them gives.
  Conditions: none but those of the reading.
-/
namespace Go.Proofs.YtaeeahcokiebdaaGreat
open Go.ChangeShapes Go.WideShapes Go.ChangeAt Go.RowKit
set_option maxRecDepth 20000

section
variable {H : Type} {enc : TypeId × Value → H} {P : Program} {W : World} {spare : Nat → Bool} {held : Bool}
theorem bulkAll_mem {d : DataW H} {l : List (DataW H)} (h : d ∈ l) : Rows.uptoBulk d ≤ Rows.uptoBulkAll l := by
  induction l with
  | nil => cases h
  | cons x r ih =>
    simp only [Rows.uptoBulkAll]
    rcases List.mem_cons.1 h with rfl | e
    · omega
    · have := ih e; omega
theorem cell_mem {a : Addr} {v : Value} (h : W.cell? a = some v) : a.spot = Option.none ∧ ∃ c, memOf W a.block = some c ∧ c[a.off]? = some v := by
  unfold World.cell? at h
  split at h
  · rename_i c T fz e
    split at h
    · cases h
    · rename_i hs
      refine ⟨by simpa using hs, c.toList, ?_, by simpa using h⟩
      unfold memOf
      rw [e]
  · cases h
theorem addr_add_block (a : Addr) (i : Nat) : (a.add i).block = a.block := by unfold Addr.add; split <;> rfl
theorem addr_add_off (a : Addr) (i : Nat) : (a.add i).off = a.off + i := by
  unfold Addr.add
  split
  · rename_i h; rw [h]; rfl
  · rfl
theorem cells_mem {a : Addr} {n : Nat} {cs : List Value} (h : W.cells? 0 a n = some cs) (hn : 0 < n) :
    a.spot = Option.none ∧ ∃ c, memOf W a.block = some c ∧ cs = (c.drop a.off).take n ∧ a.off + n ≤ c.length ∧ cs.length = n := by
  obtain ⟨_, hl, hc⟩ := World.cells?_some h
  have h0 := hc 0 hn
  have hz : a.add 0 = a := rfl
  rw [hz, List.getElem?_eq_getElem (by omega)] at h0
  obtain ⟨hs, c, hm, _⟩ := cell_mem h0
  have hall : ∀ i, i < n → c[a.off + i]? = cs[i]? := by
    intro i hi
    have h1 := hc i hi
    rw [List.getElem?_eq_getElem (show i < cs.length by omega)] at h1
    obtain ⟨_, c', hm', h2⟩ := cell_mem h1
    rw [addr_add_block, hm] at hm'
    injection hm' with hm'
    subst hm'
    rw [addr_add_off] at h2
    rw [h2, List.getElem?_eq_getElem (show i < cs.length by omega)]
  have hlast := hall (n - 1) (by omega)
  rw [List.getElem?_eq_getElem (show n - 1 < cs.length by omega)] at hlast
  have hlt := (List.getElem?_eq_some_iff.1 hlast).1
  refine ⟨hs, c, hm, ?_, by omega, hl⟩
  apply List.ext_getElem?
  intro i
  by_cases hi : i < n
  · rw [← hall i hi, List.getElem?_take_of_lt hi, List.getElem?_drop]
  · rw [List.getElem?_eq_none (by omega), List.getElem?_eq_none (by simp; omega)]
/-- A slice, its elements by what they are. -/
theorem open_list {α : Type} [Inhabited α] {t e : TypeId} {sz fuel : Nat} {cs : List Value} {x : DataW H × List MemPlace} (cell : α → List Value) (ok : α → Prop) (meas : α → Nat)
    (ht : P.underlying t = some (.slice e)) (hsz : P.cellsOf e = sz) (h0 : 0 < sz)
    (hel : ∀ n row y, DataW.trod enc P W 0 spare held n e row = some y → ∃ a, row = cell a ∧ ok a ∧ meas a ≤ Rows.uptoBulk y.1)
    (h : DataW.trod enc P W 0 spare held fuel t cs = some x) :
    ∃ (la : List α) (p : Option Addr) (cap : Nat), cs = [.slice p la.length cap] ∧ SlL (memOf W) [] sz p (la.map cell) ∧ (∀ a ∈ la, ok a) ∧ (la.map meas).sum ≤ Rows.uptoBulk x.1 := by
  rcases DataW.trod_slice ht h with ⟨rfl, rfl⟩ | ⟨a, len, cap, elems, rest, n, _, rfl, rfl, hb, hl, hm, hlen, hel', _, _⟩
  · exact ⟨[], Option.none, 0, rfl, ⟨by simp, Sl.empty⟩, by simp, by simp⟩
  · have hone : ∀ i, i < len → ∃ z : α, ∃ y, elems[i]? = some y ∧ W.cells? 0 (a.add (i * sz)) sz = some (cell z) ∧ ok z ∧ meas z ≤ Rows.uptoBulk y.1 := by
      intro i hi
      have h1 := hel' i hi
      rw [hsz, List.getElem?_eq_getElem (show i < elems.length by omega)] at h1
      obtain ⟨row, h2, h3⟩ := Option.bind_eq_some_iff.1 h1
      obtain ⟨z, rfl, h4, h5⟩ := hel n row _ h3
      exact ⟨z, _, List.getElem?_eq_getElem _, h2, h4, h5⟩
    have hf : ∃ f : Nat → α, ∀ i, i < len → ∃ y, elems[i]? = some y ∧ W.cells? 0 (a.add (i * sz)) sz = some (cell (f i)) ∧ ok (f i) ∧ meas (f i) ≤ Rows.uptoBulk y.1 := by
      classical
      refine ⟨fun i => if hi : i < len then Classical.choose (hone i hi) else default, fun i hi => ?_⟩
      simp only [dif_pos hi]
      exact Classical.choose_spec (hone i hi)
    obtain ⟨f, hf⟩ := hf
    refine ⟨(List.range len).map f, some a, cap, by simp, ⟨?_, ?_⟩, ?_, ?_⟩
    · intro r hr
      simp only [List.mem_map, List.mem_range] at hr
      obtain ⟨z, ⟨i, hi, rfl⟩, rfl⟩ := hr
      obtain ⟨y, _, h2, _⟩ := hf i hi
      exact (cells_mem h2 h0).2.choose_spec.2.2.2
    · have hrows : ∀ m, m ≤ len → 0 < m → a.spot = Option.none ∧ ∃ c, memOf W a.block = some c ∧ seg c a.off (m * sz) = some (((List.range m).map f).map cell).flatten := by
        intro m
        induction m with
        | zero => intro _ h; omega
        | succ m ih =>
          intro hm1 _
          obtain ⟨y, _, h2, _⟩ := hf m (by omega)
          obtain ⟨hs1, c1, hc1, hr1, hr2, hr3⟩ := cells_mem h2 h0
          rw [addr_add_block] at hc1
          rw [addr_add_off] at hr1 hr2
          have hfl : (((List.range (m + 1)).map f).map cell).flatten = (((List.range m).map f).map cell).flatten ++ cell (f m) := by rw [List.range_succ]; simp
          by_cases h0m : m = 0
          · subst h0m
            obtain ⟨y, _, h2, _⟩ := hf 0 (by omega)
            obtain ⟨hs2, _⟩ := cells_mem h2 h0
            have hz : a.add (0 * sz) = a := by rw [Nat.zero_mul]; rfl
            rw [hz] at hs2
            refine ⟨hs2, c1, hc1, ?_⟩
            rw [hfl]
            unfold seg
            rw [takeN_eq (by simp; omega)]
            rw [hr1]
            simp
          · obtain ⟨hs2, c2, hc2, hse⟩ := ih (by omega) (by omega)
            rw [hc1] at hc2
            injection hc2 with hc2
            subst hc2
            refine ⟨hs2, c1, hc1, ?_⟩
            obtain ⟨hse1, _⟩ := seg_some hse
            rw [hfl, hse1, hr1]
            unfold seg
            have hmul : (m + 1) * sz = m * sz + sz := by rw [Nat.add_mul, Nat.one_mul]
            rw [takeN_eq (by simp; omega), hmul, List.take_add, List.drop_drop]
      have hrl : ∀ r ∈ ((List.range len).map f).map cell, r.length = sz := by
        intro r hr
        simp only [List.mem_map, List.mem_range] at hr
        obtain ⟨z, ⟨i, hi, rfl⟩, rfl⟩ := hr
        obtain ⟨y, _, h2, _⟩ := hf i hi
        exact (cells_mem h2 h0).2.choose_spec.2.2.2
      have hfl2 : ∀ l : List (List Value), (∀ r ∈ l, r.length = sz) → l.flatten.length = l.length * sz := by
        intro l
        induction l with
        | nil => simp
        | cons x l ih =>
          intro h
          rw [List.flatten_cons, List.length_append, ih fun r hr => h r (by simp [hr]), h x (by simp), List.length_cons, Nat.add_mul, Nat.one_mul]
          omega
      refine ⟨by rw [hfl2 _ hrl], fun hn => ?_⟩
      rw [List.length_map, List.length_map, List.length_range] at hn ⊢
      obtain ⟨hs, c, hc, hse⟩ := hrows len (Nat.le_refl _) hn
      refine ⟨a.block, a.off, c, ?_, .inl hc, hse⟩
      obtain ⟨ab, ao, sp⟩ := a
      cases hs
      rfl
    · intro z hz
      simp only [List.mem_map, List.mem_range] at hz
      obtain ⟨i, hi, rfl⟩ := hz
      obtain ⟨y, _, _, h3, _⟩ := hf i hi
      exact h3
    · show _ ≤ Rows.uptoBulkAll (elems.map (·.1)) + Rows.uptoBulkAll (rest.map (·.1)) + 1
      have hsum : ∀ m, m ≤ len → (((List.range m).map f).map meas).sum ≤ Rows.uptoBulkAll ((elems.take m).map (·.1)) := by
        intro m
        induction m with
        | zero => intro _; simp
        | succ m ih =>
          intro hm1
          obtain ⟨y, h1, _, _, h4⟩ := hf m (by omega)
          have h5 := ih (by omega)
          have h6 : elems.take (m + 1) = elems.take m ++ [y] := by
            rw [List.take_add_one, h1]; rfl
          have h7 : ∀ l r : List (DataW H), Rows.uptoBulkAll (l ++ r) = Rows.uptoBulkAll l + Rows.uptoBulkAll r := by
            intro l r
            induction l with
            | nil => simp [Rows.uptoBulkAll]
            | cons x l ih => simp only [List.cons_append, Rows.uptoBulkAll, ih]; omega
          rw [h6, List.map_append, h7, List.range_succ, List.map_append, List.map_append, List.sum_append]
          simp only [List.map_cons, List.map_nil, List.sum_cons, List.sum_nil, Rows.uptoBulkAll]
          omega
      have := hsum len (Nat.le_refl _)
      rw [List.take_of_length_le (by omega)] at this
      omega
/-- A struct, its parts one by one. -/
theorem open_parts {t : TypeId} {fs : Array Field} {fuel : Nat} {cs : List Value} {x : DataW H × List MemPlace} (ht : P.underlying t = some (.struct fs)) (h : DataW.trod enc P W 0 spare held fuel t cs = some x) :
    ∃ (n : Nat) (xs : List (DataW H × List MemPlace)), cs.length = P.cellsOf t ∧ xs.length = fs.size ∧ Rows.uptoBulk x.1 = Rows.uptoBulkAll (xs.map (·.1)) + 1 ∧
      ∀ (i : Nat) (f : Field), fs[i]? = some f → DataW.trod enc P W 0 spare held n f.type ((cs.drop f.offset).take (P.cellsOf f.type)) = xs[i]? := by
  obtain ⟨xs, n, _, rfl, h1, h2, h3⟩ := DataW.trod_struct ht h
  exact ⟨n, xs, h1, h2, rfl, h3⟩
theorem part_at {fs : Array Field} {n : Nat} {cs : List Value} {xs : List (DataW H × List MemPlace)} (h4 : ∀ (i : Nat) (f : Field), fs[i]? = some f → DataW.trod enc P W 0 spare held n f.type ((cs.drop f.offset).take (P.cellsOf f.type)) = xs[i]?)
    (i o c : Nat) (ty : TypeId) {f : Field} (hf : fs[i]? = some f) (ho : f.offset = o) (hty : f.type = ty) (hc : P.cellsOf ty = c) : DataW.trod enc P W 0 spare held n ty ((cs.drop o).take c) = xs[i]? := by
  subst ho hty hc
  exact h4 i f hf
theorem i64_wf {n : Int} (h : (Lit.int .i64 n).wf = true) : InR n := by
  simp only [Lit.wf, Bool.and_eq_true, decide_eq_true_eq] at h
  exact ⟨h.1, h.2⟩
end
instance : Inhabited Entry := ⟨⟨⟨#[]⟩, 0⟩⟩
instance : Inhabited Run := ⟨⟨0, 0, 0⟩⟩
instance : Inhabited DeedD := ⟨⟨0, 0, inoD0⟩⟩
section
variable {H : Type} {enc : TypeId × Value → H} {W : World} {spare : Nat → Bool} {held : Bool} {n : Nat} {cs : List Value} {y : DataW H × List MemPlace}
theorem cellsOf_int : Tryz.prog.cellsOf 3 = 1 := by kernel_rfl
theorem cellsOf_string : Tryz.prog.cellsOf 9 = 1 := by kernel_rfl
theorem cellsOf_entry : Tryz.prog.cellsOf 119 = 2 := by kernel_rfl
theorem cellsOf_run : Tryz.prog.cellsOf 131 = 3 := by kernel_rfl
theorem cellsOf_ents : Tryz.prog.cellsOf 41 = 1 := by kernel_rfl
theorem cellsOf_runs : Tryz.prog.cellsOf 42 = 1 := by kernel_rfl
theorem cellsOf_inode : Tryz.prog.cellsOf 44 = 7 := by kernel_rfl
theorem cellsOf_deed : Tryz.prog.cellsOf 46 = 9 := by kernel_rfl
theorem cellsOf_deeds : Tryz.prog.cellsOf 47 = 1 := by kernel_rfl
theorem two_of {α : Type} {xs : List α} (h : xs.length = 2) : ∃ a b, xs = [a, b] := by match xs, h with | [a, b], _ => exact ⟨a, b, rfl⟩
theorem three_of {α : Type} {xs : List α} (h : xs.length = 3) : ∃ a b c, xs = [a, b, c] := by match xs, h with | [a, b, c], _ => exact ⟨a, b, c, rfl⟩
theorem seven_of {α : Type} {xs : List α} (h : xs.length = 7) : ∃ a b c d e f g, xs = [a, b, c, d, e, f, g] := by match xs, h with | [a, b, c, d, e, f, g], _ => exact ⟨a, b, c, d, e, f, g, rfl⟩
theorem nine_of {α : Type} {xs : List α} (h : xs.length = 9) : ∃ a b c d e f g i j, xs = [a, b, c, d, e, f, g, i, j] := by match xs, h with | [a, b, c, d, e, f, g, i, j], _ => exact ⟨a, b, c, d, e, f, g, i, j, rfl⟩
theorem open_entry (h : DataW.trod enc Tryz.prog W 0 spare held n 119 cs = some y) :
    ∃ e : Entry, cs = entL e ∧ InR e.no ∧ e.name.size + 1 ≤ Rows.uptoBulk y.1 := by
  obtain ⟨k, xs, h1, h2, h3, h4⟩ := open_parts Tryz.underlying119 h
  rw [cellsOf_entry] at h1
  obtain ⟨c0, c1, rfl⟩ := two_of h1
  obtain ⟨x0, x1, rfl⟩ := two_of h2
  have f0 := part_at h4 0 0 1 9 rfl rfl rfl cellsOf_string
  have f1 := part_at h4 1 1 1 3 rfl rfl rfl cellsOf_int
  obtain ⟨s, e0, rfl, _⟩ := DataW.trod_string Tryz.underlying9 f0
  obtain ⟨z, e1, rfl, hz⟩ := DataW.trod_int Tryz.underlying3 f1
  cases e0
  cases e1
  refine ⟨⟨s, z⟩, rfl, i64_wf hz, ?_⟩
  rw [h3]
  simp only [List.map_cons, List.map_nil, Rows.uptoBulkAll, Rows.uptoBulk, Array.length_toList]
  have hss : s.size = s.data.size := rfl
  show s.size + 1 ≤ _
  omega
theorem open_run (h : DataW.trod enc Tryz.prog W 0 spare held n 131 cs = some y) :
    ∃ r : Run, cs = runL r ∧ (InR r.fr ∧ InR r.ad ∧ InR r.cnt) ∧ 1 ≤ Rows.uptoBulk y.1 := by
  obtain ⟨k, xs, h1, h2, h3, h4⟩ := open_parts Tryz.underlying131 h
  rw [cellsOf_run] at h1
  obtain ⟨c0, c1, c2, rfl⟩ := three_of h1
  obtain ⟨x0, x1, x2, rfl⟩ := three_of h2
  have f0 := part_at h4 0 0 1 3 rfl rfl rfl cellsOf_int
  have f1 := part_at h4 1 1 1 3 rfl rfl rfl cellsOf_int
  have f2 := part_at h4 2 2 1 3 rfl rfl rfl cellsOf_int
  obtain ⟨z0, e0, rfl, w0⟩ := DataW.trod_int Tryz.underlying3 f0
  obtain ⟨z1, e1, rfl, w1⟩ := DataW.trod_int Tryz.underlying3 f1
  obtain ⟨z2, e2, rfl, w2⟩ := DataW.trod_int Tryz.underlying3 f2
  cases e0
  cases e1
  cases e2
  exact ⟨⟨z0, z1, z2⟩, rfl, ⟨i64_wf w0, i64_wf w1, i64_wf w2⟩, by rw [h3]; omega⟩
/-- What a deed's reading gives, but for how much there is. -/
structure DeedRd (W : World) (d : DeedD) : Prop where
  ok : DOk (memOf W) d.d
  rg : DeedIn d.v
theorem entsN_ten (le : List Entry) : entsN le ≤ 10 * (le.map fun e => e.name.size + 1).sum := by
  induction le with
  | nil => simp [entsN]
  | cons e l ih => rw [entsN_cons, List.map_cons, List.sum_cons]; omega
theorem sum_ones (l : List Run) : (l.map fun _ => 1).sum = l.length := by
  induction l with
  | nil => rfl
  | cons e l ih => rw [List.map_cons, List.sum_cons, List.length_cons, ih]; omega
theorem open_deed (h : DataW.trod enc Tryz.prog W 0 spare held n 46 cs = some y) :
    ∃ d : DeedD, cs = deedDL d ∧ DeedRd W d ∧ fewD d.v ≤ 20 * Rows.uptoBulk y.1 := by
  obtain ⟨k, xs, h1, h2, h3, h4⟩ := open_parts Tryz.underlying46 h
  rw [cellsOf_deed] at h1
  obtain ⟨c0, c1, c2, c3, c4, c5, c6, c7, c8, rfl⟩ := nine_of h1
  obtain ⟨x0, x1, x2, rfl⟩ := three_of h2
  have f0 := part_at h4 0 0 1 3 rfl rfl rfl cellsOf_int
  have f1 := part_at h4 1 1 1 3 rfl rfl rfl cellsOf_int
  have f2 := part_at h4 2 2 7 44 rfl rfl rfl cellsOf_inode
  obtain ⟨z0, e0, rfl, w0⟩ := DataW.trod_int Tryz.underlying3 f0
  obtain ⟨z1, e1, rfl, w1⟩ := DataW.trod_int Tryz.underlying3 f1
  cases e0
  cases e1
  obtain ⟨k', ys, g1, g2, g3, g4⟩ := open_parts Tryz.underlying44 f2
  obtain ⟨y0, y1, y2, y3, y4, y5, y6, rfl⟩ := seven_of g2
  have i0 := part_at g4 0 0 1 3 rfl rfl rfl cellsOf_int
  have i1 := part_at g4 1 1 1 3 rfl rfl rfl cellsOf_int
  have i2 := part_at g4 2 2 1 3 rfl rfl rfl cellsOf_int
  have i3 := part_at g4 3 3 1 3 rfl rfl rfl cellsOf_int
  have i4 := part_at g4 4 4 1 9 rfl rfl rfl cellsOf_string
  have i5 := part_at g4 5 5 1 41 rfl rfl rfl cellsOf_ents
  have i6 := part_at g4 6 6 1 42 rfl rfl rfl cellsOf_runs
  obtain ⟨a0, e0, rfl, v0⟩ := DataW.trod_int Tryz.underlying3 i0
  obtain ⟨a1, e1, rfl, v1⟩ := DataW.trod_int Tryz.underlying3 i1
  obtain ⟨a2, e2, rfl, v2⟩ := DataW.trod_int Tryz.underlying3 i2
  obtain ⟨a3, e3, rfl, v3⟩ := DataW.trod_int Tryz.underlying3 i3
  obtain ⟨s, e4, rfl, _⟩ := DataW.trod_string Tryz.underlying9 i4
  obtain ⟨le, pe, ce, e5, he1, he2, he3⟩ := open_list entL (fun e : Entry => InR e.no) (fun e => e.name.size + 1) Tryz.underlying41 cellsOf_entry (by decide) (fun n row y h => open_entry h) i5
  obtain ⟨lr, pr, cr, e6, hr1, hr2, hr3⟩ := open_list runL (fun r : Run => InR r.fr ∧ InR r.ad ∧ InR r.cnt) (fun _ => 1) Tryz.underlying42 cellsOf_run (by decide) (fun n row y h => open_run h) i6
  cases e0
  cases e1
  cases e2
  cases e3
  cases e4
  cases e5
  cases e6
  refine ⟨⟨z0, z1, ⟨⟨a0, a1, a2, a3, s, le, lr⟩, pe, ce, pr, cr⟩⟩, rfl, ⟨⟨he1, hr1⟩, i64_wf w0, i64_wf w1, ⟨i64_wf v0, i64_wf v1, i64_wf v2, i64_wf v3⟩, he2, hr2⟩, ?_⟩
  have hen := entsN_ten le
  have hrn := sum_ones lr
  rw [hrn] at hr3
  show 10 + s.size + lr.length + entsN le ≤ _
  rw [h3]
  simp only [List.map_cons, List.map_nil, Rows.uptoBulkAll] at g3 ⊢
  rw [g3]
  simp only [Rows.uptoBulk, Array.length_toList]
  have hss : s.size = s.data.size := rfl
  omega
theorem open_deeds (h : DataW.trod enc Tryz.prog W 0 spare held n 47 cs = some y) :
    ∃ (dl : List DeedD) (p : Option Addr) (cap : Nat), cs = [.slice p dl.length cap] ∧ RDeeds (memOf W) p dl ∧ (∀ d ∈ dl, DeedRd W d) ∧ fewN (dl.map DeedD.v) ≤ 20 * Rows.uptoBulk y.1 := by
  obtain ⟨dl, p, cap, h1, h2, h3, h4⟩ := open_list deedDL (DeedRd W) (fun d => (fewD d.v + 19) / 20) Tryz.underlying47 cellsOf_deed (by decide) (fun n row y h => by
    obtain ⟨d, h1, h2, h3⟩ := open_deed h
    exact ⟨d, h1, h2, by omega⟩) h
  refine ⟨dl, p, cap, h1, ⟨h2, fun d hd => (h3 d hd).ok⟩, h3, ?_⟩
  have : fewN (dl.map DeedD.v) ≤ 20 * (dl.map fun d => (fewD d.v + 19) / 20).sum := by
    clear h1 h2 h3 h4
    induction dl with
    | nil => simp [fewN]
    | cons d l ih => rw [List.map_cons, fewN_cons, List.map_cons, List.sum_cons]; omega
  omega
instance : Inhabited DlD := ⟨⟨[], Option.none, 0⟩⟩
theorem open_deedss (h : DataW.trod enc Tryz.prog W 0 spare held n 53 cs = some y) (hb : Rows.uptoBulk y.1 ≤ 1048576) :
    ∃ (ll : List DlD) (p : Option Addr) (cap : Nat), cs = [.slice p ll.length cap] ∧ RDls (memOf W) p ll := by
  obtain ⟨ll, p, cap, h1, h2, h3, h4⟩ := open_list dlL (fun x => RDeeds (memOf W) x.p x.dl ∧ (∀ d ∈ x.dl, DeedRd W d)) (fun x => (fewN (x.dl.map DeedD.v) + 19) / 20) Tryz.underlying53 cellsOf_deeds (by decide) (fun n row y h => by
    obtain ⟨dl, p, cap, h1, h2, h3, h4⟩ := open_deeds h
    exact ⟨⟨dl, p, cap⟩, h1, ⟨h2, h3⟩, by show (fewN (dl.map DeedD.v) + 19) / 20 ≤ _; omega⟩) h
  refine ⟨ll, p, cap, h1, h2, fun x hx => (h3 x hx).1, fun x hx d hd => ?_, fun x hx => ?_⟩
  · obtain ⟨e, he, rfl⟩ := List.mem_map.1 hd
    exact ((h3 x hx).2 e he).rg
  · have : ∀ l : List DlD, x ∈ l → (fewN (x.dl.map DeedD.v) + 19) / 20 ≤ (l.map fun x => (fewN (x.dl.map DeedD.v) + 19) / 20).sum := by
      intro l
      induction l with
      | nil => intro h; cases h
      | cons d l ih =>
        intro h
        rw [List.map_cons, List.sum_cons]
        rcases List.mem_cons.1 h with rfl | h
        · omega
        · have := ih h; omega
    have := this ll hx
    omega
theorem cellsOf_u8 : Tryz.prog.cellsOf 5 = 1 := by kernel_rfl
theorem open_byte (h : DataW.trod enc Tryz.prog W 0 spare held n 5 cs = some y) : ∃ x : UInt8, cs = [byteV x] ∧ True ∧ 1 ≤ Rows.uptoBulk y.1 := by
  obtain ⟨z, e, rfl, hz⟩ := DataW.trod_int Tryz.underlying5 h
  cases e
  simp only [Lit.wf, Bool.and_eq_true, decide_eq_true_eq] at hz
  have h0 : 0 ≤ z ∧ z ≤ 255 := ⟨hz.1, hz.2⟩
  refine ⟨UInt8.ofNat z.toNat, ?_, trivial, by simp [Rows.uptoBulk]⟩
  show [Value.int .u8 z] = [Value.int .u8 ((UInt8.ofNat z.toNat).toNat : Int)]
  have : (UInt8.ofNat z.toNat).toNat = z.toNat := by
    rw [UInt8.toNat_ofNat']
    exact Nat.mod_eq_of_lt (by omega)
  rw [this]
  congr 2
  omega
theorem open_bytes (h : DataW.trod enc Tryz.prog W 0 spare held n 57 cs = some y) :
    ∃ (bs : List UInt8) (p : Option Addr) (cap : Nat), cs = [.slice p bs.length cap] ∧ SB (memOf W) p bs ∧ bs.length ≤ Rows.uptoBulk y.1 := by
  obtain ⟨bs, p, cap, h1, h2, h3, h4⟩ := open_list (fun x => [byteV x]) (fun _ => True) (fun _ => 1) Tryz.underlying57 cellsOf_u8 (by decide) (fun n row y h => open_byte h) h
  refine ⟨bs, p, cap, h1, ?_, ?_⟩
  · have e : (bs.map fun x => [byteV x]).flatten = bytesV bs := by
      clear h1 h2 h3 h4
      induction bs with
      | nil => rfl
      | cons x l ih => rw [List.map_cons, List.flatten_cons, ih]; rfl
    have := h2.2
    rw [List.length_map, e] at this
    exact this
  · have e : (bs.map fun _ => 1).sum = bs.length := by
      clear h1 h2 h3 h4
      induction bs with
      | nil => rfl
      | cons x l ih => rw [List.map_cons, List.sum_cons, ih, List.length_cons]; omega
    omega
/-- A slice's value, of what is in its cells. -/
theorem slice_cells {a : Option Addr} {len cap : Nat} {p : Option Addr} {l c : Nat} (h : (Value.slice a len cap).cells.toList = [.slice p l c]) : a = p ∧ len = l ∧ cap = c := by
  have : (Value.slice a len cap) = Value.slice p l c := by simpa [Value.cells] using h
  injection this with e1 e2 e3
  exact ⟨e1, e2, e3⟩
end
end Go.Proofs.YtaeeahcokiebdaaGreat

/-
  Plain laws: a chip whose power may fall: what writing, erasing and a record leave.
-/
namespace Go.Proofs.YtaeeahcokiebdaaGreat

theorem prog_any : ∀ (bs : List UInt8) (ch : Chip) (a : Nat), a + bs.length ≤ ch.b.length →
    ((ch.prog a bs).2 = 0 ∧ ∀ i, (ch.prog a bs).1.b[i]? = if a ≤ i ∧ i < a + bs.length then bs[i - a]? else ch.b[i]?) ∨
    ((ch.prog a bs).2 = 6 ∧ ∃ (t : Nat) (v : UInt8), t < bs.length ∧ ∀ i, (ch.prog a bs).1.b[i]? = if a ≤ i ∧ i < a + t then bs[i - a]? else if i = a + t then some v else ch.b[i]?)
  | [], ch, a, _ => .inl ⟨rfl, fun i => by rw [if_neg (by simp only [List.length_nil]; omega)]; rfl⟩
  | x :: bs, ch, a, hl => by
    simp only [List.length_cons] at hl
    unfold Chip.prog
    split
    · have ih := prog_any bs { ch with pw := ch.pw.step.1, b := ch.b.set a x } (a + 1) (by simp; omega)
      have hset : ∀ i, (ch.b.set a x)[i]? = if i = a then some x else ch.b[i]? := by
        intro i
        rw [List.getElem?_set]
        by_cases h : a = i
        · rw [if_pos h, if_pos (by omega), if_pos h.symm]
        · rw [if_neg h, if_neg (by omega)]
      have hix : ∀ i, a + 1 ≤ i → (x :: bs)[i - a]? = bs[i - (a + 1)]? := by
        intro i hi
        rw [show i - a = (i - (a + 1)) + 1 from by omega, List.getElem?_cons_succ]
      rcases ih with ⟨h1, h2⟩ | ⟨h1, t, v, h3, h2⟩
      · refine .inl ⟨h1, fun i => ?_⟩
        rw [h2 i, hset]
        by_cases c1 : a + 1 ≤ i ∧ i < a + 1 + bs.length
        · rw [if_pos c1, if_pos (by simp; omega), hix i c1.1]
        · rw [if_neg c1]
          by_cases c2 : i = a
          · rw [if_pos c2, if_pos (by simp; omega), c2, Nat.sub_self]; rfl
          · rw [if_neg c2, if_neg (by simp; omega)]
      · refine .inr ⟨h1, t + 1, v, by simp; omega, fun i => ?_⟩
        rw [h2 i, hset]
        by_cases c1 : a + 1 ≤ i ∧ i < a + 1 + t
        · rw [if_pos c1, if_pos (by omega), hix i c1.1]
        · rw [if_neg c1]
          by_cases c2 : i = a
          · rw [if_neg (by omega), if_pos c2, if_pos (by omega), c2, Nat.sub_self]; rfl
          · rw [if_neg c2, if_neg (c := a ≤ i ∧ i < a + (t + 1)) (by omega)]
            by_cases c3 : i = a + 1 + t
            · rw [if_pos c3, if_pos (by omega)]
            · rw [if_neg c3, if_neg (by omega)]
    · split
      · refine .inr ⟨rfl, 0, x ||| (ch.b.getD a 0 &&& ch.pw.mask), by simp, fun i => ?_⟩
        rw [if_neg (by omega)]
        dsimp only
        rw [List.getElem?_set]
        by_cases h : a = i
        · rw [if_pos h, if_pos (by omega), if_pos (by omega)]
        · rw [if_neg h, if_neg (by omega)]
      · refine .inr ⟨rfl, 0, ch.b[a]'(by omega), by simp, fun i => ?_⟩
        rw [if_neg (by omega)]
        dsimp only
        by_cases h : i = a + 0
        · rw [if_pos h, h, Nat.add_zero, List.getElem?_eq_getElem]
        · rw [if_neg h]
theorem u8_or_ne {x v : UInt8} (h : v ≠ 0) : x ||| v ≠ 0 := by
  intro e
  apply h
  have h1 := congrArg UInt8.toBitVec e
  have h2 : x.toBitVec ||| v.toBitVec = 0#8 := h1
  have h3 := (BitVec.or_eq_zero_iff.1 h2).2
  exact UInt8.toBitVec_inj.1 h3
theorem erase_any {ad : Ad} {ch : Chip} {s : Nat} (hok : ChipOk ad ch) (hs : (s : Int) < ch.g.sectors) :
    ((ch.erase s).2 = 0 ∧ ∀ i, (ch.erase s).1.b[i]? = if s * ch.z ≤ i ∧ i < s * ch.z + ch.z then (ch.b[i]?).map (fun _ => 255) else ch.b[i]?) ∨
    ((ch.erase s).2 = 6 ∧ ∃ m : UInt8, ∀ i, (ch.erase s).1.b[i]? = if s * ch.z ≤ i ∧ i < s * ch.z + ch.z then (ch.b[i]?).map (· ||| m) else ch.b[i]?) := by
  obtain ⟨hz, hlo, hhi, hle, hz1, hz2, hs16⟩ := hok.sector hs
  have hl : ch.lo s = s * ch.z := rfl
  unfold Chip.erase
  split
  · refine .inl ⟨rfl, fun i => ?_⟩
    dsimp only
    rw [orAt_get hle, hl]
    split
    · congr 1
      funext x
      exact or255 x
    · rfl
  · split
    · refine .inr ⟨rfl, ch.pw.mask, fun i => ?_⟩
      dsimp only
      rw [orAt_get hle, hl]
    · refine .inr ⟨rfl, 0, fun i => ?_⟩
      dsimp only
      split
      · cases ch.b[i]? with
        | none => rfl
        | some x => simp
      · rfl
theorem wipeN_any {ad : Ad} {n h : Nat} : ∀ (k : Nat) {ch : Chip}, ChipOk ad ch → k ≤ n → ((h * n + n : Nat) : Int) ≤ ch.g.sectors →
    (∀ i, (h * n + k) * ch.z ≤ i → i < (h * n + n) * ch.z → ch.b[i]? = some 255) →
    (∀ i, ¬ (h * n * ch.z ≤ i ∧ i < (h * n + n) * ch.z) → (wipeN n h k ch).1.b[i]? = ch.b[i]?) ∧
    (((wipeN n h k ch).2 = 0 ∧ ∀ i, h * n * ch.z ≤ i → i < (h * n + n) * ch.z → (wipeN n h k ch).1.b[i]? = some 255) ∨
     ((wipeN n h k ch).2 = 6 ∧ ∃ m, m ≤ (h * n + k) * ch.z ∧ (∀ i, i < m → (wipeN n h k ch).1.b[i]? = ch.b[i]?) ∧ ∀ i, m ≤ i → i < (h * n + n) * ch.z → (wipeN n h k ch).1.b[i]? ≠ some 0))
  | 0, ch, _, _, _, hff => ⟨fun _ _ => rfl, .inl ⟨rfl, fun i h1 h2 => hff i (by rw [Nat.add_zero]; exact h1) h2⟩⟩
  | k + 1, ch, hok, hk, hs, hff => by
    have hlt : ((h * n + k : Nat) : Int) < ch.g.sectors := by omega
    obtain ⟨hz, hlo, hhi, hle, hz1, hz2, hs16⟩ := hok.sector hlt
    have hm1 : (h * n + (k + 1)) * ch.z = (h * n + k) * ch.z + ch.z := by rw [← Nat.add_assoc, Nat.succ_mul]
    have hm2 : h * n * ch.z ≤ (h * n + k) * ch.z := Nat.mul_le_mul_right _ (by omega)
    have hm3 : (h * n + (k + 1)) * ch.z ≤ (h * n + n) * ch.z := Nat.mul_le_mul_right _ (by omega)
    have hl : ch.lo (h * n + k) = (h * n + k) * ch.z := rfl
    have h1 := hok.erase hlt
    have h2 := erase_g ch (h * n + k)
    have hzz : (ch.erase (h * n + k)).1.z = ch.z := by unfold Chip.z; rw [h2]
    rw [hm1] at hff
    have hsome : ∀ i, i < (h * n + k) * ch.z + ch.z → ∃ x, ch.b[i]? = some x := fun i hi => ⟨_, List.getElem?_eq_getElem (by omega)⟩
    unfold wipeN
    rcases erase_any hok hlt with ⟨e1, e2⟩ | ⟨e1, v, e2⟩
    · rw [if_pos e1]
      have ih := wipeN_any (n := n) (h := h) k h1 (by omega) (by rw [h2]; exact hs) (by
        rw [hzz]
        intro i hi1 hi2
        rw [e2 i]
        by_cases c : (h * n + k) * ch.z ≤ i ∧ i < (h * n + k) * ch.z + ch.z
        · rw [if_pos c]
          obtain ⟨x, hx⟩ := hsome i c.2
          rw [hx]; rfl
        · rw [if_neg c]
          exact hff i (by omega) hi2)
      rw [hzz] at ih
      obtain ⟨ia, ib⟩ := ih
      refine ⟨fun i hi => ?_, ?_⟩
      · rw [ia i hi, e2 i, if_neg (by omega)]
      · rcases ib with ⟨r1, r2⟩ | ⟨r1, m, r2, r3, r4⟩
        · exact .inl ⟨r1, r2⟩
        · refine .inr ⟨r1, m, by omega, fun i hi => ?_, r4⟩
          rw [r3 i hi, e2 i, if_neg (by omega)]
    · rw [if_neg (by rw [e1]; decide)]
      refine ⟨fun i hi => ?_, .inr ⟨e1, ?_⟩⟩
      · rw [e2 i, if_neg (by omega)]
      · by_cases hv : v = 0
        · subst hv
          refine ⟨(h * n + k) * ch.z + ch.z, by omega, fun i hi => ?_, fun i hi1 hi2 => ?_⟩
          · rw [e2 i]
            split
            · cases ch.b[i]? with
              | none => rfl
              | some x => simp
            · rfl
          · rw [e2 i, if_neg (by omega), hff i hi1 hi2]
            decide
        · refine ⟨(h * n + k) * ch.z, by omega, fun i hi => ?_, fun i hi1 hi2 => ?_⟩
          · rw [e2 i, if_neg (by omega)]
          · rw [e2 i]
            by_cases c : (h * n + k) * ch.z ≤ i ∧ i < (h * n + k) * ch.z + ch.z
            · rw [if_pos c]
              obtain ⟨x, hx⟩ := hsome i c.2
              rw [hx]
              intro he
              injection he with he
              exact u8_or_ne hv he
            · rw [if_neg c, hff i (by omega) hi2]
              decide
/-- A half that was cut off: as it was up to a place, and nothing that counts from there on. -/
def CutB (b b' : List UInt8) : Prop := b'.length = b.length ∧ ∃ m : Nat, (∀ i : Nat, i < m → b'[i]? = b[i]?) ∧ ∀ i : Nat, m ≤ i → b'[i]? ≠ some 0
theorem wipe_halves {ad : Ad} {ch : Chip} {h : Nat} (hok : ChipOk ad ch) (hh : h < 2) :
    (∀ k, k < 2 → k ≠ h → (wipeN (nsec ch.g) h (nsec ch.g) ch).1.half k = ch.half k) ∧
    (((wipeN (nsec ch.g) h (nsec ch.g) ch).2 = 0 ∧ (wipeN (nsec ch.g) h (nsec ch.g) ch).1.half h = List.replicate (hsz ch.g) 255) ∨
     ((wipeN (nsec ch.g) h (nsec ch.g) ch).2 = 6 ∧ CutB (ch.half h) ((wipeN (nsec ch.g) h (nsec ch.g) ch).1.half h))) := by
  have hns : ch.g.sectors = 2 * (nsec ch.g : Int) := by have := hok.geo.even; have := hok.geo.s; unfold nsec; omega
  have hhs : h * nsec ch.g ≤ nsec ch.g := by rcases (by omega : h = 0 ∨ h = 1) with h | h <;> rw [h] <;> omega
  obtain ⟨hwok, hwg⟩ := wipeN_ok (n := nsec ch.g) (h := h) (nsec ch.g) hok (Nat.le_refl _) (by omega)
  have he : nsec ch.g * ch.z = hsz ch.g := (hsz_eq hok.geo).symm
  have hget := wipeN_any (n := nsec ch.g) (h := h) (nsec ch.g) hok (Nat.le_refl _) (by omega) (fun i h1 h2 => by omega)
  have hf := half_fit hok hh
  have e1 : h * nsec ch.g * ch.z = h * hsz ch.g := by rw [Nat.mul_assoc, he]
  have e2 : (h * nsec ch.g + nsec ch.g) * ch.z = h * hsz ch.g + hsz ch.g := by rw [Nat.add_mul, e1, he]
  rw [e1, e2] at hget
  obtain ⟨ga, gb⟩ := hget
  constructor
  · intro k hk hne
    apply List.ext_getElem?
    intro i
    rw [half_get, hwg, half_get]
    by_cases h1 : i < hsz ch.g
    · rw [if_pos h1, if_pos h1, ga]
      rcases (by omega : h = 0 ∨ h = 1) with rfl | rfl <;> rcases (by omega : k = 0 ∨ k = 1) with rfl | rfl <;> omega
    · rw [if_neg h1, if_neg h1]
  · rcases gb with ⟨r1, r2⟩ | ⟨r1, m, r2, r3, r4⟩
    · refine .inl ⟨r1, ?_⟩
      apply List.ext_getElem?
      intro i
      rw [half_get, hwg, List.getElem?_replicate]
      by_cases h1 : i < hsz ch.g
      · rw [if_pos h1, if_pos h1, r2 _ (by omega) (by omega)]
      · rw [if_neg h1, if_neg h1]
    · refine .inr ⟨r1, ?_, m - h * hsz ch.g, fun i hi => ?_, fun i hi => ?_⟩
      · rw [half_len hwok hh, hwg, half_len hok hh]
      · rw [half_get, hwg, half_get]
        by_cases h1 : i < hsz ch.g
        · rw [if_pos h1, if_pos h1, r3 _ (by omega)]
        · rw [if_neg h1, if_neg h1]
      · rw [half_get, hwg]
        by_cases h1 : i < hsz ch.g
        · rw [if_pos h1]
          exact r4 _ (by omega) (by omega)
        · rw [if_neg h1]
          decide
/-- The first record of what was cut off, if it counts, is the one that stood there. -/
theorem nextB_cut {b b' x : List UInt8} (h : CutB b b') (hx : nextB b' = some x) : nextB b = some x := by
  obtain ⟨hl, m, h1, h2⟩ := h
  unfold nextB at hx
  split at hx
  · rename_i hc
    obtain ⟨c1, c2, c3, c4, c5⟩ := hc
    have hp : num (b'.take 2) + 6 < m := by
      rcases Nat.lt_or_ge (num (b'.take 2) + 6) m with h | h
      · exact h
      · exact absurd c5 (h2 _ h)
    have ht : ∀ a n, a + n ≤ m → (b'.drop a).take n = (b.drop a).take n := by
      intro a n han
      apply List.ext_getElem?
      intro i
      rw [List.getElem?_take, List.getElem?_take]
      split
      · rw [List.getElem?_drop, List.getElem?_drop, h1 _ (by omega)]
      · rfl
    have e1 : b'.take 2 = b.take 2 := by simpa using ht 0 2 (by omega)
    have e2 := ht 6 (num (b'.take 2)) (by omega)
    have e3 := ht 2 4 (by omega)
    have e4 := h1 (num (b'.take 2) + 6) hp
    rw [e2] at hx c4
    rw [e3] at c4
    rw [e4] at c5
    rw [e1] at hx c2 c3 c4 c5
    unfold nextB
    rw [if_pos ⟨by omega, c2, by omega, c4, c5⟩]
    exact hx
  · cases hx
/-- The epoch that bytes tell is their first record's. -/
theorem epoch_fst {b b' : List UInt8} (h : nextB b' = nextB b) : (readB b').epoch = (readB b).epoch := by
  cases hx : nextB b with
  | none =>
    rw [hx] at h
    unfold readB
    rw [recs_none hx, recs_none h]
  | some x =>
    rw [hx] at h
    have key : ∀ c : List UInt8, nextB c = some x → (readB c).epoch = if x.length < 8 ∨ IntKind.i64.wrap (num (x.take 8)) ≤ 0 ∨ 2147483647 < IntKind.i64.wrap (num (x.take 8)) then 0 else if (parse (x.drop 8)).isSome then IntKind.i64.wrap (num (x.take 8)) else 0 := by
      intro c hc
      unfold readB
      rw [recs_some hc]
      dsimp only
      split
      · rfl
      · cases hp : parse (x.drop 8) with
        | none =>
          have : readL 0 (x :: recs (c.drop (x.length + 7))) (sta0, 0) = Option.none := by
            unfold readL
            rw [if_pos rfl, hp]
            simp
          rw [this]
          rfl
        | some d =>
          have h1 : readL 0 (x :: recs (c.drop (x.length + 7))) (sta0, 0) = readL 1 (recs (c.drop (x.length + 7))) (applyL sta0 d, 0 + (x.length + 7)) := by
            conv => lhs; unfold readL
            rw [if_pos rfl, hp]
          have h2 : ∀ (l : List (List UInt8)) (i : Nat) (r : Sta × Nat), i ≠ 0 → (readL i l r).isSome = true := by
            intro l
            induction l with
            | nil => intro i r _; rfl
            | cons y l ih =>
              intro i r hi
              unfold readL
              rw [if_neg hi]
              split
              · rw [if_neg hi]; rfl
              · exact ih _ _ (by omega)
          rw [h1]
          have h3 := h2 (recs (c.drop (x.length + 7))) 1 (applyL sta0 d, 0 + (x.length + 7)) (by omega)
          cases hr : readL 1 (recs (c.drop (x.length + 7))) (applyL sta0 d, 0 + (x.length + 7)) with
          | none => rw [hr] at h3; cases h3
          | some r => rfl
    rw [key b' h, key b hx]
theorem epoch_cut {b b' : List UInt8} (h : CutB b b') : (readB b').epoch = 0 ∨ (readB b').epoch = (readB b).epoch := by
  cases hx : nextB b' with
  | none => left; unfold readB; rw [recs_none hx]; rfl
  | some x => right; exact epoch_fst (by rw [hx, nextB_cut h hx])
end Go.Proofs.YtaeeahcokiebdaaGreat

/-
  Plain laws: a journal whose power falls: what is found again.
-/
namespace Go.Proofs.YtaeeahcokiebdaaGreat

theorem append_any {ad : Ad} {ch : Chip} {h at_ : Nat} {b : List UInt8} (hok : ChipOk ad ch) (hh : h < 2) (hfit : at_ + b.length + 7 ≤ hsz ch.g) (hs : b.length ≤ 65000) (hf : Ff ch.b (at_ + h * hsz ch.g) (hsz ch.g - at_)) :
    ((ch.append h at_ b).2 = 0 ∧ ∀ i, (ch.append h at_ b).1.b[i]? = if at_ + h * hsz ch.g ≤ i ∧ i < at_ + h * hsz ch.g + (b.length + 7) then (recB b)[i - (at_ + h * hsz ch.g)]? else ch.b[i]?) ∨
    ((ch.append h at_ b).2 = 6 ∧ ∃ (t : Nat) (v : UInt8), t < b.length + 7 ∧ ∀ i, (ch.append h at_ b).1.b[i]? = if at_ + h * hsz ch.g ≤ i ∧ i < at_ + h * hsz ch.g + t then (recB b)[i - (at_ + h * hsz ch.g)]? else if i = at_ + h * hsz ch.g + t then some v else ch.b[i]?) := by
  have hbl := bodyB_len b
  have hfit2 := half_fit hok hh
  have e1 : ch.program (at_ + h * hsz ch.g) (bodyB b) = ch.prog (at_ + h * hsz ch.g) (bodyB b) := by
    unfold Chip.program
    rw [setsBit_ff (bodyB b) _ (fun i hi => by rw [List.getElem?_drop]; exact hf _ (by omega) (by omega))]
    rfl
  have e0 : ch.append h at_ b = if (ch.program (at_ + h * hsz ch.g) (bodyB b)).2 ≠ 0 then ch.program (at_ + h * hsz ch.g) (bodyB b)
      else (ch.program (at_ + h * hsz ch.g) (bodyB b)).1.program (at_ + h * hsz ch.g + (bodyB b).length) [0] := by
    unfold Chip.append
    rw [if_neg (by omega), if_neg (by omega)]
  have hl := (prog_keep (bodyB b) ch (at_ + h * hsz ch.g)).2
  rw [e0, e1]
  generalize hA : at_ + h * hsz ch.g = A at *
  have hrec : ∀ i, i < (bodyB b).length → (bodyB b)[i]? = (recB b)[i]? := fun i hi => by unfold recB; rw [List.getElem?_append_left hi]
  rcases prog_any (bodyB b) ch A (by omega) with ⟨p1, p2⟩ | ⟨p1, t, v, p3, p2⟩
  · rw [if_neg (by rw [p1]; decide)]
    generalize ch.prog A (bodyB b) = r at *
    have h255 : r.1.b[A + (bodyB b).length]? = some 255 := by
      rw [p2, if_neg (by omega)]
      exact hf _ (by omega) (by omega)
    have e2 : r.1.program (A + (bodyB b).length) [0] = r.1.prog (A + (bodyB b).length) [0] := by
      unfold Chip.program
      rw [setsBit_ff [0] _ (fun i hi => by rw [List.getElem?_drop]; simp at hi; subst hi; exact h255)]
      rfl
    rw [e2]
    rcases prog_any [0] r.1 (A + (bodyB b).length) (by simp; omega) with ⟨q1, q2⟩ | ⟨q1, t, v, q3, q2⟩
    · refine .inl ⟨q1, fun i => ?_⟩
      rw [q2, p2]
      by_cases c1 : A + (bodyB b).length ≤ i ∧ i < A + (bodyB b).length + [(0 : UInt8)].length
      · have hi : i = A + (bodyB b).length := by simp at c1; omega
        rw [if_pos c1, if_pos (by omega), hi, Nat.sub_self]
        unfold recB
        rw [List.getElem?_append_right (by omega), show A + (bodyB b).length - A - (bodyB b).length = 0 from by omega]
      · simp only [List.length_cons, List.length_nil] at c1
        rw [if_neg (by simp only [List.length_cons, List.length_nil]; omega)]
        by_cases c2 : A ≤ i ∧ i < A + (bodyB b).length
        · rw [if_pos c2, if_pos (by omega), hrec _ (by omega)]
        · rw [if_neg c2, if_neg (by omega)]
    · have ht : t = 0 := by simp at q3; omega
      subst ht
      refine .inr ⟨q1, (bodyB b).length, v, by omega, fun i => ?_⟩
      rw [q2, p2, if_neg (by omega), Nat.add_zero]
      by_cases c1 : i = A + (bodyB b).length
      · rw [if_pos c1, if_neg (by omega), if_pos c1]
      · rw [if_neg c1]
        by_cases c2 : A ≤ i ∧ i < A + (bodyB b).length
        · rw [if_pos c2, if_pos c2, hrec _ (by omega)]
        · rw [if_neg c2, if_neg c2, if_neg c1]
  · rw [if_pos (by rw [p1]; decide)]
    refine .inr ⟨p1, t, v, by omega, fun i => ?_⟩
    rw [p2]
    by_cases c1 : A ≤ i ∧ i < A + t
    · rw [if_pos c1, if_pos c1, hrec _ (by omega)]
    · rw [if_neg c1, if_neg c1]
theorem append_halves {ad : Ad} {ch : Chip} {h at_ : Nat} {b : List UInt8} (hok : ChipOk ad ch) (hh : h < 2) (hfit : at_ + b.length + 7 ≤ hsz ch.g) (hs : b.length ≤ 65000) (hf : Ff ch.b (at_ + h * hsz ch.g) (hsz ch.g - at_)) :
    (∀ k, k < 2 → k ≠ h → (ch.append h at_ b).1.half k = ch.half k) ∧
    (((ch.append h at_ b).2 = 0 ∧ (ch.append h at_ b).1.half h = lay (ch.half h) at_ (recB b)) ∨
     ((ch.append h at_ b).2 = 6 ∧ ∃ (t : Nat) (v : UInt8), t < b.length + 7 ∧ ∀ i, ((ch.append h at_ b).1.half h)[i]? = if at_ ≤ i ∧ i < at_ + t then (recB b)[i - at_]? else if i = at_ + t then some v else (ch.half h)[i]?)) := by
  have hg := (append_ok hok h at_ b).2
  have hfit2 := half_fit hok hh
  have hhl := half_len hok hh
  rcases append_any hok hh hfit hs hf with ⟨r1, r2⟩ | ⟨r1, t, v, r3, r2⟩
  · constructor
    · intro k hk hne
      apply List.ext_getElem?
      intro i
      rw [half_get, hg, half_get, r2]
      by_cases h1 : i < hsz ch.g
      · rw [if_pos h1, if_pos h1, if_neg]
        rcases (by omega : h = 0 ∨ h = 1) with rfl | rfl <;> rcases (by omega : k = 0 ∨ k = 1) with rfl | rfl <;> omega
      · rw [if_neg h1, if_neg h1]
    · refine .inl ⟨r1, ?_⟩
      apply List.ext_getElem?
      intro i
      rw [half_get, hg, lay_get (by rw [recB_len]; omega), half_get, recB_len, r2]
      by_cases h1 : i < hsz ch.g
      · rw [if_pos h1, if_pos h1]
        by_cases h2 : at_ ≤ i ∧ i < at_ + (b.length + 7)
        · rw [if_pos (by omega), if_pos h2]; congr 1; omega
        · rw [if_neg (by omega), if_neg h2]
      · rw [if_neg h1, if_neg (by omega), if_neg h1]
  · constructor
    · intro k hk hne
      apply List.ext_getElem?
      intro i
      rw [half_get, hg, half_get, r2]
      by_cases h1 : i < hsz ch.g
      · rw [if_pos h1, if_pos h1]
        rcases (by omega : h = 0 ∨ h = 1) with rfl | rfl <;> rcases (by omega : k = 0 ∨ k = 1) with rfl | rfl
        · omega
        · rw [if_neg (by omega), if_neg (by omega)]
        · rw [if_neg (by omega), if_neg (by omega)]
        · omega
      · rw [if_neg h1, if_neg h1]
    · refine .inr ⟨r1, t, v, r3, fun i => ?_⟩
      rw [half_get, hg, half_get, r2]
      by_cases h1 : i < hsz ch.g
      · rw [if_pos h1, if_pos h1]
        by_cases h2 : at_ ≤ i ∧ i < at_ + t
        · rw [if_pos (by omega), if_pos h2]; congr 1; omega
        · rw [if_neg (by omega), if_neg h2]
          by_cases h3 : i = at_ + t
          · rw [if_pos (by omega), if_pos h3]
          · rw [if_neg (by omega), if_neg h3]
      · rw [if_neg h1, if_neg (by omega), if_neg (by omega), if_neg h1]
/-- A record that was torn counts, whole, or not at all. -/
theorem torn_tail {h0 h1 x : List UInt8} {at_ t : Nat} {v : UInt8} (hff : ∀ i, at_ ≤ i → i < h0.length → h0[i]? = some 255) (ht : t < x.length + 7) (hfit : at_ + x.length + 7 ≤ h0.length) (hx : x.length ≤ 65000)
    (hget : ∀ i, h1[i]? = if at_ ≤ i ∧ i < at_ + t then (recB x)[i - at_]? else if i = at_ + t then some v else h0[i]?) : h1 = lay h0 at_ (recB x) ∨ nextB (h1.drop at_) = Option.none := by
  have hbl := bodyB_len x
  cases hn : nextB (h1.drop at_) with
  | none => exact .inr rfl
  | some y =>
    left
    unfold nextB at hn
    split at hn
    · rename_i hc
      obtain ⟨c1, c2, c3, c4, c5⟩ := hc
      have hle : num ((h1.drop at_).take 2) + 6 ≤ t := by
        rcases Nat.lt_or_ge t (num ((h1.drop at_).take 2) + 6) with h | h
        · rw [List.getElem?_drop, hget, if_neg (by omega), if_neg (by omega)] at c5
          rcases Nat.lt_or_ge (at_ + (num ((h1.drop at_).take 2) + 6)) h0.length with hl | hl
          · rw [hff _ (by omega) hl] at c5
            exact absurd c5 (by decide)
          · rw [List.getElem?_eq_none hl] at c5
            cases c5
        · exact h
      have e2 : (h1.drop at_).take 2 = le x.length 2 := by
        apply List.ext_getElem?
        intro i
        rw [List.getElem?_take]
        by_cases hi : i < 2
        · rw [if_pos hi, List.getElem?_drop, hget, if_pos (by omega), show at_ + i - at_ = i from by omega]
          unfold recB bodyB
          rw [List.append_assoc, List.append_assoc, List.getElem?_append_left (by simpa using hi)]
        · rw [if_neg hi, List.getElem?_eq_none (by simp; omega)]
      rw [e2, num_le_lt (by show x.length < 65536; omega)] at hle c5
      have htx : t = x.length + 6 := by omega
      rw [List.getElem?_drop, hget, if_neg (by omega), if_pos (by omega)] at c5
      apply List.ext_getElem?
      intro i
      rw [lay_get (by rw [recB_len]; omega), hget, recB_len]
      by_cases d1 : at_ ≤ i ∧ i < at_ + t
      · rw [if_pos d1, if_pos (by omega)]
      · rw [if_neg d1]
        by_cases d2 : i = at_ + t
        · rw [if_pos d2, if_pos (by omega), c5, d2]
          unfold recB
          rw [List.getElem?_append_right (by omega), show at_ + t - at_ - (bodyB x).length = 0 from by omega]
          rfl
        · rw [if_neg d2, if_neg (by omega)]
    · cases hn
theorem recs_tail {c : List UInt8} (hc : nextB c = Option.none) : ∀ rs : List (List UInt8), (∀ x ∈ rs, x.length ≤ 65000) → recs ((rs.map recB).flatten ++ c) = rs
  | [], _ => by simpa using recs_none hc
  | x :: rs, h => by
    have e : ((x :: rs).map recB).flatten ++ c = recB x ++ ((rs.map recB).flatten ++ c) := by simp
    rw [e, recs_some (nextB_rec (h x (by simp)) _)]
    congr 1
    rw [List.drop_left' (recB_len x)]
    exact recs_tail hc rs fun y hy => h y (by simp [hy])
/-- What stood in a half is told, whatever that does not count stands behind it. -/
theorem told_tail {b b' : List UInt8} {ep : Int} {used : Nat} {s : Sta} (h : Told b ep used s) (ht : b'.take used = b.take used) (hn : nextB (b'.drop used) = Option.none) : ∃ m, readB b' = ⟨ep, used, s, m⟩ := by
  obtain ⟨x, rest, m, hb, h1, h2, h3, h4, h5⟩ := h.recs
  have hep := h.ep
  have hu : (((x :: rest).map recB).flatten).length = used := by rw [recB_flat, h5]
  have e : b' = ((x :: rest).map recB).flatten ++ b'.drop used := by
    conv => lhs; rw [← List.take_append_drop used b', ht, hb, List.take_left' hu]
  have hr := recs_tail hn (x :: rest) h1
  rw [← e] at hr
  unfold readB
  rw [hr]
  simp only
  rw [h3, if_neg (by omega), h4]
  exact ⟨_, by rw [h5]⟩
/-- What is found on a chip. -/
structure Holds (ch : Chip) (B : Int) (s : Sta) : Prop where
  ex : ∃ (h : Nat) (ep : Int) (used : Nat) (m : Bool), h < 2 ∧ readB (ch.half h) = ⟨ep, used, s, m⟩ ∧ (readB (ch.half (1 - h))).epoch < ep ∧ 0 < ep ∧ ep ≤ B ∧ 24 + wN s ≤ used
  ord : SOrd s
  rng : StaR s
theorem Holds.le {ch B B' s} (h : Holds ch B s) (hb : B ≤ B') : Holds ch B' s := by
  obtain ⟨⟨h', ep, used, m, h1, h2, h3, h4, h5, h6⟩, ho, hr⟩ := h
  exact ⟨⟨h', ep, used, m, h1, h2, h3, h4, by omega, h6⟩, ho, hr⟩
theorem Kept.inv {ch : Chip} {j : Jr} {s : Sta} (h : Kept ch j s) (hj : JOk j ch.g) : Holds ch j.epoch s :=
  ⟨⟨j.half, j.epoch, j.used, false, hj.half, h.told.read, h.other, h.told.ep.1, Int.le_refl _, h.told.room⟩, h.told.ord, h.told.rng⟩
theorem found_two {ch : Chip} {h : Nat} {ep : Int} {used : Nat} {s : Sta} {m : Bool} (hh : h < 2) (h1 : readB (ch.half h) = ⟨ep, used, s, m⟩) (h2 : (readB (ch.half (1 - h))).epoch < ep) (h3 : 0 < ep) :
    foundTo ch 2 = (⟨h, ep, used, false⟩, s, m) := by
  have b0 := (readB_n (ch.half 0)).1
  have b1 := (readB_n (ch.half 1)).1
  rcases (by omega : h = 0 ∨ h = 1) with rfl | rfl
  · have h2' : (readB (ch.half 1)).epoch < ep := h2
    unfold foundTo foundTo foundTo pickF
    rw [h1]
    dsimp only
    rw [if_pos h3]
    dsimp only
    rw [if_neg (by omega)]
  · have h2' : (readB (ch.half 0)).epoch < ep := h2
    have h5 : (foundTo ch 1).1.epoch < ep := by
      unfold foundTo foundTo pickF
      split
      · exact h2'
      · exact h3
    show pickF (foundTo ch 1) 1 (readB (ch.half 1)) = _
    unfold pickF
    rw [h1]
    dsimp only
    rw [if_pos h5]
/-- A state written anew, whenever power falls. -/
theorem anew_any {ad : Ad} {ch : Chip} {j : Jr} {s : Sta} (hok : ChipOk ad ch) (hh : j.half < 2) (he : 0 ≤ j.epoch ∧ j.epoch < 2147483647) (hfit : (firstB (j.epoch + 1) s).length + 7 ≤ hsz ch.g) :
    ChipOk ad (anewC ch j s).1 ∧ (anewC ch j s).1.g = ch.g ∧ (anewC ch j s).1.half j.half = ch.half j.half ∧
    (((anewC ch j s).2 = 0 ∧ ∃ m, (anewC ch j s).1.half (1 - j.half) = recB (firstB (j.epoch + 1) s) ++ List.replicate m 255) ∨
     ((anewC ch j s).2 = 6 ∧ ((readB ((anewC ch j s).1.half (1 - j.half))).epoch = 0 ∨ (readB ((anewC ch j s).1.half (1 - j.half))).epoch = (readB (ch.half (1 - j.half))).epoch ∨
       ∃ m, (anewC ch j s).1.half (1 - j.half) = recB (firstB (j.epoch + 1) s) ++ List.replicate m 255))) := by
  obtain ⟨hz, hz1, hz2, hz3⟩ := hsz_int hok.geo
  have hns : ch.g.sectors = 2 * (nsec ch.g : Int) := by have := hok.geo.even; have := hok.geo.s; unfold nsec; omega
  have hhs : (1 - j.half) * nsec ch.g ≤ nsec ch.g := by rcases (by omega : 1 - j.half = 0 ∨ 1 - j.half = 1) with h | h <;> rw [h] <;> omega
  obtain ⟨w1, w2⟩ := wipeN_ok (n := nsec ch.g) (h := 1 - j.half) (nsec ch.g) hok (Nat.le_refl _) (by omega)
  obtain ⟨v1, v2⟩ := wipe_halves hok (h := 1 - j.half) (by omega)
  have hno : ¬ (hsz ch.g < (firstB (j.epoch + 1) s).length + 7 ∨ 2147483647 ≤ j.epoch) := by omega
  have v0 := v1 j.half hh (by omega)
  unfold anewC
  rw [if_neg hno]
  generalize hF : firstB (j.epoch + 1) s = F at *
  generalize wipeN (nsec ch.g) (1 - j.half) (nsec ch.g) ch = r at *
  rcases v2 with ⟨r1, r2⟩ | ⟨r1, r2⟩
  · rw [if_neg (by rw [r1]; decide)]
    have hff : Ff r.1.b (0 + (1 - j.half) * hsz r.1.g) (hsz r.1.g - 0) := ff_half w1 (h := 1 - j.half) (at_ := 0) (A := []) (by omega) (by rw [r2]; rfl) rfl
    obtain ⟨a1, a2⟩ := append_halves w1 (h := 1 - j.half) (at_ := 0) (b := F) (by omega) (by rw [w2]; omega) (by omega) hff
    obtain ⟨o1, o2⟩ := append_ok w1 (1 - j.half) 0 F
    have hlay : lay (List.replicate (hsz ch.g) 255) 0 (recB F) = recB F ++ List.replicate (hsz ch.g - (F.length + 7)) 255 := by
      unfold lay
      rw [List.drop_replicate, recB_len]
      simp
    refine ⟨o1, o2.trans w2, (a1 j.half hh (by omega)).trans v0, ?_⟩
    rcases a2 with ⟨b1, b2⟩ | ⟨b1, t, v, b3, b2⟩
    · exact .inl ⟨b1, _, by rw [b2, r2, hlay]⟩
    · refine .inr ⟨b1, ?_⟩
      rw [r2] at b2
      rcases torn_tail (x := F) (at_ := 0) (h0 := List.replicate (hsz ch.g) 255) (fun i _ hi => by simp at hi; rw [List.getElem?_replicate, if_pos hi]) b3 (by simp; omega) (by omega) b2 with e | e
      · exact .inr (.inr ⟨_, by rw [e, hlay]⟩)
      · left
        rw [List.drop_zero] at e
        unfold readB
        rw [recs_none e]
        rfl
  · rw [if_pos (by rw [r1]; decide)]
    refine ⟨w1, w2, v0, .inr ⟨r1, ?_⟩⟩
    rcases epoch_cut r2 with e | e
    · exact .inl e
    · exact .inr (.inl e)
theorem anew_inv {ad : Ad} {ch : Chip} {j : Jr} {s s0 : Sta} {used : Nat} {m : Bool} (hok : ChipOk ad ch) (hh : j.half < 2) (he : 0 < j.epoch ∧ j.epoch < 2147483647) (hfit : (firstB (j.epoch + 1) s).length + 7 ≤ hsz ch.g)
    (ho : SOrd s) (hr : StaR s) (hcur : readB (ch.half j.half) = ⟨j.epoch, used, s0, m⟩) (hoth : (readB (ch.half (1 - j.half))).epoch < j.epoch) (hroom : 24 + wN s0 ≤ used) (ho0 : SOrd s0) (hr0 : StaR s0) :
    ChipOk ad (anewC ch j s).1 ∧ (anewC ch j s).1.g = ch.g ∧ (((anewC ch j s).2 = 0 ∧ Holds (anewC ch j s).1 (j.epoch + 1) s) ∨ ((anewC ch j s).2 = 6 ∧ (Holds (anewC ch j s).1 (j.epoch + 1) s0 ∨ Holds (anewC ch j s).1 (j.epoch + 1) s))) := by
  obtain ⟨hz, hz1, hz2, hz3⟩ := hsz_int hok.geo
  obtain ⟨a1, a2, a3, a4⟩ := anew_any hok hh (by omega) hfit
  have hnew : ∀ k, (anewC ch j s).1.half (1 - j.half) = recB (firstB (j.epoch + 1) s) ++ List.replicate k 255 → Holds (anewC ch j s).1 (j.epoch + 1) s := by
    intro k hk
    have ht := told_first (ep := j.epoch + 1) (s := s) (m := k) (by omega) ho hr (by omega)
    refine ⟨⟨1 - j.half, j.epoch + 1, (firstB (j.epoch + 1) s).length + 7, false, by omega, by rw [hk]; exact ht.read, ?_, by omega, Int.le_refl _, ht.room⟩, ho, hr⟩
    rw [show 1 - (1 - j.half) = j.half from by omega, a3, hcur]
    dsimp only
    omega
  have hold : (readB ((anewC ch j s).1.half (1 - j.half))).epoch < j.epoch → Holds (anewC ch j s).1 (j.epoch + 1) s0 := fun h =>
    ⟨⟨j.half, j.epoch, used, m, hh, by rw [a3]; exact hcur, h, he.1, by omega, hroom⟩, ho0, hr0⟩
  refine ⟨a1, a2, ?_⟩
  rcases a4 with ⟨r1, k, r2⟩ | ⟨r1, r2⟩
  · exact .inl ⟨r1, hnew k r2⟩
  · refine .inr ⟨r1, ?_⟩
    rcases r2 with r2 | r2 | ⟨k, r2⟩
    · exact .inl (hold (by omega))
    · exact .inl (hold (by omega))
    · exact .inr (hnew k r2)
/-- Opening, whenever power falls. -/
theorem open_any {ad : Ad} {ch : Chip} {B : Int} {s : Sta} (hok : ChipOk ad ch) (hi : Holds ch B s) (hB : B < 2147483647) :
    ChipOk ad (openC ch).1.1 ∧ (openC ch).1.1.g = ch.g ∧ Holds (openC ch).1.1 (B + 1) s := by
  obtain ⟨⟨h, ep, used, m, h1, h2, h3, h4, h5, h6⟩, ho, hr⟩ := hi
  have hf := found_two h1 h2 h3 h4
  have hn := (readB_n (ch.half h)).2.2.1
  rw [h2, half_len hok h1] at hn
  dsimp only at hn
  have hfl := firstB_len (ep + 1) s
  have hkeep : Holds ch (B + 1) s := ⟨⟨h, ep, used, m, h1, h2, h3, h4, by omega, h6⟩, ho, hr⟩
  unfold openC
  rw [hf]
  dsimp only
  rw [if_neg (by omega)]
  cases m with
  | false => rw [if_neg (by decide)]; exact ⟨hok, rfl, hkeep⟩
  | true =>
    rw [if_pos rfl]
    obtain ⟨a1, a2, a3⟩ := anew_inv (j := ⟨h, ep, used, false⟩) (s := s) (s0 := s) hok h1 ⟨h4, by dsimp only; omega⟩ (by dsimp only; omega) ho hr h2 h3 h6 ho hr
    have hinv : Holds (anewC ch ⟨h, ep, used, false⟩ s).1 (B + 1) s := by
      rcases a3 with ⟨_, a⟩ | ⟨_, a | a⟩ <;> exact a.le (by dsimp only; omega)
    split
    · exact ⟨a1, a2, hinv⟩
    · exact ⟨a1, a2, hinv⟩
/-- Opening, where power does not fall. -/
theorem open_found {ad : Ad} {ch : Chip} {B : Int} {s : Sta} (hok : ChipOk ad ch) (ha : Alive ch.pw) (hi : Holds ch B s) (hB : B < 2147483647) : (openC ch).2 = 0 ∧ ∃ j, (openC ch).1.2 = some (j, s) := by
  obtain ⟨hz, hz1, hz2, hz3⟩ := hsz_int hok.geo
  obtain ⟨⟨h, ep, used, m, h1, h2, h3, h4, h5, h6⟩, ho, hr⟩ := hi
  have hf := found_two h1 h2 h3 h4
  have hn := (readB_n (ch.half h)).2.2.1
  rw [h2, half_len hok h1] at hn
  dsimp only at hn
  have hfl := firstB_len (ep + 1) s
  unfold openC
  rw [hf]
  dsimp only
  rw [if_neg (by omega)]
  cases m with
  | false => rw [if_neg (by decide)]; exact ⟨rfl, _, rfl⟩
  | true =>
    rw [if_pos rfl]
    have hk := anew_kept (j := ⟨h, ep, used, false⟩) (s := s) hok ha ⟨h1, ⟨by dsimp only; omega, by dsimp only; omega⟩, hn⟩ (by dsimp only; omega) (by dsimp only; omega) ho hr (by dsimp only; rw [h2]; exact Int.le_refl _)
    rw [if_neg (by rw [hk.1]; decide)]
    exact ⟨rfl, _, rfl⟩
/-- Committing, whenever power falls. -/
theorem commit_any {ad : Ad} {ch : Chip} {j : Jr} {s : Sta} {l : List Deed} (hok : ChipOk ad ch) (hj : JOk j ch.g) (hn : j.ended = false) (he : j.epoch < 2147483647) (hk : Kept ch j s) (hc : ∀ d ∈ l, Canon d) :
    ChipOk ad (commit ch j s l).1.1 ∧ (commit ch j s l).1.1.g = ch.g ∧
    (((commit ch j s l).2 = 0 ∧ Holds (commit ch j s l).1.1 (j.epoch + 1) (applyL s l)) ∨ ((commit ch j s l).2 = 10 ∧ Holds (commit ch j s l).1.1 (j.epoch + 1) s) ∨
      ((commit ch j s l).2 = 6 ∧ (Holds (commit ch j s l).1.1 (j.epoch + 1) s ∨ Holds (commit ch j s l).1.1 (j.epoch + 1) (applyL s l)))) := by
  obtain ⟨hz, hz1, hz2, hz3⟩ := hsz_int hok.geo
  have hnend : ¬ j.ended = true := by rw [hn]; decide
  have hlen := half_len hok hj.half
  have f1 := firstB_len 1 (applyL s l)
  have f2 := firstB_len (j.epoch + 1) (applyL s l)
  have ho := hk.told.ord.applyL l
  have hr := hk.told.rng.applyL l fun d hd => (hc d hd).rng
  have hold := (hk.inv hj).le (B' := j.epoch + 1) (by omega)
  by_cases hbig : hsz ch.g < j.used + ((deedsB l).length + 7)
  · have hc' : commit ch j s l = (((anewC ch j (applyL s l)).1, anewJ ch j (applyL s l), anewS ch j (applyL s l) s (applyL s l)), (anewC ch j (applyL s l)).2) := by
      unfold commit; rw [if_neg hnend, if_pos hbig]
    rw [hc']
    dsimp only
    by_cases hf : hsz ch.g < (firstB (j.epoch + 1) (applyL s l)).length + 7
    · obtain ⟨e1, e2⟩ := anew_full hf
      rw [e1]
      exact ⟨hok, rfl, .inr (.inl ⟨rfl, hold⟩)⟩
    · obtain ⟨a1, a2, a3⟩ := anew_inv (s := applyL s l) (s0 := s) hok hj.half ⟨hk.told.ep.1, he⟩ (by omega) ho hr hk.told.read hk.other hk.told.room hk.told.ord hk.told.rng
      refine ⟨a1, a2, ?_⟩
      rcases a3 with ⟨r1, r2⟩ | ⟨r1, r2⟩
      · exact .inl ⟨r1, r2⟩
      · exact .inr (.inr ⟨r1, r2⟩)
  · have hff := hk.goodFf hok hj
    obtain ⟨o1, o2⟩ := append_ok hok j.half j.used (deedsB l)
    obtain ⟨a1, a2⟩ := append_halves hok (h := j.half) (at_ := j.used) (b := deedsB l) hj.half (by omega) (by omega) hff
    have hother : (ch.append j.half j.used (deedsB l)).1.half (1 - j.half) = ch.half (1 - j.half) := a1 _ (by have := hj.half; omega) (by have := hj.half; omega)
    have hcm : (commit ch j s l).1.1 = (ch.append j.half j.used (deedsB l)).1 ∧ (commit ch j s l).2 = (ch.append j.half j.used (deedsB l)).2 := by
      unfold commit
      rw [if_neg hnend, if_neg hbig]
      by_cases h0 : (ch.append j.half j.used (deedsB l)).2 = 0
      · rw [if_neg (by rw [h0]; decide)]; exact ⟨rfl, h0.symm⟩
      · rw [if_pos h0]; exact ⟨rfl, rfl⟩
    rw [hcm.1, hcm.2]
    have hdone : (ch.append j.half j.used (deedsB l)).1.half j.half = lay (ch.half j.half) j.used (recB (deedsB l)) → Holds (ch.append j.half j.used (deedsB l)).1 (j.epoch + 1) (applyL s l) := by
      intro h
      have ht := told_more hk.told hc (by omega) h
      exact ⟨⟨j.half, j.epoch, _, false, hj.half, ht.read, by rw [hother]; exact hk.other, hk.told.ep.1, by omega, ht.room⟩, ho, hr⟩
    refine ⟨o1, o2, ?_⟩
    rcases a2 with ⟨r1, r2⟩ | ⟨r1, t, v, r3, r2⟩
    · exact .inl ⟨r1, hdone r2⟩
    · refine .inr (.inr ⟨r1, ?_⟩)
      have hffh : ∀ i, j.used ≤ i → i < (ch.half j.half).length → (ch.half j.half)[i]? = some 255 := by
        intro i h1 h2
        rw [half_get, if_pos (by omega)]
        exact hff _ (by omega) (by omega)
      rcases torn_tail hffh r3 (by omega) (by omega) r2 with e | e
      · exact .inr (hdone e)
      · left
        have htk : ((ch.append j.half j.used (deedsB l)).1.half j.half).take j.used = (ch.half j.half).take j.used := by
          apply List.ext_getElem?
          intro i
          rw [List.getElem?_take, List.getElem?_take]
          split
          · rw [r2, if_neg (by omega), if_neg (by omega)]
          · rfl
        obtain ⟨m, hm⟩ := told_tail hk.told htk e
        exact ⟨⟨j.half, j.epoch, j.used, m, hj.half, hm, by rw [hother]; exact hk.other, hk.told.ep.1, by omega, hk.told.room⟩, hk.told.ord, hk.told.rng⟩
end Go.Proofs.YtaeeahcokiebdaaGreat

/-
  The walk of JournalFalls: wherever power goes, what is found is the state ahead of it, or behind it.
  Conditions: what is counted fits.
-/
namespace Go.Proofs.YtaeeahcokiebdaaGreat
set_option maxRecDepth 20000

def Pw.cut (p : Pw) (n : Nat) (m : UInt8) : Pw := { p with left := n, mask := m }
def Pw.on (p : Pw) : Pw := { p with off := false, left := -1 }
theorem cut_spec (M : Mem) (b : Nat) (p : Pw) (fv : Value) (n : Nat) (m : UInt8) : Spec Tryz.prog 29 [ptr b, intV n, byteV m] M [(b, .cells (pwL p fv))] (fun _ _ H => H = [(b, .cells (pwL (p.cut n m) fv))]) := by
  refine Spec.of_code 17 Tryz.func29 rfl callable29 rfl rfl fun w => ?_
  refine C.region_seq ?_
  refine G.value rfl rfl rfl (Sure.move rfl) ?_
  refine G.value rfl rfl rfl (Sure.ptr_ne_nil rfl rfl) ?_
  refine G.nil ?_
  refine C.cond_true rfl ?_
  refine C.region ?_
  refine G.value rfl rfl rfl (Sure.move rfl) ?_
  refine G.value rfl rfl rfl (Sure.move rfl) ?_
  refine G.value rfl rfl rfl (Sure.move rfl) ?_
  refine G.value rfl rfl rfl (Sure.max rfl rfl) ?_
  rw [show max (n : Int) (-1) = n from by omega]
  refine G.value rfl rfl rfl (Sure.move rfl) ?_
  refine G.value rfl rfl rfl (Sure.nilCheck rfl) ?_
  refine G.value rfl rfl rfl (Sure.fieldAddr rfl) ?_
  refine G.dyn0 rfl rfl ?_
  refine Dyn.store rfl rfl pkx rfl rfl ?_
  refine G.value rfl rfl rfl (Sure.nilCheck rfl) ?_
  refine G.value rfl rfl rfl (Sure.fieldAddr rfl) ?_
  refine G.dyn0 rfl rfl ?_
  refine Dyn.store rfl rfl pkx rfl rfl ?_
  refine G.nil ?_
  exact Fin.fn_normal (Res.none rfl) (Split.cons Pick.here Split.nil) rfl
theorem on_spec (M : Mem) (b : Nat) (p : Pw) (fv : Value) : Spec Tryz.prog 30 [ptr b] M [(b, .cells (pwL p fv))] (fun _ _ H => H = [(b, .cells (pwL p.on fv))]) := by
  refine Spec.of_code 10 Tryz.func30 rfl callable30 rfl rfl fun w => ?_
  refine C.region_seq ?_
  refine G.value rfl rfl rfl (Sure.move rfl) ?_
  refine G.value rfl rfl rfl (Sure.ptr_ne_nil rfl rfl) ?_
  refine G.nil ?_
  refine C.cond_true rfl ?_
  refine C.region ?_
  refine G.value rfl rfl rfl (Sure.move rfl) ?_
  refine G.value rfl rfl rfl (Sure.move rfl) ?_
  refine G.value rfl rfl rfl (Sure.nilCheck rfl) ?_
  refine G.value rfl rfl rfl (Sure.fieldAddr rfl) ?_
  refine G.dyn0 rfl rfl ?_
  refine Dyn.store rfl rfl pkx rfl rfl ?_
  refine G.value rfl rfl rfl (Sure.nilCheck rfl) ?_
  refine G.value rfl rfl rfl (Sure.fieldAddr rfl) ?_
  refine G.dyn0 rfl rfl ?_
  refine Dyn.store rfl rfl pkx rfl rfl ?_
  refine G.nil ?_
  exact Fin.fn_normal (Res.none rfl) (Split.cons Pick.here Split.nil) rfl
/-- A commit, whenever power falls. -/
theorem commit_cut (M : Mem) (jb : Nat) (ad : Ad) (ch : Chip) (j : Jr) (s : StaD) (p : Option Addr) (cap : Nat) (dl : List DeedD) (hok : ChipOk ad ch) (hj : JOk j ch.g) (hn : j.ended = false) (hk : Kept ch j s.v) (hs : SOk M s) (hd : RDeeds M p dl)
    (hc : ∀ d ∈ dl.map DeedD.v, Canon d) (hb : (deedsB (dl.map DeedD.v)).length ≤ 90000) (he : j.epoch < 2147483647) :
    Spec Tryz.prog 16 [ptr jb, .slice p dl.length cap] M ((jb, .cells (jrL ad.cb j s)) :: chipH ad ch)
      (fun v M' H => ∃ (ch' : Chip) (c : List Value) (f : Int) (z : Sta), H = (jb, .cells c) :: chipH ad ch' ∧ ChipOk ad ch' ∧ ch'.g = ch.g ∧ v = intV f ∧ Holds ch' (j.epoch + 1) z ∧
        ((f = 0 ∧ z = applyL s.v (dl.map DeedD.v)) ∨ (f = 10 ∧ z = s.v) ∨ (f = 6 ∧ (z = s.v ∨ z = applyL s.v (dl.map DeedD.v))))) := by
  obtain ⟨hz, hz1, hz2, hz3⟩ := hsz_int hok.geo
  have hrm := hk.told.room
  have hus := hj.used
  have hwa := wN_applyL (dl.map DeedD.v) s.v
  have hwl := whole_len (applyL s.v (dl.map DeedD.v))
  have hcnt := deeds_count (dl.map DeedD.v)
  rw [List.length_map] at hcnt
  have hdk : ∀ d ∈ dl, InoOk d.d.x := fun d hm => canon_ok (hc d.v (List.mem_map_of_mem hm)) (by have := deeds_mem (List.mem_map_of_mem (f := DeedD.v) hm); omega)
  have hsp := commit_spec M jb ad ch j s p cap dl hok hj hs (staOk_small (by omega)) hd hdk (by omega) (by omega) (staOk_small (by omega)) (by omega)
  obtain ⟨c1, c2, c3⟩ := commit_any hok hj hn he hk hc
  refine hsp.mono ?_
  rintro v M' H hle ⟨rfl, s', hs', hso, rfl⟩
  rcases c3 with ⟨r1, r2⟩ | ⟨r1, r2⟩ | ⟨r1, r2 | r2⟩
  · exact ⟨_, _, 0, _, rfl, c1, c2, by rw [r1], r2, .inl ⟨rfl, rfl⟩⟩
  · exact ⟨_, _, 10, _, rfl, c1, c2, by rw [r1], r2, .inr (.inl ⟨rfl, rfl⟩)⟩
  · exact ⟨_, _, 6, _, rfl, c1, c2, by rw [r1], r2, .inr (.inr ⟨rfl, .inl rfl⟩)⟩
  · exact ⟨_, _, 6, _, rfl, c1, c2, by rw [r1], r2, .inr (.inr ⟨rfl, .inr rfl⟩)⟩
theorem Spec.drop {P : Program} {f args M H} {post post' : Value → Mem → Heap → Prop} (h : Spec P f args M H post) (hp : ∀ v M' H', MLe M M' → post v M' H' → ∃ A R, Split A H' R ∧ post' v M' A) : Spec P f args M H post' :=
  ⟨h.callable, fun w hw => (h.runs w hw).mono fun _ _ ⟨v, M', H', he, hst, hq⟩ => let ⟨A, _, hs, hq'⟩ := hp v M' H' hst.le hq; ⟨v, M', A, he, hst.sub hs, hq'⟩⟩
theorem open_cut (M : Mem) (ad : Ad) (ch : Chip) (B : Int) (z : Sta) (hok : ChipOk ad ch) (hi : Holds ch B z) (hB : B < 2147483647) :
    Spec Tryz.prog 21 [ptr ad.cb] M (chipH ad ch) (fun _ _ H => ∃ (ch' : Chip), H = chipH ad ch' ∧ ChipOk ad ch' ∧ ch'.g = ch.g ∧ Holds ch' (B + 1) z) := by
  obtain ⟨a1, a2, a3⟩ := open_any hok hi hB
  refine (open_spec M ad ch hok).drop ?_
  rintro v _ H hle (⟨_, _, _, rfl⟩ | ⟨jb, j', s', _, _, _, _, _, rfl⟩)
  · exact ⟨_, [], Split.one .all, _, rfl, a1, a2, a3⟩
  · exact ⟨chipH ad (openC ch).1.1, [(jb, .cells (jrL ad.cb j' s'))], Split.one (.there .all), _, rfl, a1, a2, a3⟩
theorem open_back (M : Mem) (ad : Ad) (ch : Chip) (B : Int) (z : Sta) (hok : ChipOk ad ch) (ha : Alive ch.pw) (hi : Holds ch B z) (hB : B < 2147483647) :
    Spec Tryz.prog 21 [ptr ad.cb] M (chipH ad ch) (fun v M' H => ∃ (jb : Nat) (j : Jr) (s : StaD) (ch' : Chip), v = .tuple #[ptr jb, .int .i64 0] ∧ s.v = z ∧ SOk M' s ∧ StaOk s.v ∧ H = (jb, .cells (jrL ad.cb j s)) :: chipH ad ch') := by
  obtain ⟨a1, j0, a2⟩ := open_found hok ha hi hB
  refine (open_spec M ad ch hok).mono ?_
  rintro v M' H hle (⟨h1, _⟩ | ⟨jb, j', s', h1, h2, rfl, hso, hsb, rfl⟩)
  · rw [a2] at h1; cases h1
  · rw [a2] at h1
    injection h1 with h1
    injection h1 with h1 h3
    obtain ⟨b1, b2, b3⟩ := hsb
    exact ⟨jb, j', s', _, rfl, h3.symm, hso, ⟨by omega, by omega, b3⟩, rfl⟩
theorem Holds.pw {ch : Chip} {B : Int} {s : Sta} (p : Pw) (h : Holds ch B s) : Holds { ch with pw := p } B s := ⟨h.ex, h.ord, h.rng⟩
theorem ChipOk.on {ad : Ad} {ch : Chip} (h : ChipOk ad ch) : ChipOk ad { ch with pw := ch.pw.on } := ⟨h.geo, h.len, h.cap, by unfold PwOk Pw.on; dsimp only; omega⟩
theorem ChipOk.cut {ad : Ad} {ch : Chip} (h : ChipOk ad ch) {n : Nat} {m : UInt8} (hn : n ≤ 9223372036854775807) : ChipOk ad { ch with pw := ch.pw.cut n m } := ⟨h.geo, h.len, h.cap, by unfold PwOk Pw.cut; dsimp only; omega⟩
theorem falls_law (M : Mem) (g : Geo) (pl : Option Addr) (cl : Nat) (ll : List DlD) (p : Option Addr) (cap : Nat) (dl : List DeedD) (cut again : Int) (mask : UInt8) (hr : RDls M pl ll) (hd : RDeeds M p dl) (hdi : ∀ d ∈ dl.map DeedD.v, DeedIn d) (hf : fewN (dl.map DeedD.v) ≤ 1000000000000) :
    Spec Tryz.prog 5 [geoV g, .slice pl ll.length cl, .slice p dl.length cap, intV cut, intV again, byteV mask] M [] (fun v _ _ => v = .bool true) := by
  refine Spec.of_code 158 Tryz.func5 rfl callable5 rfl rfl fun w => ?_
  refine C.region_seq ?_
  refine G.dyn rfl rfl rfl ?_
  refine Dyn.boxAgg rfl ?_
  intro b6
  refine G.value rfl rfl rfl (Sure.assign rfl) ?_
  refine G.nil ?_
  refine C.region_seq ?_
  refine G.value rfl rfl rfl (Sure.loadAgg rfl rdx rfl) ?_
  refine G.call rfl rfl rfl rfl rfl rfl (geometry_spec M g) (Split.nil) ?_
  rintro _ M1 _ le1 ⟨rfl, g', rfl, hg, hg2, hg3⟩
  refine G.dyn0 rfl rfl ?_
  refine Dyn.storeAgg rfl rfl pkx rfl rfl rfl ?_
  refine G.nil ?_
  refine C.region_seq ?_
  refine G.call rfl rfl rfl rfl rfl rfl (pw_new_spec M1) (Split.nil) ?_
  rintro _ M2 _ le2 ⟨pb, rfl, rfl⟩
  refine G.value rfl rfl rfl (Sure.assign rfl) ?_
  refine G.nil ?_
  refine C.region_seq ?_
  refine G.value rfl rfl rfl (Sure.loadAgg rfl rdx rfl) ?_
  refine G.value rfl rfl rfl (Sure.move rfl) ?_
  refine G.call rfl rfl rfl rfl rfl rfl (norNew_spec M2 g' pb ⟨-1, 0, false, 0⟩ (.map Option.none) hg ⟨by decide, by decide⟩) (Split.cons pkx Split.nil) ?_
  rintro _ M3 _ le3 ⟨ad, hpb, rfl, rfl, hok⟩
  have hal : Alive (⟨-1, 0, false, 0⟩ : Pw) := ⟨rfl, rfl⟩
  subst hpb
  refine G.value rfl rfl rfl (Sure.move rfl) ?_
  refine G.value rfl rfl rfl (Sure.extract rfl rfl) ?_
  refine G.value rfl rfl rfl (Sure.extract rfl rfl) ?_
  refine G.value rfl rfl rfl (Sure.assign rfl) ?_
  refine G.value rfl rfl rfl (Sure.assign rfl) ?_
  refine G.nil ?_
  refine C.seq ?_
  refine C.region_seq ?_
  refine G.call rfl rfl rfl rfl rfl rfl (awake17_spec M3) (Split.nil) ?_
  rintro _ M4 _ le4 ⟨rfl, rfl⟩
  refine G.value rfl rfl rfl (Sure.not rfl) ?_
  refine G.value rfl rfl rfl (Sure.move rfl) ?_
  refine G.value rfl rfl rfl (Sure.move rfl) ?_
  refine G.value rfl rfl rfl (ptr_eq_f rfl rfl) ?_
  refine G.value rfl rfl rfl (Sure.pick_false rfl rfl) ?_
  refine G.value rfl rfl rfl (Sure.move rfl) ?_
  refine G.value rfl rfl rfl (Sure.move rfl) ?_
  have hle4 := le1.trans (le2.trans (le3.trans le4))
  refine G.call rfl rfl rfl rfl rfl rfl (few_spec M4 p cap dl (hd.mono hle4) hf) (Split.nil) ?_
  rintro _ M5 _ le5 ⟨rfl, rfl⟩
  by_cases hfew : fewN (dl.map DeedD.v) ≤ 3000
  · rw [decide_eq_true hfew]
    refine G.value rfl rfl rfl (Sure.not rfl) ?_
    have hln := few_length (dl.map DeedD.v)
    rw [List.length_map] at hln
    refine G.value rfl rfl rfl (Sure.pick_false rfl rfl) ?_
    refine G.nil ?_
    refine C.cond_false rfl ?_
    refine C.skip ?_
    refine Fin.th ?_
    refine C.region_seq ?_
    refine G.value rfl rfl rfl (Sure.move rfl) ?_
    refine G.call rfl rfl rfl rfl rfl rfl (format_live M5 ad _ hok hal) (Split.one .here) ?_
    rintro _ M6 _ le6 ⟨jb, s, ch, rfl, hsv, hso, hlv, hcg, _, rfl⟩
    refine G.value rfl rfl rfl (Sure.move rfl) ?_
    refine G.value rfl rfl rfl (Sure.extract rfl rfl) ?_
    refine G.value rfl rfl rfl (Sure.extract rfl rfl) ?_
    refine G.value rfl rfl rfl (Sure.assign rfl) ?_
    refine G.value rfl rfl rfl (Sure.assign rfl) ?_
    refine G.nil ?_
    refine C.seq ?_
    refine C.region_seq ?_
    refine G.value rfl rfl rfl (Sure.move rfl) ?_
    refine G.value rfl rfl rfl ((Sure.neq rfl rfl).to_f (by decide)) ?_
    refine G.value rfl rfl rfl (Sure.move rfl) ?_
    refine G.value rfl rfl rfl (Sure.move rfl) ?_
    refine G.value rfl rfl rfl (ptr_eq_f rfl rfl) ?_
    refine G.value rfl rfl rfl (Sure.pick_false rfl rfl) ?_
    refine G.nil ?_
    refine C.cond_false rfl ?_
    refine C.skip ?_
    refine Fin.th ?_
    refine C.region_seq ?_
    refine G.call rfl rfl rfl rfl rfl rfl (refStateC_spec M6) (Split.nil) ?_
    rintro _ M7 _ le7 ⟨rfl, r, hrv, rfl, hro⟩
    refine G.dyn rfl rfl rfl ?_
    refine Dyn.allocAgg ?_
    intro b18
    refine G.dyn0 rfl rfl ?_
    refine Dyn.storeAgg rfl rfl pkx rfl rfl rfl ?_
    refine G.nil ?_
    refine C.region_seq ?_
    refine G.value rfl rfl rfl (Sure.move rfl) ?_
    have hle7 := hle4.trans (le5.trans (le6.trans le7))
    refine G.call rfl rfl rfl rfl rfl rfl (clean_spec M7 p cap dl (hd.mono hle7) (by omega)) (Split.nil) ?_
    rintro _ M8 _ le8 ⟨rfl, dlc, pc, cc, rfl, hrc, hvc⟩
    have hcan : ∀ d ∈ dlc.map DeedD.v, Canon d := by rw [hvc]; exact cleans_canon hdi hfew
    have hclen : (deedsB (dlc.map DeedD.v)).length ≤ 90000 := by rw [hvc]; have := cleans_len (dl.map DeedD.v); omega
    have hlen9 : dlc.length = dl.length := by have := congrArg List.length hvc; simpa using this
    refine G.value rfl rfl rfl (Sure.assign rfl) ?_
    refine G.nil ?_
    refine C.seq ?_
    refine C.region_seq ?_
    refine G.value rfl rfl rfl (Sure.assign rfl) ?_
    refine G.nil ?_
    have hrc8 := hrc
    rw [← hsv] at hlv
    have hrs : r.v = s.v := hrv.trans hsv.symm
    have hjep : fmtJ.epoch ≤ 1 + ((0 : Nat) : Int) := by decide
    have hso8 := hso.mono (le7.trans le8)
    have hro8 := hro.mono le8
    clear hso hro hsv hrv
    generalize fmtJ = j at hlv hjep ⊢
    have hle8 := hle7.trans le8
    refine C.cutTop (fun E M' H => ∃ (ch : Chip) (j : Jr) (s r : StaD), MLe M8 M' ∧ Live ad ch j s.v ∧ ch.g = g' ∧ j.epoch ≤ 10 ∧ SOk M' s ∧ SOkC M' r ∧ r.v = s.v ∧ esub [(2, .slice pc dlc.length cc), (3, intV cut), (4, intV again), (5, byteV mask), (13, ptr ad.pb), (14, ptr ad.cb), (16, ptr jb), (18, ptr b18)] E ∧ ∃ R, Split ((b18, .cells (staDL r)) :: (jb, .cells (jrL ad.cb j s)) :: chipH ad ch) H R) ?_ ?_
    · refine C.block ?_
      refine C.loop (fun k E M' H => ∃ (i : Nat) (ch : Chip) (j : Jr) (s r : StaD), MLe M8 M' ∧ i + k = ll.length ∧ i ≤ 8 ∧ Live ad ch j s.v ∧ ch.g = g' ∧ j.epoch ≤ 1 + (i : Int) ∧ SOk M' s ∧ SOkC M' r ∧ r.v = s.v ∧ E = [(1, .slice pl ll.length cl), (2, .slice pc dlc.length cc), (3, intV cut), (4, intV again), (5, byteV mask), (13, ptr ad.pb), (14, ptr ad.cb), (16, ptr jb), (18, ptr b18), (19, intV i)] ∧ H = (b18, .cells (staDL r)) :: (jb, .cells (jrL ad.cb j s)) :: chipH ad ch) (ll.length) ?_ ?_
      · exact ⟨_, _, ⟨0, ch, j, s, r, MLe.refl _, by omega, by omega, hlv, hcg, hjep, hso8, hro8, hrs, rfl, rfl⟩, ⟨rfl, rfl, rfl, rfl, rfl, rfl, rfl, rfl, rfl, rfl, trivial⟩, [(b6, .cells (geoL g'))], Split.cons pkx (Split.one .here)⟩
      · clear hso8 hro8 hrs hlv hcg hjep
        rintro k E M' H ⟨i, ch, j, s, r, hle, hik, hi8, hlv, hcg, hep, hso, hro, hrs, rfl, rfl⟩
        rcases Nat.lt_or_ge i ll.length with hlt | hge
        · refine C.seq ?_
          refine C.region_seq ?_
          refine G.value rfl rfl rfl (Sure.move rfl) ?_
          refine G.value rfl rfl rfl (Sure.move rfl) ?_
          refine G.value rfl rfl rfl (Sure.len_slice rfl) ?_
          refine G.value rfl rfl rfl ((Sure.lss rfl rfl).to_t (by omega)) ?_
          refine G.value rfl rfl rfl (Sure.move rfl) ?_
          refine G.value rfl rfl rfl (Sure.move rfl) ?_
          refine G.value rfl rfl rfl (Sure.lss rfl rfl) ?_
          refine G.value rfl rfl rfl (Sure.pick_true rfl rfl) ?_
          refine G.nil ?_
          refine C.cond_dec rfl (fun h10 => ?_) (fun h10 => ?_)
          · have hx : ll[i] ∈ ll := List.getElem_mem hlt
            have hxe : ll[i]? = some ll[i] := List.getElem?_eq_getElem hlt
            generalize ll[i] = x at hx hxe
            have hxr := (hr.rd x hx).mono (hle8.trans hle)
            have hxf := hr.few x hx
            have hxg := hr.rg x hx
            obtain ⟨q1, o1, c1, hq1, hrd0, hseg1⟩ := SlL.row (i := i) (e := dlL x) (SlL.mono hr.sl (hle8.trans hle)) (by rw [List.getElem?_map, hxe]; rfl)
            have hrdm := hrd0.resolve_right (by simp)
            refine C.skip ?_
            refine Fin.th ?_
            refine C.seq ?_
            refine C.block ?_
            refine C.seq ?_
            refine C.region_seq ?_
            refine G.value rfl rfl rfl (Sure.move rfl) ?_
            refine G.value rfl rfl rfl (Sure.move rfl) ?_
            refine G.value rfl rfl rfl (Sure.indexAddr (congrArg (fun q => some (Value.slice q ll.length cl)) hq1) rfl (by omega)) ?_
            refine G.value rfl rfl rfl (Sure.load rfl (Rd.m hrdm) (seg_one (k := 0) hseg1 rfl)) ?_
            refine G.call rfl rfl rfl rfl rfl rfl (few_spec M' x.p x.cap x.dl hxr hxf) (Split.nil) ?_
            rintro _ M9 _ le9 ⟨rfl, rfl⟩
            by_cases hfew2 : fewN (x.dl.map DeedD.v) ≤ 3000
            · rw [decide_eq_true hfew2]
              refine G.value rfl rfl rfl (Sure.not rfl) ?_
              have hln2 := few_length (x.dl.map DeedD.v)
              rw [List.length_map] at hln2
              refine G.nil ?_
              refine C.cond_false rfl ?_
              refine C.skip ?_
              refine Fin.th ?_
              refine C.region_seq ?_
              refine G.value rfl rfl rfl (Sure.move rfl) ?_
              refine G.value rfl rfl rfl (Sure.move rfl) ?_
              refine G.value rfl rfl rfl (Sure.indexAddr (congrArg (fun q => some (Value.slice q ll.length cl)) hq1) rfl (by omega)) ?_
              refine G.value rfl rfl rfl (Sure.load rfl (Rd.m (le9 _ _ hrdm)) (seg_one (k := 0) hseg1 rfl)) ?_
              refine G.call rfl rfl rfl rfl rfl rfl (clean_spec M9 x.p x.cap x.dl (hxr.mono le9) (by omega)) (Split.nil) ?_
              rintro _ M10 _ le10 ⟨rfl, dl2, p2, c2, rfl, hrc2, hvc2⟩
              have hlen2 : dl2.length = x.dl.length := by have := congrArg List.length hvc2; simpa using this
              have hcl := commit_live M10 jb ad ch j s p2 c2 dl2 hlv ((hso.mono le9).mono le10) hrc2 (by rw [hvc2]; exact cleans_canon hxg hfew2) (by rw [hvc2]; have := cleans_len (x.dl.map DeedD.v); omega) (by omega)
              refine G.value rfl rfl rfl (Sure.assign rfl) ?_
              refine G.nil ?_
              refine C.region_seq ?_
              refine G.value rfl rfl rfl (Sure.move rfl) ?_
              refine G.value rfl rfl rfl (Sure.move rfl) ?_
              refine G.call rfl rfl rfl rfl rfl rfl (hcl) (Split.one (.there .all)) ?_
              rintro v21 M11 _ le11 ⟨ch', j', s', rfl, hso', hlv', hg', hep', hres⟩
              obtain ⟨f, rfl, hfs⟩ : ∃ f : Int, v21 = intV f ∧ ((f = 0 ∧ s'.v = applyL s.v (dl2.map DeedD.v)) ∨ (f = 10 ∧ s'.v = s.v)) := by
                rcases hres with ⟨rfl, h, _⟩ | ⟨rfl, h, _⟩
                · exact ⟨0, rfl, .inl ⟨rfl, h⟩⟩
                · exact ⟨10, rfl, .inr ⟨rfl, h⟩⟩
              have hle' := hle.trans (le9.trans (le10.trans le11))
              have hro' := ((hro.mono le9).mono le10).mono le11
              have hrk : r.inos.length ≤ 1000000 ∧ r.bad.length ≤ 1000000 := by
                have hstk : StaOk s.v := staOk_small (by have := hlv.small; omega)
                rw [← hrs] at hstk
                exact ⟨by have := hstk.1; simpa [StaD.v] using this, hstk.2.1⟩
              refine G.value rfl rfl rfl (Sure.assign rfl) ?_
              refine G.nil ?_
              refine C.region_seq ?_
              refine G.value rfl rfl rfl (Sure.move rfl) ?_
              refine G.value rfl rfl rfl (Sure.eql rfl rfl) ?_
              refine G.nil ?_
              refine C.cond_dec rfl (fun hk => ?_) (fun hk => ?_)
              · refine C.region ?_
                refine G.value rfl rfl rfl (Sure.loadAgg rfl rdx rfl) ?_
                refine G.value rfl rfl rfl (Sure.move rfl) ?_
                refine G.call rfl rfl rfl rfl rfl rfl (refApply_spec M11 r p2 c2 dl2 hro' hrk (hrc2.mono le11) (by omega)) (Split.nil) ?_
                rintro _ M12 _ le12 ⟨rfl, r', hrv', rfl, hro2⟩
                refine G.dyn0 rfl rfl ?_
                refine Dyn.storeAgg rfl rfl pkx rfl rfl rfl ?_
                refine G.nil ?_
                refine Fin.blk ?_
                refine Fin.th ?_
                refine C.region ?_
                refine G.value rfl rfl rfl (Sure.move rfl) ?_
                refine G.value rfl rfl rfl (Sure.add rfl rfl (inK64 (by omega))) ?_
                refine G.value rfl rfl rfl (Sure.assign rfl) ?_
                refine G.nil ?_
                refine Fin.th ?_
                refine ⟨k - 1, _, _, by omega, ⟨i + 1, ch', j', s', r', hle'.trans le12, by omega, by omega, hlv', hg'.trans hcg, by omega, hso'.mono le12, hro2, ?_, rfl, rfl⟩, ⟨rfl, rfl, rfl, rfl, rfl, rfl, rfl, rfl, rfl, rfl, trivial⟩, [], ?_⟩
                · rcases hfs with ⟨_, h⟩ | ⟨h, _⟩
                  · rw [hrv', hrs, h]
                  · omega
                · exact Split.cons pkx (Split.cons pkx (Split.one .all))
              · refine C.region_seq ?_
                refine G.value rfl rfl rfl (Sure.move rfl) ?_
                refine G.value rfl rfl rfl ((Sure.neq rfl rfl).to_f (by rcases hfs with ⟨h, _⟩ | ⟨h, _⟩ <;> omega)) ?_
                refine G.nil ?_
                refine C.cond_false rfl ?_
                refine C.skip ?_
                refine Fin.blk ?_
                refine Fin.th ?_
                refine C.region ?_
                refine G.value rfl rfl rfl (Sure.move rfl) ?_
                refine G.value rfl rfl rfl (Sure.add rfl rfl (inK64 (by omega))) ?_
                refine G.value rfl rfl rfl (Sure.assign rfl) ?_
                refine G.nil ?_
                refine Fin.th ?_
                refine ⟨k - 1, _, _, by omega, ⟨i + 1, ch', j', s', r, hle', by omega, by omega, hlv', hg'.trans hcg, by omega, hso', hro', ?_, rfl, rfl⟩, ⟨rfl, rfl, rfl, rfl, rfl, rfl, rfl, rfl, rfl, rfl, trivial⟩, [], ?_⟩
                · rcases hfs with ⟨h, _⟩ | ⟨_, h⟩
                  · exact absurd h hk
                  · rw [hrs, h]
                · exact Split.cons pkx (Split.cons pkx (Split.one .all))
            · skip
              rw [decide_eq_false hfew2]
              refine G.value rfl rfl rfl (Sure.not rfl) ?_
              refine G.nil ?_
              refine C.cond_true rfl ?_
              refine C.region_seq ?_
              refine G.value rfl rfl rfl (Sure.assign rfl) ?_
              refine G.nil ?_
              refine C.ret ?_
              refine Fin.th_ret ?_
              refine Fin.blk_ret ?_
              refine Fin.th_ret ?_
              refine Fin.th_ret ?_
              refine Fin.blk_ret ?_
              refine Fin.th_ret ?_
              exact Fin.fn (Res.tmp rfl rfl) Split.nil rfl
          · refine C.exit ?_
            refine Fin.th_exit ?_
            refine Fin.th_exit ?_
            refine Fin.blk_eq ?_
            refine Fin.th ?_
            exact ⟨ch, j, s, r, hle, hlv, hcg, by omega, hso, hro, hrs, ⟨rfl, rfl, rfl, rfl, rfl, rfl, rfl, rfl, trivial⟩, [], Split.cons pkx (Split.cons .here (Split.one .all))⟩
        · skip
          refine C.seq ?_
          refine C.region_seq ?_
          refine G.value rfl rfl rfl (Sure.move rfl) ?_
          refine G.value rfl rfl rfl (Sure.move rfl) ?_
          refine G.value rfl rfl rfl (Sure.len_slice rfl) ?_
          refine G.value rfl rfl rfl ((Sure.lss rfl rfl).to_f (by omega)) ?_
          refine G.value rfl rfl rfl (Sure.move rfl) ?_
          refine G.skip rfl rfl rfl ?_
          refine G.skip rfl rfl rfl ?_
          refine G.value rfl rfl rfl (Sure.pick_false rfl rfl) ?_
          refine G.nil ?_
          refine C.cond_false rfl ?_
          refine C.exit ?_
          refine Fin.th_exit ?_
          refine Fin.th_exit ?_
          refine Fin.blk_eq ?_
          refine Fin.th ?_
          exact ⟨ch, j, s, r, hle, hlv, hcg, by omega, hso, hro, hrs, ⟨rfl, rfl, rfl, rfl, rfl, rfl, rfl, rfl, trivial⟩, [], Split.cons pkx (Split.cons .here (Split.one .all))⟩
    · clear hso8 hro8 hrs hlv hcg hjep
      rintro E M9 H ⟨ch, j, s, r, hle9, hlv, hcg, hep, hso, hro, hrs, hsub, R, hspl⟩
      refine C.weak hsub (C.sub hspl ?_)
      clear hspl hsub
      have hrk : r.inos.length ≤ 1000000 ∧ r.bad.length ≤ 1000000 := by
        have hstk : StaOk s.v := staOk_small (by have := hlv.small; omega)
        rw [← hrs] at hstk
        exact ⟨by have := hstk.1; simpa [StaD.v] using this, hstk.2.1⟩
      have hrc9 := hrc.mono hle9
      clear hrc
      refine C.region_seq ?_
      refine G.value rfl rfl rfl (Sure.move rfl) ?_
      refine G.value rfl rfl rfl (Sure.move rfl) ?_
      refine G.value rfl rfl rfl (Sure.conv' rfl) ?_
      have hwc := u64_wrap_bd cut
      refine G.value rfl rfl rfl (Sure.rem rfl rfl (by omega) (by decide)) ?_
      obtain ⟨nc, hnc⟩ : ∃ nc : Nat, IntKind.u64.wrap cut % 800 = nc := ⟨(IntKind.u64.wrap cut % 800).toNat, by omega⟩
      have hnc2 : nc < 800 := by omega
      rw [hnc]
      refine G.value rfl rfl rfl (Sure.conv rfl (inK64 (by omega))) ?_
      refine G.value rfl rfl rfl (Sure.move rfl) ?_
      refine G.call rfl rfl rfl rfl rfl rfl (cut_spec M9 ad.pb ch.pw ad.fv nc mask) (Split.cons pkx Split.nil) ?_
      rintro _ M10 _ le10 rfl
      refine G.nil ?_
      refine C.region_seq ?_
      refine G.value rfl rfl rfl (Sure.move rfl) ?_
      refine G.value rfl rfl rfl (Sure.move rfl) ?_
      refine G.call rfl rfl rfl rfl rfl rfl (commit_cut M10 jb ad { ch with pw := ch.pw.cut nc mask } j s pc cc dlc (hlv.ok.cut (by omega)) hlv.jok hlv.ended ⟨hlv.kept.told, hlv.kept.other⟩ (hso.mono le10) (hrc9.mono le10) hcan hclen (by omega)) (Split.cons pkx (Split.cons pkx (Split.cons pkx (Split.cons pkx (Split.cons pkx Split.nil))))) ?_
      rintro _ M11 _ le11 ⟨ch2, jc, f, z, rfl, hok2, hg2', rfl, hi2, hfz⟩
      refine G.value rfl rfl rfl (Sure.assign rfl) ?_
      refine G.nil ?_
      refine C.region_seq ?_
      refine G.value rfl rfl rfl (Sure.move rfl) ?_
      refine G.call rfl rfl rfl rfl rfl rfl (on_spec M11 ad.pb ch2.pw ad.fv) (Split.cons pkx Split.nil) ?_
      rintro _ M12 _ le12 rfl
      refine G.nil ?_
      refine C.region_seq ?_
      refine G.value rfl rfl rfl (Sure.loadAgg rfl rdx rfl) ?_
      refine G.value rfl rfl rfl (Sure.move rfl) ?_
      have hro12 := (hro.mono le10).mono (le11.trans le12)
      refine G.call rfl rfl rfl rfl rfl rfl (refApply_spec M12 r pc cc dlc hro12 hrk ((hrc9.mono le10).mono (le11.trans le12)) (by omega)) (Split.nil) ?_
      rintro _ M13 _ le13 ⟨rfl, r2, hr2v, rfl, hro2⟩
      refine G.dyn rfl rfl rfl ?_
      refine Dyn.allocAgg ?_
      intro b23
      refine G.dyn0 rfl rfl ?_
      refine Dyn.storeAgg rfl rfl pkx rfl rfl rfl ?_
      refine G.nil ?_
      refine C.region_seq ?_
      refine G.value rfl rfl rfl (Sure.move rfl) ?_
      refine G.value rfl rfl rfl (Sure.move rfl) ?_
      refine G.value rfl rfl rfl (Sure.conv' rfl) ?_
      have hwa := u64_wrap_bd again
      refine G.value rfl rfl rfl (Sure.rem rfl rfl (by omega) (by decide)) ?_
      obtain ⟨na, hna⟩ : ∃ na : Nat, IntKind.u64.wrap again % 800 = na := ⟨(IntKind.u64.wrap again % 800).toNat, by omega⟩
      have hna2 : na < 800 := by omega
      rw [hna]
      refine G.value rfl rfl rfl (Sure.conv rfl (inK64 (by omega))) ?_
      refine G.value rfl rfl rfl (Sure.move rfl) ?_
      refine G.call rfl rfl rfl rfl rfl rfl (cut_spec M13 ad.pb ch2.pw.on ad.fv na mask) (Split.cons pkx Split.nil) ?_
      rintro _ M14 _ le14 rfl
      refine G.nil ?_
      refine C.region_seq ?_
      refine G.value rfl rfl rfl (Sure.move rfl) ?_
      refine G.call rfl rfl rfl rfl rfl rfl (open_cut M14 ad { ch2 with pw := ch2.pw.on.cut na mask } (j.epoch + 1) z (hok2.on.cut (by omega)) (hi2.pw _) (by omega)) (Split.cons pkx (Split.cons pkx (Split.cons pkx (Split.cons pkx Split.nil)))) ?_
      rintro _ M15 _ le15 ⟨ch3, rfl, hok3, hg3', hi3⟩
      refine G.nil ?_
      refine C.region_seq ?_
      refine G.value rfl rfl rfl (Sure.move rfl) ?_
      refine G.call rfl rfl rfl rfl rfl rfl (on_spec M15 ad.pb ch3.pw ad.fv) (Split.cons pkx Split.nil) ?_
      rintro _ M16 _ le16 rfl
      refine G.nil ?_
      refine C.region_seq ?_
      refine G.value rfl rfl rfl (Sure.move rfl) ?_
      refine G.call rfl rfl rfl rfl rfl rfl (open_back M16 ad { ch3 with pw := ch3.pw.on } (j.epoch + 1 + 1) z hok3.on ⟨rfl, rfl⟩ (hi3.pw _) (by omega)) (Split.cons pkx (Split.cons pkx (Split.cons pkx (Split.cons pkx Split.nil)))) ?_
      rintro _ M17 _ le17 ⟨ob, j5, s5, ch5, rfl, hs5, hso5, hsk5, rfl⟩
      refine G.value rfl rfl rfl (Sure.move rfl) ?_
      refine G.value rfl rfl rfl (Sure.extract rfl rfl) ?_
      refine G.value rfl rfl rfl (Sure.extract rfl rfl) ?_
      refine G.value rfl rfl rfl (Sure.assign rfl) ?_
      refine G.value rfl rfl rfl (Sure.assign rfl) ?_
      refine G.nil ?_
      refine C.seq ?_
      refine C.region_seq ?_
      refine G.value rfl rfl rfl (Sure.move rfl) ?_
      refine G.value rfl rfl rfl ((Sure.neq rfl rfl).to_f (by decide)) ?_
      refine G.value rfl rfl rfl (Sure.move rfl) ?_
      refine G.value rfl rfl rfl (Sure.move rfl) ?_
      refine G.value rfl rfl rfl (ptr_eq_f rfl rfl) ?_
      have hro17 := hro12.mono (le13.trans (le14.trans (le15.trans (le16.trans le17))))
      have hro217 := hro2.mono (le14.trans (le15.trans (le16.trans le17)))
      rw [hrs] at hr2v
      rcases hfz with ⟨rfl, hz⟩ | ⟨rfl, hz⟩ | ⟨rfl, hz⟩
      · refine G.value rfl rfl rfl (Sure.pick_false rfl rfl) ?_
        refine G.nil ?_
        refine C.cond_false rfl ?_
        refine C.skip ?_
        refine Fin.th ?_
        refine C.seq ?_
        refine C.region_seq ?_
        refine G.value rfl rfl rfl (Sure.move rfl) ?_
        refine G.nil ?_
        refine C.block ?_
        refine C.region_seq ?_
        refine G.value rfl rfl rfl ((Sure.eql rfl rfl).to_t rfl) ?_
        refine G.value rfl rfl rfl (Sure.assign rfl) ?_
        refine G.nil ?_
        refine C.cond_true rfl ?_
        -- draws its order
        refine C.draw_seq ([(b23, .cells (staDL r2))]) mixed (by kernel_rfl) (by intro q hq; simp at hq; subst hq; simp) ?_
        refine GD.val 0 rfl rfl rfl rfl (by kernel_rfl) rfl (Sure.move rfl) ?_
        refine GD.val 2 rfl rfl rfl rfl (by kernel_rfl) rfl (Sure.loadAgg rfl rdx rfl) ?_
        refine GD.one 1 (by kernel_rfl) rfl rfl (by kernel_rfl) ?_
        refine Next.call 1 rfl rfl rfl (by kernel_rfl) (by kernel_rfl) rfl rfl rfl rfl (jstate_spec M17 ob ad.cb j5 s5 hso5 hsk5) (Split.cons pkx Split.nil) ?_
        rintro _ M18 _ le18 ⟨rfl, -, s18, hs18, rfl, hso18⟩
        refine ⟨(by intro q hq; simp at hq; subst hq; simp), ?_⟩
        refine GD.one 3 (by kernel_rfl) rfl rfl (by kernel_rfl) ?_
        refine Next.call 3 rfl rfl rfl (by kernel_rfl) (by kernel_rfl) rfl rfl rfl rfl (state_spec M18 s18 r2 hso18 (hro217.mono le18).1 (by rw [hs18]; exact hsk5)) (Split.nil) ?_
        rintro _ M19 _ le19 ⟨rfl, rfl⟩
        refine ⟨(by intro q hq; simp at hq; subst hq; simp), ?_⟩
        rw [show staEq s18.v r2.v = true from by rw [hs18, hs5, hz, hr2v]; exact staEq_refl _]
        refine GD.one 4 (by kernel_rfl) rfl rfl (by kernel_rfl) ?_
        refine Next.dyn 4 rfl rfl rfl (by kernel_rfl) (by kernel_rfl) rfl (Dyn.assign rfl ?_)
        refine ⟨MLe.refl _, incx, ?_⟩
        refine GD.done (by kernel_rfl) (by kernel_rfl) ?_
        refine C.ret ?_
        refine Fin.blk_ret ?_
        refine Fin.th_ret ?_
        exact Fin.fn (Res.tmp rfl rfl) Split.nil rfl
      · skip
        refine G.value rfl rfl rfl (Sure.pick_false rfl rfl) ?_
        refine G.nil ?_
        refine C.cond_false rfl ?_
        refine C.skip ?_
        refine Fin.th ?_
        refine C.seq ?_
        refine C.region_seq ?_
        refine G.value rfl rfl rfl (Sure.move rfl) ?_
        refine G.nil ?_
        refine C.block ?_
        refine C.region_seq ?_
        refine G.value rfl rfl rfl ((Sure.eql rfl rfl).to_f (by decide)) ?_
        refine G.value rfl rfl rfl (Sure.assign rfl) ?_
        refine G.nil ?_
        refine C.cond_false rfl ?_
        refine C.region_seq ?_
        refine G.value rfl rfl rfl ((Sure.eql rfl rfl).to_t rfl) ?_
        refine G.value rfl rfl rfl (Sure.assign rfl) ?_
        refine G.nil ?_
        refine C.cond_true rfl ?_
        -- draws its order
        refine C.draw_seq ([(b18, .cells (staDL r))]) mixed (by kernel_rfl) (by intro q hq; simp at hq; subst hq; simp) ?_
        refine GD.val 0 rfl rfl rfl rfl (by kernel_rfl) rfl (Sure.move rfl) ?_
        refine GD.val 2 rfl rfl rfl rfl (by kernel_rfl) rfl (Sure.loadAgg rfl rdx rfl) ?_
        refine GD.one 1 (by kernel_rfl) rfl rfl (by kernel_rfl) ?_
        refine Next.call 1 rfl rfl rfl (by kernel_rfl) (by kernel_rfl) rfl rfl rfl rfl (jstate_spec M17 ob ad.cb j5 s5 hso5 hsk5) (Split.cons pkx Split.nil) ?_
        rintro _ M18 _ le18 ⟨rfl, -, s18, hs18, rfl, hso18⟩
        refine ⟨(by intro q hq; simp at hq; subst hq; simp), ?_⟩
        refine GD.one 3 (by kernel_rfl) rfl rfl (by kernel_rfl) ?_
        refine Next.call 3 rfl rfl rfl (by kernel_rfl) (by kernel_rfl) rfl rfl rfl rfl (state_spec M18 s18 r hso18 (hro17.mono le18).1 (by rw [hs18]; exact hsk5)) (Split.nil) ?_
        rintro _ M19 _ le19 ⟨rfl, rfl⟩
        refine ⟨(by intro q hq; simp at hq; subst hq; simp), ?_⟩
        rw [show staEq s18.v r.v = true from by rw [hs18, hs5, hz, hrs]; exact staEq_refl _]
        refine GD.one 4 (by kernel_rfl) rfl rfl (by kernel_rfl) ?_
        refine Next.dyn 4 rfl rfl rfl (by kernel_rfl) (by kernel_rfl) rfl (Dyn.assign rfl ?_)
        refine ⟨MLe.refl _, incx, ?_⟩
        refine GD.done (by kernel_rfl) (by kernel_rfl) ?_
        refine C.ret ?_
        refine Fin.blk_ret ?_
        refine Fin.th_ret ?_
        exact Fin.fn (Res.tmp rfl rfl) Split.nil rfl
      · skip
        refine G.value rfl rfl rfl (Sure.pick_false rfl rfl) ?_
        refine G.nil ?_
        refine C.cond_false rfl ?_
        refine C.skip ?_
        refine Fin.th ?_
        refine C.seq ?_
        refine C.region_seq ?_
        refine G.value rfl rfl rfl (Sure.move rfl) ?_
        refine G.nil ?_
        refine C.block ?_
        refine C.region_seq ?_
        refine G.value rfl rfl rfl ((Sure.eql rfl rfl).to_f (by decide)) ?_
        refine G.value rfl rfl rfl (Sure.assign rfl) ?_
        refine G.nil ?_
        refine C.cond_false rfl ?_
        refine C.region_seq ?_
        refine G.value rfl rfl rfl ((Sure.eql rfl rfl).to_f (by decide)) ?_
        refine G.value rfl rfl rfl (Sure.assign rfl) ?_
        refine G.nil ?_
        refine C.cond_false rfl ?_
        refine C.skip ?_
        refine Fin.blk ?_
        refine Fin.th ?_
        -- draws its order
        refine C.draw_seq ([(b18, .cells (staDL r)), (b23, .cells (staDL r2))]) mixed (by kernel_rfl) (by intro q hq; simp at hq; rcases hq with rfl | rfl <;> simp) ?_
        refine GD.val 0 rfl rfl rfl rfl (by kernel_rfl) rfl (Sure.move rfl) ?_
        refine GD.val 1 rfl rfl rfl rfl (by kernel_rfl) rfl ((Sure.eql rfl rfl).to_t rfl) ?_
        refine GD.val 2 rfl rfl rfl rfl (by kernel_rfl) rfl (Sure.move rfl) ?_
        refine GD.val 3 rfl rfl rfl rfl (by kernel_rfl) rfl (Sure.move rfl) ?_
        refine GD.val 5 rfl rfl rfl rfl (by kernel_rfl) rfl (Sure.loadAgg rfl rdx rfl) ?_
        refine GD.one 4 (by kernel_rfl) rfl rfl (by kernel_rfl) ?_
        refine Next.call 4 rfl rfl rfl (by kernel_rfl) (by kernel_rfl) rfl rfl rfl rfl (jstate_spec M17 ob ad.cb j5 s5 hso5 hsk5) (Split.cons pkx Split.nil) ?_
        rintro _ M18 _ le18 ⟨rfl, -, s18, hs18, rfl, hso18⟩
        refine ⟨(by intro q hq; simp at hq; rcases hq with rfl | rfl <;> simp), ?_⟩
        refine GD.one 6 (by kernel_rfl) rfl rfl (by kernel_rfl) ?_
        refine Next.call 6 rfl rfl rfl (by kernel_rfl) (by kernel_rfl) rfl rfl rfl rfl (state_spec M18 s18 r hso18 (hro17.mono le18).1 (by rw [hs18]; exact hsk5)) (Split.nil) ?_
        rintro _ M19 _ le19 ⟨rfl, rfl⟩
        refine ⟨(by intro q hq; simp at hq; rcases hq with rfl | rfl <;> simp), ?_⟩
        by_cases hE : staEq s18.v r.v = true
        · rw [hE]
          refine GD.val 7 rfl rfl rfl rfl (by kernel_rfl) rfl (Sure.move rfl) ?_
          refine GD.skip 8 rfl rfl rfl rfl (by kernel_rfl) rfl ?_
          refine GD.skip 9 rfl rfl rfl rfl (by kernel_rfl) rfl ?_
          refine GD.skip 10 rfl rfl rfl rfl (by kernel_rfl) rfl ?_
          refine GD.skip 11 rfl rfl rfl rfl (by kernel_rfl) rfl ?_
          refine GD.val 12 rfl rfl rfl rfl (by kernel_rfl) rfl (Sure.pick_true rfl rfl) ?_
          refine GD.val 13 rfl rfl rfl rfl (by kernel_rfl) rfl (Sure.pick_true rfl rfl) ?_
          refine GD.one 14 (by kernel_rfl) rfl rfl (by kernel_rfl) ?_
          refine Next.dyn 14 rfl rfl rfl (by kernel_rfl) (by kernel_rfl) rfl (Dyn.assign rfl ?_)
          refine ⟨MLe.refl _, incx, ?_⟩
          refine GD.done (by kernel_rfl) (by kernel_rfl) ?_
          refine C.ret ?_
          exact Fin.fn (Res.tmp rfl rfl) Split.nil rfl
        · skip
          have hzb : z = applyL s.v (dlc.map DeedD.v) := by
            rcases hz with h | h
            · exact absurd (by rw [hs18, hs5, h, hrs]; exact staEq_refl _) hE
            · exact h
          rw [Bool.eq_false_iff.2 hE]
          refine GD.val 7 rfl rfl rfl rfl (by kernel_rfl) rfl (Sure.move rfl) ?_
          refine GD.val 8 rfl rfl rfl rfl (by kernel_rfl) rfl (Sure.move rfl) ?_
          refine GD.val 10 rfl rfl rfl rfl (by kernel_rfl) rfl (Sure.loadAgg rfl rdx rfl) ?_
          refine GD.one 9 (by kernel_rfl) rfl rfl (by kernel_rfl) ?_
          refine Next.call 9 rfl rfl rfl (by kernel_rfl) (by kernel_rfl) rfl rfl rfl rfl (jstate_spec M19 ob ad.cb j5 s5 (hso5.mono (le18.trans le19)) hsk5) (Split.cons pkx Split.nil) ?_
          rintro _ M20 _ le20 ⟨rfl, -, s20, hs20, rfl, hso20⟩
          refine ⟨(by intro q hq; simp at hq; rcases hq with rfl | rfl <;> simp), ?_⟩
          refine GD.one 11 (by kernel_rfl) rfl rfl (by kernel_rfl) ?_
          refine Next.call 11 rfl rfl rfl (by kernel_rfl) (by kernel_rfl) rfl rfl rfl rfl (state_spec M20 s20 r2 hso20 (hro217.mono (le18.trans (le19.trans le20))).1 (by rw [hs20]; exact hsk5)) (Split.nil) ?_
          rintro _ M21 _ le21 ⟨rfl, rfl⟩
          refine ⟨(by intro q hq; simp at hq; rcases hq with rfl | rfl <;> simp), ?_⟩
          rw [show staEq s20.v r2.v = true from by rw [hs20, hs5, hzb, hr2v]; exact staEq_refl _]
          refine GD.val 12 rfl rfl rfl rfl (by kernel_rfl) rfl (Sure.pick_false rfl rfl) ?_
          refine GD.val 13 rfl rfl rfl rfl (by kernel_rfl) rfl (Sure.pick_true rfl rfl) ?_
          refine GD.one 14 (by kernel_rfl) rfl rfl (by kernel_rfl) ?_
          refine Next.dyn 14 rfl rfl rfl (by kernel_rfl) (by kernel_rfl) rfl (Dyn.assign rfl ?_)
          refine ⟨MLe.refl _, incx, ?_⟩
          refine GD.done (by kernel_rfl) (by kernel_rfl) ?_
          refine C.ret ?_
          exact Fin.fn (Res.tmp rfl rfl) Split.nil rfl
  · skip
    rw [decide_eq_false hfew]
    refine G.value rfl rfl rfl (Sure.not rfl) ?_
    refine G.value rfl rfl rfl (Sure.pick_false rfl rfl) ?_
    refine G.nil ?_
    refine C.cond_true rfl ?_
    refine C.region_seq ?_
    refine G.call rfl rfl rfl rfl rfl rfl (awake17_spec M5) (Split.nil) ?_
    rintro _ M6 _ le6 ⟨rfl, rfl⟩
    refine G.value rfl rfl rfl (Sure.move rfl) ?_
    refine G.value rfl rfl rfl (Sure.move rfl) ?_
    refine G.value rfl rfl rfl (ptr_ne_t rfl rfl) ?_
    refine G.value rfl rfl rfl (Sure.pick_true rfl rfl) ?_
    refine G.value rfl rfl rfl (Sure.assign rfl) ?_
    refine G.nil ?_
    refine C.ret ?_
    refine Fin.th_ret ?_
    exact Fin.fn (Res.tmp rfl rfl) Split.nil rfl
end Go.Proofs.YtaeeahcokiebdaaGreat
namespace Go.Proofs.YtaeeahcokiebdaaGreat.journalFalls
open Go.ChangeShapes Go.WideShapes Go.ChangeAt Go.RowKit Go.Proofs.YtaeeahcokiebdaaGreat
set_option maxRecDepth 20000

theorem own : ownKnob Tryz.prog.godebug = Option.none := by kernel_rfl
theorem laidOut : laidOutB Tryz.prog = true := by kernel_rfl

set_option maxRecDepth 100000 in
theorem lifted (os : Os) (started : os.Started) (H : Type) (enc : TypeId × Value → H) (F : Stop.Interp) :
    ReturnsInHanded {} Tryz.checked os 5 .any ((Rows.OpenSpec.upto Rows.journalFallsSpec).pre6 enc Tryz.prog Tryz.f5 Rows.journalFallsUptoRow.domain false) (((Rows.OpenSpec.upto Rows.journalFallsSpec).at F).post enc Tryz.prog Tryz.f5 false true false false) := by
  refine returnsInHanded_of_cond (C := Tryz.checked) (s := Rows.OpenSpec.upto Rows.journalFallsSpec) (k := Rows.uptoSmall) rfl own started (by kernel_rfl) Tryz.func5
    (OpenSpec.witness (enc := enc) (C := Tryz.checked) (s := Rows.OpenSpec.upto Rows.journalFallsSpec) (k := Rows.uptoSmall) rfl false ⟨#[], #[.agg #[.int .i64 0, .int .i64 0, .int .i64 0, .int .i64 0, .int .i64 0], .slice Option.none 0 0, .slice Option.none 0 0, .int .i64 0, .int .i64 0, .int .u8 0], []⟩ 8 (by kernel_rfl) (by kernel_rfl) (by kernel_rfl)
      (x := ([.agg [.lit (.int .i64 0), .lit (.int .i64 0), .lit (.int .i64 0), .lit (.int .i64 0), .lit (.int .i64 0)], .nil, .nil, .lit (.int .i64 0), .lit (.int .i64 0), .lit (.int .u8 0)], [], [])) (by kernel_rfl) rfl (by kernel_rfl)) ?_
  intro W base args ds gs before hval0 hW _ hk _
  have hval : ∀ (j : Nat) t v, Tryz.f5.params[j]? = some t → args[j]? = some v → Value.okWide Tryz.prog W .any base t v := hval0
  have hW' := hW
  obtain ⟨p, q, hA0, hV, rfl, hfz, hnd⟩ := hW
  have hA : DataW.TrodAll enc Tryz.prog W 0 (fun _ => true) true Tryz.f5.params.toList args.toList ds p := hA0
  rw [Tryz.params5] at hA hval
  obtain ⟨v0, vs0, d0, ds0, p0, q0, hargs, rfl, rfl, h0, r0⟩ := trodAll_cons hA
  obtain ⟨v1, vs1, d1, ds1, p1, q1, rfl, rfl, rfl, h1, r1⟩ := trodAll_cons r0
  obtain ⟨v2, vs2, d2, ds2, p2, q2, rfl, rfl, rfl, h2, r2⟩ := trodAll_cons r1
  obtain ⟨v3, vs3, d3, ds3, p3, q3, rfl, rfl, rfl, h3, r3⟩ := trodAll_cons r2
  obtain ⟨v4, vs4, d4, ds4, p4, q4, rfl, rfl, rfl, h4, r4⟩ := trodAll_cons r3
  obtain ⟨v5, vs5, d5, ds5, p5, q5, rfl, rfl, rfl, h5, r5⟩ := trodAll_cons r4
  obtain ⟨rfl, rfl, rfl⟩ := trodAll_nil r5
  obtain rfl : args = #[v0, v1, v2, v3, v4, v5] := by cases args; simp_all
  obtain ⟨l, hl, rfl⟩ := open_intsOnly 5 Tryz.underlying23 rfl (by kernel_rfl) (by kernel_rfl) (hval 0 _ v0 rfl rfl) h0
  obtain ⟨a, b, c, d, e, rfl⟩ := five hl
  obtain ⟨a1, len1, cap1, rfl⟩ := okWide_slice Tryz.underlying53 (hval 1 _ v1 rfl rfl)
  obtain ⟨a2, len2, cap2, rfl⟩ := okWide_slice Tryz.underlying47 (hval 2 _ v2 rfl rfl)
  obtain ⟨cut, rfl, rfl, rfl, w3⟩ := open_int Tryz.underlying3 (hval 3 _ v3 rfl rfl) h3
  obtain ⟨again, rfl, rfl, rfl, w4⟩ := open_int Tryz.underlying3 (hval 4 _ v4 rfl rfl) h4
  obtain ⟨z5, rfl⟩ := okWide_int Tryz.underlying5 (hval 5 _ v5 rfl rfl)
  have hbk : Rows.uptoBulkAll ([d0, d1, d2, .lit (.int .i64 cut), .lit (.int .i64 again), d5] ++ gs) ≤ 1048576 := of_decide_eq_true hk
  have hb12 : Rows.uptoBulk d1 ≤ 1048576 ∧ Rows.uptoBulk d2 ≤ 1048576 := by
    simp only [List.cons_append, Rows.uptoBulkAll] at hbk
    omega
  obtain ⟨fuel1, hf1⟩ := h1
  obtain ⟨ll, p1', cap1', hcs1, hrd1⟩ := open_deedss hf1 hb12.1
  obtain ⟨rfl, rfl, rfl⟩ := slice_cells hcs1
  obtain ⟨fuel2, hf2⟩ := h2
  obtain ⟨dl, p2', cap2', hcs2, hrd, hrg, hfw⟩ := open_deeds hf2
  obtain ⟨rfl, rfl, rfl⟩ := slice_cells hcs2
  obtain ⟨fuel5, hf5⟩ := h5
  obtain ⟨mask, hcs5, _, _⟩ := open_byte hf5
  have hz4 : Value.int .u8 z5 = byteV mask := by simpa [Value.cells] using hcs5
  have hz5 : Value.int .u8 z5 = Value.int .u8 (mask.toNat : Int) := hz4
  clear hz4
  injection hz5 with _ hz5
  subst hz5
  have hdi : ∀ d ∈ dl.map DeedD.v, DeedIn d := by
    intro d hd
    obtain ⟨x, hx, rfl⟩ := List.mem_map.1 hd
    exact (hrg x hx).rg
  refine ((falls_law (memOf W) ⟨a, b, c, d, e⟩ a1 cap1 ll a2 cap2 dl cut again mask hrd1 hrd hdi (by dsimp only at hfw; omega)).runs W (memOf_at W)).mono fun e W' ⟨v, M', H', he, hst, hv⟩ => ?_
  subst he
  subst hv
  exact ⟨_, rfl, law_post laidOut hW' (by kernel_rfl) rfl (st_below hst) rfl Tryz.underlying4 rfl⟩
theorem proved : Rows.JournalFallsUptoSaid :=
  OpenClaim.holds_of_cond 5 Tryz.f5 rfl rfl rfl rfl rfl rfl rfl ⟨rfl, rfl, rfl, rfl, rfl⟩ rfl rfl rfl rfl rfl (by kernel_rfl) Tryz.func5 (by kernel_rfl)
    (of_decide_eq_true (by kernel_rfl)) (by unfold Func.isWrapper; first | (rw [if_pos (by decide +kernel)]; kernel_rfl) | (rw [if_neg (by decide +kernel)]; exact ⟨rfl, rfl⟩))
    (fun os started H enc _ F => lifted os started H enc F)
end Go.Proofs.YtaeeahcokiebdaaGreat.journalFalls
namespace Go.Proofs.YtaeeahcokiebdaaGreat
/-- The law JournalFalls, in the second given form. -/
theorem journalFalls_holds : Rows.JournalFallsUptoSaid := journalFalls.proved
#print axioms journalFalls_holds
end Go.Proofs.YtaeeahcokiebdaaGreat
