/-
  WHAT IS PROVED: whatever the geometry, the bytes and the deeds, the law JournalNew returns true, never panics, and leaves its arguments as they were. CONDITIONS: those of the row, and that what comes in is of bulk at most 1048576.
-/
import Derived.Test.YtaeeahcokiebdaaGreatNwe
import Derived.JoinedCond

/-
  The walks of holding inodes and states against each other, and of what fits, as the references have it.
  Conditions: lists have a million elements at most.
-/
namespace Go.Proofs.YtaeeahcokiebdaaGreat
set_option maxRecDepth 20000

def inoEq (a b : Ino) : Bool := decide (a.no = b.no) && (decide (a.kind = b.kind) && (decide (a.links = b.links) && (decide (a.size = b.size) && ((a.tgt.toList == b.tgt.toList) && (sameL entEq a.ents b.ents && sameL runEq a.runs b.runs)))))
def inoDEq (a b : InoD) : Bool := inoEq a.x b.x
def staEq (a b : Sta) : Bool := decide (a.next = b.next) && (sameL inoEq a.inos b.inos && sameL intEq a.bad b.bad)
theorem inoEq_refl (a : Ino) : inoEq a a = true := by
  unfold inoEq
  rw [sameL_refl (fun x => by simp [entEq]), sameL_refl (fun x => by simp [runEq])]
  simp
theorem staEq_refl (a : Sta) : staEq a a = true := by
  unfold staEq
  rw [sameL_refl inoEq_refl, sameL_refl (fun x => by simp [intEq])]
  simp
theorem sameL_map {α β : Type} (q : β → β → Bool) (g : α → β) : ∀ a b : List α, sameL (fun x y => q (g x) (g y)) a b = sameL q (a.map g) (b.map g)
  | [], [] => rfl
  | [], _ :: _ => rfl
  | _ :: _, [] => rfl
  | x :: a, y :: b => by simp [sameL, sameL_map q g a b]
theorem inode_spec (M : Mem) (a b : InoD) (ha : DOk M a) (hb : DOk M b) (hk : InoOk a.x) : Spec Tryz.prog 62 [.agg (inoDL a).toArray, .agg (inoDL b).toArray] M [] (fun v _ H => v = .bool (inoEq a.x b.x) ∧ H = []) := by
  refine Spec.of_code 52 Tryz.func62 rfl callable62 rfl rfl fun w => ?_
  refine C.region_seq ?_
  refine G.dyn rfl rfl rfl ?_
  refine Dyn.boxAgg rfl ?_
  intro b2
  refine G.dyn rfl rfl rfl ?_
  refine Dyn.boxAgg rfl ?_
  intro b3
  refine G.value rfl rfl rfl (Sure.assign rfl) ?_
  refine G.nil ?_
  refine C.region_seq ?_
  refine G.value rfl rfl rfl (Sure.fieldAddr rfl) ?_
  refine G.value rfl rfl rfl (Sure.load rfl rdx rfl) ?_
  refine G.value rfl rfl rfl (Sure.fieldAddr rfl) ?_
  refine G.value rfl rfl rfl (Sure.load rfl rdx rfl) ?_
  rcases Decidable.em (a.x.no = b.x.no) with h0 | h0
  · refine G.value rfl rfl rfl ((Sure.eql rfl rfl).to_t h0) ?_
    refine G.value rfl rfl rfl (Sure.move rfl) ?_
    refine G.value rfl rfl rfl (Sure.fieldAddr rfl) ?_
    refine G.value rfl rfl rfl (Sure.load rfl rdx rfl) ?_
    refine G.value rfl rfl rfl (Sure.fieldAddr rfl) ?_
    refine G.value rfl rfl rfl (Sure.load rfl rdx rfl) ?_
    rcases Decidable.em (a.x.kind = b.x.kind) with h1 | h1
    · refine G.value rfl rfl rfl ((Sure.eql rfl rfl).to_t h1) ?_
      refine G.value rfl rfl rfl (Sure.pick_true rfl rfl) ?_
      refine G.value rfl rfl rfl (Sure.move rfl) ?_
      refine G.value rfl rfl rfl (Sure.fieldAddr rfl) ?_
      refine G.value rfl rfl rfl (Sure.load rfl rdx rfl) ?_
      refine G.value rfl rfl rfl (Sure.fieldAddr rfl) ?_
      refine G.value rfl rfl rfl (Sure.load rfl rdx rfl) ?_
      rcases Decidable.em (a.x.links = b.x.links) with h2 | h2
      · refine G.value rfl rfl rfl ((Sure.eql rfl rfl).to_t h2) ?_
        refine G.value rfl rfl rfl (Sure.pick_true rfl rfl) ?_
        refine G.value rfl rfl rfl (Sure.move rfl) ?_
        refine G.value rfl rfl rfl (Sure.fieldAddr rfl) ?_
        refine G.value rfl rfl rfl (Sure.load rfl rdx rfl) ?_
        refine G.value rfl rfl rfl (Sure.fieldAddr rfl) ?_
        refine G.value rfl rfl rfl (Sure.load rfl rdx rfl) ?_
        rcases Decidable.em (a.x.size = b.x.size) with h3 | h3
        · refine G.value rfl rfl rfl ((Sure.eql rfl rfl).to_t h3) ?_
          refine G.value rfl rfl rfl (Sure.pick_true rfl rfl) ?_
          refine G.value rfl rfl rfl (Sure.move rfl) ?_
          refine G.value rfl rfl rfl (Sure.fieldAddr rfl) ?_
          refine G.value rfl rfl rfl (Sure.load rfl rdx rfl) ?_
          refine G.value rfl rfl rfl (Sure.fieldAddr rfl) ?_
          refine G.value rfl rfl rfl (Sure.load rfl rdx rfl) ?_
          refine G.value rfl rfl rfl (Sure.str_eql rfl rfl) ?_
          cases h4 : (a.x.tgt.toList == b.x.tgt.toList) with
          | true =>
            refine G.value rfl rfl rfl (Sure.pick_true rfl rfl) ?_
            refine G.value rfl rfl rfl (Sure.move rfl) ?_
            refine G.value rfl rfl rfl (Sure.fieldAddr rfl) ?_
            refine G.value rfl rfl rfl (Sure.load rfl rdx rfl) ?_
            refine G.value rfl rfl rfl (Sure.fieldAddr rfl) ?_
            refine G.value rfl rfl rfl (Sure.load rfl rdx rfl) ?_
            refine G.call rfl rfl rfl rfl rfl rfl (plainEnt_spec M a.pe b.pe a.ce b.ce a.x.ents b.x.ents ha.1 hb.1 (by have := hk.1; omega)) (Split.nil) ?_
            rintro _ M1 _ le1 ⟨rfl, rfl⟩
            cases h5 : sameL entEq a.x.ents b.x.ents with
            | true =>
              refine G.value rfl rfl rfl (Sure.pick_true rfl rfl) ?_
              refine G.value rfl rfl rfl (Sure.move rfl) ?_
              refine G.value rfl rfl rfl (Sure.fieldAddr rfl) ?_
              refine G.value rfl rfl rfl (Sure.load rfl rdx rfl) ?_
              refine G.value rfl rfl rfl (Sure.fieldAddr rfl) ?_
              refine G.value rfl rfl rfl (Sure.load rfl rdx rfl) ?_
              refine G.call rfl rfl rfl rfl rfl rfl (plainRun_spec M1 a.pr b.pr a.cr b.cr a.x.runs b.x.runs (SlL.mono ha.2 le1) (SlL.mono hb.2 le1) (by have := hk.2; omega)) (Split.nil) ?_
              rintro _ M2 _ le2 ⟨rfl, rfl⟩
              refine G.value rfl rfl rfl (Sure.pick_true rfl rfl) ?_
              refine G.value rfl rfl rfl (Sure.assign rfl) ?_
              refine G.nil ?_
              refine C.ret ?_
              exact Fin.fn (Res.tmp rfl rfl) Split.nil ⟨by simp only [inoEq, h0, h1, h2, h3, h4, h5, decide_true, Bool.true_and], rfl⟩
            | false =>
              refine G.value rfl rfl rfl (Sure.pick_true rfl rfl) ?_
              refine G.value rfl rfl rfl (Sure.move rfl) ?_
              refine G.skip rfl rfl rfl ?_
              refine G.skip rfl rfl rfl ?_
              refine G.skip rfl rfl rfl ?_
              refine G.skip rfl rfl rfl ?_
              refine G.skip rfl rfl rfl ?_
              refine G.value rfl rfl rfl (Sure.pick_false rfl rfl) ?_
              refine G.value rfl rfl rfl (Sure.assign rfl) ?_
              refine G.nil ?_
              refine C.ret ?_
              exact Fin.fn (Res.tmp rfl rfl) Split.nil ⟨by simp only [inoEq, h0, h1, h2, h3, h4, h5, decide_true, Bool.true_and, Bool.false_and], rfl⟩
          | false =>
            refine G.value rfl rfl rfl (Sure.pick_true rfl rfl) ?_
            refine G.value rfl rfl rfl (Sure.move rfl) ?_
            refine G.skip rfl rfl rfl ?_
            refine G.skip rfl rfl rfl ?_
            refine G.skip rfl rfl rfl ?_
            refine G.skip rfl rfl rfl ?_
            refine G.skip rfl rfl rfl ?_
            refine G.value rfl rfl rfl (Sure.pick_false rfl rfl) ?_
            refine G.value rfl rfl rfl (Sure.move rfl) ?_
            refine G.skip rfl rfl rfl ?_
            refine G.skip rfl rfl rfl ?_
            refine G.skip rfl rfl rfl ?_
            refine G.skip rfl rfl rfl ?_
            refine G.skip rfl rfl rfl ?_
            refine G.value rfl rfl rfl (Sure.pick_false rfl rfl) ?_
            refine G.value rfl rfl rfl (Sure.assign rfl) ?_
            refine G.nil ?_
            refine C.ret ?_
            exact Fin.fn (Res.tmp rfl rfl) Split.nil ⟨by simp only [inoEq, h0, h1, h2, h3, h4, decide_true, Bool.true_and, Bool.false_and], rfl⟩
        · skip
          refine G.value rfl rfl rfl ((Sure.eql rfl rfl).to_f h3) ?_
          refine G.value rfl rfl rfl (Sure.pick_true rfl rfl) ?_
          refine G.value rfl rfl rfl (Sure.move rfl) ?_
          refine G.skip rfl rfl rfl ?_
          refine G.skip rfl rfl rfl ?_
          refine G.skip rfl rfl rfl ?_
          refine G.skip rfl rfl rfl ?_
          refine G.skip rfl rfl rfl ?_
          refine G.value rfl rfl rfl (Sure.pick_false rfl rfl) ?_
          refine G.value rfl rfl rfl (Sure.move rfl) ?_
          refine G.skip rfl rfl rfl ?_
          refine G.skip rfl rfl rfl ?_
          refine G.skip rfl rfl rfl ?_
          refine G.skip rfl rfl rfl ?_
          refine G.skip rfl rfl rfl ?_
          refine G.value rfl rfl rfl (Sure.pick_false rfl rfl) ?_
          refine G.value rfl rfl rfl (Sure.move rfl) ?_
          refine G.skip rfl rfl rfl ?_
          refine G.skip rfl rfl rfl ?_
          refine G.skip rfl rfl rfl ?_
          refine G.skip rfl rfl rfl ?_
          refine G.skip rfl rfl rfl ?_
          refine G.value rfl rfl rfl (Sure.pick_false rfl rfl) ?_
          refine G.value rfl rfl rfl (Sure.assign rfl) ?_
          refine G.nil ?_
          refine C.ret ?_
          exact Fin.fn (Res.tmp rfl rfl) Split.nil ⟨by simp [inoEq, h0, h1, h2, h3], rfl⟩
      · skip
        refine G.value rfl rfl rfl ((Sure.eql rfl rfl).to_f h2) ?_
        refine G.value rfl rfl rfl (Sure.pick_true rfl rfl) ?_
        refine G.value rfl rfl rfl (Sure.move rfl) ?_
        refine G.skip rfl rfl rfl ?_
        refine G.skip rfl rfl rfl ?_
        refine G.skip rfl rfl rfl ?_
        refine G.skip rfl rfl rfl ?_
        refine G.skip rfl rfl rfl ?_
        refine G.value rfl rfl rfl (Sure.pick_false rfl rfl) ?_
        refine G.value rfl rfl rfl (Sure.move rfl) ?_
        refine G.skip rfl rfl rfl ?_
        refine G.skip rfl rfl rfl ?_
        refine G.skip rfl rfl rfl ?_
        refine G.skip rfl rfl rfl ?_
        refine G.skip rfl rfl rfl ?_
        refine G.value rfl rfl rfl (Sure.pick_false rfl rfl) ?_
        refine G.value rfl rfl rfl (Sure.move rfl) ?_
        refine G.skip rfl rfl rfl ?_
        refine G.skip rfl rfl rfl ?_
        refine G.skip rfl rfl rfl ?_
        refine G.skip rfl rfl rfl ?_
        refine G.skip rfl rfl rfl ?_
        refine G.value rfl rfl rfl (Sure.pick_false rfl rfl) ?_
        refine G.value rfl rfl rfl (Sure.move rfl) ?_
        refine G.skip rfl rfl rfl ?_
        refine G.skip rfl rfl rfl ?_
        refine G.skip rfl rfl rfl ?_
        refine G.skip rfl rfl rfl ?_
        refine G.skip rfl rfl rfl ?_
        refine G.value rfl rfl rfl (Sure.pick_false rfl rfl) ?_
        refine G.value rfl rfl rfl (Sure.assign rfl) ?_
        refine G.nil ?_
        refine C.ret ?_
        exact Fin.fn (Res.tmp rfl rfl) Split.nil ⟨by simp [inoEq, h0, h1, h2], rfl⟩
    · skip
      refine G.value rfl rfl rfl ((Sure.eql rfl rfl).to_f h1) ?_
      refine G.value rfl rfl rfl (Sure.pick_true rfl rfl) ?_
      refine G.value rfl rfl rfl (Sure.move rfl) ?_
      refine G.skip rfl rfl rfl ?_
      refine G.skip rfl rfl rfl ?_
      refine G.skip rfl rfl rfl ?_
      refine G.skip rfl rfl rfl ?_
      refine G.skip rfl rfl rfl ?_
      refine G.value rfl rfl rfl (Sure.pick_false rfl rfl) ?_
      refine G.value rfl rfl rfl (Sure.move rfl) ?_
      refine G.skip rfl rfl rfl ?_
      refine G.skip rfl rfl rfl ?_
      refine G.skip rfl rfl rfl ?_
      refine G.skip rfl rfl rfl ?_
      refine G.skip rfl rfl rfl ?_
      refine G.value rfl rfl rfl (Sure.pick_false rfl rfl) ?_
      refine G.value rfl rfl rfl (Sure.move rfl) ?_
      refine G.skip rfl rfl rfl ?_
      refine G.skip rfl rfl rfl ?_
      refine G.skip rfl rfl rfl ?_
      refine G.skip rfl rfl rfl ?_
      refine G.skip rfl rfl rfl ?_
      refine G.value rfl rfl rfl (Sure.pick_false rfl rfl) ?_
      refine G.value rfl rfl rfl (Sure.move rfl) ?_
      refine G.skip rfl rfl rfl ?_
      refine G.skip rfl rfl rfl ?_
      refine G.skip rfl rfl rfl ?_
      refine G.skip rfl rfl rfl ?_
      refine G.skip rfl rfl rfl ?_
      refine G.value rfl rfl rfl (Sure.pick_false rfl rfl) ?_
      refine G.value rfl rfl rfl (Sure.move rfl) ?_
      refine G.skip rfl rfl rfl ?_
      refine G.skip rfl rfl rfl ?_
      refine G.skip rfl rfl rfl ?_
      refine G.skip rfl rfl rfl ?_
      refine G.skip rfl rfl rfl ?_
      refine G.value rfl rfl rfl (Sure.pick_false rfl rfl) ?_
      refine G.value rfl rfl rfl (Sure.assign rfl) ?_
      refine G.nil ?_
      refine C.ret ?_
      exact Fin.fn (Res.tmp rfl rfl) Split.nil ⟨by simp [inoEq, h0, h1], rfl⟩
  · skip
    refine G.value rfl rfl rfl ((Sure.eql rfl rfl).to_f h0) ?_
    refine G.value rfl rfl rfl (Sure.move rfl) ?_
    refine G.skip rfl rfl rfl ?_
    refine G.skip rfl rfl rfl ?_
    refine G.skip rfl rfl rfl ?_
    refine G.skip rfl rfl rfl ?_
    refine G.skip rfl rfl rfl ?_
    refine G.value rfl rfl rfl (Sure.pick_false rfl rfl) ?_
    refine G.value rfl rfl rfl (Sure.move rfl) ?_
    refine G.skip rfl rfl rfl ?_
    refine G.skip rfl rfl rfl ?_
    refine G.skip rfl rfl rfl ?_
    refine G.skip rfl rfl rfl ?_
    refine G.skip rfl rfl rfl ?_
    refine G.value rfl rfl rfl (Sure.pick_false rfl rfl) ?_
    refine G.value rfl rfl rfl (Sure.move rfl) ?_
    refine G.skip rfl rfl rfl ?_
    refine G.skip rfl rfl rfl ?_
    refine G.skip rfl rfl rfl ?_
    refine G.skip rfl rfl rfl ?_
    refine G.skip rfl rfl rfl ?_
    refine G.value rfl rfl rfl (Sure.pick_false rfl rfl) ?_
    refine G.value rfl rfl rfl (Sure.move rfl) ?_
    refine G.skip rfl rfl rfl ?_
    refine G.skip rfl rfl rfl ?_
    refine G.skip rfl rfl rfl ?_
    refine G.skip rfl rfl rfl ?_
    refine G.skip rfl rfl rfl ?_
    refine G.value rfl rfl rfl (Sure.pick_false rfl rfl) ?_
    refine G.value rfl rfl rfl (Sure.move rfl) ?_
    refine G.skip rfl rfl rfl ?_
    refine G.skip rfl rfl rfl ?_
    refine G.skip rfl rfl rfl ?_
    refine G.skip rfl rfl rfl ?_
    refine G.skip rfl rfl rfl ?_
    refine G.value rfl rfl rfl (Sure.pick_false rfl rfl) ?_
    refine G.value rfl rfl rfl (Sure.move rfl) ?_
    refine G.skip rfl rfl rfl ?_
    refine G.skip rfl rfl rfl ?_
    refine G.skip rfl rfl rfl ?_
    refine G.skip rfl rfl rfl ?_
    refine G.skip rfl rfl rfl ?_
    refine G.value rfl rfl rfl (Sure.pick_false rfl rfl) ?_
    refine G.value rfl rfl rfl (Sure.assign rfl) ?_
    refine G.nil ?_
    refine C.ret ?_
    exact Fin.fn (Res.tmp rfl rfl) Split.nil ⟨by simp [inoEq, h0], rfl⟩
theorem state_spec (M : Mem) (a b : StaD) (ha : SOk M a) (hb : SOk M b) (hk : StaOk a.v) : Spec Tryz.prog 19 [.agg (staDL a).toArray, .agg (staDL b).toArray] M [] (fun v _ H => v = .bool (staEq a.v b.v) ∧ H = []) := by
  have hl : a.inos.length ≤ 1000000 := by have := hk.1; simpa [StaD.v] using this
  have hlb : a.bad.length ≤ 1000000 := hk.2.1
  have hse : staEq a.v b.v = (decide (a.next = b.next) && (sameL inoDEq a.inos b.inos && sameL intEq a.bad b.bad)) := by
    have := sameL_map inoEq InoD.x a.inos b.inos
    unfold staEq StaD.v
    dsimp only
    rw [← this]
    rfl
  rw [hse]
  refine Spec.of_code 24 Tryz.func19 rfl callable19 rfl rfl fun w => ?_
  refine C.region_seq ?_
  refine G.dyn rfl rfl rfl ?_
  refine Dyn.boxAgg rfl ?_
  intro b2
  refine G.dyn rfl rfl rfl ?_
  refine Dyn.boxAgg rfl ?_
  intro b3
  refine G.value rfl rfl rfl (Sure.assign rfl) ?_
  refine G.nil ?_
  refine C.region_seq ?_
  refine G.value rfl rfl rfl (Sure.fieldAddr rfl) ?_
  refine G.value rfl rfl rfl (Sure.load rfl rdx rfl) ?_
  refine G.value rfl rfl rfl (Sure.fieldAddr rfl) ?_
  refine G.value rfl rfl rfl (Sure.load rfl rdx rfl) ?_
  rcases Decidable.em (a.next = b.next) with h0 | h0
  · refine G.value rfl rfl rfl ((Sure.eql rfl rfl).to_t h0) ?_
    refine G.value rfl rfl rfl (Sure.move rfl) ?_
    refine G.value rfl rfl rfl (Sure.fieldAddr rfl) ?_
    refine G.value rfl rfl rfl (Sure.load rfl rdx rfl) ?_
    refine G.value rfl rfl rfl (Sure.fieldAddr rfl) ?_
    refine G.value rfl rfl rfl (Sure.load rfl rdx rfl) ?_
    refine G.call rfl rfl rfl rfl rfl rfl (sameIno_spec M a.pi b.pi a.ci b.ci a.inos b.inos 62 inoDEq ha.1.1 hb.1.1 (by omega) (fun M' hle x hx y hy => inode_spec M' x y ((ha.1.2 x hx).mono hle) ((hb.1.2 y hy).mono hle) (hk.2.2 x.x (List.mem_map_of_mem hx)))) (Split.nil) ?_
    rintro _ M1 _ le1 ⟨rfl, rfl⟩
    cases h1 : sameL inoDEq a.inos b.inos with
    | true =>
      refine G.value rfl rfl rfl (Sure.pick_true rfl rfl) ?_
      refine G.value rfl rfl rfl (Sure.move rfl) ?_
      refine G.value rfl rfl rfl (Sure.fieldAddr rfl) ?_
      refine G.value rfl rfl rfl (Sure.load rfl rdx rfl) ?_
      refine G.value rfl rfl rfl (Sure.fieldAddr rfl) ?_
      refine G.value rfl rfl rfl (Sure.load rfl rdx rfl) ?_
      refine G.call rfl rfl rfl rfl rfl rfl (plainInt_spec M1 a.pb b.pb a.cb b.cb a.bad b.bad (ha.2.mono le1) (hb.2.mono le1) (by omega)) (Split.nil) ?_
      rintro _ M2 _ le2 ⟨rfl, rfl⟩
      refine G.value rfl rfl rfl (Sure.pick_true rfl rfl) ?_
      refine G.value rfl rfl rfl (Sure.assign rfl) ?_
      refine G.nil ?_
      refine C.ret ?_
      exact Fin.fn (Res.tmp rfl rfl) Split.nil ⟨by simp only [h0, decide_true, Bool.true_and], rfl⟩
    | false =>
      refine G.value rfl rfl rfl (Sure.pick_true rfl rfl) ?_
      refine G.value rfl rfl rfl (Sure.move rfl) ?_
      refine G.skip rfl rfl rfl ?_
      refine G.skip rfl rfl rfl ?_
      refine G.skip rfl rfl rfl ?_
      refine G.skip rfl rfl rfl ?_
      refine G.skip rfl rfl rfl ?_
      refine G.value rfl rfl rfl (Sure.pick_false rfl rfl) ?_
      refine G.value rfl rfl rfl (Sure.assign rfl) ?_
      refine G.nil ?_
      refine C.ret ?_
      exact Fin.fn (Res.tmp rfl rfl) Split.nil ⟨by simp only [h0, decide_true, Bool.true_and, Bool.false_and], rfl⟩
  · skip
    refine G.value rfl rfl rfl ((Sure.eql rfl rfl).to_f h0) ?_
    refine G.value rfl rfl rfl (Sure.move rfl) ?_
    refine G.skip rfl rfl rfl ?_
    refine G.skip rfl rfl rfl ?_
    refine G.skip rfl rfl rfl ?_
    refine G.skip rfl rfl rfl ?_
    refine G.skip rfl rfl rfl ?_
    refine G.value rfl rfl rfl (Sure.pick_false rfl rfl) ?_
    refine G.value rfl rfl rfl (Sure.move rfl) ?_
    refine G.skip rfl rfl rfl ?_
    refine G.skip rfl rfl rfl ?_
    refine G.skip rfl rfl rfl ?_
    refine G.skip rfl rfl rfl ?_
    refine G.skip rfl rfl rfl ?_
    refine G.value rfl rfl rfl (Sure.pick_false rfl rfl) ?_
    refine G.value rfl rfl rfl (Sure.assign rfl) ?_
    refine G.nil ?_
    refine C.ret ?_
    exact Fin.fn (Res.tmp rfl rfl) Split.nil ⟨by simp [h0], rfl⟩
theorem bytes_spec (M : Mem) (pa pb : Option Addr) (ca cb : Nat) (a b : List UInt8) (ha : SB M pa a) (hb : SB M pb b) : Spec Tryz.prog 28 [.slice pa a.length ca, .slice pb b.length cb] M [] (fun v _ H => v = .bool (decide (a = b)) ∧ H = []) := by
  refine Spec.of_code 10 Tryz.func28 rfl callable28 rfl rfl fun w => ?_
  refine C.region_seq ?_
  refine G.value rfl rfl rfl (Sure.assign rfl) ?_
  refine G.nil ?_
  refine C.region_seq ?_
  refine G.value rfl rfl rfl (Sure.move rfl) ?_
  refine G.value rfl rfl rfl (Sure.toStr rfl (Sl.heap ha)) ?_
  refine G.value rfl rfl rfl (Sure.move rfl) ?_
  refine G.value rfl rfl rfl (Sure.toStr rfl (Sl.heap hb)) ?_
  refine G.value rfl rfl rfl (Sure.str_eql rfl rfl) ?_
  refine G.value rfl rfl rfl (Sure.assign rfl) ?_
  refine G.nil ?_
  refine C.ret ?_
  refine Fin.fn (Res.tmp rfl rfl) Split.nil ⟨?_, rfl⟩
  congr 1
  rw [ByteArray.toList_eq, ByteArray.toList_eq]
  by_cases h : a = b <;> simp [h]
end Go.Proofs.YtaeeahcokiebdaaGreat

/-
  The walks of what fits, as the references have it, of new states, and of wide forms.
  Conditions: states are small.
-/
namespace Go.Proofs.YtaeeahcokiebdaaGreat
set_option maxRecDepth 20000

theorem refWhole_spec (M : Mem) (s : StaD) (hs : SOk M s) (hk : s.inos.length ≤ 2000000 ∧ s.bad.length ≤ 2000000) :
    Spec Tryz.prog 96 [.agg (staDL s).toArray] M [] (fun v M' H => RetDeeds (whole s.v) v M' H) := by
  refine Spec.of_code 43 Tryz.func96 rfl callable96 rfl rfl fun w => ?_
  refine C.region_seq ?_
  refine G.dyn rfl rfl rfl ?_
  refine Dyn.boxAgg rfl ?_
  intro b1
  refine G.value rfl rfl rfl (Sure.assign rfl) ?_
  refine G.nil ?_
  refine C.region_seq ?_
  refine G.value rfl rfl rfl (Sure.fieldAddr rfl) ?_
  refine G.value rfl rfl rfl (Sure.load rfl rdx rfl) ?_
  refine G.value rfl rfl rfl (Sure.build rfl rfl) ?_
  refine G.dyn rfl rfl rfl ?_
  refine Dyn.buildSlice rfl rfl rfl (by simp [vcl]) (by decide) ?_
  intro b9
  refine G.value rfl rfl rfl (Sure.assign rfl) ?_
  refine G.nil ?_
  refine C.seq ?_
  refine C.region_seq ?_
  refine G.value rfl rfl rfl (Sure.assign rfl) ?_
  refine G.nil ?_
  refine C.block ?_
  refine C.loop (fun k E M' H => ∃ (i : Nat) (v : Value) (dl : List DeedD) (Hs : Heap), MLe M M' ∧ i + k = s.inos.length ∧ dl.map DeedD.v = ⟨1, s.next, ino0⟩ :: ((s.inos.take i).map fun d => (⟨2, 0, d.x⟩ : Deed)) ∧ (∀ d ∈ dl, DOk M' d.d) ∧ Own 9 v dl.length (dl.map deedDL).flatten Hs ∧ E = [(1, ptr b1), (3, v), (4, intV i)] ∧ H = (b1, .cells (staDL s)) :: Hs) (s.inos.length) ?_ ?_
  · refine ⟨_, _, ⟨0, _, [⟨1, s.next, inoD0⟩], [(b9, .cells (deedDL ⟨1, s.next, inoD0⟩))], MLe.refl _, by omega, rfl, ?_, Own.mk (n := 1) (b := b9) (xs := deedDL ⟨1, s.next, inoD0⟩) rfl, rfl, rfl⟩, ⟨rfl, rfl, rfl, trivial⟩, [], Split.cons (.there .here) (Split.one .all)⟩
    intro d hd; rw [List.mem_singleton.1 hd]; exact dOk0 _
  · rintro k E M' H ⟨i, v, dl, Hs, hle, hik, hdl, hdo, hown, rfl, rfl⟩
    have hdn : dl.length = 1 + i := by have := congrArg List.length hdl; simp at this; omega
    refine C.seq ?_
    refine C.region_seq ?_
    refine G.value rfl rfl rfl (Sure.move rfl) ?_
    refine G.value rfl rfl rfl (Sure.fieldAddr rfl) ?_
    refine G.value rfl rfl rfl (Sure.load rfl rdx rfl) ?_
    refine G.value rfl rfl rfl (Sure.len_slice rfl) ?_
    refine G.value rfl rfl rfl (Sure.lss rfl rfl) ?_
    refine G.nil ?_
    refine C.cond_dec rfl (fun hlt => ?_) (fun hlt => ?_)
    · obtain ⟨y, hy⟩ : ∃ y, s.inos[i]? = some y := ⟨s.inos[i]'(by omega), List.getElem?_eq_getElem (by omega)⟩
      obtain ⟨q1, o1, c1, hq1, hrd1, hseg1⟩ := SlL.row (i := i) (e := inoDL y) ((SlL.mono hs.1.1 hle).heap (H := (b1, .cells (staDL s)) :: Hs)) (by rw [List.getElem?_map, hy]; rfl)
      refine C.skip ?_
      refine Fin.th ?_
      refine C.seq ?_
      refine C.block ?_
      refine C.region ?_
      refine G.value rfl rfl rfl (Sure.move rfl) ?_
      refine G.value rfl rfl rfl (Sure.fieldAddr rfl) ?_
      refine G.value rfl rfl rfl (Sure.load rfl rdx rfl) ?_
      refine G.value rfl rfl rfl (Sure.move rfl) ?_
      refine G.value rfl rfl rfl (Sure.indexAddr (congrArg (fun q => some (Value.slice q s.inos.length s.ci)) hq1) rfl (by omega)) ?_
      refine G.value rfl rfl rfl (Sure.loadAgg rfl hrd1 hseg1) ?_
      refine G.value rfl rfl rfl (Sure.build rfl rfl) ?_
      refine G.dyn rfl rfl rfl ?_
      refine Dyn.buildSlice rfl rfl rfl (by simp [vcl]) (by decide) ?_
      intro b24
      refine G.dyn rfl rfl rfl ?_
      refine Dyn.append (fun k h => by cases h) rfl rfl rfl hown (.there (.there .all)) (m := 1) (news := deedDL ⟨2, 0, y⟩) ⟨rfl, fun _ => ⟨b24, 0, _, rfl, Rd.h0, rfl⟩⟩ (allOne_deed _) (by omega) (by omega) ?_
      intro v2 Hs2 hown2
      refine G.value rfl rfl rfl (Sure.assign rfl) ?_
      refine G.nil ?_
      refine Fin.blk ?_
      refine Fin.th ?_
      refine C.region ?_
      refine G.value rfl rfl rfl (Sure.move rfl) ?_
      refine G.value rfl rfl rfl (Sure.add rfl rfl (inK64 (by omega))) ?_
      refine G.value rfl rfl rfl (Sure.assign rfl) ?_
      refine G.nil ?_
      refine Fin.th ?_
      have hfl : ((dl ++ [(⟨2, 0, y⟩ : DeedD)]).map deedDL).flatten = (dl.map deedDL).flatten ++ deedDL ⟨2, 0, y⟩ := by simp
      refine ⟨k - 1, _, _, by omega, ⟨i + 1, v2, dl ++ [⟨2, 0, y⟩], Hs2, hle, by omega, by rw [take_snoc hy]; simp [hdl, DeedD.v], ?_, ?_, rfl, rfl⟩, ⟨rfl, rfl, rfl, trivial⟩, _, Split.cons (.over (.there .here)) (Split.one .here)⟩
      · intro d hd
        rcases List.mem_append.1 hd with h | h
        · exact hdo d h
        · rw [List.mem_singleton.1 h]; exact (hs.1.2 y (List.mem_of_getElem? hy)).mono hle
      · rw [hfl, List.length_append]; exact hown2
    · rw [List.take_of_length_le (by omega)] at hdl
      have hdn2 : dl.length = 1 + s.inos.length := by omega
      clear hdn hlt hik
      refine C.exit ?_
      refine Fin.th_exit ?_
      refine Fin.th_exit ?_
      refine Fin.blk_eq ?_
      refine Fin.th ?_
      refine C.seq ?_
      refine C.region_seq ?_
      refine G.value rfl rfl rfl (Sure.assign rfl) ?_
      refine G.nil ?_
      refine C.block ?_
      refine C.loop (fun k E M2 H => ∃ (i : Nat) (v : Value) (dl : List DeedD) (Hs : Heap), MLe M' M2 ∧ i + k = s.bad.length ∧ dl.map DeedD.v = ⟨1, s.next, ino0⟩ :: (s.inos.map fun d => (⟨2, 0, d.x⟩ : Deed)) ++ (s.bad.take i).map (fun n => ⟨4, n, ino0⟩) ∧ (∀ d ∈ dl, DOk M2 d.d) ∧ Own 9 v dl.length (dl.map deedDL).flatten Hs ∧ E = [(1, ptr b1), (3, v), (5, intV i)] ∧ H = (b1, .cells (staDL s)) :: Hs) (s.bad.length) ?_ ?_
      · exact ⟨_, _, ⟨0, v, dl, Hs, MLe.refl _, by omega, by simpa using hdl, hdo, hown, rfl, rfl⟩, ⟨rfl, rfl, rfl, trivial⟩, [], Split.cons .here (Split.one .all)⟩
      · clear hdl hdo hown hdn2
        rintro k E M2 H ⟨i, v, dl, Hs, hle2, hik, hdl, hdo, hown, rfl, rfl⟩
        have hdn : dl.length = 1 + s.inos.length + i := by have := congrArg List.length hdl; simp at this; omega
        refine C.seq ?_
        refine C.region_seq ?_
        refine G.value rfl rfl rfl (Sure.move rfl) ?_
        refine G.value rfl rfl rfl (Sure.fieldAddr rfl) ?_
        refine G.value rfl rfl rfl (Sure.load rfl rdx rfl) ?_
        refine G.value rfl rfl rfl (Sure.len_slice rfl) ?_
        refine G.value rfl rfl rfl (Sure.lss rfl rfl) ?_
        refine G.nil ?_
        refine C.cond_dec rfl (fun hlt => ?_) (fun hlt => ?_)
        · obtain ⟨y, hy⟩ : ∃ y, s.bad[i]? = some y := ⟨s.bad[i]'(by omega), List.getElem?_eq_getElem (by omega)⟩
          obtain ⟨q1, o1, c1, hq1, hrd1, hcell1⟩ := Sl.cell (i := i) (v := intV y) (Sl.heap (H := (b1, .cells (staDL s)) :: Hs) (hs.2.mono (hle.trans hle2))) (by rw [List.getElem?_map, hy]; rfl)
          refine C.skip ?_
          refine Fin.th ?_
          refine C.seq ?_
          refine C.block ?_
          refine C.region ?_
          refine G.value rfl rfl rfl (Sure.move rfl) ?_
          refine G.value rfl rfl rfl (Sure.fieldAddr rfl) ?_
          refine G.value rfl rfl rfl (Sure.load rfl rdx rfl) ?_
          refine G.value rfl rfl rfl (Sure.move rfl) ?_
          refine G.value rfl rfl rfl (Sure.indexAddr (congrArg (fun q => some (Value.slice q s.bad.length s.cb)) hq1) rfl (by omega)) ?_
          refine G.value rfl rfl rfl (Sure.load rfl hrd1 hcell1) ?_
          refine G.value rfl rfl rfl (Sure.build rfl rfl) ?_
          refine G.dyn rfl rfl rfl ?_
          refine Dyn.buildSlice rfl rfl rfl (by simp [vcl]) (by decide) ?_
          intro b40
          refine G.dyn rfl rfl rfl ?_
          refine Dyn.append (fun k h => by cases h) rfl rfl rfl hown (.there (.there .all)) (m := 1) (news := deedDL ⟨4, y, inoD0⟩) ⟨rfl, fun _ => ⟨b40, 0, _, rfl, Rd.h0, rfl⟩⟩ (allOne_deed _) (by omega) (by omega) ?_
          intro v2 Hs2 hown2
          refine G.value rfl rfl rfl (Sure.assign rfl) ?_
          refine G.nil ?_
          refine Fin.blk ?_
          refine Fin.th ?_
          refine C.region ?_
          refine G.value rfl rfl rfl (Sure.move rfl) ?_
          refine G.value rfl rfl rfl (Sure.add rfl rfl (inK64 (by omega))) ?_
          refine G.value rfl rfl rfl (Sure.assign rfl) ?_
          refine G.nil ?_
          refine Fin.th ?_
          have hfl : ((dl ++ [(⟨4, y, inoD0⟩ : DeedD)]).map deedDL).flatten = (dl.map deedDL).flatten ++ deedDL ⟨4, y, inoD0⟩ := by simp
          refine ⟨k - 1, _, _, by omega, ⟨i + 1, v2, dl ++ [⟨4, y, inoD0⟩], Hs2, hle2, by omega, by rw [take_snoc hy]; simp [hdl, DeedD.v, inoD0], ?_, ?_, rfl, rfl⟩, ⟨rfl, rfl, rfl, trivial⟩, _, Split.cons (.over (.there .here)) (Split.one .here)⟩
          · intro d hd
            rcases List.mem_append.1 hd with h | h
            · exact hdo d h
            · rw [List.mem_singleton.1 h]; exact dOk0 _
          · rw [hfl, List.length_append]; exact hown2
        · rw [List.take_of_length_le (by omega)] at hdl
          refine C.exit ?_
          refine Fin.th_exit ?_
          refine Fin.th_exit ?_
          refine Fin.blk_eq ?_
          refine Fin.th ?_
          refine C.region_seq ?_
          refine G.value rfl rfl rfl (Sure.move rfl) ?_
          refine G.value rfl rfl rfl (Sure.assign rfl) ?_
          refine G.nil ?_
          refine C.donateOwn hown (.there .all) ?_
          rintro M3 p3 cap3 le3 rfl hs3
          refine C.ret ?_
          refine Fin.fn (Res.tmp rfl rfl) Split.nil ⟨rfl, dl, p3, cap3, rfl, ⟨⟨?_, ?_⟩, fun d hd => (hdo d hd).mono le3⟩, ?_⟩
          · intro e he; obtain ⟨x, _, rfl⟩ := List.mem_map.1 he; rfl
          · rw [List.length_map]; exact hs3
          · simp [hdl, whole, StaD.v]
theorem refRight_spec (M : Mem) (g : Geo) (h : GeoOk g) : Spec Tryz.prog 57 [geoV g] M [] (fun v _ H => v = .bool true ∧ H = []) := by
  have he := h.even
  have hs := h.s
  have hz := h.z
  have hb := h.b
  have hp := h.p
  have hy := h.y
  refine Spec.of_code 57 Tryz.func57 rfl callable57 rfl rfl fun w => ?_
  refine C.region_seq ?_
  refine G.dyn rfl rfl rfl ?_
  refine Dyn.boxAgg rfl ?_
  intro b1
  refine G.value rfl rfl rfl (Sure.assign rfl) ?_
  refine G.nil ?_
  refine C.region_seq ?_
  refine G.value rfl rfl rfl (Sure.fieldAddr rfl) ?_
  refine G.value rfl rfl rfl (Sure.load rfl rdx rfl) ?_
  refine G.value rfl rfl rfl ((Sure.geq rfl rfl).to_t (by omega)) ?_
  refine G.value rfl rfl rfl (Sure.move rfl) ?_
  refine G.value rfl rfl rfl (Sure.fieldAddr rfl) ?_
  refine G.value rfl rfl rfl (Sure.load rfl rdx rfl) ?_
  refine G.value rfl rfl rfl ((Sure.leq rfl rfl).to_t (by omega)) ?_
  refine G.value rfl rfl rfl (Sure.pick_true rfl rfl) ?_
  refine G.value rfl rfl rfl (Sure.move rfl) ?_
  refine G.value rfl rfl rfl (Sure.fieldAddr rfl) ?_
  refine G.value rfl rfl rfl (Sure.load rfl rdx rfl) ?_
  refine G.value rfl rfl rfl (Sure.rem rfl rfl (by omega) (by decide)) ?_
  refine G.value rfl rfl rfl ((Sure.eql rfl rfl).to_t he) ?_
  refine G.value rfl rfl rfl (Sure.pick_true rfl rfl) ?_
  refine G.value rfl rfl rfl (Sure.move rfl) ?_
  refine G.value rfl rfl rfl (Sure.fieldAddr rfl) ?_
  refine G.value rfl rfl rfl (Sure.load rfl rdx rfl) ?_
  refine G.value rfl rfl rfl ((Sure.geq rfl rfl).to_t (by omega)) ?_
  refine G.value rfl rfl rfl (Sure.pick_true rfl rfl) ?_
  refine G.value rfl rfl rfl (Sure.move rfl) ?_
  refine G.value rfl rfl rfl (Sure.fieldAddr rfl) ?_
  refine G.value rfl rfl rfl (Sure.load rfl rdx rfl) ?_
  refine G.value rfl rfl rfl ((Sure.leq rfl rfl).to_t (by omega)) ?_
  refine G.value rfl rfl rfl (Sure.pick_true rfl rfl) ?_
  refine G.value rfl rfl rfl (Sure.move rfl) ?_
  refine G.value rfl rfl rfl (Sure.fieldAddr rfl) ?_
  refine G.value rfl rfl rfl (Sure.load rfl rdx rfl) ?_
  refine G.value rfl rfl rfl ((Sure.geq rfl rfl).to_t (by omega)) ?_
  refine G.value rfl rfl rfl (Sure.pick_true rfl rfl) ?_
  refine G.value rfl rfl rfl (Sure.move rfl) ?_
  refine G.value rfl rfl rfl (Sure.fieldAddr rfl) ?_
  refine G.value rfl rfl rfl (Sure.load rfl rdx rfl) ?_
  refine G.value rfl rfl rfl ((Sure.leq rfl rfl).to_t (by omega)) ?_
  refine G.value rfl rfl rfl (Sure.pick_true rfl rfl) ?_
  refine G.value rfl rfl rfl (Sure.move rfl) ?_
  refine G.value rfl rfl rfl (Sure.fieldAddr rfl) ?_
  refine G.value rfl rfl rfl (Sure.load rfl rdx rfl) ?_
  refine G.value rfl rfl rfl ((Sure.geq rfl rfl).to_t (by omega)) ?_
  refine G.value rfl rfl rfl (Sure.pick_true rfl rfl) ?_
  refine G.value rfl rfl rfl (Sure.move rfl) ?_
  refine G.value rfl rfl rfl (Sure.fieldAddr rfl) ?_
  refine G.value rfl rfl rfl (Sure.load rfl rdx rfl) ?_
  refine G.value rfl rfl rfl ((Sure.leq rfl rfl).to_t (by omega)) ?_
  refine G.value rfl rfl rfl (Sure.pick_true rfl rfl) ?_
  refine G.value rfl rfl rfl (Sure.move rfl) ?_
  refine G.value rfl rfl rfl (Sure.fieldAddr rfl) ?_
  refine G.value rfl rfl rfl (Sure.load rfl rdx rfl) ?_
  refine G.value rfl rfl rfl ((Sure.geq rfl rfl).to_t (by omega)) ?_
  refine G.value rfl rfl rfl (Sure.pick_true rfl rfl) ?_
  refine G.value rfl rfl rfl (Sure.move rfl) ?_
  refine G.value rfl rfl rfl (Sure.fieldAddr rfl) ?_
  refine G.value rfl rfl rfl (Sure.load rfl rdx rfl) ?_
  refine G.value rfl rfl rfl ((Sure.leq rfl rfl).to_t (by omega)) ?_
  refine G.value rfl rfl rfl (Sure.pick_true rfl rfl) ?_
  refine G.value rfl rfl rfl (Sure.assign rfl) ?_
  refine G.nil ?_
  refine C.ret ?_
  exact Fin.fn (Res.tmp rfl rfl) Split.nil ⟨rfl, rfl⟩
theorem refHalf_spec (M : Mem) (g : Geo) (h : GeoOk g) : Spec Tryz.prog 58 [geoV g] M [] (fun v _ H => v = intV (hsz g) ∧ H = []) := by
  obtain ⟨hz, hz1, hz2, hz3⟩ := hsz_int h
  have hs := h.s
  have he := h.even
  refine Spec.of_code 12 Tryz.func58 rfl callable58 rfl rfl fun w => ?_
  refine C.region_seq ?_
  refine G.dyn rfl rfl rfl ?_
  refine Dyn.boxAgg rfl ?_
  intro b1
  refine G.value rfl rfl rfl (Sure.assign rfl) ?_
  refine G.nil ?_
  refine C.seq ?_
  refine C.region_seq ?_
  refine G.value rfl rfl rfl (Sure.loadAgg rfl rdx rfl) ?_
  refine G.call rfl rfl rfl rfl rfl rfl (refRight_spec M g h) (Split.nil) ?_
  rintro _ M1 _ le1 ⟨rfl, rfl⟩
  refine G.value rfl rfl rfl (Sure.not rfl) ?_
  refine G.nil ?_
  refine C.cond_false rfl ?_
  refine C.skip ?_
  refine Fin.th ?_
  refine C.region_seq ?_
  refine G.value rfl rfl rfl (Sure.fieldAddr rfl) ?_
  refine G.value rfl rfl rfl (Sure.load rfl rdx rfl) ?_
  refine G.value rfl rfl rfl (Sure.quo rfl rfl (by omega) (by decide) (inK64 (by omega))) ?_
  refine G.value rfl rfl rfl (Sure.fieldAddr rfl) ?_
  refine G.value rfl rfl rfl (Sure.load rfl rdx rfl) ?_
  refine G.value rfl rfl rfl (Sure.mul rfl rfl (inK64 (by have : halfSize g = g.sectors / 2 * g.sector := rfl; omega))) ?_
  refine G.value rfl rfl rfl (Sure.assign rfl) ?_
  refine G.nil ?_
  refine C.ret ?_
  refine Fin.fn (Res.tmp rfl rfl) Split.nil ⟨?_, rfl⟩
  rw [hz]
theorem refFirst_spec (M : Mem) (epoch : Int) (s : StaD) (hs : SOk M s) (hk : s.inos.length ≤ 2000000 ∧ s.bad.length ≤ 2000000) (hb : (deedsB (whole s.v)).length ≤ 10000000) :
    Spec Tryz.prog 56 [intV epoch, .agg (staDL s).toArray] M [] (fun v _ H => OwnB (firstB epoch s.v) v H) := by
  have hw := u64_wrap_bd epoch
  have hfin : ∀ (v : Value) (H : Heap) (m : Nat), m = (deedsB (whole s.v)).length → Own 1 v ((intB epoch).length + m) (bytesV (intB epoch) ++ bytesV (deedsB (whole s.v))) H → OwnB (firstB epoch s.v) v H := by
    intro v H m hm h
    subst hm
    unfold OwnB firstB
    rw [List.length_append, show bytesV (intB epoch ++ deedsB (whole s.v)) = bytesV (intB epoch) ++ bytesV (deedsB (whole s.v)) from by simp [bytesV]]
    exact h
  have hput := refPut_spec M Option.none 0 [] (IntKind.u64.wrap epoch).toNat 8 (sb_nil M) (by decide) (by omega) (by decide)
  refine Spec.of_code 12 Tryz.func56 rfl callable56 rfl rfl fun w => ?_
  refine C.region_seq ?_
  refine G.dyn rfl rfl rfl ?_
  refine Dyn.boxAgg rfl ?_
  intro b3
  refine G.value rfl rfl rfl (Sure.assign rfl) ?_
  refine G.nil ?_
  -- draws its order
  refine C.draw_seq ([(b3, .cells (staDL s))]) mixed (by kernel_rfl) (Incl.refl _) ?_
  refine GD.val 0 rfl rfl rfl rfl (by kernel_rfl) rfl (Sure.move rfl) ?_
  refine GD.val 1 rfl rfl rfl rfl (by kernel_rfl) rfl (Sure.conv' rfl) ?_
  rw [show IntKind.u64.wrap epoch = ((IntKind.u64.wrap epoch).toNat : Int) from by omega]
  refine GD.val 3 rfl rfl rfl rfl (by kernel_rfl) rfl (Sure.loadAgg rfl rdx rfl) ?_
  refine GD.one 2 (by kernel_rfl) rfl rfl (by kernel_rfl) ?_
  refine Next.call 2 rfl rfl rfl (by kernel_rfl) (by kernel_rfl) rfl rfl rfl rfl (hput) (Split.nil) ?_
  rintro v7 M2 H2 le2 hown7
  refine ⟨(by intro q hq; exact List.mem_append.2 (.inr hq)), ?_⟩
  refine GD.one 4 (by kernel_rfl) rfl rfl (by kernel_rfl) ?_
  refine Next.call 4 rfl rfl rfl (by kernel_rfl) (by kernel_rfl) rfl rfl rfl rfl (refWhole_spec M2 s (hs.mono le2) hk) (Split.nil) ?_
  rintro _ M3 _ le3 ⟨rfl, dl, p, cap, rfl, hrd, hdv⟩
  refine ⟨(by intro q hq; exact List.mem_append.2 (.inr (List.mem_append.2 (.inr hq)))), ?_⟩
  have hpk := refPack_spec M3 p cap dl hrd (by rw [hdv]; exact hb)
  rw [hdv] at hpk
  refine GD.one 5 (by kernel_rfl) rfl rfl (by kernel_rfl) ?_
  refine Next.call 5 rfl rfl rfl (by kernel_rfl) (by kernel_rfl) rfl rfl rfl rfl (hpk) (Split.nil) ?_
  rintro v9 M4 H9 le4 hown9
  refine ⟨(by intro q hq; exact List.mem_append.2 (.inr (List.mem_append.2 (.inr (List.mem_append.2 (.inr hq)))))), ?_⟩
  refine GD.donateOwn hown9 .here (by intro q hq; exact List.mem_append.2 (.inr (List.mem_append.2 (.inr hq)))) ?_
  rintro M5 p9 c9 le5 rfl hs9
  refine GD.one 6 (by kernel_rfl) rfl rfl (by kernel_rfl) ?_
  refine Next.dyn 6 rfl rfl rfl (by kernel_rfl) (by kernel_rfl) rfl ?_
  refine Dyn.append (fun k h => by cases h) rfl rfl rfl hown7 (.over .here) (Sl.heap hs9) (allOne_bytes _) (by simp; omega) (by simp; omega) ?_
  intro v10 Hs10 hown10
  refine ⟨MLe.refl _, (by intro q hq; simp at hq ⊢; exact .inr hq), ?_⟩
  refine GD.one 7 (by kernel_rfl) rfl rfl (by kernel_rfl) ?_
  refine Next.dyn 7 rfl rfl rfl (by kernel_rfl) (by kernel_rfl) rfl (Dyn.assign rfl ?_)
  refine ⟨MLe.refl _, incx, ?_⟩
  refine GD.done (by kernel_rfl) (by kernel_rfl) ?_
  refine C.ret ?_
  exact Fin.fn (Res.tmp rfl rfl) (Split.one .here) (hfin v10 Hs10 _ rfl hown10)
theorem refFits_spec (M : Mem) (s : StaD) (g : Geo) (p : Option Addr) (cap : Nat) (dl : List DeedD) (hs : SOkC M s) (hg : GeoOk g) (hk : s.inos.length ≤ 1000000 ∧ s.bad.length ≤ 1000000) (hd : RDeeds M p dl) (hl : dl.length ≤ 100000)
    (hb : (deedsB (whole (applyL s.v (dl.map DeedD.v)))).length ≤ 10000000) :
    Spec Tryz.prog 17 [.agg (staDL s).toArray, geoV g, .slice p dl.length cap] M [] (fun v _ H => v = .bool (decide ((firstB 1 (applyL s.v (dl.map DeedD.v))).length + 7 ≤ hsz g)) ∧ H = []) := by
  obtain ⟨hz, hz1, hz2, hz3⟩ := hsz_int hg
  refine Spec.of_code 26 Tryz.func17 rfl callable17 rfl rfl fun w => ?_
  refine C.region_seq ?_
  refine G.dyn rfl rfl rfl ?_
  refine Dyn.boxAgg rfl ?_
  intro b3
  refine G.dyn rfl rfl rfl ?_
  refine Dyn.boxAgg rfl ?_
  intro b4
  refine G.value rfl rfl rfl (Sure.assign rfl) ?_
  refine G.nil ?_
  refine C.region_seq ?_
  refine G.value rfl rfl rfl (Sure.loadAgg rfl rdx rfl) ?_
  refine G.value rfl rfl rfl (Sure.move rfl) ?_
  refine G.call rfl rfl rfl rfl rfl rfl (refApply_spec M s p cap dl hs hk hd hl) (Split.nil) ?_
  rintro _ M1 _ le1 ⟨rfl, s2, hs2, rfl, hso2⟩
  rw [← hs2] at hb ⊢
  have hwl := whole_len s2.v
  have hbd : s2.inos.length ≤ 2000000 ∧ s2.bad.length ≤ 2000000 := by
    have h1 : ∀ l : List Ino, 45 * l.length ≤ wSum l := by
      intro l
      induction l with
      | nil => simp
      | cons x l ih =>
        have h2 := deedB_len ⟨2, 0, x⟩
        dsimp only at h2
        rw [if_neg (by decide), if_pos rfl] at h2
        have h3 : 44 ≤ (inoB x).length := by simp [inoB, intsB_len]; omega
        have h4 : wSum (x :: l) = (deedB ⟨2, 0, x⟩).length + wSum l := by simp [wSum]
        simp
        omega
    have h2 := h1 s2.v.inos
    have h3 : s2.v.inos.length = s2.inos.length := by simp [StaD.v]
    have h4 : s2.v.bad = s2.bad := rfl
    unfold wN at hwl
    rw [h4] at hwl
    omega
  refine G.call rfl rfl rfl rfl rfl rfl (refFirst_spec M1 1 s2 hso2.1 hbd hb) (Split.nil) ?_
  rintro v2 M2 H2 le2 hown2
  refine G.donateOwn hown2 .here ?_
  rintro M2 p2 c2 le2' rfl _
  have hfl : (firstB 1 s2.v).length = 8 + (deedsB (whole s2.v)).length := by unfold firstB; rw [List.length_append, intB_len]
  refine G.value rfl rfl rfl (Sure.len_slice rfl) ?_
  refine G.value rfl rfl rfl (Sure.assign rfl) ?_
  refine G.nil ?_
  refine C.region_seq ?_
  refine G.value rfl rfl rfl (Sure.loadAgg rfl rdx rfl) ?_
  refine G.call rfl rfl rfl rfl rfl rfl (refRight_spec M2 g hg) (Split.nil) ?_
  rintro _ M3 _ le3 ⟨rfl, rfl⟩
  refine G.value rfl rfl rfl (Sure.move rfl) ?_
  refine G.value rfl rfl rfl (Sure.move rfl) ?_
  rcases Nat.lt_or_ge 65000 (firstB 1 s2.v).length with hbig | hbig
  · rw [decide_eq_false (show ¬ (firstB 1 s2.v).length + 7 ≤ hsz g by omega)]
    refine G.value rfl rfl rfl ((Sure.leq rfl rfl).to_f (by omega)) ?_
    refine G.value rfl rfl rfl (Sure.pick_true rfl rfl) ?_
    refine G.value rfl rfl rfl (Sure.move rfl) ?_
    refine G.skip rfl rfl rfl ?_
    refine G.skip rfl rfl rfl ?_
    refine G.skip rfl rfl rfl ?_
    refine G.skip rfl rfl rfl ?_
    refine G.skip rfl rfl rfl ?_
    refine G.value rfl rfl rfl (Sure.pick_false rfl rfl) ?_
    refine G.value rfl rfl rfl (Sure.assign rfl) ?_
    refine G.nil ?_
    refine C.ret ?_
    exact Fin.fn (Res.tmp rfl rfl) Split.nil ⟨rfl, rfl⟩
  · skip
    refine G.value rfl rfl rfl ((Sure.leq rfl rfl).to_t (by omega)) ?_
    refine G.value rfl rfl rfl (Sure.pick_true rfl rfl) ?_
    refine G.value rfl rfl rfl (Sure.move rfl) ?_
    refine G.value rfl rfl rfl (Sure.move rfl) ?_
    refine G.value rfl rfl rfl (Sure.add rfl rfl (inK64 (by omega))) ?_
    refine G.value rfl rfl rfl (Sure.loadAgg rfl rdx rfl) ?_
    refine G.call rfl rfl rfl rfl rfl rfl (refHalf_spec M3 g hg) (Split.nil) ?_
    rintro _ M4 _ le4 ⟨rfl, rfl⟩
    rw [show decide ((firstB 1 s2.v).length + 7 ≤ hsz g) = decide (((firstB 1 s2.v).length : Int) + 7 ≤ (hsz g : Int)) from decide_eq_decide.2 (by omega)]
    refine G.value rfl rfl rfl (Sure.leq rfl rfl) ?_
    refine G.value rfl rfl rfl (Sure.pick_true rfl rfl) ?_
    refine G.value rfl rfl rfl (Sure.assign rfl) ?_
    refine G.nil ?_
    refine C.ret ?_
    exact Fin.fn (Res.tmp rfl rfl) Split.nil ⟨rfl, rfl⟩
theorem refInode_spec (M : Mem) : Spec Tryz.prog 51 [intV 1, intV 2, .string ⟨#[]⟩] M [] (fun v _ H => v = .agg (inoDL inoRD).toArray ∧ H = []) := by
  refine Spec.of_code 22 Tryz.func51 rfl callable51 rfl rfl fun w => ?_
  refine C.region_seq ?_
  refine G.dyn rfl rfl rfl ?_
  refine Dyn.allocAgg ?_
  intro b6
  refine G.nil ?_
  refine C.region_seq ?_
  refine G.value rfl rfl rfl (Sure.move rfl) ?_
  refine G.value rfl rfl rfl (Sure.move rfl) ?_
  refine G.value rfl rfl rfl (Sure.build rfl rfl) ?_
  refine G.dyn rfl rfl rfl ?_
  refine Dyn.allocAgg ?_
  intro b7
  refine G.dyn0 rfl rfl ?_
  refine Dyn.storeAgg rfl rfl pkx rfl rfl rfl ?_
  refine G.nil ?_
  refine C.seq ?_
  refine C.region_seq ?_
  refine G.value rfl rfl rfl (Sure.move rfl) ?_
  refine G.value rfl rfl rfl ((Sure.eql rfl rfl).to_t (by decide)) ?_
  refine G.nil ?_
  refine C.cond_true rfl ?_
  refine C.region ?_
  refine G.value rfl rfl rfl (Sure.fieldAddr rfl) ?_
  refine G.dyn0 rfl rfl ?_
  refine Dyn.store rfl rfl pkx rfl rfl ?_
  refine G.nil ?_
  refine Fin.th ?_
  refine C.seq ?_
  refine C.region_seq ?_
  refine G.value rfl rfl rfl (Sure.move rfl) ?_
  refine G.value rfl rfl rfl ((Sure.eql rfl rfl).to_f (by decide)) ?_
  refine G.nil ?_
  refine C.cond_false rfl ?_
  refine C.skip ?_
  refine Fin.th ?_
  refine C.region_seq ?_
  refine G.value rfl rfl rfl (Sure.loadAgg rfl rdx rfl) ?_
  refine G.dyn0 rfl rfl ?_
  refine Dyn.storeAgg rfl rfl pkx rfl rfl rfl ?_
  refine G.nil ?_
  refine C.ret ?_
  exact Fin.fn (Res.cellAgg rfl rfl rdx rfl) Split.nil ⟨rfl, rfl⟩
theorem refStateC_spec (M : Mem) : Spec Tryz.prog 15 [] M [] (fun v M' H => RetStaC staR v M' H) := by
  refine Spec.of_code 4 Tryz.func15 rfl callable15 rfl rfl fun w => ?_
  refine C.region_seq ?_
  refine G.dyn rfl rfl rfl ?_
  refine Dyn.allocAgg ?_
  intro b0
  refine G.nil ?_
  refine C.region_seq ?_
  refine G.call rfl rfl rfl rfl rfl rfl (refInode_spec M) (Split.nil) ?_
  rintro _ M1 _ le1 ⟨rfl, rfl⟩
  refine G.dyn rfl rfl rfl ?_
  refine Dyn.buildSlice rfl rfl rfl (by simp [vcl]) (by decide) ?_
  intro b2
  refine G.donate fun M2 le2 hM2 => ?_
  refine G.value rfl rfl rfl (Sure.build rfl rfl) ?_
  refine G.dyn0 rfl rfl ?_
  refine Dyn.storeAgg rfl rfl pkx rfl rfl rfl ?_
  refine G.nil ?_
  refine C.ret ?_
  refine Fin.fn (Res.cellAgg rfl rfl rdx rfl) Split.nil ⟨rfl, ⟨2, [inoRD], some ⟨b2, 0, Option.none⟩, 1, [], Option.none, 0⟩, rfl, rfl, ⟨⟨⟨⟨?_, ?_⟩, ?_⟩, Sl.empty⟩, Nat.le_refl 1, Nat.zero_le _⟩⟩
  · intro e he; simp at he; subst he; rfl
  · exact ⟨rfl, fun _ => ⟨b2, 0, _, rfl, Rd.m hM2, rfl⟩⟩
  · intro d hd; simp at hd; subst hd; exact ⟨⟨by simp [inoR], Sl.empty⟩, ⟨by simp [inoR], Sl.empty⟩⟩
def geoW : Geo := ⟨8, 2048, 12, 8, 32⟩
theorem geoW_ok : GeoOk geoW := ⟨by decide, by decide, by decide, by decide, by decide, by decide⟩
theorem wide_spec (M : Mem) : Spec Tryz.prog 22 [] M [] (fun v _ H => v = geoV geoW ∧ H = []) := by
  refine Spec.of_code 2 Tryz.func22 rfl callable22 rfl rfl fun w => ?_
  refine C.region_seq ?_
  refine G.dyn rfl rfl rfl ?_
  refine Dyn.allocAgg ?_
  intro b0
  refine G.nil ?_
  refine C.region_seq ?_
  refine G.value rfl rfl rfl (Sure.build rfl rfl) ?_
  refine G.dyn0 rfl rfl ?_
  refine Dyn.storeAgg rfl rfl pkx rfl rfl rfl ?_
  refine G.nil ?_
  refine C.ret ?_
  exact Fin.fn (Res.cellAgg rfl rfl rdx rfl) Split.nil ⟨rfl, rfl⟩
end Go.Proofs.YtaeeahcokiebdaaGreat

/-
  Journals whose power does not fall: the walks of committing, opening and formatting, in short; what the laws ask first.
-/
namespace Go.Proofs.YtaeeahcokiebdaaGreat
set_option maxRecDepth 20000

theorem wSum_mem : ∀ {l : List Ino} {x : Ino}, x ∈ l → (deedB ⟨2, 0, x⟩).length ≤ wSum l
  | y :: l, x, h => by
    have e : wSum (y :: l) = (deedB ⟨2, 0, y⟩).length + wSum l := by simp [wSum]
    rcases List.mem_cons.1 h with rfl | h
    · omega
    · have := wSum_mem h; omega
theorem ino_small (x : Ino) : 45 + 12 * x.ents.length + 24 * x.runs.length ≤ (deedB ⟨2, 0, x⟩).length := by
  have h2 := deedB_len ⟨2, 0, x⟩
  dsimp only at h2
  rw [if_neg (by decide), if_pos rfl] at h2
  have he : ∀ l : List Entry, 12 * l.length ≤ (l.map entB).flatten.length := by
    intro l
    induction l with
    | nil => simp
    | cons e l ih =>
      have := entB_len e
      rw [List.map_cons, List.flatten_cons, List.length_append, List.length_cons]
      omega
  have hr : ∀ l : List Run, 24 * l.length ≤ (l.map runB).flatten.length := by
    intro l
    induction l with
    | nil => simp
    | cons e l ih =>
      have := runB_len e
      rw [List.map_cons, List.flatten_cons, List.length_append, List.length_cons]
      omega
  have h3 : (inoB x).length = 32 + (4 + x.tgt.size) + 4 + (x.ents.map entB).flatten.length + 4 + (x.runs.map runB).flatten.length := by
    unfold inoB
    simp only [List.length_append, intsB_len, le_len, txtB_len, List.length_cons, List.length_nil]
  have := he x.ents
  have := hr x.runs
  omega
theorem wSum_count : ∀ l : List Ino, 45 * l.length ≤ wSum l
  | [] => by simp
  | x :: l => by
    have := wSum_count l
    have := ino_small x
    have e : wSum (x :: l) = (deedB ⟨2, 0, x⟩).length + wSum l := by simp [wSum]
    rw [List.length_cons]
    omega
theorem staOk_small {s : Sta} (h : wN s ≤ 1000000) : StaOk s := by
  unfold wN at h
  have := wSum_count s.inos
  refine ⟨by omega, by omega, fun x hx => ?_⟩
  have h1 := wSum_mem hx
  have h2 := ino_small x
  exact ⟨by omega, by omega⟩
theorem deeds_mem : ∀ {l : List Deed} {d : Deed}, d ∈ l → (deedB d).length ≤ (deedsB l).length
  | e :: l, d, h => by
    have h3 : (deedsB (e :: l)).length = (deedB e).length + (deedsB l).length := by simp [deedsB]
    rcases List.mem_cons.1 h with rfl | h
    · omega
    · have := deeds_mem h; omega
theorem canon_ok {d : Deed} (hc : Canon d) (hl : (deedB d).length ≤ 1000000) : InoOk d.ino := by
  rcases hc with ⟨_, _, h⟩ | ⟨hk, hn, _⟩
  · rw [h]; exact ⟨by simp [ino0], by simp [ino0]⟩
  · have h2 := ino_small d.ino
    have h3 : (deedB d).length = (deedB ⟨2, 0, d.ino⟩).length := by
      obtain ⟨k, n, x⟩ := d
      dsimp only at hk hn ⊢
      rw [hk, hn]
    exact ⟨by omega, by omega⟩
/-- A journal in use, on a chip whose power does not fall. -/
structure Live (ad : Ad) (ch : Chip) (j : Jr) (s : Sta) : Prop where
  ok : ChipOk ad ch
  alive : Alive ch.pw
  jok : JOk j ch.g
  ended : j.ended = false
  kept : Kept ch j s
theorem Live.small {ad ch j s} (h : Live ad ch j s) : wN s + 24 ≤ hsz ch.g ∧ hsz ch.g ≤ 32768 := by
  obtain ⟨hz, hz1, hz2, hz3⟩ := hsz_int h.ok.geo
  have := h.kept.told.room
  have := h.jok.used
  exact ⟨by omega, hz2⟩
theorem commit_live (M : Mem) (jb : Nat) (ad : Ad) (ch : Chip) (j : Jr) (s : StaD) (p : Option Addr) (cap : Nat) (dl : List DeedD) (hv : Live ad ch j s.v) (hs : SOk M s) (hd : RDeeds M p dl) (hc : ∀ d ∈ dl.map DeedD.v, Canon d)
    (hb : (deedsB (dl.map DeedD.v)).length ≤ 90000) (he : j.epoch < 2147483647) :
    Spec Tryz.prog 16 [ptr jb, .slice p dl.length cap] M ((jb, .cells (jrL ad.cb j s)) :: chipH ad ch)
      (fun v M' H => ∃ (ch' : Chip) (j' : Jr) (s' : StaD), H = (jb, .cells (jrL ad.cb j' s')) :: chipH ad ch' ∧ SOk M' s' ∧ Live ad ch' j' s'.v ∧ ch'.g = ch.g ∧ j'.epoch ≤ j.epoch + 1 ∧
        ((v = intV 0 ∧ s'.v = applyL s.v (dl.map DeedD.v) ∧ (firstB 1 (applyL s.v (dl.map DeedD.v))).length + 7 ≤ hsz ch.g ∧ commit ch j s.v (dl.map DeedD.v) = ((ch', j', s'.v), 0)) ∨
          (v = intV 10 ∧ s'.v = s.v ∧ j' = j ∧ ch' = ch ∧ hsz ch.g < (firstB 1 (applyL s.v (dl.map DeedD.v))).length + 7))) := by
  have hsm := hv.small
  have hwa := wN_applyL (dl.map DeedD.v) s.v
  have hwl := whole_len (applyL s.v (dl.map DeedD.v))
  have hcnt := deeds_count (dl.map DeedD.v)
  rw [List.length_map] at hcnt
  have hdk : ∀ d ∈ dl, InoOk d.d.x := fun d hm => canon_ok (hc d.v (List.mem_map_of_mem hm)) (by have := deeds_mem (List.mem_map_of_mem (f := DeedD.v) hm); omega)
  have hsp := commit_spec M jb ad ch j s p cap dl hv.ok hv.jok hs (staOk_small (by omega)) hd hdk (by omega) (by omega) (staOk_small (by omega)) (by omega)
  refine hsp.mono ?_
  rintro v M' H hle ⟨rfl, s', hs', hso, rfl⟩
  rcases commit_kept hv.ok hv.alive hv.jok hv.ended he hv.kept hc with ⟨c1, c2, c3, c4, c5, c6, c7, c8, c9, c10⟩ | ⟨c1, c2⟩
  · refine ⟨_, _, s', rfl, hso, ⟨c5, c6, by rw [c9]; exact c7, c8, by rw [hs', c2]; exact c4⟩, c9, c10, .inl ⟨by rw [c1], by rw [hs', c2], c3, ?_⟩⟩
    have e : ∀ r : (Chip × Jr × Sta) × Int, r.2 = 0 → r = ((r.1.1, r.1.2.1, r.1.2.2), 0) := by rintro ⟨⟨a, b, c⟩, d⟩ h; dsimp only at h ⊢; rw [h]
    rw [hs']
    exact e _ c1
  · rw [c1] at hs'
    refine ⟨ch, j, s', by rw [c1], hso, ?_, rfl, by omega, .inr ⟨by rw [c1], hs', rfl, rfl, c2⟩⟩
    have hs2 : s'.v = s.v := hs'
    rw [hs2]
    exact hv
theorem open_live (M : Mem) (ad : Ad) (ch : Chip) (j : Jr) (s : Sta) (hv : Live ad ch j s) :
    Spec Tryz.prog 21 [ptr ad.cb] M (chipH ad ch) (fun v M' H => ∃ (jb : Nat) (s' : StaD), v = .tuple #[ptr jb, .int .i64 0] ∧ s'.v = s ∧ SOk M' s' ∧ H = (jb, .cells (jrL ad.cb j s')) :: chipH ad ch) := by
  have ho := hv.kept.open hv.jok hv.ended
  refine (open_spec M ad ch hv.ok).mono ?_
  rintro v M' H hle (⟨h1, _⟩ | ⟨jb, j', s', h1, h2, rfl, hso, _, rfl⟩)
  · rw [ho] at h1; cases h1
  · rw [ho] at h1 ⊢
    injection h1 with h1
    injection h1 with h1 h3
    subst h1
    exact ⟨jb, s', rfl, h3.symm, hso, rfl⟩
theorem format_live (M : Mem) (ad : Ad) (ch : Chip) (hok : ChipOk ad ch) (ha : Alive ch.pw) :
    Spec Tryz.prog 14 [ptr ad.cb] M (chipH ad ch) (fun v M' H => ∃ (jb : Nat) (s : StaD) (ch' : Chip), v = .tuple #[ptr jb, .int .i64 0] ∧ s.v = staR ∧ SOk M' s ∧ Live ad ch' fmtJ staR ∧ ch'.g = ch.g ∧ ch' = (fmt ch).1 ∧ H = (jb, .cells (jrL ad.cb fmtJ s)) :: chipH ad ch') := by
  obtain ⟨f1, f2, f3, f4, f5, f6⟩ := fmt_kept hok ha
  refine (format_spec M ad ch hok).mono ?_
  rintro v M' H hle (⟨_, hne, _⟩ | ⟨jb, s, rfl, h0, hsv, hso, rfl⟩)
  · exact absurd f1 hne
  · exact ⟨jb, s, (fmt ch).1, rfl, hsv, hso, ⟨f3, f4, by rw [f5]; exact f6, rfl, f2⟩, f5, rfl, rfl⟩
theorem jstate_live (M : Mem) (jb : Nat) (ad : Ad) (ch : Chip) (j : Jr) (s : StaD) (hv : Live ad ch j s.v) (hs : SOk M s) :
    Spec Tryz.prog 20 [ptr jb] M [(jb, .cells (jrL ad.cb j s))] (fun v M' H => H = [(jb, .cells (jrL ad.cb j s))] ∧ RetSta s.v v M' []) :=
  jstate_spec M jb ad.cb j s hs (staOk_small (by have := hv.small; omega))
theorem chip_new (M : Mem) (g : Geo) (pb : Nat) (hg : GeoOk g) : Spec Tryz.prog 11 [geoV g, ptr pb] M [(pb, .cells (pwL ⟨-1, 0, false, 0⟩ (.map Option.none)))]
    (fun v _ H => ∃ ad : Ad, v = .tuple #[ptr ad.cb, .int .i64 0] ∧ H = chipH ad ⟨g, List.replicate (chipN g) 255, ⟨-1, 0, false, 0⟩, []⟩ ∧ ChipOk ad ⟨g, List.replicate (chipN g) 255, ⟨-1, 0, false, 0⟩, []⟩ ∧ Alive (⟨-1, 0, false, 0⟩ : Pw)) :=
  (norNew_spec M g pb ⟨-1, 0, false, 0⟩ (.map Option.none) hg ⟨by decide, by decide⟩).mono fun _ _ _ _ ⟨ad, _, h2, h3, h4⟩ => ⟨ad, h2, h3, h4, rfl, rfl⟩
/-- A deed that gives a number out. -/
theorem next_canon (n : Int) (h : InR n) : Canon ⟨1, n, ino0⟩ := .inl ⟨.inl rfl, h, rfl⟩
theorem next_rdeeds {M : Mem} {b : Nat} {n : Int} (h : M b = some (deedDL ⟨1, n, inoD0⟩)) : RDeeds M (some ⟨b, 0, Option.none⟩) [⟨1, n, inoD0⟩] :=
  ⟨⟨by intro e he; simp at he; subst he; rfl, rfl, fun _ => ⟨b, 0, _, rfl, Rd.m h, rfl⟩⟩, by intro d hd; rw [List.mem_singleton.1 hd]; exact dOk0 _⟩
theorem awake17_spec (M : Mem) : Spec Tryz.prog 13 [] M [] (fun v _ H => v = .bool true ∧ H = []) := by
  refine Spec.of_code 46 Tryz.func13 rfl callable13 rfl rfl fun w => ?_
  refine C.region_seq ?_
  refine G.value rfl rfl rfl (Sure.assign rfl) ?_
  refine G.nil ?_
  refine C.region_seq ?_
  refine G.call rfl rfl rfl rfl rfl rfl (wide_spec M) (Split.nil) ?_
  rintro _ M1 _ le1 ⟨rfl, rfl⟩
  refine G.call rfl rfl rfl rfl rfl rfl (pw_new_spec M1) (Split.nil) ?_
  rintro _ M2 _ le2 ⟨pb, rfl, rfl⟩
  refine G.call rfl rfl rfl rfl rfl rfl (chip_new M2 geoW pb geoW_ok) (Split.cons .here Split.nil) ?_
  rintro _ M3 _ le3 ⟨ad, rfl, rfl, hok, hal⟩
  refine G.value rfl rfl rfl (Sure.move rfl) ?_
  refine G.value rfl rfl rfl (Sure.extract rfl rfl) ?_
  refine G.value rfl rfl rfl (Sure.extract rfl rfl) ?_
  refine G.value rfl rfl rfl (Sure.assign rfl) ?_
  refine G.value rfl rfl rfl (Sure.assign rfl) ?_
  refine G.nil ?_
  refine C.seq ?_
  refine C.region_seq ?_
  refine G.value rfl rfl rfl (Sure.move rfl) ?_
  refine G.value rfl rfl rfl ((Sure.neq rfl rfl).to_f (by decide)) ?_
  refine G.value rfl rfl rfl (Sure.move rfl) ?_
  refine G.value rfl rfl rfl (Sure.move rfl) ?_
  refine G.value rfl rfl rfl (ptr_eq_f rfl rfl) ?_
  refine G.value rfl rfl rfl (Sure.pick_false rfl rfl) ?_
  refine G.nil ?_
  refine C.cond_false rfl ?_
  refine C.skip ?_
  refine Fin.th ?_
  refine C.region_seq ?_
  refine G.value rfl rfl rfl (Sure.move rfl) ?_
  refine G.call rfl rfl rfl rfl rfl rfl (format_live M3 ad _ hok hal) (Split.one .here) ?_
  rintro _ M4 _ le4 ⟨jb, s, ch, rfl, hsv, hso, hlv, hcg, _, rfl⟩
  refine G.value rfl rfl rfl (Sure.move rfl) ?_
  refine G.value rfl rfl rfl (Sure.extract rfl rfl) ?_
  refine G.value rfl rfl rfl (Sure.extract rfl rfl) ?_
  refine G.value rfl rfl rfl (Sure.assign rfl) ?_
  refine G.value rfl rfl rfl (Sure.assign rfl) ?_
  refine G.nil ?_
  refine C.region_seq ?_
  refine G.value rfl rfl rfl (Sure.move rfl) ?_
  refine G.value rfl rfl rfl ((Sure.eql rfl rfl).to_t rfl) ?_
  refine G.value rfl rfl rfl (Sure.move rfl) ?_
  refine G.value rfl rfl rfl (Sure.move rfl) ?_
  refine G.value rfl rfl rfl (ptr_ne_t rfl rfl) ?_
  refine G.value rfl rfl rfl (Sure.pick_true rfl rfl) ?_
  refine G.value rfl rfl rfl (Sure.move rfl) ?_
  refine G.value rfl rfl rfl (Sure.move rfl) ?_
  refine G.call rfl rfl rfl rfl rfl rfl (epoch_spec M4 jb ad.cb fmtJ s) (Split.cons .here Split.nil) ?_
  rintro _ M5 _ le5 ⟨rfl, rfl⟩
  refine G.value rfl rfl rfl ((Sure.eql rfl rfl).to_t rfl) ?_
  refine G.value rfl rfl rfl (Sure.pick_true rfl rfl) ?_
  refine G.value rfl rfl rfl (Sure.move rfl) ?_
  refine G.value rfl rfl rfl (Sure.move rfl) ?_
  refine G.value rfl rfl rfl (Sure.build rfl rfl) ?_
  refine G.dyn rfl rfl rfl ?_
  refine Dyn.buildSlice rfl rfl rfl (by simp [vcl]) (by decide) ?_
  intro b36
  refine G.donate fun M6 le6 hM6 => ?_
  rw [← hsv] at hlv
  refine G.call rfl rfl rfl rfl rfl rfl (commit_live M6 jb ad ch fmtJ s (some ⟨b36, 0, Option.none⟩) 1 [⟨1, 9, inoD0⟩] hlv (hso.mono (le5.trans le6)) (next_rdeeds hM6) (by intro d hd; simp at hd; subst hd; exact next_canon 9 ⟨by decide, by decide⟩) (by simp [deedsB, DeedD.v, deedB]) (by decide)) (Split.cons .here (Split.one .here)) ?_
  rintro _ M7 _ le7 ⟨ch', j', s', rfl, hso', hlv', hg', hep', hres⟩
  have hsm := hlv.small
  have hap : applyL s.v [(⟨1, 9, ino0⟩ : Deed)] = ⟨9, s.v.inos, s.v.bad⟩ := rfl
  have hfl := firstB_len 1 (applyL s.v [(⟨1, 9, ino0⟩ : Deed)])
  have hwn : wN (applyL s.v [(⟨1, 9, ino0⟩ : Deed)]) = wN s.v := rfl
  rcases hres with ⟨rfl, hs2, _, _⟩ | ⟨rfl, _, _, _, hno⟩
  · have hs3 : s'.v = ⟨9, s.v.inos, s.v.bad⟩ := hs2
    refine G.value rfl rfl rfl ((Sure.eql rfl rfl).to_t rfl) ?_
    refine G.value rfl rfl rfl (Sure.pick_true rfl rfl) ?_
    refine G.value rfl rfl rfl (Sure.move rfl) ?_
    refine G.value rfl rfl rfl (Sure.move rfl) ?_
    refine G.call rfl rfl rfl rfl rfl rfl (jstate_live M7 jb ad ch' j' s' hlv' hso') (Split.cons .here Split.nil) ?_
    rintro _ M8 _ le8 ⟨rfl, -, s4, hs4, rfl, hso4⟩
    have hn4 : s4.next = 9 := by have := congrArg Sta.next (hs4.trans hs3); exact this
    refine G.value rfl rfl rfl (Sure.field rfl rfl) ?_
    refine G.value rfl rfl rfl ((Sure.eql rfl rfl).to_t hn4) ?_
    refine G.value rfl rfl rfl (Sure.pick_true rfl rfl) ?_
    refine G.value rfl rfl rfl (Sure.assign rfl) ?_
    refine G.nil ?_
    refine C.ret ?_
    exact Fin.fn (Res.tmp rfl rfl) Split.nil ⟨rfl, rfl⟩
  · exfalso
    have hno' : hsz ch.g < (firstB 1 (applyL s.v [(⟨1, 9, ino0⟩ : Deed)])).length + 7 := hno
    omega
end Go.Proofs.YtaeeahcokiebdaaGreat

/-
  The walks of what the laws let in: few deeds, and clean ones.
  Conditions: what is counted fits.
-/
namespace Go.Proofs.YtaeeahcokiebdaaGreat
set_option maxRecDepth 20000

def entsN (l : List Entry) : Nat := (l.map fun e => 10 + e.name.size).sum
def fewD (d : Deed) : Nat := 10 + d.ino.tgt.size + d.ino.runs.length + entsN d.ino.ents
def fewN (l : List Deed) : Nat := (l.map fewD).sum
theorem entsN_app (a b : List Entry) : entsN (a ++ b) = entsN a + entsN b := by simp [entsN]
theorem fewN_app (a b : List Deed) : fewN (a ++ b) = fewN a + fewN b := by simp [fewN]
theorem entsN_cons (e : Entry) (b : List Entry) : entsN (e :: b) = 10 + e.name.size + entsN b := by simp [entsN]
theorem fewN_cons (e : Deed) (b : List Deed) : fewN (e :: b) = fewD e + fewN b := by simp [fewN]
theorem entsN_ge (l : List Entry) : 10 * l.length ≤ entsN l := by
  induction l with
  | nil => simp
  | cons d l ih => rw [entsN_cons, List.length_cons]; omega
theorem few_spec (M : Mem) (p : Option Addr) (cap : Nat) (dl : List DeedD) (hd : RDeeds M p dl) (hb : fewN (dl.map DeedD.v) ≤ 1000000000000) :
    Spec Tryz.prog 23 [.slice p dl.length cap] M [] (fun v _ H => v = .bool (decide (fewN (dl.map DeedD.v) ≤ 3000)) ∧ H = []) := by
  have hlen10 : ∀ l : List Deed, 10 * l.length ≤ fewN l := by
    intro l
    induction l with
    | nil => simp
    | cons d l ih => rw [fewN_cons, List.length_cons]; unfold fewD; omega
  have hln := hlen10 (dl.map DeedD.v)
  rw [List.length_map] at hln
  refine Spec.of_code 47 Tryz.func23 rfl callable23 rfl rfl fun w => ?_
  refine C.region_seq ?_
  refine G.value rfl rfl rfl (Sure.assign rfl) ?_
  refine G.nil ?_
  refine C.region_seq ?_
  refine G.value rfl rfl rfl (Sure.assign rfl) ?_
  refine G.nil ?_
  refine C.seq ?_
  refine C.region_seq ?_
  refine G.value rfl rfl rfl (Sure.assign rfl) ?_
  refine G.nil ?_
  refine C.block ?_
  refine C.loop (fun k E M' H => ∃ a b : List DeedD, MLe M M' ∧ dl = a ++ b ∧ b.length = k ∧ E = [(0, .slice p dl.length cap), (3, intV (fewN (a.map DeedD.v))), (4, intV a.length)] ∧ H = []) (dl.length) ?_ ?_
  · exact ⟨_, _, ⟨[], dl, MLe.refl _, rfl, rfl, rfl, rfl⟩, ⟨rfl, rfl, rfl, trivial⟩, [], Split.nil⟩
  · rintro k E M' H ⟨a, b, hle, hab, hk, rfl, rfl⟩
    have hlen : dl.length = a.length + b.length := by rw [hab]; simp
    refine C.seq ?_
    refine C.region_seq ?_
    refine G.value rfl rfl rfl (Sure.move rfl) ?_
    refine G.value rfl rfl rfl (Sure.move rfl) ?_
    refine G.value rfl rfl rfl (Sure.len_slice rfl) ?_
    refine G.value rfl rfl rfl (Sure.lss rfl rfl) ?_
    refine G.nil ?_
    refine C.cond_dec rfl (fun hlt => ?_) (fun hlt => ?_)
    · cases b with
      | nil => simp at hlen hlt; omega
      | cons x b =>
        have hxm : x ∈ dl := by rw [hab]; simp
        have hsum : fewN (dl.map DeedD.v) = fewN (a.map DeedD.v) + (fewD x.v + fewN (b.map DeedD.v)) := by rw [hab, List.map_append, fewN_app, List.map_cons, fewN_cons]
        have hxd : fewD x.v = 10 + x.d.x.tgt.size + x.d.x.runs.length + entsN x.d.x.ents := rfl
        obtain ⟨q1, o1, c1, hq1, hrd1, hseg1⟩ := SlL.row (i := a.length) (e := deedDL x) (SlL.mono hd.1 hle) (by rw [hab]; simp)
        have hse : seg c1 (o1 + a.length * 9 + 2) 7 = some (inoDL x.d) := seg_sub hseg1 (k := 2) (m := 7) (by omega)
        have hdo := (hd.2 x hxm).mono hle
        refine C.skip ?_
        refine Fin.th ?_
        refine C.seq ?_
        refine C.block ?_
        refine C.region_seq ?_
        refine G.value rfl rfl rfl (Sure.move rfl) ?_
        refine G.value rfl rfl rfl (Sure.move rfl) ?_
        refine G.value rfl rfl rfl (Sure.indexAddr (congrArg (fun q => some (Value.slice q dl.length cap)) hq1) rfl (by omega)) ?_
        refine G.value rfl rfl rfl (Sure.fieldAddr rfl) ?_
        refine G.value rfl rfl rfl (Sure.loadAgg rfl hrd1 hse) ?_
        refine G.dyn rfl rfl rfl ?_
        refine Dyn.allocAgg ?_
        intro b5
        refine G.dyn0 rfl rfl ?_
        refine Dyn.storeAgg rfl rfl pkx rfl rfl rfl ?_
        refine G.nil ?_
        refine C.region_seq ?_
        refine G.value rfl rfl rfl (Sure.move rfl) ?_
        refine G.value rfl rfl rfl (Sure.add rfl rfl (inK64 (by omega))) ?_
        refine G.value rfl rfl rfl (Sure.fieldAddr rfl) ?_
        refine G.value rfl rfl rfl (Sure.load rfl rdx rfl) ?_
        refine G.value rfl rfl rfl (Sure.len_string rfl) ?_
        refine G.value rfl rfl rfl (Sure.add rfl rfl (inK64 (by omega))) ?_
        refine G.value rfl rfl rfl (Sure.fieldAddr rfl) ?_
        refine G.value rfl rfl rfl (Sure.load rfl rdx rfl) ?_
        refine G.value rfl rfl rfl (Sure.len_slice rfl) ?_
        refine G.value rfl rfl rfl (Sure.add rfl rfl (inK64 (by omega))) ?_
        refine G.value rfl rfl rfl (Sure.assign rfl) ?_
        refine G.nil ?_
        refine C.region_seq ?_
        refine G.value rfl rfl rfl (Sure.assign rfl) ?_
        refine G.nil ?_
        refine C.block ?_
        refine C.loop (fun k2 E M2 H => ∃ c d : List Entry, MLe M' M2 ∧ x.d.x.ents = c ++ d ∧ d.length = k2 ∧ E = [(0, .slice p dl.length cap), (3, intV ((fewN (a.map DeedD.v) + (10 + x.d.x.tgt.size + x.d.x.runs.length + entsN c) : Nat) : Int)), (4, intV a.length), (5, ptr b5), (6, intV c.length)] ∧ H = [(b5, .cells (inoDL x.d))]) (x.d.x.ents.length) ?_ ?_
        · refine ⟨_, _, ⟨[], x.d.x.ents, MLe.refl _, rfl, rfl, rfl, rfl⟩, ⟨rfl, ?_, rfl, rfl, rfl, trivial⟩, [], Split.cons .here Split.nil⟩
          show some (intV ((fewN (a.map DeedD.v) : Int) + 10 + (x.d.x.tgt.size : Int) + (x.d.x.runs.length : Int))) = some (intV ((fewN (a.map DeedD.v) + (10 + x.d.x.tgt.size + x.d.x.runs.length + 0) : Nat) : Int))
          congr 2
          omega
        · rintro k2 E M2 H ⟨c, d, hle2, hcd, hk2, rfl, rfl⟩
          have hlen2 : x.d.x.ents.length = c.length + d.length := by rw [hcd]; simp
          have hes : entsN x.d.x.ents = entsN c + entsN d := by rw [hcd, entsN_app]
          have hge := entsN_ge x.d.x.ents
          refine C.seq ?_
          refine C.region_seq ?_
          refine G.value rfl rfl rfl (Sure.move rfl) ?_
          refine G.value rfl rfl rfl (Sure.fieldAddr rfl) ?_
          refine G.value rfl rfl rfl (Sure.load rfl rdx rfl) ?_
          refine G.value rfl rfl rfl (Sure.len_slice rfl) ?_
          refine G.value rfl rfl rfl (Sure.lss rfl rfl) ?_
          refine G.nil ?_
          refine C.cond_dec rfl (fun hlt2 => ?_) (fun hlt2 => ?_)
          · cases d with
            | nil => simp at hlen2; omega
            | cons e d =>
              rw [entsN_cons] at hes
              obtain ⟨q2, o2, c2, hq2, hrd2, hseg2⟩ := SlL.row (i := c.length) (e := entL e) ((SlL.mono hdo.1 hle2).heap (H := [(b5, .cells (inoDL x.d))])) (by rw [hcd]; simp)
              refine C.skip ?_
              refine Fin.th ?_
              refine C.seq ?_
              refine C.block ?_
              refine C.region ?_
              refine G.value rfl rfl rfl (Sure.move rfl) ?_
              refine G.value rfl rfl rfl (Sure.add rfl rfl (inK64 (by omega))) ?_
              refine G.value rfl rfl rfl (Sure.fieldAddr rfl) ?_
              refine G.value rfl rfl rfl (Sure.load rfl rdx rfl) ?_
              refine G.value rfl rfl rfl (Sure.move rfl) ?_
              refine G.value rfl rfl rfl (Sure.indexAddr (congrArg (fun q => some (Value.slice q x.d.x.ents.length x.d.ce)) hq2) rfl (by omega)) ?_
              refine G.value rfl rfl rfl (Sure.fieldAddr rfl) ?_
              refine G.value rfl rfl rfl (Sure.load rfl hrd2 (seg_one (k := 0) hseg2 rfl)) ?_
              refine G.value rfl rfl rfl (Sure.len_string rfl) ?_
              refine G.value rfl rfl rfl (Sure.add rfl rfl (inK64 (by omega))) ?_
              refine G.value rfl rfl rfl (Sure.assign rfl) ?_
              refine G.nil ?_
              refine Fin.blk ?_
              refine Fin.th ?_
              refine C.region ?_
              refine G.value rfl rfl rfl (Sure.move rfl) ?_
              refine G.value rfl rfl rfl (Sure.add rfl rfl (inK64 (by omega))) ?_
              refine G.value rfl rfl rfl (Sure.assign rfl) ?_
              refine G.nil ?_
              refine Fin.th ?_
              refine ⟨d.length, _, _, by simp at hk2; omega, ⟨c ++ [e], d, hle2, by rw [hcd]; simp, rfl, rfl, rfl⟩, ⟨rfl, ?_, rfl, rfl, by simp; rfl, trivial⟩, [], Split.cons .here Split.nil⟩
              rw [entsN_app, entsN_cons]
              show some (intV (((fewN (a.map DeedD.v) + (10 + x.d.x.tgt.size + x.d.x.runs.length + entsN c) : Nat) : Int) + 10 + (e.name.size : Int))) = some (intV ((fewN (a.map DeedD.v) + (10 + x.d.x.tgt.size + x.d.x.runs.length + (entsN c + (10 + e.name.size + 0))) : Nat) : Int))
              congr 2
              omega
          · have hd0 : d = [] := List.eq_nil_of_length_eq_zero (by omega)
            subst hd0
            simp only [List.append_nil] at hcd
            refine C.exit ?_
            refine Fin.th_exit ?_
            refine Fin.th_exit ?_
            refine Fin.blk_eq ?_
            refine Fin.blk ?_
            refine Fin.th ?_
            refine C.region ?_
            refine G.value rfl rfl rfl (Sure.move rfl) ?_
            refine G.value rfl rfl rfl (Sure.add rfl rfl (inK64 (by omega))) ?_
            refine G.value rfl rfl rfl (Sure.assign rfl) ?_
            refine G.nil ?_
            refine Fin.th ?_
            refine ⟨b.length, _, _, by simp at hk; omega, ⟨a ++ [x], b, hle.trans hle2, by rw [hab]; simp, rfl, rfl, rfl⟩, ⟨rfl, ?_, by simp; rfl, trivial⟩, [(b5, .cells (inoDL x.d))], Split.nil⟩
            rw [List.map_append, fewN_app, List.map_cons, fewN_cons, hxd, hcd]
            rfl
    · have hb0 : b = [] := List.eq_nil_of_length_eq_zero (by omega)
      subst hb0
      simp only [List.append_nil] at hab
      rw [← hab]
      refine C.exit ?_
      refine Fin.th_exit ?_
      refine Fin.th_exit ?_
      refine Fin.blk_eq ?_
      refine Fin.th ?_
      refine C.region_seq ?_
      refine G.value rfl rfl rfl (Sure.move rfl) ?_
      refine G.value rfl rfl rfl (Sure.leq rfl rfl) ?_
      refine G.value rfl rfl rfl (Sure.assign rfl) ?_
      refine G.nil ?_
      refine C.ret ?_
      refine Fin.fn (Res.tmp rfl rfl) Split.nil ⟨?_, rfl⟩
      rw [show decide ((fewN (dl.map DeedD.v) : Int) ≤ 3000) = decide (fewN (dl.map DeedD.v) ≤ 3000) from decide_eq_decide.2 (by omega)]
def cleanK (k : Int) : Int := 1 + IntKind.u64.wrap k % 4
def cleanD (d : Deed) : Deed := if cleanK d.kind = 2 then ⟨2, 0, d.ino⟩ else ⟨cleanK d.kind, d.no, ino0⟩
theorem clean_spec (M : Mem) (p : Option Addr) (cap : Nat) (dl : List DeedD) (hd : RDeeds M p dl) (hl : dl.length ≤ 1000000) :
    Spec Tryz.prog 24 [.slice p dl.length cap] M [] (fun v M' H => RetDeeds ((dl.map DeedD.v).map cleanD) v M' H) := by
  refine Spec.of_code 42 Tryz.func24 rfl callable24 rfl rfl fun w => ?_
  refine C.region_seq ?_
  refine G.value rfl rfl rfl (Sure.assign rfl) ?_
  refine G.nil ?_
  refine C.region_seq ?_
  refine G.value rfl rfl rfl (Sure.assign rfl) ?_
  refine G.nil ?_
  refine C.seq ?_
  refine C.region_seq ?_
  refine G.value rfl rfl rfl (Sure.assign rfl) ?_
  refine G.nil ?_
  refine C.block ?_
  refine C.loop (fun k E M' H => ∃ (a b out : List DeedD) (v : Value), MLe M M' ∧ dl = a ++ b ∧ b.length = k ∧ out.map DeedD.v = (a.map DeedD.v).map cleanD ∧ (∀ d ∈ out, DOk M' d.d) ∧ Own 9 v out.length (out.map deedDL).flatten H ∧ E = [(0, .slice p dl.length cap), (3, v), (4, intV a.length)]) (dl.length) ?_ ?_
  · exact ⟨_, _, ⟨[], dl, [], _, MLe.refl _, rfl, rfl, rfl, by simp, Own.nil, rfl⟩, ⟨rfl, rfl, rfl, trivial⟩, [], Split.nil⟩
  · rintro k E M' H ⟨a, b, out, v, hle, hab, hk0, hout, hoo, hown, rfl⟩
    have hlen : dl.length = a.length + b.length := by rw [hab]; simp
    have hol : out.length = a.length := by have := congrArg List.length hout; simpa using this
    refine C.seq ?_
    refine C.region_seq ?_
    refine G.value rfl rfl rfl (Sure.move rfl) ?_
    refine G.value rfl rfl rfl (Sure.move rfl) ?_
    refine G.value rfl rfl rfl (Sure.len_slice rfl) ?_
    refine G.value rfl rfl rfl (Sure.lss rfl rfl) ?_
    refine G.nil ?_
    refine C.cond_dec rfl (fun hlt => ?_) (fun hlt => ?_)
    · cases b with
      | nil => simp at hlen hlt; omega
      | cons x b =>
        have hxm : x ∈ dl := by rw [hab]; simp
        have hw := u64_wrap_bd x.kind
        obtain ⟨q1, o1, c1, hq1, hrd0, hseg1⟩ := SlL.row (i := a.length) (e := deedDL x) (SlL.mono hd.1 hle) (by rw [hab]; simp)
        have hrdm := hrd0.resolve_right (by simp)
        have hdo := (hd.2 x hxm).mono hle
        have hse : seg c1 (o1 + a.length * 9 + 2) 7 = some (inoDL x.d) := seg_sub hseg1 (k := 2) (m := 7) (by omega)
        refine C.skip ?_
        refine Fin.th ?_
        refine C.seq ?_
        refine C.block ?_
        refine C.region_seq ?_
        refine G.value rfl rfl rfl (Sure.move rfl) ?_
        refine G.value rfl rfl rfl (Sure.move rfl) ?_
        refine G.value rfl rfl rfl (Sure.indexAddr (congrArg (fun q => some (Value.slice q dl.length cap)) hq1) rfl (by omega)) ?_
        refine G.value rfl rfl rfl (Sure.fieldAddr rfl) ?_
        refine G.value rfl rfl rfl (Sure.load rfl (Rd.m hrdm) (seg_one (k := 0) hseg1 rfl)) ?_
        refine G.value rfl rfl rfl (Sure.conv' rfl) ?_
        refine G.value rfl rfl rfl (Sure.rem rfl rfl (by omega) (by decide)) ?_
        refine G.value rfl rfl rfl (Sure.conv rfl (inK64 (by omega))) ?_
        refine G.value rfl rfl rfl (Sure.add rfl rfl (inK64 (by omega))) ?_
        refine G.value rfl rfl rfl (Sure.build rfl rfl) ?_
        refine G.dyn rfl rfl rfl ?_
        refine Dyn.allocAgg ?_
        intro b5
        refine G.dyn0 rfl rfl ?_
        refine Dyn.storeAgg rfl rfl pkx rfl rfl rfl ?_
        refine G.nil ?_
        refine C.seq ?_
        refine C.region_seq ?_
        refine G.value rfl rfl rfl (Sure.fieldAddr rfl) ?_
        refine G.value rfl rfl rfl (Sure.load rfl rdx rfl) ?_
        have hck : cleanK x.kind = 1 + IntKind.u64.wrap x.kind % 4 := rfl
        rw [← hck]
        have hcv : cleanD x.v = if cleanK x.kind = 2 then ⟨2, 0, x.d.x⟩ else ⟨cleanK x.kind, x.no, ino0⟩ := rfl
        generalize cleanK x.kind = ck at hck hcv
        refine G.value rfl rfl rfl (Sure.eql rfl rfl) ?_
        refine G.nil ?_
        refine C.cond_dec rfl (fun hk => ?_) (fun hk => ?_)
        · subst hk
          rw [if_pos rfl] at hcv
          refine C.region ?_
          refine G.value rfl rfl rfl (Sure.move rfl) ?_
          refine G.value rfl rfl rfl (Sure.move rfl) ?_
          refine G.value rfl rfl rfl (Sure.indexAddr (congrArg (fun q => some (Value.slice q dl.length cap)) hq1) rfl (by omega)) ?_
          refine G.value rfl rfl rfl (Sure.fieldAddr rfl) ?_
          refine G.value rfl rfl rfl (Sure.loadAgg rfl (Rd.m hrdm) hse) ?_
          refine G.value rfl rfl rfl (Sure.fieldAddr rfl) ?_
          refine G.dyn0 rfl rfl ?_
          refine Dyn.storeAgg rfl rfl pkx rfl rfl rfl ?_
          refine G.nil ?_
          refine Fin.th ?_
          refine C.region ?_
          refine G.value rfl rfl rfl (Sure.move rfl) ?_
          refine G.value rfl rfl rfl (Sure.loadAgg rfl rdx rfl) ?_
          refine G.dyn rfl rfl rfl ?_
          refine Dyn.buildSlice rfl rfl rfl (by simp [vcl]) (by decide) ?_
          intro b6
          refine G.dyn rfl rfl rfl ?_
          refine Dyn.append (fun k h => by cases h) rfl rfl rfl hown (.there (.there .all)) (m := 1) (news := deedDL ⟨2, 0, x.d⟩) ⟨rfl, fun _ => ⟨b6, 0, _, rfl, Rd.h0, rfl⟩⟩ (allOne_deed _) (by omega) (by omega) ?_
          intro v2 Hs2 hown2
          refine G.value rfl rfl rfl (Sure.assign rfl) ?_
          refine G.nil ?_
          refine Fin.blk ?_
          refine Fin.th ?_
          refine C.region ?_
          refine G.value rfl rfl rfl (Sure.move rfl) ?_
          refine G.value rfl rfl rfl (Sure.add rfl rfl (inK64 (by omega))) ?_
          refine G.value rfl rfl rfl (Sure.assign rfl) ?_
          refine G.nil ?_
          refine Fin.th ?_
          have hfl : ((out ++ [(⟨2, 0, x.d⟩ : DeedD)]).map deedDL).flatten = (out.map deedDL).flatten ++ deedDL ⟨2, 0, x.d⟩ := by simp
          refine ⟨b.length, _, _, by simp at hk0; omega, ⟨a ++ [x], b, out ++ [⟨2, 0, x.d⟩], v2, hle, by rw [hab]; simp, rfl, ?_, ?_, ?_, rfl⟩, ⟨rfl, rfl, by simp; rfl, trivial⟩, _, Split.one PickL.here⟩
          · rw [List.map_append, hout, List.map_append, List.map_append]
            congr 1
            show [_] = [cleanD x.v]
            rw [hcv]
            rfl
          · intro e he
            rcases List.mem_append.1 he with h | h
            · exact hoo e h
            · rw [List.mem_singleton.1 h]; exact hdo
          · rw [hfl, List.length_append]; exact hown2
        · rw [if_neg hk] at hcv
          refine C.region ?_
          refine G.value rfl rfl rfl (Sure.move rfl) ?_
          refine G.value rfl rfl rfl (Sure.move rfl) ?_
          refine G.value rfl rfl rfl (Sure.indexAddr (congrArg (fun q => some (Value.slice q dl.length cap)) hq1) rfl (by omega)) ?_
          refine G.value rfl rfl rfl (Sure.fieldAddr rfl) ?_
          refine G.value rfl rfl rfl (Sure.load rfl (Rd.m hrdm) (seg_one (k := 1) hseg1 rfl)) ?_
          refine G.value rfl rfl rfl (Sure.fieldAddr rfl) ?_
          refine G.dyn0 rfl rfl ?_
          refine Dyn.store rfl rfl pkx rfl rfl ?_
          refine G.nil ?_
          refine Fin.th ?_
          refine C.region ?_
          refine G.value rfl rfl rfl (Sure.move rfl) ?_
          refine G.value rfl rfl rfl (Sure.loadAgg rfl rdx rfl) ?_
          refine G.dyn rfl rfl rfl ?_
          refine Dyn.buildSlice rfl rfl rfl (by simp [vcl]) (by decide) ?_
          intro b6
          refine G.dyn rfl rfl rfl ?_
          refine Dyn.append (fun k h => by cases h) rfl rfl rfl hown (.there (.there .all)) (m := 1) (news := deedDL ⟨ck, x.no, inoD0⟩) ⟨rfl, fun _ => ⟨b6, 0, _, rfl, Rd.h0, rfl⟩⟩ (allOne_deed _) (by omega) (by omega) ?_
          intro v2 Hs2 hown2
          refine G.value rfl rfl rfl (Sure.assign rfl) ?_
          refine G.nil ?_
          refine Fin.blk ?_
          refine Fin.th ?_
          refine C.region ?_
          refine G.value rfl rfl rfl (Sure.move rfl) ?_
          refine G.value rfl rfl rfl (Sure.add rfl rfl (inK64 (by omega))) ?_
          refine G.value rfl rfl rfl (Sure.assign rfl) ?_
          refine G.nil ?_
          refine Fin.th ?_
          have hfl : ((out ++ [(⟨ck, x.no, inoD0⟩ : DeedD)]).map deedDL).flatten = (out.map deedDL).flatten ++ deedDL ⟨ck, x.no, inoD0⟩ := by simp
          refine ⟨b.length, _, _, by simp at hk0; omega, ⟨a ++ [x], b, out ++ [⟨ck, x.no, inoD0⟩], v2, hle, by rw [hab]; simp, rfl, ?_, ?_, ?_, rfl⟩, ⟨rfl, rfl, by simp; rfl, trivial⟩, _, Split.one PickL.here⟩
          · rw [List.map_append, hout, List.map_append, List.map_append]
            congr 1
            show [_] = [cleanD x.v]
            rw [hcv]
            rfl
          · intro e he
            rcases List.mem_append.1 he with h | h
            · exact hoo e h
            · rw [List.mem_singleton.1 h]; exact dOk0 _
          · rw [hfl, List.length_append]; exact hown2
    · have hb0 : b = [] := List.eq_nil_of_length_eq_zero (by omega)
      subst hb0
      simp only [List.append_nil] at hab
      refine C.exit ?_
      refine Fin.th_exit ?_
      refine Fin.th_exit ?_
      refine Fin.blk_eq ?_
      refine Fin.th ?_
      refine C.region_seq ?_
      refine G.value rfl rfl rfl (Sure.move rfl) ?_
      refine G.value rfl rfl rfl (Sure.assign rfl) ?_
      refine G.nil ?_
      refine C.donateOwn hown .all ?_
      rintro M3 p3 cap3 le3 rfl hs3
      refine C.ret ?_
      refine Fin.fn (Res.tmp rfl rfl) Split.nil ⟨rfl, out, p3, cap3, rfl, ⟨⟨?_, ?_⟩, fun d hd => (hoo d hd).mono le3⟩, by rw [hout, hab]⟩
      · intro e he; obtain ⟨x, _, rfl⟩ := List.mem_map.1 he; rfl
      · rw [List.length_map]; exact hs3
end Go.Proofs.YtaeeahcokiebdaaGreat

/-
  The walk of JournalAgain: clean deeds are whole and fit a write; opened again, a chip is as it was.
  Conditions: what is counted fits.
-/
namespace Go.Proofs.YtaeeahcokiebdaaGreat
set_option maxRecDepth 20000

/-- The numbers of a deed are Go's. -/
structure DeedIn (d : Deed) : Prop where
  kind : InR d.kind
  no : InR d.no
  ino : InR d.ino.no ∧ InR d.ino.kind ∧ InR d.ino.links ∧ InR d.ino.size
  ent : ∀ e ∈ d.ino.ents, InR e.no
  run : ∀ r ∈ d.ino.runs, InR r.fr ∧ InR r.ad ∧ InR r.cnt
theorem ent_mem_le {l : List Entry} {e : Entry} (h : e ∈ l) : 10 + e.name.size ≤ entsN l := by
  induction l with
  | nil => cases h
  | cons x l ih =>
    rw [entsN_cons]
    rcases List.mem_cons.1 h with rfl | h
    · omega
    · have := ih h; omega
theorem fewD_mem_le {l : List Deed} {d : Deed} (h : d ∈ l) : fewD d ≤ fewN l := by
  induction l with
  | nil => cases h
  | cons x l ih =>
    rw [fewN_cons]
    rcases List.mem_cons.1 h with rfl | h
    · omega
    · have := ih h; omega
theorem cleanK_bd (k : Int) : 1 ≤ cleanK k ∧ cleanK k ≤ 4 := by
  have := u64_wrap_bd k
  unfold cleanK
  omega
theorem clean_canon {d : Deed} (h : DeedIn d) (hf : fewD d ≤ 3000) : Canon (cleanD d) := by
  have hk := cleanK_bd d.kind
  unfold fewD at hf
  have hel := entsN_ge d.ino.ents
  unfold cleanD
  split
  · obtain ⟨h1, h2, h3, h4⟩ := h.ino
    refine .inr ⟨rfl, rfl, h1, h2, h3, h4, ?_, ?_, ?_, ?_, h.run⟩
    · show d.ino.tgt.size < _; omega
    · show d.ino.ents.length < _; omega
    · intro e he
      have := ent_mem_le (show e ∈ d.ino.ents from he)
      exact ⟨by omega, h.ent e he⟩
    · show d.ino.runs.length < _; omega
  · refine .inl ⟨?_, h.no, rfl⟩
    show cleanK d.kind = 1 ∨ cleanK d.kind = 3 ∨ cleanK d.kind = 4
    omega
theorem ents_len (l : List Entry) : (l.map entB).flatten.length + 10 * l.length ≤ 3 * entsN l := by
  induction l with
  | nil => simp [entsN]
  | cons e l ih =>
    rw [entsN_cons, List.map_cons, List.flatten_cons, List.length_append, entB_len, List.length_cons]
    omega
theorem runs_len (l : List Run) : (l.map runB).flatten.length = 24 * l.length := by
  induction l with
  | nil => rfl
  | cons r l ih =>
    rw [List.map_cons, List.flatten_cons, List.length_append, ih, List.length_cons]
    simp [runB, intsB_len]
    omega
theorem clean_len (d : Deed) : (deedB (cleanD d)).length ≤ 24 * fewD d := by
  have hk := cleanK_bd d.kind
  unfold cleanD
  split
  · have h1 : (deedB ⟨2, 0, d.ino⟩).length = 1 + (inoB d.ino).length := by simp [deedB]
    have h2 : (inoB d.ino).length = 32 + (4 + d.ino.tgt.size) + 4 + ((d.ino.ents.map entB).flatten).length + 4 + ((d.ino.runs.map runB).flatten).length := by simp [inoB, intsB_len]; omega
    have h3 := ents_len d.ino.ents
    have h4 := runs_len d.ino.runs
    unfold fewD
    omega
  · rename_i hne
    have h1 : (deedB ⟨cleanK d.kind, d.no, ino0⟩).length = 9 := by
      have : cleanK d.kind = 1 ∨ cleanK d.kind = 3 ∨ cleanK d.kind = 4 := by omega
      simp [deedB, this]
    unfold fewD
    omega
theorem cleans_len (l : List Deed) : (deedsB (l.map cleanD)).length ≤ 24 * fewN l := by
  induction l with
  | nil => simp [deedsB]
  | cons d l ih =>
    have h1 : deedsB ((d :: l).map cleanD) = deedB (cleanD d) ++ deedsB (l.map cleanD) := by simp [deedsB]
    have := clean_len d
    rw [h1, List.length_append, fewN_cons]
    omega
theorem cleans_canon {l : List Deed} (h : ∀ d ∈ l, DeedIn d) (hf : fewN l ≤ 3000) : ∀ d ∈ l.map cleanD, Canon d := by
  intro d hd
  obtain ⟨x, hx, rfl⟩ := List.mem_map.1 hd
  exact clean_canon (h x hx) (by have := fewD_mem_le hx; omega)
theorem few_length (l : List Deed) : 10 * l.length ≤ fewN l := by
  induction l with
  | nil => simp
  | cons d l ih => rw [fewN_cons, List.length_cons]; unfold fewD; omega
/-- A list of deeds among lists. -/
structure DlD where
  dl : List DeedD
  p : Option Addr
  cap : Nat
abbrev dlL (x : DlD) : List Value := [.slice x.p x.dl.length x.cap]
/-- Lists of deeds as they lie in memory. -/
structure RDls (M : Mem) (p : Option Addr) (ll : List DlD) : Prop where
  sl : SlL M [] 1 p (ll.map dlL)
  rd : ∀ x ∈ ll, RDeeds M x.p x.dl
  rg : ∀ x ∈ ll, ∀ d ∈ x.dl.map DeedD.v, DeedIn d
  few : ∀ x ∈ ll, fewN (x.dl.map DeedD.v) ≤ 1000000000000
theorem again_law (M : Mem) (p : Option Addr) (cap : Nat) (ll : List DlD) (n : Int) (hr : RDls M p ll) :
    Spec Tryz.prog 4 [.slice p ll.length cap, intV n] M [] (fun v _ _ => v = .bool true) := by
  refine Spec.of_code 134 Tryz.func4 rfl callable4 rfl rfl fun w => ?_
  refine C.region_seq ?_
  refine G.value rfl rfl rfl (Sure.assign rfl) ?_
  refine G.nil ?_
  refine C.region_seq ?_
  refine G.call rfl rfl rfl rfl rfl rfl (wide_spec M) (Split.nil) ?_
  rintro _ M1 _ le1 ⟨rfl, rfl⟩
  refine G.call rfl rfl rfl rfl rfl rfl (pw_new_spec M1) (Split.nil) ?_
  rintro _ M2 _ le2 ⟨pb, rfl, rfl⟩
  refine G.call rfl rfl rfl rfl rfl rfl (chip_new M2 geoW pb geoW_ok) (Split.cons .here Split.nil) ?_
  rintro _ M3 _ le3 ⟨ad, rfl, rfl, hok, hal⟩
  refine G.value rfl rfl rfl (Sure.move rfl) ?_
  refine G.value rfl rfl rfl (Sure.extract rfl rfl) ?_
  refine G.value rfl rfl rfl (Sure.extract rfl rfl) ?_
  refine G.value rfl rfl rfl (Sure.assign rfl) ?_
  refine G.value rfl rfl rfl (Sure.assign rfl) ?_
  refine G.nil ?_
  refine C.seq ?_
  refine C.region_seq ?_
  refine G.call rfl rfl rfl rfl rfl rfl (awake17_spec M3) (Split.nil) ?_
  rintro _ M4 _ le4 ⟨rfl, rfl⟩
  refine G.value rfl rfl rfl (Sure.not rfl) ?_
  refine G.value rfl rfl rfl (Sure.move rfl) ?_
  refine G.value rfl rfl rfl (Sure.move rfl) ?_
  refine G.value rfl rfl rfl (ptr_eq_f rfl rfl) ?_
  refine G.value rfl rfl rfl (Sure.pick_false rfl rfl) ?_
  refine G.nil ?_
  refine C.cond_false rfl ?_
  refine C.skip ?_
  refine Fin.th ?_
  refine C.region_seq ?_
  refine G.value rfl rfl rfl (Sure.move rfl) ?_
  refine G.call rfl rfl rfl rfl rfl rfl (format_live M4 ad _ hok hal) (Split.one .here) ?_
  rintro _ M5 _ le5 ⟨jb, s, ch, rfl, hsv, hso, hlv, hcg, _, rfl⟩
  refine G.value rfl rfl rfl (Sure.move rfl) ?_
  refine G.value rfl rfl rfl (Sure.extract rfl rfl) ?_
  refine G.value rfl rfl rfl (Sure.extract rfl rfl) ?_
  refine G.value rfl rfl rfl (Sure.assign rfl) ?_
  refine G.value rfl rfl rfl (Sure.assign rfl) ?_
  refine G.nil ?_
  refine C.seq ?_
  refine C.region_seq ?_
  refine G.value rfl rfl rfl (Sure.move rfl) ?_
  refine G.value rfl rfl rfl ((Sure.neq rfl rfl).to_f (by decide)) ?_
  refine G.value rfl rfl rfl (Sure.move rfl) ?_
  refine G.value rfl rfl rfl (Sure.move rfl) ?_
  refine G.value rfl rfl rfl (ptr_eq_f rfl rfl) ?_
  refine G.value rfl rfl rfl (Sure.pick_false rfl rfl) ?_
  refine G.nil ?_
  refine C.cond_false rfl ?_
  refine C.skip ?_
  refine Fin.th ?_
  refine C.seq ?_
  refine C.region_seq ?_
  refine G.value rfl rfl rfl (Sure.assign rfl) ?_
  refine G.nil ?_
  rw [← hsv] at hlv
  have hjep : fmtJ.epoch ≤ 1 + ((0 : Nat) : Int) := by decide
  generalize fmtJ = j at hlv hjep ⊢
  have hle0 := le1.trans (le2.trans (le3.trans (le4.trans le5)))
  refine C.cutTop (fun E M' H => ∃ (ch : Chip) (j : Jr) (s : StaD), MLe M M' ∧ Live ad ch j s.v ∧ ch.g = geoW ∧ SOk M' s ∧ esub [(1, intV n), (5, ptr ad.cb), (7, ptr jb)] E ∧ ∃ R, Split ((jb, .cells (jrL ad.cb j s)) :: chipH ad ch) H R) ?_ ?_
  · refine C.block ?_
    refine C.loop (fun k E M' H => ∃ (i : Nat) (ch : Chip) (j : Jr) (s : StaD), MLe M M' ∧ i + k = ll.length ∧ i ≤ 10 ∧ Live ad ch j s.v ∧ ch.g = geoW ∧ j.epoch ≤ 1 + (i : Int) ∧ SOk M' s ∧ E = [(0, .slice p ll.length cap), (1, intV n), (5, ptr ad.cb), (7, ptr jb), (9, intV i)] ∧ H = (jb, .cells (jrL ad.cb j s)) :: chipH ad ch) (ll.length) ?_ ?_
    · exact ⟨_, _, ⟨0, ch, j, s, hle0, by omega, by omega, hlv, hcg, hjep, hso, rfl, rfl⟩, ⟨rfl, rfl, rfl, rfl, rfl, trivial⟩, [], Split.cons .here (Split.one .all)⟩
    · clear hso hlv hcg hsv hjep
      rintro k E M' H ⟨i, ch, j, s, hle, hik, hi10, hlv, hcg, hep, hso, rfl, rfl⟩
      rcases Nat.lt_or_ge i ll.length with hlt | hge
      · refine C.seq ?_
        refine C.region_seq ?_
        refine G.value rfl rfl rfl (Sure.move rfl) ?_
        refine G.value rfl rfl rfl (Sure.move rfl) ?_
        refine G.value rfl rfl rfl (Sure.len_slice rfl) ?_
        refine G.value rfl rfl rfl ((Sure.lss rfl rfl).to_t (by omega)) ?_
        refine G.value rfl rfl rfl (Sure.move rfl) ?_
        refine G.value rfl rfl rfl (Sure.move rfl) ?_
        refine G.value rfl rfl rfl (Sure.lss rfl rfl) ?_
        refine G.value rfl rfl rfl (Sure.pick_true rfl rfl) ?_
        refine G.nil ?_
        refine C.cond_dec rfl (fun h10 => ?_) (fun h10 => ?_)
        · have hx : ll[i] ∈ ll := List.getElem_mem hlt
          have hxe : ll[i]? = some ll[i] := List.getElem?_eq_getElem hlt
          generalize ll[i] = x at hx hxe
          have hxr := (hr.rd x hx).mono hle
          have hxf := hr.few x hx
          have hxg := hr.rg x hx
          obtain ⟨q1, o1, c1, hq1, hrd0, hseg1⟩ := SlL.row (i := i) (e := dlL x) (SlL.mono hr.sl hle) (by rw [List.getElem?_map, hxe]; rfl)
          have hrdm := hrd0.resolve_right (by simp)
          refine C.skip ?_
          refine Fin.th ?_
          refine C.seq ?_
          refine C.block ?_
          refine C.seq ?_
          refine C.region_seq ?_
          refine G.value rfl rfl rfl (Sure.move rfl) ?_
          refine G.value rfl rfl rfl (Sure.move rfl) ?_
          refine G.value rfl rfl rfl (Sure.indexAddr (congrArg (fun q => some (Value.slice q ll.length cap)) hq1) rfl (by omega)) ?_
          refine G.value rfl rfl rfl (Sure.load rfl (Rd.m hrdm) (seg_one (k := 0) hseg1 rfl)) ?_
          refine G.call rfl rfl rfl rfl rfl rfl (few_spec M' x.p x.cap x.dl hxr hxf) (Split.nil) ?_
          rintro _ M6 _ le6 ⟨rfl, rfl⟩
          by_cases hfew : fewN (x.dl.map DeedD.v) ≤ 3000
          · rw [decide_eq_true hfew]
            refine G.value rfl rfl rfl (Sure.not rfl) ?_
            have hln := few_length (x.dl.map DeedD.v)
            rw [List.length_map] at hln
            refine G.nil ?_
            refine C.cond_false rfl ?_
            refine C.skip ?_
            refine Fin.th ?_
            refine C.region_seq ?_
            refine G.value rfl rfl rfl (Sure.move rfl) ?_
            refine G.value rfl rfl rfl (Sure.move rfl) ?_
            refine G.value rfl rfl rfl (Sure.move rfl) ?_
            refine G.value rfl rfl rfl (Sure.indexAddr (congrArg (fun q => some (Value.slice q ll.length cap)) hq1) rfl (by omega)) ?_
            refine G.value rfl rfl rfl (Sure.load rfl (Rd.m (le6 _ _ hrdm)) (seg_one (k := 0) hseg1 rfl)) ?_
            refine G.call rfl rfl rfl rfl rfl rfl (clean_spec M6 x.p x.cap x.dl (hxr.mono le6) (by omega)) (Split.nil) ?_
            rintro _ M7 _ le7 ⟨rfl, dl, pc, cc, rfl, hrc, hvc⟩
            have hcl := commit_live M7 jb ad ch j s pc cc dl hlv ((hso.mono le6).mono le7) hrc (by rw [hvc]; exact cleans_canon hxg hfew) (by rw [hvc]; have := cleans_len (x.dl.map DeedD.v); omega) (by omega)
            refine G.call rfl rfl rfl rfl rfl rfl (hcl) (Split.one .all) ?_
            rintro _ M8 _ le8 ⟨ch', j', s', rfl, hso', hlv', hg', hep', hres⟩
            have hle' := hle.trans (le6.trans (le7.trans le8))
            rcases hres with ⟨rfl, _⟩ | ⟨rfl, _⟩
            · refine G.value rfl rfl rfl (Sure.assign rfl) ?_
              refine G.nil ?_
              refine C.region_seq ?_
              refine G.value rfl rfl rfl (Sure.move rfl) ?_
              refine G.value rfl rfl rfl ((Sure.neq rfl rfl).to_f (by decide)) ?_
              refine G.value rfl rfl rfl (Sure.move rfl) ?_
              refine G.skip rfl rfl rfl ?_
              refine G.skip rfl rfl rfl ?_
              refine G.value rfl rfl rfl (Sure.pick_false rfl rfl) ?_
              refine G.nil ?_
              refine C.cond_false rfl ?_
              refine C.skip ?_
              refine Fin.blk ?_
              refine Fin.th ?_
              refine C.region ?_
              refine G.value rfl rfl rfl (Sure.move rfl) ?_
              refine G.value rfl rfl rfl (Sure.add rfl rfl (inK64 (by omega))) ?_
              refine G.value rfl rfl rfl (Sure.assign rfl) ?_
              refine G.nil ?_
              refine Fin.th ?_
              exact ⟨k - 1, _, _, by omega, ⟨i + 1, ch', j', s', hle', by omega, by omega, hlv', hg'.trans hcg, by omega, hso', rfl, rfl⟩, ⟨rfl, rfl, rfl, rfl, rfl, trivial⟩, [], Split.cons .here (Split.one .all)⟩
            · skip
              refine G.value rfl rfl rfl (Sure.assign rfl) ?_
              refine G.nil ?_
              refine C.region_seq ?_
              refine G.value rfl rfl rfl (Sure.move rfl) ?_
              refine G.value rfl rfl rfl ((Sure.neq rfl rfl).to_t (by decide)) ?_
              refine G.value rfl rfl rfl (Sure.move rfl) ?_
              refine G.value rfl rfl rfl (Sure.move rfl) ?_
              refine G.value rfl rfl rfl ((Sure.neq rfl rfl).to_f (by decide)) ?_
              refine G.value rfl rfl rfl (Sure.pick_true rfl rfl) ?_
              refine G.nil ?_
              refine C.cond_false rfl ?_
              refine C.skip ?_
              refine Fin.blk ?_
              refine Fin.th ?_
              refine C.region ?_
              refine G.value rfl rfl rfl (Sure.move rfl) ?_
              refine G.value rfl rfl rfl (Sure.add rfl rfl (inK64 (by omega))) ?_
              refine G.value rfl rfl rfl (Sure.assign rfl) ?_
              refine G.nil ?_
              refine Fin.th ?_
              exact ⟨k - 1, _, _, by omega, ⟨i + 1, ch', j', s', hle', by omega, by omega, hlv', hg'.trans hcg, by omega, hso', rfl, rfl⟩, ⟨rfl, rfl, rfl, rfl, rfl, trivial⟩, [], Split.cons .here (Split.one .all)⟩
          · skip
            rw [decide_eq_false hfew]
            refine G.value rfl rfl rfl (Sure.not rfl) ?_
            refine G.nil ?_
            refine C.cond_true rfl ?_
            refine C.region_seq ?_
            refine G.value rfl rfl rfl (Sure.assign rfl) ?_
            refine G.nil ?_
            refine C.ret ?_
            refine Fin.th_ret ?_
            refine Fin.blk_ret ?_
            refine Fin.th_ret ?_
            refine Fin.th_ret ?_
            refine Fin.blk_ret ?_
            refine Fin.th_ret ?_
            exact Fin.fn (Res.tmp rfl rfl) Split.nil rfl
        · refine C.exit ?_
          refine Fin.th_exit ?_
          refine Fin.th_exit ?_
          refine Fin.blk_eq ?_
          refine Fin.th ?_
          exact ⟨ch, j, s, hle, hlv, hcg, hso, ⟨rfl, rfl, rfl, trivial⟩, [], Split.cons .here (Split.one .all)⟩
      · skip
        refine C.seq ?_
        refine C.region_seq ?_
        refine G.value rfl rfl rfl (Sure.move rfl) ?_
        refine G.value rfl rfl rfl (Sure.move rfl) ?_
        refine G.value rfl rfl rfl (Sure.len_slice rfl) ?_
        refine G.value rfl rfl rfl ((Sure.lss rfl rfl).to_f (by omega)) ?_
        refine G.value rfl rfl rfl (Sure.move rfl) ?_
        refine G.skip rfl rfl rfl ?_
        refine G.skip rfl rfl rfl ?_
        refine G.value rfl rfl rfl (Sure.pick_false rfl rfl) ?_
        refine G.nil ?_
        refine C.cond_false rfl ?_
        refine C.exit ?_
        refine Fin.th_exit ?_
        refine Fin.th_exit ?_
        refine Fin.blk_eq ?_
        refine Fin.th ?_
        exact ⟨ch, j, s, hle, hlv, hcg, hso, ⟨rfl, rfl, rfl, trivial⟩, [], Split.cons .here (Split.one .all)⟩
  · clear hso hlv hcg hsv hjep
    rintro E M6 H ⟨ch, j, s, hle, hlv, hcg, hso, hsub, R, hspl⟩
    refine C.weak hsub (C.sub hspl ?_)
    clear hspl hsub
    have hchl := hlv.ok.len
    rw [hcg] at hchl
    have hchl2 : ch.b.length = 16384 := by
      have h1 : geoW.sectors * geoW.sector = 16384 := by decide
      omega
    have hsm := hlv.small
    have hstk : StaOk s.v := staOk_small (by omega)
    refine C.region_seq ?_
    refine G.value rfl rfl rfl (Sure.assign rfl) ?_
    refine G.nil ?_
    refine C.region_seq ?_
    refine G.value rfl rfl rfl (Sure.move rfl) ?_
    refine G.value rfl rfl rfl (Sure.move rfl) ?_
    refine G.call rfl rfl rfl rfl rfl rfl (read_spec M6 ad ch 0 16384 hlv.ok (by omega)) (Split.one (.there .all)) ?_
    rintro _ M7 _ le7 ⟨rfl, p1, c1, rfl, hb1⟩
    have hbl : (List.take 16384 (List.drop 0 ch.b)).length = 16384 := by simp; omega
    generalize hbs : List.take 16384 (List.drop 0 ch.b) = bs at hb1 hbl
    have hwn := u64_wrap_bd n
    obtain ⟨m, hm⟩ : ∃ m : Nat, 1 + IntKind.u64.wrap n % 4 = m := ⟨(1 + IntKind.u64.wrap n % 4).toNat, by omega⟩
    have hm2 : 1 ≤ m ∧ m ≤ 4 := by omega
    refine G.value rfl rfl rfl (Sure.move rfl) ?_
    refine G.value rfl rfl rfl (Sure.extract rfl rfl) ?_
    refine G.value rfl rfl rfl (Sure.extract rfl rfl) ?_
    refine G.value rfl rfl rfl (Sure.assign rfl) ?_
    refine G.value rfl rfl rfl (Sure.assign rfl) ?_
    refine G.nil ?_
    refine C.seq ?_
    refine C.region_seq ?_
    refine G.value rfl rfl rfl (Sure.assign rfl) ?_
    refine G.nil ?_
    refine C.block ?_
    refine C.loop (fun k E M' H => ∃ i : Nat, MLe M7 M' ∧ i + k = m ∧ E = [(1, intV n), (5, ptr ad.cb), (7, ptr jb), (11, intV 16384), (12, .slice p1 16384 c1), (14, intV i)] ∧ H = (jb, .cells (jrL ad.cb j s)) :: chipH ad ch) (m) ?_ ?_
    · exact ⟨_, _, ⟨0, MLe.refl _, by omega, rfl, rfl⟩, ⟨rfl, rfl, rfl, rfl, rfl, rfl, trivial⟩, [], Split.cons pkx (Split.one .all)⟩
    · rintro k E M' H ⟨i, hle7, hik, rfl, rfl⟩
      refine C.seq ?_
      refine C.region_seq ?_
      refine G.value rfl rfl rfl (Sure.move rfl) ?_
      refine G.value rfl rfl rfl (Sure.move rfl) ?_
      refine G.value rfl rfl rfl (Sure.conv' rfl) ?_
      refine G.value rfl rfl rfl (Sure.rem rfl rfl (by omega) (by decide)) ?_
      refine G.value rfl rfl rfl (Sure.conv rfl (inK64 (by omega))) ?_
      refine G.value rfl rfl rfl (Sure.add rfl rfl (inK64 (by omega))) ?_
      refine G.value rfl rfl rfl (Sure.lss rfl rfl) ?_
      refine G.nil ?_
      refine C.cond_dec rfl (fun hlt => ?_) (fun hlt => ?_)
      · refine C.skip ?_
        refine Fin.th ?_
        refine C.seq ?_
        refine C.block ?_
        refine C.region_seq ?_
        refine G.value rfl rfl rfl (Sure.move rfl) ?_
        refine G.call rfl rfl rfl rfl rfl rfl (open_live M' ad ch j s.v hlv) (Split.one (.there .all)) ?_
        rintro _ M8 _ le8 ⟨ob, s5, rfl, hs5, hso5, rfl⟩
        have hlv5 : Live ad ch j s5.v := by rw [hs5]; exact hlv
        refine G.value rfl rfl rfl (Sure.move rfl) ?_
        refine G.value rfl rfl rfl (Sure.extract rfl rfl) ?_
        refine G.value rfl rfl rfl (Sure.extract rfl rfl) ?_
        refine G.value rfl rfl rfl (Sure.assign rfl) ?_
        refine G.value rfl rfl rfl (Sure.assign rfl) ?_
        refine G.nil ?_
        refine C.region_seq ?_
        refine G.value rfl rfl rfl (Sure.move rfl) ?_
        refine G.value rfl rfl rfl ((Sure.neq rfl rfl).to_f (by decide)) ?_
        refine G.value rfl rfl rfl (Sure.move rfl) ?_
        refine G.value rfl rfl rfl (Sure.move rfl) ?_
        refine G.value rfl rfl rfl (ptr_eq_f rfl rfl) ?_
        refine G.value rfl rfl rfl (Sure.pick_false rfl rfl) ?_
        refine G.value rfl rfl rfl (Sure.move rfl) ?_
        refine G.value rfl rfl rfl (Sure.move rfl) ?_
        refine G.call rfl rfl rfl rfl rfl rfl (jstate_live M8 ob ad ch j s5 hlv5 hso5) (Split.cons pkx Split.nil) ?_
        rintro _ M9 _ le9 ⟨rfl, -, s6, hs6, rfl, hso6⟩
        refine G.value rfl rfl rfl (Sure.move rfl) ?_
        refine G.call rfl rfl rfl rfl rfl rfl (jstate_live M9 jb ad ch j s hlv ((hso.mono (le7.trans hle7)).mono (le8.trans le9))) (Split.cons pkx Split.nil) ?_
        rintro _ M10 _ le10 ⟨rfl, -, s7, hs7, rfl, hso7⟩
        refine G.call rfl rfl rfl rfl rfl rfl (state_spec M10 s6 s7 (hso6.mono le10) hso7 (by rw [hs6, hs5]; exact hstk)) (Split.nil) ?_
        rintro _ M11 _ le11 ⟨rfl, rfl⟩
        rw [show staEq s6.v s7.v = true from by rw [hs6, hs5, hs7]; exact staEq_refl _]
        refine G.value rfl rfl rfl (Sure.not rfl) ?_
        refine G.value rfl rfl rfl (Sure.pick_false rfl rfl) ?_
        refine G.value rfl rfl rfl (Sure.move rfl) ?_
        refine G.value rfl rfl rfl (Sure.move rfl) ?_
        refine G.call rfl rfl rfl rfl rfl rfl (epoch_spec M11 ob ad.cb j s5) (Split.cons pkx Split.nil) ?_
        rintro _ M12 _ le12 ⟨rfl, rfl⟩
        refine G.value rfl rfl rfl (Sure.move rfl) ?_
        refine G.call rfl rfl rfl rfl rfl rfl (epoch_spec M12 jb ad.cb j s) (Split.cons pkx Split.nil) ?_
        rintro _ M13 _ le13 ⟨rfl, rfl⟩
        refine G.value rfl rfl rfl ((Sure.neq rfl rfl).to_f (by simp)) ?_
        refine G.value rfl rfl rfl (Sure.pick_false rfl rfl) ?_
        refine G.value rfl rfl rfl (Sure.move rfl) ?_
        refine G.value rfl rfl rfl (Sure.move rfl) ?_
        refine G.call rfl rfl rfl rfl rfl rfl (half_spec M13 ob ad.cb j s5) (Split.cons pkx Split.nil) ?_
        rintro _ M14 _ le14 ⟨rfl, rfl⟩
        refine G.value rfl rfl rfl (Sure.move rfl) ?_
        refine G.call rfl rfl rfl rfl rfl rfl (half_spec M14 jb ad.cb j s) (Split.cons pkx Split.nil) ?_
        rintro _ M15 _ le15 ⟨rfl, rfl⟩
        refine G.value rfl rfl rfl ((Sure.neq rfl rfl).to_f (by simp)) ?_
        refine G.value rfl rfl rfl (Sure.pick_false rfl rfl) ?_
        refine G.nil ?_
        refine C.cond_false rfl ?_
        refine C.skip ?_
        refine Fin.blk ?_
        refine Fin.th ?_
        refine C.region ?_
        refine G.value rfl rfl rfl (Sure.move rfl) ?_
        refine G.value rfl rfl rfl (Sure.add rfl rfl (inK64 (by omega))) ?_
        refine G.value rfl rfl rfl (Sure.assign rfl) ?_
        refine G.nil ?_
        refine Fin.th ?_
        refine ⟨k - 1, _, _, by omega, ⟨i + 1, hle7.trans (le8.trans (le9.trans (le10.trans (le11.trans (le12.trans (le13.trans (le14.trans le15))))))), by omega, rfl, rfl⟩, ⟨rfl, rfl, rfl, rfl, rfl, rfl, trivial⟩, [(ob, .cells (jrL ad.cb j s5))], ?_⟩
        exact Split.cons .here (Split.one (.there .all))
      · refine C.exit ?_
        refine Fin.th_exit ?_
        refine Fin.th_exit ?_
        refine Fin.blk_eq ?_
        refine Fin.th ?_
        refine C.region_seq ?_
        refine G.value rfl rfl rfl (Sure.move rfl) ?_
        refine G.value rfl rfl rfl (Sure.move rfl) ?_
        refine G.call rfl rfl rfl rfl rfl rfl (read_spec M' ad ch 0 16384 hlv.ok (by omega)) (Split.one (.there .all)) ?_
        rintro _ M8 _ le8 ⟨rfl, p2, c2, rfl, hb2⟩
        rw [hbs] at hb2
        have hby := bytes_spec M8 p1 p2 c1 c2 bs bs ((hb1.mono hle7).mono le8).1 hb2.1
        rw [hbl] at hby
        refine G.value rfl rfl rfl (Sure.move rfl) ?_
        refine G.value rfl rfl rfl (Sure.extract rfl rfl) ?_
        refine G.value rfl rfl rfl (Sure.extract rfl rfl) ?_
        refine G.value rfl rfl rfl (Sure.assign rfl) ?_
        refine G.value rfl rfl rfl (Sure.assign rfl) ?_
        refine G.nil ?_
        refine C.region_seq ?_
        refine G.value rfl rfl rfl (Sure.move rfl) ?_
        refine G.value rfl rfl rfl (Sure.move rfl) ?_
        refine G.call rfl rfl rfl rfl rfl rfl (hby) (Split.nil) ?_
        rintro _ M9 _ le9 ⟨rfl, rfl⟩
        rw [show decide (bs = bs) = true from by simp]
        refine G.value rfl rfl rfl (Sure.move rfl) ?_
        refine G.value rfl rfl rfl (Sure.move rfl) ?_
        refine G.value rfl rfl rfl (Sure.len_slice rfl) ?_
        refine G.value rfl rfl rfl (Sure.move rfl) ?_
        refine G.value rfl rfl rfl (Sure.eql rfl rfl) ?_
        refine G.value rfl rfl rfl (Sure.pick_true rfl rfl) ?_
        refine G.value rfl rfl rfl (Sure.assign rfl) ?_
        refine G.nil ?_
        refine C.ret ?_
        exact Fin.fn (Res.tmp rfl rfl) Split.nil (by simp)
end Go.Proofs.YtaeeahcokiebdaaGreat

/-
  Deeds among a law's arguments: what the reading of them gives.
  Conditions: none but those of the reading.
-/
namespace Go.Proofs.YtaeeahcokiebdaaGreat
open Go.ChangeShapes Go.WideShapes Go.ChangeAt Go.RowKit
set_option maxRecDepth 20000

section
variable {H : Type} {enc : TypeId × Value → H} {P : Program} {W : World} {spare : Nat → Bool} {held : Bool}
theorem bulkAll_mem {d : DataW H} {l : List (DataW H)} (h : d ∈ l) : Rows.uptoBulk d ≤ Rows.uptoBulkAll l := by
  induction l with
  | nil => cases h
  | cons x r ih =>
    simp only [Rows.uptoBulkAll]
    rcases List.mem_cons.1 h with rfl | e
    · omega
    · have := ih e; omega
theorem cell_mem {a : Addr} {v : Value} (h : W.cell? a = some v) : a.spot = Option.none ∧ ∃ c, memOf W a.block = some c ∧ c[a.off]? = some v := by
  unfold World.cell? at h
  split at h
  · rename_i c T fz e
    split at h
    · cases h
    · rename_i hs
      refine ⟨by simpa using hs, c.toList, ?_, by simpa using h⟩
      unfold memOf
      rw [e]
  · cases h
theorem addr_add_block (a : Addr) (i : Nat) : (a.add i).block = a.block := by unfold Addr.add; split <;> rfl
theorem addr_add_off (a : Addr) (i : Nat) : (a.add i).off = a.off + i := by
  unfold Addr.add
  split
  · rename_i h; rw [h]; rfl
  · rfl
theorem cells_mem {a : Addr} {n : Nat} {cs : List Value} (h : W.cells? 0 a n = some cs) (hn : 0 < n) :
    a.spot = Option.none ∧ ∃ c, memOf W a.block = some c ∧ cs = (c.drop a.off).take n ∧ a.off + n ≤ c.length ∧ cs.length = n := by
  obtain ⟨_, hl, hc⟩ := World.cells?_some h
  have h0 := hc 0 hn
  have hz : a.add 0 = a := rfl
  rw [hz, List.getElem?_eq_getElem (by omega)] at h0
  obtain ⟨hs, c, hm, _⟩ := cell_mem h0
  have hall : ∀ i, i < n → c[a.off + i]? = cs[i]? := by
    intro i hi
    have h1 := hc i hi
    rw [List.getElem?_eq_getElem (show i < cs.length by omega)] at h1
    obtain ⟨_, c', hm', h2⟩ := cell_mem h1
    rw [addr_add_block, hm] at hm'
    injection hm' with hm'
    subst hm'
    rw [addr_add_off] at h2
    rw [h2, List.getElem?_eq_getElem (show i < cs.length by omega)]
  have hlast := hall (n - 1) (by omega)
  rw [List.getElem?_eq_getElem (show n - 1 < cs.length by omega)] at hlast
  have hlt := (List.getElem?_eq_some_iff.1 hlast).1
  refine ⟨hs, c, hm, ?_, by omega, hl⟩
  apply List.ext_getElem?
  intro i
  by_cases hi : i < n
  · rw [← hall i hi, List.getElem?_take_of_lt hi, List.getElem?_drop]
  · rw [List.getElem?_eq_none (by omega), List.getElem?_eq_none (by simp; omega)]
/-- A slice, its elements by what they are. -/
theorem open_list {α : Type} [Inhabited α] {t e : TypeId} {sz fuel : Nat} {cs : List Value} {x : DataW H × List MemPlace} (cell : α → List Value) (ok : α → Prop) (meas : α → Nat)
    (ht : P.underlying t = some (.slice e)) (hsz : P.cellsOf e = sz) (h0 : 0 < sz)
    (hel : ∀ n row y, DataW.trod enc P W 0 spare held n e row = some y → ∃ a, row = cell a ∧ ok a ∧ meas a ≤ Rows.uptoBulk y.1)
    (h : DataW.trod enc P W 0 spare held fuel t cs = some x) :
    ∃ (la : List α) (p : Option Addr) (cap : Nat), cs = [.slice p la.length cap] ∧ SlL (memOf W) [] sz p (la.map cell) ∧ (∀ a ∈ la, ok a) ∧ (la.map meas).sum ≤ Rows.uptoBulk x.1 := by
  rcases DataW.trod_slice ht h with ⟨rfl, rfl⟩ | ⟨a, len, cap, elems, rest, n, _, rfl, rfl, hb, hl, hm, hlen, hel', _, _⟩
  · exact ⟨[], Option.none, 0, rfl, ⟨by simp, Sl.empty⟩, by simp, by simp⟩
  · have hone : ∀ i, i < len → ∃ z : α, ∃ y, elems[i]? = some y ∧ W.cells? 0 (a.add (i * sz)) sz = some (cell z) ∧ ok z ∧ meas z ≤ Rows.uptoBulk y.1 := by
      intro i hi
      have h1 := hel' i hi
      rw [hsz, List.getElem?_eq_getElem (show i < elems.length by omega)] at h1
      obtain ⟨row, h2, h3⟩ := Option.bind_eq_some_iff.1 h1
      obtain ⟨z, rfl, h4, h5⟩ := hel n row _ h3
      exact ⟨z, _, List.getElem?_eq_getElem _, h2, h4, h5⟩
    have hf : ∃ f : Nat → α, ∀ i, i < len → ∃ y, elems[i]? = some y ∧ W.cells? 0 (a.add (i * sz)) sz = some (cell (f i)) ∧ ok (f i) ∧ meas (f i) ≤ Rows.uptoBulk y.1 := by
      classical
      refine ⟨fun i => if hi : i < len then Classical.choose (hone i hi) else default, fun i hi => ?_⟩
      simp only [dif_pos hi]
      exact Classical.choose_spec (hone i hi)
    obtain ⟨f, hf⟩ := hf
    refine ⟨(List.range len).map f, some a, cap, by simp, ⟨?_, ?_⟩, ?_, ?_⟩
    · intro r hr
      simp only [List.mem_map, List.mem_range] at hr
      obtain ⟨z, ⟨i, hi, rfl⟩, rfl⟩ := hr
      obtain ⟨y, _, h2, _⟩ := hf i hi
      exact (cells_mem h2 h0).2.choose_spec.2.2.2
    · have hrows : ∀ m, m ≤ len → 0 < m → a.spot = Option.none ∧ ∃ c, memOf W a.block = some c ∧ seg c a.off (m * sz) = some (((List.range m).map f).map cell).flatten := by
        intro m
        induction m with
        | zero => intro _ h; omega
        | succ m ih =>
          intro hm1 _
          obtain ⟨y, _, h2, _⟩ := hf m (by omega)
          obtain ⟨hs1, c1, hc1, hr1, hr2, hr3⟩ := cells_mem h2 h0
          rw [addr_add_block] at hc1
          rw [addr_add_off] at hr1 hr2
          have hfl : (((List.range (m + 1)).map f).map cell).flatten = (((List.range m).map f).map cell).flatten ++ cell (f m) := by rw [List.range_succ]; simp
          by_cases h0m : m = 0
          · subst h0m
            obtain ⟨y, _, h2, _⟩ := hf 0 (by omega)
            obtain ⟨hs2, _⟩ := cells_mem h2 h0
            have hz : a.add (0 * sz) = a := by rw [Nat.zero_mul]; rfl
            rw [hz] at hs2
            refine ⟨hs2, c1, hc1, ?_⟩
            rw [hfl]
            unfold seg
            rw [takeN_eq (by simp; omega)]
            rw [hr1]
            simp
          · obtain ⟨hs2, c2, hc2, hse⟩ := ih (by omega) (by omega)
            rw [hc1] at hc2
            injection hc2 with hc2
            subst hc2
            refine ⟨hs2, c1, hc1, ?_⟩
            obtain ⟨hse1, _⟩ := seg_some hse
            rw [hfl, hse1, hr1]
            unfold seg
            have hmul : (m + 1) * sz = m * sz + sz := by rw [Nat.add_mul, Nat.one_mul]
            rw [takeN_eq (by simp; omega), hmul, List.take_add, List.drop_drop]
      have hrl : ∀ r ∈ ((List.range len).map f).map cell, r.length = sz := by
        intro r hr
        simp only [List.mem_map, List.mem_range] at hr
        obtain ⟨z, ⟨i, hi, rfl⟩, rfl⟩ := hr
        obtain ⟨y, _, h2, _⟩ := hf i hi
        exact (cells_mem h2 h0).2.choose_spec.2.2.2
      have hfl2 : ∀ l : List (List Value), (∀ r ∈ l, r.length = sz) → l.flatten.length = l.length * sz := by
        intro l
        induction l with
        | nil => simp
        | cons x l ih =>
          intro h
          rw [List.flatten_cons, List.length_append, ih fun r hr => h r (by simp [hr]), h x (by simp), List.length_cons, Nat.add_mul, Nat.one_mul]
          omega
      refine ⟨by rw [hfl2 _ hrl], fun hn => ?_⟩
      rw [List.length_map, List.length_map, List.length_range] at hn ⊢
      obtain ⟨hs, c, hc, hse⟩ := hrows len (Nat.le_refl _) hn
      refine ⟨a.block, a.off, c, ?_, .inl hc, hse⟩
      obtain ⟨ab, ao, sp⟩ := a
      cases hs
      rfl
    · intro z hz
      simp only [List.mem_map, List.mem_range] at hz
      obtain ⟨i, hi, rfl⟩ := hz
      obtain ⟨y, _, _, h3, _⟩ := hf i hi
      exact h3
    · show _ ≤ Rows.uptoBulkAll (elems.map (·.1)) + Rows.uptoBulkAll (rest.map (·.1)) + 1
      have hsum : ∀ m, m ≤ len → (((List.range m).map f).map meas).sum ≤ Rows.uptoBulkAll ((elems.take m).map (·.1)) := by
        intro m
        induction m with
        | zero => intro _; simp
        | succ m ih =>
          intro hm1
          obtain ⟨y, h1, _, _, h4⟩ := hf m (by omega)
          have h5 := ih (by omega)
          have h6 : elems.take (m + 1) = elems.take m ++ [y] := by
            rw [List.take_add_one, h1]; rfl
          have h7 : ∀ l r : List (DataW H), Rows.uptoBulkAll (l ++ r) = Rows.uptoBulkAll l + Rows.uptoBulkAll r := by
            intro l r
            induction l with
            | nil => simp [Rows.uptoBulkAll]
            | cons x l ih => simp only [List.cons_append, Rows.uptoBulkAll, ih]; omega
          rw [h6, List.map_append, h7, List.range_succ, List.map_append, List.map_append, List.sum_append]
          simp only [List.map_cons, List.map_nil, List.sum_cons, List.sum_nil, Rows.uptoBulkAll]
          omega
      have := hsum len (Nat.le_refl _)
      rw [List.take_of_length_le (by omega)] at this
      omega
/-- A struct, its parts one by one. -/
theorem open_parts {t : TypeId} {fs : Array Field} {fuel : Nat} {cs : List Value} {x : DataW H × List MemPlace} (ht : P.underlying t = some (.struct fs)) (h : DataW.trod enc P W 0 spare held fuel t cs = some x) :
    ∃ (n : Nat) (xs : List (DataW H × List MemPlace)), cs.length = P.cellsOf t ∧ xs.length = fs.size ∧ Rows.uptoBulk x.1 = Rows.uptoBulkAll (xs.map (·.1)) + 1 ∧
      ∀ (i : Nat) (f : Field), fs[i]? = some f → DataW.trod enc P W 0 spare held n f.type ((cs.drop f.offset).take (P.cellsOf f.type)) = xs[i]? := by
  obtain ⟨xs, n, _, rfl, h1, h2, h3⟩ := DataW.trod_struct ht h
  exact ⟨n, xs, h1, h2, rfl, h3⟩
theorem part_at {fs : Array Field} {n : Nat} {cs : List Value} {xs : List (DataW H × List MemPlace)} (h4 : ∀ (i : Nat) (f : Field), fs[i]? = some f → DataW.trod enc P W 0 spare held n f.type ((cs.drop f.offset).take (P.cellsOf f.type)) = xs[i]?)
    (i o c : Nat) (ty : TypeId) {f : Field} (hf : fs[i]? = some f) (ho : f.offset = o) (hty : f.type = ty) (hc : P.cellsOf ty = c) : DataW.trod enc P W 0 spare held n ty ((cs.drop o).take c) = xs[i]? := by
  subst ho hty hc
  exact h4 i f hf
theorem i64_wf {n : Int} (h : (Lit.int .i64 n).wf = true) : InR n := by
  simp only [Lit.wf, Bool.and_eq_true, decide_eq_true_eq] at h
  exact ⟨h.1, h.2⟩
end
instance : Inhabited Entry := ⟨⟨⟨#[]⟩, 0⟩⟩
instance : Inhabited Run := ⟨⟨0, 0, 0⟩⟩
instance : Inhabited DeedD := ⟨⟨0, 0, inoD0⟩⟩
section
variable {H : Type} {enc : TypeId × Value → H} {W : World} {spare : Nat → Bool} {held : Bool} {n : Nat} {cs : List Value} {y : DataW H × List MemPlace}
theorem cellsOf_int : Tryz.prog.cellsOf 3 = 1 := by kernel_rfl
theorem cellsOf_string : Tryz.prog.cellsOf 9 = 1 := by kernel_rfl
theorem cellsOf_entry : Tryz.prog.cellsOf 119 = 2 := by kernel_rfl
theorem cellsOf_run : Tryz.prog.cellsOf 131 = 3 := by kernel_rfl
theorem cellsOf_ents : Tryz.prog.cellsOf 41 = 1 := by kernel_rfl
theorem cellsOf_runs : Tryz.prog.cellsOf 42 = 1 := by kernel_rfl
theorem cellsOf_inode : Tryz.prog.cellsOf 44 = 7 := by kernel_rfl
theorem cellsOf_deed : Tryz.prog.cellsOf 46 = 9 := by kernel_rfl
theorem cellsOf_deeds : Tryz.prog.cellsOf 47 = 1 := by kernel_rfl
theorem two_of {α : Type} {xs : List α} (h : xs.length = 2) : ∃ a b, xs = [a, b] := by match xs, h with | [a, b], _ => exact ⟨a, b, rfl⟩
theorem three_of {α : Type} {xs : List α} (h : xs.length = 3) : ∃ a b c, xs = [a, b, c] := by match xs, h with | [a, b, c], _ => exact ⟨a, b, c, rfl⟩
theorem seven_of {α : Type} {xs : List α} (h : xs.length = 7) : ∃ a b c d e f g, xs = [a, b, c, d, e, f, g] := by match xs, h with | [a, b, c, d, e, f, g], _ => exact ⟨a, b, c, d, e, f, g, rfl⟩
theorem nine_of {α : Type} {xs : List α} (h : xs.length = 9) : ∃ a b c d e f g i j, xs = [a, b, c, d, e, f, g, i, j] := by match xs, h with | [a, b, c, d, e, f, g, i, j], _ => exact ⟨a, b, c, d, e, f, g, i, j, rfl⟩
theorem open_entry (h : DataW.trod enc Tryz.prog W 0 spare held n 119 cs = some y) :
    ∃ e : Entry, cs = entL e ∧ InR e.no ∧ e.name.size + 1 ≤ Rows.uptoBulk y.1 := by
  obtain ⟨k, xs, h1, h2, h3, h4⟩ := open_parts Tryz.underlying119 h
  rw [cellsOf_entry] at h1
  obtain ⟨c0, c1, rfl⟩ := two_of h1
  obtain ⟨x0, x1, rfl⟩ := two_of h2
  have f0 := part_at h4 0 0 1 9 rfl rfl rfl cellsOf_string
  have f1 := part_at h4 1 1 1 3 rfl rfl rfl cellsOf_int
  obtain ⟨s, e0, rfl, _⟩ := DataW.trod_string Tryz.underlying9 f0
  obtain ⟨z, e1, rfl, hz⟩ := DataW.trod_int Tryz.underlying3 f1
  cases e0
  cases e1
  refine ⟨⟨s, z⟩, rfl, i64_wf hz, ?_⟩
  rw [h3]
  simp only [List.map_cons, List.map_nil, Rows.uptoBulkAll, Rows.uptoBulk, Array.length_toList]
  have hss : s.size = s.data.size := rfl
  show s.size + 1 ≤ _
  omega
theorem open_run (h : DataW.trod enc Tryz.prog W 0 spare held n 131 cs = some y) :
    ∃ r : Run, cs = runL r ∧ (InR r.fr ∧ InR r.ad ∧ InR r.cnt) ∧ 1 ≤ Rows.uptoBulk y.1 := by
  obtain ⟨k, xs, h1, h2, h3, h4⟩ := open_parts Tryz.underlying131 h
  rw [cellsOf_run] at h1
  obtain ⟨c0, c1, c2, rfl⟩ := three_of h1
  obtain ⟨x0, x1, x2, rfl⟩ := three_of h2
  have f0 := part_at h4 0 0 1 3 rfl rfl rfl cellsOf_int
  have f1 := part_at h4 1 1 1 3 rfl rfl rfl cellsOf_int
  have f2 := part_at h4 2 2 1 3 rfl rfl rfl cellsOf_int
  obtain ⟨z0, e0, rfl, w0⟩ := DataW.trod_int Tryz.underlying3 f0
  obtain ⟨z1, e1, rfl, w1⟩ := DataW.trod_int Tryz.underlying3 f1
  obtain ⟨z2, e2, rfl, w2⟩ := DataW.trod_int Tryz.underlying3 f2
  cases e0
  cases e1
  cases e2
  exact ⟨⟨z0, z1, z2⟩, rfl, ⟨i64_wf w0, i64_wf w1, i64_wf w2⟩, by rw [h3]; omega⟩
/-- What a deed's reading gives, but for how much there is. -/
structure DeedRd (W : World) (d : DeedD) : Prop where
  ok : DOk (memOf W) d.d
  rg : DeedIn d.v
theorem entsN_ten (le : List Entry) : entsN le ≤ 10 * (le.map fun e => e.name.size + 1).sum := by
  induction le with
  | nil => simp [entsN]
  | cons e l ih => rw [entsN_cons, List.map_cons, List.sum_cons]; omega
theorem sum_ones (l : List Run) : (l.map fun _ => 1).sum = l.length := by
  induction l with
  | nil => rfl
  | cons e l ih => rw [List.map_cons, List.sum_cons, List.length_cons, ih]; omega
theorem open_deed (h : DataW.trod enc Tryz.prog W 0 spare held n 46 cs = some y) :
    ∃ d : DeedD, cs = deedDL d ∧ DeedRd W d ∧ fewD d.v ≤ 20 * Rows.uptoBulk y.1 := by
  obtain ⟨k, xs, h1, h2, h3, h4⟩ := open_parts Tryz.underlying46 h
  rw [cellsOf_deed] at h1
  obtain ⟨c0, c1, c2, c3, c4, c5, c6, c7, c8, rfl⟩ := nine_of h1
  obtain ⟨x0, x1, x2, rfl⟩ := three_of h2
  have f0 := part_at h4 0 0 1 3 rfl rfl rfl cellsOf_int
  have f1 := part_at h4 1 1 1 3 rfl rfl rfl cellsOf_int
  have f2 := part_at h4 2 2 7 44 rfl rfl rfl cellsOf_inode
  obtain ⟨z0, e0, rfl, w0⟩ := DataW.trod_int Tryz.underlying3 f0
  obtain ⟨z1, e1, rfl, w1⟩ := DataW.trod_int Tryz.underlying3 f1
  cases e0
  cases e1
  obtain ⟨k', ys, g1, g2, g3, g4⟩ := open_parts Tryz.underlying44 f2
  obtain ⟨y0, y1, y2, y3, y4, y5, y6, rfl⟩ := seven_of g2
  have i0 := part_at g4 0 0 1 3 rfl rfl rfl cellsOf_int
  have i1 := part_at g4 1 1 1 3 rfl rfl rfl cellsOf_int
  have i2 := part_at g4 2 2 1 3 rfl rfl rfl cellsOf_int
  have i3 := part_at g4 3 3 1 3 rfl rfl rfl cellsOf_int
  have i4 := part_at g4 4 4 1 9 rfl rfl rfl cellsOf_string
  have i5 := part_at g4 5 5 1 41 rfl rfl rfl cellsOf_ents
  have i6 := part_at g4 6 6 1 42 rfl rfl rfl cellsOf_runs
  obtain ⟨a0, e0, rfl, v0⟩ := DataW.trod_int Tryz.underlying3 i0
  obtain ⟨a1, e1, rfl, v1⟩ := DataW.trod_int Tryz.underlying3 i1
  obtain ⟨a2, e2, rfl, v2⟩ := DataW.trod_int Tryz.underlying3 i2
  obtain ⟨a3, e3, rfl, v3⟩ := DataW.trod_int Tryz.underlying3 i3
  obtain ⟨s, e4, rfl, _⟩ := DataW.trod_string Tryz.underlying9 i4
  obtain ⟨le, pe, ce, e5, he1, he2, he3⟩ := open_list entL (fun e : Entry => InR e.no) (fun e => e.name.size + 1) Tryz.underlying41 cellsOf_entry (by decide) (fun n row y h => open_entry h) i5
  obtain ⟨lr, pr, cr, e6, hr1, hr2, hr3⟩ := open_list runL (fun r : Run => InR r.fr ∧ InR r.ad ∧ InR r.cnt) (fun _ => 1) Tryz.underlying42 cellsOf_run (by decide) (fun n row y h => open_run h) i6
  cases e0
  cases e1
  cases e2
  cases e3
  cases e4
  cases e5
  cases e6
  refine ⟨⟨z0, z1, ⟨⟨a0, a1, a2, a3, s, le, lr⟩, pe, ce, pr, cr⟩⟩, rfl, ⟨⟨he1, hr1⟩, i64_wf w0, i64_wf w1, ⟨i64_wf v0, i64_wf v1, i64_wf v2, i64_wf v3⟩, he2, hr2⟩, ?_⟩
  have hen := entsN_ten le
  have hrn := sum_ones lr
  rw [hrn] at hr3
  show 10 + s.size + lr.length + entsN le ≤ _
  rw [h3]
  simp only [List.map_cons, List.map_nil, Rows.uptoBulkAll] at g3 ⊢
  rw [g3]
  simp only [Rows.uptoBulk, Array.length_toList]
  have hss : s.size = s.data.size := rfl
  omega
theorem open_deeds (h : DataW.trod enc Tryz.prog W 0 spare held n 47 cs = some y) :
    ∃ (dl : List DeedD) (p : Option Addr) (cap : Nat), cs = [.slice p dl.length cap] ∧ RDeeds (memOf W) p dl ∧ (∀ d ∈ dl, DeedRd W d) ∧ fewN (dl.map DeedD.v) ≤ 20 * Rows.uptoBulk y.1 := by
  obtain ⟨dl, p, cap, h1, h2, h3, h4⟩ := open_list deedDL (DeedRd W) (fun d => (fewD d.v + 19) / 20) Tryz.underlying47 cellsOf_deed (by decide) (fun n row y h => by
    obtain ⟨d, h1, h2, h3⟩ := open_deed h
    exact ⟨d, h1, h2, by omega⟩) h
  refine ⟨dl, p, cap, h1, ⟨h2, fun d hd => (h3 d hd).ok⟩, h3, ?_⟩
  have : fewN (dl.map DeedD.v) ≤ 20 * (dl.map fun d => (fewD d.v + 19) / 20).sum := by
    clear h1 h2 h3 h4
    induction dl with
    | nil => simp [fewN]
    | cons d l ih => rw [List.map_cons, fewN_cons, List.map_cons, List.sum_cons]; omega
  omega
instance : Inhabited DlD := ⟨⟨[], Option.none, 0⟩⟩
theorem open_deedss (h : DataW.trod enc Tryz.prog W 0 spare held n 53 cs = some y) (hb : Rows.uptoBulk y.1 ≤ 1048576) :
    ∃ (ll : List DlD) (p : Option Addr) (cap : Nat), cs = [.slice p ll.length cap] ∧ RDls (memOf W) p ll := by
  obtain ⟨ll, p, cap, h1, h2, h3, h4⟩ := open_list dlL (fun x => RDeeds (memOf W) x.p x.dl ∧ (∀ d ∈ x.dl, DeedRd W d)) (fun x => (fewN (x.dl.map DeedD.v) + 19) / 20) Tryz.underlying53 cellsOf_deeds (by decide) (fun n row y h => by
    obtain ⟨dl, p, cap, h1, h2, h3, h4⟩ := open_deeds h
    exact ⟨⟨dl, p, cap⟩, h1, ⟨h2, h3⟩, by show (fewN (dl.map DeedD.v) + 19) / 20 ≤ _; omega⟩) h
  refine ⟨ll, p, cap, h1, h2, fun x hx => (h3 x hx).1, fun x hx d hd => ?_, fun x hx => ?_⟩
  · obtain ⟨e, he, rfl⟩ := List.mem_map.1 hd
    exact ((h3 x hx).2 e he).rg
  · have : ∀ l : List DlD, x ∈ l → (fewN (x.dl.map DeedD.v) + 19) / 20 ≤ (l.map fun x => (fewN (x.dl.map DeedD.v) + 19) / 20).sum := by
      intro l
      induction l with
      | nil => intro h; cases h
      | cons d l ih =>
        intro h
        rw [List.map_cons, List.sum_cons]
        rcases List.mem_cons.1 h with rfl | h
        · omega
        · have := ih h; omega
    have := this ll hx
    omega
theorem cellsOf_u8 : Tryz.prog.cellsOf 5 = 1 := by kernel_rfl
theorem open_byte (h : DataW.trod enc Tryz.prog W 0 spare held n 5 cs = some y) : ∃ x : UInt8, cs = [byteV x] ∧ True ∧ 1 ≤ Rows.uptoBulk y.1 := by
  obtain ⟨z, e, rfl, hz⟩ := DataW.trod_int Tryz.underlying5 h
  cases e
  simp only [Lit.wf, Bool.and_eq_true, decide_eq_true_eq] at hz
  have h0 : 0 ≤ z ∧ z ≤ 255 := ⟨hz.1, hz.2⟩
  refine ⟨UInt8.ofNat z.toNat, ?_, trivial, by simp [Rows.uptoBulk]⟩
  show [Value.int .u8 z] = [Value.int .u8 ((UInt8.ofNat z.toNat).toNat : Int)]
  have : (UInt8.ofNat z.toNat).toNat = z.toNat := by
    rw [UInt8.toNat_ofNat']
    exact Nat.mod_eq_of_lt (by omega)
  rw [this]
  congr 2
  omega
theorem open_bytes (h : DataW.trod enc Tryz.prog W 0 spare held n 57 cs = some y) :
    ∃ (bs : List UInt8) (p : Option Addr) (cap : Nat), cs = [.slice p bs.length cap] ∧ SB (memOf W) p bs ∧ bs.length ≤ Rows.uptoBulk y.1 := by
  obtain ⟨bs, p, cap, h1, h2, h3, h4⟩ := open_list (fun x => [byteV x]) (fun _ => True) (fun _ => 1) Tryz.underlying57 cellsOf_u8 (by decide) (fun n row y h => open_byte h) h
  refine ⟨bs, p, cap, h1, ?_, ?_⟩
  · have e : (bs.map fun x => [byteV x]).flatten = bytesV bs := by
      clear h1 h2 h3 h4
      induction bs with
      | nil => rfl
      | cons x l ih => rw [List.map_cons, List.flatten_cons, ih]; rfl
    have := h2.2
    rw [List.length_map, e] at this
    exact this
  · have e : (bs.map fun _ => 1).sum = bs.length := by
      clear h1 h2 h3 h4
      induction bs with
      | nil => rfl
      | cons x l ih => rw [List.map_cons, List.sum_cons, ih, List.length_cons]; omega
    omega
/-- A slice's value, of what is in its cells. -/
theorem slice_cells {a : Option Addr} {len cap : Nat} {p : Option Addr} {l c : Nat} (h : (Value.slice a len cap).cells.toList = [.slice p l c]) : a = p ∧ len = l ∧ cap = c := by
  have : (Value.slice a len cap) = Value.slice p l c := by simpa [Value.cells] using h
  injection this with e1 e2 e3
  exact ⟨e1, e2, e3⟩
end
end Go.Proofs.YtaeeahcokiebdaaGreat

/-
  The walk of JournalNew: whatever a chip had, formatted it has a new state.
  Conditions: what is counted fits.
-/
namespace Go.Proofs.YtaeeahcokiebdaaGreat
set_option maxRecDepth 20000

theorem Sl.firstN {M H p n m xs} (h : Sl M H 1 p n xs) (hm : m ≤ n) : Sl M H 1 p m (xs.take m) := by
  obtain ⟨h1, h2⟩ := h
  refine ⟨by simp; omega, fun h0 => ?_⟩
  obtain ⟨b, o, c, e1, e2, e3⟩ := h2 (by omega)
  refine ⟨b, o, c, e1, e2, ?_⟩
  have := seg_sub (k := 0) (m := m * 1) e3 (by omega)
  simpa using this
theorem load_spec (M : Mem) (ad : Ad) (ch : Chip) (p : Option Addr) (cap : Nat) (bs : List UInt8) (hs : SB M p bs) (hl : bs.length = ch.b.length) :
    Spec Tryz.prog 42 [ptr ad.cb, .slice p bs.length cap] M (chipH ad ch) (fun v _ H => v = intV 0 ∧ H = chipH ad { ch with b := bs }) := by
  refine Spec.of_code 23 Tryz.func42 rfl callable42 rfl rfl fun w => ?_
  refine C.region_seq ?_
  refine G.value rfl rfl rfl (Sure.assign rfl) ?_
  refine G.nil ?_
  refine C.seq ?_
  refine C.block ?_
  refine C.region_seq ?_
  refine G.value rfl rfl rfl (Sure.move rfl) ?_
  refine G.value rfl rfl rfl (ptr_eq_f rfl rfl) ?_
  refine G.value rfl rfl rfl (Sure.assign rfl) ?_
  refine G.nil ?_
  refine C.cond_false rfl ?_
  refine C.region_seq ?_
  refine G.value rfl rfl rfl (Sure.move rfl) ?_
  refine G.value rfl rfl rfl (Sure.len_slice rfl) ?_
  refine G.value rfl rfl rfl (Sure.move rfl) ?_
  refine G.value rfl rfl rfl (Sure.nilCheck rfl) ?_
  refine G.value rfl rfl rfl (Sure.fieldAddr rfl) ?_
  refine G.value rfl rfl rfl (Sure.load rfl rdx rfl) ?_
  refine G.value rfl rfl rfl (Sure.len_slice rfl) ?_
  refine G.value rfl rfl rfl ((Sure.neq rfl rfl).to_f (by omega)) ?_
  refine G.value rfl rfl rfl (Sure.assign rfl) ?_
  refine G.nil ?_
  refine C.cond_false rfl ?_
  refine C.skip ?_
  refine Fin.blk ?_
  refine Fin.th ?_
  refine C.region_seq ?_
  refine G.value rfl rfl rfl (Sure.move rfl) ?_
  refine G.value rfl rfl rfl (Sure.nilCheck rfl) ?_
  refine G.value rfl rfl rfl (Sure.fieldAddr rfl) ?_
  refine G.value rfl rfl rfl (Sure.load rfl rdx rfl) ?_
  refine G.value rfl rfl rfl (Sure.move rfl) ?_
  have hset : setSeg (ch.b.map byteV ++ ad.junk) 0 (bs.map byteV) = some (bs.map byteV ++ ad.junk) := by
    rw [setSeg_eq (by simp; omega)]
    simp [hl]
  refine G.dyn rfl rfl rfl ?_
  refine Dyn.copy (n := bs.length) rfl rfl (Nat.min_eq_left (by omega)) (Sl.heap hs) (.there .here) (allOne_bytes bs) hset ?_
  refine G.nil ?_
  refine C.region_seq ?_
  refine G.value rfl rfl rfl (Sure.assign rfl) ?_
  refine G.nil ?_
  refine C.ret ?_
  refine Fin.fn (Res.tmp rfl rfl) (R := []) (H0 := chipH ad { ch with b := bs }) ?_ ⟨rfl, rfl⟩
  have e : chipL ad { ch with b := bs } = chipL ad ch := by show [_, _, _, _, _, _, Value.slice _ bs.length _, _] = _; rw [hl]
  show Split [(ad.cb, .cells (chipL ad { ch with b := bs })), (ad.bb, .cells (bs.map byteV ++ ad.junk)), (ad.eb, cntB ch.er), (ad.pb, .cells (pwL ch.pw ad.fv))] _ _
  rw [e]
  exact Split.cons (.there .here) (Split.cons .here (Split.one .here))
theorem new_law (M : Mem) (g : Geo) (pb : Option Addr) (cb : Nat) (bs : List UInt8) (p : Option Addr) (cap : Nat) (dl : List DeedD) (hs : SB M pb bs) (hd : RDeeds M p dl) (hdi : ∀ d ∈ dl.map DeedD.v, DeedIn d) (hf : fewN (dl.map DeedD.v) ≤ 1000000000000) :
    Spec Tryz.prog 9 [geoV g, .slice pb bs.length cb, .slice p dl.length cap] M [] (fun v _ _ => v = .bool true) := by
  refine Spec.of_code 105 Tryz.func9 rfl callable9 rfl rfl fun w => ?_
  refine C.region_seq ?_
  refine G.dyn rfl rfl rfl ?_
  refine Dyn.boxAgg rfl ?_
  intro b3
  refine G.value rfl rfl rfl (Sure.assign rfl) ?_
  refine G.nil ?_
  refine C.seq ?_
  refine C.region_seq ?_
  refine G.value rfl rfl rfl (Sure.move rfl) ?_
  refine G.call rfl rfl rfl rfl rfl rfl (few_spec M p cap dl hd hf) (Split.nil) ?_
  rintro _ M1 _ le1 ⟨rfl, rfl⟩
  by_cases hfew : fewN (dl.map DeedD.v) ≤ 3000
  · rw [decide_eq_true hfew]
    refine G.value rfl rfl rfl (Sure.not rfl) ?_
    have hln := few_length (dl.map DeedD.v)
    rw [List.length_map] at hln
    refine G.nil ?_
    refine C.cond_false rfl ?_
    refine C.skip ?_
    refine Fin.th ?_
    refine C.region_seq ?_
    refine G.value rfl rfl rfl (Sure.loadAgg rfl rdx rfl) ?_
    refine G.call rfl rfl rfl rfl rfl rfl (geometry_spec M1 g) (Split.nil) ?_
    rintro _ M2 _ le2 ⟨rfl, g', rfl, hg, hg2, hg3⟩
    refine G.dyn0 rfl rfl ?_
    refine Dyn.storeAgg rfl rfl pkx rfl rfl rfl ?_
    refine G.nil ?_
    -- draws its order
    refine C.draw_seq ([(b3, .cells (geoL g'))]) mixed (by kernel_rfl) (Incl.refl _) ?_
    refine GD.val 0 rfl rfl rfl rfl (by kernel_rfl) rfl (Sure.loadAgg rfl rdx rfl) ?_
    refine GD.one 1 (by kernel_rfl) rfl rfl (by kernel_rfl) ?_
    refine Next.call 1 rfl rfl rfl (by kernel_rfl) (by kernel_rfl) rfl rfl rfl rfl (pw_new_spec M2) (Split.nil) ?_
    rintro _ M3 _ le3 ⟨pw, rfl, rfl⟩
    refine ⟨incx, ?_⟩
    refine GD.one 2 (by kernel_rfl) rfl rfl (by kernel_rfl) ?_
    refine Next.call 2 rfl rfl rfl (by kernel_rfl) (by kernel_rfl) rfl rfl rfl rfl (chip_new M3 g' pw hg) (Split.cons .here Split.nil) ?_
    rintro _ M4 _ le4 ⟨ad, rfl, rfl, hok, hal⟩
    refine ⟨incx, ?_⟩
    refine GD.val 3 rfl rfl rfl rfl (by kernel_rfl) rfl (Sure.move rfl) ?_
    refine GD.val 4 rfl rfl rfl rfl (by kernel_rfl) rfl (Sure.extract rfl rfl) ?_
    refine GD.val 5 rfl rfl rfl rfl (by kernel_rfl) rfl (Sure.extract rfl rfl) ?_
    refine GD.one 6 (by kernel_rfl) rfl rfl (by kernel_rfl) ?_
    refine Next.dyn 6 rfl rfl rfl (by kernel_rfl) (by kernel_rfl) rfl (Dyn.assign rfl ?_)
    refine ⟨MLe.refl _, incx, ?_⟩
    refine GD.one 7 (by kernel_rfl) rfl rfl (by kernel_rfl) ?_
    refine Next.dyn 7 rfl rfl rfl (by kernel_rfl) (by kernel_rfl) rfl (Dyn.assign rfl ?_)
    refine ⟨MLe.refl _, incx, ?_⟩
    refine GD.done (by kernel_rfl) (by kernel_rfl) ?_
    refine C.seq ?_
    refine C.region_seq ?_
    refine G.call rfl rfl rfl rfl rfl rfl (awake17_spec M4) (Split.nil) ?_
    rintro _ M5 _ le5 ⟨rfl, rfl⟩
    refine G.value rfl rfl rfl (Sure.not rfl) ?_
    refine G.value rfl rfl rfl (Sure.move rfl) ?_
    refine G.value rfl rfl rfl (Sure.move rfl) ?_
    refine G.value rfl rfl rfl (ptr_eq_f rfl rfl) ?_
    have hgs := hg.s
    have hgz := hg.z
    have h3 : g'.sectors * g'.sector ≤ 16 * 4096 := Int.mul_le_mul (by omega) (by omega) (by omega) (by omega)
    have h4 : 2 * 256 ≤ g'.sectors * g'.sector := Int.mul_le_mul (by omega) (by omega) (by omega) (by omega)
    have hcn : (chipN g' : Int) = g'.sectors * g'.sector := by unfold chipN; omega
    have hlen0 : (List.replicate (chipN g') (255 : UInt8)).length = chipN g' := by simp
    generalize List.replicate (chipN g') (255 : UInt8) = bs0 at hok hlen0
    refine G.value rfl rfl rfl (Sure.pick_false rfl rfl) ?_
    refine G.nil ?_
    refine C.cond_false rfl ?_
    refine C.skip ?_
    refine Fin.th ?_
    refine C.region_seq ?_
    refine G.value rfl rfl rfl (Sure.fieldAddr rfl) ?_
    refine G.value rfl rfl rfl (Sure.load rfl rdx rfl) ?_
    refine G.value rfl rfl rfl (Sure.fieldAddr rfl) ?_
    refine G.value rfl rfl rfl (Sure.load rfl rdx rfl) ?_
    refine G.value rfl rfl rfl (Sure.mul rfl rfl (inK64 (by omega))) ?_
    rw [← hcn]
    refine G.dyn rfl rfl rfl ?_
    refine Dyn.makeSlice (n := chipN g') (cap := chipN g') rfl (by decide) rfl rfl (by omega) (by omega) (by omega) ?_
    intro b9
    rw [zrow_one rfl]
    refine G.value rfl rfl rfl (Sure.assign rfl) ?_
    refine G.nil ?_
    refine C.region_seq ?_
    refine G.value rfl rfl rfl (Sure.move rfl) ?_
    refine G.value rfl rfl rfl (Sure.move rfl) ?_
    obtain ⟨m, hm⟩ : ∃ m, Nat.min bs.length (chipN g') = m := ⟨_, rfl⟩
    have hm1 : m ≤ bs.length := by rw [← hm]; exact Nat.min_le_left _ _
    have hm2 : m ≤ chipN g' := by rw [← hm]; exact Nat.min_le_right _ _
    obtain ⟨x, hx⟩ : ∃ x, bs.take m ++ List.replicate (chipN g' - m) 0 = x := ⟨_, rfl⟩
    have hxl : x.length = chipN g' := by rw [← hx]; simp; omega
    have hset : setSeg (List.replicate (chipN g') (Value.int .u8 0)) 0 ((bytesV bs).take m) = some (x.map byteV) := by
      rw [setSeg_eq (by simp [bytesV]; omega), ← hx]
      simp [bytesV, hm1, List.map_take]
      exact .inr rfl
    have hal1 : allOne ((bytesV bs).take m) = true := by
      have h := allOne_bytes (bs.take m)
      unfold bytesV at h ⊢
      rwa [List.map_take] at h
    refine G.dyn rfl rfl rfl ?_
    refine Dyn.copy rfl rfl hm (Sl.heap (Sl.firstN (SB.mono hs (le1.trans (le2.trans (le3.trans (le4.trans le5))))) hm1)) Pick.here hal1 hset ?_
    refine G.nil ?_
    refine C.seq ?_
    refine C.region_seq ?_
    refine G.value rfl rfl rfl (Sure.move rfl) ?_
    refine G.value rfl rfl rfl (Sure.move rfl) ?_
    refine G.donate fun M6 le6 hM6 => ?_
    have hsx : SB M6 (some ⟨b9, 0, Option.none⟩) x := ⟨by simp [bytesV], fun _ => ⟨b9, 0, _, rfl, Rd.m hM6, seg_all (by simp)⟩⟩
    have hld := load_spec M6 ad ⟨g', bs0, ⟨-1, 0, false, 0⟩, []⟩ (some ⟨b9, 0, Option.none⟩) (chipN g') x hsx (by rw [hxl]; exact hlen0.symm)
    rw [hxl] at hld
    have hok' : ChipOk ad ⟨g', x, ⟨-1, 0, false, 0⟩, []⟩ := ⟨hok.geo, by have := hok.len; dsimp only at this ⊢; omega, by have := hok.cap; dsimp only at this ⊢; omega, hok.pw⟩
    refine G.call rfl rfl rfl rfl rfl rfl (hld) (Split.one .here) ?_
    rintro _ M7 _ le7 ⟨rfl, rfl⟩
    refine G.value rfl rfl rfl ((Sure.neq rfl rfl).to_f (by decide)) ?_
    refine G.nil ?_
    refine C.cond_false rfl ?_
    refine C.skip ?_
    refine Fin.th ?_
    refine C.region_seq ?_
    refine G.value rfl rfl rfl (Sure.move rfl) ?_
    refine G.call rfl rfl rfl rfl rfl rfl (format_live M7 ad _ hok' hal) (Split.one .here) ?_
    rintro _ M8 _ le8 ⟨jb, s, ch, rfl, hsv, hso, hlv, hcg, _, rfl⟩
    rw [← hsv] at hlv
    have hsv2 : s.v = staR := hsv
    have hjep : fmtJ.epoch < 2147483647 := by decide
    generalize fmtJ = j at hlv hjep ⊢
    refine G.value rfl rfl rfl (Sure.move rfl) ?_
    refine G.value rfl rfl rfl (Sure.extract rfl rfl) ?_
    refine G.value rfl rfl rfl (Sure.extract rfl rfl) ?_
    refine G.value rfl rfl rfl (Sure.assign rfl) ?_
    refine G.value rfl rfl rfl (Sure.assign rfl) ?_
    refine G.nil ?_
    refine C.seq ?_
    refine C.region_seq ?_
    refine G.value rfl rfl rfl (Sure.move rfl) ?_
    refine G.value rfl rfl rfl ((Sure.neq rfl rfl).to_f (by decide)) ?_
    refine G.value rfl rfl rfl (Sure.move rfl) ?_
    refine G.value rfl rfl rfl (Sure.move rfl) ?_
    refine G.value rfl rfl rfl (ptr_eq_f rfl rfl) ?_
    refine G.value rfl rfl rfl (Sure.pick_false rfl rfl) ?_
    refine G.nil ?_
    refine C.cond_false rfl ?_
    refine C.skip ?_
    refine Fin.th ?_
    refine C.region_seq ?_
    refine G.value rfl rfl rfl (Sure.move rfl) ?_
    refine G.call rfl rfl rfl rfl rfl rfl (clean_spec M8 p cap dl ((hd.mono (le1.trans (le2.trans (le3.trans (le4.trans le5))))).mono (le6.trans (le7.trans le8))) (by omega)) (Split.nil) ?_
    rintro _ M9 _ le9 ⟨rfl, dlc, pc, cc, rfl, hrc, hvc⟩
    have hcl := commit_live M9 jb ad ch j s pc cc dlc hlv (hso.mono le9) hrc (by rw [hvc]; exact cleans_canon hdi hfew) (by rw [hvc]; have := cleans_len (dl.map DeedD.v); omega) hjep
    refine G.value rfl rfl rfl (Sure.assign rfl) ?_
    refine G.nil ?_
    refine C.region_seq ?_
    refine G.value rfl rfl rfl (Sure.move rfl) ?_
    refine G.value rfl rfl rfl (Sure.move rfl) ?_
    refine G.call rfl rfl rfl rfl rfl rfl (hcl) (Split.one .here) ?_
    rintro v10 M10 _ le10 ⟨ch', j', s', rfl, hso', hlv', hg', hep', hres⟩
    obtain ⟨f, rfl, hfs⟩ : ∃ f : Int, v10 = intV f ∧ ((f = 0 ∧ s'.v = applyL staR (dlc.map DeedD.v)) ∨ (f = 10 ∧ s'.v = staR)) := by
      rcases hres with ⟨rfl, h, _⟩ | ⟨rfl, h, _⟩
      · exact ⟨0, rfl, .inl ⟨rfl, by rw [h, hsv2]⟩⟩
      · exact ⟨10, rfl, .inr ⟨rfl, by rw [h, hsv2]⟩⟩
    have hlen9 : dlc.length = dl.length := by have := congrArg List.length hvc; simpa using this
    refine G.value rfl rfl rfl (Sure.assign rfl) ?_
    refine G.nil ?_
    refine C.region_seq ?_
    refine G.call rfl rfl rfl rfl rfl rfl (refStateC_spec M10) (Split.nil) ?_
    rintro _ M11 _ le11 ⟨rfl, r, hrv, rfl, hro⟩
    refine G.dyn rfl rfl rfl ?_
    refine Dyn.allocAgg ?_
    intro b13
    refine G.dyn0 rfl rfl ?_
    refine Dyn.storeAgg rfl rfl pkx rfl rfl rfl ?_
    refine G.nil ?_
    refine C.seq ?_
    refine C.region_seq ?_
    refine G.value rfl rfl rfl (Sure.move rfl) ?_
    refine G.value rfl rfl rfl (Sure.eql rfl rfl) ?_
    refine G.nil ?_
    have hr1 : r.inos.length = 1 := by have := congrArg (fun s : Sta => s.inos.length) hrv; simpa [StaD.v, staR] using this
    have hr2 : r.bad.length = 0 := by have := congrArg (fun s : Sta => s.bad.length) hrv; simpa [StaD.v, staR] using this
    refine C.cutTop (fun E M' H => ∃ r' : StaD, MLe M10 M' ∧ SOk M' r' ∧ r'.v = s'.v ∧ esub [(7, ptr ad.cb), (10, ptr jb), (12, intV f), (13, ptr b13)] E ∧ ∃ R, Split ((b13, .cells (staDL r')) :: (jb, .cells (jrL ad.cb j' s')) :: chipH ad ch') H R) ?_ ?_
    · skip
      refine C.cond_dec rfl (fun hk => ?_) (fun hk => ?_)
      · refine C.region ?_
        refine G.value rfl rfl rfl (Sure.loadAgg rfl rdx rfl) ?_
        refine G.value rfl rfl rfl (Sure.move rfl) ?_
        refine G.call rfl rfl rfl rfl rfl rfl (refApply_spec M11 r pc cc dlc hro (by omega) (hrc.mono (le10.trans le11)) (by omega)) (Split.nil) ?_
        rintro _ M12 _ le12 ⟨rfl, r', hrv', rfl, hro'⟩
        refine G.dyn0 rfl rfl ?_
        refine Dyn.storeAgg rfl rfl pkx rfl rfl rfl ?_
        refine G.nil ?_
        refine Fin.th ?_
        refine ⟨r', le11.trans le12, hro'.1, ?_, ⟨rfl, rfl, rfl, rfl, trivial⟩, [(b3, .cells (geoL g'))], ?_⟩
        · rcases hfs with ⟨_, h⟩ | ⟨h, _⟩
          · rw [hrv', hrv, h]
          · omega
        · exact Split.cons pkx (Split.one .here)
      · refine C.skip ?_
        refine Fin.th ?_
        refine ⟨r, le11, hro.1, ?_, ⟨rfl, rfl, rfl, rfl, trivial⟩, [(b3, .cells (geoL g'))], ?_⟩
        · rcases hfs with ⟨h, _⟩ | ⟨_, h⟩
          · exact absurd h hk
          · rw [hrv, h]
        · exact Split.cons pkx (Split.one .here)
    · rintro E M12 H ⟨r', le12, hro', hrs, hsub, R, hspl⟩
      refine C.weak hsub (C.sub hspl ?_)
      clear hspl hsub
      have hstk : StaOk s'.v := staOk_small (by have := hlv'.small; omega)
      have hjh := hlv'.jok.half
      refine C.region_seq ?_
      refine G.value rfl rfl rfl (Sure.move rfl) ?_
      refine G.call rfl rfl rfl rfl rfl rfl (open_live M12 ad ch' j' s'.v hlv') (Split.one (.there (.there .all))) ?_
      rintro _ M13 _ le13 ⟨ob, s5, rfl, hs5, hso5, rfl⟩
      have hlv5 : Live ad ch' j' s5.v := by rw [hs5]; exact hlv'
      refine G.value rfl rfl rfl (Sure.move rfl) ?_
      refine G.value rfl rfl rfl (Sure.extract rfl rfl) ?_
      refine G.value rfl rfl rfl (Sure.extract rfl rfl) ?_
      refine G.value rfl rfl rfl (Sure.assign rfl) ?_
      refine G.value rfl rfl rfl (Sure.assign rfl) ?_
      refine G.nil ?_
      -- draws its order
      refine C.draw_seq ([(b13, .cells (staDL r'))]) mixed (by kernel_rfl) (by intro q hq; simp at hq; subst hq; simp) ?_
      rcases hfs with ⟨rfl, hs2⟩ | ⟨rfl, hs2⟩
      · refine GD.val 0 rfl rfl rfl rfl (by kernel_rfl) rfl (Sure.move rfl) ?_
        refine GD.val 1 rfl rfl rfl rfl (by kernel_rfl) rfl ((Sure.eql rfl rfl).to_t rfl) ?_
        refine GD.val 2 rfl rfl rfl rfl (by kernel_rfl) rfl (Sure.move rfl) ?_
        refine GD.skip 3 rfl rfl rfl rfl (by kernel_rfl) rfl ?_
        refine GD.skip 4 rfl rfl rfl rfl (by kernel_rfl) rfl ?_
        refine GD.val 5 rfl rfl rfl rfl (by kernel_rfl) rfl (Sure.pick_true rfl rfl) ?_
        refine GD.val 6 rfl rfl rfl rfl (by kernel_rfl) rfl (Sure.move rfl) ?_
        refine GD.val 7 rfl rfl rfl rfl (by kernel_rfl) rfl (Sure.move rfl) ?_
        refine GD.one 8 (by kernel_rfl) rfl rfl (by kernel_rfl) ?_
        refine Next.call 8 rfl rfl rfl (by kernel_rfl) (by kernel_rfl) rfl rfl rfl rfl (half_spec M13 jb ad.cb j' s') (Split.cons pkx Split.nil) ?_
        rintro _ M14 _ le14 ⟨rfl, rfl⟩
        refine ⟨(by intro q hq; simp at hq; subst hq; simp), ?_⟩
        refine GD.val 9 rfl rfl rfl rfl (by kernel_rfl) rfl ((Sure.leq rfl rfl).to_t (by omega)) ?_
        refine GD.val 10 rfl rfl rfl rfl (by kernel_rfl) rfl (Sure.pick_true rfl rfl) ?_
        refine GD.val 11 rfl rfl rfl rfl (by kernel_rfl) rfl (Sure.move rfl) ?_
        refine GD.val 12 rfl rfl rfl rfl (by kernel_rfl) rfl (Sure.move rfl) ?_
        refine GD.val 13 rfl rfl rfl rfl (by kernel_rfl) rfl ((Sure.eql rfl rfl).to_t rfl) ?_
        refine GD.val 14 rfl rfl rfl rfl (by kernel_rfl) rfl (Sure.pick_true rfl rfl) ?_
        refine GD.val 15 rfl rfl rfl rfl (by kernel_rfl) rfl (Sure.move rfl) ?_
        refine GD.val 16 rfl rfl rfl rfl (by kernel_rfl) rfl (Sure.move rfl) ?_
        refine GD.val 17 rfl rfl rfl rfl (by kernel_rfl) rfl (ptr_ne_t rfl rfl) ?_
        refine GD.val 18 rfl rfl rfl rfl (by kernel_rfl) rfl (Sure.pick_true rfl rfl) ?_
        refine GD.val 19 rfl rfl rfl rfl (by kernel_rfl) rfl (Sure.move rfl) ?_
        refine GD.val 20 rfl rfl rfl rfl (by kernel_rfl) rfl (Sure.move rfl) ?_
        refine GD.val 22 rfl rfl rfl rfl (by kernel_rfl) rfl (Sure.loadAgg rfl rdx rfl) ?_
        refine GD.one 21 (by kernel_rfl) rfl rfl (by kernel_rfl) ?_
        refine Next.call 21 rfl rfl rfl (by kernel_rfl) (by kernel_rfl) rfl rfl rfl rfl (jstate_live M14 jb ad ch' j' s' hlv' (hso'.mono (le12.trans (le13.trans le14)))) (Split.cons pkx Split.nil) ?_
        rintro _ M15 _ le15 ⟨rfl, -, s6, hs6, rfl, hso6⟩
        refine ⟨(by intro q hq; simp at hq; subst hq; simp), ?_⟩
        refine GD.one 23 (by kernel_rfl) rfl rfl (by kernel_rfl) ?_
        refine Next.call 23 rfl rfl rfl (by kernel_rfl) (by kernel_rfl) rfl rfl rfl rfl (state_spec M15 s6 r' hso6 (hro'.mono (le13.trans (le14.trans le15))) (by rw [hs6]; exact hstk)) (Split.nil) ?_
        rintro _ M16 _ le16 ⟨rfl, rfl⟩
        refine ⟨(by intro q hq; simp at hq; subst hq; simp), ?_⟩
        rw [show staEq s6.v r'.v = true from by rw [hs6, hrs]; exact staEq_refl _]
        refine GD.val 24 rfl rfl rfl rfl (by kernel_rfl) rfl (Sure.pick_true rfl rfl) ?_
        refine GD.val 25 rfl rfl rfl rfl (by kernel_rfl) rfl (Sure.move rfl) ?_
        refine GD.val 26 rfl rfl rfl rfl (by kernel_rfl) rfl (Sure.move rfl) ?_
        refine GD.val 28 rfl rfl rfl rfl (by kernel_rfl) rfl (Sure.loadAgg rfl rdx rfl) ?_
        refine GD.one 27 (by kernel_rfl) rfl rfl (by kernel_rfl) ?_
        refine Next.call 27 rfl rfl rfl (by kernel_rfl) (by kernel_rfl) rfl rfl rfl rfl (jstate_live M16 ob ad ch' j' s5 hlv5 (hso5.mono (le14.trans (le15.trans le16)))) (Split.cons pkx Split.nil) ?_
        rintro _ M17 _ le17 ⟨rfl, -, s7, hs7, rfl, hso7⟩
        refine ⟨(by intro q hq; simp at hq; subst hq; simp), ?_⟩
        refine GD.one 29 (by kernel_rfl) rfl rfl (by kernel_rfl) ?_
        refine Next.call 29 rfl rfl rfl (by kernel_rfl) (by kernel_rfl) rfl rfl rfl rfl (state_spec M17 s7 r' hso7 (hro'.mono (le13.trans (le14.trans (le15.trans (le16.trans le17))))) (by rw [hs7, hs5]; exact hstk)) (Split.nil) ?_
        rintro _ M18 _ le18 ⟨rfl, rfl⟩
        refine ⟨(by intro q hq; simp at hq; subst hq; simp), ?_⟩
        rw [show staEq s7.v r'.v = true from by rw [hs7, hs5, hrs]; exact staEq_refl _]
        refine GD.val 30 rfl rfl rfl rfl (by kernel_rfl) rfl (Sure.pick_true rfl rfl) ?_
        refine GD.one 31 (by kernel_rfl) rfl rfl (by kernel_rfl) ?_
        refine Next.dyn 31 rfl rfl rfl (by kernel_rfl) (by kernel_rfl) rfl (Dyn.assign rfl ?_)
        refine ⟨MLe.refl _, incx, ?_⟩
        refine GD.done (by kernel_rfl) (by kernel_rfl) ?_
        refine C.ret ?_
        exact Fin.fn (Res.tmp rfl rfl) Split.nil rfl
      · skip
        refine GD.val 0 rfl rfl rfl rfl (by kernel_rfl) rfl (Sure.move rfl) ?_
        refine GD.val 1 rfl rfl rfl rfl (by kernel_rfl) rfl ((Sure.eql rfl rfl).to_f (by decide)) ?_
        refine GD.val 2 rfl rfl rfl rfl (by kernel_rfl) rfl (Sure.move rfl) ?_
        refine GD.val 3 rfl rfl rfl rfl (by kernel_rfl) rfl (Sure.move rfl) ?_
        refine GD.val 4 rfl rfl rfl rfl (by kernel_rfl) rfl ((Sure.eql rfl rfl).to_t rfl) ?_
        refine GD.val 5 rfl rfl rfl rfl (by kernel_rfl) rfl (Sure.pick_false rfl rfl) ?_
        refine GD.val 6 rfl rfl rfl rfl (by kernel_rfl) rfl (Sure.move rfl) ?_
        refine GD.val 7 rfl rfl rfl rfl (by kernel_rfl) rfl (Sure.move rfl) ?_
        refine GD.one 8 (by kernel_rfl) rfl rfl (by kernel_rfl) ?_
        refine Next.call 8 rfl rfl rfl (by kernel_rfl) (by kernel_rfl) rfl rfl rfl rfl (half_spec M13 jb ad.cb j' s') (Split.cons pkx Split.nil) ?_
        rintro _ M14 _ le14 ⟨rfl, rfl⟩
        refine ⟨(by intro q hq; simp at hq; subst hq; simp), ?_⟩
        refine GD.val 9 rfl rfl rfl rfl (by kernel_rfl) rfl ((Sure.leq rfl rfl).to_t (by omega)) ?_
        refine GD.val 10 rfl rfl rfl rfl (by kernel_rfl) rfl (Sure.pick_true rfl rfl) ?_
        refine GD.val 11 rfl rfl rfl rfl (by kernel_rfl) rfl (Sure.move rfl) ?_
        refine GD.val 12 rfl rfl rfl rfl (by kernel_rfl) rfl (Sure.move rfl) ?_
        refine GD.val 13 rfl rfl rfl rfl (by kernel_rfl) rfl ((Sure.eql rfl rfl).to_t rfl) ?_
        refine GD.val 14 rfl rfl rfl rfl (by kernel_rfl) rfl (Sure.pick_true rfl rfl) ?_
        refine GD.val 15 rfl rfl rfl rfl (by kernel_rfl) rfl (Sure.move rfl) ?_
        refine GD.val 16 rfl rfl rfl rfl (by kernel_rfl) rfl (Sure.move rfl) ?_
        refine GD.val 17 rfl rfl rfl rfl (by kernel_rfl) rfl (ptr_ne_t rfl rfl) ?_
        refine GD.val 18 rfl rfl rfl rfl (by kernel_rfl) rfl (Sure.pick_true rfl rfl) ?_
        refine GD.val 19 rfl rfl rfl rfl (by kernel_rfl) rfl (Sure.move rfl) ?_
        refine GD.val 20 rfl rfl rfl rfl (by kernel_rfl) rfl (Sure.move rfl) ?_
        refine GD.val 22 rfl rfl rfl rfl (by kernel_rfl) rfl (Sure.loadAgg rfl rdx rfl) ?_
        refine GD.one 21 (by kernel_rfl) rfl rfl (by kernel_rfl) ?_
        refine Next.call 21 rfl rfl rfl (by kernel_rfl) (by kernel_rfl) rfl rfl rfl rfl (jstate_live M14 jb ad ch' j' s' hlv' (hso'.mono (le12.trans (le13.trans le14)))) (Split.cons pkx Split.nil) ?_
        rintro _ M15 _ le15 ⟨rfl, -, s6, hs6, rfl, hso6⟩
        refine ⟨(by intro q hq; simp at hq; subst hq; simp), ?_⟩
        refine GD.one 23 (by kernel_rfl) rfl rfl (by kernel_rfl) ?_
        refine Next.call 23 rfl rfl rfl (by kernel_rfl) (by kernel_rfl) rfl rfl rfl rfl (state_spec M15 s6 r' hso6 (hro'.mono (le13.trans (le14.trans le15))) (by rw [hs6]; exact hstk)) (Split.nil) ?_
        rintro _ M16 _ le16 ⟨rfl, rfl⟩
        refine ⟨(by intro q hq; simp at hq; subst hq; simp), ?_⟩
        rw [show staEq s6.v r'.v = true from by rw [hs6, hrs]; exact staEq_refl _]
        refine GD.val 24 rfl rfl rfl rfl (by kernel_rfl) rfl (Sure.pick_true rfl rfl) ?_
        refine GD.val 25 rfl rfl rfl rfl (by kernel_rfl) rfl (Sure.move rfl) ?_
        refine GD.val 26 rfl rfl rfl rfl (by kernel_rfl) rfl (Sure.move rfl) ?_
        refine GD.val 28 rfl rfl rfl rfl (by kernel_rfl) rfl (Sure.loadAgg rfl rdx rfl) ?_
        refine GD.one 27 (by kernel_rfl) rfl rfl (by kernel_rfl) ?_
        refine Next.call 27 rfl rfl rfl (by kernel_rfl) (by kernel_rfl) rfl rfl rfl rfl (jstate_live M16 ob ad ch' j' s5 hlv5 (hso5.mono (le14.trans (le15.trans le16)))) (Split.cons pkx Split.nil) ?_
        rintro _ M17 _ le17 ⟨rfl, -, s7, hs7, rfl, hso7⟩
        refine ⟨(by intro q hq; simp at hq; subst hq; simp), ?_⟩
        refine GD.one 29 (by kernel_rfl) rfl rfl (by kernel_rfl) ?_
        refine Next.call 29 rfl rfl rfl (by kernel_rfl) (by kernel_rfl) rfl rfl rfl rfl (state_spec M17 s7 r' hso7 (hro'.mono (le13.trans (le14.trans (le15.trans (le16.trans le17))))) (by rw [hs7, hs5]; exact hstk)) (Split.nil) ?_
        rintro _ M18 _ le18 ⟨rfl, rfl⟩
        refine ⟨(by intro q hq; simp at hq; subst hq; simp), ?_⟩
        rw [show staEq s7.v r'.v = true from by rw [hs7, hs5, hrs]; exact staEq_refl _]
        refine GD.val 30 rfl rfl rfl rfl (by kernel_rfl) rfl (Sure.pick_true rfl rfl) ?_
        refine GD.one 31 (by kernel_rfl) rfl rfl (by kernel_rfl) ?_
        refine Next.dyn 31 rfl rfl rfl (by kernel_rfl) (by kernel_rfl) rfl (Dyn.assign rfl ?_)
        refine ⟨MLe.refl _, incx, ?_⟩
        refine GD.done (by kernel_rfl) (by kernel_rfl) ?_
        refine C.ret ?_
        exact Fin.fn (Res.tmp rfl rfl) Split.nil rfl
  · skip
    rw [decide_eq_false hfew]
    refine G.value rfl rfl rfl (Sure.not rfl) ?_
    refine G.nil ?_
    refine C.cond_true rfl ?_
    refine C.region_seq ?_
    refine G.call rfl rfl rfl rfl rfl rfl (awake17_spec M1) (Split.nil) ?_
    rintro _ M2 _ le2 ⟨rfl, rfl⟩
    refine G.value rfl rfl rfl (Sure.assign rfl) ?_
    refine G.nil ?_
    refine C.ret ?_
    refine Fin.th_ret ?_
    exact Fin.fn (Res.tmp rfl rfl) Split.nil rfl
end Go.Proofs.YtaeeahcokiebdaaGreat
namespace Go.Proofs.YtaeeahcokiebdaaGreat.journalNew
open Go.ChangeShapes Go.WideShapes Go.ChangeAt Go.RowKit Go.Proofs.YtaeeahcokiebdaaGreat
set_option maxRecDepth 20000

theorem own : ownKnob Tryz.prog.godebug = Option.none := by kernel_rfl
theorem laidOut : laidOutB Tryz.prog = true := by kernel_rfl

set_option maxRecDepth 100000 in
theorem lifted (os : Os) (started : os.Started) (H : Type) (enc : TypeId × Value → H) (F : Stop.Interp) :
    ReturnsInHanded {} Tryz.checked os 9 .any ((Rows.OpenSpec.upto Rows.journalNewSpec).pre6 enc Tryz.prog Tryz.f9 Rows.journalNewUptoRow.domain false) (((Rows.OpenSpec.upto Rows.journalNewSpec).at F).post enc Tryz.prog Tryz.f9 false true false false) := by
  refine returnsInHanded_of_cond (C := Tryz.checked) (s := Rows.OpenSpec.upto Rows.journalNewSpec) (k := Rows.uptoSmall) rfl own started (by kernel_rfl) Tryz.func9
    (OpenSpec.witness (enc := enc) (C := Tryz.checked) (s := Rows.OpenSpec.upto Rows.journalNewSpec) (k := Rows.uptoSmall) rfl false ⟨#[], #[.agg #[.int .i64 0, .int .i64 0, .int .i64 0, .int .i64 0, .int .i64 0], .slice Option.none 0 0, .slice Option.none 0 0], []⟩ 8 (by kernel_rfl) (by kernel_rfl) (by kernel_rfl)
      (x := ([.agg [.lit (.int .i64 0), .lit (.int .i64 0), .lit (.int .i64 0), .lit (.int .i64 0), .lit (.int .i64 0)], .nil, .nil], [], [])) (by kernel_rfl) rfl (by kernel_rfl)) ?_
  intro W base args ds gs before hval0 hW _ hk _
  have hval : ∀ (j : Nat) t v, Tryz.f9.params[j]? = some t → args[j]? = some v → Value.okWide Tryz.prog W .any base t v := hval0
  have hW' := hW
  obtain ⟨p, q, hA0, hV, rfl, hfz, hnd⟩ := hW
  have hA : DataW.TrodAll enc Tryz.prog W 0 (fun _ => true) true Tryz.f9.params.toList args.toList ds p := hA0
  rw [Tryz.params9] at hA hval
  obtain ⟨v0, vs0, d0, ds0, p0, q0, hargs, rfl, rfl, h0, r0⟩ := trodAll_cons hA
  obtain ⟨v1, vs1, d1, ds1, p1, q1, rfl, rfl, rfl, h1, r1⟩ := trodAll_cons r0
  obtain ⟨v2, vs2, d2, ds2, p2, q2, rfl, rfl, rfl, h2, r2⟩ := trodAll_cons r1
  obtain ⟨rfl, rfl, rfl⟩ := trodAll_nil r2
  obtain rfl : args = #[v0, v1, v2] := by cases args; simp_all
  obtain ⟨l, hl, rfl⟩ := open_intsOnly 5 Tryz.underlying23 rfl (by kernel_rfl) (by kernel_rfl) (hval 0 _ v0 rfl rfl) h0
  obtain ⟨a, b, c, d, e, rfl⟩ := five hl
  obtain ⟨a1, len1, cap1, rfl⟩ := okWide_slice Tryz.underlying57 (hval 1 _ v1 rfl rfl)
  obtain ⟨a2, len2, cap2, rfl⟩ := okWide_slice Tryz.underlying47 (hval 2 _ v2 rfl rfl)
  have hbk : Rows.uptoBulkAll ([d0, d1, d2] ++ gs) ≤ 1048576 := of_decide_eq_true hk
  have hb2 : Rows.uptoBulk d2 ≤ 1048576 := by
    simp only [List.cons_append, Rows.uptoBulkAll] at hbk
    omega
  obtain ⟨fuel1, hf1⟩ := h1
  obtain ⟨bs, p1', cap1', hcs1, hsb, _⟩ := open_bytes hf1
  obtain ⟨rfl, rfl, rfl⟩ := slice_cells hcs1
  obtain ⟨fuel2, hf2⟩ := h2
  obtain ⟨dl, p2', cap2', hcs2, hrd, hrg, hfw⟩ := open_deeds hf2
  obtain ⟨rfl, rfl, rfl⟩ := slice_cells hcs2
  have hdi : ∀ d ∈ dl.map DeedD.v, DeedIn d := by
    intro d hd
    obtain ⟨x, hx, rfl⟩ := List.mem_map.1 hd
    exact (hrg x hx).rg
  refine ((new_law (memOf W) ⟨a, b, c, d, e⟩ a1 cap1 bs a2 cap2 dl hsb hrd hdi (by dsimp only at hfw; omega)).runs W (memOf_at W)).mono fun e W' ⟨v, M', H', he, hst, hv⟩ => ?_
  subst he
  subst hv
  exact ⟨_, rfl, law_post laidOut hW' (by kernel_rfl) rfl (st_below hst) rfl Tryz.underlying4 rfl⟩
theorem proved : Rows.JournalNewUptoSaid :=
  OpenClaim.holds_of_cond 9 Tryz.f9 rfl rfl rfl rfl rfl rfl rfl ⟨rfl, rfl, rfl, rfl, rfl⟩ rfl rfl rfl rfl rfl (by kernel_rfl) Tryz.func9 (by kernel_rfl)
    (of_decide_eq_true (by kernel_rfl)) (by unfold Func.isWrapper; first | (rw [if_pos (by decide +kernel)]; kernel_rfl) | (rw [if_neg (by decide +kernel)]; exact ⟨rfl, rfl⟩))
    (fun os started H enc _ F => lifted os started H enc F)
end Go.Proofs.YtaeeahcokiebdaaGreat.journalNew
namespace Go.Proofs.YtaeeahcokiebdaaGreat
/-- The law JournalNew, in the second given form. -/
theorem journalNew_holds : Rows.JournalNewUptoSaid := journalNew.proved
#print axioms journalNew_holds
end Go.Proofs.YtaeeahcokiebdaaGreat
