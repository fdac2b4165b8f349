/-
  Regions whose order is drawn: what is computed does not hang on when it is computed.
  Conditions: none; everything here is proved over any program that follows the mixed orders.
-/
import Derived.Test.YtaeeahcokiebdaaKf
namespace Go.Proofs.Ytaeeahcokiebdaa
variable {P : Program}
open Region (binds)

/-! ### The orders that may be drawn -/
def Ready (ops : Array Oper) (S : List Nat) (i : Nat) : Prop :=
  i ∉ S ∧ ∃ o, ops[i]? = some o ∧ ∀ e ∈ o.after, binds .any e = true → e.on ∈ S
inductive Sched (ops : Array Oper) : List Nat → List Nat → Prop
  | nil {S} : (∀ i, ¬ Ready ops S i) → Sched ops S []
  | cons {S i l} : Ready ops S i → Sched ops (i :: S) l → Sched ops S (i :: l)
theorem getD_set {l : Array Bool} {i k : Nat} (h : i < l.size) : (l.setIfInBounds i true).getD k false = (decide (i = k) || l.getD k false) := by
  simp only [Array.getD_eq_getD_getElem?, Array.getElem?_setIfInBounds]
  by_cases e : i = k
  · subst e; simp [h]
  · simp [e]
theorem sched_go (ops : Array Oper) : ∀ (fuel t : Nat) (listed : Array Bool) (acc : List Nat), listed.size = ops.size → (∀ i, listed.getD i false = true ↔ i ∈ acc) → acc.Nodup → ops.size ≤ acc.length + fuel →
    ∃ l, Region.linearise.go .any ops fuel t listed acc = acc.reverse ++ l ∧ Sched ops acc l := by
  intro fuel
  induction fuel with
  | zero =>
    intro t listed acc hs hl hn hc
    refine ⟨[], by simp [Region.linearise.go], .nil ?_⟩
    intro i ⟨hi, o, ho, _⟩
    have hlt : i < ops.size := (Array.getElem?_eq_some_iff.1 ho).1
    have hsub : ∀ x ∈ i :: acc, x ∈ List.range ops.size := by
      intro x hx
      rcases List.mem_cons.1 hx with rfl | hx
      · simp [hlt]
      · have := (hl x).2 hx
        rcases Nat.lt_or_ge x ops.size with h1 | h1
        · simp [h1]
        · rw [Array.getD_eq_getD_getElem?, Array.getElem?_eq_none (by omega)] at this; simp at this
    have := List.Nodup.length_le_of_subset (List.nodup_cons.2 ⟨hi, hn⟩) (fun x hx => hsub x hx)
    simp at this
    omega
  | succ fuel ih =>
    intro t listed acc hs hl hn hc
    simp only [Region.linearise.go]
    generalize hrs : (List.range ops.size).filter (fun i => !listed.getD i true && ((ops[i]?).map (·.after.all fun e => !binds .any e || listed.getD e.on false)).getD false) = rs
    have hready : ∀ i, i ∈ rs ↔ Ready ops acc i := by
      intro i
      rw [← hrs, List.mem_filter]
      simp only [List.mem_range, Bool.and_eq_true, Bool.not_eq_true']
      constructor
      · rintro ⟨h1, h2, h3⟩
        have h2' : listed.getD i false = false := by
          rw [Array.getD_eq_getD_getElem?] at h2 ⊢
          rw [Array.getElem?_eq_getElem (by omega)] at h2 ⊢
          simpa using h2
        refine ⟨fun hm => (by rw [(hl i).2 hm] at h2'; cases h2'), ?_⟩
        cases ho : ops[i]? with
        | none => rw [ho] at h3; simp at h3
        | some o =>
          refine ⟨o, rfl, ?_⟩
          rw [ho] at h3
          simp only [Option.map_some, Option.getD_some, Array.all_eq_true_iff_forall_mem] at h3
          intro e he hb
          have := h3 e he
          rw [hb] at this
          exact (hl _).1 (by simpa using this)
      · rintro ⟨h1, o, ho, h2⟩
        have hlt : i < ops.size := (Array.getElem?_eq_some_iff.1 ho).1
        refine ⟨hlt, ?_, ?_⟩
        · have : listed.getD i false = false := by
            cases hh : listed.getD i false with
            | false => rfl
            | true => exact absurd ((hl i).1 hh) h1
          rw [Array.getD_eq_getD_getElem?] at this ⊢
          rw [Array.getElem?_eq_getElem (by omega)] at this ⊢
          simpa using this
        · rw [ho]
          simp only [Option.map_some, Option.getD_some, Array.all_eq_true_iff_forall_mem]
          intro e he
          cases hb : binds .any e with
          | false => rfl
          | true => simp only [Bool.not_true, Bool.false_or]; exact (hl _).2 (h2 e he hb)
    cases hx : rs[t % rs.length]? with
    | none =>
      refine ⟨[], by simp, .nil fun i hi => ?_⟩
      have hm := (hready i).2 hi
      have hpos : 0 < rs.length := List.length_pos_of_mem hm
      have := Nat.mod_lt t hpos
      rw [List.getElem?_eq_getElem this] at hx
      cases hx
    | some i =>
      have hm : i ∈ rs := List.mem_of_getElem? hx
      have hr := (hready i).1 hm
      have hlt : i < ops.size := by obtain ⟨_, o, ho, _⟩ := hr; exact (Array.getElem?_eq_some_iff.1 ho).1
      obtain ⟨l, h1, h2⟩ := ih (t / rs.length) (listed.setIfInBounds i true) (i :: acc) (by simpa using hs) (by
        intro k
        rw [getD_set (by omega)]
        simp only [Bool.or_eq_true, decide_eq_true_eq, List.mem_cons, hl k]
        constructor
        · rintro (h | h)
          · exact .inl h.symm
          · exact .inr h
        · rintro (h | h)
          · exact .inl h.symm
          · exact .inr h) (List.nodup_cons.2 ⟨hr.1, hn⟩) (by simp; omega)
      exact ⟨i :: l, by simp [h1], .cons hr h2⟩
theorem sched_linearise (ops : Array Oper) (t : Nat) : Sched ops [] (Region.linearise .any ops t) := by
  obtain ⟨l, h1, h2⟩ := sched_go ops ops.size t (Array.replicate ops.size false) [] (by simp) (by
    intro i
    simp only [Array.getD_eq_getD_getElem?, Array.getElem?_replicate, List.not_mem_nil, iff_false]
    split <;> simp) List.nodup_nil (by simp)
  have : Region.linearise .any ops t = l := by simpa [Region.linearise] using h1
  rw [this]; exact h2

/-! ### What has been computed, executed or not -/
def dstOf (ops : Array Oper) (i : Nat) : Option Tmp := (opAt ops.toList i).bind (·.dst)
def slotsOf (ops : Array Oper) (o : Oper) : List Nat :=
  (o.op.operands.toList.filterMap fun | .tmp t => some t | _ => Option.none) ++ (match o.guard with | Option.none => [] | some (j, _) => (dstOf ops j).toList)
def predOf (o : Oper) (j : Nat) : Bool := o.after.toList.any fun e => binds .any e && Nat.beq e.on j
def natMem (l : List Nat) (x : Nat) : Bool := l.any (Nat.beq x)
/-- Beside each of these that has been computed ahead, this one may be. -/
def okStep (ops : Array Oper) (D : List (Nat × Option Value)) (o : Oper) : Bool :=
  D.all fun p => p.2.isNone || predOf o p.1 || match opAt ops.toList p.1 with
    | Option.none => true
    | some oj => (match o.dst with | Option.none => true | some d => !(natMem (slotsOf ops oj) d) && !(natMem oj.dst.toList d)) && oj.dst.toList.all fun d => !(natMem (slotsOf ops o) d)
def readsOk (ops : Array Oper) (D : List (Nat × Option Value)) (o : Oper) : Bool :=
  D.all fun p => p.2.isNone || predOf o p.1 || match opAt ops.toList p.1 with
    | Option.none => true
    | some oj => oj.dst.toList.all fun d => !(natMem (slotsOf ops o) d)
def freshDst (ops : Array Oper) (D : List (Nat × Option Value)) (d : Tmp) : Bool :=
  D.all fun p => p.2.isNone || match opAt ops.toList p.1 with
    | Option.none => true
    | some oj => !(natMem (slotsOf ops oj) d) && !(natMem oj.dst.toList d)
/-- What is computed ahead writes a slot that nothing else that is computed ahead names. -/
def okStatic (ops : Array Oper) (D : List (Nat × Option Value)) (o : Oper) : Bool :=
  readsOk ops D o && match o.dst with
    | Option.none => true
    | some d => !(natMem (slotsOf ops o) d) && freshDst ops D d
def acyc (ops : Array Oper) : Bool := (List.range ops.toList.length).all fun i => match opAt ops.toList i with
  | Option.none => true
  | some o => o.after.toList.all fun e => !(binds .any e) || Nat.blt e.on i
def allPred (D : List (Nat × Option Value)) (o : Oper) : Bool := D.all fun p => p.2.isNone || predOf o p.1
def onlyReady (ops : List Oper) (D ks : List Nat) : Bool :=
  (List.range ops.length).all fun j => natMem D j || natMem ks j || match opAt ops j with
    | Option.none => true
    | some o => o.after.toList.any fun e => binds .any e && !(natMem D e.on)
theorem natMem_iff {l : List Nat} {x : Nat} : natMem l x = true ↔ x ∈ l := by
  unfold natMem
  rw [List.any_eq_true]
  constructor
  · rintro ⟨y, hy, h⟩; rw [Nat.eq_of_beq_eq_true h]; exact hy
  · intro h; exact ⟨x, h, Nat.beq_refl x⟩
theorem predOf_iff {o : Oper} {j : Nat} : predOf o j = true ↔ ∃ e ∈ o.after, binds .any e = true ∧ e.on = j := by
  unfold predOf
  rw [List.any_eq_true]
  constructor
  · rintro ⟨e, he, h⟩; simp only [Bool.and_eq_true] at h; exact ⟨e, by simpa using he, h.1, Nat.eq_of_beq_eq_true h.2⟩
  · rintro ⟨e, he, h1, h2⟩; exact ⟨e, by simpa using he, by simp [h1, h2]⟩

/-- What an operation comes to that changes nothing: executed, or passed over. -/
def Pend (P : Program) (ops : Array Oper) (o : Oper) (E : Env) (M : Mem) (Hr : Heap) (v : Value) : Prop :=
  (wantedE ops o E = some true ∧ Sure P o E M Hr v) ∨ (wantedE ops o E = some false ∧ v = undef)
def Incl (Hr H : Heap) : Prop := ∀ p ∈ Hr, p ∈ H
theorem Incl.refl (H : Heap) : Incl H H := fun _ h => h
theorem Incl.nil (H : Heap) : Incl [] H := fun _ h => by cases h
theorem Incl.cons {p Hr H} (h : p ∈ H) (k : Incl Hr H) : Incl (p :: Hr) H := fun q hq => by
  rcases List.mem_cons.1 hq with rfl | hq
  · exact h
  · exact k q hq
theorem Has.incl {Hr H w} (h : Has H w) (hi : Incl Hr H) : Has Hr w := fun p hp => h p (hi p hp)

structure Inv (P : Program) (c : Cx) (ops : Array Oper) (D : List (Nat × Option Value)) (E : Env) (M : Mem) (H Hr : Heap) (S : List Nat) (a : Act) (w : World) : Prop where
  sub : ∀ i ∈ S, i ∈ D.map (·.1)
  pend : ∀ i v, (i, some v) ∈ D → i ∉ S → ∀ o, ops[i]? = some o → (∀ d, o.dst = some d → eget E d = some v ∧ d < c.n) ∧ Pend P ops o E M Hr v ∧ readsOk ops D o = true
  dyn : ∀ i, (i, Option.none) ∈ D → i ∈ S
  size : a.tmps.size = c.n
  defers : a.defers = []
  get : ∀ s u, eget E s = some u → (∀ i v, (i, some v) ∈ D → i ∉ S → ∀ o, ops[i]? = some o → o.dst ≠ some s) → a.tmps[s]? = some u
  st : St c.w0 c.M0 c.X M H w
  incl : Incl Hr H
/-- The rest of a region whose order is drawn, where D has been computed. -/
def GD (P : Program) (c : Cx) (ops : Array Oper) (K : Env → Mem → Heap → Prop) (D : List (Nat × Option Value)) (E : Env) (M : Mem) (H Hr : Heap) : Prop :=
  ∀ (Q : Exit → Act → World → Prop), (∀ a w E M H, Models c.n E a → St c.w0 c.M0 c.X M H w → K E M H → Q .normal a w) →
    acyc ops = true → ∀ S l a w, Sched ops S l → Inv P c ops D E M H Hr S a w → wpOps P ops Q l a w

theorem slots_operand {ops : Array Oper} {o : Oper} {t : Tmp} (h : Operand.tmp t ∈ o.op.operands) : t ∈ slotsOf ops o := by
  unfold slotsOf
  exact List.mem_append.2 (.inl (List.mem_filterMap.2 ⟨.tmp t, by simpa using h, rfl⟩))
theorem slots_guard {ops : Array Oper} {o : Oper} {j want d} (hg : o.guard = some (j, want)) (hd : dstOf ops j = some d) : d ∈ slotsOf ops o := by
  unfold slotsOf
  rw [hg]
  exact List.mem_append.2 (.inr (by simp [hd]))
theorem Sure.env {o E E' M H v} (h : Sure P o E M H v) (he : ∀ t, Operand.tmp t ∈ o.op.operands → ∀ u, eget E t = some u → eget E' t = some u) : Sure P o E' M H v := by
  intro a w hav ha hh
  refine h a w (fun x hx u hu => ?_) ha hh
  refine hav x hx u ?_
  cases x with
  | tmp t => exact he t hx u hu
  | const c => exact hu
  | func f => exact hu
  | global g => exact hu
theorem Sure.mem {o E M M' H v} (h : Sure P o E M H v) (hl : MLe M M') : Sure P o E M' H v :=
  fun a w hav ha hh => h a w hav (fun b c hb => ha b c (hl b c hb)) hh
theorem wantedE_env {ops : Array Oper} {o : Oper} {E E' : Env} {r : Bool} (h : wantedE ops o E = some r) (he : ∀ j want d, o.guard = some (j, want) → dstOf ops j = some d → eget E' d = eget E d) : wantedE ops o E' = some r := by
  unfold wantedE at h ⊢
  cases hg : o.guard with
  | none => rw [hg] at h; exact h
  | some p =>
    obtain ⟨j, want⟩ := p
    rw [hg] at h
    simp only at h ⊢
    cases hd : (opAt ops.toList j).bind (·.dst) with
    | none => rw [hd] at h; simp at h
    | some d =>
      rw [hd] at h
      simp only [Option.bind_some] at h ⊢
      rw [he j want d hg hd]
      exact h
theorem Pend.cons {ops o E M Hr v d u} (h : Pend P ops o E M Hr v) (hd : d ∉ slotsOf ops o) : Pend P ops o ((d, u) :: E) M Hr v := by
  have hne : ∀ t, t ∈ slotsOf ops o → Nat.beq d t = false := fun t ht => by
    cases hb : Nat.beq d t with
    | false => rfl
    | true => rw [Nat.eq_of_beq_eq_true hb] at hd; exact absurd ht hd
  have hw : ∀ r, wantedE ops o E = some r → wantedE ops o ((d, u) :: E) = some r := fun r hr =>
    wantedE_env hr fun j want d' hg hd' => by simp [eget, hne d' (slots_guard hg hd')]
  rcases h with ⟨h1, h2⟩ | ⟨h1, h2⟩
  · exact .inl ⟨hw _ h1, h2.env fun t ht u' hu' => by simp [eget, hne t (slots_operand ht), hu']⟩
  · exact .inr ⟨hw _ h1, h2⟩
theorem Pend.mem {ops o E M M' Hr v} (h : Pend P ops o E M Hr v) (hl : MLe M M') : Pend P ops o E M' Hr v :=
  h.imp (fun ⟨a, b⟩ => ⟨a, b.mem hl⟩) id
/-- The slots that an operation reads hold what has been computed, once what it hangs on has been executed. -/
theorem Inv.reads {c ops D E M H Hr S a w} (h : Inv P c ops D E M H Hr S a w) {o : Oper} (hr : ∀ e ∈ o.after, binds .any e = true → e.on ∈ S)
    (hok : readsOk ops D o = true) {s u} (hs : s ∈ slotsOf ops o) (hu : eget E s = some u) : a.tmps[s]? = some u := by
  refine h.get s u hu fun i v hi hn oi hoi hd => ?_
  unfold readsOk at hok
  have := List.all_eq_true.1 hok (i, some v) hi
  simp only [Option.isNone_some, Bool.false_or, Bool.or_eq_true] at this
  rcases this with h1 | h1
  · obtain ⟨e, he, hb, hon⟩ := predOf_iff.1 h1
    exact hn (hon ▸ hr e he hb)
  · rw [opAt_eq, Array.getElem?_toList, hoi] at h1
    simp only [List.all_eq_true] at h1
    have := h1 s (by simp [hd])
    rw [Bool.not_eq_true'] at this
    rw [natMem_iff.2 hs] at this
    cases this
theorem Inv.avail {c ops D E M H Hr S a w} (h : Inv P c ops D E M H Hr S a w) {o : Oper} (hr : ∀ e ∈ o.after, binds .any e = true → e.on ∈ S)
    (hok : readsOk ops D o = true) : Avail E a o := by
  intro x hx v hv
  cases x with
  | tmp t =>
    have := h.reads hr hok (slots_operand hx) hv
    simp [Act.eval, Array.getD_eq_getD_getElem?, this]
  | const c => simpa [eev, Act.eval] using hv
  | func f => simpa [eev, Act.eval] using hv
  | global g => simp [eev] at hv
theorem Inv.wanted {c ops D E M H Hr S a w} (h : Inv P c ops D E M H Hr S a w) {o : Oper} (hr : ∀ e ∈ o.after, binds .any e = true → e.on ∈ S)
    (hok : readsOk ops D o = true) {r} (hw : wantedE ops o E = some r) : Region.wanted o (yielded ops a.tmps) = r := by
  unfold wantedE at hw
  unfold Region.wanted
  cases hg : o.guard with
  | none => rw [hg] at hw; simpa using hw
  | some p =>
    obtain ⟨j, want⟩ := p
    rw [hg] at hw
    simp only at hw ⊢
    cases hd : (opAt ops.toList j).bind (·.dst) with
    | none => rw [hd] at hw; simp at hw
    | some d =>
      rw [hd] at hw
      simp only [Option.bind_some] at hw
      split at hw
      · rename_i b hb
        have := h.reads hr hok (slots_guard hg hd) hb
        unfold yielded
        rw [opAt_eq, Array.getElem?_toList] at hd
        rw [hd]
        simp only [Option.bind_some]
        rw [this]
        simp at hw
        subst hw
        cases b <;> cases want <;> rfl
      · rename_i vs hb
        have := h.reads hr hok (slots_guard hg hd) hb
        unfold yielded
        rw [opAt_eq, Array.getElem?_toList] at hd
        rw [hd]
        simp only [Option.bind_some]
        rw [this]
        simp at hw
        subst hw
        cases want <;> rfl
      · cases hw

theorem not_natMem {l : List Nat} {x : Nat} : (!(natMem l x)) = true ↔ x ∉ l := by
  rw [Bool.not_eq_true', ← natMem_iff, Bool.not_eq_true]
theorem ready_exists {ops : Array Oper} (hac : acyc ops = true) {S : List Nat} : ∀ i, i < ops.size → i ∉ S → ∃ j, Ready ops S j := by
  intro i
  induction i using Nat.strongRecOn with
  | _ i ih =>
    intro hi hS
    by_cases h : ∃ j, j < i ∧ j ∉ S
    · obtain ⟨j, hj, hjS⟩ := h; exact ih j hj (by omega) hjS
    · refine ⟨i, hS, ops[i], by simp [hi], fun e he hb => ?_⟩
      have h1 := List.all_eq_true.1 hac i (by simp [hi])
      rw [opAt_eq, Array.getElem?_toList, Array.getElem?_eq_getElem hi] at h1
      simp only [List.all_eq_true] at h1
      have h2 := h1 e (by simpa using he)
      rw [hb] at h2
      have h3 : e.on < i := blt_lt (by simpa using h2)
      exact Decidable.byContradiction fun hc => h ⟨e.on, h3, hc⟩
/-- One that was computed ahead is executed. -/
theorem Inv.exec {c ops D E M H Hr S a w} (h : Inv P c ops D E M H Hr S a w) {i v o} (hi : (i, some v) ∈ D) (hn : i ∉ S) (ho : ops[i]? = some o) (hr : ∀ e ∈ o.after, binds .any e = true → e.on ∈ S)
    (hu : ∀ v', (i, some v') ∈ D → v' = v) {Q : Exit → Act → World → Prop} {rest : List Nat}
    (k : Inv P c ops D E M H Hr (i :: S) (a.put o.dst v) w → wpOps P ops Q rest (a.put o.dst v) w) : wpOps P ops Q (i :: rest) a w := by
  obtain ⟨hdst, hp, hro⟩ := h.pend i v hi hn o ho
  have hinv : Inv P c ops D E M H Hr (i :: S) (a.put o.dst v) w := by
    refine ⟨?_, ?_, fun j hj => List.mem_cons_of_mem _ (h.dyn j hj), ?_, ?_, ?_, h.st, h.incl⟩
    · intro j hj
      rcases List.mem_cons.1 hj with rfl | hj
      · exact List.mem_map.2 ⟨_, hi, rfl⟩
      · exact h.sub j hj
    · intro j u hj hjS oj hoj
      exact h.pend j u hj (fun hm => hjS (List.mem_cons_of_mem _ hm)) oj hoj
    · cases hd : o.dst <;> simp [Act.put, h.size]
    · cases hd : o.dst <;> simp [Act.put, h.defers]
    · intro s u hs hfree
      cases hd : o.dst with
      | none =>
        simp only [Act.put]
        refine h.get s u hs fun j vj hj hjS oj hoj hoj' => ?_
        by_cases e : j = i
        · subst e; rw [ho] at hoj; injection hoj with hoj; subst hoj; rw [hd] at hoj'; cases hoj'
        · exact hfree j vj hj (by simp [e, hjS]) oj hoj hoj'
      | some d =>
        obtain ⟨hd1, hd2⟩ := hdst d hd
        simp only [Act.put]
        by_cases e : d = s
        · subst e
          rw [hd1] at hs
          simp [h.size, hd2]
          injection hs
        · simp only [Array.getElem?_setIfInBounds, if_neg e]
          refine h.get s u hs fun j vj hj hjS oj hoj hoj' => ?_
          by_cases e' : j = i
          · subst e'; rw [ho] at hoj; injection hoj with hoj; subst hoj; rw [hd] at hoj'; injection hoj' with hoj'; exact e hoj'
          · exact hfree j vj hj (by simp [e', hjS]) oj hoj hoj'
  simp only [wpOps, ho]
  rcases hp with ⟨hw, hs⟩ | ⟨hw, rfl⟩
  · rw [if_pos (h.wanted hr hro hw)]
    refine .inl ?_
    unfold Oper.wp
    rw [hs a w (h.avail hr hro) h.st.agr (h.st.has.incl h.incl), Oper.upon_value]
    exact k hinv
  · rw [if_neg (by rw [h.wanted hr hro hw]; simp)]
    exact k hinv

abbrev fsts (D : List (Nat × Option Value)) : List Nat := D.map (·.1)
def dups : List Nat → Bool
  | [] => false
  | x :: l => natMem l x || dups l
theorem dups_val {D : List (Nat × Option Value)} (h : dups (fsts D) = false) {i : Nat} {x y} (hx : (i, x) ∈ D) (hy : (i, y) ∈ D) : x = y := by
  induction D with
  | nil => cases hx
  | cons p D ih =>
    simp only [fsts, List.map_cons, dups, Bool.or_eq_false_iff] at h
    have hnm : ∀ z, (p.1, z) ∉ D := fun z hz => by
      have := natMem_iff.2 (List.mem_map.2 ⟨(p.1, z), hz, rfl⟩ : p.1 ∈ List.map (·.1) D)
      rw [h.1] at this; cases this
    rcases List.mem_cons.1 hx with e | hx2
    · rcases List.mem_cons.1 hy with e' | hy2
      · rw [← e] at e'; injection e' with _ e'; exact e'.symm
      · subst e; exact absurd hy2 (hnm y)
    · rcases List.mem_cons.1 hy with e' | hy2
      · subst e'; exact absurd hx2 (hnm x)
      · exact ih h.2 hx2 hy2
theorem GD.done {c ops K D E M H Hr} (hdup : dups (fsts D) = false) (hall : ((List.range ops.toList.length).all fun i => natMem (fsts D) i) = true) (hK : K E M H) : GD P c ops K D E M H Hr := by
  intro Q hQ hac S l
  induction l generalizing S with
  | nil =>
    intro a w hsch hinv
    cases hsch with
    | nil hnone =>
      have hS : ∀ i, i < ops.size → i ∈ S := fun i hi => Decidable.byContradiction fun hc => by
        obtain ⟨j, hj⟩ := ready_exists hac i hi hc
        exact hnone j hj
      refine hQ a w E M H ⟨hinv.size, hinv.defers, fun s u hu => hinv.get s u hu fun i v _ hn o ho => ?_⟩ hinv.st hK
      exact absurd (hS i (Array.getElem?_eq_some_iff.1 ho).1) hn
  | cons i l ih =>
    intro a w hsch hinv
    cases hsch with
    | cons hr hrest =>
      obtain ⟨hn, o, ho, hpre⟩ := hr
      have hlt : i < ops.size := (Array.getElem?_eq_some_iff.1 ho).1
      have hm : i ∈ fsts D := natMem_iff.1 (List.all_eq_true.1 hall i (by simp [hlt]))
      obtain ⟨⟨i', x⟩, hx, rfl⟩ := List.mem_map.1 hm
      cases x with
      | none => exact absurd (hinv.dyn _ hx) hn
      | some v => exact hinv.exec hx hn ho hpre (fun v' hv' => by injection dups_val hdup hv' hx) fun hinv' => ih _ _ _ hrest hinv'
theorem GD.static {c ops K D E M H Hr j o d v} (hj : opAt ops.toList j = some o) (hnD : natMem (fsts D) j = false) (hd : o.dst = some d) (hn : Nat.blt d c.n = true)
    (hok : okStatic ops D o = true) (hp : Pend P ops o E M Hr v) (h : GD P c ops K ((j, some v) :: D) ((d, v) :: E) M H Hr) : GD P c ops K D E M H Hr := by
  intro Q hQ hac S l a w hsch hinv
  refine h Q hQ hac S l a w hsch ?_
  have hjD : ∀ x, (j, x) ∉ D := fun x hx => by
    have := natMem_iff.2 (List.mem_map.2 ⟨(j, x), hx, rfl⟩ : j ∈ fsts D); rw [hnD] at this; cases this
  have hjS : j ∉ S := fun hm => by
    have := natMem_iff.2 (hinv.sub j hm : j ∈ fsts D); rw [hnD] at this; cases this
  rw [opAt_eq, Array.getElem?_toList] at hj
  unfold okStatic at hok
  rw [hd] at hok
  simp only [Bool.and_eq_true] at hok
  obtain ⟨hro, hself, hall⟩ := hok
  have hself' := not_natMem.1 hself
  refine ⟨fun i hi => List.mem_cons_of_mem _ (hinv.sub i hi), ?_, ?_, hinv.size, hinv.defers, ?_, hinv.st, hinv.incl⟩
  · intro i v' hi hiS oi hoi
    rcases List.mem_cons.1 hi with e | hi
    · injection e with e1 e2
      subst e1
      injection e2 with e2
      subst e2
      rw [hj] at hoi
      injection hoi with hoi
      subst hoi
      refine ⟨fun d' hd' => ?_, hp.cons hself', ?_⟩
      · rw [hd] at hd'; injection hd' with hd'; subst hd'; exact ⟨by simp [eget], blt_lt hn⟩
      · unfold readsOk at hro ⊢
        rw [List.all_cons, hro]
        rw [opAt_eq, Array.getElem?_toList, hj]
        simp [hd, hself]
    · obtain ⟨h1, h2, h3⟩ := hinv.pend i v' hi hiS oi hoi
      have h4 := List.all_eq_true.1 hall (i, some v') hi
      simp only [Option.isNone_some, Bool.false_or] at h4
      rw [opAt_eq, Array.getElem?_toList, hoi] at h4
      simp only [Bool.and_eq_true] at h4
      have h5 := not_natMem.1 h4.1
      have h6 := not_natMem.1 h4.2
      refine ⟨fun d' hd' => ?_, h2.cons h5, ?_⟩
      · obtain ⟨g1, g2⟩ := h1 d' hd'
        refine ⟨?_, g2⟩
        have : Nat.beq d d' = false := by
          cases hb : Nat.beq d d' with
          | false => rfl
          | true => rw [Nat.eq_of_beq_eq_true hb] at h6; exact absurd (by simp [hd']) h6
        simp [eget, this, g1]
      · unfold readsOk at h3 ⊢
        rw [List.all_cons, h3]
        rw [opAt_eq, Array.getElem?_toList, hj]
        simp [hd, h4.1]
  · intro i hi
    rcases List.mem_cons.1 hi with e | hi
    · cases e
    · exact hinv.dyn i hi
  · intro s u hs hfree
    have hne : d ≠ s := fun e => hfree j v (by simp) hjS o hj (by rw [hd, e])
    have : Nat.beq d s = false := by
      cases hb : Nat.beq d s with
      | false => rfl
      | true => exact absurd (Nat.eq_of_beq_eq_true hb) hne
    simp only [eget, this, cond_false] at hs
    exact hinv.get s u hs fun i v' hi hiS oi hoi => hfree i v' (List.mem_cons_of_mem _ hi) hiS oi hoi
def consE (d : Option Tmp) (v : Value) (E : Env) : Env := match d with
  | some d => (d, v) :: E
  | Option.none => E
def dstOk (n : Nat) : Option Tmp → Bool
  | some d => Nat.blt d n
  | Option.none => true
/-- What is computed, and not sure to have run ahead of o, is so over fewer blocks too. -/
def PendAll (P : Program) (ops : Array Oper) (o : Oper) (E : Env) (M : Mem) (Hr : Heap) : List (Nat × Option Value) → Prop
  | [] => True
  | (_, Option.none) :: D => PendAll P ops o E M Hr D
  | (j, some v) :: D => (predOf o j = true ∨ ∃ oj, opAt ops.toList j = some oj ∧ Pend P ops oj E M Hr v) ∧ PendAll P ops o E M Hr D
theorem PendAll.get {ops : Array Oper} {o : Oper} {E M Hr} : ∀ {D : List (Nat × Option Value)}, PendAll P ops o E M Hr D → ∀ j v, (j, some v) ∈ D → predOf o j = false → ∀ oj, opAt ops.toList j = some oj → Pend P ops oj E M Hr v
  | [], _, _, _, h, _, _, _ => by cases h
  | (_, Option.none) :: D, hp, j, v, h, hn, oj, ho => by
    rcases List.mem_cons.1 h with e | h
    · cases e
    · exact PendAll.get (D := D) hp j v h hn oj ho
  | (i, some u) :: D, hp, j, v, h, hn, oj, ho => by
    rcases List.mem_cons.1 h with e | h
    · injection e with e1 e2; injection e2 with e2; subst e1; subst e2
      rcases hp.1 with h1 | ⟨oj', h1, h2⟩
      · rw [hn] at h1; cases h1
      · rw [ho] at h1; injection h1 with h1; subst h1; exact h2
    · exact PendAll.get (D := D) hp.2 j v h hn oj ho
/-- One operation that may change memory is next, among several. -/
structure Next (P : Program) (c : Cx) (ops : Array Oper) (K : Env → Mem → Heap → Prop) (D : List (Nat × Option Value)) (E : Env) (M : Mem) (H Hr : Heap) (k : Nat) : Prop where
  step : ∃ o, opAt ops.toList k = some o ∧ dstOk c.n o.dst = true ∧ okStep ops D o = true ∧ readsOk ops D o = true ∧ wantedE ops o E = some true ∧
    Dyn P c o E M H (fun v M' H' => MLe M M' ∧ ∃ Hr', (Hr' = Hr ∨ allPred D o = true ∨ PendAll P ops o E M Hr' D) ∧ Incl Hr' H' ∧ GD P c ops K ((k, Option.none) :: D) (consE o.dst v E) M' H' Hr')
theorem GD.next {c ops K D E M H Hr} (ks : List Nat) (hdup : dups (fsts D) = false) (hne : ∃ k ∈ ks, k < ops.toList.length ∧ natMem (fsts D) k = false) (honly : onlyReady ops.toList (fsts D) ks = true)
    (h : ∀ k ∈ ks, Next P c ops K D E M H Hr k) : GD P c ops K D E M H Hr := by
  intro Q hQ hac S l
  obtain ⟨k0, hk0, hk0lt, hk0D⟩ := hne
  induction l generalizing S with
  | nil =>
    intro a w hsch hinv
    cases hsch with
    | nil hnone =>
      exfalso
      have : k0 ∉ S := fun hm => by
        have := natMem_iff.2 (hinv.sub k0 hm : k0 ∈ fsts D); rw [hk0D] at this; cases this
      obtain ⟨j, hj⟩ := ready_exists hac k0 (by simpa using hk0lt) this
      exact hnone j hj
  | cons i l ih =>
    intro a w hsch hinv
    cases hsch with
    | cons hr hrest =>
      obtain ⟨hn, o, ho, hpre⟩ := hr
      have hlt : i < ops.size := (Array.getElem?_eq_some_iff.1 ho).1
      by_cases hmD : i ∈ fsts D
      · obtain ⟨⟨i', x⟩, hx, rfl⟩ := List.mem_map.1 hmD
        cases x with
        | none => exact absurd (hinv.dyn _ hx) hn
        | some v => exact hinv.exec hx hn ho hpre (fun v' hv' => by injection dups_val hdup hv' hx) fun hinv' => ih _ _ _ hrest hinv'
      · have hik : i ∈ ks := by
          have h1 := List.all_eq_true.1 honly i (by simp [hlt])
          simp only [Bool.or_eq_true] at h1
          rcases h1 with (h1 | h1) | h1
          · exact absurd (natMem_iff.1 h1) hmD
          · exact natMem_iff.1 h1
          · rw [opAt_eq, Array.getElem?_toList, ho] at h1
            simp only [List.any_eq_true, Bool.and_eq_true] at h1
            obtain ⟨e, he, hb, hnm⟩ := h1
            exact absurd (hinv.sub _ (hpre e (by simpa using he) hb)) (not_natMem.1 hnm)
        obtain ⟨o', ho', hdok, hok, hro, hw, hdyn⟩ := (h i hik).step
        rw [opAt_eq, Array.getElem?_toList, ho] at ho'
        injection ho' with ho'
        subst ho'
        simp only [wpOps, ho]
        rw [if_pos (hinv.wanted hpre hro hw)]
        refine .inl ?_
        refine hdyn a w (hinv.avail hpre hro) hinv.st _ Q fun v M' H' w' hst' hnext => ?_
        obtain ⟨hle, Hr', hHr, hinc, hgd⟩ := hnext
        refine hgd Q hQ hac (i :: S) l _ _ hrest ?_
        have hnp : ∀ j v', (j, some v') ∈ D → j ∉ i :: S → predOf o j = false := fun j v' _ hjS => by
          cases hp : predOf o j with
          | false => rfl
          | true =>
            obtain ⟨e, he, hb, hon⟩ := predOf_iff.1 hp
            exact absurd (List.mem_cons_of_mem _ (hon ▸ hpre e he hb)) hjS
        have hHr' : ∀ j v', (j, some v') ∈ D → j ∉ i :: S → ∀ oj, ops[j]? = some oj → Pend P ops oj E M Hr v' → Pend P ops oj E M Hr' v' := fun j v' hj hjS oj hoj hpd => by
          rcases hHr with h1 | h1 | h1
          · rw [h1]; exact hpd
          · have := List.all_eq_true.1 h1 (j, some v') hj
            simp only [Option.isNone_some, Bool.false_or] at this
            rw [hnp j v' hj hjS] at this; cases this
          · exact h1.get j v' hj (hnp j v' hj hjS) oj (by rw [opAt_eq, Array.getElem?_toList, hoj])
        refine ⟨?_, ?_, ?_, ?_, ?_, ?_, hst', hinc⟩
        · intro j hj
          rcases List.mem_cons.1 hj with rfl | hj
          · simp
          · exact List.mem_cons_of_mem _ (hinv.sub j hj)
        · intro j v' hj hjS oj hoj
          rcases List.mem_cons.1 hj with e | hj
          · cases e
          · obtain ⟨h1, h2, h3⟩ := hinv.pend j v' hj (fun hm => hjS (List.mem_cons_of_mem _ hm)) oj hoj
            have h4 := List.all_eq_true.1 hok (j, some v') hj
            simp only [Option.isNone_some, Bool.false_or, hnp j v' hj hjS] at h4
            rw [opAt_eq, Array.getElem?_toList, hoj] at h4
            have h2 := hHr' j v' hj hjS oj hoj h2
            cases hd : o.dst with
            | none => exact ⟨by simpa [consE] using h1, h2.mem hle, by unfold readsOk at h3 ⊢; simp [h3]⟩
            | some d =>
              rw [hd] at h4
              simp only [Bool.and_eq_true] at h4
              have h5 := not_natMem.1 h4.1.1
              have h6 := not_natMem.1 h4.1.2
              refine ⟨fun d' hd' => ?_, (h2.cons h5).mem hle, by unfold readsOk at h3 ⊢; simp [h3]⟩
              obtain ⟨g1, g2⟩ := h1 d' hd'
              refine ⟨?_, g2⟩
              have : Nat.beq d d' = false := by
                cases hb : Nat.beq d d' with
                | false => rfl
                | true => rw [Nat.eq_of_beq_eq_true hb] at h6; exact absurd (by simp [hd']) h6
              simp [consE, eget, this, g1]
        · intro j hj
          rcases List.mem_cons.1 hj with e | hj
          · injection e with e _; subst e; simp
          · exact List.mem_cons_of_mem _ (hinv.dyn j hj)
        · cases hd : o.dst <;> simp [Act.put, hinv.size]
        · cases hd : o.dst <;> simp [Act.put, hinv.defers]
        · intro s u hs hfree
          have hfree' : ∀ j v', (j, some v') ∈ D → j ∉ S → ∀ oj, ops[j]? = some oj → oj.dst ≠ some s := fun j v' hj hjS oj hoj =>
            hfree j v' (List.mem_cons_of_mem _ hj) (by
              intro hm
              rcases List.mem_cons.1 hm with rfl | hm
              · exact hmD (List.mem_map.2 ⟨(j, some v'), hj, rfl⟩)
              · exact hjS hm) oj hoj
          cases hd : o.dst with
          | none =>
            rw [hd] at hs
            exact hinv.get s u (by simpa [consE] using hs) hfree'
          | some d =>
            rw [hd] at hs
            have hdn : d < c.n := blt_lt (by rw [hd] at hdok; exact hdok)
            simp only [Act.put]
            by_cases e : d = s
            · subst e
              simp [consE, eget] at hs
              subst hs
              simp [hinv.size, hdn]
            · have : Nat.beq d s = false := by
                cases hb : Nat.beq d s with
                | false => rfl
                | true => exact absurd (Nat.eq_of_beq_eq_true hb) e
              simp [consE, eget, this] at hs
              simp only [Array.getElem?_setIfInBounds, if_neg e]
              exact hinv.get s u hs hfree'
end Go.Proofs.Ytaeeahcokiebdaa
