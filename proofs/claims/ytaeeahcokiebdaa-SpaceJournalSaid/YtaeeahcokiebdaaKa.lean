/-
  A small separation logic over the model: environments of slots, immutable memory, owned blocks; the rules of code and regions.
  Conditions: none; everything here is proved over any program.
-/
import Derived.Tactics
import Derived.Laws.AppendOwn
import Derived.IntWalk
namespace Go.Proofs.Ytaeeahcokiebdaa

/-! ### Slots -/
abbrev Env := List (Nat × Value)
def eget : Env → Nat → Option Value
  | [], _ => Option.none
  | (i, v) :: E, j => bif Nat.beq i j then some v else eget E j
def eev (E : Env) : Operand → Option Value
  | .tmp t => eget E t
  | .const v => some v
  | .func f => some (.func (.func f) #[] #[])
  | .global _ => Option.none
def evs (E : Env) : List Operand → Option (List Value)
  | [] => some []
  | x :: xs => match eev E x, evs E xs with
    | some v, some vs => some (v :: vs)
    | _, _ => Option.none

structure Models (n : Nat) (E : Env) (a : Act) : Prop where
  size : a.tmps.size = n
  defers : a.defers = []
  get : ∀ i v, eget E i = some v → a.tmps[i]? = some v

theorem Models.eval {n E a} (h : Models n E a) {x v} (hx : eev E x = some v) : a.eval x = v := by
  cases x with
  | tmp t => have := h.get t v hx; simp [Act.eval, Array.getD, Array.getElem?_eq_some_iff] at *; obtain ⟨h1, h2⟩ := this; simp [h1, h2]
  | const u => simpa [eev, Act.eval] using hx
  | func f => simpa [eev, Act.eval] using hx
  | global g => simp [eev] at hx

theorem Models.put {n E a} (h : Models n E a) {d} (hd : d < n) (v : Value) : Models n ((d, v) :: E) (a.put (some d) v) := by
  refine ⟨by simp [Act.put, h.size], by simp [Act.put, h.defers], ?_⟩
  intro i u hu
  simp only [eget] at hu
  simp only [Act.put]
  by_cases hi : d = i
  · subst hi
    simp at hu
    subst hu
    simp [h.size, hd]
  · have hb : Nat.beq d i = false := by
      cases hbb : Nat.beq d i with
      | false => rfl
      | true => exact absurd (Nat.eq_of_beq_eq_true hbb) hi
    simp only [hb, cond_false] at hu
    simp [hi, h.get i u hu]

theorem Models.put_none {n E a} (h : Models n E a) (v : Value) : Models n E (a.put Option.none v) := h

def esub : Env → Env → Prop
  | [], _ => True
  | (i, v) :: E0, E => eget E i = some v ∧ esub E0 E
theorem esub_get : ∀ {E0 E : Env}, esub E0 E → ∀ i v, eget E0 i = some v → eget E i = some v
  | [], _, _, i, v, h => by simp [eget] at h
  | (j, u) :: E0, E, hs, i, v, h => by
    simp only [eget] at h
    cases hb : Nat.beq j i with
    | true =>
      have := Nat.eq_of_beq_eq_true hb
      subst this
      simp at h
      subst h
      exact hs.1
    | false =>
      simp [hb] at h
      exact esub_get hs.2 i v h
theorem Models.sub {n E0 E a} (hs : esub E0 E) (h : Models n E a) : Models n E0 a := ⟨h.size, h.defers, fun i v hv => h.get i v (esub_get hs i v hv)⟩

/-! ### Memory -/
abbrev Mem := Nat → Option (List Value)
def MLe (M M' : Mem) : Prop := ∀ b c, M b = some c → M' b = some c
theorem MLe.refl (M : Mem) : MLe M M := fun _ _ h => h
theorem MLe.trans {M1 M2 M3 : Mem} (h : MLe M1 M2) (k : MLe M2 M3) : MLe M1 M3 := fun b c hb => k b c (h b c hb)

inductive HB where
  | cells (c : List Value)
  | raw (o : Obj)
abbrev Heap := List (Nat × HB)
def HasB (w : World) (b : Nat) : HB → Prop
  | .cells c => ∃ T lo hi, w.heap[b]? = some (.cells c.toArray T (lo, hi)) ∧ hi ≤ lo
  | .raw o => w.heap[b]? = some o
theorem HasB.lt {w : World} {b : Nat} {x : HB} (h : HasB w b x) : b < w.heap.size := by
  cases x with
  | cells c => obtain ⟨T, lo, hi, h1, _⟩ := h; exact (Array.getElem?_eq_some_iff.1 h1).1
  | raw o => exact (Array.getElem?_eq_some_iff.1 h).1
theorem HasB.of_eq {w w' : World} {b : Nat} {x : HB} (h : HasB w b x) (e : w'.heap[b]? = w.heap[b]?) : HasB w' b x := by
  cases x with
  | cells c => obtain ⟨T, lo, hi, h1, h2⟩ := h; exact ⟨T, lo, hi, e.trans h1, h2⟩
  | raw o => exact e.trans h
def Agr (M : Mem) (w : World) : Prop := ∀ b c, M b = some c → ∃ T fz, w.heap[b]? = some (.cells c.toArray T fz)
theorem Agr.lt {M : Mem} {w : World} (h : Agr M w) {b c} (hb : M b = some c) : b < w.heap.size := by
  obtain ⟨T, fz, h1⟩ := h b c hb; exact (Array.getElem?_eq_some_iff.1 h1).1
def Has (H : Heap) (w : World) : Prop := ∀ p ∈ H, HasB w p.1 p.2
abbrev ids (H : Heap) : List Nat := H.map (·.1)

structure Cx where
  n : Nat
  w0 : World
  M0 : Mem
  X : List Nat

structure St (w0 : World) (M0 : Mem) (X : List Nat) (M : Mem) (H : Heap) (w : World) : Prop where
  os : w.os = w0.os
  tape : w.tape = w0.tape
  output : w.output = w0.output
  size : w0.heap.size ≤ w.heap.size
  keep : ∀ b, b < w0.heap.size → b ∉ X → w.heap[b]? = w0.heap[b]?
  le : MLe M0 M
  agr : Agr M w
  fresh : ∀ b c, M b = some c → M0 b = some c ∨ b ∈ X ∨ w0.heap.size ≤ b
  has : Has H w
  apart : ∀ b ∈ ids H, M b = Option.none
  own : ∀ b ∈ ids H, b ∈ X ∨ w0.heap.size ≤ b
  nodup : (ids H).Nodup

/-- The state at the entry of a call. -/
structure At (M : Mem) (H : Heap) (w : World) : Prop where
  agr : Agr M w
  has : Has H w
  apart : ∀ b ∈ ids H, M b = Option.none
  nodup : (ids H).Nodup
theorem At.st {M H w} (h : At M H w) : St w M (ids H) M H w :=
  ⟨rfl, rfl, rfl, Nat.le_refl _, fun _ _ _ => rfl, MLe.refl M, h.agr, fun _ _ hb => .inl hb, h.has, h.apart, fun _ hb => .inl hb, h.nodup⟩
theorem St.at {w0 M0 X M H w} (h : St w0 M0 X M H w) : At M H w := ⟨h.agr, h.has, h.apart, h.nodup⟩

/-! ### Splitting the owned blocks -/
inductive Pick : Nat × HB → Heap → Heap → Prop
  | here {p H} : Pick p (p :: H) H
  | there {p q H H'} : Pick p H H' → Pick p (q :: H) (q :: H')
  | over {p B H H'} : Pick p H H' → Pick p (B ++ H) (B ++ H')
inductive PickL : Heap → Heap → Heap → Prop
  | here {A H} : PickL A (A ++ H) H
  | all {A} : PickL A A []
  | there {A q H H'} : PickL A H H' → PickL A (q :: H) (q :: H')
  | over {A B H H'} : PickL A H H' → PickL A (B ++ H) (B ++ H')
inductive Split : Heap → Heap → Heap → Prop
  | nil {H} : Split [] H H
  | cons {p H0 H H1 R} : Pick p H H1 → Split H0 H1 R → Split (p :: H0) H R
  | consL {A H0 H H1 R} : PickL A H H1 → Split H0 H1 R → Split (A ++ H0) H R
  | one {A H R} : PickL A H R → Split A H R
theorem Pick.perm {p H H'} (h : Pick p H H') : H.Perm (p :: H') := by
  induction h with
  | here => exact .refl _
  | there _ ih => exact (List.Perm.cons _ ih).trans (List.Perm.swap _ _ _)
  | over _ ih => exact (List.Perm.append_left _ ih).trans List.perm_middle
theorem PickL.perm {A H H'} (h : PickL A H H') : H.Perm (A ++ H') := by
  induction h with
  | here => exact .refl _
  | all => simp
  | there _ ih => exact (List.Perm.cons _ ih).trans List.perm_middle.symm
  | over _ ih =>
    refine (List.Perm.append_left _ ih).trans ?_
    rw [← List.append_assoc, ← List.append_assoc]
    exact List.Perm.append_right _ List.perm_append_comm
theorem Split.perm {H0 H R} (h : Split H0 H R) : H.Perm (H0 ++ R) := by
  induction h with
  | nil => exact .refl _
  | cons hp _ ih => exact hp.perm.trans (List.Perm.cons _ ih)
  | consL hp _ ih => rw [List.append_assoc]; exact hp.perm.trans (List.Perm.append_left _ ih)
  | one hp => exact hp.perm
theorem St.perm {w0 M0 X M H H' w} (h : St w0 M0 X M H w) (hp : H.Perm H') : St w0 M0 X M H' w := by
  have hi : (ids H).Perm (ids H') := hp.map _
  exact ⟨h.os, h.tape, h.output, h.size, h.keep, h.le, h.agr, h.fresh, fun p hm => h.has p (hp.mem_iff.2 hm),
    fun b hb => h.apart b (hi.mem_iff.2 hb), fun b hb => h.own b (hi.mem_iff.2 hb), hi.nodup_iff.1 h.nodup⟩
theorem St.left {w0 M0 X M A R w} (h : St w0 M0 X M (A ++ R) w) : St w0 M0 X M A w := by
  have hn := h.nodup
  simp only [ids, List.map_append, List.nodup_append] at hn
  exact ⟨h.os, h.tape, h.output, h.size, h.keep, h.le, h.agr, h.fresh, fun p hm => h.has p (by simp [hm]),
    fun b hb => h.apart b (by simp only [ids, List.map_append, List.mem_append]; exact .inl hb), fun b hb => h.own b (by simp only [ids, List.map_append, List.mem_append]; exact .inl hb), hn.1⟩
theorem St.split {w0 M0 X M H A R w} (h : St w0 M0 X M H w) (hs : Split A H R) : St w0 M0 X M (A ++ R) w := h.perm hs.perm
theorem St.sub {w0 M0 X M H A R w} (h : St w0 M0 X M H w) (hs : Split A H R) : St w0 M0 X M A w := (h.split hs).left

/-- The frame rule: a call that was given A hands back A'. -/
theorem St.frame {w0 M0 X M A R w M' A' w'} (h : St w0 M0 X M (A ++ R) w) (k : St w M (ids A) M' A' w') : St w0 M0 X M' (A' ++ R) w' := by
  have hn := h.nodup
  simp only [ids, List.map_append, List.nodup_append] at hn
  obtain ⟨hnA, hnR, hAR⟩ := hn
  have hR : ∀ p ∈ R, p.1 < w.heap.size ∧ p.1 ∉ ids A ∧ M p.1 = Option.none := fun p hp =>
    ⟨(h.has p (by simp [hp])).lt, fun hm => hAR p.1 hm p.1 (List.mem_map.2 ⟨p, hp, rfl⟩) rfl,
      h.apart p.1 (by simp only [ids, List.map_append, List.mem_append]; exact .inr (List.mem_map.2 ⟨p, hp, rfl⟩))⟩
  have hA : ∀ b ∈ ids A, b ∈ X ∨ w0.heap.size ≤ b := fun b hb => h.own b (by simp only [ids, List.map_append, List.mem_append]; exact .inl hb)
  refine ⟨k.os.trans h.os, k.tape.trans h.tape, k.output.trans h.output, Nat.le_trans h.size k.size, ?_, h.le.trans k.le, k.agr, ?_, ?_, ?_, ?_, ?_⟩
  · intro b hb hx
    have hs := h.size
    rw [k.keep b (by omega) (fun hm => by rcases hA b hm with h1 | h1; exact hx h1; omega)]
    exact h.keep b hb hx
  · intro b c hb
    rcases k.fresh b c hb with h1 | h1 | h1
    · exact h.fresh b c h1
    · exact .inr (hA b h1)
    · have hs := h.size; exact .inr (.inr (by omega))
  · intro p hp
    rcases List.mem_append.1 hp with hp | hp
    · exact k.has p hp
    · obtain ⟨h1, h2, _⟩ := hR p hp
      exact (h.has p (by simp [hp])).of_eq (k.keep p.1 h1 h2)
  · intro b hb
    simp only [ids, List.map_append, List.mem_append] at hb
    rcases hb with hb | hb
    · exact k.apart b hb
    · obtain ⟨p, hp, rfl⟩ := List.mem_map.1 hb
      obtain ⟨h1, h2, h3⟩ := hR p hp
      cases hm : M' p.1 with
      | none => rfl
      | some c =>
        rcases k.fresh p.1 c hm with h4 | h4 | h4
        · rw [h3] at h4; cases h4
        · exact absurd h4 h2
        · omega
  · intro b hb
    simp only [ids, List.map_append, List.mem_append] at hb
    rcases hb with hb | hb
    · rcases k.own b hb with h1 | h1
      · exact hA b h1
      · have hs := h.size; exact .inr (by omega)
    · exact h.own b (by simp only [ids, List.map_append, List.mem_append]; exact .inr hb)
  · simp only [ids, List.map_append, List.nodup_append]
    refine ⟨k.nodup, hnR, fun b hb b' hb' e => ?_⟩
    subst e
    obtain ⟨p, hp, rfl⟩ := List.mem_map.1 hb'
    obtain ⟨h1, h2, _⟩ := hR p hp
    rcases k.own _ hb with h4 | h4
    · exact h2 h4
    · omega

/-! ### One operation -/
variable {P : Program}
def Avail (E : Env) (a : Act) (o : Oper) : Prop := ∀ x ∈ o.op.operands, ∀ v, eev E x = some v → a.eval x = v
theorem Models.avail {n E a} (h : Models n E a) (o : Oper) : Avail E a o := fun _ _ _ hv => h.eval hv
def Sure (P : Program) (o : Oper) (E : Env) (M : Mem) (H : Heap) (v : Value) : Prop :=
  ∀ a w, Avail E a o → Agr M w → Has H w → (execOp a.eval o).run P w = .ok (.value v) w
def Dyn (P : Program) (c : Cx) (o : Oper) (E : Env) (M : Mem) (H : Heap) (next : Value → Mem → Heap → Prop) : Prop :=
  ∀ a w, Avail E a o → St c.w0 c.M0 c.X M H w → ∀ (K : Act → World → Prop) (Q : Exit → Act → World → Prop),
    (∀ v M' H' w', St c.w0 c.M0 c.X M' H' w' → next v M' H' → K (a.put o.dst v) w') → o.wp P a w K Q

/-! ### A region whose order is the text's -/
def G (P : Program) (c : Cx) (ops : Array Oper) (K : Env → Mem → Heap → Prop) (l : List Oper) (E : Env) (M : Mem) (H : Heap) : Prop :=
  ∀ (Q : Exit → Act → World → Prop), (∀ a w E M H, Models c.n E a → St c.w0 c.M0 c.X M H w → K E M H → Q .normal a w) →
    ∀ a w, Models c.n E a → St c.w0 c.M0 c.X M H w → wpList P ops Q l a w
def opAt : List Oper → Nat → Option Oper
  | [], _ => Option.none
  | o :: l, j => bif Nat.beq j 0 then some o else opAt l (j - 1)
theorem opAt_eq : ∀ (l : List Oper) (j : Nat), opAt l j = l[j]?
  | [], j => by simp [opAt]
  | o :: l, 0 => by simp [opAt]
  | o :: l, j + 1 => by
    have h : Nat.beq (j + 1) 0 = false := rfl
    simp [opAt, h, opAt_eq l j]
def wantedE (ops : Array Oper) (o : Oper) (E : Env) : Option Bool :=
  match o.guard with
  | Option.none => some true
  | some (j, want) => match ((opAt ops.toList j).bind (·.dst)).bind (eget E) with
    | some (.bool b) => some (b == want)
    | some (.tuple _) => some false
    | _ => Option.none
theorem wantedE_eq {ops o E n a t} (h : wantedE ops o E = some t) (hm : Models n E a) : Region.wanted o (yielded ops a.tmps) = t := by
  unfold wantedE at h
  unfold Region.wanted
  split at h
  · rename_i hg; rw [hg]; simpa using h
  · rename_i j want hg
    rw [hg]
    simp only
    rw [opAt_eq, Array.getElem?_toList] at h
    split at h
    · rename_i b hb
      unfold yielded
      cases hd : ops[j]?.bind (·.dst) with
      | none => rw [hd] at hb; simp at hb
      | some d =>
        rw [hd] at hb
        simp only [Option.bind_some] at hb ⊢
        have := hm.get d _ hb
        rw [this]
        simp at h
        subst h
        cases b <;> cases want <;> rfl
    · rename_i vs hb
      unfold yielded
      cases hd : ops[j]?.bind (·.dst) with
      | none => rw [hd] at hb; simp at hb
      | some d =>
        rw [hd] at hb
        simp only [Option.bind_some] at hb ⊢
        have := hm.get d _ hb
        rw [this]
        simp at h
        subst h
        cases want <;> rfl
    · cases h
theorem blt_lt {d n : Nat} (h : Nat.blt d n = true) : d < n := Nat.le_of_ble_eq_true h
theorem G.nil {c ops K E M H} (h : K E M H) : G P c ops K [] E M H := fun _ hQ _ _ hm hs => hQ _ _ _ _ _ hm hs h
theorem G.value {c ops K o rest E M H d v} (hd : o.dst = some d) (hn : Nat.blt d c.n = true) (hw : wantedE ops o E = some true) (hs : Sure P o E M H v)
    (h : G P c ops K rest ((d, v) :: E) M H) : G P c ops K (o :: rest) E M H := by
  intro Q hQ a w hm hst
  unfold wpList
  rw [if_pos (wantedE_eq hw hm)]
  refine .inl ?_
  unfold Oper.wp
  rw [hs a w (hm.avail o) hst.agr hst.has, Oper.upon_value, hd]
  exact h Q hQ _ _ (hm.put (blt_lt hn) v) hst
theorem G.skip {c ops K o rest E M H d} (hd : o.dst = some d) (hn : Nat.blt d c.n = true) (hw : wantedE ops o E = some false)
    (h : G P c ops K rest ((d, undef) :: E) M H) : G P c ops K (o :: rest) E M H := by
  intro Q hQ a w hm hst
  unfold wpList
  rw [if_neg (by simp [wantedE_eq hw hm]), hd]
  exact h Q hQ _ _ (hm.put (blt_lt hn) undef) hst
theorem G.skip0 {c ops K o rest E M H} (hd : o.dst = Option.none) (hw : wantedE ops o E = some false)
    (h : G P c ops K rest E M H) : G P c ops K (o :: rest) E M H := by
  intro Q hQ a w hm hst
  unfold wpList
  rw [if_neg (by simp [wantedE_eq hw hm]), hd]
  exact h Q hQ _ _ hm hst
theorem G.dyn {c ops K o rest E M H d} (hd : o.dst = some d) (hn : Nat.blt d c.n = true) (hw : wantedE ops o E = some true)
    (h : Dyn P c o E M H (fun v M' H' => G P c ops K rest ((d, v) :: E) M' H')) : G P c ops K (o :: rest) E M H := by
  intro Q hQ a w hm hst
  unfold wpList
  rw [if_pos (wantedE_eq hw hm)]
  refine .inl ?_
  refine h a w (hm.avail o) hst _ Q fun v M' H' w' hst' hn' => ?_
  rw [hd]
  exact hn' Q hQ _ _ (hm.put (blt_lt hn) v) hst'
theorem G.dyn0 {c ops K o rest E M H} (hd : o.dst = Option.none) (hw : wantedE ops o E = some true)
    (h : Dyn P c o E M H (fun _ M' H' => G P c ops K rest E M' H')) : G P c ops K (o :: rest) E M H := by
  intro Q hQ a w hm hst
  unfold wpList
  rw [if_pos (wantedE_eq hw hm)]
  refine .inl ?_
  refine h a w (hm.avail o) hst _ Q fun v M' H' w' hst' hn' => ?_
  rw [hd]
  exact hn' Q hQ _ _ hm hst'
theorem G.sub {c ops K l E M H A R} (hs : Split A H R) (h : G P c ops K l E M A) : G P c ops K l E M H :=
  fun Q hQ a w hm hst => h Q hQ a w hm (hst.sub hs)
theorem G.weak {c ops K l E0 E M H} (hs : esub E0 E) (h : G P c ops K l E0 M H) : G P c ops K l E M H :=
  fun Q hQ a w hm hst => h Q hQ a w (hm.sub hs) hst

/-! ### Code -/
abbrev Post := Exit → Env → Mem → Heap → Prop
def Cx.lift (c : Cx) (Q : Post) : Exit → Act → World → Prop := fun e a w => ∃ E M H, Models c.n E a ∧ St c.w0 c.M0 c.X M H w ∧ Q e E M H
def Post.th (K : Env → Mem → Heap → Prop) (Q : Post) : Post
  | .normal => K
  | e => Q e
def Post.blk (id : Nat) (Q : Post) : Post
  | .exit id' => bif Nat.beq id' id then Q .normal else Q (.exit id')
  | e => Q e
def C (P : Program) (c : Cx) (code : Code) (Q : Post) (E : Env) (M : Mem) (H : Heap) : Prop :=
  ∀ a w, Models c.n E a → St c.w0 c.M0 c.X M H w → code.wp P (c.lift Q) a w
theorem C.seq {c x y Q E M H} (h : C P c x (Post.th (fun E M H => C P c y Q E M H) Q) E M H) : C P c (.seq x y) Q E M H := by
  intro a w hm hst
  refine wp_seq (wp_mono (h a w hm hst) ?_)
  intro e a w ⟨E, M, H, hm, hst, hq⟩
  cases e with
  | normal => exact hq a w hm hst
  | exit id => exact ⟨E, M, H, hm, hst, hq⟩
  | goto l => exact ⟨E, M, H, hm, hst, hq⟩
  | ret => exact ⟨E, M, H, hm, hst, hq⟩
  | panic ch => exact ⟨E, M, H, hm, hst, hq⟩
  | outgrown => exact ⟨E, M, H, hm, hst, hq⟩
theorem C.cut {c x y Q E M H} (J : Env → Mem → Heap → Prop) (h : C P c x (Post.th J Q) E M H) (k : ∀ E M H, J E M H → C P c y Q E M H) : C P c (.seq x y) Q E M H := by
  refine C.seq ?_
  intro a w hm hst
  refine wp_mono (h a w hm hst) ?_
  intro e a w ⟨E, M, H, hm, hst, hq⟩
  cases e with
  | normal => exact ⟨E, M, H, hm, hst, k E M H hq⟩
  | exit id => exact ⟨E, M, H, hm, hst, hq⟩
  | goto l => exact ⟨E, M, H, hm, hst, hq⟩
  | ret => exact ⟨E, M, H, hm, hst, hq⟩
  | panic ch => exact ⟨E, M, H, hm, hst, hq⟩
  | outgrown => exact ⟨E, M, H, hm, hst, hq⟩
/-- An exit that is reached. -/
def Fin (Q : Post) (e : Exit) (E : Env) (M : Mem) (H : Heap) : Prop := Q e E M H
theorem Fin.th {K Q E M H} (h : K E M H) : Fin (Post.th K Q) .normal E M H := h
theorem Fin.th_ret {K Q E M H} (h : Fin Q .ret E M H) : Fin (Post.th K Q) .ret E M H := h
theorem Fin.th_exit {K Q id E M H} (h : Fin Q (.exit id) E M H) : Fin (Post.th K Q) (.exit id) E M H := h
theorem Fin.blk {id Q E M H} (h : Fin Q .normal E M H) : Fin (Post.blk id Q) .normal E M H := h
theorem Fin.blk_ret {id Q E M H} (h : Fin Q .ret E M H) : Fin (Post.blk id Q) .ret E M H := h
theorem Fin.blk_eq {id Q E M H} (h : Fin Q .normal E M H) : Fin (Post.blk id Q) (.exit id) E M H := by
  simp only [Fin, Post.blk, Nat.beq_refl, cond_true]; exact h
theorem Fin.blk_ne {id id' Q E M H} (hne : Nat.beq id' id = false) (h : Fin Q (.exit id') E M H) : Fin (Post.blk id Q) (.exit id') E M H := by
  simp only [Fin, Post.blk, hne, cond_false]; exact h
theorem C.skip {c Q E M H} (h : Fin Q .normal E M H) : C P c .skip Q E M H := fun _ _ hm hst => wp_skip ⟨E, M, H, hm, hst, h⟩
theorem C.exit {c id Q E M H} (h : Fin Q (.exit id) E M H) : C P c (.exit id) Q E M H := fun _ _ hm hst => wp_exit ⟨E, M, H, hm, hst, h⟩
theorem C.ret {c Q E M H} (h : Fin Q .ret E M H) : C P c .ret Q E M H := fun _ _ hm hst => wp_ret ⟨E, M, H, hm, hst, h⟩
theorem C.region {c id l Q E M H} (h : G P c l.toArray (fun E M H => Fin Q .normal E M H) l E M H) : C P c (.region id l.toArray false) Q E M H :=
  fun a w hm hst => wp_region_lit (h (c.lift Q) (fun _ _ E M H hm hst hk => ⟨E, M, H, hm, hst, hk⟩) a w hm hst)
theorem C.region_seq {c id l y Q E M H} (h : G P c l.toArray (fun E M H => C P c y Q E M H) l E M H) : C P c (.seq (.region id l.toArray false) y) Q E M H :=
  C.seq (C.region h)
theorem C.cond {c x t e Q E M H b} (hx : eev E x = some (.bool b)) (ht : b = true → C P c t Q E M H) (he : b = false → C P c e Q E M H) : C P c (.cond x t e) Q E M H :=
  fun a w hm hst => wp_cond_split (hm.eval hx) (fun hb => ht hb a w hm hst) (fun hb => he hb a w hm hst)
theorem C.cond_dec {c x t e Q E M H} {p : Prop} [Decidable p] (hx : eev E x = some (.bool (decide p))) (ht : p → C P c t Q E M H) (he : ¬ p → C P c e Q E M H) : C P c (.cond x t e) Q E M H :=
  C.cond hx (fun h => ht (of_decide_eq_true h)) (fun h => he (of_decide_eq_false h))
theorem C.cond_true {c x t e Q E M H} (hx : eev E x = some (.bool true)) (ht : C P c t Q E M H) : C P c (.cond x t e) Q E M H :=
  C.cond hx (fun _ => ht) (fun h => by cases h)
theorem C.cond_false {c x t e Q E M H} (hx : eev E x = some (.bool false)) (he : C P c e Q E M H) : C P c (.cond x t e) Q E M H :=
  C.cond hx (fun h => by cases h) (fun _ => he)
theorem C.block {c id body Q E M H} (h : C P c body (Post.blk id Q) E M H) : C P c (.block id body) Q E M H := by
  intro a w hm hst
  refine wp_block (wp_mono (h a w hm hst) ?_)
  intro e a w ⟨E, M, H, hm, hst, hq⟩
  cases e with
  | exit id' =>
    simp only [Exit.inBlock]
    by_cases hid : id' = id
    · subst hid
      rw [if_pos rfl]
      simp only [Post.blk, Nat.beq_refl] at hq
      exact ⟨E, M, H, hm, hst, hq⟩
    · rw [if_neg hid]
      have hb : Nat.beq id' id = false := by
        cases hbb : Nat.beq id' id with
        | false => rfl
        | true => exact absurd (Nat.eq_of_beq_eq_true hbb) hid
      simp only [Post.blk, hb] at hq
      exact ⟨E, M, H, hm, hst, hq⟩
  | normal => exact ⟨E, M, H, hm, hst, hq⟩
  | goto l => exact ⟨E, M, H, hm, hst, hq⟩
  | ret => exact ⟨E, M, H, hm, hst, hq⟩
  | panic ch => exact ⟨E, M, H, hm, hst, hq⟩
  | outgrown => exact ⟨E, M, H, hm, hst, hq⟩
def LoopNext (I : Nat → Env → Mem → Heap → Prop) (k : Nat) : Env → Mem → Heap → Prop :=
  fun E M H => ∃ k' E0 H0, k' < k ∧ I k' E0 M H0 ∧ esub E0 E ∧ ∃ R, Split H0 H R
theorem C.loop {c body Q E M H} (I : Nat → Env → Mem → Heap → Prop) (k : Nat) (h0' : ∃ E0 H0, I k E0 M H0 ∧ esub E0 E ∧ ∃ R, Split H0 H R)
    (round : ∀ k E M H, I k E M H → C P c body (Post.th (LoopNext I k) Q) E M H) : C P c (.loop body) Q E M H := by
  intro a w hm0 hst0
  obtain ⟨E0, H0, h0, hsub0, R0, hsp0⟩ := h0'
  have hm := hm0.sub hsub0
  have hst := hst0.sub hsp0
  clear hm0 hst0
  let J : Nat → Act → World → Prop := fun k a w => ∃ E M H, Models c.n E a ∧ St c.w0 c.M0 c.X M H w ∧ I k E M H
  have hex : ∀ a w, (∃ k, J k a w) → ∃ k, J k a w ∧ ∀ j, j < k → ¬ J j a w := by
    intro a w ⟨k, hk⟩
    induction k using Nat.strongRecOn with
    | _ k ih =>
      by_cases hj : ∃ j, j < k ∧ J j a w
      · obtain ⟨j, hjk, hj⟩ := hj; exact ih j hjk hj
      · exact ⟨k, hk, fun j hjk hjj => hj ⟨j, hjk, hjj⟩⟩
  let μ : Act → World → Nat := fun a w => open Classical in if h : ∃ k, J k a w then Classical.choose (hex a w h) else 0
  have hμ : ∀ a w k, J k a w → J (μ a w) a w ∧ μ a w ≤ k := by
    intro a w k hk
    have h : ∃ k, J k a w := ⟨k, hk⟩
    have hs := Classical.choose_spec (hex a w h)
    have he : μ a w = Classical.choose (hex a w h) := by simp only [μ]; rw [dif_pos h]
    rw [he]
    refine ⟨hs.1, ?_⟩
    rcases Nat.lt_or_ge k (Classical.choose (hex a w h)) with h1 | h1
    · exact absurd hk (hs.2 k h1)
    · exact h1
  refine wp_loop (fun a w => ∃ k, J k a w) μ ⟨k, E0, M, H0, hm, hst, h0⟩ ?_
  intro a w ⟨k, hk⟩
  obtain ⟨E, M, H, hm, hst, hI⟩ := (hμ a w k hk).1
  refine wp_mono (round _ E M H hI a w hm hst) ?_
  intro e a' w' ⟨E', M', H', hm', hst', hq⟩
  cases e with
  | normal =>
    obtain ⟨k', E0, H0, hlt, hI', hsub, R, hsp⟩ := hq
    have hJ : J k' a' w' := ⟨E0, M', H0, hm'.sub hsub, hst'.sub hsp, hI'⟩
    exact ⟨⟨k', hJ⟩, Nat.lt_of_le_of_lt (hμ a' w' k' hJ).2 hlt⟩
  | exit id => exact ⟨E', M', H', hm', hst', hq⟩
  | goto l => exact ⟨E', M', H', hm', hst', hq⟩
  | ret => exact ⟨E', M', H', hm', hst', hq⟩
  | panic ch => exact ⟨E', M', H', hm', hst', hq⟩
  | outgrown => exact ⟨E', M', H', hm', hst', hq⟩
theorem C.sub {c code Q E M H A R} (hs : Split A H R) (h : C P c code Q E M A) : C P c code Q E M H :=
  fun a w hm hst => h a w hm (hst.sub hs)
theorem C.weak {c code Q E0 E M H} (hs : esub E0 E) (h : C P c code Q E0 M H) : C P c code Q E M H :=
  fun a w hm hst => h a w (hm.sub hs) hst

/-! ### An owned block becomes immutable memory -/
def mput (M : Mem) (b : Nat) (c : List Value) : Mem := fun k => if k = b then some c else M k
theorem St.donate {w0 M0 X M b c H w} (h : St w0 M0 X M ((b, .cells c) :: H) w) : St w0 M0 X (mput M b c) H w := by
  have hb : M b = Option.none := h.apart b (by simp [ids])
  have hn := h.nodup
  simp only [ids, List.map_cons, List.nodup_cons] at hn
  have hle : MLe M (mput M b c) := fun k x hk => by
    unfold mput; split
    · rename_i e; rw [e, hb] at hk; cases hk
    · exact hk
  refine ⟨h.os, h.tape, h.output, h.size, h.keep, h.le.trans hle, ?_, ?_, fun p hp => h.has p (by simp [hp]), ?_, fun k hk => h.own k (List.mem_cons_of_mem _ hk), hn.2⟩
  · intro k x hk
    unfold mput at hk
    split at hk
    · rename_i e; subst e
      injection hk with hk; subst hk
      obtain ⟨T, lo, hi, h1, _⟩ := h.has (k, .cells c) (by simp)
      exact ⟨T, _, h1⟩
    · exact h.agr k x hk
  · intro k x hk
    unfold mput at hk
    split at hk
    · rename_i e; subst e
      exact .inr (h.own k (by simp [ids]))
    · exact h.fresh k x hk
  · intro k hk
    unfold mput
    split
    · rename_i e; subst e; exact absurd hk hn.1
    · exact h.apart k (List.mem_cons_of_mem _ hk)
theorem mput_le {M : Mem} {b c} (hb : M b = Option.none) : MLe M (mput M b c) := fun k x hk => by
  unfold mput; split
  · rename_i e; rw [e, hb] at hk; cases hk
  · exact hk
theorem C.donate {c code Q E M b x H} (h : ∀ M', MLe M M' → M' b = some x → C P c code Q E M' H) : C P c code Q E M ((b, .cells x) :: H) :=
  fun a w hm hst => h (mput M b x) (mput_le (hst.apart b (by simp [ids]))) (by simp [mput]) a w hm hst.donate
theorem G.donate {c ops K l E M b x H} (h : ∀ M', MLe M M' → M' b = some x → G P c ops K l E M' H) : G P c ops K l E M ((b, .cells x) :: H) :=
  fun Q hQ a w hm hst => h (mput M b x) (mput_le (hst.apart b (by simp [ids]))) (by simp [mput]) Q hQ a w hm hst.donate

/-! ### What a function does -/
def Callable (P : Program) (f : FuncId) : Prop := ∀ args w, (callFunc f args).run P w = .ok (.enter f args) w
structure Spec (P : Program) (f : FuncId) (args : List Value) (M : Mem) (H : Heap) (post : Value → Mem → Heap → Prop) : Prop where
  callable : Callable P f
  runs : ∀ w, At M H w → Calls P f args.toArray w fun e w' => ∃ v M' H', e = .returned v ∧ St w M (ids H) M' H' w' ∧ post v M' H'
theorem Spec.mono {f args M H} {post post' : Value → Mem → Heap → Prop} (h : Spec P f args M H post) (hp : ∀ v M' H', MLe M M' → post v M' H' → post' v M' H') : Spec P f args M H post' :=
  ⟨h.callable, fun w hw => (h.runs w hw).mono fun _ _ ⟨v, M', H', he, hst, hq⟩ => ⟨v, M', H', he, hst, hp v M' H' hst.le hq⟩⟩
def Res (P : Program) (fn : Func) (E : Env) (M : Mem) (H : Heap) (v : Value) : Prop :=
  ∀ n a w, Models n E a → Agr M w → Has H w → (results fn a.tmps).run P w = .ok v w
def FnQ (P : Program) (fn : Func) (post : Value → Mem → Heap → Prop) : Post
  | .normal, E, M, H | .ret, E, M, H => ∃ v H0 R, Res P fn E M H v ∧ Split H0 H R ∧ post v M H0
  | _, _, _, _ => False
theorem Fin.fn {fn post E M H v H0 R} (hr : Res P fn E M H v) (hs : Split H0 H R) (hp : post v M H0) : Fin (FnQ P fn post) .ret E M H := ⟨v, H0, R, hr, hs, hp⟩
theorem Fin.fn_normal {fn post E M H v H0 R} (hr : Res P fn E M H v) (hs : Split H0 H R) (hp : post v M H0) : Fin (FnQ P fn post) .normal E M H := ⟨v, H0, R, hr, hs, hp⟩
def argEnv : Nat → List Value → Env
  | _, [] => []
  | i, v :: vs => (i, v) :: argEnv (i + 1) vs
theorem argEnv_get : ∀ (l : List Value) (k i : Nat) v, eget (argEnv k l) i = some v → k ≤ i ∧ l[i - k]? = some v
  | [], k, i, v, h => by simp [argEnv, eget] at h
  | u :: l, k, i, v, h => by
    simp only [argEnv, eget] at h
    cases hb : Nat.beq k i with
    | true =>
      have := Nat.eq_of_beq_eq_true hb
      subst this
      simp at h
      subst h
      simp
    | false =>
      simp [hb] at h
      obtain ⟨h1, h2⟩ := argEnv_get l (k + 1) i v h
      refine ⟨by omega, ?_⟩
      rw [show i - k = (i - (k + 1)) + 1 by omega]
      simpa using h2
theorem Spec.of_code {f fn code args M H post} (n : Nat) (hf : P.funcs[f]? = some fn) (hb : fn.body = some code) (hc : Callable P f) (hn : fn.ntmps = n) (hl0 : Nat.ble args.length n = true)
    (h : ∀ w, C P ⟨n, w, M, ids H⟩ code (FnQ P fn post) (argEnv 0 args) M H) : Spec P f args M H post := by
  have hl : args.length ≤ n := Nat.le_of_ble_eq_true hl0
  refine ⟨hc, fun w hw => calls_of_wp hf hb ?_⟩
  have hm : Models n (argEnv 0 args) { tmps := args.toArray ++ Array.replicate (fn.ntmps - args.toArray.size) undef, defers := [] } := by
    refine ⟨by simp [hn]; omega, rfl, ?_⟩
    intro i v hv
    obtain ⟨_, h2⟩ := argEnv_get args 0 i v hv
    simp only [Nat.sub_zero] at h2
    have : i < args.length := (List.getElem?_eq_some_iff.1 h2).1
    simp [Array.getElem?_append, this]
    simpa [List.getElem?_eq_some_iff, this] using h2
  refine wp_mono (h w _ w hm hw.st) ?_
  intro e a w' ⟨E, M', H', hm', hst', hq⟩
  cases e with
  | normal =>
    obtain ⟨v, H0, R, hr, hs, hp⟩ := hq
    exact ⟨hm'.defers, v, hr n a w' hm' hst'.agr hst'.has, v, M', H0, rfl, hst'.sub hs, hp⟩
  | ret =>
    obtain ⟨v, H0, R, hr, hs, hp⟩ := hq
    exact ⟨hm'.defers, v, hr n a w' hm' hst'.agr hst'.has, v, M', H0, rfl, hst'.sub hs, hp⟩
  | exit id => exact hq.elim
  | goto l => exact hq.elim
  | panic ch => exact hq.elim
  | outgrown => exact hq.elim

/-! ### A call -/
theorem Dyn.call {c o E M H x args tys f first capt vs Hin R post next}
    (ho : o.op = .call { callee := .value x, args := args.toArray, argTypes := tys }) (hx : eev E x = some (.func (.func f) first capt))
    (ha : evs E args = some vs) (hs : Spec P f (first.toList ++ vs ++ capt.toList) M Hin post) (hp : Split Hin H R)
    (k : ∀ v M' H', MLe M M' → post v M' H' → next v M' (H' ++ R)) : Dyn P c o E M H next := by
  intro a w hav hst K Q hK
  have hev : ∀ (l : List Operand) (us : List Value), (∀ y ∈ l, ∀ v, eev E y = some v → a.eval y = v) → evs E l = some us → l.map a.eval = us := by
    intro l
    induction l with
    | nil => intro us _ h; simp [evs] at h; simp [h]
    | cons y l ih =>
      intro us hy h
      simp only [evs] at h
      cases h1 : eev E y with
      | none => simp [h1] at h
      | some u =>
        cases h2 : evs E l with
        | none => simp [h1, h2] at h
        | some us' =>
          simp [h1, h2] at h
          subst h
          simp [hy y (by simp) u h1, ih us' (fun z hz => hy z (by simp [hz])) h2]
  have hops : o.op.operands = #[x] ++ args.toArray := by rw [ho]; rfl
  have h1 : a.eval x = .func (.func f) first capt := hav x (by rw [hops]; simp) _ hx
  have h2 : args.map a.eval = vs := hev args vs (fun y hy v hv => hav y (by rw [hops]; simp [hy]) v hv) ha
  have hrun : (execOp a.eval o).run P w = .ok (.enter f (first ++ vs.toArray ++ capt)) w := by
    unfold execOp
    rw [ho]
    simp only [resolve, h1, Deferred.ofValue, invoke, List.map_toArray, h2, Sem.run_bind, Sem.run_pure, Result.andThen_ok]
    rw [hs.callable]
  unfold Oper.wp
  rw [hrun, Oper.upon_enter]
  have hst2 := hst.split hp
  have hargs : first ++ vs.toArray ++ capt = (first.toList ++ vs ++ capt.toList).toArray := by
    apply Array.ext'; simp
  rw [hargs]
  refine (hs.runs w hst2.left.at).mono ?_
  rintro e w' ⟨v, M', H', rfl, hst', hpost⟩
  exact hK v M' (H' ++ R) w' (hst2.frame hst') (k v M' H' hst'.le hpost)
theorem G.call {c ops K o rest E M H d x args tys f first capt vs Hin R post} (hd : o.dst = some d) (hn : Nat.blt d c.n = true) (hw : wantedE ops o E = some true)
    (ho : o.op = .call { callee := .value x, args := args.toArray, argTypes := tys }) (hx : eev E x = some (.func (.func f) first capt))
    (ha : evs E args = some vs) (hs : Spec P f (first.toList ++ vs ++ capt.toList) M Hin post) (hp : Split Hin H R)
    (k : ∀ v M' H', MLe M M' → post v M' H' → G P c ops K rest ((d, v) :: E) M' (H' ++ R)) : G P c ops K (o :: rest) E M H :=
  G.dyn hd hn hw (Dyn.call ho hx ha hs hp k)
end Go.Proofs.Ytaeeahcokiebdaa
