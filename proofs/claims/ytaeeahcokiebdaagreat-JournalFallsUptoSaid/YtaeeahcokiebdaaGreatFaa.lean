/-
  Great text a of a proof: Ka, Ra, Kb, Kc, Kd, Ke, Kf, Kg, Kh, Ki, Kj, one behind the other.
  Conditions: those that each part names.
-/
import Derived.Tactics
import Derived.Laws.AppendOwn
import Derived.IntWalk
import Derived.Test.YtaeeahcokiebdaaGreatRows
import Derived.WalkKit
import Derived.ProofKit
import Derived.OpenShut
import Derived.ShutString
import Derived.ChangeOld
import Derived.Below
import Derived.Carry
import Derived.SizedLaws
import Derived.Laws.BytesArg
import Derived.Laws.IdiomStrings

/-
  A small separation logic over the model: environments of slots, immutable memory, owned blocks; the rules of code and regions.
  Conditions: none; everything here is proved over any program.
-/
namespace Go.Proofs.YtaeeahcokiebdaaGreat

/-! ### Slots -/
abbrev Env := List (Nat × Value)
def eget : Env → Nat → Option Value
  | [], _ => Option.none
  | (i, v) :: E, j => bif Nat.beq i j then some v else eget E j
def eev (E : Env) : Operand → Option Value
  | .tmp t => eget E t
  | .const v => some v
  | .func f => some (.func (.func f) #[] #[])
  | .global _ => Option.none
def evs (E : Env) : List Operand → Option (List Value)
  | [] => some []
  | x :: xs => match eev E x, evs E xs with
    | some v, some vs => some (v :: vs)
    | _, _ => Option.none

structure Models (n : Nat) (E : Env) (a : Act) : Prop where
  size : a.tmps.size = n
  defers : a.defers = []
  get : ∀ i v, eget E i = some v → a.tmps[i]? = some v

theorem Models.eval {n E a} (h : Models n E a) {x v} (hx : eev E x = some v) : a.eval x = v := by
  cases x with
  | tmp t => have := h.get t v hx; simp [Act.eval, Array.getD, Array.getElem?_eq_some_iff] at *; obtain ⟨h1, h2⟩ := this; simp [h1, h2]
  | const u => simpa [eev, Act.eval] using hx
  | func f => simpa [eev, Act.eval] using hx
  | global g => simp [eev] at hx

theorem Models.put {n E a} (h : Models n E a) {d} (hd : d < n) (v : Value) : Models n ((d, v) :: E) (a.put (some d) v) := by
  refine ⟨by simp [Act.put, h.size], by simp [Act.put, h.defers], ?_⟩
  intro i u hu
  simp only [eget] at hu
  simp only [Act.put]
  by_cases hi : d = i
  · subst hi
    simp at hu
    subst hu
    simp [h.size, hd]
  · have hb : Nat.beq d i = false := by
      cases hbb : Nat.beq d i with
      | false => rfl
      | true => exact absurd (Nat.eq_of_beq_eq_true hbb) hi
    simp only [hb, cond_false] at hu
    simp [hi, h.get i u hu]

theorem Models.put_none {n E a} (h : Models n E a) (v : Value) : Models n E (a.put Option.none v) := h

def esub : Env → Env → Prop
  | [], _ => True
  | (i, v) :: E0, E => eget E i = some v ∧ esub E0 E
theorem esub_get : ∀ {E0 E : Env}, esub E0 E → ∀ i v, eget E0 i = some v → eget E i = some v
  | [], _, _, i, v, h => by simp [eget] at h
  | (j, u) :: E0, E, hs, i, v, h => by
    simp only [eget] at h
    cases hb : Nat.beq j i with
    | true =>
      have := Nat.eq_of_beq_eq_true hb
      subst this
      simp at h
      subst h
      exact hs.1
    | false =>
      simp [hb] at h
      exact esub_get hs.2 i v h
theorem Models.sub {n E0 E a} (hs : esub E0 E) (h : Models n E a) : Models n E0 a := ⟨h.size, h.defers, fun i v hv => h.get i v (esub_get hs i v hv)⟩

/-! ### Memory -/
abbrev Mem := Nat → Option (List Value)
def MLe (M M' : Mem) : Prop := ∀ b c, M b = some c → M' b = some c
theorem MLe.refl (M : Mem) : MLe M M := fun _ _ h => h
theorem MLe.trans {M1 M2 M3 : Mem} (h : MLe M1 M2) (k : MLe M2 M3) : MLe M1 M3 := fun b c hb => k b c (h b c hb)

inductive HB where
  | cells (c : List Value)
  | raw (o : Obj)
abbrev Heap := List (Nat × HB)
def HasB (w : World) (b : Nat) : HB → Prop
  | .cells c => ∃ T lo hi, w.heap[b]? = some (.cells c.toArray T (lo, hi)) ∧ hi ≤ lo
  | .raw o => w.heap[b]? = some o
theorem HasB.lt {w : World} {b : Nat} {x : HB} (h : HasB w b x) : b < w.heap.size := by
  cases x with
  | cells c => obtain ⟨T, lo, hi, h1, _⟩ := h; exact (Array.getElem?_eq_some_iff.1 h1).1
  | raw o => exact (Array.getElem?_eq_some_iff.1 h).1
theorem HasB.of_eq {w w' : World} {b : Nat} {x : HB} (h : HasB w b x) (e : w'.heap[b]? = w.heap[b]?) : HasB w' b x := by
  cases x with
  | cells c => obtain ⟨T, lo, hi, h1, h2⟩ := h; exact ⟨T, lo, hi, e.trans h1, h2⟩
  | raw o => exact e.trans h
def Agr (M : Mem) (w : World) : Prop := ∀ b c, M b = some c → ∃ T fz, w.heap[b]? = some (.cells c.toArray T fz)
theorem Agr.lt {M : Mem} {w : World} (h : Agr M w) {b c} (hb : M b = some c) : b < w.heap.size := by
  obtain ⟨T, fz, h1⟩ := h b c hb; exact (Array.getElem?_eq_some_iff.1 h1).1
def Has (H : Heap) (w : World) : Prop := ∀ p ∈ H, HasB w p.1 p.2
abbrev ids (H : Heap) : List Nat := H.map (·.1)

structure Cx where
  n : Nat
  w0 : World
  M0 : Mem
  X : List Nat

structure St (w0 : World) (M0 : Mem) (X : List Nat) (M : Mem) (H : Heap) (w : World) : Prop where
  os : w.os = w0.os
  tape : w.tape = w0.tape
  output : w.output = w0.output
  size : w0.heap.size ≤ w.heap.size
  keep : ∀ b, b < w0.heap.size → b ∉ X → w.heap[b]? = w0.heap[b]?
  le : MLe M0 M
  agr : Agr M w
  fresh : ∀ b c, M b = some c → M0 b = some c ∨ b ∈ X ∨ w0.heap.size ≤ b
  has : Has H w
  apart : ∀ b ∈ ids H, M b = Option.none
  own : ∀ b ∈ ids H, b ∈ X ∨ w0.heap.size ≤ b
  nodup : (ids H).Nodup

/-- The state at the entry of a call. -/
structure At (M : Mem) (H : Heap) (w : World) : Prop where
  agr : Agr M w
  has : Has H w
  apart : ∀ b ∈ ids H, M b = Option.none
  nodup : (ids H).Nodup
theorem At.st {M H w} (h : At M H w) : St w M (ids H) M H w :=
  ⟨rfl, rfl, rfl, Nat.le_refl _, fun _ _ _ => rfl, MLe.refl M, h.agr, fun _ _ hb => .inl hb, h.has, h.apart, fun _ hb => .inl hb, h.nodup⟩
theorem St.at {w0 M0 X M H w} (h : St w0 M0 X M H w) : At M H w := ⟨h.agr, h.has, h.apart, h.nodup⟩

/-! ### Splitting the owned blocks -/
inductive Pick : Nat × HB → Heap → Heap → Prop
  | here {p H} : Pick p (p :: H) H
  | there {p q H H'} : Pick p H H' → Pick p (q :: H) (q :: H')
  | over {p B H H'} : Pick p H H' → Pick p (B ++ H) (B ++ H')
inductive PickL : Heap → Heap → Heap → Prop
  | here {A H} : PickL A (A ++ H) H
  | all {A} : PickL A A []
  | there {A q H H'} : PickL A H H' → PickL A (q :: H) (q :: H')
  | over {A B H H'} : PickL A H H' → PickL A (B ++ H) (B ++ H')
inductive Split : Heap → Heap → Heap → Prop
  | nil {H} : Split [] H H
  | cons {p H0 H H1 R} : Pick p H H1 → Split H0 H1 R → Split (p :: H0) H R
  | consL {A H0 H H1 R} : PickL A H H1 → Split H0 H1 R → Split (A ++ H0) H R
  | one {A H R} : PickL A H R → Split A H R
/-- Found by trying. -/
theorem pkx {p H H'} (h : Pick p H H' := by first | exact Pick.here | exact Pick.there Pick.here | exact Pick.there (Pick.there Pick.here) | exact Pick.there (Pick.there (Pick.there Pick.here)) | exact Pick.there (Pick.there (Pick.there (Pick.there Pick.here))) | exact Pick.there (Pick.there (Pick.there (Pick.there (Pick.there Pick.here)))) | exact Pick.over Pick.here | exact Pick.there (Pick.over Pick.here) | exact Pick.over (Pick.there Pick.here) | exact Pick.there (Pick.there (Pick.over Pick.here)) | exact Pick.there (Pick.over (Pick.there Pick.here)) | exact Pick.over (Pick.over Pick.here)) : Pick p H H' := h
theorem Pick.perm {p H H'} (h : Pick p H H') : H.Perm (p :: H') := by
  induction h with
  | here => exact .refl _
  | there _ ih => exact (List.Perm.cons _ ih).trans (List.Perm.swap _ _ _)
  | over _ ih => exact (List.Perm.append_left _ ih).trans List.perm_middle
theorem PickL.perm {A H H'} (h : PickL A H H') : H.Perm (A ++ H') := by
  induction h with
  | here => exact .refl _
  | all => simp
  | there _ ih => exact (List.Perm.cons _ ih).trans List.perm_middle.symm
  | over _ ih =>
    refine (List.Perm.append_left _ ih).trans ?_
    rw [← List.append_assoc, ← List.append_assoc]
    exact List.Perm.append_right _ List.perm_append_comm
theorem Split.perm {H0 H R} (h : Split H0 H R) : H.Perm (H0 ++ R) := by
  induction h with
  | nil => exact .refl _
  | cons hp _ ih => exact hp.perm.trans (List.Perm.cons _ ih)
  | consL hp _ ih => rw [List.append_assoc]; exact hp.perm.trans (List.Perm.append_left _ ih)
  | one hp => exact hp.perm
theorem St.perm {w0 M0 X M H H' w} (h : St w0 M0 X M H w) (hp : H.Perm H') : St w0 M0 X M H' w := by
  have hi : (ids H).Perm (ids H') := hp.map _
  exact ⟨h.os, h.tape, h.output, h.size, h.keep, h.le, h.agr, h.fresh, fun p hm => h.has p (hp.mem_iff.2 hm),
    fun b hb => h.apart b (hi.mem_iff.2 hb), fun b hb => h.own b (hi.mem_iff.2 hb), hi.nodup_iff.1 h.nodup⟩
theorem St.left {w0 M0 X M A R w} (h : St w0 M0 X M (A ++ R) w) : St w0 M0 X M A w := by
  have hn := h.nodup
  simp only [ids, List.map_append, List.nodup_append] at hn
  exact ⟨h.os, h.tape, h.output, h.size, h.keep, h.le, h.agr, h.fresh, fun p hm => h.has p (by simp [hm]),
    fun b hb => h.apart b (by simp only [ids, List.map_append, List.mem_append]; exact .inl hb), fun b hb => h.own b (by simp only [ids, List.map_append, List.mem_append]; exact .inl hb), hn.1⟩
theorem St.split {w0 M0 X M H A R w} (h : St w0 M0 X M H w) (hs : Split A H R) : St w0 M0 X M (A ++ R) w := h.perm hs.perm
theorem St.sub {w0 M0 X M H A R w} (h : St w0 M0 X M H w) (hs : Split A H R) : St w0 M0 X M A w := (h.split hs).left

/-- The frame rule: a call that was given A hands back A'. -/
theorem St.frame {w0 M0 X M A R w M' A' w'} (h : St w0 M0 X M (A ++ R) w) (k : St w M (ids A) M' A' w') : St w0 M0 X M' (A' ++ R) w' := by
  have hn := h.nodup
  simp only [ids, List.map_append, List.nodup_append] at hn
  obtain ⟨hnA, hnR, hAR⟩ := hn
  have hR : ∀ p ∈ R, p.1 < w.heap.size ∧ p.1 ∉ ids A ∧ M p.1 = Option.none := fun p hp =>
    ⟨(h.has p (by simp [hp])).lt, fun hm => hAR p.1 hm p.1 (List.mem_map.2 ⟨p, hp, rfl⟩) rfl,
      h.apart p.1 (by simp only [ids, List.map_append, List.mem_append]; exact .inr (List.mem_map.2 ⟨p, hp, rfl⟩))⟩
  have hA : ∀ b ∈ ids A, b ∈ X ∨ w0.heap.size ≤ b := fun b hb => h.own b (by simp only [ids, List.map_append, List.mem_append]; exact .inl hb)
  refine ⟨k.os.trans h.os, k.tape.trans h.tape, k.output.trans h.output, Nat.le_trans h.size k.size, ?_, h.le.trans k.le, k.agr, ?_, ?_, ?_, ?_, ?_⟩
  · intro b hb hx
    have hs := h.size
    rw [k.keep b (by omega) (fun hm => by rcases hA b hm with h1 | h1; exact hx h1; omega)]
    exact h.keep b hb hx
  · intro b c hb
    rcases k.fresh b c hb with h1 | h1 | h1
    · exact h.fresh b c h1
    · exact .inr (hA b h1)
    · have hs := h.size; exact .inr (.inr (by omega))
  · intro p hp
    rcases List.mem_append.1 hp with hp | hp
    · exact k.has p hp
    · obtain ⟨h1, h2, _⟩ := hR p hp
      exact (h.has p (by simp [hp])).of_eq (k.keep p.1 h1 h2)
  · intro b hb
    simp only [ids, List.map_append, List.mem_append] at hb
    rcases hb with hb | hb
    · exact k.apart b hb
    · obtain ⟨p, hp, rfl⟩ := List.mem_map.1 hb
      obtain ⟨h1, h2, h3⟩ := hR p hp
      cases hm : M' p.1 with
      | none => rfl
      | some c =>
        rcases k.fresh p.1 c hm with h4 | h4 | h4
        · rw [h3] at h4; cases h4
        · exact absurd h4 h2
        · omega
  · intro b hb
    simp only [ids, List.map_append, List.mem_append] at hb
    rcases hb with hb | hb
    · rcases k.own b hb with h1 | h1
      · exact hA b h1
      · have hs := h.size; exact .inr (by omega)
    · exact h.own b (by simp only [ids, List.map_append, List.mem_append]; exact .inr hb)
  · simp only [ids, List.map_append, List.nodup_append]
    refine ⟨k.nodup, hnR, fun b hb b' hb' e => ?_⟩
    subst e
    obtain ⟨p, hp, rfl⟩ := List.mem_map.1 hb'
    obtain ⟨h1, h2, _⟩ := hR p hp
    rcases k.own _ hb with h4 | h4
    · exact h2 h4
    · omega

/-! ### One operation -/
variable {P : Program}
def Avail (E : Env) (a : Act) (o : Oper) : Prop := ∀ x ∈ o.op.operands, ∀ v, eev E x = some v → a.eval x = v
theorem Models.avail {n E a} (h : Models n E a) (o : Oper) : Avail E a o := fun _ _ _ hv => h.eval hv
def Sure (P : Program) (o : Oper) (E : Env) (M : Mem) (H : Heap) (v : Value) : Prop :=
  ∀ a w, Avail E a o → Agr M w → Has H w → (execOp a.eval o).run P w = .ok (.value v) w
def Dyn (P : Program) (c : Cx) (o : Oper) (E : Env) (M : Mem) (H : Heap) (next : Value → Mem → Heap → Prop) : Prop :=
  ∀ a w, Avail E a o → St c.w0 c.M0 c.X M H w → ∀ (K : Act → World → Prop) (Q : Exit → Act → World → Prop),
    (∀ v M' H' w', St c.w0 c.M0 c.X M' H' w' → next v M' H' → K (a.put o.dst v) w') → o.wp P a w K Q

/-! ### A region whose order is the text's -/
def G (P : Program) (c : Cx) (ops : Array Oper) (K : Env → Mem → Heap → Prop) (l : List Oper) (E : Env) (M : Mem) (H : Heap) : Prop :=
  ∀ (Q : Exit → Act → World → Prop), (∀ a w E M H, Models c.n E a → St c.w0 c.M0 c.X M H w → K E M H → Q .normal a w) →
    ∀ a w, Models c.n E a → St c.w0 c.M0 c.X M H w → wpList P ops Q l a w
def opAt : List Oper → Nat → Option Oper
  | [], _ => Option.none
  | o :: l, j => bif Nat.beq j 0 then some o else opAt l (j - 1)
theorem opAt_eq : ∀ (l : List Oper) (j : Nat), opAt l j = l[j]?
  | [], j => by simp [opAt]
  | o :: l, 0 => by simp [opAt]
  | o :: l, j + 1 => by
    have h : Nat.beq (j + 1) 0 = false := rfl
    simp [opAt, h, opAt_eq l j]
def wantedE (ops : Array Oper) (o : Oper) (E : Env) : Option Bool :=
  match o.guard with
  | Option.none => some true
  | some (j, want) => match ((opAt ops.toList j).bind (·.dst)).bind (eget E) with
    | some (.bool b) => some (b == want)
    | some (.tuple _) => some false
    | _ => Option.none
theorem wantedE_eq {ops o E n a t} (h : wantedE ops o E = some t) (hm : Models n E a) : Region.wanted o (yielded ops a.tmps) = t := by
  unfold wantedE at h
  unfold Region.wanted
  split at h
  · rename_i hg; rw [hg]; simpa using h
  · rename_i j want hg
    rw [hg]
    simp only
    rw [opAt_eq, Array.getElem?_toList] at h
    split at h
    · rename_i b hb
      unfold yielded
      cases hd : ops[j]?.bind (·.dst) with
      | none => rw [hd] at hb; simp at hb
      | some d =>
        rw [hd] at hb
        simp only [Option.bind_some] at hb ⊢
        have := hm.get d _ hb
        rw [this]
        simp at h
        subst h
        cases b <;> cases want <;> rfl
    · rename_i vs hb
      unfold yielded
      cases hd : ops[j]?.bind (·.dst) with
      | none => rw [hd] at hb; simp at hb
      | some d =>
        rw [hd] at hb
        simp only [Option.bind_some] at hb ⊢
        have := hm.get d _ hb
        rw [this]
        simp at h
        subst h
        cases want <;> rfl
    · cases h
theorem blt_lt {d n : Nat} (h : Nat.blt d n = true) : d < n := Nat.le_of_ble_eq_true h
theorem G.nil {c ops K E M H} (h : K E M H) : G P c ops K [] E M H := fun _ hQ _ _ hm hs => hQ _ _ _ _ _ hm hs h
theorem G.value {c ops K o rest E M H d v} (hd : o.dst = some d) (hn : Nat.blt d c.n = true) (hw : wantedE ops o E = some true) (hs : Sure P o E M H v)
    (h : G P c ops K rest ((d, v) :: E) M H) : G P c ops K (o :: rest) E M H := by
  intro Q hQ a w hm hst
  unfold wpList
  rw [if_pos (wantedE_eq hw hm)]
  refine .inl ?_
  unfold Oper.wp
  rw [hs a w (hm.avail o) hst.agr hst.has, Oper.upon_value, hd]
  exact h Q hQ _ _ (hm.put (blt_lt hn) v) hst
theorem G.skip {c ops K o rest E M H d} (hd : o.dst = some d) (hn : Nat.blt d c.n = true) (hw : wantedE ops o E = some false)
    (h : G P c ops K rest ((d, undef) :: E) M H) : G P c ops K (o :: rest) E M H := by
  intro Q hQ a w hm hst
  unfold wpList
  rw [if_neg (by simp [wantedE_eq hw hm]), hd]
  exact h Q hQ _ _ (hm.put (blt_lt hn) undef) hst
theorem G.skip0 {c ops K o rest E M H} (hd : o.dst = Option.none) (hw : wantedE ops o E = some false)
    (h : G P c ops K rest E M H) : G P c ops K (o :: rest) E M H := by
  intro Q hQ a w hm hst
  unfold wpList
  rw [if_neg (by simp [wantedE_eq hw hm]), hd]
  exact h Q hQ _ _ hm hst
theorem G.dyn {c ops K o rest E M H d} (hd : o.dst = some d) (hn : Nat.blt d c.n = true) (hw : wantedE ops o E = some true)
    (h : Dyn P c o E M H (fun v M' H' => G P c ops K rest ((d, v) :: E) M' H')) : G P c ops K (o :: rest) E M H := by
  intro Q hQ a w hm hst
  unfold wpList
  rw [if_pos (wantedE_eq hw hm)]
  refine .inl ?_
  refine h a w (hm.avail o) hst _ Q fun v M' H' w' hst' hn' => ?_
  rw [hd]
  exact hn' Q hQ _ _ (hm.put (blt_lt hn) v) hst'
theorem G.dyn0 {c ops K o rest E M H} (hd : o.dst = Option.none) (hw : wantedE ops o E = some true)
    (h : Dyn P c o E M H (fun _ M' H' => G P c ops K rest E M' H')) : G P c ops K (o :: rest) E M H := by
  intro Q hQ a w hm hst
  unfold wpList
  rw [if_pos (wantedE_eq hw hm)]
  refine .inl ?_
  refine h a w (hm.avail o) hst _ Q fun v M' H' w' hst' hn' => ?_
  rw [hd]
  exact hn' Q hQ _ _ hm hst'
theorem G.sub {c ops K l E M H A R} (hs : Split A H R) (h : G P c ops K l E M A) : G P c ops K l E M H :=
  fun Q hQ a w hm hst => h Q hQ a w hm (hst.sub hs)
theorem G.weak {c ops K l E0 E M H} (hs : esub E0 E) (h : G P c ops K l E0 M H) : G P c ops K l E M H :=
  fun Q hQ a w hm hst => h Q hQ a w (hm.sub hs) hst

/-! ### Code -/
abbrev Post := Exit → Env → Mem → Heap → Prop
def Cx.lift (c : Cx) (Q : Post) : Exit → Act → World → Prop := fun e a w => ∃ E M H, Models c.n E a ∧ St c.w0 c.M0 c.X M H w ∧ Q e E M H
def Post.th (K : Env → Mem → Heap → Prop) (Q : Post) : Post
  | .normal => K
  | e => Q e
def Post.blk (id : Nat) (Q : Post) : Post
  | .exit id' => bif Nat.beq id' id then Q .normal else Q (.exit id')
  | e => Q e
def C (P : Program) (c : Cx) (code : Code) (Q : Post) (E : Env) (M : Mem) (H : Heap) : Prop :=
  ∀ a w, Models c.n E a → St c.w0 c.M0 c.X M H w → code.wp P (c.lift Q) a w
theorem C.seq {c x y Q E M H} (h : C P c x (Post.th (fun E M H => C P c y Q E M H) Q) E M H) : C P c (.seq x y) Q E M H := by
  intro a w hm hst
  refine wp_seq (wp_mono (h a w hm hst) ?_)
  intro e a w ⟨E, M, H, hm, hst, hq⟩
  cases e with
  | normal => exact hq a w hm hst
  | exit id => exact ⟨E, M, H, hm, hst, hq⟩
  | goto l => exact ⟨E, M, H, hm, hst, hq⟩
  | ret => exact ⟨E, M, H, hm, hst, hq⟩
  | panic ch => exact ⟨E, M, H, hm, hst, hq⟩
  | outgrown => exact ⟨E, M, H, hm, hst, hq⟩
theorem C.cut {c x y Q E M H} (J : Env → Mem → Heap → Prop) (h : C P c x (Post.th J Q) E M H) (k : ∀ E M H, J E M H → C P c y Q E M H) : C P c (.seq x y) Q E M H := by
  refine C.seq ?_
  intro a w hm hst
  refine wp_mono (h a w hm hst) ?_
  intro e a w ⟨E, M, H, hm, hst, hq⟩
  cases e with
  | normal => exact ⟨E, M, H, hm, hst, k E M H hq⟩
  | exit id => exact ⟨E, M, H, hm, hst, hq⟩
  | goto l => exact ⟨E, M, H, hm, hst, hq⟩
  | ret => exact ⟨E, M, H, hm, hst, hq⟩
  | panic ch => exact ⟨E, M, H, hm, hst, hq⟩
  | outgrown => exact ⟨E, M, H, hm, hst, hq⟩
/-- An exit that is reached. -/
def Fin (Q : Post) (e : Exit) (E : Env) (M : Mem) (H : Heap) : Prop := Q e E M H
theorem Fin.th {K Q E M H} (h : K E M H) : Fin (Post.th K Q) .normal E M H := h
theorem Fin.th_ret {K Q E M H} (h : Fin Q .ret E M H) : Fin (Post.th K Q) .ret E M H := h
theorem Fin.th_exit {K Q id E M H} (h : Fin Q (.exit id) E M H) : Fin (Post.th K Q) (.exit id) E M H := h
theorem Fin.blk {id Q E M H} (h : Fin Q .normal E M H) : Fin (Post.blk id Q) .normal E M H := h
theorem Fin.blk_ret {id Q E M H} (h : Fin Q .ret E M H) : Fin (Post.blk id Q) .ret E M H := h
theorem Fin.blk_eq {id Q E M H} (h : Fin Q .normal E M H) : Fin (Post.blk id Q) (.exit id) E M H := by
  simp only [Fin, Post.blk, Nat.beq_refl, cond_true]; exact h
theorem Fin.blk_ne {id id' Q E M H} (hne : Nat.beq id' id = false) (h : Fin Q (.exit id') E M H) : Fin (Post.blk id Q) (.exit id') E M H := by
  simp only [Fin, Post.blk, hne, cond_false]; exact h
theorem C.skip {c Q E M H} (h : Fin Q .normal E M H) : C P c .skip Q E M H := fun _ _ hm hst => wp_skip ⟨E, M, H, hm, hst, h⟩
theorem C.exit {c id Q E M H} (h : Fin Q (.exit id) E M H) : C P c (.exit id) Q E M H := fun _ _ hm hst => wp_exit ⟨E, M, H, hm, hst, h⟩
theorem C.ret {c Q E M H} (h : Fin Q .ret E M H) : C P c .ret Q E M H := fun _ _ hm hst => wp_ret ⟨E, M, H, hm, hst, h⟩
theorem C.region {c id l Q E M H} (h : G P c l.toArray (fun E M H => Fin Q .normal E M H) l E M H) : C P c (.region id l.toArray false) Q E M H :=
  fun a w hm hst => wp_region_lit (h (c.lift Q) (fun _ _ E M H hm hst hk => ⟨E, M, H, hm, hst, hk⟩) a w hm hst)
theorem C.region_seq {c id l y Q E M H} (h : G P c l.toArray (fun E M H => C P c y Q E M H) l E M H) : C P c (.seq (.region id l.toArray false) y) Q E M H :=
  C.seq (C.region h)
theorem C.cond {c x t e Q E M H b} (hx : eev E x = some (.bool b)) (ht : b = true → C P c t Q E M H) (he : b = false → C P c e Q E M H) : C P c (.cond x t e) Q E M H :=
  fun a w hm hst => wp_cond_split (hm.eval hx) (fun hb => ht hb a w hm hst) (fun hb => he hb a w hm hst)
theorem C.cond_dec {c x t e Q E M H} {p : Prop} [Decidable p] (hx : eev E x = some (.bool (decide p))) (ht : p → C P c t Q E M H) (he : ¬ p → C P c e Q E M H) : C P c (.cond x t e) Q E M H :=
  C.cond hx (fun h => ht (of_decide_eq_true h)) (fun h => he (of_decide_eq_false h))
theorem C.cond_true {c x t e Q E M H} (hx : eev E x = some (.bool true)) (ht : C P c t Q E M H) : C P c (.cond x t e) Q E M H :=
  C.cond hx (fun _ => ht) (fun h => by cases h)
theorem C.cond_false {c x t e Q E M H} (hx : eev E x = some (.bool false)) (he : C P c e Q E M H) : C P c (.cond x t e) Q E M H :=
  C.cond hx (fun h => by cases h) (fun _ => he)
theorem C.block {c id body Q E M H} (h : C P c body (Post.blk id Q) E M H) : C P c (.block id body) Q E M H := by
  intro a w hm hst
  refine wp_block (wp_mono (h a w hm hst) ?_)
  intro e a w ⟨E, M, H, hm, hst, hq⟩
  cases e with
  | exit id' =>
    simp only [Exit.inBlock]
    by_cases hid : id' = id
    · subst hid
      rw [if_pos rfl]
      simp only [Post.blk, Nat.beq_refl] at hq
      exact ⟨E, M, H, hm, hst, hq⟩
    · rw [if_neg hid]
      have hb : Nat.beq id' id = false := by
        cases hbb : Nat.beq id' id with
        | false => rfl
        | true => exact absurd (Nat.eq_of_beq_eq_true hbb) hid
      simp only [Post.blk, hb] at hq
      exact ⟨E, M, H, hm, hst, hq⟩
  | normal => exact ⟨E, M, H, hm, hst, hq⟩
  | goto l => exact ⟨E, M, H, hm, hst, hq⟩
  | ret => exact ⟨E, M, H, hm, hst, hq⟩
  | panic ch => exact ⟨E, M, H, hm, hst, hq⟩
  | outgrown => exact ⟨E, M, H, hm, hst, hq⟩
def LoopNext (I : Nat → Env → Mem → Heap → Prop) (k : Nat) : Env → Mem → Heap → Prop :=
  fun E M H => ∃ k' E0 H0, k' < k ∧ I k' E0 M H0 ∧ esub E0 E ∧ ∃ R, Split H0 H R
theorem C.loop {c body Q E M H} (I : Nat → Env → Mem → Heap → Prop) (k : Nat) (h0' : ∃ E0 H0, I k E0 M H0 ∧ esub E0 E ∧ ∃ R, Split H0 H R)
    (round : ∀ k E M H, I k E M H → C P c body (Post.th (LoopNext I k) Q) E M H) : C P c (.loop body) Q E M H := by
  intro a w hm0 hst0
  obtain ⟨E0, H0, h0, hsub0, R0, hsp0⟩ := h0'
  have hm := hm0.sub hsub0
  have hst := hst0.sub hsp0
  clear hm0 hst0
  let J : Nat → Act → World → Prop := fun k a w => ∃ E M H, Models c.n E a ∧ St c.w0 c.M0 c.X M H w ∧ I k E M H
  have hex : ∀ a w, (∃ k, J k a w) → ∃ k, J k a w ∧ ∀ j, j < k → ¬ J j a w := by
    intro a w ⟨k, hk⟩
    induction k using Nat.strongRecOn with
    | _ k ih =>
      by_cases hj : ∃ j, j < k ∧ J j a w
      · obtain ⟨j, hjk, hj⟩ := hj; exact ih j hjk hj
      · exact ⟨k, hk, fun j hjk hjj => hj ⟨j, hjk, hjj⟩⟩
  let μ : Act → World → Nat := fun a w => open Classical in if h : ∃ k, J k a w then Classical.choose (hex a w h) else 0
  have hμ : ∀ a w k, J k a w → J (μ a w) a w ∧ μ a w ≤ k := by
    intro a w k hk
    have h : ∃ k, J k a w := ⟨k, hk⟩
    have hs := Classical.choose_spec (hex a w h)
    have he : μ a w = Classical.choose (hex a w h) := by simp only [μ]; rw [dif_pos h]
    rw [he]
    refine ⟨hs.1, ?_⟩
    rcases Nat.lt_or_ge k (Classical.choose (hex a w h)) with h1 | h1
    · exact absurd hk (hs.2 k h1)
    · exact h1
  refine wp_loop (fun a w => ∃ k, J k a w) μ ⟨k, E0, M, H0, hm, hst, h0⟩ ?_
  intro a w ⟨k, hk⟩
  obtain ⟨E, M, H, hm, hst, hI⟩ := (hμ a w k hk).1
  refine wp_mono (round _ E M H hI a w hm hst) ?_
  intro e a' w' ⟨E', M', H', hm', hst', hq⟩
  cases e with
  | normal =>
    obtain ⟨k', E0, H0, hlt, hI', hsub, R, hsp⟩ := hq
    have hJ : J k' a' w' := ⟨E0, M', H0, hm'.sub hsub, hst'.sub hsp, hI'⟩
    exact ⟨⟨k', hJ⟩, Nat.lt_of_le_of_lt (hμ a' w' k' hJ).2 hlt⟩
  | exit id => exact ⟨E', M', H', hm', hst', hq⟩
  | goto l => exact ⟨E', M', H', hm', hst', hq⟩
  | ret => exact ⟨E', M', H', hm', hst', hq⟩
  | panic ch => exact ⟨E', M', H', hm', hst', hq⟩
  | outgrown => exact ⟨E', M', H', hm', hst', hq⟩
theorem C.sub {c code Q E M H A R} (hs : Split A H R) (h : C P c code Q E M A) : C P c code Q E M H :=
  fun a w hm hst => h a w hm (hst.sub hs)
theorem C.weak {c code Q E0 E M H} (hs : esub E0 E) (h : C P c code Q E0 M H) : C P c code Q E M H :=
  fun a w hm hst => h a w (hm.sub hs) hst

/-! ### An owned block becomes immutable memory -/
def mput (M : Mem) (b : Nat) (c : List Value) : Mem := fun k => if k = b then some c else M k
theorem St.donate {w0 M0 X M b c H w} (h : St w0 M0 X M ((b, .cells c) :: H) w) : St w0 M0 X (mput M b c) H w := by
  have hb : M b = Option.none := h.apart b (by simp [ids])
  have hn := h.nodup
  simp only [ids, List.map_cons, List.nodup_cons] at hn
  have hle : MLe M (mput M b c) := fun k x hk => by
    unfold mput; split
    · rename_i e; rw [e, hb] at hk; cases hk
    · exact hk
  refine ⟨h.os, h.tape, h.output, h.size, h.keep, h.le.trans hle, ?_, ?_, fun p hp => h.has p (by simp [hp]), ?_, fun k hk => h.own k (List.mem_cons_of_mem _ hk), hn.2⟩
  · intro k x hk
    unfold mput at hk
    split at hk
    · rename_i e; subst e
      injection hk with hk; subst hk
      obtain ⟨T, lo, hi, h1, _⟩ := h.has (k, .cells c) (by simp)
      exact ⟨T, _, h1⟩
    · exact h.agr k x hk
  · intro k x hk
    unfold mput at hk
    split at hk
    · rename_i e; subst e
      exact .inr (h.own k (by simp [ids]))
    · exact h.fresh k x hk
  · intro k hk
    unfold mput
    split
    · rename_i e; subst e; exact absurd hk hn.1
    · exact h.apart k (List.mem_cons_of_mem _ hk)
theorem mput_le {M : Mem} {b c} (hb : M b = Option.none) : MLe M (mput M b c) := fun k x hk => by
  unfold mput; split
  · rename_i e; rw [e, hb] at hk; cases hk
  · exact hk
theorem C.donate {c code Q E M b x H} (h : ∀ M', MLe M M' → M' b = some x → C P c code Q E M' H) : C P c code Q E M ((b, .cells x) :: H) :=
  fun a w hm hst => h (mput M b x) (mput_le (hst.apart b (by simp [ids]))) (by simp [mput]) a w hm hst.donate
theorem G.donate {c ops K l E M b x H} (h : ∀ M', MLe M M' → M' b = some x → G P c ops K l E M' H) : G P c ops K l E M ((b, .cells x) :: H) :=
  fun Q hQ a w hm hst => h (mput M b x) (mput_le (hst.apart b (by simp [ids]))) (by simp [mput]) Q hQ a w hm hst.donate

/-! ### What a function does -/
def Callable (P : Program) (f : FuncId) : Prop := ∀ args w, (callFunc f args).run P w = .ok (.enter f args) w
structure Spec (P : Program) (f : FuncId) (args : List Value) (M : Mem) (H : Heap) (post : Value → Mem → Heap → Prop) : Prop where
  callable : Callable P f
  runs : ∀ w, At M H w → Calls P f args.toArray w fun e w' => ∃ v M' H', e = .returned v ∧ St w M (ids H) M' H' w' ∧ post v M' H'
theorem Spec.mono {f args M H} {post post' : Value → Mem → Heap → Prop} (h : Spec P f args M H post) (hp : ∀ v M' H', MLe M M' → post v M' H' → post' v M' H') : Spec P f args M H post' :=
  ⟨h.callable, fun w hw => (h.runs w hw).mono fun _ _ ⟨v, M', H', he, hst, hq⟩ => ⟨v, M', H', he, hst, hp v M' H' hst.le hq⟩⟩
def Res (P : Program) (fn : Func) (E : Env) (M : Mem) (H : Heap) (v : Value) : Prop :=
  ∀ n a w, Models n E a → Agr M w → Has H w → (results fn a.tmps).run P w = .ok v w
def FnQ (P : Program) (fn : Func) (post : Value → Mem → Heap → Prop) : Post
  | .normal, E, M, H | .ret, E, M, H => ∃ v H0 R, Res P fn E M H v ∧ Split H0 H R ∧ post v M H0
  | _, _, _, _ => False
theorem Fin.fn {fn post E M H v H0 R} (hr : Res P fn E M H v) (hs : Split H0 H R) (hp : post v M H0) : Fin (FnQ P fn post) .ret E M H := ⟨v, H0, R, hr, hs, hp⟩
theorem Fin.fn_normal {fn post E M H v H0 R} (hr : Res P fn E M H v) (hs : Split H0 H R) (hp : post v M H0) : Fin (FnQ P fn post) .normal E M H := ⟨v, H0, R, hr, hs, hp⟩
def argEnv : Nat → List Value → Env
  | _, [] => []
  | i, v :: vs => (i, v) :: argEnv (i + 1) vs
theorem argEnv_get : ∀ (l : List Value) (k i : Nat) v, eget (argEnv k l) i = some v → k ≤ i ∧ l[i - k]? = some v
  | [], k, i, v, h => by simp [argEnv, eget] at h
  | u :: l, k, i, v, h => by
    simp only [argEnv, eget] at h
    cases hb : Nat.beq k i with
    | true =>
      have := Nat.eq_of_beq_eq_true hb
      subst this
      simp at h
      subst h
      simp
    | false =>
      simp [hb] at h
      obtain ⟨h1, h2⟩ := argEnv_get l (k + 1) i v h
      refine ⟨by omega, ?_⟩
      rw [show i - k = (i - (k + 1)) + 1 by omega]
      simpa using h2
theorem Spec.of_code {f fn code args M H post} (n : Nat) (hf : P.funcs[f]? = some fn) (hb : fn.body = some code) (hc : Callable P f) (hn : fn.ntmps = n) (hl0 : Nat.ble args.length n = true)
    (h : ∀ w, C P ⟨n, w, M, ids H⟩ code (FnQ P fn post) (argEnv 0 args) M H) : Spec P f args M H post := by
  have hl : args.length ≤ n := Nat.le_of_ble_eq_true hl0
  refine ⟨hc, fun w hw => calls_of_wp hf hb ?_⟩
  have hm : Models n (argEnv 0 args) { tmps := args.toArray ++ Array.replicate (fn.ntmps - args.toArray.size) undef, defers := [] } := by
    refine ⟨by simp [hn]; omega, rfl, ?_⟩
    intro i v hv
    obtain ⟨_, h2⟩ := argEnv_get args 0 i v hv
    simp only [Nat.sub_zero] at h2
    have : i < args.length := (List.getElem?_eq_some_iff.1 h2).1
    simp [Array.getElem?_append, this]
    simpa [List.getElem?_eq_some_iff, this] using h2
  refine wp_mono (h w _ w hm hw.st) ?_
  intro e a w' ⟨E, M', H', hm', hst', hq⟩
  cases e with
  | normal =>
    obtain ⟨v, H0, R, hr, hs, hp⟩ := hq
    exact ⟨hm'.defers, v, hr n a w' hm' hst'.agr hst'.has, v, M', H0, rfl, hst'.sub hs, hp⟩
  | ret =>
    obtain ⟨v, H0, R, hr, hs, hp⟩ := hq
    exact ⟨hm'.defers, v, hr n a w' hm' hst'.agr hst'.has, v, M', H0, rfl, hst'.sub hs, hp⟩
  | exit id => exact hq.elim
  | goto l => exact hq.elim
  | panic ch => exact hq.elim
  | outgrown => exact hq.elim

/-! ### A call -/
theorem Dyn.call {c o E M H x args tys f first capt vs Hin R post next}
    (ho : o.op = .call { callee := .value x, args := args.toArray, argTypes := tys }) (hx : eev E x = some (.func (.func f) first capt))
    (ha : evs E args = some vs) (hs : Spec P f (first.toList ++ vs ++ capt.toList) M Hin post) (hp : Split Hin H R)
    (k : ∀ v M' H', MLe M M' → post v M' H' → next v M' (H' ++ R)) : Dyn P c o E M H next := by
  intro a w hav hst K Q hK
  have hev : ∀ (l : List Operand) (us : List Value), (∀ y ∈ l, ∀ v, eev E y = some v → a.eval y = v) → evs E l = some us → l.map a.eval = us := by
    intro l
    induction l with
    | nil => intro us _ h; simp [evs] at h; simp [h]
    | cons y l ih =>
      intro us hy h
      simp only [evs] at h
      cases h1 : eev E y with
      | none => simp [h1] at h
      | some u =>
        cases h2 : evs E l with
        | none => simp [h1, h2] at h
        | some us' =>
          simp [h1, h2] at h
          subst h
          simp [hy y (by simp) u h1, ih us' (fun z hz => hy z (by simp [hz])) h2]
  have hops : o.op.operands = #[x] ++ args.toArray := by rw [ho]; rfl
  have h1 : a.eval x = .func (.func f) first capt := hav x (by rw [hops]; simp) _ hx
  have h2 : args.map a.eval = vs := hev args vs (fun y hy v hv => hav y (by rw [hops]; simp [hy]) v hv) ha
  have hrun : (execOp a.eval o).run P w = .ok (.enter f (first ++ vs.toArray ++ capt)) w := by
    unfold execOp
    rw [ho]
    simp only [resolve, h1, Deferred.ofValue, invoke, List.map_toArray, h2, Sem.run_bind, Sem.run_pure, Result.andThen_ok]
    rw [hs.callable]
  unfold Oper.wp
  rw [hrun, Oper.upon_enter]
  have hst2 := hst.split hp
  have hargs : first ++ vs.toArray ++ capt = (first.toList ++ vs ++ capt.toList).toArray := by
    apply Array.ext'; simp
  rw [hargs]
  refine (hs.runs w hst2.left.at).mono ?_
  rintro e w' ⟨v, M', H', rfl, hst', hpost⟩
  exact hK v M' (H' ++ R) w' (hst2.frame hst') (k v M' H' hst'.le hpost)
theorem G.call {c ops K o rest E M H d x args tys f first capt vs Hin R post} (hd : o.dst = some d) (hn : Nat.blt d c.n = true) (hw : wantedE ops o E = some true)
    (ho : o.op = .call { callee := .value x, args := args.toArray, argTypes := tys }) (hx : eev E x = some (.func (.func f) first capt))
    (ha : evs E args = some vs) (hs : Spec P f (first.toList ++ vs ++ capt.toList) M Hin post) (hp : Split Hin H R)
    (k : ∀ v M' H', MLe M M' → post v M' H' → G P c ops K rest ((d, v) :: E) M' (H' ++ R)) : G P c ops K (o :: rest) E M H :=
  G.dyn hd hn hw (Dyn.call ho hx ha hs hp k)
end Go.Proofs.YtaeeahcokiebdaaGreat

/-
  From a law's Spec to the row's closing condition: memory at the call, and that nothing of it turned.
-/
namespace Go.Proofs.YtaeeahcokiebdaaGreat
open Go.ChangeShapes Go.WideShapes Go.ChangeAt Go.RowKit

/-- Memory as it is at a call: all blocks of cells. -/
def memOf (W : World) : Mem := fun b => match W.heap[b]? with
  | some (.cells c _ _) => some c.toList
  | _ => Option.none
theorem memOf_agr (W : World) : Agr (memOf W) W := by
  intro b c h
  unfold memOf at h
  split at h
  · rename_i c' T fz e
    injection h with h
    subst h
    exact ⟨T, fz, by rw [e]⟩
  · cases h
theorem memOf_at (W : World) : At (memOf W) [] W := ⟨memOf_agr W, fun p hp => by simp at hp, fun b hb => by simp [ids] at hb, by simp [ids]⟩
theorem st_below {W : World} {M M' : Mem} {H : Heap} {w' : World} (h : St W M [] M' H w') : Below W.heap.size W w' :=
  ⟨h.os, h.tape, h.output, h.size, fun k hk => h.keep k hk (by simp)⟩

section
variable {H : Type} {enc : TypeId × Value → H} {P : Program}
theorem trodAll_below (hl : laidOutB P = true) {W W' : World} (hb : Below W.heap.size W W') : ∀ {ts : List TypeId} {vs : List Value} {ds : List (DataW H)} {p : List MemPlace},
    (ts.all fun t => P.readableRec t && decide (t < P.types.size)) = true → DataW.TrodAll enc P W 0 (fun _ => true) true ts vs ds p →
    (∀ x ∈ p, x.block < W.heap.size) → DataW.TrodAll enc P W' 0 (fun b => decide (b < W.heap.size)) true ts vs ds p
  | [], [], [], _, _, h, _ => h
  | t :: ts, v :: vs, d :: ds, p, ha, h, hlt => by
    obtain ⟨a, b, h1, h2, rfl⟩ := h
    simp only [List.all_cons, Bool.and_eq_true] at ha
    obtain ⟨⟨ha1, ha2⟩, ha3⟩ := ha
    have h3 := Below.trod hl ha1 (of_decide_eq_true ha2) h1 hb (fun x hx => hlt x (by simp [hx]))
    exact ⟨a, b, h3, trodAll_below hl hb ha3 h2 (fun x hx => hlt x (by simp [hx])), rfl⟩
  | [], [], _ :: _, _, _, h, _ => h.elim
  | [], _ :: _, _, _, _, h, _ => by cases h
  | _ :: _, [], _, _, _, h, _ => by cases h
  | _ :: _, _ :: _, [], _, _, h, _ => by cases h
/-- The row's closing condition of a law that answered true. -/
theorem law_post (hl : laidOutB P = true) {fn : Func} {s : ChangeSpec} {W W' : World} {args : Array Value} {ds gs : List (DataW H)} {before : List MemPlace} {bt : TypeId}
    (hW : DataW.Whole enc P fn.params.toList s.vars false W args.toList ds gs before) (hp : (fn.params.toList.all fun t => P.readableRec t && decide (t < P.types.size)) = true) (hv : s.vars = [])
    (bel : Below W.heap.size W W') (hr : fn.resultTypes = #[bt]) (hbt : P.underlying bt = some .bool) (hf : s.fn H ds = { results := [.lit (.bool true)], args := ds }) :
    s.post enc P fn false true false false W args (.bool true) W' := by
  have hW' := hW
  obtain ⟨p, q, hA, hV, rfl, hfz, hnd⟩ := hW
  rw [hv] at hV
  obtain ⟨rfl, rfl⟩ := trodVars_none hV
  rw [← List.append_nil ds] at hf
  have hlt := hW'.lt
  refine ⟨ds, [], _, [], p, [], hW', ?_, ?_, ?_, bel.frame _, fun h => by cases h⟩
  · rw [hf, hr]
    simp only [List.append_nil]
    exact trodAll_mk1 (shut_bool hbt _)
  · rw [hf]
    simp only [List.append_nil]
    exact trodAll_below hl bel hp hA (fun x hx => hlt x (by simp [hx]))
  · rw [hv, hf]
    exact rfl
/-! ### Opening arguments -/
/-- A struct of whole numbers alone. -/
def intsOnly (P : Program) (fs : Array Field) : Bool := (List.range fs.size).all fun i => match fs[i]? with
  | some f => f.offset == i && P.cellsOf f.type == 1 && (match P.underlying f.type with | some (.int .i64) => true | _ => false)
  | Option.none => false
theorem open_intsOnly {r : Reach} {b0 : Nat} {w : World} {base : Nat} {spare : Nat → Bool} {held : Bool} {t : TypeId} {fs : Array Field} {v : Value} {d : DataW H} {ps : List MemPlace}
    (N : Nat) (ht : P.underlying t = some (.struct fs)) (hN : fs.size = N) (ho : intsOnly P fs = true) (hC : P.cellsOf t = fs.size) (hval : Value.okWide P w r b0 t v) (hd : DataW.Trod enc P w base spare held t v d ps) :
    ∃ l : List Int, l.length = N ∧ v = .agg (l.map fun n => Value.int .i64 n).toArray := by
  obtain ⟨cs, rfl, hs⟩ := okWide_struct ht hval
  obtain ⟨fuel, hf⟩ := hd
  obtain ⟨xs, n, _, _, hl, hxl, hx⟩ := DataW.trod_struct ht hf
  have hcells : (Value.agg cs).cells = cs := rfl
  rw [hcells] at hl hx
  have hget : ∀ i, i < fs.size → ∃ z, cs.toList[i]? = some (Value.int .i64 z) := by
    intro i hi
    have h1 := List.all_eq_true.1 ho i (List.mem_range.2 hi)
    have hfi : fs[i]? = some fs[i] := Array.getElem?_eq_getElem hi
    rw [hfi] at h1
    simp only [Bool.and_eq_true, beq_iff_eq] at h1
    obtain ⟨⟨h1, h2⟩, h3⟩ := h1
    have h4 := hx i _ hfi
    rw [h1, h2, List.getElem?_eq_getElem (by omega)] at h4
    have h5 : P.underlying fs[i].type = some (.int .i64) := by
      revert h3
      split
      · intro _; assumption
      · intro h; cases h
    obtain ⟨z, h6, _⟩ := DataW.trod_int h5 h4
    refine ⟨z, ?_⟩
    have := congrArg (·[0]?) h6
    simpa [List.getElem?_take, List.getElem?_drop] using this
  have hall : ∀ x ∈ cs.toList, ∃ z, x = Value.int .i64 z := by
    intro x hxm
    obtain ⟨i, hi, rfl⟩ := List.getElem_of_mem hxm
    obtain ⟨z, hz⟩ := hget i (by omega)
    exact ⟨z, by rw [List.getElem?_eq_getElem hi] at hz; exact Option.some.inj hz⟩
  have hmap : ∀ l : List Value, (∀ x ∈ l, ∃ z, x = Value.int .i64 z) → ∃ k : List Int, l = k.map fun n => Value.int .i64 n := by
    intro l
    induction l with
    | nil => intro _; exact ⟨[], rfl⟩
    | cons x l ih =>
      intro h
      obtain ⟨z, rfl⟩ := h x (by simp)
      obtain ⟨k, rfl⟩ := ih fun y hy => h y (by simp [hy])
      exact ⟨z :: k, rfl⟩
  obtain ⟨k, hk⟩ := hmap _ hall
  refine ⟨k, ?_, ?_⟩
  · have := congrArg List.length hk
    simp at this
    omega
  · rw [← hk]
theorem five {l : List Int} (h : l.length = 5) : ∃ a b c d e, l = [a, b, c, d, e] := by
  match l, h with
  | [a, b, c, d, e], _ => exact ⟨a, b, c, d, e, rfl⟩
end
end Go.Proofs.YtaeeahcokiebdaaGreat

/-
  The operations, one by one: what each comes to, over slots, immutable memory and owned blocks.
  Conditions: none; everything here is proved over any program.
-/
namespace Go.Proofs.YtaeeahcokiebdaaGreat
variable {P : Program}

/-! ### Facts on types -/
class TyI (P : Program) (t : TypeId) (agg : outParam Bool) (size : outParam Nat) : Prop where
  isAgg : ∀ w, (isAgg t).run P w = .ok agg w
  sizeOf : ∀ w, (sizeOf t).run P w = .ok size w
class TyU (P : Program) (t : TypeId) (d : outParam TypeDesc) : Prop where
  und : P.underlying t = some d
class TyZ (P : Program) (t : TypeId) (z : outParam Value) : Prop where
  zero : ∀ w, (zeroValue t).run P w = .ok z w
class TyB (P : Program) (t : TypeId) (b : outParam Nat) : Prop where
  bytes : ∃ i, P.info? t = some i ∧ i.bytes = b
class TyF (P : Program) (s : TypeId) (f : Nat) (off : outParam Nat) : Prop where
  place : ∃ fs fld, P.underlying s = some (.struct fs) ∧ fs[f]? = some fld ∧ fld.offset = off ∧ ∀ w, ∃ n, (Go.sizeOf fld.type).run P w = .ok n w ∧ n ≠ 0

/-! ### Cells -/
def takeN : Nat → List Value → Option (List Value)
  | 0, _ => some []
  | _ + 1, [] => Option.none
  | n + 1, x :: l => match takeN n l with
    | some r => some (x :: r)
    | Option.none => Option.none
def seg (c : List Value) (o n : Nat) : Option (List Value) := takeN n (c.drop o)
def ovr : List Value → List Value → Option (List Value)
  | c, [] => some c
  | [], _ :: _ => Option.none
  | _ :: c, v :: vs => match ovr c vs with
    | some r => some (v :: r)
    | Option.none => Option.none
def setSeg : List Value → Nat → List Value → Option (List Value)
  | c, 0, vs => ovr c vs
  | [], _ + 1, _ => Option.none
  | x :: c, o + 1, vs => match setSeg c o vs with
    | some r => some (x :: r)
    | Option.none => Option.none
theorem takeN_some : ∀ {n : Nat} {l r : List Value}, takeN n l = some r → r = l.take n ∧ n ≤ l.length
  | 0, l, r, h => by simp [takeN] at h; simp [h]
  | n + 1, [], r, h => by simp [takeN] at h
  | n + 1, x :: l, r, h => by
    simp only [takeN] at h
    split at h
    · rename_i r' h'
      obtain ⟨h1, h2⟩ := takeN_some h'
      simp at h
      subst h
      simp [h1, h2]
    · cases h
theorem takeN_eq {n : Nat} {l : List Value} (h : n ≤ l.length) : takeN n l = some (l.take n) := by
  induction n generalizing l with
  | zero => simp [takeN]
  | succ n ih =>
    cases l with
    | nil => simp at h
    | cons x l => simp at h; simp [takeN, ih h]
theorem seg_some {c o n r} (h : seg c o n = some r) : r = (c.drop o).take n ∧ r.length = n ∧ ∀ j v, r[j]? = some v → c[o + j]? = some v := by
  obtain ⟨h1, h2⟩ := takeN_some h
  refine ⟨h1, by rw [h1]; simp at h2 ⊢; omega, ?_⟩
  intro j v hv
  rw [h1, List.getElem?_take] at hv
  split at hv
  · simpa [List.getElem?_drop] using hv
  · cases hv
theorem ovr_some : ∀ {vs c r : List Value}, ovr c vs = some r → r = vs ++ c.drop vs.length ∧ vs.length ≤ c.length
  | [], c, r, h => by simp [ovr] at h; simp [h]
  | v :: vs, [], r, h => by simp [ovr] at h
  | v :: vs, x :: c, r, h => by
    simp only [ovr] at h
    split at h
    · rename_i r' h'
      obtain ⟨h1, h2⟩ := ovr_some h'
      simp at h
      subst h
      simp [h1, h2]
    · cases h
theorem setSeg_some : ∀ {c : List Value} {o : Nat} {vs r : List Value}, setSeg c o vs = some r → r = c.take o ++ vs ++ c.drop (o + vs.length) ∧ o + vs.length ≤ c.length
  | c, 0, vs, r, h => by
    have h' : ovr c vs = some r := by cases c <;> simpa [setSeg] using h
    obtain ⟨h1, h2⟩ := ovr_some h'
    simp [h1, h2]
  | [], o + 1, vs, r, h => by simp [setSeg] at h
  | x :: c, o + 1, vs, r, h => by
    simp only [setSeg] at h
    split at h
    · rename_i r' h'
      obtain ⟨h1, h2⟩ := setSeg_some h'
      simp at h
      subst h
      subst h1
      constructor
      · simp [Nat.add_right_comm]
      · simp; omega
    · cases h
theorem setSeg_eq {c : List Value} {o : Nat} {vs : List Value} (h : o + vs.length ≤ c.length) : setSeg c o vs = some (c.take o ++ vs ++ c.drop (o + vs.length)) := by
  induction o generalizing c with
  | zero =>
    have : ∀ (vs c : List Value), vs.length ≤ c.length → ovr c vs = some (vs ++ c.drop vs.length) := by
      intro vs
      induction vs with
      | nil => intro c _; simp [ovr]
      | cons v vs ih =>
        intro c hc
        cases c with
        | nil => simp at hc
        | cons x c => simp at hc; simp [ovr, ih c hc]
    have h0 := this vs c (by omega)
    cases c <;> simpa [setSeg] using h0
  | succ o ih =>
    cases c with
    | nil => simp at h
    | cons x c =>
      simp at h
      have := ih (c := c) (by omega)
      simp [setSeg, this, Nat.add_right_comm]
def allOne (l : List Value) : Bool := l.all Value.oneCell'

/-- A block whose cells are known. -/
def Rd (M : Mem) (H : Heap) (b : Nat) (c : List Value) : Prop := M b = some c ∨ (b, HB.cells c) ∈ H
theorem Rd.m {M H b c} (h : M b = some c) : Rd M H b c := .inl h
theorem Rd.h0 {M b c H} : Rd M ((b, .cells c) :: H) b c := .inr (List.mem_cons_self ..)
theorem Rd.tl {M p b c H} (h : Rd M H b c) : Rd M (p :: H) b c := h.imp id (List.mem_cons_of_mem _)
theorem Rd.over {M B b c H} (h : Rd M H b c) : Rd M (B ++ H) b c := h.imp id (fun h => List.mem_append.2 (.inr h))
theorem Rd.inLeft {M B b c H} (h : Rd M B b c) : Rd M (B ++ H) b c := h.imp id (fun h => List.mem_append.2 (.inl h))
theorem Rd.mono {M M' H b c} (h : Rd M H b c) (hl : MLe M M') : Rd M' H b c := h.imp (hl b c) id
theorem Rd.block {M H b c w} (h : Rd M H b c) (ha : Agr M w) (hh : Has H w) : ∃ T fz, w.heap[b]? = some (.cells c.toArray T fz) := by
  rcases h with h | h
  · exact ha b c h
  · obtain ⟨T, lo, hi, h1, _⟩ := hh _ h; exact ⟨T, _, h1⟩
theorem Rd.cell {M H b c w} (h : Rd M H b c) (ha : Agr M w) (hh : Has H w) {o v} (hv : c[o]? = some v) : w.cell? ⟨b, o, Option.none⟩ = some v := by
  obtain ⟨T, fz, h1⟩ := h.block ha hh
  simp [World.cell?, h1, hv]

/-- Found by trying. -/
theorem rdx {M H b c} (h : Rd M H b c := by first | exact Rd.h0 | exact Rd.tl Rd.h0 | exact Rd.tl (Rd.tl Rd.h0) | exact Rd.tl (Rd.tl (Rd.tl Rd.h0)) | exact Rd.tl (Rd.tl (Rd.tl (Rd.tl Rd.h0))) | exact Rd.tl (Rd.tl (Rd.tl (Rd.tl (Rd.tl Rd.h0)))) | exact Rd.m (by assumption) | assumption | exact Rd.over Rd.h0 | exact Rd.tl (Rd.over Rd.h0) | exact Rd.over (Rd.tl Rd.h0) | exact Rd.tl (Rd.tl (Rd.over Rd.h0)) | exact Rd.tl (Rd.over (Rd.tl Rd.h0))) : Rd M H b c := h

/-! ### Operations that only compute and read -/
section sure
variable {E : Env} {M : Mem} {H : Heap} {d : Option Tmp} {ty : TypeId} {pos : String} {aft : Array Edge} {g : Option (Nat × Bool)}
theorem avail_ev {a : Act} {o : Oper} {x : Operand} {v : Value} (h : Avail E a o) (hm : x ∈ o.op.operands) (hx : eev E x = some v) : a.eval x = v := h x hm v hx
theorem Sure.move {x v} (hx : eev E x = some v) : Sure P ⟨d, .move x, ty, pos, aft, g⟩ E M H v := by
  intro a w hav _ _
  have h1 := avail_ev hav (x := x) (by simp [Op.operands]) hx
  simp [execOp, h1]
theorem Sure.assign {x v} (hx : eev E x = some v) : Sure P ⟨d, .assign x, ty, pos, aft, g⟩ E M H v := by
  intro a w hav _ _
  have h1 := avail_ev hav (x := x) (by simp [Op.operands]) hx
  simp [execOp, h1]
theorem Sure.pick_true {x y z v} (hx : eev E x = some (.bool true)) (hy : eev E y = some v) : Sure P ⟨d, .pick x y z, ty, pos, aft, g⟩ E M H v := by
  intro a w hav _ _
  have h1 := avail_ev hav (x := x) (by simp [Op.operands]) hx
  have h2 := avail_ev hav (x := y) (by simp [Op.operands]) hy
  simp [execOp, h1, h2, asBool]
theorem Sure.pick_false {x y z v} (hx : eev E x = some (.bool false)) (hz : eev E z = some v) : Sure P ⟨d, .pick x y z, ty, pos, aft, g⟩ E M H v := by
  intro a w hav _ _
  have h1 := avail_ev hav (x := x) (by simp [Op.operands]) hx
  have h2 := avail_ev hav (x := z) (by simp [Op.operands]) hz
  simp [execOp, h1, h2, asBool]
theorem Sure.nilCheck {x p} (hx : eev E x = some (.pointer (some p))) : Sure P ⟨d, .nilCheck x, ty, pos, aft, g⟩ E M H (.pointer (some p)) := by
  intro a w hav _ _
  have h1 := avail_ev hav (x := x) (by simp [Op.operands]) hx
  simp [execOp, h1]
theorem Sure.extract {x i v} {vs : List Value} (hx : eev E x = some (.tuple vs.toArray)) (hi : vs[i]? = some v) : Sure P ⟨d, .extract x i, ty, pos, aft, g⟩ E M H v := by
  intro a w hav _ _
  have h1 := avail_ev hav (x := x) (by simp [Op.operands]) hx
  simp [execOp, h1, Instr.extract, hi]
theorem Sure.makeFunc {fn caps vs} (hc : evs E caps = some vs) : Sure P ⟨d, .makeFunc fn #[] caps.toArray, ty, pos, aft, g⟩ E M H (.func fn #[] vs.toArray) := by
  intro a w hav _ _
  have hev : ∀ (l : List Operand) (us : List Value), (∀ y ∈ l, ∀ v, eev E y = some v → a.eval y = v) → evs E l = some us → l.map a.eval = us := by
    intro l
    induction l with
    | nil => intro us _ h; simp [evs] at h; simp [h]
    | cons y l ih =>
      intro us hy h
      simp only [evs] at h
      cases h1 : eev E y with
      | none => simp [h1] at h
      | some u =>
        cases h2 : evs E l with
        | none => simp [h1, h2] at h
        | some us' =>
          simp [h1, h2] at h
          subst h
          simp [hy y (by simp) u h1, ih us' (fun z hz => hy z (by simp [hz])) h2]
  have h2 := hev caps vs (fun y hy v hv => hav y (by simp [Op.operands, hy]) v hv) hc
  simp [execOp, Instr.makeFunc, h2]

/-! numbers -/
theorem Sure.bin {op t x y yt u v r} (hx : eev E x = some u) (hy : eev E y = some v)
    (hr : ∀ w, (eqGuard op t x y u v).run P w = .ok () w) (hb : ∀ w, (binOp op t u v).run P w = .ok r w) : Sure P ⟨d, .binOp op t x y yt, ty, pos, aft, g⟩ E M H r := by
  intro a w hav _ _
  have h1 := avail_ev hav (x := x) (by simp [Op.operands]) hx
  have h2 := avail_ev hav (x := y) (by simp [Op.operands]) hy
  simp [execOp, h1, h2, hr, hb]
section ints
variable {t yt : TypeId} {x y : Operand} {k : IntKind} {a b : Int}
theorem eqGuard_int {op} {u} : ∀ w, (eqGuard op t x y (.int k a) u).run P w = .ok () w := fun w => by rw [eqGuard_at_int]; rfl
theorem Sure.add' (hx : eev E x = some (.int k a)) (hy : eev E y = some (.int k b)) : Sure P ⟨d, .binOp .add t x y yt, ty, pos, aft, g⟩ E M H (.int k (k.wrap (a + b))) :=
  Sure.bin hx hy eqGuard_int fun w => by simp [binOp, Op.intArith]
theorem Sure.sub' (hx : eev E x = some (.int k a)) (hy : eev E y = some (.int k b)) : Sure P ⟨d, .binOp .sub t x y yt, ty, pos, aft, g⟩ E M H (.int k (k.wrap (a - b))) :=
  Sure.bin hx hy eqGuard_int fun w => by simp [binOp, Op.intArith]
theorem Sure.mul' (hx : eev E x = some (.int k a)) (hy : eev E y = some (.int k b)) : Sure P ⟨d, .binOp .mul t x y yt, ty, pos, aft, g⟩ E M H (.int k (k.wrap (a * b))) :=
  Sure.bin hx hy eqGuard_int fun w => by simp [binOp, Op.intArith]
def InK (k : IntKind) (n : Int) : Prop := k.wrap n = n
theorem inK64 {n : Int} (h : -9223372036854775808 ≤ n ∧ n ≤ 9223372036854775807) : InK .i64 n := IntWalk.i64_in n h
theorem inK8 {n : Int} (h : 0 ≤ n ∧ n ≤ 255) : InK .u8 n := IntWalk.u8_in n h
theorem inK32 {n : Int} (h : 0 ≤ n ∧ n ≤ 4294967295) : InK .u32 n := IntWalk.u32_in n h
theorem inKu64 {n : Int} (h : 0 ≤ n ∧ n ≤ 18446744073709551615) : InK .u64 n := IntWalk.u64_in n h
theorem Sure.add (hx : eev E x = some (.int k a)) (hy : eev E y = some (.int k b)) (h : InK k (a + b)) : Sure P ⟨d, .binOp .add t x y yt, ty, pos, aft, g⟩ E M H (.int k (a + b)) := by
  have := Sure.add' (P := P) (M := M) (H := H) (d := d) (ty := ty) (pos := pos) (aft := aft) (g := g) (t := t) (yt := yt) hx hy; rwa [show k.wrap (a + b) = a + b from h] at this
theorem Sure.sub (hx : eev E x = some (.int k a)) (hy : eev E y = some (.int k b)) (h : InK k (a - b)) : Sure P ⟨d, .binOp .sub t x y yt, ty, pos, aft, g⟩ E M H (.int k (a - b)) := by
  have := Sure.sub' (P := P) (M := M) (H := H) (d := d) (ty := ty) (pos := pos) (aft := aft) (g := g) (t := t) (yt := yt) hx hy; rwa [show k.wrap (a - b) = a - b from h] at this
theorem Sure.mul (hx : eev E x = some (.int k a)) (hy : eev E y = some (.int k b)) (h : InK k (a * b)) : Sure P ⟨d, .binOp .mul t x y yt, ty, pos, aft, g⟩ E M H (.int k (a * b)) := by
  have := Sure.mul' (P := P) (M := M) (H := H) (d := d) (ty := ty) (pos := pos) (aft := aft) (g := g) (t := t) (yt := yt) hx hy; rwa [show k.wrap (a * b) = a * b from h] at this
theorem Sure.quo (hx : eev E x = some (.int k a)) (hy : eev E y = some (.int k b)) (ha : 0 ≤ a) (hb : 0 < b) (h : InK k (a / b)) : Sure P ⟨d, .binOp .quo t x y yt, ty, pos, aft, g⟩ E M H (.int k (a / b)) :=
  Sure.bin hx hy eqGuard_int fun w => by
    have : b ≠ 0 := by omega
    simp [binOp, Op.intDiv, this, Int.tdiv_eq_ediv_of_nonneg ha, show k.wrap (a / b) = a / b from h]
theorem Sure.rem (hx : eev E x = some (.int k a)) (hy : eev E y = some (.int k b)) (ha : 0 ≤ a) (hb : 0 < b) : Sure P ⟨d, .binOp .rem t x y yt, ty, pos, aft, g⟩ E M H (.int k (a % b)) :=
  Sure.bin hx hy eqGuard_int fun w => by
    have : b ≠ 0 := by omega
    simp [binOp, Op.intDiv, this, Int.tmod_eq_emod_of_nonneg ha]
theorem Sure.rem' (hx : eev E x = some (.int k a)) (hy : eev E y = some (.int k b)) (hb : b ≠ 0) : Sure P ⟨d, .binOp .rem t x y yt, ty, pos, aft, g⟩ E M H (.int k (a.tmod b)) :=
  Sure.bin hx hy eqGuard_int fun w => by
    simp [binOp, Op.intDiv, hb]
theorem Sure.lss (hx : eev E x = some (.int k a)) (hy : eev E y = some (.int k b)) : Sure P ⟨d, .binOp .lss t x y yt, ty, pos, aft, g⟩ E M H (.bool (decide (a < b))) :=
  Sure.bin hx hy eqGuard_int fun w => by simp [binOp, Op.intCmp]
theorem Sure.leq (hx : eev E x = some (.int k a)) (hy : eev E y = some (.int k b)) : Sure P ⟨d, .binOp .leq t x y yt, ty, pos, aft, g⟩ E M H (.bool (decide (a ≤ b))) :=
  Sure.bin hx hy eqGuard_int fun w => by simp [binOp, Op.intCmp]
theorem Sure.gtr (hx : eev E x = some (.int k a)) (hy : eev E y = some (.int k b)) : Sure P ⟨d, .binOp .gtr t x y yt, ty, pos, aft, g⟩ E M H (.bool (decide (b < a))) :=
  Sure.bin hx hy eqGuard_int fun w => by simp [binOp, Op.intCmp]
theorem Sure.geq (hx : eev E x = some (.int k a)) (hy : eev E y = some (.int k b)) : Sure P ⟨d, .binOp .geq t x y yt, ty, pos, aft, g⟩ E M H (.bool (decide (b ≤ a))) :=
  Sure.bin hx hy eqGuard_int fun w => by simp [binOp, Op.intCmp]
theorem Sure.eql (hx : eev E x = some (.int k a)) (hy : eev E y = some (.int k b)) : Sure P ⟨d, .binOp .eql t x y yt, ty, pos, aft, g⟩ E M H (.bool (decide (a = b))) :=
  Sure.bin hx hy eqGuard_int fun w => by simp [binOp, Op.intCmp]; rfl
theorem Sure.neq (hx : eev E x = some (.int k a)) (hy : eev E y = some (.int k b)) : Sure P ⟨d, .binOp .neq t x y yt, ty, pos, aft, g⟩ E M H (.bool (decide (a ≠ b))) :=
  Sure.bin hx hy eqGuard_int fun w => by simp [binOp, Op.intCmp]; rfl
theorem Sure.and (hx : eev E x = some (.int k a)) (hy : eev E y = some (.int k b)) : Sure P ⟨d, .binOp .and t x y yt, ty, pos, aft, g⟩ E M H (.int k (bits .and k a b)) :=
  Sure.bin hx hy eqGuard_int fun w => by simp [binOp, intBits_and]
theorem Sure.or (hx : eev E x = some (.int k a)) (hy : eev E y = some (.int k b)) : Sure P ⟨d, .binOp .or t x y yt, ty, pos, aft, g⟩ E M H (.int k (bits .or k a b)) :=
  Sure.bin hx hy eqGuard_int fun w => by simp [binOp, intBits_or]
theorem Sure.xor (hx : eev E x = some (.int k a)) (hy : eev E y = some (.int k b)) : Sure P ⟨d, .binOp .xor t x y yt, ty, pos, aft, g⟩ E M H (.int k (bits .xor k a b)) :=
  Sure.bin hx hy eqGuard_int fun w => by simp [binOp, intBits_xor]
theorem Sure.andNot (hx : eev E x = some (.int k a)) (hy : eev E y = some (.int k b)) : Sure P ⟨d, .binOp .andNot t x y yt, ty, pos, aft, g⟩ E M H (.int k (bits .andNot k a b)) :=
  Sure.bin hx hy eqGuard_int fun w => by simp [binOp, intBits_andNot]
theorem Sure.shl {k' : IntKind} (hx : eev E x = some (.int k a)) (hy : eev E y = some (.int k' b)) (h : 0 ≤ b ∧ b ≤ k.bits) : Sure P ⟨d, .binOp .shl t x y yt, ty, pos, aft, g⟩ E M H (.int k (k.wrap (a * 2 ^ b.toNat))) :=
  Sure.bin hx hy eqGuard_int fun w => by rw [binOp_shl, shift_shl k k' a b h.1 h.2]; rfl
theorem Sure.shr {k' : IntKind} (hx : eev E x = some (.int k a)) (hy : eev E y = some (.int k' b)) (h : 0 ≤ b ∧ b ≤ k.bits) : Sure P ⟨d, .binOp .shr t x y yt, ty, pos, aft, g⟩ E M H (.int k (a / 2 ^ b.toNat)) :=
  Sure.bin hx hy eqGuard_int fun w => by rw [binOp_shr, shift_shr k k' a b h.1 h.2]; rfl
theorem Sure.conv' {src dst k2} {ds} [hs : TyU P src ds] [hd : TyU P dst (.int k2)] (hx : eev E x = some (.int k a)) : Sure P ⟨d, .convert src dst x, ty, pos, aft, g⟩ E M H (.int k2 (k2.wrap a)) := by
  intro ac w hav _ _
  have h1 := avail_ev hav (x := x) (by simp [Op.operands]) hx
  simp [execOp, h1, Go.convert, run_underlying hs.und, run_underlying hd.und, Conv.intToInt]
theorem Sure.conv {src dst k2} {ds} [hs : TyU P src ds] [hd : TyU P dst (.int k2)] (hx : eev E x = some (.int k a)) (h : InK k2 a) : Sure P ⟨d, .convert src dst x, ty, pos, aft, g⟩ E M H (.int k2 a) := by
  have := Sure.conv' (P := P) (M := M) (H := H) (d := d) (ty := ty) (pos := pos) (aft := aft) (g := g) (src := src) (dst := dst) hx; rwa [show k2.wrap a = a from h] at this
end ints
theorem Sure.not {t x b} (hx : eev E x = some (.bool b)) : Sure P ⟨d, .unOp .not t x, ty, pos, aft, g⟩ E M H (.bool (!b)) := by
  intro a w hav _ _
  have h1 := avail_ev hav (x := x) (by simp [Op.operands]) hx
  simp [execOp, h1, Op.unary]

/-! addresses and cells -/
theorem addr_add (b o n : Nat) : Addr.add ⟨b, o, Option.none⟩ n = ⟨b, o + n, Option.none⟩ := Addr.add_lit b o n
theorem Sure.fieldAddr {s x f off b o} [hf : TyF P s f off] (hx : eev E x = some (.pointer (some ⟨b, o, Option.none⟩))) : Sure P ⟨d, .fieldAddr s x f, ty, pos, aft, g⟩ E M H (.pointer (some ⟨b, o + off, Option.none⟩)) := by
  intro a w hav _ _
  have h1 := avail_ev hav (x := x) (by simp [Op.operands]) hx
  obtain ⟨fs, fld, h2, h3, h4, h5⟩ := hf.place
  obtain ⟨n, h6, h7⟩ := h5 w
  simp [execOp, h1, Instr.fieldAt, run_underlying h2, h3, Instr.sureAddr, fieldPlace, h6, h7, h4, addr_add]
theorem Sure.load {t x b o c v n} [ht : TyI P t false n] (hx : eev E x = some (.pointer (some ⟨b, o, Option.none⟩))) (hr : Rd M H b c) (hv : c[o]? = some v) : Sure P ⟨d, .load t x, ty, pos, aft, g⟩ E M H v := by
  intro a w hav ha hh
  have h1 := avail_ev hav (x := x) (by simp [Op.operands]) hx
  simp [execOp, h1, Instr.loadAt, Instr.sureAddr, loadVar, ht.isAgg, hr.cell ha hh hv]
theorem run_load_seg {b o n c vs w} (hc : seg c o n = some vs) (hcell : ∀ j v, c[j]? = some v → w.cell? ⟨b, j, Option.none⟩ = some v) : (loadCells ⟨b, o, Option.none⟩ n).run P w = .ok vs.toArray w := by
  obtain ⟨_, h2, h3⟩ := seg_some hc
  have := run_loadCells_list (P := P) w ⟨b, o, Option.none⟩ vs (fun j v hv => by rw [addr_add]; exact hcell _ _ (h3 j v hv))
  rwa [h2] at this
theorem Sure.loadAgg {t x b o c vs n} [ht : TyI P t true n] (hx : eev E x = some (.pointer (some ⟨b, o, Option.none⟩))) (hr : Rd M H b c) (hv : seg c o n = some vs) : Sure P ⟨d, .load t x, ty, pos, aft, g⟩ E M H (.agg vs.toArray) := by
  intro a w hav ha hh
  have h1 := avail_ev hav (x := x) (by simp [Op.operands]) hx
  have h2 := run_load_seg (P := P) (w := w) (b := b) hv (fun j v hj => hr.cell ha hh hj)
  simp [execOp, h1, Instr.loadAt, Instr.sureAddr, loadVar, ht.isAgg, ht.sizeOf, h2]
theorem Sure.indexAddr {t x y e n b o len cap k i agg} [ht : TyU P t (.slice e)] [he : TyI P e agg n] (hx : eev E x = some (.slice (some ⟨b, o, Option.none⟩) len cap)) (hy : eev E y = some (.int k i))
    (hi : 0 ≤ i ∧ i < len) : Sure P ⟨d, .indexAddr t x y, ty, pos, aft, g⟩ E M H (.pointer (some ⟨b, o + i.toNat * n, Option.none⟩)) := by
  intro a w hav ha hh
  have h1 := avail_ev hav (x := x) (by simp [Op.operands]) hx
  have h2 := avail_ev hav (x := y) (by simp [Op.operands]) hy
  have h3 : (sizeOf (P.elem t)).run P w = .ok n w := by simp [Program.elem, ht.und, he.sizeOf]
  have h4 := run_indexAt_slice (P := P) w t ⟨b, o, Option.none⟩ len cap k i (by simp [Program.elem, ht.und])
  rw [if_pos hi, h3] at h4
  simp [execOp, h1, h2, h4, addr_add]
theorem Sure.len_slice {t x e p n c} [ht : TyU P t (.slice e)] (hx : eev E x = some (.slice p n c)) : Sure P ⟨d, .call { callee := .builtin .len, args := #[x], argTypes := #[t] }, ty, pos, aft, g⟩ E M H (.int .i64 n) := by
  intro a w hav ha hh
  have h1 := avail_ev hav (x := x) (by simp [Op.operands, Call.operands]) hx
  simp [execOp, resolve, invoke, builtin, h1, Builtin.len_, run_underlying ht.und, goInt]
theorem Sure.cap_slice {t x e p n c} [ht : TyU P t (.slice e)] (hx : eev E x = some (.slice p n c)) : Sure P ⟨d, .call { callee := .builtin .cap, args := #[x], argTypes := #[t] }, ty, pos, aft, g⟩ E M H (.int .i64 c) := by
  intro a w hav ha hh
  have h1 := avail_ev hav (x := x) (by simp [Op.operands, Call.operands]) hx
  simp [execOp, resolve, invoke, builtin, h1, Builtin.cap_, run_underlying ht.und, goInt]
theorem Sure.len_string {t x s} [ht : TyU P t .string] (hx : eev E x = some (.string s)) : Sure P ⟨d, .call { callee := .builtin .len, args := #[x], argTypes := #[t] }, ty, pos, aft, g⟩ E M H (.int .i64 s.size) := by
  intro a w hav ha hh
  have h1 := avail_ev hav (x := x) (by simp [Op.operands, Call.operands]) hx
  simp [execOp, resolve, invoke, builtin, h1, Builtin.len_, run_underlying ht.und, goInt]

/-! comparing pointers, bools, slices with nil -/
theorem run_equal_ptr {t e p w} (ht : P.underlying t = some (.pointer e)) : (Op.equal t (.pointer p) (.pointer Option.none)).run P w = .ok p.isNone w := by
  show (Op.equalIn (9999 + 1) t (.pointer p) (.pointer Option.none)).run P w = _
  unfold Op.equalIn
  cases p <;> simp [run_underlying ht]
theorem run_equal_slice {t e p n c n' c' w} (ht : P.underlying t = some (.slice e)) : (Op.equal t (.slice p n c) (.slice Option.none n' c')).run P w = .ok p.isNone w := by
  show (Op.equalIn (9999 + 1) t (.slice p n c) (.slice Option.none n' c')).run P w = _
  unfold Op.equalIn
  cases p <;> simp [run_underlying ht]
theorem run_equal_bool {t u v w} (ht : P.underlying t = some .bool) : (Op.equal t (.bool u) (.bool v)).run P w = .ok (u == v) w := by
  show (Op.equalIn (9999 + 1) t (.bool u) (.bool v)).run P w = _
  unfold Op.equalIn
  simp [run_underlying ht]
theorem Sure.ptr_eq_nil {t x y yt e p} [ht : TyU P t (.pointer e)] (hx : eev E x = some (.pointer p)) (hy : eev E y = some (.pointer Option.none)) : Sure P ⟨d, .binOp .eql t x y yt, ty, pos, aft, g⟩ E M H (.bool p.isNone) :=
  Sure.bin hx hy (fun w => by rw [eqGuard_at_pointer]; rfl) fun w => by
    show (Op.equal t (.pointer p) (.pointer Option.none) >>= fun b => pure (Value.bool b)).run P w = _
    simp [run_equal_ptr ht.und]
theorem Sure.ptr_ne_nil {t x y yt e p} [ht : TyU P t (.pointer e)] (hx : eev E x = some (.pointer p)) (hy : eev E y = some (.pointer Option.none)) : Sure P ⟨d, .binOp .neq t x y yt, ty, pos, aft, g⟩ E M H (.bool (!p.isNone)) :=
  Sure.bin hx hy (fun w => by rw [eqGuard_at_pointer]; rfl) fun w => by
    show (Op.equal t (.pointer p) (.pointer Option.none) >>= fun b => pure (Value.bool (!b))).run P w = _
    simp only [Sem.run_bind, run_equal_ptr ht.und, Result.andThen_ok, Sem.run_pure]
theorem Sure.slice_eq_nil {t x y yt e p n c n' c'} [ht : TyU P t (.slice e)] (hx : eev E x = some (.slice p n c)) (hy : eev E y = some (.slice Option.none n' c')) : Sure P ⟨d, .binOp .eql t x y yt, ty, pos, aft, g⟩ E M H (.bool p.isNone) :=
  Sure.bin hx hy (fun w => by rw [eqGuard_at_slice]; rfl) fun w => by
    show (Op.equal t (.slice p n c) (.slice Option.none n' c') >>= fun b => pure (Value.bool b)).run P w = _
    simp [run_equal_slice ht.und]
theorem Sure.bool_eql {t x y yt u v} [ht : TyU P t .bool] (hx : eev E x = some (.bool u)) (hy : eev E y = some (.bool v)) : Sure P ⟨d, .binOp .eql t x y yt, ty, pos, aft, g⟩ E M H (.bool (u == v)) :=
  Sure.bin hx hy (fun w => by rw [eqGuard_at_bool]; rfl) fun w => by
    show (Op.equal t (.bool u) (.bool v) >>= fun b => pure (Value.bool b)).run P w = _
    simp [run_equal_bool ht.und]
theorem Sure.bool_neq {t x y yt u v} [ht : TyU P t .bool] (hx : eev E x = some (.bool u)) (hy : eev E y = some (.bool v)) : Sure P ⟨d, .binOp .neq t x y yt, ty, pos, aft, g⟩ E M H (.bool (!(u == v))) :=
  Sure.bin hx hy (fun w => by rw [eqGuard_at_bool]; rfl) fun w => by
    show (Op.equal t (.bool u) (.bool v) >>= fun b => pure (Value.bool (!b))).run P w = _
    simp only [Sem.run_bind, run_equal_bool ht.und, Result.andThen_ok, Sem.run_pure]
theorem Sure.str_eql {t x y yt u v} (hx : eev E x = some (.string u)) (hy : eev E y = some (.string v)) : Sure P ⟨d, .binOp .eql t x y yt, ty, pos, aft, g⟩ E M H (.bool (u.toList == v.toList)) :=
  Sure.bin hx hy (fun w => by rw [eqGuard_at_string]; rfl) fun w => by simp [binOp, Op.stringOp]
theorem Sure.str_neq {t x y yt u v} (hx : eev E x = some (.string u)) (hy : eev E y = some (.string v)) : Sure P ⟨d, .binOp .neq t x y yt, ty, pos, aft, g⟩ E M H (.bool (!(u.toList == v.toList))) :=
  Sure.bin hx hy (fun w => by rw [eqGuard_at_string]; rfl) fun w => by simp [binOp, Op.stringOp]
theorem Sure.str_add {t x y yt u v} (hx : eev E x = some (.string u)) (hy : eev E y = some (.string v)) (h : u.size + v.size ≤ 9223372036854775807) : Sure P ⟨d, .binOp .add t x y yt, ty, pos, aft, g⟩ E M H (.string (u ++ v)) :=
  Sure.bin hx hy (fun w => by rw [eqGuard_at_string]; rfl) fun w => by
    have : ¬ (9223372036854775807 < ((u.size : Int) + (v.size : Int))) := by omega
    simp [binOp, Op.stringOp, this]
theorem Sure.index_string {t x y k i u s} [ht : TyU P t .string] (hx : eev E x = some (.string s)) (hy : eev E y = some (.int k i)) (h0 : 0 ≤ i) (hi : s[i.toNat]? = some u) : Sure P ⟨d, .index t x y, ty, pos, aft, g⟩ E M H (.int .u8 u.toNat) := by
  intro a w hav ha hh
  have h1 := avail_ev hav (x := x) (by simp [Op.operands]) hx
  have h2 := avail_ev hav (x := y) (by simp [Op.operands]) hy
  simp [execOp, h1, h2, Instr.index, asIntOf, run_underlying ht.und, h0, hi]
end sure
end Go.Proofs.YtaeeahcokiebdaaGreat

/-
  The operations that make or write memory, over slots, immutable memory and owned blocks; slices that are read, slices that are owned.
  Conditions: none; everything here is proved over any program.
-/
namespace Go.Proofs.YtaeeahcokiebdaaGreat
variable {P : Program}

/-! ### New blocks, and stores -/
theorem heap_push_old (w : World) (o : Obj) (k : Nat) (hk : k < w.heap.size) : (w.alloc o).heap[k]? = w.heap[k]? := by
  show (w.heap.push o)[k]? = _
  rw [Array.getElem?_push, if_neg (by omega)]
theorem heap_push_new (w : World) (o : Obj) : (w.alloc o).heap[w.heap.size]? = some o := by
  show (w.heap.push o)[w.heap.size]? = _
  simp
/-- What holds stays while the heap only grows. -/
theorem St.grow {w0 M0 X M H w w'} (h : St w0 M0 X M H w) (os : w'.os = w.os) (tp : w'.tape = w.tape) (op : w'.output = w.output)
    (sz : w.heap.size ≤ w'.heap.size) (kp : ∀ k, k < w.heap.size → w'.heap[k]? = w.heap[k]?) : St w0 M0 X M H w' := by
  have hs := h.size
  refine ⟨os.trans h.os, tp.trans h.tape, op.trans h.output, by omega, fun b hb hx => (kp b (by omega)).trans (h.keep b hb hx), h.le, ?_, h.fresh, ?_, h.apart, h.own, h.nodup⟩
  · intro b c hb
    obtain ⟨T, fz, h1⟩ := h.agr b c hb
    exact ⟨T, fz, (kp b (h.agr.lt hb)).trans h1⟩
  · intro p hp
    exact (h.has p hp).of_eq (kp p.1 (h.has p hp).lt)
/-- One more owned block. -/
theorem St.cons {w0 M0 X M H w b x} (h : St w0 M0 X M H w) (hb : HasB w b x) (hM : M b = Option.none) (hX : b ∈ X ∨ w0.heap.size ≤ b) (hn : b ∉ ids H) : St w0 M0 X M ((b, x) :: H) w := by
  refine ⟨h.os, h.tape, h.output, h.size, h.keep, h.le, h.agr, h.fresh, ?_, ?_, ?_, ?_⟩
  · intro p hp
    rcases List.mem_cons.1 hp with rfl | hp
    · exact hb
    · exact h.has p hp
  · intro k hk
    rcases List.mem_cons.1 hk with rfl | hk
    · exact hM
    · exact h.apart k hk
  · intro k hk
    rcases List.mem_cons.1 hk with rfl | hk
    · exact hX
    · exact h.own k hk
  · exact List.nodup_cons.2 ⟨hn, h.nodup⟩
theorem St.new {w0 M0 X M H w} (h : St w0 M0 X M H w) {w' : World} {x : HB} (os : w'.os = w.os) (tp : w'.tape = w.tape) (op : w'.output = w.output)
    (sz : w'.heap.size = w.heap.size + 1) (kp : ∀ k, k < w.heap.size → w'.heap[k]? = w.heap[k]?) (hx : HasB w' w.heap.size x) : St w0 M0 X M ((w.heap.size, x) :: H) w' := by
  have hs := h.size
  refine (h.grow os tp op (by omega) kp).cons hx ?_ (.inr hs) ?_
  · cases hm : M w.heap.size with
    | none => rfl
    | some c => have := h.agr.lt hm; omega
  · intro hm
    obtain ⟨p, hp, he⟩ := List.mem_map.1 hm
    have := (h.has p hp).lt
    omega
theorem St.new_cells {w0 M0 X M H w} (h : St w0 M0 X M H w) (l : List Value) (T : TypeId) : St w0 M0 X M ((w.heap.size, .cells l) :: H) (w.alloc (.cells l.toArray T)) :=
  h.new rfl rfl rfl (by simp) (fun k hk => heap_push_old w _ k hk) ⟨T, 0, 0, heap_push_new w _, Nat.le_refl _⟩
theorem St.drew {w0 M0 X M H w} (h : St w0 M0 X M H w) : St w0 M0 X M H w.drew := h.grow rfl rfl rfl (Nat.le_refl _) (fun _ _ => rfl)
/-- An owned block is written. -/
theorem St.write {w0 M0 X M R w b c c'} (h : St w0 M0 X M ((b, .cells c) :: R) w) {w' : World} (os : w'.os = w.os) (tp : w'.tape = w.tape) (op : w'.output = w.output)
    (sz : w'.heap.size = w.heap.size) (kp : ∀ k, k ≠ b → w'.heap[k]? = w.heap[k]?) (hx : HasB w' b (.cells c')) : St w0 M0 X M ((b, .cells c') :: R) w' := by
  have hn := h.nodup
  simp only [ids, List.map_cons, List.nodup_cons] at hn
  have hMb : M b = Option.none := h.apart b (by simp [ids])
  have hob := h.own b (by simp [ids])
  refine ⟨os.trans h.os, tp.trans h.tape, op.trans h.output, by have := h.size; omega, ?_, h.le, ?_, h.fresh, ?_, ?_, ?_, ?_⟩
  · intro k hk hxk
    rw [kp k (fun e => by subst e; rcases hob with h1 | h1; exact hxk h1; omega)]
    exact h.keep k hk hxk
  · intro k x hk
    obtain ⟨T, fz, h1⟩ := h.agr k x hk
    exact ⟨T, fz, by rw [kp k (fun e => by subst e; rw [hMb] at hk; cases hk)]; exact h1⟩
  · intro p hp
    rcases List.mem_cons.1 hp with rfl | hp
    · exact hx
    · exact (h.has p (by simp [hp])).of_eq (kp p.1 (fun e => hn.1 (by rw [← e]; exact List.mem_map.2 ⟨p, hp, rfl⟩)))
  · intro k hk; exact h.apart k (by simpa [ids] using hk)
  · intro k hk; exact h.own k (by simpa [ids] using hk)
  · exact List.nodup_cons.2 hn

theorem run_storeCells_own (b o : Nat) (T : TypeId) (lo hi : Nat) : ∀ (vs : List Value) (i : Nat) (cur : Array Value) (w : World), w.heap[b]? = some (.cells cur T (lo, hi)) → (hi ≤ lo ∨ cur.size ≤ lo) →
    o + i + vs.length ≤ cur.size → allOne vs = true →
    ∃ w', (storeCells ⟨b, o, Option.none⟩ vs i).run P w = .ok () w' ∧ w'.os = w.os ∧ w'.tape = w.tape ∧ w'.output = w.output ∧ w'.heap.size = w.heap.size ∧ (∀ k, k ≠ b → w'.heap[k]? = w.heap[k]?) ∧
      w'.heap[b]? = some (.cells (cur.toList.take (o + i) ++ vs ++ cur.toList.drop (o + i + vs.length)).toArray T (lo, hi))
  | [], i, cur, w, hg, _, _, _ => ⟨w, rfl, rfl, rfl, rfl, rfl, fun _ _ => rfl, by simpa using hg⟩
  | v :: rest, i, cur, w, hg, hf, hl, h1 => by
    have hi' : o + i < cur.size := by simp at hl; omega
    simp only [allOne, List.all_cons, Bool.and_eq_true] at h1
    have hcell : w.cell? ⟨b, o + i, Option.none⟩ = some cur[o + i] := by simp [World.cell?, hg, hi']
    have hfro : w.frozen? ⟨b, o + i, Option.none⟩ = false := by
      simp only [World.frozen?, hg]
      rcases hf with hf | hf
      · have : ¬ (lo ≤ o + i ∧ o + i < hi) := by omega
        simpa using this
      · have : ¬ (lo ≤ o + i ∧ o + i < hi) := by omega
        simpa using this
    have hst : (store ((⟨b, o, Option.none⟩ : Addr).add i) v).run P w = .ok () (w.setCell ⟨b, o + i, Option.none⟩ v) := by
      rw [addr_add, run_store P w _ v _ h1.1, hcell]
      simp [hfro]
    have hg' : (w.setCell ⟨b, o + i, Option.none⟩ v).heap[b]? = some (.cells (cur.setIfInBounds (o + i) v) T (lo, hi)) := by
      simp only [World.setCell, Array.getElem?_modify, if_true, hg, Option.map_some]
      simp
    have hoth : ∀ k, k ≠ b → (w.setCell ⟨b, o + i, Option.none⟩ v).heap[k]? = w.heap[k]? := by
      intro k hk
      simp only [World.setCell, Array.getElem?_modify]
      rw [if_neg (fun e => hk e.symm)]
    obtain ⟨w', h2, h3, h4, h5, h6, h7, h8⟩ := run_storeCells_own b o T lo hi rest (i + 1) (cur.setIfInBounds (o + i) v) (w.setCell ⟨b, o + i, Option.none⟩ v) hg' (by simpa using hf) (by simp at hl ⊢; omega) h1.2
    refine ⟨w', ?_, h3, h4, h5, h6.trans (by simp), fun k hk => (h7 k hk).trans (hoth k hk), ?_⟩
    · simp only [storeCells, Sem.run_bind, hst, Result.andThen_ok, h2]
    · rw [h8]
      have e := list_seg_step cur.toList (o + i) v rest (by simp at hl ⊢; omega)
      simp only [Array.toList_setIfInBounds, Nat.add_assoc] at e ⊢
      simpa [Nat.add_assoc, Nat.add_comm, Nat.add_left_comm] using e
theorem St.store {w0 M0 X M H R w b c o vs c'} (h : St w0 M0 X M H w) (hp : Pick (b, .cells c) H R) (hs : setSeg c o vs = some c') (h1 : allOne vs = true) :
    ∃ w', (storeCells ⟨b, o, Option.none⟩ vs).run P w = .ok () w' ∧ St w0 M0 X M ((b, .cells c') :: R) w' := by
  have h2 := h.perm hp.perm
  obtain ⟨T, lo, hi, h3, h4⟩ := h2.has (b, .cells c) (by simp)
  obtain ⟨e1, e2⟩ := setSeg_some hs
  obtain ⟨w', h5, h6, h7, h8, h9, h10, h11⟩ := run_storeCells_own (P := P) b o T lo hi vs 0 c.toArray w h3 (.inl h4) (by simpa using e2) h1
  refine ⟨w', h5, h2.write h6 h7 h8 h9 h10 ⟨T, lo, hi, ?_, ?_⟩⟩
  · rw [h11, e1]; simp
  · exact h4

section dyn
variable {c : Cx} {E : Env} {M : Mem} {H : Heap} {d : Option Tmp} {ty : TypeId} {pos : String} {aft : Array Edge} {g : Option (Nat × Bool)} {next : Value → Mem → Heap → Prop}
theorem Dyn.boxAgg {t x l} (hx : eev E x = some (.agg l.toArray)) (k : ∀ b, next (.pointer (some ⟨b, 0, Option.none⟩)) M ((b, .cells l) :: H)) : Dyn P c ⟨d, .box t x, ty, pos, aft, g⟩ E M H next := by
  intro a w hav hst K Q hK
  have h1 := avail_ev hav (x := x) (by simp [Op.operands]) hx
  unfold Oper.wp
  have hr : (execOp a.eval ⟨d, .box t x, ty, pos, aft, g⟩).run P w = .ok (.value (.pointer (some ⟨w.heap.size, 0, Option.none⟩))) (w.alloc (.cells l.toArray t)) := by
    simp [execOp, h1, Instr.box, newVar, newRow, Value.cells]
  rw [hr, Oper.upon_value]
  exact hK _ _ _ _ (hst.new_cells l t) (k _)
theorem Dyn.box {t x v} (hx : eev E x = some v) (h1 : v.oneCell' = true) (k : ∀ b, next (.pointer (some ⟨b, 0, Option.none⟩)) M ((b, .cells [v]) :: H)) : Dyn P c ⟨d, .box t x, ty, pos, aft, g⟩ E M H next := by
  intro a w hav hst K Q hK
  have h1' := avail_ev hav (x := x) (by simp [Op.operands]) hx
  have hc : v.cells = #[v] := by cases v <;> first | rfl | simp [Value.oneCell'] at h1
  unfold Oper.wp
  have hr : (execOp a.eval ⟨d, .box t x, ty, pos, aft, g⟩).run P w = .ok (.value (.pointer (some ⟨w.heap.size, 0, Option.none⟩))) (w.alloc (.cells [v].toArray t)) := by
    simp [execOp, h1', Instr.box, newVar, newRow, hc]
  rw [hr, Oper.upon_value]
  exact hK _ _ _ _ (hst.new_cells [v] t) (k _)
theorem Dyn.allocAgg {t l} [hz : TyZ P t (.agg l.toArray)] (k : ∀ b, next (.pointer (some ⟨b, 0, Option.none⟩)) M ((b, .cells l) :: H)) : Dyn P c ⟨d, .alloc t, ty, pos, aft, g⟩ E M H next := by
  intro a w hav hst K Q hK
  unfold Oper.wp
  have hr : (execOp a.eval ⟨d, .alloc t, ty, pos, aft, g⟩).run P w = .ok (.value (.pointer (some ⟨w.heap.size, 0, Option.none⟩))) (w.alloc (.cells l.toArray t)) := by
    simp [execOp, Instr.alloc, hz.zero, newVar, newRow, Value.cells]
  rw [hr, Oper.upon_value]
  exact hK _ _ _ _ (hst.new_cells l t) (k _)
theorem Dyn.alloc {t v} [hz : TyZ P t v] (h1 : v.oneCell' = true) (k : ∀ b, next (.pointer (some ⟨b, 0, Option.none⟩)) M ((b, .cells [v]) :: H)) : Dyn P c ⟨d, .alloc t, ty, pos, aft, g⟩ E M H next := by
  intro a w hav hst K Q hK
  have hc : v.cells = #[v] := by cases v <;> first | rfl | simp [Value.oneCell'] at h1
  unfold Oper.wp
  have hr : (execOp a.eval ⟨d, .alloc t, ty, pos, aft, g⟩).run P w = .ok (.value (.pointer (some ⟨w.heap.size, 0, Option.none⟩))) (w.alloc (.cells [v].toArray t)) := by
    simp [execOp, Instr.alloc, hz.zero, newVar, newRow, hc]
  rw [hr, Oper.upon_value]
  exact hK _ _ _ _ (hst.new_cells [v] t) (k _)
theorem Dyn.storeAgg {t x y b o l agg n cs cs' R} [ht : TyI P t agg n] (hx : eev E x = some (.pointer (some ⟨b, o, Option.none⟩))) (hy : eev E y = some (.agg l.toArray)) (hp : Pick (b, .cells cs) H R)
    (hl : l.length = n) (h1 : allOne l = true) (hs : setSeg cs o l = some cs') (k : next undef M ((b, .cells cs') :: R)) : Dyn P c ⟨d, .store t x y, ty, pos, aft, g⟩ E M H next := by
  intro a w hav hst K Q hK
  have h2 := avail_ev hav (x := x) (by simp [Op.operands]) hx
  have h3 := avail_ev hav (x := y) (by simp [Op.operands]) hy
  obtain ⟨w', h4, h5⟩ := hst.store (P := P) hp hs h1
  unfold Oper.wp
  have hr : (execOp a.eval ⟨d, .store t x y, ty, pos, aft, g⟩).run P w = .ok .skip w' := by
    simp [execOp, h2, h3, Instr.storeAt, Instr.sureAddr, storeVar, Value.cells, ht.sizeOf, hl, h4]
  rw [hr, Oper.upon_skip]
  exact hK _ _ _ _ h5 k
theorem Dyn.store {t x y b o v agg cs cs' R} [ht : TyI P t agg 1] (hx : eev E x = some (.pointer (some ⟨b, o, Option.none⟩))) (hy : eev E y = some v) (hp : Pick (b, .cells cs) H R)
    (h1 : v.oneCell' = true) (hs : setSeg cs o [v] = some cs') (k : next undef M ((b, .cells cs') :: R)) : Dyn P c ⟨d, .store t x y, ty, pos, aft, g⟩ E M H next := by
  intro a w hav hst K Q hK
  have hc : v.cells = #[v] := by cases v <;> first | rfl | simp [Value.oneCell'] at h1
  have h2 := avail_ev hav (x := x) (by simp [Op.operands]) hx
  have h3 := avail_ev hav (x := y) (by simp [Op.operands]) hy
  obtain ⟨w', h4, h5⟩ := hst.store (P := P) hp hs (by simp [allOne, h1])
  unfold Oper.wp
  have hr : (execOp a.eval ⟨d, .store t x y, ty, pos, aft, g⟩).run P w = .ok .skip w' := by
    simp [execOp, h2, h3, Instr.storeAt, Instr.sureAddr, storeVar, hc, ht.sizeOf, h4]
  rw [hr, Oper.upon_skip]
  exact hK _ _ _ _ h5 k
end dyn
end Go.Proofs.YtaeeahcokiebdaaGreat

/-
  Slices that are read and slices that are owned; append, literals of slices and structs, slicing, conversions of bytes; results.
  Conditions: none; everything here is proved over any program.
-/
namespace Go.Proofs.YtaeeahcokiebdaaGreat
variable {P : Program}

/-- A slice (its address, its length) that reads as these cells, so many to an element. -/
def Sl (M : Mem) (H : Heap) (sz : Nat) (p : Option Addr) (n : Nat) (xs : List Value) : Prop :=
  xs.length = n * sz ∧ (0 < n → ∃ b o c, p = some ⟨b, o, Option.none⟩ ∧ Rd M H b c ∧ seg c o (n * sz) = some xs)
theorem Sl.mono {M M' H sz p n xs} (h : Sl M H sz p n xs) (hl : MLe M M') : Sl M' H sz p n xs :=
  ⟨h.1, fun hn => let ⟨b, o, c, h1, h2, h3⟩ := h.2 hn; ⟨b, o, c, h1, h2.mono hl, h3⟩⟩
theorem Sl.heap {M H sz p n xs} (h : Sl M [] sz p n xs) : Sl M H sz p n xs :=
  ⟨h.1, fun hn => let ⟨b, o, c, h1, h2, h3⟩ := h.2 hn; ⟨b, o, c, h1, Rd.m (h2.resolve_right (by simp)), h3⟩⟩
theorem Sl.empty {M H sz} {p : Option Addr} : Sl M H sz p 0 [] := ⟨by simp, fun h => absurd h (by omega)⟩
/-- A slice that the code owns: nil, or the head of a block. -/
def Own (sz : Nat) (v : Value) (n : Nat) (xs : List Value) (Hs : Heap) : Prop :=
  xs.length = n * sz ∧ ((v = .slice Option.none 0 0 ∧ n = 0 ∧ Hs = []) ∨
    ∃ b cap junk, v = .slice (some ⟨b, 0, Option.none⟩) n cap ∧ n ≤ cap ∧ Hs = [(b, .cells (xs ++ junk))] ∧ (xs ++ junk).length = cap * sz)
theorem Own.nil {sz} : Own sz (.slice Option.none 0 0) 0 [] [] := ⟨by simp, .inl ⟨rfl, rfl, rfl⟩⟩
theorem Own.mk {sz b n xs} (h : xs.length = n * sz) : Own sz (.slice (some ⟨b, 0, Option.none⟩) n n) n xs [(b, .cells xs)] :=
  ⟨h, .inr ⟨b, n, [], rfl, Nat.le_refl _, by simp, by simpa using h⟩⟩
theorem takeN_append {xs ys : List Value} {n : Nat} (h : xs.length = n) : takeN n (xs ++ ys) = some xs := by
  rw [takeN_eq (by simp; omega)]; simp [← h]
theorem Own.slice {sz v n xs Hs} (h : Own sz v n xs Hs) : ∃ p cap, v = .slice p n cap ∧ ∀ M, Sl M Hs sz p n xs := by
  obtain ⟨h1, h2⟩ := h
  rcases h2 with ⟨rfl, rfl, rfl⟩ | ⟨b, cap, junk, rfl, h3, rfl, h4⟩
  · exact ⟨Option.none, 0, rfl, fun M => ⟨h1, fun hn => absurd hn (by omega)⟩⟩
  · exact ⟨_, _, rfl, fun M => ⟨h1, fun _ => ⟨b, 0, _, rfl, Rd.h0, by simpa [seg] using takeN_append h1⟩⟩⟩
theorem C.donateOwn {c code Q E M H sz v n xs Hs R} (ho : Own sz v n xs Hs) (hp : PickL Hs H R)
    (h : ∀ M' p cap, MLe M M' → v = .slice p n cap → Sl M' [] sz p n xs → C P c code Q E M' R) : C P c code Q E M H := by
  obtain ⟨h1, h2⟩ := ho
  rcases h2 with ⟨rfl, rfl, rfl⟩ | ⟨b, cap, junk, rfl, h3, rfl, h4⟩
  · intro a w hm hst
    exact h M Option.none 0 (MLe.refl M) rfl ⟨h1, fun hn => absurd hn (by omega)⟩ a w hm (by simpa using hst.perm hp.perm)
  · intro a w hm hst
    refine C.donate (x := xs ++ junk) (fun M' hle hb => h M' _ _ hle rfl ⟨h1, fun _ => ⟨b, 0, _, rfl, Rd.m hb, by simpa [seg] using takeN_append h1⟩⟩) a w hm (by simpa using hst.perm hp.perm)
theorem G.donateOwn {c ops K l E M H sz v n xs Hs R} (ho : Own sz v n xs Hs) (hp : PickL Hs H R)
    (h : ∀ M' p cap, MLe M M' → v = .slice p n cap → Sl M' [] sz p n xs → G P c ops K l E M' R) : G P c ops K l E M H := by
  obtain ⟨h1, h2⟩ := ho
  rcases h2 with ⟨rfl, rfl, rfl⟩ | ⟨b, cap, junk, rfl, h3, rfl, h4⟩
  · intro Q hQ a w hm hst
    exact h M Option.none 0 (MLe.refl M) rfl ⟨h1, fun hn => absurd hn (by omega)⟩ Q hQ a w hm (by simpa using hst.perm hp.perm)
  · intro Q hQ a w hm hst
    refine G.donate (x := xs ++ junk) (fun M' hle hb => h M' _ _ hle rfl ⟨h1, fun _ => ⟨b, 0, _, rfl, Rd.m hb, by simpa [seg] using takeN_append h1⟩⟩) Q hQ a w hm (by simpa using hst.perm hp.perm)

/-! ### Elements of a slice -/
theorem seg_sub {c : List Value} {o n m k : Nat} {xs : List Value} (h : seg c o n = some xs) (hk : k + m ≤ n) : seg c (o + k) m = some ((xs.drop k).take m) := by
  obtain ⟨h1, h2, _⟩ := seg_some h
  have hl : o + n ≤ c.length ∨ n = 0 := by
    have := (takeN_some h).2; simp at this; omega
  unfold seg
  rw [takeN_eq (by simp; omega), h1]
  congr 1
  simp only [List.drop_take, List.drop_drop, List.take_take]
  congr 1
  omega
theorem seg_one {c : List Value} {o n k : Nat} {xs : List Value} (h : seg c o n = some xs) {v} (hv : xs[k]? = some v) : c[o + k]? = some v := (seg_some h).2.2 k v hv
theorem flatten_row {sz : Nat} : ∀ {l : List (List Value)}, (∀ e ∈ l, e.length = sz) → ∀ {i : Nat} {e}, l[i]? = some e → (l.flatten.drop (i * sz)).take sz = e
  | [], _, i, e, h => by simp at h
  | x :: l, hl, 0, e, h => by
    simp at h
    subst h
    have := hl x (by simp)
    simp [← this]
  | x :: l, hl, i + 1, e, h => by
    have hx := hl x (by simp)
    have ih := flatten_row (fun e he => hl e (List.mem_cons_of_mem _ he)) (i := i) (e := e) (by simpa using h)
    rw [List.flatten_cons, Nat.succ_mul, Nat.add_comm, ← List.drop_drop]
    rw [show (x ++ l.flatten).drop sz = l.flatten by rw [← hx]; simp]
    exact ih
theorem flatten_len {sz : Nat} : ∀ {l : List (List Value)}, (∀ e ∈ l, e.length = sz) → l.flatten.length = l.length * sz
  | [], _ => by simp
  | x :: l, h => by
    have := flatten_len (l := l) (fun e he => h e (List.mem_cons_of_mem _ he))
    simp [h x (by simp), Nat.succ_mul] at this ⊢
    omega
/-- A slice of elements of several cells each. -/
def SlL (M : Mem) (H : Heap) (sz : Nat) (p : Option Addr) (l : List (List Value)) : Prop := (∀ e ∈ l, e.length = sz) ∧ Sl M H sz p l.length l.flatten
theorem SlL.mono {M M' H sz p l} (h : SlL M H sz p l) (hl : MLe M M') : SlL M' H sz p l := ⟨h.1, h.2.mono hl⟩
theorem SlL.heap {M H sz p l} (h : SlL M [] sz p l) : SlL M H sz p l := ⟨h.1, h.2.heap⟩
theorem SlL.row {M H sz p l i e} (h : SlL M H sz p l) (hi : l[i]? = some e) : ∃ b o c, p = some ⟨b, o, Option.none⟩ ∧ Rd M H b c ∧ seg c (o + i * sz) sz = some e := by
  have hlt : i < l.length := (List.getElem?_eq_some_iff.1 hi).1
  obtain ⟨b, o, c, h1, h2, h3⟩ := h.2.2 (by omega)
  refine ⟨b, o, c, h1, h2, ?_⟩
  have hm : i * sz + sz ≤ l.length * sz := by rw [← Nat.succ_mul]; exact Nat.mul_le_mul_right _ hlt
  rw [seg_sub h3 hm, flatten_row h.1 hi]
theorem Sl.cell {M H p n xs i v} (h : Sl M H 1 p n xs) (hi : xs[i]? = some v) : ∃ b o c, p = some ⟨b, o, Option.none⟩ ∧ Rd M H b c ∧ c[o + i * 1]? = some v := by
  have hlt : i < xs.length := (List.getElem?_eq_some_iff.1 hi).1
  have hl := h.1
  obtain ⟨b, o, c, h1, h2, h3⟩ := h.2 (by omega)
  exact ⟨b, o, c, h1, h2, by rw [Nat.mul_one]; exact seg_one h3 hi⟩

/-! ### append -/
theorem run_firstCells_sl {M H sz p n xs cap w} (h : Sl M H sz p n xs) (ha : Agr M w) (hh : Has H w) : (Builtin.firstCells sz n (.slice p n cap)).run P w = .ok xs.toArray w := by
  by_cases hn : 0 < n
  · obtain ⟨b, o, c, rfl, h2, h3⟩ := h.2 hn
    simp only [Builtin.firstCells]
    exact run_load_seg h3 (fun j v hj => h2.cell ha hh hj)
  · have h0 : n = 0 := by omega
    subst h0
    have : xs = [] := List.eq_nil_of_length_eq_zero (by simpa using h.1)
    subst this
    cases p <;> simp [Builtin.firstCells, loadCells, loadCellsFrom]
theorem zeroCells_len (z : Array Value) (n : Nat) : (Builtin.zeroCells z n).toList.length = n * z.size := by simp [Builtin.zeroCells]
section
variable {c : Cx} {E : Env} {M : Mem} {H : Heap} {d : Option Tmp} {ty : TypeId} {pos : String} {aft : Array Edge} {g : Option (Nat × Bool)} {next : Value → Mem → Heap → Prop}
theorem run_append_any {t t2 e sz bytes agg z v n xs Hs R H w w0 M0 X M x m news} {d2 : TypeDesc} (ht : P.underlying t = some (.slice e)) (ht2 : P.underlying t2 = some d2) (hd2 : ∀ k, d2 ≠ .int k)
    [he : TyI P e agg sz] [hz : TyZ P e z] [hb : TyB P e bytes] (hzs : z.cells.size = sz)
    (hst : St w0 M0 X M H w) (ho : Own sz v n xs Hs) (hp : PickL Hs H R)
    (hlen : ∀ w, (Builtin.lenOf x).run P w = .ok m w) (hfirst : ∀ w, Agr M w → Has H w → (Builtin.firstCells sz m x).run P w = .ok news.toArray w) (hnl : news.length = m * sz)
    (h1 : allOne news = true) (hbytes : (n + m) * bytes ≤ 140737488355328) (h63 : n + m ≤ 9223372036854775807) :
    ∃ v' w' Hs', (Builtin.append_ #[t, t2] ty #[v, x]).run P w = .ok v' w' ∧ Own sz v' (n + m) (xs ++ news) Hs' ∧ St w0 M0 X M (Hs' ++ R) w' := by
  obtain ⟨i, hi, hib⟩ := hb.bytes
  have hxl := ho.1
  have hinfo : ∀ w, (typeInfo e).run P w = .ok i w := fun w => by simp [typeInfo, hi]
  have h63' : ¬ (9223372036854775807 < ((n : Int) + (m : Int))) := by omega
  have grown : ∀ (p : Option Addr) (cap : Nat), (∀ w, Agr M w → Has H w → (Builtin.firstCells sz n (.slice p n cap)).run P w = .ok xs.toArray w) → ¬ (n + m ≤ cap) →
      ∃ v' w' Hs', (Builtin.append_ #[t, t2] ty #[.slice p n cap, x]).run P w = .ok v' w' ∧ Own sz v' (n + m) (xs ++ news) Hs' ∧ St w0 M0 X M (Hs' ++ R) w' := by
    intro p cap hf hroom
    have hfit : ¬ (281474976710656 < Builtin.nextslicecap (n + m) cap * i.bytes) := by
      have := growslice_fits (need := n + m) (old := cap) (bytes := i.bytes) (by omega) (by rw [hib]; exact hbytes); omega
    have hge : n + m ≤ grownCap w (n + m) cap e := grownCap_ge w _ _ _
    have hst2 := hst.drew
    refine ⟨.slice (some ⟨w.heap.size, 0, Option.none⟩) (n + m) (grownCap w (n + m) cap e),
      w.drew.alloc (.cells ((xs ++ news) ++ (Builtin.zeroCells z.cells (grownCap w (n + m) cap e - (n + m))).toList).toArray e), [(w.heap.size, .cells ((xs ++ news) ++ (Builtin.zeroCells z.cells (grownCap w (n + m) cap e - (n + m))).toList))], ?_, ?_, ?_⟩
    · have hf' := hf w.drew hst2.agr hst2.has
      have hx' := hfirst w.drew hst2.agr hst2.has
      simp [Builtin.append_, run_underlying ht, run_underlying ht2, he.sizeOf, hlen, hroom, h63', hinfo, hfit, Question.forced, hf', hx', hz.zero, newRow, grownCap]
      congr 2
      apply Array.ext'
      simp
    · refine ⟨by simp [hxl, hnl, Nat.add_mul], .inr ⟨w.heap.size, _, _, rfl, hge, rfl, ?_⟩⟩
      simp only [List.length_append, zeroCells_len, hzs, hxl, hnl, ← Nat.add_mul]
      congr 1
      omega
    · have h3 := hst2.new_cells ((xs ++ news) ++ (Builtin.zeroCells z.cells (grownCap w (n + m) cap e - (n + m))).toList) e
      have h4 := (h3.perm (List.Perm.cons _ hp.perm))
      exact (h4.perm (List.Perm.cons _ List.perm_append_comm)).left (A := (w.heap.size, _) :: R)
  rcases ho.2 with ⟨rfl, rfl, rfl⟩ | ⟨b, cap, junk, rfl, hc, rfl, hlc⟩
  · have hx0 : xs = [] := List.eq_nil_of_length_eq_zero (by simpa using hxl)
    subst hx0
    by_cases hm : m = 0
    · subst hm
      have hn0 : news = [] := List.eq_nil_of_length_eq_zero (by simpa using hnl)
      subst hn0
      refine ⟨.slice Option.none 0 0, w, [], ?_, ⟨by simp, .inl ⟨rfl, rfl, rfl⟩⟩, hst.perm hp.perm⟩
      have hx' := hfirst w hst.agr hst.has
      simp [Builtin.append_, run_underlying ht, run_underlying ht2, he.sizeOf, hlen, hx']
    · exact grown Option.none 0 (fun w _ _ => by simp [Builtin.firstCells]) (by omega)
  · by_cases hroom : n + m ≤ cap
    · have hm1 : n * sz + news.length ≤ (xs ++ junk).length := by rw [hnl, hlc, ← Nat.add_mul]; exact Nat.mul_le_mul_right _ hroom
      obtain ⟨w', h2, h3⟩ := hst.store (P := P) (b := b) (o := n * sz) (vs := news) (R := R) (c' := (xs ++ news) ++ junk.drop news.length) (c := xs ++ junk)
        (by
          have hpp : ∀ {A H R}, PickL A H R → ∀ q, A = [q] → Pick q H R := by
            intro A H R h
            induction h with
            | here => intro q hq; subst hq; exact .here
            | all => intro q hq; subst hq; exact .here
            | there _ ih => intro q hq; exact .there (ih q hq)
            | over _ ih => intro q hq; exact .over (ih q hq)
          exact hpp hp _ rfl)
        (by
          rw [setSeg_eq hm1]
          congr 1
          simp [← hxl, List.drop_append])
        h1
      refine ⟨_, w', [(b, .cells ((xs ++ news) ++ junk.drop news.length))], ?_, ⟨by simp [hxl, hnl, Nat.add_mul], .inr ⟨b, cap, _, rfl, hroom, rfl, ?_⟩⟩, h3⟩
      · have hx' := hfirst w hst.agr hst.has
        simp [Builtin.append_, run_underlying ht, run_underlying ht2, he.sizeOf, hlen, hroom, hx', addr_add, h2]
      · simp at hlc hm1 ⊢; omega
    · exact grown (some ⟨b, 0, Option.none⟩) cap (fun w ha hh => by
        have hmem : (b, HB.cells (xs ++ junk)) ∈ H := hp.perm.symm.mem_iff.1 (by simp)
        exact run_firstCells_sl (M := M) (H := H) ⟨hxl, fun _ => ⟨b, 0, xs ++ junk, rfl, .inr hmem, by simpa [seg] using takeN_append hxl⟩⟩ ha hh) hroom
theorem Dyn.append {t t2 e sz bytes agg zz v n xs Hs R x y p m cap news} [ht : TyU P t (.slice e)] {d2 : TypeDesc} [ht2 : TyU P t2 d2]
    [he : TyI P e agg sz] [hz : TyZ P e zz] [hb : TyB P e bytes] (hd2 : ∀ k, d2 ≠ .int k) (hzs0 : Nat.beq zz.cells.size sz = true)
    (hx : eev E x = some v) (hy : eev E y = some (.slice p m cap)) (ho : Own sz v n xs Hs) (hp : PickL Hs H R) (hs : Sl M H sz p m news)
    (h1 : allOne news = true) (hbytes : (n + m) * bytes ≤ 140737488355328) (h63 : n + m ≤ 9223372036854775807)
    (k : ∀ v' Hs', Own sz v' (n + m) (xs ++ news) Hs' → next v' M (Hs' ++ R)) :
    Dyn P c ⟨d, .call { callee := .builtin .append, args := #[x, y], argTypes := #[t, t2] }, ty, pos, aft, g⟩ E M H next := by
  have hzs := Nat.eq_of_beq_eq_true hzs0
  intro a w hav hst K Q hK
  have h2 := avail_ev hav (x := x) (by simp [Op.operands, Call.operands]) hx
  have h3 := avail_ev hav (x := y) (by simp [Op.operands, Call.operands]) hy
  obtain ⟨v', w', Hs', h4, h5, h6⟩ := run_append_any (P := P) (ty := ty) ht.und ht2.und hd2 hzs hst ho hp (x := .slice p m cap) (m := m) (news := news) (fun w => by simp [Builtin.lenOf])
    (fun w ha hh => run_firstCells_sl hs ha hh) hs.1 h1 hbytes h63
  unfold Oper.wp
  have hr : (execOp a.eval ⟨d, .call { callee := .builtin .append, args := #[x, y], argTypes := #[t, t2] }, ty, pos, aft, g⟩).run P w = .ok (.value v') w' := by
    simp [execOp, resolve, invoke, builtin, h2, h3, h4]
  rw [hr, Oper.upon_value]
  exact hK _ _ _ _ h6 (k _ _ h5)
theorem Dyn.appendStr {t t2 e bytes agg zz v n xs Hs R x y s} [ht : TyU P t (.slice e)] [ht2 : TyU P t2 .string]
    [he : TyI P e agg 1] [hz : TyZ P e zz] [hb : TyB P e bytes] (hzs0 : Nat.beq zz.cells.size 1 = true)
    (hx : eev E x = some v) (hy : eev E y = some (.string s)) (ho : Own 1 v n xs Hs) (hp : PickL Hs H R)
    (hbytes : (n + s.size) * bytes ≤ 140737488355328) (h63 : n + s.size ≤ 9223372036854775807)
    (k : ∀ v' Hs', Own 1 v' (n + s.size) (xs ++ s.data.toList.map fun b => Value.int .u8 b.toNat) Hs' → next v' M (Hs' ++ R)) :
    Dyn P c ⟨d, .call { callee := .builtin .append, args := #[x, y], argTypes := #[t, t2] }, ty, pos, aft, g⟩ E M H next := by
  have hzs := Nat.eq_of_beq_eq_true hzs0
  intro a w hav hst K Q hK
  have h2 := avail_ev hav (x := x) (by simp [Op.operands, Call.operands]) hx
  have h3 := avail_ev hav (x := y) (by simp [Op.operands, Call.operands]) hy
  obtain ⟨v', w', Hs', h4, h5, h6⟩ := run_append_any (P := P) (ty := ty) ht.und ht2.und (fun k h => by cases h) hzs hst ho hp (x := .string s) (m := s.size) (news := s.data.toList.map fun b => Value.int .u8 b.toNat) (fun w => by simp [Builtin.lenOf])
    (fun w ha hh => by
      simp only [Builtin.firstCells, Sem.run_pure]
      have : (s.extract 0 s.size).data = s.data := by rw [ByteArray.data_extract]; exact Array.extract_size
      rw [this]
      congr 1
      apply Array.ext'
      simp) (by rw [List.length_map, Array.length_toList, Nat.mul_one]; rfl) (by unfold allOne; rw [List.all_eq_true]; intro v hv; obtain ⟨b, _, rfl⟩ := List.mem_map.1 hv; rfl) hbytes h63
  unfold Oper.wp
  have hr : (execOp a.eval ⟨d, .call { callee := .builtin .append, args := #[x, y], argTypes := #[t, t2] }, ty, pos, aft, g⟩).run P w = .ok (.value v') w' := by
    simp [execOp, resolve, invoke, builtin, h2, h3, h4]
  rw [hr, Oper.upon_value]
  exact hK _ _ _ _ h6 (k _ _ h5)
end
end Go.Proofs.YtaeeahcokiebdaaGreat

/-
  Literals of slices and structs, make, slicing, conversions between bytes and texts; the results of a function.
  Conditions: none; everything here is proved over any program.
-/
namespace Go.Proofs.YtaeeahcokiebdaaGreat
variable {P : Program}

/-! ### Literals -/
def vcl : Value → List Value
  | .agg cs => cs.toList
  | v => [v]
theorem vcl_cells (v : Value) : v.cells.toList = vcl v := by cases v <;> rfl
def idxOps : Nat → List (Nat × Operand) → Option (List Operand)
  | _, [] => some []
  | k, (i, x) :: l => bif Nat.beq i k then match idxOps (k + 1) l with
    | some r => some (x :: r)
    | Option.none => Option.none
    else Option.none
theorem fold_set : ∀ (vs : List Value) (o : Nat) (cs : Array Value), o + vs.length ≤ cs.size →
    ∀ k, (vs.zipIdx k).foldl (fun (cs : Array Value) (p : Value × Nat) => cs.setIfInBounds (o + (p.2 - k)) p.1) cs = (cs.toList.take o ++ vs ++ cs.toList.drop (o + vs.length)).toArray
  | [], o, cs, _, k => by simp
  | v :: vs, o, cs, h, k => by
    simp at h
    simp only [List.zipIdx_cons, List.foldl_cons, Nat.sub_self, Nat.add_zero]
    have ih := fold_set vs (o + 1) (cs.setIfInBounds o v) (by simp; omega) (k + 1)
    have e : ∀ (l : List (Value × Nat)) (cs : Array Value), (∀ p ∈ l, k + 1 ≤ p.2) → l.foldl (fun (cs : Array Value) (p : Value × Nat) => cs.setIfInBounds (o + (p.2 - k)) p.1) cs = l.foldl (fun (cs : Array Value) (p : Value × Nat) => cs.setIfInBounds (o + 1 + (p.2 - (k + 1))) p.1) cs := by
      intro l
      induction l with
      | nil => intro cs _; rfl
      | cons p l ihl =>
        intro cs hp
        have := hp p (by simp)
        simp only [List.foldl_cons]
        rw [show o + (p.2 - k) = o + 1 + (p.2 - (k + 1)) by omega]
        exact ihl _ (fun q hq => hp q (by simp [hq]))
    rw [e _ _ (fun p hp => by have := List.mem_zipIdx hp; omega), ih]
    apply Array.ext'
    simp only [Array.toList_setIfInBounds]
    have e2 := list_seg_step cs.toList o v vs (by simp; omega)
    simpa [Nat.add_assoc, Nat.add_comm, Nat.add_left_comm] using e2
theorem fold_set0 (vs : List Value) (o : Nat) (cs : Array Value) (h : o + vs.length ≤ cs.size) :
    vs.toArray.zipIdx.foldl (fun (cs : Array Value) (x : Value × Nat) => cs.setIfInBounds (o + x.2) x.1) cs = (cs.toList.take o ++ vs ++ cs.toList.drop (o + vs.length)).toArray := by
  have := fold_set vs o cs h 0
  rw [← Array.foldl_toList]
  simpa using this
theorem fill_one {place : Nat → Option (Nat × Nat)} {cs : List Value} {i off size : Nat} {v : Value} {rest} {cs' : List Value} (hp : place i = some (off, size)) (hv : (vcl v).length = size) (hs : setSeg cs off (vcl v) = some cs') :
    Instr.fill place cs.toArray ((i, v) :: rest) = Instr.fill place cs'.toArray rest := by
  obtain ⟨h1, h2⟩ := setSeg_some hs
  have hc : v.cells = (vcl v).toArray := by rw [← vcl_cells]
  have hsz : v.cells.size = size := by rw [hc]; simpa using hv
  rw [Instr.fill.eq_def]
  simp only [hp]
  rw [if_neg (by rw [hsz]; simp; omega)]
  congr 1
  rw [hc]
  rw [h1]
  exact fold_set0 (vcl v) off cs.toArray (by simpa using h2)
def fillL (pl : List (Nat × Nat)) : List Value → List (Nat × Value) → Option (List Value)
  | c, [] => some c
  | c, (i, v) :: rest => match pl[i]? with
    | some (off, size) => bif Nat.beq (vcl v).length size then match setSeg c off (vcl v) with
      | some c' => fillL pl c' rest
      | Option.none => Option.none
      else Option.none
    | Option.none => Option.none
theorem fillL_some {pl : List (Nat × Nat)} : ∀ {parts : List (Nat × Value)} {c r : List Value}, fillL pl c parts = some r → Instr.fill (fun i => pl.toArray[i]?) c.toArray parts = some r.toArray
  | [], c, r, h => by simp [fillL] at h; simp [Instr.fill, h]
  | (i, v) :: rest, c, r, h => by
    simp only [fillL] at h
    split at h
    · rename_i off size hp
      cases hb : Nat.beq (vcl v).length size with
      | false => simp [hb] at h
      | true =>
        simp only [hb, cond_true] at h
        split at h
        · rename_i c' hs
          rw [fill_one (place := fun i => pl.toArray[i]?) (off := off) (size := size) (by simpa using hp) (Nat.eq_of_beq_eq_true hb) hs]
          exact fillL_some h
        · cases h
    · cases h
class TyS (P : Program) (t : TypeId) (pl : outParam (List (Nat × Nat))) (z : outParam (List Value)) : Prop where
  build : ∀ parts c w, fillL pl z parts.toList = some c → (Instr.build t parts).run P w = .ok (.agg c.toArray) w
theorem TyS.mk' {t fs pl z} (hu : P.underlying t = some (.struct fs)) (hz : ∀ w, (zeroValue t).run P w = .ok (.agg z.toArray) w)
    (hp : ∀ w, (fs.mapM fun (f : Field) => (do pure (f.offset, ← Go.sizeOf f.type) : Sem (Nat × Nat))).run P w = .ok pl.toArray w) : TyS P t pl z :=
  ⟨fun parts c w h => by
    have := fillL_some h
    simp only [Instr.build, Sem.run_bind, hz, Result.andThen_ok, run_underlying hu, Value.cells]
    rw [hp]
    simp only [Result.andThen_ok, this]
    rfl⟩
theorem fill_more {place place' : Nat → Option (Nat × Nat)} (hp : ∀ i p, place i = some p → place' i = some p) : ∀ {parts : List (Nat × Value)} {c r : Array Value}, Instr.fill place c parts = some r → Instr.fill place' c parts = some r
  | [], c, r, h => by simpa [Instr.fill] using h
  | (i, v) :: rest, c, r, h => by
    rw [Instr.fill.eq_def] at h ⊢
    simp only at h ⊢
    cases hpi : place i with
    | none => rw [hpi] at h; simp at h
    | some q =>
      rw [hpi] at h
      rw [hp i q hpi]
      simp only at h ⊢
      split at h
      · cases h
      · rename_i hc
        rw [if_neg hc]
        exact fill_more hp h
theorem TyS.arr {t n e sz pl z} (hu : P.underlying t = some (.array n e)) (hz : ∀ w, (zeroValue t).run P w = .ok (.agg z.toArray) w) (hs : ∀ w, (Go.sizeOf e).run P w = .ok sz w)
    (hp : pl = (List.range n).map fun i => (i * sz, sz)) : TyS P t pl z :=
  ⟨fun parts c w h => by
    have h1 := fillL_some h
    have h2 := fill_more (place' := fun i => some (i * sz, sz)) (fun i p hi => by
      subst hp
      simp only [List.getElem?_toArray, List.getElem?_map] at hi
      cases hr : (List.range n)[i]? with
      | none => rw [hr] at hi; simp at hi
      | some j =>
        rw [hr] at hi
        have : j = i := by rw [List.getElem?_range (by have := (List.getElem?_eq_some_iff.1 hr).1; simpa using this)] at hr; injection hr with hr; exact hr.symm
        subst this
        simpa using hi) h1
    simp only [Instr.build, Sem.run_bind, hz, Result.andThen_ok, run_underlying hu, Value.cells, hs, h2]
    rfl⟩
class TyV (P : Program) (s : TypeId) (f : Nat) (off : outParam Nat) : Prop where
  place : ∃ fs fld, P.underlying s = some (.struct fs) ∧ fs[f]? = some fld ∧ fld.offset = off ∧ ∀ w, (Go.isAgg fld.type).run P w = .ok false w
theorem Sure.field {E : Env} {M : Mem} {H : Heap} {d : Option Tmp} {ty : TypeId} {pos : String} {aft : Array Edge} {g : Option (Nat × Bool)} {s x f off l v} [hf : TyV P s f off] (hx : eev E x = some (.agg (List.toArray l))) (hv : l[off]? = some v) :
    Sure P ⟨d, .field s x f, ty, pos, aft, g⟩ E M H v := by
  intro a w hav _ _
  have h1 := avail_ev hav (x := x) (by simp [Op.operands]) hx
  obtain ⟨fs, fld, h2, h3, h4, h5⟩ := hf.place
  simp [execOp, h1, Instr.field, run_underlying h2, h3, asAgg, part, h5, h4, hv]
def evParts (E : Env) : List (Nat × Operand) → Option (List (Nat × Value))
  | [] => some []
  | (i, x) :: l => match eev E x, evParts E l with
    | some v, some r => some ((i, v) :: r)
    | _, _ => Option.none
theorem evParts_map {E : Env} {a : Act} : ∀ {l : List (Nat × Operand)} {r}, (∀ x ∈ l.map (·.2), ∀ v, eev E x = some v → a.eval x = v) → evParts E l = some r → l.map (fun p => (p.1, a.eval p.2)) = r
  | [], r, _, h => by simp [evParts] at h; simp [h]
  | (i, x) :: l, r, hx, h => by
    simp only [evParts] at h
    cases h1 : eev E x with
    | none => simp [h1] at h
    | some u =>
      cases h2 : evParts E l with
      | none => simp [h1, h2] at h
      | some r' =>
        simp [h1, h2] at h
        subst h
        simp [hx x (by simp) u h1, evParts_map (fun y hy => hx y (by simp at hy ⊢; exact .inr hy)) h2]
section
variable {c : Cx} {E : Env} {M : Mem} {H : Heap} {d : Option Tmp} {ty : TypeId} {pos : String} {aft : Array Edge} {g : Option (Nat × Bool)} {next : Value → Mem → Heap → Prop}
theorem Sure.build {t pl z parts ps cs} [hs : TyS P t pl z] (hp : evParts E parts = some ps) (hf : fillL pl z ps = some cs) : Sure P ⟨d, .build t parts.toArray, ty, pos, aft, g⟩ E M H (.agg cs.toArray) := by
  intro a w hav _ _
  have h1 := evParts_map (a := a) (fun x hx v hv => hav x (by simpa [Op.operands] using hx) v hv) hp
  have h2 := hs.build ps.toArray cs w (by simpa using hf)
  simp [execOp, h1, h2]
theorem fill_rows {sz : Nat} : ∀ (vs : List Value) (i : Nat) (done rest : List Value), done.length = i * sz → rest.length = vs.length * sz → (∀ v ∈ vs, (vcl v).length = sz) →
    ∀ tail, Instr.fill (fun i => some (i * sz, sz)) (done ++ rest).toArray ((vs.zipIdx i).map (fun p => (p.2, p.1)) ++ tail) = Instr.fill (fun i => some (i * sz, sz)) (done ++ (vs.map vcl).flatten).toArray tail
  | [], i, done, rest, _, h2, _, tail => by simp at h2; simp [h2]
  | v :: vs, i, done, rest, h1, h2, h3, tail => by
    have hv := h3 v (by simp)
    simp only [List.zipIdx_cons, List.map_cons, List.cons_append]
    have hr : sz ≤ rest.length := by rw [h2]; simp [Nat.succ_mul]
    rw [fill_one (off := i * sz) (size := sz) rfl hv (cs' := (done ++ vcl v) ++ rest.drop sz) (by
      rw [setSeg_eq (by simp; omega)]
      congr 1
      rw [← h1]
      simp [hv, List.drop_append])]
    rw [fill_rows vs (i + 1) (done ++ vcl v) (rest.drop sz) (by simp [h1, hv, Nat.succ_mul]) (by simp [h2, Nat.succ_mul]) (fun u hu => h3 u (by simp [hu]))]
    simp
theorem idxOps_zip {E : Env} : ∀ {l : List (Nat × Operand)} {k xs vs ps}, idxOps k l = some xs → evs E xs = some vs → evParts E l = some ps → ps = (vs.zipIdx k).map fun p => (p.2, p.1)
  | [], k, xs, vs, ps, h, h2, h3 => by simp [idxOps] at h; subst h; simp [evs] at h2; subst h2; simp [evParts] at h3; simp [h3]
  | (i, x) :: l, k, xs, vs, ps, h, h2, h3 => by
    simp only [idxOps] at h
    cases hb : Nat.beq i k with
    | false => simp [hb] at h
    | true =>
      have := Nat.eq_of_beq_eq_true hb
      subst this
      simp only [hb, cond_true] at h
      split at h
      · rename_i r hr
        simp at h
        subst h
        simp only [evs] at h2
        simp only [evParts] at h3
        cases h4 : eev E x with
        | none => simp [h4] at h2
        | some u =>
          cases h5 : evs E r with
          | none => simp [h4, h5] at h2
          | some us =>
            simp [h4, h5] at h2
            subst h2
            cases h6 : evParts E l with
            | none => simp [h4, h6] at h3
            | some q =>
              simp [h4, h6] at h3
              subst h3
              have := idxOps_zip hr h5 h6
              simp [this]
      · cases h
theorem evParts_of_idx {E : Env} : ∀ {l : List (Nat × Operand)} {k xs vs}, idxOps k l = some xs → evs E xs = some vs → ∃ ps, evParts E l = some ps
  | [], _, _, _, _, _ => ⟨[], rfl⟩
  | (i, x) :: l, k, xs, vs, h, h2 => by
    simp only [idxOps] at h
    cases hb : Nat.beq i k with
    | false => simp [hb] at h
    | true =>
      simp only [hb, cond_true] at h
      split at h
      · rename_i r hr
        simp at h
        subst h
        simp only [evs] at h2
        cases h4 : eev E x with
        | none => simp [h4] at h2
        | some u =>
          cases h5 : evs E r with
          | none => simp [h4, h5] at h2
          | some us =>
            obtain ⟨ps, hps⟩ := evParts_of_idx hr h5
            exact ⟨(i, u) :: ps, by simp [evParts, h4, hps]⟩
      · cases h
theorem Dyn.buildSlice {t n e agg sz zz parts xs vs} [ht : TyU P t (.slice e)] [he : TyI P e agg sz] [hz : TyZ P e zz] (hi : idxOps 0 parts = some xs) (hv : evs E xs = some vs) (hn : vs.length = n)
    (hl : ∀ v ∈ vs, (vcl v).length = sz) (hbig : n * sz ≤ 16777216) (k : ∀ b, next (.slice (some ⟨b, 0, Option.none⟩) n n) M ((b, .cells ((vs.map vcl).flatten)) :: H)) :
    Dyn P c ⟨d, .buildSlice t n parts.toArray, ty, pos, aft, g⟩ E M H next := by
  intro a w hav hst K Q hK
  obtain ⟨ps, hps⟩ := evParts_of_idx hi hv
  have h1 := evParts_map (a := a) (fun x hx v hv => hav x (by simpa [Op.operands] using hx) v hv) hps
  have h2 := idxOps_zip hi hv hps
  have hz0 : ∀ m, ((Array.range m).map (fun i => zz.cells[i % zz.cells.size]!)).toList.length = m := by intro m; simp
  have h3 := fill_rows (sz := sz) vs 0 [] ((Array.range (n * sz)).map (fun i => zz.cells[i % zz.cells.size]!)).toList (by simp) (by rw [hz0, hn]) hl []
  have h5 : Instr.fill (fun i => some (i * sz, sz)) ((Array.range (n * sz)).map (fun i => zz.cells[i % zz.cells.size]!)) ps = some ((vs.map vcl).flatten).toArray := by
    rw [h2]
    simp only [List.nil_append, Array.toArray_toList, List.append_nil] at h3
    rw [h3]
    simp [Instr.fill]
  unfold Oper.wp
  have hr : (execOp a.eval ⟨d, .buildSlice t n parts.toArray, ty, pos, aft, g⟩).run P w = .ok (.value (.slice (some ⟨w.heap.size, 0, Option.none⟩) n n)) (w.alloc (.cells ((vs.map vcl).flatten).toArray e)) := by
    by_cases h0 : n * sz = 0
    · have h5' : Instr.fill (fun i => some (i * sz, sz)) (#[] : Array Value) ps = some ((vs.map vcl).flatten).toArray := by
        rw [h0, Array.range_zero'] at h5; simpa using h5
      have hnot : ¬ (16777216 < n * sz) := by omega
      simp only [execOp, Instr.buildSlice, Sem.run_bind, run_underlying ht.und, he.sizeOf, Result.andThen_ok]
      simp [h0, h1, h5', newRow, Array.range_zero']
    · have hnot : ¬ (16777216 < n * sz) := by omega
      have hm : n ≠ 0 ∧ sz ≠ 0 := by constructor <;> (intro e; simp [e] at h0)
      simp only [execOp, Instr.buildSlice, Sem.run_bind, run_underlying ht.und, he.sizeOf, Result.andThen_ok]
      simp [h0, hnot, h1, h5, newRow, hz.zero]
  rw [hr, Oper.upon_value]
  exact hK _ _ _ _ (hst.new_cells _ e) (k _)
end
end Go.Proofs.YtaeeahcokiebdaaGreat

/-
  Guards, results, slicing, make, conversions between bytes and texts.
  Conditions: none; everything here is proved over any program.
-/
namespace Go.Proofs.YtaeeahcokiebdaaGreat
variable {P : Program}
theorem Models.push {n E a d v} (h : Models n E a) (hv : eget E d = some v) : Models n ((d, v) :: E) a :=
  ⟨h.size, h.defers, fun i u hu => by
    simp only [eget] at hu
    cases hb : Nat.beq d i with
    | true =>
      have := Nat.eq_of_beq_eq_true hb
      subst this
      simp at hu
      subst hu
      exact h.get d v hv
    | false => simp [hb] at hu; exact h.get i u hu⟩
theorem G.splitB {c ops K l E M H d b} (hx : eget E d = some (.bool b)) (ht : b = true → G P c ops K l ((d, .bool true) :: E) M H) (hf : b = false → G P c ops K l ((d, .bool false) :: E) M H) : G P c ops K l E M H := by
  intro Q hQ a w hm hst
  cases b with
  | true => exact ht rfl Q hQ a w (hm.push hx) hst
  | false => exact hf rfl Q hQ a w (hm.push hx) hst
theorem G.splitD {c ops K l E M H d} {p : Prop} [Decidable p] (hx : eget E d = some (.bool (decide p))) (ht : p → G P c ops K l ((d, .bool true) :: E) M H) (hf : ¬ p → G P c ops K l ((d, .bool false) :: E) M H) : G P c ops K l E M H :=
  G.splitB hx (fun h => ht (of_decide_eq_true h)) (fun h => hf (of_decide_eq_false h))
/-- A slot's value under another spelling. -/
theorem G.slot {c ops K l E M H} (d : Nat) {v} (hx : eget E d = some v) (h : G P c ops K l ((d, v) :: E) M H) : G P c ops K l E M H :=
  fun Q hQ a w hm hst => h Q hQ a w (hm.push hx) hst
theorem C.slot {c code Q E M H} (d : Nat) {v} (hx : eget E d = some v) (h : C P c code Q ((d, v) :: E) M H) : C P c code Q E M H :=
  fun a w hm hst => h a w (hm.push hx) hst

/-! ### Results -/
theorem Res.tmp {fn : Func} {E M H t v} (hf : fn.results = #[.tmp t]) (hv : eget E t = some v) : Res P fn E M H v := by
  intro n a w hm _ _
  have := hm.eval (x := .tmp t) hv
  simp only [Act.eval] at this
  rw [results_tmp hf, this]
theorem Res.tmp2 {fn : Func} {E M H t u v v'} (hf : fn.results = #[.tmp t, .tmp u]) (hv : eget E t = some v) (hu : eget E u = some v') : Res P fn E M H (.tuple #[v, v']) := by
  intro n a w hm _ _
  have h1 := hm.eval (x := .tmp t) hv
  have h2 := hm.eval (x := .tmp u) hu
  simp only [Act.eval] at h1 h2
  rw [results_tmp2 hf, h1, h2]
theorem Res.tmp3 {fn : Func} {E M H t u s v v' v''} (hf : fn.results = #[.tmp t, .tmp u, .tmp s]) (hv : eget E t = some v) (hu : eget E u = some v') (hs : eget E s = some v'') : Res P fn E M H (.tuple #[v, v', v'']) := by
  intro n a w hm _ _
  have h1 := hm.eval (x := .tmp t) hv
  have h2 := hm.eval (x := .tmp u) hu
  have h3 := hm.eval (x := .tmp s) hs
  simp only [Act.eval] at h1 h2 h3
  simp [results, hf] at h1 h2 h3 ⊢
  simp [h1, h2, h3]
theorem Res.none {fn : Func} {E M H} (hf : fn.results = #[]) : Res P fn E M H (.tuple #[]) := by
  intro n a w hm _ _
  exact results_none hf _ _ _
theorem Res.cellAgg {fn : Func} {E M H t T b c n} [ht : TyI P T true n] (hf : fn.results = #[.cell t T]) (hv : eget E t = some (.pointer (some ⟨b, 0, Option.none⟩))) (hr : Rd M H b c) (hc0 : Nat.beq c.length n = true) : Res P fn E M H (.agg c.toArray) := by
  have hc := Nat.eq_of_beq_eq_true hc0
  intro m a w hm ha hh
  have h1 := hm.eval (x := .tmp t) hv
  have h2 := run_load_seg (P := P) (w := w) (b := b) (o := 0) (n := n) (c := c) (vs := c) (by unfold seg; rw [takeN_eq (by simp; omega)]; simp [← hc]) (fun j v hj => hr.cell ha hh hj)
  simp only [Act.eval] at h1
  simp [results, hf] at h1 ⊢
  simp [h1, asAddr, loadVar, ht.isAgg, ht.sizeOf, h2]
theorem Dyn.assign {c : Cx} {E M H d x ty pos aft g} {next : Value → Mem → Heap → Prop} {v} (hx : eev E x = some v) (k : next v M H) : Dyn P c ⟨d, .assign x, ty, pos, aft, g⟩ E M H next := by
  intro a w hav hst K Q hK
  have hs := Sure.assign (P := P) (M := M) (H := H) (d := d) (ty := ty) (pos := pos) (aft := aft) (g := g) hx a w hav hst.agr hst.has
  unfold Oper.wp
  rw [hs, Oper.upon_value]
  exact hK _ _ _ _ hst k
section
variable {E : Env} {M : Mem} {H : Heap} {d : Option Tmp} {ty : TypeId} {pos : String} {aft : Array Edge} {g : Option (Nat × Bool)} {t yt : TypeId} {x y : Operand} {k : IntKind} {a b : Int}
theorem Sure.to_t {o : Oper} {p : Prop} [Decidable p] (h : Sure P o E M H (.bool (decide p))) (hp : p) : Sure P o E M H (.bool true) := by rwa [decide_eq_true hp] at h
theorem Sure.to_f {o : Oper} {p : Prop} [Decidable p] (h : Sure P o E M H (.bool (decide p))) (hp : ¬ p) : Sure P o E M H (.bool false) := by rwa [decide_eq_false hp] at h
end
end Go.Proofs.YtaeeahcokiebdaaGreat

/-
  Regions whose order is drawn: what is computed does not hang on when it is computed.
  Conditions: none; everything here is proved over any program that follows the mixed orders.
-/
namespace Go.Proofs.YtaeeahcokiebdaaGreat
variable {P : Program}
open Region (binds)

/-! ### The orders that may be drawn -/
def Ready (ops : Array Oper) (S : List Nat) (i : Nat) : Prop :=
  i ∉ S ∧ ∃ o, ops[i]? = some o ∧ ∀ e ∈ o.after, binds .any e = true → e.on ∈ S
inductive Sched (ops : Array Oper) : List Nat → List Nat → Prop
  | nil {S} : (∀ i, ¬ Ready ops S i) → Sched ops S []
  | cons {S i l} : Ready ops S i → Sched ops (i :: S) l → Sched ops S (i :: l)
theorem getD_set {l : Array Bool} {i k : Nat} (h : i < l.size) : (l.setIfInBounds i true).getD k false = (decide (i = k) || l.getD k false) := by
  simp only [Array.getD_eq_getD_getElem?, Array.getElem?_setIfInBounds]
  by_cases e : i = k
  · subst e; simp [h]
  · simp [e]
theorem sched_go (ops : Array Oper) : ∀ (fuel t : Nat) (listed : Array Bool) (acc : List Nat), listed.size = ops.size → (∀ i, listed.getD i false = true ↔ i ∈ acc) → acc.Nodup → ops.size ≤ acc.length + fuel →
    ∃ l, Region.linearise.go .any ops fuel t listed acc = acc.reverse ++ l ∧ Sched ops acc l := by
  intro fuel
  induction fuel with
  | zero =>
    intro t listed acc hs hl hn hc
    refine ⟨[], by simp [Region.linearise.go], .nil ?_⟩
    intro i ⟨hi, o, ho, _⟩
    have hlt : i < ops.size := (Array.getElem?_eq_some_iff.1 ho).1
    have hsub : ∀ x ∈ i :: acc, x ∈ List.range ops.size := by
      intro x hx
      rcases List.mem_cons.1 hx with rfl | hx
      · simp [hlt]
      · have := (hl x).2 hx
        rcases Nat.lt_or_ge x ops.size with h1 | h1
        · simp [h1]
        · rw [Array.getD_eq_getD_getElem?, Array.getElem?_eq_none (by omega)] at this; simp at this
    have := List.Nodup.length_le_of_subset (List.nodup_cons.2 ⟨hi, hn⟩) (fun x hx => hsub x hx)
    simp at this
    omega
  | succ fuel ih =>
    intro t listed acc hs hl hn hc
    simp only [Region.linearise.go]
    generalize hrs : (List.range ops.size).filter (fun i => !listed.getD i true && ((ops[i]?).map (·.after.all fun e => !binds .any e || listed.getD e.on false)).getD false) = rs
    have hready : ∀ i, i ∈ rs ↔ Ready ops acc i := by
      intro i
      rw [← hrs, List.mem_filter]
      simp only [List.mem_range, Bool.and_eq_true, Bool.not_eq_true']
      constructor
      · rintro ⟨h1, h2, h3⟩
        have h2' : listed.getD i false = false := by
          rw [Array.getD_eq_getD_getElem?] at h2 ⊢
          rw [Array.getElem?_eq_getElem (by omega)] at h2 ⊢
          simpa using h2
        refine ⟨fun hm => (by rw [(hl i).2 hm] at h2'; cases h2'), ?_⟩
        cases ho : ops[i]? with
        | none => rw [ho] at h3; simp at h3
        | some o =>
          refine ⟨o, rfl, ?_⟩
          rw [ho] at h3
          simp only [Option.map_some, Option.getD_some, Array.all_eq_true_iff_forall_mem] at h3
          intro e he hb
          have := h3 e he
          rw [hb] at this
          exact (hl _).1 (by simpa using this)
      · rintro ⟨h1, o, ho, h2⟩
        have hlt : i < ops.size := (Array.getElem?_eq_some_iff.1 ho).1
        refine ⟨hlt, ?_, ?_⟩
        · have : listed.getD i false = false := by
            cases hh : listed.getD i false with
            | false => rfl
            | true => exact absurd ((hl i).1 hh) h1
          rw [Array.getD_eq_getD_getElem?] at this ⊢
          rw [Array.getElem?_eq_getElem (by omega)] at this ⊢
          simpa using this
        · rw [ho]
          simp only [Option.map_some, Option.getD_some, Array.all_eq_true_iff_forall_mem]
          intro e he
          cases hb : binds .any e with
          | false => rfl
          | true => simp only [Bool.not_true, Bool.false_or]; exact (hl _).2 (h2 e he hb)
    cases hx : rs[t % rs.length]? with
    | none =>
      refine ⟨[], by simp, .nil fun i hi => ?_⟩
      have hm := (hready i).2 hi
      have hpos : 0 < rs.length := List.length_pos_of_mem hm
      have := Nat.mod_lt t hpos
      rw [List.getElem?_eq_getElem this] at hx
      cases hx
    | some i =>
      have hm : i ∈ rs := List.mem_of_getElem? hx
      have hr := (hready i).1 hm
      have hlt : i < ops.size := by obtain ⟨_, o, ho, _⟩ := hr; exact (Array.getElem?_eq_some_iff.1 ho).1
      obtain ⟨l, h1, h2⟩ := ih (t / rs.length) (listed.setIfInBounds i true) (i :: acc) (by simpa using hs) (by
        intro k
        rw [getD_set (by omega)]
        simp only [Bool.or_eq_true, decide_eq_true_eq, List.mem_cons, hl k]
        constructor
        · rintro (h | h)
          · exact .inl h.symm
          · exact .inr h
        · rintro (h | h)
          · exact .inl h.symm
          · exact .inr h) (List.nodup_cons.2 ⟨hr.1, hn⟩) (by simp; omega)
      exact ⟨i :: l, by simp [h1], .cons hr h2⟩
theorem sched_linearise (ops : Array Oper) (t : Nat) : Sched ops [] (Region.linearise .any ops t) := by
  obtain ⟨l, h1, h2⟩ := sched_go ops ops.size t (Array.replicate ops.size false) [] (by simp) (by
    intro i
    simp only [Array.getD_eq_getD_getElem?, Array.getElem?_replicate, List.not_mem_nil, iff_false]
    split <;> simp) List.nodup_nil (by simp)
  have : Region.linearise .any ops t = l := by simpa [Region.linearise] using h1
  rw [this]; exact h2

/-! ### What has been computed, executed or not -/
def dstOf (ops : Array Oper) (i : Nat) : Option Tmp := (opAt ops.toList i).bind (·.dst)
def slotsOf (ops : Array Oper) (o : Oper) : List Nat :=
  (o.op.operands.toList.filterMap fun | .tmp t => some t | _ => Option.none) ++ (match o.guard with | Option.none => [] | some (j, _) => (dstOf ops j).toList)
def predOf (o : Oper) (j : Nat) : Bool := o.after.toList.any fun e => binds .any e && Nat.beq e.on j
def natMem (l : List Nat) (x : Nat) : Bool := l.any (Nat.beq x)
/-- Beside each of these that has been computed ahead, this one may be. -/
def okStep (ops : Array Oper) (D : List (Nat × Option Value)) (o : Oper) : Bool :=
  D.all fun p => p.2.isNone || predOf o p.1 || match opAt ops.toList p.1 with
    | Option.none => true
    | some oj => (match o.dst with | Option.none => true | some d => !(natMem (slotsOf ops oj) d) && !(natMem oj.dst.toList d)) && oj.dst.toList.all fun d => !(natMem (slotsOf ops o) d)
def readsOk (ops : Array Oper) (D : List (Nat × Option Value)) (o : Oper) : Bool :=
  D.all fun p => p.2.isNone || predOf o p.1 || match opAt ops.toList p.1 with
    | Option.none => true
    | some oj => oj.dst.toList.all fun d => !(natMem (slotsOf ops o) d)
def freshDst (ops : Array Oper) (D : List (Nat × Option Value)) (d : Tmp) : Bool :=
  D.all fun p => p.2.isNone || match opAt ops.toList p.1 with
    | Option.none => true
    | some oj => !(natMem (slotsOf ops oj) d) && !(natMem oj.dst.toList d)
/-- What is computed ahead writes a slot that nothing else that is computed ahead names. -/
def okStatic (ops : Array Oper) (D : List (Nat × Option Value)) (o : Oper) : Bool :=
  readsOk ops D o && match o.dst with
    | Option.none => true
    | some d => !(natMem (slotsOf ops o) d) && freshDst ops D d
def acyc (ops : Array Oper) : Bool := (List.range ops.toList.length).all fun i => match opAt ops.toList i with
  | Option.none => true
  | some o => o.after.toList.all fun e => !(binds .any e) || Nat.blt e.on i
def allPred (D : List (Nat × Option Value)) (o : Oper) : Bool := D.all fun p => p.2.isNone || predOf o p.1
def onlyReady (ops : List Oper) (D ks : List Nat) : Bool :=
  (List.range ops.length).all fun j => natMem D j || natMem ks j || match opAt ops j with
    | Option.none => true
    | some o => o.after.toList.any fun e => binds .any e && !(natMem D e.on)
theorem natMem_iff {l : List Nat} {x : Nat} : natMem l x = true ↔ x ∈ l := by
  unfold natMem
  rw [List.any_eq_true]
  constructor
  · rintro ⟨y, hy, h⟩; rw [Nat.eq_of_beq_eq_true h]; exact hy
  · intro h; exact ⟨x, h, Nat.beq_refl x⟩
theorem predOf_iff {o : Oper} {j : Nat} : predOf o j = true ↔ ∃ e ∈ o.after, binds .any e = true ∧ e.on = j := by
  unfold predOf
  rw [List.any_eq_true]
  constructor
  · rintro ⟨e, he, h⟩; simp only [Bool.and_eq_true] at h; exact ⟨e, by simpa using he, h.1, Nat.eq_of_beq_eq_true h.2⟩
  · rintro ⟨e, he, h1, h2⟩; exact ⟨e, by simpa using he, by simp [h1, h2]⟩

/-- What an operation comes to that changes nothing: executed, or passed over. -/
def Pend (P : Program) (ops : Array Oper) (o : Oper) (E : Env) (M : Mem) (Hr : Heap) (v : Value) : Prop :=
  (wantedE ops o E = some true ∧ Sure P o E M Hr v) ∨ (wantedE ops o E = some false ∧ v = undef)
def Incl (Hr H : Heap) : Prop := ∀ p ∈ Hr, p ∈ H
theorem Incl.refl (H : Heap) : Incl H H := fun _ h => h
theorem Incl.nil (H : Heap) : Incl [] H := fun _ h => by cases h
theorem Incl.cons {p Hr H} (h : p ∈ H) (k : Incl Hr H) : Incl (p :: Hr) H := fun q hq => by
  rcases List.mem_cons.1 hq with rfl | hq
  · exact h
  · exact k q hq
/-- Found by trying. -/
theorem incx {Hr H} (h : Incl Hr H := by first | exact Incl.refl _ | exact Incl.nil _ | exact Incl.cons (by simp) (Incl.nil _) | exact Incl.cons (by simp) (Incl.cons (by simp) (Incl.nil _)) | exact Incl.cons (by simp) (Incl.cons (by simp) (Incl.cons (by simp) (Incl.nil _)))) : Incl Hr H := h
theorem Has.incl {Hr H w} (h : Has H w) (hi : Incl Hr H) : Has Hr w := fun p hp => h p (hi p hp)

structure Inv (P : Program) (c : Cx) (ops : Array Oper) (D : List (Nat × Option Value)) (E : Env) (M : Mem) (H Hr : Heap) (S : List Nat) (a : Act) (w : World) : Prop where
  sub : ∀ i ∈ S, i ∈ D.map (·.1)
  pend : ∀ i v, (i, some v) ∈ D → i ∉ S → ∀ o, ops[i]? = some o → (∀ d, o.dst = some d → eget E d = some v ∧ d < c.n) ∧ Pend P ops o E M Hr v ∧ readsOk ops D o = true
  dyn : ∀ i, (i, Option.none) ∈ D → i ∈ S
  size : a.tmps.size = c.n
  defers : a.defers = []
  get : ∀ s u, eget E s = some u → (∀ i v, (i, some v) ∈ D → i ∉ S → ∀ o, ops[i]? = some o → o.dst ≠ some s) → a.tmps[s]? = some u
  st : St c.w0 c.M0 c.X M H w
  incl : Incl Hr H
/-- The rest of a region whose order is drawn, where D has been computed. -/
def GD (P : Program) (c : Cx) (ops : Array Oper) (K : Env → Mem → Heap → Prop) (D : List (Nat × Option Value)) (E : Env) (M : Mem) (H Hr : Heap) : Prop :=
  ∀ (Q : Exit → Act → World → Prop), (∀ a w E M H, Models c.n E a → St c.w0 c.M0 c.X M H w → K E M H → Q .normal a w) →
    acyc ops = true → ∀ S l a w, Sched ops S l → Inv P c ops D E M H Hr S a w → wpOps P ops Q l a w

theorem slots_operand {ops : Array Oper} {o : Oper} {t : Tmp} (h : Operand.tmp t ∈ o.op.operands) : t ∈ slotsOf ops o := by
  unfold slotsOf
  exact List.mem_append.2 (.inl (List.mem_filterMap.2 ⟨.tmp t, by simpa using h, rfl⟩))
theorem slots_guard {ops : Array Oper} {o : Oper} {j want d} (hg : o.guard = some (j, want)) (hd : dstOf ops j = some d) : d ∈ slotsOf ops o := by
  unfold slotsOf
  rw [hg]
  exact List.mem_append.2 (.inr (by simp [hd]))
theorem Sure.env {o E E' M H v} (h : Sure P o E M H v) (he : ∀ t, Operand.tmp t ∈ o.op.operands → ∀ u, eget E t = some u → eget E' t = some u) : Sure P o E' M H v := by
  intro a w hav ha hh
  refine h a w (fun x hx u hu => ?_) ha hh
  refine hav x hx u ?_
  cases x with
  | tmp t => exact he t hx u hu
  | const c => exact hu
  | func f => exact hu
  | global g => exact hu
theorem Sure.mem {o E M M' H v} (h : Sure P o E M H v) (hl : MLe M M') : Sure P o E M' H v :=
  fun a w hav ha hh => h a w hav (fun b c hb => ha b c (hl b c hb)) hh
theorem wantedE_env {ops : Array Oper} {o : Oper} {E E' : Env} {r : Bool} (h : wantedE ops o E = some r) (he : ∀ j want d, o.guard = some (j, want) → dstOf ops j = some d → eget E' d = eget E d) : wantedE ops o E' = some r := by
  unfold wantedE at h ⊢
  cases hg : o.guard with
  | none => rw [hg] at h; exact h
  | some p =>
    obtain ⟨j, want⟩ := p
    rw [hg] at h
    simp only at h ⊢
    cases hd : (opAt ops.toList j).bind (·.dst) with
    | none => rw [hd] at h; simp at h
    | some d =>
      rw [hd] at h
      simp only [Option.bind_some] at h ⊢
      rw [he j want d hg hd]
      exact h
theorem Pend.cons {ops o E M Hr v d u} (h : Pend P ops o E M Hr v) (hd : d ∉ slotsOf ops o) : Pend P ops o ((d, u) :: E) M Hr v := by
  have hne : ∀ t, t ∈ slotsOf ops o → Nat.beq d t = false := fun t ht => by
    cases hb : Nat.beq d t with
    | false => rfl
    | true => rw [Nat.eq_of_beq_eq_true hb] at hd; exact absurd ht hd
  have hw : ∀ r, wantedE ops o E = some r → wantedE ops o ((d, u) :: E) = some r := fun r hr =>
    wantedE_env hr fun j want d' hg hd' => by simp [eget, hne d' (slots_guard hg hd')]
  rcases h with ⟨h1, h2⟩ | ⟨h1, h2⟩
  · exact .inl ⟨hw _ h1, h2.env fun t ht u' hu' => by simp [eget, hne t (slots_operand ht), hu']⟩
  · exact .inr ⟨hw _ h1, h2⟩
theorem Pend.mem {ops o E M M' Hr v} (h : Pend P ops o E M Hr v) (hl : MLe M M') : Pend P ops o E M' Hr v :=
  h.imp (fun ⟨a, b⟩ => ⟨a, b.mem hl⟩) id
/-- The slots that an operation reads hold what has been computed, once what it hangs on has been executed. -/
theorem Inv.reads {c ops D E M H Hr S a w} (h : Inv P c ops D E M H Hr S a w) {o : Oper} (hr : ∀ e ∈ o.after, binds .any e = true → e.on ∈ S)
    (hok : readsOk ops D o = true) {s u} (hs : s ∈ slotsOf ops o) (hu : eget E s = some u) : a.tmps[s]? = some u := by
  refine h.get s u hu fun i v hi hn oi hoi hd => ?_
  unfold readsOk at hok
  have := List.all_eq_true.1 hok (i, some v) hi
  simp only [Option.isNone_some, Bool.false_or, Bool.or_eq_true] at this
  rcases this with h1 | h1
  · obtain ⟨e, he, hb, hon⟩ := predOf_iff.1 h1
    exact hn (hon ▸ hr e he hb)
  · rw [opAt_eq, Array.getElem?_toList, hoi] at h1
    simp only [List.all_eq_true] at h1
    have := h1 s (by simp [hd])
    rw [Bool.not_eq_true'] at this
    rw [natMem_iff.2 hs] at this
    cases this
theorem Inv.avail {c ops D E M H Hr S a w} (h : Inv P c ops D E M H Hr S a w) {o : Oper} (hr : ∀ e ∈ o.after, binds .any e = true → e.on ∈ S)
    (hok : readsOk ops D o = true) : Avail E a o := by
  intro x hx v hv
  cases x with
  | tmp t =>
    have := h.reads hr hok (slots_operand hx) hv
    simp [Act.eval, Array.getD_eq_getD_getElem?, this]
  | const c => simpa [eev, Act.eval] using hv
  | func f => simpa [eev, Act.eval] using hv
  | global g => simp [eev] at hv
theorem Inv.wanted {c ops D E M H Hr S a w} (h : Inv P c ops D E M H Hr S a w) {o : Oper} (hr : ∀ e ∈ o.after, binds .any e = true → e.on ∈ S)
    (hok : readsOk ops D o = true) {r} (hw : wantedE ops o E = some r) : Region.wanted o (yielded ops a.tmps) = r := by
  unfold wantedE at hw
  unfold Region.wanted
  cases hg : o.guard with
  | none => rw [hg] at hw; simpa using hw
  | some p =>
    obtain ⟨j, want⟩ := p
    rw [hg] at hw
    simp only at hw ⊢
    cases hd : (opAt ops.toList j).bind (·.dst) with
    | none => rw [hd] at hw; simp at hw
    | some d =>
      rw [hd] at hw
      simp only [Option.bind_some] at hw
      split at hw
      · rename_i b hb
        have := h.reads hr hok (slots_guard hg hd) hb
        unfold yielded
        rw [opAt_eq, Array.getElem?_toList] at hd
        rw [hd]
        simp only [Option.bind_some]
        rw [this]
        simp at hw
        subst hw
        cases b <;> cases want <;> rfl
      · rename_i vs hb
        have := h.reads hr hok (slots_guard hg hd) hb
        unfold yielded
        rw [opAt_eq, Array.getElem?_toList] at hd
        rw [hd]
        simp only [Option.bind_some]
        rw [this]
        simp at hw
        subst hw
        cases want <;> rfl
      · cases hw

theorem not_natMem {l : List Nat} {x : Nat} : (!(natMem l x)) = true ↔ x ∉ l := by
  rw [Bool.not_eq_true', ← natMem_iff, Bool.not_eq_true]
theorem ready_exists {ops : Array Oper} (hac : acyc ops = true) {S : List Nat} : ∀ i, i < ops.size → i ∉ S → ∃ j, Ready ops S j := by
  intro i
  induction i using Nat.strongRecOn with
  | _ i ih =>
    intro hi hS
    by_cases h : ∃ j, j < i ∧ j ∉ S
    · obtain ⟨j, hj, hjS⟩ := h; exact ih j hj (by omega) hjS
    · refine ⟨i, hS, ops[i], by simp [hi], fun e he hb => ?_⟩
      have h1 := List.all_eq_true.1 hac i (by simp [hi])
      rw [opAt_eq, Array.getElem?_toList, Array.getElem?_eq_getElem hi] at h1
      simp only [List.all_eq_true] at h1
      have h2 := h1 e (by simpa using he)
      rw [hb] at h2
      have h3 : e.on < i := blt_lt (by simpa using h2)
      exact Decidable.byContradiction fun hc => h ⟨e.on, h3, hc⟩
/-- One that was computed ahead is executed. -/
theorem Inv.exec {c ops D E M H Hr S a w} (h : Inv P c ops D E M H Hr S a w) {i v o} (hi : (i, some v) ∈ D) (hn : i ∉ S) (ho : ops[i]? = some o) (hr : ∀ e ∈ o.after, binds .any e = true → e.on ∈ S)
    (hu : ∀ v', (i, some v') ∈ D → v' = v) {Q : Exit → Act → World → Prop} {rest : List Nat}
    (k : Inv P c ops D E M H Hr (i :: S) (a.put o.dst v) w → wpOps P ops Q rest (a.put o.dst v) w) : wpOps P ops Q (i :: rest) a w := by
  obtain ⟨hdst, hp, hro⟩ := h.pend i v hi hn o ho
  have hinv : Inv P c ops D E M H Hr (i :: S) (a.put o.dst v) w := by
    refine ⟨?_, ?_, fun j hj => List.mem_cons_of_mem _ (h.dyn j hj), ?_, ?_, ?_, h.st, h.incl⟩
    · intro j hj
      rcases List.mem_cons.1 hj with rfl | hj
      · exact List.mem_map.2 ⟨_, hi, rfl⟩
      · exact h.sub j hj
    · intro j u hj hjS oj hoj
      exact h.pend j u hj (fun hm => hjS (List.mem_cons_of_mem _ hm)) oj hoj
    · cases hd : o.dst <;> simp [Act.put, h.size]
    · cases hd : o.dst <;> simp [Act.put, h.defers]
    · intro s u hs hfree
      cases hd : o.dst with
      | none =>
        simp only [Act.put]
        refine h.get s u hs fun j vj hj hjS oj hoj hoj' => ?_
        by_cases e : j = i
        · subst e; rw [ho] at hoj; injection hoj with hoj; subst hoj; rw [hd] at hoj'; cases hoj'
        · exact hfree j vj hj (by simp [e, hjS]) oj hoj hoj'
      | some d =>
        obtain ⟨hd1, hd2⟩ := hdst d hd
        simp only [Act.put]
        by_cases e : d = s
        · subst e
          rw [hd1] at hs
          simp [h.size, hd2]
          injection hs
        · simp only [Array.getElem?_setIfInBounds, if_neg e]
          refine h.get s u hs fun j vj hj hjS oj hoj hoj' => ?_
          by_cases e' : j = i
          · subst e'; rw [ho] at hoj; injection hoj with hoj; subst hoj; rw [hd] at hoj'; injection hoj' with hoj'; exact e hoj'
          · exact hfree j vj hj (by simp [e', hjS]) oj hoj hoj'
  simp only [wpOps, ho]
  rcases hp with ⟨hw, hs⟩ | ⟨hw, rfl⟩
  · rw [if_pos (h.wanted hr hro hw)]
    refine .inl ?_
    unfold Oper.wp
    rw [hs a w (h.avail hr hro) h.st.agr (h.st.has.incl h.incl), Oper.upon_value]
    exact k hinv
  · rw [if_neg (by rw [h.wanted hr hro hw]; simp)]
    exact k hinv

abbrev fsts (D : List (Nat × Option Value)) : List Nat := D.map (·.1)
def dups : List Nat → Bool
  | [] => false
  | x :: l => natMem l x || dups l
theorem dups_val {D : List (Nat × Option Value)} (h : dups (fsts D) = false) {i : Nat} {x y} (hx : (i, x) ∈ D) (hy : (i, y) ∈ D) : x = y := by
  induction D with
  | nil => cases hx
  | cons p D ih =>
    simp only [fsts, List.map_cons, dups, Bool.or_eq_false_iff] at h
    have hnm : ∀ z, (p.1, z) ∉ D := fun z hz => by
      have := natMem_iff.2 (List.mem_map.2 ⟨(p.1, z), hz, rfl⟩ : p.1 ∈ List.map (·.1) D)
      rw [h.1] at this; cases this
    rcases List.mem_cons.1 hx with e | hx2
    · rcases List.mem_cons.1 hy with e' | hy2
      · rw [← e] at e'; injection e' with _ e'; exact e'.symm
      · subst e; exact absurd hy2 (hnm y)
    · rcases List.mem_cons.1 hy with e' | hy2
      · subst e'; exact absurd hx2 (hnm x)
      · exact ih h.2 hx2 hy2
theorem GD.done {c ops K D E M H Hr} (hdup : dups (fsts D) = false) (hall : ((List.range ops.toList.length).all fun i => natMem (fsts D) i) = true) (hK : K E M H) : GD P c ops K D E M H Hr := by
  intro Q hQ hac S l
  induction l generalizing S with
  | nil =>
    intro a w hsch hinv
    cases hsch with
    | nil hnone =>
      have hS : ∀ i, i < ops.size → i ∈ S := fun i hi => Decidable.byContradiction fun hc => by
        obtain ⟨j, hj⟩ := ready_exists hac i hi hc
        exact hnone j hj
      refine hQ a w E M H ⟨hinv.size, hinv.defers, fun s u hu => hinv.get s u hu fun i v _ hn o ho => ?_⟩ hinv.st hK
      exact absurd (hS i (Array.getElem?_eq_some_iff.1 ho).1) hn
  | cons i l ih =>
    intro a w hsch hinv
    cases hsch with
    | cons hr hrest =>
      obtain ⟨hn, o, ho, hpre⟩ := hr
      have hlt : i < ops.size := (Array.getElem?_eq_some_iff.1 ho).1
      have hm : i ∈ fsts D := natMem_iff.1 (List.all_eq_true.1 hall i (by simp [hlt]))
      obtain ⟨⟨i', x⟩, hx, rfl⟩ := List.mem_map.1 hm
      cases x with
      | none => exact absurd (hinv.dyn _ hx) hn
      | some v => exact hinv.exec hx hn ho hpre (fun v' hv' => by injection dups_val hdup hv' hx) fun hinv' => ih _ _ _ hrest hinv'
theorem GD.static {c ops K D E M H Hr j o d v} (hj : opAt ops.toList j = some o) (hnD : natMem (fsts D) j = false) (hd : o.dst = some d) (hn : Nat.blt d c.n = true)
    (hok : okStatic ops D o = true) (hp : Pend P ops o E M Hr v) (h : GD P c ops K ((j, some v) :: D) ((d, v) :: E) M H Hr) : GD P c ops K D E M H Hr := by
  intro Q hQ hac S l a w hsch hinv
  refine h Q hQ hac S l a w hsch ?_
  have hjD : ∀ x, (j, x) ∉ D := fun x hx => by
    have := natMem_iff.2 (List.mem_map.2 ⟨(j, x), hx, rfl⟩ : j ∈ fsts D); rw [hnD] at this; cases this
  have hjS : j ∉ S := fun hm => by
    have := natMem_iff.2 (hinv.sub j hm : j ∈ fsts D); rw [hnD] at this; cases this
  rw [opAt_eq, Array.getElem?_toList] at hj
  unfold okStatic at hok
  rw [hd] at hok
  simp only [Bool.and_eq_true] at hok
  obtain ⟨hro, hself, hall⟩ := hok
  have hself' := not_natMem.1 hself
  refine ⟨fun i hi => List.mem_cons_of_mem _ (hinv.sub i hi), ?_, ?_, hinv.size, hinv.defers, ?_, hinv.st, hinv.incl⟩
  · intro i v' hi hiS oi hoi
    rcases List.mem_cons.1 hi with e | hi
    · injection e with e1 e2
      subst e1
      injection e2 with e2
      subst e2
      rw [hj] at hoi
      injection hoi with hoi
      subst hoi
      refine ⟨fun d' hd' => ?_, hp.cons hself', ?_⟩
      · rw [hd] at hd'; injection hd' with hd'; subst hd'; exact ⟨by simp [eget], blt_lt hn⟩
      · unfold readsOk at hro ⊢
        rw [List.all_cons, hro]
        rw [opAt_eq, Array.getElem?_toList, hj]
        simp [hd, hself]
    · obtain ⟨h1, h2, h3⟩ := hinv.pend i v' hi hiS oi hoi
      have h4 := List.all_eq_true.1 hall (i, some v') hi
      simp only [Option.isNone_some, Bool.false_or] at h4
      rw [opAt_eq, Array.getElem?_toList, hoi] at h4
      simp only [Bool.and_eq_true] at h4
      have h5 := not_natMem.1 h4.1
      have h6 := not_natMem.1 h4.2
      refine ⟨fun d' hd' => ?_, h2.cons h5, ?_⟩
      · obtain ⟨g1, g2⟩ := h1 d' hd'
        refine ⟨?_, g2⟩
        have : Nat.beq d d' = false := by
          cases hb : Nat.beq d d' with
          | false => rfl
          | true => rw [Nat.eq_of_beq_eq_true hb] at h6; exact absurd (by simp [hd']) h6
        simp [eget, this, g1]
      · unfold readsOk at h3 ⊢
        rw [List.all_cons, h3]
        rw [opAt_eq, Array.getElem?_toList, hj]
        simp [hd, h4.1]
  · intro i hi
    rcases List.mem_cons.1 hi with e | hi
    · cases e
    · exact hinv.dyn i hi
  · intro s u hs hfree
    have hne : d ≠ s := fun e => hfree j v (by simp) hjS o hj (by rw [hd, e])
    have : Nat.beq d s = false := by
      cases hb : Nat.beq d s with
      | false => rfl
      | true => exact absurd (Nat.eq_of_beq_eq_true hb) hne
    simp only [eget, this, cond_false] at hs
    exact hinv.get s u hs fun i v' hi hiS oi hoi => hfree i v' (List.mem_cons_of_mem _ hi) hiS oi hoi
def consE (d : Option Tmp) (v : Value) (E : Env) : Env := match d with
  | some d => (d, v) :: E
  | Option.none => E
def dstOk (n : Nat) : Option Tmp → Bool
  | some d => Nat.blt d n
  | Option.none => true
/-- What is computed, and not sure to have run ahead of o, is so over fewer blocks too. -/
def PendAll (P : Program) (ops : Array Oper) (o : Oper) (E : Env) (M : Mem) (Hr : Heap) : List (Nat × Option Value) → Prop
  | [] => True
  | (_, Option.none) :: D => PendAll P ops o E M Hr D
  | (j, some v) :: D => (predOf o j = true ∨ ∃ oj, opAt ops.toList j = some oj ∧ Pend P ops oj E M Hr v) ∧ PendAll P ops o E M Hr D
theorem PendAll.get {ops : Array Oper} {o : Oper} {E M Hr} : ∀ {D : List (Nat × Option Value)}, PendAll P ops o E M Hr D → ∀ j v, (j, some v) ∈ D → predOf o j = false → ∀ oj, opAt ops.toList j = some oj → Pend P ops oj E M Hr v
  | [], _, _, _, h, _, _, _ => by cases h
  | (_, Option.none) :: D, hp, j, v, h, hn, oj, ho => by
    rcases List.mem_cons.1 h with e | h
    · cases e
    · exact PendAll.get (D := D) hp j v h hn oj ho
  | (i, some u) :: D, hp, j, v, h, hn, oj, ho => by
    rcases List.mem_cons.1 h with e | h
    · injection e with e1 e2; injection e2 with e2; subst e1; subst e2
      rcases hp.1 with h1 | ⟨oj', h1, h2⟩
      · rw [hn] at h1; cases h1
      · rw [ho] at h1; injection h1 with h1; subst h1; exact h2
    · exact PendAll.get (D := D) hp.2 j v h hn oj ho
/-- One operation that may change memory is next, among several. -/
structure Next (P : Program) (c : Cx) (ops : Array Oper) (K : Env → Mem → Heap → Prop) (D : List (Nat × Option Value)) (E : Env) (M : Mem) (H Hr : Heap) (k : Nat) : Prop where
  step : ∃ o, opAt ops.toList k = some o ∧ dstOk c.n o.dst = true ∧ okStep ops D o = true ∧ readsOk ops D o = true ∧ wantedE ops o E = some true ∧
    Dyn P c o E M H (fun v M' H' => MLe M M' ∧ ∃ Hr', (Hr' = Hr ∨ allPred D o = true ∨ PendAll P ops o E M Hr' D) ∧ Incl Hr' H' ∧ GD P c ops K ((k, Option.none) :: D) (consE o.dst v E) M' H' Hr')
theorem GD.next {c ops K D E M H Hr} (ks : List Nat) (hdup : dups (fsts D) = false) (hne : ∃ k ∈ ks, k < ops.toList.length ∧ natMem (fsts D) k = false) (honly : onlyReady ops.toList (fsts D) ks = true)
    (h : ∀ k ∈ ks, Next P c ops K D E M H Hr k) : GD P c ops K D E M H Hr := by
  intro Q hQ hac S l
  obtain ⟨k0, hk0, hk0lt, hk0D⟩ := hne
  induction l generalizing S with
  | nil =>
    intro a w hsch hinv
    cases hsch with
    | nil hnone =>
      exfalso
      have : k0 ∉ S := fun hm => by
        have := natMem_iff.2 (hinv.sub k0 hm : k0 ∈ fsts D); rw [hk0D] at this; cases this
      obtain ⟨j, hj⟩ := ready_exists hac k0 (by simpa using hk0lt) this
      exact hnone j hj
  | cons i l ih =>
    intro a w hsch hinv
    cases hsch with
    | cons hr hrest =>
      obtain ⟨hn, o, ho, hpre⟩ := hr
      have hlt : i < ops.size := (Array.getElem?_eq_some_iff.1 ho).1
      by_cases hmD : i ∈ fsts D
      · obtain ⟨⟨i', x⟩, hx, rfl⟩ := List.mem_map.1 hmD
        cases x with
        | none => exact absurd (hinv.dyn _ hx) hn
        | some v => exact hinv.exec hx hn ho hpre (fun v' hv' => by injection dups_val hdup hv' hx) fun hinv' => ih _ _ _ hrest hinv'
      · have hik : i ∈ ks := by
          have h1 := List.all_eq_true.1 honly i (by simp [hlt])
          simp only [Bool.or_eq_true] at h1
          rcases h1 with (h1 | h1) | h1
          · exact absurd (natMem_iff.1 h1) hmD
          · exact natMem_iff.1 h1
          · rw [opAt_eq, Array.getElem?_toList, ho] at h1
            simp only [List.any_eq_true, Bool.and_eq_true] at h1
            obtain ⟨e, he, hb, hnm⟩ := h1
            exact absurd (hinv.sub _ (hpre e (by simpa using he) hb)) (not_natMem.1 hnm)
        obtain ⟨o', ho', hdok, hok, hro, hw, hdyn⟩ := (h i hik).step
        rw [opAt_eq, Array.getElem?_toList, ho] at ho'
        injection ho' with ho'
        subst ho'
        simp only [wpOps, ho]
        rw [if_pos (hinv.wanted hpre hro hw)]
        refine .inl ?_
        refine hdyn a w (hinv.avail hpre hro) hinv.st _ Q fun v M' H' w' hst' hnext => ?_
        obtain ⟨hle, Hr', hHr, hinc, hgd⟩ := hnext
        refine hgd Q hQ hac (i :: S) l _ _ hrest ?_
        have hnp : ∀ j v', (j, some v') ∈ D → j ∉ i :: S → predOf o j = false := fun j v' _ hjS => by
          cases hp : predOf o j with
          | false => rfl
          | true =>
            obtain ⟨e, he, hb, hon⟩ := predOf_iff.1 hp
            exact absurd (List.mem_cons_of_mem _ (hon ▸ hpre e he hb)) hjS
        have hHr' : ∀ j v', (j, some v') ∈ D → j ∉ i :: S → ∀ oj, ops[j]? = some oj → Pend P ops oj E M Hr v' → Pend P ops oj E M Hr' v' := fun j v' hj hjS oj hoj hpd => by
          rcases hHr with h1 | h1 | h1
          · rw [h1]; exact hpd
          · have := List.all_eq_true.1 h1 (j, some v') hj
            simp only [Option.isNone_some, Bool.false_or] at this
            rw [hnp j v' hj hjS] at this; cases this
          · exact h1.get j v' hj (hnp j v' hj hjS) oj (by rw [opAt_eq, Array.getElem?_toList, hoj])
        refine ⟨?_, ?_, ?_, ?_, ?_, ?_, hst', hinc⟩
        · intro j hj
          rcases List.mem_cons.1 hj with rfl | hj
          · simp
          · exact List.mem_cons_of_mem _ (hinv.sub j hj)
        · intro j v' hj hjS oj hoj
          rcases List.mem_cons.1 hj with e | hj
          · cases e
          · obtain ⟨h1, h2, h3⟩ := hinv.pend j v' hj (fun hm => hjS (List.mem_cons_of_mem _ hm)) oj hoj
            have h4 := List.all_eq_true.1 hok (j, some v') hj
            simp only [Option.isNone_some, Bool.false_or, hnp j v' hj hjS] at h4
            rw [opAt_eq, Array.getElem?_toList, hoj] at h4
            have h2 := hHr' j v' hj hjS oj hoj h2
            cases hd : o.dst with
            | none => exact ⟨by simpa [consE] using h1, h2.mem hle, by unfold readsOk at h3 ⊢; simp [h3]⟩
            | some d =>
              rw [hd] at h4
              simp only [Bool.and_eq_true] at h4
              have h5 := not_natMem.1 h4.1.1
              have h6 := not_natMem.1 h4.1.2
              refine ⟨fun d' hd' => ?_, (h2.cons h5).mem hle, by unfold readsOk at h3 ⊢; simp [h3]⟩
              obtain ⟨g1, g2⟩ := h1 d' hd'
              refine ⟨?_, g2⟩
              have : Nat.beq d d' = false := by
                cases hb : Nat.beq d d' with
                | false => rfl
                | true => rw [Nat.eq_of_beq_eq_true hb] at h6; exact absurd (by simp [hd']) h6
              simp [consE, eget, this, g1]
        · intro j hj
          rcases List.mem_cons.1 hj with e | hj
          · injection e with e _; subst e; simp
          · exact List.mem_cons_of_mem _ (hinv.dyn j hj)
        · cases hd : o.dst <;> simp [Act.put, hinv.size]
        · cases hd : o.dst <;> simp [Act.put, hinv.defers]
        · intro s u hs hfree
          have hfree' : ∀ j v', (j, some v') ∈ D → j ∉ S → ∀ oj, ops[j]? = some oj → oj.dst ≠ some s := fun j v' hj hjS oj hoj =>
            hfree j v' (List.mem_cons_of_mem _ hj) (by
              intro hm
              rcases List.mem_cons.1 hm with rfl | hm
              · exact hmD (List.mem_map.2 ⟨(j, some v'), hj, rfl⟩)
              · exact hjS hm) oj hoj
          cases hd : o.dst with
          | none =>
            rw [hd] at hs
            exact hinv.get s u (by simpa [consE] using hs) hfree'
          | some d =>
            rw [hd] at hs
            have hdn : d < c.n := blt_lt (by rw [hd] at hdok; exact hdok)
            simp only [Act.put]
            by_cases e : d = s
            · subst e
              simp [consE, eget] at hs
              subst hs
              simp [hinv.size, hdn]
            · have : Nat.beq d s = false := by
                cases hb : Nat.beq d s with
                | false => rfl
                | true => exact absurd (Nat.eq_of_beq_eq_true hb) e
              simp [consE, eget, this] at hs
              simp only [Array.getElem?_setIfInBounds, if_neg e]
              exact hinv.get s u hs hfree'
end Go.Proofs.YtaeeahcokiebdaaGreat

/-
  The rules for regions whose order is drawn, as a walk uses them.
  Conditions: none; everything here is proved over any program that follows the mixed orders.
-/
namespace Go.Proofs.YtaeeahcokiebdaaGreat
variable {P : Program}
open Region (binds)

theorem C.draw {c id} {l : List Oper} {Q E M H} (Hr : Heap) (hmix : P.follows .mixedOrders = true) (hac : acyc l.toArray = true) (hi : Incl Hr H)
    (h : GD P c l.toArray (fun E M H => Fin Q .normal E M H) [] E M H Hr) : C P c (.region id l.toArray true) Q E M H := by
  intro a w hm hst
  refine wp_region_draw fun t => ?_
  rw [hmix]
  simp only [Region.schedule, Bool.true_or, if_true]
  refine h (c.lift Q) (fun _ _ E M H hm hst hk => ⟨E, M, H, hm, hst, hk⟩) hac [] _ a _ (sched_linearise _ t) ?_
  exact ⟨fun i hi => (by cases hi), fun i v hi => (by cases hi), fun i hi => (by cases hi), hm.size, hm.defers, fun s u hu _ => hm.get s u hu, hst.drew, hi⟩
theorem C.draw_seq {c id} {l : List Oper} {y Q E M H} (Hr : Heap) (hmix : P.follows .mixedOrders = true) (hac : acyc l.toArray = true) (hi : Incl Hr H)
    (h : GD P c l.toArray (fun E M H => C P c y Q E M H) [] E M H Hr) : C P c (.seq (.region id l.toArray true) y) Q E M H :=
  C.seq (C.draw Hr hmix hac hi h)
theorem GD.val {c ops K D E M H Hr o d v} (j : Nat) (hj : opAt ops.toList j = some o) (hnD : natMem (fsts D) j = false) (hd : o.dst = some d) (hn : Nat.blt d c.n = true)
    (hok : okStatic ops D o = true) (hw : wantedE ops o E = some true) (hs : Sure P o E M Hr v) (h : GD P c ops K ((j, some v) :: D) ((d, v) :: E) M H Hr) : GD P c ops K D E M H Hr :=
  GD.static hj hnD hd hn hok (.inl ⟨hw, hs⟩) h
theorem GD.skip {c ops K D E M H Hr o d} (j : Nat) (hj : opAt ops.toList j = some o) (hnD : natMem (fsts D) j = false) (hd : o.dst = some d) (hn : Nat.blt d c.n = true)
    (hok : okStatic ops D o = true) (hw : wantedE ops o E = some false) (h : GD P c ops K ((j, some undef) :: D) ((d, undef) :: E) M H Hr) : GD P c ops K D E M H Hr :=
  GD.static hj hnD hd hn hok (.inr ⟨hw, rfl⟩) h
theorem Dyn.mono {c o E M H} {next next' : Value → Mem → Heap → Prop} (h : Dyn P c o E M H next) (k : ∀ v M' H', next v M' H' → next' v M' H') : Dyn P c o E M H next' :=
  fun a w hav hst K Q hK => h a w hav hst K Q fun v M' H' w' hst' hn => hK v M' H' w' hst' (k _ _ _ hn)
theorem Next.dyn {c ops K D E M H Hr o d} (k : Nat) (hj : opAt ops.toList k = some o) (hd : o.dst = some d) (hn : Nat.blt d c.n = true) (hok : okStep ops D o = true) (hro : readsOk ops D o = true)
    (hw : wantedE ops o E = some true) (h : Dyn P c o E M H (fun v M' H' => MLe M M' ∧ Incl Hr H' ∧ GD P c ops K ((k, Option.none) :: D) ((d, v) :: E) M' H' Hr)) : Next P c ops K D E M H Hr k :=
  ⟨o, hj, by rw [hd]; exact hn, hok, hro, hw, h.mono fun v M' H' ⟨h1, h2, h3⟩ => ⟨h1, Hr, .inl rfl, h2, by rw [hd]; exact h3⟩⟩
theorem Next.dyn0 {c ops K D E M H Hr o} (k : Nat) (hj : opAt ops.toList k = some o) (hd : o.dst = Option.none) (hok : okStep ops D o = true) (hro : readsOk ops D o = true)
    (hw : wantedE ops o E = some true) (h : Dyn P c o E M H (fun _ M' H' => MLe M M' ∧ Incl Hr H' ∧ GD P c ops K ((k, Option.none) :: D) E M' H' Hr)) : Next P c ops K D E M H Hr k :=
  ⟨o, hj, by rw [hd]; rfl, hok, hro, hw, h.mono fun v M' H' ⟨h1, h2, h3⟩ => ⟨h1, Hr, .inl rfl, h2, by rw [hd]; exact h3⟩⟩
theorem Next.dynW {c ops K D E M H Hr o d} (k : Nat) (hj : opAt ops.toList k = some o) (hd : o.dst = some d) (hn : Nat.blt d c.n = true) (hok : okStep ops D o = true) (hro : readsOk ops D o = true)
    (hw : wantedE ops o E = some true) (hall : allPred D o = true) (h : Dyn P c o E M H (fun v M' H' => MLe M M' ∧ ∃ Hr', Incl Hr' H' ∧ GD P c ops K ((k, Option.none) :: D) ((d, v) :: E) M' H' Hr')) : Next P c ops K D E M H Hr k :=
  ⟨o, hj, by rw [hd]; exact hn, hok, hro, hw, h.mono fun v M' H' ⟨h1, Hr', h2, h3⟩ => ⟨h1, Hr', .inr (.inl hall), h2, by rw [hd]; exact h3⟩⟩
theorem Next.dyn0W {c ops K D E M H Hr o} (k : Nat) (hj : opAt ops.toList k = some o) (hd : o.dst = Option.none) (hok : okStep ops D o = true) (hro : readsOk ops D o = true)
    (hw : wantedE ops o E = some true) (hall : allPred D o = true) (h : Dyn P c o E M H (fun _ M' H' => MLe M M' ∧ ∃ Hr', Incl Hr' H' ∧ GD P c ops K ((k, Option.none) :: D) E M' H' Hr')) : Next P c ops K D E M H Hr k :=
  ⟨o, hj, by rw [hd]; rfl, hok, hro, hw, h.mono fun v M' H' ⟨h1, Hr', h2, h3⟩ => ⟨h1, Hr', .inr (.inl hall), h2, by rw [hd]; exact h3⟩⟩
theorem Next.dyn0P {c ops K D E M H Hr o} (k : Nat) (Hr' : Heap) (hj : opAt ops.toList k = some o) (hd : o.dst = Option.none) (hok : okStep ops D o = true) (hro : readsOk ops D o = true)
    (hw : wantedE ops o E = some true) (hall : PendAll P ops o E M Hr' D) (h : Dyn P c o E M H (fun _ M' H' => MLe M M' ∧ Incl Hr' H' ∧ GD P c ops K ((k, Option.none) :: D) E M' H' Hr')) : Next P c ops K D E M H Hr k :=
  ⟨o, hj, by rw [hd]; rfl, hok, hro, hw, h.mono fun v M' H' ⟨h1, h2, h3⟩ => ⟨h1, Hr', .inr (.inr hall), h2, by rw [hd]; exact h3⟩⟩
theorem GD.one {c ops K D E M H Hr} (k : Nat) (hdup : dups (fsts D) = false) (hlt : Nat.blt k ops.toList.length = true) (hnD : natMem (fsts D) k = false) (honly : onlyReady ops.toList (fsts D) [k] = true)
    (h : Next P c ops K D E M H Hr k) : GD P c ops K D E M H Hr :=
  GD.next [k] hdup ⟨k, by simp, blt_lt hlt, hnD⟩ honly (fun k' hk' => by simp at hk'; subst hk'; exact h)
theorem GD.two {c ops K D E M H Hr} (k k2 : Nat) (hdup : dups (fsts D) = false) (hlt : Nat.blt k ops.toList.length = true) (hnD : natMem (fsts D) k = false) (honly : onlyReady ops.toList (fsts D) [k, k2] = true)
    (h : Next P c ops K D E M H Hr k) (h2 : Next P c ops K D E M H Hr k2) : GD P c ops K D E M H Hr :=
  GD.next [k, k2] hdup ⟨k, by simp, blt_lt hlt, hnD⟩ honly (fun k' hk' => by simp at hk'; rcases hk' with rfl | rfl; exact h; exact h2)
/-- The owned blocks that are only read, fewer of them. -/
theorem Inv.fewer {c ops D E M H Hr Hr' S a w} (h : Inv P c ops D E M H Hr S a w) (hD : D = []) (hi : Incl Hr' H) : Inv P c ops D E M H Hr' S a w := by
  subst hD
  exact ⟨h.sub, fun i v hi => (by cases hi), h.dyn, h.size, h.defers, h.get, h.st, hi⟩
theorem eget_push {E : Env} {d v} (hx : eget E d = some v) (s : Nat) : eget ((d, v) :: E) s = eget E s := by
  simp only [eget]
  cases hb : Nat.beq d s with
  | true => rw [← Nat.eq_of_beq_eq_true hb]; simp [hx]
  | false => rfl
theorem GD.push {c ops K D E M H Hr d v} (hx : eget E d = some v) (h : GD P c ops K D ((d, v) :: E) M H Hr) : GD P c ops K D E M H Hr := by
  intro Q hQ hac S l a w hsch hinv
  refine h Q hQ hac S l a w hsch ⟨hinv.sub, ?_, hinv.dyn, hinv.size, hinv.defers, ?_, hinv.st, hinv.incl⟩
  · intro i u hi hn o ho
    obtain ⟨h1, h2, h3⟩ := hinv.pend i u hi hn o ho
    refine ⟨fun d' hd' => by rw [eget_push hx]; exact h1 d' hd', ?_, h3⟩
    rcases h2 with ⟨g1, g2⟩ | ⟨g1, g2⟩
    · exact .inl ⟨wantedE_env g1 fun j want d' _ _ => eget_push hx d', g2.env fun t _ u hu => by rw [eget_push hx]; exact hu⟩
    · exact .inr ⟨wantedE_env g1 fun j want d' _ _ => eget_push hx d', g2⟩
  · intro s u hs hf
    rw [eget_push hx] at hs
    exact hinv.get s u hs hf
theorem GD.splitB {c ops K D E M H Hr d b} (hx : eget E d = some (.bool b)) (ht : b = true → GD P c ops K D ((d, .bool true) :: E) M H Hr) (hf : b = false → GD P c ops K D ((d, .bool false) :: E) M H Hr) : GD P c ops K D E M H Hr := by
  cases b with
  | true => exact GD.push hx (ht rfl)
  | false => exact GD.push hx (hf rfl)
theorem GD.splitD {c ops K D E M H Hr d} {p : Prop} [Decidable p] (hx : eget E d = some (.bool (decide p))) (ht : p → GD P c ops K D ((d, .bool true) :: E) M H Hr) (hf : ¬ p → GD P c ops K D ((d, .bool false) :: E) M H Hr) : GD P c ops K D E M H Hr :=
  GD.splitB hx (fun h => ht (of_decide_eq_true h)) (fun h => hf (of_decide_eq_false h))
/-- A call, in a region whose order is drawn. -/
theorem Next.call {c ops K D E M H Hr o d x args tys f first capt vs Hin R post} (k : Nat) (hj : opAt ops.toList k = some o) (hd : o.dst = some d) (hn : Nat.blt d c.n = true) (hok : okStep ops D o = true) (hro : readsOk ops D o = true)
    (hw : wantedE ops o E = some true) (ho : o.op = .call { callee := .value x, args := args.toArray, argTypes := tys }) (hx : eev E x = some (.func (.func f) first capt))
    (ha : evs E args = some vs) (hs : Spec P f (first.toList ++ vs ++ capt.toList) M Hin post) (hp : Split Hin H R)
    (h : ∀ v M' H', MLe M M' → post v M' H' → Incl Hr (H' ++ R) ∧ GD P c ops K ((k, Option.none) :: D) ((d, v) :: E) M' (H' ++ R) Hr) : Next P c ops K D E M H Hr k :=
  Next.dyn k hj hd hn hok hro hw (Dyn.call ho hx ha hs hp fun v M' H' hle hq => ⟨hle, h v M' H' hle hq⟩)
theorem GD.weak {c ops K D E0 E M H Hr} (hD : D = []) (hs : esub E0 E) (h : GD P c ops K D E0 M H Hr) : GD P c ops K D E M H Hr := by
  subst hD
  intro Q hQ hac S l a w hsch hinv
  exact h Q hQ hac S l a w hsch ⟨hinv.sub, fun i v hi => (by cases hi), hinv.dyn, hinv.size, hinv.defers, fun s u hu hf => hinv.get s u (esub_get hs s u hu) hf, hinv.st, hinv.incl⟩
theorem GD.sub {c ops K D E M H Hr A R} (hs : Split A H R) (hi : Incl Hr A) (h : GD P c ops K D E M A Hr) : GD P c ops K D E M H Hr :=
  fun Q hQ hac S l a w hsch hinv => h Q hQ hac S l a w hsch ⟨hinv.sub, hinv.pend, hinv.dyn, hinv.size, hinv.defers, hinv.get, hinv.st.sub hs, hi⟩
theorem GD.mem {c ops K D E M b x H Hr} (hi : Incl Hr H) (h : ∀ M', MLe M M' → M' b = some x → GD P c ops K D E M' H Hr) : GD P c ops K D E M ((b, .cells x) :: H) Hr :=
  fun Q hQ hac S l a w hsch hinv => h (mput M b x) (mput_le (hinv.st.apart b (by simp [ids]))) (by simp [mput]) Q hQ hac S l a w hsch
    ⟨hinv.sub, fun i v hv hn o ho => let ⟨h1, h2, h3⟩ := hinv.pend i v hv hn o ho; ⟨h1, h2.mem (mput_le (hinv.st.apart b (by simp [ids]))), h3⟩, hinv.dyn, hinv.size, hinv.defers, hinv.get, hinv.st.donate, hi⟩
end Go.Proofs.YtaeeahcokiebdaaGreat

/-
  Slicing, make, conversions between bytes and texts, min and max.
  Conditions: none; everything here is proved over any program.
-/
namespace Go.Proofs.YtaeeahcokiebdaaGreat
variable {P : Program}
section
variable {c : Cx} {E : Env} {M : Mem} {H : Heap} {d : Option Tmp} {ty : TypeId} {pos : String} {aft : Array Edge} {g : Option (Nat × Bool)} {next : Value → Mem → Heap → Prop}
def optEv (E : Env) : Option Operand → Option (Option Value)
  | Option.none => some Option.none
  | some x => match eev E x with
    | some v => some (some v)
    | Option.none => Option.none
theorem optEv_map {a : Act} {o : Option Operand} {r} (h : optEv E o = some r) (hav : ∀ x ∈ o, ∀ v, eev E x = some v → a.eval x = v) : o.map a.eval = r := by
  cases o with
  | none => simp [optEv] at h; simp [h]
  | some x =>
    simp only [optEv] at h
    cases hx : eev E x with
    | none => simp [hx] at h
    | some v => simp [hx] at h; subst h; simp [hav x (by simp) v hx]
/-- Where a slice of a slice begins. -/
def subP (p : Option Addr) (cap lo sz : Nat) : Option Addr := if cap = lo then p else p.map (·.add (lo * sz))
theorem run_slice {t e sz agg p n cap w} [ht : TyU P t (.slice e)] [he : TyI P e agg sz] {lo hi : Nat} {low high : Option Value}
    (hlo : low = some (.int .i64 lo) ∨ low = Option.none ∧ lo = 0) (hhi : high = some (.int .i64 hi) ∨ high = Option.none ∧ hi = n) (h1 : lo ≤ hi) (h2 : hi ≤ cap) :
    (Instr.sliceAt t (.slice p n cap) low high Option.none).run P w = .ok (.slice (subP p cap lo sz) (hi - lo) (cap - lo)) w := by
  have hb : (Instr.sliceBounds true n cap low high Option.none).run P w = .ok (lo, hi, cap) w := by
    unfold Instr.sliceBounds
    rcases hlo with rfl | ⟨rfl, rfl⟩ <;> rcases hhi with rfl | ⟨rfl, rfl⟩
    · have e1 : (0 : Int) ≤ hi ∧ (hi : Int) ≤ cap := by omega
      have e2 : (0 : Int) ≤ lo ∧ (lo : Int) ≤ hi := by omega
      simp [Instr.sliceBound, asIntOf, h1, h2]
    · simp [Instr.sliceBound, asIntOf, h1]
    · simp [Instr.sliceBound, asIntOf, h2]
    · simp
  simp [Instr.sliceAt, Instr.slice, run_underlying ht.und, hb, he.sizeOf, subP]
theorem Sure.slice {t x low high e sz agg p n cap l h} [ht : TyU P t (.slice e)] [he : TyI P e agg sz] (lo hi : Nat) (hx : eev E x = some (.slice p n cap)) (hl : optEv E low = some l) (hh : optEv E high = some h)
    (hlo : l = some (.int .i64 lo) ∨ l = Option.none ∧ lo = 0) (hhi : h = some (.int .i64 hi) ∨ h = Option.none ∧ hi = n) (h1 : lo ≤ hi) (h2 : hi ≤ cap) :
    Sure P ⟨d, .slice t x low high Option.none, ty, pos, aft, g⟩ E M H (.slice (subP p cap lo sz) (hi - lo) (cap - lo)) := by
  intro a w hav _ _
  have e1 := avail_ev hav (x := x) (by simp [Op.operands]) hx
  have e2 := optEv_map (a := a) hl (fun y hy v hv => avail_ev hav (by cases low <;> simp at hy; subst hy; simp [Op.operands]) hv)
  have e3 := optEv_map (a := a) hh (fun y hy v hv => avail_ev hav (by cases high <;> simp at hy; subst hy; simp [Op.operands]) hv)
  have := run_slice (P := P) (t := t) (e := e) (sz := sz) (p := p) (n := n) (cap := cap) (w := w) hlo hhi h1 h2
  simp only [execOp, e1, e2, e3, Option.map_none, Sem.run_bind, this, Result.andThen_ok, Sem.run_pure]
theorem Sl.sub {sz p n xs cap} (h : Sl M H sz p n xs) {lo hi : Nat} (h1 : lo ≤ hi) (h2 : hi ≤ n) (hc : n ≤ cap) : Sl M H sz (subP p cap lo sz) (hi - lo) ((xs.drop (lo * sz)).take ((hi - lo) * sz)) := by
  have hb1 : lo * sz ≤ hi * sz := Nat.mul_le_mul_right _ h1
  have hb2 : hi * sz ≤ n * sz := Nat.mul_le_mul_right _ h2
  have hsub : (hi - lo) * sz = hi * sz - lo * sz := Nat.sub_mul _ _ _
  refine ⟨by simp [h.1, hsub]; omega, fun hpos => ?_⟩
  obtain ⟨b, o, c, rfl, h3, h4⟩ := h.2 (by omega)
  refine ⟨b, o + lo * sz, c, by unfold subP; rw [if_neg (by omega)]; simp [addr_add], h3, seg_sub h4 (by omega)⟩
theorem Sure.sliceStr {t x low high s l h} [ht : TyU P t .string] (lo hi : Nat) (hx : eev E x = some (.string s)) (hl : optEv E low = some l) (hh : optEv E high = some h)
    (hlo : l = some (.int .i64 lo) ∨ l = Option.none ∧ lo = 0) (hhi : h = some (.int .i64 hi) ∨ h = Option.none ∧ hi = s.size) (h1 : lo ≤ hi) (h2 : hi ≤ s.size) :
    Sure P ⟨d, .slice t x low high Option.none, ty, pos, aft, g⟩ E M H (.string (s.extract lo hi)) := by
  intro a w hav _ _
  have e1 := avail_ev hav (x := x) (by simp [Op.operands]) hx
  have e2 := optEv_map (a := a) hl (fun y hy v hv => avail_ev hav (by cases low <;> simp at hy; subst hy; simp [Op.operands]) hv)
  have e3 := optEv_map (a := a) hh (fun y hy v hv => avail_ev hav (by cases high <;> simp at hy; subst hy; simp [Op.operands]) hv)
  have hb : (Instr.sliceBounds false s.size s.size l h Option.none).run P w = .ok (lo, hi, s.size) w := by
    unfold Instr.sliceBounds
    rcases hlo with rfl | ⟨rfl, rfl⟩ <;> rcases hhi with rfl | ⟨rfl, rfl⟩
    · simp [Instr.sliceBound, asIntOf, h1, h2]
    · simp [Instr.sliceBound, asIntOf, h1]
    · simp [Instr.sliceBound, asIntOf, h2]
    · simp
  simp only [execOp, e1, e2, e3, Option.map_none, Sem.run_bind, Instr.sliceAt, run_underlying ht.und, Result.andThen_ok, Instr.slice, Option.isSome_none, Bool.false_eq_true, if_false, Sem.run_pure, hb]
theorem Sure.min {k x y a b ts} (hx : eev E x = some (.int k a)) (hy : eev E y = some (.int k b)) : Sure P ⟨d, .call { callee := .builtin .min, args := #[x, y], argTypes := ts }, ty, pos, aft, g⟩ E M H (.int k (Min.min a b)) := by
  intro ac w hav _ _
  have h1 := avail_ev hav (x := x) (by simp [Op.operands, Call.operands]) hx
  have h2 := avail_ev hav (x := y) (by simp [Op.operands, Call.operands]) hy
  have h3 : (if b < a then b else a) = Min.min a b := by omega
  simp [execOp, resolve, invoke, builtin, h1, h2, Builtin.min_, Builtin.min2, h3]
theorem Sure.max {k x y a b ts} (hx : eev E x = some (.int k a)) (hy : eev E y = some (.int k b)) : Sure P ⟨d, .call { callee := .builtin .max, args := #[x, y], argTypes := ts }, ty, pos, aft, g⟩ E M H (.int k (Max.max a b)) := by
  intro ac w hav _ _
  have h1 := avail_ev hav (x := x) (by simp [Op.operands, Call.operands]) hx
  have h2 := avail_ev hav (x := y) (by simp [Op.operands, Call.operands]) hy
  have h3 : (if b > a then b else a) = Max.max a b := by omega
  simp [execOp, resolve, invoke, builtin, h1, h2, Builtin.max_, Builtin.max2, h3]

/-! ### make -/
def zrow (z : Value) (n : Nat) : List Value := ((List.range n).map fun _ => vcl z).flatten
theorem zrow_len {z : Value} {sz : Nat} (h : (vcl z).length = sz) (n : Nat) : (zrow z n).length = n * sz := by
  unfold zrow
  rw [flatten_len (sz := sz) (by intro e he; obtain ⟨_, _, rfl⟩ := List.mem_map.1 he; exact h)]
  simp
theorem zrow_get {z : Value} {sz : Nat} (h : (vcl z).length = sz) {n i : Nat} (hi : i < n * sz) : (zrow z n)[i]? = (vcl z)[i % sz]? := by
  induction n generalizing i with
  | zero => simp at hi
  | succ n ih =>
    have hs : zrow z (n + 1) = vcl z ++ zrow z n := by
      unfold zrow
      rw [List.range_succ_eq_map]
      simp [Function.comp_def]
    rw [hs, List.getElem?_append]
    split
    · rename_i h1; rw [Nat.mod_eq_of_lt (by omega)]
    · rename_i h1
      rw [h, ih (by rw [Nat.succ_mul] at hi; omega)]
      congr 1
      have hsz : sz ≤ i := by omega
      rw [← Nat.mod_eq_sub_mod hsz]
theorem Dyn.makeSlice {t x y e sz agg zz bytes} {n cap : Nat} [ht : TyU P t (.slice e)] [he : TyI P e agg sz] [hz : TyZ P e zz] [hb : TyB P e bytes] (hzs : (vcl zz).length = sz) (hpos : 0 < sz)
    (hx : eev E x = some (.int .i64 n)) (hy : eev E y = some (.int .i64 cap)) (h1 : n ≤ cap) (h2 : bytes * cap ≤ 281474976710656) (h3 : cap ≤ 9223372036854775807)
    (k : ∀ b, next (.slice (some ⟨b, 0, Option.none⟩) n cap) M ((b, .cells (zrow zz cap)) :: H)) : Dyn P c ⟨d, .makeSlice t x y, ty, pos, aft, g⟩ E M H next := by
  intro a w hav hst K Q hK
  have e1 := avail_ev hav (x := x) (by simp [Op.operands]) hx
  have e2 := avail_ev hav (x := y) (by simp [Op.operands]) hy
  obtain ⟨i, hi, hib⟩ := hb.bytes
  have w1 : IntKind.i64.wrap (n : Int) = n := IntWalk.i64_in _ (by omega)
  have w2 : IntKind.i64.wrap (cap : Int) = cap := IntWalk.i64_in _ (by omega)
  have hbig : ¬ (281474976710656 < (i.bytes : Int) * (cap : Int)) := by
    have : ((bytes * cap : Nat) : Int) ≤ ((281474976710656 : Nat) : Int) := Int.ofNat_le.2 h2
    rw [hib]
    rw [Int.natCast_mul] at this
    omega
  have hneg : ¬ ((cap : Int) < 0) := by omega
  have hneg2 : ¬ ((n : Int) < 0) := by omega
  have hcn : ¬ (cap < n) := by omega
  have hcells : (Array.range (cap * sz)).map (fun j => zz.cells[j % zz.cells.size]!) = (zrow zz cap).toArray := by
    have hzc : zz.cells.size = sz := by rw [← hzs, ← vcl_cells]; simp
    apply Array.ext'
    apply List.ext_getElem?
    intro j
    simp only [Array.toList_map, Array.toList_range, List.getElem?_map]
    by_cases hj : j < cap * sz
    · rw [zrow_get hzs hj, List.getElem?_range hj]
      simp only [Option.map_some]
      have hm : j % sz < sz := Nat.mod_lt _ hpos
      have hlt : j % sz < zz.cells.size := by omega
      rw [hzc, ← vcl_cells, Array.getElem?_toList, Array.getElem?_eq_getElem hlt, getElem!_pos zz.cells (j % sz) hlt]
    · rw [List.getElem?_eq_none (by simp; omega), List.getElem?_eq_none (by rw [zrow_len hzs]; omega)]
      rfl
  have hr : (execOp a.eval ⟨d, .makeSlice t x y, ty, pos, aft, g⟩).run P w = .ok (.value (.slice (some ⟨w.heap.size, 0, Option.none⟩) n cap)) (w.alloc (.cells (zrow zz cap).toArray e)) := by
    by_cases h0 : cap * sz = 0
    · have hc0 : cap = 0 := by
        rcases Nat.mul_eq_zero.1 h0 with h | h
        · exact h
        · omega
      subst hc0
      have hn0 : n = 0 := by omega
      subst hn0
      have hz0 : zrow zz 0 = [] := rfl
      have w0 : IntKind.i64.wrap 0 = 0 := IntWalk.i64_in _ (by omega)
      simp [execOp, e1, e2, Instr.makeSlice, run_underlying ht.und, asInt, asIntOf, typeInfo, hi, he.sizeOf, newRow, hz0, w0, Array.range_zero']
    · simp only [execOp, e1, e2, Instr.makeSlice, Sem.run_bind, run_underlying ht.und, Result.andThen_ok]
      simp [asInt, asIntOf, typeInfo, hi, w1, w2, hbig, hneg, hneg2, hcn, he.sizeOf, h0, hz.zero, newRow, hcells]
  unfold Oper.wp
  rw [hr, Oper.upon_value]
  exact hK _ _ _ _ (hst.new_cells _ e) (k _)
/-! ### bytes and texts -/
def byteV (b : UInt8) : Value := .int .u8 b.toNat
theorem St.put {w0 M0 X M H w b x} (h : St w0 M0 X M H w) (hb : ∃ T fz, w.heap[b]? = some (.cells x T fz)) (hM : M b = Option.none) (hX : b ∈ X ∨ w0.heap.size ≤ b) (hn : b ∉ ids H) : St w0 M0 X (mput M b x.toList) H w := by
  refine ⟨h.os, h.tape, h.output, h.size, h.keep, h.le.trans (mput_le hM), ?_, ?_, h.has, ?_, h.own, h.nodup⟩
  · intro k y hk
    unfold mput at hk
    split at hk
    · rename_i e; subst e
      injection hk with hk; subst hk
      simpa using hb
    · exact h.agr k y hk
  · intro k y hk
    unfold mput at hk
    split at hk
    · rename_i e; subst e; exact .inr hX
    · exact h.fresh k y hk
  · intro k hk
    unfold mput
    split
    · rename_i e; subst e; exact absurd hk hn
    · exact h.apart k hk
theorem Dyn.toBytes {s1 s2 t e x s} [hs : TyU P s1 .string] [ht : TyU P s2 (.slice e)] [he : TyU P e (.int .u8)] (hx : eev E x = some (.string s)) (ht' : t = s2)
    (k : ∀ p cap M', MLe M M' → Sl M' [] 1 p s.size (s.data.toList.map byteV) → s.size ≤ cap → next (.slice p s.size cap) M' H) : Dyn P c ⟨d, .convert s1 t x, ty, pos, aft, g⟩ E M H next := by
  subst ht'
  intro a w hav hst K Q hK
  have h1 := avail_ev hav (x := x) (by simp [Op.operands]) hx
  let cap := (Question.appendCap s.size 0 e).cut (w.tape w.drawn (.appendCap s.size 0 e))
  have hcap : s.size ≤ cap := grownCap_ge w s.size 0 e
  let cells : Array Value := s.data.map (fun b => Value.int .u8 b.toNat) ++ Array.replicate (cap - s.size) (.int .u8 0)
  let w1 : World := w.drew.alloc (.cells cells e)
  have hsh : w1.shape? w.heap.size = some (e, cells.size) := by
    have := heap_push_new w.drew (.cells cells e)
    simp only [World.shape?, w1]
    rw [show w.heap.size = w.drew.heap.size from rfl, this]
  have hr : (execOp a.eval ⟨d, .convert s1 t x, ty, pos, aft, g⟩).run P w = .ok (.value (.slice (some ⟨w.heap.size, 0, Option.none⟩) s.size cap)) (w1.freeze { block := w.heap.size, off := cells.size } 1) := by
    have hsh' : (w.drew.alloc (.cells cells e)).shape? w.heap.size = some (e, cells.size) := hsh
    simp only [execOp, h1, Go.convert, Sem.run_bind, run_underlying hs.und, run_underlying ht.und, run_underlying he.und, Result.andThen_ok, Conv.stringToBytes]
    simp only [run_choose, Question.forced, Bool.false_eq_true, if_false, Result.andThen_ok, newRow, Sem.run_bind, run_newObj, Sem.run_pure, markStringish, run_shape, World.drew_eq, World.alloc_eq]
    rw [show w.drew.heap.size = w.heap.size from rfl]
    rw [show (Array.map (fun b : UInt8 => Value.int IntKind.u8 (b.toNat : Int)) s.data ++ Array.replicate ((Question.appendCap s.size 0 e).cut (w.tape w.drawn (Question.appendCap s.size 0 e)) - s.size) (Value.int IntKind.u8 0)) = cells from rfl]
    rw [hsh']
    rfl
  unfold Oper.wp
  rw [hr, Oper.upon_value]
  have hfr : ∀ k, k ≠ w.heap.size → (w1.freeze { block := w.heap.size, off := cells.size } 1).heap[k]? = w1.heap[k]? := by
    intro k hk
    simp only [World.freeze, Nat.one_ne_zero, if_false, Array.getElem?_modify]
    rw [if_neg (fun e => hk e.symm)]
  have hnew : ∃ T fz, (w1.freeze { block := w.heap.size, off := cells.size } 1).heap[w.heap.size]? = some (.cells cells T fz) := by
    have := heap_push_new w.drew (.cells cells e)
    have h2 : w1.heap[w.heap.size]? = some (.cells cells e) := this
    simp only [World.freeze, Nat.one_ne_zero, if_false, Array.getElem?_modify, if_true, h2, Option.map_some]
    exact ⟨e, _, rfl⟩
  have hst1 : St c.w0 c.M0 c.X M H (w1.freeze { block := w.heap.size, off := cells.size } 1) := by
    refine hst.grow rfl rfl rfl ?_ ?_
    · simp [World.freeze, w1]
    · intro k hk
      rw [hfr k (by omega)]
      exact heap_push_old w.drew _ k hk
  have hMn : M w.heap.size = Option.none := by
    cases hm : M w.heap.size with
    | none => rfl
    | some c => have := hst.agr.lt hm; omega
  have hidn : w.heap.size ∉ ids H := by
    intro hm
    obtain ⟨p, hp, he⟩ := List.mem_map.1 hm
    have := (hst.has p hp).lt
    omega
  have hst2 := hst1.put hnew hMn (.inr hst.size) hidn
  refine hK _ _ _ _ hst2 (k _ cap _ (mput_le hMn) ⟨?_, fun _ => ⟨w.heap.size, 0, cells.toList, rfl, Rd.m (by simp [mput]), ?_⟩⟩ hcap)
  · rw [List.length_map, Array.length_toList, Nat.mul_one]; rfl
  · have : cells.toList = s.data.toList.map byteV ++ (Array.replicate (cap - s.size) (Value.int .u8 0)).toList := by
      simp only [cells, Array.toList_append, Array.toList_map]; rfl
    rw [this]
    simp only [seg, List.drop_zero]
    exact takeN_append (by rw [List.length_map, Array.length_toList, Nat.mul_one]; rfl)
theorem Sure.toStr {s1 s2 e x p cap} {bs : List UInt8} [hs : TyU P s1 (.slice e)] [he : TyU P e (.int .u8)] [hd : TyU P s2 .string] (hx : eev E x = some (.slice p bs.length cap)) (hsl : Sl M H 1 p bs.length (bs.map byteV)) :
    Sure P ⟨d, .convert s1 s2 x, ty, pos, aft, g⟩ E M H (.string ⟨bs.toArray⟩) := by
  intro a w hav ha hh
  have h1 := avail_ev hav (x := x) (by simp [Op.operands]) hx
  have hr : (convert s1 s2 (.slice p bs.length cap)).run P w = .ok (.string ⟨bs.toArray⟩) w := by
    by_cases h0 : 0 < bs.length
    · obtain ⟨b, o, c, rfl, h2, h3⟩ := hsl.2 h0
      refine run_convert_bytes_back w s1 s2 e ⟨b, o, Option.none⟩ cap bs hs.und he.und hd.und fun j hj => ?_
      rw [addr_add]
      exact h2.cell ha hh (seg_one h3 (by simp [hj, byteV]))
    · have hb : bs = [] := List.eq_nil_of_length_eq_zero (by omega)
      subst hb
      cases p with
      | none => rw [run_convert_bytes_nil w s1 e hs.und he.und _ _ s2 hd.und]; rfl
      | some q => exact run_convert_bytes_back w s1 s2 e q cap [] hs.und he.und hd.und (fun j hj => by simp at hj)
  simp only [execOp, h1, Sem.run_bind, hr, Result.andThen_ok, Sem.run_pure]
theorem zrow_one {z : Value} (h : vcl z = [z]) (n : Nat) : zrow z n = List.replicate n z := by
  unfold zrow
  rw [h]
  induction n with
  | zero => rfl
  | succ n ih => rw [List.range_succ_eq_map, List.map_cons, List.flatten_cons, List.replicate_succ]; simp [Function.comp_def] at ih ⊢; exact ih
/-- 'append(nil, make([]T, n)...)', one cell to an element, n above 0. -/
theorem Dyn.appendMake {t t2 e bytes agg zz x y} {n : Nat} [ht : TyU P t (.slice e)] [ht2 : TyU P t2 (.int .i64)]
    [he : TyI P e agg 1] [hz : TyZ P e zz] [hb : TyB P e bytes] (hzs : vcl zz = [zz])
    (hx : eev E x = some (.slice Option.none 0 0)) (hy : eev E y = some (.int .i64 n)) (hn : 0 < n)
    (hbytes : n * bytes ≤ 140737488355328) (h63 : n ≤ 9223372036854775807)
    (k : ∀ b cap, n ≤ cap → next (.slice (some ⟨b, 0, Option.none⟩) n cap) M ((b, .cells (List.replicate cap zz)) :: H)) :
    Dyn P c ⟨d, .call { callee := .builtin .append, args := #[x, y], argTypes := #[t, t2] }, ty, pos, aft, g⟩ E M H next := by
  intro a w hav hst K Q hK
  have h2 := avail_ev hav (x := x) (by simp [Op.operands, Call.operands]) hx
  have h3 := avail_ev hav (x := y) (by simp [Op.operands, Call.operands]) hy
  obtain ⟨i, hi, hib⟩ := hb.bytes
  have hinfo : ∀ w, (typeInfo e).run P w = .ok i w := fun w => by simp [typeInfo, hi]
  have hzc : zz.cells = #[zz] := by
    apply Array.ext'; rw [vcl_cells, hzs]
  have w1 : IntKind.i64.wrap (n : Int) = n := IntWalk.i64_in _ (by omega)
  have hneg : ¬ ((n : Int) < 0) := by omega
  have hbig : ¬ (281474976710656 < (n : Int) * (i.bytes : Int)) := by
    have : ((n * bytes : Nat) : Int) ≤ ((140737488355328 : Nat) : Int) := Int.ofNat_le.2 hbytes
    rw [hib, ← Int.natCast_mul]
    omega
  have h63' : ¬ (9223372036854775807 < (n : Int)) := by omega
  have hfit : ¬ (281474976710656 < Builtin.nextslicecap n 0 * i.bytes) := by rw [nextslicecap_zero hn, hib]; omega
  have hn0 : n ≠ 0 := by omega
  have hge : n ≤ grownCap w n 0 e := grownCap_ge w _ _ _
  have hst2 := hst.drew
  have hz1 : ∀ m, Builtin.zeroCells #[zz] m = (List.replicate m zz).toArray := by
    intro m
    apply Array.ext'
    apply List.ext_getElem?
    intro j
    simp only [Builtin.zeroCells, Array.toList_map, Array.toList_range, List.getElem?_map, Array.size, List.length_cons, List.length_nil]
    by_cases hj : j < m
    · rw [List.getElem?_range (by omega), List.getElem?_replicate, if_pos hj]
      simp [Nat.mod_one]
    · rw [List.getElem?_eq_none (by simp; omega), List.getElem?_eq_none (by simp; omega)]; rfl
  have hr : (execOp a.eval ⟨d, .call { callee := .builtin .append, args := #[x, y], argTypes := #[t, t2] }, ty, pos, aft, g⟩).run P w =
      .ok (.value (.slice (some ⟨w.heap.size, 0, Option.none⟩) n (grownCap w n 0 e))) (w.drew.alloc (.cells (List.replicate (grownCap w n 0 e) zz).toArray e)) := by
    simp [execOp, resolve, invoke, builtin, h2, h3, Builtin.append_, run_underlying ht.und, run_underlying ht2.und, he.sizeOf, asInt, asIntOf, w1, hneg, hinfo, hbig, h63', hfit, hn0, Question.forced, Builtin.firstCells, hz.zero, hzc, hz1, newRow, grownCap]
    have hc : n + ((Question.appendCap n 0 e).cut (w.tape w.drawn (Question.appendCap n 0 e)) - n) = (Question.appendCap n 0 e).cut (w.tape w.drawn (Question.appendCap n 0 e)) := by
      have : n ≤ (Question.appendCap n 0 e).cut (w.tape w.drawn (Question.appendCap n 0 e)) := hge
      omega
    rw [hc]
  unfold Oper.wp
  rw [hr, Oper.upon_value]
  exact hK _ _ _ _ (hst2.new_cells _ e) (k _ _ hge)
end
theorem GD.donateOwn {c : Cx} {ops K D E M H Hr sz v n xs Hs R} (ho : Own sz v n xs Hs) (hp : PickL Hs H R) (hi : Incl Hr R)
    (h : ∀ M' p cap, MLe M M' → v = .slice p n cap → Sl M' [] sz p n xs → GD P c ops K D E M' R Hr) : GD P c ops K D E M H Hr := by
  obtain ⟨h1, h2⟩ := ho
  rcases h2 with ⟨rfl, rfl, rfl⟩ | ⟨b, cap, junk, rfl, h3, rfl, h4⟩
  · intro Q hQ hac S l a w hsch hinv
    refine h M Option.none 0 (MLe.refl M) rfl ⟨h1, fun hn => absurd hn (by omega)⟩ Q hQ hac S l a w hsch ⟨hinv.sub, hinv.pend, hinv.dyn, hinv.size, hinv.defers, hinv.get, by simpa using hinv.st.perm hp.perm, hi⟩
  · intro Q hQ hac S l a w hsch hinv
    refine GD.mem (b := b) (x := xs ++ junk) hi (fun M' hle hb => h M' _ _ hle rfl ⟨h1, fun _ => ⟨b, 0, _, rfl, Rd.m hb, by simpa [seg] using takeN_append h1⟩⟩) Q hQ hac S l a w hsch
      ⟨hinv.sub, hinv.pend, hinv.dyn, hinv.size, hinv.defers, hinv.get, by simpa using hinv.st.perm hp.perm, fun p hp' => List.mem_cons_of_mem _ (hi p hp')⟩
end Go.Proofs.YtaeeahcokiebdaaGreat

/-
  A map whose keys are arrays of one int, and whose values are ints: counts.
  Conditions: none; everything here is proved over any program.
-/
namespace Go.Proofs.YtaeeahcokiebdaaGreat
variable {P : Program}

/-- Counts, in the order in which their keys came. -/
abbrev Cnt := List (Int × Int)
def keyV (k : Int) : Value := .agg #[.int .i64 k]
def cntE (l : Cnt) : List MapEntry := l.zipIdx.map fun p => { key := keyV p.1.1, val := .int .i64 p.1.2, born := p.2 }
def cntB (l : Cnt) : HB := .raw (.map (cntE l).toArray l.length)
def cntGet (l : Cnt) (k : Int) : Int := ((l.find? fun p => p.1 == k).map (·.2)).getD 0
def cntPut (l : Cnt) (k v : Int) : Cnt := match l.findIdx? fun p => p.1 == k with
  | some i => l.modify i fun p => (p.1, v)
  | Option.none => l ++ [(k, v)]
structure CntTy (P : Program) (t : TypeId) : Prop where
  ty : ∃ kt et ie, P.underlying t = some (.map kt et) ∧ P.underlying kt = some (.array 1 ie) ∧ P.underlying ie = some (.int .i64) ∧ (∀ w, (isAgg ie).run P w = .ok false w) ∧ (∀ w, (sizeOf ie).run P w = .ok 1 w) ∧ ∀ w, (zeroValue et).run P w = .ok (.int .i64 0) w
theorem run_part_int {ie : TypeId} {k : Int} {w : World} (ha : ∀ w, (isAgg ie).run P w = .ok false w) : (part ie #[.int .i64 k] 0).run P w = .ok (.int .i64 k) w := by
  simp [part, ha]
theorem run_equal_key {kt ie : TypeId} (hk : P.underlying kt = some (.array 1 ie)) (hi : P.underlying ie = some (.int .i64)) (ha : ∀ w, (isAgg ie).run P w = .ok false w) (hs : ∀ w, (sizeOf ie).run P w = .ok 1 w) (a b : Int) (w : World) :
    (Op.equal kt (keyV a) (keyV b)).run P w = .ok (a == b) w := by
  show (Op.equalIn (9998 + 1 + 1) kt (keyV a) (keyV b)).run P w = _
  have h1 : ∀ w, (Op.equalIn (9998 + 1) ie (.int .i64 a) (.int .i64 b)).run P w = .ok (a == b) w := by
    intro w
    unfold Op.equalIn
    simp [run_underlying hi]
  unfold Op.equalIn keyV
  simp only [Sem.run_bind, run_underlying hk, Result.andThen_ok, hs]
  simp only [Std.Legacy.Range.forIn_eq_forIn_range', Std.Legacy.Range.size, Nat.sub_zero, Nat.add_sub_cancel, Nat.div_one, List.range'_succ, List.range'_zero, List.forIn_cons, List.forIn_nil, Nat.zero_mul, Sem.run_bind, run_part_int ha, Result.andThen_ok]
  have h2 : (Op.equalIn 9999 ie (.int .i64 a) (.int .i64 b)).run P w = .ok (a == b) w := h1 w
  rw [h2]
  cases hab : (a == b) <;> simp
theorem run_checkKey_key {kt ie : TypeId} (hk : P.underlying kt = some (.array 1 ie)) (hi : P.underlying ie = some (.int .i64)) (ha : ∀ w, (isAgg ie).run P w = .ok false w) (hs : ∀ w, (sizeOf ie).run P w = .ok 1 w) (em : Bool) (a : Int) (w : World) :
    (Instr.checkKey em 10000 kt (keyV a)).run P w = .ok () w := by
  show (Instr.checkKey em (9998 + 1 + 1) kt (keyV a)).run P w = _
  have h1 : ∀ w, (Instr.checkKey em (9998 + 1) ie (.int .i64 a)).run P w = .ok () w := by
    intro w
    unfold Instr.checkKey
    simp [run_underlying hi]
  unfold Instr.checkKey keyV
  simp only [Sem.run_bind, run_underlying hk, Result.andThen_ok]
  simp only [Std.Legacy.Range.forIn_eq_forIn_range', Std.Legacy.Range.size, Nat.sub_zero, Nat.add_sub_cancel, Nat.div_one, List.range'_succ, List.range'_zero, List.forIn_cons, List.forIn_nil, Nat.zero_mul, Sem.run_bind, run_part_int ha, hs, Result.andThen_ok]
  have h2 : (Instr.checkKey em 9999 ie (.int .i64 a)).run P w = .ok () w := h1 w
  rw [h2]
  simp
theorem run_findAsking_cnt {kt ie : TypeId} (hk : P.underlying kt = some (.array 1 ie)) (hi : P.underlying ie = some (.int .i64)) (ha : ∀ w, (isAgg ie).run P w = .ok false w) (hs : ∀ w, (sizeOf ie).run P w = .ok 1 w) (k : Int) (w : World) :
    ∀ (l : Cnt) (i j : Nat), (Instr.findAsking kt (keyV k) ((l.zipIdx j).map fun p => ({ key := keyV p.1.1, val := .int .i64 p.1.2, born := p.2 } : MapEntry)) i).run P w = .ok ((l.findIdx? fun p => p.1 == k).bind fun m => (l[m]?).map fun p => (i + m, Value.int .i64 p.2)) w
  | [], i, j => by simp [Instr.findAsking]
  | (a, v) :: l, i, j => by
    simp only [List.zipIdx_cons, List.map_cons, Instr.findAsking, Sem.run_bind, run_equal_key hk hi ha hs, Result.andThen_ok]
    by_cases h : k = a
    · subst h
      simp [List.findIdx?_cons]
    · have h1 : (k == a) = false := by simpa using h
      have h2 : (a == k) = false := by simpa using fun e => h e.symm
      rw [h1]
      simp only [Bool.false_eq_true, if_false]
      rw [run_findAsking_cnt hk hi ha hs k w l (i + 1) (j + 1)]
      rw [List.findIdx?_cons]
      simp only [h2, Bool.false_eq_true, if_false]
      cases hf : l.findIdx? fun p => p.1 == k with
      | none => simp
      | some m => simp [Nat.add_assoc, Nat.add_comm 1 m]
theorem findNow_arr {n ie : Nat} {k : Value} : ∀ (l : List MapEntry) (i : Nat), l ≠ [] → Instr.findNow (.array n ie) k l i = Option.none
  | [], _, h => absurd rfl h
  | e :: l, i, _ => by simp [Instr.findNow, Instr.sameNow]
theorem run_findKey_cnt {kt ie : TypeId} (hk : P.underlying kt = some (.array 1 ie)) (hi : P.underlying ie = some (.int .i64)) (ha : ∀ w, (isAgg ie).run P w = .ok false w) (hs : ∀ w, (sizeOf ie).run P w = .ok 1 w) (k : Int) (w : World) (l : Cnt) :
    (Instr.findKey kt (keyV k) (cntE l)).run P w = .ok ((l.findIdx? fun p => p.1 == k).bind fun m => (l[m]?).map fun p => (m, Value.int .i64 p.2)) w := by
  unfold Instr.findKey
  simp only [Sem.run_bind, run_underlying hk, Result.andThen_ok]
  cases l with
  | nil => simp [cntE, Instr.findNow]
  | cons p l =>
    rw [findNow_arr _ _ (by simp [cntE])]
    simp only
    have := run_findAsking_cnt hk hi ha hs k w (p :: l) 0 0
    simpa [cntE] using this
theorem cntGet_find (l : Cnt) (k : Int) : (match (l.findIdx? fun p => p.1 == k).bind fun m => (l[m]?).map fun p => (m, Value.int .i64 p.2) with
    | some (_, v) => v
    | Option.none => Value.int .i64 0) = .int .i64 (cntGet l k) := by
  unfold cntGet
  induction l with
  | nil => simp
  | cons p l ih =>
    by_cases h : p.1 == k
    · simp [List.findIdx?_cons, h]
    · simp only [List.findIdx?_cons, List.find?_cons, h, if_false, Bool.false_eq_true]
      cases hf : l.findIdx? fun p => p.1 == k with
      | none => rw [hf] at ih; simpa using ih
      | some m =>
        rw [hf] at ih
        simp only [Option.map_some, Option.bind_some, List.getElem?_cons_succ] at ih ⊢
        cases hm : l[m]? with
        | none => rw [hm] at ih; simpa using ih
        | some q => rw [hm] at ih; simpa using ih
section
variable {c : Cx} {E : Env} {M : Mem} {H : Heap} {d : Option Tmp} {ty : TypeId} {pos : String} {aft : Array Edge} {g : Option (Nat × Bool)} {next : Value → Mem → Heap → Prop}
theorem St.raw {w0 M0 X M H R w b o o'} (h : St w0 M0 X M H w) (hp : Pick (b, .raw o) H R) : St w0 M0 X M ((b, .raw o') :: R) { w with heap := w.heap.setIfInBounds b o' } := by
  have h2 := h.perm hp.perm
  have hn := h2.nodup
  simp only [ids, List.map_cons, List.nodup_cons] at hn
  have hMb : M b = Option.none := h2.apart b (by simp [ids])
  have hob := h2.own b (by simp [ids])
  have hlt : b < w.heap.size := (h2.has (b, .raw o) (by simp)).lt
  have kp : ∀ k, k ≠ b → (w.heap.setIfInBounds b o')[k]? = w.heap[k]? := fun k hk => by
    rw [Array.getElem?_setIfInBounds, if_neg (fun e => hk e.symm)]
  refine ⟨h2.os, h2.tape, h2.output, by simpa using h2.size, ?_, h2.le, ?_, h2.fresh, ?_, fun k hk => h2.apart k (by simpa [ids] using hk), fun k hk => h2.own k (by simpa [ids] using hk), List.nodup_cons.2 hn⟩
  · intro k hk hxk
    show (w.heap.setIfInBounds b o')[k]? = _
    rw [kp k (fun e => by subst e; rcases hob with h1 | h1; exact hxk h1; omega)]
    exact h2.keep k hk hxk
  · intro k x hk
    obtain ⟨T, fz, h1⟩ := h2.agr k x hk
    exact ⟨T, fz, by show (w.heap.setIfInBounds b o')[k]? = _; rw [kp k (fun e => by subst e; rw [hMb] at hk; cases hk)]; exact h1⟩
  · intro p hpm
    rcases List.mem_cons.1 hpm with rfl | hpm
    · show (w.heap.setIfInBounds b o')[b]? = some o'
      simp [hlt]
    · exact (h2.has p (by simp [hpm])).of_eq (kp p.1 (fun e => hn.1 (by rw [← e]; exact List.mem_map.2 ⟨p, hpm, rfl⟩)))
theorem Dyn.makeMap {t} (k : ∀ b, next (.map (some b)) M ((b, cntB []) :: H)) : Dyn P c ⟨d, .makeMap t Option.none, ty, pos, aft, g⟩ E M H next := by
  intro a w hav hst K Q hK
  unfold Oper.wp
  have hr : (execOp a.eval ⟨d, .makeMap t Option.none, ty, pos, aft, g⟩).run P w = .ok (.value (.map (some w.heap.size))) (w.alloc (.map #[] 0)) := by
    simp [execOp, Instr.makeMap]
  rw [hr, Oper.upon_value]
  exact hK _ _ _ _ (hst.new (x := cntB []) rfl rfl rfl (by simp) (fun k hk => heap_push_old w _ k hk) (show (w.alloc (.map #[] 0)).heap[w.heap.size]? = some (.map #[] 0) from heap_push_new w _)) (k _)
theorem Dyn.lookupCnt {t x y b l key R} (ht : CntTy P t) (hx : eev E x = some (.map (some b))) (hy : eev E y = some (keyV key)) (hp : Pick (b, cntB l) H R)
    (k : next (.int .i64 (cntGet l key)) M H) : Dyn P c ⟨d, .lookup t x y false, ty, pos, aft, g⟩ E M H next := by
  intro a w hav hst K Q hK
  have h1 := avail_ev hav (x := x) (by simp [Op.operands]) hx
  have h2 := avail_ev hav (x := y) (by simp [Op.operands]) hy
  obtain ⟨kt, et, ie, t1, t2, t3, t4, t5, t6⟩ := ht.ty
  have hb : w.heap[b]? = some (.map (cntE l).toArray l.length) := (hst.perm hp.perm).has (b, cntB l) (by simp)
  have hg : ∀ (f : Obj → Sem Value), ((getObj b) >>= f).run P w = (f (.map (cntE l).toArray l.length)).run P w := by
    intro f
    show (Sem.bind (getObj b) f).run P w = _
    simp only [getObj, Sem.bind, Sem.run, hb]
  have hr : (execOp a.eval ⟨d, .lookup t x y false, ty, pos, aft, g⟩).run P w = .ok (.value (.int .i64 (cntGet l key))) w := by
    have hgo : (getObj b).run P w = .ok (.map (cntE l).toArray l.length) w := by simp only [getObj, Sem.run, hb]
    have hf := run_findKey_cnt t2 t3 t4 t5 key w l
    have hget := cntGet_find l key
    simp only [execOp, h1, h2, Instr.lookup, Sem.run_bind, run_underlying t1, Result.andThen_ok, hgo, Sem.run_pure, run_checkKey_key t2 t3 t4 t5, hf]
    cases hm : (l.findIdx? fun p => p.1 == key).bind fun m => (l[m]?).map fun p => (m, Value.int .i64 p.2) with
    | none => rw [hm] at hget; simp [t6, hget]
    | some q => rw [hm] at hget; simp at hget; simp [hget]
  unfold Oper.wp
  rw [hr, Oper.upon_value]
  exact hK _ _ _ _ hst k
theorem cntE_get (l : Cnt) (i : Nat) : (cntE l)[i]? = (l[i]?).map fun p => { key := keyV p.1, val := .int .i64 p.2, born := i } := by
  unfold cntE
  simp only [List.getElem?_map, List.getElem?_zipIdx, Nat.zero_add]
  cases l[i]? <;> rfl
theorem cntE_len (l : Cnt) : (cntE l).length = l.length := by simp [cntE]
theorem cntE_modify (l : Cnt) (i : Nat) (f : Int × Int → Int × Int) (h : MapEntry → MapEntry) (hf : ∀ p j, h { key := keyV p.1, val := .int .i64 p.2, born := j } = { key := keyV (f p).1, val := .int .i64 (f p).2, born := j }) :
    (cntE l).modify i h = cntE (l.modify i f) := by
  apply List.ext_getElem?
  intro j
  rw [List.getElem?_modify, cntE_get, cntE_get, List.getElem?_modify]
  cases l[j]? with
  | none => rfl
  | some p =>
    simp only [Option.map_some]
    by_cases hij : i = j
    · simp [hij, hf]
    · simp [hij]
theorem cntE_push (l : Cnt) (k v : Int) : (cntE l).toArray.push { key := keyV k, val := .int .i64 v, born := l.length } = (cntE (l ++ [(k, v)])).toArray := by
  simp [cntE, List.zipIdx_append]
theorem cntE_find (l : Cnt) (i : Nat) (h : i < l.length) : (cntE l).toArray.findIdx? (fun e => (e.born : Int) == (i : Int)) = some i := by
  rw [List.findIdx?_toArray, List.findIdx?_eq_some_iff_getElem]
  have hb : ∀ (j : Nat) (hj : j < (cntE l).length), ((cntE l)[j]).born = j := by
    intro j hj
    have h1 := cntE_get l j
    rw [List.getElem?_eq_getElem hj, List.getElem?_eq_getElem (by rwa [cntE_len] at hj)] at h1
    simp at h1
    rw [h1]
  refine ⟨by rw [cntE_len]; exact h, by rw [hb]; simp, fun j hj => ?_⟩
  rw [hb]
  simp
  omega
def cntIdx (l : Cnt) (k : Int) : Nat := (l.findIdx? fun p => p.1 == k).getD l.length
def cntTouch (l : Cnt) (k : Int) : Cnt := match l.findIdx? fun p => p.1 == k with
  | some _ => l
  | Option.none => l ++ [(k, 0)]
theorem modify_self {α : Type} (l : List α) (i : Nat) (f : α → α) (h : ∀ x, l[i]? = some x → f x = x) : l.modify i f = l := by
  apply List.ext_getElem?
  intro j
  rw [List.getElem?_modify]
  by_cases hij : i = j
  · subst hij
    cases hx : l[i]? with
    | none => rfl
    | some x => simp [h x hx]
  · simp [hij]
theorem Dyn.mapEntryCnt {t x y b l key R} (ht : CntTy P t) (hx : eev E x = some (.map (some b))) (hy : eev E y = some (keyV key)) (hp : Pick (b, cntB l) H R)
    (k : next (.tuple #[.int .i64 (cntGet l key), .int .i64 (cntIdx l key)]) M ((b, cntB (cntTouch l key)) :: R)) : Dyn P c ⟨d, .mapEntry t x y, ty, pos, aft, g⟩ E M H next := by
  intro a w hav hst K Q hK
  have h1 := avail_ev hav (x := x) (by simp [Op.operands]) hx
  have h2 := avail_ev hav (x := y) (by simp [Op.operands]) hy
  obtain ⟨kt, et, ie, t1, t2, t3, t4, t5, t6⟩ := ht.ty
  have hb : w.heap[b]? = some (.map (cntE l).toArray l.length) := (hst.perm hp.perm).has (b, cntB l) (by simp)
  have hgo : (getObj b).run P w = .ok (.map (cntE l).toArray l.length) w := by simp only [getObj, Sem.run, hb]
  have hset : ∀ o, (setObj b o).run P w = .ok () { w with heap := w.heap.setIfInBounds b o } := fun o => by simp only [setObj, Sem.run, hb]
  have hf := run_findKey_cnt t2 t3 t4 t5 key w l
  have hget := cntGet_find l key
  have hr : (execOp a.eval ⟨d, .mapEntry t x y, ty, pos, aft, g⟩).run P w = .ok (.value (.tuple #[.int .i64 (cntGet l key), .int .i64 (cntIdx l key)])) { w with heap := w.heap.setIfInBounds b (.map (cntE (cntTouch l key)).toArray (cntTouch l key).length) } := by
    simp only [execOp, h1, h2, Instr.mapEntry, Sem.run_bind, run_underlying t1, Result.andThen_ok, hgo, run_checkKey_key t2 t3 t4 t5, hf]
    unfold cntIdx cntTouch
    cases hm : l.findIdx? fun p => p.1 == key with
    | none =>
      rw [hm] at hget
      simp only [Option.bind_none] at hget ⊢
      have hg0 : cntGet l key = 0 := by injection hget with _ hget; exact hget.symm
      simp only [Sem.run_bind, t6, Result.andThen_ok, hset, Sem.run_pure, goInt, cntE_push, hg0, Option.getD_none]
      simp
    | some i =>
      rw [hm] at hget
      obtain ⟨hlt, hkey, _⟩ := List.findIdx?_eq_some_iff_getElem.1 hm
      have hli : l[i]? = some l[i] := List.getElem?_eq_getElem hlt
      simp only [Option.bind_some, hli, Option.map_some] at hget
      simp only [Option.bind_some, hli, Option.map_some]
      have hk1 : l[i].1 = key := by simpa using hkey
      have hes : (cntE l).toArray[i]? = some { key := keyV key, val := .int .i64 l[i].2, born := i } := by
        rw [List.getElem?_toArray, cntE_get, hli]; simp [hk1]
      have hsb : Instr.sameBits 10000 (keyV key) (keyV key) = true := by
        show Instr.sameBits (9999 + 1) (.agg #[.int .i64 key]) (.agg #[.int .i64 key]) = true
        simp [Instr.sameBits]
      have hstay : (Instr.keyThatStays (keyV key) (keyV key)).run P w = .ok (keyV key) w := by
        unfold Instr.keyThatStays; rw [hsb]; rfl
      have hmod : (cntE l).toArray.modify i (fun e => { e with key := keyV key }) = (cntE l).toArray := by
        apply Array.ext'
        rw [Array.toList_modify]
        refine modify_self _ _ _ fun x hx => ?_
        rw [← List.getElem?_toArray, hes] at hx
        injection hx with hx
        rw [← hx]
      simp only [hes, Option.map_some, Option.getD_some, Sem.run_bind, hstay, Result.andThen_ok, hmod, hset, Sem.run_pure, goInt]
      rw [hget]
  unfold Oper.wp
  rw [hr, Oper.upon_value]
  exact hK _ _ _ _ (hst.raw hp) k
theorem Dyn.entryStoreCnt {t x y z b l key v R} (hx : eev E x = some (.map (some b))) (hy : eev E y = some (.int .i64 (cntIdx l key))) (hz : eev E z = some (.int .i64 v)) (hp : Pick (b, cntB (cntTouch l key)) H R)
    (k : next undef M ((b, cntB (cntPut l key v)) :: R)) : Dyn P c ⟨d, .entryStore t x y z, ty, pos, aft, g⟩ E M H next := by
  intro a w hav hst K Q hK
  have h1 := avail_ev hav (x := x) (by simp [Op.operands]) hx
  have h2 := avail_ev hav (x := y) (by simp [Op.operands]) hy
  have h3 := avail_ev hav (x := z) (by simp [Op.operands]) hz
  have hb : w.heap[b]? = some (.map (cntE (cntTouch l key)).toArray (cntTouch l key).length) := (hst.perm hp.perm).has (b, cntB (cntTouch l key)) (by simp)
  have hgo : (getObj b).run P w = .ok (.map (cntE (cntTouch l key)).toArray (cntTouch l key).length) w := by simp only [getObj, Sem.run, hb]
  have hset : ∀ o, (setObj b o).run P w = .ok () { w with heap := w.heap.setIfInBounds b o } := fun o => by simp only [setObj, Sem.run, hb]
  have hlt : cntIdx l key < (cntTouch l key).length := by
    unfold cntIdx cntTouch
    cases hm : l.findIdx? fun p => p.1 == key with
    | none => simp
    | some i => obtain ⟨hlt, _⟩ := List.findIdx?_eq_some_iff_getElem.1 hm; simpa using hlt
  have hput : (cntTouch l key).modify (cntIdx l key) (fun p => (p.1, v)) = cntPut l key v := by
    unfold cntIdx cntTouch cntPut
    cases hm : l.findIdx? fun p => p.1 == key with
    | none =>
      simp only [Option.getD_none]
      apply List.ext_getElem?
      intro j
      rw [List.getElem?_modify]
      by_cases hj : j < l.length
      · rw [List.getElem?_append_left hj, List.getElem?_append_left hj]
        simp [show ¬ l.length = j by omega]
      · rw [List.getElem?_append_right (by omega), List.getElem?_append_right (by omega)]
        by_cases hj2 : j = l.length
        · subst hj2; simp
        · rw [List.getElem?_eq_none (by simp; omega), List.getElem?_eq_none (by simp; omega)]; rfl
    | some i => rfl
  have hr : (execOp a.eval ⟨d, .entryStore t x y z, ty, pos, aft, g⟩).run P w = .ok .skip { w with heap := w.heap.setIfInBounds b (.map (cntE (cntPut l key v)).toArray (cntPut l key v).length) } := by
    have hlen : (cntPut l key v).length = (cntTouch l key).length := by rw [← hput]; simp
    have hmod : (cntE (cntTouch l key)).toArray.modify (cntIdx l key) (fun e => { e with val := .int .i64 v }) = (cntE (cntPut l key v)).toArray := by
      apply Array.ext'
      rw [Array.toList_modify, ← hput]
      exact cntE_modify _ _ (fun p => (p.1, v)) _ (fun p j => rfl)
    simp only [execOp, h1, h2, h3, Instr.entryStore, Sem.run_bind, hgo, Result.andThen_ok, asInt, asIntOf, Sem.run_pure, cntE_find _ _ hlt, hmod, hset, hlen]
  unfold Oper.wp
  rw [hr, Oper.upon_skip]
  exact hK _ _ _ _ (hst.raw hp) k
end
end Go.Proofs.YtaeeahcokiebdaaGreat
