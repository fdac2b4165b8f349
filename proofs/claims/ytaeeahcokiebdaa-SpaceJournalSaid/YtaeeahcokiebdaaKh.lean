/-
  The rules for regions whose order is drawn, as a walk uses them.
  Conditions: none; everything here is proved over any program that follows the mixed orders.
-/
import Derived.Test.YtaeeahcokiebdaaKg
namespace Go.Proofs.Ytaeeahcokiebdaa
variable {P : Program}
open Region (binds)

theorem C.draw {c id} {l : List Oper} {Q E M H} (Hr : Heap) (hmix : P.follows .mixedOrders = true) (hac : acyc l.toArray = true) (hi : Incl Hr H)
    (h : GD P c l.toArray (fun E M H => Fin Q .normal E M H) [] E M H Hr) : C P c (.region id l.toArray true) Q E M H := by
  intro a w hm hst
  refine wp_region_draw fun t => ?_
  rw [hmix]
  simp only [Region.schedule, Bool.true_or, if_true]
  refine h (c.lift Q) (fun _ _ E M H hm hst hk => ⟨E, M, H, hm, hst, hk⟩) hac [] _ a _ (sched_linearise _ t) ?_
  exact ⟨fun i hi => (by cases hi), fun i v hi => (by cases hi), fun i hi => (by cases hi), hm.size, hm.defers, fun s u hu _ => hm.get s u hu, hst.drew, hi⟩
theorem C.draw_seq {c id} {l : List Oper} {y Q E M H} (Hr : Heap) (hmix : P.follows .mixedOrders = true) (hac : acyc l.toArray = true) (hi : Incl Hr H)
    (h : GD P c l.toArray (fun E M H => C P c y Q E M H) [] E M H Hr) : C P c (.seq (.region id l.toArray true) y) Q E M H :=
  C.seq (C.draw Hr hmix hac hi h)
theorem GD.val {c ops K D E M H Hr o d v} (j : Nat) (hj : opAt ops.toList j = some o) (hnD : natMem (fsts D) j = false) (hd : o.dst = some d) (hn : Nat.blt d c.n = true)
    (hok : okStatic ops D o = true) (hw : wantedE ops o E = some true) (hs : Sure P o E M Hr v) (h : GD P c ops K ((j, some v) :: D) ((d, v) :: E) M H Hr) : GD P c ops K D E M H Hr :=
  GD.static hj hnD hd hn hok (.inl ⟨hw, hs⟩) h
theorem GD.skip {c ops K D E M H Hr o d} (j : Nat) (hj : opAt ops.toList j = some o) (hnD : natMem (fsts D) j = false) (hd : o.dst = some d) (hn : Nat.blt d c.n = true)
    (hok : okStatic ops D o = true) (hw : wantedE ops o E = some false) (h : GD P c ops K ((j, some undef) :: D) ((d, undef) :: E) M H Hr) : GD P c ops K D E M H Hr :=
  GD.static hj hnD hd hn hok (.inr ⟨hw, rfl⟩) h
theorem Dyn.mono {c o E M H} {next next' : Value → Mem → Heap → Prop} (h : Dyn P c o E M H next) (k : ∀ v M' H', next v M' H' → next' v M' H') : Dyn P c o E M H next' :=
  fun a w hav hst K Q hK => h a w hav hst K Q fun v M' H' w' hst' hn => hK v M' H' w' hst' (k _ _ _ hn)
theorem Next.dyn {c ops K D E M H Hr o d} (k : Nat) (hj : opAt ops.toList k = some o) (hd : o.dst = some d) (hn : Nat.blt d c.n = true) (hok : okStep ops D o = true) (hro : readsOk ops D o = true)
    (hw : wantedE ops o E = some true) (h : Dyn P c o E M H (fun v M' H' => MLe M M' ∧ Incl Hr H' ∧ GD P c ops K ((k, Option.none) :: D) ((d, v) :: E) M' H' Hr)) : Next P c ops K D E M H Hr k :=
  ⟨o, hj, by rw [hd]; exact hn, hok, hro, hw, h.mono fun v M' H' ⟨h1, h2, h3⟩ => ⟨h1, Hr, .inl rfl, h2, by rw [hd]; exact h3⟩⟩
theorem Next.dyn0 {c ops K D E M H Hr o} (k : Nat) (hj : opAt ops.toList k = some o) (hd : o.dst = Option.none) (hok : okStep ops D o = true) (hro : readsOk ops D o = true)
    (hw : wantedE ops o E = some true) (h : Dyn P c o E M H (fun _ M' H' => MLe M M' ∧ Incl Hr H' ∧ GD P c ops K ((k, Option.none) :: D) E M' H' Hr)) : Next P c ops K D E M H Hr k :=
  ⟨o, hj, by rw [hd]; rfl, hok, hro, hw, h.mono fun v M' H' ⟨h1, h2, h3⟩ => ⟨h1, Hr, .inl rfl, h2, by rw [hd]; exact h3⟩⟩
theorem Next.dynW {c ops K D E M H Hr o d} (k : Nat) (hj : opAt ops.toList k = some o) (hd : o.dst = some d) (hn : Nat.blt d c.n = true) (hok : okStep ops D o = true) (hro : readsOk ops D o = true)
    (hw : wantedE ops o E = some true) (hall : allPred D o = true) (h : Dyn P c o E M H (fun v M' H' => MLe M M' ∧ ∃ Hr', Incl Hr' H' ∧ GD P c ops K ((k, Option.none) :: D) ((d, v) :: E) M' H' Hr')) : Next P c ops K D E M H Hr k :=
  ⟨o, hj, by rw [hd]; exact hn, hok, hro, hw, h.mono fun v M' H' ⟨h1, Hr', h2, h3⟩ => ⟨h1, Hr', .inr (.inl hall), h2, by rw [hd]; exact h3⟩⟩
theorem Next.dyn0W {c ops K D E M H Hr o} (k : Nat) (hj : opAt ops.toList k = some o) (hd : o.dst = Option.none) (hok : okStep ops D o = true) (hro : readsOk ops D o = true)
    (hw : wantedE ops o E = some true) (hall : allPred D o = true) (h : Dyn P c o E M H (fun _ M' H' => MLe M M' ∧ ∃ Hr', Incl Hr' H' ∧ GD P c ops K ((k, Option.none) :: D) E M' H' Hr')) : Next P c ops K D E M H Hr k :=
  ⟨o, hj, by rw [hd]; rfl, hok, hro, hw, h.mono fun v M' H' ⟨h1, Hr', h2, h3⟩ => ⟨h1, Hr', .inr (.inl hall), h2, by rw [hd]; exact h3⟩⟩
theorem Next.dyn0P {c ops K D E M H Hr o} (k : Nat) (Hr' : Heap) (hj : opAt ops.toList k = some o) (hd : o.dst = Option.none) (hok : okStep ops D o = true) (hro : readsOk ops D o = true)
    (hw : wantedE ops o E = some true) (hall : PendAll P ops o E M Hr' D) (h : Dyn P c o E M H (fun _ M' H' => MLe M M' ∧ Incl Hr' H' ∧ GD P c ops K ((k, Option.none) :: D) E M' H' Hr')) : Next P c ops K D E M H Hr k :=
  ⟨o, hj, by rw [hd]; rfl, hok, hro, hw, h.mono fun v M' H' ⟨h1, h2, h3⟩ => ⟨h1, Hr', .inr (.inr hall), h2, by rw [hd]; exact h3⟩⟩
theorem GD.one {c ops K D E M H Hr} (k : Nat) (hdup : dups (fsts D) = false) (hlt : Nat.blt k ops.toList.length = true) (hnD : natMem (fsts D) k = false) (honly : onlyReady ops.toList (fsts D) [k] = true)
    (h : Next P c ops K D E M H Hr k) : GD P c ops K D E M H Hr :=
  GD.next [k] hdup ⟨k, by simp, blt_lt hlt, hnD⟩ honly (fun k' hk' => by simp at hk'; subst hk'; exact h)
theorem GD.two {c ops K D E M H Hr} (k k2 : Nat) (hdup : dups (fsts D) = false) (hlt : Nat.blt k ops.toList.length = true) (hnD : natMem (fsts D) k = false) (honly : onlyReady ops.toList (fsts D) [k, k2] = true)
    (h : Next P c ops K D E M H Hr k) (h2 : Next P c ops K D E M H Hr k2) : GD P c ops K D E M H Hr :=
  GD.next [k, k2] hdup ⟨k, by simp, blt_lt hlt, hnD⟩ honly (fun k' hk' => by simp at hk'; rcases hk' with rfl | rfl; exact h; exact h2)
/-- The owned blocks that are only read, fewer of them. -/
theorem Inv.fewer {c ops D E M H Hr Hr' S a w} (h : Inv P c ops D E M H Hr S a w) (hD : D = []) (hi : Incl Hr' H) : Inv P c ops D E M H Hr' S a w := by
  subst hD
  exact ⟨h.sub, fun i v hi => (by cases hi), h.dyn, h.size, h.defers, h.get, h.st, hi⟩
theorem eget_push {E : Env} {d v} (hx : eget E d = some v) (s : Nat) : eget ((d, v) :: E) s = eget E s := by
  simp only [eget]
  cases hb : Nat.beq d s with
  | true => rw [← Nat.eq_of_beq_eq_true hb]; simp [hx]
  | false => rfl
theorem GD.push {c ops K D E M H Hr d v} (hx : eget E d = some v) (h : GD P c ops K D ((d, v) :: E) M H Hr) : GD P c ops K D E M H Hr := by
  intro Q hQ hac S l a w hsch hinv
  refine h Q hQ hac S l a w hsch ⟨hinv.sub, ?_, hinv.dyn, hinv.size, hinv.defers, ?_, hinv.st, hinv.incl⟩
  · intro i u hi hn o ho
    obtain ⟨h1, h2, h3⟩ := hinv.pend i u hi hn o ho
    refine ⟨fun d' hd' => by rw [eget_push hx]; exact h1 d' hd', ?_, h3⟩
    rcases h2 with ⟨g1, g2⟩ | ⟨g1, g2⟩
    · exact .inl ⟨wantedE_env g1 fun j want d' _ _ => eget_push hx d', g2.env fun t _ u hu => by rw [eget_push hx]; exact hu⟩
    · exact .inr ⟨wantedE_env g1 fun j want d' _ _ => eget_push hx d', g2⟩
  · intro s u hs hf
    rw [eget_push hx] at hs
    exact hinv.get s u hs hf
theorem GD.splitB {c ops K D E M H Hr d b} (hx : eget E d = some (.bool b)) (ht : b = true → GD P c ops K D ((d, .bool true) :: E) M H Hr) (hf : b = false → GD P c ops K D ((d, .bool false) :: E) M H Hr) : GD P c ops K D E M H Hr := by
  cases b with
  | true => exact GD.push hx (ht rfl)
  | false => exact GD.push hx (hf rfl)
theorem GD.splitD {c ops K D E M H Hr d} {p : Prop} [Decidable p] (hx : eget E d = some (.bool (decide p))) (ht : p → GD P c ops K D ((d, .bool true) :: E) M H Hr) (hf : ¬ p → GD P c ops K D ((d, .bool false) :: E) M H Hr) : GD P c ops K D E M H Hr :=
  GD.splitB hx (fun h => ht (of_decide_eq_true h)) (fun h => hf (of_decide_eq_false h))
/-- A call, in a region whose order is drawn. -/
theorem Next.call {c ops K D E M H Hr o d x args tys f first capt vs Hin R post} (k : Nat) (hj : opAt ops.toList k = some o) (hd : o.dst = some d) (hn : Nat.blt d c.n = true) (hok : okStep ops D o = true) (hro : readsOk ops D o = true)
    (hw : wantedE ops o E = some true) (ho : o.op = .call { callee := .value x, args := args.toArray, argTypes := tys }) (hx : eev E x = some (.func (.func f) first capt))
    (ha : evs E args = some vs) (hs : Spec P f (first.toList ++ vs ++ capt.toList) M Hin post) (hp : Split Hin H R)
    (h : ∀ v M' H', MLe M M' → post v M' H' → Incl Hr (H' ++ R) ∧ GD P c ops K ((k, Option.none) :: D) ((d, v) :: E) M' (H' ++ R) Hr) : Next P c ops K D E M H Hr k :=
  Next.dyn k hj hd hn hok hro hw (Dyn.call ho hx ha hs hp fun v M' H' hle hq => ⟨hle, h v M' H' hle hq⟩)
theorem GD.weak {c ops K D E0 E M H Hr} (hD : D = []) (hs : esub E0 E) (h : GD P c ops K D E0 M H Hr) : GD P c ops K D E M H Hr := by
  subst hD
  intro Q hQ hac S l a w hsch hinv
  exact h Q hQ hac S l a w hsch ⟨hinv.sub, fun i v hi => (by cases hi), hinv.dyn, hinv.size, hinv.defers, fun s u hu hf => hinv.get s u (esub_get hs s u hu) hf, hinv.st, hinv.incl⟩
theorem GD.sub {c ops K D E M H Hr A R} (hs : Split A H R) (hi : Incl Hr A) (h : GD P c ops K D E M A Hr) : GD P c ops K D E M H Hr :=
  fun Q hQ hac S l a w hsch hinv => h Q hQ hac S l a w hsch ⟨hinv.sub, hinv.pend, hinv.dyn, hinv.size, hinv.defers, hinv.get, hinv.st.sub hs, hi⟩
theorem GD.mem {c ops K D E M b x H Hr} (hi : Incl Hr H) (h : ∀ M', MLe M M' → M' b = some x → GD P c ops K D E M' H Hr) : GD P c ops K D E M ((b, .cells x) :: H) Hr :=
  fun Q hQ hac S l a w hsch hinv => h (mput M b x) (mput_le (hinv.st.apart b (by simp [ids]))) (by simp [mput]) Q hQ hac S l a w hsch
    ⟨hinv.sub, fun i v hv hn o ho => let ⟨h1, h2, h3⟩ := hinv.pend i v hv hn o ho; ⟨h1, h2.mem (mput_le (hinv.st.apart b (by simp [ids]))), h3⟩, hinv.dyn, hinv.size, hinv.defers, hinv.get, hinv.st.donate, hi⟩
end Go.Proofs.Ytaeeahcokiebdaa
