/-
  A map whose keys are arrays of one int, and whose values are ints: counts.
  Conditions: none; everything here is proved over any program.
-/
import Derived.Test.YtaeeahcokiebdaaKi
namespace Go.Proofs.Ytaeeahcokiebdaa
variable {P : Program}

/-- Counts, in the order in which their keys came. -/
abbrev Cnt := List (Int × Int)
def keyV (k : Int) : Value := .agg #[.int .i64 k]
def cntE (l : Cnt) : List MapEntry := l.zipIdx.map fun p => { key := keyV p.1.1, val := .int .i64 p.1.2, born := p.2 }
def cntB (l : Cnt) : HB := .raw (.map (cntE l).toArray l.length)
def cntGet (l : Cnt) (k : Int) : Int := ((l.find? fun p => p.1 == k).map (·.2)).getD 0
def cntPut (l : Cnt) (k v : Int) : Cnt := match l.findIdx? fun p => p.1 == k with
  | some i => l.modify i fun p => (p.1, v)
  | Option.none => l ++ [(k, v)]
structure CntTy (P : Program) (t : TypeId) : Prop where
  ty : ∃ kt et ie, P.underlying t = some (.map kt et) ∧ P.underlying kt = some (.array 1 ie) ∧ P.underlying ie = some (.int .i64) ∧ (∀ w, (isAgg ie).run P w = .ok false w) ∧ (∀ w, (sizeOf ie).run P w = .ok 1 w) ∧ ∀ w, (zeroValue et).run P w = .ok (.int .i64 0) w
theorem run_part_int {ie : TypeId} {k : Int} {w : World} (ha : ∀ w, (isAgg ie).run P w = .ok false w) : (part ie #[.int .i64 k] 0).run P w = .ok (.int .i64 k) w := by
  simp [part, ha]
theorem run_equal_key {kt ie : TypeId} (hk : P.underlying kt = some (.array 1 ie)) (hi : P.underlying ie = some (.int .i64)) (ha : ∀ w, (isAgg ie).run P w = .ok false w) (hs : ∀ w, (sizeOf ie).run P w = .ok 1 w) (a b : Int) (w : World) :
    (Op.equal kt (keyV a) (keyV b)).run P w = .ok (a == b) w := by
  show (Op.equalIn (9998 + 1 + 1) kt (keyV a) (keyV b)).run P w = _
  have h1 : ∀ w, (Op.equalIn (9998 + 1) ie (.int .i64 a) (.int .i64 b)).run P w = .ok (a == b) w := by
    intro w
    unfold Op.equalIn
    simp [run_underlying hi]
  unfold Op.equalIn keyV
  simp only [Sem.run_bind, run_underlying hk, Result.andThen_ok, hs]
  simp only [Std.Legacy.Range.forIn_eq_forIn_range', Std.Legacy.Range.size, Nat.sub_zero, Nat.add_sub_cancel, Nat.div_one, List.range'_succ, List.range'_zero, List.forIn_cons, List.forIn_nil, Nat.zero_mul, Sem.run_bind, run_part_int ha, Result.andThen_ok]
  have h2 : (Op.equalIn 9999 ie (.int .i64 a) (.int .i64 b)).run P w = .ok (a == b) w := h1 w
  rw [h2]
  cases hab : (a == b) <;> simp
theorem run_checkKey_key {kt ie : TypeId} (hk : P.underlying kt = some (.array 1 ie)) (hi : P.underlying ie = some (.int .i64)) (ha : ∀ w, (isAgg ie).run P w = .ok false w) (hs : ∀ w, (sizeOf ie).run P w = .ok 1 w) (em : Bool) (a : Int) (w : World) :
    (Instr.checkKey em 10000 kt (keyV a)).run P w = .ok () w := by
  show (Instr.checkKey em (9998 + 1 + 1) kt (keyV a)).run P w = _
  have h1 : ∀ w, (Instr.checkKey em (9998 + 1) ie (.int .i64 a)).run P w = .ok () w := by
    intro w
    unfold Instr.checkKey
    simp [run_underlying hi]
  unfold Instr.checkKey keyV
  simp only [Sem.run_bind, run_underlying hk, Result.andThen_ok]
  simp only [Std.Legacy.Range.forIn_eq_forIn_range', Std.Legacy.Range.size, Nat.sub_zero, Nat.add_sub_cancel, Nat.div_one, List.range'_succ, List.range'_zero, List.forIn_cons, List.forIn_nil, Nat.zero_mul, Sem.run_bind, run_part_int ha, hs, Result.andThen_ok]
  have h2 : (Instr.checkKey em 9999 ie (.int .i64 a)).run P w = .ok () w := h1 w
  rw [h2]
  simp
theorem run_findAsking_cnt {kt ie : TypeId} (hk : P.underlying kt = some (.array 1 ie)) (hi : P.underlying ie = some (.int .i64)) (ha : ∀ w, (isAgg ie).run P w = .ok false w) (hs : ∀ w, (sizeOf ie).run P w = .ok 1 w) (k : Int) (w : World) :
    ∀ (l : Cnt) (i j : Nat), (Instr.findAsking kt (keyV k) ((l.zipIdx j).map fun p => ({ key := keyV p.1.1, val := .int .i64 p.1.2, born := p.2 } : MapEntry)) i).run P w = .ok ((l.findIdx? fun p => p.1 == k).bind fun m => (l[m]?).map fun p => (i + m, Value.int .i64 p.2)) w
  | [], i, j => by simp [Instr.findAsking]
  | (a, v) :: l, i, j => by
    simp only [List.zipIdx_cons, List.map_cons, Instr.findAsking, Sem.run_bind, run_equal_key hk hi ha hs, Result.andThen_ok]
    by_cases h : k = a
    · subst h
      simp [List.findIdx?_cons]
    · have h1 : (k == a) = false := by simpa using h
      have h2 : (a == k) = false := by simpa using fun e => h e.symm
      rw [h1]
      simp only [Bool.false_eq_true, if_false]
      rw [run_findAsking_cnt hk hi ha hs k w l (i + 1) (j + 1)]
      rw [List.findIdx?_cons]
      simp only [h2, Bool.false_eq_true, if_false]
      cases hf : l.findIdx? fun p => p.1 == k with
      | none => simp
      | some m => simp [Nat.add_assoc, Nat.add_comm 1 m]
theorem findNow_arr {n ie : Nat} {k : Value} : ∀ (l : List MapEntry) (i : Nat), l ≠ [] → Instr.findNow (.array n ie) k l i = Option.none
  | [], _, h => absurd rfl h
  | e :: l, i, _ => by simp [Instr.findNow, Instr.sameNow]
theorem run_findKey_cnt {kt ie : TypeId} (hk : P.underlying kt = some (.array 1 ie)) (hi : P.underlying ie = some (.int .i64)) (ha : ∀ w, (isAgg ie).run P w = .ok false w) (hs : ∀ w, (sizeOf ie).run P w = .ok 1 w) (k : Int) (w : World) (l : Cnt) :
    (Instr.findKey kt (keyV k) (cntE l)).run P w = .ok ((l.findIdx? fun p => p.1 == k).bind fun m => (l[m]?).map fun p => (m, Value.int .i64 p.2)) w := by
  unfold Instr.findKey
  simp only [Sem.run_bind, run_underlying hk, Result.andThen_ok]
  cases l with
  | nil => simp [cntE, Instr.findNow]
  | cons p l =>
    rw [findNow_arr _ _ (by simp [cntE])]
    simp only
    have := run_findAsking_cnt hk hi ha hs k w (p :: l) 0 0
    simpa [cntE] using this
theorem cntGet_find (l : Cnt) (k : Int) : (match (l.findIdx? fun p => p.1 == k).bind fun m => (l[m]?).map fun p => (m, Value.int .i64 p.2) with
    | some (_, v) => v
    | Option.none => Value.int .i64 0) = .int .i64 (cntGet l k) := by
  unfold cntGet
  induction l with
  | nil => simp
  | cons p l ih =>
    by_cases h : p.1 == k
    · simp [List.findIdx?_cons, h]
    · simp only [List.findIdx?_cons, List.find?_cons, h, if_false, Bool.false_eq_true]
      cases hf : l.findIdx? fun p => p.1 == k with
      | none => rw [hf] at ih; simpa using ih
      | some m =>
        rw [hf] at ih
        simp only [Option.map_some, Option.bind_some, List.getElem?_cons_succ] at ih ⊢
        cases hm : l[m]? with
        | none => rw [hm] at ih; simpa using ih
        | some q => rw [hm] at ih; simpa using ih
section
variable {c : Cx} {E : Env} {M : Mem} {H : Heap} {d : Option Tmp} {ty : TypeId} {pos : String} {aft : Array Edge} {g : Option (Nat × Bool)} {next : Value → Mem → Heap → Prop}
theorem St.raw {w0 M0 X M H R w b o o'} (h : St w0 M0 X M H w) (hp : Pick (b, .raw o) H R) : St w0 M0 X M ((b, .raw o') :: R) { w with heap := w.heap.setIfInBounds b o' } := by
  have h2 := h.perm hp.perm
  have hn := h2.nodup
  simp only [ids, List.map_cons, List.nodup_cons] at hn
  have hMb : M b = Option.none := h2.apart b (by simp [ids])
  have hob := h2.own b (by simp [ids])
  have hlt : b < w.heap.size := (h2.has (b, .raw o) (by simp)).lt
  have kp : ∀ k, k ≠ b → (w.heap.setIfInBounds b o')[k]? = w.heap[k]? := fun k hk => by
    rw [Array.getElem?_setIfInBounds, if_neg (fun e => hk e.symm)]
  refine ⟨h2.os, h2.tape, h2.output, by simpa using h2.size, ?_, h2.le, ?_, h2.fresh, ?_, fun k hk => h2.apart k (by simpa [ids] using hk), fun k hk => h2.own k (by simpa [ids] using hk), List.nodup_cons.2 hn⟩
  · intro k hk hxk
    show (w.heap.setIfInBounds b o')[k]? = _
    rw [kp k (fun e => by subst e; rcases hob with h1 | h1; exact hxk h1; omega)]
    exact h2.keep k hk hxk
  · intro k x hk
    obtain ⟨T, fz, h1⟩ := h2.agr k x hk
    exact ⟨T, fz, by show (w.heap.setIfInBounds b o')[k]? = _; rw [kp k (fun e => by subst e; rw [hMb] at hk; cases hk)]; exact h1⟩
  · intro p hpm
    rcases List.mem_cons.1 hpm with rfl | hpm
    · show (w.heap.setIfInBounds b o')[b]? = some o'
      simp [hlt]
    · exact (h2.has p (by simp [hpm])).of_eq (kp p.1 (fun e => hn.1 (by rw [← e]; exact List.mem_map.2 ⟨p, hpm, rfl⟩)))
theorem Dyn.makeMap {t} (k : ∀ b, next (.map (some b)) M ((b, cntB []) :: H)) : Dyn P c ⟨d, .makeMap t Option.none, ty, pos, aft, g⟩ E M H next := by
  intro a w hav hst K Q hK
  unfold Oper.wp
  have hr : (execOp a.eval ⟨d, .makeMap t Option.none, ty, pos, aft, g⟩).run P w = .ok (.value (.map (some w.heap.size))) (w.alloc (.map #[] 0)) := by
    simp [execOp, Instr.makeMap]
  rw [hr, Oper.upon_value]
  exact hK _ _ _ _ (hst.new (x := cntB []) rfl rfl rfl (by simp) (fun k hk => heap_push_old w _ k hk) (show (w.alloc (.map #[] 0)).heap[w.heap.size]? = some (.map #[] 0) from heap_push_new w _)) (k _)
theorem Dyn.lookupCnt {t x y b l key R} (ht : CntTy P t) (hx : eev E x = some (.map (some b))) (hy : eev E y = some (keyV key)) (hp : Pick (b, cntB l) H R)
    (k : next (.int .i64 (cntGet l key)) M H) : Dyn P c ⟨d, .lookup t x y false, ty, pos, aft, g⟩ E M H next := by
  intro a w hav hst K Q hK
  have h1 := avail_ev hav (x := x) (by simp [Op.operands]) hx
  have h2 := avail_ev hav (x := y) (by simp [Op.operands]) hy
  obtain ⟨kt, et, ie, t1, t2, t3, t4, t5, t6⟩ := ht.ty
  have hb : w.heap[b]? = some (.map (cntE l).toArray l.length) := (hst.perm hp.perm).has (b, cntB l) (by simp)
  have hg : ∀ (f : Obj → Sem Value), ((getObj b) >>= f).run P w = (f (.map (cntE l).toArray l.length)).run P w := by
    intro f
    show (Sem.bind (getObj b) f).run P w = _
    simp only [getObj, Sem.bind, Sem.run, hb]
  have hr : (execOp a.eval ⟨d, .lookup t x y false, ty, pos, aft, g⟩).run P w = .ok (.value (.int .i64 (cntGet l key))) w := by
    have hgo : (getObj b).run P w = .ok (.map (cntE l).toArray l.length) w := by simp only [getObj, Sem.run, hb]
    have hf := run_findKey_cnt t2 t3 t4 t5 key w l
    have hget := cntGet_find l key
    simp only [execOp, h1, h2, Instr.lookup, Sem.run_bind, run_underlying t1, Result.andThen_ok, hgo, Sem.run_pure, run_checkKey_key t2 t3 t4 t5, hf]
    cases hm : (l.findIdx? fun p => p.1 == key).bind fun m => (l[m]?).map fun p => (m, Value.int .i64 p.2) with
    | none => rw [hm] at hget; simp [t6, hget]
    | some q => rw [hm] at hget; simp at hget; simp [hget]
  unfold Oper.wp
  rw [hr, Oper.upon_value]
  exact hK _ _ _ _ hst k
theorem cntE_get (l : Cnt) (i : Nat) : (cntE l)[i]? = (l[i]?).map fun p => { key := keyV p.1, val := .int .i64 p.2, born := i } := by
  unfold cntE
  simp only [List.getElem?_map, List.getElem?_zipIdx, Nat.zero_add]
  cases l[i]? <;> rfl
theorem cntE_len (l : Cnt) : (cntE l).length = l.length := by simp [cntE]
theorem cntE_modify (l : Cnt) (i : Nat) (f : Int × Int → Int × Int) (h : MapEntry → MapEntry) (hf : ∀ p j, h { key := keyV p.1, val := .int .i64 p.2, born := j } = { key := keyV (f p).1, val := .int .i64 (f p).2, born := j }) :
    (cntE l).modify i h = cntE (l.modify i f) := by
  apply List.ext_getElem?
  intro j
  rw [List.getElem?_modify, cntE_get, cntE_get, List.getElem?_modify]
  cases l[j]? with
  | none => rfl
  | some p =>
    simp only [Option.map_some]
    by_cases hij : i = j
    · simp [hij, hf]
    · simp [hij]
theorem cntE_push (l : Cnt) (k v : Int) : (cntE l).toArray.push { key := keyV k, val := .int .i64 v, born := l.length } = (cntE (l ++ [(k, v)])).toArray := by
  simp [cntE, List.zipIdx_append]
theorem cntE_find (l : Cnt) (i : Nat) (h : i < l.length) : (cntE l).toArray.findIdx? (fun e => (e.born : Int) == (i : Int)) = some i := by
  rw [List.findIdx?_toArray, List.findIdx?_eq_some_iff_getElem]
  have hb : ∀ (j : Nat) (hj : j < (cntE l).length), ((cntE l)[j]).born = j := by
    intro j hj
    have h1 := cntE_get l j
    rw [List.getElem?_eq_getElem hj, List.getElem?_eq_getElem (by rwa [cntE_len] at hj)] at h1
    simp at h1
    rw [h1]
  refine ⟨by rw [cntE_len]; exact h, by rw [hb]; simp, fun j hj => ?_⟩
  rw [hb]
  simp
  omega
def cntIdx (l : Cnt) (k : Int) : Nat := (l.findIdx? fun p => p.1 == k).getD l.length
def cntTouch (l : Cnt) (k : Int) : Cnt := match l.findIdx? fun p => p.1 == k with
  | some _ => l
  | Option.none => l ++ [(k, 0)]
theorem modify_self {α : Type} (l : List α) (i : Nat) (f : α → α) (h : ∀ x, l[i]? = some x → f x = x) : l.modify i f = l := by
  apply List.ext_getElem?
  intro j
  rw [List.getElem?_modify]
  by_cases hij : i = j
  · subst hij
    cases hx : l[i]? with
    | none => rfl
    | some x => simp [h x hx]
  · simp [hij]
theorem Dyn.mapEntryCnt {t x y b l key R} (ht : CntTy P t) (hx : eev E x = some (.map (some b))) (hy : eev E y = some (keyV key)) (hp : Pick (b, cntB l) H R)
    (k : next (.tuple #[.int .i64 (cntGet l key), .int .i64 (cntIdx l key)]) M ((b, cntB (cntTouch l key)) :: R)) : Dyn P c ⟨d, .mapEntry t x y, ty, pos, aft, g⟩ E M H next := by
  intro a w hav hst K Q hK
  have h1 := avail_ev hav (x := x) (by simp [Op.operands]) hx
  have h2 := avail_ev hav (x := y) (by simp [Op.operands]) hy
  obtain ⟨kt, et, ie, t1, t2, t3, t4, t5, t6⟩ := ht.ty
  have hb : w.heap[b]? = some (.map (cntE l).toArray l.length) := (hst.perm hp.perm).has (b, cntB l) (by simp)
  have hgo : (getObj b).run P w = .ok (.map (cntE l).toArray l.length) w := by simp only [getObj, Sem.run, hb]
  have hset : ∀ o, (setObj b o).run P w = .ok () { w with heap := w.heap.setIfInBounds b o } := fun o => by simp only [setObj, Sem.run, hb]
  have hf := run_findKey_cnt t2 t3 t4 t5 key w l
  have hget := cntGet_find l key
  have hr : (execOp a.eval ⟨d, .mapEntry t x y, ty, pos, aft, g⟩).run P w = .ok (.value (.tuple #[.int .i64 (cntGet l key), .int .i64 (cntIdx l key)])) { w with heap := w.heap.setIfInBounds b (.map (cntE (cntTouch l key)).toArray (cntTouch l key).length) } := by
    simp only [execOp, h1, h2, Instr.mapEntry, Sem.run_bind, run_underlying t1, Result.andThen_ok, hgo, run_checkKey_key t2 t3 t4 t5, hf]
    unfold cntIdx cntTouch
    cases hm : l.findIdx? fun p => p.1 == key with
    | none =>
      rw [hm] at hget
      simp only [Option.bind_none] at hget ⊢
      have hg0 : cntGet l key = 0 := by injection hget with _ hget; exact hget.symm
      simp only [Sem.run_bind, t6, Result.andThen_ok, hset, Sem.run_pure, goInt, cntE_push, hg0, Option.getD_none]
      simp
    | some i =>
      rw [hm] at hget
      obtain ⟨hlt, hkey, _⟩ := List.findIdx?_eq_some_iff_getElem.1 hm
      have hli : l[i]? = some l[i] := List.getElem?_eq_getElem hlt
      simp only [Option.bind_some, hli, Option.map_some] at hget
      simp only [Option.bind_some, hli, Option.map_some]
      have hk1 : l[i].1 = key := by simpa using hkey
      have hes : (cntE l).toArray[i]? = some { key := keyV key, val := .int .i64 l[i].2, born := i } := by
        rw [List.getElem?_toArray, cntE_get, hli]; simp [hk1]
      have hsb : Instr.sameBits 10000 (keyV key) (keyV key) = true := by
        show Instr.sameBits (9999 + 1) (.agg #[.int .i64 key]) (.agg #[.int .i64 key]) = true
        simp [Instr.sameBits]
      have hstay : (Instr.keyThatStays (keyV key) (keyV key)).run P w = .ok (keyV key) w := by
        unfold Instr.keyThatStays; rw [hsb]; rfl
      have hmod : (cntE l).toArray.modify i (fun e => { e with key := keyV key }) = (cntE l).toArray := by
        apply Array.ext'
        rw [Array.toList_modify]
        refine modify_self _ _ _ fun x hx => ?_
        rw [← List.getElem?_toArray, hes] at hx
        injection hx with hx
        rw [← hx]
      simp only [hes, Option.map_some, Option.getD_some, Sem.run_bind, hstay, Result.andThen_ok, hmod, hset, Sem.run_pure, goInt]
      rw [hget]
  unfold Oper.wp
  rw [hr, Oper.upon_value]
  exact hK _ _ _ _ (hst.raw hp) k
theorem Dyn.entryStoreCnt {t x y z b l key v R} (hx : eev E x = some (.map (some b))) (hy : eev E y = some (.int .i64 (cntIdx l key))) (hz : eev E z = some (.int .i64 v)) (hp : Pick (b, cntB (cntTouch l key)) H R)
    (k : next undef M ((b, cntB (cntPut l key v)) :: R)) : Dyn P c ⟨d, .entryStore t x y z, ty, pos, aft, g⟩ E M H next := by
  intro a w hav hst K Q hK
  have h1 := avail_ev hav (x := x) (by simp [Op.operands]) hx
  have h2 := avail_ev hav (x := y) (by simp [Op.operands]) hy
  have h3 := avail_ev hav (x := z) (by simp [Op.operands]) hz
  have hb : w.heap[b]? = some (.map (cntE (cntTouch l key)).toArray (cntTouch l key).length) := (hst.perm hp.perm).has (b, cntB (cntTouch l key)) (by simp)
  have hgo : (getObj b).run P w = .ok (.map (cntE (cntTouch l key)).toArray (cntTouch l key).length) w := by simp only [getObj, Sem.run, hb]
  have hset : ∀ o, (setObj b o).run P w = .ok () { w with heap := w.heap.setIfInBounds b o } := fun o => by simp only [setObj, Sem.run, hb]
  have hlt : cntIdx l key < (cntTouch l key).length := by
    unfold cntIdx cntTouch
    cases hm : l.findIdx? fun p => p.1 == key with
    | none => simp
    | some i => obtain ⟨hlt, _⟩ := List.findIdx?_eq_some_iff_getElem.1 hm; simpa using hlt
  have hput : (cntTouch l key).modify (cntIdx l key) (fun p => (p.1, v)) = cntPut l key v := by
    unfold cntIdx cntTouch cntPut
    cases hm : l.findIdx? fun p => p.1 == key with
    | none =>
      simp only [Option.getD_none]
      apply List.ext_getElem?
      intro j
      rw [List.getElem?_modify]
      by_cases hj : j < l.length
      · rw [List.getElem?_append_left hj, List.getElem?_append_left hj]
        simp [show ¬ l.length = j by omega]
      · rw [List.getElem?_append_right (by omega), List.getElem?_append_right (by omega)]
        by_cases hj2 : j = l.length
        · subst hj2; simp
        · rw [List.getElem?_eq_none (by simp; omega), List.getElem?_eq_none (by simp; omega)]; rfl
    | some i => rfl
  have hr : (execOp a.eval ⟨d, .entryStore t x y z, ty, pos, aft, g⟩).run P w = .ok .skip { w with heap := w.heap.setIfInBounds b (.map (cntE (cntPut l key v)).toArray (cntPut l key v).length) } := by
    have hlen : (cntPut l key v).length = (cntTouch l key).length := by rw [← hput]; simp
    have hmod : (cntE (cntTouch l key)).toArray.modify (cntIdx l key) (fun e => { e with val := .int .i64 v }) = (cntE (cntPut l key v)).toArray := by
      apply Array.ext'
      rw [Array.toList_modify, ← hput]
      exact cntE_modify _ _ (fun p => (p.1, v)) _ (fun p j => rfl)
    simp only [execOp, h1, h2, h3, Instr.entryStore, Sem.run_bind, hgo, Result.andThen_ok, asInt, asIntOf, Sem.run_pure, cntE_find _ _ hlt, hmod, hset, hlen]
  unfold Oper.wp
  rw [hr, Oper.upon_skip]
  exact hK _ _ _ _ (hst.raw hp) k
end
end Go.Proofs.Ytaeeahcokiebdaa
