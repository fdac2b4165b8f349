/-
  Slicing, make, conversions between bytes and texts, min and max.
  Conditions: none; everything here is proved over any program.
-/
import Derived.Test.YtaeeahcokiebdaaKh
import Derived.Laws.BytesArg
import Derived.Laws.IdiomStrings
namespace Go.Proofs.Ytaeeahcokiebdaa
variable {P : Program}
section
variable {c : Cx} {E : Env} {M : Mem} {H : Heap} {d : Option Tmp} {ty : TypeId} {pos : String} {aft : Array Edge} {g : Option (Nat × Bool)} {next : Value → Mem → Heap → Prop}
def optEv (E : Env) : Option Operand → Option (Option Value)
  | Option.none => some Option.none
  | some x => match eev E x with
    | some v => some (some v)
    | Option.none => Option.none
theorem optEv_map {a : Act} {o : Option Operand} {r} (h : optEv E o = some r) (hav : ∀ x ∈ o, ∀ v, eev E x = some v → a.eval x = v) : o.map a.eval = r := by
  cases o with
  | none => simp [optEv] at h; simp [h]
  | some x =>
    simp only [optEv] at h
    cases hx : eev E x with
    | none => simp [hx] at h
    | some v => simp [hx] at h; subst h; simp [hav x (by simp) v hx]
/-- Where a slice of a slice begins. -/
def subP (p : Option Addr) (cap lo sz : Nat) : Option Addr := if cap = lo then p else p.map (·.add (lo * sz))
theorem run_slice {t e sz agg p n cap w} [ht : TyU P t (.slice e)] [he : TyI P e agg sz] {lo hi : Nat} {low high : Option Value}
    (hlo : low = some (.int .i64 lo) ∨ low = Option.none ∧ lo = 0) (hhi : high = some (.int .i64 hi) ∨ high = Option.none ∧ hi = n) (h1 : lo ≤ hi) (h2 : hi ≤ cap) :
    (Instr.sliceAt t (.slice p n cap) low high Option.none).run P w = .ok (.slice (subP p cap lo sz) (hi - lo) (cap - lo)) w := by
  have hb : (Instr.sliceBounds true n cap low high Option.none).run P w = .ok (lo, hi, cap) w := by
    unfold Instr.sliceBounds
    rcases hlo with rfl | ⟨rfl, rfl⟩ <;> rcases hhi with rfl | ⟨rfl, rfl⟩
    · have e1 : (0 : Int) ≤ hi ∧ (hi : Int) ≤ cap := by omega
      have e2 : (0 : Int) ≤ lo ∧ (lo : Int) ≤ hi := by omega
      simp [Instr.sliceBound, asIntOf, h1, h2]
    · simp [Instr.sliceBound, asIntOf, h1]
    · simp [Instr.sliceBound, asIntOf, h2]
    · simp
  simp [Instr.sliceAt, Instr.slice, run_underlying ht.und, hb, he.sizeOf, subP]
theorem Sure.slice {t x low high e sz agg p n cap l h} [ht : TyU P t (.slice e)] [he : TyI P e agg sz] (lo hi : Nat) (hx : eev E x = some (.slice p n cap)) (hl : optEv E low = some l) (hh : optEv E high = some h)
    (hlo : l = some (.int .i64 lo) ∨ l = Option.none ∧ lo = 0) (hhi : h = some (.int .i64 hi) ∨ h = Option.none ∧ hi = n) (h1 : lo ≤ hi) (h2 : hi ≤ cap) :
    Sure P ⟨d, .slice t x low high Option.none, ty, pos, aft, g⟩ E M H (.slice (subP p cap lo sz) (hi - lo) (cap - lo)) := by
  intro a w hav _ _
  have e1 := avail_ev hav (x := x) (by simp [Op.operands]) hx
  have e2 := optEv_map (a := a) hl (fun y hy v hv => avail_ev hav (by cases low <;> simp at hy; subst hy; simp [Op.operands]) hv)
  have e3 := optEv_map (a := a) hh (fun y hy v hv => avail_ev hav (by cases high <;> simp at hy; subst hy; simp [Op.operands]) hv)
  have := run_slice (P := P) (t := t) (e := e) (sz := sz) (p := p) (n := n) (cap := cap) (w := w) hlo hhi h1 h2
  simp only [execOp, e1, e2, e3, Option.map_none, Sem.run_bind, this, Result.andThen_ok, Sem.run_pure]
theorem Sl.sub {sz p n xs cap} (h : Sl M H sz p n xs) {lo hi : Nat} (h1 : lo ≤ hi) (h2 : hi ≤ n) (hc : n ≤ cap) : Sl M H sz (subP p cap lo sz) (hi - lo) ((xs.drop (lo * sz)).take ((hi - lo) * sz)) := by
  have hb1 : lo * sz ≤ hi * sz := Nat.mul_le_mul_right _ h1
  have hb2 : hi * sz ≤ n * sz := Nat.mul_le_mul_right _ h2
  have hsub : (hi - lo) * sz = hi * sz - lo * sz := Nat.sub_mul _ _ _
  refine ⟨by simp [h.1, hsub]; omega, fun hpos => ?_⟩
  obtain ⟨b, o, c, rfl, h3, h4⟩ := h.2 (by omega)
  refine ⟨b, o + lo * sz, c, by unfold subP; rw [if_neg (by omega)]; simp [addr_add], h3, seg_sub h4 (by omega)⟩
theorem Sure.sliceStr {t x low high s l h} [ht : TyU P t .string] (lo hi : Nat) (hx : eev E x = some (.string s)) (hl : optEv E low = some l) (hh : optEv E high = some h)
    (hlo : l = some (.int .i64 lo) ∨ l = Option.none ∧ lo = 0) (hhi : h = some (.int .i64 hi) ∨ h = Option.none ∧ hi = s.size) (h1 : lo ≤ hi) (h2 : hi ≤ s.size) :
    Sure P ⟨d, .slice t x low high Option.none, ty, pos, aft, g⟩ E M H (.string (s.extract lo hi)) := by
  intro a w hav _ _
  have e1 := avail_ev hav (x := x) (by simp [Op.operands]) hx
  have e2 := optEv_map (a := a) hl (fun y hy v hv => avail_ev hav (by cases low <;> simp at hy; subst hy; simp [Op.operands]) hv)
  have e3 := optEv_map (a := a) hh (fun y hy v hv => avail_ev hav (by cases high <;> simp at hy; subst hy; simp [Op.operands]) hv)
  have hb : (Instr.sliceBounds false s.size s.size l h Option.none).run P w = .ok (lo, hi, s.size) w := by
    unfold Instr.sliceBounds
    rcases hlo with rfl | ⟨rfl, rfl⟩ <;> rcases hhi with rfl | ⟨rfl, rfl⟩
    · simp [Instr.sliceBound, asIntOf, h1, h2]
    · simp [Instr.sliceBound, asIntOf, h1]
    · simp [Instr.sliceBound, asIntOf, h2]
    · simp
  simp only [execOp, e1, e2, e3, Option.map_none, Sem.run_bind, Instr.sliceAt, run_underlying ht.und, Result.andThen_ok, Instr.slice, Option.isSome_none, Bool.false_eq_true, if_false, Sem.run_pure, hb]
theorem Sure.min {k x y a b ts} (hx : eev E x = some (.int k a)) (hy : eev E y = some (.int k b)) : Sure P ⟨d, .call { callee := .builtin .min, args := #[x, y], argTypes := ts }, ty, pos, aft, g⟩ E M H (.int k (Min.min a b)) := by
  intro ac w hav _ _
  have h1 := avail_ev hav (x := x) (by simp [Op.operands, Call.operands]) hx
  have h2 := avail_ev hav (x := y) (by simp [Op.operands, Call.operands]) hy
  have h3 : (if b < a then b else a) = Min.min a b := by omega
  simp [execOp, resolve, invoke, builtin, h1, h2, Builtin.min_, Builtin.min2, h3]
theorem Sure.max {k x y a b ts} (hx : eev E x = some (.int k a)) (hy : eev E y = some (.int k b)) : Sure P ⟨d, .call { callee := .builtin .max, args := #[x, y], argTypes := ts }, ty, pos, aft, g⟩ E M H (.int k (Max.max a b)) := by
  intro ac w hav _ _
  have h1 := avail_ev hav (x := x) (by simp [Op.operands, Call.operands]) hx
  have h2 := avail_ev hav (x := y) (by simp [Op.operands, Call.operands]) hy
  have h3 : (if b > a then b else a) = Max.max a b := by omega
  simp [execOp, resolve, invoke, builtin, h1, h2, Builtin.max_, Builtin.max2, h3]

/-! ### make -/
def zrow (z : Value) (n : Nat) : List Value := ((List.range n).map fun _ => vcl z).flatten
theorem zrow_len {z : Value} {sz : Nat} (h : (vcl z).length = sz) (n : Nat) : (zrow z n).length = n * sz := by
  unfold zrow
  rw [flatten_len (sz := sz) (by intro e he; obtain ⟨_, _, rfl⟩ := List.mem_map.1 he; exact h)]
  simp
theorem zrow_get {z : Value} {sz : Nat} (h : (vcl z).length = sz) {n i : Nat} (hi : i < n * sz) : (zrow z n)[i]? = (vcl z)[i % sz]? := by
  induction n generalizing i with
  | zero => simp at hi
  | succ n ih =>
    have hs : zrow z (n + 1) = vcl z ++ zrow z n := by
      unfold zrow
      rw [List.range_succ_eq_map]
      simp [Function.comp_def]
    rw [hs, List.getElem?_append]
    split
    · rename_i h1; rw [Nat.mod_eq_of_lt (by omega)]
    · rename_i h1
      rw [h, ih (by rw [Nat.succ_mul] at hi; omega)]
      congr 1
      have hsz : sz ≤ i := by omega
      rw [← Nat.mod_eq_sub_mod hsz]
theorem Dyn.makeSlice {t x y e sz agg zz bytes} {n cap : Nat} [ht : TyU P t (.slice e)] [he : TyI P e agg sz] [hz : TyZ P e zz] [hb : TyB P e bytes] (hzs : (vcl zz).length = sz) (hpos : 0 < sz)
    (hx : eev E x = some (.int .i64 n)) (hy : eev E y = some (.int .i64 cap)) (h1 : n ≤ cap) (h2 : bytes * cap ≤ 281474976710656) (h3 : cap ≤ 9223372036854775807)
    (k : ∀ b, next (.slice (some ⟨b, 0, Option.none⟩) n cap) M ((b, .cells (zrow zz cap)) :: H)) : Dyn P c ⟨d, .makeSlice t x y, ty, pos, aft, g⟩ E M H next := by
  intro a w hav hst K Q hK
  have e1 := avail_ev hav (x := x) (by simp [Op.operands]) hx
  have e2 := avail_ev hav (x := y) (by simp [Op.operands]) hy
  obtain ⟨i, hi, hib⟩ := hb.bytes
  have w1 : IntKind.i64.wrap (n : Int) = n := IntWalk.i64_in _ (by omega)
  have w2 : IntKind.i64.wrap (cap : Int) = cap := IntWalk.i64_in _ (by omega)
  have hbig : ¬ (281474976710656 < (i.bytes : Int) * (cap : Int)) := by
    have : ((bytes * cap : Nat) : Int) ≤ ((281474976710656 : Nat) : Int) := Int.ofNat_le.2 h2
    rw [hib]
    rw [Int.natCast_mul] at this
    omega
  have hneg : ¬ ((cap : Int) < 0) := by omega
  have hneg2 : ¬ ((n : Int) < 0) := by omega
  have hcn : ¬ (cap < n) := by omega
  have hcells : (Array.range (cap * sz)).map (fun j => zz.cells[j % zz.cells.size]!) = (zrow zz cap).toArray := by
    have hzc : zz.cells.size = sz := by rw [← hzs, ← vcl_cells]; simp
    apply Array.ext'
    apply List.ext_getElem?
    intro j
    simp only [Array.toList_map, Array.toList_range, List.getElem?_map]
    by_cases hj : j < cap * sz
    · rw [zrow_get hzs hj, List.getElem?_range hj]
      simp only [Option.map_some]
      have hm : j % sz < sz := Nat.mod_lt _ hpos
      have hlt : j % sz < zz.cells.size := by omega
      rw [hzc, ← vcl_cells, Array.getElem?_toList, Array.getElem?_eq_getElem hlt, getElem!_pos zz.cells (j % sz) hlt]
    · rw [List.getElem?_eq_none (by simp; omega), List.getElem?_eq_none (by rw [zrow_len hzs]; omega)]
      rfl
  have hr : (execOp a.eval ⟨d, .makeSlice t x y, ty, pos, aft, g⟩).run P w = .ok (.value (.slice (some ⟨w.heap.size, 0, Option.none⟩) n cap)) (w.alloc (.cells (zrow zz cap).toArray e)) := by
    by_cases h0 : cap * sz = 0
    · have hc0 : cap = 0 := by
        rcases Nat.mul_eq_zero.1 h0 with h | h
        · exact h
        · omega
      subst hc0
      have hn0 : n = 0 := by omega
      subst hn0
      have hz0 : zrow zz 0 = [] := rfl
      have w0 : IntKind.i64.wrap 0 = 0 := IntWalk.i64_in _ (by omega)
      simp [execOp, e1, e2, Instr.makeSlice, run_underlying ht.und, asInt, asIntOf, typeInfo, hi, he.sizeOf, newRow, hz0, w0, Array.range_zero']
    · simp only [execOp, e1, e2, Instr.makeSlice, Sem.run_bind, run_underlying ht.und, Result.andThen_ok]
      simp [asInt, asIntOf, typeInfo, hi, w1, w2, hbig, hneg, hneg2, hcn, he.sizeOf, h0, hz.zero, newRow, hcells]
  unfold Oper.wp
  rw [hr, Oper.upon_value]
  exact hK _ _ _ _ (hst.new_cells _ e) (k _)
/-! ### bytes and texts -/
def byteV (b : UInt8) : Value := .int .u8 b.toNat
theorem St.put {w0 M0 X M H w b x} (h : St w0 M0 X M H w) (hb : ∃ T fz, w.heap[b]? = some (.cells x T fz)) (hM : M b = Option.none) (hX : b ∈ X ∨ w0.heap.size ≤ b) (hn : b ∉ ids H) : St w0 M0 X (mput M b x.toList) H w := by
  refine ⟨h.os, h.tape, h.output, h.size, h.keep, h.le.trans (mput_le hM), ?_, ?_, h.has, ?_, h.own, h.nodup⟩
  · intro k y hk
    unfold mput at hk
    split at hk
    · rename_i e; subst e
      injection hk with hk; subst hk
      simpa using hb
    · exact h.agr k y hk
  · intro k y hk
    unfold mput at hk
    split at hk
    · rename_i e; subst e; exact .inr hX
    · exact h.fresh k y hk
  · intro k hk
    unfold mput
    split
    · rename_i e; subst e; exact absurd hk hn
    · exact h.apart k hk
theorem Dyn.toBytes {s1 s2 t e x s} [hs : TyU P s1 .string] [ht : TyU P s2 (.slice e)] [he : TyU P e (.int .u8)] (hx : eev E x = some (.string s)) (ht' : t = s2)
    (k : ∀ p cap M', MLe M M' → Sl M' [] 1 p s.size (s.data.toList.map byteV) → s.size ≤ cap → next (.slice p s.size cap) M' H) : Dyn P c ⟨d, .convert s1 t x, ty, pos, aft, g⟩ E M H next := by
  subst ht'
  intro a w hav hst K Q hK
  have h1 := avail_ev hav (x := x) (by simp [Op.operands]) hx
  let cap := (Question.appendCap s.size 0 e).cut (w.tape w.drawn (.appendCap s.size 0 e))
  have hcap : s.size ≤ cap := grownCap_ge w s.size 0 e
  let cells : Array Value := s.data.map (fun b => Value.int .u8 b.toNat) ++ Array.replicate (cap - s.size) (.int .u8 0)
  let w1 : World := w.drew.alloc (.cells cells e)
  have hsh : w1.shape? w.heap.size = some (e, cells.size) := by
    have := heap_push_new w.drew (.cells cells e)
    simp only [World.shape?, w1]
    rw [show w.heap.size = w.drew.heap.size from rfl, this]
  have hr : (execOp a.eval ⟨d, .convert s1 t x, ty, pos, aft, g⟩).run P w = .ok (.value (.slice (some ⟨w.heap.size, 0, Option.none⟩) s.size cap)) (w1.freeze { block := w.heap.size, off := cells.size } 1) := by
    have hsh' : (w.drew.alloc (.cells cells e)).shape? w.heap.size = some (e, cells.size) := hsh
    simp only [execOp, h1, Go.convert, Sem.run_bind, run_underlying hs.und, run_underlying ht.und, run_underlying he.und, Result.andThen_ok, Conv.stringToBytes]
    simp only [run_choose, Question.forced, Bool.false_eq_true, if_false, Result.andThen_ok, newRow, Sem.run_bind, run_newObj, Sem.run_pure, markStringish, run_shape, World.drew_eq, World.alloc_eq]
    rw [show w.drew.heap.size = w.heap.size from rfl]
    rw [show (Array.map (fun b : UInt8 => Value.int IntKind.u8 (b.toNat : Int)) s.data ++ Array.replicate ((Question.appendCap s.size 0 e).cut (w.tape w.drawn (Question.appendCap s.size 0 e)) - s.size) (Value.int IntKind.u8 0)) = cells from rfl]
    rw [hsh']
    rfl
  unfold Oper.wp
  rw [hr, Oper.upon_value]
  have hfr : ∀ k, k ≠ w.heap.size → (w1.freeze { block := w.heap.size, off := cells.size } 1).heap[k]? = w1.heap[k]? := by
    intro k hk
    simp only [World.freeze, Nat.one_ne_zero, if_false, Array.getElem?_modify]
    rw [if_neg (fun e => hk e.symm)]
  have hnew : ∃ T fz, (w1.freeze { block := w.heap.size, off := cells.size } 1).heap[w.heap.size]? = some (.cells cells T fz) := by
    have := heap_push_new w.drew (.cells cells e)
    have h2 : w1.heap[w.heap.size]? = some (.cells cells e) := this
    simp only [World.freeze, Nat.one_ne_zero, if_false, Array.getElem?_modify, if_true, h2, Option.map_some]
    exact ⟨e, _, rfl⟩
  have hst1 : St c.w0 c.M0 c.X M H (w1.freeze { block := w.heap.size, off := cells.size } 1) := by
    refine hst.grow rfl rfl rfl ?_ ?_
    · simp [World.freeze, w1]
    · intro k hk
      rw [hfr k (by omega)]
      exact heap_push_old w.drew _ k hk
  have hMn : M w.heap.size = Option.none := by
    cases hm : M w.heap.size with
    | none => rfl
    | some c => have := hst.agr.lt hm; omega
  have hidn : w.heap.size ∉ ids H := by
    intro hm
    obtain ⟨p, hp, he⟩ := List.mem_map.1 hm
    have := (hst.has p hp).lt
    omega
  have hst2 := hst1.put hnew hMn (.inr hst.size) hidn
  refine hK _ _ _ _ hst2 (k _ cap _ (mput_le hMn) ⟨?_, fun _ => ⟨w.heap.size, 0, cells.toList, rfl, Rd.m (by simp [mput]), ?_⟩⟩ hcap)
  · rw [List.length_map, Array.length_toList, Nat.mul_one]; rfl
  · have : cells.toList = s.data.toList.map byteV ++ (Array.replicate (cap - s.size) (Value.int .u8 0)).toList := by
      simp only [cells, Array.toList_append, Array.toList_map]; rfl
    rw [this]
    simp only [seg, List.drop_zero]
    exact takeN_append (by rw [List.length_map, Array.length_toList, Nat.mul_one]; rfl)
theorem Sure.toStr {s1 s2 e x p cap} {bs : List UInt8} [hs : TyU P s1 (.slice e)] [he : TyU P e (.int .u8)] [hd : TyU P s2 .string] (hx : eev E x = some (.slice p bs.length cap)) (hsl : Sl M H 1 p bs.length (bs.map byteV)) :
    Sure P ⟨d, .convert s1 s2 x, ty, pos, aft, g⟩ E M H (.string ⟨bs.toArray⟩) := by
  intro a w hav ha hh
  have h1 := avail_ev hav (x := x) (by simp [Op.operands]) hx
  have hr : (convert s1 s2 (.slice p bs.length cap)).run P w = .ok (.string ⟨bs.toArray⟩) w := by
    by_cases h0 : 0 < bs.length
    · obtain ⟨b, o, c, rfl, h2, h3⟩ := hsl.2 h0
      refine run_convert_bytes_back w s1 s2 e ⟨b, o, Option.none⟩ cap bs hs.und he.und hd.und fun j hj => ?_
      rw [addr_add]
      exact h2.cell ha hh (seg_one h3 (by simp [hj, byteV]))
    · have hb : bs = [] := List.eq_nil_of_length_eq_zero (by omega)
      subst hb
      cases p with
      | none => rw [run_convert_bytes_nil w s1 e hs.und he.und _ _ s2 hd.und]; rfl
      | some q => exact run_convert_bytes_back w s1 s2 e q cap [] hs.und he.und hd.und (fun j hj => by simp at hj)
  simp only [execOp, h1, Sem.run_bind, hr, Result.andThen_ok, Sem.run_pure]
theorem zrow_one {z : Value} (h : vcl z = [z]) (n : Nat) : zrow z n = List.replicate n z := by
  unfold zrow
  rw [h]
  induction n with
  | zero => rfl
  | succ n ih => rw [List.range_succ_eq_map, List.map_cons, List.flatten_cons, List.replicate_succ]; simp [Function.comp_def] at ih ⊢; exact ih
/-- 'append(nil, make([]T, n)...)', one cell to an element, n above 0. -/
theorem Dyn.appendMake {t t2 e bytes agg zz x y} {n : Nat} [ht : TyU P t (.slice e)] [ht2 : TyU P t2 (.int .i64)]
    [he : TyI P e agg 1] [hz : TyZ P e zz] [hb : TyB P e bytes] (hzs : vcl zz = [zz])
    (hx : eev E x = some (.slice Option.none 0 0)) (hy : eev E y = some (.int .i64 n)) (hn : 0 < n)
    (hbytes : n * bytes ≤ 140737488355328) (h63 : n ≤ 9223372036854775807)
    (k : ∀ b cap, n ≤ cap → next (.slice (some ⟨b, 0, Option.none⟩) n cap) M ((b, .cells (List.replicate cap zz)) :: H)) :
    Dyn P c ⟨d, .call { callee := .builtin .append, args := #[x, y], argTypes := #[t, t2] }, ty, pos, aft, g⟩ E M H next := by
  intro a w hav hst K Q hK
  have h2 := avail_ev hav (x := x) (by simp [Op.operands, Call.operands]) hx
  have h3 := avail_ev hav (x := y) (by simp [Op.operands, Call.operands]) hy
  obtain ⟨i, hi, hib⟩ := hb.bytes
  have hinfo : ∀ w, (typeInfo e).run P w = .ok i w := fun w => by simp [typeInfo, hi]
  have hzc : zz.cells = #[zz] := by
    apply Array.ext'; rw [vcl_cells, hzs]
  have w1 : IntKind.i64.wrap (n : Int) = n := IntWalk.i64_in _ (by omega)
  have hneg : ¬ ((n : Int) < 0) := by omega
  have hbig : ¬ (281474976710656 < (n : Int) * (i.bytes : Int)) := by
    have : ((n * bytes : Nat) : Int) ≤ ((140737488355328 : Nat) : Int) := Int.ofNat_le.2 hbytes
    rw [hib, ← Int.natCast_mul]
    omega
  have h63' : ¬ (9223372036854775807 < (n : Int)) := by omega
  have hfit : ¬ (281474976710656 < Builtin.nextslicecap n 0 * i.bytes) := by rw [nextslicecap_zero hn, hib]; omega
  have hn0 : n ≠ 0 := by omega
  have hge : n ≤ grownCap w n 0 e := grownCap_ge w _ _ _
  have hst2 := hst.drew
  have hz1 : ∀ m, Builtin.zeroCells #[zz] m = (List.replicate m zz).toArray := by
    intro m
    apply Array.ext'
    apply List.ext_getElem?
    intro j
    simp only [Builtin.zeroCells, Array.toList_map, Array.toList_range, List.getElem?_map, Array.size, List.length_cons, List.length_nil]
    by_cases hj : j < m
    · rw [List.getElem?_range (by omega), List.getElem?_replicate, if_pos hj]
      simp [Nat.mod_one]
    · rw [List.getElem?_eq_none (by simp; omega), List.getElem?_eq_none (by simp; omega)]; rfl
  have hr : (execOp a.eval ⟨d, .call { callee := .builtin .append, args := #[x, y], argTypes := #[t, t2] }, ty, pos, aft, g⟩).run P w =
      .ok (.value (.slice (some ⟨w.heap.size, 0, Option.none⟩) n (grownCap w n 0 e))) (w.drew.alloc (.cells (List.replicate (grownCap w n 0 e) zz).toArray e)) := by
    simp [execOp, resolve, invoke, builtin, h2, h3, Builtin.append_, run_underlying ht.und, run_underlying ht2.und, he.sizeOf, asInt, asIntOf, w1, hneg, hinfo, hbig, h63', hfit, hn0, Question.forced, Builtin.firstCells, hz.zero, hzc, hz1, newRow, grownCap]
    have hc : n + ((Question.appendCap n 0 e).cut (w.tape w.drawn (Question.appendCap n 0 e)) - n) = (Question.appendCap n 0 e).cut (w.tape w.drawn (Question.appendCap n 0 e)) := by
      have : n ≤ (Question.appendCap n 0 e).cut (w.tape w.drawn (Question.appendCap n 0 e)) := hge
      omega
    rw [hc]
  unfold Oper.wp
  rw [hr, Oper.upon_value]
  exact hK _ _ _ _ (hst2.new_cells _ e) (k _ _ hge)
end
theorem GD.donateOwn {c : Cx} {ops K D E M H Hr sz v n xs Hs R} (ho : Own sz v n xs Hs) (hp : PickL Hs H R) (hi : Incl Hr R)
    (h : ∀ M' p cap, MLe M M' → v = .slice p n cap → Sl M' [] sz p n xs → GD P c ops K D E M' R Hr) : GD P c ops K D E M H Hr := by
  obtain ⟨h1, h2⟩ := ho
  rcases h2 with ⟨rfl, rfl, rfl⟩ | ⟨b, cap, junk, rfl, h3, rfl, h4⟩
  · intro Q hQ hac S l a w hsch hinv
    refine h M Option.none 0 (MLe.refl M) rfl ⟨h1, fun hn => absurd hn (by omega)⟩ Q hQ hac S l a w hsch ⟨hinv.sub, hinv.pend, hinv.dyn, hinv.size, hinv.defers, hinv.get, by simpa using hinv.st.perm hp.perm, hi⟩
  · intro Q hQ hac S l a w hsch hinv
    refine GD.mem (b := b) (x := xs ++ junk) hi (fun M' hle hb => h M' _ _ hle rfl ⟨h1, fun _ => ⟨b, 0, _, rfl, Rd.m hb, by simpa [seg] using takeN_append h1⟩⟩) Q hQ hac S l a w hsch
      ⟨hinv.sub, hinv.pend, hinv.dyn, hinv.size, hinv.defers, hinv.get, by simpa using hinv.st.perm hp.perm, fun p hp' => List.mem_cons_of_mem _ (hi p hp')⟩
end Go.Proofs.Ytaeeahcokiebdaa
