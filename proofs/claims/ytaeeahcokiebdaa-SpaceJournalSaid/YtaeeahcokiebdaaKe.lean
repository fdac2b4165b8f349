/-
  Literals of slices and structs, make, slicing, conversions between bytes and texts; the results of a function.
  Conditions: none; everything here is proved over any program.
-/
import Derived.Test.YtaeeahcokiebdaaKd
namespace Go.Proofs.Ytaeeahcokiebdaa
variable {P : Program}

/-! ### Literals -/
def vcl : Value → List Value
  | .agg cs => cs.toList
  | v => [v]
theorem vcl_cells (v : Value) : v.cells.toList = vcl v := by cases v <;> rfl
def idxOps : Nat → List (Nat × Operand) → Option (List Operand)
  | _, [] => some []
  | k, (i, x) :: l => bif Nat.beq i k then match idxOps (k + 1) l with
    | some r => some (x :: r)
    | Option.none => Option.none
    else Option.none
theorem fold_set : ∀ (vs : List Value) (o : Nat) (cs : Array Value), o + vs.length ≤ cs.size →
    ∀ k, (vs.zipIdx k).foldl (fun (cs : Array Value) (p : Value × Nat) => cs.setIfInBounds (o + (p.2 - k)) p.1) cs = (cs.toList.take o ++ vs ++ cs.toList.drop (o + vs.length)).toArray
  | [], o, cs, _, k => by simp
  | v :: vs, o, cs, h, k => by
    simp at h
    simp only [List.zipIdx_cons, List.foldl_cons, Nat.sub_self, Nat.add_zero]
    have ih := fold_set vs (o + 1) (cs.setIfInBounds o v) (by simp; omega) (k + 1)
    have e : ∀ (l : List (Value × Nat)) (cs : Array Value), (∀ p ∈ l, k + 1 ≤ p.2) → l.foldl (fun (cs : Array Value) (p : Value × Nat) => cs.setIfInBounds (o + (p.2 - k)) p.1) cs = l.foldl (fun (cs : Array Value) (p : Value × Nat) => cs.setIfInBounds (o + 1 + (p.2 - (k + 1))) p.1) cs := by
      intro l
      induction l with
      | nil => intro cs _; rfl
      | cons p l ihl =>
        intro cs hp
        have := hp p (by simp)
        simp only [List.foldl_cons]
        rw [show o + (p.2 - k) = o + 1 + (p.2 - (k + 1)) by omega]
        exact ihl _ (fun q hq => hp q (by simp [hq]))
    rw [e _ _ (fun p hp => by have := List.mem_zipIdx hp; omega), ih]
    apply Array.ext'
    simp only [Array.toList_setIfInBounds]
    have e2 := list_seg_step cs.toList o v vs (by simp; omega)
    simpa [Nat.add_assoc, Nat.add_comm, Nat.add_left_comm] using e2
theorem fold_set0 (vs : List Value) (o : Nat) (cs : Array Value) (h : o + vs.length ≤ cs.size) :
    vs.toArray.zipIdx.foldl (fun (cs : Array Value) (x : Value × Nat) => cs.setIfInBounds (o + x.2) x.1) cs = (cs.toList.take o ++ vs ++ cs.toList.drop (o + vs.length)).toArray := by
  have := fold_set vs o cs h 0
  rw [← Array.foldl_toList]
  simpa using this
theorem fill_one {place : Nat → Option (Nat × Nat)} {cs : List Value} {i off size : Nat} {v : Value} {rest} {cs' : List Value} (hp : place i = some (off, size)) (hv : (vcl v).length = size) (hs : setSeg cs off (vcl v) = some cs') :
    Instr.fill place cs.toArray ((i, v) :: rest) = Instr.fill place cs'.toArray rest := by
  obtain ⟨h1, h2⟩ := setSeg_some hs
  have hc : v.cells = (vcl v).toArray := by rw [← vcl_cells]
  have hsz : v.cells.size = size := by rw [hc]; simpa using hv
  rw [Instr.fill.eq_def]
  simp only [hp]
  rw [if_neg (by rw [hsz]; simp; omega)]
  congr 1
  rw [hc]
  rw [h1]
  exact fold_set0 (vcl v) off cs.toArray (by simpa using h2)
def fillL (pl : List (Nat × Nat)) : List Value → List (Nat × Value) → Option (List Value)
  | c, [] => some c
  | c, (i, v) :: rest => match pl[i]? with
    | some (off, size) => bif Nat.beq (vcl v).length size then match setSeg c off (vcl v) with
      | some c' => fillL pl c' rest
      | Option.none => Option.none
      else Option.none
    | Option.none => Option.none
theorem fillL_some {pl : List (Nat × Nat)} : ∀ {parts : List (Nat × Value)} {c r : List Value}, fillL pl c parts = some r → Instr.fill (fun i => pl.toArray[i]?) c.toArray parts = some r.toArray
  | [], c, r, h => by simp [fillL] at h; simp [Instr.fill, h]
  | (i, v) :: rest, c, r, h => by
    simp only [fillL] at h
    split at h
    · rename_i off size hp
      cases hb : Nat.beq (vcl v).length size with
      | false => simp [hb] at h
      | true =>
        simp only [hb, cond_true] at h
        split at h
        · rename_i c' hs
          rw [fill_one (place := fun i => pl.toArray[i]?) (off := off) (size := size) (by simpa using hp) (Nat.eq_of_beq_eq_true hb) hs]
          exact fillL_some h
        · cases h
    · cases h
class TyS (P : Program) (t : TypeId) (pl : outParam (List (Nat × Nat))) (z : outParam (List Value)) : Prop where
  build : ∀ parts c w, fillL pl z parts.toList = some c → (Instr.build t parts).run P w = .ok (.agg c.toArray) w
theorem TyS.mk' {t fs pl z} (hu : P.underlying t = some (.struct fs)) (hz : ∀ w, (zeroValue t).run P w = .ok (.agg z.toArray) w)
    (hp : ∀ w, (fs.mapM fun (f : Field) => (do pure (f.offset, ← Go.sizeOf f.type) : Sem (Nat × Nat))).run P w = .ok pl.toArray w) : TyS P t pl z :=
  ⟨fun parts c w h => by
    have := fillL_some h
    simp only [Instr.build, Sem.run_bind, hz, Result.andThen_ok, run_underlying hu, Value.cells]
    rw [hp]
    simp only [Result.andThen_ok, this]
    rfl⟩
theorem fill_more {place place' : Nat → Option (Nat × Nat)} (hp : ∀ i p, place i = some p → place' i = some p) : ∀ {parts : List (Nat × Value)} {c r : Array Value}, Instr.fill place c parts = some r → Instr.fill place' c parts = some r
  | [], c, r, h => by simpa [Instr.fill] using h
  | (i, v) :: rest, c, r, h => by
    rw [Instr.fill.eq_def] at h ⊢
    simp only at h ⊢
    cases hpi : place i with
    | none => rw [hpi] at h; simp at h
    | some q =>
      rw [hpi] at h
      rw [hp i q hpi]
      simp only at h ⊢
      split at h
      · cases h
      · rename_i hc
        rw [if_neg hc]
        exact fill_more hp h
theorem TyS.arr {t n e sz pl z} (hu : P.underlying t = some (.array n e)) (hz : ∀ w, (zeroValue t).run P w = .ok (.agg z.toArray) w) (hs : ∀ w, (Go.sizeOf e).run P w = .ok sz w)
    (hp : pl = (List.range n).map fun i => (i * sz, sz)) : TyS P t pl z :=
  ⟨fun parts c w h => by
    have h1 := fillL_some h
    have h2 := fill_more (place' := fun i => some (i * sz, sz)) (fun i p hi => by
      subst hp
      simp only [List.getElem?_toArray, List.getElem?_map] at hi
      cases hr : (List.range n)[i]? with
      | none => rw [hr] at hi; simp at hi
      | some j =>
        rw [hr] at hi
        have : j = i := by rw [List.getElem?_range (by have := (List.getElem?_eq_some_iff.1 hr).1; simpa using this)] at hr; injection hr with hr; exact hr.symm
        subst this
        simpa using hi) h1
    simp only [Instr.build, Sem.run_bind, hz, Result.andThen_ok, run_underlying hu, Value.cells, hs, h2]
    rfl⟩
class TyV (P : Program) (s : TypeId) (f : Nat) (off : outParam Nat) : Prop where
  place : ∃ fs fld, P.underlying s = some (.struct fs) ∧ fs[f]? = some fld ∧ fld.offset = off ∧ ∀ w, (Go.isAgg fld.type).run P w = .ok false w
theorem Sure.field {E : Env} {M : Mem} {H : Heap} {d : Option Tmp} {ty : TypeId} {pos : String} {aft : Array Edge} {g : Option (Nat × Bool)} {s x f off l v} [hf : TyV P s f off] (hx : eev E x = some (.agg (List.toArray l))) (hv : l[off]? = some v) :
    Sure P ⟨d, .field s x f, ty, pos, aft, g⟩ E M H v := by
  intro a w hav _ _
  have h1 := avail_ev hav (x := x) (by simp [Op.operands]) hx
  obtain ⟨fs, fld, h2, h3, h4, h5⟩ := hf.place
  simp [execOp, h1, Instr.field, run_underlying h2, h3, asAgg, part, h5, h4, hv]
def evParts (E : Env) : List (Nat × Operand) → Option (List (Nat × Value))
  | [] => some []
  | (i, x) :: l => match eev E x, evParts E l with
    | some v, some r => some ((i, v) :: r)
    | _, _ => Option.none
theorem evParts_map {E : Env} {a : Act} : ∀ {l : List (Nat × Operand)} {r}, (∀ x ∈ l.map (·.2), ∀ v, eev E x = some v → a.eval x = v) → evParts E l = some r → l.map (fun p => (p.1, a.eval p.2)) = r
  | [], r, _, h => by simp [evParts] at h; simp [h]
  | (i, x) :: l, r, hx, h => by
    simp only [evParts] at h
    cases h1 : eev E x with
    | none => simp [h1] at h
    | some u =>
      cases h2 : evParts E l with
      | none => simp [h1, h2] at h
      | some r' =>
        simp [h1, h2] at h
        subst h
        simp [hx x (by simp) u h1, evParts_map (fun y hy => hx y (by simp at hy ⊢; exact .inr hy)) h2]
section
variable {c : Cx} {E : Env} {M : Mem} {H : Heap} {d : Option Tmp} {ty : TypeId} {pos : String} {aft : Array Edge} {g : Option (Nat × Bool)} {next : Value → Mem → Heap → Prop}
theorem Sure.build {t pl z parts ps cs} [hs : TyS P t pl z] (hp : evParts E parts = some ps) (hf : fillL pl z ps = some cs) : Sure P ⟨d, .build t parts.toArray, ty, pos, aft, g⟩ E M H (.agg cs.toArray) := by
  intro a w hav _ _
  have h1 := evParts_map (a := a) (fun x hx v hv => hav x (by simpa [Op.operands] using hx) v hv) hp
  have h2 := hs.build ps.toArray cs w (by simpa using hf)
  simp [execOp, h1, h2]
theorem fill_rows {sz : Nat} : ∀ (vs : List Value) (i : Nat) (done rest : List Value), done.length = i * sz → rest.length = vs.length * sz → (∀ v ∈ vs, (vcl v).length = sz) →
    ∀ tail, Instr.fill (fun i => some (i * sz, sz)) (done ++ rest).toArray ((vs.zipIdx i).map (fun p => (p.2, p.1)) ++ tail) = Instr.fill (fun i => some (i * sz, sz)) (done ++ (vs.map vcl).flatten).toArray tail
  | [], i, done, rest, _, h2, _, tail => by simp at h2; simp [h2]
  | v :: vs, i, done, rest, h1, h2, h3, tail => by
    have hv := h3 v (by simp)
    simp only [List.zipIdx_cons, List.map_cons, List.cons_append]
    have hr : sz ≤ rest.length := by rw [h2]; simp [Nat.succ_mul]
    rw [fill_one (off := i * sz) (size := sz) rfl hv (cs' := (done ++ vcl v) ++ rest.drop sz) (by
      rw [setSeg_eq (by simp; omega)]
      congr 1
      rw [← h1]
      simp [hv, List.drop_append])]
    rw [fill_rows vs (i + 1) (done ++ vcl v) (rest.drop sz) (by simp [h1, hv, Nat.succ_mul]) (by simp [h2, Nat.succ_mul]) (fun u hu => h3 u (by simp [hu]))]
    simp
theorem idxOps_zip {E : Env} : ∀ {l : List (Nat × Operand)} {k xs vs ps}, idxOps k l = some xs → evs E xs = some vs → evParts E l = some ps → ps = (vs.zipIdx k).map fun p => (p.2, p.1)
  | [], k, xs, vs, ps, h, h2, h3 => by simp [idxOps] at h; subst h; simp [evs] at h2; subst h2; simp [evParts] at h3; simp [h3]
  | (i, x) :: l, k, xs, vs, ps, h, h2, h3 => by
    simp only [idxOps] at h
    cases hb : Nat.beq i k with
    | false => simp [hb] at h
    | true =>
      have := Nat.eq_of_beq_eq_true hb
      subst this
      simp only [hb, cond_true] at h
      split at h
      · rename_i r hr
        simp at h
        subst h
        simp only [evs] at h2
        simp only [evParts] at h3
        cases h4 : eev E x with
        | none => simp [h4] at h2
        | some u =>
          cases h5 : evs E r with
          | none => simp [h4, h5] at h2
          | some us =>
            simp [h4, h5] at h2
            subst h2
            cases h6 : evParts E l with
            | none => simp [h4, h6] at h3
            | some q =>
              simp [h4, h6] at h3
              subst h3
              have := idxOps_zip hr h5 h6
              simp [this]
      · cases h
theorem evParts_of_idx {E : Env} : ∀ {l : List (Nat × Operand)} {k xs vs}, idxOps k l = some xs → evs E xs = some vs → ∃ ps, evParts E l = some ps
  | [], _, _, _, _, _ => ⟨[], rfl⟩
  | (i, x) :: l, k, xs, vs, h, h2 => by
    simp only [idxOps] at h
    cases hb : Nat.beq i k with
    | false => simp [hb] at h
    | true =>
      simp only [hb, cond_true] at h
      split at h
      · rename_i r hr
        simp at h
        subst h
        simp only [evs] at h2
        cases h4 : eev E x with
        | none => simp [h4] at h2
        | some u =>
          cases h5 : evs E r with
          | none => simp [h4, h5] at h2
          | some us =>
            obtain ⟨ps, hps⟩ := evParts_of_idx hr h5
            exact ⟨(i, u) :: ps, by simp [evParts, h4, hps]⟩
      · cases h
theorem Dyn.buildSlice {t n e agg sz zz parts xs vs} [ht : TyU P t (.slice e)] [he : TyI P e agg sz] [hz : TyZ P e zz] (hi : idxOps 0 parts = some xs) (hv : evs E xs = some vs) (hn : vs.length = n)
    (hl : ∀ v ∈ vs, (vcl v).length = sz) (hbig : n * sz ≤ 16777216) (k : ∀ b, next (.slice (some ⟨b, 0, Option.none⟩) n n) M ((b, .cells ((vs.map vcl).flatten)) :: H)) :
    Dyn P c ⟨d, .buildSlice t n parts.toArray, ty, pos, aft, g⟩ E M H next := by
  intro a w hav hst K Q hK
  obtain ⟨ps, hps⟩ := evParts_of_idx hi hv
  have h1 := evParts_map (a := a) (fun x hx v hv => hav x (by simpa [Op.operands] using hx) v hv) hps
  have h2 := idxOps_zip hi hv hps
  have hz0 : ∀ m, ((Array.range m).map (fun i => zz.cells[i % zz.cells.size]!)).toList.length = m := by intro m; simp
  have h3 := fill_rows (sz := sz) vs 0 [] ((Array.range (n * sz)).map (fun i => zz.cells[i % zz.cells.size]!)).toList (by simp) (by rw [hz0, hn]) hl []
  have h5 : Instr.fill (fun i => some (i * sz, sz)) ((Array.range (n * sz)).map (fun i => zz.cells[i % zz.cells.size]!)) ps = some ((vs.map vcl).flatten).toArray := by
    rw [h2]
    simp only [List.nil_append, Array.toArray_toList, List.append_nil] at h3
    rw [h3]
    simp [Instr.fill]
  unfold Oper.wp
  have hr : (execOp a.eval ⟨d, .buildSlice t n parts.toArray, ty, pos, aft, g⟩).run P w = .ok (.value (.slice (some ⟨w.heap.size, 0, Option.none⟩) n n)) (w.alloc (.cells ((vs.map vcl).flatten).toArray e)) := by
    by_cases h0 : n * sz = 0
    · have h5' : Instr.fill (fun i => some (i * sz, sz)) (#[] : Array Value) ps = some ((vs.map vcl).flatten).toArray := by
        rw [h0, Array.range_zero'] at h5; simpa using h5
      have hnot : ¬ (16777216 < n * sz) := by omega
      simp only [execOp, Instr.buildSlice, Sem.run_bind, run_underlying ht.und, he.sizeOf, Result.andThen_ok]
      simp [h0, h1, h5', newRow, Array.range_zero']
    · have hnot : ¬ (16777216 < n * sz) := by omega
      have hm : n ≠ 0 ∧ sz ≠ 0 := by constructor <;> (intro e; simp [e] at h0)
      simp only [execOp, Instr.buildSlice, Sem.run_bind, run_underlying ht.und, he.sizeOf, Result.andThen_ok]
      simp [h0, hnot, h1, h5, newRow, hz.zero]
  rw [hr, Oper.upon_value]
  exact hK _ _ _ _ (hst.new_cells _ e) (k _)
end
end Go.Proofs.Ytaeeahcokiebdaa
