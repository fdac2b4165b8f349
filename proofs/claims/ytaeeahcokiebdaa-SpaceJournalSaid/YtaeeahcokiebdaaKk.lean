/-
  Copying between slices, clearing one, growing one into a new block, and the functions that the model itself gives.
  Conditions: none; everything here is proved over any program.
-/
import Derived.Test.YtaeeahcokiebdaaKj
import Derived.Lib.Overlaps
namespace Go.Proofs.Ytaeeahcokiebdaa
variable {P : Program}
section
variable {c : Cx} {E : Env} {M : Mem} {H : Heap} {d : Option Tmp} {ty : TypeId} {pos : String} {aft : Array Edge} {g : Option (Nat × Bool)} {next : Value → Mem → Heap → Prop}
theorem run_firstCells_sl' {M H sz p n xs l cap w} (h : Sl M H sz p n xs) (ha : Agr M w) (hh : Has H w) : (Builtin.firstCells sz n (.slice p l cap)).run P w = .ok xs.toArray w := by
  have := run_firstCells_sl (P := P) (cap := cap) h ha hh
  cases p <;> exact this
/-- 'copy(dst, src)': dst lies in a block of its own code. -/
theorem Dyn.copy {t t2 e sz agg x y b o dLen dCap p sLen sCap n xs cs cs' R} [ht : TyU P t (.slice e)] [he : TyI P e agg sz]
    (hx : eev E x = some (.slice (some ⟨b, o, Option.none⟩) dLen dCap)) (hy : eev E y = some (.slice p sLen sCap)) (hn : Nat.min sLen dLen = n) (hs : Sl M H sz p n xs) (hp : Pick (b, .cells cs) H R)
    (h1 : allOne xs = true) (hset : setSeg cs o xs = some cs') (k : next (.int .i64 n) M ((b, .cells cs') :: R)) :
    Dyn P c ⟨d, .call { callee := .builtin .copy, args := #[x, y], argTypes := #[t, t2] }, ty, pos, aft, g⟩ E M H next := by
  intro a w hav hst K Q hK
  have h2 := avail_ev hav (x := x) (by simp [Op.operands, Call.operands]) hx
  have h3 := avail_ev hav (x := y) (by simp [Op.operands, Call.operands]) hy
  obtain ⟨w', h4, h5⟩ := hst.store (P := P) hp hset h1
  have hf : (Builtin.firstCells sz n (.slice p sLen sCap)).run P w = .ok xs.toArray w := run_firstCells_sl' hs hst.agr hst.has
  unfold Oper.wp
  have hr : (execOp a.eval ⟨d, .call { callee := .builtin .copy, args := #[x, y], argTypes := #[t, t2] }, ty, pos, aft, g⟩).run P w = .ok (.value (.int .i64 n)) w' := by
    simp [execOp, resolve, invoke, builtin, h2, h3, Builtin.copy_, run_underlying ht.und, Builtin.lenOf, he.sizeOf, hn, hf, h4, goInt]
  rw [hr, Oper.upon_value]
  exact hK _ _ _ _ h5 k
/-- 'clear(s)': s lies in a block of its own code. -/
theorem Dyn.clear {t e sz agg zz x b o n cap cs R} [ht : TyU P t (.slice e)] [he : TyI P e agg sz] [hz : TyZ P e zz] (hzs : zz.cells.size = sz) (hz1 : allOne zz.cells.toList = true)
    (hx : eev E x = some (.slice (some ⟨b, o, Option.none⟩) n cap)) (hp : Pick (b, .cells cs) H R) (hfit : o + n * sz ≤ cs.length)
    (k : ∀ cs', cs'.length = cs.length → cs'.take o = cs.take o → next (.tuple #[]) M ((b, .cells cs') :: R)) :
    Dyn P c ⟨d, .call { callee := .builtin .clear, args := #[x], argTypes := #[t] }, ty, pos, aft, g⟩ E M H next := by
  intro a w hav hst K Q hK
  have h2 := avail_ev hav (x := x) (by simp [Op.operands, Call.operands]) hx
  by_cases hn0 : n = 0
  · subst hn0
    have hr : (execOp a.eval ⟨d, .call { callee := .builtin .clear, args := #[x], argTypes := #[t] }, ty, pos, aft, g⟩).run P w = .ok (.value (.tuple #[])) w := by
      simp [execOp, resolve, invoke, builtin, h2, Builtin.clear_, run_underlying ht.und]
    unfold Oper.wp
    rw [hr, Oper.upon_value]
    exact hK _ _ _ _ (hst.perm hp.perm) (k cs rfl rfl)
  · have hlen := zeroCells_len zz.cells n
    rw [hzs] at hlen
    have hall : allOne (Builtin.zeroCells zz.cells n).toList = true := by
      unfold allOne at hz1 ⊢
      rw [List.all_eq_true] at hz1 ⊢
      intro v hv
      simp only [Builtin.zeroCells, Array.toList_map, List.mem_map, Array.toList_range, List.mem_range] at hv
      obtain ⟨i, hi, rfl⟩ := hv
      have hpos : 0 < zz.cells.size := by
        rcases Nat.eq_zero_or_pos zz.cells.size with h | h
        · rw [h] at hi; omega
        · exact h
      have hlt : i % zz.cells.size < zz.cells.size := Nat.mod_lt _ hpos
      rw [getElem!_pos zz.cells _ hlt]
      exact hz1 _ (by rw [← Array.getElem_toList]; exact List.getElem_mem _)
    have hset := setSeg_eq (c := cs) (o := o) (vs := (Builtin.zeroCells zz.cells n).toList) (by rw [hlen]; exact hfit)
    obtain ⟨w', h4, h5⟩ := hst.store (P := P) hp hset hall
    have hr : (execOp a.eval ⟨d, .call { callee := .builtin .clear, args := #[x], argTypes := #[t] }, ty, pos, aft, g⟩).run P w = .ok (.value (.tuple #[])) w' := by
      obtain ⟨m, rfl⟩ : ∃ m, n = m + 1 := ⟨n - 1, by omega⟩
      simp [execOp, resolve, invoke, builtin, h2, Builtin.clear_, run_underlying ht.und, hz.zero, h4]
    unfold Oper.wp
    rw [hr, Oper.upon_value]
    refine hK _ _ _ _ h5 (k _ ?_ ?_)
    · simp [hlen]; omega
    · rw [List.append_assoc, List.take_append_of_le_length (by simp; omega), List.take_take, Nat.min_self]
/-- 'append(s, make([]T, n)...)' where s has no room for n more: a new block. -/
theorem Dyn.appendMakeGrow {t t2 e sz bytes agg zz x y p i cap xs} {n : Nat} [ht : TyU P t (.slice e)] [ht2 : TyU P t2 (.int .i64)]
    [he : TyI P e agg sz] [hz : TyZ P e zz] [hb : TyB P e bytes] (hzs : zz.cells.size = sz) (hn : 0 < n) (hsz : 0 < sz)
    (hx : eev E x = some (.slice p i cap)) (hy : eev E y = some (.int .i64 n)) (hs : Sl M H sz p i xs) (hroom : ¬ i + n ≤ cap)
    (hbytes : (i + n) * bytes ≤ 140737488355328) (h63 : i + n ≤ 9223372036854775807)
    (k : ∀ b cap' junk, i + n ≤ cap' → (xs ++ junk).length = cap' * sz → next (.slice (some ⟨b, 0, Option.none⟩) (i + n) cap') M ((b, .cells (xs ++ junk)) :: H)) :
    Dyn P c ⟨d, .call { callee := .builtin .append, args := #[x, y], argTypes := #[t, t2] }, ty, pos, aft, g⟩ E M H next := by
  intro a w hav hst K Q hK
  have h2 := avail_ev hav (x := x) (by simp [Op.operands, Call.operands]) hx
  have h3 := avail_ev hav (x := y) (by simp [Op.operands, Call.operands]) hy
  obtain ⟨ti, hi, hib⟩ := hb.bytes
  have hinfo : ∀ w, (typeInfo e).run P w = .ok ti w := fun w => by simp [typeInfo, hi]
  have w1 : IntKind.i64.wrap (n : Int) = n := IntWalk.i64_in _ (by omega)
  have hneg : ¬ ((n : Int) < 0) := by omega
  have hbig : ¬ (281474976710656 < (n : Int) * (ti.bytes : Int)) := by
    have : ((n * bytes : Nat) : Int) ≤ ((140737488355328 : Nat) : Int) := Int.ofNat_le.2 (Nat.le_trans (Nat.mul_le_mul_right _ (by omega)) hbytes)
    rw [hib, ← Int.natCast_mul]
    omega
  have h63' : ¬ (9223372036854775807 < ((i : Int) + (n : Int))) := by omega
  have hfit : ¬ (281474976710656 < Builtin.nextslicecap (i + n) cap * ti.bytes) := by
    have := growslice_fits (need := i + n) (old := cap) (bytes := ti.bytes) (by omega) (by rw [hib]; exact hbytes); omega
  have hge : i + n ≤ grownCap w (i + n) cap e := grownCap_ge w _ _ _
  have hst2 := hst.drew
  have hf' : (Builtin.firstCells sz i (.slice p i cap)).run P w.drew = .ok xs.toArray w.drew := run_firstCells_sl hs hst2.agr hst2.has
  have hr : ∃ junk : List Value, (xs ++ junk).length = grownCap w (i + n) cap e * sz ∧ (execOp a.eval ⟨d, .call { callee := .builtin .append, args := #[x, y], argTypes := #[t, t2] }, ty, pos, aft, g⟩).run P w =
      .ok (.value (.slice (some ⟨w.heap.size, 0, Option.none⟩) (i + n) (grownCap w (i + n) cap e))) (w.drew.alloc (.cells (xs ++ junk).toArray e)) := by
    have hnz : ¬ (n * sz = 0) := Nat.ne_of_gt (Nat.mul_pos hn hsz)
    refine ⟨(Builtin.zeroCells zz.cells n).toList ++ (Builtin.zeroCells zz.cells (grownCap w (i + n) cap e - (i + n))).toList, ?_, ?_⟩
    · simp only [List.length_append, zeroCells_len, hzs, hs.1, ← Nat.add_mul]
      congr 1
      omega
    · simp [execOp, resolve, invoke, builtin, h2, h3, Builtin.append_, run_underlying ht.und, run_underlying ht2.und, he.sizeOf, asInt, asIntOf, w1, hneg, hinfo, hbig, h63', hroom, hfit, Question.forced, hf', hz.zero, newRow, grownCap, hnz]
      congr 2
      apply Array.ext'
      simp
  obtain ⟨junk, hjl, hr⟩ := hr
  unfold Oper.wp
  rw [hr, Oper.upon_value]
  exact hK _ _ _ _ (hst2.new_cells _ e) (k _ _ _ hge hjl)
/-- A function that the model itself gives, and that leaves the world as it is. -/
theorem Dyn.extern {o : Oper} {x args tys f vs v} (ho : o.op = .call { callee := .value x, args := args.toArray, argTypes := tys }) (hx : eev E x = some (.func (.func f) #[] #[])) (ha : evs E args = some vs)
    (hr : ∀ w, Agr M w → Has H w → (callFunc f vs.toArray).run P w = .ok (.value v) w) (k : next v M H) : Dyn P c o E M H next := by
  intro a w hav hst K Q hK
  have hev : ∀ (l : List Operand) (us : List Value), (∀ y ∈ l, ∀ v, eev E y = some v → a.eval y = v) → evs E l = some us → l.map a.eval = us := by
    intro l
    induction l with
    | nil => intro us _ h; simp [evs] at h; simp [h]
    | cons y l ih =>
      intro us hy h
      simp only [evs] at h
      cases h1 : eev E y with
      | none => simp [h1] at h
      | some u =>
        cases h2 : evs E l with
        | none => simp [h1, h2] at h
        | some us' =>
          simp [h1, h2] at h
          subst h
          simp [hy y (by simp) u h1, ih us' (fun z hz => hy z (by simp [hz])) h2]
  have hops : o.op.operands = #[x] ++ args.toArray := by rw [ho]; rfl
  have h1 : a.eval x = .func (.func f) #[] #[] := hav x (by rw [hops]; simp) _ hx
  have h2 : args.map a.eval = vs := hev args vs (fun y hy v hv => hav y (by rw [hops]; simp [hy]) v hv) ha
  have hrun : (execOp a.eval o).run P w = .ok (.value v) w := by
    unfold execOp
    rw [ho]
    simp only [resolve, h1, Deferred.ofValue, invoke, List.map_toArray, h2, Sem.run_bind, Sem.run_pure, Result.andThen_ok]
    have := hr w hst.agr hst.has
    simpa using this
  unfold Oper.wp
  rw [hrun, Oper.upon_value]
  exact hK _ _ _ _ hst k
theorem G.nodup {c : Cx} {ops K l E M H} (h : (ids H).Nodup → G P c ops K l E M H) : G P c ops K l E M H :=
  fun Q hQ a w hm hst => h hst.nodup Q hQ a w hm hst
/-- 'slices.overlaps' at slices of two owned blocks. -/
theorem run_overlaps_own {H : Heap} {w tS tR e sz agg b b' o o' l l' cap cap'} {cs cs' : List Value} [ht : TyU P tS (.slice e)] [he : TyI P e agg sz] (hh : Has H w)
    (hb : (b, HB.cells cs) ∈ H) (hb' : (b', HB.cells cs') ∈ H) (hne : b ≠ b') (hl' : cs' ≠ []) :
    (Extern.SlicesOverlaps.overlaps #[tS, tS] #[tR] #[.slice (some ⟨b, o, Option.none⟩) l cap, .slice (some ⟨b', o', Option.none⟩) l' cap']).run P w = .ok (.bool false) w := by
  obtain ⟨T, lo, hi, h1, h2⟩ := hh _ hb
  obtain ⟨T', lo', hi', h3, h4⟩ := hh _ hb'
  dsimp only at h1 h3
  have hfr : ∀ k, w.frozen? ⟨b, k, Option.none⟩ = false := by
    intro k
    simp only [World.frozen?, h1]
    have : ¬ (lo ≤ k ∧ k < hi) := by omega
    simpa using this
  exact Lib.run_overlaps_apart w tS tR e ht.und sz he.sizeOf ⟨b, o, Option.none⟩ ⟨b', o', Option.none⟩ l cap l' cap' hne T T' cs.toArray.size cs'.toArray.size
    (by simp [World.shape?, h1]) (by simp [World.shape?, h3]) (by simpa using hl') (hfr _) (hfr _)
end
end Go.Proofs.Ytaeeahcokiebdaa
