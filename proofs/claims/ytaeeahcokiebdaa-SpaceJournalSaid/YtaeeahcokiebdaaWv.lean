/-
  The walk of a state behind deeds.
-/
import Derived.Test.YtaeeahcokiebdaaWu
namespace Go.Proofs.Ytaeeahcokiebdaa
set_option maxRecDepth 20000

/-- A state behind one deed, and behind some. -/
def apply1 (s : Sta) (d : Deed) : Sta :=
  if d.kind = 1 then { s with next := d.no }
  else if d.kind = 2 then { s with inos := putI s.inos d.ino }
  else if d.kind = 3 then { s with inos := s.inos.filter fun x => !decide (x.no = d.no) }
  else if d.kind = 4 then { s with bad := badI s.bad d.no }
  else s
def applyL (s : Sta) (l : List Deed) : Sta := l.foldl apply1 s
theorem applyL_snoc (s : Sta) (l : List Deed) (d : Deed) : applyL s (l ++ [d]) = apply1 (applyL s l) d := by simp [applyL]
theorem putI_len (l : List Ino) (x : Ino) : (putI l x).length ≤ l.length + 1 := by
  unfold putI; split
  · simp
  · split <;> simp <;> omega
theorem badI_len (l : List Int) (x : Int) : (badI l x).length ≤ l.length + 1 := by
  unfold badI; split
  · omega
  · split <;> simp <;> omega
theorem apply1_spec_del (M : Mem) (b : Nat) (d : InoD) (x : DeedD) : Spec Try.prog 50 [.agg (inoDL d).toArray, ptr b] M [(b, .cells (deedDL x))] (fun v _ H => v = .bool (decide (d.x.no = x.no)) ∧ H = [(b, .cells (deedDL x))]) := by
  refine Spec.of_code 9 Try.func50 rfl callable50 rfl rfl fun w => ?_
  refine C.region_seq ?_
  refine G.dyn rfl rfl rfl ?_
  refine Dyn.boxAgg rfl ?_
  intro b2
  refine G.value rfl rfl rfl (Sure.assign rfl) ?_
  refine G.nil ?_
  refine C.region_seq ?_
  refine G.value rfl rfl rfl (Sure.fieldAddr rfl) ?_
  refine G.value rfl rfl rfl (Sure.load rfl (by first | exact Rd.h0 | exact Rd.tl Rd.h0 | exact Rd.tl (Rd.tl Rd.h0) | exact Rd.tl (Rd.tl (Rd.tl Rd.h0)) | exact Rd.tl (Rd.tl (Rd.tl (Rd.tl Rd.h0))) | exact Rd.tl (Rd.tl (Rd.tl (Rd.tl (Rd.tl Rd.h0)))) | exact Rd.m (by assumption) | assumption) rfl) ?_
  refine G.value rfl rfl rfl (Sure.fieldAddr rfl) ?_
  refine G.value rfl rfl rfl (Sure.load rfl (by first | exact Rd.h0 | exact Rd.tl Rd.h0 | exact Rd.tl (Rd.tl Rd.h0) | exact Rd.tl (Rd.tl (Rd.tl Rd.h0)) | exact Rd.tl (Rd.tl (Rd.tl (Rd.tl Rd.h0))) | exact Rd.tl (Rd.tl (Rd.tl (Rd.tl (Rd.tl Rd.h0)))) | exact Rd.m (by assumption) | assumption) rfl) ?_
  refine G.value rfl rfl rfl (Sure.eql rfl rfl) ?_
  refine G.value rfl rfl rfl (Sure.assign rfl) ?_
  refine G.nil ?_
  refine C.ret ?_
  exact Fin.fn (Res.tmp rfl rfl) (Split.cons (.there .here) Split.nil) ⟨rfl, rfl⟩
/-- What a function that makes a state hands back. -/
def RetSta (s : Sta) (v : Value) (M : Mem) (H : Heap) : Prop := H = [] ∧ ∃ sd : StaD, sd.v = s ∧ v = .agg (staDL sd).toArray ∧ SOk M sd
theorem apply_spec (M : Mem) (s : StaD) (p : Option Addr) (cap : Nat) (dl : List DeedD) (hs : SOk M s) (hk : StaOk s.v) (hd : RDeeds M p dl) (hdk : ∀ d ∈ dl, InoOk d.d.x) (hl : dl.length ≤ 100000) :
    Spec Try.prog 26 [.agg (staDL s).toArray, .slice p dl.length cap] M [] (fun v M' H => RetSta (applyL s.v (dl.map DeedD.v)) v M' H) := by
  have hk1 : s.inos.length ≤ 1000000 := by simpa [StaD.v] using hk.1
  have hk2 : s.bad.length ≤ 1000000 := hk.2.1
  have hk3 : ∀ d ∈ s.inos, InoOk d.x := fun d hd => hk.2.2 d.x (by simpa [StaD.v] using ⟨d, hd, rfl⟩)
  refine Spec.of_code 53 Try.func26 rfl callable26 rfl rfl fun w => ?_
  refine C.region_seq ?_
  refine G.dyn rfl rfl rfl ?_
  refine Dyn.boxAgg rfl ?_
  intro b2
  refine G.dyn rfl rfl rfl ?_
  refine Dyn.allocAgg ?_
  intro b4
  refine G.nil ?_
  -- draws its order
  refine C.draw_seq (_) mixed (by kernel_rfl) (Incl.refl _) ?_
  refine GD.val 0 rfl rfl rfl rfl (by kernel_rfl) rfl (Sure.fieldAddr rfl) ?_
  refine GD.val 1 rfl rfl rfl rfl (by kernel_rfl) rfl (Sure.load rfl (by first | exact Rd.h0 | exact Rd.tl Rd.h0 | exact Rd.tl (Rd.tl Rd.h0) | exact Rd.tl (Rd.tl (Rd.tl Rd.h0)) | exact Rd.tl (Rd.tl (Rd.tl (Rd.tl Rd.h0))) | exact Rd.tl (Rd.tl (Rd.tl (Rd.tl (Rd.tl Rd.h0)))) | exact Rd.m (by assumption) | assumption) rfl) ?_
  refine GD.val 3 rfl rfl rfl rfl (by kernel_rfl) rfl (Sure.fieldAddr rfl) ?_
  refine GD.val 4 rfl rfl rfl rfl (by kernel_rfl) rfl (Sure.load rfl (by first | exact Rd.h0 | exact Rd.tl Rd.h0 | exact Rd.tl (Rd.tl Rd.h0) | exact Rd.tl (Rd.tl (Rd.tl Rd.h0)) | exact Rd.tl (Rd.tl (Rd.tl (Rd.tl Rd.h0))) | exact Rd.tl (Rd.tl (Rd.tl (Rd.tl (Rd.tl Rd.h0)))) | exact Rd.m (by assumption) | assumption) rfl) ?_
  refine GD.one 2 (by kernel_rfl) rfl rfl (by kernel_rfl) ?_
  refine Next.call 2 rfl rfl rfl (by kernel_rfl) (by kernel_rfl) rfl rfl rfl rfl (copied_spec M s.pi s.ci s.inos hs.1 (by omega) hk3) (Split.nil) ?_
  rintro v1 M2 Hi le2 ⟨di, hdi, hok, hI⟩
  refine ⟨(by intro p hp; simp_all), ?_⟩
  refine GD.val 6 rfl rfl rfl rfl (by kernel_rfl) rfl (Sure.fieldAddr rfl) ?_
  refine GD.one 5 (by kernel_rfl) rfl rfl (by kernel_rfl) ?_
  refine Next.call 5 rfl rfl rfl (by kernel_rfl) (by kernel_rfl) rfl rfl rfl rfl (cloneInts_spec M2 s.pb s.cb s.bad.length _ (hs.2.mono le2) (allOne_ints _) (by omega)) (Split.nil) ?_
  rintro v2 M3 Hb le3 hB
  refine ⟨(by intro p hp; simp_all), ?_⟩
  obtain ⟨pi, ci, rfl, -⟩ := hI.slice
  obtain ⟨pb, cb, rfl, -⟩ := hB.slice
  refine GD.one 7 (by kernel_rfl) rfl rfl (by kernel_rfl) ?_
  refine Next.dyn0W 7 rfl rfl (by kernel_rfl) (by kernel_rfl) rfl (by kernel_rfl) ?_
  refine Dyn.store rfl rfl (Pick.over (Pick.over (.there .here))) rfl rfl ?_
  refine ⟨MLe.refl _, [], Incl.nil _, ?_⟩
  refine GD.val 8 rfl rfl rfl rfl (by kernel_rfl) rfl (Sure.fieldAddr rfl) ?_
  refine GD.one 9 (by kernel_rfl) rfl rfl (by kernel_rfl) ?_
  refine Next.dyn0W 9 rfl rfl (by kernel_rfl) (by kernel_rfl) rfl (by kernel_rfl) ?_
  refine Dyn.store rfl rfl Pick.here rfl rfl ?_
  refine ⟨MLe.refl _, [], Incl.nil _, ?_⟩
  refine GD.done (by kernel_rfl) (by kernel_rfl) ?_
  refine C.seq ?_
  refine C.region_seq ?_
  refine G.value rfl rfl rfl (Sure.move rfl) ?_
  refine G.value rfl rfl rfl (Sure.len_slice rfl) ?_
  refine G.value rfl rfl rfl (Sure.move rfl) ?_
  refine G.nil ?_
  refine C.block ?_
  refine C.loop (fun k E M' H => ∃ (a b : List DeedD) (st : Sta) (di : List InoD) (pi pb : Option Addr) (ci cb : Nat) (Hi Hb : Heap), MLe M M' ∧ dl = a ++ b ∧ b.length = k ∧ applyL s.v (a.map DeedD.v) = st ∧ di.map InoD.x = st.inos ∧ (∀ d ∈ di, DOk M' d) ∧ Own 7 (.slice pi di.length ci) di.length (di.map inoDL).flatten Hi ∧ Own 1 (.slice pb st.bad.length cb) st.bad.length (st.bad.map intV) Hb ∧ di.length ≤ s.inos.length + a.length ∧ st.bad.length ≤ s.bad.length + a.length ∧ E = [(2, ptr b2), (4, ptr b4), (15, .slice p dl.length cap), (16, .int .i64 dl.length), (17, .int .i64 a.length)] ∧ H = (b2, .cells [intV st.next, .slice pi di.length ci, .slice pb st.bad.length cb]) :: (b4, .cells [intV 0, .slice Option.none 0 0, .slice Option.none 0 0]) :: (Hi ++ Hb)) (dl.length) ?_ ?_
  · exact ⟨_, _, ⟨[], dl, s.v, di, pi, pb, ci, cb, Hi, Hb, le2.trans le3, rfl, rfl, rfl, hdi, fun d hd => (hok d hd).mono le3, hI, hB, by have := congrArg List.length hdi; simp at this; simp; omega, Nat.le_refl _, rfl, rfl⟩, ⟨rfl, rfl, rfl, rfl, rfl, trivial⟩, _, Split.cons .here (Split.cons (Pick.over (Pick.over .here)) (Split.consL (PickL.over PickL.here) (Split.one PickL.here)))⟩
  · clear hdi hok hI hB le2 le3
    rintro k E M' H ⟨a, b, st, di, pi, pb, ci, cb, Hi, Hb, hle, rfl, hk', hst, hdi, hok, hI, hB, hl1, hl2, rfl, rfl⟩
    have hlen : (a ++ b).length = a.length + b.length := by simp
    refine C.region_seq ?_
    refine G.value rfl rfl rfl (Sure.lss rfl rfl) ?_
    refine G.nil ?_
    refine C.seq ?_
    refine C.cond_dec rfl (fun hlt => ?_) (fun hlt => ?_)
    · cases b with
      | nil => simp at hlt
      | cons x b =>
        obtain ⟨q', o, c, rfl, hrd, hseg⟩ := SlL.row (i := a.length) (e := deedDL x) (SlL.heap (H := (b2, .cells [intV st.next, .slice pi di.length ci, .slice pb st.bad.length cb]) :: (b4, .cells [intV 0, .slice Option.none 0 0, .slice Option.none 0 0]) :: (Hi ++ Hb)) (hd.1.mono hle)) (by simp)
        have hdx : DOk M' x.d := (hd.2 x (by simp)).mono hle
        refine C.skip ?_
        refine Fin.th ?_
        refine C.seq ?_
        refine C.block ?_
        refine C.region_seq ?_
        refine G.value rfl rfl rfl (Sure.indexAddr rfl rfl (by simp; omega)) ?_
        refine G.value rfl rfl rfl (Sure.loadAgg rfl hrd hseg) ?_
        refine G.dyn rfl rfl rfl ?_
        refine Dyn.allocAgg ?_
        intro b6
        refine G.dyn0 rfl rfl ?_
        refine Dyn.storeAgg rfl rfl (by first | exact Pick.here | exact Pick.there Pick.here | exact Pick.there (Pick.there Pick.here) | exact Pick.there (Pick.there (Pick.there Pick.here)) | exact Pick.there (Pick.there (Pick.there (Pick.there Pick.here))) | exact Pick.there (Pick.there (Pick.there (Pick.there (Pick.there Pick.here))))) rfl rfl rfl ?_
        refine G.nil ?_
        refine C.region_seq ?_
        refine G.value rfl rfl rfl (Sure.fieldAddr rfl) ?_
        refine G.value rfl rfl rfl (Sure.load rfl (by first | exact Rd.h0 | exact Rd.tl Rd.h0 | exact Rd.tl (Rd.tl Rd.h0) | exact Rd.tl (Rd.tl (Rd.tl Rd.h0)) | exact Rd.tl (Rd.tl (Rd.tl (Rd.tl Rd.h0))) | exact Rd.tl (Rd.tl (Rd.tl (Rd.tl (Rd.tl Rd.h0)))) | exact Rd.m (by assumption) | assumption) rfl) ?_
        refine G.nil ?_
        refine C.block ?_
        refine C.region_seq ?_
        refine G.value rfl rfl rfl (Sure.eql rfl rfl) ?_
        refine G.value rfl rfl rfl (Sure.assign rfl) ?_
        refine G.nil ?_
        refine C.cond_dec rfl (fun h1 => ?_) (fun h1 => ?_)
        · have h1 : x.kind = 1 := h1
          refine C.region ?_
          refine G.value rfl rfl rfl (Sure.fieldAddr rfl) ?_
          refine G.value rfl rfl rfl (Sure.load rfl (by first | exact Rd.h0 | exact Rd.tl Rd.h0 | exact Rd.tl (Rd.tl Rd.h0) | exact Rd.tl (Rd.tl (Rd.tl Rd.h0)) | exact Rd.tl (Rd.tl (Rd.tl (Rd.tl Rd.h0))) | exact Rd.tl (Rd.tl (Rd.tl (Rd.tl (Rd.tl Rd.h0)))) | exact Rd.m (by assumption) | assumption) rfl) ?_
          refine G.value rfl rfl rfl (Sure.fieldAddr rfl) ?_
          refine G.dyn0 rfl rfl ?_
          refine Dyn.store rfl rfl (by first | exact Pick.here | exact Pick.there Pick.here | exact Pick.there (Pick.there Pick.here) | exact Pick.there (Pick.there (Pick.there Pick.here)) | exact Pick.there (Pick.there (Pick.there (Pick.there Pick.here))) | exact Pick.there (Pick.there (Pick.there (Pick.there (Pick.there Pick.here))))) rfl rfl ?_
          refine G.nil ?_
          refine Fin.blk ?_
          refine Fin.blk ?_
          refine Fin.th ?_
          refine C.region ?_
          refine G.value rfl rfl rfl (Sure.add rfl rfl (inK64 (by omega))) ?_
          refine G.value rfl rfl rfl (Sure.move rfl) ?_
          refine G.nil ?_
          refine Fin.th ?_
          have hap : applyL s.v ((a ++ [x]).map DeedD.v) = { st with next := x.no } := by
            rw [List.map_append, List.map_cons, List.map_nil, applyL_snoc, hst]
            simp [apply1, DeedD.v, h1]
          refine ⟨b.length, _, _, by simp at hk'; omega, ⟨a ++ [x], b, { st with next := x.no }, di, pi, pb, ci, cb, Hi, Hb, hle, by simp, rfl, hap, hdi, hok, hI, hB, by simp; omega, by simp; omega, rfl, rfl⟩, ⟨rfl, rfl, rfl, rfl, by simp; rfl, trivial⟩, _, Split.cons .here (Split.cons (.there .here) (Split.one (PickL.there PickL.all)))⟩
        · have h1 : ¬ x.kind = 1 := h1
          refine C.region_seq ?_
          refine G.value rfl rfl rfl (Sure.eql rfl rfl) ?_
          refine G.value rfl rfl rfl (Sure.assign rfl) ?_
          refine G.nil ?_
          refine C.cond_dec rfl (fun h2 => ?_) (fun h2 => ?_)
          · have h2 : x.kind = 2 := h2
            refine C.region ?_
            refine G.value rfl rfl rfl (Sure.fieldAddr rfl) ?_
            refine G.value rfl rfl rfl (Sure.load rfl (by first | exact Rd.h0 | exact Rd.tl Rd.h0 | exact Rd.tl (Rd.tl Rd.h0) | exact Rd.tl (Rd.tl (Rd.tl Rd.h0)) | exact Rd.tl (Rd.tl (Rd.tl (Rd.tl Rd.h0))) | exact Rd.tl (Rd.tl (Rd.tl (Rd.tl (Rd.tl Rd.h0)))) | exact Rd.m (by assumption) | assumption) rfl) ?_
            refine G.value rfl rfl rfl (Sure.fieldAddr rfl) ?_
            refine G.value rfl rfl rfl (Sure.loadAgg rfl (by first | exact Rd.h0 | exact Rd.tl Rd.h0 | exact Rd.tl (Rd.tl Rd.h0) | exact Rd.tl (Rd.tl (Rd.tl Rd.h0)) | exact Rd.tl (Rd.tl (Rd.tl (Rd.tl Rd.h0))) | exact Rd.tl (Rd.tl (Rd.tl (Rd.tl (Rd.tl Rd.h0)))) | exact Rd.m (by assumption) | assumption) rfl) ?_
            refine G.call rfl rfl rfl rfl rfl rfl (statePut_spec M' _ di x.d Hi hI hok hdx (hdk x (by simp)) (by omega)) (Split.one (PickL.there (PickL.there (PickL.there PickL.here)))) ?_
            rintro v5 M5 H5 le5 ⟨di5, hdi5, hok5, hI5⟩
            obtain ⟨p5, c5, rfl, -⟩ := hI5.slice
            refine G.value rfl rfl rfl (Sure.fieldAddr rfl) ?_
            refine G.dyn0 rfl rfl ?_
            refine Dyn.store rfl rfl (Pick.over (.there .here)) rfl rfl ?_
            refine G.nil ?_
            refine Fin.blk ?_
            refine Fin.blk ?_
            refine Fin.th ?_
            refine C.region ?_
            refine G.value rfl rfl rfl (Sure.add rfl rfl (inK64 (by omega))) ?_
            refine G.value rfl rfl rfl (Sure.move rfl) ?_
            refine G.nil ?_
            refine Fin.th ?_
            have hl5 : di5.length ≤ di.length + 1 := by
              have h1 := congrArg List.length hdi5
              have h2 := putI_len (di.map InoD.x) x.d.x
              simp at h1 h2; omega
            have hap : applyL s.v ((a ++ [x]).map DeedD.v) = { st with inos := putI st.inos x.d.x } := by
              rw [List.map_append, List.map_cons, List.map_nil, applyL_snoc, hst]
              simp [apply1, DeedD.v, h2]
            refine ⟨b.length, _, _, by simp at hk'; omega, ⟨a ++ [x], b, { st with inos := putI st.inos x.d.x }, di5, p5, pb, c5, cb, H5, Hb, (hle.trans le5), by simp, rfl, hap, (by rw [hdi5, hdi]), hok5, hI5, hB, by simp; omega, by simp; omega, rfl, rfl⟩, ⟨rfl, rfl, rfl, rfl, by simp; rfl, trivial⟩, _, Split.cons .here (Split.cons (Pick.over (.there .here)) (Split.consL PickL.here (Split.one (PickL.there PickL.all))))⟩
          · have h2 : ¬ x.kind = 2 := h2
            refine C.region_seq ?_
            refine G.value rfl rfl rfl (Sure.eql rfl rfl) ?_
            refine G.value rfl rfl rfl (Sure.assign rfl) ?_
            refine G.nil ?_
            refine C.cond_dec rfl (fun h3 => ?_) (fun h3 => ?_)
            · have h3 : x.kind = 3 := h3
              refine C.region ?_
              refine G.value rfl rfl rfl (Sure.fieldAddr rfl) ?_
              refine G.value rfl rfl rfl (Sure.load rfl (by first | exact Rd.h0 | exact Rd.tl Rd.h0 | exact Rd.tl (Rd.tl Rd.h0) | exact Rd.tl (Rd.tl (Rd.tl Rd.h0)) | exact Rd.tl (Rd.tl (Rd.tl (Rd.tl Rd.h0))) | exact Rd.tl (Rd.tl (Rd.tl (Rd.tl (Rd.tl Rd.h0)))) | exact Rd.m (by assumption) | assumption) rfl) ?_
              refine G.value rfl rfl rfl (Sure.makeFunc rfl) ?_
              refine G.call rfl rfl rfl rfl rfl rfl (deleteFunc_spec M' _ di Hi [(b6, .cells (deedDL x))] 50 [ptr b6] (fun d => decide (d.x.no = x.no)) hI (by omega) (fun d _ M' _ => apply1_spec_del M' b6 d x)) (Split.consL (PickL.there (PickL.there (PickL.there PickL.here))) (Split.cons .here Split.nil)) ?_
              rintro v5 M5 H5 le5 hI5
              obtain ⟨p5, c5, rfl, -⟩ := hI5.slice
              refine G.value rfl rfl rfl (Sure.fieldAddr rfl) ?_
              refine G.dyn0 rfl rfl ?_
              refine Dyn.store rfl rfl (Pick.over .here) rfl rfl ?_
              refine G.nil ?_
              refine Fin.blk ?_
              refine Fin.blk ?_
              refine Fin.th ?_
              refine C.region ?_
              refine G.value rfl rfl rfl (Sure.add rfl rfl (inK64 (by omega))) ?_
              refine G.value rfl rfl rfl (Sure.move rfl) ?_
              refine G.nil ?_
              refine Fin.th ?_
              have hl5 := List.length_filter_le (fun d : InoD => !decide (d.x.no = x.no)) di
              have hap : applyL s.v ((a ++ [x]).map DeedD.v) = { st with inos := st.inos.filter fun z => !decide (z.no = x.no) } := by
                rw [List.map_append, List.map_cons, List.map_nil, applyL_snoc, hst]
                simp [apply1, DeedD.v, h3]
              refine ⟨b.length, _, _, by simp at hk'; omega, ⟨a ++ [x], b, { st with inos := st.inos.filter fun z => !decide (z.no = x.no) }, (di.filter fun d => !decide (d.x.no = x.no)), p5, pb, c5, cb, H5, Hb, (hle.trans le5), by simp, rfl, hap, (by rw [← hdi, List.filter_map]; rfl), (fun d hd => (hok d (List.mem_filter.1 hd).1).mono le5), hI5, hB, by simp; omega, by simp; omega, rfl, rfl⟩, ⟨rfl, rfl, rfl, rfl, by simp; rfl, trivial⟩, _, Split.cons .here (Split.cons (Pick.over .here) (Split.consL PickL.here (Split.one PickL.all)))⟩
            · have h3 : ¬ x.kind = 3 := h3
              refine C.region_seq ?_
              refine G.value rfl rfl rfl (Sure.eql rfl rfl) ?_
              refine G.value rfl rfl rfl (Sure.assign rfl) ?_
              refine G.nil ?_
              refine C.cond_dec rfl (fun h4 => ?_) (fun h4 => ?_)
              · have h4 : x.kind = 4 := h4
                refine C.region ?_
                refine G.value rfl rfl rfl (Sure.fieldAddr rfl) ?_
                refine G.value rfl rfl rfl (Sure.load rfl (by first | exact Rd.h0 | exact Rd.tl Rd.h0 | exact Rd.tl (Rd.tl Rd.h0) | exact Rd.tl (Rd.tl (Rd.tl Rd.h0)) | exact Rd.tl (Rd.tl (Rd.tl (Rd.tl Rd.h0))) | exact Rd.tl (Rd.tl (Rd.tl (Rd.tl (Rd.tl Rd.h0)))) | exact Rd.m (by assumption) | assumption) rfl) ?_
                refine G.value rfl rfl rfl (Sure.fieldAddr rfl) ?_
                refine G.value rfl rfl rfl (Sure.load rfl (by first | exact Rd.h0 | exact Rd.tl Rd.h0 | exact Rd.tl (Rd.tl Rd.h0) | exact Rd.tl (Rd.tl (Rd.tl Rd.h0)) | exact Rd.tl (Rd.tl (Rd.tl (Rd.tl Rd.h0))) | exact Rd.tl (Rd.tl (Rd.tl (Rd.tl (Rd.tl Rd.h0)))) | exact Rd.m (by assumption) | assumption) rfl) ?_
                refine G.call rfl rfl rfl rfl rfl rfl (bad_spec M' _ st.bad x.no Hb hB (by omega)) (Split.one (PickL.there (PickL.there (PickL.there (PickL.over PickL.all))))) ?_
                rintro v5 M5 H5 le5 hB5
                obtain ⟨p5, c5, rfl, -⟩ := hB5.slice
                refine G.value rfl rfl rfl (Sure.fieldAddr rfl) ?_
                refine G.dyn0 rfl rfl ?_
                refine Dyn.store rfl rfl (Pick.over (.there .here)) rfl rfl ?_
                refine G.nil ?_
                refine Fin.blk ?_
                refine Fin.blk ?_
                refine Fin.th ?_
                refine C.region ?_
                refine G.value rfl rfl rfl (Sure.add rfl rfl (inK64 (by omega))) ?_
                refine G.value rfl rfl rfl (Sure.move rfl) ?_
                refine G.nil ?_
                refine Fin.th ?_
                have hl5 := badI_len st.bad x.no
                have hap : applyL s.v ((a ++ [x]).map DeedD.v) = { st with bad := badI st.bad x.no } := by
                  rw [List.map_append, List.map_cons, List.map_nil, applyL_snoc, hst]
                  simp [apply1, DeedD.v, h4]
                refine ⟨b.length, _, _, by simp at hk'; omega, ⟨a ++ [x], b, { st with bad := badI st.bad x.no }, di, pi, p5, ci, c5, Hi, H5, (hle.trans le5), by simp, rfl, hap, hdi, (fun d hd => (hok d hd).mono le5), hI, hB5, by simp; omega, by simp; omega, rfl, rfl⟩, ⟨rfl, rfl, rfl, rfl, by simp; rfl, trivial⟩, _, Split.cons .here (Split.cons (Pick.over (.there .here)) (Split.consL (PickL.over (PickL.there PickL.here)) (Split.one PickL.here)))⟩
              · have h4 : ¬ x.kind = 4 := h4
                refine C.skip ?_
                refine Fin.blk ?_
                refine Fin.blk ?_
                refine Fin.th ?_
                refine C.region ?_
                refine G.value rfl rfl rfl (Sure.add rfl rfl (inK64 (by omega))) ?_
                refine G.value rfl rfl rfl (Sure.move rfl) ?_
                refine G.nil ?_
                refine Fin.th ?_
                have hap : applyL s.v ((a ++ [x]).map DeedD.v) = st := by
                  rw [List.map_append, List.map_cons, List.map_nil, applyL_snoc, hst]
                  simp [apply1, DeedD.v, h1, h2, h3, h4]
                refine ⟨b.length, _, _, by simp at hk'; omega, ⟨a ++ [x], b, st, di, pi, pb, ci, cb, Hi, Hb, hle, by simp, rfl, hap, hdi, hok, hI, hB, by simp; omega, by simp; omega, rfl, rfl⟩, ⟨rfl, rfl, rfl, rfl, by simp; rfl, trivial⟩, _, Split.cons (.there .here) (Split.cons (.there .here) (Split.one (PickL.there PickL.all)))⟩
    · have hb0 : b = [] := List.eq_nil_of_length_eq_zero (by omega)
      subst hb0
      refine C.exit ?_
      refine Fin.th_exit ?_
      refine Fin.th_exit ?_
      refine Fin.blk_eq ?_
      refine Fin.th ?_
      refine C.region_seq ?_
      refine G.value rfl rfl rfl (Sure.loadAgg rfl (by first | exact Rd.h0 | exact Rd.tl Rd.h0 | exact Rd.tl (Rd.tl Rd.h0) | exact Rd.tl (Rd.tl (Rd.tl Rd.h0)) | exact Rd.tl (Rd.tl (Rd.tl (Rd.tl Rd.h0))) | exact Rd.tl (Rd.tl (Rd.tl (Rd.tl (Rd.tl Rd.h0)))) | exact Rd.m (by assumption) | assumption) rfl) ?_
      refine G.dyn0 rfl rfl ?_
      refine Dyn.storeAgg rfl rfl (by first | exact Pick.here | exact Pick.there Pick.here | exact Pick.there (Pick.there Pick.here) | exact Pick.there (Pick.there (Pick.there Pick.here)) | exact Pick.there (Pick.there (Pick.there (Pick.there Pick.here))) | exact Pick.there (Pick.there (Pick.there (Pick.there (Pick.there Pick.here))))) rfl rfl rfl ?_
      refine G.nil ?_
      refine C.donateOwn hI (PickL.there (PickL.there PickL.here)) ?_
      rintro M5 p5 c5 le5 heq hs5
      injection heq with e1 e2 e3
      subst e1; subst e3
      refine C.donateOwn hB (PickL.there (PickL.there PickL.all)) ?_
      rintro M6 p6 c6 le6 heq hs6
      injection heq with e1 e2 e3
      subst e1; subst e3
      refine C.ret ?_
      refine Fin.fn (Res.cellAgg rfl rfl (by first | exact Rd.h0 | exact Rd.tl Rd.h0 | exact Rd.tl (Rd.tl Rd.h0) | exact Rd.tl (Rd.tl (Rd.tl Rd.h0)) | exact Rd.tl (Rd.tl (Rd.tl (Rd.tl Rd.h0))) | exact Rd.tl (Rd.tl (Rd.tl (Rd.tl (Rd.tl Rd.h0)))) | exact Rd.m (by assumption) | assumption) rfl) Split.nil ⟨rfl, ⟨st.next, di, pi, ci, st.bad, pb, cb⟩, ?_, rfl, ⟨⟨⟨?_, ?_⟩, fun d hd => ((hok d hd).mono le5).mono le6⟩, hs6⟩⟩
      · rw [List.append_nil, hst]
        unfold StaD.v
        rw [hdi]
      · intro e he; obtain ⟨x, _, rfl⟩ := List.mem_map.1 he; rfl
      · rw [List.length_map]; exact hs5.mono le6
end Go.Proofs.Ytaeeahcokiebdaa
