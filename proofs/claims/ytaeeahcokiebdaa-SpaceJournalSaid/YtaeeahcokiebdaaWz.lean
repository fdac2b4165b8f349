/-
  The walk of committing.
-/
import Derived.Test.YtaeeahcokiebdaaWy
namespace Go.Proofs.Ytaeeahcokiebdaa
set_option maxRecDepth 20000

/-- What committing leads to: the chip, the journal, the state, and what it tells. -/
def commit (ch : Chip) (j : Jr) (s : Sta) (l : List Deed) : (Chip × Jr × Sta) × Int :=
  if j.ended = true then ((ch, j, s), 6)
  else if hsz ch.g < j.used + ((deedsB l).length + 7) then
    (((anewC ch j (applyL s l)).1, anewJ ch j (applyL s l), anewS ch j (applyL s l) s (applyL s l)), (anewC ch j (applyL s l)).2)
  else if (ch.append j.half j.used (deedsB l)).2 ≠ 0 then (((ch.append j.half j.used (deedsB l)).1, { j with ended := true }, s), (ch.append j.half j.used (deedsB l)).2)
  else (((ch.append j.half j.used (deedsB l)).1, { j with used := j.used + ((deedsB l).length + 7) }, applyL s l), 0)
theorem commit_spec (M : Mem) (jb : Nat) (ad : Ad) (ch : Chip) (j : Jr) (s : StaD) (p : Option Addr) (cap : Nat) (dl : List DeedD) (hok : ChipOk ad ch) (hj : JOk j ch.g) (hs : SOk M s) (hk : StaOk s.v) (hd : RDeeds M p dl)
    (hdk : ∀ d ∈ dl, InoOk d.d.x) (hl : dl.length ≤ 100000) (hb : (deedsB (dl.map DeedD.v)).length ≤ 10000000) (hk2 : StaOk (applyL s.v (dl.map DeedD.v))) (hb2 : (deedsB (whole (applyL s.v (dl.map DeedD.v)))).length ≤ 10000000) :
    Spec Try.prog 11 [ptr jb, .slice p dl.length cap] M ((jb, .cells (jrL ad.cb j s)) :: chipH ad ch)
      (fun v M' H => v = .int .i64 (commit ch j s.v (dl.map DeedD.v)).2 ∧ ∃ s' : StaD, s'.v = (commit ch j s.v (dl.map DeedD.v)).1.2.2 ∧ SOk M' s' ∧
        H = (jb, .cells (jrL ad.cb (commit ch j s.v (dl.map DeedD.v)).1.2.1 s')) :: chipH ad (commit ch j s.v (dl.map DeedD.v)).1.1) := by
  obtain ⟨hz, hz1, hz2, hz3⟩ := hsz_int hok.geo
  have hus := hj.used
  refine Spec.of_code 72 Try.func11 rfl callable11 rfl rfl fun w => ?_
  refine C.region_seq ?_
  refine G.value rfl rfl rfl (Sure.assign rfl) ?_
  refine G.nil ?_
  refine C.seq ?_
  refine C.block ?_
  refine C.region_seq ?_
  refine G.value rfl rfl rfl (Sure.move rfl) ?_
  refine G.value rfl rfl rfl (ptr_eq_f rfl rfl) ?_
  refine G.value rfl rfl rfl (Sure.assign rfl) ?_
  refine G.nil ?_
  refine C.cond_false rfl ?_
  refine C.region_seq ?_
  refine G.value rfl rfl rfl (Sure.move rfl) ?_
  refine G.value rfl rfl rfl (Sure.nilCheck rfl) ?_
  refine G.value rfl rfl rfl (Sure.fieldAddr rfl) ?_
  refine G.value rfl rfl rfl (Sure.load rfl (by first | exact Rd.h0 | exact Rd.tl Rd.h0 | exact Rd.tl (Rd.tl Rd.h0) | exact Rd.tl (Rd.tl (Rd.tl Rd.h0)) | exact Rd.tl (Rd.tl (Rd.tl (Rd.tl Rd.h0))) | exact Rd.tl (Rd.tl (Rd.tl (Rd.tl (Rd.tl Rd.h0)))) | exact Rd.m (by assumption) | assumption) rfl) ?_
  refine G.value rfl rfl rfl (Sure.assign rfl) ?_
  refine G.nil ?_
  refine C.cond rfl (fun hend => ?_) (fun hend => ?_)
  · refine C.region_seq ?_
    refine G.value rfl rfl rfl (Sure.assign rfl) ?_
    refine G.nil ?_
    refine C.ret ?_
    refine Fin.blk_ret ?_
    refine Fin.th_ret ?_
    refine Fin.fn (Res.tmp rfl rfl) (Split.one PickL.all) ?_
    unfold commit
    rw [if_pos hend]
    exact ⟨rfl, s, rfl, hs, rfl⟩
  · refine C.skip ?_
    refine Fin.blk ?_
    refine Fin.th ?_
    refine C.cut (fun E M' H => ∃ (s' : StaD) (b6 : Nat) (p5 : Option Addr) (c5 : Nat), MLe M M' ∧ esub [(0, ptr jb), (5, .slice p5 (deedsB (dl.map DeedD.v)).length c5), (6, ptr b6)] E ∧ SB M' p5 (deedsB (dl.map DeedD.v)) ∧ SOk M' s' ∧ s'.v = applyL s.v (dl.map DeedD.v) ∧ ∃ R, Split ((b6, .cells (staDL s')) :: (jb, .cells (jrL ad.cb j s)) :: chipH ad ch) H R) ?_ ?_
    · -- draws its order
      refine C.draw ([(jb, .cells (jrL ad.cb j s))]) mixed (by kernel_rfl) (by intro p hp; simp_all) ?_
      refine GD.val 0 rfl rfl rfl rfl (by kernel_rfl) rfl (Sure.move rfl) ?_
      refine GD.val 2 rfl rfl rfl rfl (by kernel_rfl) rfl (Sure.move rfl) ?_
      refine GD.val 3 rfl rfl rfl rfl (by kernel_rfl) rfl (Sure.nilCheck rfl) ?_
      refine GD.val 4 rfl rfl rfl rfl (by kernel_rfl) rfl (Sure.fieldAddr rfl) ?_
      refine GD.val 5 rfl rfl rfl rfl (by kernel_rfl) rfl (Sure.loadAgg rfl (by first | exact Rd.h0 | exact Rd.tl Rd.h0 | exact Rd.tl (Rd.tl Rd.h0) | exact Rd.tl (Rd.tl (Rd.tl Rd.h0)) | exact Rd.tl (Rd.tl (Rd.tl (Rd.tl Rd.h0))) | exact Rd.tl (Rd.tl (Rd.tl (Rd.tl (Rd.tl Rd.h0)))) | exact Rd.m (by assumption) | assumption) rfl) ?_
      refine GD.val 6 rfl rfl rfl rfl (by kernel_rfl) rfl (Sure.move rfl) ?_
      refine GD.two 1 8 (by kernel_rfl) rfl rfl (by kernel_rfl) ?_ ?_
      · refine Next.call 1 rfl rfl rfl (by kernel_rfl) (by kernel_rfl) rfl rfl rfl rfl (deeds_spec M p cap dl hd hb) (Split.nil) ?_
        rintro _ M2 _ le2 ⟨rfl, p5, c5, rfl, hs5⟩
        refine ⟨(by first | exact Incl.refl _ | exact Incl.nil _ | exact Incl.cons (by simp) (Incl.nil _) | exact Incl.cons (by simp) (Incl.cons (by simp) (Incl.nil _)) | exact Incl.cons (by simp) (Incl.cons (by simp) (Incl.cons (by simp) (Incl.nil _)))), ?_⟩
        refine GD.two 7 8 (by kernel_rfl) rfl rfl (by kernel_rfl) ?_ ?_
        · refine Next.call 7 rfl rfl rfl (by kernel_rfl) (by kernel_rfl) rfl rfl rfl rfl (apply_spec M2 s p cap dl (hs.mono le2) hk (hd.mono le2) hdk hl) (Split.nil) ?_
          rintro _ M3 _ le3 ⟨rfl, s', hv', rfl, hs'⟩
          refine ⟨(by first | exact Incl.refl _ | exact Incl.nil _ | exact Incl.cons (by simp) (Incl.nil _) | exact Incl.cons (by simp) (Incl.cons (by simp) (Incl.nil _)) | exact Incl.cons (by simp) (Incl.cons (by simp) (Incl.cons (by simp) (Incl.nil _)))), ?_⟩
          refine GD.one 8 (by kernel_rfl) rfl rfl (by kernel_rfl) ?_
          refine Next.dyn 8 rfl rfl rfl (by kernel_rfl) (by kernel_rfl) rfl ?_
          refine Dyn.allocAgg ?_
          intro b6
          refine ⟨MLe.refl _, (by first | exact Incl.refl _ | exact Incl.nil _ | exact Incl.cons (by simp) (Incl.nil _) | exact Incl.cons (by simp) (Incl.cons (by simp) (Incl.nil _)) | exact Incl.cons (by simp) (Incl.cons (by simp) (Incl.cons (by simp) (Incl.nil _)))), ?_⟩
          refine GD.one 9 (by kernel_rfl) rfl rfl (by kernel_rfl) ?_
          refine Next.dyn 9 rfl rfl rfl (by kernel_rfl) (by kernel_rfl) rfl (Dyn.assign rfl ?_)
          refine ⟨MLe.refl _, (by first | exact Incl.refl _ | exact Incl.nil _ | exact Incl.cons (by simp) (Incl.nil _) | exact Incl.cons (by simp) (Incl.cons (by simp) (Incl.nil _)) | exact Incl.cons (by simp) (Incl.cons (by simp) (Incl.cons (by simp) (Incl.nil _)))), ?_⟩
          refine GD.one 10 (by kernel_rfl) rfl rfl (by kernel_rfl) ?_
          refine Next.dyn0 10 rfl rfl (by kernel_rfl) (by kernel_rfl) rfl ?_
          refine Dyn.storeAgg rfl rfl (by first | exact Pick.here | exact Pick.there Pick.here | exact Pick.there (Pick.there Pick.here) | exact Pick.there (Pick.there (Pick.there Pick.here)) | exact Pick.there (Pick.there (Pick.there (Pick.there Pick.here))) | exact Pick.there (Pick.there (Pick.there (Pick.there (Pick.there Pick.here))))) rfl rfl rfl ?_
          refine ⟨MLe.refl _, (by first | exact Incl.refl _ | exact Incl.nil _ | exact Incl.cons (by simp) (Incl.nil _) | exact Incl.cons (by simp) (Incl.cons (by simp) (Incl.nil _)) | exact Incl.cons (by simp) (Incl.cons (by simp) (Incl.cons (by simp) (Incl.nil _)))), ?_⟩
          refine GD.done (by kernel_rfl) (by kernel_rfl) ?_
          refine Fin.th ?_
          exact ⟨s', b6, p5, c5, le2.trans le3, ⟨rfl, rfl, rfl, trivial⟩, hs5.mono le3, hs', hv', _, Split.cons .here (Split.one PickL.all)⟩
        · refine Next.dyn 8 rfl rfl rfl (by kernel_rfl) (by kernel_rfl) rfl ?_
          refine Dyn.allocAgg ?_
          intro b6
          refine ⟨MLe.refl _, (by intro p hp; simp_all), ?_⟩
          refine GD.one 7 (by kernel_rfl) rfl rfl (by kernel_rfl) ?_
          refine Next.call 7 rfl rfl rfl (by kernel_rfl) (by kernel_rfl) rfl rfl rfl rfl (apply_spec M2 s p cap dl (hs.mono le2) hk (hd.mono le2) hdk hl) (Split.nil) ?_
          rintro _ M3 _ le3 ⟨rfl, s', hv', rfl, hs'⟩
          refine ⟨(by first | exact Incl.refl _ | exact Incl.nil _ | exact Incl.cons (by simp) (Incl.nil _) | exact Incl.cons (by simp) (Incl.cons (by simp) (Incl.nil _)) | exact Incl.cons (by simp) (Incl.cons (by simp) (Incl.cons (by simp) (Incl.nil _)))), ?_⟩
          refine GD.one 9 (by kernel_rfl) rfl rfl (by kernel_rfl) ?_
          refine Next.dyn 9 rfl rfl rfl (by kernel_rfl) (by kernel_rfl) rfl (Dyn.assign rfl ?_)
          refine ⟨MLe.refl _, (by first | exact Incl.refl _ | exact Incl.nil _ | exact Incl.cons (by simp) (Incl.nil _) | exact Incl.cons (by simp) (Incl.cons (by simp) (Incl.nil _)) | exact Incl.cons (by simp) (Incl.cons (by simp) (Incl.cons (by simp) (Incl.nil _)))), ?_⟩
          refine GD.one 10 (by kernel_rfl) rfl rfl (by kernel_rfl) ?_
          refine Next.dyn0 10 rfl rfl (by kernel_rfl) (by kernel_rfl) rfl ?_
          refine Dyn.storeAgg rfl rfl (by first | exact Pick.here | exact Pick.there Pick.here | exact Pick.there (Pick.there Pick.here) | exact Pick.there (Pick.there (Pick.there Pick.here)) | exact Pick.there (Pick.there (Pick.there (Pick.there Pick.here))) | exact Pick.there (Pick.there (Pick.there (Pick.there (Pick.there Pick.here))))) rfl rfl rfl ?_
          refine ⟨MLe.refl _, (by first | exact Incl.refl _ | exact Incl.nil _ | exact Incl.cons (by simp) (Incl.nil _) | exact Incl.cons (by simp) (Incl.cons (by simp) (Incl.nil _)) | exact Incl.cons (by simp) (Incl.cons (by simp) (Incl.cons (by simp) (Incl.nil _)))), ?_⟩
          refine GD.done (by kernel_rfl) (by kernel_rfl) ?_
          refine Fin.th ?_
          exact ⟨s', b6, p5, c5, le2.trans le3, ⟨rfl, rfl, rfl, trivial⟩, hs5.mono le3, hs', hv', _, Split.cons .here (Split.one PickL.all)⟩
      · refine Next.dyn 8 rfl rfl rfl (by kernel_rfl) (by kernel_rfl) rfl ?_
        refine Dyn.allocAgg ?_
        intro b6
        refine ⟨MLe.refl _, (by intro p hp; simp_all), ?_⟩
        refine GD.one 1 (by kernel_rfl) rfl rfl (by kernel_rfl) ?_
        refine Next.call 1 rfl rfl rfl (by kernel_rfl) (by kernel_rfl) rfl rfl rfl rfl (deeds_spec M p cap dl hd hb) (Split.nil) ?_
        rintro _ M2 _ le2 ⟨rfl, p5, c5, rfl, hs5⟩
        refine ⟨(by first | exact Incl.refl _ | exact Incl.nil _ | exact Incl.cons (by simp) (Incl.nil _) | exact Incl.cons (by simp) (Incl.cons (by simp) (Incl.nil _)) | exact Incl.cons (by simp) (Incl.cons (by simp) (Incl.cons (by simp) (Incl.nil _)))), ?_⟩
        refine GD.one 7 (by kernel_rfl) rfl rfl (by kernel_rfl) ?_
        refine Next.call 7 rfl rfl rfl (by kernel_rfl) (by kernel_rfl) rfl rfl rfl rfl (apply_spec M2 s p cap dl (hs.mono le2) hk (hd.mono le2) hdk hl) (Split.nil) ?_
        rintro _ M3 _ le3 ⟨rfl, s', hv', rfl, hs'⟩
        refine ⟨(by first | exact Incl.refl _ | exact Incl.nil _ | exact Incl.cons (by simp) (Incl.nil _) | exact Incl.cons (by simp) (Incl.cons (by simp) (Incl.nil _)) | exact Incl.cons (by simp) (Incl.cons (by simp) (Incl.cons (by simp) (Incl.nil _)))), ?_⟩
        refine GD.one 9 (by kernel_rfl) rfl rfl (by kernel_rfl) ?_
        refine Next.dyn 9 rfl rfl rfl (by kernel_rfl) (by kernel_rfl) rfl (Dyn.assign rfl ?_)
        refine ⟨MLe.refl _, (by first | exact Incl.refl _ | exact Incl.nil _ | exact Incl.cons (by simp) (Incl.nil _) | exact Incl.cons (by simp) (Incl.cons (by simp) (Incl.nil _)) | exact Incl.cons (by simp) (Incl.cons (by simp) (Incl.cons (by simp) (Incl.nil _)))), ?_⟩
        refine GD.one 10 (by kernel_rfl) rfl rfl (by kernel_rfl) ?_
        refine Next.dyn0 10 rfl rfl (by kernel_rfl) (by kernel_rfl) rfl ?_
        refine Dyn.storeAgg rfl rfl (by first | exact Pick.here | exact Pick.there Pick.here | exact Pick.there (Pick.there Pick.here) | exact Pick.there (Pick.there (Pick.there Pick.here)) | exact Pick.there (Pick.there (Pick.there (Pick.there Pick.here))) | exact Pick.there (Pick.there (Pick.there (Pick.there (Pick.there Pick.here))))) rfl rfl rfl ?_
        refine ⟨MLe.refl _, (by first | exact Incl.refl _ | exact Incl.nil _ | exact Incl.cons (by simp) (Incl.nil _) | exact Incl.cons (by simp) (Incl.cons (by simp) (Incl.nil _)) | exact Incl.cons (by simp) (Incl.cons (by simp) (Incl.cons (by simp) (Incl.nil _)))), ?_⟩
        refine GD.done (by kernel_rfl) (by kernel_rfl) ?_
        refine Fin.th ?_
        exact ⟨s', b6, p5, c5, le2.trans le3, ⟨rfl, rfl, rfl, trivial⟩, hs5.mono le3, hs', hv', _, Split.cons .here (Split.one PickL.all)⟩
    · rintro E M' H ⟨s', b6, p5, c5, le3, hsub, hs5, hs', hv', R, hspl⟩
      refine C.weak hsub (C.sub hspl ?_)
      clear hspl hsub
      refine C.region_seq ?_
      refine G.value rfl rfl rfl (Sure.move rfl) ?_
      refine G.value rfl rfl rfl (Sure.len_slice rfl) ?_
      refine G.call rfl rfl rfl rfl rfl rfl (size_spec M' (deedsB (dl.map DeedD.v)).length (by omega)) (Split.nil) ?_
      rintro _ M4 _ le4 ⟨rfl, rfl⟩
      refine G.value rfl rfl rfl (Sure.assign rfl) ?_
      refine G.nil ?_
      refine C.seq ?_
      -- draws its order
      refine C.draw_seq ([(jb, .cells (jrL ad.cb j s))]) mixed (by kernel_rfl) (by intro p hp; simp_all) ?_
      refine GD.val 0 rfl rfl rfl rfl (by kernel_rfl) rfl (Sure.move rfl) ?_
      refine GD.val 1 rfl rfl rfl rfl (by kernel_rfl) rfl (Sure.move rfl) ?_
      refine GD.val 3 rfl rfl rfl rfl (by kernel_rfl) rfl (Sure.move rfl) ?_
      refine GD.val 4 rfl rfl rfl rfl (by kernel_rfl) rfl (Sure.nilCheck rfl) ?_
      refine GD.val 5 rfl rfl rfl rfl (by kernel_rfl) rfl (Sure.fieldAddr rfl) ?_
      refine GD.val 6 rfl rfl rfl rfl (by kernel_rfl) rfl (Sure.load rfl (by first | exact Rd.h0 | exact Rd.tl Rd.h0 | exact Rd.tl (Rd.tl Rd.h0) | exact Rd.tl (Rd.tl (Rd.tl Rd.h0)) | exact Rd.tl (Rd.tl (Rd.tl (Rd.tl Rd.h0))) | exact Rd.tl (Rd.tl (Rd.tl (Rd.tl (Rd.tl Rd.h0)))) | exact Rd.m (by assumption) | assumption) rfl) ?_
      refine GD.one 2 (by kernel_rfl) rfl rfl (by kernel_rfl) ?_
      refine Next.call 2 rfl rfl rfl (by kernel_rfl) (by kernel_rfl) rfl rfl rfl rfl (room_spec M4 jb ad ch j s hok) (Split.cons (.there .here) (Split.cons (.there .here) Split.nil)) ?_
      rintro _ M5 _ le5 ⟨rfl, rfl⟩
      refine ⟨(by intro p hp; simp_all), ?_⟩
      refine GD.val 7 rfl rfl rfl rfl (by kernel_rfl) rfl (Sure.sub rfl rfl (inK64 (by omega))) ?_
      refine GD.val 8 rfl rfl rfl rfl (by kernel_rfl) rfl (Sure.gtr rfl rfl) ?_
      refine GD.done (by kernel_rfl) (by kernel_rfl) ?_
      refine C.cond_dec rfl (fun hbig => ?_) (fun hbig => ?_)
      · have hc : commit ch j s.v (dl.map DeedD.v) = (((anewC ch j (applyL s.v (dl.map DeedD.v))).1, anewJ ch j (applyL s.v (dl.map DeedD.v)), anewS ch j (applyL s.v (dl.map DeedD.v)) s.v (applyL s.v (dl.map DeedD.v))), (anewC ch j (applyL s.v (dl.map DeedD.v))).2) := by
          unfold commit
          rw [if_neg (by rw [hend]; decide), if_pos (by omega)]
        rw [hc, ← hv']
        rw [← hv'] at hk2 hb2
        refine C.region_seq ?_
        refine G.value rfl rfl rfl (Sure.move rfl) ?_
        refine G.value rfl rfl rfl (Sure.loadAgg rfl (by first | exact Rd.h0 | exact Rd.tl Rd.h0 | exact Rd.tl (Rd.tl Rd.h0) | exact Rd.tl (Rd.tl (Rd.tl Rd.h0)) | exact Rd.tl (Rd.tl (Rd.tl (Rd.tl Rd.h0))) | exact Rd.tl (Rd.tl (Rd.tl (Rd.tl (Rd.tl Rd.h0)))) | exact Rd.m (by assumption) | assumption) rfl) ?_
        refine G.call rfl rfl rfl rfl rfl rfl (anew_spec M5 jb ad ch j s s' hok hj (hs'.mono (le4.trans le5)) hk2 hb2) (Split.cons .here (Split.cons .here (Split.cons (.there .here) (Split.cons (.there .here) (Split.cons (.there .here) Split.nil))))) ?_
        rintro _ M6 _ le6 ⟨rfl, rfl⟩
        refine G.value rfl rfl rfl (Sure.assign rfl) ?_
        refine G.nil ?_
        refine C.ret ?_
        refine Fin.th_ret ?_
        refine Fin.fn (Res.tmp rfl rfl) (Split.cons .here (Split.cons .here (Split.cons .here (Split.cons .here (Split.cons .here Split.nil))))) ⟨rfl, anewS ch j s'.v s s', ?_, ?_, rfl⟩
        · unfold anewS; split <;> rfl
        · unfold anewS
          split
          · exact hs.mono (le3.trans (le4.trans (le5.trans le6)))
          · exact hs'.mono (le4.trans (le5.trans le6))
      · have hc : commit ch j s.v (dl.map DeedD.v) = if (ch.append j.half j.used (deedsB (dl.map DeedD.v))).2 ≠ 0 then (((ch.append j.half j.used (deedsB (dl.map DeedD.v))).1, { j with ended := true }, s.v), (ch.append j.half j.used (deedsB (dl.map DeedD.v))).2)
            else (((ch.append j.half j.used (deedsB (dl.map DeedD.v))).1, { j with used := j.used + ((deedsB (dl.map DeedD.v)).length + 7) }, applyL s.v (dl.map DeedD.v)), 0) := by
          unfold commit
          rw [if_neg (by rw [hend]; decide), if_neg (by omega)]
        rw [hc]
        refine C.skip ?_
        refine Fin.th ?_
        refine C.seq ?_
        -- draws its order
        refine C.draw_seq ([(jb, .cells (jrL ad.cb j s))]) mixed (by kernel_rfl) (by intro p hp; simp_all) ?_
        refine GD.val 0 rfl rfl rfl rfl (by kernel_rfl) rfl (Sure.move rfl) ?_
        refine GD.val 1 rfl rfl rfl rfl (by kernel_rfl) rfl (Sure.nilCheck rfl) ?_
        refine GD.val 2 rfl rfl rfl rfl (by kernel_rfl) rfl (Sure.fieldAddr rfl) ?_
        refine GD.val 3 rfl rfl rfl rfl (by kernel_rfl) rfl (Sure.load rfl (by first | exact Rd.h0 | exact Rd.tl Rd.h0 | exact Rd.tl (Rd.tl Rd.h0) | exact Rd.tl (Rd.tl (Rd.tl Rd.h0)) | exact Rd.tl (Rd.tl (Rd.tl (Rd.tl Rd.h0))) | exact Rd.tl (Rd.tl (Rd.tl (Rd.tl (Rd.tl Rd.h0)))) | exact Rd.m (by assumption) | assumption) rfl) ?_
        refine GD.val 4 rfl rfl rfl rfl (by kernel_rfl) rfl (Sure.move rfl) ?_
        refine GD.val 5 rfl rfl rfl rfl (by kernel_rfl) rfl (Sure.nilCheck rfl) ?_
        refine GD.val 6 rfl rfl rfl rfl (by kernel_rfl) rfl (Sure.fieldAddr rfl) ?_
        refine GD.val 7 rfl rfl rfl rfl (by kernel_rfl) rfl (Sure.load rfl (by first | exact Rd.h0 | exact Rd.tl Rd.h0 | exact Rd.tl (Rd.tl Rd.h0) | exact Rd.tl (Rd.tl (Rd.tl Rd.h0)) | exact Rd.tl (Rd.tl (Rd.tl (Rd.tl Rd.h0))) | exact Rd.tl (Rd.tl (Rd.tl (Rd.tl (Rd.tl Rd.h0)))) | exact Rd.m (by assumption) | assumption) rfl) ?_
        refine GD.val 8 rfl rfl rfl rfl (by kernel_rfl) rfl (Sure.move rfl) ?_
        refine GD.val 9 rfl rfl rfl rfl (by kernel_rfl) rfl (Sure.nilCheck rfl) ?_
        refine GD.val 10 rfl rfl rfl rfl (by kernel_rfl) rfl (Sure.fieldAddr rfl) ?_
        refine GD.val 11 rfl rfl rfl rfl (by kernel_rfl) rfl (Sure.load rfl (by first | exact Rd.h0 | exact Rd.tl Rd.h0 | exact Rd.tl (Rd.tl Rd.h0) | exact Rd.tl (Rd.tl (Rd.tl Rd.h0)) | exact Rd.tl (Rd.tl (Rd.tl (Rd.tl Rd.h0))) | exact Rd.tl (Rd.tl (Rd.tl (Rd.tl (Rd.tl Rd.h0)))) | exact Rd.m (by assumption) | assumption) rfl) ?_
        refine GD.val 12 rfl rfl rfl rfl (by kernel_rfl) rfl (Sure.move rfl) ?_
        refine GD.one 13 (by kernel_rfl) rfl rfl (by kernel_rfl) ?_
        refine Next.call 13 rfl rfl rfl (by kernel_rfl) (by kernel_rfl) rfl rfl rfl rfl (append_spec M5 ad ch j.half j.used p5 c5 (deedsB (dl.map DeedD.v)) hok hj.half hus (SB.mono hs5 (le4.trans le5)) (by omega)) (Split.cons (.there .here) (Split.cons (.there (.there .here)) (Split.cons (.there (.there .here)) (Split.cons (.there (.there .here)) Split.nil)))) ?_
        rintro _ M6 _ le6 ⟨rfl, rfl⟩
        refine ⟨(by intro p hp; simp_all), ?_⟩
        refine GD.one 14 (by kernel_rfl) rfl rfl (by kernel_rfl) ?_
        refine Next.dyn 14 rfl rfl rfl (by kernel_rfl) (by kernel_rfl) rfl (Dyn.assign rfl ?_)
        refine ⟨MLe.refl _, (by first | exact Incl.refl _ | exact Incl.nil _ | exact Incl.cons (by simp) (Incl.nil _) | exact Incl.cons (by simp) (Incl.cons (by simp) (Incl.nil _)) | exact Incl.cons (by simp) (Incl.cons (by simp) (Incl.cons (by simp) (Incl.nil _)))), ?_⟩
        refine GD.done (by kernel_rfl) (by kernel_rfl) ?_
        refine C.region_seq ?_
        refine G.value rfl rfl rfl (Sure.move rfl) ?_
        refine G.value rfl rfl rfl (Sure.neq rfl rfl) ?_
        refine G.nil ?_
        refine C.cond_dec rfl (fun hne => ?_) (fun hne => ?_)
        · rw [if_pos hne]
          refine C.region_seq ?_
          refine G.value rfl rfl rfl (Sure.move rfl) ?_
          refine G.value rfl rfl rfl (Sure.nilCheck rfl) ?_
          refine G.value rfl rfl rfl (Sure.fieldAddr rfl) ?_
          refine G.dyn0 rfl rfl ?_
          refine Dyn.store rfl rfl (by first | exact Pick.here | exact Pick.there Pick.here | exact Pick.there (Pick.there Pick.here) | exact Pick.there (Pick.there (Pick.there Pick.here)) | exact Pick.there (Pick.there (Pick.there (Pick.there Pick.here))) | exact Pick.there (Pick.there (Pick.there (Pick.there (Pick.there Pick.here))))) rfl rfl ?_
          refine G.nil ?_
          refine C.region_seq ?_
          refine G.value rfl rfl rfl (Sure.move rfl) ?_
          refine G.value rfl rfl rfl (Sure.assign rfl) ?_
          refine G.nil ?_
          refine C.ret ?_
          refine Fin.th_ret ?_
          exact Fin.fn (Res.tmp rfl rfl) (Split.cons .here (Split.cons .here (Split.cons .here (Split.cons .here (Split.cons .here Split.nil))))) ⟨rfl, s, rfl, hs.mono (le3.trans (le4.trans (le5.trans le6))), rfl⟩
        · rw [if_neg hne]
          refine C.skip ?_
          refine Fin.th ?_
          refine C.region_seq ?_
          refine G.value rfl rfl rfl (Sure.move rfl) ?_
          refine G.value rfl rfl rfl (Sure.nilCheck rfl) ?_
          refine G.value rfl rfl rfl (Sure.fieldAddr rfl) ?_
          refine G.value rfl rfl rfl (Sure.load rfl (by first | exact Rd.h0 | exact Rd.tl Rd.h0 | exact Rd.tl (Rd.tl Rd.h0) | exact Rd.tl (Rd.tl (Rd.tl Rd.h0)) | exact Rd.tl (Rd.tl (Rd.tl (Rd.tl Rd.h0))) | exact Rd.tl (Rd.tl (Rd.tl (Rd.tl (Rd.tl Rd.h0)))) | exact Rd.m (by assumption) | assumption) rfl) ?_
          refine G.value rfl rfl rfl (Sure.move rfl) ?_
          refine G.value rfl rfl rfl (Sure.add rfl rfl (inK64 (by omega))) ?_
          refine G.value rfl rfl rfl (Sure.nilCheck rfl) ?_
          refine G.value rfl rfl rfl (Sure.fieldAddr rfl) ?_
          refine G.dyn0 rfl rfl ?_
          refine Dyn.store rfl rfl (by first | exact Pick.here | exact Pick.there Pick.here | exact Pick.there (Pick.there Pick.here) | exact Pick.there (Pick.there (Pick.there Pick.here)) | exact Pick.there (Pick.there (Pick.there (Pick.there Pick.here))) | exact Pick.there (Pick.there (Pick.there (Pick.there (Pick.there Pick.here))))) rfl rfl ?_
          refine G.nil ?_
          refine C.region_seq ?_
          refine G.value rfl rfl rfl (Sure.move rfl) ?_
          refine G.value rfl rfl rfl (Sure.loadAgg rfl (by first | exact Rd.h0 | exact Rd.tl Rd.h0 | exact Rd.tl (Rd.tl Rd.h0) | exact Rd.tl (Rd.tl (Rd.tl Rd.h0)) | exact Rd.tl (Rd.tl (Rd.tl (Rd.tl Rd.h0))) | exact Rd.tl (Rd.tl (Rd.tl (Rd.tl (Rd.tl Rd.h0)))) | exact Rd.m (by assumption) | assumption) rfl) ?_
          refine G.value rfl rfl rfl (Sure.nilCheck rfl) ?_
          refine G.value rfl rfl rfl (Sure.fieldAddr rfl) ?_
          refine G.dyn0 rfl rfl ?_
          refine Dyn.storeAgg rfl rfl (by first | exact Pick.here | exact Pick.there Pick.here | exact Pick.there (Pick.there Pick.here) | exact Pick.there (Pick.there (Pick.there Pick.here)) | exact Pick.there (Pick.there (Pick.there (Pick.there Pick.here))) | exact Pick.there (Pick.there (Pick.there (Pick.there (Pick.there Pick.here))))) rfl rfl rfl ?_
          refine G.nil ?_
          refine C.region_seq ?_
          refine G.value rfl rfl rfl (Sure.assign rfl) ?_
          refine G.nil ?_
          refine C.ret ?_
          exact Fin.fn (Res.tmp rfl rfl) (Split.cons .here (Split.cons .here (Split.cons .here (Split.cons .here (Split.cons .here Split.nil))))) ⟨rfl, s', hv', hs'.mono (le4.trans (le5.trans le6)), rfl⟩
end Go.Proofs.Ytaeeahcokiebdaa
