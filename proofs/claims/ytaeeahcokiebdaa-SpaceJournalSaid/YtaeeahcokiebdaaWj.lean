/-
  The walk of deeds as bytes.
  Conditions: the bytes are at most ten million.
-/
import Derived.Test.YtaeeahcokiebdaaWi
namespace Go.Proofs.Ytaeeahcokiebdaa
set_option maxRecDepth 20000

theorem deedB_pos (d : Deed) : 1 ≤ (deedB d).length := by simp [deedB]
theorem deeds_spec (M : Mem) (p : Option Addr) (cap : Nat) (l : List DeedD) (hd : RDeeds M p l) (hb : (deedsB (l.map DeedD.v)).length ≤ 10000000) :
    Spec Try.prog 24 [.slice p l.length cap] M [] (fun r M' H => RetB (deedsB (l.map DeedD.v)) r M' H) := by
  have hll : l.length ≤ (deedsB (l.map DeedD.v)).length := by
    unfold deedsB
    clear hb hd
    induction l with
    | nil => simp
    | cons e l ih => have := deedB_pos e.v; simp at ih ⊢; omega
  refine Spec.of_code 35 Try.func24 rfl callable24 rfl rfl fun w => ?_
  refine C.region_seq ?_
  refine G.value rfl rfl rfl (Sure.assign rfl) ?_
  refine G.nil ?_
  refine C.region_seq ?_
  refine G.value rfl rfl rfl (Sure.assign rfl) ?_
  refine G.nil ?_
  refine C.seq ?_
  refine C.region_seq ?_
  refine G.value rfl rfl rfl (Sure.move rfl) ?_
  refine G.value rfl rfl rfl (Sure.len_slice rfl) ?_
  refine G.value rfl rfl rfl (Sure.move rfl) ?_
  refine G.nil ?_
  refine C.block ?_
  refine C.loop (fun k E M' H => ∃ (a b : List DeedD) (v : Value), MLe M M' ∧ l = a ++ b ∧ b.length = k ∧ RetB (deedsB (a.map DeedD.v)) v M' H ∧ E = [(3, v), (6, .slice p l.length cap), (7, .int .i64 l.length), (8, .int .i64 a.length)]) (l.length) ?_ ?_
  · exact ⟨_, _, ⟨[], l, _, MLe.refl _, rfl, rfl, ⟨rfl, Option.none, 0, rfl, Sl.empty⟩, rfl⟩, ⟨rfl, rfl, rfl, rfl, trivial⟩, _, Split.nil⟩
  · rintro k E M' H ⟨a, b, v, hle, rfl, hk, ⟨rfl, p1, c1, rfl, hsb⟩, rfl⟩
    have hfl : (deedsB ((a ++ b).map DeedD.v)).length = (deedsB (a.map DeedD.v)).length + (deedsB (b.map DeedD.v)).length := by simp [deedsB]
    have hlen : (a ++ b).length = a.length + b.length := by simp
    refine C.region_seq ?_
    refine G.value rfl rfl rfl (Sure.lss rfl rfl) ?_
    refine G.nil ?_
    refine C.seq ?_
    refine C.cond_dec rfl (fun hlt => ?_) (fun hlt => ?_)
    · cases b with
      | nil => simp at hlt
      | cons x b =>
        have hxl : (deedsB ((x :: b).map DeedD.v)).length = (deedB x.v).length + (deedsB (b.map DeedD.v)).length := by simp [deedsB]
        obtain ⟨q', o, c, rfl, hrd, hseg⟩ := SlL.row (i := a.length) (e := deedDL x) (SlL.heap (H := []) (hd.1.mono hle)) (by simp)
        have hdx : DOk M' x.d := (hd.2 x (by simp)).mono hle
        refine C.skip ?_
        refine Fin.th ?_
        refine C.seq ?_
        refine C.block ?_
        refine C.region_seq ?_
        refine G.value rfl rfl rfl (Sure.indexAddr rfl rfl (by simp; omega)) ?_
        refine G.value rfl rfl rfl (Sure.loadAgg rfl hrd hseg) ?_
        refine G.dyn rfl rfl rfl ?_
        refine Dyn.allocAgg ?_
        intro b5
        refine G.dyn0 rfl rfl ?_
        refine Dyn.storeAgg rfl rfl (by first | exact Pick.here | exact Pick.there Pick.here | exact Pick.there (Pick.there Pick.here) | exact Pick.there (Pick.there (Pick.there Pick.here)) | exact Pick.there (Pick.there (Pick.there (Pick.there Pick.here))) | exact Pick.there (Pick.there (Pick.there (Pick.there (Pick.there Pick.here))))) rfl rfl rfl ?_
        refine G.nil ?_
        refine C.region_seq ?_
        refine G.value rfl rfl rfl (Sure.move rfl) ?_
        refine G.value rfl rfl rfl (Sure.fieldAddr rfl) ?_
        refine G.value rfl rfl rfl (Sure.load rfl (by first | exact Rd.h0 | exact Rd.tl Rd.h0 | exact Rd.tl (Rd.tl Rd.h0) | exact Rd.tl (Rd.tl (Rd.tl Rd.h0)) | exact Rd.tl (Rd.tl (Rd.tl (Rd.tl Rd.h0))) | exact Rd.tl (Rd.tl (Rd.tl (Rd.tl (Rd.tl Rd.h0)))) | exact Rd.m (by assumption) | assumption) rfl) ?_
        refine G.value rfl rfl rfl (Sure.conv' rfl) ?_
        have hw := u64_wrap_bd x.kind
        have hkl : 1 ≤ (deedB x.v).length := deedB_pos _
        rw [show IntKind.u64.wrap x.kind = ((IntKind.u64.wrap x.kind).toNat : Int) from by omega]
        refine G.call rfl rfl rfl rfl rfl rfl ((put_spec M' p1 c1 _ (IntKind.u64.wrap x.kind).toNat 1 hsb (by omega) (by omega) (by omega)).retB) (Split.nil) ?_
        rintro _ M5 _ le5 ⟨rfl, p5, c5, rfl, hs5⟩
        refine G.value rfl rfl rfl (Sure.assign rfl) ?_
        refine G.nil ?_
        refine C.region_seq ?_
        refine G.value rfl rfl rfl (Sure.fieldAddr rfl) ?_
        refine G.value rfl rfl rfl (Sure.load rfl (by first | exact Rd.h0 | exact Rd.tl Rd.h0 | exact Rd.tl (Rd.tl Rd.h0) | exact Rd.tl (Rd.tl (Rd.tl Rd.h0)) | exact Rd.tl (Rd.tl (Rd.tl (Rd.tl Rd.h0))) | exact Rd.tl (Rd.tl (Rd.tl (Rd.tl (Rd.tl Rd.h0)))) | exact Rd.m (by assumption) | assumption) rfl) ?_
        refine G.nil ?_
        refine C.block ?_
        refine C.seq ?_
        refine C.region_seq ?_
        refine G.value rfl rfl rfl (Sure.eql rfl rfl) ?_
        refine G.value rfl rfl rfl (Sure.assign rfl) ?_
        refine G.nil ?_
        refine C.cond_dec rfl (fun h1 => ?_) (fun h1 => ?_)
        · rw [decide_eq_true (show x.kind = 1 from h1)]
          refine C.skip ?_
          refine Fin.th ?_
          refine C.cond_true rfl ?_
          refine C.region ?_
          refine G.value rfl rfl rfl (Sure.move rfl) ?_
          refine G.value rfl rfl rfl (Sure.fieldAddr rfl) ?_
          refine G.value rfl rfl rfl (Sure.load rfl (by first | exact Rd.h0 | exact Rd.tl Rd.h0 | exact Rd.tl (Rd.tl Rd.h0) | exact Rd.tl (Rd.tl (Rd.tl Rd.h0)) | exact Rd.tl (Rd.tl (Rd.tl (Rd.tl Rd.h0))) | exact Rd.tl (Rd.tl (Rd.tl (Rd.tl (Rd.tl Rd.h0)))) | exact Rd.m (by assumption) | assumption) rfl) ?_
          refine G.call rfl rfl rfl rfl rfl rfl ((putInt_spec M5 p5 c5 _ x.no hs5 (by simp only [List.length_append, le_len]; omega)).retB) (Split.nil) ?_
          rintro _ M6 _ le6 ⟨rfl, p6, c6, rfl, hs6⟩
          refine G.value rfl rfl rfl (Sure.assign rfl) ?_
          refine G.nil ?_
          refine Fin.blk ?_
          refine Fin.blk ?_
          refine Fin.th ?_
          refine C.region ?_
          refine G.value rfl rfl rfl (Sure.add rfl rfl (inK64 (by omega))) ?_
          refine G.value rfl rfl rfl (Sure.move rfl) ?_
          refine G.nil ?_
          refine Fin.th ?_
          have e6 : deedsB (a.map DeedD.v) ++ le (IntKind.u64.wrap x.kind).toNat 1 ++ le (IntKind.u64.wrap x.no).toNat 8 = deedsB ((a ++ [x]).map DeedD.v) := by
            have : deedB x.v = le (IntKind.u64.wrap x.kind).toNat 1 ++ intB x.no := by simp [deedB, DeedD.v, show x.kind = 1 from h1]
            simp [deedsB, this, intB]
          rw [e6] at hs6 ⊢
          refine ⟨b.length, _, _, by simp at hk; omega, ⟨a ++ [x], b, _, (hle.trans le5).trans le6, by simp, rfl, ⟨rfl, p6, c6, rfl, hs6⟩, rfl⟩, ⟨rfl, rfl, rfl, by simp; rfl, trivial⟩, _, Split.nil⟩
        · refine C.region_seq ?_
          refine G.value rfl rfl rfl (Sure.eql rfl rfl) ?_
          refine G.value rfl rfl rfl (Sure.assign rfl) ?_
          refine G.nil ?_
          refine C.cond_dec rfl (fun h3 => ?_) (fun h3 => ?_)
          · rw [decide_eq_true (show x.kind = 3 from h3)]
            refine C.skip ?_
            refine Fin.th ?_
            refine C.cond_true rfl ?_
            refine C.region ?_
            refine G.value rfl rfl rfl (Sure.move rfl) ?_
            refine G.value rfl rfl rfl (Sure.fieldAddr rfl) ?_
            refine G.value rfl rfl rfl (Sure.load rfl (by first | exact Rd.h0 | exact Rd.tl Rd.h0 | exact Rd.tl (Rd.tl Rd.h0) | exact Rd.tl (Rd.tl (Rd.tl Rd.h0)) | exact Rd.tl (Rd.tl (Rd.tl (Rd.tl Rd.h0))) | exact Rd.tl (Rd.tl (Rd.tl (Rd.tl (Rd.tl Rd.h0)))) | exact Rd.m (by assumption) | assumption) rfl) ?_
            refine G.call rfl rfl rfl rfl rfl rfl ((putInt_spec M5 p5 c5 _ x.no hs5 (by simp only [List.length_append, le_len]; omega)).retB) (Split.nil) ?_
            rintro _ M6 _ le6 ⟨rfl, p6, c6, rfl, hs6⟩
            refine G.value rfl rfl rfl (Sure.assign rfl) ?_
            refine G.nil ?_
            refine Fin.blk ?_
            refine Fin.blk ?_
            refine Fin.th ?_
            refine C.region ?_
            refine G.value rfl rfl rfl (Sure.add rfl rfl (inK64 (by omega))) ?_
            refine G.value rfl rfl rfl (Sure.move rfl) ?_
            refine G.nil ?_
            refine Fin.th ?_
            have e6 : deedsB (a.map DeedD.v) ++ le (IntKind.u64.wrap x.kind).toNat 1 ++ le (IntKind.u64.wrap x.no).toNat 8 = deedsB ((a ++ [x]).map DeedD.v) := by
              have : deedB x.v = le (IntKind.u64.wrap x.kind).toNat 1 ++ intB x.no := by simp [deedB, DeedD.v, show x.kind = 3 from h3]
              simp [deedsB, this, intB]
            rw [e6] at hs6 ⊢
            refine ⟨b.length, _, _, by simp at hk; omega, ⟨a ++ [x], b, _, (hle.trans le5).trans le6, by simp, rfl, ⟨rfl, p6, c6, rfl, hs6⟩, rfl⟩, ⟨rfl, rfl, rfl, by simp; rfl, trivial⟩, _, Split.nil⟩
          · refine C.region ?_
            refine G.value rfl rfl rfl (Sure.eql rfl rfl) ?_
            refine G.value rfl rfl rfl (Sure.assign rfl) ?_
            refine G.nil ?_
            refine Fin.th ?_
            refine C.cond_dec rfl (fun h4 => ?_) (fun h4 => ?_)
            ·
              refine C.region ?_
              refine G.value rfl rfl rfl (Sure.move rfl) ?_
              refine G.value rfl rfl rfl (Sure.fieldAddr rfl) ?_
              refine G.value rfl rfl rfl (Sure.load rfl (by first | exact Rd.h0 | exact Rd.tl Rd.h0 | exact Rd.tl (Rd.tl Rd.h0) | exact Rd.tl (Rd.tl (Rd.tl Rd.h0)) | exact Rd.tl (Rd.tl (Rd.tl (Rd.tl Rd.h0))) | exact Rd.tl (Rd.tl (Rd.tl (Rd.tl (Rd.tl Rd.h0)))) | exact Rd.m (by assumption) | assumption) rfl) ?_
              refine G.call rfl rfl rfl rfl rfl rfl ((putInt_spec M5 p5 c5 _ x.no hs5 (by simp only [List.length_append, le_len]; omega)).retB) (Split.nil) ?_
              rintro _ M6 _ le6 ⟨rfl, p6, c6, rfl, hs6⟩
              refine G.value rfl rfl rfl (Sure.assign rfl) ?_
              refine G.nil ?_
              refine Fin.blk ?_
              refine Fin.blk ?_
              refine Fin.th ?_
              refine C.region ?_
              refine G.value rfl rfl rfl (Sure.add rfl rfl (inK64 (by omega))) ?_
              refine G.value rfl rfl rfl (Sure.move rfl) ?_
              refine G.nil ?_
              refine Fin.th ?_
              have e6 : deedsB (a.map DeedD.v) ++ le (IntKind.u64.wrap x.kind).toNat 1 ++ le (IntKind.u64.wrap x.no).toNat 8 = deedsB ((a ++ [x]).map DeedD.v) := by
                have : deedB x.v = le (IntKind.u64.wrap x.kind).toNat 1 ++ intB x.no := by simp [deedB, DeedD.v, show x.kind = 4 from h4]
                simp [deedsB, this, intB]
              rw [e6] at hs6 ⊢
              refine ⟨b.length, _, _, by simp at hk; omega, ⟨a ++ [x], b, _, (hle.trans le5).trans le6, by simp, rfl, ⟨rfl, p6, c6, rfl, hs6⟩, rfl⟩, ⟨rfl, rfl, rfl, by simp; rfl, trivial⟩, _, Split.nil⟩
            · refine C.region_seq ?_
              refine G.value rfl rfl rfl (Sure.eql rfl rfl) ?_
              refine G.value rfl rfl rfl (Sure.assign rfl) ?_
              refine G.nil ?_
              refine C.cond_dec rfl (fun h2 => ?_) (fun h2 => ?_)
              · refine C.region ?_
                refine G.value rfl rfl rfl (Sure.move rfl) ?_
                refine G.value rfl rfl rfl (Sure.fieldAddr rfl) ?_
                refine G.value rfl rfl rfl (Sure.loadAgg rfl (by first | exact Rd.h0 | exact Rd.tl Rd.h0 | exact Rd.tl (Rd.tl Rd.h0) | exact Rd.tl (Rd.tl (Rd.tl Rd.h0)) | exact Rd.tl (Rd.tl (Rd.tl (Rd.tl Rd.h0))) | exact Rd.tl (Rd.tl (Rd.tl (Rd.tl (Rd.tl Rd.h0)))) | exact Rd.m (by assumption) | assumption) rfl) ?_
                have hkv : deedB x.v = le (IntKind.u64.wrap x.kind).toNat 1 ++ inoB x.d.x := by simp [deedB, DeedD.v, show x.kind = 2 from h2]
                have hkl2 : (deedB x.v).length = 1 + (inoB x.d.x).length := by rw [hkv]; simp
                refine G.call rfl rfl rfl rfl rfl rfl (pack_inode_spec M5 p5 c5 _ x.d hs5 (hdx.mono le5) (by simp only [List.length_append, le_len]; omega)) (Split.nil) ?_
                rintro _ M6 _ le6 ⟨rfl, p6, c6, rfl, hs6⟩
                refine G.value rfl rfl rfl (Sure.assign rfl) ?_
                refine G.nil ?_
                refine Fin.blk ?_
                refine Fin.blk ?_
                refine Fin.th ?_
                refine C.region ?_
                refine G.value rfl rfl rfl (Sure.add rfl rfl (inK64 (by omega))) ?_
                refine G.value rfl rfl rfl (Sure.move rfl) ?_
                refine G.nil ?_
                refine Fin.th ?_
                have e6 : deedsB (a.map DeedD.v) ++ le (IntKind.u64.wrap x.kind).toNat 1 ++ inoB x.d.x = deedsB ((a ++ [x]).map DeedD.v) := by
                  simp [deedsB, hkv]
                rw [e6] at hs6 ⊢
                refine ⟨b.length, _, _, by simp at hk; omega, ⟨a ++ [x], b, _, (hle.trans le5).trans le6, by simp, rfl, ⟨rfl, p6, c6, rfl, hs6⟩, rfl⟩, ⟨rfl, rfl, rfl, by simp; rfl, trivial⟩, _, Split.nil⟩
              · refine C.skip ?_
                refine Fin.blk ?_
                refine Fin.blk ?_
                refine Fin.th ?_
                refine C.region ?_
                refine G.value rfl rfl rfl (Sure.add rfl rfl (inK64 (by omega))) ?_
                refine G.value rfl rfl rfl (Sure.move rfl) ?_
                refine G.nil ?_
                refine Fin.th ?_
                have e6 : deedsB (a.map DeedD.v) ++ le (IntKind.u64.wrap x.kind).toNat 1 = deedsB ((a ++ [x]).map DeedD.v) := by
                  have : deedB x.v = le (IntKind.u64.wrap x.kind).toNat 1 := by simp [deedB, DeedD.v, show ¬ x.kind = 1 from h1, show ¬ x.kind = 2 from h2, show ¬ x.kind = 3 from h3, show ¬ x.kind = 4 from h4]
                  simp [deedsB, this]
                rw [e6] at hs5 ⊢
                refine ⟨b.length, _, _, by simp at hk; omega, ⟨a ++ [x], b, _, hle.trans le5, by simp, rfl, ⟨rfl, p5, c5, rfl, hs5⟩, rfl⟩, ⟨rfl, rfl, rfl, by simp; rfl, trivial⟩, _, Split.nil⟩
    · have hb0 : b = [] := List.eq_nil_of_length_eq_zero (by omega)
      subst hb0
      refine C.exit ?_
      refine Fin.th_exit ?_
      refine Fin.th_exit ?_
      refine Fin.blk_eq ?_
      refine Fin.th ?_
      refine C.region_seq ?_
      refine G.value rfl rfl rfl (Sure.move rfl) ?_
      refine G.value rfl rfl rfl (Sure.assign rfl) ?_
      refine G.nil ?_
      refine C.ret ?_
      refine Fin.fn (Res.tmp rfl rfl) Split.nil ⟨rfl, p1, c1, ?_, ?_⟩
      · simp
      · simpa using hsb
end Go.Proofs.Ytaeeahcokiebdaa
