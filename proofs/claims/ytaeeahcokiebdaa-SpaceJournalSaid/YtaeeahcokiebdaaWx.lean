/-
  The walks of bytes that are alike, and of a new chip.
-/
import Derived.Test.YtaeeahcokiebdaaWw
namespace Go.Proofs.Ytaeeahcokiebdaa
set_option maxRecDepth 20000

theorem repeat_spec (M : Mem) (b0 : Nat) (x : UInt8) (n : Nat) (hn : 1 ≤ n ∧ n ≤ 1000000) (hb : M b0 = some [byteV x]) :
    Spec Try.prog 14 [.slice (some ⟨b0, 0, Option.none⟩) 1 1, .int .i64 n] M [] (fun v _ H => ∃ b junk, v = .slice (some ⟨b, 0, Option.none⟩) n n ∧ H = [(b, .cells ((List.replicate n x).map byteV ++ junk))]) := by
  refine Spec.of_code 77 Try.func14 rfl callable14 rfl rfl fun w => ?_
  refine C.region_seq ?_
  refine G.value rfl rfl rfl (Sure.assign rfl) ?_
  refine G.nil ?_
  refine C.seq ?_
  refine C.region_seq ?_
  refine G.value rfl rfl rfl (Sure.move rfl) ?_
  refine G.value rfl rfl rfl ((Sure.eql rfl rfl).to_f (by omega)) ?_
  refine G.nil ?_
  refine C.cond_false rfl ?_
  refine C.skip ?_
  refine Fin.th ?_
  refine C.seq ?_
  refine C.region_seq ?_
  refine G.value rfl rfl rfl (Sure.move rfl) ?_
  refine G.value rfl rfl rfl ((Sure.lss rfl rfl).to_f (by omega)) ?_
  refine G.nil ?_
  refine C.cond_false rfl ?_
  refine C.skip ?_
  refine Fin.th ?_
  refine C.region_seq ?_
  refine G.value rfl rfl rfl (Sure.move rfl) ?_
  refine G.value rfl rfl rfl (Sure.len_slice rfl) ?_
  refine G.value rfl rfl rfl (Sure.conv rfl (inKu64 (by omega))) ?_
  refine G.value rfl rfl rfl (Sure.move rfl) ?_
  refine G.value rfl rfl rfl (Sure.conv rfl (inKu64 (by omega))) ?_
  refine G.call rfl rfl rfl rfl rfl rfl (mul_spec M n (by omega)) (Split.nil) ?_
  rintro _ M1 _ le1 ⟨rfl, rfl⟩
  refine G.value rfl rfl rfl (Sure.move rfl) ?_
  refine G.value rfl rfl rfl (Sure.extract rfl rfl) ?_
  refine G.value rfl rfl rfl (Sure.extract rfl rfl) ?_
  refine G.value rfl rfl rfl (Sure.assign rfl) ?_
  refine G.value rfl rfl rfl (Sure.assign rfl) ?_
  refine G.nil ?_
  refine C.seq ?_
  refine C.region_seq ?_
  refine G.value rfl rfl rfl (Sure.move rfl) ?_
  refine G.value rfl rfl rfl ((Sure.gtr rfl rfl).to_f (by decide)) ?_
  refine G.value rfl rfl rfl (Sure.move rfl) ?_
  refine G.value rfl rfl rfl (Sure.move rfl) ?_
  refine G.value rfl rfl rfl ((Sure.gtr rfl rfl).to_f (by omega)) ?_
  refine G.value rfl rfl rfl (Sure.pick_false rfl rfl) ?_
  refine G.nil ?_
  refine C.cond_false rfl ?_
  refine C.skip ?_
  refine Fin.th ?_
  refine C.region_seq ?_
  refine G.value rfl rfl rfl (Sure.move rfl) ?_
  refine G.value rfl rfl rfl (Sure.conv rfl (inK64 (by omega))) ?_
  refine G.value rfl rfl rfl (Sure.assign rfl) ?_
  refine G.nil ?_
  refine C.seq ?_
  refine C.region_seq ?_
  refine G.value rfl rfl rfl (Sure.move rfl) ?_
  refine G.value rfl rfl rfl (Sure.len_slice rfl) ?_
  refine G.value rfl rfl rfl ((Sure.eql rfl rfl).to_f (by decide)) ?_
  refine G.nil ?_
  refine C.cond_false rfl ?_
  refine C.skip ?_
  refine Fin.th ?_
  refine C.region_seq ?_
  refine G.value rfl rfl rfl (Sure.move rfl) ?_
  refine G.value rfl rfl rfl (Sure.assign rfl) ?_
  refine G.nil ?_
  refine C.cut (fun E M' H => ∃ cm : Nat, 1 ≤ cm ∧ esub [(0, .slice (some ⟨b0, 0, Option.none⟩) 1 1), (7, .int .i64 n), (8, .int .i64 cm)] E ∧ M' = M1 ∧ H = []) ?_ ?_
  · refine C.region_seq ?_
    refine G.value rfl rfl rfl (Sure.move rfl) ?_
    refine G.value rfl rfl rfl (Sure.gtr rfl rfl) ?_
    refine G.nil ?_
    refine C.cond_dec rfl (fun hbig => ?_) (fun hbig => ?_)
    · refine C.region_seq ?_
      refine G.value rfl rfl rfl (Sure.move rfl) ?_
      refine G.value rfl rfl rfl (Sure.len_slice rfl) ?_
      refine G.value rfl rfl rfl (Sure.quo rfl rfl (by decide) (by decide) (inK64 (by decide))) ?_
      refine G.value rfl rfl rfl (Sure.move rfl) ?_
      refine G.value rfl rfl rfl (Sure.len_slice rfl) ?_
      refine G.value rfl rfl rfl (Sure.mul rfl rfl (inK64 (by omega))) ?_
      refine G.value rfl rfl rfl (Sure.assign rfl) ?_
      refine G.nil ?_
      refine C.region_seq ?_
      refine G.value rfl rfl rfl (Sure.move rfl) ?_
      refine G.value rfl rfl rfl ((Sure.eql rfl rfl).to_f (by decide)) ?_
      refine G.nil ?_
      refine C.cond_false rfl ?_
      refine C.skip ?_
      refine Fin.th ?_
      exact ⟨8192, by omega, ⟨rfl, rfl, rfl, trivial⟩, rfl, rfl⟩
    · refine C.skip ?_
      refine Fin.th ?_
      exact ⟨n, by omega, ⟨rfl, rfl, rfl, trivial⟩, rfl, rfl⟩
  · rintro E M' H ⟨cm, hcm, hs, rfl, rfl⟩
    refine C.weak hs ?_
    refine C.region_seq ?_
    refine G.value rfl rfl rfl (Sure.move rfl) ?_
    refine G.dyn rfl rfl rfl ?_
    refine Dyn.makeNoZero rfl rfl rfl (fn := Try.f32) (T := 53) (ps := #[3]) (by kernel_rfl) (by kernel_rfl) (by kernel_rfl) (by kernel_rfl) (by kernel_rfl) (by omega) ?_
    intro b cs hcs
    refine G.value rfl rfl rfl (Sure.move rfl) ?_
    refine G.value rfl rfl rfl (Sure.move rfl) ?_
    refine G.value rfl rfl rfl (Sure.slice3 rfl rfl rfl (by omega) hcs) ?_
    refine G.value rfl rfl rfl (Sure.assign rfl) ?_
    refine G.nil ?_
    refine C.region_seq ?_
    refine G.value rfl rfl rfl (Sure.move rfl) ?_
    refine G.value rfl rfl rfl (Sure.move rfl) ?_
    have hsl : Sl M' [(b, .cells cs)] 1 (some ⟨b0, 0, Option.none⟩) 1 [byteV x] := ⟨rfl, fun _ => ⟨b0, 0, _, rfl, Rd.m (le1 _ _ hb), rfl⟩⟩
    refine G.dyn rfl rfl rfl ?_
    refine Dyn.copy (n := 1) rfl rfl (Nat.min_eq_left (by omega)) hsl Pick.here rfl (setSeg_app (A := []) rfl (by simp; omega)) ?_
    refine G.value rfl rfl rfl (Sure.assign rfl) ?_
    refine G.nil ?_
    refine C.seq ?_
    refine C.block ?_
    refine C.loop (fun k E M2 H => ∃ (p : Nat) (rest : List Value), MLe M' M2 ∧ 1 ≤ p ∧ p + k = n ∧ p + rest.length = cs.length ∧ E = [(7, .int .i64 n), (8, .int .i64 cm), (9, .slice (some ⟨b, 0, Option.none⟩) n n), (10, .int .i64 p)] ∧ H = [(b, .cells (List.replicate p (byteV x) ++ rest))]) (n - 1) ?_ ?_
    · refine ⟨_, _, ⟨1, cs.drop 1, MLe.refl _, by omega, by omega, by simp; omega, rfl, rfl⟩, ⟨rfl, rfl, rfl, rfl, trivial⟩, _, Split.cons .here Split.nil⟩
    · rintro k E M2 H ⟨p, rest, hle, hp1, hpk, hpl, rfl, rfl⟩
      refine C.seq ?_
      refine C.region_seq ?_
      refine G.value rfl rfl rfl (Sure.move rfl) ?_
      refine G.value rfl rfl rfl (Sure.move rfl) ?_
      refine G.value rfl rfl rfl (Sure.lss rfl rfl) ?_
      refine G.nil ?_
      refine C.cond_dec rfl (fun hlt => ?_) (fun hlt => ?_)
      · refine C.skip ?_
        refine Fin.th ?_
        refine C.block ?_
        refine C.region_seq ?_
        refine G.value rfl rfl rfl (Sure.move rfl) ?_
        refine G.value rfl rfl rfl (Sure.move rfl) ?_
        refine G.value rfl rfl rfl (Sure.min rfl rfl) ?_
        obtain ⟨m, hm⟩ : ∃ m : Nat, m = min p cm := ⟨_, rfl⟩
        rw [show Min.min (p : Int) (cm : Int) = (m : Int) from by omega]
        refine G.value rfl rfl rfl (Sure.assign rfl) ?_
        refine G.nil ?_
        -- draws its order
        refine C.draw ([]) mixed (by kernel_rfl) (Incl.nil _) ?_
        refine GD.val 0 rfl rfl rfl rfl (by kernel_rfl) rfl (Sure.move rfl) ?_
        refine GD.val 1 rfl rfl rfl rfl (by kernel_rfl) rfl (Sure.move rfl) ?_
        refine GD.val 2 rfl rfl rfl rfl (by kernel_rfl) rfl (Sure.move rfl) ?_
        refine GD.val 3 rfl rfl rfl rfl (by kernel_rfl) rfl (Sure.slice p n rfl rfl rfl (.inl rfl) (.inr ⟨rfl, rfl⟩) (by omega) (by omega)) ?_
        rw [show subP (some ⟨b, 0, Option.none⟩) n p 1 = some ⟨b, p, Option.none⟩ from by unfold subP; rw [if_neg (by omega)]; simp [addr_add]]
        refine GD.val 4 rfl rfl rfl rfl (by kernel_rfl) rfl (Sure.move rfl) ?_
        refine GD.val 5 rfl rfl rfl rfl (by kernel_rfl) rfl (Sure.move rfl) ?_
        refine GD.val 6 rfl rfl rfl rfl (by kernel_rfl) rfl (Sure.slice 0 m rfl rfl rfl (.inr ⟨rfl, rfl⟩) (.inl rfl) (by omega) (by omega)) ?_
        rw [show subP (some ⟨b, 0, Option.none⟩) n 0 1 = some ⟨b, 0, Option.none⟩ from by unfold subP; rw [if_neg (by omega)]; simp [addr_add], Nat.sub_zero m]
        obtain ⟨q, hq⟩ : ∃ q : Nat, q = Nat.min m (n - p) := ⟨_, rfl⟩
        have hq' : q ≤ m ∧ q ≤ n - p ∧ 1 ≤ q := by have : q = min m (n - p) := hq; omega
        have hsl2 : Sl M2 [(b, .cells (List.replicate p (byteV x) ++ rest))] 1 (some ⟨b, 0, Option.none⟩) q (List.replicate q (byteV x)) :=
          ⟨by simp, fun _ => ⟨b, 0, _, rfl, Rd.h0, by unfold seg; rw [takeN_eq (by simp; omega), List.drop_zero, List.take_append_of_le_length (by simp; omega), List.take_replicate, Nat.min_eq_left (by omega), Nat.mul_one]⟩⟩
        refine GD.one 7 (by kernel_rfl) rfl rfl (by kernel_rfl) ?_
        refine Next.dyn 7 rfl rfl rfl (by kernel_rfl) (by kernel_rfl) rfl ?_
        refine Dyn.copy (n := q) rfl rfl hq.symm hsl2 Pick.here (by unfold allOne; rw [List.all_eq_true]; intro v hv; rw [List.eq_of_mem_replicate hv]; rfl) (setSeg_app (by simp) (by simp; omega)) ?_
        refine ⟨MLe.refl _, Incl.nil _, ?_⟩
        refine GD.val 8 rfl rfl rfl rfl (by kernel_rfl) rfl (Sure.add rfl rfl (inK64 (by omega))) ?_
        refine GD.one 9 (by kernel_rfl) rfl rfl (by kernel_rfl) ?_
        refine Next.dyn 9 rfl rfl rfl (by kernel_rfl) (by kernel_rfl) rfl (Dyn.assign rfl ?_)
        refine ⟨MLe.refl _, (by first | exact Incl.refl _ | exact Incl.nil _ | exact Incl.cons (by simp) (Incl.nil _) | exact Incl.cons (by simp) (Incl.cons (by simp) (Incl.nil _)) | exact Incl.cons (by simp) (Incl.cons (by simp) (Incl.cons (by simp) (Incl.nil _)))), ?_⟩
        refine GD.done (by kernel_rfl) (by kernel_rfl) ?_
        refine Fin.blk ?_
        refine Fin.th ?_
        refine ⟨k - q, _, _, by omega, ⟨p + q, rest.drop q, hle, by omega, by omega, by simp; omega, rfl, rfl⟩, ⟨rfl, rfl, rfl, rfl, trivial⟩, [], ?_⟩
        rw [List.length_replicate, List.replicate_append_replicate]
        exact Split.cons .here Split.nil
      · have hk : k = 0 := by omega
        subst hk
        have hpn : p = n := by omega
        subst hpn
        refine C.exit ?_
        refine Fin.th_exit ?_
        refine Fin.th_exit ?_
        refine Fin.blk_eq ?_
        refine Fin.th ?_
        refine C.region_seq ?_
        refine G.value rfl rfl rfl (Sure.move rfl) ?_
        refine G.value rfl rfl rfl (Sure.assign rfl) ?_
        refine G.nil ?_
        refine C.ret ?_
        exact Fin.fn (Res.tmp rfl rfl) (Split.cons .here Split.nil) ⟨b, rest, rfl, by simp⟩
/-- How many bytes a chip has. -/
def chipN (g : Geo) : Nat := (g.sectors * g.sector).toNat
theorem norNew_spec (M : Mem) (g : Geo) (pb : Nat) (pw : Pw) (fv : Value) (hg : GeoOk g) (hp : PwOk pw) : Spec Try.prog 5 [geoV g, ptr pb] M [(pb, .cells (pwL pw fv))]
    (fun v _ H => ∃ ad : Ad, ad.pb = pb ∧ v = .tuple #[ptr ad.cb, .int .i64 0] ∧ H = chipH ad ⟨g, List.replicate (chipN g) 255, pw, []⟩ ∧ ChipOk ad ⟨g, List.replicate (chipN g) 255, pw, []⟩) := by
  have h1 := hg.s
  have h2 := hg.z
  have h3 : g.sectors * g.sector ≤ 16 * 4096 := Int.mul_le_mul (by omega) (by omega) (by omega) (by omega)
  have h4 : 2 * 256 ≤ g.sectors * g.sector := Int.mul_le_mul (by omega) (by omega) (by omega) (by omega)
  have hn : (chipN g : Int) = g.sectors * g.sector := by unfold chipN; omega
  refine Spec.of_code 21 Try.func5 rfl callable5 rfl rfl fun w => ?_
  refine C.region_seq ?_
  refine G.dyn rfl rfl rfl ?_
  refine Dyn.boxAgg rfl ?_
  intro b2
  refine G.value rfl rfl rfl (Sure.assign rfl) ?_
  refine G.value rfl rfl rfl (Sure.assign rfl) ?_
  refine G.nil ?_
  refine C.seq ?_
  refine C.region_seq ?_
  refine G.value rfl rfl rfl (Sure.loadAgg rfl (by first | exact Rd.h0 | exact Rd.tl Rd.h0 | exact Rd.tl (Rd.tl Rd.h0) | exact Rd.tl (Rd.tl (Rd.tl Rd.h0)) | exact Rd.tl (Rd.tl (Rd.tl (Rd.tl Rd.h0))) | exact Rd.tl (Rd.tl (Rd.tl (Rd.tl (Rd.tl Rd.h0)))) | exact Rd.m (by assumption) | assumption) rfl) ?_
  refine G.call rfl rfl rfl rfl rfl rfl (right_spec M g hg) (Split.nil) ?_
  rintro _ M1 _ le1 ⟨rfl, rfl⟩
  refine G.value rfl rfl rfl (Sure.not rfl) ?_
  refine G.nil ?_
  refine C.cond_false rfl ?_
  refine C.skip ?_
  refine Fin.th ?_
  -- draws its order
  refine C.draw_seq (_) mixed (by kernel_rfl) (Incl.refl _) ?_
  refine GD.val 0 rfl rfl rfl rfl (by kernel_rfl) rfl (Sure.loadAgg rfl (by first | exact Rd.h0 | exact Rd.tl Rd.h0 | exact Rd.tl (Rd.tl Rd.h0) | exact Rd.tl (Rd.tl (Rd.tl Rd.h0)) | exact Rd.tl (Rd.tl (Rd.tl (Rd.tl Rd.h0))) | exact Rd.tl (Rd.tl (Rd.tl (Rd.tl (Rd.tl Rd.h0)))) | exact Rd.m (by assumption) | assumption) rfl) ?_
  refine GD.val 1 rfl rfl rfl rfl (by kernel_rfl) rfl (Sure.move rfl) ?_
  refine GD.val 3 rfl rfl rfl rfl (by kernel_rfl) rfl (Sure.fieldAddr rfl) ?_
  refine GD.val 4 rfl rfl rfl rfl (by kernel_rfl) rfl (Sure.load rfl (by first | exact Rd.h0 | exact Rd.tl Rd.h0 | exact Rd.tl (Rd.tl Rd.h0) | exact Rd.tl (Rd.tl (Rd.tl Rd.h0)) | exact Rd.tl (Rd.tl (Rd.tl (Rd.tl Rd.h0))) | exact Rd.tl (Rd.tl (Rd.tl (Rd.tl (Rd.tl Rd.h0)))) | exact Rd.m (by assumption) | assumption) rfl) ?_
  refine GD.val 5 rfl rfl rfl rfl (by kernel_rfl) rfl (Sure.fieldAddr rfl) ?_
  refine GD.val 6 rfl rfl rfl rfl (by kernel_rfl) rfl (Sure.load rfl (by first | exact Rd.h0 | exact Rd.tl Rd.h0 | exact Rd.tl (Rd.tl Rd.h0) | exact Rd.tl (Rd.tl (Rd.tl Rd.h0)) | exact Rd.tl (Rd.tl (Rd.tl (Rd.tl Rd.h0))) | exact Rd.tl (Rd.tl (Rd.tl (Rd.tl (Rd.tl Rd.h0)))) | exact Rd.m (by assumption) | assumption) rfl) ?_
  refine GD.val 7 rfl rfl rfl rfl (by kernel_rfl) rfl (Sure.mul rfl rfl (inK64 (by omega))) ?_
  rw [← hn]
  refine GD.two 2 9 (by kernel_rfl) rfl rfl (by kernel_rfl) ?_ ?_
  · refine Next.dyn 2 rfl rfl rfl (by kernel_rfl) (by kernel_rfl) rfl ?_
    refine Dyn.buildSlice rfl rfl rfl (by simp [vcl]) (by decide) ?_
    intro b11
    refine ⟨MLe.refl _, (by intro p hp; simp_all), ?_⟩
    refine GD.mem (by intro p hp; simp_all) fun M2 le2 hM2 => ?_
    refine GD.two 8 9 (by kernel_rfl) rfl rfl (by kernel_rfl) ?_ ?_
    · refine Next.call 8 rfl rfl rfl (by kernel_rfl) (by kernel_rfl) rfl rfl rfl rfl (repeat_spec M2 b11 255 (chipN g) (by omega) hM2) (Split.nil) ?_
      rintro _ M3 _ le3 ⟨bb, junk, rfl, rfl⟩
      refine ⟨(by intro p hp; simp_all), ?_⟩
      refine GD.one 9 (by kernel_rfl) rfl rfl (by kernel_rfl) ?_
      refine Next.dyn 9 rfl rfl rfl (by kernel_rfl) (by kernel_rfl) rfl ?_
      refine Dyn.makeMap ?_
      intro b18
      refine ⟨MLe.refl _, (by intro p hp; simp_all), ?_⟩
      refine GD.val 10 rfl rfl rfl rfl (by kernel_rfl) rfl (Sure.build rfl rfl) ?_
      refine GD.one 11 (by kernel_rfl) rfl rfl (by kernel_rfl) ?_
      refine Next.dyn 11 rfl rfl rfl (by kernel_rfl) (by kernel_rfl) rfl ?_
      refine Dyn.boxAgg rfl ?_
      intro b20
      refine ⟨MLe.refl _, (by first | exact Incl.refl _ | exact Incl.nil _ | exact Incl.cons (by simp) (Incl.nil _) | exact Incl.cons (by simp) (Incl.cons (by simp) (Incl.nil _)) | exact Incl.cons (by simp) (Incl.cons (by simp) (Incl.cons (by simp) (Incl.nil _)))), ?_⟩
      refine GD.one 12 (by kernel_rfl) rfl rfl (by kernel_rfl) ?_
      refine Next.dyn 12 rfl rfl rfl (by kernel_rfl) (by kernel_rfl) rfl (Dyn.assign rfl ?_)
      refine ⟨MLe.refl _, (by first | exact Incl.refl _ | exact Incl.nil _ | exact Incl.cons (by simp) (Incl.nil _) | exact Incl.cons (by simp) (Incl.cons (by simp) (Incl.nil _)) | exact Incl.cons (by simp) (Incl.cons (by simp) (Incl.cons (by simp) (Incl.nil _)))), ?_⟩
      refine GD.one 13 (by kernel_rfl) rfl rfl (by kernel_rfl) ?_
      refine Next.dyn 13 rfl rfl rfl (by kernel_rfl) (by kernel_rfl) rfl (Dyn.assign rfl ?_)
      refine ⟨MLe.refl _, (by first | exact Incl.refl _ | exact Incl.nil _ | exact Incl.cons (by simp) (Incl.nil _) | exact Incl.cons (by simp) (Incl.cons (by simp) (Incl.nil _)) | exact Incl.cons (by simp) (Incl.cons (by simp) (Incl.cons (by simp) (Incl.nil _)))), ?_⟩
      refine GD.done (by kernel_rfl) (by kernel_rfl) ?_
      refine C.ret ?_
      refine Fin.fn (Res.tmp2 rfl rfl rfl) (R := [(b2, .cells (geoL g))]) (H0 := chipH ⟨b20, bb, b18, pb, chipN g, fv, junk⟩ ⟨g, List.replicate (chipN g) 255, pw, []⟩) ?_ ⟨⟨b20, bb, b18, pb, chipN g, fv, junk⟩, rfl, rfl, rfl, ⟨hg, by simp [hn], by simp, hp⟩⟩
      simp only [chipH, chipL, List.length_replicate]
      exact Split.cons .here (Split.cons (.there .here) (Split.cons .here (Split.cons (.there .here) Split.nil)))
    · refine Next.dyn 9 rfl rfl rfl (by kernel_rfl) (by kernel_rfl) rfl ?_
      refine Dyn.makeMap ?_
      intro b18
      refine ⟨MLe.refl _, (by intro p hp; simp_all), ?_⟩
      refine GD.one 8 (by kernel_rfl) rfl rfl (by kernel_rfl) ?_
      refine Next.call 8 rfl rfl rfl (by kernel_rfl) (by kernel_rfl) rfl rfl rfl rfl (repeat_spec M2 b11 255 (chipN g) (by omega) hM2) (Split.nil) ?_
      rintro _ M3 _ le3 ⟨bb, junk, rfl, rfl⟩
      refine ⟨(by intro p hp; simp_all), ?_⟩
      refine GD.val 10 rfl rfl rfl rfl (by kernel_rfl) rfl (Sure.build rfl rfl) ?_
      refine GD.one 11 (by kernel_rfl) rfl rfl (by kernel_rfl) ?_
      refine Next.dyn 11 rfl rfl rfl (by kernel_rfl) (by kernel_rfl) rfl ?_
      refine Dyn.boxAgg rfl ?_
      intro b20
      refine ⟨MLe.refl _, (by first | exact Incl.refl _ | exact Incl.nil _ | exact Incl.cons (by simp) (Incl.nil _) | exact Incl.cons (by simp) (Incl.cons (by simp) (Incl.nil _)) | exact Incl.cons (by simp) (Incl.cons (by simp) (Incl.cons (by simp) (Incl.nil _)))), ?_⟩
      refine GD.one 12 (by kernel_rfl) rfl rfl (by kernel_rfl) ?_
      refine Next.dyn 12 rfl rfl rfl (by kernel_rfl) (by kernel_rfl) rfl (Dyn.assign rfl ?_)
      refine ⟨MLe.refl _, (by first | exact Incl.refl _ | exact Incl.nil _ | exact Incl.cons (by simp) (Incl.nil _) | exact Incl.cons (by simp) (Incl.cons (by simp) (Incl.nil _)) | exact Incl.cons (by simp) (Incl.cons (by simp) (Incl.cons (by simp) (Incl.nil _)))), ?_⟩
      refine GD.one 13 (by kernel_rfl) rfl rfl (by kernel_rfl) ?_
      refine Next.dyn 13 rfl rfl rfl (by kernel_rfl) (by kernel_rfl) rfl (Dyn.assign rfl ?_)
      refine ⟨MLe.refl _, (by first | exact Incl.refl _ | exact Incl.nil _ | exact Incl.cons (by simp) (Incl.nil _) | exact Incl.cons (by simp) (Incl.cons (by simp) (Incl.nil _)) | exact Incl.cons (by simp) (Incl.cons (by simp) (Incl.cons (by simp) (Incl.nil _)))), ?_⟩
      refine GD.done (by kernel_rfl) (by kernel_rfl) ?_
      refine C.ret ?_
      refine Fin.fn (Res.tmp2 rfl rfl rfl) (R := [(b2, .cells (geoL g))]) (H0 := chipH ⟨b20, bb, b18, pb, chipN g, fv, junk⟩ ⟨g, List.replicate (chipN g) 255, pw, []⟩) ?_ ⟨⟨b20, bb, b18, pb, chipN g, fv, junk⟩, rfl, rfl, rfl, ⟨hg, by simp [hn], by simp, hp⟩⟩
      simp only [chipH, chipL, List.length_replicate]
      exact Split.cons .here (Split.cons .here (Split.cons .here (Split.cons (.there .here) Split.nil)))
  · refine Next.dyn 9 rfl rfl rfl (by kernel_rfl) (by kernel_rfl) rfl ?_
    refine Dyn.makeMap ?_
    intro b18
    refine ⟨MLe.refl _, (by intro p hp; simp_all), ?_⟩
    refine GD.one 2 (by kernel_rfl) rfl rfl (by kernel_rfl) ?_
    refine Next.dyn 2 rfl rfl rfl (by kernel_rfl) (by kernel_rfl) rfl ?_
    refine Dyn.buildSlice rfl rfl rfl (by simp [vcl]) (by decide) ?_
    intro b11
    refine ⟨MLe.refl _, (by intro p hp; simp_all), ?_⟩
    refine GD.mem (by intro p hp; simp_all) fun M2 le2 hM2 => ?_
    refine GD.one 8 (by kernel_rfl) rfl rfl (by kernel_rfl) ?_
    refine Next.call 8 rfl rfl rfl (by kernel_rfl) (by kernel_rfl) rfl rfl rfl rfl (repeat_spec M2 b11 255 (chipN g) (by omega) hM2) (Split.nil) ?_
    rintro _ M3 _ le3 ⟨bb, junk, rfl, rfl⟩
    refine ⟨(by intro p hp; simp_all), ?_⟩
    refine GD.val 10 rfl rfl rfl rfl (by kernel_rfl) rfl (Sure.build rfl rfl) ?_
    refine GD.one 11 (by kernel_rfl) rfl rfl (by kernel_rfl) ?_
    refine Next.dyn 11 rfl rfl rfl (by kernel_rfl) (by kernel_rfl) rfl ?_
    refine Dyn.boxAgg rfl ?_
    intro b20
    refine ⟨MLe.refl _, (by first | exact Incl.refl _ | exact Incl.nil _ | exact Incl.cons (by simp) (Incl.nil _) | exact Incl.cons (by simp) (Incl.cons (by simp) (Incl.nil _)) | exact Incl.cons (by simp) (Incl.cons (by simp) (Incl.cons (by simp) (Incl.nil _)))), ?_⟩
    refine GD.one 12 (by kernel_rfl) rfl rfl (by kernel_rfl) ?_
    refine Next.dyn 12 rfl rfl rfl (by kernel_rfl) (by kernel_rfl) rfl (Dyn.assign rfl ?_)
    refine ⟨MLe.refl _, (by first | exact Incl.refl _ | exact Incl.nil _ | exact Incl.cons (by simp) (Incl.nil _) | exact Incl.cons (by simp) (Incl.cons (by simp) (Incl.nil _)) | exact Incl.cons (by simp) (Incl.cons (by simp) (Incl.cons (by simp) (Incl.nil _)))), ?_⟩
    refine GD.one 13 (by kernel_rfl) rfl rfl (by kernel_rfl) ?_
    refine Next.dyn 13 rfl rfl rfl (by kernel_rfl) (by kernel_rfl) rfl (Dyn.assign rfl ?_)
    refine ⟨MLe.refl _, (by first | exact Incl.refl _ | exact Incl.nil _ | exact Incl.cons (by simp) (Incl.nil _) | exact Incl.cons (by simp) (Incl.cons (by simp) (Incl.nil _)) | exact Incl.cons (by simp) (Incl.cons (by simp) (Incl.cons (by simp) (Incl.nil _)))), ?_⟩
    refine GD.done (by kernel_rfl) (by kernel_rfl) ?_
    refine C.ret ?_
    refine Fin.fn (Res.tmp2 rfl rfl rfl) (R := [(b2, .cells (geoL g))]) (H0 := chipH ⟨b20, bb, b18, pb, chipN g, fv, junk⟩ ⟨g, List.replicate (chipN g) 255, pw, []⟩) ?_ ⟨⟨b20, bb, b18, pb, chipN g, fv, junk⟩, rfl, rfl, rfl, ⟨hg, by simp [hn], by simp, hp⟩⟩
    simp only [chipH, chipL, List.length_replicate]
    exact Split.cons .here (Split.cons .here (Split.cons .here (Split.cons (.there .here) Split.nil)))
end Go.Proofs.Ytaeeahcokiebdaa
