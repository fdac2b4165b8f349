/-
  Great text d of a proof: Wx, Wy, Wz, Xa, Ya, Km, Yb, Yc, Yd, Ye, Yf, Yg, Yh, Yi, one behind the other.
  Conditions: those that each part names.
-/
import Derived.Test.YtaeeahcokiebdaaGreatFac
import Derived.Lib.Bytealg

/-
  The walks of bytes that are alike, and of a new chip.
-/
namespace Go.Proofs.YtaeeahcokiebdaaGreat
set_option maxRecDepth 20000

theorem repeat_spec (M : Mem) (b0 : Nat) (x : UInt8) (n : Nat) (hn : 1 ≤ n ∧ n ≤ 1000000) (hb : M b0 = some [byteV x]) :
    Spec Tryz.prog 45 [.slice (some ⟨b0, 0, Option.none⟩) 1 1, .int .i64 n] M [] (fun v _ H => ∃ b junk, v = .slice (some ⟨b, 0, Option.none⟩) n n ∧ H = [(b, .cells ((List.replicate n x).map byteV ++ junk))]) := by
  refine Spec.of_code 77 Tryz.func45 rfl callable45 rfl rfl fun w => ?_
  refine C.region_seq ?_
  refine G.value rfl rfl rfl (Sure.assign rfl) ?_
  refine G.nil ?_
  refine C.seq ?_
  refine C.region_seq ?_
  refine G.value rfl rfl rfl (Sure.move rfl) ?_
  refine G.value rfl rfl rfl ((Sure.eql rfl rfl).to_f (by omega)) ?_
  refine G.nil ?_
  refine C.cond_false rfl ?_
  refine C.skip ?_
  refine Fin.th ?_
  refine C.seq ?_
  refine C.region_seq ?_
  refine G.value rfl rfl rfl (Sure.move rfl) ?_
  refine G.value rfl rfl rfl ((Sure.lss rfl rfl).to_f (by omega)) ?_
  refine G.nil ?_
  refine C.cond_false rfl ?_
  refine C.skip ?_
  refine Fin.th ?_
  refine C.region_seq ?_
  refine G.value rfl rfl rfl (Sure.move rfl) ?_
  refine G.value rfl rfl rfl (Sure.len_slice rfl) ?_
  refine G.value rfl rfl rfl (Sure.conv rfl (inKu64 (by omega))) ?_
  refine G.value rfl rfl rfl (Sure.move rfl) ?_
  refine G.value rfl rfl rfl (Sure.conv rfl (inKu64 (by omega))) ?_
  refine G.call rfl rfl rfl rfl rfl rfl (mul_spec M n (by omega)) (Split.nil) ?_
  rintro _ M1 _ le1 ⟨rfl, rfl⟩
  refine G.value rfl rfl rfl (Sure.move rfl) ?_
  refine G.value rfl rfl rfl (Sure.extract rfl rfl) ?_
  refine G.value rfl rfl rfl (Sure.extract rfl rfl) ?_
  refine G.value rfl rfl rfl (Sure.assign rfl) ?_
  refine G.value rfl rfl rfl (Sure.assign rfl) ?_
  refine G.nil ?_
  refine C.seq ?_
  refine C.region_seq ?_
  refine G.value rfl rfl rfl (Sure.move rfl) ?_
  refine G.value rfl rfl rfl ((Sure.gtr rfl rfl).to_f (by decide)) ?_
  refine G.value rfl rfl rfl (Sure.move rfl) ?_
  refine G.value rfl rfl rfl (Sure.move rfl) ?_
  refine G.value rfl rfl rfl ((Sure.gtr rfl rfl).to_f (by omega)) ?_
  refine G.value rfl rfl rfl (Sure.pick_false rfl rfl) ?_
  refine G.nil ?_
  refine C.cond_false rfl ?_
  refine C.skip ?_
  refine Fin.th ?_
  refine C.region_seq ?_
  refine G.value rfl rfl rfl (Sure.move rfl) ?_
  refine G.value rfl rfl rfl (Sure.conv rfl (inK64 (by omega))) ?_
  refine G.value rfl rfl rfl (Sure.assign rfl) ?_
  refine G.nil ?_
  refine C.seq ?_
  refine C.region_seq ?_
  refine G.value rfl rfl rfl (Sure.move rfl) ?_
  refine G.value rfl rfl rfl (Sure.len_slice rfl) ?_
  refine G.value rfl rfl rfl ((Sure.eql rfl rfl).to_f (by decide)) ?_
  refine G.nil ?_
  refine C.cond_false rfl ?_
  refine C.skip ?_
  refine Fin.th ?_
  refine C.region_seq ?_
  refine G.value rfl rfl rfl (Sure.move rfl) ?_
  refine G.value rfl rfl rfl (Sure.assign rfl) ?_
  refine G.nil ?_
  refine C.cut (fun E M' H => ∃ cm : Nat, 1 ≤ cm ∧ esub [(0, .slice (some ⟨b0, 0, Option.none⟩) 1 1), (7, .int .i64 n), (8, .int .i64 cm)] E ∧ M' = M1 ∧ H = []) ?_ ?_
  · refine C.region_seq ?_
    refine G.value rfl rfl rfl (Sure.move rfl) ?_
    refine G.value rfl rfl rfl (Sure.gtr rfl rfl) ?_
    refine G.nil ?_
    refine C.cond_dec rfl (fun hbig => ?_) (fun hbig => ?_)
    · refine C.region_seq ?_
      refine G.value rfl rfl rfl (Sure.move rfl) ?_
      refine G.value rfl rfl rfl (Sure.len_slice rfl) ?_
      refine G.value rfl rfl rfl (Sure.quo rfl rfl (by decide) (by decide) (inK64 (by decide))) ?_
      refine G.value rfl rfl rfl (Sure.move rfl) ?_
      refine G.value rfl rfl rfl (Sure.len_slice rfl) ?_
      refine G.value rfl rfl rfl (Sure.mul rfl rfl (inK64 (by omega))) ?_
      refine G.value rfl rfl rfl (Sure.assign rfl) ?_
      refine G.nil ?_
      refine C.region_seq ?_
      refine G.value rfl rfl rfl (Sure.move rfl) ?_
      refine G.value rfl rfl rfl ((Sure.eql rfl rfl).to_f (by decide)) ?_
      refine G.nil ?_
      refine C.cond_false rfl ?_
      refine C.skip ?_
      refine Fin.th ?_
      exact ⟨8192, by omega, ⟨rfl, rfl, rfl, trivial⟩, rfl, rfl⟩
    · refine C.skip ?_
      refine Fin.th ?_
      exact ⟨n, by omega, ⟨rfl, rfl, rfl, trivial⟩, rfl, rfl⟩
  · rintro E M' H ⟨cm, hcm, hs, rfl, rfl⟩
    refine C.weak hs ?_
    refine C.region_seq ?_
    refine G.value rfl rfl rfl (Sure.move rfl) ?_
    refine G.dyn rfl rfl rfl ?_
    refine Dyn.makeNoZero rfl rfl rfl (fn := Tryz.f78) (T := 57) (ps := #[3]) (by kernel_rfl) (by kernel_rfl) (by kernel_rfl) (by kernel_rfl) (by kernel_rfl) (by omega) ?_
    intro b cs hcs
    refine G.value rfl rfl rfl (Sure.move rfl) ?_
    refine G.value rfl rfl rfl (Sure.move rfl) ?_
    refine G.value rfl rfl rfl (Sure.slice3 rfl rfl rfl (by omega) hcs) ?_
    refine G.value rfl rfl rfl (Sure.assign rfl) ?_
    refine G.nil ?_
    refine C.region_seq ?_
    refine G.value rfl rfl rfl (Sure.move rfl) ?_
    refine G.value rfl rfl rfl (Sure.move rfl) ?_
    have hsl : Sl M' [(b, .cells cs)] 1 (some ⟨b0, 0, Option.none⟩) 1 [byteV x] := ⟨rfl, fun _ => ⟨b0, 0, _, rfl, Rd.m (le1 _ _ hb), rfl⟩⟩
    refine G.dyn rfl rfl rfl ?_
    refine Dyn.copy (n := 1) rfl rfl (Nat.min_eq_left (by omega)) hsl Pick.here rfl (setSeg_app (A := []) rfl (by simp; omega)) ?_
    refine G.value rfl rfl rfl (Sure.assign rfl) ?_
    refine G.nil ?_
    refine C.seq ?_
    refine C.block ?_
    refine C.loop (fun k E M2 H => ∃ (p : Nat) (rest : List Value), MLe M' M2 ∧ 1 ≤ p ∧ p + k = n ∧ p + rest.length = cs.length ∧ E = [(7, .int .i64 n), (8, .int .i64 cm), (9, .slice (some ⟨b, 0, Option.none⟩) n n), (10, .int .i64 p)] ∧ H = [(b, .cells (List.replicate p (byteV x) ++ rest))]) (n - 1) ?_ ?_
    · refine ⟨_, _, ⟨1, cs.drop 1, MLe.refl _, by omega, by omega, by simp; omega, rfl, rfl⟩, ⟨rfl, rfl, rfl, rfl, trivial⟩, _, Split.cons .here Split.nil⟩
    · rintro k E M2 H ⟨p, rest, hle, hp1, hpk, hpl, rfl, rfl⟩
      refine C.seq ?_
      refine C.region_seq ?_
      refine G.value rfl rfl rfl (Sure.move rfl) ?_
      refine G.value rfl rfl rfl (Sure.move rfl) ?_
      refine G.value rfl rfl rfl (Sure.lss rfl rfl) ?_
      refine G.nil ?_
      refine C.cond_dec rfl (fun hlt => ?_) (fun hlt => ?_)
      · refine C.skip ?_
        refine Fin.th ?_
        refine C.block ?_
        refine C.region_seq ?_
        refine G.value rfl rfl rfl (Sure.move rfl) ?_
        refine G.value rfl rfl rfl (Sure.move rfl) ?_
        refine G.value rfl rfl rfl (Sure.min rfl rfl) ?_
        obtain ⟨m, hm⟩ : ∃ m : Nat, m = min p cm := ⟨_, rfl⟩
        rw [show Min.min (p : Int) (cm : Int) = (m : Int) from by omega]
        refine G.value rfl rfl rfl (Sure.assign rfl) ?_
        refine G.nil ?_
        -- draws its order
        refine C.draw ([]) mixed (by kernel_rfl) (Incl.nil _) ?_
        refine GD.val 0 rfl rfl rfl rfl (by kernel_rfl) rfl (Sure.move rfl) ?_
        refine GD.val 1 rfl rfl rfl rfl (by kernel_rfl) rfl (Sure.move rfl) ?_
        refine GD.val 2 rfl rfl rfl rfl (by kernel_rfl) rfl (Sure.move rfl) ?_
        refine GD.val 3 rfl rfl rfl rfl (by kernel_rfl) rfl (Sure.slice p n rfl rfl rfl (.inl rfl) (.inr ⟨rfl, rfl⟩) (by omega) (by omega)) ?_
        rw [show subP (some ⟨b, 0, Option.none⟩) n p 1 = some ⟨b, p, Option.none⟩ from by unfold subP; rw [if_neg (by omega)]; simp [addr_add]]
        refine GD.val 4 rfl rfl rfl rfl (by kernel_rfl) rfl (Sure.move rfl) ?_
        refine GD.val 5 rfl rfl rfl rfl (by kernel_rfl) rfl (Sure.move rfl) ?_
        refine GD.val 6 rfl rfl rfl rfl (by kernel_rfl) rfl (Sure.slice 0 m rfl rfl rfl (.inr ⟨rfl, rfl⟩) (.inl rfl) (by omega) (by omega)) ?_
        rw [show subP (some ⟨b, 0, Option.none⟩) n 0 1 = some ⟨b, 0, Option.none⟩ from by unfold subP; rw [if_neg (by omega)]; simp [addr_add], Nat.sub_zero m]
        obtain ⟨q, hq⟩ : ∃ q : Nat, q = Nat.min m (n - p) := ⟨_, rfl⟩
        have hq' : q ≤ m ∧ q ≤ n - p ∧ 1 ≤ q := by have : q = min m (n - p) := hq; omega
        have hsl2 : Sl M2 [(b, .cells (List.replicate p (byteV x) ++ rest))] 1 (some ⟨b, 0, Option.none⟩) q (List.replicate q (byteV x)) :=
          ⟨by simp, fun _ => ⟨b, 0, _, rfl, Rd.h0, by unfold seg; rw [takeN_eq (by simp; omega), List.drop_zero, List.take_append_of_le_length (by simp; omega), List.take_replicate, Nat.min_eq_left (by omega), Nat.mul_one]⟩⟩
        refine GD.one 7 (by kernel_rfl) rfl rfl (by kernel_rfl) ?_
        refine Next.dyn 7 rfl rfl rfl (by kernel_rfl) (by kernel_rfl) rfl ?_
        refine Dyn.copy (n := q) rfl rfl hq.symm hsl2 Pick.here (by unfold allOne; rw [List.all_eq_true]; intro v hv; rw [List.eq_of_mem_replicate hv]; rfl) (setSeg_app (by simp) (by simp; omega)) ?_
        refine ⟨MLe.refl _, Incl.nil _, ?_⟩
        refine GD.val 8 rfl rfl rfl rfl (by kernel_rfl) rfl (Sure.add rfl rfl (inK64 (by omega))) ?_
        refine GD.one 9 (by kernel_rfl) rfl rfl (by kernel_rfl) ?_
        refine Next.dyn 9 rfl rfl rfl (by kernel_rfl) (by kernel_rfl) rfl (Dyn.assign rfl ?_)
        refine ⟨MLe.refl _, incx, ?_⟩
        refine GD.done (by kernel_rfl) (by kernel_rfl) ?_
        refine Fin.blk ?_
        refine Fin.th ?_
        refine ⟨k - q, _, _, by omega, ⟨p + q, rest.drop q, hle, by omega, by omega, by simp; omega, rfl, rfl⟩, ⟨rfl, rfl, rfl, rfl, trivial⟩, [], ?_⟩
        rw [List.length_replicate, List.replicate_append_replicate]
        exact Split.cons .here Split.nil
      · have hk : k = 0 := by omega
        subst hk
        have hpn : p = n := by omega
        subst hpn
        refine C.exit ?_
        refine Fin.th_exit ?_
        refine Fin.th_exit ?_
        refine Fin.blk_eq ?_
        refine Fin.th ?_
        refine C.region_seq ?_
        refine G.value rfl rfl rfl (Sure.move rfl) ?_
        refine G.value rfl rfl rfl (Sure.assign rfl) ?_
        refine G.nil ?_
        refine C.ret ?_
        exact Fin.fn (Res.tmp rfl rfl) (Split.cons .here Split.nil) ⟨b, rest, rfl, by simp⟩
/-- How many bytes a chip has. -/
def chipN (g : Geo) : Nat := (g.sectors * g.sector).toNat
theorem norNew_spec (M : Mem) (g : Geo) (pb : Nat) (pw : Pw) (fv : Value) (hg : GeoOk g) (hp : PwOk pw) : Spec Tryz.prog 11 [geoV g, ptr pb] M [(pb, .cells (pwL pw fv))]
    (fun v _ H => ∃ ad : Ad, ad.pb = pb ∧ v = .tuple #[ptr ad.cb, .int .i64 0] ∧ H = chipH ad ⟨g, List.replicate (chipN g) 255, pw, []⟩ ∧ ChipOk ad ⟨g, List.replicate (chipN g) 255, pw, []⟩) := by
  have h1 := hg.s
  have h2 := hg.z
  have h3 : g.sectors * g.sector ≤ 16 * 4096 := Int.mul_le_mul (by omega) (by omega) (by omega) (by omega)
  have h4 : 2 * 256 ≤ g.sectors * g.sector := Int.mul_le_mul (by omega) (by omega) (by omega) (by omega)
  have hn : (chipN g : Int) = g.sectors * g.sector := by unfold chipN; omega
  refine Spec.of_code 21 Tryz.func11 rfl callable11 rfl rfl fun w => ?_
  refine C.region_seq ?_
  refine G.dyn rfl rfl rfl ?_
  refine Dyn.boxAgg rfl ?_
  intro b2
  refine G.value rfl rfl rfl (Sure.assign rfl) ?_
  refine G.value rfl rfl rfl (Sure.assign rfl) ?_
  refine G.nil ?_
  refine C.seq ?_
  refine C.region_seq ?_
  refine G.value rfl rfl rfl (Sure.loadAgg rfl rdx rfl) ?_
  refine G.call rfl rfl rfl rfl rfl rfl (right_spec M g hg) (Split.nil) ?_
  rintro _ M1 _ le1 ⟨rfl, rfl⟩
  refine G.value rfl rfl rfl (Sure.not rfl) ?_
  refine G.nil ?_
  refine C.cond_false rfl ?_
  refine C.skip ?_
  refine Fin.th ?_
  -- draws its order
  refine C.draw_seq (_) mixed (by kernel_rfl) (Incl.refl _) ?_
  refine GD.val 0 rfl rfl rfl rfl (by kernel_rfl) rfl (Sure.loadAgg rfl rdx rfl) ?_
  refine GD.val 1 rfl rfl rfl rfl (by kernel_rfl) rfl (Sure.move rfl) ?_
  refine GD.val 3 rfl rfl rfl rfl (by kernel_rfl) rfl (Sure.fieldAddr rfl) ?_
  refine GD.val 4 rfl rfl rfl rfl (by kernel_rfl) rfl (Sure.load rfl rdx rfl) ?_
  refine GD.val 5 rfl rfl rfl rfl (by kernel_rfl) rfl (Sure.fieldAddr rfl) ?_
  refine GD.val 6 rfl rfl rfl rfl (by kernel_rfl) rfl (Sure.load rfl rdx rfl) ?_
  refine GD.val 7 rfl rfl rfl rfl (by kernel_rfl) rfl (Sure.mul rfl rfl (inK64 (by omega))) ?_
  rw [← hn]
  refine GD.two 2 9 (by kernel_rfl) rfl rfl (by kernel_rfl) ?_ ?_
  · refine Next.dyn 2 rfl rfl rfl (by kernel_rfl) (by kernel_rfl) rfl ?_
    refine Dyn.buildSlice rfl rfl rfl (by simp [vcl]) (by decide) ?_
    intro b11
    refine ⟨MLe.refl _, (by intro p hp; simp_all), ?_⟩
    refine GD.mem (by intro p hp; simp_all) fun M2 le2 hM2 => ?_
    refine GD.two 8 9 (by kernel_rfl) rfl rfl (by kernel_rfl) ?_ ?_
    · refine Next.call 8 rfl rfl rfl (by kernel_rfl) (by kernel_rfl) rfl rfl rfl rfl (repeat_spec M2 b11 255 (chipN g) (by omega) hM2) (Split.nil) ?_
      rintro _ M3 _ le3 ⟨bb, junk, rfl, rfl⟩
      refine ⟨(by intro p hp; simp_all), ?_⟩
      refine GD.one 9 (by kernel_rfl) rfl rfl (by kernel_rfl) ?_
      refine Next.dyn 9 rfl rfl rfl (by kernel_rfl) (by kernel_rfl) rfl ?_
      refine Dyn.makeMap ?_
      intro b18
      refine ⟨MLe.refl _, (by intro p hp; simp_all), ?_⟩
      refine GD.val 10 rfl rfl rfl rfl (by kernel_rfl) rfl (Sure.build rfl rfl) ?_
      refine GD.one 11 (by kernel_rfl) rfl rfl (by kernel_rfl) ?_
      refine Next.dyn 11 rfl rfl rfl (by kernel_rfl) (by kernel_rfl) rfl ?_
      refine Dyn.boxAgg rfl ?_
      intro b20
      refine ⟨MLe.refl _, incx, ?_⟩
      refine GD.one 12 (by kernel_rfl) rfl rfl (by kernel_rfl) ?_
      refine Next.dyn 12 rfl rfl rfl (by kernel_rfl) (by kernel_rfl) rfl (Dyn.assign rfl ?_)
      refine ⟨MLe.refl _, incx, ?_⟩
      refine GD.one 13 (by kernel_rfl) rfl rfl (by kernel_rfl) ?_
      refine Next.dyn 13 rfl rfl rfl (by kernel_rfl) (by kernel_rfl) rfl (Dyn.assign rfl ?_)
      refine ⟨MLe.refl _, incx, ?_⟩
      refine GD.done (by kernel_rfl) (by kernel_rfl) ?_
      refine C.ret ?_
      refine Fin.fn (Res.tmp2 rfl rfl rfl) (R := [(b2, .cells (geoL g))]) (H0 := chipH ⟨b20, bb, b18, pb, chipN g, fv, junk⟩ ⟨g, List.replicate (chipN g) 255, pw, []⟩) ?_ ⟨⟨b20, bb, b18, pb, chipN g, fv, junk⟩, rfl, rfl, rfl, ⟨hg, by simp [hn], by simp, hp⟩⟩
      simp only [chipH, chipL, List.length_replicate]
      exact Split.cons .here (Split.cons (.there .here) (Split.cons .here (Split.cons (.there .here) Split.nil)))
    · refine Next.dyn 9 rfl rfl rfl (by kernel_rfl) (by kernel_rfl) rfl ?_
      refine Dyn.makeMap ?_
      intro b18
      refine ⟨MLe.refl _, (by intro p hp; simp_all), ?_⟩
      refine GD.one 8 (by kernel_rfl) rfl rfl (by kernel_rfl) ?_
      refine Next.call 8 rfl rfl rfl (by kernel_rfl) (by kernel_rfl) rfl rfl rfl rfl (repeat_spec M2 b11 255 (chipN g) (by omega) hM2) (Split.nil) ?_
      rintro _ M3 _ le3 ⟨bb, junk, rfl, rfl⟩
      refine ⟨(by intro p hp; simp_all), ?_⟩
      refine GD.val 10 rfl rfl rfl rfl (by kernel_rfl) rfl (Sure.build rfl rfl) ?_
      refine GD.one 11 (by kernel_rfl) rfl rfl (by kernel_rfl) ?_
      refine Next.dyn 11 rfl rfl rfl (by kernel_rfl) (by kernel_rfl) rfl ?_
      refine Dyn.boxAgg rfl ?_
      intro b20
      refine ⟨MLe.refl _, incx, ?_⟩
      refine GD.one 12 (by kernel_rfl) rfl rfl (by kernel_rfl) ?_
      refine Next.dyn 12 rfl rfl rfl (by kernel_rfl) (by kernel_rfl) rfl (Dyn.assign rfl ?_)
      refine ⟨MLe.refl _, incx, ?_⟩
      refine GD.one 13 (by kernel_rfl) rfl rfl (by kernel_rfl) ?_
      refine Next.dyn 13 rfl rfl rfl (by kernel_rfl) (by kernel_rfl) rfl (Dyn.assign rfl ?_)
      refine ⟨MLe.refl _, incx, ?_⟩
      refine GD.done (by kernel_rfl) (by kernel_rfl) ?_
      refine C.ret ?_
      refine Fin.fn (Res.tmp2 rfl rfl rfl) (R := [(b2, .cells (geoL g))]) (H0 := chipH ⟨b20, bb, b18, pb, chipN g, fv, junk⟩ ⟨g, List.replicate (chipN g) 255, pw, []⟩) ?_ ⟨⟨b20, bb, b18, pb, chipN g, fv, junk⟩, rfl, rfl, rfl, ⟨hg, by simp [hn], by simp, hp⟩⟩
      simp only [chipH, chipL, List.length_replicate]
      exact Split.cons .here (Split.cons .here (Split.cons .here (Split.cons (.there .here) Split.nil)))
  · refine Next.dyn 9 rfl rfl rfl (by kernel_rfl) (by kernel_rfl) rfl ?_
    refine Dyn.makeMap ?_
    intro b18
    refine ⟨MLe.refl _, (by intro p hp; simp_all), ?_⟩
    refine GD.one 2 (by kernel_rfl) rfl rfl (by kernel_rfl) ?_
    refine Next.dyn 2 rfl rfl rfl (by kernel_rfl) (by kernel_rfl) rfl ?_
    refine Dyn.buildSlice rfl rfl rfl (by simp [vcl]) (by decide) ?_
    intro b11
    refine ⟨MLe.refl _, (by intro p hp; simp_all), ?_⟩
    refine GD.mem (by intro p hp; simp_all) fun M2 le2 hM2 => ?_
    refine GD.one 8 (by kernel_rfl) rfl rfl (by kernel_rfl) ?_
    refine Next.call 8 rfl rfl rfl (by kernel_rfl) (by kernel_rfl) rfl rfl rfl rfl (repeat_spec M2 b11 255 (chipN g) (by omega) hM2) (Split.nil) ?_
    rintro _ M3 _ le3 ⟨bb, junk, rfl, rfl⟩
    refine ⟨(by intro p hp; simp_all), ?_⟩
    refine GD.val 10 rfl rfl rfl rfl (by kernel_rfl) rfl (Sure.build rfl rfl) ?_
    refine GD.one 11 (by kernel_rfl) rfl rfl (by kernel_rfl) ?_
    refine Next.dyn 11 rfl rfl rfl (by kernel_rfl) (by kernel_rfl) rfl ?_
    refine Dyn.boxAgg rfl ?_
    intro b20
    refine ⟨MLe.refl _, incx, ?_⟩
    refine GD.one 12 (by kernel_rfl) rfl rfl (by kernel_rfl) ?_
    refine Next.dyn 12 rfl rfl rfl (by kernel_rfl) (by kernel_rfl) rfl (Dyn.assign rfl ?_)
    refine ⟨MLe.refl _, incx, ?_⟩
    refine GD.one 13 (by kernel_rfl) rfl rfl (by kernel_rfl) ?_
    refine Next.dyn 13 rfl rfl rfl (by kernel_rfl) (by kernel_rfl) rfl (Dyn.assign rfl ?_)
    refine ⟨MLe.refl _, incx, ?_⟩
    refine GD.done (by kernel_rfl) (by kernel_rfl) ?_
    refine C.ret ?_
    refine Fin.fn (Res.tmp2 rfl rfl rfl) (R := [(b2, .cells (geoL g))]) (H0 := chipH ⟨b20, bb, b18, pb, chipN g, fv, junk⟩ ⟨g, List.replicate (chipN g) 255, pw, []⟩) ?_ ⟨⟨b20, bb, b18, pb, chipN g, fv, junk⟩, rfl, rfl, rfl, ⟨hg, by simp [hn], by simp, hp⟩⟩
    simp only [chipH, chipL, List.length_replicate]
    exact Split.cons .here (Split.cons .here (Split.cons .here (Split.cons (.there .here) Split.nil)))
end Go.Proofs.YtaeeahcokiebdaaGreat

/-
  The walks of a journal: its room, and its state in the other half.
-/
namespace Go.Proofs.YtaeeahcokiebdaaGreat
set_option maxRecDepth 20000

/-- A journal, but for its state. -/
structure Jr where
  half : Nat
  epoch : Int
  used : Nat
  ended : Bool
abbrev jrL (cb : Nat) (j : Jr) (s : StaD) : List Value := [ptr cb, .int .i64 j.half, .int .i64 j.epoch, .int .i64 j.used, intV s.next, .slice s.pi s.inos.length s.ci, .slice s.pb s.bad.length s.cb, .bool j.ended]
structure JOk (j : Jr) (g : Geo) : Prop where
  half : j.half < 2
  epoch : 0 ≤ j.epoch ∧ j.epoch ≤ 2147483647
  used : j.used ≤ hsz g
/-- Half of a chip's sectors. -/
def nsec (g : Geo) : Nat := (g.sectors / 2).toNat
theorem room_spec (M : Mem) (jb : Nat) (ad : Ad) (ch : Chip) (j : Jr) (s : StaD) (hok : ChipOk ad ch) : Spec Tryz.prog 54 [ptr jb] M [(jb, .cells (jrL ad.cb j s)), (ad.cb, .cells (chipL ad ch))]
    (fun v _ H => v = .int .i64 (hsz ch.g) ∧ H = [(jb, .cells (jrL ad.cb j s)), (ad.cb, .cells (chipL ad ch))]) := by
  obtain ⟨hz, hz1, hz2, hz3⟩ := hsz_int hok.geo
  refine Spec.of_code 9 Tryz.func54 rfl callable54 rfl rfl fun w => ?_
  refine C.region_seq ?_
  refine G.value rfl rfl rfl (Sure.assign rfl) ?_
  refine G.nil ?_
  refine C.region_seq ?_
  refine G.value rfl rfl rfl (Sure.move rfl) ?_
  refine G.value rfl rfl rfl (Sure.nilCheck rfl) ?_
  refine G.value rfl rfl rfl (Sure.fieldAddr rfl) ?_
  refine G.value rfl rfl rfl (Sure.load rfl rdx rfl) ?_
  refine G.call rfl rfl rfl rfl rfl rfl (chip_geometry_spec M ad ch) (Split.cons (.there .here) Split.nil) ?_
  rintro _ M3 _ le3 ⟨rfl, rfl⟩
  refine G.call rfl rfl rfl rfl rfl rfl (half_size_spec M3 ch.g hok.geo) (Split.nil) ?_
  rintro _ M4 _ le4 ⟨rfl, rfl⟩
  rw [← hz]
  refine G.value rfl rfl rfl (Sure.assign rfl) ?_
  refine G.nil ?_
  refine C.ret ?_
  exact Fin.fn (Res.tmp rfl rfl) (Split.cons (.there .here) (Split.cons .here Split.nil)) ⟨rfl, rfl⟩
/-- A state is written into the other half. -/
def anewC (ch : Chip) (j : Jr) (s : Sta) : Chip × Int :=
  if hsz ch.g < (firstB (j.epoch + 1) s).length + 7 ∨ 2147483647 ≤ j.epoch then (ch, 10)
  else if (wipeN (nsec ch.g) (1 - j.half) (nsec ch.g) ch).2 ≠ 0 then wipeN (nsec ch.g) (1 - j.half) (nsec ch.g) ch
  else (wipeN (nsec ch.g) (1 - j.half) (nsec ch.g) ch).1.append (1 - j.half) 0 (firstB (j.epoch + 1) s)
/-- What the journal is then. -/
def anewJ (ch : Chip) (j : Jr) (s : Sta) : Jr :=
  if hsz ch.g < (firstB (j.epoch + 1) s).length + 7 ∨ 2147483647 ≤ j.epoch then j
  else if (anewC ch j s).2 ≠ 0 then { j with ended := true }
  else { j with half := 1 - j.half, epoch := j.epoch + 1, used := (firstB (j.epoch + 1) s).length + 7 }
/-- Which of two states it has then. -/
def anewS {α : Type} (ch : Chip) (j : Jr) (s : Sta) (old new : α) : α := if (anewC ch j s).2 ≠ 0 then old else new
theorem append_ok {ad : Ad} {ch : Chip} (hok : ChipOk ad ch) (h at_ : Nat) (b : List UInt8) : ChipOk ad (ch.append h at_ b).1 ∧ (ch.append h at_ b).1.g = ch.g := by
  unfold Chip.append
  split
  · exact ⟨hok, rfl⟩
  · split
    · exact ⟨hok, rfl⟩
    · have h1 := hok.program (at_ + h * hsz ch.g) (bodyB b)
      split
      · exact h1
      · have h2 := h1.1.program (at_ + h * hsz ch.g + (bodyB b).length) [0]
        exact ⟨h2.1, h2.2.trans h1.2⟩
theorem anew_spec (M : Mem) (jb : Nat) (ad : Ad) (ch : Chip) (j : Jr) (s0 s : StaD) (hok : ChipOk ad ch) (hj : JOk j ch.g) (hs : SOk M s) (hk : StaOk s.v) (hb : (deedsB (whole s.v)).length ≤ 10000000) :
    Spec Tryz.prog 55 [ptr jb, .agg (staDL s).toArray] M ((jb, .cells (jrL ad.cb j s0)) :: chipH ad ch)
      (fun v _ H => v = .int .i64 (anewC ch j s.v).2 ∧ H = (jb, .cells (jrL ad.cb (anewJ ch j s.v) (anewS ch j s.v s0 s))) :: chipH ad (anewC ch j s.v).1) := by
  have hfl : (firstB (j.epoch + 1) s.v).length = 8 + (deedsB (whole s.v)).length := by simp [firstB]
  have hep := hj.epoch
  have hhf := hj.half
  refine Spec.of_code 76 Tryz.func55 rfl callable55 rfl rfl fun w => ?_
  refine C.region_seq ?_
  refine G.dyn rfl rfl rfl ?_
  refine Dyn.boxAgg rfl ?_
  intro b3
  refine G.value rfl rfl rfl (Sure.assign rfl) ?_
  refine G.nil ?_
  -- draws its order
  refine C.draw_seq (_) mixed (by kernel_rfl) (Incl.refl _) ?_
  refine GD.val 0 rfl rfl rfl rfl (by kernel_rfl) rfl (Sure.move rfl) ?_
  refine GD.val 1 rfl rfl rfl rfl (by kernel_rfl) rfl (Sure.nilCheck rfl) ?_
  refine GD.val 2 rfl rfl rfl rfl (by kernel_rfl) rfl (Sure.fieldAddr rfl) ?_
  refine GD.val 3 rfl rfl rfl rfl (by kernel_rfl) rfl (Sure.load rfl rdx rfl) ?_
  refine GD.val 4 rfl rfl rfl rfl (by kernel_rfl) rfl (Sure.sub rfl rfl (inK64 (by omega))) ?_
  refine GD.val 5 rfl rfl rfl rfl (by kernel_rfl) rfl (Sure.move rfl) ?_
  refine GD.val 6 rfl rfl rfl rfl (by kernel_rfl) rfl (Sure.nilCheck rfl) ?_
  refine GD.val 7 rfl rfl rfl rfl (by kernel_rfl) rfl (Sure.fieldAddr rfl) ?_
  refine GD.val 8 rfl rfl rfl rfl (by kernel_rfl) rfl (Sure.load rfl rdx rfl) ?_
  refine GD.val 9 rfl rfl rfl rfl (by kernel_rfl) rfl (Sure.add rfl rfl (inK64 (by omega))) ?_
  refine GD.val 10 rfl rfl rfl rfl (by kernel_rfl) rfl (Sure.loadAgg rfl rdx rfl) ?_
  refine GD.one 11 (by kernel_rfl) rfl rfl (by kernel_rfl) ?_
  refine Next.call 11 rfl rfl rfl (by kernel_rfl) (by kernel_rfl) rfl rfl rfl rfl (first_spec M (j.epoch + 1) s hs hk hb) (Split.nil) ?_
  rintro v1 M1 Hs1 le1 hown
  refine ⟨(by intro p hp; simp_all), ?_⟩
  refine GD.donateOwn hown PickL.here (Incl.refl _) ?_
  rintro M2 p2 c2 le2 rfl hs2
  refine GD.one 12 (by kernel_rfl) rfl rfl (by kernel_rfl) ?_
  refine Next.dyn 12 rfl rfl rfl (by kernel_rfl) (by kernel_rfl) rfl (Dyn.assign rfl ?_)
  refine ⟨MLe.refl _, incx, ?_⟩
  refine GD.one 13 (by kernel_rfl) rfl rfl (by kernel_rfl) ?_
  refine Next.dyn 13 rfl rfl rfl (by kernel_rfl) (by kernel_rfl) rfl (Dyn.assign rfl ?_)
  refine ⟨MLe.refl _, incx, ?_⟩
  refine GD.done (by kernel_rfl) (by kernel_rfl) ?_
  refine C.seq ?_
  refine C.region_seq ?_
  refine G.value rfl rfl rfl (Sure.move rfl) ?_
  refine G.value rfl rfl rfl (Sure.len_slice rfl) ?_
  rw [show (1 : Int) - (j.half : Int) = ((1 - j.half : Nat) : Int) from by omega]
  refine G.call rfl rfl rfl rfl rfl rfl (size_spec M2 (firstB (j.epoch + 1) s.v).length (by omega)) (Split.nil) ?_
  rintro _ M3 _ le3 ⟨rfl, rfl⟩
  refine G.value rfl rfl rfl (Sure.move rfl) ?_
  refine G.call rfl rfl rfl rfl rfl rfl (room_spec M3 jb ad ch j s0 hok) (Split.cons (.there .here) (Split.cons (.there .here) Split.nil)) ?_
  rintro _ M4 _ le4 ⟨rfl, rfl⟩
  refine G.value rfl rfl rfl (Sure.gtr rfl rfl) ?_
  refine G.value rfl rfl rfl (Sure.move rfl) ?_
  refine G.splitD (d := 26) rfl (fun hbig => ?_) (fun hbig => ?_)
  · refine G.skip rfl rfl rfl ?_
    refine G.skip rfl rfl rfl ?_
    refine G.skip rfl rfl rfl ?_
    refine G.skip rfl rfl rfl ?_
    refine G.skip rfl rfl rfl ?_
    refine G.value rfl rfl rfl (Sure.pick_true rfl rfl) ?_
    refine G.nil ?_
    refine C.cond_true rfl ?_
    refine C.region_seq ?_
    refine G.value rfl rfl rfl (Sure.assign rfl) ?_
    refine G.nil ?_
    refine C.ret ?_
    refine Fin.th_ret ?_
    refine Fin.fn (Res.tmp rfl rfl) (Split.cons .here (Split.cons .here (Split.cons (.there .here) (Split.cons (.there .here) (Split.cons (.there .here) Split.nil))))) ?_
    unfold anewS anewJ anewC
    rw [if_pos (by omega), if_pos (by omega)]
    exact ⟨rfl, rfl⟩
  · refine G.value rfl rfl rfl (Sure.move rfl) ?_
    refine G.value rfl rfl rfl (Sure.nilCheck rfl) ?_
    refine G.value rfl rfl rfl (Sure.fieldAddr rfl) ?_
    refine G.value rfl rfl rfl (Sure.load rfl rdx rfl) ?_
    refine G.value rfl rfl rfl (Sure.geq rfl rfl) ?_
    refine G.value rfl rfl rfl (Sure.pick_false rfl rfl) ?_
    refine G.nil ?_
    refine C.cond_dec rfl (fun hmax => ?_) (fun hmax => ?_)
    · refine C.region_seq ?_
      refine G.value rfl rfl rfl (Sure.assign rfl) ?_
      refine G.nil ?_
      refine C.ret ?_
      refine Fin.th_ret ?_
      refine Fin.fn (Res.tmp rfl rfl) (Split.cons .here (Split.cons .here (Split.cons (.there .here) (Split.cons (.there .here) (Split.cons (.there .here) Split.nil))))) ?_
      unfold anewS anewJ anewC
      rw [if_pos (by omega), if_pos (by omega)]
      exact ⟨rfl, rfl⟩
    · have hno : ¬ (hsz ch.g < (firstB (j.epoch + 1) s.v).length + 7 ∨ 2147483647 ≤ j.epoch) := by omega
      have hJ : anewJ ch j s.v = if (anewC ch j s.v).2 ≠ 0 then { j with ended := true } else { j with half := 1 - j.half, epoch := j.epoch + 1, used := (firstB (j.epoch + 1) s.v).length + 7 } := by unfold anewJ; rw [if_neg hno]
      have hC : anewC ch j s.v = if (wipeN (nsec ch.g) (1 - j.half) (nsec ch.g) ch).2 ≠ 0 then wipeN (nsec ch.g) (1 - j.half) (nsec ch.g) ch else (wipeN (nsec ch.g) (1 - j.half) (nsec ch.g) ch).1.append (1 - j.half) 0 (firstB (j.epoch + 1) s.v) := by unfold anewC; rw [if_neg hno]
      have hns : ch.g.sectors = 2 * (nsec ch.g : Int) := by have := hok.geo.even; have := hok.geo.s; unfold nsec; omega
      have hhs : (1 - j.half) * nsec ch.g ≤ nsec ch.g := by rcases (by omega : 1 - j.half = 0 ∨ 1 - j.half = 1) with h | h <;> rw [h] <;> omega
      have hw := wipeN_ok (n := nsec ch.g) (h := 1 - j.half) (nsec ch.g) hok (Nat.le_refl _) (by omega)
      refine C.skip ?_
      refine Fin.th ?_
      refine C.region_seq ?_
      refine G.value rfl rfl rfl (Sure.move rfl) ?_
      refine G.value rfl rfl rfl (Sure.nilCheck rfl) ?_
      refine G.value rfl rfl rfl (Sure.fieldAddr rfl) ?_
      refine G.value rfl rfl rfl (Sure.load rfl rdx rfl) ?_
      refine G.value rfl rfl rfl (Sure.move rfl) ?_
      refine G.call rfl rfl rfl rfl rfl rfl (wipe_spec M4 ad ch (nsec ch.g) (1 - j.half) hok hns (by omega)) (Split.cons (.there .here) (Split.cons (.there (.there .here)) (Split.cons (.there (.there .here)) (Split.cons (.there (.there .here)) Split.nil)))) ?_
      rintro _ M5 _ le5 ⟨rfl, rfl⟩
      refine G.value rfl rfl rfl (Sure.assign rfl) ?_
      refine G.nil ?_
      refine C.seq ?_
      refine C.region_seq ?_
      refine G.value rfl rfl rfl (Sure.move rfl) ?_
      refine G.value rfl rfl rfl (Sure.eql rfl rfl) ?_
      refine G.nil ?_
      refine C.cond_dec rfl (fun hwok => ?_) (fun hwok => ?_)
      · have hwok : (wipeN (nsec ch.g) (1 - j.half) (nsec ch.g) ch).2 = 0 := hwok
        rw [if_neg (by omega)] at hC
        refine C.region ?_
        refine G.value rfl rfl rfl (Sure.move rfl) ?_
        refine G.value rfl rfl rfl (Sure.nilCheck rfl) ?_
        refine G.value rfl rfl rfl (Sure.fieldAddr rfl) ?_
        refine G.value rfl rfl rfl (Sure.load rfl rdx rfl) ?_
        refine G.value rfl rfl rfl (Sure.move rfl) ?_
        refine G.value rfl rfl rfl (Sure.move rfl) ?_
        refine G.call rfl rfl rfl rfl rfl rfl (append_spec M5 ad _ (1 - j.half) 0 p2 c2 (firstB (j.epoch + 1) s.v) hw.1 (by omega) (by omega) (SB.mono hs2 (le3.trans (le4.trans le5))) (by omega)) ((Split.cons .here (Split.cons .here (Split.cons .here (Split.cons .here Split.nil))))) ?_
        rintro _ M6 _ le6 ⟨rfl, rfl⟩
        rw [← hC]
        refine G.value rfl rfl rfl (Sure.assign rfl) ?_
        refine G.nil ?_
        refine Fin.th ?_
        refine C.seq ?_
        refine C.region_seq ?_
        refine G.value rfl rfl rfl (Sure.move rfl) ?_
        refine G.value rfl rfl rfl (Sure.neq rfl rfl) ?_
        refine G.nil ?_
        refine C.cond_dec rfl (fun hne => ?_) (fun hne => ?_)
        · have hne : (anewC ch j s.v).2 ≠ 0 := hne
          rw [if_pos hne] at hJ
          have hS : anewS ch j s.v s0 s = s0 := by unfold anewS; rw [if_pos hne]
          rw [hJ, hS]
          refine C.region_seq ?_
          refine G.value rfl rfl rfl (Sure.move rfl) ?_
          refine G.value rfl rfl rfl (Sure.nilCheck rfl) ?_
          refine G.value rfl rfl rfl (Sure.fieldAddr rfl) ?_
          refine G.dyn0 rfl rfl ?_
          refine Dyn.store rfl rfl pkx rfl rfl ?_
          refine G.nil ?_
          refine C.region_seq ?_
          refine G.value rfl rfl rfl (Sure.move rfl) ?_
          refine G.value rfl rfl rfl (Sure.assign rfl) ?_
          refine G.nil ?_
          refine C.ret ?_
          refine Fin.th_ret ?_
          exact Fin.fn (Res.tmp rfl rfl) (Split.cons .here (Split.cons .here (Split.cons .here (Split.cons .here (Split.cons .here Split.nil))))) ⟨rfl, rfl⟩
        · have hne : ¬ (anewC ch j s.v).2 ≠ 0 := hne
          rw [if_neg hne] at hJ
          have hS : anewS ch j s.v s0 s = s := by unfold anewS; rw [if_neg hne]
          have h0 : (anewC ch j s.v).2 = 0 := by omega
          rw [hJ, hS, h0]
          refine C.skip ?_
          refine Fin.th ?_
          -- draws its order
          refine C.draw_seq (_) mixed (by kernel_rfl) (Incl.refl _) ?_
          refine GD.val 0 rfl rfl rfl rfl (by kernel_rfl) rfl (Sure.move rfl) ?_
          refine GD.val 1 rfl rfl rfl rfl (by kernel_rfl) rfl (Sure.move rfl) ?_
          refine GD.val 2 rfl rfl rfl rfl (by kernel_rfl) rfl (Sure.move rfl) ?_
          refine GD.val 3 rfl rfl rfl rfl (by kernel_rfl) rfl (Sure.move rfl) ?_
          refine GD.val 4 rfl rfl rfl rfl (by kernel_rfl) rfl (Sure.move rfl) ?_
          refine GD.val 5 rfl rfl rfl rfl (by kernel_rfl) rfl (Sure.move rfl) ?_
          refine GD.val 6 rfl rfl rfl rfl (by kernel_rfl) rfl (Sure.nilCheck rfl) ?_
          refine GD.val 7 rfl rfl rfl rfl (by kernel_rfl) rfl (Sure.fieldAddr rfl) ?_
          refine GD.val 8 rfl rfl rfl rfl (by kernel_rfl) rfl (Sure.load rfl rdx rfl) ?_
          refine GD.val 9 rfl rfl rfl rfl (by kernel_rfl) rfl (Sure.add rfl rfl (inK64 (by omega))) ?_
          refine GD.val 10 rfl rfl rfl rfl (by kernel_rfl) rfl (Sure.move rfl) ?_
          refine GD.val 11 rfl rfl rfl rfl (by kernel_rfl) rfl (Sure.len_slice rfl) ?_
          refine GD.val 13 rfl rfl rfl rfl (by kernel_rfl) rfl (Sure.loadAgg rfl rdx rfl) ?_
          refine GD.one 12 (by kernel_rfl) rfl rfl (by kernel_rfl) ?_
          refine Next.call 12 rfl rfl rfl (by kernel_rfl) (by kernel_rfl) rfl rfl rfl rfl (size_spec M6 (firstB (j.epoch + 1) s.v).length (by omega)) (Split.nil) ?_
          rintro _ M7 _ le7 ⟨rfl, rfl⟩
          refine ⟨(by intro p hp; simp_all), ?_⟩
          refine GD.val 14 rfl rfl rfl rfl (by kernel_rfl) rfl (Sure.nilCheck rfl) ?_
          refine GD.val 15 rfl rfl rfl rfl (by kernel_rfl) rfl (Sure.fieldAddr rfl) ?_
          refine GD.one 16 (by kernel_rfl) rfl rfl (by kernel_rfl) ?_
          refine Next.dyn0P 16 ([(b3, .cells (staDL s))]) rfl rfl (by kernel_rfl) (by kernel_rfl) rfl (⟨.inl (by kernel_rfl), ⟨.inr ⟨_, rfl, .inl ⟨rfl, Sure.nilCheck rfl⟩⟩, ⟨.inr ⟨_, rfl, .inl ⟨rfl, Sure.loadAgg rfl rdx rfl⟩⟩, ⟨.inr ⟨_, rfl, .inl ⟨rfl, Sure.len_slice rfl⟩⟩, ⟨.inr ⟨_, rfl, .inl ⟨rfl, Sure.move rfl⟩⟩, ⟨.inr ⟨_, rfl, .inl ⟨rfl, Sure.add rfl rfl (inK64 (by omega))⟩⟩, ⟨.inl (by kernel_rfl), ⟨.inr ⟨_, rfl, .inl ⟨rfl, Sure.fieldAddr rfl⟩⟩, ⟨.inr ⟨_, rfl, .inl ⟨rfl, Sure.nilCheck rfl⟩⟩, ⟨.inr ⟨_, rfl, .inl ⟨rfl, Sure.move rfl⟩⟩, ⟨.inl (by kernel_rfl), ⟨.inr ⟨_, rfl, .inl ⟨rfl, Sure.move rfl⟩⟩, ⟨.inr ⟨_, rfl, .inl ⟨rfl, Sure.move rfl⟩⟩, ⟨.inr ⟨_, rfl, .inl ⟨rfl, Sure.move rfl⟩⟩, ⟨.inl (by kernel_rfl), trivial⟩⟩⟩⟩⟩⟩⟩⟩⟩⟩⟩⟩⟩⟩⟩) ?_
          refine Dyn.store rfl rfl (.there (.there (.there (.there .here)))) rfl rfl ?_
          refine ⟨MLe.refl _, (by intro p hp; simp_all), ?_⟩
          refine GD.val 17 rfl rfl rfl rfl (by kernel_rfl) rfl (Sure.nilCheck rfl) ?_
          refine GD.val 18 rfl rfl rfl rfl (by kernel_rfl) rfl (Sure.fieldAddr rfl) ?_
          refine GD.one 19 (by kernel_rfl) rfl rfl (by kernel_rfl) ?_
          refine Next.dyn0 19 rfl rfl (by kernel_rfl) (by kernel_rfl) rfl ?_
          refine Dyn.store rfl rfl pkx rfl rfl ?_
          refine ⟨MLe.refl _, incx, ?_⟩
          refine GD.val 20 rfl rfl rfl rfl (by kernel_rfl) rfl (Sure.nilCheck rfl) ?_
          refine GD.val 21 rfl rfl rfl rfl (by kernel_rfl) rfl (Sure.fieldAddr rfl) ?_
          refine GD.one 22 (by kernel_rfl) rfl rfl (by kernel_rfl) ?_
          refine Next.dyn0 22 rfl rfl (by kernel_rfl) (by kernel_rfl) rfl ?_
          refine Dyn.store rfl rfl pkx rfl rfl ?_
          refine ⟨MLe.refl _, incx, ?_⟩
          refine GD.val 23 rfl rfl rfl rfl (by kernel_rfl) rfl (Sure.nilCheck rfl) ?_
          refine GD.val 24 rfl rfl rfl rfl (by kernel_rfl) rfl (Sure.fieldAddr rfl) ?_
          refine GD.one 25 (by kernel_rfl) rfl rfl (by kernel_rfl) ?_
          refine Next.dyn0 25 rfl rfl (by kernel_rfl) (by kernel_rfl) rfl ?_
          refine Dyn.storeAgg rfl rfl pkx rfl rfl rfl ?_
          refine ⟨MLe.refl _, incx, ?_⟩
          refine GD.done (by kernel_rfl) (by kernel_rfl) ?_
          refine C.region_seq ?_
          refine G.value rfl rfl rfl (Sure.assign rfl) ?_
          refine G.nil ?_
          refine C.ret ?_
          exact Fin.fn (Res.tmp rfl rfl) (Split.cons .here (Split.cons .here (Split.cons .here (Split.cons .here (Split.cons .here Split.nil))))) ⟨rfl, rfl⟩
      · have hwno : (wipeN (nsec ch.g) (1 - j.half) (nsec ch.g) ch).2 ≠ 0 := hwok
        rw [if_pos hwno] at hC
        rw [← hC] at hwno ⊢
        rw [if_pos hwno] at hJ
        have hS : anewS ch j s.v s0 s = s0 := by unfold anewS; rw [if_pos hwno]
        rw [hJ, hS]
        refine C.skip ?_
        refine Fin.th ?_
        refine C.seq ?_
        refine C.region_seq ?_
        refine G.value rfl rfl rfl (Sure.move rfl) ?_
        refine G.value rfl rfl rfl ((Sure.neq rfl rfl).to_t hwno) ?_
        refine G.nil ?_
        refine C.cond_true rfl ?_
        refine C.region_seq ?_
        refine G.value rfl rfl rfl (Sure.move rfl) ?_
        refine G.value rfl rfl rfl (Sure.nilCheck rfl) ?_
        refine G.value rfl rfl rfl (Sure.fieldAddr rfl) ?_
        refine G.dyn0 rfl rfl ?_
        refine Dyn.store rfl rfl pkx rfl rfl ?_
        refine G.nil ?_
        refine C.region_seq ?_
        refine G.value rfl rfl rfl (Sure.move rfl) ?_
        refine G.value rfl rfl rfl (Sure.assign rfl) ?_
        refine G.nil ?_
        refine C.ret ?_
        refine Fin.th_ret ?_
        exact Fin.fn (Res.tmp rfl rfl) (Split.cons .here (Split.cons .here (Split.cons .here (Split.cons .here (Split.cons .here Split.nil))))) ⟨rfl, rfl⟩
end Go.Proofs.YtaeeahcokiebdaaGreat

/-
  The walk of committing.
-/
namespace Go.Proofs.YtaeeahcokiebdaaGreat
set_option maxRecDepth 20000

/-- What committing leads to: the chip, the journal, the state, and what it tells. -/
def commit (ch : Chip) (j : Jr) (s : Sta) (l : List Deed) : (Chip × Jr × Sta) × Int :=
  if j.ended = true then ((ch, j, s), 6)
  else if hsz ch.g < j.used + ((deedsB l).length + 7) then
    (((anewC ch j (applyL s l)).1, anewJ ch j (applyL s l), anewS ch j (applyL s l) s (applyL s l)), (anewC ch j (applyL s l)).2)
  else if (ch.append j.half j.used (deedsB l)).2 ≠ 0 then (((ch.append j.half j.used (deedsB l)).1, { j with ended := true }, s), (ch.append j.half j.used (deedsB l)).2)
  else (((ch.append j.half j.used (deedsB l)).1, { j with used := j.used + ((deedsB l).length + 7) }, applyL s l), 0)
theorem commit_spec (M : Mem) (jb : Nat) (ad : Ad) (ch : Chip) (j : Jr) (s : StaD) (p : Option Addr) (cap : Nat) (dl : List DeedD) (hok : ChipOk ad ch) (hj : JOk j ch.g) (hs : SOk M s) (hk : StaOk s.v) (hd : RDeeds M p dl)
    (hdk : ∀ d ∈ dl, InoOk d.d.x) (hl : dl.length ≤ 100000) (hb : (deedsB (dl.map DeedD.v)).length ≤ 10000000) (hk2 : StaOk (applyL s.v (dl.map DeedD.v))) (hb2 : (deedsB (whole (applyL s.v (dl.map DeedD.v)))).length ≤ 10000000) :
    Spec Tryz.prog 16 [ptr jb, .slice p dl.length cap] M ((jb, .cells (jrL ad.cb j s)) :: chipH ad ch)
      (fun v M' H => v = .int .i64 (commit ch j s.v (dl.map DeedD.v)).2 ∧ ∃ s' : StaD, s'.v = (commit ch j s.v (dl.map DeedD.v)).1.2.2 ∧ SOk M' s' ∧
        H = (jb, .cells (jrL ad.cb (commit ch j s.v (dl.map DeedD.v)).1.2.1 s')) :: chipH ad (commit ch j s.v (dl.map DeedD.v)).1.1) := by
  obtain ⟨hz, hz1, hz2, hz3⟩ := hsz_int hok.geo
  have hus := hj.used
  refine Spec.of_code 72 Tryz.func16 rfl callable16 rfl rfl fun w => ?_
  refine C.region_seq ?_
  refine G.value rfl rfl rfl (Sure.assign rfl) ?_
  refine G.nil ?_
  refine C.seq ?_
  refine C.block ?_
  refine C.region_seq ?_
  refine G.value rfl rfl rfl (Sure.move rfl) ?_
  refine G.value rfl rfl rfl (ptr_eq_f rfl rfl) ?_
  refine G.value rfl rfl rfl (Sure.assign rfl) ?_
  refine G.nil ?_
  refine C.cond_false rfl ?_
  refine C.region_seq ?_
  refine G.value rfl rfl rfl (Sure.move rfl) ?_
  refine G.value rfl rfl rfl (Sure.nilCheck rfl) ?_
  refine G.value rfl rfl rfl (Sure.fieldAddr rfl) ?_
  refine G.value rfl rfl rfl (Sure.load rfl rdx rfl) ?_
  refine G.value rfl rfl rfl (Sure.assign rfl) ?_
  refine G.nil ?_
  refine C.cond rfl (fun hend => ?_) (fun hend => ?_)
  · refine C.region_seq ?_
    refine G.value rfl rfl rfl (Sure.assign rfl) ?_
    refine G.nil ?_
    refine C.ret ?_
    refine Fin.blk_ret ?_
    refine Fin.th_ret ?_
    refine Fin.fn (Res.tmp rfl rfl) (Split.one PickL.all) ?_
    unfold commit
    rw [if_pos hend]
    exact ⟨rfl, s, rfl, hs, rfl⟩
  · refine C.skip ?_
    refine Fin.blk ?_
    refine Fin.th ?_
    refine C.cut (fun E M' H => ∃ (s' : StaD) (b6 : Nat) (p5 : Option Addr) (c5 : Nat), MLe M M' ∧ esub [(0, ptr jb), (5, .slice p5 (deedsB (dl.map DeedD.v)).length c5), (6, ptr b6)] E ∧ SB M' p5 (deedsB (dl.map DeedD.v)) ∧ SOk M' s' ∧ s'.v = applyL s.v (dl.map DeedD.v) ∧ ∃ R, Split ((b6, .cells (staDL s')) :: (jb, .cells (jrL ad.cb j s)) :: chipH ad ch) H R) ?_ ?_
    · -- draws its order
      refine C.draw ([(jb, .cells (jrL ad.cb j s))]) mixed (by kernel_rfl) (by intro p hp; simp_all) ?_
      refine GD.val 0 rfl rfl rfl rfl (by kernel_rfl) rfl (Sure.move rfl) ?_
      refine GD.val 2 rfl rfl rfl rfl (by kernel_rfl) rfl (Sure.move rfl) ?_
      refine GD.val 3 rfl rfl rfl rfl (by kernel_rfl) rfl (Sure.nilCheck rfl) ?_
      refine GD.val 4 rfl rfl rfl rfl (by kernel_rfl) rfl (Sure.fieldAddr rfl) ?_
      refine GD.val 5 rfl rfl rfl rfl (by kernel_rfl) rfl (Sure.loadAgg rfl rdx rfl) ?_
      refine GD.val 6 rfl rfl rfl rfl (by kernel_rfl) rfl (Sure.move rfl) ?_
      refine GD.two 1 8 (by kernel_rfl) rfl rfl (by kernel_rfl) ?_ ?_
      · refine Next.call 1 rfl rfl rfl (by kernel_rfl) (by kernel_rfl) rfl rfl rfl rfl (deeds_spec M p cap dl hd hb) (Split.nil) ?_
        rintro _ M2 _ le2 ⟨rfl, p5, c5, rfl, hs5⟩
        refine ⟨incx, ?_⟩
        refine GD.two 7 8 (by kernel_rfl) rfl rfl (by kernel_rfl) ?_ ?_
        · refine Next.call 7 rfl rfl rfl (by kernel_rfl) (by kernel_rfl) rfl rfl rfl rfl (apply_spec M2 s p cap dl (hs.mono le2) hk (hd.mono le2) hdk hl) (Split.nil) ?_
          rintro _ M3 _ le3 ⟨rfl, s', hv', rfl, hs'⟩
          refine ⟨incx, ?_⟩
          refine GD.one 8 (by kernel_rfl) rfl rfl (by kernel_rfl) ?_
          refine Next.dyn 8 rfl rfl rfl (by kernel_rfl) (by kernel_rfl) rfl ?_
          refine Dyn.allocAgg ?_
          intro b6
          refine ⟨MLe.refl _, incx, ?_⟩
          refine GD.one 9 (by kernel_rfl) rfl rfl (by kernel_rfl) ?_
          refine Next.dyn 9 rfl rfl rfl (by kernel_rfl) (by kernel_rfl) rfl (Dyn.assign rfl ?_)
          refine ⟨MLe.refl _, incx, ?_⟩
          refine GD.one 10 (by kernel_rfl) rfl rfl (by kernel_rfl) ?_
          refine Next.dyn0 10 rfl rfl (by kernel_rfl) (by kernel_rfl) rfl ?_
          refine Dyn.storeAgg rfl rfl pkx rfl rfl rfl ?_
          refine ⟨MLe.refl _, incx, ?_⟩
          refine GD.done (by kernel_rfl) (by kernel_rfl) ?_
          refine Fin.th ?_
          exact ⟨s', b6, p5, c5, le2.trans le3, ⟨rfl, rfl, rfl, trivial⟩, hs5.mono le3, hs', hv', _, Split.cons .here (Split.one PickL.all)⟩
        · refine Next.dyn 8 rfl rfl rfl (by kernel_rfl) (by kernel_rfl) rfl ?_
          refine Dyn.allocAgg ?_
          intro b6
          refine ⟨MLe.refl _, (by intro p hp; simp_all), ?_⟩
          refine GD.one 7 (by kernel_rfl) rfl rfl (by kernel_rfl) ?_
          refine Next.call 7 rfl rfl rfl (by kernel_rfl) (by kernel_rfl) rfl rfl rfl rfl (apply_spec M2 s p cap dl (hs.mono le2) hk (hd.mono le2) hdk hl) (Split.nil) ?_
          rintro _ M3 _ le3 ⟨rfl, s', hv', rfl, hs'⟩
          refine ⟨incx, ?_⟩
          refine GD.one 9 (by kernel_rfl) rfl rfl (by kernel_rfl) ?_
          refine Next.dyn 9 rfl rfl rfl (by kernel_rfl) (by kernel_rfl) rfl (Dyn.assign rfl ?_)
          refine ⟨MLe.refl _, incx, ?_⟩
          refine GD.one 10 (by kernel_rfl) rfl rfl (by kernel_rfl) ?_
          refine Next.dyn0 10 rfl rfl (by kernel_rfl) (by kernel_rfl) rfl ?_
          refine Dyn.storeAgg rfl rfl pkx rfl rfl rfl ?_
          refine ⟨MLe.refl _, incx, ?_⟩
          refine GD.done (by kernel_rfl) (by kernel_rfl) ?_
          refine Fin.th ?_
          exact ⟨s', b6, p5, c5, le2.trans le3, ⟨rfl, rfl, rfl, trivial⟩, hs5.mono le3, hs', hv', _, Split.cons .here (Split.one PickL.all)⟩
      · refine Next.dyn 8 rfl rfl rfl (by kernel_rfl) (by kernel_rfl) rfl ?_
        refine Dyn.allocAgg ?_
        intro b6
        refine ⟨MLe.refl _, (by intro p hp; simp_all), ?_⟩
        refine GD.one 1 (by kernel_rfl) rfl rfl (by kernel_rfl) ?_
        refine Next.call 1 rfl rfl rfl (by kernel_rfl) (by kernel_rfl) rfl rfl rfl rfl (deeds_spec M p cap dl hd hb) (Split.nil) ?_
        rintro _ M2 _ le2 ⟨rfl, p5, c5, rfl, hs5⟩
        refine ⟨incx, ?_⟩
        refine GD.one 7 (by kernel_rfl) rfl rfl (by kernel_rfl) ?_
        refine Next.call 7 rfl rfl rfl (by kernel_rfl) (by kernel_rfl) rfl rfl rfl rfl (apply_spec M2 s p cap dl (hs.mono le2) hk (hd.mono le2) hdk hl) (Split.nil) ?_
        rintro _ M3 _ le3 ⟨rfl, s', hv', rfl, hs'⟩
        refine ⟨incx, ?_⟩
        refine GD.one 9 (by kernel_rfl) rfl rfl (by kernel_rfl) ?_
        refine Next.dyn 9 rfl rfl rfl (by kernel_rfl) (by kernel_rfl) rfl (Dyn.assign rfl ?_)
        refine ⟨MLe.refl _, incx, ?_⟩
        refine GD.one 10 (by kernel_rfl) rfl rfl (by kernel_rfl) ?_
        refine Next.dyn0 10 rfl rfl (by kernel_rfl) (by kernel_rfl) rfl ?_
        refine Dyn.storeAgg rfl rfl pkx rfl rfl rfl ?_
        refine ⟨MLe.refl _, incx, ?_⟩
        refine GD.done (by kernel_rfl) (by kernel_rfl) ?_
        refine Fin.th ?_
        exact ⟨s', b6, p5, c5, le2.trans le3, ⟨rfl, rfl, rfl, trivial⟩, hs5.mono le3, hs', hv', _, Split.cons .here (Split.one PickL.all)⟩
    · rintro E M' H ⟨s', b6, p5, c5, le3, hsub, hs5, hs', hv', R, hspl⟩
      refine C.weak hsub (C.sub hspl ?_)
      clear hspl hsub
      refine C.region_seq ?_
      refine G.value rfl rfl rfl (Sure.move rfl) ?_
      refine G.value rfl rfl rfl (Sure.len_slice rfl) ?_
      refine G.call rfl rfl rfl rfl rfl rfl (size_spec M' (deedsB (dl.map DeedD.v)).length (by omega)) (Split.nil) ?_
      rintro _ M4 _ le4 ⟨rfl, rfl⟩
      refine G.value rfl rfl rfl (Sure.assign rfl) ?_
      refine G.nil ?_
      refine C.seq ?_
      -- draws its order
      refine C.draw_seq ([(jb, .cells (jrL ad.cb j s))]) mixed (by kernel_rfl) (by intro p hp; simp_all) ?_
      refine GD.val 0 rfl rfl rfl rfl (by kernel_rfl) rfl (Sure.move rfl) ?_
      refine GD.val 1 rfl rfl rfl rfl (by kernel_rfl) rfl (Sure.move rfl) ?_
      refine GD.val 3 rfl rfl rfl rfl (by kernel_rfl) rfl (Sure.move rfl) ?_
      refine GD.val 4 rfl rfl rfl rfl (by kernel_rfl) rfl (Sure.nilCheck rfl) ?_
      refine GD.val 5 rfl rfl rfl rfl (by kernel_rfl) rfl (Sure.fieldAddr rfl) ?_
      refine GD.val 6 rfl rfl rfl rfl (by kernel_rfl) rfl (Sure.load rfl rdx rfl) ?_
      refine GD.one 2 (by kernel_rfl) rfl rfl (by kernel_rfl) ?_
      refine Next.call 2 rfl rfl rfl (by kernel_rfl) (by kernel_rfl) rfl rfl rfl rfl (room_spec M4 jb ad ch j s hok) (Split.cons (.there .here) (Split.cons (.there .here) Split.nil)) ?_
      rintro _ M5 _ le5 ⟨rfl, rfl⟩
      refine ⟨(by intro p hp; simp_all), ?_⟩
      refine GD.val 7 rfl rfl rfl rfl (by kernel_rfl) rfl (Sure.sub rfl rfl (inK64 (by omega))) ?_
      refine GD.val 8 rfl rfl rfl rfl (by kernel_rfl) rfl (Sure.gtr rfl rfl) ?_
      refine GD.done (by kernel_rfl) (by kernel_rfl) ?_
      refine C.cond_dec rfl (fun hbig => ?_) (fun hbig => ?_)
      · have hc : commit ch j s.v (dl.map DeedD.v) = (((anewC ch j (applyL s.v (dl.map DeedD.v))).1, anewJ ch j (applyL s.v (dl.map DeedD.v)), anewS ch j (applyL s.v (dl.map DeedD.v)) s.v (applyL s.v (dl.map DeedD.v))), (anewC ch j (applyL s.v (dl.map DeedD.v))).2) := by
          unfold commit
          rw [if_neg (by rw [hend]; decide), if_pos (by omega)]
        rw [hc, ← hv']
        rw [← hv'] at hk2 hb2
        refine C.region_seq ?_
        refine G.value rfl rfl rfl (Sure.move rfl) ?_
        refine G.value rfl rfl rfl (Sure.loadAgg rfl rdx rfl) ?_
        refine G.call rfl rfl rfl rfl rfl rfl (anew_spec M5 jb ad ch j s s' hok hj (hs'.mono (le4.trans le5)) hk2 hb2) (Split.cons .here (Split.cons .here (Split.cons (.there .here) (Split.cons (.there .here) (Split.cons (.there .here) Split.nil))))) ?_
        rintro _ M6 _ le6 ⟨rfl, rfl⟩
        refine G.value rfl rfl rfl (Sure.assign rfl) ?_
        refine G.nil ?_
        refine C.ret ?_
        refine Fin.th_ret ?_
        refine Fin.fn (Res.tmp rfl rfl) (Split.cons .here (Split.cons .here (Split.cons .here (Split.cons .here (Split.cons .here Split.nil))))) ⟨rfl, anewS ch j s'.v s s', ?_, ?_, rfl⟩
        · unfold anewS; split <;> rfl
        · unfold anewS
          split
          · exact hs.mono (le3.trans (le4.trans (le5.trans le6)))
          · exact hs'.mono (le4.trans (le5.trans le6))
      · have hc : commit ch j s.v (dl.map DeedD.v) = if (ch.append j.half j.used (deedsB (dl.map DeedD.v))).2 ≠ 0 then (((ch.append j.half j.used (deedsB (dl.map DeedD.v))).1, { j with ended := true }, s.v), (ch.append j.half j.used (deedsB (dl.map DeedD.v))).2)
            else (((ch.append j.half j.used (deedsB (dl.map DeedD.v))).1, { j with used := j.used + ((deedsB (dl.map DeedD.v)).length + 7) }, applyL s.v (dl.map DeedD.v)), 0) := by
          unfold commit
          rw [if_neg (by rw [hend]; decide), if_neg (by omega)]
        rw [hc]
        refine C.skip ?_
        refine Fin.th ?_
        refine C.seq ?_
        -- draws its order
        refine C.draw_seq ([(jb, .cells (jrL ad.cb j s))]) mixed (by kernel_rfl) (by intro p hp; simp_all) ?_
        refine GD.val 0 rfl rfl rfl rfl (by kernel_rfl) rfl (Sure.move rfl) ?_
        refine GD.val 1 rfl rfl rfl rfl (by kernel_rfl) rfl (Sure.nilCheck rfl) ?_
        refine GD.val 2 rfl rfl rfl rfl (by kernel_rfl) rfl (Sure.fieldAddr rfl) ?_
        refine GD.val 3 rfl rfl rfl rfl (by kernel_rfl) rfl (Sure.load rfl rdx rfl) ?_
        refine GD.val 4 rfl rfl rfl rfl (by kernel_rfl) rfl (Sure.move rfl) ?_
        refine GD.val 5 rfl rfl rfl rfl (by kernel_rfl) rfl (Sure.nilCheck rfl) ?_
        refine GD.val 6 rfl rfl rfl rfl (by kernel_rfl) rfl (Sure.fieldAddr rfl) ?_
        refine GD.val 7 rfl rfl rfl rfl (by kernel_rfl) rfl (Sure.load rfl rdx rfl) ?_
        refine GD.val 8 rfl rfl rfl rfl (by kernel_rfl) rfl (Sure.move rfl) ?_
        refine GD.val 9 rfl rfl rfl rfl (by kernel_rfl) rfl (Sure.nilCheck rfl) ?_
        refine GD.val 10 rfl rfl rfl rfl (by kernel_rfl) rfl (Sure.fieldAddr rfl) ?_
        refine GD.val 11 rfl rfl rfl rfl (by kernel_rfl) rfl (Sure.load rfl rdx rfl) ?_
        refine GD.val 12 rfl rfl rfl rfl (by kernel_rfl) rfl (Sure.move rfl) ?_
        refine GD.one 13 (by kernel_rfl) rfl rfl (by kernel_rfl) ?_
        refine Next.call 13 rfl rfl rfl (by kernel_rfl) (by kernel_rfl) rfl rfl rfl rfl (append_spec M5 ad ch j.half j.used p5 c5 (deedsB (dl.map DeedD.v)) hok hj.half hus (SB.mono hs5 (le4.trans le5)) (by omega)) (Split.cons (.there .here) (Split.cons (.there (.there .here)) (Split.cons (.there (.there .here)) (Split.cons (.there (.there .here)) Split.nil)))) ?_
        rintro _ M6 _ le6 ⟨rfl, rfl⟩
        refine ⟨(by intro p hp; simp_all), ?_⟩
        refine GD.one 14 (by kernel_rfl) rfl rfl (by kernel_rfl) ?_
        refine Next.dyn 14 rfl rfl rfl (by kernel_rfl) (by kernel_rfl) rfl (Dyn.assign rfl ?_)
        refine ⟨MLe.refl _, incx, ?_⟩
        refine GD.done (by kernel_rfl) (by kernel_rfl) ?_
        refine C.region_seq ?_
        refine G.value rfl rfl rfl (Sure.move rfl) ?_
        refine G.value rfl rfl rfl (Sure.neq rfl rfl) ?_
        refine G.nil ?_
        refine C.cond_dec rfl (fun hne => ?_) (fun hne => ?_)
        · rw [if_pos hne]
          refine C.region_seq ?_
          refine G.value rfl rfl rfl (Sure.move rfl) ?_
          refine G.value rfl rfl rfl (Sure.nilCheck rfl) ?_
          refine G.value rfl rfl rfl (Sure.fieldAddr rfl) ?_
          refine G.dyn0 rfl rfl ?_
          refine Dyn.store rfl rfl pkx rfl rfl ?_
          refine G.nil ?_
          refine C.region_seq ?_
          refine G.value rfl rfl rfl (Sure.move rfl) ?_
          refine G.value rfl rfl rfl (Sure.assign rfl) ?_
          refine G.nil ?_
          refine C.ret ?_
          refine Fin.th_ret ?_
          exact Fin.fn (Res.tmp rfl rfl) (Split.cons .here (Split.cons .here (Split.cons .here (Split.cons .here (Split.cons .here Split.nil))))) ⟨rfl, s, rfl, hs.mono (le3.trans (le4.trans (le5.trans le6))), rfl⟩
        · rw [if_neg hne]
          refine C.skip ?_
          refine Fin.th ?_
          refine C.region_seq ?_
          refine G.value rfl rfl rfl (Sure.move rfl) ?_
          refine G.value rfl rfl rfl (Sure.nilCheck rfl) ?_
          refine G.value rfl rfl rfl (Sure.fieldAddr rfl) ?_
          refine G.value rfl rfl rfl (Sure.load rfl rdx rfl) ?_
          refine G.value rfl rfl rfl (Sure.move rfl) ?_
          refine G.value rfl rfl rfl (Sure.add rfl rfl (inK64 (by omega))) ?_
          refine G.value rfl rfl rfl (Sure.nilCheck rfl) ?_
          refine G.value rfl rfl rfl (Sure.fieldAddr rfl) ?_
          refine G.dyn0 rfl rfl ?_
          refine Dyn.store rfl rfl pkx rfl rfl ?_
          refine G.nil ?_
          refine C.region_seq ?_
          refine G.value rfl rfl rfl (Sure.move rfl) ?_
          refine G.value rfl rfl rfl (Sure.loadAgg rfl rdx rfl) ?_
          refine G.value rfl rfl rfl (Sure.nilCheck rfl) ?_
          refine G.value rfl rfl rfl (Sure.fieldAddr rfl) ?_
          refine G.dyn0 rfl rfl ?_
          refine Dyn.storeAgg rfl rfl pkx rfl rfl rfl ?_
          refine G.nil ?_
          refine C.region_seq ?_
          refine G.value rfl rfl rfl (Sure.assign rfl) ?_
          refine G.nil ?_
          refine C.ret ?_
          exact Fin.fn (Res.tmp rfl rfl) (Split.cons .here (Split.cons .here (Split.cons .here (Split.cons .here (Split.cons .here Split.nil))))) ⟨rfl, s', hv', hs'.mono (le4.trans (le5.trans le6)), rfl⟩
end Go.Proofs.YtaeeahcokiebdaaGreat

/-
  The walks of formatting, and of a journal's state.
-/
namespace Go.Proofs.YtaeeahcokiebdaaGreat
set_option maxRecDepth 20000

/-- So many halves are wiped, till one fails. -/
def wipeTo (ch : Chip) : Nat → Chip × Int
  | 0 => (ch, 0)
  | i + 1 => if (wipeTo ch i).2 ≠ 0 then wipeTo ch i else wipeN (nsec ch.g) i (nsec ch.g) (wipeTo ch i).1
/-- What formatting leads to. -/
def fmt (ch : Chip) : Chip × Int :=
  if (wipeTo ch 2).2 ≠ 0 then wipeTo ch 2 else (wipeTo ch 2).1.append 0 0 (firstB 1 staR)
def fmtJ : Jr := ⟨0, 1, (firstB 1 staR).length + 7, false⟩
theorem wipeTo_stop {ch : Chip} {i : Nat} (h : (wipeTo ch i).2 ≠ 0) (hi : i ≤ 2) : wipeTo ch 2 = wipeTo ch i := by
  rcases (by omega : i = 0 ∨ i = 1 ∨ i = 2) with rfl | rfl | rfl
  · exact absurd rfl h
  · conv => lhs; unfold wipeTo
    rw [if_pos h]
  · rfl
theorem wipeTo_ok {ad : Ad} {ch : Chip} (hok : ChipOk ad ch) : ∀ i, i ≤ 2 → ChipOk ad (wipeTo ch i).1 ∧ (wipeTo ch i).1.g = ch.g
  | 0, _ => ⟨hok, rfl⟩
  | i + 1, hi => by
    have ih := wipeTo_ok hok i (by omega)
    have hns : ch.g.sectors = 2 * (nsec ch.g : Int) := by have := hok.geo.even; have := hok.geo.s; unfold nsec; omega
    have hhs : i * nsec ch.g ≤ nsec ch.g := by rcases (by omega : i = 0 ∨ i = 1) with h | h <;> rw [h] <;> omega
    unfold wipeTo
    split
    · exact ih
    · have := wipeN_ok (n := nsec ch.g) (h := i) (nsec ch.g) ih.1 (Nat.le_refl _) (by rw [ih.2]; omega)
      rw [ih.2] at this
      exact this
theorem firstR_len : (firstB 1 staR).length = 8 + (deedsB (whole staR)).length ∧ (deedsB (whole staR)).length = 54 := by
  refine ⟨by simp [firstB], by simp [whole, staR, deedsB, deedB, inoB, inoR, intB, txtB, intsB_len]⟩
theorem staR_ok : StaOk staR := ⟨by simp [staR], by simp [staR], by intro x hx; simp [staR] at hx; subst hx; exact ⟨by simp [inoR], by simp [inoR]⟩⟩
theorem format_spec (M : Mem) (ad : Ad) (ch : Chip) (hok : ChipOk ad ch) :
    Spec Tryz.prog 14 [ptr ad.cb] M (chipH ad ch)
      (fun v M' H => (v = .tuple #[.pointer Option.none, .int .i64 (fmt ch).2] ∧ (fmt ch).2 ≠ 0 ∧ H = chipH ad (fmt ch).1) ∨
        ∃ (jb : Nat) (s : StaD), v = .tuple #[ptr jb, .int .i64 0] ∧ (fmt ch).2 = 0 ∧ s.v = staR ∧ SOk M' s ∧ H = (jb, .cells (jrL ad.cb fmtJ s)) :: chipH ad (fmt ch).1) := by
  have hns : ch.g.sectors = 2 * (nsec ch.g : Int) := by have := hok.geo.even; have := hok.geo.s; unfold nsec; omega
  refine Spec.of_code 49 Tryz.func14 rfl callable14 rfl rfl fun w => ?_
  refine C.region_seq ?_
  refine G.value rfl rfl rfl (Sure.assign rfl) ?_
  refine G.value rfl rfl rfl (Sure.assign rfl) ?_
  refine G.nil ?_
  refine C.seq ?_
  refine C.region_seq ?_
  refine G.value rfl rfl rfl (Sure.move rfl) ?_
  refine G.nil ?_
  refine C.block ?_
  refine C.loop (fun k E M' H => ∃ i : Nat, i + k = 2 ∧ (wipeTo ch i).2 = 0 ∧ MLe M M' ∧ E = [(0, ptr ad.cb), (9, .int .i64 i)] ∧ H = chipH ad (wipeTo ch i).1) (2) ?_ ?_
  · exact ⟨_, _, ⟨0, rfl, rfl, MLe.refl _, rfl, rfl⟩, ⟨rfl, rfl, trivial⟩, [], Split.one PickL.all⟩
  · rintro k E M' H ⟨i, hik, h0, hle, rfl, rfl⟩
    obtain ⟨hoki, hgi⟩ := wipeTo_ok hok i (by omega)
    refine C.region_seq ?_
    refine G.value rfl rfl rfl (Sure.lss rfl rfl) ?_
    refine G.nil ?_
    refine C.seq ?_
    refine C.cond_dec rfl (fun hlt => ?_) (fun hlt => ?_)
    · have hstep : wipeTo ch (i + 1) = wipeN (nsec ch.g) i (nsec ch.g) (wipeTo ch i).1 := by
        conv => lhs; unfold wipeTo
        rw [if_neg (by omega)]
      refine C.skip ?_
      refine Fin.th ?_
      refine C.seq ?_
      refine C.block ?_
      refine C.region_seq ?_
      refine G.value rfl rfl rfl (Sure.move rfl) ?_
      refine G.value rfl rfl rfl (Sure.assign rfl) ?_
      refine G.nil ?_
      refine C.region_seq ?_
      refine G.value rfl rfl rfl (Sure.move rfl) ?_
      refine G.value rfl rfl rfl (Sure.move rfl) ?_
      refine G.call rfl rfl rfl rfl rfl rfl (wipe_spec M' ad _ (nsec ch.g) i hoki (by rw [hgi]; exact hns) (by omega)) (Split.one PickL.all) ?_
      rintro _ M2 _ le2 ⟨rfl, rfl⟩
      rw [← hstep]
      refine G.value rfl rfl rfl (Sure.assign rfl) ?_
      refine G.nil ?_
      refine C.region_seq ?_
      refine G.value rfl rfl rfl (Sure.move rfl) ?_
      refine G.value rfl rfl rfl (Sure.neq rfl rfl) ?_
      refine G.nil ?_
      refine C.cond_dec rfl (fun hne => ?_) (fun hne => ?_)
      · have hst := wipeTo_stop (ch := ch) (i := i + 1) hne (by omega)
        have hf : fmt ch = wipeTo ch (i + 1) := by unfold fmt; rw [hst, if_pos hne]
        refine C.region_seq ?_
        refine G.value rfl rfl rfl (Sure.move rfl) ?_
        refine G.value rfl rfl rfl (Sure.assign rfl) ?_
        refine G.value rfl rfl rfl (Sure.assign rfl) ?_
        refine G.nil ?_
        refine C.ret ?_
        refine Fin.blk_ret ?_
        refine Fin.th_ret ?_
        refine Fin.th_ret ?_
        refine Fin.blk_ret ?_
        refine Fin.th_ret ?_
        exact Fin.fn (Res.tmp2 rfl rfl rfl) (Split.one PickL.here) (.inl ⟨by rw [hf], by rw [hf]; exact hne, by rw [hf]⟩)
      · refine C.skip ?_
        refine Fin.blk ?_
        refine Fin.th ?_
        refine C.region ?_
        refine G.value rfl rfl rfl (Sure.add rfl rfl (inK64 (by omega))) ?_
        refine G.value rfl rfl rfl (Sure.move rfl) ?_
        refine G.nil ?_
        refine Fin.th ?_
        exact ⟨k - 1, _, _, by omega, ⟨i + 1, by omega, by omega, hle.trans le2, rfl, rfl⟩, ⟨rfl, rfl, trivial⟩, _, Split.one PickL.here⟩
    · have hi2 : i = 2 := by omega
      subst hi2
      have hfm : fmt ch = (wipeTo ch 2).1.append 0 0 (firstB 1 staR) := by unfold fmt; rw [if_neg (by omega)]
      obtain ⟨hl1, hl2⟩ := firstR_len
      refine C.exit ?_
      refine Fin.th_exit ?_
      refine Fin.th_exit ?_
      refine Fin.blk_eq ?_
      refine Fin.th ?_
      refine C.region_seq ?_
      refine G.value rfl rfl rfl (Sure.move rfl) ?_
      refine G.call rfl rfl rfl rfl rfl rfl (stateNew_spec M') (Split.nil) ?_
      rintro _ M2 _ le2 ⟨rfl, s, hsv, rfl, hs⟩
      refine G.value rfl rfl rfl (Sure.build rfl rfl) ?_
      refine G.dyn rfl rfl rfl ?_
      refine Dyn.boxAgg rfl ?_
      intro b22
      refine G.value rfl rfl rfl (Sure.assign rfl) ?_
      refine G.nil ?_
      -- draws its order
      refine C.draw_seq (_) mixed (by kernel_rfl) (Incl.refl _) ?_
      refine GD.val 0 rfl rfl rfl rfl (by kernel_rfl) rfl (Sure.move rfl) ?_
      refine GD.val 1 rfl rfl rfl rfl (by kernel_rfl) rfl (Sure.nilCheck rfl) ?_
      refine GD.val 2 rfl rfl rfl rfl (by kernel_rfl) rfl (Sure.fieldAddr rfl) ?_
      refine GD.val 3 rfl rfl rfl rfl (by kernel_rfl) rfl (Sure.load rfl rdx rfl) ?_
      refine GD.val 4 rfl rfl rfl rfl (by kernel_rfl) rfl (Sure.move rfl) ?_
      refine GD.val 5 rfl rfl rfl rfl (by kernel_rfl) rfl (Sure.nilCheck rfl) ?_
      refine GD.val 6 rfl rfl rfl rfl (by kernel_rfl) rfl (Sure.fieldAddr rfl) ?_
      refine GD.val 7 rfl rfl rfl rfl (by kernel_rfl) rfl (Sure.loadAgg rfl rdx rfl) ?_
      refine GD.one 8 (by kernel_rfl) rfl rfl (by kernel_rfl) ?_
      refine Next.call 8 rfl rfl rfl (by kernel_rfl) (by kernel_rfl) rfl rfl rfl rfl (first_spec M2 1 s hs (by rw [hsv]; exact staR_ok) (by rw [hsv]; omega)) (Split.nil) ?_
      rintro v1 M3 Hs1 le3 hown
      refine ⟨(by intro p hp; simp_all), ?_⟩
      refine GD.donateOwn hown PickL.here (by intro p hp; simp_all) ?_
      rintro M4 p4 c4 le4 rfl hs4
      rw [hsv] at hs4 ⊢
      refine GD.one 9 (by kernel_rfl) rfl rfl (by kernel_rfl) ?_
      refine Next.dyn 9 rfl rfl rfl (by kernel_rfl) (by kernel_rfl) rfl (Dyn.assign rfl ?_)
      refine ⟨MLe.refl _, incx, ?_⟩
      refine GD.done (by kernel_rfl) (by kernel_rfl) ?_
      refine C.seq ?_
      refine C.region_seq ?_
      refine G.value rfl rfl rfl (Sure.move rfl) ?_
      refine G.value rfl rfl rfl (Sure.move rfl) ?_
      refine G.value rfl rfl rfl (Sure.nilCheck rfl) ?_
      refine G.value rfl rfl rfl (Sure.fieldAddr rfl) ?_
      refine G.value rfl rfl rfl (Sure.load rfl rdx rfl) ?_
      refine G.value rfl rfl rfl (Sure.move rfl) ?_
      refine G.call rfl rfl rfl rfl rfl rfl (append_spec M4 ad _ 0 0 p4 c4 (firstB 1 staR) hoki (by omega) (by omega) hs4 (by omega)) (Split.cons (.there .here) (Split.cons (.there .here) (Split.cons (.there .here) (Split.cons (.there .here) Split.nil)))) ?_
      rintro _ M5 _ le5 ⟨rfl, rfl⟩
      rw [← hfm]
      refine G.value rfl rfl rfl (Sure.assign rfl) ?_
      refine G.nil ?_
      refine C.region_seq ?_
      refine G.value rfl rfl rfl (Sure.move rfl) ?_
      refine G.value rfl rfl rfl (Sure.neq rfl rfl) ?_
      refine G.nil ?_
      refine C.cond_dec rfl (fun hne => ?_) (fun hne => ?_)
      · refine C.region_seq ?_
        refine G.value rfl rfl rfl (Sure.move rfl) ?_
        refine G.value rfl rfl rfl (Sure.assign rfl) ?_
        refine G.value rfl rfl rfl (Sure.assign rfl) ?_
        refine G.nil ?_
        refine C.ret ?_
        refine Fin.th_ret ?_
        exact Fin.fn (Res.tmp2 rfl rfl rfl) (Split.one PickL.here) (.inl ⟨rfl, hne, rfl⟩)
      · refine C.skip ?_
        refine Fin.th ?_
        refine C.region_seq ?_
        refine G.value rfl rfl rfl (Sure.move rfl) ?_
        refine G.value rfl rfl rfl (Sure.move rfl) ?_
        refine G.value rfl rfl rfl (Sure.len_slice rfl) ?_
        refine G.call rfl rfl rfl rfl rfl rfl (size_spec M5 (firstB 1 staR).length (by omega)) (Split.nil) ?_
        rintro _ M6 _ le6 ⟨rfl, rfl⟩
        refine G.value rfl rfl rfl (Sure.nilCheck rfl) ?_
        refine G.value rfl rfl rfl (Sure.fieldAddr rfl) ?_
        refine G.dyn0 rfl rfl ?_
        refine Dyn.store rfl rfl pkx rfl rfl ?_
        refine G.nil ?_
        refine C.region_seq ?_
        refine G.value rfl rfl rfl (Sure.move rfl) ?_
        refine G.value rfl rfl rfl (Sure.assign rfl) ?_
        refine G.value rfl rfl rfl (Sure.assign rfl) ?_
        refine G.nil ?_
        refine C.ret ?_
        exact Fin.fn (Res.tmp2 rfl rfl rfl) (Split.cons .here (Split.cons .here (Split.cons .here (Split.cons .here (Split.cons .here Split.nil))))) (.inr ⟨b22, s, rfl, by omega, hsv, hs.mono (le3.trans (le4.trans (le5.trans le6))), rfl⟩)
theorem jstate_spec (M : Mem) (jb : Nat) (cb : Nat) (j : Jr) (s : StaD) (hs : SOk M s) (hk : StaOk s.v) :
    Spec Tryz.prog 20 [ptr jb] M [(jb, .cells (jrL cb j s))] (fun v M' H => H = [(jb, .cells (jrL cb j s))] ∧ RetSta s.v v M' []) := by
  refine Spec.of_code 11 Tryz.func20 rfl callable20 rfl rfl fun w => ?_
  refine C.region_seq ?_
  refine G.dyn rfl rfl rfl ?_
  refine Dyn.allocAgg ?_
  intro b2
  refine G.nil ?_
  refine C.seq ?_
  refine C.region_seq ?_
  refine G.value rfl rfl rfl (Sure.move rfl) ?_
  refine G.value rfl rfl rfl (ptr_eq_f rfl rfl) ?_
  refine G.nil ?_
  refine C.cond_false rfl ?_
  refine C.skip ?_
  refine Fin.th ?_
  refine C.region_seq ?_
  refine G.value rfl rfl rfl (Sure.move rfl) ?_
  refine G.value rfl rfl rfl (Sure.nilCheck rfl) ?_
  refine G.value rfl rfl rfl (Sure.fieldAddr rfl) ?_
  refine G.value rfl rfl rfl (Sure.loadAgg rfl rdx rfl) ?_
  refine G.call rfl rfl rfl rfl rfl rfl (apply_spec M s Option.none 0 [] hs hk ⟨⟨by simp, Sl.empty⟩, by simp⟩ (by simp) (by simp)) (Split.nil) ?_
  rintro _ M3 _ le3 ⟨rfl, s', hv', rfl, hs'⟩
  refine G.dyn0 rfl rfl ?_
  refine Dyn.storeAgg rfl rfl pkx rfl rfl rfl ?_
  refine G.nil ?_
  refine C.ret ?_
  exact Fin.fn (Res.cellAgg rfl rfl rdx rfl) (Split.cons (.there .here) Split.nil) ⟨rfl, rfl, s', hv', rfl, hs'⟩
end Go.Proofs.YtaeeahcokiebdaaGreat

/-
  The walks of numbers and texts out of bytes, of copies of bytes, and of reading a half.
  Conditions: bytes are a thousand million at most; the chip is as it should be.
-/
namespace Go.Proofs.YtaeeahcokiebdaaGreat
set_option maxRecDepth 20000

/-- The number that bytes are, the lowest first. -/
def num : List UInt8 → Nat
  | [] => 0
  | x :: l => x.toNat + 256 * num l
theorem num_lt : ∀ l : List UInt8, num l < 256 ^ l.length
  | [] => by simp [num]
  | x :: l => by
    have h1 := num_lt l
    have h2 := x.toNat_lt
    have h3 : (256 : Nat) ^ (x :: l).length = 256 * 256 ^ l.length := by rw [List.length_cons, Nat.pow_succ]; exact Nat.mul_comm _ _
    simp only [num]
    omega
theorem num_snoc : ∀ (l : List UInt8) (x : UInt8), num (l ++ [x]) = num l + 256 ^ l.length * x.toNat
  | [], x => by simp [num]
  | y :: l, x => by
    have h := num_snoc l x
    have h3 : (256 : Nat) ^ (y :: l).length = 256 * 256 ^ l.length := by rw [List.length_cons, Nat.pow_succ]; exact Nat.mul_comm _ _
    rw [h3]
    simp only [num, List.cons_append, h, Nat.mul_add, Nat.mul_assoc]
    omega
/-- A slice that stays as it is, and its room. -/
def SC (M : Mem) (p : Option Addr) (cap : Nat) (bs : List UInt8) : Prop := SB M p bs ∧ bs.length ≤ cap
theorem SC.mono {M M' p cap bs} (h : SC M p cap bs) (hl : MLe M M') : SC M' p cap bs := ⟨h.1.mono hl, h.2⟩
theorem bytesV_sub (bs : List UInt8) (a n : Nat) : (bytesV bs |>.drop (a * 1)).take (n * 1) = bytesV ((bs.drop a).take n) := by
  simp [bytesV, List.map_take, List.map_drop]
theorem SC.sub {M p cap bs} (h : SC M p cap bs) {lo hi : Nat} (h1 : lo ≤ hi) (h2 : hi ≤ bs.length) : SC M (subP p cap lo 1) (cap - lo) ((bs.drop lo).take (hi - lo)) := by
  have hl : ((bs.drop lo).take (hi - lo)).length = hi - lo := by simp; omega
  refine ⟨?_, by have := h.2; omega⟩
  have h3 := Sl.sub (sz := 1) (cap := cap) h.1 h1 h2 h.2
  rw [bytesV_sub] at h3
  unfold SB
  rw [hl]
  exact h3
theorem SC.rest {M p cap bs} (h : SC M p cap bs) {lo : Nat} (h2 : lo ≤ bs.length) : SC M (subP p cap lo 1) (cap - lo) (bs.drop lo) := by
  have := h.sub (lo := lo) (hi := bs.length) h2 (Nat.le_refl _)
  rwa [List.take_of_length_le (by simp)] at this
def RetC (bs : List UInt8) (v : Value) (M : Mem) (H : Heap) : Prop := H = [] ∧ ∃ p cap, v = .slice p bs.length cap ∧ SC M p cap bs
theorem Spec.retC {f args M} {bs : List UInt8} (h : Spec Tryz.prog f args M [] (fun v _ H => OwnB bs v H)) : Spec Tryz.prog f args M [] (fun v M' H => RetC bs v M' H) := by
  refine ⟨h.callable, fun w hw => (h.runs w hw).mono ?_⟩
  rintro e w' ⟨v, M', H', rfl, hst, h1, h2⟩
  rcases h2 with ⟨rfl, hn, rfl⟩ | ⟨b, cap, junk, rfl, h3, rfl, h4⟩
  · exact ⟨_, M', [], rfl, hst, rfl, Option.none, 0, by rw [hn], ⟨h1, fun hp => absurd hp (by omega)⟩, by omega⟩
  · exact ⟨_, _, [], rfl, hst.donate, rfl, _, _, rfl, ⟨h1, fun _ => ⟨b, 0, xs_of b bs junk, rfl, Rd.m (by simp [mput, xs_of]), by simpa [seg, xs_of] using takeN_append h1⟩⟩, h3⟩
theorem orPow (a c i : Nat) (h : a < 256 ^ i) : a ||| (c * 256 ^ i) = a + 256 ^ i * c := by
  have h1 : (256 : Nat) ^ i = 2 ^ (8 * i) := by rw [Nat.pow_mul]
  rw [h1] at h ⊢
  have h2 := Nat.shiftLeft_add_eq_or_of_lt h c
  rw [Nat.shiftLeft_eq] at h2
  rw [Nat.or_comm, ← h2, Nat.mul_comm]
  omega
theorem pow_le8 {i : Nat} (h : i ≤ 8) : 256 ^ i ≤ 18446744073709551616 := by
  have := Nat.pow_le_pow_right (n := 256) (by decide) h
  exact this
theorem get_spec (M : Mem) (p : Option Addr) (cap : Nat) (bs : List UInt8) (at_ n : Nat) (hs : SC M p cap bs) (hb : bs.length ≤ 1000000000) (hat : at_ ≤ 2000000000) (hn : 1 ≤ n ∧ n ≤ 8) :
    Spec Tryz.prog 138 [.slice p bs.length cap, intV at_, intV n] M [] (fun v _ H => H = [] ∧
      ((at_ + n ≤ bs.length ∧ v = .tuple #[.int .u64 (num ((bs.drop at_).take n)), intV 0]) ∨ (bs.length < at_ + n ∧ v = .tuple #[.int .u64 ((0 : Nat) : Int), intV 3]))) := by
  refine Spec.of_code 50 Tryz.func138 rfl callable138 rfl rfl fun w => ?_
  refine C.region_seq ?_
  refine G.value rfl rfl rfl (Sure.assign rfl) ?_
  refine G.value rfl rfl rfl (Sure.assign rfl) ?_
  refine G.nil ?_
  refine C.seq ?_
  refine C.block ?_
  refine C.region_seq ?_
  refine G.value rfl rfl rfl (Sure.move rfl) ?_
  refine G.value rfl rfl rfl ((Sure.lss rfl rfl).to_f (by omega)) ?_
  refine G.value rfl rfl rfl (Sure.move rfl) ?_
  refine G.value rfl rfl rfl (Sure.move rfl) ?_
  refine G.value rfl rfl rfl ((Sure.lss rfl rfl).to_f (by omega)) ?_
  refine G.value rfl rfl rfl (Sure.pick_false rfl rfl) ?_
  refine G.value rfl rfl rfl (Sure.move rfl) ?_
  refine G.value rfl rfl rfl (Sure.move rfl) ?_
  refine G.value rfl rfl rfl ((Sure.gtr rfl rfl).to_f (by omega)) ?_
  refine G.value rfl rfl rfl (Sure.pick_false rfl rfl) ?_
  refine G.value rfl rfl rfl (Sure.assign rfl) ?_
  refine G.nil ?_
  refine C.cond_false rfl ?_
  refine C.region_seq ?_
  refine G.value rfl rfl rfl (Sure.move rfl) ?_
  refine G.value rfl rfl rfl (Sure.len_slice rfl) ?_
  refine G.value rfl rfl rfl (Sure.move rfl) ?_
  refine G.value rfl rfl rfl (Sure.sub rfl rfl (inK64 (by omega))) ?_
  refine G.value rfl rfl rfl (Sure.move rfl) ?_
  refine G.value rfl rfl rfl (Sure.lss rfl rfl) ?_
  refine G.value rfl rfl rfl (Sure.assign rfl) ?_
  refine G.nil ?_
  refine C.cond_dec rfl (fun hsh => ?_) (fun hsh => ?_)
  · refine C.region_seq ?_
    refine G.value rfl rfl rfl (Sure.assign rfl) ?_
    refine G.value rfl rfl rfl (Sure.assign rfl) ?_
    refine G.nil ?_
    refine C.ret ?_
    refine Fin.blk_ret ?_
    refine Fin.th_ret ?_
    exact Fin.fn (Res.tmp2 rfl rfl rfl) Split.nil ⟨rfl, .inr ⟨by omega, rfl⟩⟩
  · have hfit : at_ + n ≤ bs.length := by omega
    have hsl := hs.sub (lo := at_) (hi := at_ + n) (by omega) hfit
    rw [show at_ + n - at_ = n from by omega] at hsl
    generalize hbs : (bs.drop at_).take n = cs at hsl
    have hcl : cs.length = n := by rw [← hbs]; simp; omega
    have hcap := hs.2
    refine C.skip ?_
    refine Fin.blk ?_
    refine Fin.th ?_
    refine C.region_seq ?_
    refine G.value rfl rfl rfl (Sure.assign rfl) ?_
    refine G.nil ?_
    refine C.seq ?_
    refine C.region_seq ?_
    refine G.value rfl rfl rfl (Sure.move rfl) ?_
    refine G.value rfl rfl rfl (Sure.move rfl) ?_
    refine G.value rfl rfl rfl (Sure.move rfl) ?_
    refine G.value rfl rfl rfl (Sure.move rfl) ?_
    refine G.value rfl rfl rfl (Sure.add rfl rfl (inK64 (by omega))) ?_
    refine G.value rfl rfl rfl (Sure.slice at_ (at_ + n) rfl rfl rfl (.inl rfl) (.inl (by simp)) (by omega) (by omega)) ?_
    rw [show at_ + n - at_ = n from by omega]
    refine G.value rfl rfl rfl (Sure.len_slice rfl) ?_
    refine G.value rfl rfl rfl (Sure.move rfl) ?_
    refine G.nil ?_
    refine C.block ?_
    refine C.loop (fun k E M' H => ∃ a b : List UInt8, MLe M M' ∧ cs = a ++ b ∧ b.length = k ∧ E = [(8, .int .u64 (num a)), (34, .slice (subP p cap at_ 1) n (cap - at_)), (35, intV n), (36, intV a.length)] ∧ H = []) (n) ?_ ?_
    · exact ⟨_, _, ⟨[], cs, MLe.refl _, rfl, hcl, rfl, rfl⟩, ⟨rfl, rfl, rfl, rfl, trivial⟩, _, Split.nil⟩
    · rintro k E M' H ⟨a, b, hle, hab, hk, rfl, rfl⟩
      have hlen : n = a.length + b.length := by rw [← hcl, hab]; simp
      have hlt := num_lt a
      refine C.region_seq ?_
      refine G.value rfl rfl rfl (Sure.lss rfl rfl) ?_
      refine G.nil ?_
      refine C.seq ?_
      refine C.cond_dec rfl (fun hlt2 => ?_) (fun hlt2 => ?_)
      · cases b with
        | nil => simp at hlen; omega
        | cons x b =>
          obtain ⟨q', o, c, hq, hrd, hcell⟩ := Sl.cell (i := a.length) (v := byteV x) (Sl.heap (H := []) (hsl.mono hle).1) (by rw [hab]; simp [bytesV])
          have hx := x.toNat_lt
          have hal : a.length ≤ 7 := by simp at hlen; omega
          have hp1 := pow_le8 (i := a.length) (by omega)
          have hp2 := pow_le8 (i := a.length + 1) (by omega)
          have hps : (256 : Nat) ^ (a.length + 1) = 256 * 256 ^ a.length := by rw [Nat.pow_succ]; exact Nat.mul_comm _ _
          have hxp : x.toNat * 256 ^ a.length ≤ 255 * 256 ^ a.length := Nat.mul_le_mul_right _ (by omega)
          rw [hq]
          refine C.skip ?_
          refine Fin.th ?_
          refine C.seq ?_
          refine C.block ?_
          refine C.region_seq ?_
          refine G.value rfl rfl rfl (Sure.move rfl) ?_
          refine G.value rfl rfl rfl (Sure.indexAddr rfl rfl (by simp at hlen; omega)) ?_
          refine G.value rfl rfl rfl (Sure.load rfl hrd hcell) ?_
          unfold byteV
          refine G.value rfl rfl rfl (Sure.assign rfl) ?_
          refine G.value rfl rfl rfl (Sure.assign rfl) ?_
          refine G.nil ?_
          refine C.region ?_
          refine G.value rfl rfl rfl (Sure.move rfl) ?_
          refine G.value rfl rfl rfl (Sure.move rfl) ?_
          refine G.value rfl rfl rfl (Sure.conv rfl (inKu64 (by omega))) ?_
          refine G.value rfl rfl rfl (Sure.move rfl) ?_
          refine G.value rfl rfl rfl (Sure.mul rfl rfl (inK64 (by omega))) ?_
          refine G.value rfl rfl rfl (Sure.shl rfl rfl (by simp [IntKind.bits]; omega)) ?_
          rw [show IntKind.u64.wrap ((x.toNat : Int) * 2 ^ (8 * (a.length : Int)).toNat) = ((x.toNat * 256 ^ a.length : Nat) : Int) from by
            have e : (8 * (a.length : Int)).toNat = 8 * a.length := by omega
            have e2 : ((2 : Int) ^ (8 * a.length)) = ((256 ^ a.length : Nat) : Int) := by rw [Int.pow_mul]; simp
            rw [e, e2, ← Int.natCast_mul]
            exact inKu64 (by omega)]
          refine G.value rfl rfl rfl (Sure.or rfl rfl) ?_
          refine G.value rfl rfl rfl (Sure.assign rfl) ?_
          refine G.nil ?_
          refine Fin.blk ?_
          refine Fin.th ?_
          refine C.region ?_
          refine G.value rfl rfl rfl (Sure.add rfl rfl (inK64 (by omega))) ?_
          refine G.value rfl rfl rfl (Sure.move rfl) ?_
          refine G.nil ?_
          refine Fin.th ?_
          rw [Go.u64_or_nat _ _ (by omega) (by omega), orPow _ _ _ hlt]
          refine ⟨b.length, _, _, by simp at hk; omega, ⟨a ++ [x], b, hle, by rw [hab]; simp, rfl, rfl, rfl⟩, ⟨?_, rfl, rfl, by simp; rfl, trivial⟩, _, Split.nil⟩
          rw [num_snoc]; rfl
      · have hb0 : b = [] := List.eq_nil_of_length_eq_zero (by omega)
        subst hb0
        rw [List.append_nil] at hab
        subst hab
        refine C.exit ?_
        refine Fin.th_exit ?_
        refine Fin.th_exit ?_
        refine Fin.blk_eq ?_
        refine Fin.th ?_
        refine C.region_seq ?_
        refine G.value rfl rfl rfl (Sure.move rfl) ?_
        refine G.value rfl rfl rfl (Sure.assign rfl) ?_
        refine G.value rfl rfl rfl (Sure.assign rfl) ?_
        refine G.nil ?_
        refine C.ret ?_
        exact Fin.fn (Res.tmp2 rfl rfl rfl) Split.nil ⟨rfl, .inl ⟨hfit, rfl⟩⟩
theorem getInt_spec (M : Mem) (p : Option Addr) (cap : Nat) (bs : List UInt8) (at_ : Nat) (hs : SC M p cap bs) (hb : bs.length ≤ 1000000000) (hat : at_ ≤ 2000000000) :
    Spec Tryz.prog 103 [.slice p bs.length cap, intV at_] M [] (fun v _ H => H = [] ∧
      ((at_ + 8 ≤ bs.length ∧ v = .tuple #[intV (IntKind.i64.wrap (num ((bs.drop at_).take 8))), intV 0]) ∨ (bs.length < at_ + 8 ∧ v = .tuple #[intV 0, intV 3]))) := by
  refine Spec.of_code 17 Tryz.func103 rfl callable103 rfl rfl fun w => ?_
  refine C.region_seq ?_
  refine G.value rfl rfl rfl (Sure.assign rfl) ?_
  refine G.value rfl rfl rfl (Sure.assign rfl) ?_
  refine G.nil ?_
  refine C.region_seq ?_
  refine G.value rfl rfl rfl (Sure.move rfl) ?_
  refine G.value rfl rfl rfl (Sure.move rfl) ?_
  refine G.call rfl rfl rfl rfl rfl rfl (get_spec M p cap bs at_ 8 hs hb hat (by omega)) (Split.nil) ?_
  rintro _ M1 _ le1 ⟨rfl, ⟨hfit, rfl⟩ | ⟨hfit, rfl⟩⟩
  · refine G.value rfl rfl rfl (Sure.move rfl) ?_
    refine G.value rfl rfl rfl (Sure.extract rfl rfl) ?_
    refine G.value rfl rfl rfl (Sure.extract rfl rfl) ?_
    refine G.value rfl rfl rfl (Sure.assign rfl) ?_
    refine G.value rfl rfl rfl (Sure.assign rfl) ?_
    refine G.nil ?_
    refine C.region_seq ?_
    refine G.value rfl rfl rfl (Sure.move rfl) ?_
    refine G.value rfl rfl rfl (Sure.conv' rfl) ?_
    refine G.value rfl rfl rfl (Sure.move rfl) ?_
    refine G.value rfl rfl rfl (Sure.assign rfl) ?_
    refine G.value rfl rfl rfl (Sure.assign rfl) ?_
    refine G.nil ?_
    refine C.ret ?_
    exact Fin.fn (Res.tmp2 rfl rfl rfl) Split.nil ⟨rfl, .inl ⟨hfit, rfl⟩⟩
  · skip
    refine G.value rfl rfl rfl (Sure.move rfl) ?_
    refine G.value rfl rfl rfl (Sure.extract rfl rfl) ?_
    refine G.value rfl rfl rfl (Sure.extract rfl rfl) ?_
    refine G.value rfl rfl rfl (Sure.assign rfl) ?_
    refine G.value rfl rfl rfl (Sure.assign rfl) ?_
    refine G.nil ?_
    refine C.region_seq ?_
    refine G.value rfl rfl rfl (Sure.move rfl) ?_
    refine G.value rfl rfl rfl (Sure.conv (a := ((0 : Nat) : Int)) rfl (inK64 (by omega))) ?_
    refine G.value rfl rfl rfl (Sure.move rfl) ?_
    refine G.value rfl rfl rfl (Sure.assign rfl) ?_
    refine G.value rfl rfl rfl (Sure.assign rfl) ?_
    refine G.nil ?_
    refine C.ret ?_
    exact Fin.fn (Res.tmp2 rfl rfl rfl) Split.nil ⟨rfl, .inr ⟨hfit, rfl⟩⟩
/-- A text at a place of bytes. -/
def txtAt (bs : List UInt8) (at_ : Nat) : Option (List UInt8) :=
  if at_ + 4 ≤ bs.length ∧ at_ + 4 + num ((bs.drop at_).take 4) ≤ bs.length then some ((bs.drop (at_ + 4)).take (num ((bs.drop at_).take 4))) else Option.none
theorem getText_spec (M : Mem) (p : Option Addr) (cap : Nat) (bs : List UInt8) (at_ : Nat) (hs : SC M p cap bs) (hb : bs.length ≤ 1000000000) (hat : at_ ≤ 2000000000) :
    Spec Tryz.prog 175 [.slice p bs.length cap, intV at_] M [] (fun v _ H => H = [] ∧
      ((∃ t, txtAt bs at_ = some t ∧ v = .tuple #[.string ⟨t.toArray⟩, intV ((at_ + 4 + t.length : Nat) : Int), intV 0]) ∨ (txtAt bs at_ = Option.none ∧ v = .tuple #[.string ⟨#[]⟩, intV 0, intV 3]))) := by
  have hcap := hs.2
  refine Spec.of_code 38 Tryz.func175 rfl callable175 rfl rfl fun w => ?_
  refine C.region_seq ?_
  refine G.value rfl rfl rfl (Sure.assign rfl) ?_
  refine G.value rfl rfl rfl (Sure.assign rfl) ?_
  refine G.value rfl rfl rfl (Sure.assign rfl) ?_
  refine G.nil ?_
  refine C.region_seq ?_
  refine G.value rfl rfl rfl (Sure.move rfl) ?_
  refine G.value rfl rfl rfl (Sure.move rfl) ?_
  refine G.call rfl rfl rfl rfl rfl rfl (get_spec M p cap bs at_ 4 hs hb hat (by omega)) (Split.nil) ?_
  rintro _ M1 _ le1 ⟨rfl, ⟨hfit, rfl⟩ | ⟨hfit, rfl⟩⟩
  · have hn := num_lt ((bs.drop at_).take 4)
    have hl4 : ((bs.drop at_).take 4).length = 4 := by simp; omega
    rw [hl4] at hn
    have hn' : num ((bs.drop at_).take 4) < 4294967296 := hn
    generalize hnn : num ((bs.drop at_).take 4) = n at hn'
    refine G.value rfl rfl rfl (Sure.move rfl) ?_
    refine G.value rfl rfl rfl (Sure.extract rfl rfl) ?_
    refine G.value rfl rfl rfl (Sure.extract rfl rfl) ?_
    refine G.value rfl rfl rfl (Sure.assign rfl) ?_
    refine G.value rfl rfl rfl (Sure.assign rfl) ?_
    refine G.nil ?_
    refine C.seq ?_
    refine C.region_seq ?_
    refine G.value rfl rfl rfl (Sure.move rfl) ?_
    refine G.value rfl rfl rfl ((Sure.neq rfl rfl).to_f (by decide)) ?_
    refine G.nil ?_
    refine C.cond_false rfl ?_
    refine C.skip ?_
    refine Fin.th ?_
    refine C.region_seq ?_
    refine G.value rfl rfl rfl (Sure.move rfl) ?_
    refine G.value rfl rfl rfl (Sure.add rfl rfl (inK64 (by omega))) ?_
    refine G.value rfl rfl rfl (Sure.assign rfl) ?_
    refine G.nil ?_
    refine C.seq ?_
    refine C.region_seq ?_
    refine G.value rfl rfl rfl (Sure.move rfl) ?_
    refine G.value rfl rfl rfl (Sure.move rfl) ?_
    refine G.value rfl rfl rfl (Sure.len_slice rfl) ?_
    refine G.value rfl rfl rfl (Sure.move rfl) ?_
    refine G.value rfl rfl rfl (Sure.sub rfl rfl (inK64 (by omega))) ?_
    refine G.value rfl rfl rfl (Sure.conv rfl (inKu64 (by omega))) ?_
    refine G.value rfl rfl rfl (Sure.gtr rfl rfl) ?_
    refine G.nil ?_
    refine C.cond_dec rfl (fun hbig => ?_) (fun hbig => ?_)
    · refine C.region_seq ?_
      refine G.value rfl rfl rfl (Sure.assign rfl) ?_
      refine G.value rfl rfl rfl (Sure.assign rfl) ?_
      refine G.value rfl rfl rfl (Sure.assign rfl) ?_
      refine G.nil ?_
      refine C.ret ?_
      refine Fin.th_ret ?_
      exact Fin.fn (Res.tmp3 rfl rfl rfl rfl) Split.nil ⟨rfl, .inr ⟨by unfold txtAt; rw [hnn, if_neg (by omega)], rfl⟩⟩
    · have hfit2 : at_ + 4 + n ≤ bs.length := by omega
      have htx : txtAt bs at_ = some ((bs.drop (at_ + 4)).take n) := by unfold txtAt; rw [hnn, if_pos ⟨hfit, hfit2⟩]
      have hsl := (hs.mono le1).sub (lo := at_ + 4) (hi := at_ + 4 + n) (by omega) hfit2
      rw [show at_ + 4 + n - (at_ + 4) = n from by omega] at hsl
      generalize hbs : (bs.drop (at_ + 4)).take n = cs at hsl htx
      have hcl : cs.length = n := by rw [← hbs]; simp; omega
      refine C.skip ?_
      refine Fin.th ?_
      refine C.region_seq ?_
      refine G.value rfl rfl rfl (Sure.move rfl) ?_
      refine G.value rfl rfl rfl (Sure.move rfl) ?_
      refine G.value rfl rfl rfl (Sure.conv rfl (inK64 (by omega))) ?_
      refine G.value rfl rfl rfl (Sure.add rfl rfl (inK64 (by omega))) ?_
      refine G.value rfl rfl rfl (Sure.assign rfl) ?_
      refine G.nil ?_
      refine C.region_seq ?_
      refine G.value rfl rfl rfl (Sure.move rfl) ?_
      refine G.value rfl rfl rfl (Sure.move rfl) ?_
      refine G.value rfl rfl rfl (Sure.move rfl) ?_
      refine G.value rfl rfl rfl (Sure.slice (at_ + 4) (at_ + 4 + n) rfl rfl rfl (.inl (by simp)) (.inl (by simp)) (by omega) (by omega)) ?_
      rw [show at_ + 4 + n - (at_ + 4) = n from by omega, ← hcl]
      refine G.value rfl rfl rfl (Sure.toStr rfl (Sl.heap hsl.1)) ?_
      refine G.value rfl rfl rfl (Sure.move rfl) ?_
      refine G.value rfl rfl rfl (Sure.assign rfl) ?_
      refine G.value rfl rfl rfl (Sure.assign rfl) ?_
      refine G.value rfl rfl rfl (Sure.assign rfl) ?_
      refine G.nil ?_
      refine C.ret ?_
      refine Fin.fn (Res.tmp3 rfl rfl rfl rfl) Split.nil ⟨rfl, .inl ⟨cs, htx, ?_⟩⟩
      rw [hcl]
      simp
  · skip
    refine G.value rfl rfl rfl (Sure.move rfl) ?_
    refine G.value rfl rfl rfl (Sure.extract rfl rfl) ?_
    refine G.value rfl rfl rfl (Sure.extract rfl rfl) ?_
    refine G.value rfl rfl rfl (Sure.assign rfl) ?_
    refine G.value rfl rfl rfl (Sure.assign rfl) ?_
    refine G.nil ?_
    refine C.seq ?_
    refine C.region_seq ?_
    refine G.value rfl rfl rfl (Sure.move rfl) ?_
    refine G.value rfl rfl rfl ((Sure.neq rfl rfl).to_t (by decide)) ?_
    refine G.nil ?_
    refine C.cond_true rfl ?_
    refine C.region_seq ?_
    refine G.value rfl rfl rfl (Sure.move rfl) ?_
    refine G.value rfl rfl rfl (Sure.assign rfl) ?_
    refine G.value rfl rfl rfl (Sure.assign rfl) ?_
    refine G.value rfl rfl rfl (Sure.assign rfl) ?_
    refine G.nil ?_
    refine C.ret ?_
    refine Fin.th_ret ?_
    exact Fin.fn (Res.tmp3 rfl rfl rfl rfl) Split.nil ⟨rfl, .inr ⟨by unfold txtAt; rw [if_neg (by omega)], rfl⟩⟩
/-! ### Copies of bytes, and reading -/
theorem cloneB_spec (M : Mem) (p : Option Addr) (cap : Nat) (bs : List UInt8) (Hl : Heap) (hs : Sl M Hl 1 p bs.length (bytesV bs)) (hn : bs.length ≤ 1000000000) :
    Spec Tryz.prog 67 [.slice p bs.length cap] M Hl (fun v M' H => H = Hl ∧ ∃ p' cap', v = .slice p' bs.length cap' ∧ SC M' p' cap' bs) := by
  refine Spec.of_code 8 Tryz.func67 rfl callable67 rfl rfl fun w => ?_
  refine C.region_seq ?_
  refine G.value rfl rfl rfl (Sure.assign rfl) ?_
  refine G.nil ?_
  refine C.seq ?_
  refine C.region_seq ?_
  refine G.value rfl rfl rfl (Sure.move rfl) ?_
  refine G.value rfl rfl rfl (Sure.slice_eq_nil rfl rfl) ?_
  refine G.nil ?_
  refine C.cond rfl (fun hnil => ?_) (fun hnil => ?_)
  · have hp0 : bs.length = 0 := by
      rcases Nat.eq_zero_or_pos bs.length with h | h
      · exact h
      · obtain ⟨b, o, c, rfl, _⟩ := hs.2 h
        simp at hnil
    have hb0 : bs = [] := List.eq_nil_of_length_eq_zero hp0
    subst hb0
    refine C.region_seq ?_
    refine G.value rfl rfl rfl (Sure.assign rfl) ?_
    refine G.nil ?_
    refine C.ret ?_
    refine Fin.th_ret ?_
    exact Fin.fn (Res.tmp rfl rfl) (Split.one PickL.all) ⟨rfl, Option.none, 0, rfl, Sl.empty, Nat.le_refl _⟩
  · refine C.skip ?_
    refine Fin.th ?_
    refine C.region_seq ?_
    refine G.dyn rfl rfl rfl ?_
    refine Dyn.buildSlice rfl rfl rfl (by simp) (by decide) ?_
    intro b
    refine G.value rfl rfl rfl (Sure.move rfl) ?_
    refine G.dyn rfl rfl rfl ?_
    refine Dyn.append (xs := []) (fun k h => by cases h) rfl rfl rfl (Own.mk (by simp)) PickL.here (hs.incl (fun q hq => List.mem_cons_of_mem _ hq)) (allOne_bytes bs) (by omega) (by omega) ?_
    intro v2 Hs2 hown2
    simp only [List.nil_append, Nat.zero_add] at hown2
    obtain ⟨h1, h2⟩ := hown2
    rcases h2 with ⟨rfl, hn0, rfl⟩ | ⟨b', cap', junk, rfl, h3, rfl, h4⟩
    · refine G.value rfl rfl rfl (Sure.assign rfl) ?_
      refine G.nil ?_
      refine C.ret ?_
      exact Fin.fn (Res.tmp rfl rfl) (Split.one PickL.all) ⟨rfl, Option.none, 0, by rw [hn0], ⟨h1, fun hp => absurd hp (by omega)⟩, by omega⟩
    · skip
      refine G.donate fun M3 le3 hM3 => ?_
      refine G.value rfl rfl rfl (Sure.assign rfl) ?_
      refine G.nil ?_
      refine C.ret ?_
      exact Fin.fn (Res.tmp rfl rfl) (Split.one PickL.all) ⟨rfl, _, _, rfl, ⟨h1, fun _ => ⟨b', 0, _, rfl, Rd.m hM3, by simpa [seg] using takeN_append h1⟩⟩, h3⟩
end Go.Proofs.YtaeeahcokiebdaaGreat

/-
  Elements of arrays that are values; bytes that are counted.
  Conditions: none; everything here is proved over any program.
-/
namespace Go.Proofs.YtaeeahcokiebdaaGreat
variable {P : Program}
theorem run_loadBytes_list {w : World} : ∀ (bs : List UInt8) (b o : Nat) (acc : ByteArray), (∀ (j : Nat) (x : UInt8), bs[j]? = some x → w.cell? ⟨b, o + j, Option.none⟩ = some (byteV x)) →
    (Extern.Bytes.loadBytes ⟨b, o, Option.none⟩ bs.length acc).run P w = .ok ⟨acc.data ++ bs.toArray⟩ w
  | [], b, o, acc, _ => by simp [Extern.Bytes.loadBytes]
  | x :: l, b, o, acc, h => by
    have h0 : w.cell? ⟨b, o, Option.none⟩ = some (byteV x) := h 0 x rfl
    have ih := run_loadBytes_list l b (o + 1) (acc.push x) (fun j y hj => by
      have := h (j + 1) y (by simpa using hj)
      rwa [show o + (j + 1) = o + 1 + j from by omega] at this)
    have hx : (x.toNat : Int).toNat.toUInt8 = x := by simp
    simp only [List.length_cons, Extern.Bytes.loadBytes, Sem.run_bind]
    rw [run_load P w ⟨b, o, Option.none⟩, h0]
    simp only [Result.andThen_ok, byteV, hx, addr_add, ih]
    congr 2
    show (acc.data.push x) ++ l.toArray = acc.data ++ (x :: l).toArray
    simp
section
variable {E : Env} {M : Mem} {H : Heap} {d : Option Tmp} {ty : TypeId} {pos : String} {aft : Array Edge} {g : Option (Nat × Bool)}
theorem Sure.indexArr {t x y e len k i v} {l : List Value} [ht : TyU P t (.array len e)] [he : TyI P e false 1] (hx : eev E x = some (.agg l.toArray)) (hy : eev E y = some (.int k i)) (h0 : 0 ≤ i ∧ i < len) (hi : l[i.toNat]? = some v) :
    Sure P ⟨d, .index t x y, ty, pos, aft, g⟩ E M H v := by
  intro a w hav ha hh
  have h1 := avail_ev hav (x := x) (by simp [Op.operands]) hx
  have h2 := avail_ev hav (x := y) (by simp [Op.operands]) hy
  simp [execOp, h1, h2, Instr.index, asIntOf, run_underlying ht.und, h0, hi, he.sizeOf, he.isAgg, part]
theorem run_count_sl {w : World} {p : Option Addr} {cap : Nat} {bs : List UInt8} {c : UInt8} (ha : Agr M w) (hh : Has H w) (hs : Sl M H 1 p bs.length (bs.map byteV)) :
    (Extern.BytealgCount.count #[.slice p bs.length cap, byteV c]).run P w = .ok (.int .i64 (bs.count c : Nat)) w := by
  have hb : (Extern.Bytes.bytesOf (.slice p bs.length cap)).run P w = .ok ⟨bs.toArray⟩ w := by
    by_cases h0 : 0 < bs.length
    · obtain ⟨b, o, cs, rfl, h2, h3⟩ := hs.2 h0
      have := run_loadBytes_list (P := P) (w := w) bs b o .empty (fun j x hj => h2.cell ha hh (seg_one h3 (by simp [hj])))
      simp only [Extern.Bytes.bytesOf, this]
      congr 2
      show (#[] : Array UInt8) ++ bs.toArray = bs.toArray
      simp
    · have hb : bs = [] := List.eq_nil_of_length_eq_zero (by omega)
      subst hb
      cases p with
      | none => rfl
      | some q => rfl
  have hc : (c.toNat : Int).toNat.toUInt8 = c := by simp
  have hfi : ∀ (l : List UInt8) (n : Int), l.foldl (fun (n : Int) x => if x == c then n + 1 else n) n = n + (l.count c : Nat) := by
    intro l
    induction l with
    | nil => intro n; simp
    | cons x l ih =>
      intro n
      rw [List.foldl_cons, ih, List.count_cons]
      split <;> omega
  show Sem.run P (do
    let b ← Extern.Bytes.bytesOf (.slice p bs.length cap)
    let c' ← Extern.Bytes.asByte (byteV c)
    pure (goInt (b.foldl (fun n x => if x == c' then n + 1 else n) (0 : Nat)))) w = _
  simp only [Sem.run_bind, hb, Result.andThen_ok, byteV, Extern.Bytes.asByte, Sem.run_pure, hc]
  rw [Lib.foldl_data, hfi]
  simp [goInt]
end
/-- What stands between a part of the code and what comes behind it. -/
theorem C.cutTop {c x Q E M H} {K : Env → Mem → Heap → Prop} (J : Env → Mem → Heap → Prop) (h : C P c x (Post.th J Q) E M H) (k : ∀ E M H, J E M H → K E M H) : C P c x (Post.th K Q) E M H := by
  intro a w hm hst
  refine wp_mono (h a w hm hst) ?_
  intro e a w ⟨E, M, H, hm, hst, hq⟩
  cases e with
  | normal => exact ⟨E, M, H, hm, hst, k E M H hq⟩
  | exit id => exact ⟨E, M, H, hm, hst, hq⟩
  | goto l => exact ⟨E, M, H, hm, hst, hq⟩
  | ret => exact ⟨E, M, H, hm, hst, hq⟩
  | panic ch => exact ⟨E, M, H, hm, hst, hq⟩
  | outgrown => exact ⟨E, M, H, hm, hst, hq⟩
end Go.Proofs.YtaeeahcokiebdaaGreat

/-
  The walks of reading a chip, of sums that are held against numbers, and of records out of bytes.
  Conditions: the chip is as it should be; bytes are a thousand million at most.
-/
namespace Go.Proofs.YtaeeahcokiebdaaGreat
set_option maxRecDepth 20000

theorem read_spec (M : Mem) (ad : Ad) (ch : Chip) (at_ n : Nat) (hok : ChipOk ad ch) (hr : at_ + n ≤ ch.b.length) : Spec Tryz.prog 25 [ptr ad.cb, intV at_, intV n] M (chipH ad ch)
    (fun v M' H => H = chipH ad ch ∧ ∃ p cap, v = .tuple #[.slice p n cap, intV 0] ∧ SC M' p cap ((ch.b.drop at_).take n)) := by
  have hsz := hok.size
  have hcap := hok.cap
  have hl : ((ch.b.drop at_).take n).length = n := by simp; omega
  refine Spec.of_code 26 Tryz.func25 rfl callable25 rfl rfl fun w => ?_
  refine C.region_seq ?_
  refine G.value rfl rfl rfl (Sure.assign rfl) ?_
  refine G.value rfl rfl rfl (Sure.assign rfl) ?_
  refine G.nil ?_
  refine C.seq ?_
  refine C.region_seq ?_
  refine G.value rfl rfl rfl (Sure.move rfl) ?_
  refine G.value rfl rfl rfl (Sure.move rfl) ?_
  refine G.value rfl rfl rfl (Sure.move rfl) ?_
  refine G.call rfl rfl rfl rfl rfl rfl (ask_spec M ad ch at_ n (by omega) (by omega)) (Split.cons .here Split.nil) ?_
  rintro _ M1 _ le1 ⟨rfl, rfl⟩
  refine G.value rfl rfl rfl (Sure.assign rfl) ?_
  refine G.nil ?_
  refine C.region_seq ?_
  refine G.value rfl rfl rfl (Sure.move rfl) ?_
  refine G.value rfl rfl rfl ((Sure.neq rfl rfl).to_f (by decide)) ?_
  refine G.nil ?_
  refine C.cond_false rfl ?_
  refine C.skip ?_
  refine Fin.th ?_
  refine C.region_seq ?_
  refine G.value rfl rfl rfl (Sure.move rfl) ?_
  refine G.value rfl rfl rfl (Sure.nilCheck rfl) ?_
  refine G.value rfl rfl rfl (Sure.fieldAddr rfl) ?_
  refine G.value rfl rfl rfl (Sure.load rfl rdx rfl) ?_
  refine G.value rfl rfl rfl (Sure.move rfl) ?_
  refine G.value rfl rfl rfl (Sure.move rfl) ?_
  refine G.value rfl rfl rfl (Sure.move rfl) ?_
  refine G.value rfl rfl rfl (Sure.add rfl rfl (inK64 (by omega))) ?_
  refine G.value rfl rfl rfl (Sure.slice at_ (at_ + n) rfl rfl rfl (.inl rfl) (.inl (by simp)) (by omega) (by omega)) ?_
  have hsub : subP (some ⟨ad.bb, 0, Option.none⟩) ad.cap at_ 1 = if ad.cap = at_ then some ⟨ad.bb, 0, Option.none⟩ else some ⟨ad.bb, at_, Option.none⟩ := by
    unfold subP
    split <;> simp [addr_add]
  have hsl : ∀ M, Sl M [(ad.bb, .cells (ch.b.map byteV ++ ad.junk))] 1 (subP (some ⟨ad.bb, 0, Option.none⟩) ad.cap at_ 1) n (bytesV ((ch.b.drop at_).take n)) := by
    intro M
    refine ⟨by rw [bytesV_len, hl, Nat.mul_one], fun hn => ⟨ad.bb, at_, _, by rw [hsub, if_neg (by omega)], Rd.h0, ?_⟩⟩
    unfold seg
    rw [List.drop_append_of_le_length (by simp; omega), Nat.mul_one, takeN_eq (by simp; omega), List.take_append_of_le_length (by simp; omega)]
    simp [bytesV]
  rw [show at_ + n - at_ = n from by omega]
  have hcl := cloneB_spec M1 (subP (some ⟨ad.bb, 0, Option.none⟩) ad.cap at_ 1) (ad.cap - at_) ((ch.b.drop at_).take n) [(ad.bb, .cells (ch.b.map byteV ++ ad.junk))] (by rw [hl]; exact hsl M1) (by omega)
  rw [hl] at hcl
  refine G.call rfl rfl rfl rfl rfl rfl (hcl) (Split.cons (.there .here) Split.nil) ?_
  rintro _ M2 _ le2 ⟨rfl, p', cap', rfl, hsc⟩
  refine G.value rfl rfl rfl (Sure.assign rfl) ?_
  refine G.value rfl rfl rfl (Sure.assign rfl) ?_
  refine G.nil ?_
  refine C.ret ?_
  exact Fin.fn (Res.tmp2 rfl rfl rfl) (Split.cons (.there .here) (Split.cons .here (Split.one PickL.all))) ⟨rfl, p', cap', rfl, hsc⟩
/-- A half's bytes. -/
def Chip.half (ch : Chip) (h : Nat) : List UInt8 := (ch.b.drop (h * hsz ch.g)).take (hsz ch.g)
theorem half_fit {ad : Ad} {ch : Chip} (hok : ChipOk ad ch) {h : Nat} (hh : h < 2) : h * hsz ch.g + hsz ch.g ≤ ch.b.length := by
  obtain ⟨hz, hz1, hz2, hz3⟩ := hsz_int hok.geo
  have hl := hok.len
  rcases (by omega : h = 0 ∨ h = 1) with rfl | rfl <;> omega
theorem half_len {ad : Ad} {ch : Chip} (hok : ChipOk ad ch) {h : Nat} (hh : h < 2) : (ch.half h).length = hsz ch.g := by
  have := half_fit hok hh
  unfold Chip.half
  simp
  omega
theorem halfRead_spec (M : Mem) (ad : Ad) (ch : Chip) (h : Nat) (hok : ChipOk ad ch) (hh : h < 2) : Spec Tryz.prog 64 [ptr ad.cb, intV h] M (chipH ad ch)
    (fun v M' H => H = chipH ad ch ∧ ∃ p cap, v = .tuple #[.slice p (ch.half h).length cap, intV 0] ∧ SC M' p cap (ch.half h)) := by
  obtain ⟨hz, hz1, hz2, hz3⟩ := hsz_int hok.geo
  have hfit := half_fit hok hh
  have hl := half_len hok hh
  have hhz : h * hsz ch.g ≤ hsz ch.g := by rcases (by omega : h = 0 ∨ h = 1) with rfl | rfl <;> omega
  have hhi : ((h * hsz ch.g : Nat) : Int) = (h : Int) * (hsz ch.g : Int) := Int.natCast_mul _ _
  refine Spec.of_code 25 Tryz.func64 rfl callable64 rfl rfl fun w => ?_
  refine C.region_seq ?_
  refine G.value rfl rfl rfl (Sure.assign rfl) ?_
  refine G.value rfl rfl rfl (Sure.assign rfl) ?_
  refine G.nil ?_
  refine C.seq ?_
  refine C.region_seq ?_
  refine G.value rfl rfl rfl (Sure.move rfl) ?_
  refine G.value rfl rfl rfl (Sure.move rfl) ?_
  refine G.call rfl rfl rfl rfl rfl rfl (half_ask_spec M ad.cb h (by omega)) (Split.nil) ?_
  rintro _ M1 _ le1 ⟨rfl, rfl⟩
  refine G.value rfl rfl rfl (Sure.assign rfl) ?_
  refine G.nil ?_
  refine C.region_seq ?_
  refine G.value rfl rfl rfl (Sure.move rfl) ?_
  refine G.value rfl rfl rfl ((Sure.neq rfl rfl).to_f (by decide)) ?_
  refine G.nil ?_
  refine C.cond_false rfl ?_
  refine C.skip ?_
  refine Fin.th ?_
  refine C.region_seq ?_
  refine G.value rfl rfl rfl (Sure.move rfl) ?_
  refine G.call rfl rfl rfl rfl rfl rfl (chip_geometry_spec M1 ad ch) (Split.cons .here Split.nil) ?_
  rintro _ M2 _ le2 ⟨rfl, rfl⟩
  refine G.call rfl rfl rfl rfl rfl rfl (half_size_spec M2 ch.g hok.geo) (Split.nil) ?_
  rintro _ M3 _ le3 ⟨rfl, rfl⟩
  rw [← hz]
  refine G.value rfl rfl rfl (Sure.assign rfl) ?_
  refine G.nil ?_
  refine C.region_seq ?_
  refine G.value rfl rfl rfl (Sure.move rfl) ?_
  refine G.value rfl rfl rfl (Sure.move rfl) ?_
  refine G.value rfl rfl rfl (Sure.move rfl) ?_
  refine G.value rfl rfl rfl (Sure.mul rfl rfl (inK64 (by omega))) ?_
  rw [← hhi]
  refine G.value rfl rfl rfl (Sure.move rfl) ?_
  refine G.call rfl rfl rfl rfl rfl rfl (read_spec M3 ad ch (h * hsz ch.g) (hsz ch.g) hok hfit) (Split.cons .here (Split.cons .here (Split.cons .here (Split.cons .here Split.nil)))) ?_
  rintro _ M4 _ le4 ⟨rfl, p, cap, rfl, hsc⟩
  refine G.value rfl rfl rfl (Sure.extract rfl rfl) ?_
  refine G.value rfl rfl rfl (Sure.extract rfl rfl) ?_
  refine G.value rfl rfl rfl (Sure.assign rfl) ?_
  refine G.value rfl rfl rfl (Sure.assign rfl) ?_
  refine G.nil ?_
  refine C.ret ?_
  exact Fin.fn (Res.tmp2 rfl rfl rfl) (Split.one PickL.here) ⟨rfl, p, cap, by rw [hl], hsc⟩
theorem sumOk_spec (M : Mem) (p : Option Addr) (cap : Nat) (l : List UInt8) (s : Nat) (hs : SB M p l) (hl : l.length ≤ 1000000000) :
    Spec Tryz.prog 152 [.slice p l.length cap, .int .u32 s] M [] (fun v _ H => H = [] ∧ v = .bool (decide (sumOf l = s))) := by
  refine Spec.of_code 9 Tryz.func152 rfl callable152 rfl rfl fun w => ?_
  refine C.region_seq ?_
  refine G.value rfl rfl rfl (Sure.assign rfl) ?_
  refine G.nil ?_
  refine C.region_seq ?_
  refine G.value rfl rfl rfl (Sure.move rfl) ?_
  refine G.call rfl rfl rfl rfl rfl rfl (sum_spec M p cap l hs hl) (Split.nil) ?_
  rintro _ M1 _ le1 ⟨rfl, rfl⟩
  refine G.value rfl rfl rfl (Sure.move rfl) ?_
  refine G.value rfl rfl rfl (Sure.eql rfl rfl) ?_
  refine G.value rfl rfl rfl (Sure.assign rfl) ?_
  refine G.nil ?_
  refine C.ret ?_
  refine Fin.fn (Res.tmp rfl rfl) Split.nil ⟨rfl, ?_⟩
  congr 1
  simp [Int.ofNat_inj]
end Go.Proofs.YtaeeahcokiebdaaGreat

/-
  The walks of records out of bytes.
  Conditions: bytes are a thousand million at most.
-/
namespace Go.Proofs.YtaeeahcokiebdaaGreat
set_option maxRecDepth 20000

theorem count_run {M : Mem} {H : Heap} {p : Option Addr} {cap : Nat} {bs : List UInt8} {c : UInt8} (hs : Sl M H 1 p bs.length (bs.map byteV)) (w : World) (ha : Agr M w) (hh : Has H w) :
    (callFunc 154 [Value.slice p bs.length cap, byteV c].toArray).run Tryz.prog w = .ok (.value (.int .i64 (bs.count c : Nat))) w := by
  rw [run_callFunc_extern (fn := Tryz.f154) (by kernel_rfl) (by kernel_rfl) (by kernel_rfl) (by kernel_rfl) (e := Extern.BytealgCount.count) (by kernel_rfl)]
  show ((Extern.BytealgCount.count #[.slice p bs.length cap, byteV c]).run Tryz.prog w).andThen _ = _
  rw [run_count_sl ha hh hs]
  rfl
theorem count_spec (M : Mem) (p : Option Addr) (cap : Nat) (bs : List UInt8) (c : UInt8) (b : Nat) (hs : SB M p bs) (hb : M b = some [byteV c]) :
    Spec Tryz.prog 137 [.slice p bs.length cap, .slice (some ⟨b, 0, Option.none⟩) 1 1] M [] (fun v _ H => H = [] ∧ v = intV (bs.count c : Nat)) := by
  refine Spec.of_code 35 Tryz.func137 rfl callable137 rfl rfl fun w => ?_
  refine C.region_seq ?_
  refine G.value rfl rfl rfl (Sure.assign rfl) ?_
  refine G.nil ?_
  refine C.seq ?_
  refine C.region_seq ?_
  refine G.value rfl rfl rfl (Sure.move rfl) ?_
  refine G.value rfl rfl rfl (Sure.len_slice rfl) ?_
  refine G.value rfl rfl rfl ((Sure.eql rfl rfl).to_f (by decide)) ?_
  refine G.nil ?_
  refine C.cond_false rfl ?_
  refine C.skip ?_
  refine Fin.th ?_
  refine C.seq ?_
  refine C.region_seq ?_
  refine G.value rfl rfl rfl (Sure.move rfl) ?_
  refine G.value rfl rfl rfl (Sure.len_slice rfl) ?_
  refine G.value rfl rfl rfl ((Sure.eql rfl rfl).to_t (by decide)) ?_
  refine G.nil ?_
  refine C.cond_true rfl ?_
  refine C.region_seq ?_
  refine G.value rfl rfl rfl (Sure.move rfl) ?_
  refine G.value rfl rfl rfl (Sure.move rfl) ?_
  refine G.value rfl rfl rfl (Sure.indexAddr rfl rfl (by decide)) ?_
  refine G.value rfl rfl rfl (Sure.load rfl (Rd.m hb) rfl) ?_
  refine G.dyn rfl rfl rfl ?_
  refine Dyn.extern rfl rfl rfl (fun w ha hh => count_run hs w ha hh) ?_
  refine G.value rfl rfl rfl (Sure.assign rfl) ?_
  refine G.nil ?_
  refine C.ret ?_
  refine Fin.th_ret ?_
  exact Fin.fn (Res.tmp rfl rfl) Split.nil ⟨rfl, rfl⟩
/-- What is in the record at the beginning of bytes. -/
def nextB (b : List UInt8) : Option (List UInt8) :=
  if 2 ≤ b.length ∧ num (b.take 2) ≤ 65000 ∧ num (b.take 2) + 7 ≤ b.length ∧ sumOf (b.take 2 ++ (b.drop 6).take (num (b.take 2))) = num ((b.drop 2).take 4) ∧ b[num (b.take 2) + 6]? = some 0
  then some ((b.drop 6).take (num (b.take 2))) else Option.none
theorem nextB_len {b x : List UInt8} (h : nextB b = some x) : x.length + 7 ≤ b.length ∧ x.length ≤ 65000 := by
  unfold nextB at h
  split at h
  · rename_i hc
    injection h with h
    subst h
    simp
    omega
  · cases h
theorem next_spec (M : Mem) (p : Option Addr) (cap : Nat) (bs : List UInt8) (hs : SC M p cap bs) (hb : bs.length ≤ 1000000000) :
    Spec Tryz.prog 136 [.slice p bs.length cap] M [] (fun v M' H => H = [] ∧
      ((∃ x q c, nextB bs = some x ∧ v = .tuple #[.slice q x.length c, .bool true] ∧ SC M' q c x) ∨ (nextB bs = Option.none ∧ v = .tuple #[.slice Option.none 0 0, .bool false]))) := by
  have hcap := hs.2
  refine Spec.of_code 59 Tryz.func136 rfl callable136 rfl rfl fun w => ?_
  refine C.region_seq ?_
  refine G.value rfl rfl rfl (Sure.assign rfl) ?_
  refine G.value rfl rfl rfl (Sure.assign rfl) ?_
  refine G.nil ?_
  refine C.region_seq ?_
  refine G.value rfl rfl rfl (Sure.move rfl) ?_
  refine G.call rfl rfl rfl rfl rfl rfl (get_spec M p cap bs 0 2 hs hb (by omega) (by omega)) (Split.nil) ?_
  rintro _ M1 _ le1 ⟨rfl, ⟨hfit, rfl⟩ | ⟨hfit, rfl⟩⟩
  · rw [List.drop_zero]
    have hn := num_lt (bs.take 2)
    have hl2 : (bs.take 2).length = 2 := by simp; omega
    rw [hl2] at hn
    have hn' : num (bs.take 2) < 65536 := hn
    have hnx : nextB bs = if 2 ≤ bs.length ∧ num (bs.take 2) ≤ 65000 ∧ num (bs.take 2) + 7 ≤ bs.length ∧ sumOf (bs.take 2 ++ (bs.drop 6).take (num (bs.take 2))) = num ((bs.drop 2).take 4) ∧ bs[num (bs.take 2) + 6]? = some 0
      then some ((bs.drop 6).take (num (bs.take 2))) else Option.none := rfl
    generalize num (bs.take 2) = n at hn' hnx
    refine G.value rfl rfl rfl (Sure.move rfl) ?_
    refine G.value rfl rfl rfl (Sure.extract rfl rfl) ?_
    refine G.value rfl rfl rfl (Sure.extract rfl rfl) ?_
    refine G.value rfl rfl rfl (Sure.assign rfl) ?_
    refine G.value rfl rfl rfl (Sure.assign rfl) ?_
    refine G.nil ?_
    refine C.seq ?_
    refine C.region_seq ?_
    refine G.value rfl rfl rfl (Sure.move rfl) ?_
    refine G.value rfl rfl rfl ((Sure.neq rfl rfl).to_f (by decide)) ?_
    rcases Nat.lt_or_ge 65000 n with hbig | hbig
    · refine G.value rfl rfl rfl (Sure.move rfl) ?_
      refine G.value rfl rfl rfl (Sure.move rfl) ?_
      refine G.value rfl rfl rfl ((Sure.gtr rfl rfl).to_t (by omega)) ?_
      refine G.value rfl rfl rfl (Sure.pick_false rfl rfl) ?_
      refine G.value rfl rfl rfl (Sure.move rfl) ?_
      refine G.skip rfl rfl rfl ?_
      refine G.skip rfl rfl rfl ?_
      refine G.skip rfl rfl rfl ?_
      refine G.skip rfl rfl rfl ?_
      refine G.skip rfl rfl rfl ?_
      refine G.skip rfl rfl rfl ?_
      refine G.value rfl rfl rfl (Sure.pick_true rfl rfl) ?_
      refine G.nil ?_
      refine C.cond_true rfl ?_
      refine C.region_seq ?_
      refine G.value rfl rfl rfl (Sure.assign rfl) ?_
      refine G.value rfl rfl rfl (Sure.assign rfl) ?_
      refine G.nil ?_
      refine C.ret ?_
      refine Fin.th_ret ?_
      exact Fin.fn (Res.tmp2 rfl rfl rfl) Split.nil ⟨rfl, .inr ⟨by rw [hnx, if_neg (by omega)], rfl⟩⟩
    · skip
      refine G.value rfl rfl rfl (Sure.move rfl) ?_
      refine G.value rfl rfl rfl (Sure.move rfl) ?_
      refine G.value rfl rfl rfl ((Sure.gtr rfl rfl).to_f (by omega)) ?_
      refine G.value rfl rfl rfl (Sure.pick_false rfl rfl) ?_
      refine G.value rfl rfl rfl (Sure.move rfl) ?_
      refine G.value rfl rfl rfl (Sure.move rfl) ?_
      refine G.value rfl rfl rfl (Sure.len_slice rfl) ?_
      refine G.value rfl rfl rfl (Sure.move rfl) ?_
      refine G.value rfl rfl rfl (Sure.conv rfl (inK64 (by omega))) ?_
      refine G.call rfl rfl rfl rfl rfl rfl (size_spec M1 n (by omega)) (Split.nil) ?_
      rintro _ M2 _ le2 ⟨rfl, rfl⟩
      rcases Nat.lt_or_ge bs.length (n + 7) with hsh | hsh
      · skip
        refine G.value rfl rfl rfl ((Sure.lss rfl rfl).to_t (by omega)) ?_
        refine G.value rfl rfl rfl (Sure.pick_false rfl rfl) ?_
        refine G.nil ?_
        refine C.cond_true rfl ?_
        refine C.region_seq ?_
        refine G.value rfl rfl rfl (Sure.assign rfl) ?_
        refine G.value rfl rfl rfl (Sure.assign rfl) ?_
        refine G.nil ?_
        refine C.ret ?_
        refine Fin.th_ret ?_
        exact Fin.fn (Res.tmp2 rfl rfl rfl) Split.nil ⟨rfl, .inr ⟨by rw [hnx, if_neg (by omega)], rfl⟩⟩
      · skip
        refine G.value rfl rfl rfl ((Sure.lss rfl rfl).to_f (by omega)) ?_
        refine G.value rfl rfl rfl (Sure.pick_false rfl rfl) ?_
        refine G.nil ?_
        refine C.cond_false rfl ?_
        refine C.skip ?_
        refine Fin.th ?_
        refine C.region_seq ?_
        refine G.value rfl rfl rfl (Sure.move rfl) ?_
        refine G.value rfl rfl rfl (Sure.conv rfl (inK64 (by omega))) ?_
        refine G.call rfl rfl rfl rfl rfl rfl (size_spec M2 n (by omega)) (Split.nil) ?_
        rintro _ M3 _ le3 ⟨rfl, rfl⟩
        refine G.value rfl rfl rfl (Sure.sub rfl rfl (inK64 (by omega))) ?_
        rw [show (n : Int) + 7 - 1 = ((n + 6 : Nat) : Int) from by omega]
        refine G.value rfl rfl rfl (Sure.assign rfl) ?_
        refine G.nil ?_
        refine C.region_seq ?_
        refine G.value rfl rfl rfl (Sure.move rfl) ?_
        refine G.call rfl rfl rfl rfl rfl rfl (get_spec M3 p cap bs 2 4 (hs.mono (le1.trans (le2.trans le3))) hb (by omega) (by omega)) (Split.nil) ?_
        rintro _ M4 _ le4 ⟨rfl, ⟨hfit4, rfl⟩ | ⟨hfit4, rfl⟩⟩
        · have hs4 := hs.mono (le1.trans (le2.trans (le3.trans le4)))
          have hn4 := num_lt ((bs.drop 2).take 4)
          have hl4 : ((bs.drop 2).take 4).length = 4 := by simp; omega
          rw [hl4] at hn4
          have hn4' : num ((bs.drop 2).take 4) < 4294967296 := hn4
          generalize num ((bs.drop 2).take 4) = s at hn4' hnx
          have hx := hs4.sub (lo := 6) (hi := n + 6) (by omega) (by omega)
          rw [show n + 6 - 6 = n from by omega] at hx
          have h2 := hs4.sub (lo := 0) (hi := 2) (by omega) (by omega)
          rw [List.drop_zero] at h2
          have hxl : ((bs.drop 6).take n).length = n := by simp; omega
          generalize (bs.drop 6).take n = x at hx hxl hnx
          refine G.value rfl rfl rfl (Sure.move rfl) ?_
          refine G.value rfl rfl rfl (Sure.extract rfl rfl) ?_
          refine G.value rfl rfl rfl (Sure.extract rfl rfl) ?_
          refine G.value rfl rfl rfl (Sure.assign rfl) ?_
          refine G.value rfl rfl rfl (Sure.assign rfl) ?_
          refine G.nil ?_
          refine C.region_seq ?_
          refine G.value rfl rfl rfl (Sure.move rfl) ?_
          refine G.value rfl rfl rfl (Sure.move rfl) ?_
          refine G.value rfl rfl rfl (Sure.slice 6 (n + 6) rfl rfl rfl (.inl rfl) (.inl rfl) (by omega) (by omega)) ?_
          rw [show n + 6 - 6 = n from by omega]
          refine G.value rfl rfl rfl (Sure.assign rfl) ?_
          refine G.nil ?_
          refine C.seq ?_
          refine C.region_seq ?_
          refine G.value rfl rfl rfl (Sure.move rfl) ?_
          refine G.value rfl rfl rfl (Sure.slice 0 2 rfl rfl rfl (.inr ⟨rfl, rfl⟩) (.inl rfl) (by omega) (by omega)) ?_
          refine G.value rfl rfl rfl (Sure.move rfl) ?_
          refine G.dyn rfl rfl rfl ?_
          refine Dyn.buildSlice rfl rfl rfl (by simp [vcl]) (by decide) ?_
          intro b7
          refine G.donate fun M5 le5 hM5 => ?_
          have h2' : SB M5 (subP p cap 0 1) (bs.take 2) := (h2.mono le5).1
          refine G.call rfl rfl rfl rfl rfl rfl ((concat_spec M5 (some ⟨b7, 0, Option.none⟩) 2 [(subP p cap 0 1, cap - 0, bs.take 2), (subP p cap 6 1, cap - 6, x)] ⟨rfl, fun _ => ⟨b7, 0, _, rfl, Rd.m hM5, by simp [seg, takeN, vcl, hl2, hxl]⟩⟩ (by intro t ht; simp at ht; rcases ht with rfl | rfl; exact h2'; exact (hx.mono le5).1) (by simp [catL]; omega) (by simp)).retC) (Split.nil) ?_
          rintro _ M6 _ le6 ⟨rfl, p6, c6, rfl, hs6⟩
          rw [show catL [(subP p cap 0 1, cap - 0, bs.take 2), (subP p cap 6 1, cap - 6, x)] = bs.take 2 ++ x from by simp [catL]] at hs6 ⊢
          refine G.value rfl rfl rfl (Sure.move rfl) ?_
          refine G.value rfl rfl rfl (Sure.conv rfl (inK32 (by omega))) ?_
          refine G.call rfl rfl rfl rfl rfl rfl (sumOk_spec M6 p6 c6 (bs.take 2 ++ x) s hs6.1 (by simp; omega)) (Split.nil) ?_
          rintro _ M7 _ le7 ⟨rfl, rfl⟩
          rcases Decidable.em (sumOf (bs.take 2 ++ x) = s) with hsm | hsm
          · rw [decide_eq_true hsm]
            obtain ⟨y, hy⟩ : ∃ y, bs[n + 6]? = some y := ⟨bs[n + 6], List.getElem?_eq_getElem (by omega)⟩
            obtain ⟨q', o, cs, rfl, hrd, hcell⟩ := Sl.cell (i := n + 6) (v := byteV y) (Sl.heap (H := []) (hs4.mono (le5.trans (le6.trans le7))).1) (by simp [hy])
            refine G.value rfl rfl rfl (Sure.not rfl) ?_
            refine G.value rfl rfl rfl (Sure.move rfl) ?_
            refine G.value rfl rfl rfl (Sure.move rfl) ?_
            refine G.value rfl rfl rfl (Sure.move rfl) ?_
            refine G.value rfl rfl rfl (Sure.indexAddr rfl rfl (by omega)) ?_
            refine G.value rfl rfl rfl (Sure.load rfl hrd hcell) ?_
            unfold byteV
            rcases Decidable.em (y = 0) with hy0 | hy0
            · skip
              refine G.value rfl rfl rfl ((Sure.neq rfl rfl).to_f (by rw [hy0]; decide)) ?_
              refine G.value rfl rfl rfl (Sure.pick_false rfl rfl) ?_
              refine G.nil ?_
              refine C.cond_false rfl ?_
              refine C.skip ?_
              refine Fin.th ?_
              refine C.region_seq ?_
              refine G.value rfl rfl rfl (Sure.move rfl) ?_
              have hcl := cloneB_spec M7 (subP (some ⟨q', o, Option.none⟩) cap 6 1) (cap - 6) x [] (hx.mono (le5.trans (le6.trans le7))).1 (by omega)
              rw [hxl] at hcl
              refine G.call rfl rfl rfl rfl rfl rfl (hcl) (Split.nil) ?_
              rintro _ M8 _ le8 ⟨rfl, p8, c8, rfl, hs8⟩
              refine G.value rfl rfl rfl (Sure.assign rfl) ?_
              refine G.value rfl rfl rfl (Sure.assign rfl) ?_
              refine G.nil ?_
              refine C.ret ?_
              exact Fin.fn (Res.tmp2 rfl rfl rfl) Split.nil ⟨rfl, .inl ⟨x, p8, c8, by rw [hnx, if_pos ⟨hfit, hbig, hsh, hsm, by rw [hy, hy0]⟩], by rw [hxl], hs8⟩⟩
            · skip
              refine G.value rfl rfl rfl ((Sure.neq rfl rfl).to_t (byteV_inj.2 hy0)) ?_
              refine G.value rfl rfl rfl (Sure.pick_false rfl rfl) ?_
              refine G.nil ?_
              refine C.cond_true rfl ?_
              refine C.region_seq ?_
              refine G.value rfl rfl rfl (Sure.assign rfl) ?_
              refine G.value rfl rfl rfl (Sure.assign rfl) ?_
              refine G.nil ?_
              refine C.ret ?_
              refine Fin.th_ret ?_
              exact Fin.fn (Res.tmp2 rfl rfl rfl) Split.nil ⟨rfl, .inr ⟨by rw [hnx, if_neg (by rintro ⟨_, _, _, _, h⟩; rw [hy] at h; injection h with h; exact hy0 h)], rfl⟩⟩
          · skip
            rw [decide_eq_false hsm]
            refine G.value rfl rfl rfl (Sure.not rfl) ?_
            refine G.value rfl rfl rfl (Sure.move rfl) ?_
            refine G.skip rfl rfl rfl ?_
            refine G.skip rfl rfl rfl ?_
            refine G.skip rfl rfl rfl ?_
            refine G.skip rfl rfl rfl ?_
            refine G.skip rfl rfl rfl ?_
            refine G.value rfl rfl rfl (Sure.pick_true rfl rfl) ?_
            refine G.nil ?_
            refine C.cond_true rfl ?_
            refine C.region_seq ?_
            refine G.value rfl rfl rfl (Sure.assign rfl) ?_
            refine G.value rfl rfl rfl (Sure.assign rfl) ?_
            refine G.nil ?_
            refine C.ret ?_
            refine Fin.th_ret ?_
            exact Fin.fn (Res.tmp2 rfl rfl rfl) Split.nil ⟨rfl, .inr ⟨by rw [hnx, if_neg (by rintro ⟨_, _, _, h, _⟩; exact hsm h)], rfl⟩⟩
        · exact absurd hfit4 (by omega)
  · skip
    refine G.value rfl rfl rfl (Sure.move rfl) ?_
    refine G.value rfl rfl rfl (Sure.extract rfl rfl) ?_
    refine G.value rfl rfl rfl (Sure.extract rfl rfl) ?_
    refine G.value rfl rfl rfl (Sure.assign rfl) ?_
    refine G.value rfl rfl rfl (Sure.assign rfl) ?_
    refine G.nil ?_
    refine C.seq ?_
    refine C.region_seq ?_
    refine G.value rfl rfl rfl (Sure.move rfl) ?_
    refine G.value rfl rfl rfl ((Sure.neq rfl rfl).to_t (by decide)) ?_
    refine G.value rfl rfl rfl (Sure.move rfl) ?_
    refine G.skip rfl rfl rfl ?_
    refine G.skip rfl rfl rfl ?_
    refine G.value rfl rfl rfl (Sure.pick_true rfl rfl) ?_
    refine G.value rfl rfl rfl (Sure.move rfl) ?_
    refine G.skip rfl rfl rfl ?_
    refine G.skip rfl rfl rfl ?_
    refine G.skip rfl rfl rfl ?_
    refine G.skip rfl rfl rfl ?_
    refine G.skip rfl rfl rfl ?_
    refine G.skip rfl rfl rfl ?_
    refine G.value rfl rfl rfl (Sure.pick_true rfl rfl) ?_
    refine G.nil ?_
    refine C.cond_true rfl ?_
    refine C.region_seq ?_
    refine G.value rfl rfl rfl (Sure.assign rfl) ?_
    refine G.value rfl rfl rfl (Sure.assign rfl) ?_
    refine G.nil ?_
    refine C.ret ?_
    refine Fin.th_ret ?_
    exact Fin.fn (Res.tmp2 rfl rfl rfl) Split.nil ⟨rfl, .inr ⟨by unfold nextB; rw [if_neg (by omega)], rfl⟩⟩
end Go.Proofs.YtaeeahcokiebdaaGreat

/-
  The walk of all records out of bytes.
  Conditions: bytes are a thousand million at most.
-/
namespace Go.Proofs.YtaeeahcokiebdaaGreat
set_option maxRecDepth 20000

/-- What is in the records at the beginning of bytes (so many rounds at most). -/
def recsF : Nat → List UInt8 → List (List UInt8)
  | 0, _ => []
  | k + 1, b => match nextB b with
    | some x => x :: recsF k (b.drop (x.length + 7))
    | Option.none => []
def recs (b : List UInt8) : List (List UInt8) := recsF b.length b
theorem recsF_eq : ∀ (k : Nat) (b : List UInt8), b.length ≤ k → recsF k b = recsF b.length b
  | 0, b, h => by rw [show b.length = 0 from by omega]
  | k + 1, b, h => by
    by_cases hb : b.length = k + 1
    · rw [hb]
    · have h1 : b.length ≤ k := by omega
      cases hbl : b.length with
      | zero =>
        have hb0 : b = [] := List.eq_nil_of_length_eq_zero hbl
        subst hb0
        unfold recsF
        rw [show nextB [] = Option.none from by unfold nextB; rw [if_neg (by simp)]]
      | succ m =>
        unfold recsF
        cases hn : nextB b with
        | none => rfl
        | some x =>
          have := nextB_len hn
          simp only
          rw [recsF_eq k (b.drop (x.length + 7)) (by simp; omega), recsF_eq m (b.drop (x.length + 7)) (by simp; omega)]
termination_by k => k
theorem recs_none {b : List UInt8} (h : nextB b = Option.none) : recs b = [] := by
  unfold recs
  cases hbl : b.length with
  | zero => rfl
  | succ m => unfold recsF; rw [h]
theorem recs_some {b x : List UInt8} (h : nextB b = some x) : recs b = x :: recs (b.drop (x.length + 7)) := by
  have h1 := nextB_len h
  unfold recs
  cases hbl : b.length with
  | zero => omega
  | succ m =>
    conv => lhs; unfold recsF
    rw [h]
    simp only
    rw [recsF_eq m _ (by simp; omega)]
/-- How many bytes records have. -/
def recsN (l : List (List UInt8)) : Nat := (l.map fun x => x.length + 7).sum
theorem recsN_snoc (l : List (List UInt8)) (x : List UInt8) : recsN (l ++ [x]) = recsN l + (x.length + 7) := by simp [recsN]
theorem recsN_cons (l : List (List UInt8)) (x : List UInt8) : recsN (x :: l) = (x.length + 7) + recsN l := by simp [recsN]
theorem recsN_le : ∀ (k : Nat) (b : List UInt8), b.length ≤ k → recsN (recs b) ≤ b.length ∧ (recs b).length ≤ b.length ∧ ∀ x ∈ recs b, x.length ≤ b.length
  | 0, b, h => by
    have hb0 : b = [] := List.eq_nil_of_length_eq_zero (by omega)
    subst hb0
    exact ⟨by simp [recs, recsF, recsN], by simp [recs, recsF], by simp [recs, recsF]⟩
  | k + 1, b, h => by
    cases hn : nextB b with
    | none => rw [recs_none hn]; exact ⟨by simp [recsN], by simp, by simp⟩
    | some x =>
      have h1 := nextB_len hn
      have hd : (b.drop (x.length + 7)).length = b.length - (x.length + 7) := by simp
      obtain ⟨i1, i2, i3⟩ := recsN_le k (b.drop (x.length + 7)) (by omega)
      rw [recs_some hn, recsN_cons]
      refine ⟨by omega, by simp; omega, ?_⟩
      intro y hy
      rcases List.mem_cons.1 hy with rfl | hy
      · omega
      · have := i3 y hy; omega
/-- Whether all behind is erased. -/
def cleanB (b : List UInt8) : Bool := decide (((b.drop (recsN (recs b))).count 255 : Nat) = b.length - recsN (recs b))
abbrev bslC (t : BSl) : Value := .slice t.1 t.2.2.length t.2.1
theorem scan_spec (M : Mem) (p : Option Addr) (cap : Nat) (bs : List UInt8) (hs : SC M p cap bs) (hb : bs.length ≤ 1000000) :
    Spec Tryz.prog 102 [.slice p bs.length cap] M [] (fun v M' H => H = [] ∧ ∃ (q : Option Addr) (c : Nat) (l : List BSl), v = .tuple #[.slice q l.length c, intV (recsN (recs bs)), .bool (cleanB bs)] ∧
      l.map (·.2.2) = recs bs ∧ Sl M' [] 1 q l.length (l.map bslV) ∧ ∀ t ∈ l, SC M' t.1 t.2.1 t.2.2) := by
  have hcap := hs.2
  have hall := recsN_le bs.length bs (Nat.le_refl _)
  have ho1 : ∀ l : List BSl, allOne (l.map bslV) = true := by intro l; simp [allOne, Value.oneCell']
  refine Spec.of_code 39 Tryz.func102 rfl callable102 rfl rfl fun w => ?_
  refine C.region_seq ?_
  refine G.value rfl rfl rfl (Sure.assign rfl) ?_
  refine G.value rfl rfl rfl (Sure.assign rfl) ?_
  refine G.value rfl rfl rfl (Sure.assign rfl) ?_
  refine G.nil ?_
  refine C.region_seq ?_
  refine G.value rfl rfl rfl (Sure.assign rfl) ?_
  refine G.nil ?_
  refine C.region_seq ?_
  refine G.value rfl rfl rfl (Sure.assign rfl) ?_
  refine G.nil ?_
  refine C.seq ?_
  refine C.block ?_
  refine C.loop (fun k E M' H => ∃ (l : List BSl) (at_ : Nat) (v : Value), MLe M M' ∧ at_ + k = bs.length ∧ recsN (l.map (·.2.2)) = at_ ∧ recs bs = l.map (·.2.2) ++ recs (bs.drop at_) ∧ (∀ t ∈ l, SC M' t.1 t.2.1 t.2.2) ∧ Own 1 v l.length (l.map bslV) H ∧ l.length ≤ bs.length ∧ E = [(0, .slice p bs.length cap), (5, v), (6, intV at_)]) (bs.length) ?_ ?_
  · exact ⟨_, _, ⟨[], 0, _, MLe.refl _, by omega, rfl, by simp, by simp, Own.nil, by simp, rfl⟩, ⟨rfl, rfl, rfl, trivial⟩, _, Split.nil⟩
  · rintro k E M' H ⟨l, at_, v, hle, hat, hrn, hrec, hl, hown, hll, rfl⟩
    have hsa := (hs.mono hle).rest (lo := at_) (by omega)
    have hdl : (bs.drop at_).length = bs.length - at_ := by simp
    refine C.block ?_
    refine C.region_seq ?_
    refine G.value rfl rfl rfl (Sure.move rfl) ?_
    refine G.value rfl rfl rfl (Sure.move rfl) ?_
    refine G.value rfl rfl rfl (Sure.slice at_ bs.length rfl rfl rfl (.inl rfl) (.inr ⟨rfl, rfl⟩) (by omega) (by omega)) ?_
    rw [← hdl]
    refine G.call rfl rfl rfl rfl rfl rfl (next_spec M' (subP p cap at_ 1) (cap - at_) (bs.drop at_) hsa (by omega)) (Split.nil) ?_
    rintro _ M2 _ le2 ⟨rfl, ⟨x, q, c, hnx, rfl, hx⟩ | ⟨hnx, rfl⟩⟩
    · have hxl := nextB_len hnx
      refine G.value rfl rfl rfl (Sure.move rfl) ?_
      refine G.value rfl rfl rfl (Sure.extract rfl rfl) ?_
      refine G.value rfl rfl rfl (Sure.extract rfl rfl) ?_
      refine G.value rfl rfl rfl (Sure.assign rfl) ?_
      refine G.value rfl rfl rfl (Sure.assign rfl) ?_
      refine G.nil ?_
      refine C.seq ?_
      refine C.region_seq ?_
      refine G.value rfl rfl rfl (Sure.move rfl) ?_
      refine G.value rfl rfl rfl (Sure.not rfl) ?_
      refine G.nil ?_
      refine C.cond_false rfl ?_
      refine C.skip ?_
      refine Fin.th ?_
      refine C.region_seq ?_
      refine G.value rfl rfl rfl (Sure.move rfl) ?_
      refine G.value rfl rfl rfl (Sure.move rfl) ?_
      refine G.dyn rfl rfl rfl ?_
      refine Dyn.buildSlice rfl rfl rfl (by simp [vcl]) (by decide) ?_
      intro b20
      refine G.donate fun M3 le3 hM3 => ?_
      refine G.dyn rfl rfl rfl ?_
      refine Dyn.append (fun k h => by cases h) rfl rfl rfl hown PickL.all (news := [bslV (q, c, x)]) ⟨rfl, fun _ => ⟨b20, 0, _, rfl, Rd.m hM3, by simp [seg, takeN, vcl]⟩⟩ rfl (by omega) (by omega) ?_
      intro v2 Hs2 hown2
      refine G.value rfl rfl rfl (Sure.assign rfl) ?_
      refine G.nil ?_
      refine C.region ?_
      refine G.value rfl rfl rfl (Sure.move rfl) ?_
      refine G.value rfl rfl rfl (Sure.move rfl) ?_
      refine G.value rfl rfl rfl (Sure.len_slice rfl) ?_
      refine G.call rfl rfl rfl rfl rfl rfl (size_spec M3 x.length (by omega)) (Split.nil) ?_
      rintro _ M4 _ le4 ⟨rfl, rfl⟩
      refine G.value rfl rfl rfl (Sure.add rfl rfl (inK64 (by omega))) ?_
      refine G.value rfl rfl rfl (Sure.assign rfl) ?_
      refine G.nil ?_
      refine Fin.blk ?_
      refine Fin.th ?_
      refine ⟨k - (x.length + 7), _, _, by omega, ⟨l ++ [(q, c, x)], at_ + (x.length + 7), v2, hle.trans (le2.trans (le3.trans le4)), by omega, by rw [List.map_append]; simp only [List.map_cons, List.map_nil]; rw [recsN_snoc, hrn], ?_, ?_, by simpa using hown2, ?_, rfl⟩, ⟨rfl, rfl, ?_, trivial⟩, _, Split.one PickL.all⟩
      · rw [hrec, recs_some hnx, List.drop_drop]; simp
      · intro t ht
        rcases List.mem_append.1 ht with h | h
        · exact (hl t h).mono (le2.trans (le3.trans le4))
        · rw [List.mem_singleton.1 h]; exact hx.mono (le3.trans le4)
      · have h2 := hall.2.1
        rw [hrec, recs_some hnx] at h2
        simp at h2 ⊢
        omega
      · show some (intV ((at_ : Int) + ((x.length : Int) + 7))) = some (intV ((at_ + (x.length + 7) : Nat) : Int))
        congr 2
    · skip
      have hre : recs bs = l.map (·.2.2) := by rw [hrec, recs_none hnx, List.append_nil]
      have hat2 : recsN (recs bs) = at_ := by rw [hre, hrn]
      have hcl : cleanB bs = decide (((bs.drop at_).count 255 : Nat) = bs.length - at_) := by unfold cleanB; rw [hat2]
      refine G.value rfl rfl rfl (Sure.move rfl) ?_
      refine G.value rfl rfl rfl (Sure.extract rfl rfl) ?_
      refine G.value rfl rfl rfl (Sure.extract rfl rfl) ?_
      refine G.value rfl rfl rfl (Sure.assign rfl) ?_
      refine G.value rfl rfl rfl (Sure.assign rfl) ?_
      refine G.nil ?_
      refine C.seq ?_
      refine C.region_seq ?_
      refine G.value rfl rfl rfl (Sure.move rfl) ?_
      refine G.value rfl rfl rfl (Sure.not rfl) ?_
      refine G.donateOwn hown PickL.all ?_
      rintro M3 pl cl le3 rfl hsl
      refine G.nil ?_
      refine C.cond_true rfl ?_
      refine C.exit ?_
      refine Fin.th_exit ?_
      refine Fin.blk_ne rfl ?_
      refine Fin.th_exit ?_
      refine Fin.blk_eq ?_
      refine Fin.th ?_
      refine C.region_seq ?_
      refine G.value rfl rfl rfl (Sure.move rfl) ?_
      refine G.value rfl rfl rfl (Sure.move rfl) ?_
      refine G.value rfl rfl rfl (Sure.move rfl) ?_
      refine G.value rfl rfl rfl (Sure.move rfl) ?_
      refine G.value rfl rfl rfl (Sure.slice at_ bs.length rfl rfl rfl (.inl rfl) (.inr ⟨rfl, rfl⟩) (by omega) (by omega)) ?_
      refine G.dyn rfl rfl rfl ?_
      refine Dyn.buildSlice rfl rfl rfl (by simp [vcl]) (by decide) ?_
      intro b7
      refine G.donate fun M4 le4 hM4 => ?_
      have hct := count_spec M4 (subP p cap at_ 1) (cap - at_) (bs.drop at_) 255 b7 (hsa.mono (le2.trans (le3.trans le4))).1 hM4
      rw [hdl] at hct
      refine G.call rfl rfl rfl rfl rfl rfl (hct) (Split.nil) ?_
      rintro _ M5 _ le5 ⟨rfl, rfl⟩
      refine G.value rfl rfl rfl (Sure.move rfl) ?_
      refine G.value rfl rfl rfl (Sure.len_slice rfl) ?_
      refine G.value rfl rfl rfl (Sure.move rfl) ?_
      refine G.value rfl rfl rfl (Sure.sub rfl rfl (inK64 (by omega))) ?_
      refine G.value rfl rfl rfl (Sure.eql rfl rfl) ?_
      refine G.value rfl rfl rfl (Sure.assign rfl) ?_
      refine G.value rfl rfl rfl (Sure.assign rfl) ?_
      refine G.value rfl rfl rfl (Sure.assign rfl) ?_
      refine G.nil ?_
      refine C.ret ?_
      refine Fin.fn (Res.tmp3 rfl rfl rfl rfl) Split.nil ⟨rfl, pl, cl, l, ?_, hre.symm, hsl.mono (le4.trans le5), fun t ht => (hl t ht).mono (le2.trans (le3.trans (le4.trans le5)))⟩
      rw [hat2, hcl]
      congr 4
      rw [show decide (((bs.drop at_).count 255 : Int) = (bs.length : Int) - (at_ : Int)) = decide ((bs.drop at_).count 255 = bs.length - at_) from decide_eq_decide.2 (by omega)]
end Go.Proofs.YtaeeahcokiebdaaGreat

/-
  The walks of a reader's numbers and texts.
  Conditions: bytes are a thousand million at most.
-/
namespace Go.Proofs.YtaeeahcokiebdaaGreat
set_option maxRecDepth 20000

abbrev rdL (p : Option Addr) (cap : Nat) (bs : List UInt8) (a e : Int) : List Value := [.slice p bs.length cap, intV a, intV e]
/-- A reader's block: at a place, or behind an error. -/
def RdB (rb : Nat) (p : Option Addr) (cap : Nat) (bs : List UInt8) : Option Nat → Heap → Prop
  | some a, H => a ≤ bs.length ∧ H = [(rb, .cells (rdL p cap bs a 0))]
  | Option.none, H => ∃ a e : Int, e ≠ 0 ∧ H = [(rb, .cells (rdL p cap bs a e))]
def rNum (bs : List UInt8) (st : Option Nat) (n : Nat) : Nat × Option Nat := match st with
  | Option.none => (0, Option.none)
  | some a => if a + n ≤ bs.length then (num ((bs.drop a).take n), some (a + n)) else (0, Option.none)
def rInt (bs : List UInt8) (st : Option Nat) : Int × Option Nat := (IntKind.i64.wrap (rNum bs st 8).1, (rNum bs st 8).2)
def rText (bs : List UInt8) (st : Option Nat) : ByteArray × Option Nat := match st with
  | Option.none => (⟨#[]⟩, Option.none)
  | some a => match txtAt bs a with
    | some t => (⟨t.toArray⟩, some (a + 4 + t.length))
    | Option.none => (⟨#[]⟩, Option.none)
theorem rNum_lt (bs : List UInt8) (st : Option Nat) (n : Nat) : (rNum bs st n).1 < 256 ^ n := by
  have hp : 0 < 256 ^ n := Nat.pow_pos (by decide)
  unfold rNum
  split
  · exact hp
  · split
    · have := num_lt ((bs.drop ‹Nat›).take n)
      refine Nat.lt_of_lt_of_le this (Nat.pow_le_pow_right (by decide) ?_)
      simp; omega
    · exact hp
theorem rget_spec (M : Mem) (rb : Nat) (p : Option Addr) (cap : Nat) (bs : List UInt8) (st : Option Nat) (n : Nat) (H0 : Heap) (hs : SC M p cap bs) (hb : bs.length ≤ 1000000000) (hn : 1 ≤ n ∧ n ≤ 8) (h0 : RdB rb p cap bs st H0) :
    Spec Tryz.prog 156 [ptr rb, intV n] M H0 (fun v _ H => v = .int .u64 (rNum bs st n).1 ∧ RdB rb p cap bs (rNum bs st n).2 H) := by
  refine Spec.of_code 38 Tryz.func156 rfl callable156 rfl rfl fun w => ?_
  cases st with
  | none =>
    obtain ⟨a, e, he, rfl⟩ := h0
    refine C.region_seq ?_
    refine G.value rfl rfl rfl (Sure.assign rfl) ?_
    refine G.nil ?_
    refine C.seq ?_
    refine C.region_seq ?_
    refine G.value rfl rfl rfl (Sure.move rfl) ?_
    refine G.value rfl rfl rfl (Sure.nilCheck rfl) ?_
    refine G.value rfl rfl rfl (Sure.fieldAddr rfl) ?_
    refine G.value rfl rfl rfl (Sure.load rfl rdx rfl) ?_
    refine G.value rfl rfl rfl ((Sure.neq rfl rfl).to_t he) ?_
    refine G.nil ?_
    refine C.cond_true rfl ?_
    refine C.region_seq ?_
    refine G.value rfl rfl rfl (Sure.assign rfl) ?_
    refine G.nil ?_
    refine C.ret ?_
    refine Fin.th_ret ?_
    exact Fin.fn (Res.tmp rfl rfl) (Split.one PickL.all) ⟨rfl, a, e, he, rfl⟩
  | some a =>
    obtain ⟨ha, rfl⟩ := h0
    refine C.region_seq ?_
    refine G.value rfl rfl rfl (Sure.assign rfl) ?_
    refine G.nil ?_
    refine C.seq ?_
    refine C.region_seq ?_
    refine G.value rfl rfl rfl (Sure.move rfl) ?_
    refine G.value rfl rfl rfl (Sure.nilCheck rfl) ?_
    refine G.value rfl rfl rfl (Sure.fieldAddr rfl) ?_
    refine G.value rfl rfl rfl (Sure.load rfl rdx rfl) ?_
    refine G.value rfl rfl rfl ((Sure.neq rfl rfl).to_f (by decide)) ?_
    refine G.nil ?_
    refine C.cond_false rfl ?_
    refine C.skip ?_
    refine Fin.th ?_
    -- draws its order
    refine C.draw_seq (_) mixed (by kernel_rfl) (Incl.refl _) ?_
    refine GD.val 0 rfl rfl rfl rfl (by kernel_rfl) rfl (Sure.move rfl) ?_
    refine GD.val 1 rfl rfl rfl rfl (by kernel_rfl) rfl (Sure.nilCheck rfl) ?_
    refine GD.val 2 rfl rfl rfl rfl (by kernel_rfl) rfl (Sure.fieldAddr rfl) ?_
    refine GD.val 3 rfl rfl rfl rfl (by kernel_rfl) rfl (Sure.load rfl rdx rfl) ?_
    refine GD.val 4 rfl rfl rfl rfl (by kernel_rfl) rfl (Sure.move rfl) ?_
    refine GD.val 5 rfl rfl rfl rfl (by kernel_rfl) rfl (Sure.nilCheck rfl) ?_
    refine GD.val 6 rfl rfl rfl rfl (by kernel_rfl) rfl (Sure.fieldAddr rfl) ?_
    refine GD.val 7 rfl rfl rfl rfl (by kernel_rfl) rfl (Sure.load rfl rdx rfl) ?_
    refine GD.val 8 rfl rfl rfl rfl (by kernel_rfl) rfl (Sure.move rfl) ?_
    refine GD.one 9 (by kernel_rfl) rfl rfl (by kernel_rfl) ?_
    refine Next.call 9 rfl rfl rfl (by kernel_rfl) (by kernel_rfl) rfl rfl rfl rfl (get_spec M p cap bs a n hs hb (by omega) hn) (Split.nil) ?_
    rintro _ M1 _ le1 ⟨rfl, hres⟩
    refine ⟨(by intro p hp; simp_all), ?_⟩
    rcases hres with ⟨hfit, rfl⟩ | ⟨hfit, rfl⟩
    · refine GD.val 10 rfl rfl rfl rfl (by kernel_rfl) rfl (Sure.move rfl) ?_
      refine GD.val 11 rfl rfl rfl rfl (by kernel_rfl) rfl (Sure.extract rfl rfl) ?_
      refine GD.val 12 rfl rfl rfl rfl (by kernel_rfl) rfl (Sure.extract rfl rfl) ?_
      refine GD.one 13 (by kernel_rfl) rfl rfl (by kernel_rfl) ?_
      refine Next.dyn 13 rfl rfl rfl (by kernel_rfl) (by kernel_rfl) rfl (Dyn.assign rfl ?_)
      refine ⟨MLe.refl _, incx, ?_⟩
      refine GD.one 14 (by kernel_rfl) rfl rfl (by kernel_rfl) ?_
      refine Next.dyn 14 rfl rfl rfl (by kernel_rfl) (by kernel_rfl) rfl (Dyn.assign rfl ?_)
      refine ⟨MLe.refl _, incx, ?_⟩
      refine GD.done (by kernel_rfl) (by kernel_rfl) ?_
      refine C.region_seq ?_
      refine G.value rfl rfl rfl (Sure.move rfl) ?_
      refine G.value rfl rfl rfl (Sure.move rfl) ?_
      refine G.value rfl rfl rfl (Sure.nilCheck rfl) ?_
      refine G.value rfl rfl rfl (Sure.fieldAddr rfl) ?_
      refine G.dyn0 rfl rfl ?_
      refine Dyn.store rfl rfl pkx rfl rfl ?_
      refine G.nil ?_
      refine C.region_seq ?_
      refine G.value rfl rfl rfl (Sure.move rfl) ?_
      refine G.value rfl rfl rfl (Sure.nilCheck rfl) ?_
      refine G.value rfl rfl rfl (Sure.fieldAddr rfl) ?_
      refine G.value rfl rfl rfl (Sure.load rfl rdx rfl) ?_
      refine G.value rfl rfl rfl (Sure.move rfl) ?_
      refine G.value rfl rfl rfl (Sure.add rfl rfl (inK64 (by omega))) ?_
      refine G.value rfl rfl rfl (Sure.nilCheck rfl) ?_
      refine G.value rfl rfl rfl (Sure.fieldAddr rfl) ?_
      refine G.dyn0 rfl rfl ?_
      refine Dyn.store rfl rfl pkx rfl rfl ?_
      refine G.nil ?_
      refine C.region_seq ?_
      refine G.value rfl rfl rfl (Sure.move rfl) ?_
      refine G.value rfl rfl rfl (Sure.assign rfl) ?_
      refine G.nil ?_
      refine C.ret ?_
      have e : rNum bs (some a) n = (num ((bs.drop a).take n), some (a + n)) := by unfold rNum; simp only; rw [if_pos hfit]
      rw [e]
      exact Fin.fn (Res.tmp rfl rfl) (Split.one PickL.all) ⟨rfl, hfit, rfl⟩
    · skip
      refine GD.val 10 rfl rfl rfl rfl (by kernel_rfl) rfl (Sure.move rfl) ?_
      refine GD.val 11 rfl rfl rfl rfl (by kernel_rfl) rfl (Sure.extract rfl rfl) ?_
      refine GD.val 12 rfl rfl rfl rfl (by kernel_rfl) rfl (Sure.extract rfl rfl) ?_
      refine GD.one 13 (by kernel_rfl) rfl rfl (by kernel_rfl) ?_
      refine Next.dyn 13 rfl rfl rfl (by kernel_rfl) (by kernel_rfl) rfl (Dyn.assign rfl ?_)
      refine ⟨MLe.refl _, incx, ?_⟩
      refine GD.one 14 (by kernel_rfl) rfl rfl (by kernel_rfl) ?_
      refine Next.dyn 14 rfl rfl rfl (by kernel_rfl) (by kernel_rfl) rfl (Dyn.assign rfl ?_)
      refine ⟨MLe.refl _, incx, ?_⟩
      refine GD.done (by kernel_rfl) (by kernel_rfl) ?_
      refine C.region_seq ?_
      refine G.value rfl rfl rfl (Sure.move rfl) ?_
      refine G.value rfl rfl rfl (Sure.move rfl) ?_
      refine G.value rfl rfl rfl (Sure.nilCheck rfl) ?_
      refine G.value rfl rfl rfl (Sure.fieldAddr rfl) ?_
      refine G.dyn0 rfl rfl ?_
      refine Dyn.store rfl rfl pkx rfl rfl ?_
      refine G.nil ?_
      refine C.region_seq ?_
      refine G.value rfl rfl rfl (Sure.move rfl) ?_
      refine G.value rfl rfl rfl (Sure.nilCheck rfl) ?_
      refine G.value rfl rfl rfl (Sure.fieldAddr rfl) ?_
      refine G.value rfl rfl rfl (Sure.load rfl rdx rfl) ?_
      refine G.value rfl rfl rfl (Sure.move rfl) ?_
      refine G.value rfl rfl rfl (Sure.add rfl rfl (inK64 (by omega))) ?_
      refine G.value rfl rfl rfl (Sure.nilCheck rfl) ?_
      refine G.value rfl rfl rfl (Sure.fieldAddr rfl) ?_
      refine G.dyn0 rfl rfl ?_
      refine Dyn.store rfl rfl pkx rfl rfl ?_
      refine G.nil ?_
      refine C.region_seq ?_
      refine G.value rfl rfl rfl (Sure.move rfl) ?_
      refine G.value rfl rfl rfl (Sure.assign rfl) ?_
      refine G.nil ?_
      refine C.ret ?_
      have e : rNum bs (some a) n = (0, Option.none) := by unfold rNum; simp only; rw [if_neg (by omega)]
      rw [e]
      exact Fin.fn (Res.tmp rfl rfl) (Split.one PickL.all) ⟨rfl, (a : Int) + n, 3, by decide, rfl⟩
theorem rint_spec (M : Mem) (rb : Nat) (p : Option Addr) (cap : Nat) (bs : List UInt8) (st : Option Nat) (H0 : Heap) (hs : SC M p cap bs) (hb : bs.length ≤ 1000000000) (h0 : RdB rb p cap bs st H0) :
    Spec Tryz.prog 157 [ptr rb] M H0 (fun v _ H => v = intV (rInt bs st).1 ∧ RdB rb p cap bs (rInt bs st).2 H) := by
  refine Spec.of_code 6 Tryz.func157 rfl callable157 rfl rfl fun w => ?_
  refine C.region_seq ?_
  refine G.value rfl rfl rfl (Sure.assign rfl) ?_
  refine G.nil ?_
  refine C.region_seq ?_
  refine G.value rfl rfl rfl (Sure.move rfl) ?_
  refine G.call rfl rfl rfl rfl rfl rfl (rget_spec M rb p cap bs st 8 H0 hs hb (by omega) h0) (Split.one PickL.all) ?_
  rintro _ M1 H1 le1 ⟨rfl, hr⟩
  refine G.value rfl rfl rfl (Sure.conv' rfl) ?_
  refine G.value rfl rfl rfl (Sure.assign rfl) ?_
  refine G.nil ?_
  refine C.ret ?_
  exact Fin.fn (Res.tmp rfl rfl) (Split.one PickL.here) ⟨rfl, hr⟩
theorem rtext_spec (M : Mem) (rb : Nat) (p : Option Addr) (cap : Nat) (bs : List UInt8) (st : Option Nat) (H0 : Heap) (hs : SC M p cap bs) (hb : bs.length ≤ 1000000000) (h0 : RdB rb p cap bs st H0) :
    Spec Tryz.prog 169 [ptr rb] M H0 (fun v _ H => v = .string (rText bs st).1 ∧ RdB rb p cap bs (rText bs st).2 H) := by
  refine Spec.of_code 33 Tryz.func169 rfl callable169 rfl rfl fun w => ?_
  cases st with
  | none =>
    obtain ⟨a, e, he, rfl⟩ := h0
    refine C.region_seq ?_
    refine G.value rfl rfl rfl (Sure.assign rfl) ?_
    refine G.nil ?_
    refine C.seq ?_
    refine C.region_seq ?_
    refine G.value rfl rfl rfl (Sure.move rfl) ?_
    refine G.value rfl rfl rfl (Sure.nilCheck rfl) ?_
    refine G.value rfl rfl rfl (Sure.fieldAddr rfl) ?_
    refine G.value rfl rfl rfl (Sure.load rfl rdx rfl) ?_
    refine G.value rfl rfl rfl ((Sure.neq rfl rfl).to_t he) ?_
    refine G.nil ?_
    refine C.cond_true rfl ?_
    refine C.region_seq ?_
    refine G.value rfl rfl rfl (Sure.assign rfl) ?_
    refine G.nil ?_
    refine C.ret ?_
    refine Fin.th_ret ?_
    exact Fin.fn (Res.tmp rfl rfl) (Split.one PickL.all) ⟨rfl, a, e, he, rfl⟩
  | some a =>
    obtain ⟨ha, rfl⟩ := h0
    refine C.region_seq ?_
    refine G.value rfl rfl rfl (Sure.assign rfl) ?_
    refine G.nil ?_
    refine C.seq ?_
    refine C.region_seq ?_
    refine G.value rfl rfl rfl (Sure.move rfl) ?_
    refine G.value rfl rfl rfl (Sure.nilCheck rfl) ?_
    refine G.value rfl rfl rfl (Sure.fieldAddr rfl) ?_
    refine G.value rfl rfl rfl (Sure.load rfl rdx rfl) ?_
    refine G.value rfl rfl rfl ((Sure.neq rfl rfl).to_f (by decide)) ?_
    refine G.nil ?_
    refine C.cond_false rfl ?_
    refine C.skip ?_
    refine Fin.th ?_
    -- draws its order
    refine C.draw_seq (_) mixed (by kernel_rfl) (Incl.refl _) ?_
    refine GD.val 0 rfl rfl rfl rfl (by kernel_rfl) rfl (Sure.move rfl) ?_
    refine GD.val 1 rfl rfl rfl rfl (by kernel_rfl) rfl (Sure.nilCheck rfl) ?_
    refine GD.val 2 rfl rfl rfl rfl (by kernel_rfl) rfl (Sure.fieldAddr rfl) ?_
    refine GD.val 3 rfl rfl rfl rfl (by kernel_rfl) rfl (Sure.load rfl rdx rfl) ?_
    refine GD.val 4 rfl rfl rfl rfl (by kernel_rfl) rfl (Sure.move rfl) ?_
    refine GD.val 5 rfl rfl rfl rfl (by kernel_rfl) rfl (Sure.nilCheck rfl) ?_
    refine GD.val 6 rfl rfl rfl rfl (by kernel_rfl) rfl (Sure.fieldAddr rfl) ?_
    refine GD.val 7 rfl rfl rfl rfl (by kernel_rfl) rfl (Sure.load rfl rdx rfl) ?_
    refine GD.one 8 (by kernel_rfl) rfl rfl (by kernel_rfl) ?_
    refine Next.call 8 rfl rfl rfl (by kernel_rfl) (by kernel_rfl) rfl rfl rfl rfl (getText_spec M p cap bs a hs hb (by omega)) (Split.nil) ?_
    rintro _ M1 _ le1 ⟨rfl, hres⟩
    refine ⟨(by intro p hp; simp_all), ?_⟩
    rcases hres with ⟨t, ht, rfl⟩ | ⟨ht, rfl⟩
    · have hle : a + 4 + t.length ≤ bs.length := by
        unfold txtAt at ht
        split at ht
        · injection ht with ht; rw [← ht]; simp; omega
        · cases ht
      refine GD.val 9 rfl rfl rfl rfl (by kernel_rfl) rfl (Sure.move rfl) ?_
      refine GD.val 10 rfl rfl rfl rfl (by kernel_rfl) rfl (Sure.extract rfl rfl) ?_
      refine GD.val 11 rfl rfl rfl rfl (by kernel_rfl) rfl (Sure.extract rfl rfl) ?_
      refine GD.val 12 rfl rfl rfl rfl (by kernel_rfl) rfl (Sure.extract rfl rfl) ?_
      refine GD.one 13 (by kernel_rfl) rfl rfl (by kernel_rfl) ?_
      refine Next.dyn 13 rfl rfl rfl (by kernel_rfl) (by kernel_rfl) rfl (Dyn.assign rfl ?_)
      refine ⟨MLe.refl _, incx, ?_⟩
      refine GD.one 14 (by kernel_rfl) rfl rfl (by kernel_rfl) ?_
      refine Next.dyn 14 rfl rfl rfl (by kernel_rfl) (by kernel_rfl) rfl (Dyn.assign rfl ?_)
      refine ⟨MLe.refl _, incx, ?_⟩
      refine GD.one 15 (by kernel_rfl) rfl rfl (by kernel_rfl) ?_
      refine Next.dyn 15 rfl rfl rfl (by kernel_rfl) (by kernel_rfl) rfl (Dyn.assign rfl ?_)
      refine ⟨MLe.refl _, incx, ?_⟩
      refine GD.done (by kernel_rfl) (by kernel_rfl) ?_
      refine C.region_seq ?_
      refine G.value rfl rfl rfl (Sure.move rfl) ?_
      refine G.value rfl rfl rfl (Sure.move rfl) ?_
      refine G.value rfl rfl rfl (Sure.move rfl) ?_
      refine G.value rfl rfl rfl (Sure.move rfl) ?_
      refine G.value rfl rfl rfl (Sure.nilCheck rfl) ?_
      refine G.value rfl rfl rfl (Sure.fieldAddr rfl) ?_
      refine G.dyn0 rfl rfl ?_
      refine Dyn.store rfl rfl pkx rfl rfl ?_
      refine G.value rfl rfl rfl (Sure.nilCheck rfl) ?_
      refine G.value rfl rfl rfl (Sure.fieldAddr rfl) ?_
      refine G.dyn0 rfl rfl ?_
      refine Dyn.store rfl rfl pkx rfl rfl ?_
      refine G.nil ?_
      refine C.region_seq ?_
      refine G.value rfl rfl rfl (Sure.move rfl) ?_
      refine G.value rfl rfl rfl (Sure.assign rfl) ?_
      refine G.nil ?_
      refine C.ret ?_
      have e : rText bs (some a) = (⟨t.toArray⟩, some (a + 4 + t.length)) := by unfold rText; simp only; rw [ht]
      rw [e]
      exact Fin.fn (Res.tmp rfl rfl) (Split.one PickL.all) ⟨rfl, hle, rfl⟩
    · skip
      refine GD.val 9 rfl rfl rfl rfl (by kernel_rfl) rfl (Sure.move rfl) ?_
      refine GD.val 10 rfl rfl rfl rfl (by kernel_rfl) rfl (Sure.extract rfl rfl) ?_
      refine GD.val 11 rfl rfl rfl rfl (by kernel_rfl) rfl (Sure.extract rfl rfl) ?_
      refine GD.val 12 rfl rfl rfl rfl (by kernel_rfl) rfl (Sure.extract rfl rfl) ?_
      refine GD.one 13 (by kernel_rfl) rfl rfl (by kernel_rfl) ?_
      refine Next.dyn 13 rfl rfl rfl (by kernel_rfl) (by kernel_rfl) rfl (Dyn.assign rfl ?_)
      refine ⟨MLe.refl _, incx, ?_⟩
      refine GD.one 14 (by kernel_rfl) rfl rfl (by kernel_rfl) ?_
      refine Next.dyn 14 rfl rfl rfl (by kernel_rfl) (by kernel_rfl) rfl (Dyn.assign rfl ?_)
      refine ⟨MLe.refl _, incx, ?_⟩
      refine GD.one 15 (by kernel_rfl) rfl rfl (by kernel_rfl) ?_
      refine Next.dyn 15 rfl rfl rfl (by kernel_rfl) (by kernel_rfl) rfl (Dyn.assign rfl ?_)
      refine ⟨MLe.refl _, incx, ?_⟩
      refine GD.done (by kernel_rfl) (by kernel_rfl) ?_
      refine C.region_seq ?_
      refine G.value rfl rfl rfl (Sure.move rfl) ?_
      refine G.value rfl rfl rfl (Sure.move rfl) ?_
      refine G.value rfl rfl rfl (Sure.move rfl) ?_
      refine G.value rfl rfl rfl (Sure.move rfl) ?_
      refine G.value rfl rfl rfl (Sure.nilCheck rfl) ?_
      refine G.value rfl rfl rfl (Sure.fieldAddr rfl) ?_
      refine G.dyn0 rfl rfl ?_
      refine Dyn.store rfl rfl pkx rfl rfl ?_
      refine G.value rfl rfl rfl (Sure.nilCheck rfl) ?_
      refine G.value rfl rfl rfl (Sure.fieldAddr rfl) ?_
      refine G.dyn0 rfl rfl ?_
      refine Dyn.store rfl rfl pkx rfl rfl ?_
      refine G.nil ?_
      refine C.region_seq ?_
      refine G.value rfl rfl rfl (Sure.move rfl) ?_
      refine G.value rfl rfl rfl (Sure.assign rfl) ?_
      refine G.nil ?_
      refine C.ret ?_
      have e : rText bs (some a) = (⟨#[]⟩, Option.none) := by unfold rText; simp only; rw [ht]
      rw [e]
      exact Fin.fn (Res.tmp rfl rfl) (Split.one PickL.all) ⟨rfl, 0, 3, by decide, rfl⟩
end Go.Proofs.YtaeeahcokiebdaaGreat

/-
  The walk of a reader's inode.
  Conditions: bytes are a thousand million at most.
-/
namespace Go.Proofs.YtaeeahcokiebdaaGreat
set_option maxRecDepth 20000

def rInts (bs : List UInt8) : Nat → Option Nat → List Int × Option Nat
  | 0, st => ([], st)
  | i + 1, st => ((rInts bs i st).1 ++ [(rInt bs (rInts bs i st).2).1], (rInt bs (rInts bs i st).2).2)
@[simp] theorem rInts_len (bs : List UInt8) : ∀ i st, (rInts bs i st).1.length = i
  | 0, _ => rfl
  | i + 1, st => by simp [rInts, rInts_len bs i st]
def rEnts (bs : List UInt8) : Nat → Option Nat → List Entry × Option Nat
  | 0, st => ([], st)
  | _ + 1, Option.none => ([], Option.none)
  | n + 1, some a => (⟨(rText bs (some a)).1, (rInt bs (rText bs (some a)).2).1⟩ :: (rEnts bs n (rInt bs (rText bs (some a)).2).2).1, (rEnts bs n (rInt bs (rText bs (some a)).2).2).2)
def runOf (l : List Int) : Run := ⟨l.getD 0 0, l.getD 1 0, l.getD 2 0⟩
def rRuns (bs : List UInt8) : Nat → Option Nat → List Run × Option Nat
  | 0, st => ([], st)
  | _ + 1, Option.none => ([], Option.none)
  | n + 1, some a => (runOf (rInts bs 3 (some a)).1 :: (rRuns bs n (rInts bs 3 (some a)).2).1, (rRuns bs n (rInts bs 3 (some a)).2).2)
theorem rEnts_none (bs : List UInt8) : ∀ n, rEnts bs n Option.none = ([], Option.none)
  | 0 => rfl
  | _ + 1 => rfl
theorem rRuns_none (bs : List UInt8) : ∀ n, rRuns bs n Option.none = ([], Option.none)
  | 0 => rfl
  | _ + 1 => rfl
/-- A reader's inode, and where it stands then. -/
def rIno (bs : List UInt8) (st : Option Nat) : Ino × Option Nat :=
  let h := rInts bs 4 st
  let t := rText bs h.2
  let n := rNum bs t.2 4
  let es := rEnts bs n.1 n.2
  let m := rNum bs es.2 4
  let rs := rRuns bs m.1 m.2
  (⟨h.1.getD 0 0, h.1.getD 1 0, h.1.getD 2 0, h.1.getD 3 0, t.1, es.1, rs.1⟩, rs.2)
theorem four {α : Type} {l : List α} (h : l.length = 4) : ∃ a b c d, l = [a, b, c, d] := by
  match l, h with
  | [a, b, c, d], _ => exact ⟨a, b, c, d, rfl⟩
theorem three {α : Type} {l : List α} (h : l.length = 3) : ∃ a b c, l = [a, b, c] := by
  match l, h with
  | [a, b, c], _ => exact ⟨a, b, c, rfl⟩
theorem Own.one {sz v n xs Hs} (h : Own sz v n xs Hs) : v.oneCell' = true := by
  rcases h.2 with ⟨rfl, _⟩ | ⟨b, cap, junk, rfl, _⟩ <;> rfl
theorem rinode_spec (M : Mem) (rb : Nat) (p : Option Addr) (cap : Nat) (bs : List UInt8) (st : Option Nat) (H0 : Heap) (hs : SC M p cap bs) (hb : bs.length ≤ 1000000000) (h0 : RdB rb p cap bs st H0) :
    Spec Tryz.prog 158 [ptr rb] M H0 (fun v M' H => (∃ d : InoD, d.x = (rIno bs st).1 ∧ v = .agg (inoDL d).toArray ∧ DOk M' d) ∧ RdB rb p cap bs (rIno bs st).2 H) := by
  refine Spec.of_code 85 Tryz.func158 rfl callable158 rfl rfl fun w => ?_
  refine C.region_seq ?_
  refine G.dyn rfl rfl rfl ?_
  refine Dyn.allocAgg ?_
  intro b2
  refine G.nil ?_
  refine C.region_seq ?_
  refine G.dyn rfl rfl rfl ?_
  refine Dyn.allocAgg ?_
  intro b3
  refine G.nil ?_
  refine C.seq ?_
  refine C.region_seq ?_
  refine G.value rfl rfl rfl (Sure.fieldAddr rfl) ?_
  refine G.value rfl rfl rfl (Sure.fieldAddr rfl) ?_
  refine G.value rfl rfl rfl (Sure.fieldAddr rfl) ?_
  refine G.value rfl rfl rfl (Sure.fieldAddr rfl) ?_
  refine G.value rfl rfl rfl (Sure.build rfl rfl) ?_
  refine G.value rfl rfl rfl (Sure.move rfl) ?_
  refine G.nil ?_
  refine C.block ?_
  refine C.loop (fun k E M' H => ∃ (i : Nat) (Hr : Heap), MLe M M' ∧ i + k = 4 ∧ RdB rb p cap bs (rInts bs i st).2 Hr ∧ E = [(0, ptr rb), (2, ptr b2), (3, ptr b3), (15, .agg #[.pointer (some ⟨b3, 0, Option.none⟩), .pointer (some ⟨b3, 1, Option.none⟩), .pointer (some ⟨b3, 2, Option.none⟩), .pointer (some ⟨b3, 3, Option.none⟩)]), (16, intV i)] ∧ H = (b3, .cells ((rInts bs i st).1.map intV ++ (List.replicate k (intV 0) ++ [.string ⟨#[]⟩, .slice Option.none 0 0, .slice Option.none 0 0]))) :: (b2, .cells (inoDL inoD0)) :: Hr) (4) ?_ ?_
  · exact ⟨_, _, ⟨0, H0, MLe.refl _, rfl, h0, rfl, rfl⟩, ⟨rfl, rfl, rfl, rfl, rfl, trivial⟩, _, Split.cons .here (Split.cons .here (Split.one PickL.all))⟩
  · rintro k E M' H ⟨i, Hr, hle, hik, hr, rfl, rfl⟩
    refine C.region_seq ?_
    refine G.value rfl rfl rfl (Sure.lss rfl rfl) ?_
    refine G.nil ?_
    refine C.seq ?_
    refine C.cond_dec rfl (fun hlt => ?_) (fun hlt => ?_)
    · obtain ⟨k, rfl⟩ : ∃ m, k = m + 1 := ⟨k - 1, by omega⟩
      rw [List.replicate_succ]
      refine C.skip ?_
      refine Fin.th ?_
      refine C.seq ?_
      refine C.block ?_
      refine C.region_seq ?_
      refine G.value rfl rfl rfl (Sure.indexArr (v := .pointer (some ⟨b3, i, Option.none⟩)) rfl rfl (by omega) (by rw [Int.toNat_natCast]; match i, (by omega : i < 4) with | 0, _ => rfl | 1, _ => rfl | 2, _ => rfl | 3, _ => rfl)) ?_
      refine G.value rfl rfl rfl (Sure.assign rfl) ?_
      refine G.nil ?_
      refine C.region ?_
      refine G.value rfl rfl rfl (Sure.move rfl) ?_
      refine G.value rfl rfl rfl (Sure.move rfl) ?_
      refine G.call rfl rfl rfl rfl rfl rfl (rint_spec M' rb p cap bs (rInts bs i st).2 Hr (hs.mono hle) hb hr) (Split.one (PickL.there (PickL.there PickL.all))) ?_
      rintro _ M2 H2 le2 ⟨rfl, hr2⟩
      refine G.value rfl rfl rfl (Sure.nilCheck rfl) ?_
      refine G.dyn0 rfl rfl ?_
      refine Dyn.store rfl rfl (Pick.over .here) rfl (mid_set (by simp)) ?_
      refine G.nil ?_
      refine Fin.blk ?_
      refine Fin.th ?_
      refine C.region ?_
      refine G.value rfl rfl rfl (Sure.add rfl rfl (inK64 (by omega))) ?_
      refine G.value rfl rfl rfl (Sure.move rfl) ?_
      refine G.nil ?_
      refine Fin.th ?_
      refine ⟨k, _, _, by omega, ⟨i + 1, H2, hle.trans le2, by omega, hr2, rfl, rfl⟩, ⟨rfl, rfl, rfl, rfl, rfl, trivial⟩, [], ?_⟩
      rw [show (rInts bs (i + 1) st).1.map intV ++ (List.replicate k (intV 0) ++ [.string ⟨#[]⟩, .slice Option.none 0 0, .slice Option.none 0 0]) = (rInts bs i st).1.map intV ++ intV (rInt bs (rInts bs i st).2).1 :: (List.replicate k (intV 0) ++ [.string ⟨#[]⟩, .slice Option.none 0 0, .slice Option.none 0 0]) from by simp [rInts]]
      exact Split.cons .here (Split.cons (.over .here) (Split.one PickL.here))
    · have hi : i = 4 := by omega
      have hk : k = 0 := by omega
      subst hi
      subst hk
      obtain ⟨x0, x1, x2, x3, hx⟩ := four (rInts_len bs 4 st)
      have hh : rInts bs 4 st = ([x0, x1, x2, x3], (rInts bs 4 st).2) := by rw [← hx]
      generalize hst1 : (rInts bs 4 st).2 = st1 at hr hh
      rw [hx]
      refine C.exit ?_
      refine Fin.th_exit ?_
      refine Fin.th_exit ?_
      refine Fin.blk_eq ?_
      refine Fin.th ?_
      refine C.region_seq ?_
      refine G.value rfl rfl rfl (Sure.move rfl) ?_
      refine G.call rfl rfl rfl rfl rfl rfl (rtext_spec M' rb p cap bs st1 Hr (hs.mono hle) hb hr) (Split.one (PickL.there (PickL.there PickL.all))) ?_
      rintro _ M2 H2 le2 ⟨rfl, hr2⟩
      generalize ht : rText bs st1 = rt at hr2
      obtain ⟨t, st2⟩ := rt
      refine G.value rfl rfl rfl (Sure.fieldAddr rfl) ?_
      refine G.dyn0 rfl rfl ?_
      refine Dyn.store rfl rfl (Pick.over .here) rfl rfl ?_
      refine G.nil ?_
      refine C.seq ?_
      refine C.region_seq ?_
      refine G.value rfl rfl rfl (Sure.move rfl) ?_
      refine G.call rfl rfl rfl rfl rfl rfl (rget_spec M2 rb p cap bs st2 4 H2 (hs.mono (hle.trans le2)) hb (by omega) hr2) (Split.one (PickL.there PickL.here)) ?_
      rintro _ M3 H3 le3 ⟨rfl, hr3⟩
      have hnlt := rNum_lt bs st2 4
      generalize hn : rNum bs st2 4 = rn at hr3 hnlt
      obtain ⟨n, st3⟩ := rn
      have hn4 : n < 4294967296 := hnlt
      refine G.value rfl rfl rfl (Sure.assign rfl) ?_
      refine G.nil ?_
      refine C.cutTop (fun E M' H => ∃ (s : Option Nat) (v : Value) (Hs Hr : Heap), MLe M3 M' ∧ (rEnts bs n st3).2 = s ∧ (rEnts bs n st3).1.length ≤ n ∧ RdB rb p cap bs s Hr ∧ Own 2 v (rEnts bs n st3).1.length ((rEnts bs n st3).1.map entL).flatten Hs ∧ esub [(0, ptr rb), (2, ptr b2), (3, ptr b3)] E ∧ ∃ R, Split ((b3, .cells [intV x0, intV x1, intV x2, intV x3, .string t, v, .slice Option.none 0 0]) :: (b2, .cells (inoDL inoD0)) :: (Hs ++ Hr)) H R) ?_ ?_
      · refine C.block ?_
        refine C.loop (fun k E M' H => ∃ (done : List Entry) (s : Option Nat) (v : Value) (Hs Hr : Heap), MLe M3 M' ∧ (rEnts bs n st3).1 = done ++ (rEnts bs k s).1 ∧ (rEnts bs n st3).2 = (rEnts bs k s).2 ∧ done.length + k = n ∧ RdB rb p cap bs s Hr ∧ Own 2 v done.length (done.map entL).flatten Hs ∧ E = [(0, ptr rb), (2, ptr b2), (3, ptr b3), (6, .int .u64 k)] ∧ H = (b3, .cells [intV x0, intV x1, intV x2, intV x3, .string t, v, .slice Option.none 0 0]) :: (b2, .cells (inoDL inoD0)) :: (Hs ++ Hr)) (n) ?_ ?_
        · exact ⟨_, _, ⟨[], st3, _, [], H3, MLe.refl _, rfl, rfl, by simp, hr3, Own.nil, rfl, rfl⟩, ⟨rfl, rfl, rfl, rfl, trivial⟩, _, Split.cons (.over .here) (Split.cons (.over .here) (Split.one PickL.here))⟩
        · clear hr3 hr2 hr hik
          rintro k E M' H ⟨done, s, v, Hs, Hr, hle3, hd1, hd2, hdn, hr, hown, rfl, rfl⟩
          rcases k with _ | k
          · refine C.seq ?_
            refine C.region_seq ?_
            refine G.value rfl rfl rfl (Sure.move rfl) ?_
            refine G.value rfl rfl rfl ((Sure.gtr rfl rfl).to_f (by simp)) ?_
            refine G.value rfl rfl rfl (Sure.move rfl) ?_
            refine G.skip rfl rfl rfl ?_
            refine G.skip rfl rfl rfl ?_
            refine G.skip rfl rfl rfl ?_
            refine G.skip rfl rfl rfl ?_
            refine G.skip rfl rfl rfl ?_
            refine G.value rfl rfl rfl (Sure.pick_false rfl rfl) ?_
            refine G.nil ?_
            refine C.cond_false rfl ?_
            refine C.exit ?_
            refine Fin.th_exit ?_
            refine Fin.th_exit ?_
            refine Fin.blk_eq ?_
            refine Fin.th ?_
            have hd1' : (rEnts bs n st3).1 = done := by rw [hd1]; simp [rEnts]
            rw [hd1']
            exact ⟨s, v, Hs, Hr, hle3, by rw [hd2]; rfl, by omega, hr, hown, ⟨rfl, rfl, rfl, trivial⟩, [], Split.cons .here (Split.cons .here (Split.one PickL.all))⟩
          · skip
            refine C.seq ?_
            refine C.region_seq ?_
            refine G.value rfl rfl rfl (Sure.move rfl) ?_
            refine G.value rfl rfl rfl ((Sure.gtr rfl rfl).to_t (by omega)) ?_
            cases s with
            | none =>
              have hr' := hr
              obtain ⟨a, e, he, rfl⟩ := hr
              refine G.value rfl rfl rfl (Sure.move rfl) ?_
              refine G.value rfl rfl rfl (Sure.move rfl) ?_
              refine G.value rfl rfl rfl (Sure.nilCheck rfl) ?_
              refine G.value rfl rfl rfl (Sure.fieldAddr rfl) ?_
              refine G.value rfl rfl rfl (Sure.load rfl (Rd.tl (Rd.tl (Rd.over Rd.h0))) rfl) ?_
              refine G.value rfl rfl rfl ((Sure.eql rfl rfl).to_f he) ?_
              refine G.value rfl rfl rfl (Sure.pick_true rfl rfl) ?_
              refine G.nil ?_
              refine C.cond_false rfl ?_
              refine C.exit ?_
              refine Fin.th_exit ?_
              refine Fin.th_exit ?_
              refine Fin.blk_eq ?_
              refine Fin.th ?_
              have hd1' : (rEnts bs n st3).1 = done := by rw [hd1]; simp [rEnts]
              rw [hd1']
              exact ⟨Option.none, v, Hs, _, hle3, by rw [hd2]; rfl, by omega, hr', hown, ⟨rfl, rfl, rfl, trivial⟩, [], Split.cons .here (Split.cons .here (Split.one PickL.all))⟩
            | some a =>
              have hr' := hr
              obtain ⟨ha, rfl⟩ := hr
              refine G.value rfl rfl rfl (Sure.move rfl) ?_
              refine G.value rfl rfl rfl (Sure.move rfl) ?_
              refine G.value rfl rfl rfl (Sure.nilCheck rfl) ?_
              refine G.value rfl rfl rfl (Sure.fieldAddr rfl) ?_
              refine G.value rfl rfl rfl (Sure.load rfl (Rd.tl (Rd.tl (Rd.over Rd.h0))) rfl) ?_
              refine G.value rfl rfl rfl ((Sure.eql rfl rfl).to_t rfl) ?_
              refine G.value rfl rfl rfl (Sure.pick_true rfl rfl) ?_
              refine G.nil ?_
              refine C.cond_true rfl ?_
              refine C.skip ?_
              refine Fin.th ?_
              refine C.seq ?_
              refine C.block ?_
              refine C.region_seq ?_
              refine G.value rfl rfl rfl (Sure.move rfl) ?_
              refine G.call rfl rfl rfl rfl rfl rfl (rtext_spec M' rb p cap bs (some a) _ (hs.mono (hle.trans (le2.trans (le3.trans hle3)))) hb hr') (Split.one (PickL.there (PickL.there (PickL.over PickL.all)))) ?_
              rintro _ M4 H4 le4 ⟨rfl, hr4⟩
              refine G.value rfl rfl rfl (Sure.assign rfl) ?_
              refine G.nil ?_
              -- draws its order
              refine C.draw ([(b3, .cells [intV x0, intV x1, intV x2, intV x3, .string t, v, .slice Option.none 0 0])]) mixed (by kernel_rfl) (by intro p hp; simp_all) ?_
              refine GD.val 0 rfl rfl rfl rfl (by kernel_rfl) rfl (Sure.fieldAddr rfl) ?_
              refine GD.val 1 rfl rfl rfl rfl (by kernel_rfl) rfl (Sure.load rfl rdx rfl) ?_
              refine GD.val 2 rfl rfl rfl rfl (by kernel_rfl) rfl (Sure.move rfl) ?_
              refine GD.val 3 rfl rfl rfl rfl (by kernel_rfl) rfl (Sure.move rfl) ?_
              refine GD.one 4 (by kernel_rfl) rfl rfl (by kernel_rfl) ?_
              refine Next.call 4 rfl rfl rfl (by kernel_rfl) (by kernel_rfl) rfl rfl rfl rfl (rint_spec M4 rb p cap bs _ H4 (hs.mono (hle.trans (le2.trans (le3.trans (hle3.trans le4))))) hb hr4) (Split.one PickL.here) ?_
              rintro _ M5 H5 le5 ⟨rfl, hr5⟩
              refine ⟨(by intro p hp; simp_all), ?_⟩
              refine GD.val 5 rfl rfl rfl rfl (by kernel_rfl) rfl (Sure.build rfl rfl) ?_
              refine GD.one 6 (by kernel_rfl) rfl rfl (by kernel_rfl) ?_
              refine Next.dyn 6 rfl rfl rfl (by kernel_rfl) (by kernel_rfl) rfl ?_
              refine Dyn.buildSlice rfl rfl rfl (by simp [vcl]) (by decide) ?_
              intro b6
              refine ⟨MLe.refl _, (by intro p hp; simp_all), ?_⟩
              refine GD.one 7 (by kernel_rfl) rfl rfl (by kernel_rfl) ?_
              refine Next.dyn 7 rfl rfl rfl (by kernel_rfl) (by kernel_rfl) rfl ?_
              refine Dyn.append (fun k h => by cases h) rfl rfl rfl hown (.there (.over (.there (.there .here)))) (m := 1) (news := entL ⟨(rText bs (some a)).1, (rInt bs (rText bs (some a)).2).1⟩) ⟨rfl, fun _ => ⟨b6, 0, _, rfl, Rd.h0, rfl⟩⟩ rfl (by omega) (by omega) ?_
              intro v2 Hs2 hown2
              refine ⟨MLe.refl _, (by intro p hp; simp_all), ?_⟩
              refine GD.val 8 rfl rfl rfl rfl (by kernel_rfl) rfl (Sure.fieldAddr rfl) ?_
              refine GD.one 9 (by kernel_rfl) rfl rfl (by kernel_rfl) ?_
              refine Next.dyn0W 9 rfl rfl (by kernel_rfl) (by kernel_rfl) rfl (by kernel_rfl) ?_
              refine Dyn.store rfl rfl (Pick.over (.there (.over .here))) (Own.one hown2) rfl ?_
              refine ⟨MLe.refl _, [], Incl.nil _, ?_⟩
              refine GD.done (by kernel_rfl) (by kernel_rfl) ?_
              refine Fin.blk ?_
              refine Fin.th ?_
              refine C.region ?_
              refine G.value rfl rfl rfl (Sure.move rfl) ?_
              refine G.value rfl rfl rfl (Sure.sub rfl rfl (inKu64 (by omega))) ?_
              refine G.value rfl rfl rfl (Sure.assign rfl) ?_
              refine G.nil ?_
              refine Fin.th ?_
              refine ⟨k, _, _, by omega, ⟨done ++ [⟨(rText bs (some a)).1, (rInt bs (rText bs (some a)).2).1⟩], _, v2, Hs2, H5, hle3.trans (le4.trans le5), by rw [hd1]; simp [rEnts], by rw [hd2]; rfl, by simp; omega, hr5, ?_, rfl, rfl⟩, ⟨rfl, rfl, rfl, ?_, trivial⟩, _, Split.cons .here (Split.cons (.over (.there (.over .here))) (Split.consL .here (Split.one (.there .here))))⟩
              · have hfl : ((done ++ [(⟨(rText bs (some a)).1, (rInt bs (rText bs (some a)).2).1⟩ : Entry)]).map entL).flatten = (done.map entL).flatten ++ entL ⟨(rText bs (some a)).1, (rInt bs (rText bs (some a)).2).1⟩ := by simp
                rw [hfl, List.length_append]
                exact hown2
              · show some (Value.int .u64 (((k + 1 : Nat) : Int) - 1)) = some (Value.int .u64 (k : Int))
                congr 2
                omega
      · rintro E M' H ⟨s, v, Hs, Hr, hle3, hst, hnl, hr, hown, hsub, R, hspl⟩
        refine C.weak hsub (C.sub hspl ?_)
        clear hspl hsub
        generalize hes : (rEnts bs n st3).1 = es at hnl hown
        refine C.donateOwn hown (.there (.there .here)) ?_
        rintro M4 pe ce le4 rfl hse
        have hs4 := hs.mono (hle.trans (le2.trans (le3.trans (hle3.trans le4))))
        refine C.seq ?_
        refine C.region_seq ?_
        refine G.value rfl rfl rfl (Sure.move rfl) ?_
        refine G.call rfl rfl rfl rfl rfl rfl (rget_spec M4 rb p cap bs s 4 Hr hs4 hb (by omega) hr) (Split.one (.there (.there .all))) ?_
        rintro _ M5 H5 le5 ⟨rfl, hr5⟩
        have hmlt := rNum_lt bs s 4
        generalize hm : rNum bs s 4 = rm at hr5 hmlt
        obtain ⟨m, st5⟩ := rm
        have hm4 : m < 4294967296 := hmlt
        refine G.value rfl rfl rfl (Sure.assign rfl) ?_
        refine G.nil ?_
        refine C.cutTop (fun E M' H => ∃ (s : Option Nat) (v : Value) (Hs Hr : Heap), MLe M5 M' ∧ (rRuns bs m st5).2 = s ∧ RdB rb p cap bs s Hr ∧ Own 3 v (rRuns bs m st5).1.length ((rRuns bs m st5).1.map runL).flatten Hs ∧ esub [(0, ptr rb), (2, ptr b2), (3, ptr b3)] E ∧ ∃ R, Split ((b3, .cells [intV x0, intV x1, intV x2, intV x3, .string t, .slice pe es.length ce, v]) :: (b2, .cells (inoDL inoD0)) :: (Hs ++ Hr)) H R) ?_ ?_
        · refine C.block ?_
          refine C.loop (fun k E M' H => ∃ (done : List Run) (s : Option Nat) (v : Value) (Hs Hr : Heap), MLe M5 M' ∧ (rRuns bs m st5).1 = done ++ (rRuns bs k s).1 ∧ (rRuns bs m st5).2 = (rRuns bs k s).2 ∧ done.length + k = m ∧ RdB rb p cap bs s Hr ∧ Own 3 v done.length (done.map runL).flatten Hs ∧ E = [(0, ptr rb), (2, ptr b2), (3, ptr b3), (8, .int .u64 k)] ∧ H = (b3, .cells [intV x0, intV x1, intV x2, intV x3, .string t, .slice pe es.length ce, v]) :: (b2, .cells (inoDL inoD0)) :: (Hs ++ Hr)) (m) ?_ ?_
          · exact ⟨_, _, ⟨[], st5, _, [], H5, MLe.refl _, rfl, rfl, by simp, hr5, Own.nil, rfl, rfl⟩, ⟨rfl, rfl, rfl, rfl, trivial⟩, _, Split.cons (.over .here) (Split.cons (.over .here) (Split.one .here))⟩
          · clear hr5 hr
            rintro k E M' H ⟨done, s, v, Hs, Hr, hle5, hd1, hd2, hdn, hr, hown, rfl, rfl⟩
            rcases k with _ | k
            · refine C.seq ?_
              refine C.region_seq ?_
              refine G.value rfl rfl rfl (Sure.move rfl) ?_
              refine G.value rfl rfl rfl ((Sure.gtr rfl rfl).to_f (by simp)) ?_
              refine G.value rfl rfl rfl (Sure.move rfl) ?_
              refine G.skip rfl rfl rfl ?_
              refine G.skip rfl rfl rfl ?_
              refine G.skip rfl rfl rfl ?_
              refine G.skip rfl rfl rfl ?_
              refine G.skip rfl rfl rfl ?_
              refine G.value rfl rfl rfl (Sure.pick_false rfl rfl) ?_
              refine G.nil ?_
              refine C.cond_false rfl ?_
              refine C.exit ?_
              refine Fin.th_exit ?_
              refine Fin.th_exit ?_
              refine Fin.blk_eq ?_
              refine Fin.th ?_
              have hd1' : (rRuns bs m st5).1 = done := by rw [hd1]; simp [rRuns]
              rw [hd1']
              exact ⟨s, v, Hs, Hr, hle5, by rw [hd2]; rfl, hr, hown, ⟨rfl, rfl, rfl, trivial⟩, [], Split.cons .here (Split.cons .here (Split.one .all))⟩
            · skip
              refine C.seq ?_
              refine C.region_seq ?_
              refine G.value rfl rfl rfl (Sure.move rfl) ?_
              refine G.value rfl rfl rfl ((Sure.gtr rfl rfl).to_t (by omega)) ?_
              cases s with
              | none =>
                have hr' := hr
                obtain ⟨a, e, he, rfl⟩ := hr
                refine G.value rfl rfl rfl (Sure.move rfl) ?_
                refine G.value rfl rfl rfl (Sure.move rfl) ?_
                refine G.value rfl rfl rfl (Sure.nilCheck rfl) ?_
                refine G.value rfl rfl rfl (Sure.fieldAddr rfl) ?_
                refine G.value rfl rfl rfl (Sure.load rfl (Rd.tl (Rd.tl (Rd.over Rd.h0))) rfl) ?_
                refine G.value rfl rfl rfl ((Sure.eql rfl rfl).to_f he) ?_
                refine G.value rfl rfl rfl (Sure.pick_true rfl rfl) ?_
                refine G.nil ?_
                refine C.cond_false rfl ?_
                refine C.exit ?_
                refine Fin.th_exit ?_
                refine Fin.th_exit ?_
                refine Fin.blk_eq ?_
                refine Fin.th ?_
                have hd1' : (rRuns bs m st5).1 = done := by rw [hd1]; simp [rRuns]
                rw [hd1']
                exact ⟨Option.none, v, Hs, _, hle5, by rw [hd2]; rfl, hr', hown, ⟨rfl, rfl, rfl, trivial⟩, [], Split.cons .here (Split.cons .here (Split.one .all))⟩
              | some a =>
                have hr' := hr
                obtain ⟨ha, rfl⟩ := hr
                refine G.value rfl rfl rfl (Sure.move rfl) ?_
                refine G.value rfl rfl rfl (Sure.move rfl) ?_
                refine G.value rfl rfl rfl (Sure.nilCheck rfl) ?_
                refine G.value rfl rfl rfl (Sure.fieldAddr rfl) ?_
                refine G.value rfl rfl rfl (Sure.load rfl (Rd.tl (Rd.tl (Rd.over Rd.h0))) rfl) ?_
                refine G.value rfl rfl rfl ((Sure.eql rfl rfl).to_t rfl) ?_
                refine G.value rfl rfl rfl (Sure.pick_true rfl rfl) ?_
                refine G.nil ?_
                refine C.cond_true rfl ?_
                refine C.skip ?_
                refine Fin.th ?_
                refine C.seq ?_
                refine C.block ?_
                refine C.region_seq ?_
                refine G.dyn rfl rfl rfl ?_
                refine Dyn.allocAgg ?_
                intro b9
                refine G.nil ?_
                refine C.seq ?_
                refine C.region_seq ?_
                refine G.value rfl rfl rfl (Sure.move rfl) ?_
                refine G.nil ?_
                refine C.block ?_
                have hs5 := hs4.mono (le5.trans hle5)
                refine C.loop (fun k2 E M2 H => ∃ (i : Nat) (Hr : Heap), MLe M' M2 ∧ i + k2 = 3 ∧ RdB rb p cap bs (rInts bs i (some a)).2 Hr ∧ E = [(0, ptr rb), (2, ptr b2), (3, ptr b3), (8, .int .u64 ((k + 1 : Nat) : Int)), (9, ptr b9), (64, intV i)] ∧ H = (b9, .cells ((rInts bs i (some a)).1.map intV ++ List.replicate k2 (intV 0))) :: (b3, .cells [intV x0, intV x1, intV x2, intV x3, .string t, .slice pe es.length ce, v]) :: (b2, .cells (inoDL inoD0)) :: (Hs ++ Hr)) (3) ?_ ?_
                · exact ⟨_, _, ⟨0, _, MLe.refl _, rfl, hr', rfl, rfl⟩, ⟨rfl, rfl, rfl, rfl, rfl, rfl, trivial⟩, _, Split.cons .here (Split.cons .here (Split.cons .here (Split.one .all)))⟩
                · clear hr'
                  rintro k2 E M2 H ⟨i, Hr, hle6, hik2, hr, rfl, rfl⟩
                  refine C.region_seq ?_
                  refine G.value rfl rfl rfl (Sure.lss rfl rfl) ?_
                  refine G.nil ?_
                  refine C.seq ?_
                  refine C.cond_dec rfl (fun hlt => ?_) (fun hlt => ?_)
                  · obtain ⟨k2, rfl⟩ : ∃ q, k2 = q + 1 := ⟨k2 - 1, by omega⟩
                    rw [List.replicate_succ]
                    refine C.skip ?_
                    refine Fin.th ?_
                    refine C.seq ?_
                    refine C.block ?_
                    refine C.region_seq ?_
                    refine G.value rfl rfl rfl (Sure.move rfl) ?_
                    refine G.value rfl rfl rfl (Sure.assign rfl) ?_
                    refine G.nil ?_
                    refine C.region ?_
                    refine G.value rfl rfl rfl (Sure.move rfl) ?_
                    refine G.value rfl rfl rfl (Sure.move rfl) ?_
                    refine G.call rfl rfl rfl rfl rfl rfl (rint_spec M2 rb p cap bs (rInts bs i (some a)).2 Hr (hs5.mono hle6) hb hr) (Split.one (.there (.there (.there (.over .all))))) ?_
                    rintro _ M6 H6 le6 ⟨rfl, hr6⟩
                    refine G.value rfl rfl rfl (Sure.indexAddrArr rfl rfl (by omega)) ?_
                    refine G.dyn0 rfl rfl ?_
                    refine Dyn.store rfl rfl (Pick.over .here) rfl (mid_set (by simp)) ?_
                    refine G.nil ?_
                    refine Fin.blk ?_
                    refine Fin.th ?_
                    refine C.region ?_
                    refine G.value rfl rfl rfl (Sure.add rfl rfl (inK64 (by omega))) ?_
                    refine G.value rfl rfl rfl (Sure.move rfl) ?_
                    refine G.nil ?_
                    refine Fin.th ?_
                    refine ⟨k2, _, _, by omega, ⟨i + 1, H6, hle6.trans le6, by omega, hr6, rfl, rfl⟩, ⟨rfl, rfl, rfl, rfl, rfl, rfl, trivial⟩, [], ?_⟩
                    rw [show (rInts bs (i + 1) (some a)).1.map intV ++ List.replicate k2 (intV 0) = (rInts bs i (some a)).1.map intV ++ intV (rInt bs (rInts bs i (some a)).2).1 :: List.replicate k2 (intV 0) from by simp [rInts]]
                    exact Split.cons .here (Split.cons (.over .here) (Split.cons (.over .here) (Split.consL (.over .here) (Split.one .here))))
                  · have hi : i = 3 := by omega
                    have hk : k2 = 0 := by omega
                    subst hi
                    subst hk
                    obtain ⟨y0, y1, y2, hy⟩ := three (rInts_len bs 3 (some a))
                    rw [hy]
                    refine C.exit ?_
                    refine Fin.th_exit ?_
                    refine Fin.th_exit ?_
                    refine Fin.blk_eq ?_
                    refine Fin.th ?_
                    refine C.region ?_
                    refine G.value rfl rfl rfl (Sure.fieldAddr rfl) ?_
                    refine G.value rfl rfl rfl (Sure.load rfl rdx rfl) ?_
                    refine G.value rfl rfl rfl (Sure.indexAddrArr rfl rfl (by decide)) ?_
                    refine G.value rfl rfl rfl (Sure.load rfl rdx rfl) ?_
                    refine G.value rfl rfl rfl (Sure.indexAddrArr rfl rfl (by decide)) ?_
                    refine G.value rfl rfl rfl (Sure.load rfl rdx rfl) ?_
                    refine G.value rfl rfl rfl (Sure.indexAddrArr rfl rfl (by decide)) ?_
                    refine G.value rfl rfl rfl (Sure.load rfl rdx rfl) ?_
                    refine G.value rfl rfl rfl (Sure.build rfl rfl) ?_
                    refine G.dyn rfl rfl rfl ?_
                    refine Dyn.buildSlice rfl rfl rfl (by simp [vcl]) (by decide) ?_
                    intro b6
                    refine G.dyn rfl rfl rfl ?_
                    refine Dyn.append (fun k h => by cases h) rfl rfl rfl hown (.there (.there (.there (.there .here)))) (m := 1) (news := runL ⟨y0, y1, y2⟩) ⟨rfl, fun _ => ⟨b6, 0, _, rfl, Rd.h0, rfl⟩⟩ rfl (by omega) (by omega) ?_
                    intro v2 Hs2 hown2
                    refine G.value rfl rfl rfl (Sure.fieldAddr rfl) ?_
                    refine G.dyn0 rfl rfl ?_
                    refine Dyn.store rfl rfl (Pick.over (.there (.there .here))) (Own.one hown2) rfl ?_
                    refine G.nil ?_
                    refine Fin.blk ?_
                    refine Fin.th ?_
                    refine C.region ?_
                    refine G.value rfl rfl rfl (Sure.move rfl) ?_
                    refine G.value rfl rfl rfl (Sure.sub rfl rfl (inKu64 (by omega))) ?_
                    refine G.value rfl rfl rfl (Sure.assign rfl) ?_
                    refine G.nil ?_
                    refine Fin.th ?_
                    have hru : runOf (rInts bs 3 (some a)).1 = ⟨y0, y1, y2⟩ := by rw [hy]; rfl
                    refine ⟨k, _, _, by omega, ⟨done ++ [⟨y0, y1, y2⟩], _, v2, Hs2, Hr, hle5.trans hle6, by rw [hd1]; simp [rRuns, hru], by rw [hd2]; rfl, by simp; omega, hr, ?_, rfl, rfl⟩, ⟨rfl, rfl, rfl, ?_, trivial⟩, _, Split.cons .here (Split.cons (.over (.there (.there .here))) (Split.consL .here (Split.one (.there (.there .all)))))⟩
                    · have hfl : ((done ++ [(⟨y0, y1, y2⟩ : Run)]).map runL).flatten = (done.map runL).flatten ++ runL ⟨y0, y1, y2⟩ := by simp
                      rw [hfl, List.length_append]
                      exact hown2
                    · show some (Value.int .u64 (((k + 1 : Nat) : Int) - 1)) = some (Value.int .u64 (k : Int))
                      congr 2
                      omega
        · rintro E M' H ⟨s', v, Hs, Hr, hle5, hst5, hr, hown, hsub, R, hspl⟩
          refine C.weak hsub (C.sub hspl ?_)
          clear hspl hsub
          generalize hrs : (rRuns bs m st5).1 = rs at hown
          refine C.donateOwn hown (.there (.there .here)) ?_
          rintro M6 pr cr le6 rfl hsr
          refine C.region_seq ?_
          refine G.value rfl rfl rfl (Sure.loadAgg rfl rdx rfl) ?_
          refine G.dyn0 rfl rfl ?_
          refine Dyn.storeAgg rfl rfl pkx rfl rfl rfl ?_
          refine G.nil ?_
          refine C.ret ?_
          have e : rIno bs st = (⟨x0, x1, x2, x3, t, es, rs⟩, s') := by
            simp only [rIno, hh, ht, hn, hst, hm, hes, hrs, hst5]
            rfl
          rw [e]
          refine Fin.fn (Res.cellAgg rfl rfl rdx rfl) (Split.one (.there (.there .all))) ⟨⟨⟨⟨x0, x1, x2, x3, t, es, rs⟩, pe, ce, pr, cr⟩, rfl, rfl, ?_, ?_⟩, hr⟩
          · exact ⟨by intro e he; obtain ⟨x, _, rfl⟩ := List.mem_map.1 he; rfl, by rw [List.length_map]; exact hse.mono (le5.trans (hle5.trans le6))⟩
          · exact ⟨by intro e he; obtain ⟨x, _, rfl⟩ := List.mem_map.1 he; rfl, by rw [List.length_map]; exact hsr⟩
end Go.Proofs.YtaeeahcokiebdaaGreat

/-
  The walks of a reader's deed, and of all deeds that bytes are.
  Conditions: bytes are a million at most.
-/
namespace Go.Proofs.YtaeeahcokiebdaaGreat
set_option maxRecDepth 20000

def rDeed (bs : List UInt8) (st : Option Nat) : Deed × Option Nat :=
  let k := rNum bs st 1
  if (k.1 : Int) = 1 ∨ (k.1 : Int) = 3 ∨ (k.1 : Int) = 4 then (⟨k.1, (rInt bs k.2).1, ino0⟩, (rInt bs k.2).2)
  else if (k.1 : Int) = 2 then (⟨k.1, 0, (rIno bs k.2).1⟩, (rIno bs k.2).2)
  else (⟨k.1, 0, ino0⟩, Option.none)
theorem RdB.some_le {rb p cap bs a H} (h : RdB rb p cap bs (some a) H) : a ≤ bs.length := h.1
theorem rdeed_spec (M : Mem) (rb : Nat) (p : Option Addr) (cap : Nat) (bs : List UInt8) (st : Option Nat) (H0 : Heap) (hs : SC M p cap bs) (hb : bs.length ≤ 1000000000) (h0 : RdB rb p cap bs st H0) :
    Spec Tryz.prog 139 [ptr rb] M H0 (fun v M' H => (∃ d : DeedD, d.v = (rDeed bs st).1 ∧ v = .agg (deedDL d).toArray ∧ DOk M' d.d) ∧ RdB rb p cap bs (rDeed bs st).2 H) := by
  have hk := rNum_lt bs st 1
  have hk' : (rNum bs st 1).1 < 256 := hk
  have hrd : rDeed bs st = if ((rNum bs st 1).1 : Int) = 1 ∨ ((rNum bs st 1).1 : Int) = 3 ∨ ((rNum bs st 1).1 : Int) = 4 then (⟨(rNum bs st 1).1, (rInt bs (rNum bs st 1).2).1, ino0⟩, (rInt bs (rNum bs st 1).2).2)
      else if ((rNum bs st 1).1 : Int) = 2 then (⟨(rNum bs st 1).1, 0, (rIno bs (rNum bs st 1).2).1⟩, (rIno bs (rNum bs st 1).2).2)
      else (⟨(rNum bs st 1).1, 0, ino0⟩, Option.none) := rfl
  refine Spec.of_code 26 Tryz.func139 rfl callable139 rfl rfl fun w => ?_
  refine C.region_seq ?_
  refine G.dyn rfl rfl rfl ?_
  refine Dyn.allocAgg ?_
  intro b2
  refine G.nil ?_
  refine C.region_seq ?_
  refine G.value rfl rfl rfl (Sure.move rfl) ?_
  refine G.call rfl rfl rfl rfl rfl rfl (rget_spec M rb p cap bs st 1 H0 hs hb (by omega) h0) (Split.one (.there .all)) ?_
  rintro _ M1 H1 le1 ⟨rfl, hr⟩
  generalize rNum bs st 1 = rk at hk' hrd hr
  obtain ⟨k, st1⟩ := rk
  dsimp only at hk' hrd hr ⊢
  refine G.value rfl rfl rfl (Sure.conv rfl (inK64 (by omega))) ?_
  refine G.value rfl rfl rfl (Sure.build rfl rfl) ?_
  refine G.dyn rfl rfl rfl ?_
  refine Dyn.allocAgg ?_
  intro b3
  refine G.dyn0 rfl rfl ?_
  refine Dyn.storeAgg rfl rfl pkx rfl rfl rfl ?_
  refine G.nil ?_
  refine C.seq ?_
  refine C.region_seq ?_
  refine G.value rfl rfl rfl (Sure.fieldAddr rfl) ?_
  refine G.value rfl rfl rfl (Sure.load rfl rdx rfl) ?_
  refine G.nil ?_
  refine C.block ?_
  refine C.seq ?_
  refine C.region_seq ?_
  rcases Decidable.em ((k : Int) = 1) with h1 | h1
  · refine G.value rfl rfl rfl ((Sure.eql rfl rfl).to_t h1) ?_
    refine G.value rfl rfl rfl (Sure.assign rfl) ?_
    refine G.nil ?_
    refine C.cond_true rfl ?_
    refine C.skip ?_
    refine Fin.th ?_
    refine C.cond_true rfl ?_
    refine C.region ?_
    refine G.value rfl rfl rfl (Sure.move rfl) ?_
    refine G.call rfl rfl rfl rfl rfl rfl (rint_spec M1 rb p cap bs st1 H1 (hs.mono le1) hb hr) (Split.one (.there .here)) ?_
    rintro _ M2 H2 le2 ⟨rfl, hr2⟩
    refine G.value rfl rfl rfl (Sure.fieldAddr rfl) ?_
    refine G.dyn0 rfl rfl ?_
    refine Dyn.store rfl rfl (Pick.over .here) rfl rfl ?_
    refine G.nil ?_
    refine Fin.blk ?_
    refine Fin.th ?_
    refine C.region_seq ?_
    refine G.value rfl rfl rfl (Sure.loadAgg rfl rdx rfl) ?_
    refine G.dyn0 rfl rfl ?_
    refine Dyn.storeAgg rfl rfl pkx rfl rfl rfl ?_
    refine G.nil ?_
    refine C.ret ?_
    rw [hrd, if_pos (.inl h1)]
    exact Fin.fn (Res.cellAgg rfl rfl rdx rfl) (Split.one (.there (.there .here))) ⟨⟨⟨k, _, inoD0⟩, rfl, rfl, dOk0 _⟩, hr2⟩
  · skip
    refine G.value rfl rfl rfl ((Sure.eql rfl rfl).to_f h1) ?_
    rcases Decidable.em ((k : Int) = 3) with h3 | h3
    · refine G.value rfl rfl rfl (Sure.assign rfl) ?_
      refine G.nil ?_
      refine C.cond_false rfl ?_
      refine C.region_seq ?_
      refine G.value rfl rfl rfl ((Sure.eql rfl rfl).to_t h3) ?_
      refine G.value rfl rfl rfl (Sure.assign rfl) ?_
      refine G.nil ?_
      refine C.cond_true rfl ?_
      refine C.skip ?_
      refine Fin.th ?_
      refine C.cond_true rfl ?_
      refine C.region ?_
      refine G.value rfl rfl rfl (Sure.move rfl) ?_
      refine G.call rfl rfl rfl rfl rfl rfl (rint_spec M1 rb p cap bs st1 H1 (hs.mono le1) hb hr) (Split.one (.there .here)) ?_
      rintro _ M2 H2 le2 ⟨rfl, hr2⟩
      refine G.value rfl rfl rfl (Sure.fieldAddr rfl) ?_
      refine G.dyn0 rfl rfl ?_
      refine Dyn.store rfl rfl (Pick.over .here) rfl rfl ?_
      refine G.nil ?_
      refine Fin.blk ?_
      refine Fin.th ?_
      refine C.region_seq ?_
      refine G.value rfl rfl rfl (Sure.loadAgg rfl rdx rfl) ?_
      refine G.dyn0 rfl rfl ?_
      refine Dyn.storeAgg rfl rfl pkx rfl rfl rfl ?_
      refine G.nil ?_
      refine C.ret ?_
      rw [hrd, if_pos (.inr (.inl h3))]
      exact Fin.fn (Res.cellAgg rfl rfl rdx rfl) (Split.one (.there (.there .here))) ⟨⟨⟨k, _, inoD0⟩, rfl, rfl, dOk0 _⟩, hr2⟩
    · skip
      refine G.value rfl rfl rfl (Sure.assign rfl) ?_
      refine G.nil ?_
      refine C.cond_false rfl ?_
      refine C.region_seq ?_
      refine G.value rfl rfl rfl ((Sure.eql rfl rfl).to_f h3) ?_
      rcases Decidable.em ((k : Int) = 4) with h4 | h4
      · refine G.value rfl rfl rfl (Sure.assign rfl) ?_
        refine G.nil ?_
        refine C.cond_false rfl ?_
        refine C.region ?_
        refine G.value rfl rfl rfl ((Sure.eql rfl rfl).to_t h4) ?_
        refine G.value rfl rfl rfl (Sure.assign rfl) ?_
        refine G.nil ?_
        refine Fin.th ?_
        refine C.cond_true rfl ?_
        refine C.region ?_
        refine G.value rfl rfl rfl (Sure.move rfl) ?_
        refine G.call rfl rfl rfl rfl rfl rfl (rint_spec M1 rb p cap bs st1 H1 (hs.mono le1) hb hr) (Split.one (.there .here)) ?_
        rintro _ M2 H2 le2 ⟨rfl, hr2⟩
        refine G.value rfl rfl rfl (Sure.fieldAddr rfl) ?_
        refine G.dyn0 rfl rfl ?_
        refine Dyn.store rfl rfl (Pick.over .here) rfl rfl ?_
        refine G.nil ?_
        refine Fin.blk ?_
        refine Fin.th ?_
        refine C.region_seq ?_
        refine G.value rfl rfl rfl (Sure.loadAgg rfl rdx rfl) ?_
        refine G.dyn0 rfl rfl ?_
        refine Dyn.storeAgg rfl rfl pkx rfl rfl rfl ?_
        refine G.nil ?_
        refine C.ret ?_
        rw [hrd, if_pos (.inr (.inr h4))]
        exact Fin.fn (Res.cellAgg rfl rfl rdx rfl) (Split.one (.there (.there .here))) ⟨⟨⟨k, _, inoD0⟩, rfl, rfl, dOk0 _⟩, hr2⟩
      · skip
        refine G.value rfl rfl rfl (Sure.assign rfl) ?_
        refine G.nil ?_
        refine C.cond_false rfl ?_
        refine C.region ?_
        refine G.value rfl rfl rfl ((Sure.eql rfl rfl).to_f h4) ?_
        rcases Decidable.em ((k : Int) = 2) with h2 | h2
        · refine G.value rfl rfl rfl (Sure.assign rfl) ?_
          refine G.nil ?_
          refine Fin.th ?_
          refine C.cond_false rfl ?_
          refine C.region_seq ?_
          refine G.value rfl rfl rfl ((Sure.eql rfl rfl).to_t h2) ?_
          refine G.value rfl rfl rfl (Sure.assign rfl) ?_
          refine G.nil ?_
          refine C.cond_true rfl ?_
          refine C.region ?_
          refine G.value rfl rfl rfl (Sure.move rfl) ?_
          refine G.call rfl rfl rfl rfl rfl rfl (rinode_spec M1 rb p cap bs st1 H1 (hs.mono le1) hb hr) (Split.one (.there .here)) ?_
          rintro _ M2 H2 le2 ⟨⟨d, hd, rfl, hdo⟩, hr2⟩
          refine G.value rfl rfl rfl (Sure.fieldAddr rfl) ?_
          refine G.dyn0 rfl rfl ?_
          refine Dyn.storeAgg rfl rfl (Pick.over .here) rfl rfl rfl ?_
          refine G.nil ?_
          refine Fin.blk ?_
          refine Fin.th ?_
          refine C.region_seq ?_
          refine G.value rfl rfl rfl (Sure.loadAgg rfl rdx rfl) ?_
          refine G.dyn0 rfl rfl ?_
          refine Dyn.storeAgg rfl rfl pkx rfl rfl rfl ?_
          refine G.nil ?_
          refine C.ret ?_
          rw [hrd, if_neg (by omega), if_pos h2]
          exact Fin.fn (Res.cellAgg rfl rfl rdx rfl) (Split.one (.there (.there .here))) ⟨⟨⟨k, 0, d⟩, by unfold DeedD.v; rw [hd], rfl, hdo⟩, hr2⟩
        · skip
          refine G.value rfl rfl rfl (Sure.assign rfl) ?_
          refine G.nil ?_
          refine Fin.th ?_
          refine C.cond_false rfl ?_
          refine C.region_seq ?_
          refine G.value rfl rfl rfl ((Sure.eql rfl rfl).to_f h2) ?_
          cases st1 with
          | none =>
            obtain ⟨a, e, he, rfl⟩ := hr
            refine G.value rfl rfl rfl (Sure.assign rfl) ?_
            refine G.nil ?_
            refine C.cond_false rfl ?_
            refine C.region ?_
            refine G.value rfl rfl rfl (Sure.move rfl) ?_
            refine G.value rfl rfl rfl (Sure.nilCheck rfl) ?_
            refine G.value rfl rfl rfl (Sure.fieldAddr rfl) ?_
            refine G.dyn0 rfl rfl ?_
            refine Dyn.store rfl rfl pkx rfl rfl ?_
            refine G.nil ?_
            refine Fin.blk ?_
            refine Fin.th ?_
            refine C.region_seq ?_
            refine G.value rfl rfl rfl (Sure.loadAgg rfl rdx rfl) ?_
            refine G.dyn0 rfl rfl ?_
            refine Dyn.storeAgg rfl rfl pkx rfl rfl rfl ?_
            refine G.nil ?_
            refine C.ret ?_
            rw [hrd, if_neg (by omega), if_neg h2]
            exact Fin.fn (Res.cellAgg rfl rfl rdx rfl) (Split.one (.there .here)) ⟨⟨⟨k, 0, inoD0⟩, rfl, rfl, dOk0 _⟩, a, 5, by decide, rfl⟩
          | some a =>
            obtain ⟨ha, rfl⟩ := hr
            refine G.value rfl rfl rfl (Sure.assign rfl) ?_
            refine G.nil ?_
            refine C.cond_false rfl ?_
            refine C.region ?_
            refine G.value rfl rfl rfl (Sure.move rfl) ?_
            refine G.value rfl rfl rfl (Sure.nilCheck rfl) ?_
            refine G.value rfl rfl rfl (Sure.fieldAddr rfl) ?_
            refine G.dyn0 rfl rfl ?_
            refine Dyn.store rfl rfl pkx rfl rfl ?_
            refine G.nil ?_
            refine Fin.blk ?_
            refine Fin.th ?_
            refine C.region_seq ?_
            refine G.value rfl rfl rfl (Sure.loadAgg rfl rdx rfl) ?_
            refine G.dyn0 rfl rfl ?_
            refine Dyn.storeAgg rfl rfl pkx rfl rfl rfl ?_
            refine G.nil ?_
            refine C.ret ?_
            rw [hrd, if_neg (by omega), if_neg h2]
            exact Fin.fn (Res.cellAgg rfl rfl rdx rfl) (Split.one (.there .here)) ⟨⟨⟨k, 0, inoD0⟩, rfl, rfl, dOk0 _⟩, a, 5, by decide, rfl⟩
/-! ### Where a reader stands -/
theorem rNum_st {bs : List UInt8} {st : Option Nat} {n b : Nat} (h : (rNum bs st n).2 = some b) : ∃ a, st = some a ∧ b = a + n ∧ b ≤ bs.length := by
  unfold rNum at h
  split at h
  · cases h
  · split at h
    · injection h with h; exact ⟨_, rfl, h.symm, by omega⟩
    · cases h
theorem rInt_st {bs : List UInt8} {st : Option Nat} {b : Nat} (h : (rInt bs st).2 = some b) : ∃ a, st = some a ∧ b = a + 8 ∧ b ≤ bs.length := rNum_st h
theorem txtAt_len {bs : List UInt8} {a : Nat} {t : List UInt8} (h : txtAt bs a = some t) : a + 4 + t.length ≤ bs.length := by
  unfold txtAt at h
  split at h
  · injection h with h; rw [← h]; simp; omega
  · cases h
theorem rText_st {bs : List UInt8} {st : Option Nat} {b : Nat} (h : (rText bs st).2 = some b) : ∃ a, st = some a ∧ a + 4 ≤ b ∧ b ≤ bs.length := by
  unfold rText at h
  split at h
  · cases h
  · split at h
    · rename_i t ht
      have := txtAt_len ht
      injection h with h; exact ⟨_, rfl, by omega, by omega⟩
    · cases h
theorem rInts_st {bs : List UInt8} : ∀ {i : Nat} {st : Option Nat} {b : Nat}, (rInts bs i st).2 = some b → ∃ a, st = some a ∧ b = a + 8 * i ∧ (b ≤ bs.length ∨ i = 0)
  | 0, st, b, h => ⟨b, h, by omega, .inr rfl⟩
  | i + 1, st, b, h => by
    obtain ⟨a1, h1, h2, h3⟩ := rInt_st h
    obtain ⟨a, h4, h5, _⟩ := rInts_st h1
    exact ⟨a, h4, by omega, .inl h3⟩
theorem rEnts_st {bs : List UInt8} : ∀ {n a : Nat}, a ≤ bs.length → (rEnts bs n (some a)).1.length * 12 ≤ bs.length - a + 12 ∧ ∀ b, (rEnts bs n (some a)).2 = some b → a + 12 * (rEnts bs n (some a)).1.length ≤ b ∧ b ≤ bs.length
  | 0, a, ha => ⟨by simp [rEnts], fun b h => by simp [rEnts] at h ⊢; omega⟩
  | n + 1, a, ha => by
    simp only [rEnts]
    cases h1 : (rInt bs (rText bs (some a)).2).2 with
    | none => rw [rEnts_none]; exact ⟨by simp, fun b h => by cases h⟩
    | some c =>
      obtain ⟨a1, h2, h3, h4⟩ := rInt_st h1
      obtain ⟨a0, h5, h6, h7⟩ := rText_st h2
      injection h5 with h5
      obtain ⟨i1, i2⟩ := rEnts_st (bs := bs) (n := n) (a := c) h4
      refine ⟨by simp; omega, fun b h => ?_⟩
      obtain ⟨j1, j2⟩ := i2 b h
      simp
      omega
theorem rRuns_st {bs : List UInt8} : ∀ {n a : Nat}, a ≤ bs.length → (rRuns bs n (some a)).1.length * 24 ≤ bs.length - a + 24 ∧ ∀ b, (rRuns bs n (some a)).2 = some b → a + 24 * (rRuns bs n (some a)).1.length ≤ b ∧ b ≤ bs.length
  | 0, a, ha => ⟨by simp [rRuns], fun b h => by simp [rRuns] at h ⊢; omega⟩
  | n + 1, a, ha => by
    simp only [rRuns]
    cases h1 : (rInts bs 3 (some a)).2 with
    | none => rw [rRuns_none]; exact ⟨by simp, fun b h => by cases h⟩
    | some c =>
      obtain ⟨a1, h2, h3, h4⟩ := rInts_st h1
      injection h2 with h2
      obtain ⟨i1, i2⟩ := rRuns_st (bs := bs) (n := n) (a := c) (by omega)
      refine ⟨by simp; omega, fun b h => ?_⟩
      obtain ⟨j1, j2⟩ := i2 b h
      simp
      omega
theorem rIno_st (bs : List UInt8) (st : Option Nat) : (rIno bs st).1.ents.length ≤ bs.length + 1 ∧ (rIno bs st).1.runs.length ≤ bs.length + 1 ∧ ∀ b, (rIno bs st).2 = some b → ∃ a, st = some a ∧ a + 32 ≤ b ∧ b ≤ bs.length := by
  unfold rIno
  dsimp only
  cases h1 : (rText bs (rInts bs 4 st).2).2 with
  | none =>
    have e1 : rNum bs Option.none 4 = (0, Option.none) := rfl
    have e2 : rEnts bs 0 Option.none = ([], Option.none) := rfl
    have e3 : rRuns bs 0 Option.none = ([], Option.none) := rfl
    rw [e1, e2]
    dsimp only
    rw [e1, e3]
    exact ⟨by simp, by simp, fun b h => by cases h⟩
  | some t =>
    obtain ⟨a1, h2, h3, h4⟩ := rText_st h1
    obtain ⟨a0, h5, h6, h7⟩ := rInts_st h2
    cases h8 : (rNum bs (some t) 4).2 with
    | none =>
      have e0 : (rEnts bs (rNum bs (some t) 4).1 Option.none) = ([], Option.none) := rEnts_none _ _
      have e1 : rNum bs Option.none 4 = (0, Option.none) := rfl
      have e3 : rRuns bs 0 Option.none = ([], Option.none) := rfl
      rw [e0]
      dsimp only
      rw [e1, e3]
      exact ⟨by simp, by simp, fun b h => by cases h⟩
    | some c =>
      obtain ⟨c1, h9, h10, h11⟩ := rNum_st h8
      injection h9 with h9
      obtain ⟨i1, i2⟩ := rEnts_st (bs := bs) (n := (rNum bs (some t) 4).1) (a := c) h11
      refine ⟨by omega, ?_⟩
      cases h12 : (rEnts bs (rNum bs (some t) 4).1 (some c)).2 with
      | none =>
        have e1 : rNum bs Option.none 4 = (0, Option.none) := rfl
        have e3 : rRuns bs 0 Option.none = ([], Option.none) := rfl
        rw [e1]
        dsimp only
        rw [e3]
        exact ⟨by simp, fun b h => by cases h⟩
      | some e =>
        obtain ⟨j1, j2⟩ := i2 e h12
        cases h13 : (rNum bs (some e) 4).2 with
        | none => rw [rRuns_none]; exact ⟨by simp, fun b h => by cases h⟩
        | some f =>
          obtain ⟨f1, h14, h15, h16⟩ := rNum_st h13
          injection h14 with h14
          obtain ⟨k1, k2⟩ := rRuns_st (bs := bs) (n := (rNum bs (some e) 4).1) (a := f) h16
          refine ⟨by omega, fun b h => ?_⟩
          obtain ⟨l1, l2⟩ := k2 b h
          exact ⟨a0, h5, by omega, l2⟩
theorem rDeed_st (bs : List UInt8) (a : Nat) : InoOk (rDeed bs (some a)).1.ino ∨ 50000000 < bs.length := by
  by_cases hl : 50000000 < bs.length
  · exact .inr hl
  · left
    have hz : InoOk ino0 := ⟨by simp [ino0], by simp [ino0]⟩
    unfold rDeed
    dsimp only
    split
    · exact hz
    · split
      · obtain ⟨h1, h2, _⟩ := rIno_st bs (rNum bs (some a) 1).2
        exact ⟨by show (rIno bs (rNum bs (some a) 1).2).1.ents.length ≤ 100000000; omega, by show (rIno bs (rNum bs (some a) 1).2).1.runs.length ≤ 100000000; omega⟩
      · exact hz
theorem rDeed_to {bs : List UInt8} {a b : Nat} (h : (rDeed bs (some a)).2 = some b) : a + 9 ≤ b ∧ b ≤ bs.length := by
  unfold rDeed at h
  dsimp only at h
  split at h
  · obtain ⟨a1, h1, h2, h3⟩ := rInt_st h
    obtain ⟨a0, h4, h5, _⟩ := rNum_st h1
    injection h4 with h4
    omega
  · split at h
    · obtain ⟨_, _, h3⟩ := rIno_st bs (rNum bs (some a) 1).2
      obtain ⟨a1, h1, h2, h4⟩ := h3 b h
      obtain ⟨a0, h5, h6, _⟩ := rNum_st h1
      injection h5 with h5
      omega
    · cases h
end Go.Proofs.YtaeeahcokiebdaaGreat

/-
  The walk of all deeds that bytes are.
  Conditions: bytes are a million at most.
-/
namespace Go.Proofs.YtaeeahcokiebdaaGreat
set_option maxRecDepth 20000

def parseF (bs : List UInt8) : Nat → Nat → Option (List Deed)
  | 0, _ => some []
  | f + 1, a => if a < bs.length then match (rDeed bs (some a)).2 with
      | some b => (parseF bs f b).map ((rDeed bs (some a)).1 :: ·)
      | Option.none => Option.none
    else some []
def parseAt (bs : List UInt8) (a : Nat) : Option (List Deed) := parseF bs (bs.length - a) a
/-- The deeds that bytes are; none: they are none. -/
def parse (bs : List UInt8) : Option (List Deed) := parseAt bs 0
theorem parseF_eq (bs : List UInt8) : ∀ (f a : Nat), bs.length - a ≤ f → parseF bs f a = parseAt bs a
  | 0, a, h => by unfold parseAt; rw [show bs.length - a = 0 from by omega]
  | f + 1, a, h => by
    unfold parseAt
    cases hm : bs.length - a with
    | zero => unfold parseF; rw [if_neg (by omega)]
    | succ m =>
      unfold parseF
      rw [if_pos (by omega), if_pos (by omega)]
      cases hd : (rDeed bs (some a)).2 with
      | none => rfl
      | some b =>
        have := rDeed_to hd
        simp only
        rw [parseF_eq bs f b (by omega), parseF_eq bs m b (by omega)]
theorem parseAt_end {bs : List UInt8} {a : Nat} (h : bs.length ≤ a) : parseAt bs a = some [] := by unfold parseAt; rw [show bs.length - a = 0 from by omega]; rfl
theorem parseAt_some {bs : List UInt8} {a b : Nat} (h : a < bs.length) (hd : (rDeed bs (some a)).2 = some b) : parseAt bs a = (parseAt bs b).map ((rDeed bs (some a)).1 :: ·) := by
  conv => lhs; unfold parseAt
  cases hm : bs.length - a with
  | zero => omega
  | succ m =>
    have := rDeed_to hd
    unfold parseF
    rw [if_pos h, hd]
    simp only
    rw [parseF_eq bs m b (by omega)]
theorem parseAt_none {bs : List UInt8} {a : Nat} (h : a < bs.length) (hd : (rDeed bs (some a)).2 = Option.none) : parseAt bs a = Option.none := by
  unfold parseAt
  cases hm : bs.length - a with
  | zero => omega
  | succ m => unfold parseF; rw [if_pos h, hd]
theorem parse_spec (M : Mem) (p : Option Addr) (cap : Nat) (bs : List UInt8) (hs : SC M p cap bs) (hb : bs.length ≤ 1000000) :
    Spec Tryz.prog 104 [.slice p bs.length cap] M [] (fun v M' H => H = [] ∧
      ((∃ (dl : List DeedD) (q : Option Addr) (c : Nat), parse bs = some (dl.map DeedD.v) ∧ v = .tuple #[.slice q dl.length c, intV 0] ∧ RDeeds M' q dl ∧ (∀ d ∈ dl, InoOk d.d.x) ∧ dl.length ≤ bs.length) ∨
        (parse bs = Option.none ∧ ∃ e : Int, e ≠ 0 ∧ v = .tuple #[.slice Option.none 0 0, intV e]))) := by
  refine Spec.of_code 31 Tryz.func104 rfl callable104 rfl rfl fun w => ?_
  refine C.region_seq ?_
  refine G.value rfl rfl rfl (Sure.assign rfl) ?_
  refine G.value rfl rfl rfl (Sure.assign rfl) ?_
  refine G.nil ?_
  refine C.region_seq ?_
  refine G.value rfl rfl rfl (Sure.move rfl) ?_
  refine G.value rfl rfl rfl (Sure.build rfl rfl) ?_
  refine G.dyn rfl rfl rfl ?_
  refine Dyn.boxAgg rfl ?_
  intro b8
  refine G.value rfl rfl rfl (Sure.assign rfl) ?_
  refine G.nil ?_
  refine C.region_seq ?_
  refine G.value rfl rfl rfl (Sure.assign rfl) ?_
  refine G.nil ?_
  refine C.seq ?_
  refine C.block ?_
  refine C.loop (fun k E M' H => ∃ (a : Nat) (dl : List DeedD) (v : Value) (Hs : Heap), MLe M M' ∧ a + k = bs.length ∧ dl.length ≤ a ∧ parse bs = (parseAt bs a).map (dl.map DeedD.v ++ ·) ∧ (∀ d ∈ dl, DOk M' d.d) ∧ (∀ d ∈ dl, InoOk d.d.x) ∧ Own 9 v dl.length (dl.map deedDL).flatten Hs ∧ E = [(0, .slice p bs.length cap), (4, ptr b8), (5, v)] ∧ H = (b8, .cells (rdL p cap bs a 0)) :: Hs) (bs.length) ?_ ?_
  · refine ⟨_, _, ⟨0, [], _, [], MLe.refl _, by omega, by simp, ?_, by simp, by simp, Own.nil, rfl, rfl⟩, ⟨rfl, rfl, rfl, trivial⟩, _, Split.cons .here Split.nil⟩
    unfold parse
    cases parseAt bs 0 <;> rfl
  · rintro k E M' H ⟨a, dl, v, Hs, hle, hak, hdl, hpa, hdo, hdk, hown, rfl, rfl⟩
    refine C.seq ?_
    refine C.region_seq ?_
    refine G.value rfl rfl rfl (Sure.move rfl) ?_
    refine G.value rfl rfl rfl (Sure.nilCheck rfl) ?_
    refine G.value rfl rfl rfl (Sure.fieldAddr rfl) ?_
    refine G.value rfl rfl rfl (Sure.load rfl rdx rfl) ?_
    refine G.value rfl rfl rfl (Sure.move rfl) ?_
    refine G.value rfl rfl rfl (Sure.len_slice rfl) ?_
    refine G.value rfl rfl rfl (Sure.lss rfl rfl) ?_
    refine G.nil ?_
    refine C.cond_dec rfl (fun hlt => ?_) (fun hlt => ?_)
    · have hlt' : a < bs.length := by omega
      refine C.skip ?_
      refine Fin.th ?_
      refine C.block ?_
      refine C.region_seq ?_
      refine G.value rfl rfl rfl (Sure.move rfl) ?_
      refine G.value rfl rfl rfl (Sure.move rfl) ?_
      refine G.call rfl rfl rfl rfl rfl rfl (rdeed_spec M' b8 p cap bs (some a) _ (hs.mono hle) (by omega) ⟨by omega, rfl⟩) (Split.cons .here Split.nil) ?_
      rintro _ M2 H2 le2 ⟨⟨d, hd, rfl, hdd⟩, hr2⟩
      refine G.dyn rfl rfl rfl ?_
      refine Dyn.buildSlice rfl rfl rfl (by simp [vcl]) (by decide) ?_
      intro b6
      refine G.dyn rfl rfl rfl ?_
      refine Dyn.append (fun k h => by cases h) rfl rfl rfl hown (.there (.over .all)) (m := 1) (news := deedDL d) ⟨rfl, fun _ => ⟨b6, 0, _, rfl, Rd.h0, rfl⟩⟩ (allOne_deed _) (by omega) (by omega) ?_
      intro v2 Hs2 hown2
      cases hst : (rDeed bs (some a)).2 with
      | some b =>
        have hto := rDeed_to hst
        rw [hst] at hr2
        obtain ⟨hbl, rfl⟩ := hr2
        refine G.value rfl rfl rfl (Sure.assign rfl) ?_
        refine G.nil ?_
        refine C.region_seq ?_
        refine G.value rfl rfl rfl (Sure.move rfl) ?_
        refine G.value rfl rfl rfl (Sure.nilCheck rfl) ?_
        refine G.value rfl rfl rfl (Sure.fieldAddr rfl) ?_
        refine G.value rfl rfl rfl (Sure.load rfl (Rd.over (Rd.tl Rd.h0)) rfl) ?_
        refine G.value rfl rfl rfl ((Sure.neq rfl rfl).to_f (by decide)) ?_
        refine G.nil ?_
        refine C.cond_false rfl ?_
        refine C.skip ?_
        refine Fin.blk ?_
        refine Fin.th ?_
        have hfl : ((dl ++ [d]).map deedDL).flatten = (dl.map deedDL).flatten ++ deedDL d := by simp
        refine ⟨k - (b - a), _, _, by omega, ⟨b, dl ++ [d], v2, Hs2, hle.trans le2, by omega, by simp; omega, ?_, ?_, ?_, ?_, rfl, rfl⟩, ⟨rfl, rfl, rfl, trivial⟩, _, Split.cons (.over (.there .here)) (Split.one .here)⟩
        · rw [hpa, parseAt_some hlt' hst, ← hd]
          cases parseAt bs b <;> simp
        · intro e he
          rcases List.mem_append.1 he with h | h
          · exact (hdo e h).mono le2
          · rw [List.mem_singleton.1 h]; exact hdd
        · intro e he
          rcases List.mem_append.1 he with h | h
          · exact hdk e h
          · rw [List.mem_singleton.1 h]
            have e1 : d.d.x = (rDeed bs (some a)).1.ino := by rw [← hd]; rfl
            rw [e1]
            exact (rDeed_st bs a).resolve_right (by omega)
        · rw [hfl, List.length_append]; exact hown2
      | none =>
        rw [hst] at hr2
        obtain ⟨a', e, he, rfl⟩ := hr2
        refine G.value rfl rfl rfl (Sure.assign rfl) ?_
        refine G.nil ?_
        refine C.region_seq ?_
        refine G.value rfl rfl rfl (Sure.move rfl) ?_
        refine G.value rfl rfl rfl (Sure.nilCheck rfl) ?_
        refine G.value rfl rfl rfl (Sure.fieldAddr rfl) ?_
        refine G.value rfl rfl rfl (Sure.load rfl (Rd.over (Rd.tl Rd.h0)) rfl) ?_
        refine G.value rfl rfl rfl ((Sure.neq rfl rfl).to_t he) ?_
        refine G.nil ?_
        refine C.cond_true rfl ?_
        -- draws its order
        refine C.draw_seq ([(b8, .cells (rdL p cap bs a' e))]) mixed (by kernel_rfl) (by intro p hp; simp_all) ?_
        refine GD.val 0 rfl rfl rfl rfl (by kernel_rfl) rfl (Sure.move rfl) ?_
        refine GD.val 1 rfl rfl rfl rfl (by kernel_rfl) rfl (Sure.nilCheck rfl) ?_
        refine GD.val 2 rfl rfl rfl rfl (by kernel_rfl) rfl (Sure.fieldAddr rfl) ?_
        refine GD.val 3 rfl rfl rfl rfl (by kernel_rfl) rfl (Sure.load rfl rdx rfl) ?_
        refine GD.one 4 (by kernel_rfl) rfl rfl (by kernel_rfl) ?_
        refine Next.dyn 4 rfl rfl rfl (by kernel_rfl) (by kernel_rfl) rfl (Dyn.assign rfl ?_)
        refine ⟨MLe.refl _, incx, ?_⟩
        refine GD.one 5 (by kernel_rfl) rfl rfl (by kernel_rfl) ?_
        refine Next.dyn 5 rfl rfl rfl (by kernel_rfl) (by kernel_rfl) rfl (Dyn.assign rfl ?_)
        refine ⟨MLe.refl _, incx, ?_⟩
        refine GD.done (by kernel_rfl) (by kernel_rfl) ?_
        refine C.ret ?_
        refine Fin.blk_ret ?_
        refine Fin.th_ret ?_
        refine Fin.blk_ret ?_
        refine Fin.th_ret ?_
        exact Fin.fn (Res.tmp2 rfl rfl rfl) Split.nil ⟨rfl, .inr ⟨by rw [hpa, parseAt_none hlt' hst]; rfl, e, he, rfl⟩⟩
    · have hle2 : bs.length ≤ a := by omega
      rw [parseAt_end hle2] at hpa
      refine C.exit ?_
      refine Fin.th_exit ?_
      refine Fin.th_exit ?_
      refine Fin.blk_eq ?_
      refine Fin.th ?_
      refine C.region_seq ?_
      refine G.value rfl rfl rfl (Sure.move rfl) ?_
      refine G.value rfl rfl rfl (Sure.assign rfl) ?_
      refine G.value rfl rfl rfl (Sure.assign rfl) ?_
      refine G.nil ?_
      refine C.donateOwn hown (.there .all) ?_
      rintro M2 q c le2 rfl hsl
      refine C.ret ?_
      refine Fin.fn (Res.tmp2 rfl rfl rfl) Split.nil ⟨rfl, .inl ⟨dl, q, c, by rw [hpa]; simp, rfl, ⟨⟨?_, ?_⟩, fun d hd => (hdo d hd).mono le2⟩, hdk, by omega⟩⟩
      · intro e he; obtain ⟨x, _, rfl⟩ := List.mem_map.1 he; rfl
      · rw [List.length_map]; exact hsl
end Go.Proofs.YtaeeahcokiebdaaGreat

/-
  The walk of what a half's bytes tell.
  Conditions: bytes are a hundred thousand at most.
-/
namespace Go.Proofs.YtaeeahcokiebdaaGreat
set_option maxRecDepth 20000

/-- A state of so many inodes, and bad blocks, at most. -/
def StaB (n : Nat) (s : Sta) : Prop := s.inos.length ≤ n ∧ s.bad.length ≤ n ∧ ∀ x ∈ s.inos, InoOk x
theorem StaB.ok {n s} (h : StaB n s) (hn : n ≤ 1000000) : StaOk s := ⟨by have := h.1; omega, by have := h.2.1; omega, h.2.2⟩
theorem StaB.mono {n m s} (h : StaB n s) (hn : n ≤ m) : StaB m s := ⟨by have := h.1; omega, by have := h.2.1; omega, h.2.2⟩
theorem putI_mem {l : List Ino} {x y : Ino} (h : y ∈ putI l x) : y ∈ l ∨ y = x := by
  unfold putI at h
  split at h
  · rcases List.mem_or_eq_of_mem_set h with h | h
    · exact .inl h
    · exact .inr h
  · split at h
    · rcases List.mem_append.1 h with h | h
      · exact .inl h
      · exact .inr (List.mem_singleton.1 h)
    · rcases List.mem_append.1 h with h | h
      · rcases List.mem_append.1 h with h | h
        · exact .inl (List.mem_of_mem_take h)
        · exact .inr (List.mem_singleton.1 h)
      · exact .inl (List.mem_of_mem_drop h)
theorem apply1_b {n : Nat} {s : Sta} {d : Deed} (h : StaB n s) (hd : InoOk d.ino) : StaB (n + 1) (apply1 s d) := by
  obtain ⟨h1, h2, h3⟩ := h
  unfold apply1
  split
  · exact ⟨by dsimp only; omega, by dsimp only; omega, h3⟩
  · split
    · refine ⟨Nat.le_trans (putI_len _ _) (by omega), by dsimp only; omega, fun x hx => ?_⟩
      rcases putI_mem hx with h | h
      · exact h3 x h
      · rw [h]; exact hd
    · split
      · exact ⟨Nat.le_trans (List.length_filter_le _ _) (by omega), by dsimp only; omega, fun x hx => h3 x (List.mem_filter.1 hx).1⟩
      · split
        · exact ⟨by dsimp only; omega, Nat.le_trans (badI_len _ _) (by omega), h3⟩
        · exact ⟨by omega, by omega, h3⟩
theorem applyL_b : ∀ {l : List Deed} {n : Nat} {s : Sta}, StaB n s → (∀ d ∈ l, InoOk d.ino) → StaB (n + l.length) (applyL s l)
  | [], n, s, h, _ => h
  | d :: l, n, s, h, hd => by
    have := applyL_b (l := l) (apply1_b h (hd d (by simp))) (fun e he => hd e (by simp [he]))
    rw [show n + (d :: l).length = n + 1 + l.length from by simp; omega]
    exact this
structure Fnd where
  epoch : Int
  used : Nat
  s : Sta
  more : Bool
def sta0 : Sta := ⟨0, [], []⟩
def fnd0 : Fnd := ⟨0, 0, sta0, false⟩
/-- Records, one behind the other: the state, and how many bytes that took; none: the first one is none. -/
def readL : Nat → List (List UInt8) → Sta × Nat → Option (Sta × Nat)
  | _, [], r => some r
  | i, x :: l, r => match parse (if i = 0 then x.drop 8 else x) with
    | Option.none => if i = 0 then Option.none else some r
    | some d => readL (i + 1) l (applyL r.1 d, r.2 + (x.length + 7))
/-- What a half's bytes tell. -/
def readB (b : List UInt8) : Fnd := match recs b with
  | [] => fnd0
  | x :: l => if x.length < 8 ∨ IntKind.i64.wrap (num (x.take 8)) ≤ 0 ∨ 2147483647 < IntKind.i64.wrap (num (x.take 8)) then fnd0
    else match readL 0 (x :: l) (sta0, 0) with
      | Option.none => fnd0
      | some r => ⟨IntKind.i64.wrap (num (x.take 8)), r.2, r.1, !(cleanB b) || decide (r.2 < recsN (x :: l))⟩
def staD0 : StaD := ⟨0, [], Option.none, 0, [], Option.none, 0⟩
theorem sok0 (M : Mem) : SOk M staD0 := ⟨⟨⟨by simp [staD0], Sl.empty⟩, by simp [staD0]⟩, Sl.empty⟩
abbrev fnL (ep : Int) (u : Nat) (s : StaD) (more : Bool) : List Value := [intV ep, intV u, intV s.next, .slice s.pi s.inos.length s.ci, .slice s.pb s.bad.length s.cb, .bool more]
theorem jread_spec (M : Mem) (p : Option Addr) (cap : Nat) (bs : List UInt8) (hs : SC M p cap bs) (hb : bs.length ≤ 100000) :
    Spec Tryz.prog 65 [.slice p bs.length cap] M [] (fun v M' H => H = [] ∧ ∃ s : StaD, s.v = (readB bs).s ∧ SOk M' s ∧ StaB bs.length s.v ∧ v = .agg (fnL (readB bs).epoch (readB bs).used s (readB bs).more).toArray) := by
  obtain ⟨hn1, hn2, hn3⟩ := recsN_le bs.length bs (Nat.le_refl _)
  have hz : StaB bs.length staD0.v := ⟨by simp [staD0, StaD.v], by simp [staD0, StaD.v], by simp [staD0, StaD.v]⟩
  have hrb : readB bs = match recs bs with
    | [] => fnd0
    | x :: l => if x.length < 8 ∨ IntKind.i64.wrap (num (x.take 8)) ≤ 0 ∨ 2147483647 < IntKind.i64.wrap (num (x.take 8)) then fnd0
      else match readL 0 (x :: l) (sta0, 0) with
        | Option.none => fnd0
        | some r => ⟨IntKind.i64.wrap (num (x.take 8)), r.2, r.1, !(cleanB bs) || decide (r.2 < recsN (x :: l))⟩ := rfl
  refine Spec.of_code 93 Tryz.func65 rfl callable65 rfl rfl fun w => ?_
  refine C.region_seq ?_
  refine G.dyn rfl rfl rfl ?_
  refine Dyn.allocAgg ?_
  intro b2
  refine G.nil ?_
  refine C.region_seq ?_
  refine G.value rfl rfl rfl (Sure.move rfl) ?_
  refine G.call rfl rfl rfl rfl rfl rfl (scan_spec M p cap bs hs (by omega)) (Split.nil) ?_
  rintro _ M1 _ le1 ⟨rfl, q, c, l, rfl, hl, hsl, hlc⟩
  have hll : l.length = (recs bs).length := by rw [← hl]; simp
  refine G.value rfl rfl rfl (Sure.move rfl) ?_
  refine G.value rfl rfl rfl (Sure.extract rfl rfl) ?_
  refine G.value rfl rfl rfl (Sure.extract rfl rfl) ?_
  refine G.value rfl rfl rfl (Sure.extract rfl rfl) ?_
  refine G.value rfl rfl rfl (Sure.assign rfl) ?_
  refine G.value rfl rfl rfl (Sure.assign rfl) ?_
  refine G.value rfl rfl rfl (Sure.assign rfl) ?_
  refine G.nil ?_
  refine C.seq ?_
  refine C.region_seq ?_
  refine G.value rfl rfl rfl (Sure.move rfl) ?_
  refine G.value rfl rfl rfl (Sure.len_slice rfl) ?_
  refine G.value rfl rfl rfl (Sure.eql rfl rfl) ?_
  refine G.nil ?_
  refine C.cond_dec rfl (fun hnil => ?_) (fun hnil => ?_)
  · have hl0 : recs bs = [] := List.eq_nil_of_length_eq_zero (by omega)
    rw [hl0] at hrb
    rw [hrb]
    refine C.region_seq ?_
    refine G.value rfl rfl rfl (Sure.build rfl rfl) ?_
    refine G.dyn0 rfl rfl ?_
    refine Dyn.storeAgg rfl rfl pkx rfl rfl rfl ?_
    refine G.nil ?_
    refine C.ret ?_
    refine Fin.th_ret ?_
    exact Fin.fn (Res.cellAgg rfl rfl rdx rfl) Split.nil ⟨rfl, staD0, rfl, sok0 _, hz, rfl⟩
  · obtain ⟨t0, l', rfl⟩ : ∃ t0 l', l = t0 :: l' := by
      cases l with
      | nil => simp at hnil
      | cons t l => exact ⟨t, l, rfl⟩
    have hr0 : recs bs = t0.2.2 :: l'.map (·.2.2) := by rw [← hl]; rfl
    rw [hr0] at hrb
    dsimp only at hrb
    have hm0 : t0.2.2 ∈ recs bs := by rw [hr0]; simp
    have hx0 := hn3 _ hm0
    obtain ⟨q', o, cc, hq, hrd, hcell⟩ := Sl.cell (i := 0) (v := bslV t0) (Sl.heap (H := [(b2, .cells (fnL 0 0 staD0 false))]) hsl) (by simp)
    subst hq
    refine C.skip ?_
    refine Fin.th ?_
    refine C.region_seq ?_
    refine G.value rfl rfl rfl (Sure.move rfl) ?_
    refine G.value rfl rfl rfl (Sure.indexAddr rfl rfl (by simp only [List.length_cons]; omega)) ?_
    refine G.value rfl rfl rfl (Sure.load rfl hrd hcell) ?_
    refine G.call rfl rfl rfl rfl rfl rfl (getInt_spec M1 t0.1 t0.2.1 t0.2.2 0 (hlc t0 (by simp)) (by omega) (by omega)) (Split.nil) ?_
    rintro _ M2 _ le2 ⟨rfl, hres⟩
    rcases hres with ⟨hfit, rfl⟩ | ⟨hfit, rfl⟩
    · rw [List.drop_zero]
      generalize IntKind.i64.wrap (num (t0.2.2.take 8)) = ep at hrb
      refine G.value rfl rfl rfl (Sure.move rfl) ?_
      refine G.value rfl rfl rfl (Sure.extract rfl rfl) ?_
      refine G.value rfl rfl rfl (Sure.extract rfl rfl) ?_
      refine G.value rfl rfl rfl (Sure.assign rfl) ?_
      refine G.value rfl rfl rfl (Sure.assign rfl) ?_
      refine G.nil ?_
      refine C.seq ?_
      refine C.region_seq ?_
      refine G.value rfl rfl rfl (Sure.move rfl) ?_
      refine G.value rfl rfl rfl ((Sure.neq rfl rfl).to_f (by decide)) ?_
      rcases Int.lt_or_le 0 ep with hep | hep
      · refine G.value rfl rfl rfl (Sure.move rfl) ?_
        refine G.value rfl rfl rfl (Sure.move rfl) ?_
        refine G.value rfl rfl rfl ((Sure.leq rfl rfl).to_f (by omega)) ?_
        rcases Int.lt_or_le 2147483647 ep with hep2 | hep2
        · refine G.value rfl rfl rfl (Sure.pick_false rfl rfl) ?_
          refine G.value rfl rfl rfl (Sure.move rfl) ?_
          refine G.value rfl rfl rfl (Sure.move rfl) ?_
          refine G.value rfl rfl rfl ((Sure.gtr rfl rfl).to_t (by omega)) ?_
          rw [if_pos (.inr (.inr hep2))] at hrb
          rw [hrb]
          refine G.value rfl rfl rfl (Sure.pick_false rfl rfl) ?_
          refine G.nil ?_
          refine C.cond_true rfl ?_
          refine C.region_seq ?_
          refine G.value rfl rfl rfl (Sure.build rfl rfl) ?_
          refine G.dyn0 rfl rfl ?_
          refine Dyn.storeAgg rfl rfl pkx rfl rfl rfl ?_
          refine G.nil ?_
          refine C.ret ?_
          refine Fin.th_ret ?_
          exact Fin.fn (Res.cellAgg rfl rfl rdx rfl) Split.nil ⟨rfl, staD0, rfl, sok0 _, hz, rfl⟩
        · skip
          refine G.value rfl rfl rfl (Sure.pick_false rfl rfl) ?_
          refine G.value rfl rfl rfl (Sure.move rfl) ?_
          refine G.value rfl rfl rfl (Sure.move rfl) ?_
          refine G.value rfl rfl rfl ((Sure.gtr rfl rfl).to_f (by omega)) ?_
          rw [if_neg (by omega)] at hrb
          refine G.value rfl rfl rfl (Sure.pick_false rfl rfl) ?_
          refine G.nil ?_
          refine C.cond_false rfl ?_
          refine C.skip ?_
          refine Fin.th ?_
          refine C.region_seq ?_
          refine G.value rfl rfl rfl (Sure.move rfl) ?_
          refine G.value rfl rfl rfl (Sure.build rfl rfl) ?_
          refine G.dyn rfl rfl rfl ?_
          refine Dyn.allocAgg ?_
          intro b8
          refine G.dyn0 rfl rfl ?_
          refine Dyn.storeAgg rfl rfl pkx rfl rfl rfl ?_
          refine G.nil ?_
          refine C.seq ?_
          refine C.region_seq ?_
          refine G.value rfl rfl rfl (Sure.move rfl) ?_
          refine G.value rfl rfl rfl (Sure.len_slice rfl) ?_
          refine G.value rfl rfl rfl (Sure.move rfl) ?_
          refine G.nil ?_
          refine C.cutTop (fun E M' H => ∃ (s : StaD) (u : Nat), MLe M2 M' ∧ readL 0 (t0.2.2 :: l'.map (·.2.2)) (sta0, 0) = some (s.v, u) ∧ SOk M' s ∧ StaB bs.length s.v ∧ esub [(2, ptr b2), (4, intV (recsN (recs bs))), (5, .bool (cleanB bs)), (8, ptr b8)] E ∧ ∃ R, Split [(b8, .cells (fnL ep u s false)), (b2, .cells (fnL 0 0 staD0 false))] H R) ?_ ?_
          · refine C.block ?_
            refine C.loop (fun k E M' H => ∃ (a b : List BSl) (s : StaD), MLe M2 M' ∧ t0 :: l' = a ++ b ∧ b.length = k ∧ readL 0 (t0.2.2 :: l'.map (·.2.2)) (sta0, 0) = readL a.length (b.map (·.2.2)) (s.v, recsN (a.map (·.2.2))) ∧ SOk M' s ∧ StaB (recsN (a.map (·.2.2))) s.v ∧ E = [(2, ptr b2), (4, intV (recsN (recs bs))), (5, .bool (cleanB bs)), (8, ptr b8), (44, .slice (some ⟨q', o, Option.none⟩) (t0 :: l').length c), (45, intV (t0 :: l').length), (46, intV a.length)] ∧ H = [(b8, .cells (fnL ep (recsN (a.map (·.2.2))) s false)), (b2, .cells (fnL 0 0 staD0 false))]) ((t0 :: l').length) ?_ ?_
            · exact ⟨_, _, ⟨[], t0 :: l', staD0, MLe.refl _, rfl, rfl, rfl, sok0 _, ⟨by simp [staD0, StaD.v], by simp [staD0, StaD.v], by simp [staD0, StaD.v]⟩, rfl, rfl⟩, ⟨rfl, rfl, rfl, rfl, rfl, rfl, rfl, trivial⟩, _, Split.cons .here (Split.cons .here Split.nil)⟩
            · rintro k E M' H ⟨a, b, s, hle, hab, hk, hrl, hso, hsb, rfl, rfl⟩
              have hlen : (t0 :: l').length = a.length + b.length := by rw [hab]; simp
              refine C.region_seq ?_
              refine G.value rfl rfl rfl (Sure.lss rfl rfl) ?_
              refine G.nil ?_
              refine C.seq ?_
              refine C.cond_dec rfl (fun hlt => ?_) (fun hlt => ?_)
              · cases b with
                | nil => simp at hlen hlt; omega
                | cons x b =>
                  have hxm : x ∈ t0 :: l' := by rw [hab]; simp
                  have hxr : x.2.2 ∈ recs bs := by rw [hr0]; exact List.mem_map_of_mem (f := fun t : BSl => t.2.2) hxm
                  have hxn := hn3 _ hxr
                  have hxc := (hlc x hxm).mono (le2.trans hle)
                  have hsum : recsN (a.map (·.2.2)) + (x.2.2.length + 7) ≤ bs.length := by
                    have e1 : recs bs = a.map (·.2.2) ++ x.2.2 :: b.map (·.2.2) := by rw [hr0]; have := congrArg (List.map fun t : BSl => t.2.2) hab; simpa using this
                    rw [e1] at hn1
                    simp [recsN] at hn1 ⊢
                    omega
                  obtain ⟨q2, o2, cc2, hq2, hrd2, hcell2⟩ := Sl.cell (i := a.length) (v := bslV x) (Sl.heap (H := [(b8, .cells (fnL ep (recsN (a.map (·.2.2))) s false)), (b2, .cells (fnL 0 0 staD0 false))]) (hsl.mono (le2.trans hle))) (by rw [hab]; simp)
                  simp only [Option.some.injEq, Addr.mk.injEq, and_true] at hq2
                  obtain ⟨rfl, rfl⟩ := hq2
                  refine C.skip ?_
                  refine Fin.th ?_
                  refine C.seq ?_
                  refine C.block ?_
                  refine C.region_seq ?_
                  refine G.value rfl rfl rfl (Sure.move rfl) ?_
                  refine G.value rfl rfl rfl (Sure.indexAddr rfl rfl (by omega)) ?_
                  refine G.value rfl rfl rfl (Sure.load rfl hrd2 hcell2) ?_
                  refine G.value rfl rfl rfl (Sure.assign rfl) ?_
                  refine G.value rfl rfl rfl (Sure.assign rfl) ?_
                  refine G.nil ?_
                  refine C.region_seq ?_
                  refine G.value rfl rfl rfl (Sure.move rfl) ?_
                  refine G.value rfl rfl rfl (Sure.assign rfl) ?_
                  refine G.nil ?_
                  refine C.seq ?_
                  refine C.region_seq ?_
                  refine G.value rfl rfl rfl (Sure.move rfl) ?_
                  refine G.value rfl rfl rfl (Sure.eql rfl rfl) ?_
                  refine G.nil ?_
                  refine C.cutTop (fun E M3 H => ∃ (py : Option Addr) (cy : Nat) (y : List UInt8), MLe M' M3 ∧ y = (if a.length = 0 then x.2.2.drop 8 else x.2.2) ∧ SC M3 py cy y ∧ esub [(2, ptr b2), (4, intV (recsN (recs bs))), (5, .bool (cleanB bs)), (8, ptr b8), (9, intV a.length), (10, bslV x), (11, .slice py y.length cy), (44, .slice (some ⟨q', o, Option.none⟩) (t0 :: l').length c), (45, intV (t0 :: l').length), (46, intV a.length)] E ∧ ∃ R, Split [(b8, .cells (fnL ep (recsN (a.map (·.2.2))) s false)), (b2, .cells (fnL 0 0 staD0 false))] H R) ?_ ?_
                  · refine C.cond_dec rfl (fun h0 => ?_) (fun h0 => ?_)
                    · have h0' : a.length = 0 := by omega
                      have hx8 : 8 ≤ x.2.2.length := by
                        have ha0 : a = [] := List.eq_nil_of_length_eq_zero h0'
                        subst ha0
                        injection hab with hab _
                        rw [← hab]; omega
                      have hcx := hxc.2
                      refine C.region ?_
                      refine G.value rfl rfl rfl (Sure.move rfl) ?_
                      refine G.value rfl rfl rfl (Sure.slice 8 x.2.2.length rfl rfl rfl (.inl rfl) (.inr ⟨rfl, rfl⟩) (by omega) (by omega)) ?_
                      refine G.value rfl rfl rfl (Sure.assign rfl) ?_
                      refine G.nil ?_
                      refine Fin.th ?_
                      refine ⟨_, _, x.2.2.drop 8, MLe.refl _, by rw [if_pos h0'], hxc.rest hx8, ⟨rfl, rfl, rfl, rfl, rfl, rfl, ?_, rfl, rfl, rfl, trivial⟩, [], Split.cons .here (Split.cons .here Split.nil)⟩
                      rw [List.length_drop]
                      rfl
                    · refine C.skip ?_
                      refine Fin.th ?_
                      exact ⟨x.1, x.2.1, x.2.2, MLe.refl _, by rw [if_neg (by omega)], hxc, ⟨rfl, rfl, rfl, rfl, rfl, rfl, rfl, rfl, rfl, rfl, trivial⟩, [], Split.cons .here (Split.cons .here Split.nil)⟩
                  · rintro E M3 H ⟨py, cy, y, le3, hy, hsy, hsub, R, hspl⟩
                    refine C.weak hsub (C.sub hspl ?_)
                    clear hspl hsub
                    have hyl : y.length ≤ x.2.2.length := by rw [hy]; split <;> simp
                    refine C.region_seq ?_
                    refine G.value rfl rfl rfl (Sure.move rfl) ?_
                    refine G.call rfl rfl rfl rfl rfl rfl (parse_spec M3 py cy y hsy (by omega)) (Split.nil) ?_
                    rintro _ M4 _ le4 ⟨rfl, hres⟩
                    rcases hres with ⟨dl, qd, cd, hpd, rfl, hdl, hdk, hdn⟩ | ⟨hpn, e, he, rfl⟩
                    · refine G.value rfl rfl rfl (Sure.move rfl) ?_
                      refine G.value rfl rfl rfl (Sure.extract rfl rfl) ?_
                      refine G.value rfl rfl rfl (Sure.extract rfl rfl) ?_
                      refine G.value rfl rfl rfl (Sure.assign rfl) ?_
                      refine G.value rfl rfl rfl (Sure.assign rfl) ?_
                      refine G.nil ?_
                      refine C.seq ?_
                      refine C.region_seq ?_
                      refine G.value rfl rfl rfl (Sure.move rfl) ?_
                      refine G.value rfl rfl rfl ((Sure.neq rfl rfl).to_f (by decide)) ?_
                      refine G.value rfl rfl rfl (Sure.move rfl) ?_
                      refine G.skip rfl rfl rfl ?_
                      refine G.skip rfl rfl rfl ?_
                      refine G.value rfl rfl rfl (Sure.pick_false rfl rfl) ?_
                      refine G.nil ?_
                      refine C.cond_false rfl ?_
                      refine C.skip ?_
                      refine Fin.th ?_
                      refine C.seq ?_
                      refine C.region_seq ?_
                      refine G.value rfl rfl rfl (Sure.move rfl) ?_
                      refine G.value rfl rfl rfl ((Sure.neq rfl rfl).to_f (by decide)) ?_
                      refine G.nil ?_
                      refine C.cond_false rfl ?_
                      refine C.skip ?_
                      refine Fin.th ?_
                      refine C.region_seq ?_
                      refine G.value rfl rfl rfl (Sure.fieldAddr rfl) ?_
                      refine G.value rfl rfl rfl (Sure.loadAgg rfl rdx rfl) ?_
                      refine G.value rfl rfl rfl (Sure.move rfl) ?_
                      refine G.call rfl rfl rfl rfl rfl rfl (apply_spec M4 s qd cd dl (hso.mono (le3.trans le4)) (hsb.ok (by omega)) hdl hdk (by omega)) (Split.nil) ?_
                      rintro _ M5 _ le5 ⟨rfl, s', hs', rfl, hso'⟩
                      refine G.value rfl rfl rfl (Sure.fieldAddr rfl) ?_
                      refine G.dyn0 rfl rfl ?_
                      refine Dyn.storeAgg rfl rfl pkx rfl rfl rfl ?_
                      refine G.nil ?_
                      -- draws its order
                      refine C.draw ([(b8, .cells (fnL ep (recsN (a.map (·.2.2))) s' false))]) mixed (by kernel_rfl) (by intro p hp; simp_all) ?_
                      refine GD.val 0 rfl rfl rfl rfl (by kernel_rfl) rfl (Sure.fieldAddr rfl) ?_
                      refine GD.val 1 rfl rfl rfl rfl (by kernel_rfl) rfl (Sure.load rfl rdx rfl) ?_
                      refine GD.val 2 rfl rfl rfl rfl (by kernel_rfl) rfl (Sure.move rfl) ?_
                      refine GD.val 3 rfl rfl rfl rfl (by kernel_rfl) rfl (Sure.len_slice rfl) ?_
                      refine GD.one 4 (by kernel_rfl) rfl rfl (by kernel_rfl) ?_
                      refine Next.call 4 rfl rfl rfl (by kernel_rfl) (by kernel_rfl) rfl rfl rfl rfl (size_spec M5 x.2.2.length (by omega)) (Split.nil) ?_
                      rintro _ M6 _ le6 ⟨rfl, rfl⟩
                      refine ⟨(by intro p hp; simp_all), ?_⟩
                      refine GD.val 5 rfl rfl rfl rfl (by kernel_rfl) rfl (Sure.add rfl rfl (inK64 (by omega))) ?_
                      refine GD.val 6 rfl rfl rfl rfl (by kernel_rfl) rfl (Sure.fieldAddr rfl) ?_
                      refine GD.one 7 (by kernel_rfl) rfl rfl (by kernel_rfl) ?_
                      refine Next.dyn0W 7 rfl rfl (by kernel_rfl) (by kernel_rfl) rfl (by kernel_rfl) ?_
                      refine Dyn.store rfl rfl pkx rfl rfl ?_
                      refine ⟨MLe.refl _, [], Incl.nil _, ?_⟩
                      refine GD.done (by kernel_rfl) (by kernel_rfl) ?_
                      refine Fin.blk ?_
                      refine Fin.th ?_
                      refine C.region ?_
                      refine G.value rfl rfl rfl (Sure.add rfl rfl (inK64 (by omega))) ?_
                      refine G.value rfl rfl rfl (Sure.move rfl) ?_
                      refine G.nil ?_
                      refine Fin.th ?_
                      have hnn : recsN (a.map (·.2.2)) + (x.2.2.length + 7) = recsN ((a ++ [x]).map (·.2.2)) := by rw [List.map_append]; simp only [List.map_cons, List.map_nil]; rw [recsN_snoc]
                      have hlm : (dl.map DeedD.v).length = dl.length := by simp
                      refine ⟨b.length, _, _, by simp at hk; omega, ⟨a ++ [x], b, s', hle.trans (le3.trans (le4.trans (le5.trans le6))), by rw [hab]; simp, rfl, ?_, hso'.mono le6, ?_, rfl, rfl⟩, ⟨rfl, rfl, rfl, rfl, rfl, rfl, by simp; rfl, trivial⟩, [], ?_⟩
                      · rw [hrl, hs', ← hnn]
                        simp only [List.map_cons, readL, ← hy, hpd, List.length_append, List.length_singleton]
                      · rw [← hnn, hs']
                        refine StaB.mono (applyL_b hsb ?_) (by rw [hlm]; omega)
                        intro d hd
                        obtain ⟨d', hd', rfl⟩ := List.mem_map.1 hd
                        exact hdk d' hd'
                      · rw [← hnn]
                        exact Split.cons .here (Split.cons .here Split.nil)
                    · skip
                      refine G.value rfl rfl rfl (Sure.move rfl) ?_
                      refine G.value rfl rfl rfl (Sure.extract rfl rfl) ?_
                      refine G.value rfl rfl rfl (Sure.extract rfl rfl) ?_
                      refine G.value rfl rfl rfl (Sure.assign rfl) ?_
                      refine G.value rfl rfl rfl (Sure.assign rfl) ?_
                      refine G.nil ?_
                      refine C.seq ?_
                      refine C.region_seq ?_
                      refine G.value rfl rfl rfl (Sure.move rfl) ?_
                      refine G.value rfl rfl rfl ((Sure.neq rfl rfl).to_t he) ?_
                      rcases Nat.eq_zero_or_pos a.length with h0 | h0
                      · refine G.value rfl rfl rfl (Sure.move rfl) ?_
                        refine G.value rfl rfl rfl (Sure.move rfl) ?_
                        refine G.value rfl rfl rfl ((Sure.eql rfl rfl).to_t (by omega)) ?_
                        have hno : readL 0 (t0.2.2 :: l'.map (·.2.2)) (sta0, 0) = Option.none := by
                          have hy0 : x.2.2.drop 8 = y := by rw [hy, if_pos h0]
                          rw [hrl, h0]
                          simp only [List.map_cons, readL, if_true, hy0, hpn]
                        rw [hno] at hrb
                        dsimp only at hrb
                        rw [hrb]
                        refine G.value rfl rfl rfl (Sure.pick_true rfl rfl) ?_
                        refine G.nil ?_
                        refine C.cond_true rfl ?_
                        refine C.region_seq ?_
                        refine G.value rfl rfl rfl (Sure.build rfl rfl) ?_
                        refine G.dyn0 rfl rfl ?_
                        refine Dyn.storeAgg rfl rfl pkx rfl rfl rfl ?_
                        refine G.nil ?_
                        refine C.ret ?_
                        refine Fin.th_ret ?_
                        refine Fin.blk_ret ?_
                        refine Fin.th_ret ?_
                        refine Fin.th_ret ?_
                        refine Fin.blk_ret ?_
                        refine Fin.th_ret ?_
                        exact Fin.fn (Res.cellAgg rfl rfl rdx rfl) Split.nil ⟨rfl, staD0, rfl, sok0 _, hz, rfl⟩
                      · skip
                        refine G.value rfl rfl rfl (Sure.move rfl) ?_
                        refine G.value rfl rfl rfl (Sure.move rfl) ?_
                        refine G.value rfl rfl rfl ((Sure.eql rfl rfl).to_f (by omega)) ?_
                        refine G.value rfl rfl rfl (Sure.pick_true rfl rfl) ?_
                        refine G.nil ?_
                        refine C.cond_false rfl ?_
                        refine C.skip ?_
                        refine Fin.th ?_
                        refine C.seq ?_
                        refine C.region_seq ?_
                        refine G.value rfl rfl rfl (Sure.move rfl) ?_
                        refine G.value rfl rfl rfl ((Sure.neq rfl rfl).to_t he) ?_
                        refine G.nil ?_
                        refine C.cond_true rfl ?_
                        refine C.exit ?_
                        refine Fin.th_exit ?_
                        refine Fin.blk_ne rfl ?_
                        refine Fin.th_exit ?_
                        refine Fin.th_exit ?_
                        refine Fin.blk_eq ?_
                        refine Fin.th ?_
                        refine ⟨s, recsN (a.map (·.2.2)), hle.trans (le3.trans le4), ?_, hso.mono (le3.trans le4), hsb.mono (by omega), ⟨rfl, rfl, rfl, rfl, trivial⟩, [], Split.cons .here (Split.cons .here Split.nil)⟩
                        rw [hrl]
                        have h1 : ¬ a.length = 0 := by omega
                        simp only [List.map_cons, readL, ← hy, hpn, if_neg h1]
              · have hb0 : b = [] := List.eq_nil_of_length_eq_zero (by omega)
                subst hb0
                simp only [List.append_nil] at hab
                have hnn : recsN (a.map (·.2.2)) = recsN (recs bs) := by rw [← hab, hr0]; rfl
                refine C.exit ?_
                refine Fin.th_exit ?_
                refine Fin.th_exit ?_
                refine Fin.blk_eq ?_
                refine Fin.th ?_
                exact ⟨s, recsN (a.map (·.2.2)), hle, by rw [hrl]; rfl, hso, hsb.mono (by omega), ⟨rfl, rfl, rfl, rfl, trivial⟩, [], Split.cons .here (Split.cons .here Split.nil)⟩
          · rintro E M3 H ⟨s, u, le3, hrl, hso, hsb, hsub, R, hspl⟩
            refine C.weak hsub (C.sub hspl ?_)
            clear hspl hsub
            rw [hrl] at hrb
            dsimp only at hrb
            rw [← hr0] at hrb
            rw [hrb]
            cases hcb : cleanB bs with
            | false =>
              refine C.region_seq ?_
              refine G.value rfl rfl rfl (Sure.move rfl) ?_
              refine G.value rfl rfl rfl (Sure.not rfl) ?_
              refine G.value rfl rfl rfl (Sure.move rfl) ?_
              refine G.skip rfl rfl rfl ?_
              refine G.skip rfl rfl rfl ?_
              refine G.skip rfl rfl rfl ?_
              refine G.skip rfl rfl rfl ?_
              refine G.value rfl rfl rfl (Sure.pick_true rfl rfl) ?_
              refine G.value rfl rfl rfl (Sure.fieldAddr rfl) ?_
              refine G.dyn0 rfl rfl ?_
              refine Dyn.store rfl rfl pkx rfl rfl ?_
              refine G.nil ?_
              refine C.region_seq ?_
              refine G.value rfl rfl rfl (Sure.loadAgg rfl rdx rfl) ?_
              refine G.dyn0 rfl rfl ?_
              refine Dyn.storeAgg rfl rfl pkx rfl rfl rfl ?_
              refine G.nil ?_
              refine C.ret ?_
              exact Fin.fn (Res.cellAgg rfl rfl rdx rfl) Split.nil ⟨rfl, s, rfl, hso, hsb, rfl⟩
            | true =>
              refine C.region_seq ?_
              refine G.value rfl rfl rfl (Sure.move rfl) ?_
              refine G.value rfl rfl rfl (Sure.not rfl) ?_
              refine G.value rfl rfl rfl (Sure.move rfl) ?_
              refine G.value rfl rfl rfl (Sure.fieldAddr rfl) ?_
              refine G.value rfl rfl rfl (Sure.load rfl rdx rfl) ?_
              refine G.value rfl rfl rfl (Sure.move rfl) ?_
              refine G.value rfl rfl rfl (Sure.lss rfl rfl) ?_
              refine G.value rfl rfl rfl (Sure.pick_false rfl rfl) ?_
              refine G.value rfl rfl rfl (Sure.fieldAddr rfl) ?_
              refine G.dyn0 rfl rfl ?_
              refine Dyn.store rfl rfl pkx rfl rfl ?_
              refine G.nil ?_
              refine C.region_seq ?_
              refine G.value rfl rfl rfl (Sure.loadAgg rfl rdx rfl) ?_
              refine G.dyn0 rfl rfl ?_
              refine Dyn.storeAgg rfl rfl pkx rfl rfl rfl ?_
              refine G.nil ?_
              refine C.ret ?_
              refine Fin.fn (Res.cellAgg rfl rfl rdx rfl) Split.nil ⟨rfl, s, rfl, hso, hsb, ?_⟩
              rw [show decide ((u : Int) < (recsN (recs bs) : Int)) = decide (u < recsN (recs bs)) from decide_eq_decide.2 (by omega)]
              rfl
      · skip
        refine G.value rfl rfl rfl (Sure.move rfl) ?_
        refine G.value rfl rfl rfl (Sure.move rfl) ?_
        refine G.value rfl rfl rfl ((Sure.leq rfl rfl).to_t (by omega)) ?_
        rw [if_pos (.inr (.inl hep))] at hrb
        rw [hrb]
        refine G.value rfl rfl rfl (Sure.pick_false rfl rfl) ?_
        refine G.value rfl rfl rfl (Sure.move rfl) ?_
        refine G.skip rfl rfl rfl ?_
        refine G.skip rfl rfl rfl ?_
        refine G.value rfl rfl rfl (Sure.pick_true rfl rfl) ?_
        refine G.nil ?_
        refine C.cond_true rfl ?_
        refine C.region_seq ?_
        refine G.value rfl rfl rfl (Sure.build rfl rfl) ?_
        refine G.dyn0 rfl rfl ?_
        refine Dyn.storeAgg rfl rfl pkx rfl rfl rfl ?_
        refine G.nil ?_
        refine C.ret ?_
        refine Fin.th_ret ?_
        exact Fin.fn (Res.cellAgg rfl rfl rdx rfl) Split.nil ⟨rfl, staD0, rfl, sok0 _, hz, rfl⟩
    · skip
      refine G.value rfl rfl rfl (Sure.move rfl) ?_
      refine G.value rfl rfl rfl (Sure.extract rfl rfl) ?_
      refine G.value rfl rfl rfl (Sure.extract rfl rfl) ?_
      refine G.value rfl rfl rfl (Sure.assign rfl) ?_
      refine G.value rfl rfl rfl (Sure.assign rfl) ?_
      refine G.nil ?_
      refine C.seq ?_
      refine C.region_seq ?_
      refine G.value rfl rfl rfl (Sure.move rfl) ?_
      refine G.value rfl rfl rfl ((Sure.neq rfl rfl).to_t (by decide)) ?_
      rw [if_pos (.inl (by omega))] at hrb
      rw [hrb]
      refine G.value rfl rfl rfl (Sure.move rfl) ?_
      refine G.skip rfl rfl rfl ?_
      refine G.skip rfl rfl rfl ?_
      refine G.value rfl rfl rfl (Sure.pick_true rfl rfl) ?_
      refine G.value rfl rfl rfl (Sure.move rfl) ?_
      refine G.skip rfl rfl rfl ?_
      refine G.skip rfl rfl rfl ?_
      refine G.value rfl rfl rfl (Sure.pick_true rfl rfl) ?_
      refine G.nil ?_
      refine C.cond_true rfl ?_
      refine C.region_seq ?_
      refine G.value rfl rfl rfl (Sure.build rfl rfl) ?_
      refine G.dyn0 rfl rfl ?_
      refine Dyn.storeAgg rfl rfl pkx rfl rfl rfl ?_
      refine G.nil ?_
      refine C.ret ?_
      refine Fin.th_ret ?_
      exact Fin.fn (Res.cellAgg rfl rfl rdx rfl) Split.nil ⟨rfl, staD0, rfl, sok0 _, hz, rfl⟩
end Go.Proofs.YtaeeahcokiebdaaGreat
