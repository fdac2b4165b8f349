/-
  The walks of deeds as bytes.
  Conditions: the bytes are at most ten million.
-/
import Derived.Test.YtaeeahcokiebdaaWh
namespace Go.Proofs.Ytaeeahcokiebdaa
set_option maxRecDepth 20000

structure Entry where
  name : ByteArray
  no : Int
structure Run where
  fr : Int
  ad : Int
  cnt : Int
structure Ino where
  no : Int
  kind : Int
  links : Int
  size : Int
  tgt : ByteArray
  ents : List Entry
  runs : List Run
structure Deed where
  kind : Int
  no : Int
  ino : Ino
abbrev entL (e : Entry) : List Value := [.string e.name, intV e.no]
abbrev runL (r : Run) : List Value := [intV r.fr, intV r.ad, intV r.cnt]
def REnts (M : Mem) (p : Option Addr) (l : List Entry) : Prop := SlL M [] 2 p (l.map entL)
def RRuns (M : Mem) (p : Option Addr) (l : List Run) : Prop := SlL M [] 3 p (l.map runL)
/-- An inode, and where its lists lie. -/
structure InoD where
  x : Ino
  pe : Option Addr
  ce : Nat
  pr : Option Addr
  cr : Nat
abbrev inoDL (d : InoD) : List Value := [intV d.x.no, intV d.x.kind, intV d.x.links, intV d.x.size, .string d.x.tgt, .slice d.pe d.x.ents.length d.ce, .slice d.pr d.x.runs.length d.cr]
def DOk (M : Mem) (d : InoD) : Prop := REnts M d.pe d.x.ents ∧ RRuns M d.pr d.x.runs
theorem DOk.mono {M M' d} (h : DOk M d) (hl : MLe M M') : DOk M' d := ⟨SlL.mono h.1 hl, SlL.mono h.2 hl⟩
structure DeedD where
  kind : Int
  no : Int
  d : InoD
abbrev deedDL (d : DeedD) : List Value := intV d.kind :: intV d.no :: inoDL d.d
def DeedD.v (d : DeedD) : Deed := ⟨d.kind, d.no, d.d.x⟩
def RInos (M : Mem) (p : Option Addr) (l : List InoD) : Prop := SlL M [] 7 p (l.map inoDL) ∧ ∀ d ∈ l, DOk M d
def RDeeds (M : Mem) (p : Option Addr) (l : List DeedD) : Prop := SlL M [] 9 p (l.map deedDL) ∧ ∀ d ∈ l, DOk M d.d
theorem RInos.mono {M M' p l} (h : RInos M p l) (hl : MLe M M') : RInos M' p l := ⟨h.1.mono hl, fun d hd => (h.2 d hd).mono hl⟩
theorem RDeeds.mono {M M' p l} (h : RDeeds M p l) (hl : MLe M M') : RDeeds M' p l := ⟨h.1.mono hl, fun d hd => (h.2 d hd).mono hl⟩

/-! ### as bytes -/
def intB (v : Int) : List UInt8 := le (IntKind.u64.wrap v).toNat 8
def txtB (t : ByteArray) : List UInt8 := le t.size 4 ++ t.data.toList
def entB (e : Entry) : List UInt8 := txtB e.name ++ intB e.no
def runB (r : Run) : List UInt8 := intsB [r.fr, r.ad, r.cnt]
def inoB (x : Ino) : List UInt8 := intsB [x.no, x.kind, x.links, x.size] ++ txtB x.tgt ++ le x.ents.length 4 ++ (x.ents.map entB).flatten ++ le x.runs.length 4 ++ (x.runs.map runB).flatten
def deedB (d : Deed) : List UInt8 := le (IntKind.u64.wrap d.kind).toNat 1 ++ (if d.kind = 1 ∨ d.kind = 3 ∨ d.kind = 4 then intB d.no else if d.kind = 2 then inoB d.ino else [])
def deedsB (l : List Deed) : List UInt8 := (l.map deedB).flatten
@[simp] theorem intB_len (v : Int) : (intB v).length = 8 := by simp [intB]
@[simp] theorem txtB_len (t : ByteArray) : (txtB t).length = 4 + t.size := by
  have : t.data.size = t.size := rfl
  simp [txtB, this]
@[simp] theorem entB_len (e : Entry) : (entB e).length = 12 + e.name.size := by simp [entB]; omega
@[simp] theorem runB_len (r : Run) : (runB r).length = 24 := by simp [runB, intsB_len]
theorem data_len (t : ByteArray) : t.data.toList.length = t.size := by rw [Array.length_toList]; rfl
theorem u64_wrap_bd (v : Int) : 0 ≤ IntKind.u64.wrap v ∧ IntKind.u64.wrap v < 18446744073709551616 := by simp [IntKind.wrap, IntKind.bits, IntKind.signed]; omega
theorem flatten_app {α : Type} (f : α → List UInt8) (a : List α) (x : α) (b : List α) : ((a ++ x :: b).map f).flatten = (a.map f).flatten ++ f x ++ (b.map f).flatten := by simp
theorem pack_inode_spec (M : Mem) (p : Option Addr) (cap : Nat) (bs : List UInt8) (d : InoD) (hs : SB M p bs) (hd : DOk M d) (hb : bs.length + (inoB d.x).length ≤ 10000000) :
    Spec Try.prog 44 [.slice p bs.length cap, .agg (inoDL d).toArray] M [] (fun r M' H => RetB (bs ++ inoB d.x) r M' H) := by
  have hbl : (inoB d.x).length = 32 + (4 + d.x.tgt.size) + 4 + ((d.x.ents.map entB).flatten).length + 4 + ((d.x.runs.map runB).flatten).length := by simp [inoB, intsB_len]; omega
  have hel : d.x.ents.length ≤ ((d.x.ents.map entB).flatten).length := by
    induction d.x.ents with
    | nil => simp
    | cons e l ih => simp at ih ⊢; omega
  have hrl : d.x.runs.length ≤ ((d.x.runs.map runB).flatten).length := by
    induction d.x.runs with
    | nil => simp
    | cons e l ih => simp at ih ⊢; omega
  refine Spec.of_code 68 Try.func44 rfl callable44 rfl rfl fun w => ?_
  refine C.region_seq ?_
  refine G.dyn rfl rfl rfl ?_
  refine Dyn.boxAgg rfl ?_
  intro b3
  refine G.value rfl rfl rfl (Sure.assign rfl) ?_
  refine G.nil ?_
  -- draws its order
  refine C.draw_seq (_) mixed (by kernel_rfl) (Incl.refl _) ?_
  refine GD.val 0 rfl rfl rfl rfl (by kernel_rfl) rfl (Sure.move rfl) ?_
  refine GD.val 1 rfl rfl rfl rfl (by kernel_rfl) rfl (Sure.fieldAddr rfl) ?_
  refine GD.val 2 rfl rfl rfl rfl (by kernel_rfl) rfl (Sure.load rfl (by first | exact Rd.h0 | exact Rd.tl Rd.h0 | exact Rd.tl (Rd.tl Rd.h0) | exact Rd.tl (Rd.tl (Rd.tl Rd.h0)) | exact Rd.tl (Rd.tl (Rd.tl (Rd.tl Rd.h0))) | exact Rd.tl (Rd.tl (Rd.tl (Rd.tl (Rd.tl Rd.h0)))) | exact Rd.m (by assumption) | assumption) rfl) ?_
  refine GD.val 3 rfl rfl rfl rfl (by kernel_rfl) rfl (Sure.fieldAddr rfl) ?_
  refine GD.val 4 rfl rfl rfl rfl (by kernel_rfl) rfl (Sure.load rfl (by first | exact Rd.h0 | exact Rd.tl Rd.h0 | exact Rd.tl (Rd.tl Rd.h0) | exact Rd.tl (Rd.tl (Rd.tl Rd.h0)) | exact Rd.tl (Rd.tl (Rd.tl (Rd.tl Rd.h0))) | exact Rd.tl (Rd.tl (Rd.tl (Rd.tl (Rd.tl Rd.h0)))) | exact Rd.m (by assumption) | assumption) rfl) ?_
  refine GD.val 5 rfl rfl rfl rfl (by kernel_rfl) rfl (Sure.fieldAddr rfl) ?_
  refine GD.val 6 rfl rfl rfl rfl (by kernel_rfl) rfl (Sure.load rfl (by first | exact Rd.h0 | exact Rd.tl Rd.h0 | exact Rd.tl (Rd.tl Rd.h0) | exact Rd.tl (Rd.tl (Rd.tl Rd.h0)) | exact Rd.tl (Rd.tl (Rd.tl (Rd.tl Rd.h0))) | exact Rd.tl (Rd.tl (Rd.tl (Rd.tl (Rd.tl Rd.h0)))) | exact Rd.m (by assumption) | assumption) rfl) ?_
  refine GD.val 7 rfl rfl rfl rfl (by kernel_rfl) rfl (Sure.fieldAddr rfl) ?_
  refine GD.val 8 rfl rfl rfl rfl (by kernel_rfl) rfl (Sure.load rfl (by first | exact Rd.h0 | exact Rd.tl Rd.h0 | exact Rd.tl (Rd.tl Rd.h0) | exact Rd.tl (Rd.tl (Rd.tl Rd.h0)) | exact Rd.tl (Rd.tl (Rd.tl (Rd.tl Rd.h0))) | exact Rd.tl (Rd.tl (Rd.tl (Rd.tl (Rd.tl Rd.h0)))) | exact Rd.m (by assumption) | assumption) rfl) ?_
  refine GD.val 11 rfl rfl rfl rfl (by kernel_rfl) rfl (Sure.fieldAddr rfl) ?_
  refine GD.val 12 rfl rfl rfl rfl (by kernel_rfl) rfl (Sure.load rfl (by first | exact Rd.h0 | exact Rd.tl Rd.h0 | exact Rd.tl (Rd.tl Rd.h0) | exact Rd.tl (Rd.tl (Rd.tl Rd.h0)) | exact Rd.tl (Rd.tl (Rd.tl (Rd.tl Rd.h0))) | exact Rd.tl (Rd.tl (Rd.tl (Rd.tl (Rd.tl Rd.h0)))) | exact Rd.m (by assumption) | assumption) rfl) ?_
  refine GD.one 9 (by kernel_rfl) rfl rfl (by kernel_rfl) ?_
  refine Next.dyn 9 rfl rfl rfl (by kernel_rfl) (by kernel_rfl) rfl ?_
  refine Dyn.buildSlice rfl rfl rfl (by simp [vcl]) (by decide) ?_
  intro b2
  refine ⟨MLe.refl _, Incl.cons (by simp) (Incl.nil _), ?_⟩
  refine GD.mem (Incl.refl _) fun M2 le2 hM2 => ?_
  refine GD.one 10 (by kernel_rfl) rfl rfl (by kernel_rfl) ?_
  refine Next.call 10 rfl rfl rfl (by kernel_rfl) (by kernel_rfl) rfl rfl rfl rfl (ints_spec M2 p (some ⟨b2, 0, Option.none⟩) cap 4 bs [d.x.no, d.x.kind, d.x.links, d.x.size] (hs.mono le2) ⟨rfl, fun _ => ⟨b2, 0, _, rfl, Rd.m hM2, rfl⟩⟩ (by simp; omega)) (Split.nil) ?_
  rintro _ M3 _ le3 ⟨rfl, p3, c3, rfl, hs3⟩
  refine ⟨(by first | exact Incl.refl _ | exact Incl.nil _ | exact Incl.cons (by simp) (Incl.nil _) | exact Incl.cons (by simp) (Incl.cons (by simp) (Incl.nil _)) | exact Incl.cons (by simp) (Incl.cons (by simp) (Incl.cons (by simp) (Incl.nil _)))), ?_⟩
  refine GD.one 13 (by kernel_rfl) rfl rfl (by kernel_rfl) ?_
  refine Next.call 13 rfl rfl rfl (by kernel_rfl) (by kernel_rfl) rfl rfl rfl rfl ((putText_spec M3 p3 c3 _ d.x.tgt hs3 (by simp [intsB_len]; omega) (by omega)).retB) (Split.nil) ?_
  rintro _ M4 _ le4 ⟨rfl, p4, c4, rfl, hs4⟩
  refine ⟨(by first | exact Incl.refl _ | exact Incl.nil _ | exact Incl.cons (by simp) (Incl.nil _) | exact Incl.cons (by simp) (Incl.cons (by simp) (Incl.nil _)) | exact Incl.cons (by simp) (Incl.cons (by simp) (Incl.cons (by simp) (Incl.nil _)))), ?_⟩
  refine GD.one 14 (by kernel_rfl) rfl rfl (by kernel_rfl) ?_
  refine Next.dyn 14 rfl rfl rfl (by kernel_rfl) (by kernel_rfl) rfl (Dyn.assign rfl ?_)
  refine ⟨MLe.refl _, (by first | exact Incl.refl _ | exact Incl.nil _ | exact Incl.cons (by simp) (Incl.nil _) | exact Incl.cons (by simp) (Incl.cons (by simp) (Incl.nil _)) | exact Incl.cons (by simp) (Incl.cons (by simp) (Incl.cons (by simp) (Incl.nil _)))), ?_⟩
  refine GD.done (by kernel_rfl) (by kernel_rfl) ?_
  refine C.region_seq ?_
  refine G.value rfl rfl rfl (Sure.move rfl) ?_
  refine G.value rfl rfl rfl (Sure.fieldAddr rfl) ?_
  refine G.value rfl rfl rfl (Sure.load rfl (by first | exact Rd.h0 | exact Rd.tl Rd.h0 | exact Rd.tl (Rd.tl Rd.h0) | exact Rd.tl (Rd.tl (Rd.tl Rd.h0)) | exact Rd.tl (Rd.tl (Rd.tl (Rd.tl Rd.h0))) | exact Rd.tl (Rd.tl (Rd.tl (Rd.tl (Rd.tl Rd.h0)))) | exact Rd.m (by assumption) | assumption) rfl) ?_
  refine G.value rfl rfl rfl (Sure.len_slice rfl) ?_
  refine G.value rfl rfl rfl (Sure.conv rfl (inKu64 (by omega))) ?_
  refine G.call rfl rfl rfl rfl rfl rfl ((put_spec M4 p4 c4 _ d.x.ents.length 4 hs4 (by simp [intsB_len]; omega) (by omega) (by omega)).retB) (Split.nil) ?_
  rintro _ M5 _ le5 ⟨rfl, p5, c5, rfl, hs5⟩
  refine G.value rfl rfl rfl (Sure.assign rfl) ?_
  refine G.nil ?_
  refine C.seq ?_
  refine C.region_seq ?_
  refine G.value rfl rfl rfl (Sure.fieldAddr rfl) ?_
  refine G.value rfl rfl rfl (Sure.load rfl (by first | exact Rd.h0 | exact Rd.tl Rd.h0 | exact Rd.tl (Rd.tl Rd.h0) | exact Rd.tl (Rd.tl (Rd.tl Rd.h0)) | exact Rd.tl (Rd.tl (Rd.tl (Rd.tl Rd.h0))) | exact Rd.tl (Rd.tl (Rd.tl (Rd.tl (Rd.tl Rd.h0)))) | exact Rd.m (by assumption) | assumption) rfl) ?_
  refine G.value rfl rfl rfl (Sure.len_slice rfl) ?_
  refine G.value rfl rfl rfl (Sure.move rfl) ?_
  refine G.nil ?_
  refine C.block ?_
  have e5 : bs ++ intsB [d.x.no, d.x.kind, d.x.links, d.x.size] ++ le d.x.tgt.size 4 ++ d.x.tgt.data.toList ++ le d.x.ents.length 4 = bs ++ (intsB [d.x.no, d.x.kind, d.x.links, d.x.size] ++ txtB d.x.tgt ++ le d.x.ents.length 4) := by simp [txtB]
  rw [e5] at hs5 ⊢
  have hl1 : (intsB [d.x.no, d.x.kind, d.x.links, d.x.size] ++ txtB d.x.tgt ++ le d.x.ents.length 4).length = 32 + (4 + d.x.tgt.size) + 4 := by simp [intsB_len]; omega
  generalize hP : intsB [d.x.no, d.x.kind, d.x.links, d.x.size] ++ txtB d.x.tgt ++ le d.x.ents.length 4 = P at hs5 hl1 ⊢
  clear e5
  have hle5 : MLe M M5 := ((le2.trans le3).trans le4).trans le5
  refine C.loop (fun k E M' H => ∃ (a b : List Entry) (v : Value), MLe M M' ∧ d.x.ents = a ++ b ∧ b.length = k ∧ RetB (bs ++ (P ++ (a.map entB).flatten)) v M' [] ∧ E = [(0, v), (3, .pointer (some ⟨b3, 0, Option.none⟩)), (30, .slice d.pe d.x.ents.length d.ce), (31, .int .i64 d.x.ents.length), (32, .int .i64 a.length)] ∧ H = [(b3, .cells (inoDL d))]) (d.x.ents.length) ?_ ?_
  · exact ⟨_, _, ⟨[], d.x.ents, _, hle5, rfl, rfl, ⟨rfl, p5, c5, rfl, by simpa using hs5⟩, rfl, rfl⟩, ⟨by simp; rfl, rfl, rfl, rfl, rfl, trivial⟩, _, Split.cons .here Split.nil⟩
  · clear hle5 le2 le3 le4 le5 hs5 hs4 hs3
    rintro k E M' H ⟨a, b, v, hle, hab, hk, ⟨-, p1, c1, rfl, hsb⟩, rfl, rfl⟩
    have hfl : (d.x.ents.map entB).flatten.length = (a.map entB).flatten.length + (b.map entB).flatten.length := by rw [hab]; simp
    have hlen : d.x.ents.length = a.length + b.length := by rw [hab]; simp
    refine C.region_seq ?_
    refine G.value rfl rfl rfl (Sure.lss rfl rfl) ?_
    refine G.nil ?_
    refine C.seq ?_
    refine C.cond_dec rfl (fun hlt => ?_) (fun hlt => ?_)
    · cases b with
      | nil => simp at hlen hlt; omega
      | cons x b =>
        have hxl : ((x :: b).map entB).flatten.length = 12 + x.name.size + (b.map entB).flatten.length := by simp
        obtain ⟨q', o, c, hpe, hrd, hseg⟩ := SlL.row (i := a.length) (e := entL x) (SlL.heap (H := [(b3, .cells (inoDL d))]) (hd.1.mono hle)) (by simp [hab])
        rw [hpe]
        refine C.skip ?_
        refine Fin.th ?_
        refine C.seq ?_
        refine C.block ?_
        refine C.region_seq ?_
        refine G.value rfl rfl rfl (Sure.indexAddr rfl rfl (by simp; omega)) ?_
        refine G.value rfl rfl rfl (Sure.loadAgg rfl hrd hseg) ?_
        refine G.dyn rfl rfl rfl ?_
        refine Dyn.allocAgg ?_
        intro b6
        refine G.dyn0 rfl rfl ?_
        refine Dyn.storeAgg rfl rfl (by first | exact Pick.here | exact Pick.there Pick.here | exact Pick.there (Pick.there Pick.here) | exact Pick.there (Pick.there (Pick.there Pick.here)) | exact Pick.there (Pick.there (Pick.there (Pick.there Pick.here))) | exact Pick.there (Pick.there (Pick.there (Pick.there (Pick.there Pick.here))))) rfl rfl rfl ?_
        refine G.nil ?_
        -- draws its order
        refine C.draw (_) mixed (by kernel_rfl) (Incl.refl _) ?_
        refine GD.val 0 rfl rfl rfl rfl (by kernel_rfl) rfl (Sure.move rfl) ?_
        refine GD.val 1 rfl rfl rfl rfl (by kernel_rfl) rfl (Sure.fieldAddr rfl) ?_
        refine GD.val 2 rfl rfl rfl rfl (by kernel_rfl) rfl (Sure.load rfl (by first | exact Rd.h0 | exact Rd.tl Rd.h0 | exact Rd.tl (Rd.tl Rd.h0) | exact Rd.tl (Rd.tl (Rd.tl Rd.h0)) | exact Rd.tl (Rd.tl (Rd.tl (Rd.tl Rd.h0))) | exact Rd.tl (Rd.tl (Rd.tl (Rd.tl (Rd.tl Rd.h0)))) | exact Rd.m (by assumption) | assumption) rfl) ?_
        refine GD.val 4 rfl rfl rfl rfl (by kernel_rfl) rfl (Sure.fieldAddr rfl) ?_
        refine GD.val 5 rfl rfl rfl rfl (by kernel_rfl) rfl (Sure.load rfl (by first | exact Rd.h0 | exact Rd.tl Rd.h0 | exact Rd.tl (Rd.tl Rd.h0) | exact Rd.tl (Rd.tl (Rd.tl Rd.h0)) | exact Rd.tl (Rd.tl (Rd.tl (Rd.tl Rd.h0))) | exact Rd.tl (Rd.tl (Rd.tl (Rd.tl (Rd.tl Rd.h0)))) | exact Rd.m (by assumption) | assumption) rfl) ?_
        refine GD.one 3 (by kernel_rfl) rfl rfl (by kernel_rfl) ?_
        refine Next.call 3 rfl rfl rfl (by kernel_rfl) (by kernel_rfl) rfl rfl rfl rfl ((putText_spec M' p1 c1 _ x.name hsb (by simp only [List.length_append]; omega) (by omega)).retB) (Split.nil) ?_
        rintro _ M2 _ le2 ⟨rfl, p2, c2, rfl, hs2⟩
        refine ⟨(by first | exact Incl.refl _ | exact Incl.nil _ | exact Incl.cons (by simp) (Incl.nil _) | exact Incl.cons (by simp) (Incl.cons (by simp) (Incl.nil _)) | exact Incl.cons (by simp) (Incl.cons (by simp) (Incl.cons (by simp) (Incl.nil _)))), ?_⟩
        refine GD.one 6 (by kernel_rfl) rfl rfl (by kernel_rfl) ?_
        refine Next.call 6 rfl rfl rfl (by kernel_rfl) (by kernel_rfl) rfl rfl rfl rfl ((putInt_spec M2 p2 c2 _ x.no hs2 (by simp only [List.length_append, le_len, data_len]; omega)).retB) (Split.nil) ?_
        rintro _ M3 _ le3 ⟨rfl, p3, c3, rfl, hs3⟩
        refine ⟨(by first | exact Incl.refl _ | exact Incl.nil _ | exact Incl.cons (by simp) (Incl.nil _) | exact Incl.cons (by simp) (Incl.cons (by simp) (Incl.nil _)) | exact Incl.cons (by simp) (Incl.cons (by simp) (Incl.cons (by simp) (Incl.nil _)))), ?_⟩
        refine GD.one 7 (by kernel_rfl) rfl rfl (by kernel_rfl) ?_
        refine Next.dyn 7 rfl rfl rfl (by kernel_rfl) (by kernel_rfl) rfl (Dyn.assign rfl ?_)
        refine ⟨MLe.refl _, (by first | exact Incl.refl _ | exact Incl.nil _ | exact Incl.cons (by simp) (Incl.nil _) | exact Incl.cons (by simp) (Incl.cons (by simp) (Incl.nil _)) | exact Incl.cons (by simp) (Incl.cons (by simp) (Incl.cons (by simp) (Incl.nil _)))), ?_⟩
        refine GD.done (by kernel_rfl) (by kernel_rfl) ?_
        refine Fin.blk ?_
        refine Fin.th ?_
        refine C.region ?_
        refine G.value rfl rfl rfl (Sure.add rfl rfl (inK64 (by omega))) ?_
        refine G.value rfl rfl rfl (Sure.move rfl) ?_
        refine G.nil ?_
        refine Fin.th ?_
        have e3 : bs ++ (P ++ (a.map entB).flatten) ++ le x.name.size 4 ++ x.name.data.toList ++ le (IntKind.u64.wrap x.no).toNat 8 = bs ++ (P ++ ((a ++ [x]).map entB).flatten) := by simp [entB, txtB, intB]
        rw [e3] at hs3 ⊢
        refine ⟨b.length, _, _, by simp at hk; omega, ⟨a ++ [x], b, _, (hle.trans le2).trans le3, by simp [hab], rfl, ⟨rfl, p3, c3, rfl, hs3⟩, rfl, rfl⟩, ⟨rfl, rfl, rfl, rfl, by simp; rfl, trivial⟩, _, Split.cons (by simpa using Pick.there Pick.here) Split.nil⟩
    · have hb0 : b = [] := List.eq_nil_of_length_eq_zero (by omega)
      subst hb0
      simp only [List.append_nil] at hab
      subst hab
      clear hlen hk hfl
      refine C.exit ?_
      refine Fin.th_exit ?_
      refine Fin.th_exit ?_
      refine Fin.blk_eq ?_
      refine Fin.th ?_
      refine C.region_seq ?_
      refine G.value rfl rfl rfl (Sure.move rfl) ?_
      refine G.value rfl rfl rfl (Sure.fieldAddr rfl) ?_
      refine G.value rfl rfl rfl (Sure.load rfl (by first | exact Rd.h0 | exact Rd.tl Rd.h0 | exact Rd.tl (Rd.tl Rd.h0) | exact Rd.tl (Rd.tl (Rd.tl Rd.h0)) | exact Rd.tl (Rd.tl (Rd.tl (Rd.tl Rd.h0))) | exact Rd.tl (Rd.tl (Rd.tl (Rd.tl (Rd.tl Rd.h0)))) | exact Rd.m (by assumption) | assumption) rfl) ?_
      refine G.value rfl rfl rfl (Sure.len_slice rfl) ?_
      refine G.value rfl rfl rfl (Sure.conv rfl (inKu64 (by omega))) ?_
      refine G.call rfl rfl rfl rfl rfl rfl ((put_spec M' p1 c1 _ d.x.runs.length 4 hsb (by simp only [List.length_append]; omega) (by omega) (by omega)).retB) (Split.nil) ?_
      rintro _ M5 _ le5 ⟨rfl, p5, c5, rfl, hs5⟩
      refine G.value rfl rfl rfl (Sure.assign rfl) ?_
      refine G.nil ?_
      refine C.seq ?_
      refine C.region_seq ?_
      refine G.value rfl rfl rfl (Sure.fieldAddr rfl) ?_
      refine G.value rfl rfl rfl (Sure.load rfl (by first | exact Rd.h0 | exact Rd.tl Rd.h0 | exact Rd.tl (Rd.tl Rd.h0) | exact Rd.tl (Rd.tl (Rd.tl Rd.h0)) | exact Rd.tl (Rd.tl (Rd.tl (Rd.tl Rd.h0))) | exact Rd.tl (Rd.tl (Rd.tl (Rd.tl (Rd.tl Rd.h0)))) | exact Rd.m (by assumption) | assumption) rfl) ?_
      refine G.value rfl rfl rfl (Sure.len_slice rfl) ?_
      refine G.value rfl rfl rfl (Sure.move rfl) ?_
      refine G.nil ?_
      refine C.block ?_
      have e5 : bs ++ (P ++ (d.x.ents.map entB).flatten) ++ le d.x.runs.length 4 = bs ++ (P ++ (d.x.ents.map entB).flatten ++ le d.x.runs.length 4) := by simp
      rw [e5] at hs5 ⊢
      have hql : (P ++ (d.x.ents.map entB).flatten ++ le d.x.runs.length 4).length = 32 + (4 + d.x.tgt.size) + 4 + (d.x.ents.map entB).flatten.length + 4 := by simp only [List.length_append, le_len]; omega
      have hino : inoB d.x = (P ++ (d.x.ents.map entB).flatten ++ le d.x.runs.length 4) ++ (d.x.runs.map runB).flatten := by subst hP; simp [inoB]
      rw [hino]
      generalize P ++ (d.x.ents.map entB).flatten ++ le d.x.runs.length 4 = Q at hs5 hql ⊢
      have hle5 := hle.trans le5
      clear hP hl1 hsb hle le5 e5 hino
      refine C.loop (fun k E M' H => ∃ (a b : List Run) (v : Value), MLe M M' ∧ d.x.runs = a ++ b ∧ b.length = k ∧ RetB (bs ++ (Q ++ (a.map runB).flatten)) v M' [] ∧ E = [(0, v), (3, .pointer (some ⟨b3, 0, Option.none⟩)), (51, .slice d.pr d.x.runs.length d.cr), (52, .int .i64 d.x.runs.length), (53, .int .i64 a.length)] ∧ H = [(b3, .cells (inoDL d))]) (d.x.runs.length) ?_ ?_
      · exact ⟨_, _, ⟨[], d.x.runs, _, hle5, rfl, rfl, ⟨rfl, p5, c5, rfl, by simpa using hs5⟩, rfl, rfl⟩, ⟨by simp; rfl, rfl, rfl, rfl, rfl, trivial⟩, _, Split.cons .here Split.nil⟩
      · clear hle5 hs5
        rintro k E M' H ⟨a, b, v, hle, hab, hk, ⟨-, p1, c1, rfl, hsb⟩, rfl, rfl⟩
        have hfl : (d.x.runs.map runB).flatten.length = (a.map runB).flatten.length + (b.map runB).flatten.length := by rw [hab]; simp
        have hlen : d.x.runs.length = a.length + b.length := by rw [hab]; simp
        refine C.region_seq ?_
        refine G.value rfl rfl rfl (Sure.lss rfl rfl) ?_
        refine G.nil ?_
        refine C.seq ?_
        refine C.cond_dec rfl (fun hlt => ?_) (fun hlt => ?_)
        · cases b with
          | nil => simp at hlen hlt; omega
          | cons x b =>
            have hxl : ((x :: b).map runB).flatten.length = 24 + (b.map runB).flatten.length := by simp
            obtain ⟨q', o, c, hpe, hrd, hseg⟩ := SlL.row (i := a.length) (e := runL x) (SlL.heap (H := [(b3, .cells (inoDL d))]) (hd.2.mono hle)) (by simp [hab])
            rw [hpe]
            refine C.skip ?_
            refine Fin.th ?_
            refine C.seq ?_
            refine C.block ?_
            refine C.region_seq ?_
            refine G.value rfl rfl rfl (Sure.indexAddr rfl rfl (by simp; omega)) ?_
            refine G.value rfl rfl rfl (Sure.loadAgg rfl hrd hseg) ?_
            refine G.dyn rfl rfl rfl ?_
            refine Dyn.allocAgg ?_
            intro b8
            refine G.dyn0 rfl rfl ?_
            refine Dyn.storeAgg rfl rfl (by first | exact Pick.here | exact Pick.there Pick.here | exact Pick.there (Pick.there Pick.here) | exact Pick.there (Pick.there (Pick.there Pick.here)) | exact Pick.there (Pick.there (Pick.there (Pick.there Pick.here))) | exact Pick.there (Pick.there (Pick.there (Pick.there (Pick.there Pick.here))))) rfl rfl rfl ?_
            refine G.nil ?_
            refine C.region ?_
            refine G.value rfl rfl rfl (Sure.move rfl) ?_
            refine G.value rfl rfl rfl (Sure.fieldAddr rfl) ?_
            refine G.value rfl rfl rfl (Sure.load rfl (by first | exact Rd.h0 | exact Rd.tl Rd.h0 | exact Rd.tl (Rd.tl Rd.h0) | exact Rd.tl (Rd.tl (Rd.tl Rd.h0)) | exact Rd.tl (Rd.tl (Rd.tl (Rd.tl Rd.h0))) | exact Rd.tl (Rd.tl (Rd.tl (Rd.tl (Rd.tl Rd.h0)))) | exact Rd.m (by assumption) | assumption) rfl) ?_
            refine G.value rfl rfl rfl (Sure.fieldAddr rfl) ?_
            refine G.value rfl rfl rfl (Sure.load rfl (by first | exact Rd.h0 | exact Rd.tl Rd.h0 | exact Rd.tl (Rd.tl Rd.h0) | exact Rd.tl (Rd.tl (Rd.tl Rd.h0)) | exact Rd.tl (Rd.tl (Rd.tl (Rd.tl Rd.h0))) | exact Rd.tl (Rd.tl (Rd.tl (Rd.tl (Rd.tl Rd.h0)))) | exact Rd.m (by assumption) | assumption) rfl) ?_
            refine G.value rfl rfl rfl (Sure.fieldAddr rfl) ?_
            refine G.value rfl rfl rfl (Sure.load rfl (by first | exact Rd.h0 | exact Rd.tl Rd.h0 | exact Rd.tl (Rd.tl Rd.h0) | exact Rd.tl (Rd.tl (Rd.tl Rd.h0)) | exact Rd.tl (Rd.tl (Rd.tl (Rd.tl Rd.h0))) | exact Rd.tl (Rd.tl (Rd.tl (Rd.tl (Rd.tl Rd.h0)))) | exact Rd.m (by assumption) | assumption) rfl) ?_
            refine G.dyn rfl rfl rfl ?_
            refine Dyn.buildSlice rfl rfl rfl (by simp [vcl]) (by decide) ?_
            intro b4
            refine G.donate fun M2 le2 hM2 => ?_
            refine G.call rfl rfl rfl rfl rfl rfl (ints_spec M2 p1 (some ⟨b4, 0, Option.none⟩) c1 3 _ [x.fr, x.ad, x.cnt] (hsb.mono le2) ⟨rfl, fun _ => ⟨b4, 0, _, rfl, Rd.m hM2, rfl⟩⟩ (by simp only [List.length_append, List.length_cons, List.length_nil]; omega)) (Split.nil) ?_
            rintro _ M3 _ le3 ⟨rfl, p3, c3, rfl, hs3⟩
            refine G.value rfl rfl rfl (Sure.assign rfl) ?_
            refine G.nil ?_
            refine Fin.blk ?_
            refine Fin.th ?_
            refine C.region ?_
            refine G.value rfl rfl rfl (Sure.add rfl rfl (inK64 (by omega))) ?_
            refine G.value rfl rfl rfl (Sure.move rfl) ?_
            refine G.nil ?_
            refine Fin.th ?_
            have e3 : bs ++ (Q ++ (a.map runB).flatten) ++ intsB [x.fr, x.ad, x.cnt] = bs ++ (Q ++ ((a ++ [x]).map runB).flatten) := by simp [runB]
            rw [e3] at hs3 ⊢
            refine ⟨b.length, _, _, by simp at hk; omega, ⟨a ++ [x], b, _, (hle.trans le2).trans le3, by simp [hab], rfl, ⟨rfl, p3, c3, rfl, hs3⟩, rfl, rfl⟩, ⟨rfl, rfl, rfl, rfl, by simp; rfl, trivial⟩, _, Split.cons (by simpa using Pick.there Pick.here) Split.nil⟩
        · have hb0 : b = [] := List.eq_nil_of_length_eq_zero (by omega)
          subst hb0
          simp only [List.append_nil] at hab
          subst hab
          refine C.exit ?_
          refine Fin.th_exit ?_
          refine Fin.th_exit ?_
          refine Fin.blk_eq ?_
          refine Fin.th ?_
          refine C.region_seq ?_
          refine G.value rfl rfl rfl (Sure.move rfl) ?_
          refine G.value rfl rfl rfl (Sure.assign rfl) ?_
          refine G.nil ?_
          refine C.ret ?_
          refine Fin.fn (Res.tmp rfl rfl) Split.nil ⟨rfl, p1, c1, rfl, hsb⟩
end Go.Proofs.Ytaeeahcokiebdaa
