/-
  Great text b of a proof: Ty, Wa, Wb, Wc, Wd, We, Wf, one behind the other.
  Conditions: those that each part names.
-/
import Derived.Test.YtaeeahcokiebdaaGreatFaa
import Derived.Test.YtaeeahcokiebdaaGreatChecked

/-
  The facts on this program's types, as instances; each function may be called.
  Conditions: none.
-/
namespace Go.Proofs.YtaeeahcokiebdaaGreat
theorem TyB.of {P : Program} {t : TypeId} {i : TypeInfo} {b : Nat} (h : P.toTables.types[t]? = some i) (hb : i.bytes = b) : TyB P t b := ⟨i, by unfold Tables.info?; rw [if_pos (Array.getElem?_eq_some_iff.1 h).1]; exact h, hb⟩

instance : TyI Tryz.prog 0 false 1 := ⟨Tryz.isAgg0, Tryz.sizeOf0⟩
instance : TyU Tryz.prog 0 (Go.TypeDesc.tuple #[]) := ⟨Tryz.underlying0⟩
instance : TyB Tryz.prog 0 0 := TyB.of Tryz.type0 rfl
instance : TyI Tryz.prog 1 false 1 := ⟨Tryz.isAgg1, Tryz.sizeOf1⟩
instance : TyU Tryz.prog 1 (Go.TypeDesc.func #[] #[] false) := ⟨Tryz.underlying1⟩
instance : TyB Tryz.prog 1 8 := TyB.of Tryz.type1 rfl
instance : TyZ Tryz.prog 1 Go.Value.nilFunc := ⟨Tryz.zeroValue1⟩
instance : TyI Tryz.prog 2 false 1 := ⟨Tryz.isAgg2, Tryz.sizeOf2⟩
instance : TyU Tryz.prog 2 (Go.TypeDesc.int Go.IntKind.i64) := ⟨Tryz.underlying2⟩
instance : TyB Tryz.prog 2 8 := TyB.of Tryz.type2 rfl
instance : TyZ Tryz.prog 2 (Go.Value.int Go.IntKind.i64 0) := ⟨Tryz.zeroValue2⟩
instance : TyI Tryz.prog 3 false 1 := ⟨Tryz.isAgg3, Tryz.sizeOf3⟩
instance : TyU Tryz.prog 3 (Go.TypeDesc.int Go.IntKind.i64) := ⟨Tryz.underlying3⟩
instance : TyB Tryz.prog 3 8 := TyB.of Tryz.type3 rfl
instance : TyZ Tryz.prog 3 (Go.Value.int Go.IntKind.i64 0) := ⟨Tryz.zeroValue3⟩
instance : TyI Tryz.prog 4 false 1 := ⟨Tryz.isAgg4, Tryz.sizeOf4⟩
instance : TyU Tryz.prog 4 (Go.TypeDesc.bool) := ⟨Tryz.underlying4⟩
instance : TyB Tryz.prog 4 1 := TyB.of Tryz.type4 rfl
instance : TyZ Tryz.prog 4 (Go.Value.bool false) := ⟨Tryz.zeroValue4⟩
instance : TyI Tryz.prog 5 false 1 := ⟨Tryz.isAgg5, Tryz.sizeOf5⟩
instance : TyU Tryz.prog 5 (Go.TypeDesc.int Go.IntKind.u8) := ⟨Tryz.underlying5⟩
instance : TyB Tryz.prog 5 1 := TyB.of Tryz.type5 rfl
instance : TyZ Tryz.prog 5 (Go.Value.int Go.IntKind.u8 0) := ⟨Tryz.zeroValue5⟩
instance : TyI Tryz.prog 6 false 1 := ⟨Tryz.isAgg6, Tryz.sizeOf6⟩
instance : TyU Tryz.prog 6 (Go.TypeDesc.int Go.IntKind.u8) := ⟨Tryz.underlying6⟩
instance : TyB Tryz.prog 6 1 := TyB.of Tryz.type6 rfl
instance : TyZ Tryz.prog 6 (Go.Value.int Go.IntKind.u8 0) := ⟨Tryz.zeroValue6⟩
instance : TyI Tryz.prog 7 true 4 := ⟨Tryz.isAgg7, Tryz.sizeOf7⟩
instance : TyU Tryz.prog 7 (Go.TypeDesc.struct #[{ name := "x", type := 2, offset := 0, embedded := false, tag := "", pkgPath := "runtime", byteOffset := 0 }, { name := "y", type := 3, offset := 1, embedded := false, tag := "", pkgPath := "runtime", byteOffset := 8 }, { name := "signed", type := 4, offset := 2, embedded := false, tag := "", pkgPath := "runtime", byteOffset := 16 }, { name := "code", type := 6, offset := 3, embedded := false, tag := "", pkgPath := "runtime", byteOffset := 17 }]) := ⟨Tryz.underlying7⟩
instance : TyB Tryz.prog 7 24 := TyB.of Tryz.type7 rfl
instance : TyZ Tryz.prog 7 (Go.Value.agg #[Go.Value.int Go.IntKind.i64 0, Go.Value.int Go.IntKind.i64 0, Go.Value.bool false, Go.Value.int Go.IntKind.u8 0]) := ⟨Tryz.zeroValue7⟩
instance : TyV Tryz.prog 7 0 0 := ⟨_, _, Tryz.underlying7, rfl, rfl, Tryz.isAgg2⟩
instance : TyF Tryz.prog 7 0 0 := ⟨_, _, Tryz.underlying7, rfl, rfl, fun w => ⟨_, Tryz.sizeOf2 w, by decide⟩⟩
instance : TyV Tryz.prog 7 1 1 := ⟨_, _, Tryz.underlying7, rfl, rfl, Tryz.isAgg3⟩
instance : TyF Tryz.prog 7 1 1 := ⟨_, _, Tryz.underlying7, rfl, rfl, fun w => ⟨_, Tryz.sizeOf3 w, by decide⟩⟩
instance : TyV Tryz.prog 7 2 2 := ⟨_, _, Tryz.underlying7, rfl, rfl, Tryz.isAgg4⟩
instance : TyF Tryz.prog 7 2 2 := ⟨_, _, Tryz.underlying7, rfl, rfl, fun w => ⟨_, Tryz.sizeOf4 w, by decide⟩⟩
instance : TyV Tryz.prog 7 3 3 := ⟨_, _, Tryz.underlying7, rfl, rfl, Tryz.isAgg6⟩
instance : TyF Tryz.prog 7 3 3 := ⟨_, _, Tryz.underlying7, rfl, rfl, fun w => ⟨_, Tryz.sizeOf6 w, by decide⟩⟩
instance : TyS Tryz.prog 7 [(0, 1), (1, 1), (2, 1), (3, 1)] [Go.Value.int Go.IntKind.i64 0, Go.Value.int Go.IntKind.i64 0, Go.Value.bool false, Go.Value.int Go.IntKind.u8 0] := TyS.mk' Tryz.underlying7 Tryz.zeroValue7 (fun w => by simp)
instance : TyI Tryz.prog 8 true 4 := ⟨Tryz.isAgg8, Tryz.sizeOf8⟩
instance : TyU Tryz.prog 8 (Go.TypeDesc.struct #[{ name := "x", type := 2, offset := 0, embedded := false, tag := "", pkgPath := "runtime", byteOffset := 0 }, { name := "y", type := 3, offset := 1, embedded := false, tag := "", pkgPath := "runtime", byteOffset := 8 }, { name := "signed", type := 4, offset := 2, embedded := false, tag := "", pkgPath := "runtime", byteOffset := 16 }, { name := "code", type := 6, offset := 3, embedded := false, tag := "", pkgPath := "runtime", byteOffset := 17 }]) := ⟨Tryz.underlying8⟩
instance : TyB Tryz.prog 8 24 := TyB.of Tryz.type8 rfl
instance : TyZ Tryz.prog 8 (Go.Value.agg #[Go.Value.int Go.IntKind.i64 0, Go.Value.int Go.IntKind.i64 0, Go.Value.bool false, Go.Value.int Go.IntKind.u8 0]) := ⟨Tryz.zeroValue8⟩
instance : TyV Tryz.prog 8 0 0 := ⟨_, _, Tryz.underlying8, rfl, rfl, Tryz.isAgg2⟩
instance : TyF Tryz.prog 8 0 0 := ⟨_, _, Tryz.underlying8, rfl, rfl, fun w => ⟨_, Tryz.sizeOf2 w, by decide⟩⟩
instance : TyV Tryz.prog 8 1 1 := ⟨_, _, Tryz.underlying8, rfl, rfl, Tryz.isAgg3⟩
instance : TyF Tryz.prog 8 1 1 := ⟨_, _, Tryz.underlying8, rfl, rfl, fun w => ⟨_, Tryz.sizeOf3 w, by decide⟩⟩
instance : TyV Tryz.prog 8 2 2 := ⟨_, _, Tryz.underlying8, rfl, rfl, Tryz.isAgg4⟩
instance : TyF Tryz.prog 8 2 2 := ⟨_, _, Tryz.underlying8, rfl, rfl, fun w => ⟨_, Tryz.sizeOf4 w, by decide⟩⟩
instance : TyV Tryz.prog 8 3 3 := ⟨_, _, Tryz.underlying8, rfl, rfl, Tryz.isAgg6⟩
instance : TyF Tryz.prog 8 3 3 := ⟨_, _, Tryz.underlying8, rfl, rfl, fun w => ⟨_, Tryz.sizeOf6 w, by decide⟩⟩
instance : TyS Tryz.prog 8 [(0, 1), (1, 1), (2, 1), (3, 1)] [Go.Value.int Go.IntKind.i64 0, Go.Value.int Go.IntKind.i64 0, Go.Value.bool false, Go.Value.int Go.IntKind.u8 0] := TyS.mk' Tryz.underlying8 Tryz.zeroValue8 (fun w => by simp)
instance : TyI Tryz.prog 9 false 1 := ⟨Tryz.isAgg9, Tryz.sizeOf9⟩
instance : TyU Tryz.prog 9 (Go.TypeDesc.string) := ⟨Tryz.underlying9⟩
instance : TyB Tryz.prog 9 16 := TyB.of Tryz.type9 rfl
instance : TyZ Tryz.prog 9 (Go.Value.string { data := #[] }) := ⟨Tryz.zeroValue9⟩
instance : TyI Tryz.prog 10 false 1 := ⟨Tryz.isAgg10, Tryz.sizeOf10⟩
instance : TyU Tryz.prog 10 (Go.TypeDesc.string) := ⟨Tryz.underlying10⟩
instance : TyB Tryz.prog 10 16 := TyB.of Tryz.type10 rfl
instance : TyZ Tryz.prog 10 (Go.Value.string { data := #[] }) := ⟨Tryz.zeroValue10⟩
instance : TyI Tryz.prog 11 false 1 := ⟨Tryz.isAgg11, Tryz.sizeOf11⟩
instance : TyU Tryz.prog 11 (Go.TypeDesc.string) := ⟨Tryz.underlying11⟩
instance : TyB Tryz.prog 11 16 := TyB.of Tryz.type11 rfl
instance : TyZ Tryz.prog 11 (Go.Value.string { data := #[] }) := ⟨Tryz.zeroValue11⟩
instance : TyI Tryz.prog 12 false 1 := ⟨Tryz.isAgg12, Tryz.sizeOf12⟩
instance : TyU Tryz.prog 12 (Go.TypeDesc.int Go.IntKind.u64) := ⟨Tryz.underlying12⟩
instance : TyB Tryz.prog 12 8 := TyB.of Tryz.type12 rfl
instance : TyZ Tryz.prog 12 (Go.Value.int Go.IntKind.u64 0) := ⟨Tryz.zeroValue12⟩
instance : TyI Tryz.prog 13 true 2 := ⟨Tryz.isAgg13, Tryz.sizeOf13⟩
instance : TyU Tryz.prog 13 (Go.TypeDesc.struct #[{ name := "msg", type := 9, offset := 0, embedded := false, tag := "", pkgPath := "runtime", byteOffset := 0 }, { name := "addr", type := 12, offset := 1, embedded := false, tag := "", pkgPath := "runtime", byteOffset := 16 }]) := ⟨Tryz.underlying13⟩
instance : TyB Tryz.prog 13 24 := TyB.of Tryz.type13 rfl
instance : TyZ Tryz.prog 13 (Go.Value.agg #[Go.Value.string { data := #[] }, Go.Value.int Go.IntKind.u64 0]) := ⟨Tryz.zeroValue13⟩
instance : TyV Tryz.prog 13 0 0 := ⟨_, _, Tryz.underlying13, rfl, rfl, Tryz.isAgg9⟩
instance : TyF Tryz.prog 13 0 0 := ⟨_, _, Tryz.underlying13, rfl, rfl, fun w => ⟨_, Tryz.sizeOf9 w, by decide⟩⟩
instance : TyV Tryz.prog 13 1 1 := ⟨_, _, Tryz.underlying13, rfl, rfl, Tryz.isAgg12⟩
instance : TyF Tryz.prog 13 1 1 := ⟨_, _, Tryz.underlying13, rfl, rfl, fun w => ⟨_, Tryz.sizeOf12 w, by decide⟩⟩
instance : TyS Tryz.prog 13 [(0, 1), (1, 1)] [Go.Value.string { data := #[] }, Go.Value.int Go.IntKind.u64 0] := TyS.mk' Tryz.underlying13 Tryz.zeroValue13 (fun w => by simp)
instance : TyI Tryz.prog 14 true 2 := ⟨Tryz.isAgg14, Tryz.sizeOf14⟩
instance : TyU Tryz.prog 14 (Go.TypeDesc.struct #[{ name := "msg", type := 9, offset := 0, embedded := false, tag := "", pkgPath := "runtime", byteOffset := 0 }, { name := "addr", type := 12, offset := 1, embedded := false, tag := "", pkgPath := "runtime", byteOffset := 16 }]) := ⟨Tryz.underlying14⟩
instance : TyB Tryz.prog 14 24 := TyB.of Tryz.type14 rfl
instance : TyZ Tryz.prog 14 (Go.Value.agg #[Go.Value.string { data := #[] }, Go.Value.int Go.IntKind.u64 0]) := ⟨Tryz.zeroValue14⟩
instance : TyV Tryz.prog 14 0 0 := ⟨_, _, Tryz.underlying14, rfl, rfl, Tryz.isAgg9⟩
instance : TyF Tryz.prog 14 0 0 := ⟨_, _, Tryz.underlying14, rfl, rfl, fun w => ⟨_, Tryz.sizeOf9 w, by decide⟩⟩
instance : TyV Tryz.prog 14 1 1 := ⟨_, _, Tryz.underlying14, rfl, rfl, Tryz.isAgg12⟩
instance : TyF Tryz.prog 14 1 1 := ⟨_, _, Tryz.underlying14, rfl, rfl, fun w => ⟨_, Tryz.sizeOf12 w, by decide⟩⟩
instance : TyS Tryz.prog 14 [(0, 1), (1, 1)] [Go.Value.string { data := #[] }, Go.Value.int Go.IntKind.u64 0] := TyS.mk' Tryz.underlying14 Tryz.zeroValue14 (fun w => by simp)
instance : TyI Tryz.prog 15 false 1 := ⟨Tryz.isAgg15, Tryz.sizeOf15⟩
instance : TyU Tryz.prog 15 (Go.TypeDesc.pointer 213) := ⟨Tryz.underlying15⟩
instance : TyB Tryz.prog 15 8 := TyB.of Tryz.type15 rfl
instance : TyZ Tryz.prog 15 (Go.Value.pointer none) := ⟨Tryz.zeroValue15⟩
instance : TyI Tryz.prog 16 false 1 := ⟨Tryz.isAgg16, Tryz.sizeOf16⟩
instance : TyU Tryz.prog 16 (Go.TypeDesc.pointer 216) := ⟨Tryz.underlying16⟩
instance : TyB Tryz.prog 16 8 := TyB.of Tryz.type16 rfl
instance : TyZ Tryz.prog 16 (Go.Value.pointer none) := ⟨Tryz.zeroValue16⟩
instance : TyI Tryz.prog 17 false 1 := ⟨Tryz.isAgg17, Tryz.sizeOf17⟩
instance : TyU Tryz.prog 17 (Go.TypeDesc.pointer 224) := ⟨Tryz.underlying17⟩
instance : TyB Tryz.prog 17 8 := TyB.of Tryz.type17 rfl
instance : TyZ Tryz.prog 17 (Go.Value.pointer none) := ⟨Tryz.zeroValue17⟩
instance : TyI Tryz.prog 18 true 1 := ⟨Tryz.isAgg18, Tryz.sizeOf18⟩
instance : TyU Tryz.prog 18 (Go.TypeDesc.struct #[{ name := "typ", type := 17, offset := 0, embedded := false, tag := "", pkgPath := "internal/runtime/maps", byteOffset := 0 }]) := ⟨Tryz.underlying18⟩
instance : TyB Tryz.prog 18 8 := TyB.of Tryz.type18 rfl
instance : TyZ Tryz.prog 18 (Go.Value.agg #[Go.Value.pointer none]) := ⟨Tryz.zeroValue18⟩
instance : TyV Tryz.prog 18 0 0 := ⟨_, _, Tryz.underlying18, rfl, rfl, Tryz.isAgg17⟩
instance : TyF Tryz.prog 18 0 0 := ⟨_, _, Tryz.underlying18, rfl, rfl, fun w => ⟨_, Tryz.sizeOf17 w, by decide⟩⟩
instance : TyS Tryz.prog 18 [(0, 1)] [Go.Value.pointer none] := TyS.mk' Tryz.underlying18 Tryz.zeroValue18 (fun w => by simp)
instance : TyI Tryz.prog 19 true 1 := ⟨Tryz.isAgg19, Tryz.sizeOf19⟩
instance : TyU Tryz.prog 19 (Go.TypeDesc.struct #[{ name := "typ", type := 17, offset := 0, embedded := false, tag := "", pkgPath := "internal/runtime/maps", byteOffset := 0 }]) := ⟨Tryz.underlying19⟩
instance : TyB Tryz.prog 19 8 := TyB.of Tryz.type19 rfl
instance : TyZ Tryz.prog 19 (Go.Value.agg #[Go.Value.pointer none]) := ⟨Tryz.zeroValue19⟩
instance : TyV Tryz.prog 19 0 0 := ⟨_, _, Tryz.underlying19, rfl, rfl, Tryz.isAgg17⟩
instance : TyF Tryz.prog 19 0 0 := ⟨_, _, Tryz.underlying19, rfl, rfl, fun w => ⟨_, Tryz.sizeOf17 w, by decide⟩⟩
instance : TyS Tryz.prog 19 [(0, 1)] [Go.Value.pointer none] := TyS.mk' Tryz.underlying19 Tryz.zeroValue19 (fun w => by simp)
instance : TyI Tryz.prog 20 false 1 := ⟨Tryz.isAgg20, Tryz.sizeOf20⟩
instance : TyU Tryz.prog 20 (Go.TypeDesc.interface #[]) := ⟨Tryz.underlying20⟩
instance : TyB Tryz.prog 20 16 := TyB.of Tryz.type20 rfl
instance : TyZ Tryz.prog 20 Go.Value.nilIface := ⟨Tryz.zeroValue20⟩
instance : TyI Tryz.prog 21 false 1 := ⟨Tryz.isAgg21, Tryz.sizeOf21⟩
instance : TyU Tryz.prog 21 (Go.TypeDesc.int Go.IntKind.i32) := ⟨Tryz.underlying21⟩
instance : TyB Tryz.prog 21 4 := TyB.of Tryz.type21 rfl
instance : TyZ Tryz.prog 21 (Go.Value.int Go.IntKind.i32 0) := ⟨Tryz.zeroValue21⟩
instance : TyI Tryz.prog 22 true 5 := ⟨Tryz.isAgg22, Tryz.sizeOf22⟩
instance : TyU Tryz.prog 22 (Go.TypeDesc.struct #[{ name := "Sectors", type := 3, offset := 0, embedded := false, tag := "", pkgPath := "", byteOffset := 0 }, { name := "Sector", type := 3, offset := 1, embedded := false, tag := "", pkgPath := "", byteOffset := 8 }, { name := "Blocks", type := 3, offset := 2, embedded := false, tag := "", pkgPath := "", byteOffset := 16 }, { name := "Pages", type := 3, offset := 3, embedded := false, tag := "", pkgPath := "", byteOffset := 24 }, { name := "Page", type := 3, offset := 4, embedded := false, tag := "", pkgPath := "", byteOffset := 32 }]) := ⟨Tryz.underlying22⟩
instance : TyB Tryz.prog 22 40 := TyB.of Tryz.type22 rfl
instance : TyZ Tryz.prog 22 (Go.Value.agg #[Go.Value.int Go.IntKind.i64 0, Go.Value.int Go.IntKind.i64 0, Go.Value.int Go.IntKind.i64 0, Go.Value.int Go.IntKind.i64 0, Go.Value.int Go.IntKind.i64 0]) := ⟨Tryz.zeroValue22⟩
instance : TyV Tryz.prog 22 0 0 := ⟨_, _, Tryz.underlying22, rfl, rfl, Tryz.isAgg3⟩
instance : TyF Tryz.prog 22 0 0 := ⟨_, _, Tryz.underlying22, rfl, rfl, fun w => ⟨_, Tryz.sizeOf3 w, by decide⟩⟩
instance : TyV Tryz.prog 22 1 1 := ⟨_, _, Tryz.underlying22, rfl, rfl, Tryz.isAgg3⟩
instance : TyF Tryz.prog 22 1 1 := ⟨_, _, Tryz.underlying22, rfl, rfl, fun w => ⟨_, Tryz.sizeOf3 w, by decide⟩⟩
instance : TyV Tryz.prog 22 2 2 := ⟨_, _, Tryz.underlying22, rfl, rfl, Tryz.isAgg3⟩
instance : TyF Tryz.prog 22 2 2 := ⟨_, _, Tryz.underlying22, rfl, rfl, fun w => ⟨_, Tryz.sizeOf3 w, by decide⟩⟩
instance : TyV Tryz.prog 22 3 3 := ⟨_, _, Tryz.underlying22, rfl, rfl, Tryz.isAgg3⟩
instance : TyF Tryz.prog 22 3 3 := ⟨_, _, Tryz.underlying22, rfl, rfl, fun w => ⟨_, Tryz.sizeOf3 w, by decide⟩⟩
instance : TyV Tryz.prog 22 4 4 := ⟨_, _, Tryz.underlying22, rfl, rfl, Tryz.isAgg3⟩
instance : TyF Tryz.prog 22 4 4 := ⟨_, _, Tryz.underlying22, rfl, rfl, fun w => ⟨_, Tryz.sizeOf3 w, by decide⟩⟩
instance : TyS Tryz.prog 22 [(0, 1), (1, 1), (2, 1), (3, 1), (4, 1)] [Go.Value.int Go.IntKind.i64 0, Go.Value.int Go.IntKind.i64 0, Go.Value.int Go.IntKind.i64 0, Go.Value.int Go.IntKind.i64 0, Go.Value.int Go.IntKind.i64 0] := TyS.mk' Tryz.underlying22 Tryz.zeroValue22 (fun w => by simp)
instance : TyI Tryz.prog 23 true 5 := ⟨Tryz.isAgg23, Tryz.sizeOf23⟩
instance : TyU Tryz.prog 23 (Go.TypeDesc.struct #[{ name := "Sectors", type := 3, offset := 0, embedded := false, tag := "", pkgPath := "", byteOffset := 0 }, { name := "Sector", type := 3, offset := 1, embedded := false, tag := "", pkgPath := "", byteOffset := 8 }, { name := "Blocks", type := 3, offset := 2, embedded := false, tag := "", pkgPath := "", byteOffset := 16 }, { name := "Pages", type := 3, offset := 3, embedded := false, tag := "", pkgPath := "", byteOffset := 24 }, { name := "Page", type := 3, offset := 4, embedded := false, tag := "", pkgPath := "", byteOffset := 32 }]) := ⟨Tryz.underlying23⟩
instance : TyB Tryz.prog 23 40 := TyB.of Tryz.type23 rfl
instance : TyZ Tryz.prog 23 (Go.Value.agg #[Go.Value.int Go.IntKind.i64 0, Go.Value.int Go.IntKind.i64 0, Go.Value.int Go.IntKind.i64 0, Go.Value.int Go.IntKind.i64 0, Go.Value.int Go.IntKind.i64 0]) := ⟨Tryz.zeroValue23⟩
instance : TyV Tryz.prog 23 0 0 := ⟨_, _, Tryz.underlying23, rfl, rfl, Tryz.isAgg3⟩
instance : TyF Tryz.prog 23 0 0 := ⟨_, _, Tryz.underlying23, rfl, rfl, fun w => ⟨_, Tryz.sizeOf3 w, by decide⟩⟩
instance : TyV Tryz.prog 23 1 1 := ⟨_, _, Tryz.underlying23, rfl, rfl, Tryz.isAgg3⟩
instance : TyF Tryz.prog 23 1 1 := ⟨_, _, Tryz.underlying23, rfl, rfl, fun w => ⟨_, Tryz.sizeOf3 w, by decide⟩⟩
instance : TyV Tryz.prog 23 2 2 := ⟨_, _, Tryz.underlying23, rfl, rfl, Tryz.isAgg3⟩
instance : TyF Tryz.prog 23 2 2 := ⟨_, _, Tryz.underlying23, rfl, rfl, fun w => ⟨_, Tryz.sizeOf3 w, by decide⟩⟩
instance : TyV Tryz.prog 23 3 3 := ⟨_, _, Tryz.underlying23, rfl, rfl, Tryz.isAgg3⟩
instance : TyF Tryz.prog 23 3 3 := ⟨_, _, Tryz.underlying23, rfl, rfl, fun w => ⟨_, Tryz.sizeOf3 w, by decide⟩⟩
instance : TyV Tryz.prog 23 4 4 := ⟨_, _, Tryz.underlying23, rfl, rfl, Tryz.isAgg3⟩
instance : TyF Tryz.prog 23 4 4 := ⟨_, _, Tryz.underlying23, rfl, rfl, fun w => ⟨_, Tryz.sizeOf3 w, by decide⟩⟩
instance : TyS Tryz.prog 23 [(0, 1), (1, 1), (2, 1), (3, 1), (4, 1)] [Go.Value.int Go.IntKind.i64 0, Go.Value.int Go.IntKind.i64 0, Go.Value.int Go.IntKind.i64 0, Go.Value.int Go.IntKind.i64 0, Go.Value.int Go.IntKind.i64 0] := TyS.mk' Tryz.underlying23 Tryz.zeroValue23 (fun w => by simp)
instance : TyI Tryz.prog 24 false 1 := ⟨Tryz.isAgg24, Tryz.sizeOf24⟩
instance : TyU Tryz.prog 24 (Go.TypeDesc.func #[23] #[23] false) := ⟨Tryz.underlying24⟩
instance : TyB Tryz.prog 24 8 := TyB.of Tryz.type24 rfl
instance : TyZ Tryz.prog 24 Go.Value.nilFunc := ⟨Tryz.zeroValue24⟩
instance : TyI Tryz.prog 25 false 1 := ⟨Tryz.isAgg25, Tryz.sizeOf25⟩
instance : TyU Tryz.prog 25 (Go.TypeDesc.pointer 97) := ⟨Tryz.underlying25⟩
instance : TyB Tryz.prog 25 8 := TyB.of Tryz.type25 rfl
instance : TyZ Tryz.prog 25 (Go.Value.pointer none) := ⟨Tryz.zeroValue25⟩
instance : TyI Tryz.prog 26 false 1 := ⟨Tryz.isAgg26, Tryz.sizeOf26⟩
instance : TyU Tryz.prog 26 (Go.TypeDesc.int Go.IntKind.i64) := ⟨Tryz.underlying26⟩
instance : TyB Tryz.prog 26 8 := TyB.of Tryz.type26 rfl
instance : TyZ Tryz.prog 26 (Go.Value.int Go.IntKind.i64 0) := ⟨Tryz.zeroValue26⟩
instance : TyI Tryz.prog 27 false 1 := ⟨Tryz.isAgg27, Tryz.sizeOf27⟩
instance : TyU Tryz.prog 27 (Go.TypeDesc.tuple #[25, 26]) := ⟨Tryz.underlying27⟩
instance : TyB Tryz.prog 27 0 := TyB.of Tryz.type27 rfl
instance : TyI Tryz.prog 28 false 1 := ⟨Tryz.isAgg28, Tryz.sizeOf28⟩
instance : TyU Tryz.prog 28 (Go.TypeDesc.func #[23, 29] #[25, 26] false) := ⟨Tryz.underlying28⟩
instance : TyB Tryz.prog 28 8 := TyB.of Tryz.type28 rfl
instance : TyZ Tryz.prog 28 Go.Value.nilFunc := ⟨Tryz.zeroValue28⟩
instance : TyI Tryz.prog 29 false 1 := ⟨Tryz.isAgg29, Tryz.sizeOf29⟩
instance : TyU Tryz.prog 29 (Go.TypeDesc.pointer 100) := ⟨Tryz.underlying29⟩
instance : TyB Tryz.prog 29 8 := TyB.of Tryz.type29 rfl
instance : TyZ Tryz.prog 29 (Go.Value.pointer none) := ⟨Tryz.zeroValue29⟩
instance : TyI Tryz.prog 30 false 1 := ⟨Tryz.isAgg30, Tryz.sizeOf30⟩
instance : TyU Tryz.prog 30 (Go.TypeDesc.func #[] #[29] false) := ⟨Tryz.underlying30⟩
instance : TyB Tryz.prog 30 8 := TyB.of Tryz.type30 rfl
instance : TyZ Tryz.prog 30 Go.Value.nilFunc := ⟨Tryz.zeroValue30⟩
instance : TyI Tryz.prog 31 false 1 := ⟨Tryz.isAgg31, Tryz.sizeOf31⟩
instance : TyU Tryz.prog 31 (Go.TypeDesc.func #[] #[4] false) := ⟨Tryz.underlying31⟩
instance : TyB Tryz.prog 31 8 := TyB.of Tryz.type31 rfl
instance : TyZ Tryz.prog 31 Go.Value.nilFunc := ⟨Tryz.zeroValue31⟩
instance : TyI Tryz.prog 32 false 1 := ⟨Tryz.isAgg32, Tryz.sizeOf32⟩
instance : TyU Tryz.prog 32 (Go.TypeDesc.pointer 103) := ⟨Tryz.underlying32⟩
instance : TyB Tryz.prog 32 8 := TyB.of Tryz.type32 rfl
instance : TyZ Tryz.prog 32 (Go.Value.pointer none) := ⟨Tryz.zeroValue32⟩
instance : TyI Tryz.prog 33 false 1 := ⟨Tryz.isAgg33, Tryz.sizeOf33⟩
instance : TyU Tryz.prog 33 (Go.TypeDesc.tuple #[32, 26]) := ⟨Tryz.underlying33⟩
instance : TyB Tryz.prog 33 0 := TyB.of Tryz.type33 rfl
instance : TyI Tryz.prog 34 false 1 := ⟨Tryz.isAgg34, Tryz.sizeOf34⟩
instance : TyU Tryz.prog 34 (Go.TypeDesc.func #[25] #[32, 26] false) := ⟨Tryz.underlying34⟩
instance : TyB Tryz.prog 34 8 := TyB.of Tryz.type34 rfl
instance : TyZ Tryz.prog 34 Go.Value.nilFunc := ⟨Tryz.zeroValue34⟩
instance : TyI Tryz.prog 35 false 1 := ⟨Tryz.isAgg35, Tryz.sizeOf35⟩
instance : TyU Tryz.prog 35 (Go.TypeDesc.int Go.IntKind.u64) := ⟨Tryz.underlying35⟩
instance : TyB Tryz.prog 35 8 := TyB.of Tryz.type35 rfl
instance : TyZ Tryz.prog 35 (Go.Value.int Go.IntKind.u64 0) := ⟨Tryz.zeroValue35⟩
instance : TyI Tryz.prog 36 false 1 := ⟨Tryz.isAgg36, Tryz.sizeOf36⟩
instance : TyU Tryz.prog 36 (Go.TypeDesc.slice 44) := ⟨Tryz.underlying36⟩
instance : TyB Tryz.prog 36 24 := TyB.of Tryz.type36 rfl
instance : TyZ Tryz.prog 36 (Go.Value.slice none 0 0) := ⟨Tryz.zeroValue36⟩
instance : TyI Tryz.prog 37 false 1 := ⟨Tryz.isAgg37, Tryz.sizeOf37⟩
instance : TyU Tryz.prog 37 (Go.TypeDesc.slice 3) := ⟨Tryz.underlying37⟩
instance : TyB Tryz.prog 37 24 := TyB.of Tryz.type37 rfl
instance : TyZ Tryz.prog 37 (Go.Value.slice none 0 0) := ⟨Tryz.zeroValue37⟩
instance : TyI Tryz.prog 38 true 3 := ⟨Tryz.isAgg38, Tryz.sizeOf38⟩
instance : TyU Tryz.prog 38 (Go.TypeDesc.struct #[{ name := "Next", type := 3, offset := 0, embedded := false, tag := "", pkgPath := "", byteOffset := 0 }, { name := "Inodes", type := 36, offset := 1, embedded := false, tag := "", pkgPath := "", byteOffset := 8 }, { name := "Bad", type := 37, offset := 2, embedded := false, tag := "", pkgPath := "", byteOffset := 32 }]) := ⟨Tryz.underlying38⟩
instance : TyB Tryz.prog 38 56 := TyB.of Tryz.type38 rfl
instance : TyZ Tryz.prog 38 (Go.Value.agg #[Go.Value.int Go.IntKind.i64 0, Go.Value.slice none 0 0, Go.Value.slice none 0 0]) := ⟨Tryz.zeroValue38⟩
instance : TyV Tryz.prog 38 0 0 := ⟨_, _, Tryz.underlying38, rfl, rfl, Tryz.isAgg3⟩
instance : TyF Tryz.prog 38 0 0 := ⟨_, _, Tryz.underlying38, rfl, rfl, fun w => ⟨_, Tryz.sizeOf3 w, by decide⟩⟩
instance : TyV Tryz.prog 38 1 1 := ⟨_, _, Tryz.underlying38, rfl, rfl, Tryz.isAgg36⟩
instance : TyF Tryz.prog 38 1 1 := ⟨_, _, Tryz.underlying38, rfl, rfl, fun w => ⟨_, Tryz.sizeOf36 w, by decide⟩⟩
instance : TyV Tryz.prog 38 2 2 := ⟨_, _, Tryz.underlying38, rfl, rfl, Tryz.isAgg37⟩
instance : TyF Tryz.prog 38 2 2 := ⟨_, _, Tryz.underlying38, rfl, rfl, fun w => ⟨_, Tryz.sizeOf37 w, by decide⟩⟩
instance : TyS Tryz.prog 38 [(0, 1), (1, 1), (2, 1)] [Go.Value.int Go.IntKind.i64 0, Go.Value.slice none 0 0, Go.Value.slice none 0 0] := TyS.mk' Tryz.underlying38 Tryz.zeroValue38 (fun w => by simp)
instance : TyI Tryz.prog 39 true 3 := ⟨Tryz.isAgg39, Tryz.sizeOf39⟩
instance : TyU Tryz.prog 39 (Go.TypeDesc.struct #[{ name := "Next", type := 3, offset := 0, embedded := false, tag := "", pkgPath := "", byteOffset := 0 }, { name := "Inodes", type := 36, offset := 1, embedded := false, tag := "", pkgPath := "", byteOffset := 8 }, { name := "Bad", type := 37, offset := 2, embedded := false, tag := "", pkgPath := "", byteOffset := 32 }]) := ⟨Tryz.underlying39⟩
instance : TyB Tryz.prog 39 56 := TyB.of Tryz.type39 rfl
instance : TyZ Tryz.prog 39 (Go.Value.agg #[Go.Value.int Go.IntKind.i64 0, Go.Value.slice none 0 0, Go.Value.slice none 0 0]) := ⟨Tryz.zeroValue39⟩
instance : TyV Tryz.prog 39 0 0 := ⟨_, _, Tryz.underlying39, rfl, rfl, Tryz.isAgg3⟩
instance : TyF Tryz.prog 39 0 0 := ⟨_, _, Tryz.underlying39, rfl, rfl, fun w => ⟨_, Tryz.sizeOf3 w, by decide⟩⟩
instance : TyV Tryz.prog 39 1 1 := ⟨_, _, Tryz.underlying39, rfl, rfl, Tryz.isAgg36⟩
instance : TyF Tryz.prog 39 1 1 := ⟨_, _, Tryz.underlying39, rfl, rfl, fun w => ⟨_, Tryz.sizeOf36 w, by decide⟩⟩
instance : TyV Tryz.prog 39 2 2 := ⟨_, _, Tryz.underlying39, rfl, rfl, Tryz.isAgg37⟩
instance : TyF Tryz.prog 39 2 2 := ⟨_, _, Tryz.underlying39, rfl, rfl, fun w => ⟨_, Tryz.sizeOf37 w, by decide⟩⟩
instance : TyS Tryz.prog 39 [(0, 1), (1, 1), (2, 1)] [Go.Value.int Go.IntKind.i64 0, Go.Value.slice none 0 0, Go.Value.slice none 0 0] := TyS.mk' Tryz.underlying39 Tryz.zeroValue39 (fun w => by simp)
instance : TyI Tryz.prog 40 false 1 := ⟨Tryz.isAgg40, Tryz.sizeOf40⟩
instance : TyU Tryz.prog 40 (Go.TypeDesc.func #[] #[39] false) := ⟨Tryz.underlying40⟩
instance : TyB Tryz.prog 40 8 := TyB.of Tryz.type40 rfl
instance : TyZ Tryz.prog 40 Go.Value.nilFunc := ⟨Tryz.zeroValue40⟩
instance : TyI Tryz.prog 41 false 1 := ⟨Tryz.isAgg41, Tryz.sizeOf41⟩
instance : TyU Tryz.prog 41 (Go.TypeDesc.slice 119) := ⟨Tryz.underlying41⟩
instance : TyB Tryz.prog 41 24 := TyB.of Tryz.type41 rfl
instance : TyZ Tryz.prog 41 (Go.Value.slice none 0 0) := ⟨Tryz.zeroValue41⟩
instance : TyI Tryz.prog 42 false 1 := ⟨Tryz.isAgg42, Tryz.sizeOf42⟩
instance : TyU Tryz.prog 42 (Go.TypeDesc.slice 131) := ⟨Tryz.underlying42⟩
instance : TyB Tryz.prog 42 24 := TyB.of Tryz.type42 rfl
instance : TyZ Tryz.prog 42 (Go.Value.slice none 0 0) := ⟨Tryz.zeroValue42⟩
instance : TyI Tryz.prog 43 true 7 := ⟨Tryz.isAgg43, Tryz.sizeOf43⟩
instance : TyU Tryz.prog 43 (Go.TypeDesc.struct #[{ name := "No", type := 3, offset := 0, embedded := false, tag := "", pkgPath := "", byteOffset := 0 }, { name := "Kind", type := 3, offset := 1, embedded := false, tag := "", pkgPath := "", byteOffset := 8 }, { name := "Links", type := 3, offset := 2, embedded := false, tag := "", pkgPath := "", byteOffset := 16 }, { name := "Size", type := 3, offset := 3, embedded := false, tag := "", pkgPath := "", byteOffset := 24 }, { name := "Target", type := 9, offset := 4, embedded := false, tag := "", pkgPath := "", byteOffset := 32 }, { name := "Entries", type := 41, offset := 5, embedded := false, tag := "", pkgPath := "", byteOffset := 48 }, { name := "Runs", type := 42, offset := 6, embedded := false, tag := "", pkgPath := "", byteOffset := 72 }]) := ⟨Tryz.underlying43⟩
instance : TyB Tryz.prog 43 96 := TyB.of Tryz.type43 rfl
instance : TyZ Tryz.prog 43 (Go.Value.agg #[Go.Value.int Go.IntKind.i64 0, Go.Value.int Go.IntKind.i64 0, Go.Value.int Go.IntKind.i64 0, Go.Value.int Go.IntKind.i64 0, Go.Value.string { data := #[] }, Go.Value.slice none 0 0, Go.Value.slice none 0 0]) := ⟨Tryz.zeroValue43⟩
instance : TyV Tryz.prog 43 0 0 := ⟨_, _, Tryz.underlying43, rfl, rfl, Tryz.isAgg3⟩
instance : TyF Tryz.prog 43 0 0 := ⟨_, _, Tryz.underlying43, rfl, rfl, fun w => ⟨_, Tryz.sizeOf3 w, by decide⟩⟩
instance : TyV Tryz.prog 43 1 1 := ⟨_, _, Tryz.underlying43, rfl, rfl, Tryz.isAgg3⟩
instance : TyF Tryz.prog 43 1 1 := ⟨_, _, Tryz.underlying43, rfl, rfl, fun w => ⟨_, Tryz.sizeOf3 w, by decide⟩⟩
instance : TyV Tryz.prog 43 2 2 := ⟨_, _, Tryz.underlying43, rfl, rfl, Tryz.isAgg3⟩
instance : TyF Tryz.prog 43 2 2 := ⟨_, _, Tryz.underlying43, rfl, rfl, fun w => ⟨_, Tryz.sizeOf3 w, by decide⟩⟩
instance : TyV Tryz.prog 43 3 3 := ⟨_, _, Tryz.underlying43, rfl, rfl, Tryz.isAgg3⟩
instance : TyF Tryz.prog 43 3 3 := ⟨_, _, Tryz.underlying43, rfl, rfl, fun w => ⟨_, Tryz.sizeOf3 w, by decide⟩⟩
instance : TyV Tryz.prog 43 4 4 := ⟨_, _, Tryz.underlying43, rfl, rfl, Tryz.isAgg9⟩
instance : TyF Tryz.prog 43 4 4 := ⟨_, _, Tryz.underlying43, rfl, rfl, fun w => ⟨_, Tryz.sizeOf9 w, by decide⟩⟩
instance : TyV Tryz.prog 43 5 5 := ⟨_, _, Tryz.underlying43, rfl, rfl, Tryz.isAgg41⟩
instance : TyF Tryz.prog 43 5 5 := ⟨_, _, Tryz.underlying43, rfl, rfl, fun w => ⟨_, Tryz.sizeOf41 w, by decide⟩⟩
instance : TyV Tryz.prog 43 6 6 := ⟨_, _, Tryz.underlying43, rfl, rfl, Tryz.isAgg42⟩
instance : TyF Tryz.prog 43 6 6 := ⟨_, _, Tryz.underlying43, rfl, rfl, fun w => ⟨_, Tryz.sizeOf42 w, by decide⟩⟩
instance : TyS Tryz.prog 43 [(0, 1), (1, 1), (2, 1), (3, 1), (4, 1), (5, 1), (6, 1)] [Go.Value.int Go.IntKind.i64 0, Go.Value.int Go.IntKind.i64 0, Go.Value.int Go.IntKind.i64 0, Go.Value.int Go.IntKind.i64 0, Go.Value.string { data := #[] }, Go.Value.slice none 0 0, Go.Value.slice none 0 0] := TyS.mk' Tryz.underlying43 Tryz.zeroValue43 (fun w => by simp)
instance : TyI Tryz.prog 44 true 7 := ⟨Tryz.isAgg44, Tryz.sizeOf44⟩
instance : TyU Tryz.prog 44 (Go.TypeDesc.struct #[{ name := "No", type := 3, offset := 0, embedded := false, tag := "", pkgPath := "", byteOffset := 0 }, { name := "Kind", type := 3, offset := 1, embedded := false, tag := "", pkgPath := "", byteOffset := 8 }, { name := "Links", type := 3, offset := 2, embedded := false, tag := "", pkgPath := "", byteOffset := 16 }, { name := "Size", type := 3, offset := 3, embedded := false, tag := "", pkgPath := "", byteOffset := 24 }, { name := "Target", type := 9, offset := 4, embedded := false, tag := "", pkgPath := "", byteOffset := 32 }, { name := "Entries", type := 41, offset := 5, embedded := false, tag := "", pkgPath := "", byteOffset := 48 }, { name := "Runs", type := 42, offset := 6, embedded := false, tag := "", pkgPath := "", byteOffset := 72 }]) := ⟨Tryz.underlying44⟩
instance : TyB Tryz.prog 44 96 := TyB.of Tryz.type44 rfl
instance : TyZ Tryz.prog 44 (Go.Value.agg #[Go.Value.int Go.IntKind.i64 0, Go.Value.int Go.IntKind.i64 0, Go.Value.int Go.IntKind.i64 0, Go.Value.int Go.IntKind.i64 0, Go.Value.string { data := #[] }, Go.Value.slice none 0 0, Go.Value.slice none 0 0]) := ⟨Tryz.zeroValue44⟩
instance : TyV Tryz.prog 44 0 0 := ⟨_, _, Tryz.underlying44, rfl, rfl, Tryz.isAgg3⟩
instance : TyF Tryz.prog 44 0 0 := ⟨_, _, Tryz.underlying44, rfl, rfl, fun w => ⟨_, Tryz.sizeOf3 w, by decide⟩⟩
instance : TyV Tryz.prog 44 1 1 := ⟨_, _, Tryz.underlying44, rfl, rfl, Tryz.isAgg3⟩
instance : TyF Tryz.prog 44 1 1 := ⟨_, _, Tryz.underlying44, rfl, rfl, fun w => ⟨_, Tryz.sizeOf3 w, by decide⟩⟩
instance : TyV Tryz.prog 44 2 2 := ⟨_, _, Tryz.underlying44, rfl, rfl, Tryz.isAgg3⟩
instance : TyF Tryz.prog 44 2 2 := ⟨_, _, Tryz.underlying44, rfl, rfl, fun w => ⟨_, Tryz.sizeOf3 w, by decide⟩⟩
instance : TyV Tryz.prog 44 3 3 := ⟨_, _, Tryz.underlying44, rfl, rfl, Tryz.isAgg3⟩
instance : TyF Tryz.prog 44 3 3 := ⟨_, _, Tryz.underlying44, rfl, rfl, fun w => ⟨_, Tryz.sizeOf3 w, by decide⟩⟩
instance : TyV Tryz.prog 44 4 4 := ⟨_, _, Tryz.underlying44, rfl, rfl, Tryz.isAgg9⟩
instance : TyF Tryz.prog 44 4 4 := ⟨_, _, Tryz.underlying44, rfl, rfl, fun w => ⟨_, Tryz.sizeOf9 w, by decide⟩⟩
instance : TyV Tryz.prog 44 5 5 := ⟨_, _, Tryz.underlying44, rfl, rfl, Tryz.isAgg41⟩
instance : TyF Tryz.prog 44 5 5 := ⟨_, _, Tryz.underlying44, rfl, rfl, fun w => ⟨_, Tryz.sizeOf41 w, by decide⟩⟩
instance : TyV Tryz.prog 44 6 6 := ⟨_, _, Tryz.underlying44, rfl, rfl, Tryz.isAgg42⟩
instance : TyF Tryz.prog 44 6 6 := ⟨_, _, Tryz.underlying44, rfl, rfl, fun w => ⟨_, Tryz.sizeOf42 w, by decide⟩⟩
instance : TyS Tryz.prog 44 [(0, 1), (1, 1), (2, 1), (3, 1), (4, 1), (5, 1), (6, 1)] [Go.Value.int Go.IntKind.i64 0, Go.Value.int Go.IntKind.i64 0, Go.Value.int Go.IntKind.i64 0, Go.Value.int Go.IntKind.i64 0, Go.Value.string { data := #[] }, Go.Value.slice none 0 0, Go.Value.slice none 0 0] := TyS.mk' Tryz.underlying44 Tryz.zeroValue44 (fun w => by simp)
instance : TyI Tryz.prog 45 true 9 := ⟨Tryz.isAgg45, Tryz.sizeOf45⟩
instance : TyU Tryz.prog 45 (Go.TypeDesc.struct #[{ name := "Kind", type := 3, offset := 0, embedded := false, tag := "", pkgPath := "", byteOffset := 0 }, { name := "No", type := 3, offset := 1, embedded := false, tag := "", pkgPath := "", byteOffset := 8 }, { name := "Inode", type := 44, offset := 2, embedded := false, tag := "", pkgPath := "", byteOffset := 16 }]) := ⟨Tryz.underlying45⟩
instance : TyB Tryz.prog 45 112 := TyB.of Tryz.type45 rfl
instance : TyZ Tryz.prog 45 (Go.Value.agg #[Go.Value.int Go.IntKind.i64 0, Go.Value.int Go.IntKind.i64 0, Go.Value.int Go.IntKind.i64 0, Go.Value.int Go.IntKind.i64 0, Go.Value.int Go.IntKind.i64 0, Go.Value.int Go.IntKind.i64 0, Go.Value.string { data := #[] }, Go.Value.slice none 0 0, Go.Value.slice none 0 0]) := ⟨Tryz.zeroValue45⟩
instance : TyV Tryz.prog 45 0 0 := ⟨_, _, Tryz.underlying45, rfl, rfl, Tryz.isAgg3⟩
instance : TyF Tryz.prog 45 0 0 := ⟨_, _, Tryz.underlying45, rfl, rfl, fun w => ⟨_, Tryz.sizeOf3 w, by decide⟩⟩
instance : TyV Tryz.prog 45 1 1 := ⟨_, _, Tryz.underlying45, rfl, rfl, Tryz.isAgg3⟩
instance : TyF Tryz.prog 45 1 1 := ⟨_, _, Tryz.underlying45, rfl, rfl, fun w => ⟨_, Tryz.sizeOf3 w, by decide⟩⟩
instance : TyF Tryz.prog 45 2 2 := ⟨_, _, Tryz.underlying45, rfl, rfl, fun w => ⟨_, Tryz.sizeOf44 w, by decide⟩⟩
instance : TyS Tryz.prog 45 [(0, 1), (1, 1), (2, 7)] [Go.Value.int Go.IntKind.i64 0, Go.Value.int Go.IntKind.i64 0, Go.Value.int Go.IntKind.i64 0, Go.Value.int Go.IntKind.i64 0, Go.Value.int Go.IntKind.i64 0, Go.Value.int Go.IntKind.i64 0, Go.Value.string { data := #[] }, Go.Value.slice none 0 0, Go.Value.slice none 0 0] := TyS.mk' Tryz.underlying45 Tryz.zeroValue45 (fun w => by simp)
instance : TyI Tryz.prog 46 true 9 := ⟨Tryz.isAgg46, Tryz.sizeOf46⟩
instance : TyU Tryz.prog 46 (Go.TypeDesc.struct #[{ name := "Kind", type := 3, offset := 0, embedded := false, tag := "", pkgPath := "", byteOffset := 0 }, { name := "No", type := 3, offset := 1, embedded := false, tag := "", pkgPath := "", byteOffset := 8 }, { name := "Inode", type := 44, offset := 2, embedded := false, tag := "", pkgPath := "", byteOffset := 16 }]) := ⟨Tryz.underlying46⟩
instance : TyB Tryz.prog 46 112 := TyB.of Tryz.type46 rfl
instance : TyZ Tryz.prog 46 (Go.Value.agg #[Go.Value.int Go.IntKind.i64 0, Go.Value.int Go.IntKind.i64 0, Go.Value.int Go.IntKind.i64 0, Go.Value.int Go.IntKind.i64 0, Go.Value.int Go.IntKind.i64 0, Go.Value.int Go.IntKind.i64 0, Go.Value.string { data := #[] }, Go.Value.slice none 0 0, Go.Value.slice none 0 0]) := ⟨Tryz.zeroValue46⟩
instance : TyV Tryz.prog 46 0 0 := ⟨_, _, Tryz.underlying46, rfl, rfl, Tryz.isAgg3⟩
instance : TyF Tryz.prog 46 0 0 := ⟨_, _, Tryz.underlying46, rfl, rfl, fun w => ⟨_, Tryz.sizeOf3 w, by decide⟩⟩
instance : TyV Tryz.prog 46 1 1 := ⟨_, _, Tryz.underlying46, rfl, rfl, Tryz.isAgg3⟩
instance : TyF Tryz.prog 46 1 1 := ⟨_, _, Tryz.underlying46, rfl, rfl, fun w => ⟨_, Tryz.sizeOf3 w, by decide⟩⟩
instance : TyF Tryz.prog 46 2 2 := ⟨_, _, Tryz.underlying46, rfl, rfl, fun w => ⟨_, Tryz.sizeOf44 w, by decide⟩⟩
instance : TyS Tryz.prog 46 [(0, 1), (1, 1), (2, 7)] [Go.Value.int Go.IntKind.i64 0, Go.Value.int Go.IntKind.i64 0, Go.Value.int Go.IntKind.i64 0, Go.Value.int Go.IntKind.i64 0, Go.Value.int Go.IntKind.i64 0, Go.Value.int Go.IntKind.i64 0, Go.Value.string { data := #[] }, Go.Value.slice none 0 0, Go.Value.slice none 0 0] := TyS.mk' Tryz.underlying46 Tryz.zeroValue46 (fun w => by simp)
instance : TyI Tryz.prog 47 false 1 := ⟨Tryz.isAgg47, Tryz.sizeOf47⟩
instance : TyU Tryz.prog 47 (Go.TypeDesc.slice 46) := ⟨Tryz.underlying47⟩
instance : TyB Tryz.prog 47 24 := TyB.of Tryz.type47 rfl
instance : TyZ Tryz.prog 47 (Go.Value.slice none 0 0) := ⟨Tryz.zeroValue47⟩
instance : TyI Tryz.prog 48 false 1 := ⟨Tryz.isAgg48, Tryz.sizeOf48⟩
instance : TyU Tryz.prog 48 (Go.TypeDesc.func #[47] #[26] false) := ⟨Tryz.underlying48⟩
instance : TyB Tryz.prog 48 8 := TyB.of Tryz.type48 rfl
instance : TyZ Tryz.prog 48 Go.Value.nilFunc := ⟨Tryz.zeroValue48⟩
instance : TyI Tryz.prog 49 false 1 := ⟨Tryz.isAgg49, Tryz.sizeOf49⟩
instance : TyU Tryz.prog 49 (Go.TypeDesc.func #[39, 23, 47] #[4] false) := ⟨Tryz.underlying49⟩
instance : TyB Tryz.prog 49 8 := TyB.of Tryz.type49 rfl
instance : TyZ Tryz.prog 49 Go.Value.nilFunc := ⟨Tryz.zeroValue49⟩
instance : TyI Tryz.prog 50 false 1 := ⟨Tryz.isAgg50, Tryz.sizeOf50⟩
instance : TyU Tryz.prog 50 (Go.TypeDesc.func #[39, 47] #[39] false) := ⟨Tryz.underlying50⟩
instance : TyB Tryz.prog 50 8 := TyB.of Tryz.type50 rfl
instance : TyZ Tryz.prog 50 Go.Value.nilFunc := ⟨Tryz.zeroValue50⟩
instance : TyI Tryz.prog 51 false 1 := ⟨Tryz.isAgg51, Tryz.sizeOf51⟩
instance : TyU Tryz.prog 51 (Go.TypeDesc.func #[39, 39] #[4] false) := ⟨Tryz.underlying51⟩
instance : TyB Tryz.prog 51 8 := TyB.of Tryz.type51 rfl
instance : TyZ Tryz.prog 51 Go.Value.nilFunc := ⟨Tryz.zeroValue51⟩
instance : TyI Tryz.prog 52 false 1 := ⟨Tryz.isAgg52, Tryz.sizeOf52⟩
instance : TyU Tryz.prog 52 (Go.TypeDesc.func #[23, 3] #[4] false) := ⟨Tryz.underlying52⟩
instance : TyB Tryz.prog 52 8 := TyB.of Tryz.type52 rfl
instance : TyZ Tryz.prog 52 Go.Value.nilFunc := ⟨Tryz.zeroValue52⟩
instance : TyI Tryz.prog 53 false 1 := ⟨Tryz.isAgg53, Tryz.sizeOf53⟩
instance : TyU Tryz.prog 53 (Go.TypeDesc.slice 47) := ⟨Tryz.underlying53⟩
instance : TyB Tryz.prog 53 24 := TyB.of Tryz.type53 rfl
instance : TyZ Tryz.prog 53 (Go.Value.slice none 0 0) := ⟨Tryz.zeroValue53⟩
instance : TyI Tryz.prog 54 false 1 := ⟨Tryz.isAgg54, Tryz.sizeOf54⟩
instance : TyU Tryz.prog 54 (Go.TypeDesc.func #[] #[23] false) := ⟨Tryz.underlying54⟩
instance : TyB Tryz.prog 54 8 := TyB.of Tryz.type54 rfl
instance : TyZ Tryz.prog 54 Go.Value.nilFunc := ⟨Tryz.zeroValue54⟩
instance : TyI Tryz.prog 55 false 1 := ⟨Tryz.isAgg55, Tryz.sizeOf55⟩
instance : TyU Tryz.prog 55 (Go.TypeDesc.func #[47] #[4] false) := ⟨Tryz.underlying55⟩
instance : TyB Tryz.prog 55 8 := TyB.of Tryz.type55 rfl
instance : TyZ Tryz.prog 55 Go.Value.nilFunc := ⟨Tryz.zeroValue55⟩
instance : TyI Tryz.prog 56 false 1 := ⟨Tryz.isAgg56, Tryz.sizeOf56⟩
instance : TyU Tryz.prog 56 (Go.TypeDesc.func #[47] #[47] false) := ⟨Tryz.underlying56⟩
instance : TyB Tryz.prog 56 8 := TyB.of Tryz.type56 rfl
instance : TyZ Tryz.prog 56 Go.Value.nilFunc := ⟨Tryz.zeroValue56⟩
instance : TyI Tryz.prog 57 false 1 := ⟨Tryz.isAgg57, Tryz.sizeOf57⟩
instance : TyU Tryz.prog 57 (Go.TypeDesc.slice 5) := ⟨Tryz.underlying57⟩
instance : TyB Tryz.prog 57 24 := TyB.of Tryz.type57 rfl
instance : TyZ Tryz.prog 57 (Go.Value.slice none 0 0) := ⟨Tryz.zeroValue57⟩
instance : TyI Tryz.prog 58 false 1 := ⟨Tryz.isAgg58, Tryz.sizeOf58⟩
instance : TyU Tryz.prog 58 (Go.TypeDesc.tuple #[57, 26]) := ⟨Tryz.underlying58⟩
instance : TyB Tryz.prog 58 0 := TyB.of Tryz.type58 rfl
instance : TyI Tryz.prog 59 false 1 := ⟨Tryz.isAgg59, Tryz.sizeOf59⟩
instance : TyU Tryz.prog 59 (Go.TypeDesc.func #[3, 3] #[57, 26] false) := ⟨Tryz.underlying59⟩
instance : TyB Tryz.prog 59 8 := TyB.of Tryz.type59 rfl
instance : TyZ Tryz.prog 59 Go.Value.nilFunc := ⟨Tryz.zeroValue59⟩
instance : TyI Tryz.prog 60 false 1 := ⟨Tryz.isAgg60, Tryz.sizeOf60⟩
instance : TyU Tryz.prog 60 (Go.TypeDesc.func #[] #[3] false) := ⟨Tryz.underlying60⟩
instance : TyB Tryz.prog 60 8 := TyB.of Tryz.type60 rfl
instance : TyZ Tryz.prog 60 Go.Value.nilFunc := ⟨Tryz.zeroValue60⟩
instance : TyI Tryz.prog 61 false 1 := ⟨Tryz.isAgg61, Tryz.sizeOf61⟩
instance : TyU Tryz.prog 61 (Go.TypeDesc.func #[57, 57] #[4] false) := ⟨Tryz.underlying61⟩
instance : TyB Tryz.prog 61 8 := TyB.of Tryz.type61 rfl
instance : TyZ Tryz.prog 61 Go.Value.nilFunc := ⟨Tryz.zeroValue61⟩
instance : TyI Tryz.prog 62 false 1 := ⟨Tryz.isAgg62, Tryz.sizeOf62⟩
instance : TyU Tryz.prog 62 (Go.TypeDesc.func #[53, 3] #[4] false) := ⟨Tryz.underlying62⟩
instance : TyB Tryz.prog 62 8 := TyB.of Tryz.type62 rfl
instance : TyZ Tryz.prog 62 Go.Value.nilFunc := ⟨Tryz.zeroValue62⟩
instance : TyI Tryz.prog 63 false 1 := ⟨Tryz.isAgg63, Tryz.sizeOf63⟩
instance : TyU Tryz.prog 63 (Go.TypeDesc.func #[3, 5] #[] false) := ⟨Tryz.underlying63⟩
instance : TyB Tryz.prog 63 8 := TyB.of Tryz.type63 rfl
instance : TyZ Tryz.prog 63 Go.Value.nilFunc := ⟨Tryz.zeroValue63⟩
instance : TyI Tryz.prog 64 false 1 := ⟨Tryz.isAgg64, Tryz.sizeOf64⟩
instance : TyU Tryz.prog 64 (Go.TypeDesc.func #[23, 53, 47, 3, 3, 5] #[4] false) := ⟨Tryz.underlying64⟩
instance : TyB Tryz.prog 64 8 := TyB.of Tryz.type64 rfl
instance : TyZ Tryz.prog 64 Go.Value.nilFunc := ⟨Tryz.zeroValue64⟩
instance : TyI Tryz.prog 65 false 1 := ⟨Tryz.isAgg65, Tryz.sizeOf65⟩
instance : TyU Tryz.prog 65 (Go.TypeDesc.func #[3] #[3] false) := ⟨Tryz.underlying65⟩
instance : TyB Tryz.prog 65 8 := TyB.of Tryz.type65 rfl
instance : TyZ Tryz.prog 65 Go.Value.nilFunc := ⟨Tryz.zeroValue65⟩
instance : TyI Tryz.prog 66 false 1 := ⟨Tryz.isAgg66, Tryz.sizeOf66⟩
instance : TyU Tryz.prog 66 (Go.TypeDesc.func #[23, 3, 3] #[4] false) := ⟨Tryz.underlying66⟩
instance : TyB Tryz.prog 66 8 := TyB.of Tryz.type66 rfl
instance : TyZ Tryz.prog 66 Go.Value.nilFunc := ⟨Tryz.zeroValue66⟩
instance : TyI Tryz.prog 67 false 1 := ⟨Tryz.isAgg67, Tryz.sizeOf67⟩
instance : TyU Tryz.prog 67 (Go.TypeDesc.slice 77) := ⟨Tryz.underlying67⟩
instance : TyB Tryz.prog 67 24 := TyB.of Tryz.type67 rfl
instance : TyZ Tryz.prog 67 (Go.Value.slice none 0 0) := ⟨Tryz.zeroValue67⟩
instance : TyI Tryz.prog 68 false 1 := ⟨Tryz.isAgg68, Tryz.sizeOf68⟩
instance : TyU Tryz.prog 68 (Go.TypeDesc.pointer 79) := ⟨Tryz.underlying68⟩
instance : TyB Tryz.prog 68 8 := TyB.of Tryz.type68 rfl
instance : TyZ Tryz.prog 68 (Go.Value.pointer none) := ⟨Tryz.zeroValue68⟩
instance : TyI Tryz.prog 69 false 1 := ⟨Tryz.isAgg69, Tryz.sizeOf69⟩
instance : TyU Tryz.prog 69 (Go.TypeDesc.func #[] #[68] false) := ⟨Tryz.underlying69⟩
instance : TyB Tryz.prog 69 8 := TyB.of Tryz.type69 rfl
instance : TyZ Tryz.prog 69 Go.Value.nilFunc := ⟨Tryz.zeroValue69⟩
instance : TyI Tryz.prog 70 false 1 := ⟨Tryz.isAgg70, Tryz.sizeOf70⟩
instance : TyU Tryz.prog 70 (Go.TypeDesc.pointer 81) := ⟨Tryz.underlying70⟩
instance : TyB Tryz.prog 70 8 := TyB.of Tryz.type70 rfl
instance : TyZ Tryz.prog 70 (Go.Value.pointer none) := ⟨Tryz.zeroValue70⟩
instance : TyI Tryz.prog 71 false 1 := ⟨Tryz.isAgg71, Tryz.sizeOf71⟩
instance : TyU Tryz.prog 71 (Go.TypeDesc.tuple #[70, 26]) := ⟨Tryz.underlying71⟩
instance : TyB Tryz.prog 71 0 := TyB.of Tryz.type71 rfl
instance : TyI Tryz.prog 72 false 1 := ⟨Tryz.isAgg72, Tryz.sizeOf72⟩
instance : TyU Tryz.prog 72 (Go.TypeDesc.func #[23, 68] #[70, 26] false) := ⟨Tryz.underlying72⟩
instance : TyB Tryz.prog 72 8 := TyB.of Tryz.type72 rfl
instance : TyZ Tryz.prog 72 Go.Value.nilFunc := ⟨Tryz.zeroValue72⟩
instance : TyI Tryz.prog 73 false 1 := ⟨Tryz.isAgg73, Tryz.sizeOf73⟩
instance : TyU Tryz.prog 73 (Go.TypeDesc.pointer 83) := ⟨Tryz.underlying73⟩
instance : TyB Tryz.prog 73 8 := TyB.of Tryz.type73 rfl
instance : TyZ Tryz.prog 73 (Go.Value.pointer none) := ⟨Tryz.zeroValue73⟩
instance : TyI Tryz.prog 74 false 1 := ⟨Tryz.isAgg74, Tryz.sizeOf74⟩
instance : TyU Tryz.prog 74 (Go.TypeDesc.tuple #[73, 26]) := ⟨Tryz.underlying74⟩
instance : TyB Tryz.prog 74 0 := TyB.of Tryz.type74 rfl
instance : TyI Tryz.prog 75 false 1 := ⟨Tryz.isAgg75, Tryz.sizeOf75⟩
instance : TyU Tryz.prog 75 (Go.TypeDesc.func #[70] #[73, 26] false) := ⟨Tryz.underlying75⟩
instance : TyB Tryz.prog 75 8 := TyB.of Tryz.type75 rfl
instance : TyZ Tryz.prog 75 Go.Value.nilFunc := ⟨Tryz.zeroValue75⟩
instance : TyI Tryz.prog 76 true 4 := ⟨Tryz.isAgg76, Tryz.sizeOf76⟩
instance : TyU Tryz.prog 76 (Go.TypeDesc.struct #[{ name := "Kind", type := 3, offset := 0, embedded := false, tag := "", pkgPath := "", byteOffset := 0 }, { name := "N", type := 3, offset := 1, embedded := false, tag := "", pkgPath := "", byteOffset := 8 }, { name := "Mask", type := 5, offset := 2, embedded := false, tag := "", pkgPath := "", byteOffset := 16 }, { name := "L", type := 47, offset := 3, embedded := false, tag := "", pkgPath := "", byteOffset := 24 }]) := ⟨Tryz.underlying76⟩
instance : TyB Tryz.prog 76 48 := TyB.of Tryz.type76 rfl
instance : TyZ Tryz.prog 76 (Go.Value.agg #[Go.Value.int Go.IntKind.i64 0, Go.Value.int Go.IntKind.i64 0, Go.Value.int Go.IntKind.u8 0, Go.Value.slice none 0 0]) := ⟨Tryz.zeroValue76⟩
instance : TyV Tryz.prog 76 0 0 := ⟨_, _, Tryz.underlying76, rfl, rfl, Tryz.isAgg3⟩
instance : TyF Tryz.prog 76 0 0 := ⟨_, _, Tryz.underlying76, rfl, rfl, fun w => ⟨_, Tryz.sizeOf3 w, by decide⟩⟩
instance : TyV Tryz.prog 76 1 1 := ⟨_, _, Tryz.underlying76, rfl, rfl, Tryz.isAgg3⟩
instance : TyF Tryz.prog 76 1 1 := ⟨_, _, Tryz.underlying76, rfl, rfl, fun w => ⟨_, Tryz.sizeOf3 w, by decide⟩⟩
instance : TyV Tryz.prog 76 2 2 := ⟨_, _, Tryz.underlying76, rfl, rfl, Tryz.isAgg5⟩
instance : TyF Tryz.prog 76 2 2 := ⟨_, _, Tryz.underlying76, rfl, rfl, fun w => ⟨_, Tryz.sizeOf5 w, by decide⟩⟩
instance : TyV Tryz.prog 76 3 3 := ⟨_, _, Tryz.underlying76, rfl, rfl, Tryz.isAgg47⟩
instance : TyF Tryz.prog 76 3 3 := ⟨_, _, Tryz.underlying76, rfl, rfl, fun w => ⟨_, Tryz.sizeOf47 w, by decide⟩⟩
instance : TyS Tryz.prog 76 [(0, 1), (1, 1), (2, 1), (3, 1)] [Go.Value.int Go.IntKind.i64 0, Go.Value.int Go.IntKind.i64 0, Go.Value.int Go.IntKind.u8 0, Go.Value.slice none 0 0] := TyS.mk' Tryz.underlying76 Tryz.zeroValue76 (fun w => by simp)
instance : TyI Tryz.prog 77 true 4 := ⟨Tryz.isAgg77, Tryz.sizeOf77⟩
instance : TyU Tryz.prog 77 (Go.TypeDesc.struct #[{ name := "Kind", type := 3, offset := 0, embedded := false, tag := "", pkgPath := "", byteOffset := 0 }, { name := "N", type := 3, offset := 1, embedded := false, tag := "", pkgPath := "", byteOffset := 8 }, { name := "Mask", type := 5, offset := 2, embedded := false, tag := "", pkgPath := "", byteOffset := 16 }, { name := "L", type := 47, offset := 3, embedded := false, tag := "", pkgPath := "", byteOffset := 24 }]) := ⟨Tryz.underlying77⟩
instance : TyB Tryz.prog 77 48 := TyB.of Tryz.type77 rfl
instance : TyZ Tryz.prog 77 (Go.Value.agg #[Go.Value.int Go.IntKind.i64 0, Go.Value.int Go.IntKind.i64 0, Go.Value.int Go.IntKind.u8 0, Go.Value.slice none 0 0]) := ⟨Tryz.zeroValue77⟩
instance : TyV Tryz.prog 77 0 0 := ⟨_, _, Tryz.underlying77, rfl, rfl, Tryz.isAgg3⟩
instance : TyF Tryz.prog 77 0 0 := ⟨_, _, Tryz.underlying77, rfl, rfl, fun w => ⟨_, Tryz.sizeOf3 w, by decide⟩⟩
instance : TyV Tryz.prog 77 1 1 := ⟨_, _, Tryz.underlying77, rfl, rfl, Tryz.isAgg3⟩
instance : TyF Tryz.prog 77 1 1 := ⟨_, _, Tryz.underlying77, rfl, rfl, fun w => ⟨_, Tryz.sizeOf3 w, by decide⟩⟩
instance : TyV Tryz.prog 77 2 2 := ⟨_, _, Tryz.underlying77, rfl, rfl, Tryz.isAgg5⟩
instance : TyF Tryz.prog 77 2 2 := ⟨_, _, Tryz.underlying77, rfl, rfl, fun w => ⟨_, Tryz.sizeOf5 w, by decide⟩⟩
instance : TyV Tryz.prog 77 3 3 := ⟨_, _, Tryz.underlying77, rfl, rfl, Tryz.isAgg47⟩
instance : TyF Tryz.prog 77 3 3 := ⟨_, _, Tryz.underlying77, rfl, rfl, fun w => ⟨_, Tryz.sizeOf47 w, by decide⟩⟩
instance : TyS Tryz.prog 77 [(0, 1), (1, 1), (2, 1), (3, 1)] [Go.Value.int Go.IntKind.i64 0, Go.Value.int Go.IntKind.i64 0, Go.Value.int Go.IntKind.u8 0, Go.Value.slice none 0 0] := TyS.mk' Tryz.underlying77 Tryz.zeroValue77 (fun w => by simp)
instance : TyI Tryz.prog 78 true 5 := ⟨Tryz.isAgg78, Tryz.sizeOf78⟩
instance : TyU Tryz.prog 78 (Go.TypeDesc.struct #[{ name := "Out", type := 4, offset := 0, embedded := false, tag := "", pkgPath := "", byteOffset := 0 }, { name := "Left", type := 3, offset := 1, embedded := false, tag := "", pkgPath := "", byteOffset := 8 }, { name := "M", type := 5, offset := 2, embedded := false, tag := "", pkgPath := "", byteOffset := 16 }, { name := "Done", type := 3, offset := 3, embedded := false, tag := "", pkgPath := "", byteOffset := 24 }, { name := "Which", type := 37, offset := 4, embedded := false, tag := "", pkgPath := "", byteOffset := 32 }]) := ⟨Tryz.underlying78⟩
instance : TyB Tryz.prog 78 56 := TyB.of Tryz.type78 rfl
instance : TyZ Tryz.prog 78 (Go.Value.agg #[Go.Value.bool false, Go.Value.int Go.IntKind.i64 0, Go.Value.int Go.IntKind.u8 0, Go.Value.int Go.IntKind.i64 0, Go.Value.slice none 0 0]) := ⟨Tryz.zeroValue78⟩
instance : TyV Tryz.prog 78 0 0 := ⟨_, _, Tryz.underlying78, rfl, rfl, Tryz.isAgg4⟩
instance : TyF Tryz.prog 78 0 0 := ⟨_, _, Tryz.underlying78, rfl, rfl, fun w => ⟨_, Tryz.sizeOf4 w, by decide⟩⟩
instance : TyV Tryz.prog 78 1 1 := ⟨_, _, Tryz.underlying78, rfl, rfl, Tryz.isAgg3⟩
instance : TyF Tryz.prog 78 1 1 := ⟨_, _, Tryz.underlying78, rfl, rfl, fun w => ⟨_, Tryz.sizeOf3 w, by decide⟩⟩
instance : TyV Tryz.prog 78 2 2 := ⟨_, _, Tryz.underlying78, rfl, rfl, Tryz.isAgg5⟩
instance : TyF Tryz.prog 78 2 2 := ⟨_, _, Tryz.underlying78, rfl, rfl, fun w => ⟨_, Tryz.sizeOf5 w, by decide⟩⟩
instance : TyV Tryz.prog 78 3 3 := ⟨_, _, Tryz.underlying78, rfl, rfl, Tryz.isAgg3⟩
instance : TyF Tryz.prog 78 3 3 := ⟨_, _, Tryz.underlying78, rfl, rfl, fun w => ⟨_, Tryz.sizeOf3 w, by decide⟩⟩
instance : TyV Tryz.prog 78 4 4 := ⟨_, _, Tryz.underlying78, rfl, rfl, Tryz.isAgg37⟩
instance : TyF Tryz.prog 78 4 4 := ⟨_, _, Tryz.underlying78, rfl, rfl, fun w => ⟨_, Tryz.sizeOf37 w, by decide⟩⟩
instance : TyS Tryz.prog 78 [(0, 1), (1, 1), (2, 1), (3, 1), (4, 1)] [Go.Value.bool false, Go.Value.int Go.IntKind.i64 0, Go.Value.int Go.IntKind.u8 0, Go.Value.int Go.IntKind.i64 0, Go.Value.slice none 0 0] := TyS.mk' Tryz.underlying78 Tryz.zeroValue78 (fun w => by simp)
instance : TyI Tryz.prog 79 true 5 := ⟨Tryz.isAgg79, Tryz.sizeOf79⟩
instance : TyU Tryz.prog 79 (Go.TypeDesc.struct #[{ name := "Out", type := 4, offset := 0, embedded := false, tag := "", pkgPath := "", byteOffset := 0 }, { name := "Left", type := 3, offset := 1, embedded := false, tag := "", pkgPath := "", byteOffset := 8 }, { name := "M", type := 5, offset := 2, embedded := false, tag := "", pkgPath := "", byteOffset := 16 }, { name := "Done", type := 3, offset := 3, embedded := false, tag := "", pkgPath := "", byteOffset := 24 }, { name := "Which", type := 37, offset := 4, embedded := false, tag := "", pkgPath := "", byteOffset := 32 }]) := ⟨Tryz.underlying79⟩
instance : TyB Tryz.prog 79 56 := TyB.of Tryz.type79 rfl
instance : TyZ Tryz.prog 79 (Go.Value.agg #[Go.Value.bool false, Go.Value.int Go.IntKind.i64 0, Go.Value.int Go.IntKind.u8 0, Go.Value.int Go.IntKind.i64 0, Go.Value.slice none 0 0]) := ⟨Tryz.zeroValue79⟩
instance : TyV Tryz.prog 79 0 0 := ⟨_, _, Tryz.underlying79, rfl, rfl, Tryz.isAgg4⟩
instance : TyF Tryz.prog 79 0 0 := ⟨_, _, Tryz.underlying79, rfl, rfl, fun w => ⟨_, Tryz.sizeOf4 w, by decide⟩⟩
instance : TyV Tryz.prog 79 1 1 := ⟨_, _, Tryz.underlying79, rfl, rfl, Tryz.isAgg3⟩
instance : TyF Tryz.prog 79 1 1 := ⟨_, _, Tryz.underlying79, rfl, rfl, fun w => ⟨_, Tryz.sizeOf3 w, by decide⟩⟩
instance : TyV Tryz.prog 79 2 2 := ⟨_, _, Tryz.underlying79, rfl, rfl, Tryz.isAgg5⟩
instance : TyF Tryz.prog 79 2 2 := ⟨_, _, Tryz.underlying79, rfl, rfl, fun w => ⟨_, Tryz.sizeOf5 w, by decide⟩⟩
instance : TyV Tryz.prog 79 3 3 := ⟨_, _, Tryz.underlying79, rfl, rfl, Tryz.isAgg3⟩
instance : TyF Tryz.prog 79 3 3 := ⟨_, _, Tryz.underlying79, rfl, rfl, fun w => ⟨_, Tryz.sizeOf3 w, by decide⟩⟩
instance : TyV Tryz.prog 79 4 4 := ⟨_, _, Tryz.underlying79, rfl, rfl, Tryz.isAgg37⟩
instance : TyF Tryz.prog 79 4 4 := ⟨_, _, Tryz.underlying79, rfl, rfl, fun w => ⟨_, Tryz.sizeOf37 w, by decide⟩⟩
instance : TyS Tryz.prog 79 [(0, 1), (1, 1), (2, 1), (3, 1), (4, 1)] [Go.Value.bool false, Go.Value.int Go.IntKind.i64 0, Go.Value.int Go.IntKind.u8 0, Go.Value.int Go.IntKind.i64 0, Go.Value.slice none 0 0] := TyS.mk' Tryz.underlying79 Tryz.zeroValue79 (fun w => by simp)
instance : TyI Tryz.prog 80 true 8 := ⟨Tryz.isAgg80, Tryz.sizeOf80⟩
instance : TyU Tryz.prog 80 (Go.TypeDesc.struct #[{ name := "G", type := 23, offset := 0, embedded := false, tag := "", pkgPath := "", byteOffset := 0 }, { name := "P", type := 68, offset := 5, embedded := false, tag := "", pkgPath := "", byteOffset := 40 }, { name := "B", type := 57, offset := 6, embedded := false, tag := "", pkgPath := "", byteOffset := 48 }, { name := "Counts", type := 37, offset := 7, embedded := false, tag := "", pkgPath := "", byteOffset := 72 }]) := ⟨Tryz.underlying80⟩
instance : TyB Tryz.prog 80 96 := TyB.of Tryz.type80 rfl
instance : TyZ Tryz.prog 80 (Go.Value.agg #[Go.Value.int Go.IntKind.i64 0, Go.Value.int Go.IntKind.i64 0, Go.Value.int Go.IntKind.i64 0, Go.Value.int Go.IntKind.i64 0, Go.Value.int Go.IntKind.i64 0, Go.Value.pointer none, Go.Value.slice none 0 0, Go.Value.slice none 0 0]) := ⟨Tryz.zeroValue80⟩
instance : TyF Tryz.prog 80 0 0 := ⟨_, _, Tryz.underlying80, rfl, rfl, fun w => ⟨_, Tryz.sizeOf23 w, by decide⟩⟩
instance : TyV Tryz.prog 80 1 5 := ⟨_, _, Tryz.underlying80, rfl, rfl, Tryz.isAgg68⟩
instance : TyF Tryz.prog 80 1 5 := ⟨_, _, Tryz.underlying80, rfl, rfl, fun w => ⟨_, Tryz.sizeOf68 w, by decide⟩⟩
instance : TyV Tryz.prog 80 2 6 := ⟨_, _, Tryz.underlying80, rfl, rfl, Tryz.isAgg57⟩
instance : TyF Tryz.prog 80 2 6 := ⟨_, _, Tryz.underlying80, rfl, rfl, fun w => ⟨_, Tryz.sizeOf57 w, by decide⟩⟩
instance : TyV Tryz.prog 80 3 7 := ⟨_, _, Tryz.underlying80, rfl, rfl, Tryz.isAgg37⟩
instance : TyF Tryz.prog 80 3 7 := ⟨_, _, Tryz.underlying80, rfl, rfl, fun w => ⟨_, Tryz.sizeOf37 w, by decide⟩⟩
instance : TyS Tryz.prog 80 [(0, 5), (5, 1), (6, 1), (7, 1)] [Go.Value.int Go.IntKind.i64 0, Go.Value.int Go.IntKind.i64 0, Go.Value.int Go.IntKind.i64 0, Go.Value.int Go.IntKind.i64 0, Go.Value.int Go.IntKind.i64 0, Go.Value.pointer none, Go.Value.slice none 0 0, Go.Value.slice none 0 0] := TyS.mk' Tryz.underlying80 Tryz.zeroValue80 (fun w => by simp)
instance : TyI Tryz.prog 81 true 8 := ⟨Tryz.isAgg81, Tryz.sizeOf81⟩
instance : TyU Tryz.prog 81 (Go.TypeDesc.struct #[{ name := "G", type := 23, offset := 0, embedded := false, tag := "", pkgPath := "", byteOffset := 0 }, { name := "P", type := 68, offset := 5, embedded := false, tag := "", pkgPath := "", byteOffset := 40 }, { name := "B", type := 57, offset := 6, embedded := false, tag := "", pkgPath := "", byteOffset := 48 }, { name := "Counts", type := 37, offset := 7, embedded := false, tag := "", pkgPath := "", byteOffset := 72 }]) := ⟨Tryz.underlying81⟩
instance : TyB Tryz.prog 81 96 := TyB.of Tryz.type81 rfl
instance : TyZ Tryz.prog 81 (Go.Value.agg #[Go.Value.int Go.IntKind.i64 0, Go.Value.int Go.IntKind.i64 0, Go.Value.int Go.IntKind.i64 0, Go.Value.int Go.IntKind.i64 0, Go.Value.int Go.IntKind.i64 0, Go.Value.pointer none, Go.Value.slice none 0 0, Go.Value.slice none 0 0]) := ⟨Tryz.zeroValue81⟩
instance : TyF Tryz.prog 81 0 0 := ⟨_, _, Tryz.underlying81, rfl, rfl, fun w => ⟨_, Tryz.sizeOf23 w, by decide⟩⟩
instance : TyV Tryz.prog 81 1 5 := ⟨_, _, Tryz.underlying81, rfl, rfl, Tryz.isAgg68⟩
instance : TyF Tryz.prog 81 1 5 := ⟨_, _, Tryz.underlying81, rfl, rfl, fun w => ⟨_, Tryz.sizeOf68 w, by decide⟩⟩
instance : TyV Tryz.prog 81 2 6 := ⟨_, _, Tryz.underlying81, rfl, rfl, Tryz.isAgg57⟩
instance : TyF Tryz.prog 81 2 6 := ⟨_, _, Tryz.underlying81, rfl, rfl, fun w => ⟨_, Tryz.sizeOf57 w, by decide⟩⟩
instance : TyV Tryz.prog 81 3 7 := ⟨_, _, Tryz.underlying81, rfl, rfl, Tryz.isAgg37⟩
instance : TyF Tryz.prog 81 3 7 := ⟨_, _, Tryz.underlying81, rfl, rfl, fun w => ⟨_, Tryz.sizeOf37 w, by decide⟩⟩
instance : TyS Tryz.prog 81 [(0, 5), (5, 1), (6, 1), (7, 1)] [Go.Value.int Go.IntKind.i64 0, Go.Value.int Go.IntKind.i64 0, Go.Value.int Go.IntKind.i64 0, Go.Value.int Go.IntKind.i64 0, Go.Value.int Go.IntKind.i64 0, Go.Value.pointer none, Go.Value.slice none 0 0, Go.Value.slice none 0 0] := TyS.mk' Tryz.underlying81 Tryz.zeroValue81 (fun w => by simp)
instance : TyI Tryz.prog 82 true 8 := ⟨Tryz.isAgg82, Tryz.sizeOf82⟩
instance : TyU Tryz.prog 82 (Go.TypeDesc.struct #[{ name := "C", type := 70, offset := 0, embedded := false, tag := "", pkgPath := "", byteOffset := 0 }, { name := "S", type := 39, offset := 1, embedded := false, tag := "", pkgPath := "", byteOffset := 8 }, { name := "H", type := 3, offset := 4, embedded := false, tag := "", pkgPath := "", byteOffset := 64 }, { name := "N", type := 3, offset := 5, embedded := false, tag := "", pkgPath := "", byteOffset := 72 }, { name := "End", type := 3, offset := 6, embedded := false, tag := "", pkgPath := "", byteOffset := 80 }, { name := "Ended", type := 4, offset := 7, embedded := false, tag := "", pkgPath := "", byteOffset := 88 }]) := ⟨Tryz.underlying82⟩
instance : TyB Tryz.prog 82 96 := TyB.of Tryz.type82 rfl
instance : TyZ Tryz.prog 82 (Go.Value.agg #[Go.Value.pointer none, Go.Value.int Go.IntKind.i64 0, Go.Value.slice none 0 0, Go.Value.slice none 0 0, Go.Value.int Go.IntKind.i64 0, Go.Value.int Go.IntKind.i64 0, Go.Value.int Go.IntKind.i64 0, Go.Value.bool false]) := ⟨Tryz.zeroValue82⟩
instance : TyV Tryz.prog 82 0 0 := ⟨_, _, Tryz.underlying82, rfl, rfl, Tryz.isAgg70⟩
instance : TyF Tryz.prog 82 0 0 := ⟨_, _, Tryz.underlying82, rfl, rfl, fun w => ⟨_, Tryz.sizeOf70 w, by decide⟩⟩
instance : TyF Tryz.prog 82 1 1 := ⟨_, _, Tryz.underlying82, rfl, rfl, fun w => ⟨_, Tryz.sizeOf39 w, by decide⟩⟩
instance : TyV Tryz.prog 82 2 4 := ⟨_, _, Tryz.underlying82, rfl, rfl, Tryz.isAgg3⟩
instance : TyF Tryz.prog 82 2 4 := ⟨_, _, Tryz.underlying82, rfl, rfl, fun w => ⟨_, Tryz.sizeOf3 w, by decide⟩⟩
instance : TyV Tryz.prog 82 3 5 := ⟨_, _, Tryz.underlying82, rfl, rfl, Tryz.isAgg3⟩
instance : TyF Tryz.prog 82 3 5 := ⟨_, _, Tryz.underlying82, rfl, rfl, fun w => ⟨_, Tryz.sizeOf3 w, by decide⟩⟩
instance : TyV Tryz.prog 82 4 6 := ⟨_, _, Tryz.underlying82, rfl, rfl, Tryz.isAgg3⟩
instance : TyF Tryz.prog 82 4 6 := ⟨_, _, Tryz.underlying82, rfl, rfl, fun w => ⟨_, Tryz.sizeOf3 w, by decide⟩⟩
instance : TyV Tryz.prog 82 5 7 := ⟨_, _, Tryz.underlying82, rfl, rfl, Tryz.isAgg4⟩
instance : TyF Tryz.prog 82 5 7 := ⟨_, _, Tryz.underlying82, rfl, rfl, fun w => ⟨_, Tryz.sizeOf4 w, by decide⟩⟩
instance : TyS Tryz.prog 82 [(0, 1), (1, 3), (4, 1), (5, 1), (6, 1), (7, 1)] [Go.Value.pointer none, Go.Value.int Go.IntKind.i64 0, Go.Value.slice none 0 0, Go.Value.slice none 0 0, Go.Value.int Go.IntKind.i64 0, Go.Value.int Go.IntKind.i64 0, Go.Value.int Go.IntKind.i64 0, Go.Value.bool false] := TyS.mk' Tryz.underlying82 Tryz.zeroValue82 (fun w => by simp)
instance : TyI Tryz.prog 83 true 8 := ⟨Tryz.isAgg83, Tryz.sizeOf83⟩
instance : TyU Tryz.prog 83 (Go.TypeDesc.struct #[{ name := "C", type := 70, offset := 0, embedded := false, tag := "", pkgPath := "", byteOffset := 0 }, { name := "S", type := 39, offset := 1, embedded := false, tag := "", pkgPath := "", byteOffset := 8 }, { name := "H", type := 3, offset := 4, embedded := false, tag := "", pkgPath := "", byteOffset := 64 }, { name := "N", type := 3, offset := 5, embedded := false, tag := "", pkgPath := "", byteOffset := 72 }, { name := "End", type := 3, offset := 6, embedded := false, tag := "", pkgPath := "", byteOffset := 80 }, { name := "Ended", type := 4, offset := 7, embedded := false, tag := "", pkgPath := "", byteOffset := 88 }]) := ⟨Tryz.underlying83⟩
instance : TyB Tryz.prog 83 96 := TyB.of Tryz.type83 rfl
instance : TyZ Tryz.prog 83 (Go.Value.agg #[Go.Value.pointer none, Go.Value.int Go.IntKind.i64 0, Go.Value.slice none 0 0, Go.Value.slice none 0 0, Go.Value.int Go.IntKind.i64 0, Go.Value.int Go.IntKind.i64 0, Go.Value.int Go.IntKind.i64 0, Go.Value.bool false]) := ⟨Tryz.zeroValue83⟩
instance : TyV Tryz.prog 83 0 0 := ⟨_, _, Tryz.underlying83, rfl, rfl, Tryz.isAgg70⟩
instance : TyF Tryz.prog 83 0 0 := ⟨_, _, Tryz.underlying83, rfl, rfl, fun w => ⟨_, Tryz.sizeOf70 w, by decide⟩⟩
instance : TyF Tryz.prog 83 1 1 := ⟨_, _, Tryz.underlying83, rfl, rfl, fun w => ⟨_, Tryz.sizeOf39 w, by decide⟩⟩
instance : TyV Tryz.prog 83 2 4 := ⟨_, _, Tryz.underlying83, rfl, rfl, Tryz.isAgg3⟩
instance : TyF Tryz.prog 83 2 4 := ⟨_, _, Tryz.underlying83, rfl, rfl, fun w => ⟨_, Tryz.sizeOf3 w, by decide⟩⟩
instance : TyV Tryz.prog 83 3 5 := ⟨_, _, Tryz.underlying83, rfl, rfl, Tryz.isAgg3⟩
instance : TyF Tryz.prog 83 3 5 := ⟨_, _, Tryz.underlying83, rfl, rfl, fun w => ⟨_, Tryz.sizeOf3 w, by decide⟩⟩
instance : TyV Tryz.prog 83 4 6 := ⟨_, _, Tryz.underlying83, rfl, rfl, Tryz.isAgg3⟩
instance : TyF Tryz.prog 83 4 6 := ⟨_, _, Tryz.underlying83, rfl, rfl, fun w => ⟨_, Tryz.sizeOf3 w, by decide⟩⟩
instance : TyV Tryz.prog 83 5 7 := ⟨_, _, Tryz.underlying83, rfl, rfl, Tryz.isAgg4⟩
instance : TyF Tryz.prog 83 5 7 := ⟨_, _, Tryz.underlying83, rfl, rfl, fun w => ⟨_, Tryz.sizeOf4 w, by decide⟩⟩
instance : TyS Tryz.prog 83 [(0, 1), (1, 3), (4, 1), (5, 1), (6, 1), (7, 1)] [Go.Value.pointer none, Go.Value.int Go.IntKind.i64 0, Go.Value.slice none 0 0, Go.Value.slice none 0 0, Go.Value.int Go.IntKind.i64 0, Go.Value.int Go.IntKind.i64 0, Go.Value.int Go.IntKind.i64 0, Go.Value.bool false] := TyS.mk' Tryz.underlying83 Tryz.zeroValue83 (fun w => by simp)
instance : TyI Tryz.prog 84 false 1 := ⟨Tryz.isAgg84, Tryz.sizeOf84⟩
instance : TyU Tryz.prog 84 (Go.TypeDesc.func #[23, 67] #[4] false) := ⟨Tryz.underlying84⟩
instance : TyB Tryz.prog 84 8 := TyB.of Tryz.type84 rfl
instance : TyZ Tryz.prog 84 Go.Value.nilFunc := ⟨Tryz.zeroValue84⟩
instance : TyI Tryz.prog 85 false 1 := ⟨Tryz.isAgg85, Tryz.sizeOf85⟩
instance : TyU Tryz.prog 85 (Go.TypeDesc.func #[57, 86, 3] #[57] false) := ⟨Tryz.underlying85⟩
instance : TyB Tryz.prog 85 8 := TyB.of Tryz.type85 rfl
instance : TyZ Tryz.prog 85 Go.Value.nilFunc := ⟨Tryz.zeroValue85⟩
instance : TyI Tryz.prog 86 false 1 := ⟨Tryz.isAgg86, Tryz.sizeOf86⟩
instance : TyU Tryz.prog 86 (Go.TypeDesc.int Go.IntKind.u64) := ⟨Tryz.underlying86⟩
instance : TyB Tryz.prog 86 8 := TyB.of Tryz.type86 rfl
instance : TyZ Tryz.prog 86 (Go.Value.int Go.IntKind.u64 0) := ⟨Tryz.zeroValue86⟩
instance : TyI Tryz.prog 87 false 1 := ⟨Tryz.isAgg87, Tryz.sizeOf87⟩
instance : TyU Tryz.prog 87 (Go.TypeDesc.func #[70, 3, 3, 57] #[26] false) := ⟨Tryz.underlying87⟩
instance : TyB Tryz.prog 87 8 := TyB.of Tryz.type87 rfl
instance : TyZ Tryz.prog 87 Go.Value.nilFunc := ⟨Tryz.zeroValue87⟩
instance : TyI Tryz.prog 88 false 1 := ⟨Tryz.isAgg88, Tryz.sizeOf88⟩
instance : TyU Tryz.prog 88 (Go.TypeDesc.func #[47] #[57] false) := ⟨Tryz.underlying88⟩
instance : TyB Tryz.prog 88 8 := TyB.of Tryz.type88 rfl
instance : TyZ Tryz.prog 88 Go.Value.nilFunc := ⟨Tryz.zeroValue88⟩
instance : TyI Tryz.prog 89 false 1 := ⟨Tryz.isAgg89, Tryz.sizeOf89⟩
instance : TyU Tryz.prog 89 (Go.TypeDesc.func #[57] #[26] false) := ⟨Tryz.underlying89⟩
instance : TyB Tryz.prog 89 8 := TyB.of Tryz.type89 rfl
instance : TyZ Tryz.prog 89 Go.Value.nilFunc := ⟨Tryz.zeroValue89⟩
instance : TyI Tryz.prog 90 false 1 := ⟨Tryz.isAgg90, Tryz.sizeOf90⟩
instance : TyU Tryz.prog 90 (Go.TypeDesc.func #[23, 47, 47, 3, 3, 57, 3] #[4] false) := ⟨Tryz.underlying90⟩
instance : TyB Tryz.prog 90 8 := TyB.of Tryz.type90 rfl
instance : TyZ Tryz.prog 90 Go.Value.nilFunc := ⟨Tryz.zeroValue90⟩
instance : TyI Tryz.prog 91 false 1 := ⟨Tryz.isAgg91, Tryz.sizeOf91⟩
instance : TyU Tryz.prog 91 (Go.TypeDesc.func #[23, 57, 47] #[4] false) := ⟨Tryz.underlying91⟩
instance : TyB Tryz.prog 91 8 := TyB.of Tryz.type91 rfl
instance : TyZ Tryz.prog 91 Go.Value.nilFunc := ⟨Tryz.zeroValue91⟩
instance : TyI Tryz.prog 92 false 1 := ⟨Tryz.isAgg92, Tryz.sizeOf92⟩
instance : TyU Tryz.prog 92 (Go.TypeDesc.func #[3, 3] #[3] false) := ⟨Tryz.underlying92⟩
instance : TyB Tryz.prog 92 8 := TyB.of Tryz.type92 rfl
instance : TyZ Tryz.prog 92 Go.Value.nilFunc := ⟨Tryz.zeroValue92⟩
instance : TyI Tryz.prog 93 false 1 := ⟨Tryz.isAgg93, Tryz.sizeOf93⟩
instance : TyU Tryz.prog 93 (Go.TypeDesc.func #[23] #[4] false) := ⟨Tryz.underlying93⟩
instance : TyB Tryz.prog 93 8 := TyB.of Tryz.type93 rfl
instance : TyZ Tryz.prog 93 Go.Value.nilFunc := ⟨Tryz.zeroValue93⟩
instance : TyI Tryz.prog 94 false 1 := ⟨Tryz.isAgg94, Tryz.sizeOf94⟩
instance : TyU Tryz.prog 94 (Go.TypeDesc.func #[57, 3] #[57] false) := ⟨Tryz.underlying94⟩
instance : TyB Tryz.prog 94 8 := TyB.of Tryz.type94 rfl
instance : TyZ Tryz.prog 94 Go.Value.nilFunc := ⟨Tryz.zeroValue94⟩
instance : TyI Tryz.prog 95 false 1 := ⟨Tryz.isAgg95, Tryz.sizeOf95⟩
instance : TyU Tryz.prog 95 (Go.TypeDesc.map 122 3) := ⟨Tryz.underlying95⟩
instance : TyB Tryz.prog 95 8 := TyB.of Tryz.type95 rfl
instance : TyZ Tryz.prog 95 (Go.Value.map none) := ⟨Tryz.zeroValue95⟩
instance : TyI Tryz.prog 96 true 8 := ⟨Tryz.isAgg96, Tryz.sizeOf96⟩
instance : TyU Tryz.prog 96 (Go.TypeDesc.struct #[{ name := "g", type := 23, offset := 0, embedded := false, tag := "", pkgPath := "garret/nor", byteOffset := 0 }, { name := "p", type := 29, offset := 5, embedded := false, tag := "", pkgPath := "garret/nor", byteOffset := 40 }, { name := "b", type := 57, offset := 6, embedded := false, tag := "", pkgPath := "garret/nor", byteOffset := 48 }, { name := "erases", type := 95, offset := 7, embedded := false, tag := "", pkgPath := "garret/nor", byteOffset := 72 }]) := ⟨Tryz.underlying96⟩
instance : TyB Tryz.prog 96 80 := TyB.of Tryz.type96 rfl
instance : TyZ Tryz.prog 96 (Go.Value.agg #[Go.Value.int Go.IntKind.i64 0, Go.Value.int Go.IntKind.i64 0, Go.Value.int Go.IntKind.i64 0, Go.Value.int Go.IntKind.i64 0, Go.Value.int Go.IntKind.i64 0, Go.Value.pointer none, Go.Value.slice none 0 0, Go.Value.map none]) := ⟨Tryz.zeroValue96⟩
instance : TyF Tryz.prog 96 0 0 := ⟨_, _, Tryz.underlying96, rfl, rfl, fun w => ⟨_, Tryz.sizeOf23 w, by decide⟩⟩
instance : TyV Tryz.prog 96 1 5 := ⟨_, _, Tryz.underlying96, rfl, rfl, Tryz.isAgg29⟩
instance : TyF Tryz.prog 96 1 5 := ⟨_, _, Tryz.underlying96, rfl, rfl, fun w => ⟨_, Tryz.sizeOf29 w, by decide⟩⟩
instance : TyV Tryz.prog 96 2 6 := ⟨_, _, Tryz.underlying96, rfl, rfl, Tryz.isAgg57⟩
instance : TyF Tryz.prog 96 2 6 := ⟨_, _, Tryz.underlying96, rfl, rfl, fun w => ⟨_, Tryz.sizeOf57 w, by decide⟩⟩
instance : TyV Tryz.prog 96 3 7 := ⟨_, _, Tryz.underlying96, rfl, rfl, Tryz.isAgg95⟩
instance : TyF Tryz.prog 96 3 7 := ⟨_, _, Tryz.underlying96, rfl, rfl, fun w => ⟨_, Tryz.sizeOf95 w, by decide⟩⟩
instance : TyS Tryz.prog 96 [(0, 5), (5, 1), (6, 1), (7, 1)] [Go.Value.int Go.IntKind.i64 0, Go.Value.int Go.IntKind.i64 0, Go.Value.int Go.IntKind.i64 0, Go.Value.int Go.IntKind.i64 0, Go.Value.int Go.IntKind.i64 0, Go.Value.pointer none, Go.Value.slice none 0 0, Go.Value.map none] := TyS.mk' Tryz.underlying96 Tryz.zeroValue96 (fun w => by simp)
instance : TyI Tryz.prog 97 true 8 := ⟨Tryz.isAgg97, Tryz.sizeOf97⟩
instance : TyU Tryz.prog 97 (Go.TypeDesc.struct #[{ name := "g", type := 23, offset := 0, embedded := false, tag := "", pkgPath := "garret/nor", byteOffset := 0 }, { name := "p", type := 29, offset := 5, embedded := false, tag := "", pkgPath := "garret/nor", byteOffset := 40 }, { name := "b", type := 57, offset := 6, embedded := false, tag := "", pkgPath := "garret/nor", byteOffset := 48 }, { name := "erases", type := 95, offset := 7, embedded := false, tag := "", pkgPath := "garret/nor", byteOffset := 72 }]) := ⟨Tryz.underlying97⟩
instance : TyB Tryz.prog 97 80 := TyB.of Tryz.type97 rfl
instance : TyZ Tryz.prog 97 (Go.Value.agg #[Go.Value.int Go.IntKind.i64 0, Go.Value.int Go.IntKind.i64 0, Go.Value.int Go.IntKind.i64 0, Go.Value.int Go.IntKind.i64 0, Go.Value.int Go.IntKind.i64 0, Go.Value.pointer none, Go.Value.slice none 0 0, Go.Value.map none]) := ⟨Tryz.zeroValue97⟩
instance : TyF Tryz.prog 97 0 0 := ⟨_, _, Tryz.underlying97, rfl, rfl, fun w => ⟨_, Tryz.sizeOf23 w, by decide⟩⟩
instance : TyV Tryz.prog 97 1 5 := ⟨_, _, Tryz.underlying97, rfl, rfl, Tryz.isAgg29⟩
instance : TyF Tryz.prog 97 1 5 := ⟨_, _, Tryz.underlying97, rfl, rfl, fun w => ⟨_, Tryz.sizeOf29 w, by decide⟩⟩
instance : TyV Tryz.prog 97 2 6 := ⟨_, _, Tryz.underlying97, rfl, rfl, Tryz.isAgg57⟩
instance : TyF Tryz.prog 97 2 6 := ⟨_, _, Tryz.underlying97, rfl, rfl, fun w => ⟨_, Tryz.sizeOf57 w, by decide⟩⟩
instance : TyV Tryz.prog 97 3 7 := ⟨_, _, Tryz.underlying97, rfl, rfl, Tryz.isAgg95⟩
instance : TyF Tryz.prog 97 3 7 := ⟨_, _, Tryz.underlying97, rfl, rfl, fun w => ⟨_, Tryz.sizeOf95 w, by decide⟩⟩
instance : TyS Tryz.prog 97 [(0, 5), (5, 1), (6, 1), (7, 1)] [Go.Value.int Go.IntKind.i64 0, Go.Value.int Go.IntKind.i64 0, Go.Value.int Go.IntKind.i64 0, Go.Value.int Go.IntKind.i64 0, Go.Value.int Go.IntKind.i64 0, Go.Value.pointer none, Go.Value.slice none 0 0, Go.Value.map none] := TyS.mk' Tryz.underlying97 Tryz.zeroValue97 (fun w => by simp)
instance : TyI Tryz.prog 98 false 1 := ⟨Tryz.isAgg98, Tryz.sizeOf98⟩
instance : TyU Tryz.prog 98 (Go.TypeDesc.map 226 3) := ⟨Tryz.underlying98⟩
instance : TyB Tryz.prog 98 8 := TyB.of Tryz.type98 rfl
instance : TyZ Tryz.prog 98 (Go.Value.map none) := ⟨Tryz.zeroValue98⟩
instance : TyI Tryz.prog 99 true 5 := ⟨Tryz.isAgg99, Tryz.sizeOf99⟩
instance : TyU Tryz.prog 99 (Go.TypeDesc.struct #[{ name := "left", type := 3, offset := 0, embedded := false, tag := "", pkgPath := "garret/power", byteOffset := 0 }, { name := "mask", type := 5, offset := 1, embedded := false, tag := "", pkgPath := "garret/power", byteOffset := 8 }, { name := "off", type := 4, offset := 2, embedded := false, tag := "", pkgPath := "garret/power", byteOffset := 9 }, { name := "fails", type := 98, offset := 3, embedded := false, tag := "", pkgPath := "garret/power", byteOffset := 16 }, { name := "done", type := 3, offset := 4, embedded := false, tag := "", pkgPath := "garret/power", byteOffset := 24 }]) := ⟨Tryz.underlying99⟩
instance : TyB Tryz.prog 99 32 := TyB.of Tryz.type99 rfl
instance : TyZ Tryz.prog 99 (Go.Value.agg #[Go.Value.int Go.IntKind.i64 0, Go.Value.int Go.IntKind.u8 0, Go.Value.bool false, Go.Value.map none, Go.Value.int Go.IntKind.i64 0]) := ⟨Tryz.zeroValue99⟩
instance : TyV Tryz.prog 99 0 0 := ⟨_, _, Tryz.underlying99, rfl, rfl, Tryz.isAgg3⟩
instance : TyF Tryz.prog 99 0 0 := ⟨_, _, Tryz.underlying99, rfl, rfl, fun w => ⟨_, Tryz.sizeOf3 w, by decide⟩⟩
instance : TyV Tryz.prog 99 1 1 := ⟨_, _, Tryz.underlying99, rfl, rfl, Tryz.isAgg5⟩
instance : TyF Tryz.prog 99 1 1 := ⟨_, _, Tryz.underlying99, rfl, rfl, fun w => ⟨_, Tryz.sizeOf5 w, by decide⟩⟩
instance : TyV Tryz.prog 99 2 2 := ⟨_, _, Tryz.underlying99, rfl, rfl, Tryz.isAgg4⟩
instance : TyF Tryz.prog 99 2 2 := ⟨_, _, Tryz.underlying99, rfl, rfl, fun w => ⟨_, Tryz.sizeOf4 w, by decide⟩⟩
instance : TyV Tryz.prog 99 3 3 := ⟨_, _, Tryz.underlying99, rfl, rfl, Tryz.isAgg98⟩
instance : TyF Tryz.prog 99 3 3 := ⟨_, _, Tryz.underlying99, rfl, rfl, fun w => ⟨_, Tryz.sizeOf98 w, by decide⟩⟩
instance : TyV Tryz.prog 99 4 4 := ⟨_, _, Tryz.underlying99, rfl, rfl, Tryz.isAgg3⟩
instance : TyF Tryz.prog 99 4 4 := ⟨_, _, Tryz.underlying99, rfl, rfl, fun w => ⟨_, Tryz.sizeOf3 w, by decide⟩⟩
instance : TyS Tryz.prog 99 [(0, 1), (1, 1), (2, 1), (3, 1), (4, 1)] [Go.Value.int Go.IntKind.i64 0, Go.Value.int Go.IntKind.u8 0, Go.Value.bool false, Go.Value.map none, Go.Value.int Go.IntKind.i64 0] := TyS.mk' Tryz.underlying99 Tryz.zeroValue99 (fun w => by simp)
instance : TyI Tryz.prog 100 true 5 := ⟨Tryz.isAgg100, Tryz.sizeOf100⟩
instance : TyU Tryz.prog 100 (Go.TypeDesc.struct #[{ name := "left", type := 3, offset := 0, embedded := false, tag := "", pkgPath := "garret/power", byteOffset := 0 }, { name := "mask", type := 5, offset := 1, embedded := false, tag := "", pkgPath := "garret/power", byteOffset := 8 }, { name := "off", type := 4, offset := 2, embedded := false, tag := "", pkgPath := "garret/power", byteOffset := 9 }, { name := "fails", type := 98, offset := 3, embedded := false, tag := "", pkgPath := "garret/power", byteOffset := 16 }, { name := "done", type := 3, offset := 4, embedded := false, tag := "", pkgPath := "garret/power", byteOffset := 24 }]) := ⟨Tryz.underlying100⟩
instance : TyB Tryz.prog 100 32 := TyB.of Tryz.type100 rfl
instance : TyZ Tryz.prog 100 (Go.Value.agg #[Go.Value.int Go.IntKind.i64 0, Go.Value.int Go.IntKind.u8 0, Go.Value.bool false, Go.Value.map none, Go.Value.int Go.IntKind.i64 0]) := ⟨Tryz.zeroValue100⟩
instance : TyV Tryz.prog 100 0 0 := ⟨_, _, Tryz.underlying100, rfl, rfl, Tryz.isAgg3⟩
instance : TyF Tryz.prog 100 0 0 := ⟨_, _, Tryz.underlying100, rfl, rfl, fun w => ⟨_, Tryz.sizeOf3 w, by decide⟩⟩
instance : TyV Tryz.prog 100 1 1 := ⟨_, _, Tryz.underlying100, rfl, rfl, Tryz.isAgg5⟩
instance : TyF Tryz.prog 100 1 1 := ⟨_, _, Tryz.underlying100, rfl, rfl, fun w => ⟨_, Tryz.sizeOf5 w, by decide⟩⟩
instance : TyV Tryz.prog 100 2 2 := ⟨_, _, Tryz.underlying100, rfl, rfl, Tryz.isAgg4⟩
instance : TyF Tryz.prog 100 2 2 := ⟨_, _, Tryz.underlying100, rfl, rfl, fun w => ⟨_, Tryz.sizeOf4 w, by decide⟩⟩
instance : TyV Tryz.prog 100 3 3 := ⟨_, _, Tryz.underlying100, rfl, rfl, Tryz.isAgg98⟩
instance : TyF Tryz.prog 100 3 3 := ⟨_, _, Tryz.underlying100, rfl, rfl, fun w => ⟨_, Tryz.sizeOf98 w, by decide⟩⟩
instance : TyV Tryz.prog 100 4 4 := ⟨_, _, Tryz.underlying100, rfl, rfl, Tryz.isAgg3⟩
instance : TyF Tryz.prog 100 4 4 := ⟨_, _, Tryz.underlying100, rfl, rfl, fun w => ⟨_, Tryz.sizeOf3 w, by decide⟩⟩
instance : TyS Tryz.prog 100 [(0, 1), (1, 1), (2, 1), (3, 1), (4, 1)] [Go.Value.int Go.IntKind.i64 0, Go.Value.int Go.IntKind.u8 0, Go.Value.bool false, Go.Value.map none, Go.Value.int Go.IntKind.i64 0] := TyS.mk' Tryz.underlying100 Tryz.zeroValue100 (fun w => by simp)
instance : TyI Tryz.prog 101 false 1 := ⟨Tryz.isAgg101, Tryz.sizeOf101⟩
instance : TyU Tryz.prog 101 (Go.TypeDesc.func #[25, 3] #[26] false) := ⟨Tryz.underlying101⟩
instance : TyB Tryz.prog 101 8 := TyB.of Tryz.type101 rfl
instance : TyZ Tryz.prog 101 Go.Value.nilFunc := ⟨Tryz.zeroValue101⟩
instance : TyI Tryz.prog 102 true 8 := ⟨Tryz.isAgg102, Tryz.sizeOf102⟩
instance : TyU Tryz.prog 102 (Go.TypeDesc.struct #[{ name := "c", type := 25, offset := 0, embedded := false, tag := "", pkgPath := "garret/journal", byteOffset := 0 }, { name := "half", type := 3, offset := 1, embedded := false, tag := "", pkgPath := "garret/journal", byteOffset := 8 }, { name := "epoch", type := 3, offset := 2, embedded := false, tag := "", pkgPath := "garret/journal", byteOffset := 16 }, { name := "used", type := 3, offset := 3, embedded := false, tag := "", pkgPath := "garret/journal", byteOffset := 24 }, { name := "s", type := 39, offset := 4, embedded := false, tag := "", pkgPath := "garret/journal", byteOffset := 32 }, { name := "ended", type := 4, offset := 7, embedded := false, tag := "", pkgPath := "garret/journal", byteOffset := 88 }]) := ⟨Tryz.underlying102⟩
instance : TyB Tryz.prog 102 96 := TyB.of Tryz.type102 rfl
instance : TyZ Tryz.prog 102 (Go.Value.agg #[Go.Value.pointer none, Go.Value.int Go.IntKind.i64 0, Go.Value.int Go.IntKind.i64 0, Go.Value.int Go.IntKind.i64 0, Go.Value.int Go.IntKind.i64 0, Go.Value.slice none 0 0, Go.Value.slice none 0 0, Go.Value.bool false]) := ⟨Tryz.zeroValue102⟩
instance : TyV Tryz.prog 102 0 0 := ⟨_, _, Tryz.underlying102, rfl, rfl, Tryz.isAgg25⟩
instance : TyF Tryz.prog 102 0 0 := ⟨_, _, Tryz.underlying102, rfl, rfl, fun w => ⟨_, Tryz.sizeOf25 w, by decide⟩⟩
instance : TyV Tryz.prog 102 1 1 := ⟨_, _, Tryz.underlying102, rfl, rfl, Tryz.isAgg3⟩
instance : TyF Tryz.prog 102 1 1 := ⟨_, _, Tryz.underlying102, rfl, rfl, fun w => ⟨_, Tryz.sizeOf3 w, by decide⟩⟩
instance : TyV Tryz.prog 102 2 2 := ⟨_, _, Tryz.underlying102, rfl, rfl, Tryz.isAgg3⟩
instance : TyF Tryz.prog 102 2 2 := ⟨_, _, Tryz.underlying102, rfl, rfl, fun w => ⟨_, Tryz.sizeOf3 w, by decide⟩⟩
instance : TyV Tryz.prog 102 3 3 := ⟨_, _, Tryz.underlying102, rfl, rfl, Tryz.isAgg3⟩
instance : TyF Tryz.prog 102 3 3 := ⟨_, _, Tryz.underlying102, rfl, rfl, fun w => ⟨_, Tryz.sizeOf3 w, by decide⟩⟩
instance : TyF Tryz.prog 102 4 4 := ⟨_, _, Tryz.underlying102, rfl, rfl, fun w => ⟨_, Tryz.sizeOf39 w, by decide⟩⟩
instance : TyV Tryz.prog 102 5 7 := ⟨_, _, Tryz.underlying102, rfl, rfl, Tryz.isAgg4⟩
instance : TyF Tryz.prog 102 5 7 := ⟨_, _, Tryz.underlying102, rfl, rfl, fun w => ⟨_, Tryz.sizeOf4 w, by decide⟩⟩
instance : TyS Tryz.prog 102 [(0, 1), (1, 1), (2, 1), (3, 1), (4, 3), (7, 1)] [Go.Value.pointer none, Go.Value.int Go.IntKind.i64 0, Go.Value.int Go.IntKind.i64 0, Go.Value.int Go.IntKind.i64 0, Go.Value.int Go.IntKind.i64 0, Go.Value.slice none 0 0, Go.Value.slice none 0 0, Go.Value.bool false] := TyS.mk' Tryz.underlying102 Tryz.zeroValue102 (fun w => by simp)
instance : TyI Tryz.prog 103 true 8 := ⟨Tryz.isAgg103, Tryz.sizeOf103⟩
instance : TyU Tryz.prog 103 (Go.TypeDesc.struct #[{ name := "c", type := 25, offset := 0, embedded := false, tag := "", pkgPath := "garret/journal", byteOffset := 0 }, { name := "half", type := 3, offset := 1, embedded := false, tag := "", pkgPath := "garret/journal", byteOffset := 8 }, { name := "epoch", type := 3, offset := 2, embedded := false, tag := "", pkgPath := "garret/journal", byteOffset := 16 }, { name := "used", type := 3, offset := 3, embedded := false, tag := "", pkgPath := "garret/journal", byteOffset := 24 }, { name := "s", type := 39, offset := 4, embedded := false, tag := "", pkgPath := "garret/journal", byteOffset := 32 }, { name := "ended", type := 4, offset := 7, embedded := false, tag := "", pkgPath := "garret/journal", byteOffset := 88 }]) := ⟨Tryz.underlying103⟩
instance : TyB Tryz.prog 103 96 := TyB.of Tryz.type103 rfl
instance : TyZ Tryz.prog 103 (Go.Value.agg #[Go.Value.pointer none, Go.Value.int Go.IntKind.i64 0, Go.Value.int Go.IntKind.i64 0, Go.Value.int Go.IntKind.i64 0, Go.Value.int Go.IntKind.i64 0, Go.Value.slice none 0 0, Go.Value.slice none 0 0, Go.Value.bool false]) := ⟨Tryz.zeroValue103⟩
instance : TyV Tryz.prog 103 0 0 := ⟨_, _, Tryz.underlying103, rfl, rfl, Tryz.isAgg25⟩
instance : TyF Tryz.prog 103 0 0 := ⟨_, _, Tryz.underlying103, rfl, rfl, fun w => ⟨_, Tryz.sizeOf25 w, by decide⟩⟩
instance : TyV Tryz.prog 103 1 1 := ⟨_, _, Tryz.underlying103, rfl, rfl, Tryz.isAgg3⟩
instance : TyF Tryz.prog 103 1 1 := ⟨_, _, Tryz.underlying103, rfl, rfl, fun w => ⟨_, Tryz.sizeOf3 w, by decide⟩⟩
instance : TyV Tryz.prog 103 2 2 := ⟨_, _, Tryz.underlying103, rfl, rfl, Tryz.isAgg3⟩
instance : TyF Tryz.prog 103 2 2 := ⟨_, _, Tryz.underlying103, rfl, rfl, fun w => ⟨_, Tryz.sizeOf3 w, by decide⟩⟩
instance : TyV Tryz.prog 103 3 3 := ⟨_, _, Tryz.underlying103, rfl, rfl, Tryz.isAgg3⟩
instance : TyF Tryz.prog 103 3 3 := ⟨_, _, Tryz.underlying103, rfl, rfl, fun w => ⟨_, Tryz.sizeOf3 w, by decide⟩⟩
instance : TyF Tryz.prog 103 4 4 := ⟨_, _, Tryz.underlying103, rfl, rfl, fun w => ⟨_, Tryz.sizeOf39 w, by decide⟩⟩
instance : TyV Tryz.prog 103 5 7 := ⟨_, _, Tryz.underlying103, rfl, rfl, Tryz.isAgg4⟩
instance : TyF Tryz.prog 103 5 7 := ⟨_, _, Tryz.underlying103, rfl, rfl, fun w => ⟨_, Tryz.sizeOf4 w, by decide⟩⟩
instance : TyS Tryz.prog 103 [(0, 1), (1, 1), (2, 1), (3, 1), (4, 3), (7, 1)] [Go.Value.pointer none, Go.Value.int Go.IntKind.i64 0, Go.Value.int Go.IntKind.i64 0, Go.Value.int Go.IntKind.i64 0, Go.Value.int Go.IntKind.i64 0, Go.Value.slice none 0 0, Go.Value.slice none 0 0, Go.Value.bool false] := TyS.mk' Tryz.underlying103 Tryz.zeroValue103 (fun w => by simp)
instance : TyI Tryz.prog 104 false 1 := ⟨Tryz.isAgg104, Tryz.sizeOf104⟩
instance : TyU Tryz.prog 104 (Go.TypeDesc.func #[3, 39] #[57] false) := ⟨Tryz.underlying104⟩
instance : TyB Tryz.prog 104 8 := TyB.of Tryz.type104 rfl
instance : TyZ Tryz.prog 104 Go.Value.nilFunc := ⟨Tryz.zeroValue104⟩
instance : TyI Tryz.prog 105 false 1 := ⟨Tryz.isAgg105, Tryz.sizeOf105⟩
instance : TyU Tryz.prog 105 (Go.TypeDesc.func #[25, 3, 3, 57] #[26] false) := ⟨Tryz.underlying105⟩
instance : TyB Tryz.prog 105 8 := TyB.of Tryz.type105 rfl
instance : TyZ Tryz.prog 105 Go.Value.nilFunc := ⟨Tryz.zeroValue105⟩
instance : TyI Tryz.prog 106 false 1 := ⟨Tryz.isAgg106, Tryz.sizeOf106⟩
instance : TyU Tryz.prog 106 (Go.TypeDesc.func #[3, 3, 9] #[44] false) := ⟨Tryz.underlying106⟩
instance : TyB Tryz.prog 106 8 := TyB.of Tryz.type106 rfl
instance : TyZ Tryz.prog 106 Go.Value.nilFunc := ⟨Tryz.zeroValue106⟩
instance : TyI Tryz.prog 107 false 1 := ⟨Tryz.isAgg107, Tryz.sizeOf107⟩
instance : TyU Tryz.prog 107 (Go.TypeDesc.func #[39] #[26] false) := ⟨Tryz.underlying107⟩
instance : TyB Tryz.prog 107 8 := TyB.of Tryz.type107 rfl
instance : TyZ Tryz.prog 107 Go.Value.nilFunc := ⟨Tryz.zeroValue107⟩
instance : TyI Tryz.prog 108 false 1 := ⟨Tryz.isAgg108, Tryz.sizeOf108⟩
instance : TyU Tryz.prog 108 (Go.TypeDesc.func #[23] #[3] false) := ⟨Tryz.underlying108⟩
instance : TyB Tryz.prog 108 8 := TyB.of Tryz.type108 rfl
instance : TyZ Tryz.prog 108 Go.Value.nilFunc := ⟨Tryz.zeroValue108⟩
instance : TyI Tryz.prog 109 false 1 := ⟨Tryz.isAgg109, Tryz.sizeOf109⟩
instance : TyU Tryz.prog 109 (Go.TypeDesc.func #[36, 44] #[36] false) := ⟨Tryz.underlying109⟩
instance : TyB Tryz.prog 109 8 := TyB.of Tryz.type109 rfl
instance : TyZ Tryz.prog 109 Go.Value.nilFunc := ⟨Tryz.zeroValue109⟩
instance : TyI Tryz.prog 110 false 1 := ⟨Tryz.isAgg110, Tryz.sizeOf110⟩
instance : TyU Tryz.prog 110 (Go.TypeDesc.func #[37, 3] #[37] false) := ⟨Tryz.underlying110⟩
instance : TyB Tryz.prog 110 8 := TyB.of Tryz.type110 rfl
instance : TyZ Tryz.prog 110 Go.Value.nilFunc := ⟨Tryz.zeroValue110⟩
instance : TyI Tryz.prog 111 false 1 := ⟨Tryz.isAgg111, Tryz.sizeOf111⟩
instance : TyU Tryz.prog 111 (Go.TypeDesc.func #[36, 36, 112] #[4] false) := ⟨Tryz.underlying111⟩
instance : TyB Tryz.prog 111 8 := TyB.of Tryz.type111 rfl
instance : TyZ Tryz.prog 111 Go.Value.nilFunc := ⟨Tryz.zeroValue111⟩
instance : TyI Tryz.prog 112 false 1 := ⟨Tryz.isAgg112, Tryz.sizeOf112⟩
instance : TyU Tryz.prog 112 (Go.TypeDesc.func #[44, 44] #[4] false) := ⟨Tryz.underlying112⟩
instance : TyB Tryz.prog 112 8 := TyB.of Tryz.type112 rfl
instance : TyZ Tryz.prog 112 Go.Value.nilFunc := ⟨Tryz.zeroValue112⟩
instance : TyI Tryz.prog 113 false 1 := ⟨Tryz.isAgg113, Tryz.sizeOf113⟩
instance : TyU Tryz.prog 113 (Go.TypeDesc.func #[37, 37] #[4] false) := ⟨Tryz.underlying113⟩
instance : TyB Tryz.prog 113 8 := TyB.of Tryz.type113 rfl
instance : TyZ Tryz.prog 113 Go.Value.nilFunc := ⟨Tryz.zeroValue113⟩
instance : TyI Tryz.prog 114 false 1 := ⟨Tryz.isAgg114, Tryz.sizeOf114⟩
instance : TyU Tryz.prog 114 (Go.TypeDesc.func #[25, 3] #[57, 26] false) := ⟨Tryz.underlying114⟩
instance : TyB Tryz.prog 114 8 := TyB.of Tryz.type114 rfl
instance : TyZ Tryz.prog 114 Go.Value.nilFunc := ⟨Tryz.zeroValue114⟩
instance : TyI Tryz.prog 115 true 6 := ⟨Tryz.isAgg115, Tryz.sizeOf115⟩
instance : TyU Tryz.prog 115 (Go.TypeDesc.struct #[{ name := "epoch", type := 3, offset := 0, embedded := false, tag := "", pkgPath := "garret/journal", byteOffset := 0 }, { name := "used", type := 3, offset := 1, embedded := false, tag := "", pkgPath := "garret/journal", byteOffset := 8 }, { name := "s", type := 39, offset := 2, embedded := false, tag := "", pkgPath := "garret/journal", byteOffset := 16 }, { name := "more", type := 4, offset := 5, embedded := false, tag := "", pkgPath := "garret/journal", byteOffset := 72 }]) := ⟨Tryz.underlying115⟩
instance : TyB Tryz.prog 115 80 := TyB.of Tryz.type115 rfl
instance : TyZ Tryz.prog 115 (Go.Value.agg #[Go.Value.int Go.IntKind.i64 0, Go.Value.int Go.IntKind.i64 0, Go.Value.int Go.IntKind.i64 0, Go.Value.slice none 0 0, Go.Value.slice none 0 0, Go.Value.bool false]) := ⟨Tryz.zeroValue115⟩
instance : TyV Tryz.prog 115 0 0 := ⟨_, _, Tryz.underlying115, rfl, rfl, Tryz.isAgg3⟩
instance : TyF Tryz.prog 115 0 0 := ⟨_, _, Tryz.underlying115, rfl, rfl, fun w => ⟨_, Tryz.sizeOf3 w, by decide⟩⟩
instance : TyV Tryz.prog 115 1 1 := ⟨_, _, Tryz.underlying115, rfl, rfl, Tryz.isAgg3⟩
instance : TyF Tryz.prog 115 1 1 := ⟨_, _, Tryz.underlying115, rfl, rfl, fun w => ⟨_, Tryz.sizeOf3 w, by decide⟩⟩
instance : TyF Tryz.prog 115 2 2 := ⟨_, _, Tryz.underlying115, rfl, rfl, fun w => ⟨_, Tryz.sizeOf39 w, by decide⟩⟩
instance : TyV Tryz.prog 115 3 5 := ⟨_, _, Tryz.underlying115, rfl, rfl, Tryz.isAgg4⟩
instance : TyF Tryz.prog 115 3 5 := ⟨_, _, Tryz.underlying115, rfl, rfl, fun w => ⟨_, Tryz.sizeOf4 w, by decide⟩⟩
instance : TyS Tryz.prog 115 [(0, 1), (1, 1), (2, 3), (5, 1)] [Go.Value.int Go.IntKind.i64 0, Go.Value.int Go.IntKind.i64 0, Go.Value.int Go.IntKind.i64 0, Go.Value.slice none 0 0, Go.Value.slice none 0 0, Go.Value.bool false] := TyS.mk' Tryz.underlying115 Tryz.zeroValue115 (fun w => by simp)
instance : TyI Tryz.prog 116 true 6 := ⟨Tryz.isAgg116, Tryz.sizeOf116⟩
instance : TyU Tryz.prog 116 (Go.TypeDesc.struct #[{ name := "epoch", type := 3, offset := 0, embedded := false, tag := "", pkgPath := "garret/journal", byteOffset := 0 }, { name := "used", type := 3, offset := 1, embedded := false, tag := "", pkgPath := "garret/journal", byteOffset := 8 }, { name := "s", type := 39, offset := 2, embedded := false, tag := "", pkgPath := "garret/journal", byteOffset := 16 }, { name := "more", type := 4, offset := 5, embedded := false, tag := "", pkgPath := "garret/journal", byteOffset := 72 }]) := ⟨Tryz.underlying116⟩
instance : TyB Tryz.prog 116 80 := TyB.of Tryz.type116 rfl
instance : TyZ Tryz.prog 116 (Go.Value.agg #[Go.Value.int Go.IntKind.i64 0, Go.Value.int Go.IntKind.i64 0, Go.Value.int Go.IntKind.i64 0, Go.Value.slice none 0 0, Go.Value.slice none 0 0, Go.Value.bool false]) := ⟨Tryz.zeroValue116⟩
instance : TyV Tryz.prog 116 0 0 := ⟨_, _, Tryz.underlying116, rfl, rfl, Tryz.isAgg3⟩
instance : TyF Tryz.prog 116 0 0 := ⟨_, _, Tryz.underlying116, rfl, rfl, fun w => ⟨_, Tryz.sizeOf3 w, by decide⟩⟩
instance : TyV Tryz.prog 116 1 1 := ⟨_, _, Tryz.underlying116, rfl, rfl, Tryz.isAgg3⟩
instance : TyF Tryz.prog 116 1 1 := ⟨_, _, Tryz.underlying116, rfl, rfl, fun w => ⟨_, Tryz.sizeOf3 w, by decide⟩⟩
instance : TyF Tryz.prog 116 2 2 := ⟨_, _, Tryz.underlying116, rfl, rfl, fun w => ⟨_, Tryz.sizeOf39 w, by decide⟩⟩
instance : TyV Tryz.prog 116 3 5 := ⟨_, _, Tryz.underlying116, rfl, rfl, Tryz.isAgg4⟩
instance : TyF Tryz.prog 116 3 5 := ⟨_, _, Tryz.underlying116, rfl, rfl, fun w => ⟨_, Tryz.sizeOf4 w, by decide⟩⟩
instance : TyS Tryz.prog 116 [(0, 1), (1, 1), (2, 3), (5, 1)] [Go.Value.int Go.IntKind.i64 0, Go.Value.int Go.IntKind.i64 0, Go.Value.int Go.IntKind.i64 0, Go.Value.slice none 0 0, Go.Value.slice none 0 0, Go.Value.bool false] := TyS.mk' Tryz.underlying116 Tryz.zeroValue116 (fun w => by simp)
instance : TyI Tryz.prog 117 false 1 := ⟨Tryz.isAgg117, Tryz.sizeOf117⟩
instance : TyU Tryz.prog 117 (Go.TypeDesc.func #[57] #[116] false) := ⟨Tryz.underlying117⟩
instance : TyB Tryz.prog 117 8 := TyB.of Tryz.type117 rfl
instance : TyZ Tryz.prog 117 Go.Value.nilFunc := ⟨Tryz.zeroValue117⟩
instance : TyI Tryz.prog 118 true 2 := ⟨Tryz.isAgg118, Tryz.sizeOf118⟩
instance : TyU Tryz.prog 118 (Go.TypeDesc.struct #[{ name := "Name", type := 9, offset := 0, embedded := false, tag := "", pkgPath := "", byteOffset := 0 }, { name := "No", type := 3, offset := 1, embedded := false, tag := "", pkgPath := "", byteOffset := 16 }]) := ⟨Tryz.underlying118⟩
instance : TyB Tryz.prog 118 24 := TyB.of Tryz.type118 rfl
instance : TyZ Tryz.prog 118 (Go.Value.agg #[Go.Value.string { data := #[] }, Go.Value.int Go.IntKind.i64 0]) := ⟨Tryz.zeroValue118⟩
instance : TyV Tryz.prog 118 0 0 := ⟨_, _, Tryz.underlying118, rfl, rfl, Tryz.isAgg9⟩
instance : TyF Tryz.prog 118 0 0 := ⟨_, _, Tryz.underlying118, rfl, rfl, fun w => ⟨_, Tryz.sizeOf9 w, by decide⟩⟩
instance : TyV Tryz.prog 118 1 1 := ⟨_, _, Tryz.underlying118, rfl, rfl, Tryz.isAgg3⟩
instance : TyF Tryz.prog 118 1 1 := ⟨_, _, Tryz.underlying118, rfl, rfl, fun w => ⟨_, Tryz.sizeOf3 w, by decide⟩⟩
instance : TyS Tryz.prog 118 [(0, 1), (1, 1)] [Go.Value.string { data := #[] }, Go.Value.int Go.IntKind.i64 0] := TyS.mk' Tryz.underlying118 Tryz.zeroValue118 (fun w => by simp)
instance : TyI Tryz.prog 119 true 2 := ⟨Tryz.isAgg119, Tryz.sizeOf119⟩
instance : TyU Tryz.prog 119 (Go.TypeDesc.struct #[{ name := "Name", type := 9, offset := 0, embedded := false, tag := "", pkgPath := "", byteOffset := 0 }, { name := "No", type := 3, offset := 1, embedded := false, tag := "", pkgPath := "", byteOffset := 16 }]) := ⟨Tryz.underlying119⟩
instance : TyB Tryz.prog 119 24 := TyB.of Tryz.type119 rfl
instance : TyZ Tryz.prog 119 (Go.Value.agg #[Go.Value.string { data := #[] }, Go.Value.int Go.IntKind.i64 0]) := ⟨Tryz.zeroValue119⟩
instance : TyV Tryz.prog 119 0 0 := ⟨_, _, Tryz.underlying119, rfl, rfl, Tryz.isAgg9⟩
instance : TyF Tryz.prog 119 0 0 := ⟨_, _, Tryz.underlying119, rfl, rfl, fun w => ⟨_, Tryz.sizeOf9 w, by decide⟩⟩
instance : TyV Tryz.prog 119 1 1 := ⟨_, _, Tryz.underlying119, rfl, rfl, Tryz.isAgg3⟩
instance : TyF Tryz.prog 119 1 1 := ⟨_, _, Tryz.underlying119, rfl, rfl, fun w => ⟨_, Tryz.sizeOf3 w, by decide⟩⟩
instance : TyS Tryz.prog 119 [(0, 1), (1, 1)] [Go.Value.string { data := #[] }, Go.Value.int Go.IntKind.i64 0] := TyS.mk' Tryz.underlying119 Tryz.zeroValue119 (fun w => by simp)
instance : TyI Tryz.prog 120 false 1 := ⟨Tryz.isAgg120, Tryz.sizeOf120⟩
instance : TyU Tryz.prog 120 (Go.TypeDesc.func #[3, 3] #[26] false) := ⟨Tryz.underlying120⟩
instance : TyB Tryz.prog 120 8 := TyB.of Tryz.type120 rfl
instance : TyZ Tryz.prog 120 Go.Value.nilFunc := ⟨Tryz.zeroValue120⟩
instance : TyI Tryz.prog 121 false 1 := ⟨Tryz.isAgg121, Tryz.sizeOf121⟩
instance : TyU Tryz.prog 121 (Go.TypeDesc.func #[57] #[57] false) := ⟨Tryz.underlying121⟩
instance : TyB Tryz.prog 121 8 := TyB.of Tryz.type121 rfl
instance : TyZ Tryz.prog 121 Go.Value.nilFunc := ⟨Tryz.zeroValue121⟩
instance : TyI Tryz.prog 122 true 1 := ⟨Tryz.isAgg122, Tryz.sizeOf122⟩
instance : TyU Tryz.prog 122 (Go.TypeDesc.array 1 3) := ⟨Tryz.underlying122⟩
instance : TyB Tryz.prog 122 8 := TyB.of Tryz.type122 rfl
instance : TyZ Tryz.prog 122 (Go.Value.agg #[Go.Value.int Go.IntKind.i64 0]) := ⟨Tryz.zeroValue122⟩
instance : TyI Tryz.prog 123 false 1 := ⟨Tryz.isAgg123, Tryz.sizeOf123⟩
instance : TyU Tryz.prog 123 (Go.TypeDesc.func #[3] #[57] false) := ⟨Tryz.underlying123⟩
instance : TyB Tryz.prog 123 8 := TyB.of Tryz.type123 rfl
instance : TyZ Tryz.prog 123 Go.Value.nilFunc := ⟨Tryz.zeroValue123⟩
instance : TyI Tryz.prog 124 false 1 := ⟨Tryz.isAgg124, Tryz.sizeOf124⟩
instance : TyU Tryz.prog 124 (Go.TypeDesc.func #[70, 3] #[26] false) := ⟨Tryz.underlying124⟩
instance : TyB Tryz.prog 124 8 := TyB.of Tryz.type124 rfl
instance : TyZ Tryz.prog 124 Go.Value.nilFunc := ⟨Tryz.zeroValue124⟩
instance : TyI Tryz.prog 125 false 1 := ⟨Tryz.isAgg125, Tryz.sizeOf125⟩
instance : TyU Tryz.prog 125 (Go.TypeDesc.tuple #[39, 3, 3, 4]) := ⟨Tryz.underlying125⟩
instance : TyB Tryz.prog 125 0 := TyB.of Tryz.type125 rfl
instance : TyI Tryz.prog 126 false 1 := ⟨Tryz.isAgg126, Tryz.sizeOf126⟩
instance : TyU Tryz.prog 126 (Go.TypeDesc.func #[70, 3] #[39, 3, 3, 4] false) := ⟨Tryz.underlying126⟩
instance : TyB Tryz.prog 126 8 := TyB.of Tryz.type126 rfl
instance : TyZ Tryz.prog 126 Go.Value.nilFunc := ⟨Tryz.zeroValue126⟩
instance : TyI Tryz.prog 127 false 1 := ⟨Tryz.isAgg127, Tryz.sizeOf127⟩
instance : TyU Tryz.prog 127 (Go.TypeDesc.func #[57] #[57, 26] false) := ⟨Tryz.underlying127⟩
instance : TyB Tryz.prog 127 8 := TyB.of Tryz.type127 rfl
instance : TyZ Tryz.prog 127 Go.Value.nilFunc := ⟨Tryz.zeroValue127⟩
instance : TyI Tryz.prog 128 false 1 := ⟨Tryz.isAgg128, Tryz.sizeOf128⟩
instance : TyU Tryz.prog 128 (Go.TypeDesc.func #[3, 57] #[26] false) := ⟨Tryz.underlying128⟩
instance : TyB Tryz.prog 128 8 := TyB.of Tryz.type128 rfl
instance : TyZ Tryz.prog 128 Go.Value.nilFunc := ⟨Tryz.zeroValue128⟩
instance : TyI Tryz.prog 129 false 1 := ⟨Tryz.isAgg129, Tryz.sizeOf129⟩
instance : TyU Tryz.prog 129 (Go.TypeDesc.func #[57, 9] #[57] false) := ⟨Tryz.underlying129⟩
instance : TyB Tryz.prog 129 8 := TyB.of Tryz.type129 rfl
instance : TyZ Tryz.prog 129 Go.Value.nilFunc := ⟨Tryz.zeroValue129⟩
instance : TyI Tryz.prog 130 true 3 := ⟨Tryz.isAgg130, Tryz.sizeOf130⟩
instance : TyU Tryz.prog 130 (Go.TypeDesc.struct #[{ name := "From", type := 3, offset := 0, embedded := false, tag := "", pkgPath := "", byteOffset := 0 }, { name := "At", type := 3, offset := 1, embedded := false, tag := "", pkgPath := "", byteOffset := 8 }, { name := "Count", type := 3, offset := 2, embedded := false, tag := "", pkgPath := "", byteOffset := 16 }]) := ⟨Tryz.underlying130⟩
instance : TyB Tryz.prog 130 24 := TyB.of Tryz.type130 rfl
instance : TyZ Tryz.prog 130 (Go.Value.agg #[Go.Value.int Go.IntKind.i64 0, Go.Value.int Go.IntKind.i64 0, Go.Value.int Go.IntKind.i64 0]) := ⟨Tryz.zeroValue130⟩
instance : TyV Tryz.prog 130 0 0 := ⟨_, _, Tryz.underlying130, rfl, rfl, Tryz.isAgg3⟩
instance : TyF Tryz.prog 130 0 0 := ⟨_, _, Tryz.underlying130, rfl, rfl, fun w => ⟨_, Tryz.sizeOf3 w, by decide⟩⟩
instance : TyV Tryz.prog 130 1 1 := ⟨_, _, Tryz.underlying130, rfl, rfl, Tryz.isAgg3⟩
instance : TyF Tryz.prog 130 1 1 := ⟨_, _, Tryz.underlying130, rfl, rfl, fun w => ⟨_, Tryz.sizeOf3 w, by decide⟩⟩
instance : TyV Tryz.prog 130 2 2 := ⟨_, _, Tryz.underlying130, rfl, rfl, Tryz.isAgg3⟩
instance : TyF Tryz.prog 130 2 2 := ⟨_, _, Tryz.underlying130, rfl, rfl, fun w => ⟨_, Tryz.sizeOf3 w, by decide⟩⟩
instance : TyS Tryz.prog 130 [(0, 1), (1, 1), (2, 1)] [Go.Value.int Go.IntKind.i64 0, Go.Value.int Go.IntKind.i64 0, Go.Value.int Go.IntKind.i64 0] := TyS.mk' Tryz.underlying130 Tryz.zeroValue130 (fun w => by simp)
instance : TyI Tryz.prog 131 true 3 := ⟨Tryz.isAgg131, Tryz.sizeOf131⟩
instance : TyU Tryz.prog 131 (Go.TypeDesc.struct #[{ name := "From", type := 3, offset := 0, embedded := false, tag := "", pkgPath := "", byteOffset := 0 }, { name := "At", type := 3, offset := 1, embedded := false, tag := "", pkgPath := "", byteOffset := 8 }, { name := "Count", type := 3, offset := 2, embedded := false, tag := "", pkgPath := "", byteOffset := 16 }]) := ⟨Tryz.underlying131⟩
instance : TyB Tryz.prog 131 24 := TyB.of Tryz.type131 rfl
instance : TyZ Tryz.prog 131 (Go.Value.agg #[Go.Value.int Go.IntKind.i64 0, Go.Value.int Go.IntKind.i64 0, Go.Value.int Go.IntKind.i64 0]) := ⟨Tryz.zeroValue131⟩
instance : TyV Tryz.prog 131 0 0 := ⟨_, _, Tryz.underlying131, rfl, rfl, Tryz.isAgg3⟩
instance : TyF Tryz.prog 131 0 0 := ⟨_, _, Tryz.underlying131, rfl, rfl, fun w => ⟨_, Tryz.sizeOf3 w, by decide⟩⟩
instance : TyV Tryz.prog 131 1 1 := ⟨_, _, Tryz.underlying131, rfl, rfl, Tryz.isAgg3⟩
instance : TyF Tryz.prog 131 1 1 := ⟨_, _, Tryz.underlying131, rfl, rfl, fun w => ⟨_, Tryz.sizeOf3 w, by decide⟩⟩
instance : TyV Tryz.prog 131 2 2 := ⟨_, _, Tryz.underlying131, rfl, rfl, Tryz.isAgg3⟩
instance : TyF Tryz.prog 131 2 2 := ⟨_, _, Tryz.underlying131, rfl, rfl, fun w => ⟨_, Tryz.sizeOf3 w, by decide⟩⟩
instance : TyS Tryz.prog 131 [(0, 1), (1, 1), (2, 1)] [Go.Value.int Go.IntKind.i64 0, Go.Value.int Go.IntKind.i64 0, Go.Value.int Go.IntKind.i64 0] := TyS.mk' Tryz.underlying131 Tryz.zeroValue131 (fun w => by simp)
instance : TyI Tryz.prog 132 false 1 := ⟨Tryz.isAgg132, Tryz.sizeOf132⟩
instance : TyU Tryz.prog 132 (Go.TypeDesc.func #[3, 3, 3] #[4] false) := ⟨Tryz.underlying132⟩
instance : TyB Tryz.prog 132 8 := TyB.of Tryz.type132 rfl
instance : TyZ Tryz.prog 132 Go.Value.nilFunc := ⟨Tryz.zeroValue132⟩
instance : TyI Tryz.prog 133 false 1 := ⟨Tryz.isAgg133, Tryz.sizeOf133⟩
instance : TyU Tryz.prog 133 (Go.TypeDesc.tuple #[35, 35]) := ⟨Tryz.underlying133⟩
instance : TyB Tryz.prog 133 0 := TyB.of Tryz.type133 rfl
instance : TyI Tryz.prog 134 false 1 := ⟨Tryz.isAgg134, Tryz.sizeOf134⟩
instance : TyU Tryz.prog 134 (Go.TypeDesc.func #[35, 35] #[35, 35] false) := ⟨Tryz.underlying134⟩
instance : TyB Tryz.prog 134 8 := TyB.of Tryz.type134 rfl
instance : TyZ Tryz.prog 134 Go.Value.nilFunc := ⟨Tryz.zeroValue134⟩
instance : TyI Tryz.prog 135 false 1 := ⟨Tryz.isAgg135, Tryz.sizeOf135⟩
instance : TyU Tryz.prog 135 (Go.TypeDesc.func #[3] #[26] false) := ⟨Tryz.underlying135⟩
instance : TyB Tryz.prog 135 8 := TyB.of Tryz.type135 rfl
instance : TyZ Tryz.prog 135 Go.Value.nilFunc := ⟨Tryz.zeroValue135⟩
instance : TyI Tryz.prog 136 false 1 := ⟨Tryz.isAgg136, Tryz.sizeOf136⟩
instance : TyU Tryz.prog 136 (Go.TypeDesc.func #[39] #[47] false) := ⟨Tryz.underlying136⟩
instance : TyB Tryz.prog 136 8 := TyB.of Tryz.type136 rfl
instance : TyZ Tryz.prog 136 Go.Value.nilFunc := ⟨Tryz.zeroValue136⟩
instance : TyI Tryz.prog 137 false 1 := ⟨Tryz.isAgg137, Tryz.sizeOf137⟩
instance : TyU Tryz.prog 137 (Go.TypeDesc.func #[57, 44] #[57] false) := ⟨Tryz.underlying137⟩
instance : TyB Tryz.prog 137 8 := TyB.of Tryz.type137 rfl
instance : TyZ Tryz.prog 137 Go.Value.nilFunc := ⟨Tryz.zeroValue137⟩
instance : TyI Tryz.prog 138 false 1 := ⟨Tryz.isAgg138, Tryz.sizeOf138⟩
instance : TyU Tryz.prog 138 (Go.TypeDesc.func #[36] #[36] false) := ⟨Tryz.underlying138⟩
instance : TyB Tryz.prog 138 8 := TyB.of Tryz.type138 rfl
instance : TyZ Tryz.prog 138 Go.Value.nilFunc := ⟨Tryz.zeroValue138⟩
instance : TyI Tryz.prog 139 false 1 := ⟨Tryz.isAgg139, Tryz.sizeOf139⟩
instance : TyU Tryz.prog 139 (Go.TypeDesc.func #[37] #[37] false) := ⟨Tryz.underlying139⟩
instance : TyB Tryz.prog 139 8 := TyB.of Tryz.type139 rfl
instance : TyZ Tryz.prog 139 Go.Value.nilFunc := ⟨Tryz.zeroValue139⟩
instance : TyI Tryz.prog 140 false 1 := ⟨Tryz.isAgg140, Tryz.sizeOf140⟩
instance : TyU Tryz.prog 140 (Go.TypeDesc.func #[36, 141] #[36] false) := ⟨Tryz.underlying140⟩
instance : TyB Tryz.prog 140 8 := TyB.of Tryz.type140 rfl
instance : TyZ Tryz.prog 140 Go.Value.nilFunc := ⟨Tryz.zeroValue140⟩
instance : TyI Tryz.prog 141 false 1 := ⟨Tryz.isAgg141, Tryz.sizeOf141⟩
instance : TyU Tryz.prog 141 (Go.TypeDesc.func #[44] #[4] false) := ⟨Tryz.underlying141⟩
instance : TyB Tryz.prog 141 8 := TyB.of Tryz.type141 rfl
instance : TyZ Tryz.prog 141 Go.Value.nilFunc := ⟨Tryz.zeroValue141⟩
instance : TyI Tryz.prog 142 false 1 := ⟨Tryz.isAgg142, Tryz.sizeOf142⟩
instance : TyU Tryz.prog 142 (Go.TypeDesc.func #[37, 3] #[4] false) := ⟨Tryz.underlying142⟩
instance : TyB Tryz.prog 142 8 := TyB.of Tryz.type142 rfl
instance : TyZ Tryz.prog 142 Go.Value.nilFunc := ⟨Tryz.zeroValue142⟩
instance : TyI Tryz.prog 143 false 1 := ⟨Tryz.isAgg143, Tryz.sizeOf143⟩
instance : TyU Tryz.prog 143 (Go.TypeDesc.func #[41, 41] #[4] false) := ⟨Tryz.underlying143⟩
instance : TyB Tryz.prog 143 8 := TyB.of Tryz.type143 rfl
instance : TyZ Tryz.prog 143 Go.Value.nilFunc := ⟨Tryz.zeroValue143⟩
instance : TyI Tryz.prog 144 false 1 := ⟨Tryz.isAgg144, Tryz.sizeOf144⟩
instance : TyU Tryz.prog 144 (Go.TypeDesc.func #[42, 42] #[4] false) := ⟨Tryz.underlying144⟩
instance : TyB Tryz.prog 144 8 := TyB.of Tryz.type144 rfl
instance : TyZ Tryz.prog 144 Go.Value.nilFunc := ⟨Tryz.zeroValue144⟩
instance : TyI Tryz.prog 145 false 1 := ⟨Tryz.isAgg145, Tryz.sizeOf145⟩
instance : TyU Tryz.prog 145 (Go.TypeDesc.func #[37, 37, 146] #[4] false) := ⟨Tryz.underlying145⟩
instance : TyB Tryz.prog 145 8 := TyB.of Tryz.type145 rfl
instance : TyZ Tryz.prog 145 Go.Value.nilFunc := ⟨Tryz.zeroValue145⟩
instance : TyI Tryz.prog 146 false 1 := ⟨Tryz.isAgg146, Tryz.sizeOf146⟩
instance : TyU Tryz.prog 146 (Go.TypeDesc.func #[3, 3] #[4] false) := ⟨Tryz.underlying146⟩
instance : TyB Tryz.prog 146 8 := TyB.of Tryz.type146 rfl
instance : TyZ Tryz.prog 146 Go.Value.nilFunc := ⟨Tryz.zeroValue146⟩
instance : TyI Tryz.prog 147 false 1 := ⟨Tryz.isAgg147, Tryz.sizeOf147⟩
instance : TyU Tryz.prog 147 (Go.TypeDesc.slice 57) := ⟨Tryz.underlying147⟩
instance : TyB Tryz.prog 147 24 := TyB.of Tryz.type147 rfl
instance : TyZ Tryz.prog 147 (Go.Value.slice none 0 0) := ⟨Tryz.zeroValue147⟩
instance : TyI Tryz.prog 148 false 1 := ⟨Tryz.isAgg148, Tryz.sizeOf148⟩
instance : TyU Tryz.prog 148 (Go.TypeDesc.tuple #[147, 3, 4]) := ⟨Tryz.underlying148⟩
instance : TyB Tryz.prog 148 0 := TyB.of Tryz.type148 rfl
instance : TyI Tryz.prog 149 false 1 := ⟨Tryz.isAgg149, Tryz.sizeOf149⟩
instance : TyU Tryz.prog 149 (Go.TypeDesc.func #[57] #[147, 3, 4] false) := ⟨Tryz.underlying149⟩
instance : TyB Tryz.prog 149 8 := TyB.of Tryz.type149 rfl
instance : TyZ Tryz.prog 149 Go.Value.nilFunc := ⟨Tryz.zeroValue149⟩
instance : TyI Tryz.prog 150 false 1 := ⟨Tryz.isAgg150, Tryz.sizeOf150⟩
instance : TyU Tryz.prog 150 (Go.TypeDesc.tuple #[3, 26]) := ⟨Tryz.underlying150⟩
instance : TyB Tryz.prog 150 0 := TyB.of Tryz.type150 rfl
instance : TyI Tryz.prog 151 false 1 := ⟨Tryz.isAgg151, Tryz.sizeOf151⟩
instance : TyU Tryz.prog 151 (Go.TypeDesc.func #[57, 3] #[3, 26] false) := ⟨Tryz.underlying151⟩
instance : TyB Tryz.prog 151 8 := TyB.of Tryz.type151 rfl
instance : TyZ Tryz.prog 151 Go.Value.nilFunc := ⟨Tryz.zeroValue151⟩
instance : TyI Tryz.prog 152 false 1 := ⟨Tryz.isAgg152, Tryz.sizeOf152⟩
instance : TyU Tryz.prog 152 (Go.TypeDesc.tuple #[47, 26]) := ⟨Tryz.underlying152⟩
instance : TyB Tryz.prog 152 0 := TyB.of Tryz.type152 rfl
instance : TyI Tryz.prog 153 false 1 := ⟨Tryz.isAgg153, Tryz.sizeOf153⟩
instance : TyU Tryz.prog 153 (Go.TypeDesc.func #[57] #[47, 26] false) := ⟨Tryz.underlying153⟩
instance : TyB Tryz.prog 153 8 := TyB.of Tryz.type153 rfl
instance : TyZ Tryz.prog 153 Go.Value.nilFunc := ⟨Tryz.zeroValue153⟩
instance : TyI Tryz.prog 154 false 1 := ⟨Tryz.isAgg154, Tryz.sizeOf154⟩
instance : TyU Tryz.prog 154 (Go.TypeDesc.func #[70, 3] #[57, 26] false) := ⟨Tryz.underlying154⟩
instance : TyB Tryz.prog 154 8 := TyB.of Tryz.type154 rfl
instance : TyZ Tryz.prog 154 Go.Value.nilFunc := ⟨Tryz.zeroValue154⟩
instance : TyI Tryz.prog 155 false 1 := ⟨Tryz.isAgg155, Tryz.sizeOf155⟩
instance : TyU Tryz.prog 155 (Go.TypeDesc.tuple #[86, 26]) := ⟨Tryz.underlying155⟩
instance : TyB Tryz.prog 155 0 := TyB.of Tryz.type155 rfl
instance : TyI Tryz.prog 156 false 1 := ⟨Tryz.isAgg156, Tryz.sizeOf156⟩
instance : TyU Tryz.prog 156 (Go.TypeDesc.func #[57, 3, 3] #[86, 26] false) := ⟨Tryz.underlying156⟩
instance : TyB Tryz.prog 156 8 := TyB.of Tryz.type156 rfl
instance : TyZ Tryz.prog 156 Go.Value.nilFunc := ⟨Tryz.zeroValue156⟩
instance : TyI Tryz.prog 157 false 1 := ⟨Tryz.isAgg157, Tryz.sizeOf157⟩
instance : TyU Tryz.prog 157 (Go.TypeDesc.int Go.IntKind.u32) := ⟨Tryz.underlying157⟩
instance : TyB Tryz.prog 157 4 := TyB.of Tryz.type157 rfl
instance : TyZ Tryz.prog 157 (Go.Value.int Go.IntKind.u32 0) := ⟨Tryz.zeroValue157⟩
instance : TyI Tryz.prog 158 false 1 := ⟨Tryz.isAgg158, Tryz.sizeOf158⟩
instance : TyU Tryz.prog 158 (Go.TypeDesc.func #[57] #[157] false) := ⟨Tryz.underlying158⟩
instance : TyB Tryz.prog 158 8 := TyB.of Tryz.type158 rfl
instance : TyZ Tryz.prog 158 Go.Value.nilFunc := ⟨Tryz.zeroValue158⟩
instance : TyI Tryz.prog 159 false 1 := ⟨Tryz.isAgg159, Tryz.sizeOf159⟩
instance : TyU Tryz.prog 159 (Go.TypeDesc.tuple #[4, 4]) := ⟨Tryz.underlying159⟩
instance : TyB Tryz.prog 159 0 := TyB.of Tryz.type159 rfl
instance : TyI Tryz.prog 160 false 1 := ⟨Tryz.isAgg160, Tryz.sizeOf160⟩
instance : TyU Tryz.prog 160 (Go.TypeDesc.func #[] #[4, 4] false) := ⟨Tryz.underlying160⟩
instance : TyB Tryz.prog 160 8 := TyB.of Tryz.type160 rfl
instance : TyZ Tryz.prog 160 Go.Value.nilFunc := ⟨Tryz.zeroValue160⟩
instance : TyI Tryz.prog 161 false 1 := ⟨Tryz.isAgg161, Tryz.sizeOf161⟩
instance : TyU Tryz.prog 161 (Go.TypeDesc.tuple #[157, 157]) := ⟨Tryz.underlying161⟩
instance : TyB Tryz.prog 161 0 := TyB.of Tryz.type161 rfl
instance : TyI Tryz.prog 162 false 1 := ⟨Tryz.isAgg162, Tryz.sizeOf162⟩
instance : TyU Tryz.prog 162 (Go.TypeDesc.func #[157, 157] #[157, 157] false) := ⟨Tryz.underlying162⟩
instance : TyB Tryz.prog 162 8 := TyB.of Tryz.type162 rfl
instance : TyZ Tryz.prog 162 Go.Value.nilFunc := ⟨Tryz.zeroValue162⟩
instance : TyI Tryz.prog 163 false 1 := ⟨Tryz.isAgg163, Tryz.sizeOf163⟩
instance : TyU Tryz.prog 163 (Go.TypeDesc.tuple #[86, 86]) := ⟨Tryz.underlying163⟩
instance : TyB Tryz.prog 163 0 := TyB.of Tryz.type163 rfl
instance : TyI Tryz.prog 164 false 1 := ⟨Tryz.isAgg164, Tryz.sizeOf164⟩
instance : TyU Tryz.prog 164 (Go.TypeDesc.func #[86, 86] #[86, 86] false) := ⟨Tryz.underlying164⟩
instance : TyB Tryz.prog 164 8 := TyB.of Tryz.type164 rfl
instance : TyZ Tryz.prog 164 Go.Value.nilFunc := ⟨Tryz.zeroValue164⟩
instance : TyI Tryz.prog 165 false 1 := ⟨Tryz.isAgg165, Tryz.sizeOf165⟩
instance : TyU Tryz.prog 165 (Go.TypeDesc.func #[57, 5] #[] false) := ⟨Tryz.underlying165⟩
instance : TyB Tryz.prog 165 8 := TyB.of Tryz.type165 rfl
instance : TyZ Tryz.prog 165 Go.Value.nilFunc := ⟨Tryz.zeroValue165⟩
instance : TyI Tryz.prog 166 false 1 := ⟨Tryz.isAgg166, Tryz.sizeOf166⟩
instance : TyU Tryz.prog 166 (Go.TypeDesc.func #[] #[5] false) := ⟨Tryz.underlying166⟩
instance : TyB Tryz.prog 166 8 := TyB.of Tryz.type166 rfl
instance : TyZ Tryz.prog 166 Go.Value.nilFunc := ⟨Tryz.zeroValue166⟩
instance : TyI Tryz.prog 167 true 4 := ⟨Tryz.isAgg167, Tryz.sizeOf167⟩
instance : TyU Tryz.prog 167 (Go.TypeDesc.array 4 3) := ⟨Tryz.underlying167⟩
instance : TyB Tryz.prog 167 32 := TyB.of Tryz.type167 rfl
instance : TyZ Tryz.prog 167 (Go.Value.agg #[Go.Value.int Go.IntKind.i64 0, Go.Value.int Go.IntKind.i64 0, Go.Value.int Go.IntKind.i64 0, Go.Value.int Go.IntKind.i64 0]) := ⟨Tryz.zeroValue167⟩
instance : TyI Tryz.prog 168 false 1 := ⟨Tryz.isAgg168, Tryz.sizeOf168⟩
instance : TyU Tryz.prog 168 (Go.TypeDesc.func #[44] #[44] false) := ⟨Tryz.underlying168⟩
instance : TyB Tryz.prog 168 8 := TyB.of Tryz.type168 rfl
instance : TyZ Tryz.prog 168 Go.Value.nilFunc := ⟨Tryz.zeroValue168⟩
instance : TyI Tryz.prog 169 false 1 := ⟨Tryz.isAgg169, Tryz.sizeOf169⟩
instance : TyU Tryz.prog 169 (Go.TypeDesc.func #[147] #[57] true) := ⟨Tryz.underlying169⟩
instance : TyB Tryz.prog 169 8 := TyB.of Tryz.type169 rfl
instance : TyZ Tryz.prog 169 Go.Value.nilFunc := ⟨Tryz.zeroValue169⟩
instance : TyI Tryz.prog 170 false 1 := ⟨Tryz.isAgg170, Tryz.sizeOf170⟩
instance : TyU Tryz.prog 170 (Go.TypeDesc.func #[57, 37] #[57] true) := ⟨Tryz.underlying170⟩
instance : TyB Tryz.prog 170 8 := TyB.of Tryz.type170 rfl
instance : TyZ Tryz.prog 170 Go.Value.nilFunc := ⟨Tryz.zeroValue170⟩
instance : TyI Tryz.prog 171 false 1 := ⟨Tryz.isAgg171, Tryz.sizeOf171⟩
instance : TyU Tryz.prog 171 (Go.TypeDesc.func #[36, 141] #[3] false) := ⟨Tryz.underlying171⟩
instance : TyB Tryz.prog 171 8 := TyB.of Tryz.type171 rfl
instance : TyZ Tryz.prog 171 Go.Value.nilFunc := ⟨Tryz.zeroValue171⟩
instance : TyI Tryz.prog 172 false 1 := ⟨Tryz.isAgg172, Tryz.sizeOf172⟩
instance : TyU Tryz.prog 172 (Go.TypeDesc.func #[36, 3, 36] #[36] true) := ⟨Tryz.underlying172⟩
instance : TyB Tryz.prog 172 8 := TyB.of Tryz.type172 rfl
instance : TyZ Tryz.prog 172 Go.Value.nilFunc := ⟨Tryz.zeroValue172⟩
instance : TyI Tryz.prog 173 false 1 := ⟨Tryz.isAgg173, Tryz.sizeOf173⟩
instance : TyU Tryz.prog 173 (Go.TypeDesc.func #[37, 174] #[3] false) := ⟨Tryz.underlying173⟩
instance : TyB Tryz.prog 173 8 := TyB.of Tryz.type173 rfl
instance : TyZ Tryz.prog 173 Go.Value.nilFunc := ⟨Tryz.zeroValue173⟩
instance : TyI Tryz.prog 174 false 1 := ⟨Tryz.isAgg174, Tryz.sizeOf174⟩
instance : TyU Tryz.prog 174 (Go.TypeDesc.func #[3] #[4] false) := ⟨Tryz.underlying174⟩
instance : TyB Tryz.prog 174 8 := TyB.of Tryz.type174 rfl
instance : TyZ Tryz.prog 174 Go.Value.nilFunc := ⟨Tryz.zeroValue174⟩
instance : TyI Tryz.prog 175 false 1 := ⟨Tryz.isAgg175, Tryz.sizeOf175⟩
instance : TyU Tryz.prog 175 (Go.TypeDesc.func #[37, 3, 37] #[37] true) := ⟨Tryz.underlying175⟩
instance : TyB Tryz.prog 175 8 := TyB.of Tryz.type175 rfl
instance : TyZ Tryz.prog 175 Go.Value.nilFunc := ⟨Tryz.zeroValue175⟩
instance : TyI Tryz.prog 176 false 1 := ⟨Tryz.isAgg176, Tryz.sizeOf176⟩
instance : TyU Tryz.prog 176 (Go.TypeDesc.func #[41, 41, 177] #[4] false) := ⟨Tryz.underlying176⟩
instance : TyB Tryz.prog 176 8 := TyB.of Tryz.type176 rfl
instance : TyZ Tryz.prog 176 Go.Value.nilFunc := ⟨Tryz.zeroValue176⟩
instance : TyI Tryz.prog 177 false 1 := ⟨Tryz.isAgg177, Tryz.sizeOf177⟩
instance : TyU Tryz.prog 177 (Go.TypeDesc.func #[119, 119] #[4] false) := ⟨Tryz.underlying177⟩
instance : TyB Tryz.prog 177 8 := TyB.of Tryz.type177 rfl
instance : TyZ Tryz.prog 177 Go.Value.nilFunc := ⟨Tryz.zeroValue177⟩
instance : TyI Tryz.prog 178 false 1 := ⟨Tryz.isAgg178, Tryz.sizeOf178⟩
instance : TyU Tryz.prog 178 (Go.TypeDesc.func #[42, 42, 179] #[4] false) := ⟨Tryz.underlying178⟩
instance : TyB Tryz.prog 178 8 := TyB.of Tryz.type178 rfl
instance : TyZ Tryz.prog 178 Go.Value.nilFunc := ⟨Tryz.zeroValue178⟩
instance : TyI Tryz.prog 179 false 1 := ⟨Tryz.isAgg179, Tryz.sizeOf179⟩
instance : TyU Tryz.prog 179 (Go.TypeDesc.func #[131, 131] #[4] false) := ⟨Tryz.underlying179⟩
instance : TyB Tryz.prog 179 8 := TyB.of Tryz.type179 rfl
instance : TyZ Tryz.prog 179 Go.Value.nilFunc := ⟨Tryz.zeroValue179⟩
instance : TyI Tryz.prog 180 false 1 := ⟨Tryz.isAgg180, Tryz.sizeOf180⟩
instance : TyU Tryz.prog 180 (Go.TypeDesc.tuple #[57, 4]) := ⟨Tryz.underlying180⟩
instance : TyB Tryz.prog 180 0 := TyB.of Tryz.type180 rfl
instance : TyI Tryz.prog 181 false 1 := ⟨Tryz.isAgg181, Tryz.sizeOf181⟩
instance : TyU Tryz.prog 181 (Go.TypeDesc.func #[57] #[57, 4] false) := ⟨Tryz.underlying181⟩
instance : TyB Tryz.prog 181 8 := TyB.of Tryz.type181 rfl
instance : TyZ Tryz.prog 181 Go.Value.nilFunc := ⟨Tryz.zeroValue181⟩
instance : TyI Tryz.prog 182 false 1 := ⟨Tryz.isAgg182, Tryz.sizeOf182⟩
instance : TyU Tryz.prog 182 (Go.TypeDesc.func #[57, 57] #[3] false) := ⟨Tryz.underlying182⟩
instance : TyB Tryz.prog 182 8 := TyB.of Tryz.type182 rfl
instance : TyZ Tryz.prog 182 Go.Value.nilFunc := ⟨Tryz.zeroValue182⟩
instance : TyI Tryz.prog 183 false 1 := ⟨Tryz.isAgg183, Tryz.sizeOf183⟩
instance : TyU Tryz.prog 183 (Go.TypeDesc.pointer 185) := ⟨Tryz.underlying183⟩
instance : TyB Tryz.prog 183 8 := TyB.of Tryz.type183 rfl
instance : TyZ Tryz.prog 183 (Go.Value.pointer none) := ⟨Tryz.zeroValue183⟩
instance : TyI Tryz.prog 184 true 3 := ⟨Tryz.isAgg184, Tryz.sizeOf184⟩
instance : TyU Tryz.prog 184 (Go.TypeDesc.struct #[{ name := "b", type := 57, offset := 0, embedded := false, tag := "", pkgPath := "garret/pack", byteOffset := 0 }, { name := "at", type := 3, offset := 1, embedded := false, tag := "", pkgPath := "garret/pack", byteOffset := 24 }, { name := "e", type := 26, offset := 2, embedded := false, tag := "", pkgPath := "garret/pack", byteOffset := 32 }]) := ⟨Tryz.underlying184⟩
instance : TyB Tryz.prog 184 40 := TyB.of Tryz.type184 rfl
instance : TyZ Tryz.prog 184 (Go.Value.agg #[Go.Value.slice none 0 0, Go.Value.int Go.IntKind.i64 0, Go.Value.int Go.IntKind.i64 0]) := ⟨Tryz.zeroValue184⟩
instance : TyV Tryz.prog 184 0 0 := ⟨_, _, Tryz.underlying184, rfl, rfl, Tryz.isAgg57⟩
instance : TyF Tryz.prog 184 0 0 := ⟨_, _, Tryz.underlying184, rfl, rfl, fun w => ⟨_, Tryz.sizeOf57 w, by decide⟩⟩
instance : TyV Tryz.prog 184 1 1 := ⟨_, _, Tryz.underlying184, rfl, rfl, Tryz.isAgg3⟩
instance : TyF Tryz.prog 184 1 1 := ⟨_, _, Tryz.underlying184, rfl, rfl, fun w => ⟨_, Tryz.sizeOf3 w, by decide⟩⟩
instance : TyV Tryz.prog 184 2 2 := ⟨_, _, Tryz.underlying184, rfl, rfl, Tryz.isAgg26⟩
instance : TyF Tryz.prog 184 2 2 := ⟨_, _, Tryz.underlying184, rfl, rfl, fun w => ⟨_, Tryz.sizeOf26 w, by decide⟩⟩
instance : TyS Tryz.prog 184 [(0, 1), (1, 1), (2, 1)] [Go.Value.slice none 0 0, Go.Value.int Go.IntKind.i64 0, Go.Value.int Go.IntKind.i64 0] := TyS.mk' Tryz.underlying184 Tryz.zeroValue184 (fun w => by simp)
instance : TyI Tryz.prog 185 true 3 := ⟨Tryz.isAgg185, Tryz.sizeOf185⟩
instance : TyU Tryz.prog 185 (Go.TypeDesc.struct #[{ name := "b", type := 57, offset := 0, embedded := false, tag := "", pkgPath := "garret/pack", byteOffset := 0 }, { name := "at", type := 3, offset := 1, embedded := false, tag := "", pkgPath := "garret/pack", byteOffset := 24 }, { name := "e", type := 26, offset := 2, embedded := false, tag := "", pkgPath := "garret/pack", byteOffset := 32 }]) := ⟨Tryz.underlying185⟩
instance : TyB Tryz.prog 185 40 := TyB.of Tryz.type185 rfl
instance : TyZ Tryz.prog 185 (Go.Value.agg #[Go.Value.slice none 0 0, Go.Value.int Go.IntKind.i64 0, Go.Value.int Go.IntKind.i64 0]) := ⟨Tryz.zeroValue185⟩
instance : TyV Tryz.prog 185 0 0 := ⟨_, _, Tryz.underlying185, rfl, rfl, Tryz.isAgg57⟩
instance : TyF Tryz.prog 185 0 0 := ⟨_, _, Tryz.underlying185, rfl, rfl, fun w => ⟨_, Tryz.sizeOf57 w, by decide⟩⟩
instance : TyV Tryz.prog 185 1 1 := ⟨_, _, Tryz.underlying185, rfl, rfl, Tryz.isAgg3⟩
instance : TyF Tryz.prog 185 1 1 := ⟨_, _, Tryz.underlying185, rfl, rfl, fun w => ⟨_, Tryz.sizeOf3 w, by decide⟩⟩
instance : TyV Tryz.prog 185 2 2 := ⟨_, _, Tryz.underlying185, rfl, rfl, Tryz.isAgg26⟩
instance : TyF Tryz.prog 185 2 2 := ⟨_, _, Tryz.underlying185, rfl, rfl, fun w => ⟨_, Tryz.sizeOf26 w, by decide⟩⟩
instance : TyS Tryz.prog 185 [(0, 1), (1, 1), (2, 1)] [Go.Value.slice none 0 0, Go.Value.int Go.IntKind.i64 0, Go.Value.int Go.IntKind.i64 0] := TyS.mk' Tryz.underlying185 Tryz.zeroValue185 (fun w => by simp)
instance : TyI Tryz.prog 186 false 1 := ⟨Tryz.isAgg186, Tryz.sizeOf186⟩
instance : TyU Tryz.prog 186 (Go.TypeDesc.func #[] #[46] false) := ⟨Tryz.underlying186⟩
instance : TyB Tryz.prog 186 8 := TyB.of Tryz.type186 rfl
instance : TyZ Tryz.prog 186 Go.Value.nilFunc := ⟨Tryz.zeroValue186⟩
instance : TyI Tryz.prog 187 false 1 := ⟨Tryz.isAgg187, Tryz.sizeOf187⟩
instance : TyU Tryz.prog 187 (Go.TypeDesc.func #[57] #[4] false) := ⟨Tryz.underlying187⟩
instance : TyB Tryz.prog 187 8 := TyB.of Tryz.type187 rfl
instance : TyZ Tryz.prog 187 Go.Value.nilFunc := ⟨Tryz.zeroValue187⟩
instance : TyI Tryz.prog 188 false 1 := ⟨Tryz.isAgg188, Tryz.sizeOf188⟩
instance : TyU Tryz.prog 188 (Go.TypeDesc.pointer 190) := ⟨Tryz.underlying188⟩
instance : TyB Tryz.prog 188 8 := TyB.of Tryz.type188 rfl
instance : TyZ Tryz.prog 188 (Go.Value.pointer none) := ⟨Tryz.zeroValue188⟩
instance : TyI Tryz.prog 189 true 3 := ⟨Tryz.isAgg189, Tryz.sizeOf189⟩
instance : TyU Tryz.prog 189 (Go.TypeDesc.struct #[{ name := "b", type := 57, offset := 0, embedded := false, tag := "", pkgPath := "garret/garretref09", byteOffset := 0 }, { name := "at", type := 3, offset := 1, embedded := false, tag := "", pkgPath := "garret/garretref09", byteOffset := 24 }, { name := "bad", type := 4, offset := 2, embedded := false, tag := "", pkgPath := "garret/garretref09", byteOffset := 32 }]) := ⟨Tryz.underlying189⟩
instance : TyB Tryz.prog 189 40 := TyB.of Tryz.type189 rfl
instance : TyZ Tryz.prog 189 (Go.Value.agg #[Go.Value.slice none 0 0, Go.Value.int Go.IntKind.i64 0, Go.Value.bool false]) := ⟨Tryz.zeroValue189⟩
instance : TyV Tryz.prog 189 0 0 := ⟨_, _, Tryz.underlying189, rfl, rfl, Tryz.isAgg57⟩
instance : TyF Tryz.prog 189 0 0 := ⟨_, _, Tryz.underlying189, rfl, rfl, fun w => ⟨_, Tryz.sizeOf57 w, by decide⟩⟩
instance : TyV Tryz.prog 189 1 1 := ⟨_, _, Tryz.underlying189, rfl, rfl, Tryz.isAgg3⟩
instance : TyF Tryz.prog 189 1 1 := ⟨_, _, Tryz.underlying189, rfl, rfl, fun w => ⟨_, Tryz.sizeOf3 w, by decide⟩⟩
instance : TyV Tryz.prog 189 2 2 := ⟨_, _, Tryz.underlying189, rfl, rfl, Tryz.isAgg4⟩
instance : TyF Tryz.prog 189 2 2 := ⟨_, _, Tryz.underlying189, rfl, rfl, fun w => ⟨_, Tryz.sizeOf4 w, by decide⟩⟩
instance : TyS Tryz.prog 189 [(0, 1), (1, 1), (2, 1)] [Go.Value.slice none 0 0, Go.Value.int Go.IntKind.i64 0, Go.Value.bool false] := TyS.mk' Tryz.underlying189 Tryz.zeroValue189 (fun w => by simp)
instance : TyI Tryz.prog 190 true 3 := ⟨Tryz.isAgg190, Tryz.sizeOf190⟩
instance : TyU Tryz.prog 190 (Go.TypeDesc.struct #[{ name := "b", type := 57, offset := 0, embedded := false, tag := "", pkgPath := "garret/garretref09", byteOffset := 0 }, { name := "at", type := 3, offset := 1, embedded := false, tag := "", pkgPath := "garret/garretref09", byteOffset := 24 }, { name := "bad", type := 4, offset := 2, embedded := false, tag := "", pkgPath := "garret/garretref09", byteOffset := 32 }]) := ⟨Tryz.underlying190⟩
instance : TyB Tryz.prog 190 40 := TyB.of Tryz.type190 rfl
instance : TyZ Tryz.prog 190 (Go.Value.agg #[Go.Value.slice none 0 0, Go.Value.int Go.IntKind.i64 0, Go.Value.bool false]) := ⟨Tryz.zeroValue190⟩
instance : TyV Tryz.prog 190 0 0 := ⟨_, _, Tryz.underlying190, rfl, rfl, Tryz.isAgg57⟩
instance : TyF Tryz.prog 190 0 0 := ⟨_, _, Tryz.underlying190, rfl, rfl, fun w => ⟨_, Tryz.sizeOf57 w, by decide⟩⟩
instance : TyV Tryz.prog 190 1 1 := ⟨_, _, Tryz.underlying190, rfl, rfl, Tryz.isAgg3⟩
instance : TyF Tryz.prog 190 1 1 := ⟨_, _, Tryz.underlying190, rfl, rfl, fun w => ⟨_, Tryz.sizeOf3 w, by decide⟩⟩
instance : TyV Tryz.prog 190 2 2 := ⟨_, _, Tryz.underlying190, rfl, rfl, Tryz.isAgg4⟩
instance : TyF Tryz.prog 190 2 2 := ⟨_, _, Tryz.underlying190, rfl, rfl, fun w => ⟨_, Tryz.sizeOf4 w, by decide⟩⟩
instance : TyS Tryz.prog 190 [(0, 1), (1, 1), (2, 1)] [Go.Value.slice none 0 0, Go.Value.int Go.IntKind.i64 0, Go.Value.bool false] := TyS.mk' Tryz.underlying190 Tryz.zeroValue190 (fun w => by simp)
instance : TyI Tryz.prog 191 false 1 := ⟨Tryz.isAgg191, Tryz.sizeOf191⟩
instance : TyU Tryz.prog 191 (Go.TypeDesc.func #[] #[44] false) := ⟨Tryz.underlying191⟩
instance : TyB Tryz.prog 191 8 := TyB.of Tryz.type191 rfl
instance : TyZ Tryz.prog 191 Go.Value.nilFunc := ⟨Tryz.zeroValue191⟩
instance : TyI Tryz.prog 192 false 1 := ⟨Tryz.isAgg192, Tryz.sizeOf192⟩
instance : TyU Tryz.prog 192 (Go.TypeDesc.func #[41] #[41] false) := ⟨Tryz.underlying192⟩
instance : TyB Tryz.prog 192 8 := TyB.of Tryz.type192 rfl
instance : TyZ Tryz.prog 192 Go.Value.nilFunc := ⟨Tryz.zeroValue192⟩
instance : TyI Tryz.prog 193 false 1 := ⟨Tryz.isAgg193, Tryz.sizeOf193⟩
instance : TyU Tryz.prog 193 (Go.TypeDesc.func #[42] #[42] false) := ⟨Tryz.underlying193⟩
instance : TyB Tryz.prog 193 8 := TyB.of Tryz.type193 rfl
instance : TyZ Tryz.prog 193 Go.Value.nilFunc := ⟨Tryz.zeroValue193⟩
instance : TyI Tryz.prog 194 false 1 := ⟨Tryz.isAgg194, Tryz.sizeOf194⟩
instance : TyU Tryz.prog 194 (Go.TypeDesc.func #[36, 36] #[4] false) := ⟨Tryz.underlying194⟩
instance : TyB Tryz.prog 194 8 := TyB.of Tryz.type194 rfl
instance : TyZ Tryz.prog 194 Go.Value.nilFunc := ⟨Tryz.zeroValue194⟩
instance : TyI Tryz.prog 195 false 1 := ⟨Tryz.isAgg195, Tryz.sizeOf195⟩
instance : TyU Tryz.prog 195 (Go.TypeDesc.func #[36, 3] #[] false) := ⟨Tryz.underlying195⟩
instance : TyB Tryz.prog 195 8 := TyB.of Tryz.type195 rfl
instance : TyZ Tryz.prog 195 Go.Value.nilFunc := ⟨Tryz.zeroValue195⟩
instance : TyI Tryz.prog 196 false 1 := ⟨Tryz.isAgg196, Tryz.sizeOf196⟩
instance : TyU Tryz.prog 196 (Go.TypeDesc.func #[37, 3] #[3] false) := ⟨Tryz.underlying196⟩
instance : TyB Tryz.prog 196 8 := TyB.of Tryz.type196 rfl
instance : TyZ Tryz.prog 196 Go.Value.nilFunc := ⟨Tryz.zeroValue196⟩
instance : TyI Tryz.prog 197 false 1 := ⟨Tryz.isAgg197, Tryz.sizeOf197⟩
instance : TyU Tryz.prog 197 (Go.TypeDesc.func #[37, 3] #[] false) := ⟨Tryz.underlying197⟩
instance : TyB Tryz.prog 197 8 := TyB.of Tryz.type197 rfl
instance : TyZ Tryz.prog 197 Go.Value.nilFunc := ⟨Tryz.zeroValue197⟩
instance : TyI Tryz.prog 198 false 1 := ⟨Tryz.isAgg198, Tryz.sizeOf198⟩
instance : TyU Tryz.prog 198 (Go.TypeDesc.func #[57, 157] #[4] false) := ⟨Tryz.underlying198⟩
instance : TyB Tryz.prog 198 8 := TyB.of Tryz.type198 rfl
instance : TyZ Tryz.prog 198 Go.Value.nilFunc := ⟨Tryz.zeroValue198⟩
instance : TyI Tryz.prog 199 false 1 := ⟨Tryz.isAgg199, Tryz.sizeOf199⟩
instance : TyU Tryz.prog 199 (Go.TypeDesc.func #[57] #[3] false) := ⟨Tryz.underlying199⟩
instance : TyB Tryz.prog 199 8 := TyB.of Tryz.type199 rfl
instance : TyZ Tryz.prog 199 Go.Value.nilFunc := ⟨Tryz.zeroValue199⟩
instance : TyI Tryz.prog 200 false 1 := ⟨Tryz.isAgg200, Tryz.sizeOf200⟩
instance : TyU Tryz.prog 200 (Go.TypeDesc.func #[57, 5] #[3] false) := ⟨Tryz.underlying200⟩
instance : TyB Tryz.prog 200 8 := TyB.of Tryz.type200 rfl
instance : TyZ Tryz.prog 200 Go.Value.nilFunc := ⟨Tryz.zeroValue200⟩
instance : TyI Tryz.prog 201 false 1 := ⟨Tryz.isAgg201, Tryz.sizeOf201⟩
instance : TyU Tryz.prog 201 (Go.TypeDesc.func #[3] #[86] false) := ⟨Tryz.underlying201⟩
instance : TyB Tryz.prog 201 8 := TyB.of Tryz.type201 rfl
instance : TyZ Tryz.prog 201 Go.Value.nilFunc := ⟨Tryz.zeroValue201⟩
instance : TyI Tryz.prog 202 false 1 := ⟨Tryz.isAgg202, Tryz.sizeOf202⟩
instance : TyU Tryz.prog 202 (Go.TypeDesc.func #[] #[9] false) := ⟨Tryz.underlying202⟩
instance : TyB Tryz.prog 202 8 := TyB.of Tryz.type202 rfl
instance : TyZ Tryz.prog 202 Go.Value.nilFunc := ⟨Tryz.zeroValue202⟩
instance : TyI Tryz.prog 203 false 1 := ⟨Tryz.isAgg203, Tryz.sizeOf203⟩
instance : TyU Tryz.prog 203 (Go.TypeDesc.func #[9] #[3] false) := ⟨Tryz.underlying203⟩
instance : TyB Tryz.prog 203 8 := TyB.of Tryz.type203 rfl
instance : TyZ Tryz.prog 203 Go.Value.nilFunc := ⟨Tryz.zeroValue203⟩
instance : TyI Tryz.prog 204 false 1 := ⟨Tryz.isAgg204, Tryz.sizeOf204⟩
instance : TyU Tryz.prog 204 (Go.TypeDesc.pointer 3) := ⟨Tryz.underlying204⟩
instance : TyB Tryz.prog 204 8 := TyB.of Tryz.type204 rfl
instance : TyZ Tryz.prog 204 (Go.Value.pointer none) := ⟨Tryz.zeroValue204⟩
instance : TyI Tryz.prog 205 true 4 := ⟨Tryz.isAgg205, Tryz.sizeOf205⟩
instance : TyU Tryz.prog 205 (Go.TypeDesc.array 4 204) := ⟨Tryz.underlying205⟩
instance : TyB Tryz.prog 205 32 := TyB.of Tryz.type205 rfl
instance : TyZ Tryz.prog 205 (Go.Value.agg #[Go.Value.pointer none, Go.Value.pointer none, Go.Value.pointer none, Go.Value.pointer none]) := ⟨Tryz.zeroValue205⟩
instance : TyI Tryz.prog 206 true 3 := ⟨Tryz.isAgg206, Tryz.sizeOf206⟩
instance : TyU Tryz.prog 206 (Go.TypeDesc.array 3 3) := ⟨Tryz.underlying206⟩
instance : TyB Tryz.prog 206 24 := TyB.of Tryz.type206 rfl
instance : TyZ Tryz.prog 206 (Go.Value.agg #[Go.Value.int Go.IntKind.i64 0, Go.Value.int Go.IntKind.i64 0, Go.Value.int Go.IntKind.i64 0]) := ⟨Tryz.zeroValue206⟩
instance : TyI Tryz.prog 207 false 1 := ⟨Tryz.isAgg207, Tryz.sizeOf207⟩
instance : TyU Tryz.prog 207 (Go.TypeDesc.tuple #[9, 3, 26]) := ⟨Tryz.underlying207⟩
instance : TyB Tryz.prog 207 0 := TyB.of Tryz.type207 rfl
instance : TyI Tryz.prog 208 false 1 := ⟨Tryz.isAgg208, Tryz.sizeOf208⟩
instance : TyU Tryz.prog 208 (Go.TypeDesc.func #[57, 3] #[9, 3, 26] false) := ⟨Tryz.underlying208⟩
instance : TyB Tryz.prog 208 8 := TyB.of Tryz.type208 rfl
instance : TyZ Tryz.prog 208 Go.Value.nilFunc := ⟨Tryz.zeroValue208⟩
instance : TyI Tryz.prog 209 false 1 := ⟨Tryz.isAgg209, Tryz.sizeOf209⟩
instance : TyU Tryz.prog 209 (Go.TypeDesc.func #[36] #[] false) := ⟨Tryz.underlying209⟩
instance : TyB Tryz.prog 209 8 := TyB.of Tryz.type209 rfl
instance : TyZ Tryz.prog 209 Go.Value.nilFunc := ⟨Tryz.zeroValue209⟩
instance : TyI Tryz.prog 210 false 1 := ⟨Tryz.isAgg210, Tryz.sizeOf210⟩
instance : TyU Tryz.prog 210 (Go.TypeDesc.func #[37] #[] false) := ⟨Tryz.underlying210⟩
instance : TyB Tryz.prog 210 8 := TyB.of Tryz.type210 rfl
instance : TyZ Tryz.prog 210 Go.Value.nilFunc := ⟨Tryz.zeroValue210⟩
instance : TyI Tryz.prog 211 false 1 := ⟨Tryz.isAgg211, Tryz.sizeOf211⟩
instance : TyU Tryz.prog 211 (Go.TypeDesc.func #[57] #[157, 157] false) := ⟨Tryz.underlying211⟩
instance : TyB Tryz.prog 211 8 := TyB.of Tryz.type211 rfl
instance : TyZ Tryz.prog 211 Go.Value.nilFunc := ⟨Tryz.zeroValue211⟩
instance : TyI Tryz.prog 212 true 4 := ⟨Tryz.isAgg212, Tryz.sizeOf212⟩
instance : TyU Tryz.prog 212 (Go.TypeDesc.struct #[{ name := "_interface", type := 17, offset := 0, embedded := false, tag := "", pkgPath := "runtime", byteOffset := 0 }, { name := "concrete", type := 17, offset := 1, embedded := false, tag := "", pkgPath := "runtime", byteOffset := 8 }, { name := "asserted", type := 17, offset := 2, embedded := false, tag := "", pkgPath := "runtime", byteOffset := 16 }, { name := "missingMethod", type := 9, offset := 3, embedded := false, tag := "", pkgPath := "runtime", byteOffset := 24 }]) := ⟨Tryz.underlying212⟩
instance : TyB Tryz.prog 212 40 := TyB.of Tryz.type212 rfl
instance : TyZ Tryz.prog 212 (Go.Value.agg #[Go.Value.pointer none, Go.Value.pointer none, Go.Value.pointer none, Go.Value.string { data := #[] }]) := ⟨Tryz.zeroValue212⟩
instance : TyV Tryz.prog 212 0 0 := ⟨_, _, Tryz.underlying212, rfl, rfl, Tryz.isAgg17⟩
instance : TyF Tryz.prog 212 0 0 := ⟨_, _, Tryz.underlying212, rfl, rfl, fun w => ⟨_, Tryz.sizeOf17 w, by decide⟩⟩
instance : TyV Tryz.prog 212 1 1 := ⟨_, _, Tryz.underlying212, rfl, rfl, Tryz.isAgg17⟩
instance : TyF Tryz.prog 212 1 1 := ⟨_, _, Tryz.underlying212, rfl, rfl, fun w => ⟨_, Tryz.sizeOf17 w, by decide⟩⟩
instance : TyV Tryz.prog 212 2 2 := ⟨_, _, Tryz.underlying212, rfl, rfl, Tryz.isAgg17⟩
instance : TyF Tryz.prog 212 2 2 := ⟨_, _, Tryz.underlying212, rfl, rfl, fun w => ⟨_, Tryz.sizeOf17 w, by decide⟩⟩
instance : TyV Tryz.prog 212 3 3 := ⟨_, _, Tryz.underlying212, rfl, rfl, Tryz.isAgg9⟩
instance : TyF Tryz.prog 212 3 3 := ⟨_, _, Tryz.underlying212, rfl, rfl, fun w => ⟨_, Tryz.sizeOf9 w, by decide⟩⟩
instance : TyS Tryz.prog 212 [(0, 1), (1, 1), (2, 1), (3, 1)] [Go.Value.pointer none, Go.Value.pointer none, Go.Value.pointer none, Go.Value.string { data := #[] }] := TyS.mk' Tryz.underlying212 Tryz.zeroValue212 (fun w => by simp)
instance : TyI Tryz.prog 213 true 4 := ⟨Tryz.isAgg213, Tryz.sizeOf213⟩
instance : TyU Tryz.prog 213 (Go.TypeDesc.struct #[{ name := "_interface", type := 17, offset := 0, embedded := false, tag := "", pkgPath := "runtime", byteOffset := 0 }, { name := "concrete", type := 17, offset := 1, embedded := false, tag := "", pkgPath := "runtime", byteOffset := 8 }, { name := "asserted", type := 17, offset := 2, embedded := false, tag := "", pkgPath := "runtime", byteOffset := 16 }, { name := "missingMethod", type := 9, offset := 3, embedded := false, tag := "", pkgPath := "runtime", byteOffset := 24 }]) := ⟨Tryz.underlying213⟩
instance : TyB Tryz.prog 213 40 := TyB.of Tryz.type213 rfl
instance : TyZ Tryz.prog 213 (Go.Value.agg #[Go.Value.pointer none, Go.Value.pointer none, Go.Value.pointer none, Go.Value.string { data := #[] }]) := ⟨Tryz.zeroValue213⟩
instance : TyV Tryz.prog 213 0 0 := ⟨_, _, Tryz.underlying213, rfl, rfl, Tryz.isAgg17⟩
instance : TyF Tryz.prog 213 0 0 := ⟨_, _, Tryz.underlying213, rfl, rfl, fun w => ⟨_, Tryz.sizeOf17 w, by decide⟩⟩
instance : TyV Tryz.prog 213 1 1 := ⟨_, _, Tryz.underlying213, rfl, rfl, Tryz.isAgg17⟩
instance : TyF Tryz.prog 213 1 1 := ⟨_, _, Tryz.underlying213, rfl, rfl, fun w => ⟨_, Tryz.sizeOf17 w, by decide⟩⟩
instance : TyV Tryz.prog 213 2 2 := ⟨_, _, Tryz.underlying213, rfl, rfl, Tryz.isAgg17⟩
instance : TyF Tryz.prog 213 2 2 := ⟨_, _, Tryz.underlying213, rfl, rfl, fun w => ⟨_, Tryz.sizeOf17 w, by decide⟩⟩
instance : TyV Tryz.prog 213 3 3 := ⟨_, _, Tryz.underlying213, rfl, rfl, Tryz.isAgg9⟩
instance : TyF Tryz.prog 213 3 3 := ⟨_, _, Tryz.underlying213, rfl, rfl, fun w => ⟨_, Tryz.sizeOf9 w, by decide⟩⟩
instance : TyS Tryz.prog 213 [(0, 1), (1, 1), (2, 1), (3, 1)] [Go.Value.pointer none, Go.Value.pointer none, Go.Value.pointer none, Go.Value.string { data := #[] }] := TyS.mk' Tryz.underlying213 Tryz.zeroValue213 (fun w => by simp)
instance : TyI Tryz.prog 214 true 0 := ⟨Tryz.isAgg214, Tryz.sizeOf214⟩
instance : TyU Tryz.prog 214 (Go.TypeDesc.array 0 16) := ⟨Tryz.underlying214⟩
instance : TyB Tryz.prog 214 0 := TyB.of Tryz.type214 rfl
instance : TyZ Tryz.prog 214 (Go.Value.agg #[]) := ⟨Tryz.zeroValue214⟩
instance : TyI Tryz.prog 215 true 0 := ⟨Tryz.isAgg215, Tryz.sizeOf215⟩
instance : TyU Tryz.prog 215 (Go.TypeDesc.struct #[{ name := "_", type := 214, offset := 0, embedded := false, tag := "", pkgPath := "runtime", byteOffset := 0 }]) := ⟨Tryz.underlying215⟩
instance : TyB Tryz.prog 215 0 := TyB.of Tryz.type215 rfl
instance : TyZ Tryz.prog 215 (Go.Value.agg #[]) := ⟨Tryz.zeroValue215⟩
instance : TyS Tryz.prog 215 [(0, 0)] [] := TyS.mk' Tryz.underlying215 Tryz.zeroValue215 (fun w => by simp)
instance : TyI Tryz.prog 216 true 0 := ⟨Tryz.isAgg216, Tryz.sizeOf216⟩
instance : TyU Tryz.prog 216 (Go.TypeDesc.struct #[{ name := "_", type := 214, offset := 0, embedded := false, tag := "", pkgPath := "runtime", byteOffset := 0 }]) := ⟨Tryz.underlying216⟩
instance : TyB Tryz.prog 216 0 := TyB.of Tryz.type216 rfl
instance : TyZ Tryz.prog 216 (Go.Value.agg #[]) := ⟨Tryz.zeroValue216⟩
instance : TyS Tryz.prog 216 [(0, 0)] [] := TyS.mk' Tryz.underlying216 Tryz.zeroValue216 (fun w => by simp)
instance : TyI Tryz.prog 217 false 1 := ⟨Tryz.isAgg217, Tryz.sizeOf217⟩
instance : TyU Tryz.prog 217 (Go.TypeDesc.int Go.IntKind.u8) := ⟨Tryz.underlying217⟩
instance : TyB Tryz.prog 217 1 := TyB.of Tryz.type217 rfl
instance : TyZ Tryz.prog 217 (Go.Value.int Go.IntKind.u8 0) := ⟨Tryz.zeroValue217⟩
instance : TyI Tryz.prog 218 false 1 := ⟨Tryz.isAgg218, Tryz.sizeOf218⟩
instance : TyU Tryz.prog 218 (Go.TypeDesc.int Go.IntKind.u8) := ⟨Tryz.underlying218⟩
instance : TyB Tryz.prog 218 1 := TyB.of Tryz.type218 rfl
instance : TyZ Tryz.prog 218 (Go.Value.int Go.IntKind.u8 0) := ⟨Tryz.zeroValue218⟩
instance : TyI Tryz.prog 219 false 1 := ⟨Tryz.isAgg219, Tryz.sizeOf219⟩
instance : TyU Tryz.prog 219 (Go.TypeDesc.func #[227, 227] #[4] false) := ⟨Tryz.underlying219⟩
instance : TyB Tryz.prog 219 8 := TyB.of Tryz.type219 rfl
instance : TyZ Tryz.prog 219 Go.Value.nilFunc := ⟨Tryz.zeroValue219⟩
instance : TyI Tryz.prog 220 false 1 := ⟨Tryz.isAgg220, Tryz.sizeOf220⟩
instance : TyU Tryz.prog 220 (Go.TypeDesc.pointer 5) := ⟨Tryz.underlying220⟩
instance : TyB Tryz.prog 220 8 := TyB.of Tryz.type220 rfl
instance : TyZ Tryz.prog 220 (Go.Value.pointer none) := ⟨Tryz.zeroValue220⟩
instance : TyI Tryz.prog 221 false 1 := ⟨Tryz.isAgg221, Tryz.sizeOf221⟩
instance : TyU Tryz.prog 221 (Go.TypeDesc.int Go.IntKind.i32) := ⟨Tryz.underlying221⟩
instance : TyB Tryz.prog 221 4 := TyB.of Tryz.type221 rfl
instance : TyZ Tryz.prog 221 (Go.Value.int Go.IntKind.i32 0) := ⟨Tryz.zeroValue221⟩
instance : TyI Tryz.prog 222 false 1 := ⟨Tryz.isAgg222, Tryz.sizeOf222⟩
instance : TyU Tryz.prog 222 (Go.TypeDesc.int Go.IntKind.i32) := ⟨Tryz.underlying222⟩
instance : TyB Tryz.prog 222 4 := TyB.of Tryz.type222 rfl
instance : TyZ Tryz.prog 222 (Go.Value.int Go.IntKind.i32 0) := ⟨Tryz.zeroValue222⟩
instance : TyI Tryz.prog 223 true 11 := ⟨Tryz.isAgg223, Tryz.sizeOf223⟩
instance : TyU Tryz.prog 223 (Go.TypeDesc.struct #[{ name := "Size_", type := 12, offset := 0, embedded := false, tag := "", pkgPath := "", byteOffset := 0 }, { name := "PtrBytes", type := 12, offset := 1, embedded := false, tag := "", pkgPath := "", byteOffset := 8 }, { name := "Hash", type := 157, offset := 2, embedded := false, tag := "", pkgPath := "", byteOffset := 16 }, { name := "TFlag", type := 217, offset := 3, embedded := false, tag := "", pkgPath := "", byteOffset := 20 }, { name := "Align_", type := 5, offset := 4, embedded := false, tag := "", pkgPath := "", byteOffset := 21 }, { name := "FieldAlign_", type := 5, offset := 5, embedded := false, tag := "", pkgPath := "", byteOffset := 22 }, { name := "Kind_", type := 218, offset := 6, embedded := false, tag := "", pkgPath := "", byteOffset := 23 }, { name := "Equal", type := 219, offset := 7, embedded := false, tag := "", pkgPath := "", byteOffset := 24 }, { name := "GCData", type := 220, offset := 8, embedded := false, tag := "", pkgPath := "", byteOffset := 32 }, { name := "Str", type := 221, offset := 9, embedded := false, tag := "", pkgPath := "", byteOffset := 40 }, { name := "PtrToThis", type := 222, offset := 10, embedded := false, tag := "", pkgPath := "", byteOffset := 44 }]) := ⟨Tryz.underlying223⟩
instance : TyB Tryz.prog 223 48 := TyB.of Tryz.type223 rfl
instance : TyZ Tryz.prog 223 (Go.Value.agg #[Go.Value.int Go.IntKind.u64 0, Go.Value.int Go.IntKind.u64 0, Go.Value.int Go.IntKind.u32 0, Go.Value.int Go.IntKind.u8 0, Go.Value.int Go.IntKind.u8 0, Go.Value.int Go.IntKind.u8 0, Go.Value.int Go.IntKind.u8 0, Go.Value.nilFunc, Go.Value.pointer none, Go.Value.int Go.IntKind.i32 0, Go.Value.int Go.IntKind.i32 0]) := ⟨Tryz.zeroValue223⟩
instance : TyV Tryz.prog 223 0 0 := ⟨_, _, Tryz.underlying223, rfl, rfl, Tryz.isAgg12⟩
instance : TyF Tryz.prog 223 0 0 := ⟨_, _, Tryz.underlying223, rfl, rfl, fun w => ⟨_, Tryz.sizeOf12 w, by decide⟩⟩
instance : TyV Tryz.prog 223 1 1 := ⟨_, _, Tryz.underlying223, rfl, rfl, Tryz.isAgg12⟩
instance : TyF Tryz.prog 223 1 1 := ⟨_, _, Tryz.underlying223, rfl, rfl, fun w => ⟨_, Tryz.sizeOf12 w, by decide⟩⟩
instance : TyV Tryz.prog 223 2 2 := ⟨_, _, Tryz.underlying223, rfl, rfl, Tryz.isAgg157⟩
instance : TyF Tryz.prog 223 2 2 := ⟨_, _, Tryz.underlying223, rfl, rfl, fun w => ⟨_, Tryz.sizeOf157 w, by decide⟩⟩
instance : TyV Tryz.prog 223 3 3 := ⟨_, _, Tryz.underlying223, rfl, rfl, Tryz.isAgg217⟩
instance : TyF Tryz.prog 223 3 3 := ⟨_, _, Tryz.underlying223, rfl, rfl, fun w => ⟨_, Tryz.sizeOf217 w, by decide⟩⟩
instance : TyV Tryz.prog 223 4 4 := ⟨_, _, Tryz.underlying223, rfl, rfl, Tryz.isAgg5⟩
instance : TyF Tryz.prog 223 4 4 := ⟨_, _, Tryz.underlying223, rfl, rfl, fun w => ⟨_, Tryz.sizeOf5 w, by decide⟩⟩
instance : TyV Tryz.prog 223 5 5 := ⟨_, _, Tryz.underlying223, rfl, rfl, Tryz.isAgg5⟩
instance : TyF Tryz.prog 223 5 5 := ⟨_, _, Tryz.underlying223, rfl, rfl, fun w => ⟨_, Tryz.sizeOf5 w, by decide⟩⟩
instance : TyV Tryz.prog 223 6 6 := ⟨_, _, Tryz.underlying223, rfl, rfl, Tryz.isAgg218⟩
instance : TyF Tryz.prog 223 6 6 := ⟨_, _, Tryz.underlying223, rfl, rfl, fun w => ⟨_, Tryz.sizeOf218 w, by decide⟩⟩
instance : TyV Tryz.prog 223 7 7 := ⟨_, _, Tryz.underlying223, rfl, rfl, Tryz.isAgg219⟩
instance : TyF Tryz.prog 223 7 7 := ⟨_, _, Tryz.underlying223, rfl, rfl, fun w => ⟨_, Tryz.sizeOf219 w, by decide⟩⟩
instance : TyV Tryz.prog 223 8 8 := ⟨_, _, Tryz.underlying223, rfl, rfl, Tryz.isAgg220⟩
instance : TyF Tryz.prog 223 8 8 := ⟨_, _, Tryz.underlying223, rfl, rfl, fun w => ⟨_, Tryz.sizeOf220 w, by decide⟩⟩
instance : TyV Tryz.prog 223 9 9 := ⟨_, _, Tryz.underlying223, rfl, rfl, Tryz.isAgg221⟩
instance : TyF Tryz.prog 223 9 9 := ⟨_, _, Tryz.underlying223, rfl, rfl, fun w => ⟨_, Tryz.sizeOf221 w, by decide⟩⟩
instance : TyV Tryz.prog 223 10 10 := ⟨_, _, Tryz.underlying223, rfl, rfl, Tryz.isAgg222⟩
instance : TyF Tryz.prog 223 10 10 := ⟨_, _, Tryz.underlying223, rfl, rfl, fun w => ⟨_, Tryz.sizeOf222 w, by decide⟩⟩
instance : TyS Tryz.prog 223 [(0, 1), (1, 1), (2, 1), (3, 1), (4, 1), (5, 1), (6, 1), (7, 1), (8, 1), (9, 1), (10, 1)] [Go.Value.int Go.IntKind.u64 0, Go.Value.int Go.IntKind.u64 0, Go.Value.int Go.IntKind.u32 0, Go.Value.int Go.IntKind.u8 0, Go.Value.int Go.IntKind.u8 0, Go.Value.int Go.IntKind.u8 0, Go.Value.int Go.IntKind.u8 0, Go.Value.nilFunc, Go.Value.pointer none, Go.Value.int Go.IntKind.i32 0, Go.Value.int Go.IntKind.i32 0] := TyS.mk' Tryz.underlying223 Tryz.zeroValue223 (fun w => by simp)
instance : TyI Tryz.prog 224 true 11 := ⟨Tryz.isAgg224, Tryz.sizeOf224⟩
instance : TyU Tryz.prog 224 (Go.TypeDesc.struct #[{ name := "Size_", type := 12, offset := 0, embedded := false, tag := "", pkgPath := "", byteOffset := 0 }, { name := "PtrBytes", type := 12, offset := 1, embedded := false, tag := "", pkgPath := "", byteOffset := 8 }, { name := "Hash", type := 157, offset := 2, embedded := false, tag := "", pkgPath := "", byteOffset := 16 }, { name := "TFlag", type := 217, offset := 3, embedded := false, tag := "", pkgPath := "", byteOffset := 20 }, { name := "Align_", type := 5, offset := 4, embedded := false, tag := "", pkgPath := "", byteOffset := 21 }, { name := "FieldAlign_", type := 5, offset := 5, embedded := false, tag := "", pkgPath := "", byteOffset := 22 }, { name := "Kind_", type := 218, offset := 6, embedded := false, tag := "", pkgPath := "", byteOffset := 23 }, { name := "Equal", type := 219, offset := 7, embedded := false, tag := "", pkgPath := "", byteOffset := 24 }, { name := "GCData", type := 220, offset := 8, embedded := false, tag := "", pkgPath := "", byteOffset := 32 }, { name := "Str", type := 221, offset := 9, embedded := false, tag := "", pkgPath := "", byteOffset := 40 }, { name := "PtrToThis", type := 222, offset := 10, embedded := false, tag := "", pkgPath := "", byteOffset := 44 }]) := ⟨Tryz.underlying224⟩
instance : TyB Tryz.prog 224 48 := TyB.of Tryz.type224 rfl
instance : TyZ Tryz.prog 224 (Go.Value.agg #[Go.Value.int Go.IntKind.u64 0, Go.Value.int Go.IntKind.u64 0, Go.Value.int Go.IntKind.u32 0, Go.Value.int Go.IntKind.u8 0, Go.Value.int Go.IntKind.u8 0, Go.Value.int Go.IntKind.u8 0, Go.Value.int Go.IntKind.u8 0, Go.Value.nilFunc, Go.Value.pointer none, Go.Value.int Go.IntKind.i32 0, Go.Value.int Go.IntKind.i32 0]) := ⟨Tryz.zeroValue224⟩
instance : TyV Tryz.prog 224 0 0 := ⟨_, _, Tryz.underlying224, rfl, rfl, Tryz.isAgg12⟩
instance : TyF Tryz.prog 224 0 0 := ⟨_, _, Tryz.underlying224, rfl, rfl, fun w => ⟨_, Tryz.sizeOf12 w, by decide⟩⟩
instance : TyV Tryz.prog 224 1 1 := ⟨_, _, Tryz.underlying224, rfl, rfl, Tryz.isAgg12⟩
instance : TyF Tryz.prog 224 1 1 := ⟨_, _, Tryz.underlying224, rfl, rfl, fun w => ⟨_, Tryz.sizeOf12 w, by decide⟩⟩
instance : TyV Tryz.prog 224 2 2 := ⟨_, _, Tryz.underlying224, rfl, rfl, Tryz.isAgg157⟩
instance : TyF Tryz.prog 224 2 2 := ⟨_, _, Tryz.underlying224, rfl, rfl, fun w => ⟨_, Tryz.sizeOf157 w, by decide⟩⟩
instance : TyV Tryz.prog 224 3 3 := ⟨_, _, Tryz.underlying224, rfl, rfl, Tryz.isAgg217⟩
instance : TyF Tryz.prog 224 3 3 := ⟨_, _, Tryz.underlying224, rfl, rfl, fun w => ⟨_, Tryz.sizeOf217 w, by decide⟩⟩
instance : TyV Tryz.prog 224 4 4 := ⟨_, _, Tryz.underlying224, rfl, rfl, Tryz.isAgg5⟩
instance : TyF Tryz.prog 224 4 4 := ⟨_, _, Tryz.underlying224, rfl, rfl, fun w => ⟨_, Tryz.sizeOf5 w, by decide⟩⟩
instance : TyV Tryz.prog 224 5 5 := ⟨_, _, Tryz.underlying224, rfl, rfl, Tryz.isAgg5⟩
instance : TyF Tryz.prog 224 5 5 := ⟨_, _, Tryz.underlying224, rfl, rfl, fun w => ⟨_, Tryz.sizeOf5 w, by decide⟩⟩
instance : TyV Tryz.prog 224 6 6 := ⟨_, _, Tryz.underlying224, rfl, rfl, Tryz.isAgg218⟩
instance : TyF Tryz.prog 224 6 6 := ⟨_, _, Tryz.underlying224, rfl, rfl, fun w => ⟨_, Tryz.sizeOf218 w, by decide⟩⟩
instance : TyV Tryz.prog 224 7 7 := ⟨_, _, Tryz.underlying224, rfl, rfl, Tryz.isAgg219⟩
instance : TyF Tryz.prog 224 7 7 := ⟨_, _, Tryz.underlying224, rfl, rfl, fun w => ⟨_, Tryz.sizeOf219 w, by decide⟩⟩
instance : TyV Tryz.prog 224 8 8 := ⟨_, _, Tryz.underlying224, rfl, rfl, Tryz.isAgg220⟩
instance : TyF Tryz.prog 224 8 8 := ⟨_, _, Tryz.underlying224, rfl, rfl, fun w => ⟨_, Tryz.sizeOf220 w, by decide⟩⟩
instance : TyV Tryz.prog 224 9 9 := ⟨_, _, Tryz.underlying224, rfl, rfl, Tryz.isAgg221⟩
instance : TyF Tryz.prog 224 9 9 := ⟨_, _, Tryz.underlying224, rfl, rfl, fun w => ⟨_, Tryz.sizeOf221 w, by decide⟩⟩
instance : TyV Tryz.prog 224 10 10 := ⟨_, _, Tryz.underlying224, rfl, rfl, Tryz.isAgg222⟩
instance : TyF Tryz.prog 224 10 10 := ⟨_, _, Tryz.underlying224, rfl, rfl, fun w => ⟨_, Tryz.sizeOf222 w, by decide⟩⟩
instance : TyS Tryz.prog 224 [(0, 1), (1, 1), (2, 1), (3, 1), (4, 1), (5, 1), (6, 1), (7, 1), (8, 1), (9, 1), (10, 1)] [Go.Value.int Go.IntKind.u64 0, Go.Value.int Go.IntKind.u64 0, Go.Value.int Go.IntKind.u32 0, Go.Value.int Go.IntKind.u8 0, Go.Value.int Go.IntKind.u8 0, Go.Value.int Go.IntKind.u8 0, Go.Value.int Go.IntKind.u8 0, Go.Value.nilFunc, Go.Value.pointer none, Go.Value.int Go.IntKind.i32 0, Go.Value.int Go.IntKind.i32 0] := TyS.mk' Tryz.underlying224 Tryz.zeroValue224 (fun w => by simp)
instance : TyI Tryz.prog 225 true 1 := ⟨Tryz.isAgg225, Tryz.sizeOf225⟩
instance : TyU Tryz.prog 225 (Go.TypeDesc.struct #[{ name := "no", type := 3, offset := 0, embedded := false, tag := "", pkgPath := "garret/power", byteOffset := 0 }]) := ⟨Tryz.underlying225⟩
instance : TyB Tryz.prog 225 8 := TyB.of Tryz.type225 rfl
instance : TyZ Tryz.prog 225 (Go.Value.agg #[Go.Value.int Go.IntKind.i64 0]) := ⟨Tryz.zeroValue225⟩
instance : TyV Tryz.prog 225 0 0 := ⟨_, _, Tryz.underlying225, rfl, rfl, Tryz.isAgg3⟩
instance : TyF Tryz.prog 225 0 0 := ⟨_, _, Tryz.underlying225, rfl, rfl, fun w => ⟨_, Tryz.sizeOf3 w, by decide⟩⟩
instance : TyS Tryz.prog 225 [(0, 1)] [Go.Value.int Go.IntKind.i64 0] := TyS.mk' Tryz.underlying225 Tryz.zeroValue225 (fun w => by simp)
instance : TyI Tryz.prog 226 true 1 := ⟨Tryz.isAgg226, Tryz.sizeOf226⟩
instance : TyU Tryz.prog 226 (Go.TypeDesc.struct #[{ name := "no", type := 3, offset := 0, embedded := false, tag := "", pkgPath := "garret/power", byteOffset := 0 }]) := ⟨Tryz.underlying226⟩
instance : TyB Tryz.prog 226 8 := TyB.of Tryz.type226 rfl
instance : TyZ Tryz.prog 226 (Go.Value.agg #[Go.Value.int Go.IntKind.i64 0]) := ⟨Tryz.zeroValue226⟩
instance : TyV Tryz.prog 226 0 0 := ⟨_, _, Tryz.underlying226, rfl, rfl, Tryz.isAgg3⟩
instance : TyF Tryz.prog 226 0 0 := ⟨_, _, Tryz.underlying226, rfl, rfl, fun w => ⟨_, Tryz.sizeOf3 w, by decide⟩⟩
instance : TyS Tryz.prog 226 [(0, 1)] [Go.Value.int Go.IntKind.i64 0] := TyS.mk' Tryz.underlying226 Tryz.zeroValue226 (fun w => by simp)
instance : TyI Tryz.prog 227 false 1 := ⟨Tryz.isAgg227, Tryz.sizeOf227⟩
instance : TyU Tryz.prog 227 (Go.TypeDesc.unsafePointer) := ⟨Tryz.underlying227⟩
instance : TyB Tryz.prog 227 8 := TyB.of Tryz.type227 rfl
instance : TyZ Tryz.prog 227 (Go.Value.pointer none) := ⟨Tryz.zeroValue227⟩
instance : TyS Tryz.prog 122 [(0, 1)] [Go.Value.int Go.IntKind.i64 0] := TyS.arr Tryz.underlying122 Tryz.zeroValue122 Tryz.sizeOf3 rfl
instance : TyS Tryz.prog 167 [(0, 1), (1, 1), (2, 1), (3, 1)] [Go.Value.int Go.IntKind.i64 0, Go.Value.int Go.IntKind.i64 0, Go.Value.int Go.IntKind.i64 0, Go.Value.int Go.IntKind.i64 0] := TyS.arr Tryz.underlying167 Tryz.zeroValue167 Tryz.sizeOf3 rfl
instance : TyS Tryz.prog 205 [(0, 1), (1, 1), (2, 1), (3, 1)] [Go.Value.pointer none, Go.Value.pointer none, Go.Value.pointer none, Go.Value.pointer none] := TyS.arr Tryz.underlying205 Tryz.zeroValue205 Tryz.sizeOf204 rfl
instance : TyS Tryz.prog 206 [(0, 1), (1, 1), (2, 1)] [Go.Value.int Go.IntKind.i64 0, Go.Value.int Go.IntKind.i64 0, Go.Value.int Go.IntKind.i64 0] := TyS.arr Tryz.underlying206 Tryz.zeroValue206 Tryz.sizeOf3 rfl
instance : TyS Tryz.prog 214 [] [] := TyS.arr Tryz.underlying214 Tryz.zeroValue214 Tryz.sizeOf16 rfl
theorem callable3 : Callable Tryz.prog 3 := Tryz.call3
theorem callable4 : Callable Tryz.prog 4 := Tryz.call4
theorem callable5 : Callable Tryz.prog 5 := Tryz.call5
theorem callable6 : Callable Tryz.prog 6 := Tryz.call6
theorem callable7 : Callable Tryz.prog 7 := Tryz.call7
theorem callable8 : Callable Tryz.prog 8 := Tryz.call8
theorem callable9 : Callable Tryz.prog 9 := Tryz.call9
theorem callable10 : Callable Tryz.prog 10 := Tryz.call10
theorem callable11 : Callable Tryz.prog 11 := Tryz.call11
theorem callable12 : Callable Tryz.prog 12 := Tryz.call12
theorem callable13 : Callable Tryz.prog 13 := Tryz.call13
theorem callable14 : Callable Tryz.prog 14 := Tryz.call14
theorem callable15 : Callable Tryz.prog 15 := Tryz.call15
theorem callable16 : Callable Tryz.prog 16 := Tryz.call16
theorem callable17 : Callable Tryz.prog 17 := Tryz.call17
theorem callable18 : Callable Tryz.prog 18 := Tryz.call18
theorem callable19 : Callable Tryz.prog 19 := Tryz.call19
theorem callable20 : Callable Tryz.prog 20 := Tryz.call20
theorem callable21 : Callable Tryz.prog 21 := Tryz.call21
theorem callable22 : Callable Tryz.prog 22 := Tryz.call22
theorem callable23 : Callable Tryz.prog 23 := Tryz.call23
theorem callable24 : Callable Tryz.prog 24 := Tryz.call24
theorem callable25 : Callable Tryz.prog 25 := Tryz.call25
theorem callable26 : Callable Tryz.prog 26 := Tryz.call26
theorem callable27 : Callable Tryz.prog 27 := Tryz.call27
theorem callable28 : Callable Tryz.prog 28 := Tryz.call28
theorem callable29 : Callable Tryz.prog 29 := Tryz.call29
theorem callable30 : Callable Tryz.prog 30 := Tryz.call30
theorem callable31 : Callable Tryz.prog 31 := Tryz.call31
theorem callable32 : Callable Tryz.prog 32 := Tryz.call32
theorem callable33 : Callable Tryz.prog 33 := Tryz.call33
theorem callable34 : Callable Tryz.prog 34 := Tryz.call34
theorem callable35 : Callable Tryz.prog 35 := Tryz.call35
theorem callable36 : Callable Tryz.prog 36 := Tryz.call36
theorem callable37 : Callable Tryz.prog 37 := Tryz.call37
theorem callable38 : Callable Tryz.prog 38 := Tryz.call38
theorem callable39 : Callable Tryz.prog 39 := Tryz.call39
theorem callable40 : Callable Tryz.prog 40 := Tryz.call40
theorem callable41 : Callable Tryz.prog 41 := Tryz.call41
theorem callable42 : Callable Tryz.prog 42 := Tryz.call42
theorem callable43 : Callable Tryz.prog 43 := Tryz.call43
theorem callable44 : Callable Tryz.prog 44 := Tryz.call44
theorem callable45 : Callable Tryz.prog 45 := Tryz.call45
theorem callable46 : Callable Tryz.prog 46 := Tryz.call46
theorem callable47 : Callable Tryz.prog 47 := Tryz.call47
theorem callable48 : Callable Tryz.prog 48 := Tryz.call48
theorem callable49 : Callable Tryz.prog 49 := Tryz.call49
theorem callable50 : Callable Tryz.prog 50 := Tryz.call50
theorem callable51 : Callable Tryz.prog 51 := Tryz.call51
theorem callable52 : Callable Tryz.prog 52 := Tryz.call52
theorem callable53 : Callable Tryz.prog 53 := Tryz.call53
theorem callable54 : Callable Tryz.prog 54 := Tryz.call54
theorem callable55 : Callable Tryz.prog 55 := Tryz.call55
theorem callable56 : Callable Tryz.prog 56 := Tryz.call56
theorem callable57 : Callable Tryz.prog 57 := Tryz.call57
theorem callable58 : Callable Tryz.prog 58 := Tryz.call58
theorem callable59 : Callable Tryz.prog 59 := Tryz.call59
theorem callable60 : Callable Tryz.prog 60 := Tryz.call60
theorem callable61 : Callable Tryz.prog 61 := Tryz.call61
theorem callable62 : Callable Tryz.prog 62 := Tryz.call62
theorem callable63 : Callable Tryz.prog 63 := Tryz.call63
theorem callable64 : Callable Tryz.prog 64 := Tryz.call64
theorem callable65 : Callable Tryz.prog 65 := Tryz.call65
theorem callable66 : Callable Tryz.prog 66 := Tryz.call66
theorem callable67 : Callable Tryz.prog 67 := Tryz.call67
theorem callable68 : Callable Tryz.prog 68 := Tryz.call68
theorem callable69 : Callable Tryz.prog 69 := Tryz.call69
theorem callable70 : Callable Tryz.prog 70 := Tryz.call70
theorem callable71 : Callable Tryz.prog 71 := Tryz.call71
theorem callable72 : Callable Tryz.prog 72 := Tryz.call72
theorem callable73 : Callable Tryz.prog 73 := Tryz.call73
theorem callable74 : Callable Tryz.prog 74 := Tryz.call74
theorem callable75 : Callable Tryz.prog 75 := Tryz.call75
theorem callable76 : Callable Tryz.prog 76 := Tryz.call76
theorem callable77 : Callable Tryz.prog 77 := Tryz.call77
theorem callable79 : Callable Tryz.prog 79 := Tryz.call79
theorem callable80 : Callable Tryz.prog 80 := Tryz.call80
theorem callable81 : Callable Tryz.prog 81 := Tryz.call81
theorem callable82 : Callable Tryz.prog 82 := Tryz.call82
theorem callable83 : Callable Tryz.prog 83 := Tryz.call83
theorem callable84 : Callable Tryz.prog 84 := Tryz.call84
theorem callable85 : Callable Tryz.prog 85 := Tryz.call85
theorem callable86 : Callable Tryz.prog 86 := Tryz.call86
theorem callable87 : Callable Tryz.prog 87 := Tryz.call87
theorem callable88 : Callable Tryz.prog 88 := Tryz.call88
theorem callable89 : Callable Tryz.prog 89 := Tryz.call89
theorem callable90 : Callable Tryz.prog 90 := Tryz.call90
theorem callable91 : Callable Tryz.prog 91 := Tryz.call91
theorem callable92 : Callable Tryz.prog 92 := Tryz.call92
theorem callable93 : Callable Tryz.prog 93 := Tryz.call93
theorem callable94 : Callable Tryz.prog 94 := Tryz.call94
theorem callable95 : Callable Tryz.prog 95 := Tryz.call95
theorem callable96 : Callable Tryz.prog 96 := Tryz.call96
theorem callable97 : Callable Tryz.prog 97 := Tryz.call97
theorem callable98 : Callable Tryz.prog 98 := Tryz.call98
theorem callable99 : Callable Tryz.prog 99 := Tryz.call99
theorem callable100 : Callable Tryz.prog 100 := Tryz.call100
theorem callable101 : Callable Tryz.prog 101 := Tryz.call101
theorem callable102 : Callable Tryz.prog 102 := Tryz.call102
theorem callable103 : Callable Tryz.prog 103 := Tryz.call103
theorem callable104 : Callable Tryz.prog 104 := Tryz.call104
theorem callable105 : Callable Tryz.prog 105 := Tryz.call105
theorem callable106 : Callable Tryz.prog 106 := Tryz.call106
theorem callable107 : Callable Tryz.prog 107 := Tryz.call107
theorem callable108 : Callable Tryz.prog 108 := Tryz.call108
theorem callable109 : Callable Tryz.prog 109 := Tryz.call109
theorem callable110 : Callable Tryz.prog 110 := Tryz.call110
theorem callable111 : Callable Tryz.prog 111 := Tryz.call111
theorem callable112 : Callable Tryz.prog 112 := Tryz.call112
theorem callable113 : Callable Tryz.prog 113 := Tryz.call113
theorem callable114 : Callable Tryz.prog 114 := Tryz.call114
theorem callable115 : Callable Tryz.prog 115 := Tryz.call115
theorem callable116 : Callable Tryz.prog 116 := Tryz.call116
theorem callable117 : Callable Tryz.prog 117 := Tryz.call117
theorem callable118 : Callable Tryz.prog 118 := Tryz.call118
theorem callable119 : Callable Tryz.prog 119 := Tryz.call119
theorem callable120 : Callable Tryz.prog 120 := Tryz.call120
theorem callable121 : Callable Tryz.prog 121 := Tryz.call121
theorem callable122 : Callable Tryz.prog 122 := Tryz.call122
theorem callable123 : Callable Tryz.prog 123 := Tryz.call123
theorem callable124 : Callable Tryz.prog 124 := Tryz.call124
theorem callable125 : Callable Tryz.prog 125 := Tryz.call125
theorem callable126 : Callable Tryz.prog 126 := Tryz.call126
theorem callable127 : Callable Tryz.prog 127 := Tryz.call127
theorem callable128 : Callable Tryz.prog 128 := Tryz.call128
theorem callable129 : Callable Tryz.prog 129 := Tryz.call129
theorem callable130 : Callable Tryz.prog 130 := Tryz.call130
theorem callable131 : Callable Tryz.prog 131 := Tryz.call131
theorem callable132 : Callable Tryz.prog 132 := Tryz.call132
theorem callable133 : Callable Tryz.prog 133 := Tryz.call133
theorem callable134 : Callable Tryz.prog 134 := Tryz.call134
theorem callable135 : Callable Tryz.prog 135 := Tryz.call135
theorem callable136 : Callable Tryz.prog 136 := Tryz.call136
theorem callable137 : Callable Tryz.prog 137 := Tryz.call137
theorem callable138 : Callable Tryz.prog 138 := Tryz.call138
theorem callable139 : Callable Tryz.prog 139 := Tryz.call139
theorem callable140 : Callable Tryz.prog 140 := Tryz.call140
theorem callable141 : Callable Tryz.prog 141 := Tryz.call141
theorem callable142 : Callable Tryz.prog 142 := Tryz.call142
theorem callable143 : Callable Tryz.prog 143 := Tryz.call143
theorem callable144 : Callable Tryz.prog 144 := Tryz.call144
theorem callable145 : Callable Tryz.prog 145 := Tryz.call145
theorem callable146 : Callable Tryz.prog 146 := Tryz.call146
theorem callable148 : Callable Tryz.prog 148 := Tryz.call148
theorem callable149 : Callable Tryz.prog 149 := Tryz.call149
theorem callable151 : Callable Tryz.prog 151 := Tryz.call151
theorem callable152 : Callable Tryz.prog 152 := Tryz.call152
theorem callable153 : Callable Tryz.prog 153 := Tryz.call153
theorem callable155 : Callable Tryz.prog 155 := Tryz.call155
theorem callable156 : Callable Tryz.prog 156 := Tryz.call156
theorem callable157 : Callable Tryz.prog 157 := Tryz.call157
theorem callable158 : Callable Tryz.prog 158 := Tryz.call158
theorem callable159 : Callable Tryz.prog 159 := Tryz.call159
theorem callable160 : Callable Tryz.prog 160 := Tryz.call160
theorem callable161 : Callable Tryz.prog 161 := Tryz.call161
theorem callable162 : Callable Tryz.prog 162 := Tryz.call162
theorem callable163 : Callable Tryz.prog 163 := Tryz.call163
theorem callable164 : Callable Tryz.prog 164 := Tryz.call164
theorem callable165 : Callable Tryz.prog 165 := Tryz.call165
theorem callable167 : Callable Tryz.prog 167 := Tryz.call167
theorem callable168 : Callable Tryz.prog 168 := Tryz.call168
theorem callable169 : Callable Tryz.prog 169 := Tryz.call169
theorem callable170 : Callable Tryz.prog 170 := Tryz.call170
theorem callable171 : Callable Tryz.prog 171 := Tryz.call171
theorem callable172 : Callable Tryz.prog 172 := Tryz.call172
theorem callable174 : Callable Tryz.prog 174 := Tryz.call174
theorem callable175 : Callable Tryz.prog 175 := Tryz.call175
theorem mixed : Tryz.prog.follows .mixedOrders = true := Go.Checked.mixed Tryz.checked
theorem cntTy : CntTy Tryz.prog 95 := ⟨122, 3, 3, Tryz.underlying95, Tryz.underlying122, Tryz.underlying3, Tryz.isAgg3, Tryz.sizeOf3, Tryz.zeroValue3⟩
end Go.Proofs.YtaeeahcokiebdaaGreat

/-
  The walks of the small functions of chips' forms.
  Conditions: the arguments are as each theorem says.
-/
namespace Go.Proofs.YtaeeahcokiebdaaGreat
set_option maxRecDepth 20000

structure Geo where
  sectors : Int
  sector : Int
  blocks : Int
  pages : Int
  page : Int
abbrev geoL (g : Geo) : List Value := [.int .i64 g.sectors, .int .i64 g.sector, .int .i64 g.blocks, .int .i64 g.pages, .int .i64 g.page]
abbrev geoV (g : Geo) : Value := .agg (geoL g).toArray
structure GeoOk (g : Geo) : Prop where
  even : g.sectors % 2 = 0
  s : 2 ≤ g.sectors ∧ g.sectors ≤ 16
  z : 256 ≤ g.sector ∧ g.sector ≤ 4096
  b : 4 ≤ g.blocks ∧ g.blocks ≤ 64
  p : 2 ≤ g.pages ∧ g.pages ≤ 32
  y : 16 ≤ g.page ∧ g.page ≤ 256

theorem mod_spec (M : Mem) (v n : Int) (h : 0 < n ∧ n ≤ 100) : Spec Tryz.prog 43 [.int .i64 v, .int .i64 n] M [] (fun r _ H => H = [] ∧ ∃ k : Int, r = .int .i64 k ∧ 0 ≤ k ∧ k < n) := by
  have hm : 0 ≤ IntKind.u64.wrap v := by simp [IntKind.wrap, IntKind.bits, IntKind.signed]; omega
  have h1 := Int.emod_nonneg (IntKind.u64.wrap v) (show n ≠ 0 by omega)
  have h2 := Int.emod_lt_of_pos (IntKind.u64.wrap v) h.1
  refine Spec.of_code 11 Tryz.func43 rfl callable43 rfl rfl fun w => ?_
  refine C.region_seq ?_
  refine G.value rfl rfl rfl (Sure.assign rfl) ?_
  refine G.nil ?_
  refine C.region_seq ?_
  refine G.value rfl rfl rfl (Sure.move rfl) ?_
  refine G.value rfl rfl rfl (Sure.conv' rfl) ?_
  refine G.value rfl rfl rfl (Sure.move rfl) ?_
  refine G.value rfl rfl rfl (Sure.conv rfl (inKu64 (by omega))) ?_
  refine G.value rfl rfl rfl (Sure.rem rfl rfl hm h.1) ?_
  refine G.value rfl rfl rfl (Sure.conv rfl (inK64 (by omega))) ?_
  refine G.value rfl rfl rfl (Sure.assign rfl) ?_
  refine G.nil ?_
  refine C.ret ?_
  exact Fin.fn (Res.tmp rfl rfl) Split.nil ⟨rfl, _, rfl, h1, h2⟩

theorem geometry_spec (M : Mem) (g : Geo) : Spec Tryz.prog 10 [geoV g] M [] (fun r _ H => H = [] ∧ ∃ g', r = geoV g' ∧ GeoOk g' ∧ g'.sector ≤ 1000 ∧ g'.sectors ≤ 6) := by
  refine Spec.of_code 27 Tryz.func10 rfl callable10 rfl rfl fun w => ?_
  refine C.region_seq ?_
  refine G.dyn rfl rfl rfl ?_
  refine Dyn.boxAgg rfl ?_
  intro b1
  refine G.dyn rfl rfl rfl ?_
  refine Dyn.allocAgg ?_
  intro b2
  refine G.nil ?_
  -- draws its order
  refine C.draw_seq (_) mixed (by kernel_rfl) (Incl.refl _) ?_
  refine GD.val 0 rfl rfl rfl rfl (by kernel_rfl) rfl (Sure.fieldAddr rfl) ?_
  refine GD.val 1 rfl rfl rfl rfl (by kernel_rfl) rfl (Sure.load rfl rdx rfl) ?_
  refine GD.val 5 rfl rfl rfl rfl (by kernel_rfl) rfl (Sure.fieldAddr rfl) ?_
  refine GD.val 6 rfl rfl rfl rfl (by kernel_rfl) rfl (Sure.load rfl rdx rfl) ?_
  refine GD.val 10 rfl rfl rfl rfl (by kernel_rfl) rfl (Sure.fieldAddr rfl) ?_
  refine GD.val 11 rfl rfl rfl rfl (by kernel_rfl) rfl (Sure.load rfl rdx rfl) ?_
  refine GD.val 14 rfl rfl rfl rfl (by kernel_rfl) rfl (Sure.fieldAddr rfl) ?_
  refine GD.val 15 rfl rfl rfl rfl (by kernel_rfl) rfl (Sure.load rfl rdx rfl) ?_
  refine GD.val 18 rfl rfl rfl rfl (by kernel_rfl) rfl (Sure.fieldAddr rfl) ?_
  refine GD.val 19 rfl rfl rfl rfl (by kernel_rfl) rfl (Sure.load rfl rdx rfl) ?_
  refine GD.one 2 (by kernel_rfl) rfl rfl (by kernel_rfl) ?_
  refine Next.call 2 rfl rfl rfl (by kernel_rfl) (by kernel_rfl) rfl rfl rfl rfl (mod_spec _ _ _ (by omega)) (Split.nil) ?_
  rintro _ M1 _ le1 ⟨rfl, k1, rfl, l1, u1⟩
  refine ⟨incx, ?_⟩
  refine GD.val 3 rfl rfl rfl rfl (by kernel_rfl) rfl (Sure.mul rfl rfl (inK64 (by omega))) ?_
  refine GD.val 4 rfl rfl rfl rfl (by kernel_rfl) rfl (Sure.add rfl rfl (inK64 (by omega))) ?_
  refine GD.one 7 (by kernel_rfl) rfl rfl (by kernel_rfl) ?_
  refine Next.call 7 rfl rfl rfl (by kernel_rfl) (by kernel_rfl) rfl rfl rfl rfl (mod_spec _ _ _ (by omega)) (Split.nil) ?_
  rintro _ M2 _ le2 ⟨rfl, k2, rfl, l2, u2⟩
  refine ⟨incx, ?_⟩
  refine GD.val 8 rfl rfl rfl rfl (by kernel_rfl) rfl (Sure.mul rfl rfl (inK64 (by omega))) ?_
  refine GD.val 9 rfl rfl rfl rfl (by kernel_rfl) rfl (Sure.add rfl rfl (inK64 (by omega))) ?_
  refine GD.one 12 (by kernel_rfl) rfl rfl (by kernel_rfl) ?_
  refine Next.call 12 rfl rfl rfl (by kernel_rfl) (by kernel_rfl) rfl rfl rfl rfl (mod_spec _ _ _ (by omega)) (Split.nil) ?_
  rintro _ M3 _ le3 ⟨rfl, k3, rfl, l3, u3⟩
  refine ⟨incx, ?_⟩
  refine GD.val 13 rfl rfl rfl rfl (by kernel_rfl) rfl (Sure.add rfl rfl (inK64 (by omega))) ?_
  refine GD.one 16 (by kernel_rfl) rfl rfl (by kernel_rfl) ?_
  refine Next.call 16 rfl rfl rfl (by kernel_rfl) (by kernel_rfl) rfl rfl rfl rfl (mod_spec _ _ _ (by omega)) (Split.nil) ?_
  rintro _ M4 _ le4 ⟨rfl, k4, rfl, l4, u4⟩
  refine ⟨incx, ?_⟩
  refine GD.val 17 rfl rfl rfl rfl (by kernel_rfl) rfl (Sure.add rfl rfl (inK64 (by omega))) ?_
  refine GD.one 20 (by kernel_rfl) rfl rfl (by kernel_rfl) ?_
  refine Next.call 20 rfl rfl rfl (by kernel_rfl) (by kernel_rfl) rfl rfl rfl rfl (mod_spec _ _ _ (by omega)) (Split.nil) ?_
  rintro _ M5 _ le5 ⟨rfl, k5, rfl, l5, u5⟩
  refine ⟨incx, ?_⟩
  refine GD.val 21 rfl rfl rfl rfl (by kernel_rfl) rfl (Sure.mul rfl rfl (inK64 (by omega))) ?_
  refine GD.val 22 rfl rfl rfl rfl (by kernel_rfl) rfl (Sure.add rfl rfl (inK64 (by omega))) ?_
  refine GD.val 23 rfl rfl rfl rfl (by kernel_rfl) rfl (Sure.build rfl rfl) ?_
  refine GD.one 24 (by kernel_rfl) rfl rfl (by kernel_rfl) ?_
  refine Next.dyn0W 24 rfl rfl (by kernel_rfl) (by kernel_rfl) rfl (by kernel_rfl) ?_
  refine Dyn.storeAgg rfl rfl pkx rfl rfl rfl ?_
  refine ⟨MLe.refl _, [], Incl.nil _, ?_⟩
  refine GD.done (by kernel_rfl) (by kernel_rfl) ?_
  refine C.ret ?_
  exact Fin.fn (Res.cellAgg rfl rfl rdx rfl) Split.nil ⟨rfl, ⟨2 + 2 * k1, 256 + 64 * k2, 4 + k3, 2 + k4, 16 + 4 * k5⟩, rfl, ⟨by dsimp only; omega, by dsimp only; omega, by dsimp only; omega, by dsimp only; omega, by dsimp only; omega, by dsimp only; omega⟩, by dsimp only; omega, by dsimp only; omega⟩
theorem within_spec (M : Mem) (v l t : Int) (h : l ≤ v ∧ v ≤ t) : Spec Tryz.prog 76 [.int .i64 v, .int .i64 l, .int .i64 t] M [] (fun r _ H => H = [] ∧ r = .bool true) := by
  refine Spec.of_code 15 Tryz.func76 rfl callable76 rfl rfl fun w => ?_
  refine C.region_seq ?_
  refine G.value rfl rfl rfl (Sure.assign rfl) ?_
  refine G.nil ?_
  refine C.region_seq ?_
  refine G.value rfl rfl rfl (Sure.move rfl) ?_
  refine G.value rfl rfl rfl (Sure.move rfl) ?_
  refine G.value rfl rfl rfl ((Sure.geq rfl rfl).to_t h.1) ?_
  refine G.value rfl rfl rfl (Sure.move rfl) ?_
  refine G.value rfl rfl rfl (Sure.move rfl) ?_
  refine G.value rfl rfl rfl (Sure.move rfl) ?_
  refine G.value rfl rfl rfl ((Sure.leq rfl rfl).to_t h.2) ?_
  refine G.value rfl rfl rfl (Sure.pick_true rfl rfl) ?_
  refine G.value rfl rfl rfl (Sure.assign rfl) ?_
  refine G.nil ?_
  refine C.ret ?_
  exact Fin.fn (Res.tmp rfl rfl) Split.nil ⟨rfl, rfl⟩
theorem right_spec (M : Mem) (g : Geo) (h : GeoOk g) : Spec Tryz.prog 44 [geoV g] M [] (fun r _ H => H = [] ∧ r = .bool true) := by
  obtain ⟨h0, hs, hz, hb, hp, hy⟩ := h
  refine Spec.of_code 32 Tryz.func44 rfl callable44 rfl rfl fun w => ?_
  refine C.region_seq ?_
  refine G.dyn rfl rfl rfl ?_
  refine Dyn.boxAgg rfl ?_
  intro b1
  refine G.value rfl rfl rfl (Sure.assign rfl) ?_
  refine G.nil ?_
  refine C.region_seq ?_
  refine G.value rfl rfl rfl (Sure.fieldAddr rfl) ?_
  refine G.value rfl rfl rfl (Sure.load rfl rdx rfl) ?_
  refine G.value rfl rfl rfl (Sure.rem rfl rfl (by omega) (by omega)) ?_
  refine G.value rfl rfl rfl ((Sure.eql rfl rfl).to_t h0) ?_
  refine G.value rfl rfl rfl (Sure.move rfl) ?_
  refine G.value rfl rfl rfl (Sure.fieldAddr rfl) ?_
  refine G.value rfl rfl rfl (Sure.load rfl rdx rfl) ?_
  refine G.call rfl rfl rfl rfl rfl rfl (within_spec _ _ _ _ hs) (Split.nil) ?_
  rintro _ M1 _ le1 ⟨rfl, rfl⟩
  refine G.value rfl rfl rfl (Sure.pick_true rfl rfl) ?_
  refine G.value rfl rfl rfl (Sure.move rfl) ?_
  refine G.value rfl rfl rfl (Sure.fieldAddr rfl) ?_
  refine G.value rfl rfl rfl (Sure.load rfl rdx rfl) ?_
  refine G.call rfl rfl rfl rfl rfl rfl (within_spec _ _ _ _ hz) (Split.nil) ?_
  rintro _ M2 _ le2 ⟨rfl, rfl⟩
  refine G.value rfl rfl rfl (Sure.pick_true rfl rfl) ?_
  refine G.value rfl rfl rfl (Sure.move rfl) ?_
  refine G.value rfl rfl rfl (Sure.fieldAddr rfl) ?_
  refine G.value rfl rfl rfl (Sure.load rfl rdx rfl) ?_
  refine G.call rfl rfl rfl rfl rfl rfl (within_spec _ _ _ _ hb) (Split.nil) ?_
  rintro _ M3 _ le3 ⟨rfl, rfl⟩
  refine G.value rfl rfl rfl (Sure.pick_true rfl rfl) ?_
  refine G.value rfl rfl rfl (Sure.move rfl) ?_
  refine G.value rfl rfl rfl (Sure.fieldAddr rfl) ?_
  refine G.value rfl rfl rfl (Sure.load rfl rdx rfl) ?_
  refine G.call rfl rfl rfl rfl rfl rfl (within_spec _ _ _ _ hp) (Split.nil) ?_
  rintro _ M4 _ le4 ⟨rfl, rfl⟩
  refine G.value rfl rfl rfl (Sure.pick_true rfl rfl) ?_
  refine G.value rfl rfl rfl (Sure.move rfl) ?_
  refine G.value rfl rfl rfl (Sure.fieldAddr rfl) ?_
  refine G.value rfl rfl rfl (Sure.load rfl rdx rfl) ?_
  refine G.call rfl rfl rfl rfl rfl rfl (within_spec _ _ _ _ hy) (Split.nil) ?_
  rintro _ M5 _ le5 ⟨rfl, rfl⟩
  refine G.value rfl rfl rfl (Sure.pick_true rfl rfl) ?_
  refine G.value rfl rfl rfl (Sure.assign rfl) ?_
  refine G.nil ?_
  refine C.ret ?_
  exact Fin.fn (Res.tmp rfl rfl) Split.nil ⟨rfl, rfl⟩
/-- How many bytes a half has. -/
abbrev halfSize (g : Geo) : Int := g.sectors / 2 * g.sector
theorem half_size_spec (M : Mem) (g : Geo) (h : GeoOk g) : Spec Tryz.prog 86 [geoV g] M [] (fun r _ H => H = [] ∧ r = .int .i64 (halfSize g)) := by
  have hs := h.s
  have hz := h.z
  have hm : 0 ≤ g.sectors / 2 * g.sector ∧ g.sectors / 2 * g.sector ≤ 8 * 4096 := ⟨Int.mul_nonneg (by omega) (by omega), Int.mul_le_mul (by omega) (by omega) (by omega) (by omega)⟩
  refine Spec.of_code 12 Tryz.func86 rfl callable86 rfl rfl fun w => ?_
  refine C.region_seq ?_
  refine G.dyn rfl rfl rfl ?_
  refine Dyn.boxAgg rfl ?_
  intro b1
  refine G.value rfl rfl rfl (Sure.assign rfl) ?_
  refine G.nil ?_
  refine C.seq ?_
  refine C.region_seq ?_
  refine G.value rfl rfl rfl (Sure.loadAgg rfl rdx rfl) ?_
  refine G.call rfl rfl rfl rfl rfl rfl (right_spec _ _ h) (Split.nil) ?_
  rintro _ M1 _ le1 ⟨rfl, rfl⟩
  refine G.value rfl rfl rfl (Sure.not rfl) ?_
  refine G.nil ?_
  refine C.cond_false rfl ?_
  refine C.skip ?_
  refine Fin.th ?_
  refine C.region_seq ?_
  refine G.value rfl rfl rfl (Sure.fieldAddr rfl) ?_
  refine G.value rfl rfl rfl (Sure.load rfl rdx rfl) ?_
  refine G.value rfl rfl rfl (Sure.shr rfl rfl (by decide)) ?_
  refine G.value rfl rfl rfl (Sure.fieldAddr rfl) ?_
  refine G.value rfl rfl rfl (Sure.load rfl rdx rfl) ?_
  refine G.value rfl rfl rfl (Sure.mul rfl rfl (inK64 (by simp; omega))) ?_
  refine G.value rfl rfl rfl (Sure.assign rfl) ?_
  refine G.nil ?_
  refine C.ret ?_
  exact Fin.fn (Res.tmp rfl rfl) Split.nil ⟨rfl, by simp⟩
theorem size_spec (M : Mem) (n : Int) (h : 0 ≤ n ∧ n ≤ 1000000000) : Spec Tryz.prog 50 [.int .i64 n] M [] (fun v _ H => H = [] ∧ v = .int .i64 (n + 7)) := by
  refine Spec.of_code 5 Tryz.func50 rfl callable50 rfl rfl fun w => ?_
  refine C.region_seq ?_
  refine G.value rfl rfl rfl (Sure.assign rfl) ?_
  refine G.nil ?_
  refine C.region_seq ?_
  refine G.value rfl rfl rfl (Sure.move rfl) ?_
  refine G.value rfl rfl rfl (Sure.add rfl rfl (inK64 (by omega))) ?_
  refine G.value rfl rfl rfl (Sure.assign rfl) ?_
  refine G.nil ?_
  refine C.ret ?_
  exact Fin.fn (Res.tmp rfl rfl) Split.nil ⟨rfl, rfl⟩
end Go.Proofs.YtaeeahcokiebdaaGreat

/-
  The walks of power.
  Conditions: the arguments are as each theorem says.
-/
namespace Go.Proofs.YtaeeahcokiebdaaGreat
set_option maxRecDepth 20000

structure Pw where
  left : Int
  mask : UInt8
  off : Bool
  done : Int
abbrev ptr (b : Nat) : Value := .pointer (some ⟨b, 0, Option.none⟩)
abbrev pwL (p : Pw) (fv : Value) : List Value := [.int .i64 p.left, byteV p.mask, .bool p.off, fv, .int .i64 p.done]
def PwOk (p : Pw) : Prop := -1 ≤ p.left ∧ p.left ≤ 9223372036854775807
/-- One step: the power behind it; is it done; is it torn. -/
def Pw.step (p : Pw) : Pw × Bool × Bool :=
  if p.off then (p, false, false) else if p.left = 0 then ({ p with off := true }, false, true)
  else ({ p with left := if 0 < p.left then p.left - 1 else p.left, done := IntKind.i64.wrap (p.done + 1) }, true, false)
theorem PwOk.step {p : Pw} (h : PwOk p) : PwOk p.step.1 := by
  unfold PwOk Pw.step at *
  split
  · exact h
  · split
    · exact h
    · dsimp only; split <;> omega

theorem pw_new_spec (M : Mem) : Spec Tryz.prog 12 [] M [] (fun v _ H => ∃ b, v = ptr b ∧ H = [(b, .cells (pwL ⟨-1, 0, false, 0⟩ (.map Option.none)))]) := by
  refine Spec.of_code 3 Tryz.func12 rfl callable12 rfl rfl fun w => ?_
  refine C.region_seq ?_
  refine G.value rfl rfl rfl (Sure.assign rfl) ?_
  refine G.nil ?_
  refine C.region_seq ?_
  refine G.value rfl rfl rfl (Sure.build rfl rfl) ?_
  refine G.dyn rfl rfl rfl ?_
  refine Dyn.boxAgg rfl ?_
  intro b2
  refine G.value rfl rfl rfl (Sure.assign rfl) ?_
  refine G.nil ?_
  refine C.ret ?_
  exact Fin.fn (Res.tmp rfl rfl) (Split.cons Pick.here Split.nil) ⟨_, rfl, rfl⟩
theorem pw_mask_spec (M : Mem) (b : Nat) (p : Pw) (fv : Value) : Spec Tryz.prog 118 [ptr b] M [(b, .cells (pwL p fv))] (fun v _ H => v = byteV p.mask ∧ H = [(b, .cells (pwL p fv))]) := by
  refine Spec.of_code 9 Tryz.func118 rfl callable118 rfl rfl fun w => ?_
  refine C.region_seq ?_
  refine G.value rfl rfl rfl (Sure.assign rfl) ?_
  refine G.nil ?_
  refine C.seq ?_
  refine C.region_seq ?_
  refine G.value rfl rfl rfl (Sure.move rfl) ?_
  refine G.value rfl rfl rfl (Sure.ptr_eq_nil rfl rfl) ?_
  refine G.nil ?_
  refine C.cond_false rfl ?_
  refine C.skip ?_
  refine Fin.th ?_
  refine C.region_seq ?_
  refine G.value rfl rfl rfl (Sure.move rfl) ?_
  refine G.value rfl rfl rfl (Sure.nilCheck rfl) ?_
  refine G.value rfl rfl rfl (Sure.fieldAddr rfl) ?_
  refine G.value rfl rfl rfl (Sure.load rfl rdx rfl) ?_
  refine G.value rfl rfl rfl (Sure.assign rfl) ?_
  refine G.nil ?_
  refine C.ret ?_
  exact Fin.fn (Res.tmp rfl rfl) (Split.cons Pick.here Split.nil) ⟨rfl, rfl⟩
theorem pw_step_spec (M : Mem) (b : Nat) (p : Pw) (fv : Value) (h : PwOk p) : Spec Tryz.prog 116 [ptr b] M [(b, .cells (pwL p fv))]
    (fun v _ H => v = .tuple #[.bool p.step.2.1, .bool p.step.2.2] ∧ H = [(b, .cells (pwL p.step.1 fv))]) := by
  unfold PwOk at h
  refine Spec.of_code 40 Tryz.func116 rfl callable116 rfl rfl fun w => ?_
  refine C.region_seq ?_
  refine G.value rfl rfl rfl (Sure.assign rfl) ?_
  refine G.value rfl rfl rfl (Sure.assign rfl) ?_
  refine G.nil ?_
  refine C.seq ?_
  refine C.block ?_
  refine C.region_seq ?_
  refine G.value rfl rfl rfl (Sure.move rfl) ?_
  refine G.value rfl rfl rfl (Sure.ptr_eq_nil rfl rfl) ?_
  refine G.value rfl rfl rfl (Sure.assign rfl) ?_
  refine G.nil ?_
  refine C.cond_false rfl ?_
  refine C.region_seq ?_
  refine G.value rfl rfl rfl (Sure.move rfl) ?_
  refine G.value rfl rfl rfl (Sure.nilCheck rfl) ?_
  refine G.value rfl rfl rfl (Sure.fieldAddr rfl) ?_
  refine G.value rfl rfl rfl (Sure.load rfl rdx rfl) ?_
  refine G.value rfl rfl rfl (Sure.assign rfl) ?_
  refine G.nil ?_
  refine C.cond rfl (fun hoff => ?_) (fun hoff => ?_)
  · refine C.region_seq ?_
    refine G.value rfl rfl rfl (Sure.assign rfl) ?_
    refine G.value rfl rfl rfl (Sure.assign rfl) ?_
    refine G.nil ?_
    refine C.ret ?_
    refine Fin.blk_ret ?_
    refine Fin.th_ret ?_
    exact Fin.fn (Res.tmp2 rfl rfl rfl) (Split.cons Pick.here Split.nil) (by simp [Pw.step, hoff])
  refine C.region_seq ?_
  refine G.value rfl rfl rfl (Sure.move rfl) ?_
  refine G.value rfl rfl rfl (Sure.nilCheck rfl) ?_
  refine G.value rfl rfl rfl (Sure.fieldAddr rfl) ?_
  refine G.value rfl rfl rfl (Sure.load rfl rdx rfl) ?_
  refine G.value rfl rfl rfl (Sure.eql rfl rfl) ?_
  refine G.value rfl rfl rfl (Sure.assign rfl) ?_
  refine G.nil ?_
  refine C.cond_dec rfl (fun h0 => ?_) (fun h0 => ?_)
  · refine C.region_seq ?_
    refine G.value rfl rfl rfl (Sure.move rfl) ?_
    refine G.value rfl rfl rfl (Sure.nilCheck rfl) ?_
    refine G.value rfl rfl rfl (Sure.fieldAddr rfl) ?_
    refine G.dyn0 rfl rfl ?_
    refine Dyn.store rfl rfl pkx rfl rfl ?_
    refine G.nil ?_
    refine C.region_seq ?_
    refine G.value rfl rfl rfl (Sure.assign rfl) ?_
    refine G.value rfl rfl rfl (Sure.assign rfl) ?_
    refine G.nil ?_
    refine C.ret ?_
    refine Fin.blk_ret ?_
    refine Fin.th_ret ?_
    exact Fin.fn (Res.tmp2 rfl rfl rfl) (Split.cons Pick.here Split.nil) (by simp [Pw.step, hoff, h0])
  refine C.skip ?_
  refine Fin.blk ?_
  refine Fin.th ?_
  refine C.seq ?_
  refine C.region_seq ?_
  refine G.value rfl rfl rfl (Sure.move rfl) ?_
  refine G.value rfl rfl rfl (Sure.nilCheck rfl) ?_
  refine G.value rfl rfl rfl (Sure.fieldAddr rfl) ?_
  refine G.value rfl rfl rfl (Sure.load rfl rdx rfl) ?_
  refine G.value rfl rfl rfl (Sure.gtr rfl rfl) ?_
  refine G.nil ?_
  refine C.cond_dec rfl (fun h1 => ?_) (fun h1 => ?_)
  · refine C.region ?_
    refine G.value rfl rfl rfl (Sure.move rfl) ?_
    refine G.value rfl rfl rfl (Sure.nilCheck rfl) ?_
    refine G.value rfl rfl rfl (Sure.fieldAddr rfl) ?_
    refine G.value rfl rfl rfl (Sure.load rfl rdx rfl) ?_
    refine G.value rfl rfl rfl (Sure.sub rfl rfl (inK64 (by omega))) ?_
    refine G.value rfl rfl rfl (Sure.nilCheck rfl) ?_
    refine G.value rfl rfl rfl (Sure.fieldAddr rfl) ?_
    refine G.dyn0 rfl rfl ?_
    refine Dyn.store rfl rfl pkx rfl rfl ?_
    refine G.nil ?_
    refine Fin.th ?_
    refine C.region_seq ?_
    refine G.value rfl rfl rfl (Sure.move rfl) ?_
    refine G.value rfl rfl rfl (Sure.nilCheck rfl) ?_
    refine G.value rfl rfl rfl (Sure.fieldAddr rfl) ?_
    refine G.value rfl rfl rfl (Sure.load rfl rdx rfl) ?_
    refine G.value rfl rfl rfl (Sure.add' rfl rfl) ?_
    refine G.value rfl rfl rfl (Sure.nilCheck rfl) ?_
    refine G.value rfl rfl rfl (Sure.fieldAddr rfl) ?_
    refine G.dyn0 rfl rfl ?_
    refine Dyn.store rfl rfl pkx rfl rfl ?_
    refine G.nil ?_
    refine C.region_seq ?_
    refine G.value rfl rfl rfl (Sure.assign rfl) ?_
    refine G.value rfl rfl rfl (Sure.assign rfl) ?_
    refine G.nil ?_
    refine C.ret ?_
    exact Fin.fn (Res.tmp2 rfl rfl rfl) (Split.cons Pick.here Split.nil) (by simp [Pw.step, hoff, h0, h1])
  · refine C.skip ?_
    refine Fin.th ?_
    refine C.region_seq ?_
    refine G.value rfl rfl rfl (Sure.move rfl) ?_
    refine G.value rfl rfl rfl (Sure.nilCheck rfl) ?_
    refine G.value rfl rfl rfl (Sure.fieldAddr rfl) ?_
    refine G.value rfl rfl rfl (Sure.load rfl rdx rfl) ?_
    refine G.value rfl rfl rfl (Sure.add' rfl rfl) ?_
    refine G.value rfl rfl rfl (Sure.nilCheck rfl) ?_
    refine G.value rfl rfl rfl (Sure.fieldAddr rfl) ?_
    refine G.dyn0 rfl rfl ?_
    refine Dyn.store rfl rfl pkx rfl rfl ?_
    refine G.nil ?_
    refine C.region_seq ?_
    refine G.value rfl rfl rfl (Sure.assign rfl) ?_
    refine G.value rfl rfl rfl (Sure.assign rfl) ?_
    refine G.nil ?_
    refine C.ret ?_
    exact Fin.fn (Res.tmp2 rfl rfl rfl) (Split.cons Pick.here Split.nil) (by simp [Pw.step, hoff, h0, h1])
end Go.Proofs.YtaeeahcokiebdaaGreat

/-
  The walks of a chip whose bits are cleared one by one: sectors, steps, erasing.
  Conditions: the arguments are as each theorem says.
-/
namespace Go.Proofs.YtaeeahcokiebdaaGreat
set_option maxRecDepth 20000

theorem bits_or_u8 (x y : UInt8) : bits .or .u8 x.toNat y.toNat = ((x ||| y).toNat : Int) := by
  unfold bits
  have h : ∀ z : UInt8, BitVec.ofInt IntKind.u8.bits (z.toNat : Int) = z.toBitVec := by
    intro z
    apply BitVec.eq_of_toNat_eq
    simp [IntKind.bits]
  simp only [h]
  exact IntWalk.u8_in ((x ||| y).toNat : Int) (by have := (x ||| y).toNat_lt; omega)
theorem mid_get {A : List Value} {x : Value} {B : List Value} {i : Nat} (h : i = A.length) : (A ++ x :: B)[i]? = some x := by subst h; simp
theorem mid_set {A : List Value} {x y : Value} {B : List Value} {i : Nat} (h : i = A.length) : setSeg (A ++ x :: B) i [y] = some (A ++ y :: B) := by
  subst h
  rw [setSeg_eq (by simp)]
  simp
theorem set_spec (M : Mem) (bb o cap : Nat) (pre post : List Value) (bs : List UInt8) (m : UInt8) (hl : bs.length ≤ 100000) (ho : o = pre.length) :
    Spec Tryz.prog 117 [.slice (some ⟨bb, o, Option.none⟩) bs.length cap, byteV m] M [(bb, .cells (pre ++ (bs.map byteV ++ post)))]
      (fun _ _ H => H = [(bb, .cells (pre ++ ((bs.map (· ||| m)).map byteV ++ post)))]) := by
  refine Spec.of_code 18 Tryz.func117 rfl callable117 rfl rfl fun w => ?_
  refine C.region_seq ?_
  refine G.value rfl rfl rfl (Sure.move rfl) ?_
  refine G.value rfl rfl rfl (Sure.len_slice rfl) ?_
  refine G.value rfl rfl rfl (Sure.move rfl) ?_
  refine G.nil ?_
  refine C.block ?_
  refine C.loop (fun n E _ H => ∃ l r : List UInt8, bs = l ++ r ∧ r.length = n ∧ E = [(0, .slice (some ⟨bb, o, Option.none⟩) bs.length cap), (1, byteV m), (6, .int .i64 bs.length), (7, .int .i64 l.length)] ∧ H = [(bb, .cells ((pre ++ (l.map (· ||| m)).map byteV) ++ (r.map byteV ++ post)))]) (bs.length) ?_ ?_
  · exact ⟨_, _, ⟨[], bs, rfl, rfl, rfl, rfl⟩, ⟨rfl, rfl, rfl, rfl, trivial⟩, _, by simpa using Split.cons Pick.here Split.nil⟩
  · rintro n E M H ⟨l, r, hb, hn, rfl, rfl⟩
    have hlen : bs.length = l.length + r.length := by rw [hb]; simp
    refine C.region_seq ?_
    refine G.value rfl rfl rfl (Sure.lss rfl rfl) ?_
    refine G.nil ?_
    refine C.seq ?_
    refine C.cond_dec rfl (fun hlt => ?_) (fun hlt => ?_)
    · cases r with
      | nil => simp at hlen; omega
      | cons x r =>
        refine C.skip ?_
        refine Fin.th ?_
        refine C.seq ?_
        refine C.block ?_
        refine C.region_seq ?_
        refine G.value rfl rfl rfl (Sure.move rfl) ?_
        refine G.value rfl rfl rfl (Sure.assign rfl) ?_
        refine G.nil ?_
        refine C.region ?_
        refine G.value rfl rfl rfl (Sure.move rfl) ?_
        refine G.value rfl rfl rfl (Sure.move rfl) ?_
        refine G.value rfl rfl rfl (Sure.indexAddr rfl rfl (by simp at hlen ⊢; omega)) ?_
        refine G.value rfl rfl rfl (Sure.load rfl Rd.h0 (mid_get (by simp [ho]))) ?_
        refine G.value rfl rfl rfl (Sure.move rfl) ?_
        refine G.value rfl rfl rfl (Sure.or rfl rfl) ?_
        refine G.value rfl rfl rfl (Sure.indexAddr rfl rfl (by simp at hlen ⊢; omega)) ?_
        refine G.dyn0 rfl rfl ?_
        refine Dyn.store rfl rfl Pick.here rfl (mid_set (by simp [ho])) ?_
        refine G.nil ?_
        refine Fin.blk ?_
        refine Fin.th ?_
        refine C.region ?_
        refine G.value rfl rfl rfl (Sure.add rfl rfl (inK64 (by omega))) ?_
        refine G.value rfl rfl rfl (Sure.move rfl) ?_
        refine G.nil ?_
        refine Fin.th ?_
        refine ⟨r.length, _, _, ?_, ⟨l ++ [x], r, by simp [hb], rfl, rfl, rfl⟩, ⟨rfl, rfl, rfl, by simp; rfl, trivial⟩, ?_⟩
        · simp at hn; omega
        · simp only [bits_or_u8]
          simp
          exact ⟨_, Split.cons Pick.here Split.nil⟩
    · have hr : r = [] := List.eq_nil_of_length_eq_zero (by omega)
      subst hr
      refine C.exit ?_
      refine Fin.th_exit ?_
      refine Fin.th_exit ?_
      refine Fin.blk_eq ?_
      exact Fin.fn_normal (Res.none rfl) (Split.cons Pick.here Split.nil) (by simp [hb])

structure Ad where
  cb : Nat
  bb : Nat
  eb : Nat
  pb : Nat
  cap : Nat
  fv : Value
  junk : List Value
structure Chip where
  g : Geo
  b : List UInt8
  pw : Pw
  er : Cnt
abbrev chipL (ad : Ad) (ch : Chip) : List Value := [.int .i64 ch.g.sectors, .int .i64 ch.g.sector, .int .i64 ch.g.blocks, .int .i64 ch.g.pages, .int .i64 ch.g.page, ptr ad.pb,
  .slice (some ⟨ad.bb, 0, Option.none⟩) ch.b.length ad.cap, .map (some ad.eb)]
abbrev chipH (ad : Ad) (ch : Chip) : Heap := [(ad.cb, .cells (chipL ad ch)), (ad.bb, .cells (ch.b.map byteV ++ ad.junk)), (ad.eb, cntB ch.er), (ad.pb, .cells (pwL ch.pw ad.fv))]
structure ChipOk (ad : Ad) (ch : Chip) : Prop where
  geo : GeoOk ch.g
  len : (ch.b.length : Int) = ch.g.sectors * ch.g.sector
  cap : ch.b.length ≤ ad.cap
  pw : PwOk ch.pw
theorem ChipOk.size {ad ch} (h : ChipOk ad ch) : ch.b.length ≤ 65536 ∧ 512 ≤ ch.b.length := by
  have h1 := h.geo.s
  have h2 := h.geo.z
  have h3 : ch.g.sectors * ch.g.sector ≤ 16 * 4096 := Int.mul_le_mul (by omega) (by omega) (by omega) (by omega)
  have h4 : 2 * 256 ≤ ch.g.sectors * ch.g.sector := Int.mul_le_mul (by omega) (by omega) (by omega) (by omega)
  have := h.len
  omega
/-- Where a sector begins, and how many bytes it has. -/
def Chip.lo (ch : Chip) (s : Nat) : Nat := s * ch.g.sector.toNat
def Chip.z (ch : Chip) : Nat := ch.g.sector.toNat
theorem ChipOk.sector {ad ch} (h : ChipOk ad ch) {s : Nat} (hs : (s : Int) < ch.g.sectors) :
    (ch.z : Int) = ch.g.sector ∧ (ch.lo s : Int) = s * ch.g.sector ∧ ((ch.lo s + ch.z : Nat) : Int) = (s + 1) * ch.g.sector ∧ ch.lo s + ch.z ≤ ch.b.length ∧ 256 ≤ ch.z ∧ ch.z ≤ 4096 ∧ s < 16 := by
  have h1 := h.geo.s
  have h2 := h.geo.z
  have hz : (ch.z : Int) = ch.g.sector := by unfold Chip.z; omega
  have hlo : (ch.lo s : Int) = s * ch.g.sector := by unfold Chip.lo; rw [Int.natCast_mul]; unfold Chip.z at hz; rw [hz]
  have h3 : ((ch.lo s + ch.z : Nat) : Int) = (s + 1) * ch.g.sector := by rw [Int.natCast_add, hlo, hz, Int.add_mul, Int.one_mul]
  have h4 : ((s : Int) + 1) * ch.g.sector ≤ ch.g.sectors * ch.g.sector := Int.mul_le_mul_of_nonneg_right (by omega) (by omega)
  have := h.len
  exact ⟨hz, hlo, h3, by omega, by omega, by omega, by omega⟩
theorem ptr_eq_f {E M H d ty pos aft g t x y yt e b} {P : Program} [ht : TyU P t (.pointer e)] (hx : eev E x = some (ptr b)) (hy : eev E y = some (.pointer Option.none)) :
    Sure P ⟨d, .binOp .eql t x y yt, ty, pos, aft, g⟩ E M H (.bool false) := Sure.ptr_eq_nil (ht := ht) hx hy
theorem ptr_ne_t {E M H d ty pos aft g t x y yt e b} {P : Program} [ht : TyU P t (.pointer e)] (hx : eev E x = some (ptr b)) (hy : eev E y = some (.pointer Option.none)) :
    Sure P ⟨d, .binOp .neq t x y yt, ty, pos, aft, g⟩ E M H (.bool true) := Sure.ptr_ne_nil (ht := ht) hx hy
theorem sector_spec (M : Mem) (ad : Ad) (ch : Chip) (s : Nat) (h : ChipOk ad ch) (hs : (s : Int) < ch.g.sectors) :
    Spec Tryz.prog 115 [ptr ad.cb, .int .i64 s] M [(ad.cb, .cells (chipL ad ch))]
      (fun v _ H => v = .slice (some ⟨ad.bb, ch.lo s, Option.none⟩) ch.z (ad.cap - ch.lo s) ∧ H = [(ad.cb, .cells (chipL ad ch))]) := by
  obtain ⟨hz, hlo, hhi, hle, hz1, hz2, hs16⟩ := h.sector hs
  have hcap := h.cap
  have hsz := h.size
  refine Spec.of_code 40 Tryz.func115 rfl callable115 rfl rfl fun w => ?_
  refine C.region_seq ?_
  refine G.value rfl rfl rfl (Sure.assign rfl) ?_
  refine G.nil ?_
  refine C.seq ?_
  refine C.region_seq ?_
  refine G.value rfl rfl rfl (Sure.move rfl) ?_
  refine G.value rfl rfl rfl (ptr_eq_f rfl rfl) ?_
  refine G.value rfl rfl rfl (Sure.move rfl) ?_
  refine G.value rfl rfl rfl (Sure.move rfl) ?_
  refine G.value rfl rfl rfl ((Sure.lss rfl rfl).to_f (by omega)) ?_
  refine G.value rfl rfl rfl (Sure.pick_false rfl rfl) ?_
  refine G.value rfl rfl rfl (Sure.move rfl) ?_
  refine G.value rfl rfl rfl (Sure.move rfl) ?_
  refine G.value rfl rfl rfl (Sure.move rfl) ?_
  refine G.value rfl rfl rfl (Sure.nilCheck rfl) ?_
  refine G.value rfl rfl rfl (Sure.fieldAddr rfl) ?_
  refine G.value rfl rfl rfl (Sure.fieldAddr rfl) ?_
  refine G.value rfl rfl rfl (Sure.load rfl rdx rfl) ?_
  refine G.value rfl rfl rfl ((Sure.geq rfl rfl).to_f (by omega)) ?_
  refine G.value rfl rfl rfl (Sure.pick_false rfl rfl) ?_
  refine G.nil ?_
  refine C.cond_false rfl ?_
  refine C.skip ?_
  refine Fin.th ?_
  -- draws its order
  refine C.draw_seq (_) mixed (by kernel_rfl) (Incl.refl _) ?_
  refine GD.val 0 rfl rfl rfl rfl (by kernel_rfl) rfl (Sure.move rfl) ?_
  refine GD.val 1 rfl rfl rfl rfl (by kernel_rfl) rfl (Sure.nilCheck rfl) ?_
  refine GD.val 2 rfl rfl rfl rfl (by kernel_rfl) rfl (Sure.fieldAddr rfl) ?_
  refine GD.val 3 rfl rfl rfl rfl (by kernel_rfl) rfl (Sure.load rfl rdx rfl) ?_
  refine GD.val 4 rfl rfl rfl rfl (by kernel_rfl) rfl (Sure.move rfl) ?_
  refine GD.val 5 rfl rfl rfl rfl (by kernel_rfl) rfl (Sure.move rfl) ?_
  refine GD.val 6 rfl rfl rfl rfl (by kernel_rfl) rfl (Sure.nilCheck rfl) ?_
  refine GD.val 7 rfl rfl rfl rfl (by kernel_rfl) rfl (Sure.fieldAddr rfl) ?_
  refine GD.val 8 rfl rfl rfl rfl (by kernel_rfl) rfl (Sure.fieldAddr rfl) ?_
  refine GD.val 9 rfl rfl rfl rfl (by kernel_rfl) rfl (Sure.load rfl rdx rfl) ?_
  refine GD.val 10 rfl rfl rfl rfl (by kernel_rfl) rfl (Sure.mul rfl rfl (inK64 (by omega))) ?_
  refine GD.val 11 rfl rfl rfl rfl (by kernel_rfl) rfl (Sure.move rfl) ?_
  refine GD.val 12 rfl rfl rfl rfl (by kernel_rfl) rfl (Sure.add rfl rfl (inK64 (by omega))) ?_
  refine GD.val 13 rfl rfl rfl rfl (by kernel_rfl) rfl (Sure.move rfl) ?_
  refine GD.val 14 rfl rfl rfl rfl (by kernel_rfl) rfl (Sure.nilCheck rfl) ?_
  refine GD.val 15 rfl rfl rfl rfl (by kernel_rfl) rfl (Sure.fieldAddr rfl) ?_
  refine GD.val 16 rfl rfl rfl rfl (by kernel_rfl) rfl (Sure.fieldAddr rfl) ?_
  refine GD.val 17 rfl rfl rfl rfl (by kernel_rfl) rfl (Sure.load rfl rdx rfl) ?_
  refine GD.val 18 rfl rfl rfl rfl (by kernel_rfl) rfl (Sure.mul rfl rfl (inK64 (by omega))) ?_
  refine GD.val 19 rfl rfl rfl rfl (by kernel_rfl) rfl (Sure.slice (ch.lo s) (ch.lo s + ch.z) rfl rfl rfl (.inl (by rw [hlo])) (.inl (by rw [hhi])) (by omega) (by omega)) ?_
  refine GD.one 20 (by kernel_rfl) rfl rfl (by kernel_rfl) ?_
  refine Next.dyn 20 rfl rfl rfl (by kernel_rfl) (by kernel_rfl) rfl (Dyn.assign rfl ?_)
  refine ⟨MLe.refl _, incx, ?_⟩
  refine GD.done (by kernel_rfl) (by kernel_rfl) ?_
  refine C.ret ?_
  refine Fin.fn (Res.tmp rfl rfl) (Split.cons Pick.here Split.nil) ⟨?_, rfl⟩
  have hne : ¬ ad.cap = ch.lo s := by omega
  simp [subP, hne, addr_add]
end Go.Proofs.YtaeeahcokiebdaaGreat

/-
  The walk of the erasing of a sector.
  Conditions: the chip is as it should be; the sector is one of its.
-/
namespace Go.Proofs.YtaeeahcokiebdaaGreat
set_option maxRecDepth 20000

def orAt (b : List UInt8) (lo n : Nat) (m : UInt8) : List UInt8 := b.take lo ++ (((b.drop lo).take n).map (· ||| m) ++ b.drop (lo + n))
theorem orAt_len (b : List UInt8) (lo n : Nat) (m : UInt8) (h : lo + n ≤ b.length) : (orAt b lo n m).length = b.length := by
  simp [orAt]; omega
def Chip.erase (ch : Chip) (s : Nat) : Chip × Int :=
  if ch.pw.step.2.1 then ({ ch with pw := ch.pw.step.1, b := orAt ch.b (ch.lo s) ch.z 255, er := cntPut ch.er s (IntKind.i64.wrap (cntGet ch.er s + 1)) }, 0)
  else if ch.pw.step.2.2 then ({ ch with pw := ch.pw.step.1, b := orAt ch.b (ch.lo s) ch.z ch.pw.mask }, 6)
  else ({ ch with pw := ch.pw.step.1 }, 6)
theorem ChipOk.erase {ad ch} (h : ChipOk ad ch) {s : Nat} (hs : (s : Int) < ch.g.sectors) : ChipOk ad (ch.erase s).1 := by
  obtain ⟨hz, hlo, hhi, hle, hz1, hz2, hs16⟩ := h.sector hs
  have hl := fun m => orAt_len ch.b (ch.lo s) ch.z m hle
  unfold Chip.erase
  split
  · exact ⟨h.geo, by simpa [hl] using h.len, by simpa [hl] using h.cap, h.pw.step⟩
  · split
    · exact ⟨h.geo, by simpa [hl] using h.len, by simpa [hl] using h.cap, h.pw.step⟩
    · exact ⟨h.geo, h.len, h.cap, h.pw.step⟩
theorem Pw.step_mask (p : Pw) : p.step.1.mask = p.mask := by
  unfold Pw.step; split
  · rfl
  · split <;> rfl
theorem Pw.step_cases (p : Pw) : p.step.2 = (true, false) ∨ p.step.2 = (false, true) ∨ p.step.2 = (false, false) := by
  unfold Pw.step; split
  · exact .inr (.inr rfl)
  · split
    · exact .inr (.inl rfl)
    · exact .inl rfl
theorem cut3 (b : List UInt8) (lo n : Nat) (j : List Value) : b.map byteV ++ j = (b.take lo).map byteV ++ (((b.drop lo).take n).map byteV ++ ((b.drop (lo + n)).map byteV ++ j)) := by
  have : b = b.take lo ++ ((b.drop lo).take n ++ b.drop (lo + n)) := by
    rw [← List.drop_drop, List.take_append_drop, List.take_append_drop]
  conv => lhs; rw [this]
  simp
theorem set_at (M : Mem) (ad : Ad) (b : List UInt8) (lo n cap : Nat) (m : UInt8) (h : lo + n ≤ b.length) (hn : n ≤ 100000) :
    Spec Tryz.prog 117 [.slice (some ⟨ad.bb, lo, Option.none⟩) n cap, byteV m] M [(ad.bb, .cells (b.map byteV ++ ad.junk))] (fun _ _ H => H = [(ad.bb, .cells ((orAt b lo n m).map byteV ++ ad.junk))]) := by
  have hl : ((b.drop lo).take n).length = n := by simp; omega
  have := set_spec M ad.bb lo cap ((b.take lo).map byteV) ((b.drop (lo + n)).map byteV ++ ad.junk) ((b.drop lo).take n) m (by omega) (by simp; omega)
  rw [hl, ← cut3] at this
  refine this.mono fun v M' H' _ hp => ?_
  rw [hp]
  simp [orAt]
theorem cntGet_touch (l : Cnt) (k : Int) : cntGet (cntTouch l k) k = cntGet l k := by
  unfold cntTouch
  cases h : l.findIdx? fun p => p.1 == k with
  | some i => rfl
  | none =>
    unfold cntGet
    have hn : l.find? (fun p => p.1 == k) = Option.none := by
      rw [List.find?_eq_none]
      intro x hx
      have := List.findIdx?_eq_none_iff.1 h x hx
      simpa using this
    simp only
    rw [List.find?_append, hn]
    simp
theorem erase_spec (M : Mem) (ad : Ad) (ch : Chip) (s : Nat) (h : ChipOk ad ch) (hs : (s : Int) < ch.g.sectors) :
    Spec Tryz.prog 81 [ptr ad.cb, .int .i64 s] M (chipH ad ch) (fun v _ H => v = .int .i64 (ch.erase s).2 ∧ H = chipH ad (ch.erase s).1) := by
  obtain ⟨hz, hlo, hhi, hle, hz1, hz2, hs16⟩ := h.sector hs
  have hcap := h.cap
  have hsz := h.size
  refine Spec.of_code 48 Tryz.func81 rfl callable81 rfl rfl fun w => ?_
  refine C.region_seq ?_
  refine G.value rfl rfl rfl (Sure.assign rfl) ?_
  refine G.nil ?_
  refine C.region_seq ?_
  refine G.value rfl rfl rfl (Sure.move rfl) ?_
  refine G.value rfl rfl rfl (Sure.move rfl) ?_
  refine G.call rfl rfl rfl rfl rfl rfl (sector_spec M ad ch s h hs) (Split.cons Pick.here Split.nil) ?_
  rintro _ M1 _ le1 ⟨rfl, rfl⟩
  refine G.value rfl rfl rfl (Sure.assign rfl) ?_
  refine G.nil ?_
  refine C.seq ?_
  refine C.block ?_
  refine C.region_seq ?_
  refine G.value rfl rfl rfl (Sure.move rfl) ?_
  refine G.value rfl rfl rfl (ptr_eq_f rfl rfl) ?_
  refine G.value rfl rfl rfl (Sure.assign rfl) ?_
  refine G.nil ?_
  refine C.cond_false rfl ?_
  refine C.region_seq ?_
  refine G.value rfl rfl rfl (Sure.move rfl) ?_
  refine G.value rfl rfl rfl (Sure.slice_eq_nil rfl rfl) ?_
  refine G.value rfl rfl rfl (Sure.assign rfl) ?_
  refine G.nil ?_
  refine C.cond_false rfl ?_
  refine C.skip ?_
  refine Fin.blk ?_
  refine Fin.th ?_
  refine C.region_seq ?_
  refine G.value rfl rfl rfl (Sure.move rfl) ?_
  refine G.value rfl rfl rfl (Sure.nilCheck rfl) ?_
  refine G.value rfl rfl rfl (Sure.fieldAddr rfl) ?_
  refine G.value rfl rfl rfl (Sure.load rfl rdx rfl) ?_
  refine G.call rfl rfl rfl rfl rfl rfl (pw_step_spec M1 ad.pb ch.pw ad.fv h.pw) (Split.cons (.there (.there (.there .here))) Split.nil) ?_
  rintro _ M2 _ le2 ⟨rfl, rfl⟩
  refine G.value rfl rfl rfl (Sure.move rfl) ?_
  refine G.value rfl rfl rfl (Sure.extract rfl rfl) ?_
  refine G.value rfl rfl rfl (Sure.extract rfl rfl) ?_
  refine G.value rfl rfl rfl (Sure.assign rfl) ?_
  refine G.value rfl rfl rfl (Sure.assign rfl) ?_
  refine G.nil ?_
  refine C.seq ?_
  refine C.block ?_
  refine C.region_seq ?_
  refine G.value rfl rfl rfl (Sure.move rfl) ?_
  refine G.value rfl rfl rfl (Sure.assign rfl) ?_
  refine G.nil ?_
  refine C.cond rfl (fun hd => ?_) (fun hd => ?_)
  · refine C.region_seq ?_
    refine G.value rfl rfl rfl (Sure.move rfl) ?_
    refine G.call rfl rfl rfl rfl rfl rfl (set_at M2 ad ch.b (ch.lo s) ch.z _ 255 hle (by omega)) (Split.cons (.there (.there .here)) Split.nil) ?_
    rintro _ M3 _ le3 rfl
    refine G.nil ?_
    -- draws its order
    refine C.draw_seq ([(ad.cb, .cells (chipL ad ch))]) mixed (by kernel_rfl) incx ?_
    refine GD.val 0 rfl rfl rfl rfl (by kernel_rfl) rfl (Sure.move rfl) ?_
    refine GD.val 1 rfl rfl rfl rfl (by kernel_rfl) rfl (Sure.nilCheck rfl) ?_
    refine GD.val 2 rfl rfl rfl rfl (by kernel_rfl) rfl (Sure.fieldAddr rfl) ?_
    refine GD.val 3 rfl rfl rfl rfl (by kernel_rfl) rfl (Sure.load rfl rdx rfl) ?_
    refine GD.val 4 rfl rfl rfl rfl (by kernel_rfl) rfl (Sure.move rfl) ?_
    refine GD.val 5 rfl rfl rfl rfl (by kernel_rfl) rfl (Sure.build rfl rfl) ?_
    refine GD.two 6 8 (by kernel_rfl) rfl rfl (by kernel_rfl) ?_ ?_
    · refine Next.dyn 6 rfl rfl rfl (by kernel_rfl) (by kernel_rfl) rfl ?_
      refine Dyn.lookupCnt cntTy rfl rfl (.there (.there (.there .here))) ?_
      refine ⟨MLe.refl _, incx, ?_⟩
      refine GD.val 7 rfl rfl rfl rfl (by kernel_rfl) rfl (Sure.add' rfl rfl) ?_
      refine GD.one 8 (by kernel_rfl) rfl rfl (by kernel_rfl) ?_
      refine Next.dyn 8 rfl rfl rfl (by kernel_rfl) (by kernel_rfl) rfl ?_
      refine Dyn.mapEntryCnt cntTy rfl rfl (.there (.there (.there .here))) ?_
      refine ⟨MLe.refl _, incx, ?_⟩
      refine GD.val 9 rfl rfl rfl rfl (by kernel_rfl) rfl (Sure.extract rfl rfl) ?_
      refine GD.one 10 (by kernel_rfl) rfl rfl (by kernel_rfl) ?_
      refine Next.dyn0 10 rfl rfl (by kernel_rfl) (by kernel_rfl) rfl ?_
      refine Dyn.entryStoreCnt rfl rfl rfl Pick.here ?_
      refine ⟨MLe.refl _, incx, ?_⟩
      refine GD.done (by kernel_rfl) (by kernel_rfl) ?_
      refine C.region_seq ?_
      refine G.value rfl rfl rfl (Sure.assign rfl) ?_
      refine G.nil ?_
      refine C.ret ?_
      refine Fin.blk_ret ?_
      refine Fin.th_ret ?_
      refine Fin.fn (Res.tmp rfl rfl) (R := []) (Split.cons (.there (.there (.there .here))) (Split.cons (.there .here) (Split.cons .here (Split.cons .here Split.nil)))) ?_
      simp [Chip.erase, hd, orAt_len _ _ _ _ hle]
    · refine Next.dyn 8 rfl rfl rfl (by kernel_rfl) (by kernel_rfl) rfl ?_
      refine Dyn.mapEntryCnt cntTy rfl rfl (.there (.there (.there .here))) ?_
      refine ⟨MLe.refl _, incx, ?_⟩
      refine GD.val 9 rfl rfl rfl rfl (by kernel_rfl) rfl (Sure.extract rfl rfl) ?_
      refine GD.one 6 (by kernel_rfl) rfl rfl (by kernel_rfl) ?_
      refine Next.dyn 6 rfl rfl rfl (by kernel_rfl) (by kernel_rfl) rfl ?_
      refine Dyn.lookupCnt cntTy rfl rfl .here ?_
      refine ⟨MLe.refl _, incx, ?_⟩
      rw [cntGet_touch]
      refine GD.val 7 rfl rfl rfl rfl (by kernel_rfl) rfl (Sure.add' rfl rfl) ?_
      refine GD.one 10 (by kernel_rfl) rfl rfl (by kernel_rfl) ?_
      refine Next.dyn0 10 rfl rfl (by kernel_rfl) (by kernel_rfl) rfl ?_
      refine Dyn.entryStoreCnt rfl rfl rfl Pick.here ?_
      refine ⟨MLe.refl _, incx, ?_⟩
      refine GD.done (by kernel_rfl) (by kernel_rfl) ?_
      refine C.region_seq ?_
      refine G.value rfl rfl rfl (Sure.assign rfl) ?_
      refine G.nil ?_
      refine C.ret ?_
      refine Fin.blk_ret ?_
      refine Fin.th_ret ?_
      refine Fin.fn (Res.tmp rfl rfl) (R := []) (Split.cons (.there (.there (.there .here))) (Split.cons (.there .here) (Split.cons .here (Split.cons .here Split.nil)))) ?_
      simp [Chip.erase, hd, orAt_len _ _ _ _ hle]
  · refine C.region_seq ?_
    refine G.value rfl rfl rfl (Sure.move rfl) ?_
    refine G.value rfl rfl rfl (Sure.assign rfl) ?_
    refine G.nil ?_
    refine C.cond rfl (fun ht => ?_) (fun ht => ?_)
    · refine C.region ?_
      refine G.value rfl rfl rfl (Sure.move rfl) ?_
      refine G.value rfl rfl rfl (Sure.move rfl) ?_
      refine G.value rfl rfl rfl (Sure.nilCheck rfl) ?_
      refine G.value rfl rfl rfl (Sure.fieldAddr rfl) ?_
      refine G.value rfl rfl rfl (Sure.load rfl rdx rfl) ?_
      refine G.call rfl rfl rfl rfl rfl rfl (pw_mask_spec M2 ad.pb ch.pw.step.1 ad.fv) (Split.cons .here Split.nil) ?_
      rintro _ M3 _ le3 ⟨rfl, rfl⟩
      rw [Pw.step_mask]
      refine G.call rfl rfl rfl rfl rfl rfl (set_at M3 ad ch.b (ch.lo s) ch.z _ ch.pw.mask hle (by omega)) (Split.cons (.there (.there .here)) Split.nil) ?_
      rintro _ M4 _ le4 rfl
      refine G.nil ?_
      refine Fin.blk ?_
      refine Fin.th ?_
      refine C.region_seq ?_
      refine G.value rfl rfl rfl (Sure.assign rfl) ?_
      refine G.nil ?_
      refine C.ret ?_
      refine Fin.fn (Res.tmp rfl rfl) (R := []) (Split.cons (.there (.there .here)) (Split.cons .here (Split.cons (.there .here) (Split.cons .here Split.nil)))) ?_
      simp [Chip.erase, hd, ht, orAt_len _ _ _ _ hle]
    · refine C.skip ?_
      refine Fin.blk ?_
      refine Fin.th ?_
      refine C.region_seq ?_
      refine G.value rfl rfl rfl (Sure.assign rfl) ?_
      refine G.nil ?_
      refine C.ret ?_
      refine Fin.fn (Res.tmp rfl rfl) (R := []) (Split.cons (.there .here) (Split.cons (.there .here) (Split.cons (.there .here) (Split.cons .here Split.nil)))) ?_
      simp [Chip.erase, hd, ht, orAt_len _ _ _ _ hle]
end Go.Proofs.YtaeeahcokiebdaaGreat

/-
  The walks of the wiping of a half, and of programming bytes.
  Conditions: the chip is as it should be; the bytes lie within it.
-/
namespace Go.Proofs.YtaeeahcokiebdaaGreat
set_option maxRecDepth 20000

theorem chip_geometry_spec (M : Mem) (ad : Ad) (ch : Chip) : Spec Tryz.prog 80 [ptr ad.cb] M [(ad.cb, .cells (chipL ad ch))]
    (fun v _ H => v = geoV ch.g ∧ H = [(ad.cb, .cells (chipL ad ch))]) := by
  refine Spec.of_code 10 Tryz.func80 rfl callable80 rfl rfl fun w => ?_
  refine C.region_seq ?_
  refine G.dyn rfl rfl rfl ?_
  refine Dyn.allocAgg ?_
  intro b2
  refine G.nil ?_
  refine C.seq ?_
  refine C.region_seq ?_
  refine G.value rfl rfl rfl (Sure.move rfl) ?_
  refine G.value rfl rfl rfl (ptr_eq_f rfl rfl) ?_
  refine G.nil ?_
  refine C.cond_false rfl ?_
  refine C.skip ?_
  refine Fin.th ?_
  refine C.region_seq ?_
  refine G.value rfl rfl rfl (Sure.move rfl) ?_
  refine G.value rfl rfl rfl (Sure.nilCheck rfl) ?_
  refine G.value rfl rfl rfl (Sure.fieldAddr rfl) ?_
  refine G.value rfl rfl rfl (Sure.loadAgg rfl rdx rfl) ?_
  refine G.dyn0 rfl rfl ?_
  refine Dyn.storeAgg rfl rfl pkx rfl rfl rfl ?_
  refine G.nil ?_
  refine C.ret ?_
  exact Fin.fn (Res.cellAgg rfl rfl rdx rfl) (Split.cons (.there .here) Split.nil) ⟨rfl, rfl⟩
theorem half_ask_spec (M : Mem) (b : Nat) (h : Int) (hh : 0 ≤ h ∧ h < 2) : Spec Tryz.prog 79 [ptr b, .int .i64 h] M [] (fun v _ H => v = .int .i64 0 ∧ H = []) := by
  refine Spec.of_code 15 Tryz.func79 rfl callable79 rfl rfl fun w => ?_
  refine C.region_seq ?_
  refine G.value rfl rfl rfl (Sure.assign rfl) ?_
  refine G.nil ?_
  refine C.seq ?_
  refine C.block ?_
  refine C.region_seq ?_
  refine G.value rfl rfl rfl (Sure.move rfl) ?_
  refine G.value rfl rfl rfl (ptr_eq_f rfl rfl) ?_
  refine G.value rfl rfl rfl (Sure.assign rfl) ?_
  refine G.nil ?_
  refine C.cond_false rfl ?_
  refine C.region_seq ?_
  refine G.value rfl rfl rfl (Sure.move rfl) ?_
  refine G.value rfl rfl rfl ((Sure.lss rfl rfl).to_f (by omega)) ?_
  refine G.value rfl rfl rfl (Sure.move rfl) ?_
  refine G.value rfl rfl rfl (Sure.move rfl) ?_
  refine G.value rfl rfl rfl ((Sure.geq rfl rfl).to_f (by omega)) ?_
  refine G.value rfl rfl rfl (Sure.pick_false rfl rfl) ?_
  refine G.value rfl rfl rfl (Sure.assign rfl) ?_
  refine G.nil ?_
  refine C.cond_false rfl ?_
  refine C.skip ?_
  refine Fin.blk ?_
  refine Fin.th ?_
  refine C.region_seq ?_
  refine G.value rfl rfl rfl (Sure.assign rfl) ?_
  refine G.nil ?_
  refine C.ret ?_
  exact Fin.fn (Res.tmp rfl rfl) Split.nil ⟨rfl, rfl⟩
/-- So many sectors of a half are erased, the last one first, till one fails. -/
def wipeN (n h : Nat) : Nat → Chip → Chip × Int
  | 0, ch => (ch, 0)
  | k + 1, ch => if (ch.erase (h * n + k)).2 = 0 then wipeN n h k (ch.erase (h * n + k)).1 else ch.erase (h * n + k)
theorem erase_g (ch : Chip) (s : Nat) : (ch.erase s).1.g = ch.g := by
  unfold Chip.erase; split
  · rfl
  · split <;> rfl
theorem wipeN_ok {ad : Ad} {n h : Nat} : ∀ (k : Nat) {ch : Chip}, ChipOk ad ch → k ≤ n → ((h * n + n : Nat) : Int) ≤ ch.g.sectors → ChipOk ad (wipeN n h k ch).1 ∧ (wipeN n h k ch).1.g = ch.g
  | 0, ch, hok, _, _ => ⟨hok, rfl⟩
  | k + 1, ch, hok, hk, hs => by
    have hlt : ((h * n + k : Nat) : Int) < ch.g.sectors := by omega
    have h1 := hok.erase hlt
    have h2 := erase_g ch (h * n + k)
    unfold wipeN
    split
    · have := wipeN_ok (n := n) (h := h) k h1 (by omega) (by rw [h2]; exact hs)
      rw [h2] at this
      exact this
    · exact ⟨h1, h2⟩
theorem wipe_spec (M : Mem) (ad : Ad) (ch : Chip) (n h : Nat) (hok : ChipOk ad ch) (hn : ch.g.sectors = 2 * n) (hh : h < 2) :
    Spec Tryz.prog 46 [ptr ad.cb, .int .i64 h] M (chipH ad ch) (fun v _ H => v = .int .i64 (wipeN n h n ch).2 ∧ H = chipH ad (wipeN n h n ch).1) := by
  have hs := hok.geo.s
  have hhn : h * n ≤ n := by rcases (by omega : h = 0 ∨ h = 1) with rfl | rfl <;> omega
  have hhs : ((h * n + n : Nat) : Int) ≤ ch.g.sectors := by omega
  refine Spec.of_code 35 Tryz.func46 rfl callable46 rfl rfl fun w => ?_
  refine C.region_seq ?_
  refine G.value rfl rfl rfl (Sure.assign rfl) ?_
  refine G.nil ?_
  refine C.seq ?_
  refine C.region_seq ?_
  refine G.value rfl rfl rfl (Sure.move rfl) ?_
  refine G.value rfl rfl rfl (Sure.move rfl) ?_
  refine G.call rfl rfl rfl rfl rfl rfl (half_ask_spec M ad.cb h (by omega)) (Split.nil) ?_
  rintro _ M1 _ le1 ⟨rfl, rfl⟩
  refine G.value rfl rfl rfl (Sure.assign rfl) ?_
  refine G.nil ?_
  refine C.region_seq ?_
  refine G.value rfl rfl rfl (Sure.move rfl) ?_
  refine G.value rfl rfl rfl ((Sure.neq rfl rfl).to_f (by simp)) ?_
  refine G.nil ?_
  refine C.cond_false rfl ?_
  refine C.skip ?_
  refine Fin.th ?_
  refine C.region_seq ?_
  refine G.value rfl rfl rfl (Sure.move rfl) ?_
  refine G.call rfl rfl rfl rfl rfl rfl (chip_geometry_spec M1 ad ch) (Split.cons .here Split.nil) ?_
  rintro _ M2 _ le2 ⟨rfl, rfl⟩
  refine G.value rfl rfl rfl (Sure.field rfl rfl) ?_
  refine G.value rfl rfl rfl (Sure.shr rfl rfl (by decide)) ?_
  rw [show ch.g.sectors / 2 ^ (1 : Int).toNat = (n : Int) from by rw [hn]; simp]
  refine G.value rfl rfl rfl (Sure.assign rfl) ?_
  refine G.nil ?_
  refine C.seq ?_
  refine C.region_seq ?_
  refine G.value rfl rfl rfl (Sure.move rfl) ?_
  refine G.value rfl rfl rfl (Sure.sub rfl rfl (inK64 (by omega))) ?_
  refine G.value rfl rfl rfl (Sure.assign rfl) ?_
  refine G.nil ?_
  refine C.block ?_
  refine C.loop (fun k E _ H => ∃ ch', ChipOk ad ch' ∧ ch'.g = ch.g ∧ k ≤ n ∧ wipeN n h k ch' = wipeN n h n ch ∧ E = [(0, ptr ad.cb), (1, .int .i64 h), (6, .int .i64 n), (7, .int .i64 (k - 1))] ∧ H = chipH ad ch') (n) ?_ ?_
  · exact ⟨_, _, ⟨ch, hok, rfl, Nat.le_refl _, rfl, rfl, rfl⟩, ⟨rfl, rfl, rfl, rfl, trivial⟩, _, Split.cons .here (Split.cons .here (Split.cons .here (Split.cons .here Split.nil)))⟩
  · rintro k E M H ⟨ch', hok', hg, hk, heq, rfl, rfl⟩
    refine C.seq ?_
    refine C.region_seq ?_
    refine G.value rfl rfl rfl (Sure.move rfl) ?_
    refine G.value rfl rfl rfl (Sure.geq rfl rfl) ?_
    refine G.nil ?_
    refine C.cond_dec rfl (fun hge => ?_) (fun hge => ?_)
    · obtain ⟨k, rfl⟩ : ∃ m, k = m + 1 := ⟨k - 1, by omega⟩
      have hlt : ((h * n + k : Nat) : Int) < ch'.g.sectors := by rw [hg]; omega
      refine C.skip ?_
      refine Fin.th ?_
      refine C.seq ?_
      refine C.block ?_
      refine C.region_seq ?_
      refine G.value rfl rfl rfl (Sure.move rfl) ?_
      refine G.value rfl rfl rfl (Sure.move rfl) ?_
      refine G.value rfl rfl rfl (Sure.move rfl) ?_
      refine G.value rfl rfl rfl (Sure.mul rfl rfl (inK64 (by have : ((h * n : Nat) : Int) = (h : Int) * n := Int.natCast_mul h n; omega))) ?_
      refine G.value rfl rfl rfl (Sure.move rfl) ?_
      refine G.value rfl rfl rfl (Sure.add rfl rfl (inK64 (by have : ((h * n : Nat) : Int) = (h : Int) * n := Int.natCast_mul h n; omega))) ?_
      rw [show (h : Int) * n + (((k + 1 : Nat) : Int) - 1) = ((h * n + k : Nat) : Int) from by have := Int.natCast_mul h n; omega]
      refine G.call rfl rfl rfl rfl rfl rfl (erase_spec M ad ch' (h * n + k) hok' hlt) (Split.cons .here (Split.cons .here (Split.cons .here (Split.cons .here Split.nil)))) ?_
      rintro _ M3 _ le3 ⟨rfl, rfl⟩
      refine G.value rfl rfl rfl (Sure.assign rfl) ?_
      refine G.nil ?_
      refine C.region_seq ?_
      refine G.value rfl rfl rfl (Sure.move rfl) ?_
      refine G.value rfl rfl rfl (Sure.neq rfl rfl) ?_
      refine G.nil ?_
      refine C.cond_dec rfl (fun hne => ?_) (fun hne => ?_)
      · refine C.region_seq ?_
        refine G.value rfl rfl rfl (Sure.move rfl) ?_
        refine G.value rfl rfl rfl (Sure.assign rfl) ?_
        refine G.nil ?_
        refine C.ret ?_
        refine Fin.blk_ret ?_
        refine Fin.th_ret ?_
        refine Fin.th_ret ?_
        refine Fin.blk_ret ?_
        refine Fin.th_ret ?_
        refine Fin.fn (Res.tmp rfl rfl) (Split.cons .here (Split.cons .here (Split.cons .here (Split.cons .here Split.nil)))) ?_
        have hne' : ¬ (ch'.erase (h * n + k)).2 = 0 := hne
        rw [← heq]
        unfold wipeN
        rw [if_neg hne']
        exact ⟨rfl, rfl⟩
      · have he : (ch'.erase (h * n + k)).2 = 0 := by omega
        refine C.skip ?_
        refine Fin.blk ?_
        refine Fin.th ?_
        refine C.region ?_
        refine G.value rfl rfl rfl (Sure.move rfl) ?_
        refine G.value rfl rfl rfl (Sure.sub rfl rfl (inK64 (by omega))) ?_
        refine G.value rfl rfl rfl (Sure.assign rfl) ?_
        refine G.nil ?_
        refine Fin.th ?_
        refine ⟨k, _, _, by omega, ⟨(ch'.erase (h * n + k)).1, hok'.erase hlt, (erase_g _ _).trans hg, by omega, ?_, rfl, rfl⟩, ⟨rfl, rfl, rfl, ?_, trivial⟩, _, Split.cons .here (Split.cons .here (Split.cons .here (Split.cons .here Split.nil)))⟩
        · rw [← heq]
          conv => rhs; unfold wipeN
          rw [if_pos he]
        · show some (Value.int .i64 (((k + 1 : Nat) : Int) - 1 - 1)) = some (.int .i64 ((k : Int) - 1))
          congr 2
          omega
    · have hk0 : k = 0 := by omega
      subst hk0
      refine C.exit ?_
      refine Fin.th_exit ?_
      refine Fin.th_exit ?_
      refine Fin.blk_eq ?_
      refine Fin.th ?_
      refine C.region_seq ?_
      refine G.value rfl rfl rfl (Sure.assign rfl) ?_
      refine G.nil ?_
      refine C.ret ?_
      refine Fin.fn (Res.tmp rfl rfl) (Split.cons .here (Split.cons .here (Split.cons .here (Split.cons .here Split.nil)))) ?_
      rw [← heq]
      exact ⟨rfl, rfl⟩
end Go.Proofs.YtaeeahcokiebdaaGreat

/-
  The walk of programming bytes.
  Conditions: the chip is as it should be; the bytes lie within it.
-/
namespace Go.Proofs.YtaeeahcokiebdaaGreat
set_option maxRecDepth 20000

theorem ofInt_u8 (z : UInt8) : BitVec.ofInt IntKind.u8.bits (z.toNat : Int) = z.toBitVec := by
  apply BitVec.eq_of_toNat_eq
  simp [IntKind.bits]
theorem bits_and_u8 (x y : UInt8) : bits .and .u8 x.toNat y.toNat = ((x &&& y).toNat : Int) := by
  unfold bits
  simp only [ofInt_u8]
  exact IntWalk.u8_in ((x &&& y).toNat : Int) (by have := (x &&& y).toNat_lt; omega)
theorem bits_andNot_u8 (x y : UInt8) : bits .andNot .u8 x.toNat y.toNat = ((x &&& ~~~y).toNat : Int) := by
  unfold bits
  simp only [ofInt_u8]
  exact IntWalk.u8_in ((x &&& ~~~y).toNat : Int) (by have := (x &&& ~~~y).toNat_lt; omega)
theorem bytes_get {b : List UInt8} {j : List Value} {i : Nat} {x : UInt8} (h : b[i]? = some x) : (b.map byteV ++ j)[i]? = some (byteV x) := by
  have hl : i < b.length := (List.getElem?_eq_some_iff.1 h).1
  rw [List.getElem?_append_left (by simpa using hl), List.getElem?_map, h]; rfl
theorem bytes_set {b : List UInt8} {j : List Value} {i : Nat} {y : UInt8} (h : i < b.length) : setSeg (b.map byteV ++ j) i [byteV y] = some ((b.set i y).map byteV ++ j) := by
  rw [setSeg_eq (by simp; omega)]
  congr 1
  have : (b.set i y) = b.take i ++ y :: b.drop (i + 1) := by
    rw [List.set_eq_take_append_cons_drop, if_pos h]
  rw [this]
  have h1 : (List.map byteV b ++ j).take i = (b.take i).map byteV := by
    rw [List.take_append_of_le_length (by simp; omega), List.map_take]
  have h2 : (List.map byteV b ++ j).drop (i + 1) = (b.drop (i + 1)).map byteV ++ j := by
    rw [List.drop_append_of_le_length (by simp; omega), List.map_drop]
  simp [h1, h2]
theorem byteV_inj {x : UInt8} : ((x.toNat : Int) ≠ 0) ↔ x ≠ 0 := by
  constructor
  · intro h e; subst e; exact h rfl
  · intro h e; exact h (UInt8.toNat_inj.1 (by simpa using e))
/-- Would a bit have to be set? -/
def setsBit : List UInt8 → List UInt8 → Bool
  | x :: bs, y :: cs => (x &&& ~~~y) != 0 || setsBit bs cs
  | _, _ => false
/-- Bytes are written one by one, till power is off. -/
def Chip.prog (ch : Chip) (at_ : Nat) : List UInt8 → Chip × Int
  | [] => (ch, 0)
  | x :: bs =>
    if ch.pw.step.2.1 then Chip.prog { ch with pw := ch.pw.step.1, b := ch.b.set at_ x } (at_ + 1) bs
    else if ch.pw.step.2.2 then ({ ch with pw := ch.pw.step.1, b := ch.b.set at_ (x ||| (ch.b.getD at_ 0 &&& ch.pw.mask)) }, 6)
    else ({ ch with pw := ch.pw.step.1 }, 6)
def Chip.program (ch : Chip) (at_ : Nat) (bs : List UInt8) : Chip × Int :=
  if setsBit bs (ch.b.drop at_) then (ch, 9) else ch.prog at_ bs
theorem ask_spec (M : Mem) (ad : Ad) (ch : Chip) (a n : Int) (hr : 0 ≤ a ∧ 0 ≤ n ∧ a + n ≤ ch.b.length) (hb : ch.b.length ≤ 65536) : Spec Tryz.prog 66 [ptr ad.cb, .int .i64 a, .int .i64 n] M [(ad.cb, .cells (chipL ad ch))]
    (fun v _ H => v = .int .i64 0 ∧ H = [(ad.cb, .cells (chipL ad ch))]) := by
  refine Spec.of_code 28 Tryz.func66 rfl callable66 rfl rfl fun w => ?_
  refine C.region_seq ?_
  refine G.value rfl rfl rfl (Sure.assign rfl) ?_
  refine G.nil ?_
  refine C.seq ?_
  refine C.block ?_
  refine C.region_seq ?_
  refine G.value rfl rfl rfl (Sure.move rfl) ?_
  refine G.value rfl rfl rfl (ptr_eq_f rfl rfl) ?_
  refine G.value rfl rfl rfl (Sure.assign rfl) ?_
  refine G.nil ?_
  refine C.cond_false rfl ?_
  refine C.region_seq ?_
  refine G.value rfl rfl rfl (Sure.move rfl) ?_
  refine G.value rfl rfl rfl ((Sure.lss rfl rfl).to_f (by omega)) ?_
  refine G.value rfl rfl rfl (Sure.move rfl) ?_
  refine G.value rfl rfl rfl (Sure.move rfl) ?_
  refine G.value rfl rfl rfl ((Sure.lss rfl rfl).to_f (by omega)) ?_
  refine G.value rfl rfl rfl (Sure.pick_false rfl rfl) ?_
  refine G.value rfl rfl rfl (Sure.move rfl) ?_
  refine G.value rfl rfl rfl (Sure.move rfl) ?_
  refine G.value rfl rfl rfl (Sure.nilCheck rfl) ?_
  refine G.value rfl rfl rfl (Sure.fieldAddr rfl) ?_
  refine G.value rfl rfl rfl (Sure.load rfl rdx rfl) ?_
  refine G.value rfl rfl rfl (Sure.len_slice rfl) ?_
  refine G.value rfl rfl rfl (Sure.move rfl) ?_
  refine G.value rfl rfl rfl (Sure.sub rfl rfl (inK64 (by omega))) ?_
  refine G.value rfl rfl rfl (Sure.move rfl) ?_
  refine G.value rfl rfl rfl ((Sure.lss rfl rfl).to_f (by omega)) ?_
  refine G.value rfl rfl rfl (Sure.pick_false rfl rfl) ?_
  refine G.value rfl rfl rfl (Sure.assign rfl) ?_
  refine G.nil ?_
  refine C.cond_false rfl ?_
  refine C.skip ?_
  refine Fin.blk ?_
  refine Fin.th ?_
  refine C.region_seq ?_
  refine G.value rfl rfl rfl (Sure.assign rfl) ?_
  refine G.nil ?_
  refine C.ret ?_
  exact Fin.fn (Res.tmp rfl rfl) (Split.cons .here Split.nil) ⟨rfl, rfl⟩
theorem prog_keep : ∀ (bs : List UInt8) (ch : Chip) (at_ : Nat), (ch.prog at_ bs).1.g = ch.g ∧ (ch.prog at_ bs).1.b.length = ch.b.length
  | [], ch, a => ⟨rfl, rfl⟩
  | x :: bs, ch, a => by
    unfold Chip.prog
    split
    · obtain ⟨h1, h2⟩ := prog_keep bs { ch with pw := ch.pw.step.1, b := ch.b.set a x } (a + 1)
      exact ⟨h1, by rw [h2]; simp⟩
    · split
      · exact ⟨rfl, by simp⟩
      · exact ⟨rfl, rfl⟩
theorem prog_pw : ∀ (bs : List UInt8) (ch : Chip) (at_ : Nat), PwOk ch.pw → PwOk (ch.prog at_ bs).1.pw
  | [], ch, a, h => h
  | x :: bs, ch, a, h => by
    unfold Chip.prog
    split
    · exact prog_pw bs _ (a + 1) h.step
    · split
      · exact h.step
      · exact h.step
theorem ChipOk.program {ad ch} (h : ChipOk ad ch) (at_ : Nat) (bs : List UInt8) : ChipOk ad (ch.program at_ bs).1 ∧ (ch.program at_ bs).1.g = ch.g := by
  unfold Chip.program
  split
  · exact ⟨h, rfl⟩
  · obtain ⟨h1, h2⟩ := prog_keep bs ch at_
    exact ⟨⟨by rw [h1]; exact h.geo, by rw [h1, h2]; exact h.len, by rw [h2]; exact h.cap, prog_pw bs ch at_ h.pw⟩, h1⟩
theorem drop_cons {α : Type} {l : List α} {i : Nat} {x : α} (h : l[i]? = some x) : l.drop i = x :: l.drop (i + 1) := by
  have hl : i < l.length := (List.getElem?_eq_some_iff.1 h).1
  rw [List.drop_eq_getElem_cons hl]
  congr 1
  rw [List.getElem?_eq_getElem hl] at h
  injection h
theorem chipH_set (ad : Ad) (ch : Chip) (pw : Pw) (i : Nat) (v : UInt8) : chipH ad { ch with pw := pw, b := ch.b.set i v } =
    [(ad.cb, .cells (chipL ad ch)), (ad.bb, .cells ((ch.b.set i v).map byteV ++ ad.junk)), (ad.eb, cntB ch.er), (ad.pb, .cells (pwL pw ad.fv))] := by
  simp
theorem program_spec (M : Mem) (ad : Ad) (ch : Chip) (at_ : Nat) (p : Option Addr) (cap : Nat) (bs : List UInt8) (hok : ChipOk ad ch) (hs : Sl M [] 1 p bs.length (bs.map byteV)) (hr : at_ + bs.length ≤ ch.b.length) :
    Spec Tryz.prog 87 [ptr ad.cb, .int .i64 at_, .slice p bs.length cap] M (chipH ad ch) (fun v _ H => v = .int .i64 (ch.program at_ bs).2 ∧ H = chipH ad (ch.program at_ bs).1) := by
  have hsz := hok.size
  have hcap := hok.cap
  refine Spec.of_code 91 Tryz.func87 rfl callable87 rfl rfl fun w => ?_
  refine C.region_seq ?_
  refine G.value rfl rfl rfl (Sure.assign rfl) ?_
  refine G.nil ?_
  refine C.seq ?_
  refine C.region_seq ?_
  refine G.value rfl rfl rfl (Sure.move rfl) ?_
  refine G.value rfl rfl rfl (Sure.move rfl) ?_
  refine G.value rfl rfl rfl (Sure.move rfl) ?_
  refine G.value rfl rfl rfl (Sure.len_slice rfl) ?_
  refine G.call rfl rfl rfl rfl rfl rfl (ask_spec M ad ch at_ bs.length (by omega) (by omega)) (Split.cons .here Split.nil) ?_
  rintro _ M1 _ le1 ⟨rfl, rfl⟩
  refine G.value rfl rfl rfl (Sure.assign rfl) ?_
  refine G.nil ?_
  refine C.region_seq ?_
  refine G.value rfl rfl rfl (Sure.move rfl) ?_
  refine G.value rfl rfl rfl ((Sure.neq rfl rfl).to_f (by simp)) ?_
  refine G.nil ?_
  refine C.cond_false rfl ?_
  refine C.skip ?_
  refine Fin.th ?_
  refine C.seq ?_
  refine C.region_seq ?_
  refine G.value rfl rfl rfl (Sure.move rfl) ?_
  refine G.value rfl rfl rfl (Sure.len_slice rfl) ?_
  refine G.value rfl rfl rfl (Sure.move rfl) ?_
  refine G.nil ?_
  refine C.block ?_
  refine C.loop (fun k E M' H => ∃ i : Nat, MLe M M' ∧ i + k = bs.length ∧ setsBit bs (ch.b.drop at_) = setsBit (bs.drop i) (ch.b.drop (at_ + i)) ∧ E = [(0, ptr ad.cb), (1, .int .i64 at_), (2, .slice p bs.length cap), (22, .slice p bs.length cap), (23, .int .i64 bs.length), (24, .int .i64 i)] ∧ H = chipH ad ch) (bs.length) ?_ ?_
  · exact ⟨_, _, ⟨0, le1, by omega, by simp, rfl, rfl⟩, ⟨rfl, rfl, rfl, rfl, rfl, rfl, trivial⟩, _, Split.cons .here (Split.cons .here (Split.cons .here (Split.cons .here Split.nil)))⟩
  · rintro k E M' H ⟨i, hle, hik, hbits, rfl, rfl⟩
    refine C.region_seq ?_
    refine G.value rfl rfl rfl (Sure.lss rfl rfl) ?_
    refine G.nil ?_
    refine C.seq ?_
    refine C.cond_dec rfl (fun hlt => ?_) (fun hlt => ?_)
    · have hib : i < bs.length := by omega
      have hxi : bs[i]? = some bs[i] := List.getElem?_eq_getElem hib
      have hyi : ch.b[at_ + i]? = some (ch.b[at_ + i]'(by omega)) := List.getElem?_eq_getElem (by omega)
      obtain ⟨b, o, c, rfl, hrd, hcell⟩ := Sl.cell (i := i) (v := byteV bs[i]) (hs.mono hle).heap (by rw [List.getElem?_map, hxi]; rfl)
      refine C.skip ?_
      refine Fin.th ?_
      refine C.seq ?_
      refine C.block ?_
      refine C.region_seq ?_
      refine G.value rfl rfl rfl (Sure.move rfl) ?_
      refine G.value rfl rfl rfl (Sure.indexAddr rfl rfl (by omega)) ?_
      refine G.value rfl rfl rfl (Sure.load rfl hrd (by simpa using hcell)) ?_
      refine G.value rfl rfl rfl (Sure.assign rfl) ?_
      refine G.value rfl rfl rfl (Sure.assign rfl) ?_
      refine G.nil ?_
      refine C.region_seq ?_
      refine G.value rfl rfl rfl (Sure.move rfl) ?_
      refine G.value rfl rfl rfl (Sure.move rfl) ?_
      refine G.value rfl rfl rfl (Sure.nilCheck rfl) ?_
      refine G.value rfl rfl rfl (Sure.fieldAddr rfl) ?_
      refine G.value rfl rfl rfl (Sure.load rfl rdx rfl) ?_
      refine G.value rfl rfl rfl (Sure.move rfl) ?_
      refine G.value rfl rfl rfl (Sure.move rfl) ?_
      refine G.value rfl rfl rfl (Sure.add rfl rfl (inK64 (by omega))) ?_
      refine G.value rfl rfl rfl (Sure.indexAddr rfl rfl (by omega)) ?_
      refine G.value rfl rfl rfl (Sure.load rfl (Rd.tl Rd.h0) (by rw [show 0 + ((at_ : Int) + (i : Int)).toNat * 1 = at_ + i from by omega]; exact bytes_get hyi)) ?_
      refine G.value rfl rfl rfl (Sure.andNot rfl rfl) ?_
      refine G.value rfl rfl rfl (Sure.neq rfl rfl) ?_
      refine G.nil ?_
      rw [bits_andNot_u8]
      refine C.cond_dec rfl (fun hne => ?_) (fun hne => ?_)
      · refine C.region_seq ?_
        refine G.value rfl rfl rfl (Sure.assign rfl) ?_
        refine G.nil ?_
        refine C.ret ?_
        refine Fin.blk_ret ?_
        refine Fin.th_ret ?_
        refine Fin.th_ret ?_
        refine Fin.blk_ret ?_
        refine Fin.th_ret ?_
        refine Fin.fn (Res.tmp rfl rfl) (Split.cons .here (Split.cons .here (Split.cons .here (Split.cons .here Split.nil)))) ?_
        have hb : setsBit bs (ch.b.drop at_) = true := by
          rw [hbits, drop_cons hxi, drop_cons hyi]
          unfold setsBit
          simp [byteV_inj.1 hne]
        unfold Chip.program
        rw [if_pos hb]
        exact ⟨rfl, rfl⟩
      · refine C.skip ?_
        refine Fin.blk ?_
        refine Fin.th ?_
        refine C.region ?_
        refine G.value rfl rfl rfl (Sure.add rfl rfl (inK64 (by omega))) ?_
        refine G.value rfl rfl rfl (Sure.move rfl) ?_
        refine G.nil ?_
        refine Fin.th ?_
        refine ⟨k - 1, _, _, by omega, ⟨i + 1, hle, by omega, ?_, rfl, rfl⟩, ⟨rfl, rfl, rfl, rfl, rfl, rfl, trivial⟩, _, Split.cons .here (Split.cons .here (Split.cons .here (Split.cons .here Split.nil)))⟩
        rw [hbits, drop_cons hxi, drop_cons hyi]
        conv => lhs; unfold setsBit
        have h0 : bs[i] &&& ~~~(ch.b[at_ + i]'(by omega)) = 0 := Decidable.byContradiction fun hc => hne (byteV_inj.2 hc)
        simp [h0, Nat.add_assoc]
    · have hi : i = bs.length := by omega
      subst hi
      have hnb : setsBit bs (ch.b.drop at_) = false := by rw [hbits]; simp [setsBit]
      have hpg : ch.program at_ bs = ch.prog at_ bs := by unfold Chip.program; rw [hnb]; rfl
      rw [hpg]
      clear hbits hik
      refine C.exit ?_
      refine Fin.th_exit ?_
      refine Fin.th_exit ?_
      refine Fin.blk_eq ?_
      refine Fin.th ?_
      refine C.seq ?_
      refine C.region_seq ?_
      refine G.value rfl rfl rfl (Sure.move rfl) ?_
      refine G.value rfl rfl rfl (Sure.len_slice rfl) ?_
      refine G.value rfl rfl rfl (Sure.move rfl) ?_
      refine G.nil ?_
      refine C.block ?_
      refine C.loop (fun k E M' H => ∃ (i : Nat) (ch' : Chip), MLe M M' ∧ i + k = bs.length ∧ ChipOk ad ch' ∧ ch'.b.length = ch.b.length ∧ ch'.prog (at_ + i) (bs.drop i) = ch.prog at_ bs ∧ E = [(0, ptr ad.cb), (1, .int .i64 at_), (42, .slice p bs.length cap), (43, .int .i64 bs.length), (44, .int .i64 i)] ∧ H = chipH ad ch') (bs.length) ?_ ?_
      · exact ⟨_, _, ⟨0, ch, hle, by omega, hok, rfl, by simp, rfl, rfl⟩, ⟨rfl, rfl, rfl, rfl, rfl, trivial⟩, _, Split.cons .here (Split.cons .here (Split.cons .here (Split.cons .here Split.nil)))⟩
      · clear hle
        rintro k E M' H ⟨i, ch', hle, hik, hok', hl, heq, rfl, rfl⟩
        have hcap' := hok'.cap
        refine C.region_seq ?_
        refine G.value rfl rfl rfl (Sure.lss rfl rfl) ?_
        refine G.nil ?_
        refine C.seq ?_
        refine C.cond_dec rfl (fun hlt2 => ?_) (fun hlt2 => ?_)
        · have hib : i < bs.length := by omega
          have hxi : bs[i]? = some bs[i] := List.getElem?_eq_getElem hib
          have hyi : ch'.b[at_ + i]? = some (ch'.b[at_ + i]'(by omega)) := List.getElem?_eq_getElem (by omega)
          obtain ⟨b, o, c, rfl, hrd, hcell⟩ := Sl.cell (i := i) (v := byteV bs[i]) (hs.mono hle).heap (by rw [List.getElem?_map, hxi]; rfl)
          refine C.skip ?_
          refine Fin.th ?_
          refine C.seq ?_
          refine C.block ?_
          refine C.region_seq ?_
          refine G.value rfl rfl rfl (Sure.move rfl) ?_
          refine G.value rfl rfl rfl (Sure.indexAddr rfl rfl (by omega)) ?_
          refine G.value rfl rfl rfl (Sure.load rfl hrd (by simpa using hcell)) ?_
          refine G.value rfl rfl rfl (Sure.assign rfl) ?_
          refine G.value rfl rfl rfl (Sure.assign rfl) ?_
          refine G.nil ?_
          refine C.region_seq ?_
          refine G.value rfl rfl rfl (Sure.move rfl) ?_
          refine G.value rfl rfl rfl (Sure.nilCheck rfl) ?_
          refine G.value rfl rfl rfl (Sure.fieldAddr rfl) ?_
          refine G.value rfl rfl rfl (Sure.load rfl rdx rfl) ?_
          refine G.call rfl rfl rfl rfl rfl rfl (pw_step_spec M' ad.pb ch'.pw ad.fv hok'.pw) (Split.cons (.there (.there (.there .here))) Split.nil) ?_
          rintro _ M2 _ le2 ⟨rfl, rfl⟩
          have hd : (byteV bs[i]) = byteV bs[i] := rfl
          have hpos : 0 + ((at_ : Int) + (i : Int)).toNat * 1 = at_ + i := by omega
          have hib2 : at_ + i < ch'.b.length := by omega
          have hstep : ch'.prog (at_ + i) (bs.drop i) = (if ch'.pw.step.2.1 then Chip.prog { ch' with pw := ch'.pw.step.1, b := ch'.b.set (at_ + i) bs[i] } (at_ + i + 1) (bs.drop (i + 1))
              else if ch'.pw.step.2.2 then ({ ch' with pw := ch'.pw.step.1, b := ch'.b.set (at_ + i) (bs[i] ||| (ch'.b.getD (at_ + i) 0 &&& ch'.pw.mask)) }, 6)
              else ({ ch' with pw := ch'.pw.step.1 }, 6)) := by
            rw [drop_cons hxi]; rfl
          rw [heq] at hstep
          rcases ch'.pw.step_cases with hc | hc | hc
          · rw [show ch'.pw.step.2.1 = true from by rw [hc], show ch'.pw.step.2.2 = false from by rw [hc]]
            rw [hc] at hstep
            simp only [if_true] at hstep
            refine G.value rfl rfl rfl (Sure.move rfl) ?_
            refine G.value rfl rfl rfl (Sure.extract rfl rfl) ?_
            refine G.value rfl rfl rfl (Sure.extract rfl rfl) ?_
            refine G.value rfl rfl rfl (Sure.assign rfl) ?_
            refine G.value rfl rfl rfl (Sure.assign rfl) ?_
            refine G.nil ?_
            refine C.seq ?_
            refine C.region_seq ?_
            refine G.value rfl rfl rfl (Sure.move rfl) ?_
            refine G.nil ?_
            refine C.cond_false rfl ?_
            refine C.skip ?_
            refine Fin.th ?_
            refine C.seq ?_
            refine C.region_seq ?_
            refine G.value rfl rfl rfl (Sure.move rfl) ?_
            refine G.value rfl rfl rfl (Sure.move rfl) ?_
            refine G.skip rfl rfl rfl ?_
            refine G.value rfl rfl rfl (Sure.pick_true rfl rfl) ?_
            refine G.nil ?_
            refine C.cond_true rfl ?_
            refine C.region ?_
            refine G.value rfl rfl rfl (Sure.move rfl) ?_
            refine G.value rfl rfl rfl (Sure.nilCheck rfl) ?_
            refine G.value rfl rfl rfl (Sure.fieldAddr rfl) ?_
            refine G.value rfl rfl rfl (Sure.load rfl rdx rfl) ?_
            refine G.value rfl rfl rfl (Sure.move rfl) ?_
            refine G.value rfl rfl rfl (Sure.move rfl) ?_
            refine G.value rfl rfl rfl (Sure.add rfl rfl (inK64 (by omega))) ?_
            refine G.value rfl rfl rfl (Sure.move rfl) ?_
            refine G.value rfl rfl rfl (Sure.indexAddr rfl rfl (by omega)) ?_
            refine G.dyn0 rfl rfl ?_
            refine Dyn.store rfl rfl (.there (.there .here)) rfl (by rw [hpos]; exact bytes_set hib2) ?_
            refine G.nil ?_
            refine Fin.th ?_
            refine C.region_seq ?_
            refine G.value rfl rfl rfl (Sure.move rfl) ?_
            refine G.value rfl rfl rfl (Sure.not rfl) ?_
            refine G.nil ?_
            refine C.cond_false rfl ?_
            refine C.skip ?_
            refine Fin.blk ?_
            refine Fin.th ?_
            refine C.region ?_
            refine G.value rfl rfl rfl (Sure.add rfl rfl (inK64 (by omega))) ?_
            refine G.value rfl rfl rfl (Sure.move rfl) ?_
            refine G.nil ?_
            refine Fin.th ?_
            refine ⟨k - 1, _, _, by omega, ⟨i + 1, { ch' with pw := ch'.pw.step.1, b := ch'.b.set (at_ + i) bs[i] }, hle.trans le2, by omega, ⟨hok'.geo, by simpa using hok'.len, by simpa using hok'.cap, hok'.pw.step⟩, by simpa using hl, ?_, rfl, rfl⟩, ⟨rfl, rfl, rfl, rfl, rfl, trivial⟩, ?_⟩
            · rw [hstep]; rfl
            · refine ⟨[], ?_⟩
              rw [chipH_set]
              exact Split.cons (.there (.there .here)) (Split.cons .here (Split.cons (.there .here) (Split.cons .here Split.nil)))
          · rw [show ch'.pw.step.2.1 = false from by rw [hc], show ch'.pw.step.2.2 = true from by rw [hc]]
            rw [hc] at hstep
            simp only [Bool.false_eq_true, if_false, if_true] at hstep
            refine G.value rfl rfl rfl (Sure.move rfl) ?_
            refine G.value rfl rfl rfl (Sure.extract rfl rfl) ?_
            refine G.value rfl rfl rfl (Sure.extract rfl rfl) ?_
            refine G.value rfl rfl rfl (Sure.assign rfl) ?_
            refine G.value rfl rfl rfl (Sure.assign rfl) ?_
            refine G.nil ?_
            refine C.seq ?_
            refine C.region_seq ?_
            refine G.value rfl rfl rfl (Sure.move rfl) ?_
            refine G.nil ?_
            refine C.cond_true rfl ?_
            -- draws its order
            refine C.draw ([(ad.cb, .cells (chipL ad ch')), (ad.bb, .cells (ch'.b.map byteV ++ ad.junk)), (ad.pb, .cells (pwL ch'.pw.step.1 ad.fv))]) mixed (by kernel_rfl) incx ?_
            refine GD.val 0 rfl rfl rfl rfl (by kernel_rfl) rfl (Sure.move rfl) ?_
            refine GD.val 1 rfl rfl rfl rfl (by kernel_rfl) rfl (Sure.move rfl) ?_
            refine GD.val 2 rfl rfl rfl rfl (by kernel_rfl) rfl (Sure.nilCheck rfl) ?_
            refine GD.val 3 rfl rfl rfl rfl (by kernel_rfl) rfl (Sure.fieldAddr rfl) ?_
            refine GD.val 4 rfl rfl rfl rfl (by kernel_rfl) rfl (Sure.load rfl rdx rfl) ?_
            refine GD.val 5 rfl rfl rfl rfl (by kernel_rfl) rfl (Sure.move rfl) ?_
            refine GD.val 6 rfl rfl rfl rfl (by kernel_rfl) rfl (Sure.move rfl) ?_
            refine GD.val 7 rfl rfl rfl rfl (by kernel_rfl) rfl (Sure.add rfl rfl (inK64 (by omega))) ?_
            refine GD.val 8 rfl rfl rfl rfl (by kernel_rfl) rfl (Sure.indexAddr rfl rfl (by omega)) ?_
            refine GD.val 9 rfl rfl rfl rfl (by kernel_rfl) rfl (Sure.load rfl (Rd.tl Rd.h0) (by rw [hpos]; exact bytes_get hyi)) ?_
            refine GD.val 10 rfl rfl rfl rfl (by kernel_rfl) rfl (Sure.move rfl) ?_
            refine GD.val 11 rfl rfl rfl rfl (by kernel_rfl) rfl (Sure.nilCheck rfl) ?_
            refine GD.val 12 rfl rfl rfl rfl (by kernel_rfl) rfl (Sure.fieldAddr rfl) ?_
            refine GD.val 13 rfl rfl rfl rfl (by kernel_rfl) rfl (Sure.load rfl rdx rfl) ?_
            refine GD.one 14 (by kernel_rfl) rfl rfl (by kernel_rfl) ?_
            refine Next.call 14 rfl rfl rfl (by kernel_rfl) (by kernel_rfl) rfl rfl rfl rfl (pw_mask_spec M2 ad.pb ch'.pw.step.1 ad.fv) (Split.cons .here Split.nil) ?_
            rintro _ M3 _ le3 ⟨rfl, rfl⟩
            refine ⟨incx, ?_⟩
            refine GD.val 15 rfl rfl rfl rfl (by kernel_rfl) rfl (Sure.and rfl rfl) ?_
            refine GD.val 16 rfl rfl rfl rfl (by kernel_rfl) rfl (Sure.or rfl rfl) ?_
            refine GD.one 17 (by kernel_rfl) rfl rfl (by kernel_rfl) ?_
            refine Next.dyn 17 rfl rfl rfl (by kernel_rfl) (by kernel_rfl) rfl (Dyn.assign rfl ?_)
            refine ⟨MLe.refl _, incx, ?_⟩
            refine GD.done (by kernel_rfl) (by kernel_rfl) ?_
            refine Fin.th ?_
            refine C.seq ?_
            refine C.region_seq ?_
            refine G.value rfl rfl rfl (Sure.move rfl) ?_
            refine G.value rfl rfl rfl (Sure.move rfl) ?_
            refine G.value rfl rfl rfl (Sure.move rfl) ?_
            refine G.value rfl rfl rfl (Sure.pick_false rfl rfl) ?_
            refine G.nil ?_
            refine C.cond_true rfl ?_
            refine C.region ?_
            refine G.value rfl rfl rfl (Sure.move rfl) ?_
            refine G.value rfl rfl rfl (Sure.nilCheck rfl) ?_
            refine G.value rfl rfl rfl (Sure.fieldAddr rfl) ?_
            refine G.value rfl rfl rfl (Sure.load rfl rdx rfl) ?_
            refine G.value rfl rfl rfl (Sure.move rfl) ?_
            refine G.value rfl rfl rfl (Sure.move rfl) ?_
            refine G.value rfl rfl rfl (Sure.add rfl rfl (inK64 (by omega))) ?_
            refine G.value rfl rfl rfl (Sure.move rfl) ?_
            refine G.value rfl rfl rfl (Sure.indexAddr rfl rfl (by omega)) ?_
            rw [Pw.step_mask, bits_and_u8, bits_or_u8]
            refine G.dyn0 rfl rfl ?_
            refine Dyn.store rfl rfl (.there (.there .here)) rfl (by rw [hpos]; exact bytes_set hib2) ?_
            refine G.nil ?_
            refine Fin.th ?_
            refine C.region_seq ?_
            refine G.value rfl rfl rfl (Sure.move rfl) ?_
            refine G.value rfl rfl rfl (Sure.not rfl) ?_
            refine G.nil ?_
            refine C.cond_true rfl ?_
            refine C.region_seq ?_
            refine G.value rfl rfl rfl (Sure.assign rfl) ?_
            refine G.nil ?_
            refine C.ret ?_
            refine Fin.blk_ret ?_
            refine Fin.th_ret ?_
            refine Fin.th_ret ?_
            refine Fin.blk_ret ?_
            refine Fin.th_ret ?_
            refine Fin.fn (Res.tmp rfl rfl) (R := []) (H0 := chipH ad { ch' with pw := ch'.pw.step.1, b := ch'.b.set (at_ + i) (bs[i] ||| (ch'.b.getD (at_ + i) 0 &&& ch'.pw.mask)) }) ?_ (by rw [hstep]; exact ⟨rfl, rfl⟩)
            have hgd : ch'.b.getD (at_ + i) 0 = ch'.b[at_ + i]'(by omega) := by simp [List.getD_eq_getElem?_getD, hyi]
            rw [hgd, chipH_set]
            exact Split.cons (.there (.there .here)) (Split.cons .here (Split.cons (.there .here) (Split.cons .here Split.nil)))
          · rw [show ch'.pw.step.2.1 = false from by rw [hc], show ch'.pw.step.2.2 = false from by rw [hc]]
            rw [hc] at hstep
            simp only [Bool.false_eq_true, if_false] at hstep
            refine G.value rfl rfl rfl (Sure.move rfl) ?_
            refine G.value rfl rfl rfl (Sure.extract rfl rfl) ?_
            refine G.value rfl rfl rfl (Sure.extract rfl rfl) ?_
            refine G.value rfl rfl rfl (Sure.assign rfl) ?_
            refine G.value rfl rfl rfl (Sure.assign rfl) ?_
            refine G.nil ?_
            refine C.seq ?_
            refine C.region_seq ?_
            refine G.value rfl rfl rfl (Sure.move rfl) ?_
            refine G.nil ?_
            refine C.cond_false rfl ?_
            refine C.skip ?_
            refine Fin.th ?_
            refine C.seq ?_
            refine C.region_seq ?_
            refine G.value rfl rfl rfl (Sure.move rfl) ?_
            refine G.value rfl rfl rfl (Sure.move rfl) ?_
            refine G.value rfl rfl rfl (Sure.move rfl) ?_
            refine G.value rfl rfl rfl (Sure.pick_false rfl rfl) ?_
            refine G.nil ?_
            refine C.cond_false rfl ?_
            refine C.skip ?_
            refine Fin.th ?_
            refine C.region_seq ?_
            refine G.value rfl rfl rfl (Sure.move rfl) ?_
            refine G.value rfl rfl rfl (Sure.not rfl) ?_
            refine G.nil ?_
            refine C.cond_true rfl ?_
            refine C.region_seq ?_
            refine G.value rfl rfl rfl (Sure.assign rfl) ?_
            refine G.nil ?_
            refine C.ret ?_
            refine Fin.blk_ret ?_
            refine Fin.th_ret ?_
            refine Fin.th_ret ?_
            refine Fin.blk_ret ?_
            refine Fin.th_ret ?_
            refine Fin.fn (Res.tmp rfl rfl) (R := []) (H0 := chipH ad { ch' with pw := ch'.pw.step.1 }) ?_ (by rw [hstep]; exact ⟨rfl, rfl⟩)
            exact Split.cons (.there .here) (Split.cons (.there .here) (Split.cons (.there .here) (Split.cons .here Split.nil)))
        · have hi : i = bs.length := by omega
          subst hi
          rw [List.drop_length] at heq
          refine C.exit ?_
          refine Fin.th_exit ?_
          refine Fin.th_exit ?_
          refine Fin.blk_eq ?_
          refine Fin.th ?_
          refine C.region_seq ?_
          refine G.value rfl rfl rfl (Sure.assign rfl) ?_
          refine G.nil ?_
          refine C.ret ?_
          refine Fin.fn (Res.tmp rfl rfl) (Split.cons .here (Split.cons .here (Split.cons .here (Split.cons .here Split.nil)))) ?_
          rw [← heq]
          exact ⟨rfl, rfl⟩
end Go.Proofs.YtaeeahcokiebdaaGreat
