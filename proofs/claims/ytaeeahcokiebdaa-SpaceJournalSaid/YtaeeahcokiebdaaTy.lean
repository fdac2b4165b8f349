/-
  The facts on this program's types, as instances; each function may be called.
  Conditions: none.
-/
import Derived.Test.YtaeeahcokiebdaaKj
import Derived.Test.YtaeeahcokiebdaaChecked
namespace Go.Proofs.Ytaeeahcokiebdaa
theorem TyB.of {P : Program} {t : TypeId} {i : TypeInfo} {b : Nat} (h : P.toTables.types[t]? = some i) (hb : i.bytes = b) : TyB P t b := ⟨i, by unfold Tables.info?; rw [if_pos (Array.getElem?_eq_some_iff.1 h).1]; exact h, hb⟩

instance : TyI Try.prog 0 false 1 := ⟨Try.isAgg0, Try.sizeOf0⟩
instance : TyU Try.prog 0 (Go.TypeDesc.tuple #[]) := ⟨Try.underlying0⟩
instance : TyB Try.prog 0 0 := TyB.of Try.type0 rfl
instance : TyI Try.prog 1 false 1 := ⟨Try.isAgg1, Try.sizeOf1⟩
instance : TyU Try.prog 1 (Go.TypeDesc.func #[] #[] false) := ⟨Try.underlying1⟩
instance : TyB Try.prog 1 8 := TyB.of Try.type1 rfl
instance : TyZ Try.prog 1 Go.Value.nilFunc := ⟨Try.zeroValue1⟩
instance : TyI Try.prog 2 false 1 := ⟨Try.isAgg2, Try.sizeOf2⟩
instance : TyU Try.prog 2 (Go.TypeDesc.int Go.IntKind.i64) := ⟨Try.underlying2⟩
instance : TyB Try.prog 2 8 := TyB.of Try.type2 rfl
instance : TyZ Try.prog 2 (Go.Value.int Go.IntKind.i64 0) := ⟨Try.zeroValue2⟩
instance : TyI Try.prog 3 false 1 := ⟨Try.isAgg3, Try.sizeOf3⟩
instance : TyU Try.prog 3 (Go.TypeDesc.int Go.IntKind.i64) := ⟨Try.underlying3⟩
instance : TyB Try.prog 3 8 := TyB.of Try.type3 rfl
instance : TyZ Try.prog 3 (Go.Value.int Go.IntKind.i64 0) := ⟨Try.zeroValue3⟩
instance : TyI Try.prog 4 false 1 := ⟨Try.isAgg4, Try.sizeOf4⟩
instance : TyU Try.prog 4 (Go.TypeDesc.bool) := ⟨Try.underlying4⟩
instance : TyB Try.prog 4 1 := TyB.of Try.type4 rfl
instance : TyZ Try.prog 4 (Go.Value.bool false) := ⟨Try.zeroValue4⟩
instance : TyI Try.prog 5 false 1 := ⟨Try.isAgg5, Try.sizeOf5⟩
instance : TyU Try.prog 5 (Go.TypeDesc.int Go.IntKind.u8) := ⟨Try.underlying5⟩
instance : TyB Try.prog 5 1 := TyB.of Try.type5 rfl
instance : TyZ Try.prog 5 (Go.Value.int Go.IntKind.u8 0) := ⟨Try.zeroValue5⟩
instance : TyI Try.prog 6 false 1 := ⟨Try.isAgg6, Try.sizeOf6⟩
instance : TyU Try.prog 6 (Go.TypeDesc.int Go.IntKind.u8) := ⟨Try.underlying6⟩
instance : TyB Try.prog 6 1 := TyB.of Try.type6 rfl
instance : TyZ Try.prog 6 (Go.Value.int Go.IntKind.u8 0) := ⟨Try.zeroValue6⟩
instance : TyI Try.prog 7 true 4 := ⟨Try.isAgg7, Try.sizeOf7⟩
instance : TyU Try.prog 7 (Go.TypeDesc.struct #[{ name := "x", type := 2, offset := 0, embedded := false, tag := "", pkgPath := "runtime", byteOffset := 0 }, { name := "y", type := 3, offset := 1, embedded := false, tag := "", pkgPath := "runtime", byteOffset := 8 }, { name := "signed", type := 4, offset := 2, embedded := false, tag := "", pkgPath := "runtime", byteOffset := 16 }, { name := "code", type := 6, offset := 3, embedded := false, tag := "", pkgPath := "runtime", byteOffset := 17 }]) := ⟨Try.underlying7⟩
instance : TyB Try.prog 7 24 := TyB.of Try.type7 rfl
instance : TyZ Try.prog 7 (Go.Value.agg #[Go.Value.int Go.IntKind.i64 0, Go.Value.int Go.IntKind.i64 0, Go.Value.bool false, Go.Value.int Go.IntKind.u8 0]) := ⟨Try.zeroValue7⟩
instance : TyV Try.prog 7 0 0 := ⟨_, _, Try.underlying7, rfl, rfl, Try.isAgg2⟩
instance : TyF Try.prog 7 0 0 := ⟨_, _, Try.underlying7, rfl, rfl, fun w => ⟨_, Try.sizeOf2 w, by decide⟩⟩
instance : TyV Try.prog 7 1 1 := ⟨_, _, Try.underlying7, rfl, rfl, Try.isAgg3⟩
instance : TyF Try.prog 7 1 1 := ⟨_, _, Try.underlying7, rfl, rfl, fun w => ⟨_, Try.sizeOf3 w, by decide⟩⟩
instance : TyV Try.prog 7 2 2 := ⟨_, _, Try.underlying7, rfl, rfl, Try.isAgg4⟩
instance : TyF Try.prog 7 2 2 := ⟨_, _, Try.underlying7, rfl, rfl, fun w => ⟨_, Try.sizeOf4 w, by decide⟩⟩
instance : TyV Try.prog 7 3 3 := ⟨_, _, Try.underlying7, rfl, rfl, Try.isAgg6⟩
instance : TyF Try.prog 7 3 3 := ⟨_, _, Try.underlying7, rfl, rfl, fun w => ⟨_, Try.sizeOf6 w, by decide⟩⟩
instance : TyS Try.prog 7 [(0, 1), (1, 1), (2, 1), (3, 1)] [Go.Value.int Go.IntKind.i64 0, Go.Value.int Go.IntKind.i64 0, Go.Value.bool false, Go.Value.int Go.IntKind.u8 0] := TyS.mk' Try.underlying7 Try.zeroValue7 (fun w => by simp)
instance : TyI Try.prog 8 true 4 := ⟨Try.isAgg8, Try.sizeOf8⟩
instance : TyU Try.prog 8 (Go.TypeDesc.struct #[{ name := "x", type := 2, offset := 0, embedded := false, tag := "", pkgPath := "runtime", byteOffset := 0 }, { name := "y", type := 3, offset := 1, embedded := false, tag := "", pkgPath := "runtime", byteOffset := 8 }, { name := "signed", type := 4, offset := 2, embedded := false, tag := "", pkgPath := "runtime", byteOffset := 16 }, { name := "code", type := 6, offset := 3, embedded := false, tag := "", pkgPath := "runtime", byteOffset := 17 }]) := ⟨Try.underlying8⟩
instance : TyB Try.prog 8 24 := TyB.of Try.type8 rfl
instance : TyZ Try.prog 8 (Go.Value.agg #[Go.Value.int Go.IntKind.i64 0, Go.Value.int Go.IntKind.i64 0, Go.Value.bool false, Go.Value.int Go.IntKind.u8 0]) := ⟨Try.zeroValue8⟩
instance : TyV Try.prog 8 0 0 := ⟨_, _, Try.underlying8, rfl, rfl, Try.isAgg2⟩
instance : TyF Try.prog 8 0 0 := ⟨_, _, Try.underlying8, rfl, rfl, fun w => ⟨_, Try.sizeOf2 w, by decide⟩⟩
instance : TyV Try.prog 8 1 1 := ⟨_, _, Try.underlying8, rfl, rfl, Try.isAgg3⟩
instance : TyF Try.prog 8 1 1 := ⟨_, _, Try.underlying8, rfl, rfl, fun w => ⟨_, Try.sizeOf3 w, by decide⟩⟩
instance : TyV Try.prog 8 2 2 := ⟨_, _, Try.underlying8, rfl, rfl, Try.isAgg4⟩
instance : TyF Try.prog 8 2 2 := ⟨_, _, Try.underlying8, rfl, rfl, fun w => ⟨_, Try.sizeOf4 w, by decide⟩⟩
instance : TyV Try.prog 8 3 3 := ⟨_, _, Try.underlying8, rfl, rfl, Try.isAgg6⟩
instance : TyF Try.prog 8 3 3 := ⟨_, _, Try.underlying8, rfl, rfl, fun w => ⟨_, Try.sizeOf6 w, by decide⟩⟩
instance : TyS Try.prog 8 [(0, 1), (1, 1), (2, 1), (3, 1)] [Go.Value.int Go.IntKind.i64 0, Go.Value.int Go.IntKind.i64 0, Go.Value.bool false, Go.Value.int Go.IntKind.u8 0] := TyS.mk' Try.underlying8 Try.zeroValue8 (fun w => by simp)
instance : TyI Try.prog 9 false 1 := ⟨Try.isAgg9, Try.sizeOf9⟩
instance : TyU Try.prog 9 (Go.TypeDesc.string) := ⟨Try.underlying9⟩
instance : TyB Try.prog 9 16 := TyB.of Try.type9 rfl
instance : TyZ Try.prog 9 (Go.Value.string { data := #[] }) := ⟨Try.zeroValue9⟩
instance : TyI Try.prog 10 false 1 := ⟨Try.isAgg10, Try.sizeOf10⟩
instance : TyU Try.prog 10 (Go.TypeDesc.string) := ⟨Try.underlying10⟩
instance : TyB Try.prog 10 16 := TyB.of Try.type10 rfl
instance : TyZ Try.prog 10 (Go.Value.string { data := #[] }) := ⟨Try.zeroValue10⟩
instance : TyI Try.prog 11 false 1 := ⟨Try.isAgg11, Try.sizeOf11⟩
instance : TyU Try.prog 11 (Go.TypeDesc.string) := ⟨Try.underlying11⟩
instance : TyB Try.prog 11 16 := TyB.of Try.type11 rfl
instance : TyZ Try.prog 11 (Go.Value.string { data := #[] }) := ⟨Try.zeroValue11⟩
instance : TyI Try.prog 12 false 1 := ⟨Try.isAgg12, Try.sizeOf12⟩
instance : TyU Try.prog 12 (Go.TypeDesc.int Go.IntKind.u64) := ⟨Try.underlying12⟩
instance : TyB Try.prog 12 8 := TyB.of Try.type12 rfl
instance : TyZ Try.prog 12 (Go.Value.int Go.IntKind.u64 0) := ⟨Try.zeroValue12⟩
instance : TyI Try.prog 13 true 2 := ⟨Try.isAgg13, Try.sizeOf13⟩
instance : TyU Try.prog 13 (Go.TypeDesc.struct #[{ name := "msg", type := 9, offset := 0, embedded := false, tag := "", pkgPath := "runtime", byteOffset := 0 }, { name := "addr", type := 12, offset := 1, embedded := false, tag := "", pkgPath := "runtime", byteOffset := 16 }]) := ⟨Try.underlying13⟩
instance : TyB Try.prog 13 24 := TyB.of Try.type13 rfl
instance : TyZ Try.prog 13 (Go.Value.agg #[Go.Value.string { data := #[] }, Go.Value.int Go.IntKind.u64 0]) := ⟨Try.zeroValue13⟩
instance : TyV Try.prog 13 0 0 := ⟨_, _, Try.underlying13, rfl, rfl, Try.isAgg9⟩
instance : TyF Try.prog 13 0 0 := ⟨_, _, Try.underlying13, rfl, rfl, fun w => ⟨_, Try.sizeOf9 w, by decide⟩⟩
instance : TyV Try.prog 13 1 1 := ⟨_, _, Try.underlying13, rfl, rfl, Try.isAgg12⟩
instance : TyF Try.prog 13 1 1 := ⟨_, _, Try.underlying13, rfl, rfl, fun w => ⟨_, Try.sizeOf12 w, by decide⟩⟩
instance : TyS Try.prog 13 [(0, 1), (1, 1)] [Go.Value.string { data := #[] }, Go.Value.int Go.IntKind.u64 0] := TyS.mk' Try.underlying13 Try.zeroValue13 (fun w => by simp)
instance : TyI Try.prog 14 true 2 := ⟨Try.isAgg14, Try.sizeOf14⟩
instance : TyU Try.prog 14 (Go.TypeDesc.struct #[{ name := "msg", type := 9, offset := 0, embedded := false, tag := "", pkgPath := "runtime", byteOffset := 0 }, { name := "addr", type := 12, offset := 1, embedded := false, tag := "", pkgPath := "runtime", byteOffset := 16 }]) := ⟨Try.underlying14⟩
instance : TyB Try.prog 14 24 := TyB.of Try.type14 rfl
instance : TyZ Try.prog 14 (Go.Value.agg #[Go.Value.string { data := #[] }, Go.Value.int Go.IntKind.u64 0]) := ⟨Try.zeroValue14⟩
instance : TyV Try.prog 14 0 0 := ⟨_, _, Try.underlying14, rfl, rfl, Try.isAgg9⟩
instance : TyF Try.prog 14 0 0 := ⟨_, _, Try.underlying14, rfl, rfl, fun w => ⟨_, Try.sizeOf9 w, by decide⟩⟩
instance : TyV Try.prog 14 1 1 := ⟨_, _, Try.underlying14, rfl, rfl, Try.isAgg12⟩
instance : TyF Try.prog 14 1 1 := ⟨_, _, Try.underlying14, rfl, rfl, fun w => ⟨_, Try.sizeOf12 w, by decide⟩⟩
instance : TyS Try.prog 14 [(0, 1), (1, 1)] [Go.Value.string { data := #[] }, Go.Value.int Go.IntKind.u64 0] := TyS.mk' Try.underlying14 Try.zeroValue14 (fun w => by simp)
instance : TyI Try.prog 15 false 1 := ⟨Try.isAgg15, Try.sizeOf15⟩
instance : TyU Try.prog 15 (Go.TypeDesc.pointer 139) := ⟨Try.underlying15⟩
instance : TyB Try.prog 15 8 := TyB.of Try.type15 rfl
instance : TyZ Try.prog 15 (Go.Value.pointer none) := ⟨Try.zeroValue15⟩
instance : TyI Try.prog 16 false 1 := ⟨Try.isAgg16, Try.sizeOf16⟩
instance : TyU Try.prog 16 (Go.TypeDesc.pointer 142) := ⟨Try.underlying16⟩
instance : TyB Try.prog 16 8 := TyB.of Try.type16 rfl
instance : TyZ Try.prog 16 (Go.Value.pointer none) := ⟨Try.zeroValue16⟩
instance : TyI Try.prog 17 false 1 := ⟨Try.isAgg17, Try.sizeOf17⟩
instance : TyU Try.prog 17 (Go.TypeDesc.pointer 150) := ⟨Try.underlying17⟩
instance : TyB Try.prog 17 8 := TyB.of Try.type17 rfl
instance : TyZ Try.prog 17 (Go.Value.pointer none) := ⟨Try.zeroValue17⟩
instance : TyI Try.prog 18 true 1 := ⟨Try.isAgg18, Try.sizeOf18⟩
instance : TyU Try.prog 18 (Go.TypeDesc.struct #[{ name := "typ", type := 17, offset := 0, embedded := false, tag := "", pkgPath := "internal/runtime/maps", byteOffset := 0 }]) := ⟨Try.underlying18⟩
instance : TyB Try.prog 18 8 := TyB.of Try.type18 rfl
instance : TyZ Try.prog 18 (Go.Value.agg #[Go.Value.pointer none]) := ⟨Try.zeroValue18⟩
instance : TyV Try.prog 18 0 0 := ⟨_, _, Try.underlying18, rfl, rfl, Try.isAgg17⟩
instance : TyF Try.prog 18 0 0 := ⟨_, _, Try.underlying18, rfl, rfl, fun w => ⟨_, Try.sizeOf17 w, by decide⟩⟩
instance : TyS Try.prog 18 [(0, 1)] [Go.Value.pointer none] := TyS.mk' Try.underlying18 Try.zeroValue18 (fun w => by simp)
instance : TyI Try.prog 19 true 1 := ⟨Try.isAgg19, Try.sizeOf19⟩
instance : TyU Try.prog 19 (Go.TypeDesc.struct #[{ name := "typ", type := 17, offset := 0, embedded := false, tag := "", pkgPath := "internal/runtime/maps", byteOffset := 0 }]) := ⟨Try.underlying19⟩
instance : TyB Try.prog 19 8 := TyB.of Try.type19 rfl
instance : TyZ Try.prog 19 (Go.Value.agg #[Go.Value.pointer none]) := ⟨Try.zeroValue19⟩
instance : TyV Try.prog 19 0 0 := ⟨_, _, Try.underlying19, rfl, rfl, Try.isAgg17⟩
instance : TyF Try.prog 19 0 0 := ⟨_, _, Try.underlying19, rfl, rfl, fun w => ⟨_, Try.sizeOf17 w, by decide⟩⟩
instance : TyS Try.prog 19 [(0, 1)] [Go.Value.pointer none] := TyS.mk' Try.underlying19 Try.zeroValue19 (fun w => by simp)
instance : TyI Try.prog 20 false 1 := ⟨Try.isAgg20, Try.sizeOf20⟩
instance : TyU Try.prog 20 (Go.TypeDesc.interface #[]) := ⟨Try.underlying20⟩
instance : TyB Try.prog 20 16 := TyB.of Try.type20 rfl
instance : TyZ Try.prog 20 Go.Value.nilIface := ⟨Try.zeroValue20⟩
instance : TyI Try.prog 21 false 1 := ⟨Try.isAgg21, Try.sizeOf21⟩
instance : TyU Try.prog 21 (Go.TypeDesc.int Go.IntKind.i32) := ⟨Try.underlying21⟩
instance : TyB Try.prog 21 4 := TyB.of Try.type21 rfl
instance : TyZ Try.prog 21 (Go.Value.int Go.IntKind.i32 0) := ⟨Try.zeroValue21⟩
instance : TyI Try.prog 22 true 5 := ⟨Try.isAgg22, Try.sizeOf22⟩
instance : TyU Try.prog 22 (Go.TypeDesc.struct #[{ name := "Sectors", type := 3, offset := 0, embedded := false, tag := "", pkgPath := "", byteOffset := 0 }, { name := "Sector", type := 3, offset := 1, embedded := false, tag := "", pkgPath := "", byteOffset := 8 }, { name := "Blocks", type := 3, offset := 2, embedded := false, tag := "", pkgPath := "", byteOffset := 16 }, { name := "Pages", type := 3, offset := 3, embedded := false, tag := "", pkgPath := "", byteOffset := 24 }, { name := "Page", type := 3, offset := 4, embedded := false, tag := "", pkgPath := "", byteOffset := 32 }]) := ⟨Try.underlying22⟩
instance : TyB Try.prog 22 40 := TyB.of Try.type22 rfl
instance : TyZ Try.prog 22 (Go.Value.agg #[Go.Value.int Go.IntKind.i64 0, Go.Value.int Go.IntKind.i64 0, Go.Value.int Go.IntKind.i64 0, Go.Value.int Go.IntKind.i64 0, Go.Value.int Go.IntKind.i64 0]) := ⟨Try.zeroValue22⟩
instance : TyV Try.prog 22 0 0 := ⟨_, _, Try.underlying22, rfl, rfl, Try.isAgg3⟩
instance : TyF Try.prog 22 0 0 := ⟨_, _, Try.underlying22, rfl, rfl, fun w => ⟨_, Try.sizeOf3 w, by decide⟩⟩
instance : TyV Try.prog 22 1 1 := ⟨_, _, Try.underlying22, rfl, rfl, Try.isAgg3⟩
instance : TyF Try.prog 22 1 1 := ⟨_, _, Try.underlying22, rfl, rfl, fun w => ⟨_, Try.sizeOf3 w, by decide⟩⟩
instance : TyV Try.prog 22 2 2 := ⟨_, _, Try.underlying22, rfl, rfl, Try.isAgg3⟩
instance : TyF Try.prog 22 2 2 := ⟨_, _, Try.underlying22, rfl, rfl, fun w => ⟨_, Try.sizeOf3 w, by decide⟩⟩
instance : TyV Try.prog 22 3 3 := ⟨_, _, Try.underlying22, rfl, rfl, Try.isAgg3⟩
instance : TyF Try.prog 22 3 3 := ⟨_, _, Try.underlying22, rfl, rfl, fun w => ⟨_, Try.sizeOf3 w, by decide⟩⟩
instance : TyV Try.prog 22 4 4 := ⟨_, _, Try.underlying22, rfl, rfl, Try.isAgg3⟩
instance : TyF Try.prog 22 4 4 := ⟨_, _, Try.underlying22, rfl, rfl, fun w => ⟨_, Try.sizeOf3 w, by decide⟩⟩
instance : TyS Try.prog 22 [(0, 1), (1, 1), (2, 1), (3, 1), (4, 1)] [Go.Value.int Go.IntKind.i64 0, Go.Value.int Go.IntKind.i64 0, Go.Value.int Go.IntKind.i64 0, Go.Value.int Go.IntKind.i64 0, Go.Value.int Go.IntKind.i64 0] := TyS.mk' Try.underlying22 Try.zeroValue22 (fun w => by simp)
instance : TyI Try.prog 23 true 5 := ⟨Try.isAgg23, Try.sizeOf23⟩
instance : TyU Try.prog 23 (Go.TypeDesc.struct #[{ name := "Sectors", type := 3, offset := 0, embedded := false, tag := "", pkgPath := "", byteOffset := 0 }, { name := "Sector", type := 3, offset := 1, embedded := false, tag := "", pkgPath := "", byteOffset := 8 }, { name := "Blocks", type := 3, offset := 2, embedded := false, tag := "", pkgPath := "", byteOffset := 16 }, { name := "Pages", type := 3, offset := 3, embedded := false, tag := "", pkgPath := "", byteOffset := 24 }, { name := "Page", type := 3, offset := 4, embedded := false, tag := "", pkgPath := "", byteOffset := 32 }]) := ⟨Try.underlying23⟩
instance : TyB Try.prog 23 40 := TyB.of Try.type23 rfl
instance : TyZ Try.prog 23 (Go.Value.agg #[Go.Value.int Go.IntKind.i64 0, Go.Value.int Go.IntKind.i64 0, Go.Value.int Go.IntKind.i64 0, Go.Value.int Go.IntKind.i64 0, Go.Value.int Go.IntKind.i64 0]) := ⟨Try.zeroValue23⟩
instance : TyV Try.prog 23 0 0 := ⟨_, _, Try.underlying23, rfl, rfl, Try.isAgg3⟩
instance : TyF Try.prog 23 0 0 := ⟨_, _, Try.underlying23, rfl, rfl, fun w => ⟨_, Try.sizeOf3 w, by decide⟩⟩
instance : TyV Try.prog 23 1 1 := ⟨_, _, Try.underlying23, rfl, rfl, Try.isAgg3⟩
instance : TyF Try.prog 23 1 1 := ⟨_, _, Try.underlying23, rfl, rfl, fun w => ⟨_, Try.sizeOf3 w, by decide⟩⟩
instance : TyV Try.prog 23 2 2 := ⟨_, _, Try.underlying23, rfl, rfl, Try.isAgg3⟩
instance : TyF Try.prog 23 2 2 := ⟨_, _, Try.underlying23, rfl, rfl, fun w => ⟨_, Try.sizeOf3 w, by decide⟩⟩
instance : TyV Try.prog 23 3 3 := ⟨_, _, Try.underlying23, rfl, rfl, Try.isAgg3⟩
instance : TyF Try.prog 23 3 3 := ⟨_, _, Try.underlying23, rfl, rfl, fun w => ⟨_, Try.sizeOf3 w, by decide⟩⟩
instance : TyV Try.prog 23 4 4 := ⟨_, _, Try.underlying23, rfl, rfl, Try.isAgg3⟩
instance : TyF Try.prog 23 4 4 := ⟨_, _, Try.underlying23, rfl, rfl, fun w => ⟨_, Try.sizeOf3 w, by decide⟩⟩
instance : TyS Try.prog 23 [(0, 1), (1, 1), (2, 1), (3, 1), (4, 1)] [Go.Value.int Go.IntKind.i64 0, Go.Value.int Go.IntKind.i64 0, Go.Value.int Go.IntKind.i64 0, Go.Value.int Go.IntKind.i64 0, Go.Value.int Go.IntKind.i64 0] := TyS.mk' Try.underlying23 Try.zeroValue23 (fun w => by simp)
instance : TyI Try.prog 24 false 1 := ⟨Try.isAgg24, Try.sizeOf24⟩
instance : TyU Try.prog 24 (Go.TypeDesc.func #[23] #[23] false) := ⟨Try.underlying24⟩
instance : TyB Try.prog 24 8 := TyB.of Try.type24 rfl
instance : TyZ Try.prog 24 Go.Value.nilFunc := ⟨Try.zeroValue24⟩
instance : TyI Try.prog 25 false 1 := ⟨Try.isAgg25, Try.sizeOf25⟩
instance : TyU Try.prog 25 (Go.TypeDesc.int Go.IntKind.u64) := ⟨Try.underlying25⟩
instance : TyB Try.prog 25 8 := TyB.of Try.type25 rfl
instance : TyZ Try.prog 25 (Go.Value.int Go.IntKind.u64 0) := ⟨Try.zeroValue25⟩
instance : TyI Try.prog 26 false 1 := ⟨Try.isAgg26, Try.sizeOf26⟩
instance : TyU Try.prog 26 (Go.TypeDesc.pointer 57) := ⟨Try.underlying26⟩
instance : TyB Try.prog 26 8 := TyB.of Try.type26 rfl
instance : TyZ Try.prog 26 (Go.Value.pointer none) := ⟨Try.zeroValue26⟩
instance : TyI Try.prog 27 false 1 := ⟨Try.isAgg27, Try.sizeOf27⟩
instance : TyU Try.prog 27 (Go.TypeDesc.int Go.IntKind.i64) := ⟨Try.underlying27⟩
instance : TyB Try.prog 27 8 := TyB.of Try.type27 rfl
instance : TyZ Try.prog 27 (Go.Value.int Go.IntKind.i64 0) := ⟨Try.zeroValue27⟩
instance : TyI Try.prog 28 false 1 := ⟨Try.isAgg28, Try.sizeOf28⟩
instance : TyU Try.prog 28 (Go.TypeDesc.tuple #[26, 27]) := ⟨Try.underlying28⟩
instance : TyB Try.prog 28 0 := TyB.of Try.type28 rfl
instance : TyI Try.prog 29 false 1 := ⟨Try.isAgg29, Try.sizeOf29⟩
instance : TyU Try.prog 29 (Go.TypeDesc.func #[23, 30] #[26, 27] false) := ⟨Try.underlying29⟩
instance : TyB Try.prog 29 8 := TyB.of Try.type29 rfl
instance : TyZ Try.prog 29 Go.Value.nilFunc := ⟨Try.zeroValue29⟩
instance : TyI Try.prog 30 false 1 := ⟨Try.isAgg30, Try.sizeOf30⟩
instance : TyU Try.prog 30 (Go.TypeDesc.pointer 60) := ⟨Try.underlying30⟩
instance : TyB Try.prog 30 8 := TyB.of Try.type30 rfl
instance : TyZ Try.prog 30 (Go.Value.pointer none) := ⟨Try.zeroValue30⟩
instance : TyI Try.prog 31 false 1 := ⟨Try.isAgg31, Try.sizeOf31⟩
instance : TyU Try.prog 31 (Go.TypeDesc.func #[] #[30] false) := ⟨Try.underlying31⟩
instance : TyB Try.prog 31 8 := TyB.of Try.type31 rfl
instance : TyZ Try.prog 31 Go.Value.nilFunc := ⟨Try.zeroValue31⟩
instance : TyI Try.prog 32 false 1 := ⟨Try.isAgg32, Try.sizeOf32⟩
instance : TyU Try.prog 32 (Go.TypeDesc.pointer 63) := ⟨Try.underlying32⟩
instance : TyB Try.prog 32 8 := TyB.of Try.type32 rfl
instance : TyZ Try.prog 32 (Go.Value.pointer none) := ⟨Try.zeroValue32⟩
instance : TyI Try.prog 33 false 1 := ⟨Try.isAgg33, Try.sizeOf33⟩
instance : TyU Try.prog 33 (Go.TypeDesc.tuple #[32, 27]) := ⟨Try.underlying33⟩
instance : TyB Try.prog 33 0 := TyB.of Try.type33 rfl
instance : TyI Try.prog 34 false 1 := ⟨Try.isAgg34, Try.sizeOf34⟩
instance : TyU Try.prog 34 (Go.TypeDesc.func #[26] #[32, 27] false) := ⟨Try.underlying34⟩
instance : TyB Try.prog 34 8 := TyB.of Try.type34 rfl
instance : TyZ Try.prog 34 Go.Value.nilFunc := ⟨Try.zeroValue34⟩
instance : TyI Try.prog 35 false 1 := ⟨Try.isAgg35, Try.sizeOf35⟩
instance : TyU Try.prog 35 (Go.TypeDesc.func #[] #[4] false) := ⟨Try.underlying35⟩
instance : TyB Try.prog 35 8 := TyB.of Try.type35 rfl
instance : TyZ Try.prog 35 Go.Value.nilFunc := ⟨Try.zeroValue35⟩
instance : TyI Try.prog 36 false 1 := ⟨Try.isAgg36, Try.sizeOf36⟩
instance : TyU Try.prog 36 (Go.TypeDesc.slice 116) := ⟨Try.underlying36⟩
instance : TyB Try.prog 36 24 := TyB.of Try.type36 rfl
instance : TyZ Try.prog 36 (Go.Value.slice none 0 0) := ⟨Try.zeroValue36⟩
instance : TyI Try.prog 37 false 1 := ⟨Try.isAgg37, Try.sizeOf37⟩
instance : TyU Try.prog 37 (Go.TypeDesc.slice 118) := ⟨Try.underlying37⟩
instance : TyB Try.prog 37 24 := TyB.of Try.type37 rfl
instance : TyZ Try.prog 37 (Go.Value.slice none 0 0) := ⟨Try.zeroValue37⟩
instance : TyI Try.prog 38 true 7 := ⟨Try.isAgg38, Try.sizeOf38⟩
instance : TyU Try.prog 38 (Go.TypeDesc.struct #[{ name := "No", type := 3, offset := 0, embedded := false, tag := "", pkgPath := "", byteOffset := 0 }, { name := "Kind", type := 3, offset := 1, embedded := false, tag := "", pkgPath := "", byteOffset := 8 }, { name := "Links", type := 3, offset := 2, embedded := false, tag := "", pkgPath := "", byteOffset := 16 }, { name := "Size", type := 3, offset := 3, embedded := false, tag := "", pkgPath := "", byteOffset := 24 }, { name := "Target", type := 9, offset := 4, embedded := false, tag := "", pkgPath := "", byteOffset := 32 }, { name := "Entries", type := 36, offset := 5, embedded := false, tag := "", pkgPath := "", byteOffset := 48 }, { name := "Runs", type := 37, offset := 6, embedded := false, tag := "", pkgPath := "", byteOffset := 72 }]) := ⟨Try.underlying38⟩
instance : TyB Try.prog 38 96 := TyB.of Try.type38 rfl
instance : TyZ Try.prog 38 (Go.Value.agg #[Go.Value.int Go.IntKind.i64 0, Go.Value.int Go.IntKind.i64 0, Go.Value.int Go.IntKind.i64 0, Go.Value.int Go.IntKind.i64 0, Go.Value.string { data := #[] }, Go.Value.slice none 0 0, Go.Value.slice none 0 0]) := ⟨Try.zeroValue38⟩
instance : TyV Try.prog 38 0 0 := ⟨_, _, Try.underlying38, rfl, rfl, Try.isAgg3⟩
instance : TyF Try.prog 38 0 0 := ⟨_, _, Try.underlying38, rfl, rfl, fun w => ⟨_, Try.sizeOf3 w, by decide⟩⟩
instance : TyV Try.prog 38 1 1 := ⟨_, _, Try.underlying38, rfl, rfl, Try.isAgg3⟩
instance : TyF Try.prog 38 1 1 := ⟨_, _, Try.underlying38, rfl, rfl, fun w => ⟨_, Try.sizeOf3 w, by decide⟩⟩
instance : TyV Try.prog 38 2 2 := ⟨_, _, Try.underlying38, rfl, rfl, Try.isAgg3⟩
instance : TyF Try.prog 38 2 2 := ⟨_, _, Try.underlying38, rfl, rfl, fun w => ⟨_, Try.sizeOf3 w, by decide⟩⟩
instance : TyV Try.prog 38 3 3 := ⟨_, _, Try.underlying38, rfl, rfl, Try.isAgg3⟩
instance : TyF Try.prog 38 3 3 := ⟨_, _, Try.underlying38, rfl, rfl, fun w => ⟨_, Try.sizeOf3 w, by decide⟩⟩
instance : TyV Try.prog 38 4 4 := ⟨_, _, Try.underlying38, rfl, rfl, Try.isAgg9⟩
instance : TyF Try.prog 38 4 4 := ⟨_, _, Try.underlying38, rfl, rfl, fun w => ⟨_, Try.sizeOf9 w, by decide⟩⟩
instance : TyV Try.prog 38 5 5 := ⟨_, _, Try.underlying38, rfl, rfl, Try.isAgg36⟩
instance : TyF Try.prog 38 5 5 := ⟨_, _, Try.underlying38, rfl, rfl, fun w => ⟨_, Try.sizeOf36 w, by decide⟩⟩
instance : TyV Try.prog 38 6 6 := ⟨_, _, Try.underlying38, rfl, rfl, Try.isAgg37⟩
instance : TyF Try.prog 38 6 6 := ⟨_, _, Try.underlying38, rfl, rfl, fun w => ⟨_, Try.sizeOf37 w, by decide⟩⟩
instance : TyS Try.prog 38 [(0, 1), (1, 1), (2, 1), (3, 1), (4, 1), (5, 1), (6, 1)] [Go.Value.int Go.IntKind.i64 0, Go.Value.int Go.IntKind.i64 0, Go.Value.int Go.IntKind.i64 0, Go.Value.int Go.IntKind.i64 0, Go.Value.string { data := #[] }, Go.Value.slice none 0 0, Go.Value.slice none 0 0] := TyS.mk' Try.underlying38 Try.zeroValue38 (fun w => by simp)
instance : TyI Try.prog 39 true 7 := ⟨Try.isAgg39, Try.sizeOf39⟩
instance : TyU Try.prog 39 (Go.TypeDesc.struct #[{ name := "No", type := 3, offset := 0, embedded := false, tag := "", pkgPath := "", byteOffset := 0 }, { name := "Kind", type := 3, offset := 1, embedded := false, tag := "", pkgPath := "", byteOffset := 8 }, { name := "Links", type := 3, offset := 2, embedded := false, tag := "", pkgPath := "", byteOffset := 16 }, { name := "Size", type := 3, offset := 3, embedded := false, tag := "", pkgPath := "", byteOffset := 24 }, { name := "Target", type := 9, offset := 4, embedded := false, tag := "", pkgPath := "", byteOffset := 32 }, { name := "Entries", type := 36, offset := 5, embedded := false, tag := "", pkgPath := "", byteOffset := 48 }, { name := "Runs", type := 37, offset := 6, embedded := false, tag := "", pkgPath := "", byteOffset := 72 }]) := ⟨Try.underlying39⟩
instance : TyB Try.prog 39 96 := TyB.of Try.type39 rfl
instance : TyZ Try.prog 39 (Go.Value.agg #[Go.Value.int Go.IntKind.i64 0, Go.Value.int Go.IntKind.i64 0, Go.Value.int Go.IntKind.i64 0, Go.Value.int Go.IntKind.i64 0, Go.Value.string { data := #[] }, Go.Value.slice none 0 0, Go.Value.slice none 0 0]) := ⟨Try.zeroValue39⟩
instance : TyV Try.prog 39 0 0 := ⟨_, _, Try.underlying39, rfl, rfl, Try.isAgg3⟩
instance : TyF Try.prog 39 0 0 := ⟨_, _, Try.underlying39, rfl, rfl, fun w => ⟨_, Try.sizeOf3 w, by decide⟩⟩
instance : TyV Try.prog 39 1 1 := ⟨_, _, Try.underlying39, rfl, rfl, Try.isAgg3⟩
instance : TyF Try.prog 39 1 1 := ⟨_, _, Try.underlying39, rfl, rfl, fun w => ⟨_, Try.sizeOf3 w, by decide⟩⟩
instance : TyV Try.prog 39 2 2 := ⟨_, _, Try.underlying39, rfl, rfl, Try.isAgg3⟩
instance : TyF Try.prog 39 2 2 := ⟨_, _, Try.underlying39, rfl, rfl, fun w => ⟨_, Try.sizeOf3 w, by decide⟩⟩
instance : TyV Try.prog 39 3 3 := ⟨_, _, Try.underlying39, rfl, rfl, Try.isAgg3⟩
instance : TyF Try.prog 39 3 3 := ⟨_, _, Try.underlying39, rfl, rfl, fun w => ⟨_, Try.sizeOf3 w, by decide⟩⟩
instance : TyV Try.prog 39 4 4 := ⟨_, _, Try.underlying39, rfl, rfl, Try.isAgg9⟩
instance : TyF Try.prog 39 4 4 := ⟨_, _, Try.underlying39, rfl, rfl, fun w => ⟨_, Try.sizeOf9 w, by decide⟩⟩
instance : TyV Try.prog 39 5 5 := ⟨_, _, Try.underlying39, rfl, rfl, Try.isAgg36⟩
instance : TyF Try.prog 39 5 5 := ⟨_, _, Try.underlying39, rfl, rfl, fun w => ⟨_, Try.sizeOf36 w, by decide⟩⟩
instance : TyV Try.prog 39 6 6 := ⟨_, _, Try.underlying39, rfl, rfl, Try.isAgg37⟩
instance : TyF Try.prog 39 6 6 := ⟨_, _, Try.underlying39, rfl, rfl, fun w => ⟨_, Try.sizeOf37 w, by decide⟩⟩
instance : TyS Try.prog 39 [(0, 1), (1, 1), (2, 1), (3, 1), (4, 1), (5, 1), (6, 1)] [Go.Value.int Go.IntKind.i64 0, Go.Value.int Go.IntKind.i64 0, Go.Value.int Go.IntKind.i64 0, Go.Value.int Go.IntKind.i64 0, Go.Value.string { data := #[] }, Go.Value.slice none 0 0, Go.Value.slice none 0 0] := TyS.mk' Try.underlying39 Try.zeroValue39 (fun w => by simp)
instance : TyI Try.prog 40 true 9 := ⟨Try.isAgg40, Try.sizeOf40⟩
instance : TyU Try.prog 40 (Go.TypeDesc.struct #[{ name := "Kind", type := 3, offset := 0, embedded := false, tag := "", pkgPath := "", byteOffset := 0 }, { name := "No", type := 3, offset := 1, embedded := false, tag := "", pkgPath := "", byteOffset := 8 }, { name := "Inode", type := 39, offset := 2, embedded := false, tag := "", pkgPath := "", byteOffset := 16 }]) := ⟨Try.underlying40⟩
instance : TyB Try.prog 40 112 := TyB.of Try.type40 rfl
instance : TyZ Try.prog 40 (Go.Value.agg #[Go.Value.int Go.IntKind.i64 0, Go.Value.int Go.IntKind.i64 0, Go.Value.int Go.IntKind.i64 0, Go.Value.int Go.IntKind.i64 0, Go.Value.int Go.IntKind.i64 0, Go.Value.int Go.IntKind.i64 0, Go.Value.string { data := #[] }, Go.Value.slice none 0 0, Go.Value.slice none 0 0]) := ⟨Try.zeroValue40⟩
instance : TyV Try.prog 40 0 0 := ⟨_, _, Try.underlying40, rfl, rfl, Try.isAgg3⟩
instance : TyF Try.prog 40 0 0 := ⟨_, _, Try.underlying40, rfl, rfl, fun w => ⟨_, Try.sizeOf3 w, by decide⟩⟩
instance : TyV Try.prog 40 1 1 := ⟨_, _, Try.underlying40, rfl, rfl, Try.isAgg3⟩
instance : TyF Try.prog 40 1 1 := ⟨_, _, Try.underlying40, rfl, rfl, fun w => ⟨_, Try.sizeOf3 w, by decide⟩⟩
instance : TyF Try.prog 40 2 2 := ⟨_, _, Try.underlying40, rfl, rfl, fun w => ⟨_, Try.sizeOf39 w, by decide⟩⟩
instance : TyS Try.prog 40 [(0, 1), (1, 1), (2, 7)] [Go.Value.int Go.IntKind.i64 0, Go.Value.int Go.IntKind.i64 0, Go.Value.int Go.IntKind.i64 0, Go.Value.int Go.IntKind.i64 0, Go.Value.int Go.IntKind.i64 0, Go.Value.int Go.IntKind.i64 0, Go.Value.string { data := #[] }, Go.Value.slice none 0 0, Go.Value.slice none 0 0] := TyS.mk' Try.underlying40 Try.zeroValue40 (fun w => by simp)
instance : TyI Try.prog 41 true 9 := ⟨Try.isAgg41, Try.sizeOf41⟩
instance : TyU Try.prog 41 (Go.TypeDesc.struct #[{ name := "Kind", type := 3, offset := 0, embedded := false, tag := "", pkgPath := "", byteOffset := 0 }, { name := "No", type := 3, offset := 1, embedded := false, tag := "", pkgPath := "", byteOffset := 8 }, { name := "Inode", type := 39, offset := 2, embedded := false, tag := "", pkgPath := "", byteOffset := 16 }]) := ⟨Try.underlying41⟩
instance : TyB Try.prog 41 112 := TyB.of Try.type41 rfl
instance : TyZ Try.prog 41 (Go.Value.agg #[Go.Value.int Go.IntKind.i64 0, Go.Value.int Go.IntKind.i64 0, Go.Value.int Go.IntKind.i64 0, Go.Value.int Go.IntKind.i64 0, Go.Value.int Go.IntKind.i64 0, Go.Value.int Go.IntKind.i64 0, Go.Value.string { data := #[] }, Go.Value.slice none 0 0, Go.Value.slice none 0 0]) := ⟨Try.zeroValue41⟩
instance : TyV Try.prog 41 0 0 := ⟨_, _, Try.underlying41, rfl, rfl, Try.isAgg3⟩
instance : TyF Try.prog 41 0 0 := ⟨_, _, Try.underlying41, rfl, rfl, fun w => ⟨_, Try.sizeOf3 w, by decide⟩⟩
instance : TyV Try.prog 41 1 1 := ⟨_, _, Try.underlying41, rfl, rfl, Try.isAgg3⟩
instance : TyF Try.prog 41 1 1 := ⟨_, _, Try.underlying41, rfl, rfl, fun w => ⟨_, Try.sizeOf3 w, by decide⟩⟩
instance : TyF Try.prog 41 2 2 := ⟨_, _, Try.underlying41, rfl, rfl, fun w => ⟨_, Try.sizeOf39 w, by decide⟩⟩
instance : TyS Try.prog 41 [(0, 1), (1, 1), (2, 7)] [Go.Value.int Go.IntKind.i64 0, Go.Value.int Go.IntKind.i64 0, Go.Value.int Go.IntKind.i64 0, Go.Value.int Go.IntKind.i64 0, Go.Value.int Go.IntKind.i64 0, Go.Value.int Go.IntKind.i64 0, Go.Value.string { data := #[] }, Go.Value.slice none 0 0, Go.Value.slice none 0 0] := TyS.mk' Try.underlying41 Try.zeroValue41 (fun w => by simp)
instance : TyI Try.prog 42 false 1 := ⟨Try.isAgg42, Try.sizeOf42⟩
instance : TyU Try.prog 42 (Go.TypeDesc.slice 41) := ⟨Try.underlying42⟩
instance : TyB Try.prog 42 24 := TyB.of Try.type42 rfl
instance : TyZ Try.prog 42 (Go.Value.slice none 0 0) := ⟨Try.zeroValue42⟩
instance : TyI Try.prog 43 false 1 := ⟨Try.isAgg43, Try.sizeOf43⟩
instance : TyU Try.prog 43 (Go.TypeDesc.func #[47, 23, 42] #[4] false) := ⟨Try.underlying43⟩
instance : TyB Try.prog 43 8 := TyB.of Try.type43 rfl
instance : TyZ Try.prog 43 Go.Value.nilFunc := ⟨Try.zeroValue43⟩
instance : TyI Try.prog 44 false 1 := ⟨Try.isAgg44, Try.sizeOf44⟩
instance : TyU Try.prog 44 (Go.TypeDesc.slice 39) := ⟨Try.underlying44⟩
instance : TyB Try.prog 44 24 := TyB.of Try.type44 rfl
instance : TyZ Try.prog 44 (Go.Value.slice none 0 0) := ⟨Try.zeroValue44⟩
instance : TyI Try.prog 45 false 1 := ⟨Try.isAgg45, Try.sizeOf45⟩
instance : TyU Try.prog 45 (Go.TypeDesc.slice 3) := ⟨Try.underlying45⟩
instance : TyB Try.prog 45 24 := TyB.of Try.type45 rfl
instance : TyZ Try.prog 45 (Go.Value.slice none 0 0) := ⟨Try.zeroValue45⟩
instance : TyI Try.prog 46 true 3 := ⟨Try.isAgg46, Try.sizeOf46⟩
instance : TyU Try.prog 46 (Go.TypeDesc.struct #[{ name := "Next", type := 3, offset := 0, embedded := false, tag := "", pkgPath := "", byteOffset := 0 }, { name := "Inodes", type := 44, offset := 1, embedded := false, tag := "", pkgPath := "", byteOffset := 8 }, { name := "Bad", type := 45, offset := 2, embedded := false, tag := "", pkgPath := "", byteOffset := 32 }]) := ⟨Try.underlying46⟩
instance : TyB Try.prog 46 56 := TyB.of Try.type46 rfl
instance : TyZ Try.prog 46 (Go.Value.agg #[Go.Value.int Go.IntKind.i64 0, Go.Value.slice none 0 0, Go.Value.slice none 0 0]) := ⟨Try.zeroValue46⟩
instance : TyV Try.prog 46 0 0 := ⟨_, _, Try.underlying46, rfl, rfl, Try.isAgg3⟩
instance : TyF Try.prog 46 0 0 := ⟨_, _, Try.underlying46, rfl, rfl, fun w => ⟨_, Try.sizeOf3 w, by decide⟩⟩
instance : TyV Try.prog 46 1 1 := ⟨_, _, Try.underlying46, rfl, rfl, Try.isAgg44⟩
instance : TyF Try.prog 46 1 1 := ⟨_, _, Try.underlying46, rfl, rfl, fun w => ⟨_, Try.sizeOf44 w, by decide⟩⟩
instance : TyV Try.prog 46 2 2 := ⟨_, _, Try.underlying46, rfl, rfl, Try.isAgg45⟩
instance : TyF Try.prog 46 2 2 := ⟨_, _, Try.underlying46, rfl, rfl, fun w => ⟨_, Try.sizeOf45 w, by decide⟩⟩
instance : TyS Try.prog 46 [(0, 1), (1, 1), (2, 1)] [Go.Value.int Go.IntKind.i64 0, Go.Value.slice none 0 0, Go.Value.slice none 0 0] := TyS.mk' Try.underlying46 Try.zeroValue46 (fun w => by simp)
instance : TyI Try.prog 47 true 3 := ⟨Try.isAgg47, Try.sizeOf47⟩
instance : TyU Try.prog 47 (Go.TypeDesc.struct #[{ name := "Next", type := 3, offset := 0, embedded := false, tag := "", pkgPath := "", byteOffset := 0 }, { name := "Inodes", type := 44, offset := 1, embedded := false, tag := "", pkgPath := "", byteOffset := 8 }, { name := "Bad", type := 45, offset := 2, embedded := false, tag := "", pkgPath := "", byteOffset := 32 }]) := ⟨Try.underlying47⟩
instance : TyB Try.prog 47 56 := TyB.of Try.type47 rfl
instance : TyZ Try.prog 47 (Go.Value.agg #[Go.Value.int Go.IntKind.i64 0, Go.Value.slice none 0 0, Go.Value.slice none 0 0]) := ⟨Try.zeroValue47⟩
instance : TyV Try.prog 47 0 0 := ⟨_, _, Try.underlying47, rfl, rfl, Try.isAgg3⟩
instance : TyF Try.prog 47 0 0 := ⟨_, _, Try.underlying47, rfl, rfl, fun w => ⟨_, Try.sizeOf3 w, by decide⟩⟩
instance : TyV Try.prog 47 1 1 := ⟨_, _, Try.underlying47, rfl, rfl, Try.isAgg44⟩
instance : TyF Try.prog 47 1 1 := ⟨_, _, Try.underlying47, rfl, rfl, fun w => ⟨_, Try.sizeOf44 w, by decide⟩⟩
instance : TyV Try.prog 47 2 2 := ⟨_, _, Try.underlying47, rfl, rfl, Try.isAgg45⟩
instance : TyF Try.prog 47 2 2 := ⟨_, _, Try.underlying47, rfl, rfl, fun w => ⟨_, Try.sizeOf45 w, by decide⟩⟩
instance : TyS Try.prog 47 [(0, 1), (1, 1), (2, 1)] [Go.Value.int Go.IntKind.i64 0, Go.Value.slice none 0 0, Go.Value.slice none 0 0] := TyS.mk' Try.underlying47 Try.zeroValue47 (fun w => by simp)
instance : TyI Try.prog 48 false 1 := ⟨Try.isAgg48, Try.sizeOf48⟩
instance : TyU Try.prog 48 (Go.TypeDesc.func #[] #[47] false) := ⟨Try.underlying48⟩
instance : TyB Try.prog 48 8 := TyB.of Try.type48 rfl
instance : TyZ Try.prog 48 Go.Value.nilFunc := ⟨Try.zeroValue48⟩
instance : TyI Try.prog 49 false 1 := ⟨Try.isAgg49, Try.sizeOf49⟩
instance : TyU Try.prog 49 (Go.TypeDesc.func #[42] #[27] false) := ⟨Try.underlying49⟩
instance : TyB Try.prog 49 8 := TyB.of Try.type49 rfl
instance : TyZ Try.prog 49 Go.Value.nilFunc := ⟨Try.zeroValue49⟩
instance : TyI Try.prog 50 false 1 := ⟨Try.isAgg50, Try.sizeOf50⟩
instance : TyU Try.prog 50 (Go.TypeDesc.func #[23, 3, 3] #[4] false) := ⟨Try.underlying50⟩
instance : TyB Try.prog 50 8 := TyB.of Try.type50 rfl
instance : TyZ Try.prog 50 Go.Value.nilFunc := ⟨Try.zeroValue50⟩
instance : TyI Try.prog 51 false 1 := ⟨Try.isAgg51, Try.sizeOf51⟩
instance : TyU Try.prog 51 (Go.TypeDesc.func #[3, 3] #[3] false) := ⟨Try.underlying51⟩
instance : TyB Try.prog 51 8 := TyB.of Try.type51 rfl
instance : TyZ Try.prog 51 Go.Value.nilFunc := ⟨Try.zeroValue51⟩
instance : TyI Try.prog 52 false 1 := ⟨Try.isAgg52, Try.sizeOf52⟩
instance : TyU Try.prog 52 (Go.TypeDesc.func #[23] #[4] false) := ⟨Try.underlying52⟩
instance : TyB Try.prog 52 8 := TyB.of Try.type52 rfl
instance : TyZ Try.prog 52 Go.Value.nilFunc := ⟨Try.zeroValue52⟩
instance : TyI Try.prog 53 false 1 := ⟨Try.isAgg53, Try.sizeOf53⟩
instance : TyU Try.prog 53 (Go.TypeDesc.slice 5) := ⟨Try.underlying53⟩
instance : TyB Try.prog 53 24 := TyB.of Try.type53 rfl
instance : TyZ Try.prog 53 (Go.Value.slice none 0 0) := ⟨Try.zeroValue53⟩
instance : TyI Try.prog 54 false 1 := ⟨Try.isAgg54, Try.sizeOf54⟩
instance : TyU Try.prog 54 (Go.TypeDesc.func #[53, 3] #[53] false) := ⟨Try.underlying54⟩
instance : TyB Try.prog 54 8 := TyB.of Try.type54 rfl
instance : TyZ Try.prog 54 Go.Value.nilFunc := ⟨Try.zeroValue54⟩
instance : TyI Try.prog 55 false 1 := ⟨Try.isAgg55, Try.sizeOf55⟩
instance : TyU Try.prog 55 (Go.TypeDesc.map 106 3) := ⟨Try.underlying55⟩
instance : TyB Try.prog 55 8 := TyB.of Try.type55 rfl
instance : TyZ Try.prog 55 (Go.Value.map none) := ⟨Try.zeroValue55⟩
instance : TyI Try.prog 56 true 8 := ⟨Try.isAgg56, Try.sizeOf56⟩
instance : TyU Try.prog 56 (Go.TypeDesc.struct #[{ name := "g", type := 23, offset := 0, embedded := false, tag := "", pkgPath := "garret/nor", byteOffset := 0 }, { name := "p", type := 30, offset := 5, embedded := false, tag := "", pkgPath := "garret/nor", byteOffset := 40 }, { name := "b", type := 53, offset := 6, embedded := false, tag := "", pkgPath := "garret/nor", byteOffset := 48 }, { name := "erases", type := 55, offset := 7, embedded := false, tag := "", pkgPath := "garret/nor", byteOffset := 72 }]) := ⟨Try.underlying56⟩
instance : TyB Try.prog 56 80 := TyB.of Try.type56 rfl
instance : TyZ Try.prog 56 (Go.Value.agg #[Go.Value.int Go.IntKind.i64 0, Go.Value.int Go.IntKind.i64 0, Go.Value.int Go.IntKind.i64 0, Go.Value.int Go.IntKind.i64 0, Go.Value.int Go.IntKind.i64 0, Go.Value.pointer none, Go.Value.slice none 0 0, Go.Value.map none]) := ⟨Try.zeroValue56⟩
instance : TyF Try.prog 56 0 0 := ⟨_, _, Try.underlying56, rfl, rfl, fun w => ⟨_, Try.sizeOf23 w, by decide⟩⟩
instance : TyV Try.prog 56 1 5 := ⟨_, _, Try.underlying56, rfl, rfl, Try.isAgg30⟩
instance : TyF Try.prog 56 1 5 := ⟨_, _, Try.underlying56, rfl, rfl, fun w => ⟨_, Try.sizeOf30 w, by decide⟩⟩
instance : TyV Try.prog 56 2 6 := ⟨_, _, Try.underlying56, rfl, rfl, Try.isAgg53⟩
instance : TyF Try.prog 56 2 6 := ⟨_, _, Try.underlying56, rfl, rfl, fun w => ⟨_, Try.sizeOf53 w, by decide⟩⟩
instance : TyV Try.prog 56 3 7 := ⟨_, _, Try.underlying56, rfl, rfl, Try.isAgg55⟩
instance : TyF Try.prog 56 3 7 := ⟨_, _, Try.underlying56, rfl, rfl, fun w => ⟨_, Try.sizeOf55 w, by decide⟩⟩
instance : TyS Try.prog 56 [(0, 5), (5, 1), (6, 1), (7, 1)] [Go.Value.int Go.IntKind.i64 0, Go.Value.int Go.IntKind.i64 0, Go.Value.int Go.IntKind.i64 0, Go.Value.int Go.IntKind.i64 0, Go.Value.int Go.IntKind.i64 0, Go.Value.pointer none, Go.Value.slice none 0 0, Go.Value.map none] := TyS.mk' Try.underlying56 Try.zeroValue56 (fun w => by simp)
instance : TyI Try.prog 57 true 8 := ⟨Try.isAgg57, Try.sizeOf57⟩
instance : TyU Try.prog 57 (Go.TypeDesc.struct #[{ name := "g", type := 23, offset := 0, embedded := false, tag := "", pkgPath := "garret/nor", byteOffset := 0 }, { name := "p", type := 30, offset := 5, embedded := false, tag := "", pkgPath := "garret/nor", byteOffset := 40 }, { name := "b", type := 53, offset := 6, embedded := false, tag := "", pkgPath := "garret/nor", byteOffset := 48 }, { name := "erases", type := 55, offset := 7, embedded := false, tag := "", pkgPath := "garret/nor", byteOffset := 72 }]) := ⟨Try.underlying57⟩
instance : TyB Try.prog 57 80 := TyB.of Try.type57 rfl
instance : TyZ Try.prog 57 (Go.Value.agg #[Go.Value.int Go.IntKind.i64 0, Go.Value.int Go.IntKind.i64 0, Go.Value.int Go.IntKind.i64 0, Go.Value.int Go.IntKind.i64 0, Go.Value.int Go.IntKind.i64 0, Go.Value.pointer none, Go.Value.slice none 0 0, Go.Value.map none]) := ⟨Try.zeroValue57⟩
instance : TyF Try.prog 57 0 0 := ⟨_, _, Try.underlying57, rfl, rfl, fun w => ⟨_, Try.sizeOf23 w, by decide⟩⟩
instance : TyV Try.prog 57 1 5 := ⟨_, _, Try.underlying57, rfl, rfl, Try.isAgg30⟩
instance : TyF Try.prog 57 1 5 := ⟨_, _, Try.underlying57, rfl, rfl, fun w => ⟨_, Try.sizeOf30 w, by decide⟩⟩
instance : TyV Try.prog 57 2 6 := ⟨_, _, Try.underlying57, rfl, rfl, Try.isAgg53⟩
instance : TyF Try.prog 57 2 6 := ⟨_, _, Try.underlying57, rfl, rfl, fun w => ⟨_, Try.sizeOf53 w, by decide⟩⟩
instance : TyV Try.prog 57 3 7 := ⟨_, _, Try.underlying57, rfl, rfl, Try.isAgg55⟩
instance : TyF Try.prog 57 3 7 := ⟨_, _, Try.underlying57, rfl, rfl, fun w => ⟨_, Try.sizeOf55 w, by decide⟩⟩
instance : TyS Try.prog 57 [(0, 5), (5, 1), (6, 1), (7, 1)] [Go.Value.int Go.IntKind.i64 0, Go.Value.int Go.IntKind.i64 0, Go.Value.int Go.IntKind.i64 0, Go.Value.int Go.IntKind.i64 0, Go.Value.int Go.IntKind.i64 0, Go.Value.pointer none, Go.Value.slice none 0 0, Go.Value.map none] := TyS.mk' Try.underlying57 Try.zeroValue57 (fun w => by simp)
instance : TyI Try.prog 58 false 1 := ⟨Try.isAgg58, Try.sizeOf58⟩
instance : TyU Try.prog 58 (Go.TypeDesc.map 152 3) := ⟨Try.underlying58⟩
instance : TyB Try.prog 58 8 := TyB.of Try.type58 rfl
instance : TyZ Try.prog 58 (Go.Value.map none) := ⟨Try.zeroValue58⟩
instance : TyI Try.prog 59 true 5 := ⟨Try.isAgg59, Try.sizeOf59⟩
instance : TyU Try.prog 59 (Go.TypeDesc.struct #[{ name := "left", type := 3, offset := 0, embedded := false, tag := "", pkgPath := "garret/power", byteOffset := 0 }, { name := "mask", type := 5, offset := 1, embedded := false, tag := "", pkgPath := "garret/power", byteOffset := 8 }, { name := "off", type := 4, offset := 2, embedded := false, tag := "", pkgPath := "garret/power", byteOffset := 9 }, { name := "fails", type := 58, offset := 3, embedded := false, tag := "", pkgPath := "garret/power", byteOffset := 16 }, { name := "done", type := 3, offset := 4, embedded := false, tag := "", pkgPath := "garret/power", byteOffset := 24 }]) := ⟨Try.underlying59⟩
instance : TyB Try.prog 59 32 := TyB.of Try.type59 rfl
instance : TyZ Try.prog 59 (Go.Value.agg #[Go.Value.int Go.IntKind.i64 0, Go.Value.int Go.IntKind.u8 0, Go.Value.bool false, Go.Value.map none, Go.Value.int Go.IntKind.i64 0]) := ⟨Try.zeroValue59⟩
instance : TyV Try.prog 59 0 0 := ⟨_, _, Try.underlying59, rfl, rfl, Try.isAgg3⟩
instance : TyF Try.prog 59 0 0 := ⟨_, _, Try.underlying59, rfl, rfl, fun w => ⟨_, Try.sizeOf3 w, by decide⟩⟩
instance : TyV Try.prog 59 1 1 := ⟨_, _, Try.underlying59, rfl, rfl, Try.isAgg5⟩
instance : TyF Try.prog 59 1 1 := ⟨_, _, Try.underlying59, rfl, rfl, fun w => ⟨_, Try.sizeOf5 w, by decide⟩⟩
instance : TyV Try.prog 59 2 2 := ⟨_, _, Try.underlying59, rfl, rfl, Try.isAgg4⟩
instance : TyF Try.prog 59 2 2 := ⟨_, _, Try.underlying59, rfl, rfl, fun w => ⟨_, Try.sizeOf4 w, by decide⟩⟩
instance : TyV Try.prog 59 3 3 := ⟨_, _, Try.underlying59, rfl, rfl, Try.isAgg58⟩
instance : TyF Try.prog 59 3 3 := ⟨_, _, Try.underlying59, rfl, rfl, fun w => ⟨_, Try.sizeOf58 w, by decide⟩⟩
instance : TyV Try.prog 59 4 4 := ⟨_, _, Try.underlying59, rfl, rfl, Try.isAgg3⟩
instance : TyF Try.prog 59 4 4 := ⟨_, _, Try.underlying59, rfl, rfl, fun w => ⟨_, Try.sizeOf3 w, by decide⟩⟩
instance : TyS Try.prog 59 [(0, 1), (1, 1), (2, 1), (3, 1), (4, 1)] [Go.Value.int Go.IntKind.i64 0, Go.Value.int Go.IntKind.u8 0, Go.Value.bool false, Go.Value.map none, Go.Value.int Go.IntKind.i64 0] := TyS.mk' Try.underlying59 Try.zeroValue59 (fun w => by simp)
instance : TyI Try.prog 60 true 5 := ⟨Try.isAgg60, Try.sizeOf60⟩
instance : TyU Try.prog 60 (Go.TypeDesc.struct #[{ name := "left", type := 3, offset := 0, embedded := false, tag := "", pkgPath := "garret/power", byteOffset := 0 }, { name := "mask", type := 5, offset := 1, embedded := false, tag := "", pkgPath := "garret/power", byteOffset := 8 }, { name := "off", type := 4, offset := 2, embedded := false, tag := "", pkgPath := "garret/power", byteOffset := 9 }, { name := "fails", type := 58, offset := 3, embedded := false, tag := "", pkgPath := "garret/power", byteOffset := 16 }, { name := "done", type := 3, offset := 4, embedded := false, tag := "", pkgPath := "garret/power", byteOffset := 24 }]) := ⟨Try.underlying60⟩
instance : TyB Try.prog 60 32 := TyB.of Try.type60 rfl
instance : TyZ Try.prog 60 (Go.Value.agg #[Go.Value.int Go.IntKind.i64 0, Go.Value.int Go.IntKind.u8 0, Go.Value.bool false, Go.Value.map none, Go.Value.int Go.IntKind.i64 0]) := ⟨Try.zeroValue60⟩
instance : TyV Try.prog 60 0 0 := ⟨_, _, Try.underlying60, rfl, rfl, Try.isAgg3⟩
instance : TyF Try.prog 60 0 0 := ⟨_, _, Try.underlying60, rfl, rfl, fun w => ⟨_, Try.sizeOf3 w, by decide⟩⟩
instance : TyV Try.prog 60 1 1 := ⟨_, _, Try.underlying60, rfl, rfl, Try.isAgg5⟩
instance : TyF Try.prog 60 1 1 := ⟨_, _, Try.underlying60, rfl, rfl, fun w => ⟨_, Try.sizeOf5 w, by decide⟩⟩
instance : TyV Try.prog 60 2 2 := ⟨_, _, Try.underlying60, rfl, rfl, Try.isAgg4⟩
instance : TyF Try.prog 60 2 2 := ⟨_, _, Try.underlying60, rfl, rfl, fun w => ⟨_, Try.sizeOf4 w, by decide⟩⟩
instance : TyV Try.prog 60 3 3 := ⟨_, _, Try.underlying60, rfl, rfl, Try.isAgg58⟩
instance : TyF Try.prog 60 3 3 := ⟨_, _, Try.underlying60, rfl, rfl, fun w => ⟨_, Try.sizeOf58 w, by decide⟩⟩
instance : TyV Try.prog 60 4 4 := ⟨_, _, Try.underlying60, rfl, rfl, Try.isAgg3⟩
instance : TyF Try.prog 60 4 4 := ⟨_, _, Try.underlying60, rfl, rfl, fun w => ⟨_, Try.sizeOf3 w, by decide⟩⟩
instance : TyS Try.prog 60 [(0, 1), (1, 1), (2, 1), (3, 1), (4, 1)] [Go.Value.int Go.IntKind.i64 0, Go.Value.int Go.IntKind.u8 0, Go.Value.bool false, Go.Value.map none, Go.Value.int Go.IntKind.i64 0] := TyS.mk' Try.underlying60 Try.zeroValue60 (fun w => by simp)
instance : TyI Try.prog 61 false 1 := ⟨Try.isAgg61, Try.sizeOf61⟩
instance : TyU Try.prog 61 (Go.TypeDesc.func #[26, 3] #[27] false) := ⟨Try.underlying61⟩
instance : TyB Try.prog 61 8 := TyB.of Try.type61 rfl
instance : TyZ Try.prog 61 Go.Value.nilFunc := ⟨Try.zeroValue61⟩
instance : TyI Try.prog 62 true 8 := ⟨Try.isAgg62, Try.sizeOf62⟩
instance : TyU Try.prog 62 (Go.TypeDesc.struct #[{ name := "c", type := 26, offset := 0, embedded := false, tag := "", pkgPath := "garret/journal", byteOffset := 0 }, { name := "half", type := 3, offset := 1, embedded := false, tag := "", pkgPath := "garret/journal", byteOffset := 8 }, { name := "epoch", type := 3, offset := 2, embedded := false, tag := "", pkgPath := "garret/journal", byteOffset := 16 }, { name := "used", type := 3, offset := 3, embedded := false, tag := "", pkgPath := "garret/journal", byteOffset := 24 }, { name := "s", type := 47, offset := 4, embedded := false, tag := "", pkgPath := "garret/journal", byteOffset := 32 }, { name := "ended", type := 4, offset := 7, embedded := false, tag := "", pkgPath := "garret/journal", byteOffset := 88 }]) := ⟨Try.underlying62⟩
instance : TyB Try.prog 62 96 := TyB.of Try.type62 rfl
instance : TyZ Try.prog 62 (Go.Value.agg #[Go.Value.pointer none, Go.Value.int Go.IntKind.i64 0, Go.Value.int Go.IntKind.i64 0, Go.Value.int Go.IntKind.i64 0, Go.Value.int Go.IntKind.i64 0, Go.Value.slice none 0 0, Go.Value.slice none 0 0, Go.Value.bool false]) := ⟨Try.zeroValue62⟩
instance : TyV Try.prog 62 0 0 := ⟨_, _, Try.underlying62, rfl, rfl, Try.isAgg26⟩
instance : TyF Try.prog 62 0 0 := ⟨_, _, Try.underlying62, rfl, rfl, fun w => ⟨_, Try.sizeOf26 w, by decide⟩⟩
instance : TyV Try.prog 62 1 1 := ⟨_, _, Try.underlying62, rfl, rfl, Try.isAgg3⟩
instance : TyF Try.prog 62 1 1 := ⟨_, _, Try.underlying62, rfl, rfl, fun w => ⟨_, Try.sizeOf3 w, by decide⟩⟩
instance : TyV Try.prog 62 2 2 := ⟨_, _, Try.underlying62, rfl, rfl, Try.isAgg3⟩
instance : TyF Try.prog 62 2 2 := ⟨_, _, Try.underlying62, rfl, rfl, fun w => ⟨_, Try.sizeOf3 w, by decide⟩⟩
instance : TyV Try.prog 62 3 3 := ⟨_, _, Try.underlying62, rfl, rfl, Try.isAgg3⟩
instance : TyF Try.prog 62 3 3 := ⟨_, _, Try.underlying62, rfl, rfl, fun w => ⟨_, Try.sizeOf3 w, by decide⟩⟩
instance : TyF Try.prog 62 4 4 := ⟨_, _, Try.underlying62, rfl, rfl, fun w => ⟨_, Try.sizeOf47 w, by decide⟩⟩
instance : TyV Try.prog 62 5 7 := ⟨_, _, Try.underlying62, rfl, rfl, Try.isAgg4⟩
instance : TyF Try.prog 62 5 7 := ⟨_, _, Try.underlying62, rfl, rfl, fun w => ⟨_, Try.sizeOf4 w, by decide⟩⟩
instance : TyS Try.prog 62 [(0, 1), (1, 1), (2, 1), (3, 1), (4, 3), (7, 1)] [Go.Value.pointer none, Go.Value.int Go.IntKind.i64 0, Go.Value.int Go.IntKind.i64 0, Go.Value.int Go.IntKind.i64 0, Go.Value.int Go.IntKind.i64 0, Go.Value.slice none 0 0, Go.Value.slice none 0 0, Go.Value.bool false] := TyS.mk' Try.underlying62 Try.zeroValue62 (fun w => by simp)
instance : TyI Try.prog 63 true 8 := ⟨Try.isAgg63, Try.sizeOf63⟩
instance : TyU Try.prog 63 (Go.TypeDesc.struct #[{ name := "c", type := 26, offset := 0, embedded := false, tag := "", pkgPath := "garret/journal", byteOffset := 0 }, { name := "half", type := 3, offset := 1, embedded := false, tag := "", pkgPath := "garret/journal", byteOffset := 8 }, { name := "epoch", type := 3, offset := 2, embedded := false, tag := "", pkgPath := "garret/journal", byteOffset := 16 }, { name := "used", type := 3, offset := 3, embedded := false, tag := "", pkgPath := "garret/journal", byteOffset := 24 }, { name := "s", type := 47, offset := 4, embedded := false, tag := "", pkgPath := "garret/journal", byteOffset := 32 }, { name := "ended", type := 4, offset := 7, embedded := false, tag := "", pkgPath := "garret/journal", byteOffset := 88 }]) := ⟨Try.underlying63⟩
instance : TyB Try.prog 63 96 := TyB.of Try.type63 rfl
instance : TyZ Try.prog 63 (Go.Value.agg #[Go.Value.pointer none, Go.Value.int Go.IntKind.i64 0, Go.Value.int Go.IntKind.i64 0, Go.Value.int Go.IntKind.i64 0, Go.Value.int Go.IntKind.i64 0, Go.Value.slice none 0 0, Go.Value.slice none 0 0, Go.Value.bool false]) := ⟨Try.zeroValue63⟩
instance : TyV Try.prog 63 0 0 := ⟨_, _, Try.underlying63, rfl, rfl, Try.isAgg26⟩
instance : TyF Try.prog 63 0 0 := ⟨_, _, Try.underlying63, rfl, rfl, fun w => ⟨_, Try.sizeOf26 w, by decide⟩⟩
instance : TyV Try.prog 63 1 1 := ⟨_, _, Try.underlying63, rfl, rfl, Try.isAgg3⟩
instance : TyF Try.prog 63 1 1 := ⟨_, _, Try.underlying63, rfl, rfl, fun w => ⟨_, Try.sizeOf3 w, by decide⟩⟩
instance : TyV Try.prog 63 2 2 := ⟨_, _, Try.underlying63, rfl, rfl, Try.isAgg3⟩
instance : TyF Try.prog 63 2 2 := ⟨_, _, Try.underlying63, rfl, rfl, fun w => ⟨_, Try.sizeOf3 w, by decide⟩⟩
instance : TyV Try.prog 63 3 3 := ⟨_, _, Try.underlying63, rfl, rfl, Try.isAgg3⟩
instance : TyF Try.prog 63 3 3 := ⟨_, _, Try.underlying63, rfl, rfl, fun w => ⟨_, Try.sizeOf3 w, by decide⟩⟩
instance : TyF Try.prog 63 4 4 := ⟨_, _, Try.underlying63, rfl, rfl, fun w => ⟨_, Try.sizeOf47 w, by decide⟩⟩
instance : TyV Try.prog 63 5 7 := ⟨_, _, Try.underlying63, rfl, rfl, Try.isAgg4⟩
instance : TyF Try.prog 63 5 7 := ⟨_, _, Try.underlying63, rfl, rfl, fun w => ⟨_, Try.sizeOf4 w, by decide⟩⟩
instance : TyS Try.prog 63 [(0, 1), (1, 1), (2, 1), (3, 1), (4, 3), (7, 1)] [Go.Value.pointer none, Go.Value.int Go.IntKind.i64 0, Go.Value.int Go.IntKind.i64 0, Go.Value.int Go.IntKind.i64 0, Go.Value.int Go.IntKind.i64 0, Go.Value.slice none 0 0, Go.Value.slice none 0 0, Go.Value.bool false] := TyS.mk' Try.underlying63 Try.zeroValue63 (fun w => by simp)
instance : TyI Try.prog 64 false 1 := ⟨Try.isAgg64, Try.sizeOf64⟩
instance : TyU Try.prog 64 (Go.TypeDesc.func #[3, 47] #[53] false) := ⟨Try.underlying64⟩
instance : TyB Try.prog 64 8 := TyB.of Try.type64 rfl
instance : TyZ Try.prog 64 Go.Value.nilFunc := ⟨Try.zeroValue64⟩
instance : TyI Try.prog 65 false 1 := ⟨Try.isAgg65, Try.sizeOf65⟩
instance : TyU Try.prog 65 (Go.TypeDesc.func #[26, 3, 3, 53] #[27] false) := ⟨Try.underlying65⟩
instance : TyB Try.prog 65 8 := TyB.of Try.type65 rfl
instance : TyZ Try.prog 65 Go.Value.nilFunc := ⟨Try.zeroValue65⟩
instance : TyI Try.prog 66 false 1 := ⟨Try.isAgg66, Try.sizeOf66⟩
instance : TyU Try.prog 66 (Go.TypeDesc.func #[3] #[3] false) := ⟨Try.underlying66⟩
instance : TyB Try.prog 66 8 := TyB.of Try.type66 rfl
instance : TyZ Try.prog 66 Go.Value.nilFunc := ⟨Try.zeroValue66⟩
instance : TyI Try.prog 67 true 3 := ⟨Try.isAgg67, Try.sizeOf67⟩
instance : TyU Try.prog 67 (Go.TypeDesc.struct #[{ name := "All", type := 3, offset := 0, embedded := false, tag := "", pkgPath := "", byteOffset := 0 }, { name := "Live", type := 3, offset := 1, embedded := false, tag := "", pkgPath := "", byteOffset := 8 }, { name := "Bad", type := 3, offset := 2, embedded := false, tag := "", pkgPath := "", byteOffset := 16 }]) := ⟨Try.underlying67⟩
instance : TyB Try.prog 67 24 := TyB.of Try.type67 rfl
instance : TyZ Try.prog 67 (Go.Value.agg #[Go.Value.int Go.IntKind.i64 0, Go.Value.int Go.IntKind.i64 0, Go.Value.int Go.IntKind.i64 0]) := ⟨Try.zeroValue67⟩
instance : TyV Try.prog 67 0 0 := ⟨_, _, Try.underlying67, rfl, rfl, Try.isAgg3⟩
instance : TyF Try.prog 67 0 0 := ⟨_, _, Try.underlying67, rfl, rfl, fun w => ⟨_, Try.sizeOf3 w, by decide⟩⟩
instance : TyV Try.prog 67 1 1 := ⟨_, _, Try.underlying67, rfl, rfl, Try.isAgg3⟩
instance : TyF Try.prog 67 1 1 := ⟨_, _, Try.underlying67, rfl, rfl, fun w => ⟨_, Try.sizeOf3 w, by decide⟩⟩
instance : TyV Try.prog 67 2 2 := ⟨_, _, Try.underlying67, rfl, rfl, Try.isAgg3⟩
instance : TyF Try.prog 67 2 2 := ⟨_, _, Try.underlying67, rfl, rfl, fun w => ⟨_, Try.sizeOf3 w, by decide⟩⟩
instance : TyS Try.prog 67 [(0, 1), (1, 1), (2, 1)] [Go.Value.int Go.IntKind.i64 0, Go.Value.int Go.IntKind.i64 0, Go.Value.int Go.IntKind.i64 0] := TyS.mk' Try.underlying67 Try.zeroValue67 (fun w => by simp)
instance : TyI Try.prog 68 true 3 := ⟨Try.isAgg68, Try.sizeOf68⟩
instance : TyU Try.prog 68 (Go.TypeDesc.struct #[{ name := "All", type := 3, offset := 0, embedded := false, tag := "", pkgPath := "", byteOffset := 0 }, { name := "Live", type := 3, offset := 1, embedded := false, tag := "", pkgPath := "", byteOffset := 8 }, { name := "Bad", type := 3, offset := 2, embedded := false, tag := "", pkgPath := "", byteOffset := 16 }]) := ⟨Try.underlying68⟩
instance : TyB Try.prog 68 24 := TyB.of Try.type68 rfl
instance : TyZ Try.prog 68 (Go.Value.agg #[Go.Value.int Go.IntKind.i64 0, Go.Value.int Go.IntKind.i64 0, Go.Value.int Go.IntKind.i64 0]) := ⟨Try.zeroValue68⟩
instance : TyV Try.prog 68 0 0 := ⟨_, _, Try.underlying68, rfl, rfl, Try.isAgg3⟩
instance : TyF Try.prog 68 0 0 := ⟨_, _, Try.underlying68, rfl, rfl, fun w => ⟨_, Try.sizeOf3 w, by decide⟩⟩
instance : TyV Try.prog 68 1 1 := ⟨_, _, Try.underlying68, rfl, rfl, Try.isAgg3⟩
instance : TyF Try.prog 68 1 1 := ⟨_, _, Try.underlying68, rfl, rfl, fun w => ⟨_, Try.sizeOf3 w, by decide⟩⟩
instance : TyV Try.prog 68 2 2 := ⟨_, _, Try.underlying68, rfl, rfl, Try.isAgg3⟩
instance : TyF Try.prog 68 2 2 := ⟨_, _, Try.underlying68, rfl, rfl, fun w => ⟨_, Try.sizeOf3 w, by decide⟩⟩
instance : TyS Try.prog 68 [(0, 1), (1, 1), (2, 1)] [Go.Value.int Go.IntKind.i64 0, Go.Value.int Go.IntKind.i64 0, Go.Value.int Go.IntKind.i64 0] := TyS.mk' Try.underlying68 Try.zeroValue68 (fun w => by simp)
instance : TyI Try.prog 69 false 1 := ⟨Try.isAgg69, Try.sizeOf69⟩
instance : TyU Try.prog 69 (Go.TypeDesc.func #[47, 23] #[68] false) := ⟨Try.underlying69⟩
instance : TyB Try.prog 69 8 := TyB.of Try.type69 rfl
instance : TyZ Try.prog 69 Go.Value.nilFunc := ⟨Try.zeroValue69⟩
instance : TyI Try.prog 70 false 1 := ⟨Try.isAgg70, Try.sizeOf70⟩
instance : TyU Try.prog 70 (Go.TypeDesc.func #[] #[23] false) := ⟨Try.underlying70⟩
instance : TyB Try.prog 70 8 := TyB.of Try.type70 rfl
instance : TyZ Try.prog 70 Go.Value.nilFunc := ⟨Try.zeroValue70⟩
instance : TyI Try.prog 71 false 1 := ⟨Try.isAgg71, Try.sizeOf71⟩
instance : TyU Try.prog 71 (Go.TypeDesc.func #[47, 23, 3] #[4] false) := ⟨Try.underlying71⟩
instance : TyB Try.prog 71 8 := TyB.of Try.type71 rfl
instance : TyZ Try.prog 71 Go.Value.nilFunc := ⟨Try.zeroValue71⟩
instance : TyI Try.prog 72 false 1 := ⟨Try.isAgg72, Try.sizeOf72⟩
instance : TyU Try.prog 72 (Go.TypeDesc.func #[42] #[53] false) := ⟨Try.underlying72⟩
instance : TyB Try.prog 72 8 := TyB.of Try.type72 rfl
instance : TyZ Try.prog 72 Go.Value.nilFunc := ⟨Try.zeroValue72⟩
instance : TyI Try.prog 73 false 1 := ⟨Try.isAgg73, Try.sizeOf73⟩
instance : TyU Try.prog 73 (Go.TypeDesc.func #[47] #[42] false) := ⟨Try.underlying73⟩
instance : TyB Try.prog 73 8 := TyB.of Try.type73 rfl
instance : TyZ Try.prog 73 Go.Value.nilFunc := ⟨Try.zeroValue73⟩
instance : TyI Try.prog 74 false 1 := ⟨Try.isAgg74, Try.sizeOf74⟩
instance : TyU Try.prog 74 (Go.TypeDesc.func #[47, 42] #[47] false) := ⟨Try.underlying74⟩
instance : TyB Try.prog 74 8 := TyB.of Try.type74 rfl
instance : TyZ Try.prog 74 Go.Value.nilFunc := ⟨Try.zeroValue74⟩
instance : TyI Try.prog 75 false 1 := ⟨Try.isAgg75, Try.sizeOf75⟩
instance : TyU Try.prog 75 (Go.TypeDesc.func #[23] #[3] false) := ⟨Try.underlying75⟩
instance : TyB Try.prog 75 8 := TyB.of Try.type75 rfl
instance : TyZ Try.prog 75 Go.Value.nilFunc := ⟨Try.zeroValue75⟩
instance : TyI Try.prog 76 false 1 := ⟨Try.isAgg76, Try.sizeOf76⟩
instance : TyU Try.prog 76 (Go.TypeDesc.func #[] #[3] false) := ⟨Try.underlying76⟩
instance : TyB Try.prog 76 8 := TyB.of Try.type76 rfl
instance : TyZ Try.prog 76 Go.Value.nilFunc := ⟨Try.zeroValue76⟩
instance : TyI Try.prog 77 false 1 := ⟨Try.isAgg77, Try.sizeOf77⟩
instance : TyU Try.prog 77 (Go.TypeDesc.func #[47] #[27] false) := ⟨Try.underlying77⟩
instance : TyB Try.prog 77 8 := TyB.of Try.type77 rfl
instance : TyZ Try.prog 77 Go.Value.nilFunc := ⟨Try.zeroValue77⟩
instance : TyI Try.prog 78 false 1 := ⟨Try.isAgg78, Try.sizeOf78⟩
instance : TyU Try.prog 78 (Go.TypeDesc.func #[3, 3, 3] #[4] false) := ⟨Try.underlying78⟩
instance : TyB Try.prog 78 8 := TyB.of Try.type78 rfl
instance : TyZ Try.prog 78 Go.Value.nilFunc := ⟨Try.zeroValue78⟩
instance : TyI Try.prog 79 false 1 := ⟨Try.isAgg79, Try.sizeOf79⟩
instance : TyU Try.prog 79 (Go.TypeDesc.tuple #[25, 25]) := ⟨Try.underlying79⟩
instance : TyB Try.prog 79 0 := TyB.of Try.type79 rfl
instance : TyI Try.prog 80 false 1 := ⟨Try.isAgg80, Try.sizeOf80⟩
instance : TyU Try.prog 80 (Go.TypeDesc.func #[25, 25] #[25, 25] false) := ⟨Try.underlying80⟩
instance : TyB Try.prog 80 8 := TyB.of Try.type80 rfl
instance : TyZ Try.prog 80 Go.Value.nilFunc := ⟨Try.zeroValue80⟩
instance : TyI Try.prog 81 false 1 := ⟨Try.isAgg81, Try.sizeOf81⟩
instance : TyU Try.prog 81 (Go.TypeDesc.func #[3] #[53] false) := ⟨Try.underlying81⟩
instance : TyB Try.prog 81 8 := TyB.of Try.type81 rfl
instance : TyZ Try.prog 81 Go.Value.nilFunc := ⟨Try.zeroValue81⟩
instance : TyI Try.prog 82 false 1 := ⟨Try.isAgg82, Try.sizeOf82⟩
instance : TyU Try.prog 82 (Go.TypeDesc.func #[3] #[27] false) := ⟨Try.underlying82⟩
instance : TyB Try.prog 82 8 := TyB.of Try.type82 rfl
instance : TyZ Try.prog 82 Go.Value.nilFunc := ⟨Try.zeroValue82⟩
instance : TyI Try.prog 83 false 1 := ⟨Try.isAgg83, Try.sizeOf83⟩
instance : TyU Try.prog 83 (Go.TypeDesc.func #[3, 3, 9] #[39] false) := ⟨Try.underlying83⟩
instance : TyB Try.prog 83 8 := TyB.of Try.type83 rfl
instance : TyZ Try.prog 83 Go.Value.nilFunc := ⟨Try.zeroValue83⟩
instance : TyI Try.prog 84 false 1 := ⟨Try.isAgg84, Try.sizeOf84⟩
instance : TyU Try.prog 84 (Go.TypeDesc.tuple #[53, 27]) := ⟨Try.underlying84⟩
instance : TyB Try.prog 84 0 := TyB.of Try.type84 rfl
instance : TyI Try.prog 85 false 1 := ⟨Try.isAgg85, Try.sizeOf85⟩
instance : TyU Try.prog 85 (Go.TypeDesc.func #[53] #[53, 27] false) := ⟨Try.underlying85⟩
instance : TyB Try.prog 85 8 := TyB.of Try.type85 rfl
instance : TyZ Try.prog 85 Go.Value.nilFunc := ⟨Try.zeroValue85⟩
instance : TyI Try.prog 86 false 1 := ⟨Try.isAgg86, Try.sizeOf86⟩
instance : TyU Try.prog 86 (Go.TypeDesc.func #[3, 53] #[27] false) := ⟨Try.underlying86⟩
instance : TyB Try.prog 86 8 := TyB.of Try.type86 rfl
instance : TyZ Try.prog 86 Go.Value.nilFunc := ⟨Try.zeroValue86⟩
instance : TyI Try.prog 87 false 1 := ⟨Try.isAgg87, Try.sizeOf87⟩
instance : TyU Try.prog 87 (Go.TypeDesc.func #[37] #[3] false) := ⟨Try.underlying87⟩
instance : TyB Try.prog 87 8 := TyB.of Try.type87 rfl
instance : TyZ Try.prog 87 Go.Value.nilFunc := ⟨Try.zeroValue87⟩
instance : TyI Try.prog 88 false 1 := ⟨Try.isAgg88, Try.sizeOf88⟩
instance : TyU Try.prog 88 (Go.TypeDesc.func #[53, 89, 3] #[53] false) := ⟨Try.underlying88⟩
instance : TyB Try.prog 88 8 := TyB.of Try.type88 rfl
instance : TyZ Try.prog 88 Go.Value.nilFunc := ⟨Try.zeroValue88⟩
instance : TyI Try.prog 89 false 1 := ⟨Try.isAgg89, Try.sizeOf89⟩
instance : TyU Try.prog 89 (Go.TypeDesc.int Go.IntKind.u64) := ⟨Try.underlying89⟩
instance : TyB Try.prog 89 8 := TyB.of Try.type89 rfl
instance : TyZ Try.prog 89 (Go.Value.int Go.IntKind.u64 0) := ⟨Try.zeroValue89⟩
instance : TyI Try.prog 90 false 1 := ⟨Try.isAgg90, Try.sizeOf90⟩
instance : TyU Try.prog 90 (Go.TypeDesc.func #[53, 39] #[53] false) := ⟨Try.underlying90⟩
instance : TyB Try.prog 90 8 := TyB.of Try.type90 rfl
instance : TyZ Try.prog 90 Go.Value.nilFunc := ⟨Try.zeroValue90⟩
instance : TyI Try.prog 91 false 1 := ⟨Try.isAgg91, Try.sizeOf91⟩
instance : TyU Try.prog 91 (Go.TypeDesc.func #[39] #[39] false) := ⟨Try.underlying91⟩
instance : TyB Try.prog 91 8 := TyB.of Try.type91 rfl
instance : TyZ Try.prog 91 Go.Value.nilFunc := ⟨Try.zeroValue91⟩
instance : TyI Try.prog 92 false 1 := ⟨Try.isAgg92, Try.sizeOf92⟩
instance : TyU Try.prog 92 (Go.TypeDesc.func #[44] #[44] false) := ⟨Try.underlying92⟩
instance : TyB Try.prog 92 8 := TyB.of Try.type92 rfl
instance : TyZ Try.prog 92 Go.Value.nilFunc := ⟨Try.zeroValue92⟩
instance : TyI Try.prog 93 false 1 := ⟨Try.isAgg93, Try.sizeOf93⟩
instance : TyU Try.prog 93 (Go.TypeDesc.func #[45] #[45] false) := ⟨Try.underlying93⟩
instance : TyB Try.prog 93 8 := TyB.of Try.type93 rfl
instance : TyZ Try.prog 93 Go.Value.nilFunc := ⟨Try.zeroValue93⟩
instance : TyI Try.prog 94 false 1 := ⟨Try.isAgg94, Try.sizeOf94⟩
instance : TyU Try.prog 94 (Go.TypeDesc.func #[44, 39] #[44] false) := ⟨Try.underlying94⟩
instance : TyB Try.prog 94 8 := TyB.of Try.type94 rfl
instance : TyZ Try.prog 94 Go.Value.nilFunc := ⟨Try.zeroValue94⟩
instance : TyI Try.prog 95 false 1 := ⟨Try.isAgg95, Try.sizeOf95⟩
instance : TyU Try.prog 95 (Go.TypeDesc.func #[44, 96] #[44] false) := ⟨Try.underlying95⟩
instance : TyB Try.prog 95 8 := TyB.of Try.type95 rfl
instance : TyZ Try.prog 95 Go.Value.nilFunc := ⟨Try.zeroValue95⟩
instance : TyI Try.prog 96 false 1 := ⟨Try.isAgg96, Try.sizeOf96⟩
instance : TyU Try.prog 96 (Go.TypeDesc.func #[39] #[4] false) := ⟨Try.underlying96⟩
instance : TyB Try.prog 96 8 := TyB.of Try.type96 rfl
instance : TyZ Try.prog 96 Go.Value.nilFunc := ⟨Try.zeroValue96⟩
instance : TyI Try.prog 97 false 1 := ⟨Try.isAgg97, Try.sizeOf97⟩
instance : TyU Try.prog 97 (Go.TypeDesc.func #[45, 3] #[45] false) := ⟨Try.underlying97⟩
instance : TyB Try.prog 97 8 := TyB.of Try.type97 rfl
instance : TyZ Try.prog 97 Go.Value.nilFunc := ⟨Try.zeroValue97⟩
instance : TyI Try.prog 98 false 1 := ⟨Try.isAgg98, Try.sizeOf98⟩
instance : TyU Try.prog 98 (Go.TypeDesc.int Go.IntKind.u32) := ⟨Try.underlying98⟩
instance : TyB Try.prog 98 4 := TyB.of Try.type98 rfl
instance : TyZ Try.prog 98 (Go.Value.int Go.IntKind.u32 0) := ⟨Try.zeroValue98⟩
instance : TyI Try.prog 99 false 1 := ⟨Try.isAgg99, Try.sizeOf99⟩
instance : TyU Try.prog 99 (Go.TypeDesc.tuple #[98, 98]) := ⟨Try.underlying99⟩
instance : TyB Try.prog 99 0 := TyB.of Try.type99 rfl
instance : TyI Try.prog 100 false 1 := ⟨Try.isAgg100, Try.sizeOf100⟩
instance : TyU Try.prog 100 (Go.TypeDesc.func #[98, 98] #[98, 98] false) := ⟨Try.underlying100⟩
instance : TyB Try.prog 100 8 := TyB.of Try.type100 rfl
instance : TyZ Try.prog 100 Go.Value.nilFunc := ⟨Try.zeroValue100⟩
instance : TyI Try.prog 101 false 1 := ⟨Try.isAgg101, Try.sizeOf101⟩
instance : TyU Try.prog 101 (Go.TypeDesc.tuple #[89, 89]) := ⟨Try.underlying101⟩
instance : TyB Try.prog 101 0 := TyB.of Try.type101 rfl
instance : TyI Try.prog 102 false 1 := ⟨Try.isAgg102, Try.sizeOf102⟩
instance : TyU Try.prog 102 (Go.TypeDesc.func #[89, 89] #[89, 89] false) := ⟨Try.underlying102⟩
instance : TyB Try.prog 102 8 := TyB.of Try.type102 rfl
instance : TyZ Try.prog 102 Go.Value.nilFunc := ⟨Try.zeroValue102⟩
instance : TyI Try.prog 103 false 1 := ⟨Try.isAgg103, Try.sizeOf103⟩
instance : TyU Try.prog 103 (Go.TypeDesc.tuple #[4, 4]) := ⟨Try.underlying103⟩
instance : TyB Try.prog 103 0 := TyB.of Try.type103 rfl
instance : TyI Try.prog 104 false 1 := ⟨Try.isAgg104, Try.sizeOf104⟩
instance : TyU Try.prog 104 (Go.TypeDesc.func #[] #[4, 4] false) := ⟨Try.underlying104⟩
instance : TyB Try.prog 104 8 := TyB.of Try.type104 rfl
instance : TyZ Try.prog 104 Go.Value.nilFunc := ⟨Try.zeroValue104⟩
instance : TyI Try.prog 105 false 1 := ⟨Try.isAgg105, Try.sizeOf105⟩
instance : TyU Try.prog 105 (Go.TypeDesc.func #[53, 5] #[] false) := ⟨Try.underlying105⟩
instance : TyB Try.prog 105 8 := TyB.of Try.type105 rfl
instance : TyZ Try.prog 105 Go.Value.nilFunc := ⟨Try.zeroValue105⟩
instance : TyI Try.prog 106 true 1 := ⟨Try.isAgg106, Try.sizeOf106⟩
instance : TyU Try.prog 106 (Go.TypeDesc.array 1 3) := ⟨Try.underlying106⟩
instance : TyB Try.prog 106 8 := TyB.of Try.type106 rfl
instance : TyZ Try.prog 106 (Go.Value.agg #[Go.Value.int Go.IntKind.i64 0]) := ⟨Try.zeroValue106⟩
instance : TyI Try.prog 107 false 1 := ⟨Try.isAgg107, Try.sizeOf107⟩
instance : TyU Try.prog 107 (Go.TypeDesc.func #[] #[5] false) := ⟨Try.underlying107⟩
instance : TyB Try.prog 107 8 := TyB.of Try.type107 rfl
instance : TyZ Try.prog 107 Go.Value.nilFunc := ⟨Try.zeroValue107⟩
instance : TyI Try.prog 108 true 4 := ⟨Try.isAgg108, Try.sizeOf108⟩
instance : TyU Try.prog 108 (Go.TypeDesc.array 4 3) := ⟨Try.underlying108⟩
instance : TyB Try.prog 108 32 := TyB.of Try.type108 rfl
instance : TyZ Try.prog 108 (Go.Value.agg #[Go.Value.int Go.IntKind.i64 0, Go.Value.int Go.IntKind.i64 0, Go.Value.int Go.IntKind.i64 0, Go.Value.int Go.IntKind.i64 0]) := ⟨Try.zeroValue108⟩
instance : TyI Try.prog 109 false 1 := ⟨Try.isAgg109, Try.sizeOf109⟩
instance : TyU Try.prog 109 (Go.TypeDesc.func #[127] #[53] true) := ⟨Try.underlying109⟩
instance : TyB Try.prog 109 8 := TyB.of Try.type109 rfl
instance : TyZ Try.prog 109 Go.Value.nilFunc := ⟨Try.zeroValue109⟩
instance : TyI Try.prog 110 false 1 := ⟨Try.isAgg110, Try.sizeOf110⟩
instance : TyU Try.prog 110 (Go.TypeDesc.func #[53] #[98] false) := ⟨Try.underlying110⟩
instance : TyB Try.prog 110 8 := TyB.of Try.type110 rfl
instance : TyZ Try.prog 110 Go.Value.nilFunc := ⟨Try.zeroValue110⟩
instance : TyI Try.prog 111 false 1 := ⟨Try.isAgg111, Try.sizeOf111⟩
instance : TyU Try.prog 111 (Go.TypeDesc.func #[3, 3] #[27] false) := ⟨Try.underlying111⟩
instance : TyB Try.prog 111 8 := TyB.of Try.type111 rfl
instance : TyZ Try.prog 111 Go.Value.nilFunc := ⟨Try.zeroValue111⟩
instance : TyI Try.prog 112 false 1 := ⟨Try.isAgg112, Try.sizeOf112⟩
instance : TyU Try.prog 112 (Go.TypeDesc.func #[37] #[45] false) := ⟨Try.underlying112⟩
instance : TyB Try.prog 112 8 := TyB.of Try.type112 rfl
instance : TyZ Try.prog 112 Go.Value.nilFunc := ⟨Try.zeroValue112⟩
instance : TyI Try.prog 113 false 1 := ⟨Try.isAgg113, Try.sizeOf113⟩
instance : TyU Try.prog 113 (Go.TypeDesc.func #[53, 9] #[53] false) := ⟨Try.underlying113⟩
instance : TyB Try.prog 113 8 := TyB.of Try.type113 rfl
instance : TyZ Try.prog 113 Go.Value.nilFunc := ⟨Try.zeroValue113⟩
instance : TyI Try.prog 114 false 1 := ⟨Try.isAgg114, Try.sizeOf114⟩
instance : TyU Try.prog 114 (Go.TypeDesc.func #[53, 45] #[53] true) := ⟨Try.underlying114⟩
instance : TyB Try.prog 114 8 := TyB.of Try.type114 rfl
instance : TyZ Try.prog 114 Go.Value.nilFunc := ⟨Try.zeroValue114⟩
instance : TyI Try.prog 115 true 2 := ⟨Try.isAgg115, Try.sizeOf115⟩
instance : TyU Try.prog 115 (Go.TypeDesc.struct #[{ name := "Name", type := 9, offset := 0, embedded := false, tag := "", pkgPath := "", byteOffset := 0 }, { name := "No", type := 3, offset := 1, embedded := false, tag := "", pkgPath := "", byteOffset := 16 }]) := ⟨Try.underlying115⟩
instance : TyB Try.prog 115 24 := TyB.of Try.type115 rfl
instance : TyZ Try.prog 115 (Go.Value.agg #[Go.Value.string { data := #[] }, Go.Value.int Go.IntKind.i64 0]) := ⟨Try.zeroValue115⟩
instance : TyV Try.prog 115 0 0 := ⟨_, _, Try.underlying115, rfl, rfl, Try.isAgg9⟩
instance : TyF Try.prog 115 0 0 := ⟨_, _, Try.underlying115, rfl, rfl, fun w => ⟨_, Try.sizeOf9 w, by decide⟩⟩
instance : TyV Try.prog 115 1 1 := ⟨_, _, Try.underlying115, rfl, rfl, Try.isAgg3⟩
instance : TyF Try.prog 115 1 1 := ⟨_, _, Try.underlying115, rfl, rfl, fun w => ⟨_, Try.sizeOf3 w, by decide⟩⟩
instance : TyS Try.prog 115 [(0, 1), (1, 1)] [Go.Value.string { data := #[] }, Go.Value.int Go.IntKind.i64 0] := TyS.mk' Try.underlying115 Try.zeroValue115 (fun w => by simp)
instance : TyI Try.prog 116 true 2 := ⟨Try.isAgg116, Try.sizeOf116⟩
instance : TyU Try.prog 116 (Go.TypeDesc.struct #[{ name := "Name", type := 9, offset := 0, embedded := false, tag := "", pkgPath := "", byteOffset := 0 }, { name := "No", type := 3, offset := 1, embedded := false, tag := "", pkgPath := "", byteOffset := 16 }]) := ⟨Try.underlying116⟩
instance : TyB Try.prog 116 24 := TyB.of Try.type116 rfl
instance : TyZ Try.prog 116 (Go.Value.agg #[Go.Value.string { data := #[] }, Go.Value.int Go.IntKind.i64 0]) := ⟨Try.zeroValue116⟩
instance : TyV Try.prog 116 0 0 := ⟨_, _, Try.underlying116, rfl, rfl, Try.isAgg9⟩
instance : TyF Try.prog 116 0 0 := ⟨_, _, Try.underlying116, rfl, rfl, fun w => ⟨_, Try.sizeOf9 w, by decide⟩⟩
instance : TyV Try.prog 116 1 1 := ⟨_, _, Try.underlying116, rfl, rfl, Try.isAgg3⟩
instance : TyF Try.prog 116 1 1 := ⟨_, _, Try.underlying116, rfl, rfl, fun w => ⟨_, Try.sizeOf3 w, by decide⟩⟩
instance : TyS Try.prog 116 [(0, 1), (1, 1)] [Go.Value.string { data := #[] }, Go.Value.int Go.IntKind.i64 0] := TyS.mk' Try.underlying116 Try.zeroValue116 (fun w => by simp)
instance : TyI Try.prog 117 true 3 := ⟨Try.isAgg117, Try.sizeOf117⟩
instance : TyU Try.prog 117 (Go.TypeDesc.struct #[{ name := "From", type := 3, offset := 0, embedded := false, tag := "", pkgPath := "", byteOffset := 0 }, { name := "At", type := 3, offset := 1, embedded := false, tag := "", pkgPath := "", byteOffset := 8 }, { name := "Count", type := 3, offset := 2, embedded := false, tag := "", pkgPath := "", byteOffset := 16 }]) := ⟨Try.underlying117⟩
instance : TyB Try.prog 117 24 := TyB.of Try.type117 rfl
instance : TyZ Try.prog 117 (Go.Value.agg #[Go.Value.int Go.IntKind.i64 0, Go.Value.int Go.IntKind.i64 0, Go.Value.int Go.IntKind.i64 0]) := ⟨Try.zeroValue117⟩
instance : TyV Try.prog 117 0 0 := ⟨_, _, Try.underlying117, rfl, rfl, Try.isAgg3⟩
instance : TyF Try.prog 117 0 0 := ⟨_, _, Try.underlying117, rfl, rfl, fun w => ⟨_, Try.sizeOf3 w, by decide⟩⟩
instance : TyV Try.prog 117 1 1 := ⟨_, _, Try.underlying117, rfl, rfl, Try.isAgg3⟩
instance : TyF Try.prog 117 1 1 := ⟨_, _, Try.underlying117, rfl, rfl, fun w => ⟨_, Try.sizeOf3 w, by decide⟩⟩
instance : TyV Try.prog 117 2 2 := ⟨_, _, Try.underlying117, rfl, rfl, Try.isAgg3⟩
instance : TyF Try.prog 117 2 2 := ⟨_, _, Try.underlying117, rfl, rfl, fun w => ⟨_, Try.sizeOf3 w, by decide⟩⟩
instance : TyS Try.prog 117 [(0, 1), (1, 1), (2, 1)] [Go.Value.int Go.IntKind.i64 0, Go.Value.int Go.IntKind.i64 0, Go.Value.int Go.IntKind.i64 0] := TyS.mk' Try.underlying117 Try.zeroValue117 (fun w => by simp)
instance : TyI Try.prog 118 true 3 := ⟨Try.isAgg118, Try.sizeOf118⟩
instance : TyU Try.prog 118 (Go.TypeDesc.struct #[{ name := "From", type := 3, offset := 0, embedded := false, tag := "", pkgPath := "", byteOffset := 0 }, { name := "At", type := 3, offset := 1, embedded := false, tag := "", pkgPath := "", byteOffset := 8 }, { name := "Count", type := 3, offset := 2, embedded := false, tag := "", pkgPath := "", byteOffset := 16 }]) := ⟨Try.underlying118⟩
instance : TyB Try.prog 118 24 := TyB.of Try.type118 rfl
instance : TyZ Try.prog 118 (Go.Value.agg #[Go.Value.int Go.IntKind.i64 0, Go.Value.int Go.IntKind.i64 0, Go.Value.int Go.IntKind.i64 0]) := ⟨Try.zeroValue118⟩
instance : TyV Try.prog 118 0 0 := ⟨_, _, Try.underlying118, rfl, rfl, Try.isAgg3⟩
instance : TyF Try.prog 118 0 0 := ⟨_, _, Try.underlying118, rfl, rfl, fun w => ⟨_, Try.sizeOf3 w, by decide⟩⟩
instance : TyV Try.prog 118 1 1 := ⟨_, _, Try.underlying118, rfl, rfl, Try.isAgg3⟩
instance : TyF Try.prog 118 1 1 := ⟨_, _, Try.underlying118, rfl, rfl, fun w => ⟨_, Try.sizeOf3 w, by decide⟩⟩
instance : TyV Try.prog 118 2 2 := ⟨_, _, Try.underlying118, rfl, rfl, Try.isAgg3⟩
instance : TyF Try.prog 118 2 2 := ⟨_, _, Try.underlying118, rfl, rfl, fun w => ⟨_, Try.sizeOf3 w, by decide⟩⟩
instance : TyS Try.prog 118 [(0, 1), (1, 1), (2, 1)] [Go.Value.int Go.IntKind.i64 0, Go.Value.int Go.IntKind.i64 0, Go.Value.int Go.IntKind.i64 0] := TyS.mk' Try.underlying118 Try.zeroValue118 (fun w => by simp)
instance : TyI Try.prog 119 false 1 := ⟨Try.isAgg119, Try.sizeOf119⟩
instance : TyU Try.prog 119 (Go.TypeDesc.func #[36] #[36] false) := ⟨Try.underlying119⟩
instance : TyB Try.prog 119 8 := TyB.of Try.type119 rfl
instance : TyZ Try.prog 119 Go.Value.nilFunc := ⟨Try.zeroValue119⟩
instance : TyI Try.prog 120 false 1 := ⟨Try.isAgg120, Try.sizeOf120⟩
instance : TyU Try.prog 120 (Go.TypeDesc.func #[37] #[37] false) := ⟨Try.underlying120⟩
instance : TyB Try.prog 120 8 := TyB.of Try.type120 rfl
instance : TyZ Try.prog 120 Go.Value.nilFunc := ⟨Try.zeroValue120⟩
instance : TyI Try.prog 121 false 1 := ⟨Try.isAgg121, Try.sizeOf121⟩
instance : TyU Try.prog 121 (Go.TypeDesc.func #[44, 96] #[3] false) := ⟨Try.underlying121⟩
instance : TyB Try.prog 121 8 := TyB.of Try.type121 rfl
instance : TyZ Try.prog 121 Go.Value.nilFunc := ⟨Try.zeroValue121⟩
instance : TyI Try.prog 122 false 1 := ⟨Try.isAgg122, Try.sizeOf122⟩
instance : TyU Try.prog 122 (Go.TypeDesc.func #[44, 3, 44] #[44] true) := ⟨Try.underlying122⟩
instance : TyB Try.prog 122 8 := TyB.of Try.type122 rfl
instance : TyZ Try.prog 122 Go.Value.nilFunc := ⟨Try.zeroValue122⟩
instance : TyI Try.prog 123 false 1 := ⟨Try.isAgg123, Try.sizeOf123⟩
instance : TyU Try.prog 123 (Go.TypeDesc.func #[45, 3] #[4] false) := ⟨Try.underlying123⟩
instance : TyB Try.prog 123 8 := TyB.of Try.type123 rfl
instance : TyZ Try.prog 123 Go.Value.nilFunc := ⟨Try.zeroValue123⟩
instance : TyI Try.prog 124 false 1 := ⟨Try.isAgg124, Try.sizeOf124⟩
instance : TyU Try.prog 124 (Go.TypeDesc.func #[45, 125] #[3] false) := ⟨Try.underlying124⟩
instance : TyB Try.prog 124 8 := TyB.of Try.type124 rfl
instance : TyZ Try.prog 124 Go.Value.nilFunc := ⟨Try.zeroValue124⟩
instance : TyI Try.prog 125 false 1 := ⟨Try.isAgg125, Try.sizeOf125⟩
instance : TyU Try.prog 125 (Go.TypeDesc.func #[3] #[4] false) := ⟨Try.underlying125⟩
instance : TyB Try.prog 125 8 := TyB.of Try.type125 rfl
instance : TyZ Try.prog 125 Go.Value.nilFunc := ⟨Try.zeroValue125⟩
instance : TyI Try.prog 126 false 1 := ⟨Try.isAgg126, Try.sizeOf126⟩
instance : TyU Try.prog 126 (Go.TypeDesc.func #[45, 3, 45] #[45] true) := ⟨Try.underlying126⟩
instance : TyB Try.prog 126 8 := TyB.of Try.type126 rfl
instance : TyZ Try.prog 126 Go.Value.nilFunc := ⟨Try.zeroValue126⟩
instance : TyI Try.prog 127 false 1 := ⟨Try.isAgg127, Try.sizeOf127⟩
instance : TyU Try.prog 127 (Go.TypeDesc.slice 53) := ⟨Try.underlying127⟩
instance : TyB Try.prog 127 24 := TyB.of Try.type127 rfl
instance : TyZ Try.prog 127 (Go.Value.slice none 0 0) := ⟨Try.zeroValue127⟩
instance : TyI Try.prog 128 false 1 := ⟨Try.isAgg128, Try.sizeOf128⟩
instance : TyU Try.prog 128 (Go.TypeDesc.func #[37] #[4] false) := ⟨Try.underlying128⟩
instance : TyB Try.prog 128 8 := TyB.of Try.type128 rfl
instance : TyZ Try.prog 128 Go.Value.nilFunc := ⟨Try.zeroValue128⟩
instance : TyI Try.prog 129 false 1 := ⟨Try.isAgg129, Try.sizeOf129⟩
instance : TyU Try.prog 129 (Go.TypeDesc.func #[44, 44] #[4] false) := ⟨Try.underlying129⟩
instance : TyB Try.prog 129 8 := TyB.of Try.type129 rfl
instance : TyZ Try.prog 129 Go.Value.nilFunc := ⟨Try.zeroValue129⟩
instance : TyI Try.prog 130 false 1 := ⟨Try.isAgg130, Try.sizeOf130⟩
instance : TyU Try.prog 130 (Go.TypeDesc.func #[44, 3] #[] false) := ⟨Try.underlying130⟩
instance : TyB Try.prog 130 8 := TyB.of Try.type130 rfl
instance : TyZ Try.prog 130 Go.Value.nilFunc := ⟨Try.zeroValue130⟩
instance : TyI Try.prog 131 false 1 := ⟨Try.isAgg131, Try.sizeOf131⟩
instance : TyU Try.prog 131 (Go.TypeDesc.func #[45, 3] #[3] false) := ⟨Try.underlying131⟩
instance : TyB Try.prog 131 8 := TyB.of Try.type131 rfl
instance : TyZ Try.prog 131 Go.Value.nilFunc := ⟨Try.zeroValue131⟩
instance : TyI Try.prog 132 false 1 := ⟨Try.isAgg132, Try.sizeOf132⟩
instance : TyU Try.prog 132 (Go.TypeDesc.func #[45, 45] #[4] false) := ⟨Try.underlying132⟩
instance : TyB Try.prog 132 8 := TyB.of Try.type132 rfl
instance : TyZ Try.prog 132 Go.Value.nilFunc := ⟨Try.zeroValue132⟩
instance : TyI Try.prog 133 false 1 := ⟨Try.isAgg133, Try.sizeOf133⟩
instance : TyU Try.prog 133 (Go.TypeDesc.func #[45, 3] #[] false) := ⟨Try.underlying133⟩
instance : TyB Try.prog 133 8 := TyB.of Try.type133 rfl
instance : TyZ Try.prog 133 Go.Value.nilFunc := ⟨Try.zeroValue133⟩
instance : TyI Try.prog 134 false 1 := ⟨Try.isAgg134, Try.sizeOf134⟩
instance : TyU Try.prog 134 (Go.TypeDesc.func #[118, 118] #[4] false) := ⟨Try.underlying134⟩
instance : TyB Try.prog 134 8 := TyB.of Try.type134 rfl
instance : TyZ Try.prog 134 Go.Value.nilFunc := ⟨Try.zeroValue134⟩
instance : TyI Try.prog 135 false 1 := ⟨Try.isAgg135, Try.sizeOf135⟩
instance : TyU Try.prog 135 (Go.TypeDesc.func #[44] #[] false) := ⟨Try.underlying135⟩
instance : TyB Try.prog 135 8 := TyB.of Try.type135 rfl
instance : TyZ Try.prog 135 Go.Value.nilFunc := ⟨Try.zeroValue135⟩
instance : TyI Try.prog 136 false 1 := ⟨Try.isAgg136, Try.sizeOf136⟩
instance : TyU Try.prog 136 (Go.TypeDesc.func #[45] #[] false) := ⟨Try.underlying136⟩
instance : TyB Try.prog 136 8 := TyB.of Try.type136 rfl
instance : TyZ Try.prog 136 Go.Value.nilFunc := ⟨Try.zeroValue136⟩
instance : TyI Try.prog 137 false 1 := ⟨Try.isAgg137, Try.sizeOf137⟩
instance : TyU Try.prog 137 (Go.TypeDesc.func #[] #[9] false) := ⟨Try.underlying137⟩
instance : TyB Try.prog 137 8 := TyB.of Try.type137 rfl
instance : TyZ Try.prog 137 Go.Value.nilFunc := ⟨Try.zeroValue137⟩
instance : TyI Try.prog 138 true 4 := ⟨Try.isAgg138, Try.sizeOf138⟩
instance : TyU Try.prog 138 (Go.TypeDesc.struct #[{ name := "_interface", type := 17, offset := 0, embedded := false, tag := "", pkgPath := "runtime", byteOffset := 0 }, { name := "concrete", type := 17, offset := 1, embedded := false, tag := "", pkgPath := "runtime", byteOffset := 8 }, { name := "asserted", type := 17, offset := 2, embedded := false, tag := "", pkgPath := "runtime", byteOffset := 16 }, { name := "missingMethod", type := 9, offset := 3, embedded := false, tag := "", pkgPath := "runtime", byteOffset := 24 }]) := ⟨Try.underlying138⟩
instance : TyB Try.prog 138 40 := TyB.of Try.type138 rfl
instance : TyZ Try.prog 138 (Go.Value.agg #[Go.Value.pointer none, Go.Value.pointer none, Go.Value.pointer none, Go.Value.string { data := #[] }]) := ⟨Try.zeroValue138⟩
instance : TyV Try.prog 138 0 0 := ⟨_, _, Try.underlying138, rfl, rfl, Try.isAgg17⟩
instance : TyF Try.prog 138 0 0 := ⟨_, _, Try.underlying138, rfl, rfl, fun w => ⟨_, Try.sizeOf17 w, by decide⟩⟩
instance : TyV Try.prog 138 1 1 := ⟨_, _, Try.underlying138, rfl, rfl, Try.isAgg17⟩
instance : TyF Try.prog 138 1 1 := ⟨_, _, Try.underlying138, rfl, rfl, fun w => ⟨_, Try.sizeOf17 w, by decide⟩⟩
instance : TyV Try.prog 138 2 2 := ⟨_, _, Try.underlying138, rfl, rfl, Try.isAgg17⟩
instance : TyF Try.prog 138 2 2 := ⟨_, _, Try.underlying138, rfl, rfl, fun w => ⟨_, Try.sizeOf17 w, by decide⟩⟩
instance : TyV Try.prog 138 3 3 := ⟨_, _, Try.underlying138, rfl, rfl, Try.isAgg9⟩
instance : TyF Try.prog 138 3 3 := ⟨_, _, Try.underlying138, rfl, rfl, fun w => ⟨_, Try.sizeOf9 w, by decide⟩⟩
instance : TyS Try.prog 138 [(0, 1), (1, 1), (2, 1), (3, 1)] [Go.Value.pointer none, Go.Value.pointer none, Go.Value.pointer none, Go.Value.string { data := #[] }] := TyS.mk' Try.underlying138 Try.zeroValue138 (fun w => by simp)
instance : TyI Try.prog 139 true 4 := ⟨Try.isAgg139, Try.sizeOf139⟩
instance : TyU Try.prog 139 (Go.TypeDesc.struct #[{ name := "_interface", type := 17, offset := 0, embedded := false, tag := "", pkgPath := "runtime", byteOffset := 0 }, { name := "concrete", type := 17, offset := 1, embedded := false, tag := "", pkgPath := "runtime", byteOffset := 8 }, { name := "asserted", type := 17, offset := 2, embedded := false, tag := "", pkgPath := "runtime", byteOffset := 16 }, { name := "missingMethod", type := 9, offset := 3, embedded := false, tag := "", pkgPath := "runtime", byteOffset := 24 }]) := ⟨Try.underlying139⟩
instance : TyB Try.prog 139 40 := TyB.of Try.type139 rfl
instance : TyZ Try.prog 139 (Go.Value.agg #[Go.Value.pointer none, Go.Value.pointer none, Go.Value.pointer none, Go.Value.string { data := #[] }]) := ⟨Try.zeroValue139⟩
instance : TyV Try.prog 139 0 0 := ⟨_, _, Try.underlying139, rfl, rfl, Try.isAgg17⟩
instance : TyF Try.prog 139 0 0 := ⟨_, _, Try.underlying139, rfl, rfl, fun w => ⟨_, Try.sizeOf17 w, by decide⟩⟩
instance : TyV Try.prog 139 1 1 := ⟨_, _, Try.underlying139, rfl, rfl, Try.isAgg17⟩
instance : TyF Try.prog 139 1 1 := ⟨_, _, Try.underlying139, rfl, rfl, fun w => ⟨_, Try.sizeOf17 w, by decide⟩⟩
instance : TyV Try.prog 139 2 2 := ⟨_, _, Try.underlying139, rfl, rfl, Try.isAgg17⟩
instance : TyF Try.prog 139 2 2 := ⟨_, _, Try.underlying139, rfl, rfl, fun w => ⟨_, Try.sizeOf17 w, by decide⟩⟩
instance : TyV Try.prog 139 3 3 := ⟨_, _, Try.underlying139, rfl, rfl, Try.isAgg9⟩
instance : TyF Try.prog 139 3 3 := ⟨_, _, Try.underlying139, rfl, rfl, fun w => ⟨_, Try.sizeOf9 w, by decide⟩⟩
instance : TyS Try.prog 139 [(0, 1), (1, 1), (2, 1), (3, 1)] [Go.Value.pointer none, Go.Value.pointer none, Go.Value.pointer none, Go.Value.string { data := #[] }] := TyS.mk' Try.underlying139 Try.zeroValue139 (fun w => by simp)
instance : TyI Try.prog 140 true 0 := ⟨Try.isAgg140, Try.sizeOf140⟩
instance : TyU Try.prog 140 (Go.TypeDesc.array 0 16) := ⟨Try.underlying140⟩
instance : TyB Try.prog 140 0 := TyB.of Try.type140 rfl
instance : TyZ Try.prog 140 (Go.Value.agg #[]) := ⟨Try.zeroValue140⟩
instance : TyI Try.prog 141 true 0 := ⟨Try.isAgg141, Try.sizeOf141⟩
instance : TyU Try.prog 141 (Go.TypeDesc.struct #[{ name := "_", type := 140, offset := 0, embedded := false, tag := "", pkgPath := "runtime", byteOffset := 0 }]) := ⟨Try.underlying141⟩
instance : TyB Try.prog 141 0 := TyB.of Try.type141 rfl
instance : TyZ Try.prog 141 (Go.Value.agg #[]) := ⟨Try.zeroValue141⟩
instance : TyS Try.prog 141 [(0, 0)] [] := TyS.mk' Try.underlying141 Try.zeroValue141 (fun w => by simp)
instance : TyI Try.prog 142 true 0 := ⟨Try.isAgg142, Try.sizeOf142⟩
instance : TyU Try.prog 142 (Go.TypeDesc.struct #[{ name := "_", type := 140, offset := 0, embedded := false, tag := "", pkgPath := "runtime", byteOffset := 0 }]) := ⟨Try.underlying142⟩
instance : TyB Try.prog 142 0 := TyB.of Try.type142 rfl
instance : TyZ Try.prog 142 (Go.Value.agg #[]) := ⟨Try.zeroValue142⟩
instance : TyS Try.prog 142 [(0, 0)] [] := TyS.mk' Try.underlying142 Try.zeroValue142 (fun w => by simp)
instance : TyI Try.prog 143 false 1 := ⟨Try.isAgg143, Try.sizeOf143⟩
instance : TyU Try.prog 143 (Go.TypeDesc.int Go.IntKind.u8) := ⟨Try.underlying143⟩
instance : TyB Try.prog 143 1 := TyB.of Try.type143 rfl
instance : TyZ Try.prog 143 (Go.Value.int Go.IntKind.u8 0) := ⟨Try.zeroValue143⟩
instance : TyI Try.prog 144 false 1 := ⟨Try.isAgg144, Try.sizeOf144⟩
instance : TyU Try.prog 144 (Go.TypeDesc.int Go.IntKind.u8) := ⟨Try.underlying144⟩
instance : TyB Try.prog 144 1 := TyB.of Try.type144 rfl
instance : TyZ Try.prog 144 (Go.Value.int Go.IntKind.u8 0) := ⟨Try.zeroValue144⟩
instance : TyI Try.prog 145 false 1 := ⟨Try.isAgg145, Try.sizeOf145⟩
instance : TyU Try.prog 145 (Go.TypeDesc.func #[153, 153] #[4] false) := ⟨Try.underlying145⟩
instance : TyB Try.prog 145 8 := TyB.of Try.type145 rfl
instance : TyZ Try.prog 145 Go.Value.nilFunc := ⟨Try.zeroValue145⟩
instance : TyI Try.prog 146 false 1 := ⟨Try.isAgg146, Try.sizeOf146⟩
instance : TyU Try.prog 146 (Go.TypeDesc.pointer 5) := ⟨Try.underlying146⟩
instance : TyB Try.prog 146 8 := TyB.of Try.type146 rfl
instance : TyZ Try.prog 146 (Go.Value.pointer none) := ⟨Try.zeroValue146⟩
instance : TyI Try.prog 147 false 1 := ⟨Try.isAgg147, Try.sizeOf147⟩
instance : TyU Try.prog 147 (Go.TypeDesc.int Go.IntKind.i32) := ⟨Try.underlying147⟩
instance : TyB Try.prog 147 4 := TyB.of Try.type147 rfl
instance : TyZ Try.prog 147 (Go.Value.int Go.IntKind.i32 0) := ⟨Try.zeroValue147⟩
instance : TyI Try.prog 148 false 1 := ⟨Try.isAgg148, Try.sizeOf148⟩
instance : TyU Try.prog 148 (Go.TypeDesc.int Go.IntKind.i32) := ⟨Try.underlying148⟩
instance : TyB Try.prog 148 4 := TyB.of Try.type148 rfl
instance : TyZ Try.prog 148 (Go.Value.int Go.IntKind.i32 0) := ⟨Try.zeroValue148⟩
instance : TyI Try.prog 149 true 11 := ⟨Try.isAgg149, Try.sizeOf149⟩
instance : TyU Try.prog 149 (Go.TypeDesc.struct #[{ name := "Size_", type := 12, offset := 0, embedded := false, tag := "", pkgPath := "", byteOffset := 0 }, { name := "PtrBytes", type := 12, offset := 1, embedded := false, tag := "", pkgPath := "", byteOffset := 8 }, { name := "Hash", type := 98, offset := 2, embedded := false, tag := "", pkgPath := "", byteOffset := 16 }, { name := "TFlag", type := 143, offset := 3, embedded := false, tag := "", pkgPath := "", byteOffset := 20 }, { name := "Align_", type := 5, offset := 4, embedded := false, tag := "", pkgPath := "", byteOffset := 21 }, { name := "FieldAlign_", type := 5, offset := 5, embedded := false, tag := "", pkgPath := "", byteOffset := 22 }, { name := "Kind_", type := 144, offset := 6, embedded := false, tag := "", pkgPath := "", byteOffset := 23 }, { name := "Equal", type := 145, offset := 7, embedded := false, tag := "", pkgPath := "", byteOffset := 24 }, { name := "GCData", type := 146, offset := 8, embedded := false, tag := "", pkgPath := "", byteOffset := 32 }, { name := "Str", type := 147, offset := 9, embedded := false, tag := "", pkgPath := "", byteOffset := 40 }, { name := "PtrToThis", type := 148, offset := 10, embedded := false, tag := "", pkgPath := "", byteOffset := 44 }]) := ⟨Try.underlying149⟩
instance : TyB Try.prog 149 48 := TyB.of Try.type149 rfl
instance : TyZ Try.prog 149 (Go.Value.agg #[Go.Value.int Go.IntKind.u64 0, Go.Value.int Go.IntKind.u64 0, Go.Value.int Go.IntKind.u32 0, Go.Value.int Go.IntKind.u8 0, Go.Value.int Go.IntKind.u8 0, Go.Value.int Go.IntKind.u8 0, Go.Value.int Go.IntKind.u8 0, Go.Value.nilFunc, Go.Value.pointer none, Go.Value.int Go.IntKind.i32 0, Go.Value.int Go.IntKind.i32 0]) := ⟨Try.zeroValue149⟩
instance : TyV Try.prog 149 0 0 := ⟨_, _, Try.underlying149, rfl, rfl, Try.isAgg12⟩
instance : TyF Try.prog 149 0 0 := ⟨_, _, Try.underlying149, rfl, rfl, fun w => ⟨_, Try.sizeOf12 w, by decide⟩⟩
instance : TyV Try.prog 149 1 1 := ⟨_, _, Try.underlying149, rfl, rfl, Try.isAgg12⟩
instance : TyF Try.prog 149 1 1 := ⟨_, _, Try.underlying149, rfl, rfl, fun w => ⟨_, Try.sizeOf12 w, by decide⟩⟩
instance : TyV Try.prog 149 2 2 := ⟨_, _, Try.underlying149, rfl, rfl, Try.isAgg98⟩
instance : TyF Try.prog 149 2 2 := ⟨_, _, Try.underlying149, rfl, rfl, fun w => ⟨_, Try.sizeOf98 w, by decide⟩⟩
instance : TyV Try.prog 149 3 3 := ⟨_, _, Try.underlying149, rfl, rfl, Try.isAgg143⟩
instance : TyF Try.prog 149 3 3 := ⟨_, _, Try.underlying149, rfl, rfl, fun w => ⟨_, Try.sizeOf143 w, by decide⟩⟩
instance : TyV Try.prog 149 4 4 := ⟨_, _, Try.underlying149, rfl, rfl, Try.isAgg5⟩
instance : TyF Try.prog 149 4 4 := ⟨_, _, Try.underlying149, rfl, rfl, fun w => ⟨_, Try.sizeOf5 w, by decide⟩⟩
instance : TyV Try.prog 149 5 5 := ⟨_, _, Try.underlying149, rfl, rfl, Try.isAgg5⟩
instance : TyF Try.prog 149 5 5 := ⟨_, _, Try.underlying149, rfl, rfl, fun w => ⟨_, Try.sizeOf5 w, by decide⟩⟩
instance : TyV Try.prog 149 6 6 := ⟨_, _, Try.underlying149, rfl, rfl, Try.isAgg144⟩
instance : TyF Try.prog 149 6 6 := ⟨_, _, Try.underlying149, rfl, rfl, fun w => ⟨_, Try.sizeOf144 w, by decide⟩⟩
instance : TyV Try.prog 149 7 7 := ⟨_, _, Try.underlying149, rfl, rfl, Try.isAgg145⟩
instance : TyF Try.prog 149 7 7 := ⟨_, _, Try.underlying149, rfl, rfl, fun w => ⟨_, Try.sizeOf145 w, by decide⟩⟩
instance : TyV Try.prog 149 8 8 := ⟨_, _, Try.underlying149, rfl, rfl, Try.isAgg146⟩
instance : TyF Try.prog 149 8 8 := ⟨_, _, Try.underlying149, rfl, rfl, fun w => ⟨_, Try.sizeOf146 w, by decide⟩⟩
instance : TyV Try.prog 149 9 9 := ⟨_, _, Try.underlying149, rfl, rfl, Try.isAgg147⟩
instance : TyF Try.prog 149 9 9 := ⟨_, _, Try.underlying149, rfl, rfl, fun w => ⟨_, Try.sizeOf147 w, by decide⟩⟩
instance : TyV Try.prog 149 10 10 := ⟨_, _, Try.underlying149, rfl, rfl, Try.isAgg148⟩
instance : TyF Try.prog 149 10 10 := ⟨_, _, Try.underlying149, rfl, rfl, fun w => ⟨_, Try.sizeOf148 w, by decide⟩⟩
instance : TyS Try.prog 149 [(0, 1), (1, 1), (2, 1), (3, 1), (4, 1), (5, 1), (6, 1), (7, 1), (8, 1), (9, 1), (10, 1)] [Go.Value.int Go.IntKind.u64 0, Go.Value.int Go.IntKind.u64 0, Go.Value.int Go.IntKind.u32 0, Go.Value.int Go.IntKind.u8 0, Go.Value.int Go.IntKind.u8 0, Go.Value.int Go.IntKind.u8 0, Go.Value.int Go.IntKind.u8 0, Go.Value.nilFunc, Go.Value.pointer none, Go.Value.int Go.IntKind.i32 0, Go.Value.int Go.IntKind.i32 0] := TyS.mk' Try.underlying149 Try.zeroValue149 (fun w => by simp)
instance : TyI Try.prog 150 true 11 := ⟨Try.isAgg150, Try.sizeOf150⟩
instance : TyU Try.prog 150 (Go.TypeDesc.struct #[{ name := "Size_", type := 12, offset := 0, embedded := false, tag := "", pkgPath := "", byteOffset := 0 }, { name := "PtrBytes", type := 12, offset := 1, embedded := false, tag := "", pkgPath := "", byteOffset := 8 }, { name := "Hash", type := 98, offset := 2, embedded := false, tag := "", pkgPath := "", byteOffset := 16 }, { name := "TFlag", type := 143, offset := 3, embedded := false, tag := "", pkgPath := "", byteOffset := 20 }, { name := "Align_", type := 5, offset := 4, embedded := false, tag := "", pkgPath := "", byteOffset := 21 }, { name := "FieldAlign_", type := 5, offset := 5, embedded := false, tag := "", pkgPath := "", byteOffset := 22 }, { name := "Kind_", type := 144, offset := 6, embedded := false, tag := "", pkgPath := "", byteOffset := 23 }, { name := "Equal", type := 145, offset := 7, embedded := false, tag := "", pkgPath := "", byteOffset := 24 }, { name := "GCData", type := 146, offset := 8, embedded := false, tag := "", pkgPath := "", byteOffset := 32 }, { name := "Str", type := 147, offset := 9, embedded := false, tag := "", pkgPath := "", byteOffset := 40 }, { name := "PtrToThis", type := 148, offset := 10, embedded := false, tag := "", pkgPath := "", byteOffset := 44 }]) := ⟨Try.underlying150⟩
instance : TyB Try.prog 150 48 := TyB.of Try.type150 rfl
instance : TyZ Try.prog 150 (Go.Value.agg #[Go.Value.int Go.IntKind.u64 0, Go.Value.int Go.IntKind.u64 0, Go.Value.int Go.IntKind.u32 0, Go.Value.int Go.IntKind.u8 0, Go.Value.int Go.IntKind.u8 0, Go.Value.int Go.IntKind.u8 0, Go.Value.int Go.IntKind.u8 0, Go.Value.nilFunc, Go.Value.pointer none, Go.Value.int Go.IntKind.i32 0, Go.Value.int Go.IntKind.i32 0]) := ⟨Try.zeroValue150⟩
instance : TyV Try.prog 150 0 0 := ⟨_, _, Try.underlying150, rfl, rfl, Try.isAgg12⟩
instance : TyF Try.prog 150 0 0 := ⟨_, _, Try.underlying150, rfl, rfl, fun w => ⟨_, Try.sizeOf12 w, by decide⟩⟩
instance : TyV Try.prog 150 1 1 := ⟨_, _, Try.underlying150, rfl, rfl, Try.isAgg12⟩
instance : TyF Try.prog 150 1 1 := ⟨_, _, Try.underlying150, rfl, rfl, fun w => ⟨_, Try.sizeOf12 w, by decide⟩⟩
instance : TyV Try.prog 150 2 2 := ⟨_, _, Try.underlying150, rfl, rfl, Try.isAgg98⟩
instance : TyF Try.prog 150 2 2 := ⟨_, _, Try.underlying150, rfl, rfl, fun w => ⟨_, Try.sizeOf98 w, by decide⟩⟩
instance : TyV Try.prog 150 3 3 := ⟨_, _, Try.underlying150, rfl, rfl, Try.isAgg143⟩
instance : TyF Try.prog 150 3 3 := ⟨_, _, Try.underlying150, rfl, rfl, fun w => ⟨_, Try.sizeOf143 w, by decide⟩⟩
instance : TyV Try.prog 150 4 4 := ⟨_, _, Try.underlying150, rfl, rfl, Try.isAgg5⟩
instance : TyF Try.prog 150 4 4 := ⟨_, _, Try.underlying150, rfl, rfl, fun w => ⟨_, Try.sizeOf5 w, by decide⟩⟩
instance : TyV Try.prog 150 5 5 := ⟨_, _, Try.underlying150, rfl, rfl, Try.isAgg5⟩
instance : TyF Try.prog 150 5 5 := ⟨_, _, Try.underlying150, rfl, rfl, fun w => ⟨_, Try.sizeOf5 w, by decide⟩⟩
instance : TyV Try.prog 150 6 6 := ⟨_, _, Try.underlying150, rfl, rfl, Try.isAgg144⟩
instance : TyF Try.prog 150 6 6 := ⟨_, _, Try.underlying150, rfl, rfl, fun w => ⟨_, Try.sizeOf144 w, by decide⟩⟩
instance : TyV Try.prog 150 7 7 := ⟨_, _, Try.underlying150, rfl, rfl, Try.isAgg145⟩
instance : TyF Try.prog 150 7 7 := ⟨_, _, Try.underlying150, rfl, rfl, fun w => ⟨_, Try.sizeOf145 w, by decide⟩⟩
instance : TyV Try.prog 150 8 8 := ⟨_, _, Try.underlying150, rfl, rfl, Try.isAgg146⟩
instance : TyF Try.prog 150 8 8 := ⟨_, _, Try.underlying150, rfl, rfl, fun w => ⟨_, Try.sizeOf146 w, by decide⟩⟩
instance : TyV Try.prog 150 9 9 := ⟨_, _, Try.underlying150, rfl, rfl, Try.isAgg147⟩
instance : TyF Try.prog 150 9 9 := ⟨_, _, Try.underlying150, rfl, rfl, fun w => ⟨_, Try.sizeOf147 w, by decide⟩⟩
instance : TyV Try.prog 150 10 10 := ⟨_, _, Try.underlying150, rfl, rfl, Try.isAgg148⟩
instance : TyF Try.prog 150 10 10 := ⟨_, _, Try.underlying150, rfl, rfl, fun w => ⟨_, Try.sizeOf148 w, by decide⟩⟩
instance : TyS Try.prog 150 [(0, 1), (1, 1), (2, 1), (3, 1), (4, 1), (5, 1), (6, 1), (7, 1), (8, 1), (9, 1), (10, 1)] [Go.Value.int Go.IntKind.u64 0, Go.Value.int Go.IntKind.u64 0, Go.Value.int Go.IntKind.u32 0, Go.Value.int Go.IntKind.u8 0, Go.Value.int Go.IntKind.u8 0, Go.Value.int Go.IntKind.u8 0, Go.Value.int Go.IntKind.u8 0, Go.Value.nilFunc, Go.Value.pointer none, Go.Value.int Go.IntKind.i32 0, Go.Value.int Go.IntKind.i32 0] := TyS.mk' Try.underlying150 Try.zeroValue150 (fun w => by simp)
instance : TyI Try.prog 151 true 1 := ⟨Try.isAgg151, Try.sizeOf151⟩
instance : TyU Try.prog 151 (Go.TypeDesc.struct #[{ name := "no", type := 3, offset := 0, embedded := false, tag := "", pkgPath := "garret/power", byteOffset := 0 }]) := ⟨Try.underlying151⟩
instance : TyB Try.prog 151 8 := TyB.of Try.type151 rfl
instance : TyZ Try.prog 151 (Go.Value.agg #[Go.Value.int Go.IntKind.i64 0]) := ⟨Try.zeroValue151⟩
instance : TyV Try.prog 151 0 0 := ⟨_, _, Try.underlying151, rfl, rfl, Try.isAgg3⟩
instance : TyF Try.prog 151 0 0 := ⟨_, _, Try.underlying151, rfl, rfl, fun w => ⟨_, Try.sizeOf3 w, by decide⟩⟩
instance : TyS Try.prog 151 [(0, 1)] [Go.Value.int Go.IntKind.i64 0] := TyS.mk' Try.underlying151 Try.zeroValue151 (fun w => by simp)
instance : TyI Try.prog 152 true 1 := ⟨Try.isAgg152, Try.sizeOf152⟩
instance : TyU Try.prog 152 (Go.TypeDesc.struct #[{ name := "no", type := 3, offset := 0, embedded := false, tag := "", pkgPath := "garret/power", byteOffset := 0 }]) := ⟨Try.underlying152⟩
instance : TyB Try.prog 152 8 := TyB.of Try.type152 rfl
instance : TyZ Try.prog 152 (Go.Value.agg #[Go.Value.int Go.IntKind.i64 0]) := ⟨Try.zeroValue152⟩
instance : TyV Try.prog 152 0 0 := ⟨_, _, Try.underlying152, rfl, rfl, Try.isAgg3⟩
instance : TyF Try.prog 152 0 0 := ⟨_, _, Try.underlying152, rfl, rfl, fun w => ⟨_, Try.sizeOf3 w, by decide⟩⟩
instance : TyS Try.prog 152 [(0, 1)] [Go.Value.int Go.IntKind.i64 0] := TyS.mk' Try.underlying152 Try.zeroValue152 (fun w => by simp)
instance : TyI Try.prog 153 false 1 := ⟨Try.isAgg153, Try.sizeOf153⟩
instance : TyU Try.prog 153 (Go.TypeDesc.unsafePointer) := ⟨Try.underlying153⟩
instance : TyB Try.prog 153 8 := TyB.of Try.type153 rfl
instance : TyZ Try.prog 153 (Go.Value.pointer none) := ⟨Try.zeroValue153⟩
instance : TyS Try.prog 106 [(0, 1)] [Go.Value.int Go.IntKind.i64 0] := TyS.arr Try.underlying106 Try.zeroValue106 Try.sizeOf3 rfl
instance : TyS Try.prog 108 [(0, 1), (1, 1), (2, 1), (3, 1)] [Go.Value.int Go.IntKind.i64 0, Go.Value.int Go.IntKind.i64 0, Go.Value.int Go.IntKind.i64 0, Go.Value.int Go.IntKind.i64 0] := TyS.arr Try.underlying108 Try.zeroValue108 Try.sizeOf3 rfl
instance : TyS Try.prog 140 [] [] := TyS.arr Try.underlying140 Try.zeroValue140 Try.sizeOf16 rfl
theorem callable3 : Callable Try.prog 3 := Try.call3
theorem callable4 : Callable Try.prog 4 := Try.call4
theorem callable5 : Callable Try.prog 5 := Try.call5
theorem callable6 : Callable Try.prog 6 := Try.call6
theorem callable7 : Callable Try.prog 7 := Try.call7
theorem callable8 : Callable Try.prog 8 := Try.call8
theorem callable9 : Callable Try.prog 9 := Try.call9
theorem callable10 : Callable Try.prog 10 := Try.call10
theorem callable11 : Callable Try.prog 11 := Try.call11
theorem callable12 : Callable Try.prog 12 := Try.call12
theorem callable13 : Callable Try.prog 13 := Try.call13
theorem callable14 : Callable Try.prog 14 := Try.call14
theorem callable15 : Callable Try.prog 15 := Try.call15
theorem callable16 : Callable Try.prog 16 := Try.call16
theorem callable17 : Callable Try.prog 17 := Try.call17
theorem callable18 : Callable Try.prog 18 := Try.call18
theorem callable19 : Callable Try.prog 19 := Try.call19
theorem callable20 : Callable Try.prog 20 := Try.call20
theorem callable21 : Callable Try.prog 21 := Try.call21
theorem callable22 : Callable Try.prog 22 := Try.call22
theorem callable23 : Callable Try.prog 23 := Try.call23
theorem callable24 : Callable Try.prog 24 := Try.call24
theorem callable25 : Callable Try.prog 25 := Try.call25
theorem callable26 : Callable Try.prog 26 := Try.call26
theorem callable27 : Callable Try.prog 27 := Try.call27
theorem callable28 : Callable Try.prog 28 := Try.call28
theorem callable29 : Callable Try.prog 29 := Try.call29
theorem callable30 : Callable Try.prog 30 := Try.call30
theorem callable31 : Callable Try.prog 31 := Try.call31
theorem callable33 : Callable Try.prog 33 := Try.call33
theorem callable34 : Callable Try.prog 34 := Try.call34
theorem callable35 : Callable Try.prog 35 := Try.call35
theorem callable36 : Callable Try.prog 36 := Try.call36
theorem callable37 : Callable Try.prog 37 := Try.call37
theorem callable38 : Callable Try.prog 38 := Try.call38
theorem callable39 : Callable Try.prog 39 := Try.call39
theorem callable40 : Callable Try.prog 40 := Try.call40
theorem callable41 : Callable Try.prog 41 := Try.call41
theorem callable42 : Callable Try.prog 42 := Try.call42
theorem callable43 : Callable Try.prog 43 := Try.call43
theorem callable44 : Callable Try.prog 44 := Try.call44
theorem callable45 : Callable Try.prog 45 := Try.call45
theorem callable46 : Callable Try.prog 46 := Try.call46
theorem callable47 : Callable Try.prog 47 := Try.call47
theorem callable48 : Callable Try.prog 48 := Try.call48
theorem callable49 : Callable Try.prog 49 := Try.call49
theorem callable50 : Callable Try.prog 50 := Try.call50
theorem callable51 : Callable Try.prog 51 := Try.call51
theorem callable52 : Callable Try.prog 52 := Try.call52
theorem callable53 : Callable Try.prog 53 := Try.call53
theorem callable54 : Callable Try.prog 54 := Try.call54
theorem callable55 : Callable Try.prog 55 := Try.call55
theorem callable56 : Callable Try.prog 56 := Try.call56
theorem callable57 : Callable Try.prog 57 := Try.call57
theorem callable58 : Callable Try.prog 58 := Try.call58
theorem callable59 : Callable Try.prog 59 := Try.call59
theorem callable60 : Callable Try.prog 60 := Try.call60
theorem callable61 : Callable Try.prog 61 := Try.call61
theorem callable62 : Callable Try.prog 62 := Try.call62
theorem callable63 : Callable Try.prog 63 := Try.call63
theorem callable64 : Callable Try.prog 64 := Try.call64
theorem callable65 : Callable Try.prog 65 := Try.call65
theorem callable66 : Callable Try.prog 66 := Try.call66
theorem callable67 : Callable Try.prog 67 := Try.call67
theorem callable68 : Callable Try.prog 68 := Try.call68
theorem callable69 : Callable Try.prog 69 := Try.call69
theorem callable70 : Callable Try.prog 70 := Try.call70
theorem callable71 : Callable Try.prog 71 := Try.call71
theorem callable72 : Callable Try.prog 72 := Try.call72
theorem callable73 : Callable Try.prog 73 := Try.call73
theorem callable74 : Callable Try.prog 74 := Try.call74
theorem callable75 : Callable Try.prog 75 := Try.call75
theorem callable77 : Callable Try.prog 77 := Try.call77
theorem callable78 : Callable Try.prog 78 := Try.call78
theorem callable80 : Callable Try.prog 80 := Try.call80
theorem callable81 : Callable Try.prog 81 := Try.call81
theorem callable82 : Callable Try.prog 82 := Try.call82
theorem callable83 : Callable Try.prog 83 := Try.call83
theorem callable84 : Callable Try.prog 84 := Try.call84
theorem callable85 : Callable Try.prog 85 := Try.call85
theorem mixed : Try.prog.follows .mixedOrders = true := Go.Checked.mixed Try.checked
theorem cntTy : CntTy Try.prog 55 := ⟨106, 3, 3, Try.underlying55, Try.underlying106, Try.underlying3, Try.isAgg3, Try.sizeOf3, Try.zeroValue3⟩
end Go.Proofs.Ytaeeahcokiebdaa
