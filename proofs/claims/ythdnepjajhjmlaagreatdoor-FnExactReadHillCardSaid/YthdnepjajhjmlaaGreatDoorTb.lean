/- The table of types of this seat, and the functions that are entered. -/
import Derived.Test.YthdnepjajhjmlaaGreatDoorCn10
import Derived.Test.YthdnepjajhjmlaaGreatDoorProg
import Derived.KernelRfl
namespace Go.Proofs.YthdnepjajhjmlaaGreatDoor
set_option linter.unusedSimpArgs false
set_option linter.unusedVariables false
open Go Cn
def tab : Tab := [
  (2, ⟨(TypeDesc.int IntKind.i64), 1, 8, .int .i64 0⟩),
  (3, ⟨(TypeDesc.int IntKind.i64), 1, 8, .int .i64 0⟩),
  (4, ⟨TypeDesc.bool, 1, 1, .bool false⟩),
  (5, ⟨(TypeDesc.int IntKind.u8), 1, 1, .int .u8 0⟩),
  (6, ⟨(TypeDesc.int IntKind.u8), 1, 1, .int .u8 0⟩),
  (9, ⟨TypeDesc.string, 1, 16, .string ⟨#[]⟩⟩),
  (10, ⟨TypeDesc.string, 1, 16, .string ⟨#[]⟩⟩),
  (11, ⟨TypeDesc.string, 1, 16, .string ⟨#[]⟩⟩),
  (12, ⟨(TypeDesc.int IntKind.u64), 1, 8, .int .u64 0⟩),
  (15, ⟨(TypeDesc.pointer 145), 1, 8, .pointer none⟩),
  (16, ⟨(TypeDesc.pointer 148), 1, 8, .pointer none⟩),
  (17, ⟨(TypeDesc.pointer 155), 1, 8, .pointer none⟩),
  (21, ⟨(TypeDesc.int IntKind.i32), 1, 4, .int .i32 0⟩),
  (22, ⟨(TypeDesc.slice 47), 1, 24, .slice none 0 0⟩),
  (23, ⟨(TypeDesc.struct #[{ name := "Wide", type := 2, offset := 0, embedded := false, tag := "", pkgPath := "", byteOffset := 0 }, { name := "High", type := 2, offset := 1, embedded := false, tag := "", pkgPath := "", byteOffset := 8 }, { name := "Heights", type := 22, offset := 2, embedded := false, tag := "", pkgPath := "", byteOffset := 16 }]), 3, 40, .agg #[.int .i64 0, .int .i64 0, .slice none 0 0]⟩),
  (24, ⟨(TypeDesc.struct #[{ name := "Wide", type := 2, offset := 0, embedded := false, tag := "", pkgPath := "", byteOffset := 0 }, { name := "High", type := 2, offset := 1, embedded := false, tag := "", pkgPath := "", byteOffset := 8 }, { name := "Heights", type := 22, offset := 2, embedded := false, tag := "", pkgPath := "", byteOffset := 16 }]), 3, 40, .agg #[.int .i64 0, .int .i64 0, .slice none 0 0]⟩),
  (32, ⟨(TypeDesc.slice 2), 1, 24, .slice none 0 0⟩),
  (40, ⟨(TypeDesc.slice 9), 1, 24, .slice none 0 0⟩),
  (47, ⟨(TypeDesc.float FloatKind.f32), 1, 4, .float .f32 0⟩),
  (52, ⟨(TypeDesc.float FloatKind.f64), 1, 8, .float .f64 0⟩),
  (56, ⟨(TypeDesc.pointer 24), 1, 8, .pointer none⟩),
  (65, ⟨(TypeDesc.int IntKind.u64), 1, 8, .int .u64 0⟩),
  (69, ⟨(TypeDesc.int IntKind.u32), 1, 4, .int .u32 0⟩),
  (77, ⟨(TypeDesc.int IntKind.u64), 1, 8, .int .u64 0⟩),
  (84, ⟨(TypeDesc.slice 5), 1, 24, .slice none 0 0⟩),
  (90, ⟨(TypeDesc.int IntKind.i64), 1, 8, .int .i64 0⟩),
  (91, ⟨(TypeDesc.pointer 110), 1, 8, .pointer none⟩),
  (98, ⟨(TypeDesc.pointer 100), 1, 8, .pointer none⟩),
  (99, ⟨(TypeDesc.struct #[{ name := "addr", type := 98, offset := 0, embedded := false, tag := "", pkgPath := "strings", byteOffset := 0 }, { name := "buf", type := 84, offset := 1, embedded := false, tag := "", pkgPath := "strings", byteOffset := 8 }]), 2, 32, .agg #[.pointer none, .slice none 0 0]⟩),
  (100, ⟨(TypeDesc.struct #[{ name := "addr", type := 98, offset := 0, embedded := false, tag := "", pkgPath := "strings", byteOffset := 0 }, { name := "buf", type := 84, offset := 1, embedded := false, tag := "", pkgPath := "strings", byteOffset := 8 }]), 2, 32, .agg #[.pointer none, .slice none 0 0]⟩),
  (113, ⟨(TypeDesc.array 24 5), 24, 24, .agg #[.int .u8 0, .int .u8 0, .int .u8 0, .int .u8 0, .int .u8 0, .int .u8 0, .int .u8 0, .int .u8 0, .int .u8 0, .int .u8 0, .int .u8 0, .int .u8 0, .int .u8 0, .int .u8 0, .int .u8 0, .int .u8 0, .int .u8 0, .int .u8 0, .int .u8 0, .int .u8 0, .int .u8 0, .int .u8 0, .int .u8 0, .int .u8 0]⟩),
  (121, ⟨(TypeDesc.pointer 5), 1, 8, .pointer none⟩),
  (123, ⟨(TypeDesc.array 256 5), 256, 256, .agg #[.int .u8 0, .int .u8 0, .int .u8 0, .int .u8 0, .int .u8 0, .int .u8 0, .int .u8 0, .int .u8 0, .int .u8 0, .int .u8 0, .int .u8 0, .int .u8 0, .int .u8 0, .int .u8 0, .int .u8 0, .int .u8 0, .int .u8 0, .int .u8 0, .int .u8 0, .int .u8 0, .int .u8 0, .int .u8 0, .int .u8 0, .int .u8 0, .int .u8 0, .int .u8 0, .int .u8 0, .int .u8 0, .int .u8 0, .int .u8 0, .int .u8 0, .int .u8 0, .int .u8 0, .int .u8 0, .int .u8 0, .int .u8 0, .int .u8 0, .int .u8 0, .int .u8 0, .int .u8 0, .int .u8 0, .int .u8 0, .int .u8 0, .int .u8 0, .int .u8 0, .int .u8 0, .int .u8 0, .int .u8 0, .int .u8 0, .int .u8 0, .int .u8 0, .int .u8 0, .int .u8 0, .int .u8 0, .int .u8 0, .int .u8 0, .int .u8 0, .int .u8 0, .int .u8 0, .int .u8 0, .int .u8 0, .int .u8 0, .int .u8 0, .int .u8 0, .int .u8 0, .int .u8 0, .int .u8 0, .int .u8 0, .int .u8 0, .int .u8 0, .int .u8 0, .int .u8 0, .int .u8 0, .int .u8 0, .int .u8 0, .int .u8 0, .int .u8 0, .int .u8 0, .int .u8 0, .int .u8 0, .int .u8 0, .int .u8 0, .int .u8 0, .int .u8 0, .int .u8 0, .int .u8 0, .int .u8 0, .int .u8 0, .int .u8 0, .int .u8 0, .int .u8 0, .int .u8 0, .int .u8 0, .int .u8 0, .int .u8 0, .int .u8 0, .int .u8 0, .int .u8 0, .int .u8 0, .int .u8 0, .int .u8 0, .int .u8 0, .int .u8 0, .int .u8 0, .int .u8 0, .int .u8 0, .int .u8 0, .int .u8 0, .int .u8 0, .int .u8 0, .int .u8 0, .int .u8 0, .int .u8 0, .int .u8 0, .int .u8 0, .int .u8 0, .int .u8 0, .int .u8 0, .int .u8 0, .int .u8 0, .int .u8 0, .int .u8 0, .int .u8 0, .int .u8 0, .int .u8 0, .int .u8 0, .int .u8 0, .int .u8 0, .int .u8 0, .int .u8 0, .int .u8 0, .int .u8 0, .int .u8 0, .int .u8 0, .int .u8 0, .int .u8 0, .int .u8 0, .int .u8 0, .int .u8 0, .int .u8 0, .int .u8 0, .int .u8 0, .int .u8 0, .int .u8 0, .int .u8 0, .int .u8 0, .int .u8 0, .int .u8 0, .int .u8 0, .int .u8 0, .int .u8 0, .int .u8 0, .int .u8 0, .int .u8 0, .int .u8 0, .int .u8 0, .int .u8 0, .int .u8 0, .int .u8 0, .int .u8 0, .int .u8 0, .int .u8 0, .int .u8 0, .int .u8 0, .int .u8 0, .int .u8 0, .int .u8 0, .int .u8 0, .int .u8 0, .int .u8 0, .int .u8 0, .int .u8 0, .int .u8 0, .int .u8 0, .int .u8 0, .int .u8 0, .int .u8 0, .int .u8 0, .int .u8 0, .int .u8 0, .int .u8 0, .int .u8 0, .int .u8 0, .int .u8 0, .int .u8 0, .int .u8 0, .int .u8 0, .int .u8 0, .int .u8 0, .int .u8 0, .int .u8 0, .int .u8 0, .int .u8 0, .int .u8 0, .int .u8 0, .int .u8 0, .int .u8 0, .int .u8 0, .int .u8 0, .int .u8 0, .int .u8 0, .int .u8 0, .int .u8 0, .int .u8 0, .int .u8 0, .int .u8 0, .int .u8 0, .int .u8 0, .int .u8 0, .int .u8 0, .int .u8 0, .int .u8 0, .int .u8 0, .int .u8 0, .int .u8 0, .int .u8 0, .int .u8 0, .int .u8 0, .int .u8 0, .int .u8 0, .int .u8 0, .int .u8 0, .int .u8 0, .int .u8 0, .int .u8 0, .int .u8 0, .int .u8 0, .int .u8 0, .int .u8 0, .int .u8 0, .int .u8 0, .int .u8 0, .int .u8 0, .int .u8 0, .int .u8 0, .int .u8 0, .int .u8 0, .int .u8 0, .int .u8 0, .int .u8 0, .int .u8 0, .int .u8 0, .int .u8 0, .int .u8 0, .int .u8 0, .int .u8 0, .int .u8 0, .int .u8 0, .int .u8 0, .int .u8 0, .int .u8 0, .int .u8 0, .int .u8 0, .int .u8 0, .int .u8 0, .int .u8 0]⟩),
  (124, ⟨(TypeDesc.struct #[{ name := "lo", type := 5, offset := 0, embedded := false, tag := "", pkgPath := "unicode/utf8", byteOffset := 0 }, { name := "hi", type := 5, offset := 1, embedded := false, tag := "", pkgPath := "unicode/utf8", byteOffset := 1 }]), 2, 2, .agg #[.int .u8 0, .int .u8 0]⟩),
  (125, ⟨(TypeDesc.struct #[{ name := "lo", type := 5, offset := 0, embedded := false, tag := "", pkgPath := "unicode/utf8", byteOffset := 0 }, { name := "hi", type := 5, offset := 1, embedded := false, tag := "", pkgPath := "unicode/utf8", byteOffset := 1 }]), 2, 2, .agg #[.int .u8 0, .int .u8 0]⟩),
  (126, ⟨(TypeDesc.array 16 125), 32, 32, .agg #[.int .u8 0, .int .u8 0, .int .u8 0, .int .u8 0, .int .u8 0, .int .u8 0, .int .u8 0, .int .u8 0, .int .u8 0, .int .u8 0, .int .u8 0, .int .u8 0, .int .u8 0, .int .u8 0, .int .u8 0, .int .u8 0, .int .u8 0, .int .u8 0, .int .u8 0, .int .u8 0, .int .u8 0, .int .u8 0, .int .u8 0, .int .u8 0, .int .u8 0, .int .u8 0, .int .u8 0, .int .u8 0, .int .u8 0, .int .u8 0, .int .u8 0, .int .u8 0]⟩),
  (127, ⟨(TypeDesc.pointer 129), 1, 8, .pointer none⟩),
  (128, ⟨(TypeDesc.struct #[{ name := "s", type := 9, offset := 0, embedded := false, tag := "", pkgPath := "errors", byteOffset := 0 }]), 1, 16, .agg #[.string ⟨#[]⟩]⟩),
  (129, ⟨(TypeDesc.struct #[{ name := "s", type := 9, offset := 0, embedded := false, tag := "", pkgPath := "errors", byteOffset := 0 }]), 1, 16, .agg #[.string ⟨#[]⟩]⟩),
  (131, ⟨(TypeDesc.array 20 65), 20, 160, .agg #[.int .u64 0, .int .u64 0, .int .u64 0, .int .u64 0, .int .u64 0, .int .u64 0, .int .u64 0, .int .u64 0, .int .u64 0, .int .u64 0, .int .u64 0, .int .u64 0, .int .u64 0, .int .u64 0, .int .u64 0, .int .u64 0, .int .u64 0, .int .u64 0, .int .u64 0, .int .u64 0]⟩),
  (132, ⟨(TypeDesc.array 65 5), 65, 65, .agg #[.int .u8 0, .int .u8 0, .int .u8 0, .int .u8 0, .int .u8 0, .int .u8 0, .int .u8 0, .int .u8 0, .int .u8 0, .int .u8 0, .int .u8 0, .int .u8 0, .int .u8 0, .int .u8 0, .int .u8 0, .int .u8 0, .int .u8 0, .int .u8 0, .int .u8 0, .int .u8 0, .int .u8 0, .int .u8 0, .int .u8 0, .int .u8 0, .int .u8 0, .int .u8 0, .int .u8 0, .int .u8 0, .int .u8 0, .int .u8 0, .int .u8 0, .int .u8 0, .int .u8 0, .int .u8 0, .int .u8 0, .int .u8 0, .int .u8 0, .int .u8 0, .int .u8 0, .int .u8 0, .int .u8 0, .int .u8 0, .int .u8 0, .int .u8 0, .int .u8 0, .int .u8 0, .int .u8 0, .int .u8 0, .int .u8 0, .int .u8 0, .int .u8 0, .int .u8 0, .int .u8 0, .int .u8 0, .int .u8 0, .int .u8 0, .int .u8 0, .int .u8 0, .int .u8 0, .int .u8 0, .int .u8 0, .int .u8 0, .int .u8 0, .int .u8 0, .int .u8 0]⟩),
  (142, ⟨(TypeDesc.array 32 5), 32, 32, .agg #[.int .u8 0, .int .u8 0, .int .u8 0, .int .u8 0, .int .u8 0, .int .u8 0, .int .u8 0, .int .u8 0, .int .u8 0, .int .u8 0, .int .u8 0, .int .u8 0, .int .u8 0, .int .u8 0, .int .u8 0, .int .u8 0, .int .u8 0, .int .u8 0, .int .u8 0, .int .u8 0, .int .u8 0, .int .u8 0, .int .u8 0, .int .u8 0, .int .u8 0, .int .u8 0, .int .u8 0, .int .u8 0, .int .u8 0, .int .u8 0, .int .u8 0, .int .u8 0]⟩),
  (143, ⟨(TypeDesc.array 64 5), 64, 64, .agg #[.int .u8 0, .int .u8 0, .int .u8 0, .int .u8 0, .int .u8 0, .int .u8 0, .int .u8 0, .int .u8 0, .int .u8 0, .int .u8 0, .int .u8 0, .int .u8 0, .int .u8 0, .int .u8 0, .int .u8 0, .int .u8 0, .int .u8 0, .int .u8 0, .int .u8 0, .int .u8 0, .int .u8 0, .int .u8 0, .int .u8 0, .int .u8 0, .int .u8 0, .int .u8 0, .int .u8 0, .int .u8 0, .int .u8 0, .int .u8 0, .int .u8 0, .int .u8 0, .int .u8 0, .int .u8 0, .int .u8 0, .int .u8 0, .int .u8 0, .int .u8 0, .int .u8 0, .int .u8 0, .int .u8 0, .int .u8 0, .int .u8 0, .int .u8 0, .int .u8 0, .int .u8 0, .int .u8 0, .int .u8 0, .int .u8 0, .int .u8 0, .int .u8 0, .int .u8 0, .int .u8 0, .int .u8 0, .int .u8 0, .int .u8 0, .int .u8 0, .int .u8 0, .int .u8 0, .int .u8 0, .int .u8 0, .int .u8 0, .int .u8 0, .int .u8 0]⟩),
  (146, ⟨(TypeDesc.array 0 16), 0, 0, .agg #[]⟩),
  (149, ⟨(TypeDesc.int IntKind.u8), 1, 1, .int .u8 0⟩),
  (150, ⟨(TypeDesc.int IntKind.u8), 1, 1, .int .u8 0⟩),
  (152, ⟨(TypeDesc.int IntKind.i32), 1, 4, .int .i32 0⟩),
  (153, ⟨(TypeDesc.int IntKind.i32), 1, 4, .int .i32 0⟩)]
set_option maxRecDepth 100000 in
theorem tabOk : TabOk Tryz.prog tab :=
  tabOk_cons Tryz.underlying2 (by kernel_rfl) <|
  tabOk_cons Tryz.underlying3 (by kernel_rfl) <|
  tabOk_cons Tryz.underlying4 (by kernel_rfl) <|
  tabOk_cons Tryz.underlying5 (by kernel_rfl) <|
  tabOk_cons Tryz.underlying6 (by kernel_rfl) <|
  tabOk_cons Tryz.underlying9 (by kernel_rfl) <|
  tabOk_cons Tryz.underlying10 (by kernel_rfl) <|
  tabOk_cons Tryz.underlying11 (by kernel_rfl) <|
  tabOk_cons Tryz.underlying12 (by kernel_rfl) <|
  tabOk_cons Tryz.underlying15 (by kernel_rfl) <|
  tabOk_cons Tryz.underlying16 (by kernel_rfl) <|
  tabOk_cons Tryz.underlying17 (by kernel_rfl) <|
  tabOk_cons Tryz.underlying21 (by kernel_rfl) <|
  tabOk_cons Tryz.underlying22 (by kernel_rfl) <|
  tabOk_cons Tryz.underlying23 (by kernel_rfl) <|
  tabOk_cons Tryz.underlying24 (by kernel_rfl) <|
  tabOk_cons Tryz.underlying32 (by kernel_rfl) <|
  tabOk_cons Tryz.underlying40 (by kernel_rfl) <|
  tabOk_cons Tryz.underlying47 (by kernel_rfl) <|
  tabOk_cons Tryz.underlying52 (by kernel_rfl) <|
  tabOk_cons Tryz.underlying56 (by kernel_rfl) <|
  tabOk_cons Tryz.underlying65 (by kernel_rfl) <|
  tabOk_cons Tryz.underlying69 (by kernel_rfl) <|
  tabOk_cons Tryz.underlying77 (by kernel_rfl) <|
  tabOk_cons Tryz.underlying84 (by kernel_rfl) <|
  tabOk_cons Tryz.underlying90 (by kernel_rfl) <|
  tabOk_cons Tryz.underlying91 (by kernel_rfl) <|
  tabOk_cons Tryz.underlying98 (by kernel_rfl) <|
  tabOk_cons Tryz.underlying99 (by kernel_rfl) <|
  tabOk_cons Tryz.underlying100 (by kernel_rfl) <|
  tabOk_cons Tryz.underlying113 (by kernel_rfl) <|
  tabOk_cons Tryz.underlying121 (by kernel_rfl) <|
  tabOk_cons Tryz.underlying123 (by kernel_rfl) <|
  tabOk_cons Tryz.underlying124 (by kernel_rfl) <|
  tabOk_cons Tryz.underlying125 (by kernel_rfl) <|
  tabOk_cons Tryz.underlying126 (by kernel_rfl) <|
  tabOk_cons Tryz.underlying127 (by kernel_rfl) <|
  tabOk_cons Tryz.underlying128 (by kernel_rfl) <|
  tabOk_cons Tryz.underlying129 (by kernel_rfl) <|
  tabOk_cons Tryz.underlying131 (by kernel_rfl) <|
  tabOk_cons Tryz.underlying132 (by kernel_rfl) <|
  tabOk_cons Tryz.underlying142 (by kernel_rfl) <|
  tabOk_cons Tryz.underlying143 (by kernel_rfl) <|
  tabOk_cons Tryz.underlying146 (by kernel_rfl) <|
  tabOk_cons Tryz.underlying149 (by kernel_rfl) <|
  tabOk_cons Tryz.underlying150 (by kernel_rfl) <|
  tabOk_cons Tryz.underlying152 (by kernel_rfl) <|
  tabOk_cons Tryz.underlying153 (by kernel_rfl) <|
  tabOk_nil _
theorem followsMixed : Tryz.prog.follows .mixedOrders = true := by kernel_rfl
theorem ent2 : Ent Tryz.prog 2 := ent_of Tryz.func2 rfl (by kernel_rfl)
theorem ent3 : Ent Tryz.prog 3 := ent_of Tryz.func3 rfl (by kernel_rfl)
theorem ent4 : Ent Tryz.prog 4 := ent_of Tryz.func4 rfl (by kernel_rfl)
theorem ent5 : Ent Tryz.prog 5 := ent_of Tryz.func5 rfl (by kernel_rfl)
theorem ent6 : Ent Tryz.prog 6 := ent_of Tryz.func6 rfl (by kernel_rfl)
theorem ent7 : Ent Tryz.prog 7 := ent_of Tryz.func7 rfl (by kernel_rfl)
theorem ent8 : Ent Tryz.prog 8 := ent_of Tryz.func8 rfl (by kernel_rfl)
theorem ent9 : Ent Tryz.prog 9 := ent_of Tryz.func9 rfl (by kernel_rfl)
theorem ent10 : Ent Tryz.prog 10 := ent_of Tryz.func10 rfl (by kernel_rfl)
theorem ent11 : Ent Tryz.prog 11 := ent_of Tryz.func11 rfl (by kernel_rfl)
theorem ent12 : Ent Tryz.prog 12 := ent_of Tryz.func12 rfl (by kernel_rfl)
theorem ent13 : Ent Tryz.prog 13 := ent_of Tryz.func13 rfl (by kernel_rfl)
theorem ent14 : Ent Tryz.prog 14 := ent_of Tryz.func14 rfl (by kernel_rfl)
theorem ent15 : Ent Tryz.prog 15 := ent_of Tryz.func15 rfl (by kernel_rfl)
theorem ent16 : Ent Tryz.prog 16 := ent_of Tryz.func16 rfl (by kernel_rfl)
theorem ent17 : Ent Tryz.prog 17 := ent_of Tryz.func17 rfl (by kernel_rfl)
theorem ent18 : Ent Tryz.prog 18 := ent_of Tryz.func18 rfl (by kernel_rfl)
theorem ent19 : Ent Tryz.prog 19 := ent_of Tryz.func19 rfl (by kernel_rfl)
theorem ent20 : Ent Tryz.prog 20 := ent_of Tryz.func20 rfl (by kernel_rfl)
theorem ent21 : Ent Tryz.prog 21 := ent_of Tryz.func21 rfl (by kernel_rfl)
theorem ent22 : Ent Tryz.prog 22 := ent_of Tryz.func22 rfl (by kernel_rfl)
theorem ent23 : Ent Tryz.prog 23 := ent_of Tryz.func23 rfl (by kernel_rfl)
theorem ent24 : Ent Tryz.prog 24 := ent_of Tryz.func24 rfl (by kernel_rfl)
theorem ent25 : Ent Tryz.prog 25 := ent_of Tryz.func25 rfl (by kernel_rfl)
theorem ent26 : Ent Tryz.prog 26 := ent_of Tryz.func26 rfl (by kernel_rfl)
theorem ent27 : Ent Tryz.prog 27 := ent_of Tryz.func27 rfl (by kernel_rfl)
theorem ent28 : Ent Tryz.prog 28 := ent_of Tryz.func28 rfl (by kernel_rfl)
theorem ent29 : Ent Tryz.prog 29 := ent_of Tryz.func29 rfl (by kernel_rfl)
theorem ent30 : Ent Tryz.prog 30 := ent_of Tryz.func30 rfl (by kernel_rfl)
theorem ent31 : Ent Tryz.prog 31 := ent_of Tryz.func31 rfl (by kernel_rfl)
theorem ent32 : Ent Tryz.prog 32 := ent_of Tryz.func32 rfl (by kernel_rfl)
theorem ent33 : Ent Tryz.prog 33 := ent_of Tryz.func33 rfl (by kernel_rfl)
theorem ent34 : Ent Tryz.prog 34 := ent_of Tryz.func34 rfl (by kernel_rfl)
theorem ent35 : Ent Tryz.prog 35 := ent_of Tryz.func35 rfl (by kernel_rfl)
theorem ent36 : Ent Tryz.prog 36 := ent_of Tryz.func36 rfl (by kernel_rfl)
theorem ent37 : Ent Tryz.prog 37 := ent_of Tryz.func37 rfl (by kernel_rfl)
theorem ent39 : Ent Tryz.prog 39 := ent_of Tryz.func39 rfl (by kernel_rfl)
theorem ent40 : Ent Tryz.prog 40 := ent_of Tryz.func40 rfl (by kernel_rfl)
theorem ent41 : Ent Tryz.prog 41 := ent_of Tryz.func41 rfl (by kernel_rfl)
theorem ent42 : Ent Tryz.prog 42 := ent_of Tryz.func42 rfl (by kernel_rfl)
theorem ent43 : Ent Tryz.prog 43 := ent_of Tryz.func43 rfl (by kernel_rfl)
theorem ent45 : Ent Tryz.prog 45 := ent_of Tryz.func45 rfl (by kernel_rfl)
theorem ent46 : Ent Tryz.prog 46 := ent_of Tryz.func46 rfl (by kernel_rfl)
theorem ent47 : Ent Tryz.prog 47 := ent_of Tryz.func47 rfl (by kernel_rfl)
theorem ent49 : Ent Tryz.prog 49 := ent_of Tryz.func49 rfl (by kernel_rfl)
theorem ent50 : Ent Tryz.prog 50 := ent_of Tryz.func50 rfl (by kernel_rfl)
theorem ent51 : Ent Tryz.prog 51 := ent_of Tryz.func51 rfl (by kernel_rfl)
theorem ent52 : Ent Tryz.prog 52 := ent_of Tryz.func52 rfl (by kernel_rfl)
theorem ent53 : Ent Tryz.prog 53 := ent_of Tryz.func53 rfl (by kernel_rfl)
theorem ent54 : Ent Tryz.prog 54 := ent_of Tryz.func54 rfl (by kernel_rfl)
theorem ent55 : Ent Tryz.prog 55 := ent_of Tryz.func55 rfl (by kernel_rfl)
theorem ent56 : Ent Tryz.prog 56 := ent_of Tryz.func56 rfl (by kernel_rfl)
theorem ent57 : Ent Tryz.prog 57 := ent_of Tryz.func57 rfl (by kernel_rfl)
theorem ent58 : Ent Tryz.prog 58 := ent_of Tryz.func58 rfl (by kernel_rfl)
theorem ent59 : Ent Tryz.prog 59 := ent_of Tryz.func59 rfl (by kernel_rfl)
theorem ent60 : Ent Tryz.prog 60 := ent_of Tryz.func60 rfl (by kernel_rfl)
theorem ent61 : Ent Tryz.prog 61 := ent_of Tryz.func61 rfl (by kernel_rfl)
theorem ent62 : Ent Tryz.prog 62 := ent_of Tryz.func62 rfl (by kernel_rfl)
theorem ent63 : Ent Tryz.prog 63 := ent_of Tryz.func63 rfl (by kernel_rfl)
theorem ent65 : Ent Tryz.prog 65 := ent_of Tryz.func65 rfl (by kernel_rfl)
theorem ent66 : Ent Tryz.prog 66 := ent_of Tryz.func66 rfl (by kernel_rfl)
theorem ent67 : Ent Tryz.prog 67 := ent_of Tryz.func67 rfl (by kernel_rfl)
theorem ent69 : Ent Tryz.prog 69 := ent_of Tryz.func69 rfl (by kernel_rfl)
theorem ent70 : Ent Tryz.prog 70 := ent_of Tryz.func70 rfl (by kernel_rfl)
theorem ent71 : Ent Tryz.prog 71 := ent_of Tryz.func71 rfl (by kernel_rfl)
theorem ent72 : Ent Tryz.prog 72 := ent_of Tryz.func72 rfl (by kernel_rfl)
theorem ent73 : Ent Tryz.prog 73 := ent_of Tryz.func73 rfl (by kernel_rfl)
theorem ent74 : Ent Tryz.prog 74 := ent_of Tryz.func74 rfl (by kernel_rfl)
theorem ent75 : Ent Tryz.prog 75 := ent_of Tryz.func75 rfl (by kernel_rfl)
theorem ent76 : Ent Tryz.prog 76 := ent_of Tryz.func76 rfl (by kernel_rfl)
theorem ent77 : Ent Tryz.prog 77 := ent_of Tryz.func77 rfl (by kernel_rfl)
theorem ent78 : Ent Tryz.prog 78 := ent_of Tryz.func78 rfl (by kernel_rfl)
theorem ent79 : Ent Tryz.prog 79 := ent_of Tryz.func79 rfl (by kernel_rfl)
theorem ent80 : Ent Tryz.prog 80 := ent_of Tryz.func80 rfl (by kernel_rfl)
theorem ent81 : Ent Tryz.prog 81 := ent_of Tryz.func81 rfl (by kernel_rfl)
theorem ent82 : Ent Tryz.prog 82 := ent_of Tryz.func82 rfl (by kernel_rfl)
theorem ent83 : Ent Tryz.prog 83 := ent_of Tryz.func83 rfl (by kernel_rfl)
theorem ent84 : Ent Tryz.prog 84 := ent_of Tryz.func84 rfl (by kernel_rfl)
theorem ent85 : Ent Tryz.prog 85 := ent_of Tryz.func85 rfl (by kernel_rfl)
theorem ent86 : Ent Tryz.prog 86 := ent_of Tryz.func86 rfl (by kernel_rfl)
theorem ent87 : Ent Tryz.prog 87 := ent_of Tryz.func87 rfl (by kernel_rfl)
theorem ent88 : Ent Tryz.prog 88 := ent_of Tryz.func88 rfl (by kernel_rfl)
theorem ent89 : Ent Tryz.prog 89 := ent_of Tryz.func89 rfl (by kernel_rfl)
theorem ent90 : Ent Tryz.prog 90 := ent_of Tryz.func90 rfl (by kernel_rfl)
theorem ent91 : Ent Tryz.prog 91 := ent_of Tryz.func91 rfl (by kernel_rfl)
theorem ent92 : Ent Tryz.prog 92 := ent_of Tryz.func92 rfl (by kernel_rfl)
theorem ent93 : Ent Tryz.prog 93 := ent_of Tryz.func93 rfl (by kernel_rfl)
theorem ent94 : Ent Tryz.prog 94 := ent_of Tryz.func94 rfl (by kernel_rfl)
theorem ent95 : Ent Tryz.prog 95 := ent_of Tryz.func95 rfl (by kernel_rfl)
theorem ent96 : Ent Tryz.prog 96 := ent_of Tryz.func96 rfl (by kernel_rfl)
theorem ent97 : Ent Tryz.prog 97 := ent_of Tryz.func97 rfl (by kernel_rfl)
theorem ent98 : Ent Tryz.prog 98 := ent_of Tryz.func98 rfl (by kernel_rfl)
theorem ent99 : Ent Tryz.prog 99 := ent_of Tryz.func99 rfl (by kernel_rfl)
theorem ent100 : Ent Tryz.prog 100 := ent_of Tryz.func100 rfl (by kernel_rfl)
theorem ent101 : Ent Tryz.prog 101 := ent_of Tryz.func101 rfl (by kernel_rfl)
theorem ent102 : Ent Tryz.prog 102 := ent_of Tryz.func102 rfl (by kernel_rfl)
theorem ent103 : Ent Tryz.prog 103 := ent_of Tryz.func103 rfl (by kernel_rfl)
theorem ent104 : Ent Tryz.prog 104 := ent_of Tryz.func104 rfl (by kernel_rfl)
theorem ent107 : Ent Tryz.prog 107 := ent_of Tryz.func107 rfl (by kernel_rfl)
theorem ent108 : Ent Tryz.prog 108 := ent_of Tryz.func108 rfl (by kernel_rfl)
theorem ent109 : Ent Tryz.prog 109 := ent_of Tryz.func109 rfl (by kernel_rfl)
theorem ent142 : Ent Tryz.prog 142 := ent_of Tryz.func142 rfl (by kernel_rfl)
theorem x_math_Float64bits {B : Nat} {W : World} (x : Nat) : AExt Tryz.prog B 111 [.float .f64 x] W (fun v W' => (∃ b : Nat, v = .int .u64 b ∧ cb .f64 b = x) ∧ W' = W) := ext_f64bits Tryz.func111 (by kernel_rfl) (by kernel_rfl) (by kernel_rfl) (by kernel_rfl) x
theorem x_math_Float64frombits {B : Nat} {W : World} (x : Int) : AExt Tryz.prog B 110 [.int .u64 x] W (fun v W' => v = .float .f64 (cb .f64 x.toNat) ∧ W' = W) := ext_f64frombits Tryz.func110 (by kernel_rfl) (by kernel_rfl) (by kernel_rfl) (by kernel_rfl) x
theorem x_math_Float32bits {B : Nat} {W : World} (x : Nat) : AExt Tryz.prog B 44 [.float .f32 x] W (fun v W' => (∃ b : Nat, v = .int .u32 b ∧ cb .f32 b = x) ∧ W' = W) := ext_f32bits Tryz.func44 (by kernel_rfl) (by kernel_rfl) (by kernel_rfl) (by kernel_rfl) x
theorem x_math_Float32frombits {B : Nat} {W : World} (x : Int) : AExt Tryz.prog B 38 [.int .u32 x] W (fun v W' => v = .float .f32 (cb .f32 x.toNat) ∧ W' = W) := ext_f32frombits Tryz.func38 (by kernel_rfl) (by kernel_rfl) (by kernel_rfl) (by kernel_rfl) x
end Go.Proofs.YthdnepjajhjmlaaGreatDoor
