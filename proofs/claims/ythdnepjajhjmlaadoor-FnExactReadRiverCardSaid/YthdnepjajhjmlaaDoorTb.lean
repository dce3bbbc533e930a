/- The table of types of this seat, and the functions that are entered. -/
import Derived.Test.YthdnepjajhjmlaaDoorCn10
import Derived.Test.YthdnepjajhjmlaaDoorProg
import Derived.KernelRfl
namespace Go.Proofs.YthdnepjajhjmlaaDoor
set_option linter.unusedSimpArgs false
set_option linter.unusedVariables false
open Go Cn
def tab : Tab := [
  (2, ⟨(TypeDesc.int IntKind.i64), 1, 8, .int .i64 0⟩),
  (3, ⟨(TypeDesc.int IntKind.i64), 1, 8, .int .i64 0⟩),
  (4, ⟨TypeDesc.bool, 1, 1, .bool false⟩),
  (5, ⟨(TypeDesc.int IntKind.u8), 1, 1, .int .u8 0⟩),
  (6, ⟨(TypeDesc.int IntKind.u8), 1, 1, .int .u8 0⟩),
  (9, ⟨TypeDesc.string, 1, 16, .string ⟨#[]⟩⟩),
  (10, ⟨TypeDesc.string, 1, 16, .string ⟨#[]⟩⟩),
  (11, ⟨TypeDesc.string, 1, 16, .string ⟨#[]⟩⟩),
  (12, ⟨(TypeDesc.int IntKind.u64), 1, 8, .int .u64 0⟩),
  (15, ⟨(TypeDesc.pointer 241), 1, 8, .pointer none⟩),
  (16, ⟨(TypeDesc.pointer 244), 1, 8, .pointer none⟩),
  (17, ⟨(TypeDesc.pointer 251), 1, 8, .pointer none⟩),
  (21, ⟨(TypeDesc.int IntKind.i32), 1, 4, .int .i32 0⟩),
  (25, ⟨(TypeDesc.slice 9), 1, 24, .slice none 0 0⟩),
  (34, ⟨(TypeDesc.slice 2), 1, 24, .slice none 0 0⟩),
  (35, ⟨(TypeDesc.slice 152), 1, 24, .slice none 0 0⟩),
  (36, ⟨(TypeDesc.struct #[{ name := "Downs", type := 34, offset := 0, embedded := false, tag := "", pkgPath := "", byteOffset := 0 }, { name := "Dams", type := 35, offset := 1, embedded := false, tag := "", pkgPath := "", byteOffset := 24 }, { name := "Wants", type := 34, offset := 2, embedded := false, tag := "", pkgPath := "", byteOffset := 48 }]), 3, 72, .agg #[.slice none 0 0, .slice none 0 0, .slice none 0 0]⟩),
  (37, ⟨(TypeDesc.struct #[{ name := "Downs", type := 34, offset := 0, embedded := false, tag := "", pkgPath := "", byteOffset := 0 }, { name := "Dams", type := 35, offset := 1, embedded := false, tag := "", pkgPath := "", byteOffset := 24 }, { name := "Wants", type := 34, offset := 2, embedded := false, tag := "", pkgPath := "", byteOffset := 48 }]), 3, 72, .agg #[.slice none 0 0, .slice none 0 0, .slice none 0 0]⟩),
  (40, ⟨(TypeDesc.slice 109), 1, 24, .slice none 0 0⟩),
  (41, ⟨(TypeDesc.struct #[{ name := "Downs", type := 34, offset := 0, embedded := false, tag := "", pkgPath := "", byteOffset := 0 }, { name := "Dams", type := 40, offset := 1, embedded := false, tag := "", pkgPath := "", byteOffset := 24 }, { name := "Wants", type := 34, offset := 2, embedded := false, tag := "", pkgPath := "", byteOffset := 48 }]), 3, 72, .agg #[.slice none 0 0, .slice none 0 0, .slice none 0 0]⟩),
  (42, ⟨(TypeDesc.struct #[{ name := "Downs", type := 34, offset := 0, embedded := false, tag := "", pkgPath := "", byteOffset := 0 }, { name := "Dams", type := 40, offset := 1, embedded := false, tag := "", pkgPath := "", byteOffset := 24 }, { name := "Wants", type := 34, offset := 2, embedded := false, tag := "", pkgPath := "", byteOffset := 48 }]), 3, 72, .agg #[.slice none 0 0, .slice none 0 0, .slice none 0 0]⟩),
  (49, ⟨(TypeDesc.float FloatKind.f32), 1, 4, .float .f32 0⟩),
  (50, ⟨(TypeDesc.struct #[{ name := "Take", type := 49, offset := 0, embedded := false, tag := "", pkgPath := "", byteOffset := 0 }, { name := "Suck", type := 49, offset := 1, embedded := false, tag := "", pkgPath := "", byteOffset := 4 }, { name := "Hold", type := 49, offset := 2, embedded := false, tag := "", pkgPath := "", byteOffset := 8 }, { name := "Drain", type := 49, offset := 3, embedded := false, tag := "", pkgPath := "", byteOffset := 12 }, { name := "Wet", type := 49, offset := 4, embedded := false, tag := "", pkgPath := "", byteOffset := 16 }]), 5, 20, .agg #[.float .f32 0, .float .f32 0, .float .f32 0, .float .f32 0, .float .f32 0]⟩),
  (51, ⟨(TypeDesc.struct #[{ name := "Take", type := 49, offset := 0, embedded := false, tag := "", pkgPath := "", byteOffset := 0 }, { name := "Suck", type := 49, offset := 1, embedded := false, tag := "", pkgPath := "", byteOffset := 4 }, { name := "Hold", type := 49, offset := 2, embedded := false, tag := "", pkgPath := "", byteOffset := 8 }, { name := "Drain", type := 49, offset := 3, embedded := false, tag := "", pkgPath := "", byteOffset := 12 }, { name := "Wet", type := 49, offset := 4, embedded := false, tag := "", pkgPath := "", byteOffset := 16 }]), 5, 20, .agg #[.float .f32 0, .float .f32 0, .float .f32 0, .float .f32 0, .float .f32 0]⟩),
  (53, ⟨(TypeDesc.struct #[{ name := "Take", type := 49, offset := 0, embedded := false, tag := "", pkgPath := "", byteOffset := 0 }, { name := "Suck", type := 49, offset := 1, embedded := false, tag := "", pkgPath := "", byteOffset := 4 }, { name := "Hold", type := 49, offset := 2, embedded := false, tag := "", pkgPath := "", byteOffset := 8 }, { name := "Drain", type := 49, offset := 3, embedded := false, tag := "", pkgPath := "", byteOffset := 12 }, { name := "Wet", type := 49, offset := 4, embedded := false, tag := "", pkgPath := "", byteOffset := 16 }]), 5, 20, .agg #[.float .f32 0, .float .f32 0, .float .f32 0, .float .f32 0, .float .f32 0]⟩),
  (56, ⟨(TypeDesc.struct #[{ name := "Wide", type := 49, offset := 0, embedded := false, tag := "", pkgPath := "", byteOffset := 0 }, { name := "Bank", type := 49, offset := 1, embedded := false, tag := "", pkgPath := "", byteOffset := 4 }, { name := "Slope", type := 49, offset := 2, embedded := false, tag := "", pkgPath := "", byteOffset := 8 }, { name := "Rough", type := 49, offset := 3, embedded := false, tag := "", pkgPath := "", byteOffset := 12 }]), 4, 16, .agg #[.float .f32 0, .float .f32 0, .float .f32 0, .float .f32 0]⟩),
  (57, ⟨(TypeDesc.struct #[{ name := "Wide", type := 49, offset := 0, embedded := false, tag := "", pkgPath := "", byteOffset := 0 }, { name := "Bank", type := 49, offset := 1, embedded := false, tag := "", pkgPath := "", byteOffset := 4 }, { name := "Slope", type := 49, offset := 2, embedded := false, tag := "", pkgPath := "", byteOffset := 8 }, { name := "Rough", type := 49, offset := 3, embedded := false, tag := "", pkgPath := "", byteOffset := 12 }]), 4, 16, .agg #[.float .f32 0, .float .f32 0, .float .f32 0, .float .f32 0]⟩),
  (59, ⟨(TypeDesc.struct #[{ name := "Wide", type := 49, offset := 0, embedded := false, tag := "", pkgPath := "", byteOffset := 0 }, { name := "Bank", type := 49, offset := 1, embedded := false, tag := "", pkgPath := "", byteOffset := 4 }, { name := "Slope", type := 49, offset := 2, embedded := false, tag := "", pkgPath := "", byteOffset := 8 }, { name := "Rough", type := 49, offset := 3, embedded := false, tag := "", pkgPath := "", byteOffset := 12 }]), 4, 16, .agg #[.float .f32 0, .float .f32 0, .float .f32 0, .float .f32 0]⟩),
  (62, ⟨(TypeDesc.slice 49), 1, 24, .slice none 0 0⟩),
  (63, ⟨(TypeDesc.struct #[{ name := "Wide", type := 2, offset := 0, embedded := false, tag := "", pkgPath := "", byteOffset := 0 }, { name := "High", type := 2, offset := 1, embedded := false, tag := "", pkgPath := "", byteOffset := 8 }, { name := "Heights", type := 62, offset := 2, embedded := false, tag := "", pkgPath := "", byteOffset := 16 }]), 3, 40, .agg #[.int .i64 0, .int .i64 0, .slice none 0 0]⟩),
  (64, ⟨(TypeDesc.struct #[{ name := "Wide", type := 2, offset := 0, embedded := false, tag := "", pkgPath := "", byteOffset := 0 }, { name := "High", type := 2, offset := 1, embedded := false, tag := "", pkgPath := "", byteOffset := 8 }, { name := "Heights", type := 62, offset := 2, embedded := false, tag := "", pkgPath := "", byteOffset := 16 }]), 3, 40, .agg #[.int .i64 0, .int .i64 0, .slice none 0 0]⟩),
  (67, ⟨(TypeDesc.struct #[{ name := "Wide", type := 2, offset := 0, embedded := false, tag := "", pkgPath := "", byteOffset := 0 }, { name := "High", type := 2, offset := 1, embedded := false, tag := "", pkgPath := "", byteOffset := 8 }, { name := "Heights", type := 62, offset := 2, embedded := false, tag := "", pkgPath := "", byteOffset := 16 }]), 3, 40, .agg #[.int .i64 0, .int .i64 0, .slice none 0 0]⟩),
  (82, ⟨(TypeDesc.pointer 85), 1, 8, .pointer none⟩),
  (83, ⟨(TypeDesc.slice 5), 1, 24, .slice none 0 0⟩),
  (84, ⟨(TypeDesc.struct #[{ name := "addr", type := 82, offset := 0, embedded := false, tag := "", pkgPath := "strings", byteOffset := 0 }, { name := "buf", type := 83, offset := 1, embedded := false, tag := "", pkgPath := "strings", byteOffset := 8 }]), 2, 32, .agg #[.pointer none, .slice none 0 0]⟩),
  (85, ⟨(TypeDesc.struct #[{ name := "addr", type := 82, offset := 0, embedded := false, tag := "", pkgPath := "strings", byteOffset := 0 }, { name := "buf", type := 83, offset := 1, embedded := false, tag := "", pkgPath := "strings", byteOffset := 8 }]), 2, 32, .agg #[.pointer none, .slice none 0 0]⟩),
  (103, ⟨(TypeDesc.pointer 42), 1, 8, .pointer none⟩),
  (108, ⟨(TypeDesc.struct #[{ name := "Size", type := 2, offset := 0, embedded := false, tag := "", pkgPath := "", byteOffset := 0 }, { name := "Dead", type := 2, offset := 1, embedded := false, tag := "", pkgPath := "", byteOffset := 8 }, { name := "Least", type := 2, offset := 2, embedded := false, tag := "", pkgPath := "", byteOffset := 16 }, { name := "Now", type := 2, offset := 3, embedded := false, tag := "", pkgPath := "", byteOffset := 24 }]), 4, 32, .agg #[.int .i64 0, .int .i64 0, .int .i64 0, .int .i64 0]⟩),
  (109, ⟨(TypeDesc.struct #[{ name := "Size", type := 2, offset := 0, embedded := false, tag := "", pkgPath := "", byteOffset := 0 }, { name := "Dead", type := 2, offset := 1, embedded := false, tag := "", pkgPath := "", byteOffset := 8 }, { name := "Least", type := 2, offset := 2, embedded := false, tag := "", pkgPath := "", byteOffset := 16 }, { name := "Now", type := 2, offset := 3, embedded := false, tag := "", pkgPath := "", byteOffset := 24 }]), 4, 32, .agg #[.int .i64 0, .int .i64 0, .int .i64 0, .int .i64 0]⟩),
  (122, ⟨(TypeDesc.pointer 53), 1, 8, .pointer none⟩),
  (127, ⟨(TypeDesc.pointer 59), 1, 8, .pointer none⟩),
  (132, ⟨(TypeDesc.pointer 67), 1, 8, .pointer none⟩),
  (141, ⟨(TypeDesc.float FloatKind.f64), 1, 8, .float .f64 0⟩),
  (145, ⟨(TypeDesc.pointer 5), 1, 8, .pointer none⟩),
  (148, ⟨(TypeDesc.pointer 109), 1, 8, .pointer none⟩),
  (152, ⟨(TypeDesc.struct #[{ name := "Size", type := 2, offset := 0, embedded := false, tag := "", pkgPath := "", byteOffset := 0 }, { name := "Dead", type := 2, offset := 1, embedded := false, tag := "", pkgPath := "", byteOffset := 8 }, { name := "Least", type := 2, offset := 2, embedded := false, tag := "", pkgPath := "", byteOffset := 16 }, { name := "Now", type := 2, offset := 3, embedded := false, tag := "", pkgPath := "", byteOffset := 24 }]), 4, 32, .agg #[.int .i64 0, .int .i64 0, .int .i64 0, .int .i64 0]⟩),
  (182, ⟨(TypeDesc.int IntKind.u64), 1, 8, .int .u64 0⟩),
  (186, ⟨(TypeDesc.int IntKind.u32), 1, 4, .int .u32 0⟩),
  (189, ⟨(TypeDesc.int IntKind.u64), 1, 8, .int .u64 0⟩),
  (190, ⟨(TypeDesc.array 24 5), 24, 24, .agg #[.int .u8 0, .int .u8 0, .int .u8 0, .int .u8 0, .int .u8 0, .int .u8 0, .int .u8 0, .int .u8 0, .int .u8 0, .int .u8 0, .int .u8 0, .int .u8 0, .int .u8 0, .int .u8 0, .int .u8 0, .int .u8 0, .int .u8 0, .int .u8 0, .int .u8 0, .int .u8 0, .int .u8 0, .int .u8 0, .int .u8 0, .int .u8 0]⟩),
  (208, ⟨(TypeDesc.array 20 182), 20, 160, .agg #[.int .u64 0, .int .u64 0, .int .u64 0, .int .u64 0, .int .u64 0, .int .u64 0, .int .u64 0, .int .u64 0, .int .u64 0, .int .u64 0, .int .u64 0, .int .u64 0, .int .u64 0, .int .u64 0, .int .u64 0, .int .u64 0, .int .u64 0, .int .u64 0, .int .u64 0, .int .u64 0]⟩),
  (209, ⟨(TypeDesc.array 65 5), 65, 65, .agg #[.int .u8 0, .int .u8 0, .int .u8 0, .int .u8 0, .int .u8 0, .int .u8 0, .int .u8 0, .int .u8 0, .int .u8 0, .int .u8 0, .int .u8 0, .int .u8 0, .int .u8 0, .int .u8 0, .int .u8 0, .int .u8 0, .int .u8 0, .int .u8 0, .int .u8 0, .int .u8 0, .int .u8 0, .int .u8 0, .int .u8 0, .int .u8 0, .int .u8 0, .int .u8 0, .int .u8 0, .int .u8 0, .int .u8 0, .int .u8 0, .int .u8 0, .int .u8 0, .int .u8 0, .int .u8 0, .int .u8 0, .int .u8 0, .int .u8 0, .int .u8 0, .int .u8 0, .int .u8 0, .int .u8 0, .int .u8 0, .int .u8 0, .int .u8 0, .int .u8 0, .int .u8 0, .int .u8 0, .int .u8 0, .int .u8 0, .int .u8 0, .int .u8 0, .int .u8 0, .int .u8 0, .int .u8 0, .int .u8 0, .int .u8 0, .int .u8 0, .int .u8 0, .int .u8 0, .int .u8 0, .int .u8 0, .int .u8 0, .int .u8 0, .int .u8 0, .int .u8 0]⟩),
  (212, ⟨(TypeDesc.int IntKind.i64), 1, 8, .int .i64 0⟩),
  (213, ⟨(TypeDesc.pointer 227), 1, 8, .pointer none⟩),
  (221, ⟨(TypeDesc.array 256 5), 256, 256, .agg #[.int .u8 0, .int .u8 0, .int .u8 0, .int .u8 0, .int .u8 0, .int .u8 0, .int .u8 0, .int .u8 0, .int .u8 0, .int .u8 0, .int .u8 0, .int .u8 0, .int .u8 0, .int .u8 0, .int .u8 0, .int .u8 0, .int .u8 0, .int .u8 0, .int .u8 0, .int .u8 0, .int .u8 0, .int .u8 0, .int .u8 0, .int .u8 0, .int .u8 0, .int .u8 0, .int .u8 0, .int .u8 0, .int .u8 0, .int .u8 0, .int .u8 0, .int .u8 0, .int .u8 0, .int .u8 0, .int .u8 0, .int .u8 0, .int .u8 0, .int .u8 0, .int .u8 0, .int .u8 0, .int .u8 0, .int .u8 0, .int .u8 0, .int .u8 0, .int .u8 0, .int .u8 0, .int .u8 0, .int .u8 0, .int .u8 0, .int .u8 0, .int .u8 0, .int .u8 0, .int .u8 0, .int .u8 0, .int .u8 0, .int .u8 0, .int .u8 0, .int .u8 0, .int .u8 0, .int .u8 0, .int .u8 0, .int .u8 0, .int .u8 0, .int .u8 0, .int .u8 0, .int .u8 0, .int .u8 0, .int .u8 0, .int .u8 0, .int .u8 0, .int .u8 0, .int .u8 0, .int .u8 0, .int .u8 0, .int .u8 0, .int .u8 0, .int .u8 0, .int .u8 0, .int .u8 0, .int .u8 0, .int .u8 0, .int .u8 0, .int .u8 0, .int .u8 0, .int .u8 0, .int .u8 0, .int .u8 0, .int .u8 0, .int .u8 0, .int .u8 0, .int .u8 0, .int .u8 0, .int .u8 0, .int .u8 0, .int .u8 0, .int .u8 0, .int .u8 0, .int .u8 0, .int .u8 0, .int .u8 0, .int .u8 0, .int .u8 0, .int .u8 0, .int .u8 0, .int .u8 0, .int .u8 0, .int .u8 0, .int .u8 0, .int .u8 0, .int .u8 0, .int .u8 0, .int .u8 0, .int .u8 0, .int .u8 0, .int .u8 0, .int .u8 0, .int .u8 0, .int .u8 0, .int .u8 0, .int .u8 0, .int .u8 0, .int .u8 0, .int .u8 0, .int .u8 0, .int .u8 0, .int .u8 0, .int .u8 0, .int .u8 0, .int .u8 0, .int .u8 0, .int .u8 0, .int .u8 0, .int .u8 0, .int .u8 0, .int .u8 0, .int .u8 0, .int .u8 0, .int .u8 0, .int .u8 0, .int .u8 0, .int .u8 0, .int .u8 0, .int .u8 0, .int .u8 0, .int .u8 0, .int .u8 0, .int .u8 0, .int .u8 0, .int .u8 0, .int .u8 0, .int .u8 0, .int .u8 0, .int .u8 0, .int .u8 0, .int .u8 0, .int .u8 0, .int .u8 0, .int .u8 0, .int .u8 0, .int .u8 0, .int .u8 0, .int .u8 0, .int .u8 0, .int .u8 0, .int .u8 0, .int .u8 0, .int .u8 0, .int .u8 0, .int .u8 0, .int .u8 0, .int .u8 0, .int .u8 0, .int .u8 0, .int .u8 0, .int .u8 0, .int .u8 0, .int .u8 0, .int .u8 0, .int .u8 0, .int .u8 0, .int .u8 0, .int .u8 0, .int .u8 0, .int .u8 0, .int .u8 0, .int .u8 0, .int .u8 0, .int .u8 0, .int .u8 0, .int .u8 0, .int .u8 0, .int .u8 0, .int .u8 0, .int .u8 0, .int .u8 0, .int .u8 0, .int .u8 0, .int .u8 0, .int .u8 0, .int .u8 0, .int .u8 0, .int .u8 0, .int .u8 0, .int .u8 0, .int .u8 0, .int .u8 0, .int .u8 0, .int .u8 0, .int .u8 0, .int .u8 0, .int .u8 0, .int .u8 0, .int .u8 0, .int .u8 0, .int .u8 0, .int .u8 0, .int .u8 0, .int .u8 0, .int .u8 0, .int .u8 0, .int .u8 0, .int .u8 0, .int .u8 0, .int .u8 0, .int .u8 0, .int .u8 0, .int .u8 0, .int .u8 0, .int .u8 0, .int .u8 0, .int .u8 0, .int .u8 0, .int .u8 0, .int .u8 0, .int .u8 0, .int .u8 0, .int .u8 0, .int .u8 0, .int .u8 0, .int .u8 0, .int .u8 0, .int .u8 0, .int .u8 0, .int .u8 0, .int .u8 0, .int .u8 0, .int .u8 0, .int .u8 0, .int .u8 0, .int .u8 0, .int .u8 0, .int .u8 0, .int .u8 0, .int .u8 0, .int .u8 0, .int .u8 0]⟩),
  (222, ⟨(TypeDesc.struct #[{ name := "lo", type := 5, offset := 0, embedded := false, tag := "", pkgPath := "unicode/utf8", byteOffset := 0 }, { name := "hi", type := 5, offset := 1, embedded := false, tag := "", pkgPath := "unicode/utf8", byteOffset := 1 }]), 2, 2, .agg #[.int .u8 0, .int .u8 0]⟩),
  (223, ⟨(TypeDesc.struct #[{ name := "lo", type := 5, offset := 0, embedded := false, tag := "", pkgPath := "unicode/utf8", byteOffset := 0 }, { name := "hi", type := 5, offset := 1, embedded := false, tag := "", pkgPath := "unicode/utf8", byteOffset := 1 }]), 2, 2, .agg #[.int .u8 0, .int .u8 0]⟩),
  (224, ⟨(TypeDesc.array 16 223), 32, 32, .agg #[.int .u8 0, .int .u8 0, .int .u8 0, .int .u8 0, .int .u8 0, .int .u8 0, .int .u8 0, .int .u8 0, .int .u8 0, .int .u8 0, .int .u8 0, .int .u8 0, .int .u8 0, .int .u8 0, .int .u8 0, .int .u8 0, .int .u8 0, .int .u8 0, .int .u8 0, .int .u8 0, .int .u8 0, .int .u8 0, .int .u8 0, .int .u8 0, .int .u8 0, .int .u8 0, .int .u8 0, .int .u8 0, .int .u8 0, .int .u8 0, .int .u8 0, .int .u8 0]⟩),
  (233, ⟨(TypeDesc.array 32 5), 32, 32, .agg #[.int .u8 0, .int .u8 0, .int .u8 0, .int .u8 0, .int .u8 0, .int .u8 0, .int .u8 0, .int .u8 0, .int .u8 0, .int .u8 0, .int .u8 0, .int .u8 0, .int .u8 0, .int .u8 0, .int .u8 0, .int .u8 0, .int .u8 0, .int .u8 0, .int .u8 0, .int .u8 0, .int .u8 0, .int .u8 0, .int .u8 0, .int .u8 0, .int .u8 0, .int .u8 0, .int .u8 0, .int .u8 0, .int .u8 0, .int .u8 0, .int .u8 0, .int .u8 0]⟩),
  (234, ⟨(TypeDesc.array 64 5), 64, 64, .agg #[.int .u8 0, .int .u8 0, .int .u8 0, .int .u8 0, .int .u8 0, .int .u8 0, .int .u8 0, .int .u8 0, .int .u8 0, .int .u8 0, .int .u8 0, .int .u8 0, .int .u8 0, .int .u8 0, .int .u8 0, .int .u8 0, .int .u8 0, .int .u8 0, .int .u8 0, .int .u8 0, .int .u8 0, .int .u8 0, .int .u8 0, .int .u8 0, .int .u8 0, .int .u8 0, .int .u8 0, .int .u8 0, .int .u8 0, .int .u8 0, .int .u8 0, .int .u8 0, .int .u8 0, .int .u8 0, .int .u8 0, .int .u8 0, .int .u8 0, .int .u8 0, .int .u8 0, .int .u8 0, .int .u8 0, .int .u8 0, .int .u8 0, .int .u8 0, .int .u8 0, .int .u8 0, .int .u8 0, .int .u8 0, .int .u8 0, .int .u8 0, .int .u8 0, .int .u8 0, .int .u8 0, .int .u8 0, .int .u8 0, .int .u8 0, .int .u8 0, .int .u8 0, .int .u8 0, .int .u8 0, .int .u8 0, .int .u8 0, .int .u8 0, .int .u8 0]⟩),
  (235, ⟨(TypeDesc.pointer 237), 1, 8, .pointer none⟩),
  (236, ⟨(TypeDesc.struct #[{ name := "s", type := 9, offset := 0, embedded := false, tag := "", pkgPath := "errors", byteOffset := 0 }]), 1, 16, .agg #[.string ⟨#[]⟩]⟩),
  (237, ⟨(TypeDesc.struct #[{ name := "s", type := 9, offset := 0, embedded := false, tag := "", pkgPath := "errors", byteOffset := 0 }]), 1, 16, .agg #[.string ⟨#[]⟩]⟩),
  (242, ⟨(TypeDesc.array 0 16), 0, 0, .agg #[]⟩),
  (245, ⟨(TypeDesc.int IntKind.u8), 1, 1, .int .u8 0⟩),
  (246, ⟨(TypeDesc.int IntKind.u8), 1, 1, .int .u8 0⟩),
  (248, ⟨(TypeDesc.int IntKind.i32), 1, 4, .int .i32 0⟩),
  (249, ⟨(TypeDesc.int IntKind.i32), 1, 4, .int .i32 0⟩)]
set_option maxRecDepth 100000 in
theorem tabOk : TabOk Tryd.prog tab :=
  tabOk_cons Tryd.underlying2 (by kernel_rfl) <|
  tabOk_cons Tryd.underlying3 (by kernel_rfl) <|
  tabOk_cons Tryd.underlying4 (by kernel_rfl) <|
  tabOk_cons Tryd.underlying5 (by kernel_rfl) <|
  tabOk_cons Tryd.underlying6 (by kernel_rfl) <|
  tabOk_cons Tryd.underlying9 (by kernel_rfl) <|
  tabOk_cons Tryd.underlying10 (by kernel_rfl) <|
  tabOk_cons Tryd.underlying11 (by kernel_rfl) <|
  tabOk_cons Tryd.underlying12 (by kernel_rfl) <|
  tabOk_cons Tryd.underlying15 (by kernel_rfl) <|
  tabOk_cons Tryd.underlying16 (by kernel_rfl) <|
  tabOk_cons Tryd.underlying17 (by kernel_rfl) <|
  tabOk_cons Tryd.underlying21 (by kernel_rfl) <|
  tabOk_cons Tryd.underlying25 (by kernel_rfl) <|
  tabOk_cons Tryd.underlying34 (by kernel_rfl) <|
  tabOk_cons Tryd.underlying35 (by kernel_rfl) <|
  tabOk_cons Tryd.underlying36 (by kernel_rfl) <|
  tabOk_cons Tryd.underlying37 (by kernel_rfl) <|
  tabOk_cons Tryd.underlying40 (by kernel_rfl) <|
  tabOk_cons Tryd.underlying41 (by kernel_rfl) <|
  tabOk_cons Tryd.underlying42 (by kernel_rfl) <|
  tabOk_cons Tryd.underlying49 (by kernel_rfl) <|
  tabOk_cons Tryd.underlying50 (by kernel_rfl) <|
  tabOk_cons Tryd.underlying51 (by kernel_rfl) <|
  tabOk_cons Tryd.underlying53 (by kernel_rfl) <|
  tabOk_cons Tryd.underlying56 (by kernel_rfl) <|
  tabOk_cons Tryd.underlying57 (by kernel_rfl) <|
  tabOk_cons Tryd.underlying59 (by kernel_rfl) <|
  tabOk_cons Tryd.underlying62 (by kernel_rfl) <|
  tabOk_cons Tryd.underlying63 (by kernel_rfl) <|
  tabOk_cons Tryd.underlying64 (by kernel_rfl) <|
  tabOk_cons Tryd.underlying67 (by kernel_rfl) <|
  tabOk_cons Tryd.underlying82 (by kernel_rfl) <|
  tabOk_cons Tryd.underlying83 (by kernel_rfl) <|
  tabOk_cons Tryd.underlying84 (by kernel_rfl) <|
  tabOk_cons Tryd.underlying85 (by kernel_rfl) <|
  tabOk_cons Tryd.underlying103 (by kernel_rfl) <|
  tabOk_cons Tryd.underlying108 (by kernel_rfl) <|
  tabOk_cons Tryd.underlying109 (by kernel_rfl) <|
  tabOk_cons Tryd.underlying122 (by kernel_rfl) <|
  tabOk_cons Tryd.underlying127 (by kernel_rfl) <|
  tabOk_cons Tryd.underlying132 (by kernel_rfl) <|
  tabOk_cons Tryd.underlying141 (by kernel_rfl) <|
  tabOk_cons Tryd.underlying145 (by kernel_rfl) <|
  tabOk_cons Tryd.underlying148 (by kernel_rfl) <|
  tabOk_cons Tryd.underlying152 (by kernel_rfl) <|
  tabOk_cons Tryd.underlying182 (by kernel_rfl) <|
  tabOk_cons Tryd.underlying186 (by kernel_rfl) <|
  tabOk_cons Tryd.underlying189 (by kernel_rfl) <|
  tabOk_cons Tryd.underlying190 (by kernel_rfl) <|
  tabOk_cons Tryd.underlying208 (by kernel_rfl) <|
  tabOk_cons Tryd.underlying209 (by kernel_rfl) <|
  tabOk_cons Tryd.underlying212 (by kernel_rfl) <|
  tabOk_cons Tryd.underlying213 (by kernel_rfl) <|
  tabOk_cons Tryd.underlying221 (by kernel_rfl) <|
  tabOk_cons Tryd.underlying222 (by kernel_rfl) <|
  tabOk_cons Tryd.underlying223 (by kernel_rfl) <|
  tabOk_cons Tryd.underlying224 (by kernel_rfl) <|
  tabOk_cons Tryd.underlying233 (by kernel_rfl) <|
  tabOk_cons Tryd.underlying234 (by kernel_rfl) <|
  tabOk_cons Tryd.underlying235 (by kernel_rfl) <|
  tabOk_cons Tryd.underlying236 (by kernel_rfl) <|
  tabOk_cons Tryd.underlying237 (by kernel_rfl) <|
  tabOk_cons Tryd.underlying242 (by kernel_rfl) <|
  tabOk_cons Tryd.underlying245 (by kernel_rfl) <|
  tabOk_cons Tryd.underlying246 (by kernel_rfl) <|
  tabOk_cons Tryd.underlying248 (by kernel_rfl) <|
  tabOk_cons Tryd.underlying249 (by kernel_rfl) <|
  tabOk_nil _
theorem followsMixed : Tryd.prog.follows .mixedOrders = true := by kernel_rfl
theorem ent2 : Ent Tryd.prog 2 := ent_of Tryd.func2 rfl (by kernel_rfl)
theorem ent3 : Ent Tryd.prog 3 := ent_of Tryd.func3 rfl (by kernel_rfl)
theorem ent4 : Ent Tryd.prog 4 := ent_of Tryd.func4 rfl (by kernel_rfl)
theorem ent5 : Ent Tryd.prog 5 := ent_of Tryd.func5 rfl (by kernel_rfl)
theorem ent6 : Ent Tryd.prog 6 := ent_of Tryd.func6 rfl (by kernel_rfl)
theorem ent7 : Ent Tryd.prog 7 := ent_of Tryd.func7 rfl (by kernel_rfl)
theorem ent8 : Ent Tryd.prog 8 := ent_of Tryd.func8 rfl (by kernel_rfl)
theorem ent9 : Ent Tryd.prog 9 := ent_of Tryd.func9 rfl (by kernel_rfl)
theorem ent10 : Ent Tryd.prog 10 := ent_of Tryd.func10 rfl (by kernel_rfl)
theorem ent11 : Ent Tryd.prog 11 := ent_of Tryd.func11 rfl (by kernel_rfl)
theorem ent12 : Ent Tryd.prog 12 := ent_of Tryd.func12 rfl (by kernel_rfl)
theorem ent13 : Ent Tryd.prog 13 := ent_of Tryd.func13 rfl (by kernel_rfl)
theorem ent14 : Ent Tryd.prog 14 := ent_of Tryd.func14 rfl (by kernel_rfl)
theorem ent15 : Ent Tryd.prog 15 := ent_of Tryd.func15 rfl (by kernel_rfl)
theorem ent16 : Ent Tryd.prog 16 := ent_of Tryd.func16 rfl (by kernel_rfl)
theorem ent17 : Ent Tryd.prog 17 := ent_of Tryd.func17 rfl (by kernel_rfl)
theorem ent18 : Ent Tryd.prog 18 := ent_of Tryd.func18 rfl (by kernel_rfl)
theorem ent19 : Ent Tryd.prog 19 := ent_of Tryd.func19 rfl (by kernel_rfl)
theorem ent20 : Ent Tryd.prog 20 := ent_of Tryd.func20 rfl (by kernel_rfl)
theorem ent21 : Ent Tryd.prog 21 := ent_of Tryd.func21 rfl (by kernel_rfl)
theorem ent22 : Ent Tryd.prog 22 := ent_of Tryd.func22 rfl (by kernel_rfl)
theorem ent23 : Ent Tryd.prog 23 := ent_of Tryd.func23 rfl (by kernel_rfl)
theorem ent24 : Ent Tryd.prog 24 := ent_of Tryd.func24 rfl (by kernel_rfl)
theorem ent25 : Ent Tryd.prog 25 := ent_of Tryd.func25 rfl (by kernel_rfl)
theorem ent26 : Ent Tryd.prog 26 := ent_of Tryd.func26 rfl (by kernel_rfl)
theorem ent27 : Ent Tryd.prog 27 := ent_of Tryd.func27 rfl (by kernel_rfl)
theorem ent28 : Ent Tryd.prog 28 := ent_of Tryd.func28 rfl (by kernel_rfl)
theorem ent29 : Ent Tryd.prog 29 := ent_of Tryd.func29 rfl (by kernel_rfl)
theorem ent30 : Ent Tryd.prog 30 := ent_of Tryd.func30 rfl (by kernel_rfl)
theorem ent31 : Ent Tryd.prog 31 := ent_of Tryd.func31 rfl (by kernel_rfl)
theorem ent32 : Ent Tryd.prog 32 := ent_of Tryd.func32 rfl (by kernel_rfl)
theorem ent33 : Ent Tryd.prog 33 := ent_of Tryd.func33 rfl (by kernel_rfl)
theorem ent34 : Ent Tryd.prog 34 := ent_of Tryd.func34 rfl (by kernel_rfl)
theorem ent35 : Ent Tryd.prog 35 := ent_of Tryd.func35 rfl (by kernel_rfl)
theorem ent36 : Ent Tryd.prog 36 := ent_of Tryd.func36 rfl (by kernel_rfl)
theorem ent37 : Ent Tryd.prog 37 := ent_of Tryd.func37 rfl (by kernel_rfl)
theorem ent38 : Ent Tryd.prog 38 := ent_of Tryd.func38 rfl (by kernel_rfl)
theorem ent39 : Ent Tryd.prog 39 := ent_of Tryd.func39 rfl (by kernel_rfl)
theorem ent40 : Ent Tryd.prog 40 := ent_of Tryd.func40 rfl (by kernel_rfl)
theorem ent41 : Ent Tryd.prog 41 := ent_of Tryd.func41 rfl (by kernel_rfl)
theorem ent42 : Ent Tryd.prog 42 := ent_of Tryd.func42 rfl (by kernel_rfl)
theorem ent43 : Ent Tryd.prog 43 := ent_of Tryd.func43 rfl (by kernel_rfl)
theorem ent44 : Ent Tryd.prog 44 := ent_of Tryd.func44 rfl (by kernel_rfl)
theorem ent45 : Ent Tryd.prog 45 := ent_of Tryd.func45 rfl (by kernel_rfl)
theorem ent46 : Ent Tryd.prog 46 := ent_of Tryd.func46 rfl (by kernel_rfl)
theorem ent47 : Ent Tryd.prog 47 := ent_of Tryd.func47 rfl (by kernel_rfl)
theorem ent48 : Ent Tryd.prog 48 := ent_of Tryd.func48 rfl (by kernel_rfl)
theorem ent49 : Ent Tryd.prog 49 := ent_of Tryd.func49 rfl (by kernel_rfl)
theorem ent50 : Ent Tryd.prog 50 := ent_of Tryd.func50 rfl (by kernel_rfl)
theorem ent51 : Ent Tryd.prog 51 := ent_of Tryd.func51 rfl (by kernel_rfl)
theorem ent52 : Ent Tryd.prog 52 := ent_of Tryd.func52 rfl (by kernel_rfl)
theorem ent53 : Ent Tryd.prog 53 := ent_of Tryd.func53 rfl (by kernel_rfl)
theorem ent54 : Ent Tryd.prog 54 := ent_of Tryd.func54 rfl (by kernel_rfl)
theorem ent55 : Ent Tryd.prog 55 := ent_of Tryd.func55 rfl (by kernel_rfl)
theorem ent56 : Ent Tryd.prog 56 := ent_of Tryd.func56 rfl (by kernel_rfl)
theorem ent57 : Ent Tryd.prog 57 := ent_of Tryd.func57 rfl (by kernel_rfl)
theorem ent58 : Ent Tryd.prog 58 := ent_of Tryd.func58 rfl (by kernel_rfl)
theorem ent59 : Ent Tryd.prog 59 := ent_of Tryd.func59 rfl (by kernel_rfl)
theorem ent60 : Ent Tryd.prog 60 := ent_of Tryd.func60 rfl (by kernel_rfl)
theorem ent61 : Ent Tryd.prog 61 := ent_of Tryd.func61 rfl (by kernel_rfl)
theorem ent62 : Ent Tryd.prog 62 := ent_of Tryd.func62 rfl (by kernel_rfl)
theorem ent63 : Ent Tryd.prog 63 := ent_of Tryd.func63 rfl (by kernel_rfl)
theorem ent64 : Ent Tryd.prog 64 := ent_of Tryd.func64 rfl (by kernel_rfl)
theorem ent65 : Ent Tryd.prog 65 := ent_of Tryd.func65 rfl (by kernel_rfl)
theorem ent66 : Ent Tryd.prog 66 := ent_of Tryd.func66 rfl (by kernel_rfl)
theorem ent67 : Ent Tryd.prog 67 := ent_of Tryd.func67 rfl (by kernel_rfl)
theorem ent68 : Ent Tryd.prog 68 := ent_of Tryd.func68 rfl (by kernel_rfl)
theorem ent69 : Ent Tryd.prog 69 := ent_of Tryd.func69 rfl (by kernel_rfl)
theorem ent70 : Ent Tryd.prog 70 := ent_of Tryd.func70 rfl (by kernel_rfl)
theorem ent71 : Ent Tryd.prog 71 := ent_of Tryd.func71 rfl (by kernel_rfl)
theorem ent72 : Ent Tryd.prog 72 := ent_of Tryd.func72 rfl (by kernel_rfl)
theorem ent73 : Ent Tryd.prog 73 := ent_of Tryd.func73 rfl (by kernel_rfl)
theorem ent74 : Ent Tryd.prog 74 := ent_of Tryd.func74 rfl (by kernel_rfl)
theorem ent75 : Ent Tryd.prog 75 := ent_of Tryd.func75 rfl (by kernel_rfl)
theorem ent76 : Ent Tryd.prog 76 := ent_of Tryd.func76 rfl (by kernel_rfl)
theorem ent77 : Ent Tryd.prog 77 := ent_of Tryd.func77 rfl (by kernel_rfl)
theorem ent78 : Ent Tryd.prog 78 := ent_of Tryd.func78 rfl (by kernel_rfl)
theorem ent79 : Ent Tryd.prog 79 := ent_of Tryd.func79 rfl (by kernel_rfl)
theorem ent80 : Ent Tryd.prog 80 := ent_of Tryd.func80 rfl (by kernel_rfl)
theorem ent81 : Ent Tryd.prog 81 := ent_of Tryd.func81 rfl (by kernel_rfl)
theorem ent82 : Ent Tryd.prog 82 := ent_of Tryd.func82 rfl (by kernel_rfl)
theorem ent83 : Ent Tryd.prog 83 := ent_of Tryd.func83 rfl (by kernel_rfl)
theorem ent84 : Ent Tryd.prog 84 := ent_of Tryd.func84 rfl (by kernel_rfl)
theorem ent85 : Ent Tryd.prog 85 := ent_of Tryd.func85 rfl (by kernel_rfl)
theorem ent86 : Ent Tryd.prog 86 := ent_of Tryd.func86 rfl (by kernel_rfl)
theorem ent87 : Ent Tryd.prog 87 := ent_of Tryd.func87 rfl (by kernel_rfl)
theorem ent88 : Ent Tryd.prog 88 := ent_of Tryd.func88 rfl (by kernel_rfl)
theorem ent89 : Ent Tryd.prog 89 := ent_of Tryd.func89 rfl (by kernel_rfl)
theorem ent90 : Ent Tryd.prog 90 := ent_of Tryd.func90 rfl (by kernel_rfl)
theorem ent91 : Ent Tryd.prog 91 := ent_of Tryd.func91 rfl (by kernel_rfl)
theorem ent92 : Ent Tryd.prog 92 := ent_of Tryd.func92 rfl (by kernel_rfl)
theorem ent93 : Ent Tryd.prog 93 := ent_of Tryd.func93 rfl (by kernel_rfl)
theorem ent94 : Ent Tryd.prog 94 := ent_of Tryd.func94 rfl (by kernel_rfl)
theorem ent95 : Ent Tryd.prog 95 := ent_of Tryd.func95 rfl (by kernel_rfl)
theorem ent96 : Ent Tryd.prog 96 := ent_of Tryd.func96 rfl (by kernel_rfl)
theorem ent97 : Ent Tryd.prog 97 := ent_of Tryd.func97 rfl (by kernel_rfl)
theorem ent98 : Ent Tryd.prog 98 := ent_of Tryd.func98 rfl (by kernel_rfl)
theorem ent99 : Ent Tryd.prog 99 := ent_of Tryd.func99 rfl (by kernel_rfl)
theorem ent100 : Ent Tryd.prog 100 := ent_of Tryd.func100 rfl (by kernel_rfl)
theorem ent101 : Ent Tryd.prog 101 := ent_of Tryd.func101 rfl (by kernel_rfl)
theorem ent102 : Ent Tryd.prog 102 := ent_of Tryd.func102 rfl (by kernel_rfl)
theorem ent103 : Ent Tryd.prog 103 := ent_of Tryd.func103 rfl (by kernel_rfl)
theorem ent104 : Ent Tryd.prog 104 := ent_of Tryd.func104 rfl (by kernel_rfl)
theorem ent105 : Ent Tryd.prog 105 := ent_of Tryd.func105 rfl (by kernel_rfl)
theorem ent106 : Ent Tryd.prog 106 := ent_of Tryd.func106 rfl (by kernel_rfl)
theorem ent107 : Ent Tryd.prog 107 := ent_of Tryd.func107 rfl (by kernel_rfl)
theorem ent108 : Ent Tryd.prog 108 := ent_of Tryd.func108 rfl (by kernel_rfl)
theorem ent109 : Ent Tryd.prog 109 := ent_of Tryd.func109 rfl (by kernel_rfl)
theorem ent110 : Ent Tryd.prog 110 := ent_of Tryd.func110 rfl (by kernel_rfl)
theorem ent111 : Ent Tryd.prog 111 := ent_of Tryd.func111 rfl (by kernel_rfl)
theorem ent112 : Ent Tryd.prog 112 := ent_of Tryd.func112 rfl (by kernel_rfl)
theorem ent113 : Ent Tryd.prog 113 := ent_of Tryd.func113 rfl (by kernel_rfl)
theorem ent114 : Ent Tryd.prog 114 := ent_of Tryd.func114 rfl (by kernel_rfl)
theorem ent115 : Ent Tryd.prog 115 := ent_of Tryd.func115 rfl (by kernel_rfl)
theorem ent116 : Ent Tryd.prog 116 := ent_of Tryd.func116 rfl (by kernel_rfl)
theorem ent117 : Ent Tryd.prog 117 := ent_of Tryd.func117 rfl (by kernel_rfl)
theorem ent118 : Ent Tryd.prog 118 := ent_of Tryd.func118 rfl (by kernel_rfl)
theorem ent119 : Ent Tryd.prog 119 := ent_of Tryd.func119 rfl (by kernel_rfl)
theorem ent120 : Ent Tryd.prog 120 := ent_of Tryd.func120 rfl (by kernel_rfl)
theorem ent121 : Ent Tryd.prog 121 := ent_of Tryd.func121 rfl (by kernel_rfl)
theorem ent122 : Ent Tryd.prog 122 := ent_of Tryd.func122 rfl (by kernel_rfl)
theorem ent123 : Ent Tryd.prog 123 := ent_of Tryd.func123 rfl (by kernel_rfl)
theorem ent124 : Ent Tryd.prog 124 := ent_of Tryd.func124 rfl (by kernel_rfl)
theorem ent125 : Ent Tryd.prog 125 := ent_of Tryd.func125 rfl (by kernel_rfl)
theorem ent126 : Ent Tryd.prog 126 := ent_of Tryd.func126 rfl (by kernel_rfl)
theorem ent127 : Ent Tryd.prog 127 := ent_of Tryd.func127 rfl (by kernel_rfl)
theorem ent128 : Ent Tryd.prog 128 := ent_of Tryd.func128 rfl (by kernel_rfl)
theorem ent129 : Ent Tryd.prog 129 := ent_of Tryd.func129 rfl (by kernel_rfl)
theorem ent130 : Ent Tryd.prog 130 := ent_of Tryd.func130 rfl (by kernel_rfl)
theorem ent131 : Ent Tryd.prog 131 := ent_of Tryd.func131 rfl (by kernel_rfl)
theorem ent132 : Ent Tryd.prog 132 := ent_of Tryd.func132 rfl (by kernel_rfl)
theorem ent133 : Ent Tryd.prog 133 := ent_of Tryd.func133 rfl (by kernel_rfl)
theorem ent134 : Ent Tryd.prog 134 := ent_of Tryd.func134 rfl (by kernel_rfl)
theorem ent135 : Ent Tryd.prog 135 := ent_of Tryd.func135 rfl (by kernel_rfl)
theorem ent136 : Ent Tryd.prog 136 := ent_of Tryd.func136 rfl (by kernel_rfl)
theorem ent137 : Ent Tryd.prog 137 := ent_of Tryd.func137 rfl (by kernel_rfl)
theorem ent138 : Ent Tryd.prog 138 := ent_of Tryd.func138 rfl (by kernel_rfl)
theorem ent139 : Ent Tryd.prog 139 := ent_of Tryd.func139 rfl (by kernel_rfl)
theorem ent141 : Ent Tryd.prog 141 := ent_of Tryd.func141 rfl (by kernel_rfl)
theorem ent142 : Ent Tryd.prog 142 := ent_of Tryd.func142 rfl (by kernel_rfl)
theorem ent143 : Ent Tryd.prog 143 := ent_of Tryd.func143 rfl (by kernel_rfl)
theorem ent144 : Ent Tryd.prog 144 := ent_of Tryd.func144 rfl (by kernel_rfl)
theorem ent145 : Ent Tryd.prog 145 := ent_of Tryd.func145 rfl (by kernel_rfl)
theorem ent146 : Ent Tryd.prog 146 := ent_of Tryd.func146 rfl (by kernel_rfl)
theorem ent147 : Ent Tryd.prog 147 := ent_of Tryd.func147 rfl (by kernel_rfl)
theorem ent148 : Ent Tryd.prog 148 := ent_of Tryd.func148 rfl (by kernel_rfl)
theorem ent149 : Ent Tryd.prog 149 := ent_of Tryd.func149 rfl (by kernel_rfl)
theorem ent150 : Ent Tryd.prog 150 := ent_of Tryd.func150 rfl (by kernel_rfl)
theorem ent151 : Ent Tryd.prog 151 := ent_of Tryd.func151 rfl (by kernel_rfl)
theorem ent152 : Ent Tryd.prog 152 := ent_of Tryd.func152 rfl (by kernel_rfl)
theorem ent153 : Ent Tryd.prog 153 := ent_of Tryd.func153 rfl (by kernel_rfl)
theorem ent154 : Ent Tryd.prog 154 := ent_of Tryd.func154 rfl (by kernel_rfl)
theorem ent155 : Ent Tryd.prog 155 := ent_of Tryd.func155 rfl (by kernel_rfl)
theorem ent156 : Ent Tryd.prog 156 := ent_of Tryd.func156 rfl (by kernel_rfl)
theorem ent157 : Ent Tryd.prog 157 := ent_of Tryd.func157 rfl (by kernel_rfl)
theorem ent158 : Ent Tryd.prog 158 := ent_of Tryd.func158 rfl (by kernel_rfl)
theorem ent159 : Ent Tryd.prog 159 := ent_of Tryd.func159 rfl (by kernel_rfl)
theorem ent160 : Ent Tryd.prog 160 := ent_of Tryd.func160 rfl (by kernel_rfl)
theorem ent161 : Ent Tryd.prog 161 := ent_of Tryd.func161 rfl (by kernel_rfl)
theorem ent162 : Ent Tryd.prog 162 := ent_of Tryd.func162 rfl (by kernel_rfl)
theorem ent164 : Ent Tryd.prog 164 := ent_of Tryd.func164 rfl (by kernel_rfl)
theorem ent166 : Ent Tryd.prog 166 := ent_of Tryd.func166 rfl (by kernel_rfl)
theorem ent167 : Ent Tryd.prog 167 := ent_of Tryd.func167 rfl (by kernel_rfl)
theorem ent168 : Ent Tryd.prog 168 := ent_of Tryd.func168 rfl (by kernel_rfl)
theorem ent169 : Ent Tryd.prog 169 := ent_of Tryd.func169 rfl (by kernel_rfl)
theorem ent170 : Ent Tryd.prog 170 := ent_of Tryd.func170 rfl (by kernel_rfl)
theorem ent171 : Ent Tryd.prog 171 := ent_of Tryd.func171 rfl (by kernel_rfl)
theorem ent172 : Ent Tryd.prog 172 := ent_of Tryd.func172 rfl (by kernel_rfl)
theorem ent174 : Ent Tryd.prog 174 := ent_of Tryd.func174 rfl (by kernel_rfl)
theorem ent175 : Ent Tryd.prog 175 := ent_of Tryd.func175 rfl (by kernel_rfl)
theorem ent177 : Ent Tryd.prog 177 := ent_of Tryd.func177 rfl (by kernel_rfl)
theorem ent178 : Ent Tryd.prog 178 := ent_of Tryd.func178 rfl (by kernel_rfl)
theorem ent179 : Ent Tryd.prog 179 := ent_of Tryd.func179 rfl (by kernel_rfl)
theorem ent180 : Ent Tryd.prog 180 := ent_of Tryd.func180 rfl (by kernel_rfl)
theorem ent181 : Ent Tryd.prog 181 := ent_of Tryd.func181 rfl (by kernel_rfl)
theorem ent182 : Ent Tryd.prog 182 := ent_of Tryd.func182 rfl (by kernel_rfl)
theorem ent184 : Ent Tryd.prog 184 := ent_of Tryd.func184 rfl (by kernel_rfl)
theorem ent186 : Ent Tryd.prog 186 := ent_of Tryd.func186 rfl (by kernel_rfl)
theorem ent187 : Ent Tryd.prog 187 := ent_of Tryd.func187 rfl (by kernel_rfl)
theorem ent188 : Ent Tryd.prog 188 := ent_of Tryd.func188 rfl (by kernel_rfl)
theorem ent189 : Ent Tryd.prog 189 := ent_of Tryd.func189 rfl (by kernel_rfl)
theorem ent190 : Ent Tryd.prog 190 := ent_of Tryd.func190 rfl (by kernel_rfl)
theorem ent191 : Ent Tryd.prog 191 := ent_of Tryd.func191 rfl (by kernel_rfl)
theorem ent192 : Ent Tryd.prog 192 := ent_of Tryd.func192 rfl (by kernel_rfl)
theorem ent193 : Ent Tryd.prog 193 := ent_of Tryd.func193 rfl (by kernel_rfl)
theorem ent194 : Ent Tryd.prog 194 := ent_of Tryd.func194 rfl (by kernel_rfl)
theorem ent195 : Ent Tryd.prog 195 := ent_of Tryd.func195 rfl (by kernel_rfl)
theorem ent196 : Ent Tryd.prog 196 := ent_of Tryd.func196 rfl (by kernel_rfl)
theorem ent197 : Ent Tryd.prog 197 := ent_of Tryd.func197 rfl (by kernel_rfl)
theorem ent198 : Ent Tryd.prog 198 := ent_of Tryd.func198 rfl (by kernel_rfl)
theorem ent199 : Ent Tryd.prog 199 := ent_of Tryd.func199 rfl (by kernel_rfl)
theorem ent200 : Ent Tryd.prog 200 := ent_of Tryd.func200 rfl (by kernel_rfl)
theorem ent201 : Ent Tryd.prog 201 := ent_of Tryd.func201 rfl (by kernel_rfl)
theorem ent202 : Ent Tryd.prog 202 := ent_of Tryd.func202 rfl (by kernel_rfl)
theorem ent203 : Ent Tryd.prog 203 := ent_of Tryd.func203 rfl (by kernel_rfl)
theorem ent204 : Ent Tryd.prog 204 := ent_of Tryd.func204 rfl (by kernel_rfl)
theorem ent205 : Ent Tryd.prog 205 := ent_of Tryd.func205 rfl (by kernel_rfl)
theorem ent206 : Ent Tryd.prog 206 := ent_of Tryd.func206 rfl (by kernel_rfl)
theorem ent207 : Ent Tryd.prog 207 := ent_of Tryd.func207 rfl (by kernel_rfl)
theorem ent208 : Ent Tryd.prog 208 := ent_of Tryd.func208 rfl (by kernel_rfl)
theorem ent209 : Ent Tryd.prog 209 := ent_of Tryd.func209 rfl (by kernel_rfl)
theorem ent210 : Ent Tryd.prog 210 := ent_of Tryd.func210 rfl (by kernel_rfl)
theorem ent211 : Ent Tryd.prog 211 := ent_of Tryd.func211 rfl (by kernel_rfl)
theorem ent212 : Ent Tryd.prog 212 := ent_of Tryd.func212 rfl (by kernel_rfl)
theorem ent248 : Ent Tryd.prog 248 := ent_of Tryd.func248 rfl (by kernel_rfl)
theorem x_math_Float64bits {B : Nat} {W : World} (x : Nat) : AExt Tryd.prog B 214 [.float .f64 x] W (fun v W' => (∃ b : Nat, v = .int .u64 b ∧ cb .f64 b = x) ∧ W' = W) := ext_f64bits Tryd.func214 (by kernel_rfl) (by kernel_rfl) (by kernel_rfl) (by kernel_rfl) x
theorem x_math_Float64frombits {B : Nat} {W : World} (x : Int) : AExt Tryd.prog B 213 [.int .u64 x] W (fun v W' => v = .float .f64 (cb .f64 x.toNat) ∧ W' = W) := ext_f64frombits Tryd.func213 (by kernel_rfl) (by kernel_rfl) (by kernel_rfl) (by kernel_rfl) x
theorem x_math_Float32bits {B : Nat} {W : World} (x : Nat) : AExt Tryd.prog B 183 [.float .f32 x] W (fun v W' => (∃ b : Nat, v = .int .u32 b ∧ cb .f32 b = x) ∧ W' = W) := ext_f32bits Tryd.func183 (by kernel_rfl) (by kernel_rfl) (by kernel_rfl) (by kernel_rfl) x
theorem x_math_Float32frombits {B : Nat} {W : World} (x : Int) : AExt Tryd.prog B 163 [.int .u32 x] W (fun v W' => v = .float .f32 (cb .f32 x.toNat) ∧ W' = W) := ext_f32frombits Tryd.func163 (by kernel_rfl) (by kernel_rfl) (by kernel_rfl) (by kernel_rfl) x
end Go.Proofs.YthdnepjajhjmlaaDoor
