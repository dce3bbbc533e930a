/- The table of types of this seat, and the functions that are entered. -/
import Derived.Test.YtmplincflbhmiaaCn10
import Derived.Test.YtmplincflbhmiaaProg
import Derived.KernelRfl
namespace Go.Proofs.Ytmplincflbhmiaa
set_option linter.unusedSimpArgs false
set_option linter.unusedVariables false
open Go Cn
def tab : Tab := [
  (2, ⟨(TypeDesc.int IntKind.i64), 1, 8, .int .i64 0⟩),
  (3, ⟨(TypeDesc.int IntKind.i64), 1, 8, .int .i64 0⟩),
  (4, ⟨TypeDesc.bool, 1, 1, .bool false⟩),
  (5, ⟨(TypeDesc.int IntKind.u8), 1, 1, .int .u8 0⟩),
  (6, ⟨(TypeDesc.int IntKind.u8), 1, 1, .int .u8 0⟩),
  (9, ⟨TypeDesc.string, 1, 16, .string ⟨#[]⟩⟩),
  (10, ⟨TypeDesc.string, 1, 16, .string ⟨#[]⟩⟩),
  (11, ⟨TypeDesc.string, 1, 16, .string ⟨#[]⟩⟩),
  (12, ⟨(TypeDesc.int IntKind.u64), 1, 8, .int .u64 0⟩),
  (15, ⟨(TypeDesc.pointer 164), 1, 8, .pointer none⟩),
  (16, ⟨(TypeDesc.pointer 167), 1, 8, .pointer none⟩),
  (17, ⟨(TypeDesc.pointer 176), 1, 8, .pointer none⟩),
  (21, ⟨(TypeDesc.int IntKind.i32), 1, 4, .int .i32 0⟩),
  (22, ⟨(TypeDesc.slice 32), 1, 24, .slice none 0 0⟩),
  (23, ⟨(TypeDesc.slice 2), 1, 24, .slice none 0 0⟩),
  (32, ⟨(TypeDesc.float FloatKind.f32), 1, 4, .float .f32 0⟩),
  (36, ⟨(TypeDesc.float FloatKind.f64), 1, 8, .float .f64 0⟩),
  (38, ⟨(TypeDesc.slice 5), 1, 24, .slice none 0 0⟩),
  (40, ⟨(TypeDesc.slice 44), 1, 24, .slice none 0 0⟩),
  (42, ⟨(TypeDesc.slice 3), 1, 24, .slice none 0 0⟩),
  (43, ⟨(TypeDesc.struct #[{ name := "Name", type := 9, offset := 0, embedded := false, tag := "", pkgPath := "", byteOffset := 0 }, { name := "Start", type := 2, offset := 1, embedded := false, tag := "", pkgPath := "", byteOffset := 16 }, { name := "Step", type := 2, offset := 2, embedded := false, tag := "", pkgPath := "", byteOffset := 24 }, { name := "Values", type := 22, offset := 3, embedded := false, tag := "", pkgPath := "", byteOffset := 32 }]), 4, 56, .agg #[.string ⟨#[]⟩, .int .i64 0, .int .i64 0, .slice none 0 0]⟩),
  (44, ⟨(TypeDesc.struct #[{ name := "Name", type := 9, offset := 0, embedded := false, tag := "", pkgPath := "", byteOffset := 0 }, { name := "Start", type := 2, offset := 1, embedded := false, tag := "", pkgPath := "", byteOffset := 16 }, { name := "Step", type := 2, offset := 2, embedded := false, tag := "", pkgPath := "", byteOffset := 24 }, { name := "Values", type := 22, offset := 3, embedded := false, tag := "", pkgPath := "", byteOffset := 32 }]), 4, 56, .agg #[.string ⟨#[]⟩, .int .i64 0, .int .i64 0, .slice none 0 0]⟩),
  (60, ⟨(TypeDesc.slice 74), 1, 24, .slice none 0 0⟩),
  (61, ⟨(TypeDesc.struct #[{ name := "Downs", type := 23, offset := 0, embedded := false, tag := "", pkgPath := "", byteOffset := 0 }, { name := "Dams", type := 60, offset := 1, embedded := false, tag := "", pkgPath := "", byteOffset := 24 }, { name := "Wants", type := 23, offset := 2, embedded := false, tag := "", pkgPath := "", byteOffset := 48 }]), 3, 72, .agg #[.slice none 0 0, .slice none 0 0, .slice none 0 0]⟩),
  (62, ⟨(TypeDesc.struct #[{ name := "Downs", type := 23, offset := 0, embedded := false, tag := "", pkgPath := "", byteOffset := 0 }, { name := "Dams", type := 60, offset := 1, embedded := false, tag := "", pkgPath := "", byteOffset := 24 }, { name := "Wants", type := 23, offset := 2, embedded := false, tag := "", pkgPath := "", byteOffset := 48 }]), 3, 72, .agg #[.slice none 0 0, .slice none 0 0, .slice none 0 0]⟩),
  (66, ⟨(TypeDesc.slice 4), 1, 24, .slice none 0 0⟩),
  (70, ⟨(TypeDesc.slice 23), 1, 24, .slice none 0 0⟩),
  (73, ⟨(TypeDesc.struct #[{ name := "Size", type := 2, offset := 0, embedded := false, tag := "", pkgPath := "", byteOffset := 0 }, { name := "Dead", type := 2, offset := 1, embedded := false, tag := "", pkgPath := "", byteOffset := 8 }, { name := "Least", type := 2, offset := 2, embedded := false, tag := "", pkgPath := "", byteOffset := 16 }, { name := "Now", type := 2, offset := 3, embedded := false, tag := "", pkgPath := "", byteOffset := 24 }]), 4, 32, .agg #[.int .i64 0, .int .i64 0, .int .i64 0, .int .i64 0]⟩),
  (74, ⟨(TypeDesc.struct #[{ name := "Size", type := 2, offset := 0, embedded := false, tag := "", pkgPath := "", byteOffset := 0 }, { name := "Dead", type := 2, offset := 1, embedded := false, tag := "", pkgPath := "", byteOffset := 8 }, { name := "Least", type := 2, offset := 2, embedded := false, tag := "", pkgPath := "", byteOffset := 16 }, { name := "Now", type := 2, offset := 3, embedded := false, tag := "", pkgPath := "", byteOffset := 24 }]), 4, 32, .agg #[.int .i64 0, .int .i64 0, .int .i64 0, .int .i64 0]⟩),
  (84, ⟨(TypeDesc.pointer 122), 1, 8, .pointer none⟩),
  (88, ⟨(TypeDesc.slice 9), 1, 24, .slice none 0 0⟩),
  (97, ⟨(TypeDesc.int IntKind.u32), 1, 4, .int .u32 0⟩),
  (120, ⟨(TypeDesc.int IntKind.u64), 1, 8, .int .u64 0⟩),
  (121, ⟨(TypeDesc.struct #[{ name := "code", type := 38, offset := 0, embedded := false, tag := "", pkgPath := "loop.example/g01302/spec", byteOffset := 0 }, { name := "at", type := 3, offset := 1, embedded := false, tag := "", pkgPath := "loop.example/g01302/spec", byteOffset := 24 }, { name := "seed", type := 120, offset := 2, embedded := false, tag := "", pkgPath := "loop.example/g01302/spec", byteOffset := 32 }]), 3, 40, .agg #[.slice none 0 0, .int .i64 0, .int .u64 0]⟩),
  (122, ⟨(TypeDesc.struct #[{ name := "code", type := 38, offset := 0, embedded := false, tag := "", pkgPath := "loop.example/g01302/spec", byteOffset := 0 }, { name := "at", type := 3, offset := 1, embedded := false, tag := "", pkgPath := "loop.example/g01302/spec", byteOffset := 24 }, { name := "seed", type := 120, offset := 2, embedded := false, tag := "", pkgPath := "loop.example/g01302/spec", byteOffset := 32 }]), 3, 40, .agg #[.slice none 0 0, .int .i64 0, .int .u64 0]⟩),
  (132, ⟨(TypeDesc.slice 22), 1, 24, .slice none 0 0⟩),
  (147, ⟨(TypeDesc.int IntKind.u64), 1, 8, .int .u64 0⟩),
  (148, ⟨(TypeDesc.slice 38), 1, 24, .slice none 0 0⟩),
  (154, ⟨(TypeDesc.pointer 74), 1, 8, .pointer none⟩),
  (165, ⟨(TypeDesc.array 0 16), 0, 0, .agg #[]⟩),
  (169, ⟨(TypeDesc.int IntKind.u8), 1, 1, .int .u8 0⟩),
  (170, ⟨(TypeDesc.int IntKind.u8), 1, 1, .int .u8 0⟩),
  (172, ⟨(TypeDesc.pointer 5), 1, 8, .pointer none⟩),
  (173, ⟨(TypeDesc.int IntKind.i32), 1, 4, .int .i32 0⟩),
  (174, ⟨(TypeDesc.int IntKind.i32), 1, 4, .int .i32 0⟩)]
set_option maxRecDepth 100000 in
theorem tabOk : TabOk Try.prog tab :=
  tabOk_cons Try.underlying2 (by kernel_rfl) <|
  tabOk_cons Try.underlying3 (by kernel_rfl) <|
  tabOk_cons Try.underlying4 (by kernel_rfl) <|
  tabOk_cons Try.underlying5 (by kernel_rfl) <|
  tabOk_cons Try.underlying6 (by kernel_rfl) <|
  tabOk_cons Try.underlying9 (by kernel_rfl) <|
  tabOk_cons Try.underlying10 (by kernel_rfl) <|
  tabOk_cons Try.underlying11 (by kernel_rfl) <|
  tabOk_cons Try.underlying12 (by kernel_rfl) <|
  tabOk_cons Try.underlying15 (by kernel_rfl) <|
  tabOk_cons Try.underlying16 (by kernel_rfl) <|
  tabOk_cons Try.underlying17 (by kernel_rfl) <|
  tabOk_cons Try.underlying21 (by kernel_rfl) <|
  tabOk_cons Try.underlying22 (by kernel_rfl) <|
  tabOk_cons Try.underlying23 (by kernel_rfl) <|
  tabOk_cons Try.underlying32 (by kernel_rfl) <|
  tabOk_cons Try.underlying36 (by kernel_rfl) <|
  tabOk_cons Try.underlying38 (by kernel_rfl) <|
  tabOk_cons Try.underlying40 (by kernel_rfl) <|
  tabOk_cons Try.underlying42 (by kernel_rfl) <|
  tabOk_cons Try.underlying43 (by kernel_rfl) <|
  tabOk_cons Try.underlying44 (by kernel_rfl) <|
  tabOk_cons Try.underlying60 (by kernel_rfl) <|
  tabOk_cons Try.underlying61 (by kernel_rfl) <|
  tabOk_cons Try.underlying62 (by kernel_rfl) <|
  tabOk_cons Try.underlying66 (by kernel_rfl) <|
  tabOk_cons Try.underlying70 (by kernel_rfl) <|
  tabOk_cons Try.underlying73 (by kernel_rfl) <|
  tabOk_cons Try.underlying74 (by kernel_rfl) <|
  tabOk_cons Try.underlying84 (by kernel_rfl) <|
  tabOk_cons Try.underlying88 (by kernel_rfl) <|
  tabOk_cons Try.underlying97 (by kernel_rfl) <|
  tabOk_cons Try.underlying120 (by kernel_rfl) <|
  tabOk_cons Try.underlying121 (by kernel_rfl) <|
  tabOk_cons Try.underlying122 (by kernel_rfl) <|
  tabOk_cons Try.underlying132 (by kernel_rfl) <|
  tabOk_cons Try.underlying147 (by kernel_rfl) <|
  tabOk_cons Try.underlying148 (by kernel_rfl) <|
  tabOk_cons Try.underlying154 (by kernel_rfl) <|
  tabOk_cons Try.underlying165 (by kernel_rfl) <|
  tabOk_cons Try.underlying169 (by kernel_rfl) <|
  tabOk_cons Try.underlying170 (by kernel_rfl) <|
  tabOk_cons Try.underlying172 (by kernel_rfl) <|
  tabOk_cons Try.underlying173 (by kernel_rfl) <|
  tabOk_cons Try.underlying174 (by kernel_rfl) <|
  tabOk_nil _
theorem followsMixed : Try.prog.follows .mixedOrders = true := by kernel_rfl
theorem ent19 : Ent Try.prog 19 := ent_of Try.func19 rfl (by kernel_rfl)
theorem ent20 : Ent Try.prog 20 := ent_of Try.func20 rfl (by kernel_rfl)
theorem ent21 : Ent Try.prog 21 := ent_of Try.func21 rfl (by kernel_rfl)
theorem ent22 : Ent Try.prog 22 := ent_of Try.func22 rfl (by kernel_rfl)
theorem ent23 : Ent Try.prog 23 := ent_of Try.func23 rfl (by kernel_rfl)
theorem ent24 : Ent Try.prog 24 := ent_of Try.func24 rfl (by kernel_rfl)
theorem ent25 : Ent Try.prog 25 := ent_of Try.func25 rfl (by kernel_rfl)
theorem ent26 : Ent Try.prog 26 := ent_of Try.func26 rfl (by kernel_rfl)
theorem ent27 : Ent Try.prog 27 := ent_of Try.func27 rfl (by kernel_rfl)
theorem ent28 : Ent Try.prog 28 := ent_of Try.func28 rfl (by kernel_rfl)
theorem ent29 : Ent Try.prog 29 := ent_of Try.func29 rfl (by kernel_rfl)
theorem ent30 : Ent Try.prog 30 := ent_of Try.func30 rfl (by kernel_rfl)
theorem ent31 : Ent Try.prog 31 := ent_of Try.func31 rfl (by kernel_rfl)
theorem ent32 : Ent Try.prog 32 := ent_of Try.func32 rfl (by kernel_rfl)
theorem ent54 : Ent Try.prog 54 := ent_of Try.func54 rfl (by kernel_rfl)
theorem ent55 : Ent Try.prog 55 := ent_of Try.func55 rfl (by kernel_rfl)
theorem ent56 : Ent Try.prog 56 := ent_of Try.func56 rfl (by kernel_rfl)
theorem ent57 : Ent Try.prog 57 := ent_of Try.func57 rfl (by kernel_rfl)
theorem ent58 : Ent Try.prog 58 := ent_of Try.func58 rfl (by kernel_rfl)
theorem ent59 : Ent Try.prog 59 := ent_of Try.func59 rfl (by kernel_rfl)
theorem ent60 : Ent Try.prog 60 := ent_of Try.func60 rfl (by kernel_rfl)
theorem ent61 : Ent Try.prog 61 := ent_of Try.func61 rfl (by kernel_rfl)
theorem ent62 : Ent Try.prog 62 := ent_of Try.func62 rfl (by kernel_rfl)
theorem ent64 : Ent Try.prog 64 := ent_of Try.func64 rfl (by kernel_rfl)
theorem ent65 : Ent Try.prog 65 := ent_of Try.func65 rfl (by kernel_rfl)
theorem ent66 : Ent Try.prog 66 := ent_of Try.func66 rfl (by kernel_rfl)
theorem ent67 : Ent Try.prog 67 := ent_of Try.func67 rfl (by kernel_rfl)
theorem ent68 : Ent Try.prog 68 := ent_of Try.func68 rfl (by kernel_rfl)
theorem ent69 : Ent Try.prog 69 := ent_of Try.func69 rfl (by kernel_rfl)
theorem ent70 : Ent Try.prog 70 := ent_of Try.func70 rfl (by kernel_rfl)
theorem ent71 : Ent Try.prog 71 := ent_of Try.func71 rfl (by kernel_rfl)
theorem ent72 : Ent Try.prog 72 := ent_of Try.func72 rfl (by kernel_rfl)
theorem ent73 : Ent Try.prog 73 := ent_of Try.func73 rfl (by kernel_rfl)
theorem ent74 : Ent Try.prog 74 := ent_of Try.func74 rfl (by kernel_rfl)
theorem ent91 : Ent Try.prog 91 := ent_of Try.func91 rfl (by kernel_rfl)
theorem ent92 : Ent Try.prog 92 := ent_of Try.func92 rfl (by kernel_rfl)
theorem ent93 : Ent Try.prog 93 := ent_of Try.func93 rfl (by kernel_rfl)
theorem ent94 : Ent Try.prog 94 := ent_of Try.func94 rfl (by kernel_rfl)
theorem ent95 : Ent Try.prog 95 := ent_of Try.func95 rfl (by kernel_rfl)
theorem ent96 : Ent Try.prog 96 := ent_of Try.func96 rfl (by kernel_rfl)
theorem ent97 : Ent Try.prog 97 := ent_of Try.func97 rfl (by kernel_rfl)
theorem ent98 : Ent Try.prog 98 := ent_of Try.func98 rfl (by kernel_rfl)
theorem ent99 : Ent Try.prog 99 := ent_of Try.func99 rfl (by kernel_rfl)
theorem ent100 : Ent Try.prog 100 := ent_of Try.func100 rfl (by kernel_rfl)
theorem ent101 : Ent Try.prog 101 := ent_of Try.func101 rfl (by kernel_rfl)
theorem ent102 : Ent Try.prog 102 := ent_of Try.func102 rfl (by kernel_rfl)
theorem ent103 : Ent Try.prog 103 := ent_of Try.func103 rfl (by kernel_rfl)
theorem ent104 : Ent Try.prog 104 := ent_of Try.func104 rfl (by kernel_rfl)
theorem ent119 : Ent Try.prog 119 := ent_of Try.func119 rfl (by kernel_rfl)
theorem ent121 : Ent Try.prog 121 := ent_of Try.func121 rfl (by kernel_rfl)
theorem ent122 : Ent Try.prog 122 := ent_of Try.func122 rfl (by kernel_rfl)
theorem x_math_Float64bits {B : Nat} {W : World} (x : Nat) : AExt Try.prog B 134 [.float .f64 x] W (fun v W' => (∃ b : Nat, v = .int .u64 b ∧ cb .f64 b = x) ∧ W' = W) := ext_f64bits Try.func134 (by kernel_rfl) (by kernel_rfl) (by kernel_rfl) (by kernel_rfl) x
theorem x_math_Float32bits {B : Nat} {W : World} (x : Nat) : AExt Try.prog B 120 [.float .f32 x] W (fun v W' => (∃ b : Nat, v = .int .u32 b ∧ cb .f32 b = x) ∧ W' = W) := ext_f32bits Try.func120 (by kernel_rfl) (by kernel_rfl) (by kernel_rfl) (by kernel_rfl) x
theorem x_math_Float32frombits {B : Nat} {W : World} (x : Int) : AExt Try.prog B 63 [.int .u32 x] W (fun v W' => v = .float .f32 (cb .f32 x.toNat) ∧ W' = W) := ext_f32frombits Try.func63 (by kernel_rfl) (by kernel_rfl) (by kernel_rfl) (by kernel_rfl) x
end Go.Proofs.Ytmplincflbhmiaa
