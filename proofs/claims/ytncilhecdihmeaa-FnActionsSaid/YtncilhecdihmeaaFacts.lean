/- The program's tables of types and functions, as far as the walks ask them. -/
import Derived.Test.YtncilhecdihmeaaProg
import Derived.Test.YtncilhecdihmeaaBase
namespace Go.Proofs
open Go Go.Fw

instance : CellTy Try.prog 1 := ⟨⟨_, Try.underlying1, by simp, by simp⟩, by kernel_rfl⟩
instance : CellTy Try.prog 2 := ⟨⟨_, Try.underlying2, by simp, by simp⟩, by kernel_rfl⟩
instance : ZeroTy Try.prog 2 (.int .i64 0) := ⟨by kernel_rfl⟩
instance : IntTy Try.prog 2 .i64 := ⟨by kernel_rfl⟩
instance : CellTy Try.prog 3 := ⟨⟨_, Try.underlying3, by simp, by simp⟩, by kernel_rfl⟩
instance : ZeroTy Try.prog 3 (.int .i64 0) := ⟨by kernel_rfl⟩
instance : IntTy Try.prog 3 .i64 := ⟨by kernel_rfl⟩
instance : CellTy Try.prog 4 := ⟨⟨_, Try.underlying4, by simp, by simp⟩, by kernel_rfl⟩
instance : ZeroTy Try.prog 4 (.bool false) := ⟨by kernel_rfl⟩
instance : CellTy Try.prog 5 := ⟨⟨_, Try.underlying5, by simp, by simp⟩, by kernel_rfl⟩
instance : ZeroTy Try.prog 5 (.int .u8 0) := ⟨by kernel_rfl⟩
instance : IntTy Try.prog 5 .u8 := ⟨by kernel_rfl⟩
instance : CellTy Try.prog 6 := ⟨⟨_, Try.underlying6, by simp, by simp⟩, by kernel_rfl⟩
instance : ZeroTy Try.prog 6 (.int .u8 0) := ⟨by kernel_rfl⟩
instance : IntTy Try.prog 6 .u8 := ⟨by kernel_rfl⟩
instance : CellTy Try.prog 9 := ⟨⟨_, Try.underlying9, by simp, by simp⟩, by kernel_rfl⟩
instance : ZeroTy Try.prog 9 (.string ByteArray.empty) := ⟨by kernel_rfl⟩
instance : StrTy Try.prog 9 := ⟨by kernel_rfl⟩
instance : CellTy Try.prog 10 := ⟨⟨_, Try.underlying10, by simp, by simp⟩, by kernel_rfl⟩
instance : ZeroTy Try.prog 10 (.string ByteArray.empty) := ⟨by kernel_rfl⟩
instance : StrTy Try.prog 10 := ⟨by kernel_rfl⟩
instance : CellTy Try.prog 11 := ⟨⟨_, Try.underlying11, by simp, by simp⟩, by kernel_rfl⟩
instance : ZeroTy Try.prog 11 (.string ByteArray.empty) := ⟨by kernel_rfl⟩
instance : StrTy Try.prog 11 := ⟨by kernel_rfl⟩
instance : CellTy Try.prog 12 := ⟨⟨_, Try.underlying12, by simp, by simp⟩, by kernel_rfl⟩
instance : ZeroTy Try.prog 12 (.int .u64 0) := ⟨by kernel_rfl⟩
instance : IntTy Try.prog 12 .u64 := ⟨by kernel_rfl⟩
instance : CellTy Try.prog 15 := ⟨⟨_, Try.underlying15, by simp, by simp⟩, by kernel_rfl⟩
instance : CellTy Try.prog 16 := ⟨⟨_, Try.underlying16, by simp, by simp⟩, by kernel_rfl⟩
instance : CellTy Try.prog 17 := ⟨⟨_, Try.underlying17, by simp, by simp⟩, by kernel_rfl⟩
instance : CellTy Try.prog 20 := ⟨⟨_, Try.underlying20, by simp, by simp⟩, by kernel_rfl⟩
instance : CellTy Try.prog 21 := ⟨⟨_, Try.underlying21, by simp, by simp⟩, by kernel_rfl⟩
instance : ZeroTy Try.prog 21 (.int .i32 0) := ⟨by kernel_rfl⟩
instance : IntTy Try.prog 21 .i32 := ⟨by kernel_rfl⟩
instance : SliceTy Try.prog 22 2 (.int .i64 0) 8 := ⟨by kernel_rfl, by kernel_rfl, rfl⟩
instance : CellTy Try.prog 22 := ⟨⟨_, Try.underlying22, by simp, by simp⟩, by kernel_rfl⟩
instance : ZeroTy Try.prog 22 (.slice none 0 0) := ⟨by kernel_rfl⟩
instance : CellTy Try.prog 24 := ⟨⟨_, Try.underlying24, by simp, by simp⟩, by kernel_rfl⟩
instance : CellTy Try.prog 25 := ⟨⟨_, Try.underlying25, by simp, by simp⟩, by kernel_rfl⟩
instance : CellTy Try.prog 26 := ⟨⟨_, Try.underlying26, by simp, by simp⟩, by kernel_rfl⟩
instance : CellTy Try.prog 28 := ⟨⟨_, Try.underlying28, by simp, by simp⟩, by kernel_rfl⟩
instance : CellTy Try.prog 29 := ⟨⟨_, Try.underlying29, by simp, by simp⟩, by kernel_rfl⟩
instance : CellTy Try.prog 30 := ⟨⟨_, Try.underlying30, by simp, by simp⟩, by kernel_rfl⟩
instance : SliceTy Try.prog 31 5 (.int .u8 0) 1 := ⟨by kernel_rfl, by kernel_rfl, rfl⟩
instance : CellTy Try.prog 31 := ⟨⟨_, Try.underlying31, by simp, by simp⟩, by kernel_rfl⟩
instance : ZeroTy Try.prog 31 (.slice none 0 0) := ⟨by kernel_rfl⟩
instance : CellTy Try.prog 32 := ⟨⟨_, Try.underlying32, by simp, by simp⟩, by kernel_rfl⟩
instance : CellTy Try.prog 33 := ⟨⟨_, Try.underlying33, by simp, by simp⟩, by kernel_rfl⟩
instance : CellTy Try.prog 34 := ⟨⟨_, Try.underlying34, by simp, by simp⟩, by kernel_rfl⟩
instance : CellTy Try.prog 35 := ⟨⟨_, Try.underlying35, by simp, by simp⟩, by kernel_rfl⟩
instance : ZeroTy Try.prog 35 (.int .u64 0) := ⟨by kernel_rfl⟩
instance : IntTy Try.prog 35 .u64 := ⟨by kernel_rfl⟩
instance : CellTy Try.prog 36 := ⟨⟨_, Try.underlying36, by simp, by simp⟩, by kernel_rfl⟩
instance : CellTy Try.prog 37 := ⟨⟨_, Try.underlying37, by simp, by simp⟩, by kernel_rfl⟩
instance : CellTy Try.prog 38 := ⟨⟨_, Try.underlying38, by simp, by simp⟩, by kernel_rfl⟩
instance : CellTy Try.prog 39 := ⟨⟨_, Try.underlying39, by simp, by simp⟩, by kernel_rfl⟩
instance : CellTy Try.prog 40 := ⟨⟨_, Try.underlying40, by simp, by simp⟩, by kernel_rfl⟩
instance : CellTy Try.prog 41 := ⟨⟨_, Try.underlying41, by simp, by simp⟩, by kernel_rfl⟩
instance : CellTy Try.prog 42 := ⟨⟨_, Try.underlying42, by simp, by simp⟩, by kernel_rfl⟩
instance : SliceTy Try.prog 43 22 (.slice none 0 0) 24 := ⟨by kernel_rfl, by kernel_rfl, rfl⟩
instance : CellTy Try.prog 43 := ⟨⟨_, Try.underlying43, by simp, by simp⟩, by kernel_rfl⟩
instance : ZeroTy Try.prog 43 (.slice none 0 0) := ⟨by kernel_rfl⟩
instance : SliceTy Try.prog 44 66 (.slice none 0 0) 24 := ⟨by kernel_rfl, by kernel_rfl, rfl⟩
instance : CellTy Try.prog 44 := ⟨⟨_, Try.underlying44, by simp, by simp⟩, by kernel_rfl⟩
instance : ZeroTy Try.prog 44 (.slice none 0 0) := ⟨by kernel_rfl⟩
instance : StructTy Try.prog 45 2 #[.slice none 0 0, .slice none 0 0] := ⟨⟨_, Try.underlying45⟩, by kernel_rfl⟩
instance : ZeroTy Try.prog 45 (.agg #[.slice none 0 0, .slice none 0 0]) := ⟨by kernel_rfl⟩
instance : FieldTy Try.prog 45 0 0 := ⟨fun a w => by kernel_rfl⟩
instance : FieldTy Try.prog 45 1 1 := ⟨fun a w => by kernel_rfl⟩
instance : StructTy Try.prog 46 2 #[.slice none 0 0, .slice none 0 0] := ⟨⟨_, Try.underlying46⟩, by kernel_rfl⟩
instance : ZeroTy Try.prog 46 (.agg #[.slice none 0 0, .slice none 0 0]) := ⟨by kernel_rfl⟩
instance : FieldTy Try.prog 46 0 0 := ⟨fun a w => by kernel_rfl⟩
instance : FieldTy Try.prog 46 1 1 := ⟨fun a w => by kernel_rfl⟩
instance : CellTy Try.prog 47 := ⟨⟨_, Try.underlying47, by simp, by simp⟩, by kernel_rfl⟩
instance : CellTy Try.prog 48 := ⟨⟨_, Try.underlying48, by simp, by simp⟩, by kernel_rfl⟩
instance : CellTy Try.prog 49 := ⟨⟨_, Try.underlying49, by simp, by simp⟩, by kernel_rfl⟩
instance : CellTy Try.prog 50 := ⟨⟨_, Try.underlying50, by simp, by simp⟩, by kernel_rfl⟩
instance : CellTy Try.prog 51 := ⟨⟨_, Try.underlying51, by simp, by simp⟩, by kernel_rfl⟩
instance : CellTy Try.prog 52 := ⟨⟨_, Try.underlying52, by simp, by simp⟩, by kernel_rfl⟩
instance : CellTy Try.prog 53 := ⟨⟨_, Try.underlying53, by simp, by simp⟩, by kernel_rfl⟩
instance : CellTy Try.prog 54 := ⟨⟨_, Try.underlying54, by simp, by simp⟩, by kernel_rfl⟩
instance : StructTy Try.prog 55 3 #[.slice none 0 0, .int .i64 0, .int .u64 0] := ⟨⟨_, Try.underlying55⟩, by kernel_rfl⟩
instance : ZeroTy Try.prog 55 (.agg #[.slice none 0 0, .int .i64 0, .int .u64 0]) := ⟨by kernel_rfl⟩
instance : FieldTy Try.prog 55 0 0 := ⟨fun a w => by kernel_rfl⟩
instance : FieldTy Try.prog 55 1 1 := ⟨fun a w => by kernel_rfl⟩
instance : FieldTy Try.prog 55 2 2 := ⟨fun a w => by kernel_rfl⟩
instance : StructTy Try.prog 56 3 #[.slice none 0 0, .int .i64 0, .int .u64 0] := ⟨⟨_, Try.underlying56⟩, by kernel_rfl⟩
instance : ZeroTy Try.prog 56 (.agg #[.slice none 0 0, .int .i64 0, .int .u64 0]) := ⟨by kernel_rfl⟩
instance : FieldTy Try.prog 56 0 0 := ⟨fun a w => by kernel_rfl⟩
instance : FieldTy Try.prog 56 1 1 := ⟨fun a w => by kernel_rfl⟩
instance : FieldTy Try.prog 56 2 2 := ⟨fun a w => by kernel_rfl⟩
instance : CellTy Try.prog 57 := ⟨⟨_, Try.underlying57, by simp, by simp⟩, by kernel_rfl⟩
instance : ZeroTy Try.prog 57 (.int .u64 0) := ⟨by kernel_rfl⟩
instance : IntTy Try.prog 57 .u64 := ⟨by kernel_rfl⟩
instance : CellTy Try.prog 58 := ⟨⟨_, Try.underlying58, by simp, by simp⟩, by kernel_rfl⟩
instance : CellTy Try.prog 59 := ⟨⟨_, Try.underlying59, by simp, by simp⟩, by kernel_rfl⟩
instance : CellTy Try.prog 60 := ⟨⟨_, Try.underlying60, by simp, by simp⟩, by kernel_rfl⟩
instance : CellTy Try.prog 61 := ⟨⟨_, Try.underlying61, by simp, by simp⟩, by kernel_rfl⟩
instance : CellTy Try.prog 63 := ⟨⟨_, Try.underlying63, by simp, by simp⟩, by kernel_rfl⟩
instance : CellTy Try.prog 64 := ⟨⟨_, Try.underlying64, by simp, by simp⟩, by kernel_rfl⟩
instance : CellTy Try.prog 65 := ⟨⟨_, Try.underlying65, by simp, by simp⟩, by kernel_rfl⟩
instance : CellTy Try.prog 66 := ⟨⟨_, Try.underlying66, by simp, by simp⟩, by kernel_rfl⟩
instance : ZeroTy Try.prog 66 (.slice none 0 0) := ⟨by kernel_rfl⟩
instance : CellTy Try.prog 67 := ⟨⟨_, Try.underlying67, by simp, by simp⟩, by kernel_rfl⟩
instance : ZeroTy Try.prog 67 (.slice none 0 0) := ⟨by kernel_rfl⟩
instance : CellTy Try.prog 68 := ⟨⟨_, Try.underlying68, by simp, by simp⟩, by kernel_rfl⟩
instance : StructTy Try.prog 69 3 #[.slice none 0 0, .slice none 0 0, .int .i64 0] := ⟨⟨_, Try.underlying69⟩, by kernel_rfl⟩
instance : ZeroTy Try.prog 69 (.agg #[.slice none 0 0, .slice none 0 0, .int .i64 0]) := ⟨by kernel_rfl⟩
instance : FieldTy Try.prog 69 0 0 := ⟨fun a w => by kernel_rfl⟩
instance : FieldTy Try.prog 69 1 1 := ⟨fun a w => by kernel_rfl⟩
instance : FieldTy Try.prog 69 2 2 := ⟨fun a w => by kernel_rfl⟩
instance : StructTy Try.prog 70 3 #[.slice none 0 0, .slice none 0 0, .int .i64 0] := ⟨⟨_, Try.underlying70⟩, by kernel_rfl⟩
instance : ZeroTy Try.prog 70 (.agg #[.slice none 0 0, .slice none 0 0, .int .i64 0]) := ⟨by kernel_rfl⟩
instance : FieldTy Try.prog 70 0 0 := ⟨fun a w => by kernel_rfl⟩
instance : FieldTy Try.prog 70 1 1 := ⟨fun a w => by kernel_rfl⟩
instance : FieldTy Try.prog 70 2 2 := ⟨fun a w => by kernel_rfl⟩
instance : SliceTy Try.prog 71 3 (.int .i64 0) 8 := ⟨by kernel_rfl, by kernel_rfl, rfl⟩
instance : CellTy Try.prog 71 := ⟨⟨_, Try.underlying71, by simp, by simp⟩, by kernel_rfl⟩
instance : ZeroTy Try.prog 71 (.slice none 0 0) := ⟨by kernel_rfl⟩
instance : StructTy Try.prog 72 3 #[.int .i64 0, .slice none 0 0, .int .i64 0] := ⟨⟨_, Try.underlying72⟩, by kernel_rfl⟩
instance : ZeroTy Try.prog 72 (.agg #[.int .i64 0, .slice none 0 0, .int .i64 0]) := ⟨by kernel_rfl⟩
instance : FieldTy Try.prog 72 0 0 := ⟨fun a w => by kernel_rfl⟩
instance : FieldTy Try.prog 72 1 1 := ⟨fun a w => by kernel_rfl⟩
instance : FieldTy Try.prog 72 2 2 := ⟨fun a w => by kernel_rfl⟩
instance : StructTy Try.prog 73 3 #[.int .i64 0, .slice none 0 0, .int .i64 0] := ⟨⟨_, Try.underlying73⟩, by kernel_rfl⟩
instance : ZeroTy Try.prog 73 (.agg #[.int .i64 0, .slice none 0 0, .int .i64 0]) := ⟨by kernel_rfl⟩
instance : FieldTy Try.prog 73 0 0 := ⟨fun a w => by kernel_rfl⟩
instance : FieldTy Try.prog 73 1 1 := ⟨fun a w => by kernel_rfl⟩
instance : FieldTy Try.prog 73 2 2 := ⟨fun a w => by kernel_rfl⟩
instance : CellTy Try.prog 74 := ⟨⟨_, Try.underlying74, by simp, by simp⟩, by kernel_rfl⟩
instance : CellTy Try.prog 75 := ⟨⟨_, Try.underlying75, by simp, by simp⟩, by kernel_rfl⟩
instance : CellTy Try.prog 76 := ⟨⟨_, Try.underlying76, by simp, by simp⟩, by kernel_rfl⟩
instance : CellTy Try.prog 77 := ⟨⟨_, Try.underlying77, by simp, by simp⟩, by kernel_rfl⟩
instance : CellTy Try.prog 78 := ⟨⟨_, Try.underlying78, by simp, by simp⟩, by kernel_rfl⟩
instance : CellTy Try.prog 79 := ⟨⟨_, Try.underlying79, by simp, by simp⟩, by kernel_rfl⟩
instance : CellTy Try.prog 80 := ⟨⟨_, Try.underlying80, by simp, by simp⟩, by kernel_rfl⟩
instance : CellTy Try.prog 81 := ⟨⟨_, Try.underlying81, by simp, by simp⟩, by kernel_rfl⟩
instance : CellTy Try.prog 82 := ⟨⟨_, Try.underlying82, by simp, by simp⟩, by kernel_rfl⟩
instance : CellTy Try.prog 83 := ⟨⟨_, Try.underlying83, by simp, by simp⟩, by kernel_rfl⟩
instance : CellTy Try.prog 84 := ⟨⟨_, Try.underlying84, by simp, by simp⟩, by kernel_rfl⟩
instance : ZeroTy Try.prog 84 (.slice none 0 0) := ⟨by kernel_rfl⟩
instance : CellTy Try.prog 85 := ⟨⟨_, Try.underlying85, by simp, by simp⟩, by kernel_rfl⟩
instance : CellTy Try.prog 86 := ⟨⟨_, Try.underlying86, by simp, by simp⟩, by kernel_rfl⟩
instance : StructTy Try.prog 87 3 #[.slice none 0 0, .slice none 0 0, .int .i64 0] := ⟨⟨_, Try.underlying87⟩, by kernel_rfl⟩
instance : ZeroTy Try.prog 87 (.agg #[.slice none 0 0, .slice none 0 0, .int .i64 0]) := ⟨by kernel_rfl⟩
instance : FieldTy Try.prog 87 0 0 := ⟨fun a w => by kernel_rfl⟩
instance : FieldTy Try.prog 87 1 1 := ⟨fun a w => by kernel_rfl⟩
instance : FieldTy Try.prog 87 2 2 := ⟨fun a w => by kernel_rfl⟩
instance : StructTy Try.prog 88 3 #[.slice none 0 0, .slice none 0 0, .int .i64 0] := ⟨⟨_, Try.underlying88⟩, by kernel_rfl⟩
instance : ZeroTy Try.prog 88 (.agg #[.slice none 0 0, .slice none 0 0, .int .i64 0]) := ⟨by kernel_rfl⟩
instance : FieldTy Try.prog 88 0 0 := ⟨fun a w => by kernel_rfl⟩
instance : FieldTy Try.prog 88 1 1 := ⟨fun a w => by kernel_rfl⟩
instance : FieldTy Try.prog 88 2 2 := ⟨fun a w => by kernel_rfl⟩
instance : CellTy Try.prog 89 := ⟨⟨_, Try.underlying89, by simp, by simp⟩, by kernel_rfl⟩
instance : CellTy Try.prog 90 := ⟨⟨_, Try.underlying90, by simp, by simp⟩, by kernel_rfl⟩
instance : CellTy Try.prog 91 := ⟨⟨_, Try.underlying91, by simp, by simp⟩, by kernel_rfl⟩
instance : CellTy Try.prog 92 := ⟨⟨_, Try.underlying92, by simp, by simp⟩, by kernel_rfl⟩
instance : CellTy Try.prog 93 := ⟨⟨_, Try.underlying93, by simp, by simp⟩, by kernel_rfl⟩
instance : CellTy Try.prog 94 := ⟨⟨_, Try.underlying94, by simp, by simp⟩, by kernel_rfl⟩
instance : CellTy Try.prog 95 := ⟨⟨_, Try.underlying95, by simp, by simp⟩, by kernel_rfl⟩
instance : CellTy Try.prog 96 := ⟨⟨_, Try.underlying96, by simp, by simp⟩, by kernel_rfl⟩
instance : CellTy Try.prog 97 := ⟨⟨_, Try.underlying97, by simp, by simp⟩, by kernel_rfl⟩
instance : CellTy Try.prog 98 := ⟨⟨_, Try.underlying98, by simp, by simp⟩, by kernel_rfl⟩
instance : CellTy Try.prog 99 := ⟨⟨_, Try.underlying99, by simp, by simp⟩, by kernel_rfl⟩
instance : CellTy Try.prog 100 := ⟨⟨_, Try.underlying100, by simp, by simp⟩, by kernel_rfl⟩
instance : CellTy Try.prog 101 := ⟨⟨_, Try.underlying101, by simp, by simp⟩, by kernel_rfl⟩
instance : CellTy Try.prog 103 := ⟨⟨_, Try.underlying103, by simp, by simp⟩, by kernel_rfl⟩
instance : CellTy Try.prog 104 := ⟨⟨_, Try.underlying104, by simp, by simp⟩, by kernel_rfl⟩
instance : CellTy Try.prog 105 := ⟨⟨_, Try.underlying105, by simp, by simp⟩, by kernel_rfl⟩
instance : ZeroTy Try.prog 105 (.int .i64 0) := ⟨by kernel_rfl⟩
instance : IntTy Try.prog 105 .i64 := ⟨by kernel_rfl⟩
instance : CellTy Try.prog 107 := ⟨⟨_, Try.underlying107, by simp, by simp⟩, by kernel_rfl⟩
instance : CellTy Try.prog 108 := ⟨⟨_, Try.underlying108, by simp, by simp⟩, by kernel_rfl⟩
instance : CellTy Try.prog 109 := ⟨⟨_, Try.underlying109, by simp, by simp⟩, by kernel_rfl⟩
instance : CellTy Try.prog 110 := ⟨⟨_, Try.underlying110, by simp, by simp⟩, by kernel_rfl⟩
instance : CellTy Try.prog 111 := ⟨⟨_, Try.underlying111, by simp, by simp⟩, by kernel_rfl⟩
instance : CellTy Try.prog 112 := ⟨⟨_, Try.underlying112, by simp, by simp⟩, by kernel_rfl⟩
instance : ZeroTy Try.prog 112 (.int .u32 0) := ⟨by kernel_rfl⟩
instance : IntTy Try.prog 112 .u32 := ⟨by kernel_rfl⟩
instance : CellTy Try.prog 113 := ⟨⟨_, Try.underlying113, by simp, by simp⟩, by kernel_rfl⟩
instance : CellTy Try.prog 114 := ⟨⟨_, Try.underlying114, by simp, by simp⟩, by kernel_rfl⟩
instance : CellTy Try.prog 115 := ⟨⟨_, Try.underlying115, by simp, by simp⟩, by kernel_rfl⟩
instance : CellTy Try.prog 116 := ⟨⟨_, Try.underlying116, by simp, by simp⟩, by kernel_rfl⟩
instance : SliceTy Try.prog 117 43 (.slice none 0 0) 24 := ⟨by kernel_rfl, by kernel_rfl, rfl⟩
instance : CellTy Try.prog 117 := ⟨⟨_, Try.underlying117, by simp, by simp⟩, by kernel_rfl⟩
instance : ZeroTy Try.prog 117 (.slice none 0 0) := ⟨by kernel_rfl⟩
instance : CellTy Try.prog 118 := ⟨⟨_, Try.underlying118, by simp, by simp⟩, by kernel_rfl⟩
instance : CellTy Try.prog 119 := ⟨⟨_, Try.underlying119, by simp, by simp⟩, by kernel_rfl⟩
instance : ZeroTy Try.prog 119 (.int .u64 0) := ⟨by kernel_rfl⟩
instance : IntTy Try.prog 119 .u64 := ⟨by kernel_rfl⟩
instance : CellTy Try.prog 120 := ⟨⟨_, Try.underlying120, by simp, by simp⟩, by kernel_rfl⟩
instance : CellTy Try.prog 121 := ⟨⟨_, Try.underlying121, by simp, by simp⟩, by kernel_rfl⟩
instance : CellTy Try.prog 122 := ⟨⟨_, Try.underlying122, by simp, by simp⟩, by kernel_rfl⟩
instance : CellTy Try.prog 123 := ⟨⟨_, Try.underlying123, by simp, by simp⟩, by kernel_rfl⟩
instance : CellTy Try.prog 124 := ⟨⟨_, Try.underlying124, by simp, by simp⟩, by kernel_rfl⟩
instance : CellTy Try.prog 125 := ⟨⟨_, Try.underlying125, by simp, by simp⟩, by kernel_rfl⟩
instance : CellTy Try.prog 126 := ⟨⟨_, Try.underlying126, by simp, by simp⟩, by kernel_rfl⟩
instance : CellTy Try.prog 127 := ⟨⟨_, Try.underlying127, by simp, by simp⟩, by kernel_rfl⟩
instance : CellTy Try.prog 128 := ⟨⟨_, Try.underlying128, by simp, by simp⟩, by kernel_rfl⟩
instance : CellTy Try.prog 129 := ⟨⟨_, Try.underlying129, by simp, by simp⟩, by kernel_rfl⟩
instance : CellTy Try.prog 130 := ⟨⟨_, Try.underlying130, by simp, by simp⟩, by kernel_rfl⟩
instance : CellTy Try.prog 131 := ⟨⟨_, Try.underlying131, by simp, by simp⟩, by kernel_rfl⟩
instance : CellTy Try.prog 133 := ⟨⟨_, Try.underlying133, by simp, by simp⟩, by kernel_rfl⟩
instance : CellTy Try.prog 134 := ⟨⟨_, Try.underlying134, by simp, by simp⟩, by kernel_rfl⟩
instance : CellTy Try.prog 135 := ⟨⟨_, Try.underlying135, by simp, by simp⟩, by kernel_rfl⟩
instance : CellTy Try.prog 136 := ⟨⟨_, Try.underlying136, by simp, by simp⟩, by kernel_rfl⟩
instance : CellTy Try.prog 137 := ⟨⟨_, Try.underlying137, by simp, by simp⟩, by kernel_rfl⟩
instance : CellTy Try.prog 143 := ⟨⟨_, Try.underlying143, by simp, by simp⟩, by kernel_rfl⟩
instance : CellTy Try.prog 144 := ⟨⟨_, Try.underlying144, by simp, by simp⟩, by kernel_rfl⟩
instance : ZeroTy Try.prog 144 (.int .u8 0) := ⟨by kernel_rfl⟩
instance : IntTy Try.prog 144 .u8 := ⟨by kernel_rfl⟩
instance : CellTy Try.prog 145 := ⟨⟨_, Try.underlying145, by simp, by simp⟩, by kernel_rfl⟩
instance : ZeroTy Try.prog 145 (.int .u8 0) := ⟨by kernel_rfl⟩
instance : IntTy Try.prog 145 .u8 := ⟨by kernel_rfl⟩
instance : CellTy Try.prog 146 := ⟨⟨_, Try.underlying146, by simp, by simp⟩, by kernel_rfl⟩
instance : CellTy Try.prog 147 := ⟨⟨_, Try.underlying147, by simp, by simp⟩, by kernel_rfl⟩
instance : CellTy Try.prog 148 := ⟨⟨_, Try.underlying148, by simp, by simp⟩, by kernel_rfl⟩
instance : ZeroTy Try.prog 148 (.int .i32 0) := ⟨by kernel_rfl⟩
instance : IntTy Try.prog 148 .i32 := ⟨by kernel_rfl⟩
instance : CellTy Try.prog 149 := ⟨⟨_, Try.underlying149, by simp, by simp⟩, by kernel_rfl⟩
instance : ZeroTy Try.prog 149 (.int .i32 0) := ⟨by kernel_rfl⟩
instance : IntTy Try.prog 149 .i32 := ⟨by kernel_rfl⟩
instance : FuncTy Try.prog 3 := ⟨_, Try.func3, by kernel_rfl, by kernel_rfl⟩
instance : FuncTy Try.prog 4 := ⟨_, Try.func4, by kernel_rfl, by kernel_rfl⟩
instance : FuncTy Try.prog 5 := ⟨_, Try.func5, by kernel_rfl, by kernel_rfl⟩
instance : FuncTy Try.prog 6 := ⟨_, Try.func6, by kernel_rfl, by kernel_rfl⟩
instance : FuncTy Try.prog 7 := ⟨_, Try.func7, by kernel_rfl, by kernel_rfl⟩
instance : FuncTy Try.prog 8 := ⟨_, Try.func8, by kernel_rfl, by kernel_rfl⟩
instance : FuncTy Try.prog 9 := ⟨_, Try.func9, by kernel_rfl, by kernel_rfl⟩
instance : FuncTy Try.prog 10 := ⟨_, Try.func10, by kernel_rfl, by kernel_rfl⟩
instance : FuncTy Try.prog 11 := ⟨_, Try.func11, by kernel_rfl, by kernel_rfl⟩
instance : FuncTy Try.prog 12 := ⟨_, Try.func12, by kernel_rfl, by kernel_rfl⟩
instance : FuncTy Try.prog 13 := ⟨_, Try.func13, by kernel_rfl, by kernel_rfl⟩
instance : FuncTy Try.prog 14 := ⟨_, Try.func14, by kernel_rfl, by kernel_rfl⟩
instance : FuncTy Try.prog 15 := ⟨_, Try.func15, by kernel_rfl, by kernel_rfl⟩
instance : FuncTy Try.prog 16 := ⟨_, Try.func16, by kernel_rfl, by kernel_rfl⟩
instance : FuncTy Try.prog 17 := ⟨_, Try.func17, by kernel_rfl, by kernel_rfl⟩
instance : FuncTy Try.prog 18 := ⟨_, Try.func18, by kernel_rfl, by kernel_rfl⟩
instance : FuncTy Try.prog 19 := ⟨_, Try.func19, by kernel_rfl, by kernel_rfl⟩
instance : FuncTy Try.prog 20 := ⟨_, Try.func20, by kernel_rfl, by kernel_rfl⟩
instance : FuncTy Try.prog 21 := ⟨_, Try.func21, by kernel_rfl, by kernel_rfl⟩
instance : FuncTy Try.prog 22 := ⟨_, Try.func22, by kernel_rfl, by kernel_rfl⟩
instance : FuncTy Try.prog 23 := ⟨_, Try.func23, by kernel_rfl, by kernel_rfl⟩
instance : FuncTy Try.prog 24 := ⟨_, Try.func24, by kernel_rfl, by kernel_rfl⟩
instance : FuncTy Try.prog 25 := ⟨_, Try.func25, by kernel_rfl, by kernel_rfl⟩
instance : FuncTy Try.prog 26 := ⟨_, Try.func26, by kernel_rfl, by kernel_rfl⟩
instance : FuncTy Try.prog 27 := ⟨_, Try.func27, by kernel_rfl, by kernel_rfl⟩
instance : FuncTy Try.prog 28 := ⟨_, Try.func28, by kernel_rfl, by kernel_rfl⟩
instance : FuncTy Try.prog 29 := ⟨_, Try.func29, by kernel_rfl, by kernel_rfl⟩
instance : FuncTy Try.prog 30 := ⟨_, Try.func30, by kernel_rfl, by kernel_rfl⟩
instance : FuncTy Try.prog 31 := ⟨_, Try.func31, by kernel_rfl, by kernel_rfl⟩
instance : FuncTy Try.prog 32 := ⟨_, Try.func32, by kernel_rfl, by kernel_rfl⟩
instance : FuncTy Try.prog 33 := ⟨_, Try.func33, by kernel_rfl, by kernel_rfl⟩
instance : FuncTy Try.prog 34 := ⟨_, Try.func34, by kernel_rfl, by kernel_rfl⟩
instance : FuncTy Try.prog 35 := ⟨_, Try.func35, by kernel_rfl, by kernel_rfl⟩
instance : FuncTy Try.prog 36 := ⟨_, Try.func36, by kernel_rfl, by kernel_rfl⟩
instance : FuncTy Try.prog 37 := ⟨_, Try.func37, by kernel_rfl, by kernel_rfl⟩
instance : FuncTy Try.prog 38 := ⟨_, Try.func38, by kernel_rfl, by kernel_rfl⟩
instance : FuncTy Try.prog 39 := ⟨_, Try.func39, by kernel_rfl, by kernel_rfl⟩
instance : FuncTy Try.prog 40 := ⟨_, Try.func40, by kernel_rfl, by kernel_rfl⟩
instance : FuncTy Try.prog 41 := ⟨_, Try.func41, by kernel_rfl, by kernel_rfl⟩
instance : FuncTy Try.prog 42 := ⟨_, Try.func42, by kernel_rfl, by kernel_rfl⟩
instance : FuncTy Try.prog 43 := ⟨_, Try.func43, by kernel_rfl, by kernel_rfl⟩
instance : FuncTy Try.prog 44 := ⟨_, Try.func44, by kernel_rfl, by kernel_rfl⟩
instance : FuncTy Try.prog 45 := ⟨_, Try.func45, by kernel_rfl, by kernel_rfl⟩
instance : FuncTy Try.prog 46 := ⟨_, Try.func46, by kernel_rfl, by kernel_rfl⟩
instance : FuncTy Try.prog 47 := ⟨_, Try.func47, by kernel_rfl, by kernel_rfl⟩
instance : FuncTy Try.prog 48 := ⟨_, Try.func48, by kernel_rfl, by kernel_rfl⟩
instance : FuncTy Try.prog 49 := ⟨_, Try.func49, by kernel_rfl, by kernel_rfl⟩
instance : FuncTy Try.prog 50 := ⟨_, Try.func50, by kernel_rfl, by kernel_rfl⟩
instance : FuncTy Try.prog 51 := ⟨_, Try.func51, by kernel_rfl, by kernel_rfl⟩
instance : FuncTy Try.prog 52 := ⟨_, Try.func52, by kernel_rfl, by kernel_rfl⟩
instance : FuncTy Try.prog 53 := ⟨_, Try.func53, by kernel_rfl, by kernel_rfl⟩
instance : FuncTy Try.prog 54 := ⟨_, Try.func54, by kernel_rfl, by kernel_rfl⟩
instance : FuncTy Try.prog 55 := ⟨_, Try.func55, by kernel_rfl, by kernel_rfl⟩
instance : FuncTy Try.prog 56 := ⟨_, Try.func56, by kernel_rfl, by kernel_rfl⟩
instance : FuncTy Try.prog 57 := ⟨_, Try.func57, by kernel_rfl, by kernel_rfl⟩
instance : FuncTy Try.prog 58 := ⟨_, Try.func58, by kernel_rfl, by kernel_rfl⟩
instance : FuncTy Try.prog 59 := ⟨_, Try.func59, by kernel_rfl, by kernel_rfl⟩
instance : FuncTy Try.prog 60 := ⟨_, Try.func60, by kernel_rfl, by kernel_rfl⟩
instance : FuncTy Try.prog 61 := ⟨_, Try.func61, by kernel_rfl, by kernel_rfl⟩
instance : FuncTy Try.prog 62 := ⟨_, Try.func62, by kernel_rfl, by kernel_rfl⟩
instance : FuncTy Try.prog 63 := ⟨_, Try.func63, by kernel_rfl, by kernel_rfl⟩
instance : FuncTy Try.prog 64 := ⟨_, Try.func64, by kernel_rfl, by kernel_rfl⟩
instance : FuncTy Try.prog 65 := ⟨_, Try.func65, by kernel_rfl, by kernel_rfl⟩
instance : FuncTy Try.prog 66 := ⟨_, Try.func66, by kernel_rfl, by kernel_rfl⟩
instance : FuncTy Try.prog 67 := ⟨_, Try.func67, by kernel_rfl, by kernel_rfl⟩
instance : FuncTy Try.prog 68 := ⟨_, Try.func68, by kernel_rfl, by kernel_rfl⟩
instance : FuncTy Try.prog 69 := ⟨_, Try.func69, by kernel_rfl, by kernel_rfl⟩
instance : FuncTy Try.prog 70 := ⟨_, Try.func70, by kernel_rfl, by kernel_rfl⟩
instance : FuncTy Try.prog 71 := ⟨_, Try.func71, by kernel_rfl, by kernel_rfl⟩
instance : FuncTy Try.prog 72 := ⟨_, Try.func72, by kernel_rfl, by kernel_rfl⟩
instance : FuncTy Try.prog 73 := ⟨_, Try.func73, by kernel_rfl, by kernel_rfl⟩
instance : FuncTy Try.prog 74 := ⟨_, Try.func74, by kernel_rfl, by kernel_rfl⟩
instance : FuncTy Try.prog 75 := ⟨_, Try.func75, by kernel_rfl, by kernel_rfl⟩
instance : FuncTy Try.prog 76 := ⟨_, Try.func76, by kernel_rfl, by kernel_rfl⟩
instance : FuncTy Try.prog 77 := ⟨_, Try.func77, by kernel_rfl, by kernel_rfl⟩
instance : FuncTy Try.prog 78 := ⟨_, Try.func78, by kernel_rfl, by kernel_rfl⟩
instance : FuncTy Try.prog 79 := ⟨_, Try.func79, by kernel_rfl, by kernel_rfl⟩
instance : FuncTy Try.prog 80 := ⟨_, Try.func80, by kernel_rfl, by kernel_rfl⟩
instance : FuncTy Try.prog 81 := ⟨_, Try.func81, by kernel_rfl, by kernel_rfl⟩
instance : FuncTy Try.prog 82 := ⟨_, Try.func82, by kernel_rfl, by kernel_rfl⟩
instance : FuncTy Try.prog 83 := ⟨_, Try.func83, by kernel_rfl, by kernel_rfl⟩
instance : FuncTy Try.prog 84 := ⟨_, Try.func84, by kernel_rfl, by kernel_rfl⟩
instance : FuncTy Try.prog 85 := ⟨_, Try.func85, by kernel_rfl, by kernel_rfl⟩
instance : FuncTy Try.prog 86 := ⟨_, Try.func86, by kernel_rfl, by kernel_rfl⟩
instance : FuncTy Try.prog 87 := ⟨_, Try.func87, by kernel_rfl, by kernel_rfl⟩
instance : FuncTy Try.prog 88 := ⟨_, Try.func88, by kernel_rfl, by kernel_rfl⟩
instance : FuncTy Try.prog 89 := ⟨_, Try.func89, by kernel_rfl, by kernel_rfl⟩
instance : FuncTy Try.prog 90 := ⟨_, Try.func90, by kernel_rfl, by kernel_rfl⟩
instance : FuncTy Try.prog 91 := ⟨_, Try.func91, by kernel_rfl, by kernel_rfl⟩
instance : FuncTy Try.prog 92 := ⟨_, Try.func92, by kernel_rfl, by kernel_rfl⟩
instance : FuncTy Try.prog 93 := ⟨_, Try.func93, by kernel_rfl, by kernel_rfl⟩
instance : FuncTy Try.prog 94 := ⟨_, Try.func94, by kernel_rfl, by kernel_rfl⟩
instance : FuncTy Try.prog 95 := ⟨_, Try.func95, by kernel_rfl, by kernel_rfl⟩
instance : FuncTy Try.prog 96 := ⟨_, Try.func96, by kernel_rfl, by kernel_rfl⟩
instance : FuncTy Try.prog 97 := ⟨_, Try.func97, by kernel_rfl, by kernel_rfl⟩
instance : FuncTy Try.prog 98 := ⟨_, Try.func98, by kernel_rfl, by kernel_rfl⟩
instance : FuncTy Try.prog 99 := ⟨_, Try.func99, by kernel_rfl, by kernel_rfl⟩
instance : FuncTy Try.prog 100 := ⟨_, Try.func100, by kernel_rfl, by kernel_rfl⟩
instance : FuncTy Try.prog 101 := ⟨_, Try.func101, by kernel_rfl, by kernel_rfl⟩
instance : FuncTy Try.prog 102 := ⟨_, Try.func102, by kernel_rfl, by kernel_rfl⟩
instance : FuncTy Try.prog 103 := ⟨_, Try.func103, by kernel_rfl, by kernel_rfl⟩
instance : FuncTy Try.prog 104 := ⟨_, Try.func104, by kernel_rfl, by kernel_rfl⟩
instance : FuncTy Try.prog 105 := ⟨_, Try.func105, by kernel_rfl, by kernel_rfl⟩
instance : FuncTy Try.prog 106 := ⟨_, Try.func106, by kernel_rfl, by kernel_rfl⟩
instance : FuncTy Try.prog 107 := ⟨_, Try.func107, by kernel_rfl, by kernel_rfl⟩
instance : FuncTy Try.prog 108 := ⟨_, Try.func108, by kernel_rfl, by kernel_rfl⟩
instance : FuncTy Try.prog 109 := ⟨_, Try.func109, by kernel_rfl, by kernel_rfl⟩
instance : FuncTy Try.prog 110 := ⟨_, Try.func110, by kernel_rfl, by kernel_rfl⟩
instance : FuncTy Try.prog 111 := ⟨_, Try.func111, by kernel_rfl, by kernel_rfl⟩
instance : FuncTy Try.prog 112 := ⟨_, Try.func112, by kernel_rfl, by kernel_rfl⟩
instance : FuncTy Try.prog 113 := ⟨_, Try.func113, by kernel_rfl, by kernel_rfl⟩
instance : FuncTy Try.prog 114 := ⟨_, Try.func114, by kernel_rfl, by kernel_rfl⟩
instance : FuncTy Try.prog 115 := ⟨_, Try.func115, by kernel_rfl, by kernel_rfl⟩
instance : FuncTy Try.prog 116 := ⟨_, Try.func116, by kernel_rfl, by kernel_rfl⟩
instance : FuncTy Try.prog 117 := ⟨_, Try.func117, by kernel_rfl, by kernel_rfl⟩
instance : FuncTy Try.prog 118 := ⟨_, Try.func118, by kernel_rfl, by kernel_rfl⟩
instance : FuncTy Try.prog 119 := ⟨_, Try.func119, by kernel_rfl, by kernel_rfl⟩
instance : FuncTy Try.prog 120 := ⟨_, Try.func120, by kernel_rfl, by kernel_rfl⟩
instance : FuncTy Try.prog 121 := ⟨_, Try.func121, by kernel_rfl, by kernel_rfl⟩
instance : FuncTy Try.prog 122 := ⟨_, Try.func122, by kernel_rfl, by kernel_rfl⟩
instance : FuncTy Try.prog 123 := ⟨_, Try.func123, by kernel_rfl, by kernel_rfl⟩
instance : FuncTy Try.prog 124 := ⟨_, Try.func124, by kernel_rfl, by kernel_rfl⟩
instance : FuncTy Try.prog 125 := ⟨_, Try.func125, by kernel_rfl, by kernel_rfl⟩
instance : FuncTy Try.prog 126 := ⟨_, Try.func126, by kernel_rfl, by kernel_rfl⟩
instance : FuncTy Try.prog 127 := ⟨_, Try.func127, by kernel_rfl, by kernel_rfl⟩
instance : FuncTy Try.prog 128 := ⟨_, Try.func128, by kernel_rfl, by kernel_rfl⟩
instance : FuncTy Try.prog 129 := ⟨_, Try.func129, by kernel_rfl, by kernel_rfl⟩
instance : FuncTy Try.prog 130 := ⟨_, Try.func130, by kernel_rfl, by kernel_rfl⟩
instance : FuncTy Try.prog 131 := ⟨_, Try.func131, by kernel_rfl, by kernel_rfl⟩
instance : FuncTy Try.prog 132 := ⟨_, Try.func132, by kernel_rfl, by kernel_rfl⟩
instance : FuncTy Try.prog 133 := ⟨_, Try.func133, by kernel_rfl, by kernel_rfl⟩
instance : FuncTy Try.prog 134 := ⟨_, Try.func134, by kernel_rfl, by kernel_rfl⟩
instance : FuncTy Try.prog 135 := ⟨_, Try.func135, by kernel_rfl, by kernel_rfl⟩
instance : FuncTy Try.prog 136 := ⟨_, Try.func136, by kernel_rfl, by kernel_rfl⟩
instance : FuncTy Try.prog 137 := ⟨_, Try.func137, by kernel_rfl, by kernel_rfl⟩

end Go.Proofs
