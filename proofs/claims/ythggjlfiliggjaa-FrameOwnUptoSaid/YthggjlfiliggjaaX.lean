/- Small words beside the print's: the bitwise complement of an unsigned number, as the walk meets it. -/
import Derived.WalkKit
namespace Go.Proofs.YthggjlfiliggjaaX
open Go.RowKit

theorem unary_xor_u32 (n : Int) : Op.unary .xor (.int .u32 n) = pure (.int .u32 (Go.bits .xor .u32 4294967295 n)) := rfl
theorem unary_xor_u64 (n : Int) : Op.unary .xor (.int .u64 n) = pure (.int .u64 (Go.bits .xor .u64 18446744073709551615 n)) := rfl
theorem max_u32 : IntKind.max .u32 = 4294967295 := rfl
end Go.Proofs.YthggjlfiliggjaaX
