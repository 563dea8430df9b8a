/-
  Bytes: a slice of bytes, where the program has the type.
-/
import Derived.Test.YtmheofkakcomdaaBys
set_option linter.unusedVariables false
set_option linter.unusedSimpArgs false
namespace Go.Proofs.Ytmheofkakcomdaa
open Go.RowKit
theorem E_u8 : ElemTy Try.prog 39 5 1 1 := elem_of Try.underlying39 (z := .int .u8 0) (by kernel_rfl) rfl (by decide)
end Go.Proofs.Ytmheofkakcomdaa
