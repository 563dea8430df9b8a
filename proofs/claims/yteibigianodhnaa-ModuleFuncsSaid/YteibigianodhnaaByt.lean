/-
  Bytes: a slice of bytes, where the program has the type.
-/
import Derived.Test.YteibigianodhnaaBys
set_option linter.unusedVariables false
set_option linter.unusedSimpArgs false
namespace Go.Proofs.Yteibigianodhnaa
open Go.RowKit
theorem E_u8 : ElemTy Try.prog 45 5 1 1 := elem_of Try.underlying45 (z := .int .u8 0) (by kernel_rfl) rfl (by decide)
end Go.Proofs.Yteibigianodhnaa
