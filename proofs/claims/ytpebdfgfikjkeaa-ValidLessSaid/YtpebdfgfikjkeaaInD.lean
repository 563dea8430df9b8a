/-
  instr: the walk of the reference's Right, a way at a time.
-/
import Derived.Test.YtpebdfgfikjkeaaInC
set_option linter.unusedVariables false
set_option linter.unusedSimpArgs false
namespace Go.Proofs.Ytpebdfgfikjkeaa
open Go.RowKit

/-- A row of the reference, its third field said. -/
def rrM (r : Rr) (m : Int) : Value := .agg #[.int .i64 r.op, .string (str r.name), .int .i64 m, .string (str r.takes), .string (str r.has), .bool r.free]
theorem rrM_of (r : Rr) : rrV r = rrM r (r.imm : Int) := rfl

end Go.Proofs.Ytpebdfgfikjkeaa
