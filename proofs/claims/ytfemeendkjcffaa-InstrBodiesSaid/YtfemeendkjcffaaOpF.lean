/-
  ops: the reference's groups, words, types, floats.
-/
import Derived.Test.YtfemeendkjcffaaOpA
import Derived.Great.Walk
import Derived.Deep.QuietTactic
import Derived.BigQuiet
set_option linter.unusedVariables false
set_option linter.unusedSimpArgs false
namespace Go.Proofs.Ytfemeendkjcffaa
open Go.RowKit

def grpC : Array Value := (grpT.flatMap Rr.cells).toArray
theorem grp_len : grpT.length = 35 := by kernel_rfl

set_option maxRecDepth 100000 in
set_option maxHeartbeats 1600000 in
theorem groups_walk (w : World) : Calls Try.prog 134 #[] w fun e w' => e = .returned (.slice (some ⟨w.heap.size, 0, none⟩) 35 35) ∧ w' = w.alloc (.cells grpC 24) := by
  go_enter Try.func134, Try.ntmps134
  go_wp2_with (refine Great.wpList_buildSliceTo rfl 36 24 35 _ rfl w.heap.size rfl _ rfl Try.underlying36 grpC (by kernel_rfl) ?_)
  go_ret
  exact ⟨rfl, rfl⟩
end Go.Proofs.Ytfemeendkjcffaa
