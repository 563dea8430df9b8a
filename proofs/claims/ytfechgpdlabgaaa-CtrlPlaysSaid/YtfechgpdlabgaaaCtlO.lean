/-
  CtrlPlays: the whole walk.
-/
import Derived.Test.YtfechgpdlabgaaaCtlN
set_option linter.unusedVariables false
set_option linter.unusedSimpArgs false
namespace Go.Proofs.Ytfechgpdlabgaaa
open Go.RowKit

set_option maxRecDepth 100000 in
set_option maxHeartbeats 1600000 in
theorem ctl_plays_walk (w : World) (r : List UInt8) (A : Option Addr) (cc : Nat) (ops : List COp) (hv : Reads w (fun k => k < w.heap.size) 4 A ops.length (cops ops)) (hc : ops.length ≤ cc) (hc2 : cc ≤ 9223372036854775807) (h64 : ∀ o ∈ ops, o.n < 18446744073709551616) :
    Calls Try.prog 12 #[.string (str r), .slice A ops.length cc] w fun e w' => e = .returned (.bool true) ∧ Below w.heap.size w w' := by
  by_cases h60 : (60 : Int) < ops.length
  · clear hv h64
    go_enter Try.func12, Try.ntmps12
    go_wp2_with fail
    refine (awake22 w).mono ?_
    rintro e w0 ⟨rfl, b0⟩
    go_wp2_with fail
    go_ret
    exact ⟨rfl, b0⟩
  by_cases h20 : (20 : Int) < (r.length : Int)
  · clear hv h64
    have hzr := str_size r
    go_enter Try.func12, Try.ntmps12
    go_wp2_with fail
    refine (awake22 w).mono ?_
    rintro e w0 ⟨rfl, b0⟩
    go_wp2_with fail
    go_ret
    exact ⟨rfl, b0⟩
  exact ctl_body w r A cc ops hv hc hc2 h64 h60 h20
end Go.Proofs.Ytfechgpdlabgaaa
