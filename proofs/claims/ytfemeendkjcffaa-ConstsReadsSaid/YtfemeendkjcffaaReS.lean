/-
  ConstsReads: the law.
-/
import Derived.Test.YtfemeendkjcffaaReR
set_option linter.unusedVariables false
set_option linter.unusedSimpArgs false
namespace Go.Proofs.Ytfemeendkjcffaa
open Go.RowKit

theorem creads_walk (w : World) (D : Option Addr) (c : Nat) (bs : List UInt8) (S : Nat → Prop) (hlow : ∀ j, S j → j < w.heap.size) (hr : Reads w S 1 D bs.length (u8s bs)) :
    Calls Try.prog 8 #[.slice D bs.length c] w fun e w' => e = .returned (.bool true) ∧ Below w.heap.size w w' := by
  have key : Calls Try.prog 8 #[.slice D bs.length c] w fun e w' => e = .returned (.bool true) ∧ Step (fun _ => False) w w' := by
    by_cases h : bs.length ≤ 300
    · cases hc : creF bs 0 with
      | ok x k => exact creads_ok w D c bs S hlow hr h x k hc
      | er y b => exact creads_er w D c bs S hlow hr h y b hc
    · exact creads_big w D c bs.length (by omega)
  exact key.mono fun _ _ hh => ⟨hh.1, hh.2.below w.heap.size (fun _ _ hf => hf.elim) (Nat.le_refl _)⟩
end Go.Proofs.Ytfemeendkjcffaa
