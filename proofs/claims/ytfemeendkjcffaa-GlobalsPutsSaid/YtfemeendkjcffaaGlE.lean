/-
  globals: the law GlobalsPuts' argument, opened.
-/
import Derived.Test.YtfemeendkjcffaaGlD
import Derived.Test.YtfemeendkjcffaaOpnI
set_option linter.unusedVariables false
set_option linter.unusedSimpArgs false
namespace Go.Proofs.Ytfemeendkjcffaa
open Go.RowKit Go.ChangeShapes Go.WideShapes Go.Joins Go.ChangeAt Go.Deep

section
variable {H : Type} {enc : TypeId × Value → H} {w : World} {base : Nat} {spare : Nat → Bool} {held : Bool}
set_option maxRecDepth 100000 in
theorem open_global {r : Reach} {b0 : Nat} {v : Value} {d : DataW H} {p : List MemPlace} (hv : Value.okWide Try.prog w r b0 115 v) (h : DataW.Trod enc Try.prog w base spare held 115 v d p) :
    ∃ (t op a b n c : Nat) (m : Bool) (A : Option Addr), v = .agg (gloX t m op a b A n c) ∧ t < 256 ∧ op < 256 ∧ a < 18446744073709551616 ∧ b < 18446744073709551616 := by
  obtain ⟨c0, c1, c2, c3, c4, c5, y0, y1, n, rfl, h0, h1⟩ := open_glob_of Try.underlying115 (by kernel_rfl) (by kernel_rfl) hv h
  obtain ⟨op, a, b, n, c, A, rfl, rfl, rfl, rfl, k0, k1, k2⟩ := open_ins h1
  obtain ⟨z0, z1, n2, g0, g1⟩ := open_cells2 Try.underlying66 (by kernel_rfl) h0
  obtain ⟨it, e0, _, w0⟩ := DataW.trod_int Try.underlying5 g0
  obtain ⟨m, e1, _⟩ := DataW.trod_bool Try.underlying4 g1
  simp at e0 e1
  subst e0 e1
  have b0 := Go.bounds_u8 w0
  obtain ⟨t, rfl⟩ : ∃ t : Nat, it = t := ⟨it.toNat, by omega⟩
  exact ⟨t, op, a, b, n, c, m, A, rfl, by omega, k0, k1, k2⟩
end
end Go.Proofs.Ytfemeendkjcffaa
