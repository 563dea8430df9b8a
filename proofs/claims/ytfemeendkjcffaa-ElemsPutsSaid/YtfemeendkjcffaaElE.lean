/-
  elems: the law ElemsPuts' argument, opened.
-/
import Derived.Test.YtfemeendkjcffaaElD
import Derived.Test.YtfemeendkjcffaaOpnI
import Derived.Test.YtfemeendkjcffaaLwC
set_option linter.unusedVariables false
set_option linter.unusedSimpArgs false
namespace Go.Proofs.Ytfemeendkjcffaa
open Go.RowKit Go.ChangeShapes Go.WideShapes Go.Joins Go.ChangeAt Go.Deep

section
variable {H : Type} {enc : TypeId × Value → H} {w : World} {base : Nat} {spare : Nat → Bool} {held : Bool}
set_option maxRecDepth 100000 in
theorem open_elem {r : Reach} {b0 : Nat} {v : Value} {d : DataW H} {p : List MemPlace} (hv : Value.okWide Try.prog w r b0 136 v) (h : DataW.Trod enc Try.prog w base spare held 136 v d p) :
    ∃ (op a b n c m fc : Nat) (A FA : Option Addr) (L : List Nat), v = .agg (elmX op a b A n c (.slice FA m fc)) ∧ op < 256 ∧ a < 18446744073709551616 ∧ b < 18446744073709551616 ∧ L.length = m ∧ Reads w (fun k => k < w.heap.size) 1 FA m (u32s L) ∧ ∀ x ∈ L, x < 4294967296 := by
  obtain ⟨c0, c1, c2, c3, c4, y0, y1, n, rfl, h0, h1⟩ := open_data_of Try.underlying136 (by kernel_rfl) (by kernel_rfl) hv h
  obtain ⟨op, a, b, n, c, A, rfl, rfl, rfl, rfl, k0, k1, k2⟩ := open_ins h0
  obtain ⟨FA, m, fc, e3⟩ := slice_form Try.underlying48 h1
  simp at e3
  subst e3
  obtain ⟨L, hL, hr, hw⟩ := open_nums Try.underlying48 Try.underlying51 (by kernel_rfl) pos_u32 h1
  exact ⟨op, a, b, n, c, m, fc, A, FA, L, rfl, k0, k1, k2, hL, hr, fun x hx => by have := Go.bounds_u32 (hw x hx); omega⟩
end
end Go.Proofs.Ytfemeendkjcffaa
