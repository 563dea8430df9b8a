/-
  globals: the law GlobalsBack's argument, opened; the law, joined.
-/
import Derived.Test.YtfemeendkjcffaaGbD
import Derived.Test.YtfemeendkjcffaaOpnI
import Derived.Test.YtfemeendkjcffaaOpnR
set_option linter.unusedVariables false
set_option linter.unusedSimpArgs false
namespace Go.Proofs.Ytfemeendkjcffaa
open Go.RowKit Go.ChangeShapes Go.WideShapes Go.Joins Go.ChangeAt Go.Deep

section
variable {H : Type} {enc : TypeId × Value → H} {w : World} {base : Nat} {spare : Nat → Bool} {held : Bool}
theorem list6 {α : Type} {cs : List α} (h : cs.length = 6) : ∃ c0 c1 c2 c3 c4 c5, cs = [c0, c1, c2, c3, c4, c5] := by
  match cs, h with
  | [c0, c1, c2, c3, c4, c5], _ => exact ⟨c0, c1, c2, c3, c4, c5, rfl⟩
set_option maxRecDepth 100000 in
theorem open_globals {fuel : Nat} {a0 : Option Addr} {len cap : Nat} {x : DataW H × List MemPlace} (h : DataW.trod enc Try.prog w base spare held fuel 126 [.slice a0 len cap] = some x) :
    ∃ l : List Gl, l.length = len ∧ (∀ x ∈ l, x.wf) ∧ Reads w (fun k => k < w.heap.size) 6 a0 len (gls l) := by
  obtain ⟨l, h1, h2, h3, _⟩ := open_rows Gl.wf Gl.cells (m0 := 6) Try.underlying126 (by kernel_rfl) (by decide) Gl.six (fun vs n y hl hy => by
    obtain ⟨c0, c1, c2, c3, c4, c5, rfl⟩ := list6 hl
    obtain ⟨y0, y1, n2, h0, h1⟩ := open_cells24 Try.underlying115 (by kernel_rfl) hy
    obtain ⟨op, a, b, n, c, A, rfl, rfl, rfl, rfl, k0, k1, k2⟩ := open_ins h1
    obtain ⟨z0, z1, n2, g0, g1⟩ := open_cells2 Try.underlying66 (by kernel_rfl) h0
    obtain ⟨it, e0, _, w0⟩ := DataW.trod_int Try.underlying5 g0
    obtain ⟨m, e1, _⟩ := DataW.trod_bool Try.underlying4 g1
    simp at e0 e1
    subst e0 e1
    have b0 := Go.bounds_u8 w0
    obtain ⟨t, rfl⟩ : ∃ t : Nat, it = t := ⟨it.toNat, by omega⟩
    exact ⟨⟨t, op, a, b, n, c, m, A⟩, ⟨by show t < 256; omega, k0, k1⟩, rfl⟩) h
  exact ⟨l, h1, h2, h3⟩
end

set_option maxRecDepth 100000 in
set_option maxHeartbeats 1600000 in
theorem gbacks_big (w : World) (n c : Nat) (A : Option Addr) (h : (20 : Int) < n) :
    Calls Try.prog 14 #[.slice A n c] w fun e w' => e = .returned (.bool true) ∧ Step (fun _ => False) w w' := by
  go_enter Try.func14, Try.ntmps14
  go_wp2_with fail
  refine (awake12 _).mono ?_
  rintro e w5 ⟨rfl, hS5⟩
  go_wp2_with fail
  go_ret
  exact ⟨rfl, hS5⟩

theorem gbacks_done (W : World) (n c : Nat) (A : Option Addr) (l : List Gl) (S : Nat → Prop) (hn : l.length = n) (hwf : ∀ x ∈ l, x.wf) (hr : Reads W S 6 A n (gls l)) :
    Calls Try.prog 14 #[.slice A n c] W fun e W' => e = .returned (.bool true) ∧ Below W.heap.size W W' := by
  have key : Calls Try.prog 14 #[.slice A n c] W fun e W' => e = .returned (.bool true) ∧ Step (fun _ => False) W W' := by
    by_cases g1 : n ≤ 20
    · exact gbacks_ok W n c A l S hn.symm g1 hwf hr
    · exact gbacks_big W n c A (by omega)
  exact key.mono fun _ _ hh => ⟨hh.1, hh.2.below W.heap.size (fun _ _ hf => hf.elim) (Nat.le_refl _)⟩
end Go.Proofs.Ytfemeendkjcffaa
