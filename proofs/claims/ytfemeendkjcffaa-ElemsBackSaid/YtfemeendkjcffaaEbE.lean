/-
  elems: the law ElemsBack's argument, opened; the law, joined.
-/
import Derived.Test.YtfemeendkjcffaaEbD
import Derived.Test.YtfemeendkjcffaaOpnI
import Derived.Test.YtfemeendkjcffaaOpnR
import Derived.Test.YtfemeendkjcffaaOpnN
set_option linter.unusedVariables false
set_option linter.unusedSimpArgs false
namespace Go.Proofs.Ytfemeendkjcffaa
open Go.RowKit Go.ChangeShapes Go.WideShapes Go.Joins Go.ChangeAt Go.Deep

section
variable {H : Type} {enc : TypeId × Value → H} {w : World} {base : Nat} {spare : Nat → Bool} {held : Bool}
theorem list5 {α : Type} {cs : List α} (h : cs.length = 5) : ∃ c0 c1 c2 c3 c4, cs = [c0, c1, c2, c3, c4] := by
  match cs, h with
  | [c0, c1, c2, c3, c4], _ => exact ⟨c0, c1, c2, c3, c4, rfl⟩
set_option maxRecDepth 100000 in
theorem open_elems {fuel : Nat} {a0 : Option Addr} {len cap : Nat} {x : DataW H × List MemPlace} (h : DataW.trod enc Try.prog w base spare held fuel 147 [.slice a0 len cap] = some x) :
    ∃ l : List El, l.length = len ∧ (∀ x ∈ l, x.wf) ∧ (∀ x ∈ l, x.L.length = x.m ∧ (∀ y ∈ x.L, y < 4294967296) ∧ Reads w (fun k => k < w.heap.size) 1 x.FA x.m (u32s x.L)) ∧ Reads w (fun k => k < w.heap.size) 5 a0 len (els l) := by
  obtain ⟨l, h1, h2, h3, _⟩ := open_rows (fun x : El => x.wf ∧ x.L.length = x.m ∧ (∀ y ∈ x.L, y < 4294967296) ∧ Reads w (fun k => k < w.heap.size) 1 x.FA x.m (u32s x.L)) El.cells (m0 := 5) Try.underlying147 (by kernel_rfl) (by decide) El.six (fun vs n y hl hy => by
    obtain ⟨c0, c1, c2, c3, c4, rfl⟩ := list5 hl
    obtain ⟨y0, y1, n2, h0, h1⟩ := open_cells41 Try.underlying136 (by kernel_rfl) hy
    obtain ⟨op, a, b, n, c, A, rfl, rfl, rfl, rfl, k0, k1, k2⟩ := open_ins h0
    obtain ⟨FA, m, fc, e3⟩ := slice_form Try.underlying48 h1
    simp at e3
    subst e3
    obtain ⟨L, hL, hr, hw⟩ := open_nats Try.underlying48 Try.underlying51 (by kernel_rfl) pos_n32 h1
    exact ⟨⟨op, a, b, n, c, m, fc, A, FA, L⟩, ⟨⟨k0, k1⟩, hL, fun x hx => by have := Go.bounds_u32 (hw x hx); omega, hr⟩, rfl⟩) h
  exact ⟨l, h1, fun x hx => (h2 x hx).1, fun x hx => (h2 x hx).2, h3⟩
end

set_option maxRecDepth 100000 in
set_option maxHeartbeats 1600000 in
theorem ebacks_big (w : World) (n c : Nat) (A : Option Addr) (h : (20 : Int) < n) :
    Calls Try.prog 17 #[.slice A n c] w fun e w' => e = .returned (.bool true) ∧ Step (fun _ => False) w w' := by
  go_enter Try.func17, Try.ntmps17
  go_wp2_with fail
  refine (awake13 _).mono ?_
  rintro e w5 ⟨rfl, hS5⟩
  go_wp2_with fail
  go_ret
  exact ⟨rfl, hS5⟩

theorem ebacks_done (W : World) (n c : Nat) (A : Option Addr) (l : List El) (S : Nat → Prop) (hn : l.length = n) (hwf : ∀ x ∈ l, x.wf) (hin : ∀ x ∈ l, x.L.length = x.m ∧ (∀ y ∈ x.L, y < 4294967296) ∧ Reads W S 1 x.FA x.m (u32s x.L)) (hr : Reads W S 5 A n (els l)) :
    Calls Try.prog 17 #[.slice A n c] W fun e W' => e = .returned (.bool true) ∧ Below W.heap.size W W' := by
  have key : Calls Try.prog 17 #[.slice A n c] W fun e W' => e = .returned (.bool true) ∧ Step (fun _ => False) W W' := by
    by_cases g1 : n ≤ 20
    · exact ebacks_ok W n c A l S hn.symm g1 hwf hin hr
    · exact ebacks_big W n c A (by omega)
  exact key.mono fun _ _ hh => ⟨hh.1, hh.2.below W.heap.size (fun _ _ hf => hf.elim) (Nat.le_refl _)⟩
end Go.Proofs.Ytfemeendkjcffaa
