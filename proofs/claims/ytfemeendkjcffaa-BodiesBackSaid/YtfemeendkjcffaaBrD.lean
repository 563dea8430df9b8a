/-
  bodies: the law BodiesBack, joined; its argument, opened.
-/
import Derived.Test.YtfemeendkjcffaaBrC
import Derived.Test.YtfemeendkjcffaaBpI
set_option linter.unusedVariables false
set_option linter.unusedSimpArgs false
namespace Go.Proofs.Ytfemeendkjcffaa
open Go.RowKit Go.ChangeShapes Go.WideShapes Go.Joins Go.ChangeAt Go.Deep

section
variable {H : Type} {enc : TypeId × Value → H} {w : World} {base : Nat} {spare : Nat → Bool} {held : Bool}
theorem list2 {α : Type} {cs : List α} (h : cs.length = 2) : ∃ c0 c1, cs = [c0, c1] := by
  match cs, h with
  | [c0, c1], _ => exact ⟨c0, c1, rfl⟩
set_option maxRecDepth 100000 in
theorem open_codes {fuel : Nat} {a0 : Option Addr} {len cap : Nat} {x : DataW H × List MemPlace} (h : DataW.trod enc Try.prog w base spare held fuel 187 [.slice a0 len cap] = some x) :
    ∃ l : List Cd, l.length = len ∧ (∀ x ∈ l, x.wf ∧ Cd.rd w (fun k => k < w.heap.size) x) ∧ Reads w (fun k => k < w.heap.size) 2 a0 len (cds l) := by
  obtain ⟨l, h1, h2, h3, _⟩ := open_rows (fun x : Cd => x.wf ∧ Cd.rd w (fun k => k < w.heap.size) x) Cd.cells (m0 := 2) Try.underlying187 (by kernel_rfl) (by decide) Cd.two (fun vs n y hl hy => by
    obtain ⟨c0, c1, rfl⟩ := list2 hl
    obtain ⟨y0, y1, n2, h0, h1⟩ := open_cells2 Try.underlying176 (by kernel_rfl) hy
    obtain ⟨LA, ln, lc, e0⟩ := slice_form Try.underlying106 h0
    obtain ⟨IA, m, c, e1⟩ := slice_form Try.underlying96 h1
    simp at e0 e1
    subst e0 e1
    obtain ⟨lo, hln, hl, hb⟩ := open_locals h0
    obtain ⟨l, hn, hwf, hin, hr⟩ := open_instrs h1
    subst hln
    exact ⟨⟨LA, lc, lo, IA, m, c, l⟩, ⟨⟨hn, hb, fun y hy => ⟨hwf y hy, (hin y hy).1, (hin y hy).2.1⟩⟩, hr, hl, fun y hy => (hin y hy).2.2⟩, rfl⟩) h
  exact ⟨l, h1, h2, h3⟩
end

set_option maxRecDepth 100000 in
set_option maxHeartbeats 1600000 in
theorem cbacks_big (w : World) (n c : Nat) (A : Option Addr) (h : (20 : Int) < n) :
    Calls Try.prog 22 #[.slice A n c] w fun e w' => e = .returned (.bool true) ∧ Step (fun _ => False) w w' := by
  go_enter Try.func22, Try.ntmps22
  go_wp2_with fail
  refine (awake14 _).mono ?_
  rintro e w5 ⟨rfl, hS5⟩
  go_wp2_with fail
  go_ret
  exact ⟨rfl, hS5⟩

theorem cbacks_done (W : World) (n c : Nat) (A : Option Addr) (l : List Cd) (S : Nat → Prop) (hn : l.length = n) (hwf : ∀ x ∈ l, x.wf ∧ x.rd W S) (hr : Reads W S 2 A n (cds l)) :
    Calls Try.prog 22 #[.slice A n c] W fun e W' => e = .returned (.bool true) ∧ Below W.heap.size W W' := by
  have key : Calls Try.prog 22 #[.slice A n c] W fun e W' => e = .returned (.bool true) ∧ Step (fun _ => False) W W' := by
    by_cases g1 : n ≤ 20
    · exact cbacks_ok W n c A l S hn.symm g1 (fun x hx => (hwf x hx).1) (fun x hx => (hwf x hx).2) hr
    · exact cbacks_big W n c A (by omega)
  exact key.mono fun _ _ hh => ⟨hh.1, hh.2.below W.heap.size (fun _ _ hf => hf.elim) (Nat.le_refl _)⟩
end Go.Proofs.Ytfemeendkjcffaa
