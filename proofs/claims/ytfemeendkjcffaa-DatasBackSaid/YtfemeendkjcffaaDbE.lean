/-
  datas: the law DatasBack's argument, opened; the law, joined.
-/
import Derived.Test.YtfemeendkjcffaaDbD
import Derived.Test.YtfemeendkjcffaaOpnI
import Derived.Test.YtfemeendkjcffaaOpnR
set_option linter.unusedVariables false
set_option linter.unusedSimpArgs false
namespace Go.Proofs.Ytfemeendkjcffaa
open Go.RowKit Go.ChangeShapes Go.WideShapes Go.Joins Go.ChangeAt Go.Deep

section
variable {H : Type} {enc : TypeId × Value → H} {w : World} {base : Nat} {spare : Nat → Bool} {held : Bool}
theorem list5 {α : Type} {cs : List α} (h : cs.length = 5) : ∃ c0 c1 c2 c3 c4, cs = [c0, c1, c2, c3, c4] := by
  match cs, h with
  | [c0, c1, c2, c3, c4], _ => exact ⟨c0, c1, c2, c3, c4, rfl⟩
set_option maxRecDepth 100000 in
theorem open_datas {fuel : Nat} {a0 : Option Addr} {len cap : Nat} {x : DataW H × List MemPlace} (h : DataW.trod enc Try.prog w base spare held fuel 167 [.slice a0 len cap] = some x) :
    ∃ l : List Dl, l.length = len ∧ (∀ x ∈ l, x.wf) ∧ Reads w (fun k => k < w.heap.size) 5 a0 len (dls l) := by
  obtain ⟨l, h1, h2, h3, _⟩ := open_rows Dl.wf Dl.cells (m0 := 5) Try.underlying167 (by kernel_rfl) (by decide) Dl.six (fun vs n y hl hy => by
    obtain ⟨c0, c1, c2, c3, c4, rfl⟩ := list5 hl
    obtain ⟨y0, y1, n2, h0, h1⟩ := open_cells41 Try.underlying156 (by kernel_rfl) hy
    obtain ⟨op, a, b, n, c, A, rfl, rfl, rfl, rfl, k0, k1, k2⟩ := open_ins h0
    obtain ⟨s, e, _, _⟩ := DataW.trod_string Try.underlying9 h1
    simp at e
    subst e
    exact ⟨⟨op, a, b, n, c, A, s.data.toList⟩, ⟨k0, k1⟩, by simp [Dl.cells, datX, str_data]⟩) h
  exact ⟨l, h1, h2, h3⟩
end

set_option maxRecDepth 100000 in
set_option maxHeartbeats 1600000 in
theorem dbacks_big (w : World) (n c : Nat) (A : Option Addr) (h : (20 : Int) < n) :
    Calls Try.prog 20 #[.slice A n c] w fun e w' => e = .returned (.bool true) ∧ Step (fun _ => False) w w' := by
  go_enter Try.func20, Try.ntmps20
  go_wp2_with fail
  refine (awake15 _).mono ?_
  rintro e w5 ⟨rfl, hS5⟩
  go_wp2_with fail
  go_ret
  exact ⟨rfl, hS5⟩

theorem dbacks_done (W : World) (n c : Nat) (A : Option Addr) (l : List Dl) (S : Nat → Prop) (hn : l.length = n) (hwf : ∀ x ∈ l, x.wf) (hr : Reads W S 5 A n (dls l)) :
    Calls Try.prog 20 #[.slice A n c] W fun e W' => e = .returned (.bool true) ∧ Below W.heap.size W W' := by
  have key : Calls Try.prog 20 #[.slice A n c] W fun e W' => e = .returned (.bool true) ∧ Step (fun _ => False) W W' := by
    by_cases g1 : n ≤ 20
    · exact dbacks_ok W n c A l S hn.symm g1 hwf hr
    · exact dbacks_big W n c A (by omega)
  exact key.mono fun _ _ hh => ⟨hh.1, hh.2.below W.heap.size (fun _ _ hf => hf.elim) (Nat.le_refl _)⟩
end Go.Proofs.Ytfemeendkjcffaa
