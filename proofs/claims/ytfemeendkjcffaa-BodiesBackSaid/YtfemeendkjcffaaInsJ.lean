/-
  instr: an argument that is a row of instructions, opened.
-/
import Derived.Test.YtfemeendkjcffaaIs
import Derived.Test.YtfemeendkjcffaaOn
set_option linter.unusedVariables false
set_option linter.unusedSimpArgs false
namespace Go.Proofs.Ytfemeendkjcffaa
open Go.RowKit Go.ChangeShapes Go.WideShapes Go.Joins Go.ChangeAt Go.Deep

section
variable {H : Type} {enc : TypeId × Value → H} {w : World} {base : Nat} {spare : Nat → Bool} {held : Bool}
theorem list4 {α : Type} {cs : List α} (h : cs.length = 4) : ∃ c0 c1 c2 c3, cs = [c0, c1, c2, c3] := by
  match cs, h with
  | [c0, c1, c2, c3], _ => exact ⟨c0, c1, c2, c3, rfl⟩
theorem open_insl {fuel : Nat} {c0 c1 c2 c3 : Value} {x : DataW H × List MemPlace} (h : DataW.trod enc Try.prog w base spare held fuel 50 [c0, c1, c2, c3] = some x) :
    ∃ (op a b n c : Nat) (A : Option Addr) (L : List Nat), c0 = .int .u8 (op : Int) ∧ c1 = .int .u64 (a : Int) ∧ c2 = .int .u64 (b : Int) ∧ c3 = .slice A n c ∧ op < 256 ∧ a < 18446744073709551616 ∧ L.length = n ∧ Reads w (fun k => k < w.heap.size) 1 A n (u32s L) ∧ ∀ y ∈ L, y < 4294967296 := by
  obtain ⟨y0, y1, y2, y3, n, h0, h1, h2, h3⟩ := open_cells4 Try.underlying50 (by kernel_rfl) h
  obtain ⟨iop, e0, _, w0⟩ := DataW.trod_int Try.underlying5 h0
  obtain ⟨ia, e1, _, w1⟩ := DataW.trod_int Try.underlying47 h1
  obtain ⟨ib, e2, _, w2⟩ := DataW.trod_int Try.underlying47 h2
  obtain ⟨A, n, c, e3⟩ := slice_form Try.underlying48 h3
  simp at e0 e1 e2 e3
  subst e3
  obtain ⟨L, hL, hr, hw⟩ := open_nats Try.underlying48 Try.underlying51 (by kernel_rfl) pos_n32 h3
  have b0 := Go.bounds_u8 w0
  have b1 := Go.bounds_u64 w1
  have b2 := Go.bounds_u64 w2
  refine ⟨iop.toNat, ia.toNat, ib.toNat, n, c, A, L, ?_, ?_, ?_, rfl, by omega, by omega, hL, hr, fun x hx => by have := Go.bounds_u32 (hw x hx); omega⟩
  · rw [e0, Int.toNat_of_nonneg (by omega)]
  · rw [e1, Int.toNat_of_nonneg (by omega)]
  · rw [e2, Int.toNat_of_nonneg (by omega)]
set_option maxRecDepth 100000 in
theorem open_instrs {fuel : Nat} {a0 : Option Addr} {len cap : Nat} {x : DataW H × List MemPlace} (h : DataW.trod enc Try.prog w base spare held fuel 96 [.slice a0 len cap] = some x) :
    ∃ l : List Ig, l.length = len ∧ (∀ x ∈ l, x.wf) ∧ (∀ x ∈ l, x.L.length = x.n ∧ (∀ y ∈ x.L, y < 4294967296) ∧ Reads w (fun k => k < w.heap.size) 1 x.A x.n (u32s x.L)) ∧ Reads w (fun k => k < w.heap.size) 4 a0 len (igs l) := by
  obtain ⟨l, h1, h2, h3, _⟩ := open_rows (fun x : Ig => x.wf ∧ x.L.length = x.n ∧ (∀ y ∈ x.L, y < 4294967296) ∧ Reads w (fun k => k < w.heap.size) 1 x.A x.n (u32s x.L)) Ig.cells (m0 := 4) Try.underlying96 (by kernel_rfl) (by decide) Ig.four (fun vs n y hl hy => by
    obtain ⟨c0, c1, c2, c3, rfl⟩ := list4 hl
    obtain ⟨op, a, b, n, c, A, L, rfl, rfl, rfl, rfl, k0, k1, hL, hr, hb⟩ := open_insl hy
    exact ⟨⟨op, a, b, n, c, A, L⟩, ⟨⟨k0, k1⟩, hL, hb, hr⟩, rfl⟩) h
  exact ⟨l, h1, fun x hx => (h2 x hx).1, fun x hx => (h2 x hx).2, h3⟩
theorem pos_n8 (z : Int) (h : (Lit.int .u8 z).wf = true) : 0 ≤ z := (Go.bounds_u8 h).1
theorem open_bytes {fuel : Nat} {a0 : Option Addr} {len cap : Nat} {x : DataW H × List MemPlace} (h : DataW.trod enc Try.prog w base spare held fuel 53 [.slice a0 len cap] = some x) :
    ∃ ms : List UInt8, ms.length = len ∧ Reads w (fun k => k < w.heap.size) 1 a0 len (u8s ms) := by
  obtain ⟨l, h1, h2, h3⟩ := open_nats Try.underlying53 Try.underlying5 (by kernel_rfl) pos_n8 h
  refine ⟨l.map UInt8.ofNat, by rw [List.length_map]; exact h1, ?_⟩
  have e : (l.map fun n : Nat => Value.int .u8 (n : Int)) = u8s (l.map UInt8.ofNat) := by
    rw [u8s, List.map_map]
    refine List.map_congr_left fun n hn => ?_
    have := Go.bounds_u8 (h3 n hn)
    simp
    omega
  rw [← e]
  exact h2
end
end Go.Proofs.Ytfemeendkjcffaa
