/-
  Structs that hold an instruction, opened.
-/
import Derived.Test.YtfemeendkjcffaaOpn
import Derived.Test.YtfemeendkjcffaaByt
import Derived.ProofKit
import Derived.OpenShut
import Derived.Lib.SmallJoins
import Derived.ChangeSame
import Derived.Deep.Slices
set_option linter.unusedVariables false
set_option linter.unusedSimpArgs false
namespace Go.Proofs.Ytfemeendkjcffaa
open Go.RowKit Go.ChangeShapes Go.WideShapes Go.Joins Go.ChangeAt Go.Deep

section
variable {H : Type} {enc : TypeId × Value → H} {P : Program} {w : World} {base : Nat} {spare : Nat → Bool} {held : Bool}
theorem open_cells4 {t : TypeId} {f0 f1 f2 f3 : Field} {fuel : Nat} {c0 c1 c2 c3 : Value} {x : DataW H × List MemPlace} (hs : P.underlying t = some (.struct #[f0, f1, f2, f3])) (hone : oneCellFields P #[f0, f1, f2, f3] = true)
    (h : DataW.trod enc P w base spare held fuel t [c0, c1, c2, c3] = some x) :
    ∃ (y0 y1 y2 y3 : DataW H × List MemPlace) (n : Nat), DataW.trod enc P w base spare held n f0.type [c0] = some y0 ∧ DataW.trod enc P w base spare held n f1.type [c1] = some y1 ∧ DataW.trod enc P w base spare held n f2.type [c2] = some y2 ∧ DataW.trod enc P w base spare held n f3.type [c3] = some y3 := by
  obtain ⟨y0, y1, y2, y3, n, _, _, h0, h1, h2, h3⟩ := trod_struct4 hs h
  obtain ⟨o0, k0⟩ := hone_of hone 0 f0 rfl
  obtain ⟨o1, k1⟩ := hone_of hone 1 f1 rfl
  obtain ⟨o2, k2⟩ := hone_of hone 2 f2 rfl
  obtain ⟨o3, k3⟩ := hone_of hone 3 f3 rfl
  rw [o0, k0] at h0
  rw [o1, k1] at h1
  rw [o2, k2] at h2
  rw [o3, k3] at h3
  exact ⟨y0, y1, y2, y3, n, h0, h1, h2, h3⟩
theorem open_cells41 {t : TypeId} {f0 f1 : Field} {fuel : Nat} {c0 c1 c2 c3 c4 : Value} {x : DataW H × List MemPlace} (hs : P.underlying t = some (.struct #[f0, f1])) (ho : (f0.offset, P.cellsOf f0.type, f1.offset, P.cellsOf f1.type) = (0, 4, 4, 1))
    (h : DataW.trod enc P w base spare held fuel t [c0, c1, c2, c3, c4] = some x) :
    ∃ (y0 y1 : DataW H × List MemPlace) (n : Nat), DataW.trod enc P w base spare held n f0.type [c0, c1, c2, c3] = some y0 ∧ DataW.trod enc P w base spare held n f1.type [c4] = some y1 := by
  obtain ⟨y0, y1, n, _, _, h0, h1⟩ := trod_struct2 hs h
  simp only [Prod.mk.injEq] at ho
  obtain ⟨o0, k0, o1, k1⟩ := ho
  rw [o0, k0] at h0
  rw [o1, k1] at h1
  exact ⟨y0, y1, n, h0, h1⟩
end
theorem array5 {α : Type} {cs : Array α} (h : cs.size = 5) : ∃ c0 c1 c2 c3 c4, cs = #[c0, c1, c2, c3, c4] := by
  obtain ⟨l⟩ := cs
  match l, h with
  | [c0, c1, c2, c3, c4], _ => exact ⟨c0, c1, c2, c3, c4, rfl⟩

theorem array6 {α : Type} {cs : Array α} (h : cs.size = 6) : ∃ c0 c1 c2 c3 c4 c5, cs = #[c0, c1, c2, c3, c4, c5] := by
  obtain ⟨l⟩ := cs
  match l, h with
  | [c0, c1, c2, c3, c4, c5], _ => exact ⟨c0, c1, c2, c3, c4, c5, rfl⟩

section
variable {H : Type} {enc : TypeId × Value → H} {w : World} {base : Nat} {spare : Nat → Bool} {held : Bool}
theorem open_ins {fuel : Nat} {c0 c1 c2 c3 : Value} {x : DataW H × List MemPlace} (h : DataW.trod enc Try.prog w base spare held fuel 50 [c0, c1, c2, c3] = some x) :
    ∃ (op a b n c : Nat) (A : Option Addr), c0 = .int .u8 (op : Int) ∧ c1 = .int .u64 (a : Int) ∧ c2 = .int .u64 (b : Int) ∧ c3 = .slice A n c ∧ op < 256 ∧ a < 18446744073709551616 ∧ b < 18446744073709551616 := by
  obtain ⟨y0, y1, y2, y3, n, h0, h1, h2, h3⟩ := open_cells4 Try.underlying50 (by kernel_rfl) h
  obtain ⟨iop, e0, _, w0⟩ := DataW.trod_int Try.underlying5 h0
  obtain ⟨ia, e1, _, w1⟩ := DataW.trod_int Try.underlying47 h1
  obtain ⟨ib, e2, _, w2⟩ := DataW.trod_int Try.underlying47 h2
  obtain ⟨A, n, c, e3⟩ := slice_form Try.underlying48 h3
  simp at e0 e1 e2 e3
  have b0 := Go.bounds_u8 w0
  have b1 := Go.bounds_u64 w1
  have b2 := Go.bounds_u64 w2
  refine ⟨iop.toNat, ia.toNat, ib.toNat, n, c, A, ?_, ?_, ?_, e3, by omega, by omega, by omega⟩
  · rw [e0, Int.toNat_of_nonneg (by omega)]
  · rw [e1, Int.toNat_of_nonneg (by omega)]
  · rw [e2, Int.toNat_of_nonneg (by omega)]
theorem open_data_of {P : Program} {td : TypeId} {f0 f1 : Field} {r : Reach} {b0 : Nat} {v : Value} {d : DataW H} {p : List MemPlace} (hs : P.underlying td = some (.struct #[f0, f1])) (ho : (f0.offset, P.cellsOf f0.type, f1.offset, P.cellsOf f1.type) = (0, 4, 4, 1)) (hC : P.cellsOf td = 5)
    (hv : Value.okWide P w r b0 td v) (h : DataW.Trod enc P w base spare held td v d p) :
    ∃ (c0 c1 c2 c3 c4 : Value) (y0 y1 : DataW H × List MemPlace) (n : Nat), v = .agg #[c0, c1, c2, c3, c4] ∧ DataW.trod enc P w base spare held n f0.type [c0, c1, c2, c3] = some y0 ∧ DataW.trod enc P w base spare held n f1.type [c4] = some y1 := by
  obtain ⟨cs, rfl, hsz⟩ := okWide_struct hs hv
  obtain ⟨c0, c1, c2, c3, c4, rfl⟩ := array5 (hsz.trans hC)
  obtain ⟨fuel, hf⟩ := h
  obtain ⟨y0, y1, n, h0, h1⟩ := open_cells41 hs ho hf
  exact ⟨c0, c1, c2, c3, c4, y0, y1, n, rfl, h0, h1⟩
theorem open_cells24 {P : Program} {t : TypeId} {f0 f1 : Field} {fuel : Nat} {c0 c1 c2 c3 c4 c5 : Value} {x : DataW H × List MemPlace} (hs : P.underlying t = some (.struct #[f0, f1])) (ho : (f0.offset, P.cellsOf f0.type, f1.offset, P.cellsOf f1.type) = (0, 2, 2, 4))
    (h : DataW.trod enc P w base spare held fuel t [c0, c1, c2, c3, c4, c5] = some x) :
    ∃ (y0 y1 : DataW H × List MemPlace) (n : Nat), DataW.trod enc P w base spare held n f0.type [c0, c1] = some y0 ∧ DataW.trod enc P w base spare held n f1.type [c2, c3, c4, c5] = some y1 := by
  obtain ⟨y0, y1, n, _, _, h0, h1⟩ := trod_struct2 hs h
  simp only [Prod.mk.injEq] at ho
  obtain ⟨o0, k0, o1, k1⟩ := ho
  rw [o0, k0] at h0
  rw [o1, k1] at h1
  exact ⟨y0, y1, n, h0, h1⟩
theorem open_cells2 {P : Program} {t : TypeId} {f0 f1 : Field} {fuel : Nat} {c0 c1 : Value} {x : DataW H × List MemPlace} (hs : P.underlying t = some (.struct #[f0, f1])) (hone : oneCellFields P #[f0, f1] = true)
    (h : DataW.trod enc P w base spare held fuel t [c0, c1] = some x) :
    ∃ (y0 y1 : DataW H × List MemPlace) (n : Nat), DataW.trod enc P w base spare held n f0.type [c0] = some y0 ∧ DataW.trod enc P w base spare held n f1.type [c1] = some y1 := by
  obtain ⟨y0, y1, n, _, _, h0, h1⟩ := trod_struct2 hs h
  obtain ⟨o0, k0⟩ := hone_of hone 0 f0 rfl
  obtain ⟨o1, k1⟩ := hone_of hone 1 f1 rfl
  rw [o0, k0] at h0
  rw [o1, k1] at h1
  exact ⟨y0, y1, n, h0, h1⟩
theorem open_glob_of {P : Program} {td : TypeId} {f0 f1 : Field} {r : Reach} {b0 : Nat} {v : Value} {d : DataW H} {p : List MemPlace} (hs : P.underlying td = some (.struct #[f0, f1])) (ho : (f0.offset, P.cellsOf f0.type, f1.offset, P.cellsOf f1.type) = (0, 2, 2, 4)) (hC : P.cellsOf td = 6)
    (hv : Value.okWide P w r b0 td v) (h : DataW.Trod enc P w base spare held td v d p) :
    ∃ (c0 c1 c2 c3 c4 c5 : Value) (y0 y1 : DataW H × List MemPlace) (n : Nat), v = .agg #[c0, c1, c2, c3, c4, c5] ∧ DataW.trod enc P w base spare held n f0.type [c0, c1] = some y0 ∧ DataW.trod enc P w base spare held n f1.type [c2, c3, c4, c5] = some y1 := by
  obtain ⟨cs, rfl, hsz⟩ := okWide_struct hs hv
  obtain ⟨c0, c1, c2, c3, c4, c5, rfl⟩ := array6 (hsz.trans hC)
  obtain ⟨fuel, hf⟩ := h
  obtain ⟨y0, y1, n, h0, h1⟩ := open_cells24 hs ho hf
  exact ⟨c0, c1, c2, c3, c4, c5, y0, y1, n, rfl, h0, h1⟩
end
end Go.Proofs.Ytfemeendkjcffaa
