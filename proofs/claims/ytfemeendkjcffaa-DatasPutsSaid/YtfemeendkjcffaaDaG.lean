/-
  datas: the law DatasPuts, joined; structs that hold an instruction, opened.
-/
import Derived.Test.YtfemeendkjcffaaDaF
import Derived.Test.YtfemeendkjcffaaOpnI
import Derived.Lib.SmallJoins
set_option linter.unusedVariables false
set_option linter.unusedSimpArgs false
namespace Go.Proofs.Ytfemeendkjcffaa
open Go.RowKit Go.ChangeShapes Go.WideShapes Go.Joins Go.ChangeAt Go.Deep

section
variable {H : Type} {enc : TypeId × Value → H} {w : World} {base : Nat} {spare : Nat → Bool} {held : Bool}
set_option maxRecDepth 100000 in
theorem open_data {r : Reach} {b0 : Nat} {v : Value} {d : DataW H} {p : List MemPlace} (hv : Value.okWide Try.prog w r b0 156 v) (h : DataW.Trod enc Try.prog w base spare held 156 v d p) :
    ∃ (op a b n c : Nat) (A : Option Addr) (s : ByteArray), v = .agg (datX op a b A n c s) ∧ op < 256 ∧ a < 18446744073709551616 ∧ b < 18446744073709551616 := by
  obtain ⟨c0, c1, c2, c3, c4, y0, y1, n, rfl, h0, h1⟩ := open_data_of Try.underlying156 (by kernel_rfl) (by kernel_rfl) hv h
  obtain ⟨op, a, b, n, c, A, rfl, rfl, rfl, rfl, k0, k1, k2⟩ := open_ins h0
  obtain ⟨s, e, _, _⟩ := DataW.trod_string Try.underlying9 h1
  simp at e
  subst e
  exact ⟨op, a, b, n, c, A, s, rfl, k0, k1, k2⟩
end

theorem dputs_done (W : World) (op a b n c : Nat) (A : Option Addr) (ds : List UInt8) (hop : op < 256) (ha : a < 18446744073709551616) :
    Calls Try.prog 18 #[.agg (datX op a b A n c (str ds))] W fun e W' => e = .returned (.bool true) ∧ Below W.heap.size W W' := by
  have key : Calls Try.prog 18 #[.agg (datX op a b A n c (str ds))] W fun e W' => e = .returned (.bool true) ∧ Step (fun _ => False) W W' := by
    by_cases g1 : ds.length ≤ 200
    · by_cases g2 : n ≤ 100
      · by_cases hz : crtF op a b n = 0
        · obtain ⟨rfl, rfl, hok⟩ := crt_zero hz
          exact dputs_ok W op a c A ds hok ha g1
        · exact dputs_err W op a b n c A ds hop g1 g2 hz
      · exact dputs_big2 W op a b n c A ds (by omega) (by omega)
    · exact dputs_big1 W op a b n c A ds (by omega)
  exact key.mono fun _ _ hh => ⟨hh.1, hh.2.below W.heap.size (fun _ _ hf => hf.elim) (Nat.le_refl _)⟩
end Go.Proofs.Ytfemeendkjcffaa
