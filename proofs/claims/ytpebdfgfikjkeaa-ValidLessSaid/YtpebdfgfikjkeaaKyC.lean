/-
  A FuncType that came in, opened.
-/
import Derived.Test.YtpebdfgfikjkeaaKyB
import Derived.Test.YtpebdfgfikjkeaaKvZ
set_option linter.unusedVariables false
set_option linter.unusedSimpArgs false
namespace Go.Proofs.Ytpebdfgfikjkeaa
open Go.RowKit Go.ChangeShapes Go.WideShapes Go.Joins Go.ChangeAt Go.Deep
theorem array2 {α : Type} {cs : Array α} (h : cs.size = 2) : ∃ c0 c1, cs = #[c0, c1] := by
  obtain ⟨l⟩ := cs
  match l, h with
  | [c0, c1], _ => exact ⟨c0, c1, rfl⟩
section
variable {H : Type} {enc : TypeId × Value → H} {w : World} {base : Nat} {spare : Nat → Bool} {held : Bool}
set_option maxRecDepth 100000 in
theorem open_ftv {r : Reach} {b0 : Nat} {v : Value} {d : DataW H} {p : List MemPlace} (hv : Value.okWide Try.prog w r b0 28 v) (h : DataW.Trod enc Try.prog w base spare held 28 v d p) :
    ∃ tp tq : List UInt8, v = .agg #[.string (str tp), .string (str tq)] := by
  obtain ⟨cs, rfl, hsz⟩ := okWide_struct Try.underlying28 hv
  obtain ⟨c0, c1, rfl⟩ := array2 (hsz.trans (by kernel_rfl))
  obtain ⟨fuel, hf⟩ := h
  obtain ⟨a, ha⟩ := open_ft (vs := [c0, c1]) rfl hf
  have e : [c0, c1] = [Value.string (str a.1), .string (str a.2)] := ha
  simp at e
  obtain ⟨rfl, rfl⟩ := e
  exact ⟨a.1, a.2, rfl⟩
end
end Go.Proofs.Ytpebdfgfikjkeaa
