/-
  FramesPlays: the law's list of calls, opened.
-/
import Derived.Test.YtokchoocelmdoaaFpV
import Derived.ProofKit
import Derived.OpenShut
set_option linter.unusedVariables false
set_option linter.unusedSimpArgs false
namespace Go.Proofs.Ytokchoocelmdoaa
open Go.RowKit Go.ChangeShapes Go.WideShapes Go.ChangeAt

theorem mk_fop {H : Type} {enc : TypeId × Value → H} {w : World} {base : Nat} {spare : Nat → Bool} {held : Bool} (fs : Array Field) (hfs : Try.prog.underlying 30 = some (.struct fs)) (vs : List Value) (hl : vs.length = fs.size)
    (h : ∀ (j : Nat) (f : Field), fs[j]? = some f → ∃ (v : Value) (y : DataW H × List MemPlace) (n : Nat), vs[j]? = some v ∧ DataW.trod enc Try.prog w base spare held n f.type [v] = some y) : ∃ a : FOp, vs = a.cells := by
  rw [Try.underlying30] at hfs
  injection hfs with hfs
  injection hfs with hfs
  subst hfs
  match vs, hl with
  | [v0, v1, v2, v3, v4], _ =>
    obtain ⟨_, y0, n0, e0, t0⟩ := h 0 _ rfl
    obtain ⟨_, y1, n1, e1, t1⟩ := h 1 _ rfl
    obtain ⟨_, y2, n2, e2, t2⟩ := h 2 _ rfl
    obtain ⟨_, y3, n3, e3, t3⟩ := h 3 _ rfl
    obtain ⟨_, y4, n4, e4, t4⟩ := h 4 _ rfl
    simp at e0 e1 e2 e3 e4
    subst e0 e1 e2 e3 e4
    obtain ⟨a0, h0, _, _⟩ := DataW.trod_int Try.underlying3 t0
    obtain ⟨a1, h1, _, _⟩ := DataW.trod_int Try.underlying3 t1
    obtain ⟨a2, h2, _, _⟩ := DataW.trod_int Try.underlying28 t2
    obtain ⟨a3, h3, _, _⟩ := DataW.trod_int Try.underlying3 t3
    obtain ⟨a4, h4, _, _⟩ := DataW.trod_int Try.underlying3 t4
    simp at h0 h1 h2 h3 h4
    subst h0 h1 h2 h3 h4
    exact ⟨⟨a0, a1, a2, a3, a4⟩, rfl⟩
theorem open_fops {H : Type} {enc : TypeId × Value → H} {w : World} {base : Nat} {spare : Nat → Bool} {held : Bool} {A : Option Addr} {n c : Nat} {d : DataW H} {p : List MemPlace} (h : DataW.Trod enc Try.prog w base spare held 22 (.slice A n c) d p) :
    ∃ l : List FOp, n = l.length ∧ Reads w (fun k => k < w.heap.size) 5 A l.length (fops l) ∧ l.length ≤ c ∧ c ≤ 9223372036854775807 := by
  obtain ⟨fuel, hf⟩ := h
  obtain ⟨gs, hlen, hr, h1, h2⟩ := open_structs FOp.cells Try.underlying22 Try.underlying30 (by kernel_rfl) (by kernel_rfl) (by decide) FOp.len (fun vs hl h => mk_fop _ Try.underlying30 vs hl h) hf
  subst hlen
  exact ⟨gs, rfl, hr, h1, Nat.le_trans h2 (by unfold maxLen; omega)⟩
end Go.Proofs.Ytokchoocelmdoaa
