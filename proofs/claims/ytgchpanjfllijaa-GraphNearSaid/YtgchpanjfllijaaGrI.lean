/-
  An argument that holds slices of strings, opened to lists of names.
-/
import Derived.Test.YtgchpanjfllijaaGrH
import Derived.Deep.Slices
import Derived.Deep.Fields
import Derived.ChangeSame
set_option linter.unusedVariables false
set_option linter.unusedSimpArgs false
namespace Go.Proofs.Ytgchpanjfllijaa
open Go.RowKit Go.ChangeShapes Go.WideShapes Go.Deep

section
variable {H : Type} {enc : TypeId × Value → H} {w : World} {base : Nat} {spare : Nat → Bool} {held : Bool}
theorem open_strs {fuel : Nat} {v : Value} {x : DataW H × List MemPlace} (h : DataW.trod enc Try.prog w base spare held fuel 28 [v] = some x) :
    ∃ (A : Option Addr) (c : Nat) (l : List Nm), v = .slice A l.length c ∧ Reads w (fun k => k < w.heap.size) 1 A l.length (strs l) ∧ l.length ≤ c ∧ c ≤ maxLen ∧ ∀ s ∈ l, s.length ≤ maxLen := by
  rcases open_slice1 Try.underlying28 (by kernel_rfl) h with ⟨h0, _⟩ | ⟨a, len, cap, m, n, V, D, Pl, hcs, hb, hl, hm, hmm, hx, hi⟩
  · simp at h0
    subst h0
    exact ⟨none, 0, [], rfl, Reads.nil_, Nat.le_refl _, by unfold maxLen; omega, by simp⟩
  · simp at hcs
    subst hcs
    have hlm : len ≤ m := by rw [hmm]; split <;> omega
    have one : ∀ i, i < len → ∃ y : Nm, w.cell? (a.add i) = some (.string (str y)) ∧ y.length ≤ maxLen := fun i hil => by
      obtain ⟨h1, h2⟩ := hi i (by omega)
      obtain ⟨s, hs, _, hw⟩ := DataW.trod_string Try.underlying9 h2
      simp at hs
      rw [hs] at h1
      exact ⟨s.data.toList, by rw [str_data]; exact h1, by rw [Array.length_toList]; exact hw⟩
    obtain ⟨f, hf⟩ := choose_lt one
    refine ⟨some a, cap, (List.range len).map f, by simp, ⟨by simp [strs], fun hn => ⟨a, rfl, ?_, ?_, fun j u hu => ?_⟩⟩, by simpa using hl, hm, fun s hs => ?_⟩
    · have := World.block_lt_of_cell? w _ (hf 0 (by simpa using hn)).1
      rwa [add_block] at this
    · have := World.block_lt_of_cell? w _ (hf 0 (by simpa using hn)).1
      rwa [add_block] at this
    · have hj := (List.getElem?_eq_some_iff.1 hu).1
      simp [strs] at hj
      have := hf j hj
      have e : (strs ((List.range len).map f))[j]? = some (.string (str (f j))) := by simp [strs, hj]
      rw [e] at hu
      injection hu with hu
      subst hu
      exact this.1
    · obtain ⟨i, hi', rfl⟩ := List.mem_map.1 hs
      exact (hf i (by simpa using hi')).2

/-- A row of an argument, told in full. -/
abbrev TR (w : World) := { r : Rw // Told w w.heap.size r ∧ r.needs.length ≤ 9223372036854775807 }
instance : Inhabited (TR w) := ⟨⟨⟨[], none, 0, []⟩, ⟨Reads.nil_, Nat.le_refl _, Nat.zero_le _, by simp⟩, Nat.zero_le _⟩⟩
def TR.cells (r : TR w) : List Value := r.1.cells
theorem mk_row (fs : Array Field) (hfs : Try.prog.underlying 41 = some (.struct fs)) (vs : List Value) (hl : vs.length = fs.size)
    (h : ∀ (j : Nat) (f : Field), fs[j]? = some f → ∃ (v : Value) (y : DataW H × List MemPlace) (n : Nat), vs[j]? = some v ∧ DataW.trod enc Try.prog w base spare held n f.type [v] = some y) : ∃ a : TR w, vs = a.cells := by
  rw [Try.underlying41] at hfs
  injection hfs with hfs
  injection hfs with hfs
  subst hfs
  match vs, hl with
  | [v0, v1], _ =>
    obtain ⟨_, y0, n0, e0, t0⟩ := h 0 _ rfl
    obtain ⟨_, y1, n1, e1, t1⟩ := h 1 _ rfl
    simp at e0 e1
    subst e0 e1
    obtain ⟨s, hs, _, hw⟩ := DataW.trod_string Try.underlying9 t0
    simp at hs
    subst hs
    obtain ⟨A, c, l, rfl, hr, hlc, hcm, hn⟩ := open_strs t1
    exact ⟨⟨⟨s.data.toList, A, c, l⟩, ⟨hr, hlc, by show s.data.toList.length ≤ maxLen; rw [Array.length_toList]; exact hw, hn⟩, by show l.length ≤ _; unfold maxLen at hcm; omega⟩, by simp [TR.cells, Rw.cells, str_data]⟩
end
end Go.Proofs.Ytgchpanjfllijaa
