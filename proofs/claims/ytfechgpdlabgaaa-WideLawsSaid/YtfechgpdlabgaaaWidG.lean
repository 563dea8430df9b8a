/-
  creelref19: divide.
-/
import Derived.Test.YtfechgpdlabgaaaWidF
set_option linter.unusedVariables false
set_option linter.unusedSimpArgs false
namespace Go.Proofs.Ytfechgpdlabgaaa
open Go.RowKit Wide

theorem own_zeros (w : World) (B : Nat) (hB : B ≤ w.heap.size) : (w.alloc zeros).ownsRow B 4 1 (.slice (some ⟨w.heap.size, 0, none⟩) 64 64) 64 (bools (bs 64 0)) :=
  ⟨by simp [bools, bs_length], .inr ⟨w.heap.size, 64, _, rfl, hB, heap_alloc_new w _, Nat.le_refl _, by unfold maxLen; omega, by simp [bools, bs_length], List.take_of_length_le (by simp [bools, bs_length])⟩⟩

/-- The row of 64 bits: where it lies, and that it may be written. -/
theorem row_at {w : World} {B v c : Nat} {D : Option Addr} (h : w.ownsRow B 4 1 (.slice D 64 c) 64 (bools (bs 64 v))) :
    ∃ g, D = some ⟨g, 0, none⟩ ∧ B ≤ g ∧ g < w.heap.size ∧ (∀ k, k < 64 → w.cell? ⟨g, k, none⟩ = some (.bool (v.testBit k))) ∧ (∀ k, w.frozen? ⟨g, k, none⟩ = false) := by
  obtain ⟨h1, h2 | ⟨g, cap, cur, hv, hb, hh, hn, hm, hs, ht⟩⟩ := h
  · obtain ⟨h2, h3⟩ := h2; omega
  · injection hv with e1 e2 e3
    subst e1; subst e3
    refine ⟨g, rfl, hb, (Array.getElem?_eq_some_iff.1 hh).1, fun k hk => ?_, fun k => by simp [World.frozen?, hh]⟩
    rw [cell_of_row w g k cur _ (0, 0) hh]
    have : (cur.toList.take (64 * 1))[k]? = (bools (bs 64 v))[k]? := by rw [ht]
    rw [List.getElem?_take, if_pos (by omega)] at this
    rw [← Array.getElem?_toList, this, bools, List.getElem?_map, bs_get 64 v k hk]
    rfl
/-- A bit stored. -/
theorem row_set {w : World} {B v u c g k : Nat} {b : Bool} (h : w.ownsRow B 4 1 (.slice (some ⟨g, 0, none⟩) 64 c) 64 (bools (bs 64 v))) (hk : k < 64) (hu : ∀ i, i < 64 → u.testBit i = if i = k then b else v.testBit i) :
    (w.setCell ⟨g, k, none⟩ (.bool b)).ownsRow B 4 1 (.slice (some ⟨g, 0, none⟩) 64 c) 64 (bools (bs 64 u)) := by
  obtain ⟨h1, h2 | ⟨g', cap, cur, hv, hb, hh, hn, hm, hs, ht⟩⟩ := h
  · obtain ⟨h2, h3⟩ := h2; omega
  · injection hv with e1 e2 e3
    injection e1 with e1
    injection e1 with e1
    subst e1; subst e3
    refine ⟨by simp [bools, bs_length], .inr ⟨g, c, cur.setIfInBounds k (.bool b), rfl, hb, ?_, hn, hm, by simpa using hs, ?_⟩⟩
    · have : Blk w g 4 cur := hh
      exact this.set_ k (.bool b)
    · apply List.ext_getElem?
      intro i
      by_cases hi : i < 64
      · have e2 : (cur.toList.take (64 * 1))[i]? = (bools (bs 64 v))[i]? := by rw [ht]
        rw [List.getElem?_take, if_pos (by omega)] at e2
        rw [List.getElem?_take, if_pos (by omega), Array.toList_setIfInBounds, List.getElem?_set, bools, List.getElem?_map, bs_get 64 u i hi, hu i hi]
        by_cases hik : k = i
        · subst hik
          have : k < cur.size := by rw [hs]; omega
          simp [this]
        · rw [if_neg hik, if_neg (Ne.symm hik), e2, bools, List.getElem?_map, bs_get 64 v i hi]
      · rw [List.getElem?_eq_none (by simp; omega), List.getElem?_eq_none (by simp [bools, bs_length]; omega)]
end Go.Proofs.Ytfechgpdlabgaaa
