/-
  creelref08.Get answers as consts.Read: the plain law.
-/
import Derived.Test.YtfemeendkjcffaaReM
set_option linter.unusedVariables false
set_option linter.unusedSimpArgs false
namespace Go.Proofs.Ytfemeendkjcffaa
open Go.RowKit

theorem tailQ_stop (bs : List UInt8) (x : Nat × Nat × Nat × Nat) (s : Rst) (h : ¬ s.y = 0) : tailQ bs x s = ((0, 0, 0, 0), s) := by
  rw [tailQ, rby_stop bs s h]
  have h1 : ¬ (0 : Nat) = 11 := by decide
  simp only [if_neg h1, fail_stop s h, if_neg h]
theorem rcget_tel (bs : List UInt8) (k a : Nat) : match creF bs k with
    | .ok x k' => rcgF bs ⟨k, 0, a⟩ = ((x.1, x.2, 0, 0), ⟨k', 0, a⟩)
    | .er y b => ¬ y = 0 ∧ (rcgF bs ⟨k, 0, a⟩).1 = (0, 0, 0, 0) ∧ (rcgF bs ⟨k, 0, a⟩).2.y = y ∧ (rcgF bs ⟨k, 0, a⟩).2.a = b := by
  have h := rget_tel bs k a
  rw [creF, rcgF]
  cases hr : getF bs k with
  | er y b =>
    rw [hr] at h
    obtain ⟨g1, g2, g3, g4⟩ := h
    have hs : ¬ (rgetF bs ⟨k, 0, a⟩).2.y = 0 := by rw [g3]; exact g1
    rw [if_neg (fun hh => hs hh.1), tailQ_stop _ _ _ hs]
    exact ⟨g1, rfl, g3, g4⟩
  | ok x k1 =>
    rw [hr] at h
    have hG : rgetF bs ⟨k, 0, a⟩ = (x, ⟨k1, 0, a⟩) := h
    obtain ⟨op, a1, b, L⟩ := x
    clear h
    by_cases hc : crtF op a1 b L.length = 0
    · have hn : ¬ ((rgetF bs ⟨k, 0, a⟩).2.y = 0 ∧ ¬ rcgC (rgetF bs ⟨k, 0, a⟩).1 = 0) := by rw [hG]; exact fun hh => hh.2 hc
      rw [if_neg hn, hG]
      dsimp only
      rw [if_pos hc, tailQ]
      obtain ⟨hb0, hn0, _⟩ := crt_zero hc
      have h2 := rby_tel bs k1 a
      cases hb : byF bs k1 with
      | ok z k2 =>
        rw [hb] at h2
        rw [show rbyF bs ⟨k1, 0, a⟩ = (z, ⟨k2, 0, a⟩) from h2]
        dsimp only
        by_cases hz : z = 11
        · simp only [if_pos hz]
          rw [hb0, hn0]
          rfl
        · simp only [if_neg hz]
          exact ⟨by decide, rfl, rfl, rfl⟩
      | er y b2 =>
        rw [hb] at h2
        obtain ⟨g1, g2, g3⟩ := h2
        have hs : ¬ (rbyF bs ⟨k1, 0, a⟩).2.y = 0 := by rw [g2]; exact g1
        have hst : (if (rbyF bs ⟨k1, 0, a⟩).1 = 11 then (rbyF bs ⟨k1, 0, a⟩).2 else failS 12 k1 (rbyF bs ⟨k1, 0, a⟩).2) = (rbyF bs ⟨k1, 0, a⟩).2 := by rw [fail_stop _ hs]; simp only [ite_self]
        simp only [hst, if_neg hs]
        exact ⟨g1, trivial, g2, g3⟩
    · have hs : ¬ (failS (crtF op a1 b L.length) k ⟨k1, 0, a⟩).y = 0 := hc
      have hp : (rgetF bs ⟨k, 0, a⟩).2.y = 0 ∧ ¬ rcgC (rgetF bs ⟨k, 0, a⟩).1 = 0 := by rw [hG]; exact ⟨rfl, hc⟩
      rw [if_pos hp, hG]
      dsimp only [rcgC]
      rw [if_neg hc, tailQ_stop _ _ _ hs]
      exact ⟨hc, rfl, rfl, rfl⟩
end Go.Proofs.Ytfemeendkjcffaa
