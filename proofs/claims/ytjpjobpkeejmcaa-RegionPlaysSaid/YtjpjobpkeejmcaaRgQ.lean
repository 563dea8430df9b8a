/-
  region: where room is: the plain law.
-/
import Derived.Test.YtjpjobpkeejmcaaRgP
set_option linter.unusedVariables false
set_option linter.unusedSimpArgs false
namespace Go.Proofs.Ytjpjobpkeejmcaa
open Go.RowKit

/-- So many places from one on are free. -/
def freeP (l : List Pc) (m n : Nat) : Prop := ∀ p ∈ l, m + n ≤ p.at_ ∨ p.at_ + p.len ≤ m
theorem upN_min (e al m : Nat) (hm : m % 2 ^ al = 0) (h : e ≤ m) : upN e al ≤ m := by
  have hk : 0 < 2 ^ al := Nat.pow_pos (by decide)
  obtain ⟨h1, h2, h3⟩ := up_facts e al _ rfl hk
  generalize 2 ^ al = k at hk hm h2 h3
  generalize upN e al = u at h1 h2 h3 ⊢
  rcases Nat.lt_or_ge m u with h4 | h4
  · exfalso
    have e1 : u = k * (u / k) := by have := Nat.div_add_mod u k; rw [h3] at this; omega
    have e2 : m = k * (m / k) := by have := Nat.div_add_mod m k; rw [hm] at this; omega
    have h5 : m / k < u / k := by
      rcases Nat.lt_or_ge (m / k) (u / k) with h6 | h6
      · exact h6
      · have := Nat.mul_le_mul_left k h6
        omega
    have h6 := Nat.mul_le_mul_left k (show m / k + 1 ≤ u / k from h5)
    rw [Nat.mul_add, Nat.mul_one] at h6
    omega
  · exact h4
/-- Ahead of the place that is found no multiple is free. -/
theorem find_first (n al sz : Nat) : ∀ (l : List Pc) (e a m : Nat), snd sz e l → a ≤ m → m % 2 ^ al = 0 → m < (findL n al a l).1 → ¬ freeP l m n
  | [], e, a, m, _, h1, _, h2 => by
    rw [findL] at h2
    exact absurd h2 (by show ¬ m < a; omega)
  | p :: l, e, a, m, hs, h1, hm, h2 => by
    obtain ⟨s1, s2, s3, s4⟩ := hs
    rw [findL] at h2
    by_cases hc : a ≤ p.at_ ∧ n ≤ p.at_ - a
    · rw [if_pos hc] at h2
      exact absurd h2 (by show ¬ m < a; omega)
    · rw [if_neg hc] at h2
      intro hf
      rcases Nat.lt_or_ge m (max a (upN (p.at_ + p.len) al)) with h3 | h3
      · rcases hf p (by simp) with h4 | h4
        · exact hc ⟨by omega, by omega⟩
        · have := upN_min (p.at_ + p.len) al m hm h4
          omega
      · exact find_first n al sz l _ _ m s4 h3 hm h2 (fun q hq => hf q (by simp [hq]))
/-- The place that is found is free. -/
theorem find_free (n al sz : Nat) : ∀ (l : List Pc) (e a : Nat), snd sz e l → freeP l (findL n al a l).1 n
  | [], e, a, _ => fun p hp => by cases hp
  | p :: l, e, a, hs => by
    obtain ⟨s1, s2, s3, s4⟩ := hs
    rw [findL]
    by_cases hc : a ≤ p.at_ ∧ n ≤ p.at_ - a
    · rw [if_pos hc]
      intro q hq
      rcases List.mem_cons.1 hq with rfl | hq
      · exact .inl (by show a + n ≤ _; omega)
      · have := snd_all l _ s4 q hq
        exact .inl (by show a + n ≤ _; omega)
    · rw [if_neg hc]
      intro q hq
      rcases List.mem_cons.1 hq with rfl | hq
      · have h1 := findL_ge n al l (max a (upN (q.at_ + q.len) al))
        have h2 := upN_ge (q.at_ + q.len) al
        exact .inr (by omega)
      · exact find_free n al sz l _ _ s4 q hq
/-- Place by place. -/
theorem free_iff (l : List Pc) (m n : Nat) (hl : ∀ p ∈ l, 1 ≤ p.len) : freeP l m n ↔ ((n = 0 → inB false m l = false) ∧ ∀ j, j < n → inB true (m + j) l = false) := by
  constructor
  · intro h
    refine ⟨fun h0 => ?_, fun j hj => ?_⟩
    · rw [inB, List.any_eq_false]
      intro p hp
      rw [decide_eq_true_eq]
      rintro (⟨h1, h2⟩ | ⟨h1, _⟩)
      · rcases h p hp with h3 | h3 <;> omega
      · cases h1
    · rw [inB, List.any_eq_false]
      intro p hp
      rw [decide_eq_true_eq]
      have h4 := hl p hp
      rintro (⟨h1, h2⟩ | ⟨_, h1⟩)
      · rcases h p hp with h3 | h3 <;> omega
      · rcases h p hp with h3 | h3 <;> omega
  · rintro ⟨h1, h2⟩ p hp
    have h4 := hl p hp
    rcases Nat.lt_or_ge p.at_ (m + n) with h5 | h5
    · rcases Nat.lt_or_ge m (p.at_ + p.len) with h6 | h6
      · exfalso
        by_cases h0 : n = 0
        · have h7 := h1 h0
          rw [inB, List.any_eq_false] at h7
          have h8 := h7 p hp
          rw [decide_eq_true_eq] at h8
          exact h8 (.inl ⟨by omega, by omega⟩)
        · -- a place that both have
          rcases Nat.lt_or_ge m p.at_ with h7 | h7
          · have h8 := h2 (p.at_ - m) (by omega)
            rw [inB, List.any_eq_false] at h8
            have h9 := h8 p hp
            rw [decide_eq_true_eq] at h9
            exact h9 (.inr ⟨rfl, by omega⟩)
          · have h8 := h2 0 (by omega)
            rw [inB, List.any_eq_false] at h8
            have h9 := h8 p hp
            rw [decide_eq_true_eq] at h9
            rcases Nat.eq_or_lt_of_le h7 with h10 | h10
            · exact h9 (.inr ⟨rfl, by omega⟩)
            · exact h9 (.inl ⟨by omega, by omega⟩)
      · exact .inr h6
    · exact .inl h5
/-- What the reference's Find tells. -/
def refF (fm sz n al : Nat) (l : List Pc) : Int := if (findF fm sz n al l).2 = true then ((findF fm sz n al l).1 : Int) else -1
/-- The round of the reference's search: at a place behind the first one, ahead of the one that is found. -/
theorem round_on (fm sz n al m : Nat) (l : List Pc) (hs : snd sz fm l) (hm : m % 2 ^ al = 0) (h1 : upN fm al ≤ m) (h2 : m < (findF fm sz n al l).1) : ¬ freeP l m n ∧ m + 2 ^ al ≤ (findF fm sz n al l).1 := by
  refine ⟨find_first n al sz l fm _ m hs h1 hm h2, ?_⟩
  have h3 := findF_mod fm sz n al l
  have hk : 0 < 2 ^ al := Nat.pow_pos (by decide)
  generalize (findF fm sz n al l).1 = u at h2 h3 ⊢
  generalize 2 ^ al = k at hm h3 hk ⊢
  have e1 : u = k * (u / k) := by have := Nat.div_add_mod u k; rw [h3] at this; omega
  have e2 : m = k * (m / k) := by have := Nat.div_add_mod m k; rw [hm] at this; omega
  have h5 : m / k < u / k := by
    rcases Nat.lt_or_ge (m / k) (u / k) with h6 | h6
    · exact h6
    · have := Nat.mul_le_mul_left k h6
      omega
  have h6 := Nat.mul_le_mul_left k (show m / k + 1 ≤ u / k from h5)
  rw [Nat.mul_add, Nat.mul_one] at h6
  omega
theorem found_fits (fm sz n al : Nat) (l : List Pc) (hs : snd sz fm l) : (findF fm sz n al l).2 = true ↔ ((findF fm sz n al l).1 ≤ sz ∧ n ≤ sz - (findF fm sz n al l).1) := by
  constructor
  · intro h
    have h1 : (findF fm sz n al l).1 + n ≤ sz := find_in n al sz l fm (upN fm al) hs (findF_spec fm sz n al l h)
    omega
  · intro h
    rw [findF]
    simp only [Bool.or_eq_true, decide_eq_true_eq]
    exact .inr h
end Go.Proofs.Ytjpjobpkeejmcaa
