/-
  The plain law of CheckNop: a nop ahead of a body leaves what it computes, one place farther.
-/
import Derived.Test.YtpebdfgfikjkeaaKkJ
set_option linter.unusedVariables false
set_option linter.unusedSimpArgs false
namespace Go.Proofs.Ytpebdfgfikjkeaa
open Go.RowKit

def nopI : Ig := ⟨1, 0, 0, 0, 0, none, []⟩
theorem walkF_up : ∀ (l : List Nat) (i : Nat) (st : List Nat), (walkF l i st = 0 ∧ walkF l (i + 1) st = 0) ∨ (walkF l i st ≠ 0 ∧ walkF l (i + 1) st = walkF l i st + 1)
  | [], _, _ => .inl ⟨rfl, rfl⟩
  | op :: l, i, st => by
    by_cases h : 2 ≤ op ∧ op ≤ 4
    · rw [walkF_open h, walkF_open h]
      exact walkF_up l (i + 1) (op :: st)
    by_cases h5 : op = 5
    · subst h5
      rcases st with _ | ⟨x, st⟩
      · rw [walkF_bad (by simp), walkF_bad (by simp)]
        exact .inl ⟨rfl, rfl⟩
      · by_cases hx : x = 4
        · subst hx
          rw [walkF_else, walkF_else]
          exact walkF_up l (i + 1) (5 :: st)
        · rw [walkF_bad (by simpa using hx), walkF_bad (by simpa using hx)]
          exact .inl ⟨rfl, rfl⟩
    by_cases h11 : op = 11
    · subst h11
      rcases st with _ | ⟨x, st⟩
      · rw [walkF_last, walkF_last]
        exact .inr ⟨by omega, rfl⟩
      · rw [walkF_end, walkF_end]
        exact walkF_up l (i + 1) st
    rw [walkF_plain h h5 h11, walkF_plain h h5 h11]
    exact walkF_up l (i + 1) st
theorem shpF_nop (l : List Ig) : shpF (nopI :: l) = shpF l := by
  unfold shpF
  have e : opsL (nopI :: l) = 1 :: opsL l := rfl
  rw [e, walkF_plain (by omega) (by omega) (by omega)]
  rcases walkF_up (opsL l) 0 [] with ⟨h1, h2⟩ | ⟨h1, h2⟩
  · rw [h1, h2, List.length_cons, if_neg (by omega), if_neg (by omega)]
  · rw [h2, List.length_cons]
    by_cases hk : walkF (opsL l) 0 [] = l.length ∧ ¬ l.length = 0
    · rw [if_pos hk, if_pos (by omega)]
    · rw [if_neg hk, if_neg (by omega)]
theorem shpC_nop (lo : List (Nat × Nat)) (l : List Ig) : shpC lo (nopI :: l) = shpC lo l := by
  unfold shpC
  rw [shpF_nop]
theorem rgt_nop : rgtF 1 0 0 0 = 0 := by kernel_rfl
theorem inf_nop : (infF 1).free = false ∧ (infF 1).par = [] ∧ (infF 1).res = [] := ⟨by kernel_rfl, by kernel_rfl, by kernel_rfl⟩
theorem one_nop (E : Ke) (L : List Nat) : oneS E 1 0 0 0 L (s0S E) = (s0S E, 0) := by
  unfold oneS
  rw [if_pos rgt_nop, if_neg (by omega), if_neg (by omega), if_neg (by omega), if_neg (by rw [inf_nop.1]; decide)]
  unfold plainS
  rw [if_neg (by omega), inf_nop.2.1, inf_nop.2.2]
  rfl
theorem runS_up (E : Ke) : ∀ (l : List Ig) (s : Ss) (j : Nat), runS E l s (j + 1) = ((runS E l s j).1 + 1, (runS E l s j).2) ∧ 0 ≤ (runS E l s j).1
  | [], s, j => ⟨by simp [runS], by simp [runS]⟩
  | x :: l, s, j => by
    unfold runS
    by_cases h : (oneS E x.op x.a x.b x.n x.L s).2 = 0
    · rw [if_pos h, if_pos h]
      exact runS_up E l _ (j + 1)
    · rw [if_neg h, if_neg h]
      exact ⟨by simp, by simp⟩
theorem body_nop (E : Ke) (lo : List (Nat × Nat)) (l : List Ig) :
    ((bodyF E lo l).1 < 0 ∧ (bodyF E lo (nopI :: l)).1 = (bodyF E lo l).1 ∧ (bodyF E lo (nopI :: l)).2 = (bodyF E lo l).2) ∨
    (¬ (bodyF E lo l).1 < 0 ∧ (bodyF E lo (nopI :: l)).1 = (bodyF E lo l).1 + 1 ∧ (bodyF E lo (nopI :: l)).2 = (bodyF E lo l).2 ∧ (bodyF E lo l).1 ≤ l.length) := by
  unfold bodyF
  rw [shpC_nop]
  by_cases h : shpC lo l = 0
  · rw [if_pos h, if_pos h]
    right
    have e : runS E (nopI :: l) (s0S E) 0 = runS E l (s0S E) 1 := by
      show (if (oneS E 1 0 0 0 [] (s0S E)).2 = 0 then _ else _) = _
      rw [one_nop, if_pos rfl]
      show runS E l (oneS E 1 0 0 0 [] (s0S E)).1 1 = _
      rw [one_nop]
    have hle : ∀ (l : List Ig) (s : Ss) (j : Nat), (runS E l s j).1 ≤ (j : Int) + l.length := by
      intro l
      induction l with
      | nil => intro s j; simp [runS]
      | cons x l ih =>
        intro s j
        unfold runS
        split
        · have := ih (oneS E x.op x.a x.b x.n x.L s).1 (j + 1)
          rw [List.length_cons]
          omega
        · rw [List.length_cons]
          simp only
          omega
    have hu := runS_up E l (s0S E) 0
    have hl := hle l (s0S E) 0
    rw [e, hu.1]
    exact ⟨by omega, rfl, rfl, by omega⟩
  · rw [if_neg h, if_neg h]
    left
    exact ⟨by simp, rfl, rfl⟩
end Go.Proofs.Ytpebdfgfikjkeaa
