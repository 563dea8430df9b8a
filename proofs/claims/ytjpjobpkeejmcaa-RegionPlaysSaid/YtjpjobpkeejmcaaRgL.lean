/-
  region: plain facts: what is taken lies between the others; taken and given back.
-/
import Derived.Test.YtjpjobpkeejmcaaRgK
set_option linter.unusedVariables false
set_option linter.unusedSimpArgs false
namespace Go.Proofs.Ytjpjobpkeejmcaa
open Go.RowKit

theorem upN_ge (n al : Nat) : n ≤ upN n al := (up_facts n al _ rfl (Nat.pow_pos (by decide))).1
theorem upN_mod (n al : Nat) : upN n al % 2 ^ al = 0 := (up_facts n al _ rfl (Nat.pow_pos (by decide))).2.2
theorem findL_mod (n al : Nat) : ∀ (l : List Pc) (a : Nat), a % 2 ^ al = 0 → (findL n al a l).1 % 2 ^ al = 0
  | [], a, h => h
  | p :: l, a, h => by
    rw [findL]
    split
    · exact h
    · refine findL_mod n al l _ ?_
      rcases Nat.le_total a (upN (p.at_ + p.len) al) with h1 | h1
      · rw [Nat.max_eq_right h1]; exact upN_mod _ _
      · rw [Nat.max_eq_left h1]; exact h
theorem findF_mod (fm sz n al : Nat) (ps : List Pc) : (findF fm sz n al ps).1 % 2 ^ al = 0 := findL_mod n al ps _ (upN_mod _ _)
theorem findL_ge (n al : Nat) : ∀ (l : List Pc) (a : Nat), a ≤ (findL n al a l).1
  | [], a => Nat.le_refl _
  | p :: l, a => by
    rw [findL]
    split
    · exact Nat.le_refl _
    · exact Nat.le_trans (Nat.le_max_left _ _) (findL_ge n al l _)
theorem add_snd (n al : Nat) (ow : Int) (sz : Nat) (hn : 1 ≤ n) : ∀ (l : List Pc) (e a : Nat), snd sz e l → e ≤ a → ((findL n al a l).2 = true ∨ ((findL n al a l).1 ≤ sz ∧ n ≤ sz - (findL n al a l).1)) →
    snd sz e (addP ⟨(findL n al a l).1, n, ow⟩ l) ∧ (findL n al a l).1 + n ≤ sz
  | [], e, a, _, he, h => by
    rw [findL] at h ⊢
    simp only [Bool.false_eq_true, false_or] at h
    refine ⟨⟨hn, he, ?_, trivial⟩, ?_⟩
    · show a + n ≤ sz
      omega
    · show a + n ≤ sz
      omega
  | p :: l, e, a, hs, he, h => by
    obtain ⟨s1, s2, s3, s4⟩ := hs
    rw [findL] at h ⊢
    by_cases hc : a ≤ p.at_ ∧ n ≤ p.at_ - a
    · rw [if_pos hc]
      have hp : posP a (p :: l) = 0 := by rw [posP, if_neg (by omega)]
      refine ⟨?_, by show a + n ≤ sz; omega⟩
      rw [addP]
      show snd sz e ((p :: l).take (posP a (p :: l)) ++ ⟨a, n, ow⟩ :: (p :: l).drop (posP a (p :: l)))
      rw [hp]
      exact ⟨hn, he, by show a + n ≤ sz; omega, s1, by show a + n ≤ p.at_; omega, s3, s4⟩
    · rw [if_neg hc] at h ⊢
      have hu := upN_ge (p.at_ + p.len) al
      obtain ⟨i1, i2⟩ := add_snd n al ow sz hn l (p.at_ + p.len) (max a (upN (p.at_ + p.len) al)) s4 (by omega) h
      have hge := findL_ge n al l (max a (upN (p.at_ + p.len) al))
      refine ⟨?_, i2⟩
      generalize (findL n al (max a (upN (p.at_ + p.len) al)) l).1 = r at hge i1 ⊢
      have hp : posP r (p :: l) = posP r l + 1 := by rw [posP, if_pos (by omega)]
      rw [addP]
      show snd sz e ((p :: l).take (posP r (p :: l)) ++ ⟨r, n, ow⟩ :: (p :: l).drop (posP r (p :: l)))
      rw [hp]
      exact ⟨s1, s2, s3, i1⟩
theorem findF_spec (fm sz n al : Nat) (ps : List Pc) (h : (findF fm sz n al ps).2 = true) : (findL n al (upN fm al) ps).2 = true ∨ ((findL n al (upN fm al) ps).1 ≤ sz ∧ n ≤ sz - (findL n al (upN fm al) ps).1) := by
  rw [findF] at h
  simp only [Bool.or_eq_true, decide_eq_true_eq] at h
  exact h
theorem findF_in (fm sz n al : Nat) (ow : Int) (ps : List Pc) (hs : snd sz fm ps) (hn : 1 ≤ n) (h : (findF fm sz n al ps).2 = true) : snd sz fm (addP ⟨(findF fm sz n al ps).1, n, ow⟩ ps) ∧ (findF fm sz n al ps).1 + n ≤ sz :=
  add_snd n al ow sz hn ps fm (upN fm al) hs (upN_ge fm al) (findF_spec fm sz n al ps h)
theorem take_snd (fm sz n al : Nat) (ow : Int) (ps : List Pc) (hs : snd sz fm ps) : snd sz fm (takeF fm sz n al ow ps).2 := by
  rw [takeF]
  split
  · rename_i h
    by_cases hn : n = 0
    · rw [if_pos hn]; exact hs
    · rw [if_neg hn]
      exact (findF_in fm sz n al ow ps hs (by omega) h).1
  · exact hs
theorem addP_len (p : Pc) (l : List Pc) : (addP p l).length = l.length + 1 := by
  have := posP_le p.at_ l
  rw [addP, List.length_append, List.length_cons, List.length_take, List.length_drop]
  omega
theorem addP_mem (p q : Pc) (l : List Pc) (h : q ∈ addP p l) : q = p ∨ q ∈ l := by
  rw [addP, List.mem_append, List.mem_cons] at h
  rcases h with h | h | h
  · exact .inr (List.mem_of_mem_take h)
  · exact .inl h
  · exact .inr (List.mem_of_mem_drop h)
theorem take_len (fm sz n al : Nat) (ow : Int) (ps : List Pc) : (takeF fm sz n al ow ps).2.length ≤ ps.length + 1 := by
  rw [takeF]
  split
  · by_cases hn : n = 0
    · rw [if_pos hn]; exact Nat.le_succ _
    · rw [if_neg hn]
      exact Nat.le_of_eq (addP_len _ _)
  · exact Nat.le_succ _
theorem take_ow (fm sz n al : Nat) (ow x : Int) (ps : List Pc) (hx : ¬ ow = x) (h : ∀ p ∈ ps, ¬ p.ow = x) : ∀ p ∈ (takeF fm sz n al ow ps).2, ¬ p.ow = x := by
  rw [takeF]
  split
  · by_cases hn : n = 0
    · rw [if_pos hn]; exact h
    · rw [if_neg hn]
      intro p hp
      rcases addP_mem _ _ _ hp with rfl | hp
      · exact hx
      · exact h p hp
  · exact h
theorem less_snd (sz : Nat) (ow : Int) : ∀ (l : List Pc) (e e' : Nat), e' ≤ e → snd sz e l → snd sz e' (less ow l)
  | [], _, _, _, _ => trivial
  | p :: l, e, e', he, hs => by
    obtain ⟨s1, s2, s3, s4⟩ := hs
    rw [less, List.filter_cons]
    split
    · exact ⟨s1, by omega, s3, less_snd sz ow l _ _ (Nat.le_refl _) s4⟩
    · exact less_snd sz ow l (p.at_ + p.len) e' (by omega) s4
theorem less_add (p : Pc) (l : List Pc) (h : ∀ q ∈ l, ¬ q.ow = p.ow) : less p.ow (addP p l) = l ∧ mine p.ow (addP p l) = [p] := by
  have h1 : ∀ q ∈ l.take (posP p.at_ l), ¬ q.ow = p.ow := fun q hq => h q (List.mem_of_mem_take hq)
  have h2 : ∀ q ∈ l.drop (posP p.at_ l), ¬ q.ow = p.ow := fun q hq => h q (List.mem_of_mem_drop hq)
  rw [addP]
  constructor
  · rw [less, List.filter_append, List.filter_cons, List.filter_eq_self.2 (fun q hq => by simpa using h1 q hq), List.filter_eq_self.2 (fun q hq => by simpa using h2 q hq)]
    simp
  · rw [mine, List.filter_append, List.filter_cons, List.filter_eq_nil_iff.2 (fun q hq => by simpa using h1 q hq), List.filter_eq_nil_iff.2 (fun q hq => by simpa using h2 q hq)]
    simp
end Go.Proofs.Ytjpjobpkeejmcaa
