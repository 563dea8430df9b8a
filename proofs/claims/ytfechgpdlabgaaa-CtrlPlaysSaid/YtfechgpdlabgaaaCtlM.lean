/-
  CtrlPlays: the law's walk.
-/
import Derived.Test.YtfechgpdlabgaaaCtlK
import Derived.Test.YtfechgpdlabgaaaCtlL
set_option linter.unusedVariables false
set_option linter.unusedSimpArgs false
namespace Go.Proofs.Ytfechgpdlabgaaa
open Go.RowKit

def Good (l : List Bk) : Prop := ∀ b ∈ l, 0 ≤ b.op ∧ b.op ≤ 255 ∧ b.res.length ≤ 1000
theorem Good.pre {pre : List Bk} {b : Bk} (h : Good (pre ++ [b])) : Good pre := fun x hx => h x (List.mem_append_left _ hx)
theorem Good.last {pre : List Bk} {b : Bk} (h : Good (pre ++ [b])) : 0 ≤ b.op ∧ b.op ≤ 255 ∧ b.res.length ≤ 1000 := h b (by simp)
theorem Good.put {pre : List Bk} {b : Bk} (h : Good pre) (hb : 0 ≤ b.op ∧ b.op ≤ 255 ∧ b.res.length ≤ 1000) : Good (pre ++ [b]) := fun x hx => by
  rcases List.mem_append.1 hx with h1 | h1
  · exact h x h1
  · rw [List.mem_singleton] at h1; subst h1; exact hb

/-- Whatever call: the two answer alike, and what is left is bounded. -/
theorem cdo_any {w : World} {I J : Nat → Prop} {g gs c : Nat} {A : Option Addr} {l : List Bk} (o : COp) (H : Sta w I J g gs A c l) (hz : l.length ≤ 1000) (hn : (allOwn l).length ≤ 100000) (hG : Good l) (hs : o.s.length ≤ 1000) (h64 : o.n < 18446744073709551616) :
    ∃ l', Calls Try.prog 57 #[.pointer (some ⟨g, 0, none⟩), .slice A l.length c, o.val] w (CDo w I J g gs l') ∧ l'.length ≤ l.length + 1 ∧ (allOwn l').length ≤ (allOwn l).length + 1 ∧ Good l' := by
  obtain ⟨k, t, s, n⟩ := o
  unfold COp.val
  dsimp only at hs h64 ⊢
  have hpe : l = [] ∨ ∃ pre b, l = pre ++ [b] := by
    rcases l.eq_nil_or_concat with h | ⟨p, b, h⟩
    · exact .inl h
    · exact .inr ⟨p, b, by rw [h, List.concat_eq_append]⟩
  -- what a block with another own part leaves
  have turn : ∀ (pre : List Bk) (b : Bk) (o : List UInt8), l = pre ++ [b] → o.length ≤ b.own.length → (l.set (l.length - 1) { b with own := o }).length ≤ l.length + 1 ∧ (allOwn (l.set (l.length - 1) { b with own := o })).length ≤ (allOwn l).length + 1 ∧ Good (l.set (l.length - 1) { b with own := o }) := fun pre b o hl ho => by
    subst hl
    rw [set_last, allOwn_last, allOwn_last]
    refine ⟨by simp, by simp; omega, hG.pre.put hG.last⟩
  have same : l.length ≤ l.length + 1 ∧ (allOwn l).length ≤ (allOwn l).length + 1 ∧ Good l := ⟨by omega, by omega, hG⟩
  by_cases k1 : k = 1
  · subst k1
    refine ⟨_, cdo_1 H hz hs, by simp, by rw [allOwn_last, List.append_nil]; omega, hG.put ⟨by simp, ?_, by simpa using hs⟩⟩
    have := UInt8.toNat_lt t
    simp only
    omega
  by_cases k2 : k = 2
  · subst k2
    rcases hpe with rfl | ⟨pre, b, hl⟩
    · exact ⟨[], cdo_2n H, same⟩
    · obtain ⟨⟨o, u, er⟩, hr⟩ : ∃ r, popF b.own 0 b.dead = r := ⟨_, rfl⟩
      have hle := popF_le b.own 0 b.dead
      rw [hr] at hle
      exact ⟨_, cdo_2 o u er hl H hz hn hr, turn pre b o hl hle⟩
  by_cases k3 : k = 3
  · subst k3
    rcases hpe with rfl | ⟨pre, b, hl⟩
    · exact ⟨[], cdo_3n H, same⟩
    · obtain ⟨⟨o, u, er⟩, hr⟩ : ∃ r, wantF b.own (t.toNat : Int) 0 b.dead = r := ⟨_, rfl⟩
      have hle := popF_le b.own 0 b.dead
      rw [← wantF_fst b.own (t.toNat : Int), hr] at hle
      exact ⟨_, cdo_3 o u er hl H hz hn hr, turn pre b o hl hle⟩
  by_cases k4 : k = 4
  · subst k4
    rcases hpe with rfl | ⟨pre, b, hl⟩
    · exact ⟨[], cdo_4n H, same⟩
    · obtain ⟨⟨o, er⟩, hr⟩ : ∃ r, wantAllF b.own s.reverse 0 b.dead = r := ⟨_, rfl⟩
      have hle := wantAllF_le s.reverse b.own 0 b.dead
      rw [hr] at hle
      exact ⟨_, cdo_4 o er hl H hz hn hs hr, turn pre b o hl hle⟩
  by_cases k5 : k = 5
  · subst k5
    rcases hpe with rfl | ⟨pre, b, hl⟩
    · exact ⟨[], cdo_5n H, same⟩
    · obtain ⟨⟨o, er⟩, hr⟩ : ∃ r, wantAllF b.own b.res.reverse 0 b.dead = r := ⟨_, rfl⟩
      have hle := wantAllF_le b.res.reverse b.own 0 b.dead
      rw [hr] at hle
      have hlast : 0 ≤ b.op ∧ b.op ≤ 255 ∧ b.res.length ≤ 1000 := by rw [hl] at hG; exact hG.last
      by_cases he : er = 0
      · by_cases ho : o = []
        · refine ⟨_, cdo_5ok o er hl H hz hn hlast.2.2 hr ho he hlast.1 hlast.2.1, ?_, ?_, ?_⟩
          · simp; omega
          · rw [hl, List.dropLast_concat, allOwn_last]; simp; omega
          · rw [hl, List.dropLast_concat]; rw [hl] at hG; exact hG.pre
        · exact ⟨_, cdo_5more o er hl H hz hn hlast.2.2 hr (by simpa using he) ho, turn pre b o hl hle⟩
      · exact ⟨_, cdo_5err o er hl H hz hn hlast.2.2 hr (by simpa using he) (by simpa using he), turn pre b o hl hle⟩
  by_cases k6 : k = 6
  · subst k6
    rcases hpe with rfl | ⟨pre, b, hl⟩
    · exact ⟨[], cdo_6n H, same⟩
    · refine ⟨_, cdo_6 hl H hz hn, ?_, ?_, ?_⟩
      · rw [hl]; simp
      · rw [hl, allOwn_last, allOwn_last]; simp; omega
      · rw [hl] at hG; exact hG.pre.put hG.last
  by_cases k7 : k = 7
  · subst k7
    by_cases hk : n < l.length
    · by_cases ho : (l[l.length - 1 - n]'(by omega)).op = 3
      · exact ⟨l, cdo_7three H hz h64 hk ho, same⟩
      · exact ⟨l, cdo_7near H hz h64 hk ho, same⟩
    · exact ⟨l, cdo_7far H hz h64 (by omega), same⟩
  · have f : ∀ j : Int, k ≠ j → (k == j) = false := fun j h => beq_eq_false_iff_ne.2 h
    rcases hpe with rfl | ⟨pre, b, hl⟩
    · exact ⟨[], cdo_0n k (f 1 k1) (f 2 k2) (f 3 k3) (f 4 k4) (f 5 k5) (f 6 k6) (f 7 k7) H, same⟩
    · refine ⟨_, cdo_0 k (f 1 k1) (f 2 k2) (f 3 k3) (f 4 k4) (f 5 k5) (f 6 k6) (f 7 k7) hl H hz hn, ?_, ?_, ?_⟩
      · rw [hl]; simp
      · rw [hl, allOwn_last, allOwn_last]; simp; omega
      · rw [hl] at hG; exact hG.pre.put hG.last
end Go.Proofs.Ytfechgpdlabgaaa
