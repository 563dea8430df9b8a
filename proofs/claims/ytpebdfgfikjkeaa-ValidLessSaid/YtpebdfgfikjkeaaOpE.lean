/-
  ops: Check.
-/
import Derived.Test.YtpebdfgfikjkeaaOpD
set_option linter.unusedVariables false
set_option linter.unusedSimpArgs false
namespace Go.Proofs.Ytpebdfgfikjkeaa
open Go.RowKit

/-! ### Check -/
def fltF (op : Nat) : Bool := [(42, 43), (56, 57), (67, 68), (91, 102), (139, 166), (168, 171), (174, 191)].any fun x => decide (x.1 ≤ op) && decide (op ≤ x.2)
def chkF (op : Nat) : Nat := if fltF op then 8 else if (infF op).name = [] then 9 else 0

set_option maxRecDepth 100000 in
set_option maxHeartbeats 1600000 in
theorem check_flt (w : World) (op : Nat) (h : op < 256) (hf : fltF op = true) : Calls Try.prog 66 #[.int .u8 op] w fun e w' => e = .returned (.int .i64 8) ∧ Step (fun _ => False) w w' := by
  have hf' : (op = 42 ∨ op = 43 ∨ op = 56 ∨ op = 57 ∨ op = 67 ∨ op = 68) ∨ (91 ≤ (op : Int) ∧ (op : Int) ≤ 102) ∨ (139 ≤ (op : Int) ∧ (op : Int) ≤ 166) ∨ (168 ≤ (op : Int) ∧ (op : Int) ≤ 171) ∨ (174 ≤ (op : Int) ∧ (op : Int) ≤ 191) := by
    simp [fltF] at hf
    omega
  clear hf h
  rcases hf' with h | h | h | h | h
  · rcases h with rfl | rfl | rfl | rfl | rfl | rfl <;>
    · go_enter Try.func66, Try.ntmps66
      go_wp2_with fail
      go_ret
      exact ⟨rfl, Step.refl⟩
  all_goals
    obtain ⟨h1, h2⟩ := h
    obtain ⟨p, hp⟩ : ∃ p, p = (op : Int) := ⟨_, rfl⟩
    rw [← hp] at h1 h2 ⊢
    clear hp op
    have q42 : (p == 42) = false := beq_eq_false_iff_ne.2 (by omega)
    have q43 : (p == 43) = false := beq_eq_false_iff_ne.2 (by omega)
    have q56 : (p == 56) = false := beq_eq_false_iff_ne.2 (by omega)
    have q57 : (p == 57) = false := beq_eq_false_iff_ne.2 (by omega)
    have q67 : (p == 67) = false := beq_eq_false_iff_ne.2 (by omega)
    have q68 : (p == 68) = false := beq_eq_false_iff_ne.2 (by omega)
    go_enter Try.func66, Try.ntmps66
    go_wp2_with fail
    go_ret
    exact ⟨rfl, Step.refl⟩

set_option maxRecDepth 100000 in
set_option maxHeartbeats 1600000 in
theorem check_not (w : World) (op : Nat) (h : op < 256) (lo hi : Int) (h1 : lo ≤ op) (h2 : (op : Int) ≤ hi) (h3 : lo = 0 ∧ hi = 41 ∨ lo = 44 ∧ hi = 55 ∨ lo = 58 ∧ hi = 66 ∨ lo = 69 ∧ hi = 90 ∨ lo = 103 ∧ hi = 138 ∨ lo = 167 ∧ hi = 167 ∨ lo = 172 ∧ hi = 173 ∨ lo = 192 ∧ hi = 255) :
    Calls Try.prog 66 #[.int .u8 op] w fun e w' => e = .returned (.int .i64 (if (infF op).name = [] then 9 else 0)) ∧ Step (fun _ => False) w w' := by
  obtain ⟨j, hj⟩ : ∃ j, j = infF op := ⟨_, rfl⟩
  have hc := fun w => of_walk w op h
  rw [← hj] at hc ⊢
  obtain ⟨p, hp⟩ : ∃ p, p = (op : Int) := ⟨_, rfl⟩
  rw [← hp] at h1 h2 hc ⊢
  have HC := Lib.hid hc
  obtain ⟨r, hr⟩ : ∃ r : Int, r = if j.name = [] then 9 else 0 := ⟨_, rfl⟩
  rw [← hr]
  have HR := Lib.hid hr
  clear hc hj hp h op hr
  rcases h3 with ⟨rfl, rfl⟩ | ⟨rfl, rfl⟩ | ⟨rfl, rfl⟩ | ⟨rfl, rfl⟩ | ⟨rfl, rfl⟩ | ⟨rfl, rfl⟩ | ⟨rfl, rfl⟩ | ⟨rfl, rfl⟩ <;>
  · have q42 : (p == 42) = false := beq_eq_false_iff_ne.2 (by omega)
    have q43 : (p == 43) = false := beq_eq_false_iff_ne.2 (by omega)
    have q56 : (p == 56) = false := beq_eq_false_iff_ne.2 (by omega)
    have q57 : (p == 57) = false := beq_eq_false_iff_ne.2 (by omega)
    have q67 : (p == 67) = false := beq_eq_false_iff_ne.2 (by omega)
    have q68 : (p == 68) = false := beq_eq_false_iff_ne.2 (by omega)
    go_enter Try.func66, Try.ntmps66
    go_wp2_with fail
    refine (HC.out _).mono ?_
    rintro e w5 ⟨rfl, hS5⟩
    have hne := str_toList j.name
    have hfd := field_inf j
    by_cases hn : j.name = []
    · have he : (str j.name).toList.isEmpty = true := by rw [hn, str_toList]; rfl
      rw [infV]
      have HN := Lib.hid hn
      clear hn hne
      go_wp2_with fail
      go_ret
      exact ⟨by rw [HR.out, if_pos HN.out]; rfl, hS5⟩
    · have he : (str j.name).toList.isEmpty = false := by
        rw [hne]
        cases hx : j.name with
        | nil => exact absurd hx hn
        | cons => rfl
      rw [infV]
      have HN : Hid (¬ j.name = []) := hn
      clear hn hne
      go_wp2_with fail
      go_ret
      exact ⟨by rw [HR.out, if_neg HN.out]; rfl, hS5⟩

theorem check_walk (w : World) (op : Nat) (h : op < 256) : Calls Try.prog 66 #[.int .u8 op] w fun e w' => e = .returned (.int .i64 (chkF op : Nat)) ∧ Step (fun _ => False) w w' := by
  unfold chkF
  by_cases hf : fltF op = true
  · rw [if_pos hf]
    exact check_flt w op h hf
  rw [if_neg hf]
  have hg : ∀ lo hi : Int, lo ≤ op → (op : Int) ≤ hi → (lo = 0 ∧ hi = 41 ∨ lo = 44 ∧ hi = 55 ∨ lo = 58 ∧ hi = 66 ∨ lo = 69 ∧ hi = 90 ∨ lo = 103 ∧ hi = 138 ∨ lo = 167 ∧ hi = 167 ∨ lo = 172 ∧ hi = 173 ∨ lo = 192 ∧ hi = 255) →
      Calls Try.prog 66 #[.int .u8 op] w fun e w' => e = .returned (.int .i64 ((if (infF op).name = [] then 9 else 0 : Nat) : Int)) ∧ Step (fun _ => False) w w' := fun lo hi h1 h2 h3 => by
    have := check_not w op h lo hi h1 h2 h3
    split
    · rw [if_pos (by assumption)] at this; exact this
    · rw [if_neg (by assumption)] at this; exact this
  simp [fltF] at hf
  obtain ⟨f1, f2, f3, f4, f5, f6, f7⟩ := hf
  by_cases g1 : op ≤ 41
  · exact hg 0 41 (by omega) (by omega) (by simp)
  by_cases g2 : op ≤ 55
  · exact hg 44 55 (by omega) (by omega) (by simp)
  by_cases g3 : op ≤ 66
  · exact hg 58 66 (by omega) (by omega) (by simp)
  by_cases g4 : op ≤ 90
  · exact hg 69 90 (by omega) (by omega) (by simp)
  by_cases g5 : op ≤ 138
  · exact hg 103 138 (by omega) (by omega) (by simp)
  by_cases g6 : op ≤ 167
  · exact hg 167 167 (by omega) (by omega) (by simp)
  by_cases g7 : op ≤ 173
  · exact hg 172 173 (by omega) (by omega) (by simp)
  · exact hg 192 255 (by omega) (by omega) (by simp)
end Go.Proofs.Ytpebdfgfikjkeaa
