/-
  instr: which instructions may be.
-/
import Derived.Test.YtpebdfgfikjkeaaOb
set_option linter.unusedVariables false
set_option linter.unusedSimpArgs false
namespace Go.Proofs.Ytpebdfgfikjkeaa
open Go.RowKit

/-- An instruction as a value. -/
def insV (op a b : Nat) (A : Option Addr) (n c : Nat) : Value := .agg #[.int .u8 (op : Int), .int .u64 (a : Int), .int .u64 (b : Int), .slice A n c]
def valF (t : Nat) : Nat := if t = 127 ∨ t = 126 then 0 else if t = 125 ∨ t = 124 then 8 else 7
def blkF (a : Nat) : Nat := if a = 64 then 0 else if 255 < a then 7 else valF a
def immF (m a b n : Nat) : Nat :=
  if (0 < n ∧ ¬ m = 3) ∨ 10000 < n then (if m = 3 then 29 else 1)
  else if ¬ b = 0 ∧ ¬ m = 8 then 1
  else if m = 0 ∨ m = 9 then (if a = 0 then 0 else 1)
  else if m = 1 then blkF a
  else if m = 11 then 0
  else if a < 4294967296 ∧ b < 4294967296 then 0 else 1
def rgtF (op a b n : Nat) : Nat := if chkF op = 0 then immF (infF op).imm a b n else chkF op

set_option maxRecDepth 100000 in
set_option maxHeartbeats 1600000 in
theorem value_walk (w : World) (t : Nat) (h : t < 256) : Calls Try.prog 43 #[.int .u8 (t : Int)] w fun e w' => e = .returned (.int .i64 (valF t : Nat)) ∧ w' = w := by
  by_cases h1 : t = 127 ∨ t = 126
  · rw [valF, if_pos h1]
    rcases h1 with rfl | rfl <;>
    · go_enter Try.func43, Try.ntmps43
      go_wp2_with fail
      go_ret
      exact ⟨rfl, rfl⟩
  by_cases h2 : t = 125 ∨ t = 124
  · rw [valF, if_neg h1, if_pos h2]
    rcases h2 with rfl | rfl <;>
    · go_enter Try.func43, Try.ntmps43
      go_wp2_with fail
      go_ret
      exact ⟨rfl, rfl⟩
  · rw [valF, if_neg h1, if_neg h2]
    have q1 : ¬ (t : Int) = 127 := by omega
    have q2 : ¬ (t : Int) = 126 := by omega
    have q3 : ¬ (t : Int) = 125 := by omega
    have q4 : ¬ (t : Int) = 124 := by omega
    clear h h1 h2
    go_enter Try.func43, Try.ntmps43
    go_wp2_with fail
    go_ret
    exact ⟨rfl, rfl⟩

set_option maxRecDepth 100000 in
set_option maxHeartbeats 1600000 in
theorem unless_walk (w : World) (b : Bool) : Calls Try.prog 68 #[.bool b] w fun e w' => e = .returned (.int .i64 (if b then 0 else 1 : Nat)) ∧ w' = w := by
  cases b <;>
  · go_enter Try.func68, Try.ntmps68
    go_wp2_with fail
    go_ret
    exact ⟨rfl, rfl⟩

set_option maxRecDepth 100000 in
set_option maxHeartbeats 1600000 in
theorem many_walk (w : World) (m : Nat) : Calls Try.prog 67 #[.int .i64 (m : Int)] w fun e w' => e = .returned (.int .i64 (if m = 3 then 29 else 1 : Nat)) ∧ w' = w := by
  by_cases h : m = 3
  · rw [if_pos h]
    subst h
    go_enter Try.func67, Try.ntmps67
    go_wp2_with fail
    go_ret
    exact ⟨rfl, rfl⟩
  · rw [if_neg h]
    have h' : ¬ (m : Int) = 3 := by omega
    clear h
    go_enter Try.func67, Try.ntmps67
    go_wp2_with fail
    go_ret
    exact ⟨rfl, rfl⟩

set_option maxRecDepth 100000 in
set_option maxHeartbeats 1600000 in
theorem block_walk (w : World) (a : Nat) : Calls Try.prog 69 #[.int .u64 (a : Int)] w fun e w' => e = .returned (.int .i64 (blkF a : Nat)) ∧ w' = w := by
  by_cases h1 : a = 64
  · rw [blkF, if_pos h1]
    subst h1
    go_enter Try.func69, Try.ntmps69
    go_wp2_with fail
    go_ret
    exact ⟨rfl, rfl⟩
  by_cases h2 : 255 < a
  · rw [blkF, if_neg h1, if_pos h2]
    have q1 : ¬ (a : Int) = 64 := by omega
    have q2 : (255 : Int) < a := by omega
    clear h1 h2
    go_enter Try.func69, Try.ntmps69
    go_wp2_with fail
    go_ret
    exact ⟨rfl, rfl⟩
  · rw [blkF, if_neg h1, if_neg h2]
    have q1 : ¬ (a : Int) = 64 := by omega
    have q2 : ¬ (255 : Int) < a := by omega
    have hw := IntWalk.u8_in (a : Int) (by omega)
    have HV : Hid (∀ w, Calls Try.prog 43 #[.int .u8 (a : Int)] w fun e w' => e = .returned (.int .i64 (valF a : Nat)) ∧ w' = w) := fun w => value_walk w a (by omega)
    obtain ⟨v, hv⟩ : ∃ v : Int, v = (valF a : Nat) := ⟨_, rfl⟩
    rw [← hv] at HV ⊢
    clear h1 h2 hv
    go_enter Try.func69, Try.ntmps69
    go_wp2_with fail
    refine (HV.out _).mono ?_
    rintro e w5 ⟨rfl, hw5⟩
    obtain rfl : w = w5 := hw5.symm
    go_wp2_with fail
    go_ret
    exact ⟨rfl, rfl⟩
end Go.Proofs.Ytpebdfgfikjkeaa
