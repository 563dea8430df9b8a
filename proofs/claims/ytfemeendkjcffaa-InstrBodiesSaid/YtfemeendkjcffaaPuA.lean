/-
  instr: the reference's numbers as strings.
-/
import Derived.Test.YtfemeendkjcffaaLe
import Derived.Test.YtfemeendkjcffaaInE
set_option linter.unusedVariables false
set_option linter.unusedSimpArgs false
namespace Go.Proofs.Ytfemeendkjcffaa
open Go.RowKit

theorem conv_bytes {S : Nat → Prop} {A : Option Addr} {w : World} {n c : Nat} {l : List UInt8} (h : Reads w S 1 A n (u8s l)) : (convert 53 9 (.slice A n c)).run Try.prog w = .ok (.string (str l)) w :=
  run_conv_bytes w 53 9 5 Try.underlying53 Try.underlying5 Try.underlying9 h
/-- A number of 32 bits with its sign. -/
def s32 (a : Nat) : Int := if a < 2147483648 then a else (a : Int) - 4294967296
def s64 (a : Nat) : Int := if a < 9223372036854775808 then a else (a : Int) - 18446744073709551616

set_option maxRecDepth 100000 in
set_option maxHeartbeats 1600000 in
theorem num_walk (w : World) (v : Nat) (h : v < 18446744073709551616) : Calls Try.prog 155 #[.int .u64 (v : Int)] w fun e w' => e = .returned (.string (str (uintF v))) ∧ Step (fun _ => False) w w' := by
  go_enter Try.func155, Try.ntmps155
  go_wp2_with fail
  refine (ruint_walk _ v h).mono ?_
  rintro e w5 ⟨D, c, rfl, hown, hS⟩
  have hcv := conv_bytes (c := c) (Reads.of_own hown)
  clear hown
  go_wp2_with fail
  go_ret
  exact ⟨rfl, hS⟩

set_option maxRecDepth 100000 in
set_option maxHeartbeats 1600000 in
theorem signed32_walk (w : World) (a : Nat) (h : a < 4294967296) : Calls Try.prog 156 #[.int .u64 (a : Int), .int .u64 32] w fun e w' => e = .returned (.string (str (intF (s32 a)))) ∧ Step (fun _ => False) w w' := by
  have he : wrap64 ((a : Int) * 4294967296) / 4294967296 = s32 a := by
    unfold wrap64 s32
    split <;> omega
  have hv : -9223372036854775808 ≤ s32 a ∧ s32 a ≤ 9223372036854775807 := by unfold s32; split <;> omega
  obtain ⟨v, hv0⟩ : ∃ v, v = s32 a := ⟨_, rfl⟩
  rw [← hv0] at he hv ⊢
  clear hv0
  go_enter Try.func156, Try.ntmps156
  go_wp2_with fail
  refine (rint_walk _ v hv).mono ?_
  rintro e w5 ⟨D, c, rfl, hown, hS⟩
  have hcv := conv_bytes (c := c) (Reads.of_own hown)
  clear hown
  go_wp2_with fail
  go_ret
  exact ⟨rfl, hS⟩

set_option maxRecDepth 100000 in
set_option maxHeartbeats 1600000 in
theorem signed64_walk (w : World) (a : Nat) (h : a < 18446744073709551616) : Calls Try.prog 156 #[.int .u64 (a : Int), .int .u64 64] w fun e w' => e = .returned (.string (str (intF (s64 a)))) ∧ Step (fun _ => False) w w' := by
  have he : wrap64 (a : Int) = s64 a := by
    unfold wrap64 s64
    split <;> omega
  have hv : -9223372036854775808 ≤ s64 a ∧ s64 a ≤ 9223372036854775807 := by unfold s64; split <;> omega
  obtain ⟨v, hv0⟩ : ∃ v, v = s64 a := ⟨_, rfl⟩
  rw [← hv0] at he hv ⊢
  clear hv0
  go_enter Try.func156, Try.ntmps156
  go_wp2_with fail
  refine (rint_walk _ v hv).mono ?_
  rintro e w5 ⟨D, c, rfl, hown, hS⟩
  have hcv := conv_bytes (c := c) (Reads.of_own hown)
  clear hown
  go_wp2_with fail
  go_ret
  exact ⟨rfl, hS⟩
end Go.Proofs.Ytfemeendkjcffaa
