/-
  wide and its reference, at any operator; what the laws of layer 19 say of the numbers.
-/
import Derived.Test.YtfechgpdlabgaaaWidN
set_option linter.unusedVariables false
set_option linter.unusedSimpArgs false
namespace Go.Proofs.Ytfechgpdlabgaaa
open Go.RowKit Wide
theorem twoF_no {op a b : Nat} (hop : op < 81 ∨ 90 < op) (hk : op < 124 ∨ 138 < op) : twoF op a b = (0, 9) := by
  unfold twoF
  rw [if_neg (by omega)]
  split <;> first | rfl | omega

theorem two_any (w : World) (op a b : Nat) (hop : op < 256) (hla : a < 18446744073709551616) (hlb : b < 18446744073709551616) :
    Calls Try.prog 39 #[.int .i64 op, .int .u64 a, .int .u64 b] w (QRet w (twoF op a b)) := by
  by_cases h81 : op = 81
  · subst h81; exact two_c0 w a b hla hlb
  by_cases h82 : op = 82
  · subst h82; exact two_c1 w a b hla hlb
  by_cases h83 : op = 83
  · subst h83; exact two_c2 w a b hla hlb
  by_cases h84 : op = 84
  · subst h84; exact two_c3 w a b hla hlb
  by_cases h85 : op = 85
  · subst h85; exact two_c4 w a b hla hlb
  by_cases h86 : op = 86
  · subst h86; exact two_c5 w a b hla hlb
  by_cases h87 : op = 87
  · subst h87; exact two_c6 w a b hla hlb
  by_cases h88 : op = 88
  · subst h88; exact two_c7 w a b hla hlb
  by_cases h89 : op = 89
  · subst h89; exact two_c8 w a b hla hlb
  by_cases h90 : op = 90
  · subst h90; exact two_c9 w a b hla hlb
  by_cases h124 : op = 124
  · subst h124; exact two_124 w a b hla hlb
  by_cases h125 : op = 125
  · subst h125; exact two_125 w a b hla hlb
  by_cases h126 : op = 126
  · subst h126; exact two_126 w a b hla hlb
  by_cases h127 : op = 127
  · subst h127; exact two_127 w a b hla hlb
  by_cases h128 : op = 128
  · subst h128; exact two_128 w a b hla hlb
  by_cases h129 : op = 129
  · subst h129; exact two_129 w a b hla hlb
  by_cases h130 : op = 130
  · subst h130; exact two_130 w a b hla hlb
  by_cases h131 : op = 131
  · subst h131; exact two_131 w a b hla hlb
  by_cases h132 : op = 132
  · subst h132; exact two_132 w a b hla hlb
  by_cases h133 : op = 133
  · subst h133; exact two_133 w a b hla hlb
  by_cases h134 : op = 134
  · subst h134; exact two_134 w a b hla hlb
  by_cases h135 : op = 135
  · subst h135; exact two_135 w a b hla hlb
  by_cases h136 : op = 136
  · subst h136; exact two_136 w a b hla hlb
  by_cases h137 : op = 137
  · subst h137; exact two_137 w a b hla hlb
  by_cases h138 : op = 138
  · subst h138; exact two_138 w a b hla hlb
  have e1 : op < 81 ∨ 90 < op := by omega
  have e2 : op < 124 ∨ 138 < op := by omega
  rw [twoF_no e1 e2]
  exact two_no w op a b hla hlb hop e1 e2
theorem twoW_any (w : World) (op a b : Nat) (hop : op < 256) (hla : a < 18446744073709551616) (hlb : b < 18446744073709551616) :
    Calls Try.prog 38 #[.int .u8 op, .int .u64 a, .int .u64 b] w (QW w (twoF op a b)) := by
  by_cases h81 : op = 81
  · subst h81; exact twoW_c0 w a b hla hlb
  by_cases h82 : op = 82
  · subst h82; exact twoW_c1 w a b hla hlb
  by_cases h83 : op = 83
  · subst h83; exact twoW_c2 w a b hla hlb
  by_cases h84 : op = 84
  · subst h84; exact twoW_c3 w a b hla hlb
  by_cases h85 : op = 85
  · subst h85; exact twoW_c4 w a b hla hlb
  by_cases h86 : op = 86
  · subst h86; exact twoW_c5 w a b hla hlb
  by_cases h87 : op = 87
  · subst h87; exact twoW_c6 w a b hla hlb
  by_cases h88 : op = 88
  · subst h88; exact twoW_c7 w a b hla hlb
  by_cases h89 : op = 89
  · subst h89; exact twoW_c8 w a b hla hlb
  by_cases h90 : op = 90
  · subst h90; exact twoW_c9 w a b hla hlb
  by_cases h124 : op = 124
  · subst h124; exact twoW_124 w a b hla hlb
  by_cases h125 : op = 125
  · subst h125; exact twoW_125 w a b hla hlb
  by_cases h126 : op = 126
  · subst h126; exact twoW_126 w a b hla hlb
  by_cases h127 : op = 127
  · subst h127; exact twoW_127 w a b hla hlb
  by_cases h128 : op = 128
  · subst h128; exact twoW_128 w a b hla hlb
  by_cases h129 : op = 129
  · subst h129; exact twoW_129 w a b hla hlb
  by_cases h130 : op = 130
  · subst h130; exact twoW_130 w a b hla hlb
  by_cases h131 : op = 131
  · subst h131; exact twoW_131 w a b hla hlb
  by_cases h132 : op = 132
  · subst h132; exact twoW_132 w a b hla hlb
  by_cases h133 : op = 133
  · subst h133; exact twoW_133 w a b hla hlb
  by_cases h134 : op = 134
  · subst h134; exact twoW_134 w a b hla hlb
  by_cases h135 : op = 135
  · subst h135; exact twoW_135 w a b hla hlb
  by_cases h136 : op = 136
  · subst h136; exact twoW_136 w a b hla hlb
  by_cases h137 : op = 137
  · subst h137; exact twoW_137 w a b hla hlb
  by_cases h138 : op = 138
  · subst h138; exact twoW_138 w a b hla hlb
  have e1 : op < 81 ∨ 90 < op := by omega
  have e2 : op < 124 ∨ 138 < op := by omega
  rw [twoF_no e1 e2]
  exact twoW_no w op a b hla hlb hop e1 e2

theorem law_add {a b : Nat} (ha : a < 2 ^ 64) (hb : b < 2 ^ 64) : (twoF 125 (twoF 124 a b).1 b).1 = a := by
  show ((a + b) % 2 ^ 64 + (2 ^ 64 - 1 - b) + 1) % 2 ^ 64 = a
  omega
theorem law_rot {a b : Nat} (ha : a < 2 ^ 64) : (twoF 138 (twoF 137 a b).1 b).1 = a := by
  show rotrN (rotlN a (b % 64)) (b % 64) = a
  have hn : b % 64 < 64 := Nat.mod_lt _ (by decide)
  generalize b % 64 = n at *
  have hl := rotlN_lt ha hn
  apply Nat.eq_of_testBit_eq
  intro i
  by_cases hi : i < 64
  · rw [rotr_bit hl hn hi, rotl_bit ha hn (by split <;> omega)]
    congr 1
    split <;> split <;> omega
  · rw [testBit_big (rotrN_lt hl hn) (by omega), testBit_big ha (by omega)]
theorem law_xor (a b : Nat) : (twoF 133 (twoF 133 a b).1 b).1 = a := by
  show (a ^^^ b) ^^^ b = a
  rw [Nat.xor_assoc, Nat.xor_self, Nat.xor_zero]
theorem law_tri {a b : Nat} (ha : a < 2 ^ 64) (hb : b < 2 ^ 64) : (twoF 83 a b).1 + (twoF 85 a b).1 + (twoF 81 a b).1 = 1 := by
  show (cmpF 2 ((a : Int) == (b : Int)) (decide (a < b)) (a.testBit 63) (b.testBit 63)).toNat + (cmpF 4 ((a : Int) == (b : Int)) (decide (a < b)) (a.testBit 63) (b.testBit 63)).toNat + (cmpF 0 ((a : Int) == (b : Int)) (decide (a < b)) (a.testBit 63) (b.testBit 63)).toNat = 1
  rw [← cmp_law2 ha hb, ← cmp_law4 ha hb, show cmpF 0 ((a : Int) == (b : Int)) (decide (a < b)) (a.testBit 63) (b.testBit 63) = ((a : Int) == (b : Int)) from rfl, same_law ha hb]
  generalize flip63 a = x
  generalize flip63 b = y
  rcases Nat.lt_trichotomy x y with h | h | h
  · simp [h, show ¬ y < x by omega, show ¬ x = y by omega]
  · subst h; simp
  · simp [h, show ¬ x < y by omega, show ¬ x = y by omega]
theorem law_two {a b : Nat} (ha : a < 2 ^ 64) (hb : b < 2 ^ 64) : (twoF 84 a b).1 + (twoF 90 a b).1 = 1 := by
  show (cmpF 3 ((a : Int) == (b : Int)) (decide (a < b)) (a.testBit 63) (b.testBit 63)).toNat + (cmpF 9 ((a : Int) == (b : Int)) (decide (a < b)) (a.testBit 63) (b.testBit 63)).toNat = 1
  rw [← cmp_law3 ha hb, ← cmp_law9 ha hb]
  by_cases h : a < b
  · simp [h, show ¬ b ≤ a by omega]
  · simp [h, show b ≤ a by omega]
theorem wrap64_mod {a : Nat} (ha : a < 2 ^ 64) : wrap64 (a : Int) % 18446744073709551616 = (a : Int) := by unfold wrap64; omega
theorem mod_join (Q R x y q r : Int) (M : Int) (hq : q % M = Q) (hr : r % M = R) (eb : y % M = x) : (Q * x % M + R) % M = (r + y * q) % M := by
  subst hq; subst hr; subst eb
  rw [← Int.mul_emod, ← Int.add_emod, Int.mul_comm q y, Int.add_comm]
theorem law_div' {a b Q R : Nat} (ha : a < 2 ^ 64) (hb : b < 2 ^ 64) (hq : IntKind.u64.wrap ((wrap64 (a : Int)).tdiv (wrap64 (b : Int))) = (Q : Int)) (hr : IntKind.u64.wrap ((wrap64 (a : Int)).tmod (wrap64 (b : Int))) = (R : Int)) : (Q * b % 18446744073709551616 + R) % 18446744073709551616 = a := by
  have hd := Int.tmod_add_mul_tdiv (wrap64 (a : Int)) (wrap64 (b : Int))
  have ea := wrap64_mod ha
  have eb := wrap64_mod hb
  rw [wrapu] at hq hr
  generalize (wrap64 (a : Int)).tdiv (wrap64 (b : Int)) = q at *
  generalize (wrap64 (a : Int)).tmod (wrap64 (b : Int)) = r at *
  generalize wrap64 (a : Int) = x at *
  generalize wrap64 (b : Int) = y at *
  have hj := mod_join (Q : Int) (R : Int) (b : Int) y q r 18446744073709551616 hq hr eb
  rw [hd, ea] at hj
  have : (((Q * b % 18446744073709551616 + R) % 18446744073709551616 : Nat) : Int) = (a : Int) := by
    rw [← hj]
    simp only [Int.natCast_emod, Int.natCast_add, Int.natCast_mul]
    rfl
  exact Int.ofNat_inj.1 this
theorem two_mul (x b : Nat) : (twoF 126 x b).1 = x * b % 18446744073709551616 := rfl
theorem two_add (x b : Nat) : (twoF 124 x b).1 = (x + b) % 18446744073709551616 := rfl
theorem law_div {a b : Nat} (ha : a < 2 ^ 64) (hb : b < 2 ^ 64) (h0 : 0 < b) : (twoF 124 (twoF 126 (sgnQ a b) b).1 (sgnR a b)).1 = a := by
  rw [two_add, two_mul]
  exact law_div' ha hb (quo_law ha hb) (rem_law ha hb h0)
end Go.Proofs.Ytfechgpdlabgaaa
