/-
  creelref19: Two.
-/
import Derived.Test.YtfechgpdlabgaaaWidL
import Derived.Test.YtfechgpdlabgaaaWidQ
set_option linter.unusedVariables false
set_option linter.unusedSimpArgs false
namespace Go.Proofs.Ytfechgpdlabgaaa
open Go.RowKit Wide
/-- What an operator makes of two numbers, by definition: the number, the error's number. -/
def twoF (op a b : Nat) : Nat × Int :=
  if 81 ≤ op ∧ op ≤ 90 then ((cmpF (op - 81) ((a : Int) == (b : Int)) (decide (a < b)) (a.testBit 63) (b.testBit 63)).toNat, 0) else
  match op with
  | 124 => ((a + b) % 2 ^ 64, 0)
  | 125 => ((a + (2 ^ 64 - 1 - b) + 1) % 2 ^ 64, 0)
  | 126 => (a * b % 2 ^ 64, 0)
  | 127 => quotF 0 a b
  | 128 => quotF 1 a b
  | 129 => quotF 2 a b
  | 130 => quotF 3 a b
  | 131 => (a &&& b, 0)
  | 132 => (a ||| b, 0)
  | 133 => (a ^^^ b, 0)
  | 134 => (a * 2 ^ (b % 64) % 2 ^ 64, 0)
  | 135 => (sarN a (b % 64), 0)
  | 136 => (a / 2 ^ (b % 64), 0)
  | 137 => (rotlN a (b % 64), 0)
  | 138 => (rotrN a (b % 64), 0)
  | _ => (0, 9)
theorem number_m (w : World) (S : Nat → Prop) (A : Option Addr) (c v : Nat) (hr : Reads w S 1 A 64 (bools (bs 64 v))) :
    Calls Try.prog 78 #[.slice A 64 c] w fun e w' => e = .returned (.int .u64 ((v % 2 ^ 64 : Nat) : Int)) ∧ w = w' := number_any w S A c v hr
theorem shr_bits {a n : Nat} (ha : a < 2 ^ 64) (h : n < 64) : Hid (∀ i, i < 64 → shiftBit a (-(n : Int)) false i = (a / 2 ^ n).testBit i) := fun i hi => by
  unfold shiftBit
  rw [shr_bit]
  split
  · congr 1; omega
  · rw [testBit_big ha (by omega)]
theorem sar_bits {a n : Nat} (ha : a < 2 ^ 64) (h : n < 64) : Hid (∀ i, i < 64 → shiftBit a (-(n : Int)) (a.testBit 63) i = (sarN a n).testBit i) := fun i hi => by
  unfold shiftBit
  rw [sar_bit ha h hi]
  split
  · rw [if_pos (by omega)]; congr 1; omega
  · rw [if_neg (by omega)]
theorem rotl_bits {a n : Nat} (ha : a < 2 ^ 64) (h : n < 64) : Hid (∀ i, i < 64 → a.testBit (rotIx i (n : Int)) = (rotlN a n).testBit i) := fun i hi => by
  rw [rotl_bit ha h hi]
  congr 1
  unfold rotIx
  split
  · rw [Int.tmod_eq_emod_of_nonneg (by omega)]; omega
  · rw [show ((i : Int) - n) = -((n : Int) - i) by omega, Int.neg_tmod, Int.tmod_eq_emod_of_nonneg (by omega)]; omega
theorem rotr_bits {a n : Nat} (ha : a < 2 ^ 64) (h : n < 64) : Hid (∀ i, i < 64 → a.testBit (rotIx i (-(n : Int))) = (rotrN a n).testBit i) := fun i hi => by
  rw [rotr_bit ha h hi]
  congr 1
  unfold rotIx
  rw [Int.tmod_eq_emod_of_nonneg (by omega)]
  split <;> omega

set_option maxRecDepth 100000 in
set_option maxHeartbeats 1600000 in
theorem two_c0 (w : World) (a b : Nat) (hla : a < 18446744073709551616) (hlb : b < 18446744073709551616) :
    Calls Try.prog 39 #[.int .i64 81, .int .u64 a, .int .u64 b] w (QRet w (twoF 81 a b)) := by
  have HF : Hid (twoF 81 a b = ((cmpF 0 ((a : Int) == (b : Int)) (decide (a < b)) (a.testBit 63) (b.testBit 63)).toNat, 0)) := by unfold Hid; rfl
  have HC := Lib.hid (compare_0 w a b hla hlb)
  generalize cmpF 0 ((a : Int) == (b : Int)) (decide (a < b)) (a.testBit 63) (b.testBit 63) = r at *
  go_enter Try.func39, Try.ntmps39
  go_wp2_with fail
  refine HC.out.mono ?_
  rintro e w1 ⟨rfl, s1⟩
  go_wp2_with fail
  go_ret2
  rw [HF.out]
  exact ⟨rfl, s1⟩

set_option maxRecDepth 100000 in
set_option maxHeartbeats 1600000 in
theorem two_c1 (w : World) (a b : Nat) (hla : a < 18446744073709551616) (hlb : b < 18446744073709551616) :
    Calls Try.prog 39 #[.int .i64 82, .int .u64 a, .int .u64 b] w (QRet w (twoF 82 a b)) := by
  have HF : Hid (twoF 82 a b = ((cmpF 1 ((a : Int) == (b : Int)) (decide (a < b)) (a.testBit 63) (b.testBit 63)).toNat, 0)) := by unfold Hid; rfl
  have HC := Lib.hid (compare_1 w a b hla hlb)
  generalize cmpF 1 ((a : Int) == (b : Int)) (decide (a < b)) (a.testBit 63) (b.testBit 63) = r at *
  go_enter Try.func39, Try.ntmps39
  go_wp2_with fail
  refine HC.out.mono ?_
  rintro e w1 ⟨rfl, s1⟩
  go_wp2_with fail
  go_ret2
  rw [HF.out]
  exact ⟨rfl, s1⟩

set_option maxRecDepth 100000 in
set_option maxHeartbeats 1600000 in
theorem two_c2 (w : World) (a b : Nat) (hla : a < 18446744073709551616) (hlb : b < 18446744073709551616) :
    Calls Try.prog 39 #[.int .i64 83, .int .u64 a, .int .u64 b] w (QRet w (twoF 83 a b)) := by
  have HF : Hid (twoF 83 a b = ((cmpF 2 ((a : Int) == (b : Int)) (decide (a < b)) (a.testBit 63) (b.testBit 63)).toNat, 0)) := by unfold Hid; rfl
  have HC := Lib.hid (compare_2 w a b hla hlb)
  generalize cmpF 2 ((a : Int) == (b : Int)) (decide (a < b)) (a.testBit 63) (b.testBit 63) = r at *
  go_enter Try.func39, Try.ntmps39
  go_wp2_with fail
  refine HC.out.mono ?_
  rintro e w1 ⟨rfl, s1⟩
  go_wp2_with fail
  go_ret2
  rw [HF.out]
  exact ⟨rfl, s1⟩

set_option maxRecDepth 100000 in
set_option maxHeartbeats 1600000 in
theorem two_c3 (w : World) (a b : Nat) (hla : a < 18446744073709551616) (hlb : b < 18446744073709551616) :
    Calls Try.prog 39 #[.int .i64 84, .int .u64 a, .int .u64 b] w (QRet w (twoF 84 a b)) := by
  have HF : Hid (twoF 84 a b = ((cmpF 3 ((a : Int) == (b : Int)) (decide (a < b)) (a.testBit 63) (b.testBit 63)).toNat, 0)) := by unfold Hid; rfl
  have HC := Lib.hid (compare_3 w a b hla hlb)
  generalize cmpF 3 ((a : Int) == (b : Int)) (decide (a < b)) (a.testBit 63) (b.testBit 63) = r at *
  go_enter Try.func39, Try.ntmps39
  go_wp2_with fail
  refine HC.out.mono ?_
  rintro e w1 ⟨rfl, s1⟩
  go_wp2_with fail
  go_ret2
  rw [HF.out]
  exact ⟨rfl, s1⟩

set_option maxRecDepth 100000 in
set_option maxHeartbeats 1600000 in
theorem two_c4 (w : World) (a b : Nat) (hla : a < 18446744073709551616) (hlb : b < 18446744073709551616) :
    Calls Try.prog 39 #[.int .i64 85, .int .u64 a, .int .u64 b] w (QRet w (twoF 85 a b)) := by
  have HF : Hid (twoF 85 a b = ((cmpF 4 ((a : Int) == (b : Int)) (decide (a < b)) (a.testBit 63) (b.testBit 63)).toNat, 0)) := by unfold Hid; rfl
  have HC := Lib.hid (compare_4 w a b hla hlb)
  generalize cmpF 4 ((a : Int) == (b : Int)) (decide (a < b)) (a.testBit 63) (b.testBit 63) = r at *
  go_enter Try.func39, Try.ntmps39
  go_wp2_with fail
  refine HC.out.mono ?_
  rintro e w1 ⟨rfl, s1⟩
  go_wp2_with fail
  go_ret2
  rw [HF.out]
  exact ⟨rfl, s1⟩

set_option maxRecDepth 100000 in
set_option maxHeartbeats 1600000 in
theorem two_c5 (w : World) (a b : Nat) (hla : a < 18446744073709551616) (hlb : b < 18446744073709551616) :
    Calls Try.prog 39 #[.int .i64 86, .int .u64 a, .int .u64 b] w (QRet w (twoF 86 a b)) := by
  have HF : Hid (twoF 86 a b = ((cmpF 5 ((a : Int) == (b : Int)) (decide (a < b)) (a.testBit 63) (b.testBit 63)).toNat, 0)) := by unfold Hid; rfl
  have HC := Lib.hid (compare_5 w a b hla hlb)
  generalize cmpF 5 ((a : Int) == (b : Int)) (decide (a < b)) (a.testBit 63) (b.testBit 63) = r at *
  go_enter Try.func39, Try.ntmps39
  go_wp2_with fail
  refine HC.out.mono ?_
  rintro e w1 ⟨rfl, s1⟩
  go_wp2_with fail
  go_ret2
  rw [HF.out]
  exact ⟨rfl, s1⟩

set_option maxRecDepth 100000 in
set_option maxHeartbeats 1600000 in
theorem two_c6 (w : World) (a b : Nat) (hla : a < 18446744073709551616) (hlb : b < 18446744073709551616) :
    Calls Try.prog 39 #[.int .i64 87, .int .u64 a, .int .u64 b] w (QRet w (twoF 87 a b)) := by
  have HF : Hid (twoF 87 a b = ((cmpF 6 ((a : Int) == (b : Int)) (decide (a < b)) (a.testBit 63) (b.testBit 63)).toNat, 0)) := by unfold Hid; rfl
  have HC := Lib.hid (compare_6 w a b hla hlb)
  generalize cmpF 6 ((a : Int) == (b : Int)) (decide (a < b)) (a.testBit 63) (b.testBit 63) = r at *
  go_enter Try.func39, Try.ntmps39
  go_wp2_with fail
  refine HC.out.mono ?_
  rintro e w1 ⟨rfl, s1⟩
  go_wp2_with fail
  go_ret2
  rw [HF.out]
  exact ⟨rfl, s1⟩

set_option maxRecDepth 100000 in
set_option maxHeartbeats 1600000 in
theorem two_c7 (w : World) (a b : Nat) (hla : a < 18446744073709551616) (hlb : b < 18446744073709551616) :
    Calls Try.prog 39 #[.int .i64 88, .int .u64 a, .int .u64 b] w (QRet w (twoF 88 a b)) := by
  have HF : Hid (twoF 88 a b = ((cmpF 7 ((a : Int) == (b : Int)) (decide (a < b)) (a.testBit 63) (b.testBit 63)).toNat, 0)) := by unfold Hid; rfl
  have HC := Lib.hid (compare_7 w a b hla hlb)
  generalize cmpF 7 ((a : Int) == (b : Int)) (decide (a < b)) (a.testBit 63) (b.testBit 63) = r at *
  go_enter Try.func39, Try.ntmps39
  go_wp2_with fail
  refine HC.out.mono ?_
  rintro e w1 ⟨rfl, s1⟩
  go_wp2_with fail
  go_ret2
  rw [HF.out]
  exact ⟨rfl, s1⟩

set_option maxRecDepth 100000 in
set_option maxHeartbeats 1600000 in
theorem two_c8 (w : World) (a b : Nat) (hla : a < 18446744073709551616) (hlb : b < 18446744073709551616) :
    Calls Try.prog 39 #[.int .i64 89, .int .u64 a, .int .u64 b] w (QRet w (twoF 89 a b)) := by
  have HF : Hid (twoF 89 a b = ((cmpF 8 ((a : Int) == (b : Int)) (decide (a < b)) (a.testBit 63) (b.testBit 63)).toNat, 0)) := by unfold Hid; rfl
  have HC := Lib.hid (compare_8 w a b hla hlb)
  generalize cmpF 8 ((a : Int) == (b : Int)) (decide (a < b)) (a.testBit 63) (b.testBit 63) = r at *
  go_enter Try.func39, Try.ntmps39
  go_wp2_with fail
  refine HC.out.mono ?_
  rintro e w1 ⟨rfl, s1⟩
  go_wp2_with fail
  go_ret2
  rw [HF.out]
  exact ⟨rfl, s1⟩

set_option maxRecDepth 100000 in
set_option maxHeartbeats 1600000 in
theorem two_c9 (w : World) (a b : Nat) (hla : a < 18446744073709551616) (hlb : b < 18446744073709551616) :
    Calls Try.prog 39 #[.int .i64 90, .int .u64 a, .int .u64 b] w (QRet w (twoF 90 a b)) := by
  have HF : Hid (twoF 90 a b = ((cmpF 9 ((a : Int) == (b : Int)) (decide (a < b)) (a.testBit 63) (b.testBit 63)).toNat, 0)) := by unfold Hid; rfl
  have HC := Lib.hid (compare_9 w a b hla hlb)
  generalize cmpF 9 ((a : Int) == (b : Int)) (decide (a < b)) (a.testBit 63) (b.testBit 63) = r at *
  go_enter Try.func39, Try.ntmps39
  go_wp2_with fail
  refine HC.out.mono ?_
  rintro e w1 ⟨rfl, s1⟩
  go_wp2_with fail
  go_ret2
  rw [HF.out]
  exact ⟨rfl, s1⟩

set_option maxRecDepth 100000 in
set_option maxHeartbeats 3200000 in
theorem two_124 (w : World) (a b : Nat) (hla : a < 18446744073709551616) (hlb : b < 18446744073709551616) :
    Calls Try.prog 39 #[.int .i64 124, .int .u64 a, .int .u64 b] w (QRet w (twoF 124 a b)) := by
  obtain ⟨n, hn⟩ : ∃ n, n = b % 64 := ⟨_, rfl⟩
  have HN := Lib.hid hn
  have hnl : n < 64 := by omega
  have hnc : (b : Int) % 64 = (n : Int) := by omega
  have hb2 : b < 2 ^ 64 := hlb
  have ha2 : a < 2 ^ 64 := hla
  clear hn
  have HLA := Lib.hid ha2
  have HLB := Lib.hid hb2
  clear ha2 hb2
  go_enter Try.func39, Try.ntmps39
  go_wp2_with fail
  refine (compare_no w 124 a b hla hlb (by omega) (by omega) (by omega)).mono ?_
  rintro e w1 ⟨rfl, s1⟩
  go_wp2_with fail
  refine (bits_any _ a hla).mono ?_
  rintro e w2 ⟨A2, c2, rfl, h2, s2⟩
  go_wp2_with fail
  refine (bits_any _ b hlb).mono ?_
  rintro e w3 ⟨A3, c3, rfl, h3, s3⟩
  have ha := own_below h2 s3
  obtain ⟨ga, rfl, _, gal, hca, _⟩ := row_at ha
  obtain ⟨gb, rfl, _, gbl, _, _⟩ := row_at h3
  have ca := hca 63 (by omega)
  have t3 := (s1.trans s2).trans s3
  clear hca s1 s2 s3 h2
  go_wp2_with fail
  refine (number_n _ _ _ c3 b (Reads.of_own h3) hlb).mono ?_
  rintro e w4 ⟨rfl, rfl⟩
  go_wp2_with fail
  refine (add_any _ _ _ _ _ _ _ a b false (Reads.of_own ha) (Reads.of_own h3)).mono ?_
  rintro e w5 ⟨A5, c5, rfl, h5, s5⟩
  go_wp2_with fail
  refine (number_m _ _ _ c5 _ (Reads.of_own h5)).mono ?_
  rintro e w6 ⟨rfl, rfl⟩
  go_wp2_with fail
  go_ret2
  exact ⟨by first | (simp [twoF]; done) | (simp [twoF]; rfl), t3.trans s5⟩

set_option maxRecDepth 100000 in
set_option maxHeartbeats 3200000 in
theorem two_125 (w : World) (a b : Nat) (hla : a < 18446744073709551616) (hlb : b < 18446744073709551616) :
    Calls Try.prog 39 #[.int .i64 125, .int .u64 a, .int .u64 b] w (QRet w (twoF 125 a b)) := by
  obtain ⟨n, hn⟩ : ∃ n, n = b % 64 := ⟨_, rfl⟩
  have HN := Lib.hid hn
  have hnl : n < 64 := by omega
  have hnc : (b : Int) % 64 = (n : Int) := by omega
  have hb2 : b < 2 ^ 64 := hlb
  have ha2 : a < 2 ^ 64 := hla
  clear hn
  have HLA := Lib.hid ha2
  have HLB := Lib.hid hb2
  clear ha2 hb2
  go_enter Try.func39, Try.ntmps39
  go_wp2_with fail
  refine (compare_no w 125 a b hla hlb (by omega) (by omega) (by omega)).mono ?_
  rintro e w1 ⟨rfl, s1⟩
  go_wp2_with fail
  refine (bits_any _ a hla).mono ?_
  rintro e w2 ⟨A2, c2, rfl, h2, s2⟩
  go_wp2_with fail
  refine (bits_any _ b hlb).mono ?_
  rintro e w3 ⟨A3, c3, rfl, h3, s3⟩
  have ha := own_below h2 s3
  obtain ⟨ga, rfl, _, gal, hca, _⟩ := row_at ha
  obtain ⟨gb, rfl, _, gbl, _, _⟩ := row_at h3
  have ca := hca 63 (by omega)
  have t3 := (s1.trans s2).trans s3
  clear hca s1 s2 s3 h2
  go_wp2_with fail
  refine (number_n _ _ _ c3 b (Reads.of_own h3) hlb).mono ?_
  rintro e w4 ⟨rfl, rfl⟩
  go_wp2_with fail
  refine (not_any _ _ _ _ b (Reads.of_own h3) HLB.out).mono ?_
  rintro e w4 ⟨A4, c4, rfl, h4, s4⟩
  have ha4 := own_below ha s4
  go_wp2_with fail
  refine (add_any _ _ _ _ _ _ _ a _ true (Reads.of_own ha4) (Reads.of_own h4)).mono ?_
  rintro e w5 ⟨A5, c5, rfl, h5, s5'⟩
  have s5 := s4.trans s5'
  go_wp2_with fail
  refine (number_m _ _ _ c5 _ (Reads.of_own h5)).mono ?_
  rintro e w6 ⟨rfl, rfl⟩
  go_wp2_with fail
  go_ret2
  exact ⟨by first | (simp [twoF]; done) | (simp [twoF]; rfl), t3.trans s5⟩

set_option maxRecDepth 100000 in
set_option maxHeartbeats 3200000 in
theorem two_126 (w : World) (a b : Nat) (hla : a < 18446744073709551616) (hlb : b < 18446744073709551616) :
    Calls Try.prog 39 #[.int .i64 126, .int .u64 a, .int .u64 b] w (QRet w (twoF 126 a b)) := by
  obtain ⟨n, hn⟩ : ∃ n, n = b % 64 := ⟨_, rfl⟩
  have HN := Lib.hid hn
  have hnl : n < 64 := by omega
  have hnc : (b : Int) % 64 = (n : Int) := by omega
  have hb2 : b < 2 ^ 64 := hlb
  have ha2 : a < 2 ^ 64 := hla
  clear hn
  have HLA := Lib.hid ha2
  have HLB := Lib.hid hb2
  clear ha2 hb2
  go_enter Try.func39, Try.ntmps39
  go_wp2_with fail
  refine (compare_no w 126 a b hla hlb (by omega) (by omega) (by omega)).mono ?_
  rintro e w1 ⟨rfl, s1⟩
  go_wp2_with fail
  refine (bits_any _ a hla).mono ?_
  rintro e w2 ⟨A2, c2, rfl, h2, s2⟩
  go_wp2_with fail
  refine (bits_any _ b hlb).mono ?_
  rintro e w3 ⟨A3, c3, rfl, h3, s3⟩
  have ha := own_below h2 s3
  obtain ⟨ga, rfl, _, gal, hca, _⟩ := row_at ha
  obtain ⟨gb, rfl, _, gbl, _, _⟩ := row_at h3
  have ca := hca 63 (by omega)
  have t3 := (s1.trans s2).trans s3
  clear hca s1 s2 s3 h2
  go_wp2_with fail
  refine (number_n _ _ _ c3 b (Reads.of_own h3) hlb).mono ?_
  rintro e w4 ⟨rfl, rfl⟩
  go_wp2_with fail
  refine (times_any _ _ _ _ _ _ _ a b (Reads.of_own ha) (Reads.of_own h3) HLB.out).mono ?_
  rintro e w5 ⟨A5, c5, rfl, h5, s5⟩
  go_wp2_with fail
  refine (number_m _ _ _ c5 _ (Reads.of_own h5)).mono ?_
  rintro e w6 ⟨rfl, rfl⟩
  go_wp2_with fail
  go_ret2
  exact ⟨by first | (simp [twoF]; done) | (simp [twoF]; rfl), t3.trans s5⟩

set_option maxRecDepth 100000 in
set_option maxHeartbeats 3200000 in
theorem two_127 (w : World) (a b : Nat) (hla : a < 18446744073709551616) (hlb : b < 18446744073709551616) :
    Calls Try.prog 39 #[.int .i64 127, .int .u64 a, .int .u64 b] w (QRet w (twoF 127 a b)) := by
  obtain ⟨n, hn⟩ : ∃ n, n = b % 64 := ⟨_, rfl⟩
  have HN := Lib.hid hn
  have hnl : n < 64 := by omega
  have hnc : (b : Int) % 64 = (n : Int) := by omega
  have hb2 : b < 2 ^ 64 := hlb
  have ha2 : a < 2 ^ 64 := hla
  clear hn
  have HLA := Lib.hid ha2
  have HLB := Lib.hid hb2
  clear ha2 hb2
  go_enter Try.func39, Try.ntmps39
  go_wp2_with fail
  refine (compare_no w 127 a b hla hlb (by omega) (by omega) (by omega)).mono ?_
  rintro e w1 ⟨rfl, s1⟩
  go_wp2_with fail
  refine (bits_any _ a hla).mono ?_
  rintro e w2 ⟨A2, c2, rfl, h2, s2⟩
  go_wp2_with fail
  refine (bits_any _ b hlb).mono ?_
  rintro e w3 ⟨A3, c3, rfl, h3, s3⟩
  have ha := own_below h2 s3
  obtain ⟨ga, rfl, _, gal, hca, _⟩ := row_at ha
  obtain ⟨gb, rfl, _, gbl, _, _⟩ := row_at h3
  have ca := hca 63 (by omega)
  have t3 := (s1.trans s2).trans s3
  clear hca s1 s2 s3 h2
  go_wp2_with fail
  refine (number_n _ _ _ c3 b (Reads.of_own h3) hlb).mono ?_
  rintro e w4 ⟨rfl, rfl⟩
  go_wp2_with fail
  rcases Nat.eq_zero_or_pos b with h0 | h0
  · have H0 := Lib.hid h0
    clear h0
    refine (quot_zero _ ga gb c2 c3 a b (own_base ha (fun _ _ => Nat.zero_le _)) (own_base h3 (fun _ _ => Nat.zero_le _)) hla hlb 0 H0.out).mono ?_
    rintro e w5 ⟨rfl, s5⟩
    go_wp2_with fail
    go_ret2
    exact ⟨rfl, t3.trans s5⟩
  · refine (quot_0 _ ga gb c2 c3 a b (own_base ha (fun _ _ => Nat.zero_le _)) (own_base h3 (fun _ _ => Nat.zero_le _)) hla hlb h0).mono ?_
    rintro e w5 ⟨rfl, s5⟩
    go_wp2_with fail
    go_ret2
    exact ⟨rfl, t3.trans s5⟩

set_option maxRecDepth 100000 in
set_option maxHeartbeats 3200000 in
theorem two_128 (w : World) (a b : Nat) (hla : a < 18446744073709551616) (hlb : b < 18446744073709551616) :
    Calls Try.prog 39 #[.int .i64 128, .int .u64 a, .int .u64 b] w (QRet w (twoF 128 a b)) := by
  obtain ⟨n, hn⟩ : ∃ n, n = b % 64 := ⟨_, rfl⟩
  have HN := Lib.hid hn
  have hnl : n < 64 := by omega
  have hnc : (b : Int) % 64 = (n : Int) := by omega
  have hb2 : b < 2 ^ 64 := hlb
  have ha2 : a < 2 ^ 64 := hla
  clear hn
  have HLA := Lib.hid ha2
  have HLB := Lib.hid hb2
  clear ha2 hb2
  go_enter Try.func39, Try.ntmps39
  go_wp2_with fail
  refine (compare_no w 128 a b hla hlb (by omega) (by omega) (by omega)).mono ?_
  rintro e w1 ⟨rfl, s1⟩
  go_wp2_with fail
  refine (bits_any _ a hla).mono ?_
  rintro e w2 ⟨A2, c2, rfl, h2, s2⟩
  go_wp2_with fail
  refine (bits_any _ b hlb).mono ?_
  rintro e w3 ⟨A3, c3, rfl, h3, s3⟩
  have ha := own_below h2 s3
  obtain ⟨ga, rfl, _, gal, hca, _⟩ := row_at ha
  obtain ⟨gb, rfl, _, gbl, _, _⟩ := row_at h3
  have ca := hca 63 (by omega)
  have t3 := (s1.trans s2).trans s3
  clear hca s1 s2 s3 h2
  go_wp2_with fail
  refine (number_n _ _ _ c3 b (Reads.of_own h3) hlb).mono ?_
  rintro e w4 ⟨rfl, rfl⟩
  go_wp2_with fail
  rcases Nat.eq_zero_or_pos b with h0 | h0
  · have H0 := Lib.hid h0
    clear h0
    refine (quot_zero _ ga gb c2 c3 a b (own_base ha (fun _ _ => Nat.zero_le _)) (own_base h3 (fun _ _ => Nat.zero_le _)) hla hlb 1 H0.out).mono ?_
    rintro e w5 ⟨rfl, s5⟩
    go_wp2_with fail
    go_ret2
    exact ⟨rfl, t3.trans s5⟩
  · refine (quot_1 _ ga gb c2 c3 a b (own_base ha (fun _ _ => Nat.zero_le _)) (own_base h3 (fun _ _ => Nat.zero_le _)) hla hlb h0).mono ?_
    rintro e w5 ⟨rfl, s5⟩
    go_wp2_with fail
    go_ret2
    exact ⟨rfl, t3.trans s5⟩

set_option maxRecDepth 100000 in
set_option maxHeartbeats 3200000 in
theorem two_129 (w : World) (a b : Nat) (hla : a < 18446744073709551616) (hlb : b < 18446744073709551616) :
    Calls Try.prog 39 #[.int .i64 129, .int .u64 a, .int .u64 b] w (QRet w (twoF 129 a b)) := by
  obtain ⟨n, hn⟩ : ∃ n, n = b % 64 := ⟨_, rfl⟩
  have HN := Lib.hid hn
  have hnl : n < 64 := by omega
  have hnc : (b : Int) % 64 = (n : Int) := by omega
  have hb2 : b < 2 ^ 64 := hlb
  have ha2 : a < 2 ^ 64 := hla
  clear hn
  have HLA := Lib.hid ha2
  have HLB := Lib.hid hb2
  clear ha2 hb2
  go_enter Try.func39, Try.ntmps39
  go_wp2_with fail
  refine (compare_no w 129 a b hla hlb (by omega) (by omega) (by omega)).mono ?_
  rintro e w1 ⟨rfl, s1⟩
  go_wp2_with fail
  refine (bits_any _ a hla).mono ?_
  rintro e w2 ⟨A2, c2, rfl, h2, s2⟩
  go_wp2_with fail
  refine (bits_any _ b hlb).mono ?_
  rintro e w3 ⟨A3, c3, rfl, h3, s3⟩
  have ha := own_below h2 s3
  obtain ⟨ga, rfl, _, gal, hca, _⟩ := row_at ha
  obtain ⟨gb, rfl, _, gbl, _, _⟩ := row_at h3
  have ca := hca 63 (by omega)
  have t3 := (s1.trans s2).trans s3
  clear hca s1 s2 s3 h2
  go_wp2_with fail
  refine (number_n _ _ _ c3 b (Reads.of_own h3) hlb).mono ?_
  rintro e w4 ⟨rfl, rfl⟩
  go_wp2_with fail
  rcases Nat.eq_zero_or_pos b with h0 | h0
  · have H0 := Lib.hid h0
    clear h0
    refine (quot_zero _ ga gb c2 c3 a b (own_base ha (fun _ _ => Nat.zero_le _)) (own_base h3 (fun _ _ => Nat.zero_le _)) hla hlb 2 H0.out).mono ?_
    rintro e w5 ⟨rfl, s5⟩
    go_wp2_with fail
    go_ret2
    exact ⟨rfl, t3.trans s5⟩
  · refine (quot_2 _ ga gb c2 c3 a b (own_base ha (fun _ _ => Nat.zero_le _)) (own_base h3 (fun _ _ => Nat.zero_le _)) hla hlb h0).mono ?_
    rintro e w5 ⟨rfl, s5⟩
    go_wp2_with fail
    go_ret2
    exact ⟨rfl, t3.trans s5⟩

set_option maxRecDepth 100000 in
set_option maxHeartbeats 3200000 in
theorem two_130 (w : World) (a b : Nat) (hla : a < 18446744073709551616) (hlb : b < 18446744073709551616) :
    Calls Try.prog 39 #[.int .i64 130, .int .u64 a, .int .u64 b] w (QRet w (twoF 130 a b)) := by
  obtain ⟨n, hn⟩ : ∃ n, n = b % 64 := ⟨_, rfl⟩
  have HN := Lib.hid hn
  have hnl : n < 64 := by omega
  have hnc : (b : Int) % 64 = (n : Int) := by omega
  have hb2 : b < 2 ^ 64 := hlb
  have ha2 : a < 2 ^ 64 := hla
  clear hn
  have HLA := Lib.hid ha2
  have HLB := Lib.hid hb2
  clear ha2 hb2
  go_enter Try.func39, Try.ntmps39
  go_wp2_with fail
  refine (compare_no w 130 a b hla hlb (by omega) (by omega) (by omega)).mono ?_
  rintro e w1 ⟨rfl, s1⟩
  go_wp2_with fail
  refine (bits_any _ a hla).mono ?_
  rintro e w2 ⟨A2, c2, rfl, h2, s2⟩
  go_wp2_with fail
  refine (bits_any _ b hlb).mono ?_
  rintro e w3 ⟨A3, c3, rfl, h3, s3⟩
  have ha := own_below h2 s3
  obtain ⟨ga, rfl, _, gal, hca, _⟩ := row_at ha
  obtain ⟨gb, rfl, _, gbl, _, _⟩ := row_at h3
  have ca := hca 63 (by omega)
  have t3 := (s1.trans s2).trans s3
  clear hca s1 s2 s3 h2
  go_wp2_with fail
  refine (number_n _ _ _ c3 b (Reads.of_own h3) hlb).mono ?_
  rintro e w4 ⟨rfl, rfl⟩
  go_wp2_with fail
  rcases Nat.eq_zero_or_pos b with h0 | h0
  · have H0 := Lib.hid h0
    clear h0
    refine (quot_zero _ ga gb c2 c3 a b (own_base ha (fun _ _ => Nat.zero_le _)) (own_base h3 (fun _ _ => Nat.zero_le _)) hla hlb 3 H0.out).mono ?_
    rintro e w5 ⟨rfl, s5⟩
    go_wp2_with fail
    go_ret2
    exact ⟨rfl, t3.trans s5⟩
  · refine (quot_3 _ ga gb c2 c3 a b (own_base ha (fun _ _ => Nat.zero_le _)) (own_base h3 (fun _ _ => Nat.zero_le _)) hla hlb h0).mono ?_
    rintro e w5 ⟨rfl, s5⟩
    go_wp2_with fail
    go_ret2
    exact ⟨rfl, t3.trans s5⟩

set_option maxRecDepth 100000 in
set_option maxHeartbeats 3200000 in
theorem two_131 (w : World) (a b : Nat) (hla : a < 18446744073709551616) (hlb : b < 18446744073709551616) :
    Calls Try.prog 39 #[.int .i64 131, .int .u64 a, .int .u64 b] w (QRet w (twoF 131 a b)) := by
  obtain ⟨n, hn⟩ : ∃ n, n = b % 64 := ⟨_, rfl⟩
  have HN := Lib.hid hn
  have hnl : n < 64 := by omega
  have hnc : (b : Int) % 64 = (n : Int) := by omega
  have hb2 : b < 2 ^ 64 := hlb
  have ha2 : a < 2 ^ 64 := hla
  clear hn
  have HLA := Lib.hid ha2
  have HLB := Lib.hid hb2
  clear ha2 hb2
  go_enter Try.func39, Try.ntmps39
  go_wp2_with fail
  refine (compare_no w 131 a b hla hlb (by omega) (by omega) (by omega)).mono ?_
  rintro e w1 ⟨rfl, s1⟩
  go_wp2_with fail
  refine (bits_any _ a hla).mono ?_
  rintro e w2 ⟨A2, c2, rfl, h2, s2⟩
  go_wp2_with fail
  refine (bits_any _ b hlb).mono ?_
  rintro e w3 ⟨A3, c3, rfl, h3, s3⟩
  have ha := own_below h2 s3
  obtain ⟨ga, rfl, _, gal, hca, _⟩ := row_at ha
  obtain ⟨gb, rfl, _, gbl, _, _⟩ := row_at h3
  have ca := hca 63 (by omega)
  have t3 := (s1.trans s2).trans s3
  clear hca s1 s2 s3 h2
  go_wp2_with fail
  refine (number_n _ _ _ c3 b (Reads.of_own h3) hlb).mono ?_
  rintro e w4 ⟨rfl, rfl⟩
  go_wp2_with fail
  refine (bit_0 _ _ _ _ _ _ _ a b (a &&& b) (Reads.of_own ha) (Reads.of_own h3) (by simpa using (Nat.and_lt_two_pow _ HLB.out : a &&& b < 2 ^ 64)) (fun k _ => by rw [Nat.testBit_and])).mono ?_
  rintro e w5 ⟨rfl, s5⟩
  go_wp2_with fail
  go_ret2
  exact ⟨rfl, t3.trans s5⟩

set_option maxRecDepth 100000 in
set_option maxHeartbeats 3200000 in
theorem two_132 (w : World) (a b : Nat) (hla : a < 18446744073709551616) (hlb : b < 18446744073709551616) :
    Calls Try.prog 39 #[.int .i64 132, .int .u64 a, .int .u64 b] w (QRet w (twoF 132 a b)) := by
  obtain ⟨n, hn⟩ : ∃ n, n = b % 64 := ⟨_, rfl⟩
  have HN := Lib.hid hn
  have hnl : n < 64 := by omega
  have hnc : (b : Int) % 64 = (n : Int) := by omega
  have hb2 : b < 2 ^ 64 := hlb
  have ha2 : a < 2 ^ 64 := hla
  clear hn
  have HLA := Lib.hid ha2
  have HLB := Lib.hid hb2
  clear ha2 hb2
  go_enter Try.func39, Try.ntmps39
  go_wp2_with fail
  refine (compare_no w 132 a b hla hlb (by omega) (by omega) (by omega)).mono ?_
  rintro e w1 ⟨rfl, s1⟩
  go_wp2_with fail
  refine (bits_any _ a hla).mono ?_
  rintro e w2 ⟨A2, c2, rfl, h2, s2⟩
  go_wp2_with fail
  refine (bits_any _ b hlb).mono ?_
  rintro e w3 ⟨A3, c3, rfl, h3, s3⟩
  have ha := own_below h2 s3
  obtain ⟨ga, rfl, _, gal, hca, _⟩ := row_at ha
  obtain ⟨gb, rfl, _, gbl, _, _⟩ := row_at h3
  have ca := hca 63 (by omega)
  have t3 := (s1.trans s2).trans s3
  clear hca s1 s2 s3 h2
  go_wp2_with fail
  refine (number_n _ _ _ c3 b (Reads.of_own h3) hlb).mono ?_
  rintro e w4 ⟨rfl, rfl⟩
  go_wp2_with fail
  refine (bit_1 _ _ _ _ _ _ _ a b (a ||| b) (Reads.of_own ha) (Reads.of_own h3) (by simpa using (Nat.or_lt_two_pow HLA.out HLB.out : a ||| b < 2 ^ 64)) (fun k _ => by rw [Nat.testBit_or])).mono ?_
  rintro e w5 ⟨rfl, s5⟩
  go_wp2_with fail
  go_ret2
  exact ⟨rfl, t3.trans s5⟩

set_option maxRecDepth 100000 in
set_option maxHeartbeats 3200000 in
theorem two_133 (w : World) (a b : Nat) (hla : a < 18446744073709551616) (hlb : b < 18446744073709551616) :
    Calls Try.prog 39 #[.int .i64 133, .int .u64 a, .int .u64 b] w (QRet w (twoF 133 a b)) := by
  obtain ⟨n, hn⟩ : ∃ n, n = b % 64 := ⟨_, rfl⟩
  have HN := Lib.hid hn
  have hnl : n < 64 := by omega
  have hnc : (b : Int) % 64 = (n : Int) := by omega
  have hb2 : b < 2 ^ 64 := hlb
  have ha2 : a < 2 ^ 64 := hla
  clear hn
  have HLA := Lib.hid ha2
  have HLB := Lib.hid hb2
  clear ha2 hb2
  go_enter Try.func39, Try.ntmps39
  go_wp2_with fail
  refine (compare_no w 133 a b hla hlb (by omega) (by omega) (by omega)).mono ?_
  rintro e w1 ⟨rfl, s1⟩
  go_wp2_with fail
  refine (bits_any _ a hla).mono ?_
  rintro e w2 ⟨A2, c2, rfl, h2, s2⟩
  go_wp2_with fail
  refine (bits_any _ b hlb).mono ?_
  rintro e w3 ⟨A3, c3, rfl, h3, s3⟩
  have ha := own_below h2 s3
  obtain ⟨ga, rfl, _, gal, hca, _⟩ := row_at ha
  obtain ⟨gb, rfl, _, gbl, _, _⟩ := row_at h3
  have ca := hca 63 (by omega)
  have t3 := (s1.trans s2).trans s3
  clear hca s1 s2 s3 h2
  go_wp2_with fail
  refine (number_n _ _ _ c3 b (Reads.of_own h3) hlb).mono ?_
  rintro e w4 ⟨rfl, rfl⟩
  go_wp2_with fail
  refine (bit_2 _ _ _ _ _ _ _ a b (a ^^^ b) (Reads.of_own ha) (Reads.of_own h3) (by simpa using (Nat.xor_lt_two_pow HLA.out HLB.out : a ^^^ b < 2 ^ 64)) (fun k _ => by rw [Nat.testBit_xor])).mono ?_
  rintro e w5 ⟨rfl, s5⟩
  go_wp2_with fail
  go_ret2
  exact ⟨rfl, t3.trans s5⟩

set_option maxRecDepth 100000 in
set_option maxHeartbeats 3200000 in
theorem two_134 (w : World) (a b : Nat) (hla : a < 18446744073709551616) (hlb : b < 18446744073709551616) :
    Calls Try.prog 39 #[.int .i64 134, .int .u64 a, .int .u64 b] w (QRet w (twoF 134 a b)) := by
  obtain ⟨n, hn⟩ : ∃ n, n = b % 64 := ⟨_, rfl⟩
  have HN := Lib.hid hn
  have hnl : n < 64 := by omega
  have hnc : (b : Int) % 64 = (n : Int) := by omega
  have hb2 : b < 2 ^ 64 := hlb
  have ha2 : a < 2 ^ 64 := hla
  clear hn
  have HLA := Lib.hid ha2
  have HLB := Lib.hid hb2
  clear ha2 hb2
  go_enter Try.func39, Try.ntmps39
  go_wp2_with fail
  refine (compare_no w 134 a b hla hlb (by omega) (by omega) (by omega)).mono ?_
  rintro e w1 ⟨rfl, s1⟩
  go_wp2_with fail
  refine (bits_any _ a hla).mono ?_
  rintro e w2 ⟨A2, c2, rfl, h2, s2⟩
  go_wp2_with fail
  refine (bits_any _ b hlb).mono ?_
  rintro e w3 ⟨A3, c3, rfl, h3, s3⟩
  have ha := own_below h2 s3
  obtain ⟨ga, rfl, _, gal, hca, _⟩ := row_at ha
  obtain ⟨gb, rfl, _, gbl, _, _⟩ := row_at h3
  have ca := hca 63 (by omega)
  have t3 := (s1.trans s2).trans s3
  clear hca s1 s2 s3 h2
  go_wp2_with fail
  refine (number_n _ _ _ c3 b (Reads.of_own h3) hlb).mono ?_
  rintro e w4 ⟨rfl, rfl⟩
  go_wp2_with fail
  refine (shift_any _ _ _ _ a (a * 2 ^ n) (n : Int) false (Reads.of_own ha) (by omega) (by omega) (shift_up_bits a n)).mono ?_
  rintro e w5 ⟨A5, c5, rfl, h5, s5⟩
  go_wp2_with fail
  refine (number_m _ _ _ c5 _ (Reads.of_own h5)).mono ?_
  rintro e w6 ⟨rfl, rfl⟩
  go_wp2_with fail
  go_ret2
  exact ⟨by first | (rw [HN.out]; done) | (rw [HN.out]; rfl), t3.trans s5⟩

set_option maxRecDepth 100000 in
set_option maxHeartbeats 3200000 in
theorem two_135 (w : World) (a b : Nat) (hla : a < 18446744073709551616) (hlb : b < 18446744073709551616) :
    Calls Try.prog 39 #[.int .i64 135, .int .u64 a, .int .u64 b] w (QRet w (twoF 135 a b)) := by
  obtain ⟨n, hn⟩ : ∃ n, n = b % 64 := ⟨_, rfl⟩
  have HN := Lib.hid hn
  have hnl : n < 64 := by omega
  have hnc : (b : Int) % 64 = (n : Int) := by omega
  have hb2 : b < 2 ^ 64 := hlb
  have ha2 : a < 2 ^ 64 := hla
  clear hn
  have HLA := Lib.hid ha2
  have HLB := Lib.hid hb2
  clear ha2 hb2
  go_enter Try.func39, Try.ntmps39
  go_wp2_with fail
  refine (compare_no w 135 a b hla hlb (by omega) (by omega) (by omega)).mono ?_
  rintro e w1 ⟨rfl, s1⟩
  go_wp2_with fail
  refine (bits_any _ a hla).mono ?_
  rintro e w2 ⟨A2, c2, rfl, h2, s2⟩
  go_wp2_with fail
  refine (bits_any _ b hlb).mono ?_
  rintro e w3 ⟨A3, c3, rfl, h3, s3⟩
  have ha := own_below h2 s3
  obtain ⟨ga, rfl, _, gal, hca, _⟩ := row_at ha
  obtain ⟨gb, rfl, _, gbl, _, _⟩ := row_at h3
  have ca := hca 63 (by omega)
  have t3 := (s1.trans s2).trans s3
  clear hca s1 s2 s3 h2
  go_wp2_with fail
  refine (number_n _ _ _ c3 b (Reads.of_own h3) hlb).mono ?_
  rintro e w4 ⟨rfl, rfl⟩
  go_wp2_with fail
  refine (shift_any _ _ _ _ a (sarN a n) (-(n : Int)) (a.testBit 63) (Reads.of_own ha) (by omega) (by omega) (sar_bits HLA.out hnl)).mono ?_
  rintro e w5 ⟨A5, c5, rfl, h5, s5⟩
  go_wp2_with fail
  refine (number_n _ _ _ c5 _ (Reads.of_own h5) (by exact sarN_lt HLA.out hnl)).mono ?_
  rintro e w6 ⟨rfl, rfl⟩
  go_wp2_with fail
  go_ret2
  exact ⟨by rw [HN.out]; rfl, t3.trans s5⟩

set_option maxRecDepth 100000 in
set_option maxHeartbeats 3200000 in
theorem two_136 (w : World) (a b : Nat) (hla : a < 18446744073709551616) (hlb : b < 18446744073709551616) :
    Calls Try.prog 39 #[.int .i64 136, .int .u64 a, .int .u64 b] w (QRet w (twoF 136 a b)) := by
  obtain ⟨n, hn⟩ : ∃ n, n = b % 64 := ⟨_, rfl⟩
  have HN := Lib.hid hn
  have hnl : n < 64 := by omega
  have hnc : (b : Int) % 64 = (n : Int) := by omega
  have hb2 : b < 2 ^ 64 := hlb
  have ha2 : a < 2 ^ 64 := hla
  clear hn
  have HLA := Lib.hid ha2
  have HLB := Lib.hid hb2
  clear ha2 hb2
  go_enter Try.func39, Try.ntmps39
  go_wp2_with fail
  refine (compare_no w 136 a b hla hlb (by omega) (by omega) (by omega)).mono ?_
  rintro e w1 ⟨rfl, s1⟩
  go_wp2_with fail
  refine (bits_any _ a hla).mono ?_
  rintro e w2 ⟨A2, c2, rfl, h2, s2⟩
  go_wp2_with fail
  refine (bits_any _ b hlb).mono ?_
  rintro e w3 ⟨A3, c3, rfl, h3, s3⟩
  have ha := own_below h2 s3
  obtain ⟨ga, rfl, _, gal, hca, _⟩ := row_at ha
  obtain ⟨gb, rfl, _, gbl, _, _⟩ := row_at h3
  have ca := hca 63 (by omega)
  have t3 := (s1.trans s2).trans s3
  clear hca s1 s2 s3 h2
  go_wp2_with fail
  refine (number_n _ _ _ c3 b (Reads.of_own h3) hlb).mono ?_
  rintro e w4 ⟨rfl, rfl⟩
  go_wp2_with fail
  refine (shift_any _ _ _ _ a (a / 2 ^ n) (-(n : Int)) false (Reads.of_own ha) (by omega) (by omega) (shr_bits HLA.out hnl)).mono ?_
  rintro e w5 ⟨A5, c5, rfl, h5, s5⟩
  go_wp2_with fail
  refine (number_n _ _ _ c5 _ (Reads.of_own h5) (by exact Nat.lt_of_le_of_lt (Nat.div_le_self _ _) HLA.out)).mono ?_
  rintro e w6 ⟨rfl, rfl⟩
  go_wp2_with fail
  go_ret2
  exact ⟨by rw [HN.out]; rfl, t3.trans s5⟩

set_option maxRecDepth 100000 in
set_option maxHeartbeats 3200000 in
theorem two_137 (w : World) (a b : Nat) (hla : a < 18446744073709551616) (hlb : b < 18446744073709551616) :
    Calls Try.prog 39 #[.int .i64 137, .int .u64 a, .int .u64 b] w (QRet w (twoF 137 a b)) := by
  obtain ⟨n, hn⟩ : ∃ n, n = b % 64 := ⟨_, rfl⟩
  have HN := Lib.hid hn
  have hnl : n < 64 := by omega
  have hnc : (b : Int) % 64 = (n : Int) := by omega
  have hb2 : b < 2 ^ 64 := hlb
  have ha2 : a < 2 ^ 64 := hla
  clear hn
  have HLA := Lib.hid ha2
  have HLB := Lib.hid hb2
  clear ha2 hb2
  go_enter Try.func39, Try.ntmps39
  go_wp2_with fail
  refine (compare_no w 137 a b hla hlb (by omega) (by omega) (by omega)).mono ?_
  rintro e w1 ⟨rfl, s1⟩
  go_wp2_with fail
  refine (bits_any _ a hla).mono ?_
  rintro e w2 ⟨A2, c2, rfl, h2, s2⟩
  go_wp2_with fail
  refine (bits_any _ b hlb).mono ?_
  rintro e w3 ⟨A3, c3, rfl, h3, s3⟩
  have ha := own_below h2 s3
  obtain ⟨ga, rfl, _, gal, hca, _⟩ := row_at ha
  obtain ⟨gb, rfl, _, gbl, _, _⟩ := row_at h3
  have ca := hca 63 (by omega)
  have t3 := (s1.trans s2).trans s3
  clear hca s1 s2 s3 h2
  go_wp2_with fail
  refine (number_n _ _ _ c3 b (Reads.of_own h3) hlb).mono ?_
  rintro e w4 ⟨rfl, rfl⟩
  go_wp2_with fail
  refine (rotate_any _ _ _ _ a (rotlN a n) (n : Int) (Reads.of_own ha) (by omega) (by omega) (rotl_bits HLA.out hnl)).mono ?_
  rintro e w5 ⟨A5, c5, rfl, h5, s5⟩
  go_wp2_with fail
  refine (number_n _ _ _ c5 _ (Reads.of_own h5) (by exact rotlN_lt HLA.out hnl)).mono ?_
  rintro e w6 ⟨rfl, rfl⟩
  go_wp2_with fail
  go_ret2
  exact ⟨by rw [HN.out]; rfl, t3.trans s5⟩

set_option maxRecDepth 100000 in
set_option maxHeartbeats 3200000 in
theorem two_138 (w : World) (a b : Nat) (hla : a < 18446744073709551616) (hlb : b < 18446744073709551616) :
    Calls Try.prog 39 #[.int .i64 138, .int .u64 a, .int .u64 b] w (QRet w (twoF 138 a b)) := by
  obtain ⟨n, hn⟩ : ∃ n, n = b % 64 := ⟨_, rfl⟩
  have HN := Lib.hid hn
  have hnl : n < 64 := by omega
  have hnc : (b : Int) % 64 = (n : Int) := by omega
  have hb2 : b < 2 ^ 64 := hlb
  have ha2 : a < 2 ^ 64 := hla
  clear hn
  have HLA := Lib.hid ha2
  have HLB := Lib.hid hb2
  clear ha2 hb2
  go_enter Try.func39, Try.ntmps39
  go_wp2_with fail
  refine (compare_no w 138 a b hla hlb (by omega) (by omega) (by omega)).mono ?_
  rintro e w1 ⟨rfl, s1⟩
  go_wp2_with fail
  refine (bits_any _ a hla).mono ?_
  rintro e w2 ⟨A2, c2, rfl, h2, s2⟩
  go_wp2_with fail
  refine (bits_any _ b hlb).mono ?_
  rintro e w3 ⟨A3, c3, rfl, h3, s3⟩
  have ha := own_below h2 s3
  obtain ⟨ga, rfl, _, gal, hca, _⟩ := row_at ha
  obtain ⟨gb, rfl, _, gbl, _, _⟩ := row_at h3
  have ca := hca 63 (by omega)
  have t3 := (s1.trans s2).trans s3
  clear hca s1 s2 s3 h2
  go_wp2_with fail
  refine (number_n _ _ _ c3 b (Reads.of_own h3) hlb).mono ?_
  rintro e w4 ⟨rfl, rfl⟩
  go_wp2_with fail
  refine (rotate_any _ _ _ _ a (rotrN a n) (-(n : Int)) (Reads.of_own ha) (by omega) (by omega) (rotr_bits HLA.out hnl)).mono ?_
  rintro e w5 ⟨A5, c5, rfl, h5, s5⟩
  go_wp2_with fail
  refine (number_n _ _ _ c5 _ (Reads.of_own h5) (by exact rotrN_lt HLA.out hnl)).mono ?_
  rintro e w6 ⟨rfl, rfl⟩
  go_wp2_with fail
  go_ret2
  exact ⟨by rw [HN.out]; rfl, t3.trans s5⟩

set_option maxRecDepth 100000 in
set_option maxHeartbeats 3200000 in
theorem two_no (w : World) (op a b : Nat) (hla : a < 18446744073709551616) (hlb : b < 18446744073709551616) (h0 : op < 256) (hop : op < 81 ∨ 90 < op) (hk : op < 124 ∨ 138 < op) :
    Calls Try.prog 39 #[.int .i64 op, .int .u64 a, .int .u64 b] w (QRet w (0, 9)) := by
  rcases hk with hk | hk
  all_goals
    go_enter Try.func39, Try.ntmps39
    go_wp2_with fail
    refine (compare_no w op a b hla hlb (by omega) (by omega) (by omega)).mono ?_
    rintro e w1 ⟨rfl, s1⟩
    go_wp2_with fail
    refine (bits_any _ a hla).mono ?_
    rintro e w2 ⟨A2, c2, rfl, h2, s2⟩
    go_wp2_with fail
    refine (bits_any _ b hlb).mono ?_
    rintro e w3 ⟨A3, c3, rfl, h3, s3⟩
    go_wp2_with fail
    refine (number_n _ _ _ c3 b (Reads.of_own h3) hlb).mono ?_
    rintro e w4 ⟨rfl, rfl⟩
    go_wp2_with fail
    go_ret2
    exact ⟨rfl, (s1.trans s2).trans s3⟩

end Go.Proofs.Ytfechgpdlabgaaa
