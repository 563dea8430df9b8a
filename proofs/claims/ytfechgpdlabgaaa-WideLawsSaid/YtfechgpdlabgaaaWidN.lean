/-
  wide: the operators of two numbers.
-/
import Derived.Test.YtfechgpdlabgaaaWidR
set_option linter.unusedVariables false
set_option linter.unusedSimpArgs false
namespace Go.Proofs.Ytfechgpdlabgaaa
open Go.RowKit Wide
theorem truthW (w : World) (b : Bool) : Calls Try.prog 104 #[.bool b] w fun e w' => e = .returned (.int .u64 (b.toNat : Int)) ∧ w = w' := by
  cases b
  all_goals
    go_enter Try.func104, Try.ntmps104
    go_wp2
    go_ret
    exact ⟨rfl, rfl⟩
def CW (w : World) (r is : Bool) (e : Ending) (w' : World) : Prop := e = .returned (.tuple #[.int .u64 (r.toNat : Int), .bool is]) ∧ w = w'
theorem below_law {a b : Nat} (ha : a < 2 ^ 64) (hb : b < 2 ^ 64) : (if (a.testBit 63 != b.testBit 63) = true then a.testBit 63 else decide (a < b)) = decide (flip63 a < flip63 b) := (flip_lt ha hb).symm
theorem same_law {a b : Nat} (ha : a < 2 ^ 64) (hb : b < 2 ^ 64) : ((a : Int) == (b : Int)) = decide (flip63 a = flip63 b) := by
  rw [Bool.eq_iff_iff]; simp [flip_eq ha hb]; omega

theorem cmp_law0 {a b : Nat} (ha : a < 2 ^ 64) (hb : b < 2 ^ 64) : ((a : Int) == (b : Int)) = cmpF 0 ((a : Int) == (b : Int)) (decide (a < b)) (a.testBit 63) (b.testBit 63) := by
  rfl
theorem cmp_law1 {a b : Nat} (ha : a < 2 ^ 64) (hb : b < 2 ^ 64) : ((a : Int) != (b : Int)) = cmpF 1 ((a : Int) == (b : Int)) (decide (a < b)) (a.testBit 63) (b.testBit 63) := by
  rfl
theorem cmp_law2 {a b : Nat} (ha : a < 2 ^ 64) (hb : b < 2 ^ 64) : decide (flip63 a < flip63 b) = cmpF 2 ((a : Int) == (b : Int)) (decide (a < b)) (a.testBit 63) (b.testBit 63) := by
  unfold cmpF
  simp only [Nat.reduceMod, beq_self_eq_true, Bool.true_and]
  first
    | (rw [below_law ha hb]; done)
    | (rw [below_law ha hb]; try rw [same_law ha hb]
       generalize flip63 a = x
       generalize flip63 b = y
       rw [Bool.eq_iff_iff]; simp <;> omega)
theorem cmp_law3 {a b : Nat} (ha : a < 2 ^ 64) (hb : b < 2 ^ 64) : decide (a < b) = cmpF 3 ((a : Int) == (b : Int)) (decide (a < b)) (a.testBit 63) (b.testBit 63) := by
  rw [Bool.eq_iff_iff]; simp [cmpF] <;> omega
theorem cmp_law4 {a b : Nat} (ha : a < 2 ^ 64) (hb : b < 2 ^ 64) : decide (flip63 b < flip63 a) = cmpF 4 ((a : Int) == (b : Int)) (decide (a < b)) (a.testBit 63) (b.testBit 63) := by
  unfold cmpF
  simp only [Nat.reduceMod, beq_self_eq_true, Bool.true_and]
  first
    | (rw [below_law ha hb]; done)
    | (rw [below_law ha hb]; try rw [same_law ha hb]
       generalize flip63 a = x
       generalize flip63 b = y
       rw [Bool.eq_iff_iff]; simp <;> omega)
theorem cmp_law5 {a b : Nat} (ha : a < 2 ^ 64) (hb : b < 2 ^ 64) : decide (b < a) = cmpF 5 ((a : Int) == (b : Int)) (decide (a < b)) (a.testBit 63) (b.testBit 63) := by
  rw [Bool.eq_iff_iff]; simp [cmpF] <;> omega
theorem cmp_law6 {a b : Nat} (ha : a < 2 ^ 64) (hb : b < 2 ^ 64) : decide (flip63 a ≤ flip63 b) = cmpF 6 ((a : Int) == (b : Int)) (decide (a < b)) (a.testBit 63) (b.testBit 63) := by
  unfold cmpF
  simp only [Nat.reduceMod, beq_self_eq_true, Bool.true_and]
  first
    | (rw [below_law ha hb]; done)
    | (rw [below_law ha hb]; try rw [same_law ha hb]
       generalize flip63 a = x
       generalize flip63 b = y
       rw [Bool.eq_iff_iff]; simp <;> omega)
theorem cmp_law7 {a b : Nat} (ha : a < 2 ^ 64) (hb : b < 2 ^ 64) : decide (a ≤ b) = cmpF 7 ((a : Int) == (b : Int)) (decide (a < b)) (a.testBit 63) (b.testBit 63) := by
  rw [Bool.eq_iff_iff]; simp [cmpF] <;> omega
theorem cmp_law8 {a b : Nat} (ha : a < 2 ^ 64) (hb : b < 2 ^ 64) : decide (flip63 b ≤ flip63 a) = cmpF 8 ((a : Int) == (b : Int)) (decide (a < b)) (a.testBit 63) (b.testBit 63) := by
  unfold cmpF
  simp only [Nat.reduceMod, beq_self_eq_true, Bool.true_and]
  first
    | (rw [below_law ha hb]; done)
    | (rw [below_law ha hb]; try rw [same_law ha hb]
       generalize flip63 a = x
       generalize flip63 b = y
       rw [Bool.eq_iff_iff]; simp <;> omega)
theorem cmp_law9 {a b : Nat} (ha : a < 2 ^ 64) (hb : b < 2 ^ 64) : decide (b ≤ a) = cmpF 9 ((a : Int) == (b : Int)) (decide (a < b)) (a.testBit 63) (b.testBit 63) := by
  rw [Bool.eq_iff_iff]; simp [cmpF] <;> omega

set_option maxRecDepth 100000 in
set_option maxHeartbeats 1600000 in
theorem compareW_0 (w : World) (a b : Nat) (hla : a < 18446744073709551616) (hlb : b < 18446744073709551616) :
    Calls Try.prog 73 #[.int .u8 81, .int .u64 a, .int .u64 b] w (CW w (cmpF 0 ((a : Int) == (b : Int)) (decide (a < b)) (a.testBit 63) (b.testBit 63)) true) := by
  have HF := Lib.hid (cmp_law0 (a := a) (b := b) hla hlb)
  skip
  go_enter Try.func73, Try.ntmps73
  go_wp2_with fail
  refine (truthW _ _).mono ?_
  rintro e w1 ⟨rfl, rfl⟩
  go_wp2_with fail
  go_ret2
  rw [CW, ← HF.out]
  exact ⟨rfl, rfl⟩

set_option maxRecDepth 100000 in
set_option maxHeartbeats 1600000 in
theorem compareW_1 (w : World) (a b : Nat) (hla : a < 18446744073709551616) (hlb : b < 18446744073709551616) :
    Calls Try.prog 73 #[.int .u8 82, .int .u64 a, .int .u64 b] w (CW w (cmpF 1 ((a : Int) == (b : Int)) (decide (a < b)) (a.testBit 63) (b.testBit 63)) true) := by
  have HF := Lib.hid (cmp_law1 (a := a) (b := b) hla hlb)
  skip
  go_enter Try.func73, Try.ntmps73
  go_wp2_with fail
  refine (truthW _ _).mono ?_
  rintro e w1 ⟨rfl, rfl⟩
  go_wp2_with fail
  go_ret2
  rw [CW, ← HF.out]
  exact ⟨rfl, rfl⟩

set_option maxRecDepth 100000 in
set_option maxHeartbeats 1600000 in
theorem compareW_2 (w : World) (a b : Nat) (hla : a < 18446744073709551616) (hlb : b < 18446744073709551616) :
    Calls Try.prog 73 #[.int .u8 83, .int .u64 a, .int .u64 b] w (CW w (cmpF 2 ((a : Int) == (b : Int)) (decide (a < b)) (a.testBit 63) (b.testBit 63)) true) := by
  have HF := Lib.hid (cmp_law2 (a := a) (b := b) hla hlb)
  have hfa := flip_law (a := a) hla
  have hfb := flip_law (a := b) hlb
  go_enter Try.func73, Try.ntmps73
  go_wp2_with fail
  refine (truthW _ _).mono ?_
  rintro e w1 ⟨rfl, rfl⟩
  go_wp2_with fail
  go_ret2
  rw [CW, ← HF.out]
  exact ⟨rfl, rfl⟩

set_option maxRecDepth 100000 in
set_option maxHeartbeats 1600000 in
theorem compareW_3 (w : World) (a b : Nat) (hla : a < 18446744073709551616) (hlb : b < 18446744073709551616) :
    Calls Try.prog 73 #[.int .u8 84, .int .u64 a, .int .u64 b] w (CW w (cmpF 3 ((a : Int) == (b : Int)) (decide (a < b)) (a.testBit 63) (b.testBit 63)) true) := by
  have HF := Lib.hid (cmp_law3 (a := a) (b := b) hla hlb)
  skip
  go_enter Try.func73, Try.ntmps73
  go_wp2_with fail
  refine (truthW _ _).mono ?_
  rintro e w1 ⟨rfl, rfl⟩
  go_wp2_with fail
  go_ret2
  rw [CW, ← HF.out]
  exact ⟨rfl, rfl⟩

set_option maxRecDepth 100000 in
set_option maxHeartbeats 1600000 in
theorem compareW_4 (w : World) (a b : Nat) (hla : a < 18446744073709551616) (hlb : b < 18446744073709551616) :
    Calls Try.prog 73 #[.int .u8 85, .int .u64 a, .int .u64 b] w (CW w (cmpF 4 ((a : Int) == (b : Int)) (decide (a < b)) (a.testBit 63) (b.testBit 63)) true) := by
  have HF := Lib.hid (cmp_law4 (a := a) (b := b) hla hlb)
  have hfa := flip_law (a := a) hla
  have hfb := flip_law (a := b) hlb
  go_enter Try.func73, Try.ntmps73
  go_wp2_with fail
  refine (truthW _ _).mono ?_
  rintro e w1 ⟨rfl, rfl⟩
  go_wp2_with fail
  go_ret2
  rw [CW, ← HF.out]
  exact ⟨rfl, rfl⟩

set_option maxRecDepth 100000 in
set_option maxHeartbeats 1600000 in
theorem compareW_5 (w : World) (a b : Nat) (hla : a < 18446744073709551616) (hlb : b < 18446744073709551616) :
    Calls Try.prog 73 #[.int .u8 86, .int .u64 a, .int .u64 b] w (CW w (cmpF 5 ((a : Int) == (b : Int)) (decide (a < b)) (a.testBit 63) (b.testBit 63)) true) := by
  have HF := Lib.hid (cmp_law5 (a := a) (b := b) hla hlb)
  skip
  go_enter Try.func73, Try.ntmps73
  go_wp2_with fail
  refine (truthW _ _).mono ?_
  rintro e w1 ⟨rfl, rfl⟩
  go_wp2_with fail
  go_ret2
  rw [CW, ← HF.out]
  exact ⟨rfl, rfl⟩

set_option maxRecDepth 100000 in
set_option maxHeartbeats 1600000 in
theorem compareW_6 (w : World) (a b : Nat) (hla : a < 18446744073709551616) (hlb : b < 18446744073709551616) :
    Calls Try.prog 73 #[.int .u8 87, .int .u64 a, .int .u64 b] w (CW w (cmpF 6 ((a : Int) == (b : Int)) (decide (a < b)) (a.testBit 63) (b.testBit 63)) true) := by
  have HF := Lib.hid (cmp_law6 (a := a) (b := b) hla hlb)
  have hfa := flip_law (a := a) hla
  have hfb := flip_law (a := b) hlb
  go_enter Try.func73, Try.ntmps73
  go_wp2_with fail
  refine (truthW _ _).mono ?_
  rintro e w1 ⟨rfl, rfl⟩
  go_wp2_with fail
  go_ret2
  rw [CW, ← HF.out]
  exact ⟨rfl, rfl⟩

set_option maxRecDepth 100000 in
set_option maxHeartbeats 1600000 in
theorem compareW_7 (w : World) (a b : Nat) (hla : a < 18446744073709551616) (hlb : b < 18446744073709551616) :
    Calls Try.prog 73 #[.int .u8 88, .int .u64 a, .int .u64 b] w (CW w (cmpF 7 ((a : Int) == (b : Int)) (decide (a < b)) (a.testBit 63) (b.testBit 63)) true) := by
  have HF := Lib.hid (cmp_law7 (a := a) (b := b) hla hlb)
  skip
  go_enter Try.func73, Try.ntmps73
  go_wp2_with fail
  refine (truthW _ _).mono ?_
  rintro e w1 ⟨rfl, rfl⟩
  go_wp2_with fail
  go_ret2
  rw [CW, ← HF.out]
  exact ⟨rfl, rfl⟩

set_option maxRecDepth 100000 in
set_option maxHeartbeats 1600000 in
theorem compareW_8 (w : World) (a b : Nat) (hla : a < 18446744073709551616) (hlb : b < 18446744073709551616) :
    Calls Try.prog 73 #[.int .u8 89, .int .u64 a, .int .u64 b] w (CW w (cmpF 8 ((a : Int) == (b : Int)) (decide (a < b)) (a.testBit 63) (b.testBit 63)) true) := by
  have HF := Lib.hid (cmp_law8 (a := a) (b := b) hla hlb)
  have hfa := flip_law (a := a) hla
  have hfb := flip_law (a := b) hlb
  go_enter Try.func73, Try.ntmps73
  go_wp2_with fail
  refine (truthW _ _).mono ?_
  rintro e w1 ⟨rfl, rfl⟩
  go_wp2_with fail
  go_ret2
  rw [CW, ← HF.out]
  exact ⟨rfl, rfl⟩

set_option maxRecDepth 100000 in
set_option maxHeartbeats 1600000 in
theorem compareW_9 (w : World) (a b : Nat) (hla : a < 18446744073709551616) (hlb : b < 18446744073709551616) :
    Calls Try.prog 73 #[.int .u8 90, .int .u64 a, .int .u64 b] w (CW w (cmpF 9 ((a : Int) == (b : Int)) (decide (a < b)) (a.testBit 63) (b.testBit 63)) true) := by
  have HF := Lib.hid (cmp_law9 (a := a) (b := b) hla hlb)
  skip
  go_enter Try.func73, Try.ntmps73
  go_wp2_with fail
  refine (truthW _ _).mono ?_
  rintro e w1 ⟨rfl, rfl⟩
  go_wp2_with fail
  go_ret2
  rw [CW, ← HF.out]
  exact ⟨rfl, rfl⟩

set_option maxRecDepth 100000 in
set_option maxHeartbeats 1600000 in
theorem compareW_no (w : World) (op : Int) (a b : Nat) (hla : a < 18446744073709551616) (hlb : b < 18446744073709551616) (h0 : 0 ≤ op) (h9 : op ≤ 255) (hop : op < 81 ∨ 90 < op) :
    Calls Try.prog 73 #[.int .u8 op, .int .u64 a, .int .u64 b] w (CW w false false) := by
  have e1 : (op == 83) = false := beq_eq_false_iff_ne.2 (by omega)
  have e2 : (op == 85) = false := beq_eq_false_iff_ne.2 (by omega)
  have e3 : (op == 87) = false := beq_eq_false_iff_ne.2 (by omega)
  have e4 : (op == 89) = false := beq_eq_false_iff_ne.2 (by omega)
  have e5 : (op == 81) = false := beq_eq_false_iff_ne.2 (by omega)
  have e6 : (op == 82) = false := beq_eq_false_iff_ne.2 (by omega)
  have e7 : (op == 84) = false := beq_eq_false_iff_ne.2 (by omega)
  have e8 : (op == 86) = false := beq_eq_false_iff_ne.2 (by omega)
  have e9 : (op == 88) = false := beq_eq_false_iff_ne.2 (by omega)
  have e10 : (op == 90) = false := beq_eq_false_iff_ne.2 (by omega)
  go_enter Try.func73, Try.ntmps73
  go_wp2_with fail
  go_ret2
  exact ⟨rfl, rfl⟩

theorem rot_ix {n : Nat} (hn : n < 64) : bits BinOp.and IntKind.u64 (IntKind.u64.wrap (-(n : Int))) 63 = (((64 - n) % 64 : Nat) : Int) := by
  rw [wrapu]
  obtain ⟨m, hm, hl⟩ : ∃ m : Nat, (-(n : Int)) % 18446744073709551616 = (m : Int) ∧ m < 2 ^ 64 := ⟨((-(n : Int)) % 18446744073709551616).toNat, by omega, by omega⟩
  rw [hm, and63 hl]
  omega
theorem rot_ix0 {n : Nat} (hn : n < 64) (h : (0 : Int) ≤ -(n : Int)) : bits BinOp.and IntKind.u64 (-(n : Int)) 63 = (((64 - n) % 64 : Nat) : Int) := by
  obtain rfl : n = 0 := by omega
  rw [show (-((0 : Nat) : Int)) = ((0 : Nat) : Int) by simp, and63 (by decide)]
def QW (w : World) (r : Nat × Int) (e : Ending) (w' : World) : Prop := e = .returned (.tuple #[.int .u64 (r.1 : Int), .int .i64 r.2]) ∧ w = w'
theorem qw_of {w : World} {r : Nat × Int} {x y : Int} (h1 : x = (r.1 : Int)) (h2 : y = r.2) : QW w r (.returned (.tuple #[.int .u64 x, .int .i64 y])) w := by subst h1; subst h2; exact ⟨rfl, rfl⟩
theorem wrap64_bd (n : Int) : -9223372036854775808 ≤ wrap64 n ∧ wrap64 n ≤ 9223372036854775807 := by unfold wrap64; omega
theorem wrap64_ne {b : Nat} (hb : b < 2 ^ 64) (h0 : 0 < b) : wrap64 (b : Int) ≠ 0 := by unfold wrap64; omega

set_option maxRecDepth 100000 in
set_option maxHeartbeats 1600000 in
theorem signedW_over (w : World) : Calls Try.prog 105 #[.bool false, .int .u64 9223372036854775808, .int .u64 18446744073709551615] w (QW w (0, 62)) := by
  have hm : wrap64 18446744073709551615 = -1 := by unfold wrap64; omega
  go_enter Try.func105, Try.ntmps105
  go_wp2_with fail
  go_ret2
  exact ⟨rfl, rfl⟩
set_option maxRecDepth 100000 in
set_option maxHeartbeats 1600000 in
theorem signedW_one (w : World) (a : Nat) (hla : a < 18446744073709551616) : Calls Try.prog 105 #[.bool true, .int .u64 a, .int .u64 18446744073709551615] w (QW w (0, 0)) := by
  have hm : wrap64 18446744073709551615 = -1 := by unfold wrap64; omega
  go_enter Try.func105, Try.ntmps105
  go_wp2_with fail
  go_ret2
  exact ⟨rfl, rfl⟩
set_option maxRecDepth 100000 in
set_option maxHeartbeats 1600000 in
theorem signedW_div (w : World) (a b : Nat) (hla : a < 18446744073709551616) (hlb : b < 18446744073709551616) (h0 : 0 < b) (hne : ¬ (b = 2 ^ 64 - 1 ∧ a = 2 ^ 63)) :
    Calls Try.prog 105 #[.bool false, .int .u64 a, .int .u64 b] w (QW w (sgnQ a b, 0)) := by
  have HQ := Lib.hid (quo_law (a := a) (b := b) hla hlb)
  have HW := Lib.hid (wrap_wrap ((wrap64 (a : Int)).tdiv (wrap64 (b : Int))))
  have y0 := wrap64_ne hlb h0
  have hm := minus_one (b := b) hlb
  obtain ⟨x1, x2⟩ := wrap64_bd (a : Int)
  obtain ⟨y1, y2⟩ := wrap64_bd (b : Int)
  obtain ⟨x, hx⟩ : ∃ x, wrap64 (a : Int) = x := ⟨_, rfl⟩
  obtain ⟨y, hy⟩ : ∃ y, wrap64 (b : Int) = y := ⟨_, rfl⟩
  rw [hx] at x1 x2 HQ HW
  rw [hy] at y1 y2 y0 hm HQ HW
  by_cases hb : b = 2 ^ 64 - 1
  · have e1 : ((a : Int) == 9223372036854775808) = false := by simp; omega
    rw [decide_eq_true hb] at hm
    clear hb hne h0
    go_enter Try.func105, Try.ntmps105
    go_wp2_with fail
    go_ret2
    refine qw_of ?_ rfl
    rw [← HQ.out]
    first | exact HW.out | rfl
  · rw [decide_eq_false hb] at hm
    clear hb hne h0
    go_enter Try.func105, Try.ntmps105
    go_wp2_with fail
    go_ret2
    refine qw_of ?_ rfl
    rw [← HQ.out]
    first | exact HW.out | rfl
set_option maxRecDepth 100000 in
set_option maxHeartbeats 1600000 in
theorem signedW_mod (w : World) (a b : Nat) (hla : a < 18446744073709551616) (hlb : b < 18446744073709551616) (h0 : 0 < b) (hne : b ≠ 2 ^ 64 - 1) :
    Calls Try.prog 105 #[.bool true, .int .u64 a, .int .u64 b] w (QW w (sgnR a b, 0)) := by
  have HQ := Lib.hid (rem_law (a := a) (b := b) hla hlb h0)
  have y0 := wrap64_ne hlb h0
  have hm := minus_one (b := b) hlb
  rw [decide_eq_false hne] at hm
  obtain ⟨x1, x2⟩ := wrap64_bd (a : Int)
  obtain ⟨y1, y2⟩ := wrap64_bd (b : Int)
  obtain ⟨x, hx⟩ : ∃ x, wrap64 (a : Int) = x := ⟨_, rfl⟩
  obtain ⟨y, hy⟩ : ∃ y, wrap64 (b : Int) = y := ⟨_, rfl⟩
  rw [hx] at x1 x2 HQ
  rw [hy] at y1 y2 y0 hm HQ
  clear h0 hne
  go_enter Try.func105, Try.ntmps105
  go_wp2_with fail
  go_ret2
  refine qw_of ?_ rfl
  exact HQ.out
theorem signedW_quo (w : World) (a b : Nat) (hla : a < 18446744073709551616) (hlb : b < 18446744073709551616) (h0 : 0 < b) :
    Calls Try.prog 105 #[.bool false, .int .u64 a, .int .u64 b] w (QW w (quotF 0 a b)) := by
  rw [quot0 hla hlb h0]
  by_cases h : b = 2 ^ 64 - 1 ∧ a = 2 ^ 63
  · rw [if_pos h]
    obtain ⟨rfl, rfl⟩ := h
    exact signedW_over w
  · rw [if_neg h]
    exact signedW_div w a b hla hlb h0 h
theorem signedW_rem (w : World) (a b : Nat) (hla : a < 18446744073709551616) (hlb : b < 18446744073709551616) (h0 : 0 < b) :
    Calls Try.prog 105 #[.bool true, .int .u64 a, .int .u64 b] w (QW w (quotF 2 a b)) := by
  by_cases h : b = 2 ^ 64 - 1
  · subst h
    rw [quot2_one hla]
    exact signedW_one w a hla
  · have e : quotF 2 a b = (sgnR a b, 0) := by unfold quotF; rw [if_neg (by omega)]; simp
    rw [e]
    exact signedW_mod w a b hla hlb h0 h

set_option maxRecDepth 100000 in
set_option maxHeartbeats 1600000 in
theorem divideW_0 (w : World) (a b : Nat) (hla : a < 18446744073709551616) (hlb : b < 18446744073709551616) :
    Calls Try.prog 74 #[.int .u8 127, .int .u64 a, .int .u64 b] w (QW w (quotF 0 a b)) := by
  rcases Nat.eq_zero_or_pos b with h0 | h0
  · subst h0
    go_enter Try.func74, Try.ntmps74
    go_wp2_with fail
    go_ret2
    exact ⟨rfl, rfl⟩
  · have h1 : ((b : Int) == 0) = false := by simp; omega
    have H0 := Lib.hid h0
    have hb1 : (1 : Int) ≤ (b : Int) := by omega
    go_enter Try.func74, Try.ntmps74
    go_wp2_with fail
    refine (signedW_quo _ a b hla hlb h0).mono ?_
    rintro e w1 ⟨rfl, rfl⟩
    go_wp2_with fail
    go_ret2
    exact ⟨rfl, rfl⟩

set_option maxRecDepth 100000 in
set_option maxHeartbeats 1600000 in
theorem divideW_1 (w : World) (a b : Nat) (hla : a < 18446744073709551616) (hlb : b < 18446744073709551616) :
    Calls Try.prog 74 #[.int .u8 128, .int .u64 a, .int .u64 b] w (QW w (quotF 1 a b)) := by
  rcases Nat.eq_zero_or_pos b with h0 | h0
  · subst h0
    go_enter Try.func74, Try.ntmps74
    go_wp2_with fail
    go_ret2
    exact ⟨rfl, rfl⟩
  · have h1 : ((b : Int) == 0) = false := by simp; omega
    have H0 := Lib.hid h0
    have hb1 : (1 : Int) ≤ (b : Int) := by omega
    have e : Hid (quotF 1 a b = (a / b, 0)) := by unfold Hid quotF; rw [if_neg (by omega)]; simp
    go_enter Try.func74, Try.ntmps74
    go_wp2_with fail
    go_ret2
    rw [e.out]
    first
      | exact qw_of (by rw [show ((a : Int) / (b : Int)) = ((a / b : Nat) : Int) by simp]; exact wrap_pos (Nat.lt_of_le_of_lt (Nat.div_le_self _ _) hla)) rfl
      | exact qw_of (by simp) rfl

set_option maxRecDepth 100000 in
set_option maxHeartbeats 1600000 in
theorem divideW_2 (w : World) (a b : Nat) (hla : a < 18446744073709551616) (hlb : b < 18446744073709551616) :
    Calls Try.prog 74 #[.int .u8 129, .int .u64 a, .int .u64 b] w (QW w (quotF 2 a b)) := by
  rcases Nat.eq_zero_or_pos b with h0 | h0
  · subst h0
    go_enter Try.func74, Try.ntmps74
    go_wp2_with fail
    go_ret2
    exact ⟨rfl, rfl⟩
  · have h1 : ((b : Int) == 0) = false := by simp; omega
    have H0 := Lib.hid h0
    have hb1 : (1 : Int) ≤ (b : Int) := by omega
    go_enter Try.func74, Try.ntmps74
    go_wp2_with fail
    refine (signedW_rem _ a b hla hlb h0).mono ?_
    rintro e w1 ⟨rfl, rfl⟩
    go_wp2_with fail
    go_ret2
    exact ⟨rfl, rfl⟩

set_option maxRecDepth 100000 in
set_option maxHeartbeats 1600000 in
theorem divideW_3 (w : World) (a b : Nat) (hla : a < 18446744073709551616) (hlb : b < 18446744073709551616) :
    Calls Try.prog 74 #[.int .u8 130, .int .u64 a, .int .u64 b] w (QW w (quotF 3 a b)) := by
  rcases Nat.eq_zero_or_pos b with h0 | h0
  · subst h0
    go_enter Try.func74, Try.ntmps74
    go_wp2_with fail
    go_ret2
    exact ⟨rfl, rfl⟩
  · have h1 : ((b : Int) == 0) = false := by simp; omega
    have H0 := Lib.hid h0
    have hb1 : (1 : Int) ≤ (b : Int) := by omega
    have e : Hid (quotF 3 a b = (a % b, 0)) := by unfold Hid quotF; rw [if_neg (by omega)]; simp
    go_enter Try.func74, Try.ntmps74
    go_wp2_with fail
    go_ret2
    rw [e.out]
    first
      | exact qw_of (by rw [show ((a : Int) % (b : Int)) = ((a % b : Nat) : Int) by simp]; exact wrap_pos (Nat.lt_trans (Nat.mod_lt _ H0.out) hlb)) rfl
      | exact qw_of (by simp) rfl

set_option maxRecDepth 100000 in
set_option maxHeartbeats 1600000 in
theorem rotW (w : World) (a k : Nat) (s : Int) (hla : a < 18446744073709551616) (hk : k < 64) (h : bits BinOp.and IntKind.u64 (IntKind.u64.wrap s) 63 = (k : Int)) (h' : 0 ≤ s → bits BinOp.and IntKind.u64 s 63 = (k : Int)) :
    Calls Try.prog 75 #[.int .u64 a, .int .i64 s] w fun e w' => e = .returned (.int .u64 ((rotlN a k : Nat) : Int)) ∧ w = w' := by
  have HF := Lib.hid (rotl_law (a := a) (k := k) hla hk)
  have h64 : (0 : Int) ≤ 64 - (k : Int) := by omega
  rcases Int.lt_or_le s 0 with hs | hs
  · clear h'
    go_enter Try.func75, Try.ntmps75
    go_wp2_with fail
    go_ret
    exact ⟨ret_eq (by rw [← HF.out]; rfl), rfl⟩
  · have h2 := h' hs
    clear h'
    go_enter Try.func75, Try.ntmps75
    go_wp2_with fail
    go_ret
    exact ⟨ret_eq (by rw [← HF.out]; rfl), rfl⟩

set_option maxRecDepth 100000 in
set_option maxHeartbeats 1600000 in
theorem twoW_c0 (w : World) (a b : Nat) (hla : a < 18446744073709551616) (hlb : b < 18446744073709551616) :
    Calls Try.prog 38 #[.int .u8 81, .int .u64 a, .int .u64 b] w (QW w (twoF 81 a b)) := by
  have HF : Hid (twoF 81 a b = ((cmpF 0 ((a : Int) == (b : Int)) (decide (a < b)) (a.testBit 63) (b.testBit 63)).toNat, 0)) := by unfold Hid; rfl
  have HC := Lib.hid (compareW_0 w a b hla hlb)
  generalize cmpF 0 ((a : Int) == (b : Int)) (decide (a < b)) (a.testBit 63) (b.testBit 63) = r at *
  go_enter Try.func38, Try.ntmps38
  go_wp2_with fail
  refine HC.out.mono ?_
  rintro e w1 ⟨rfl, rfl⟩
  go_wp2_with fail
  go_ret2
  rw [HF.out]
  exact ⟨rfl, rfl⟩

set_option maxRecDepth 100000 in
set_option maxHeartbeats 1600000 in
theorem twoW_c1 (w : World) (a b : Nat) (hla : a < 18446744073709551616) (hlb : b < 18446744073709551616) :
    Calls Try.prog 38 #[.int .u8 82, .int .u64 a, .int .u64 b] w (QW w (twoF 82 a b)) := by
  have HF : Hid (twoF 82 a b = ((cmpF 1 ((a : Int) == (b : Int)) (decide (a < b)) (a.testBit 63) (b.testBit 63)).toNat, 0)) := by unfold Hid; rfl
  have HC := Lib.hid (compareW_1 w a b hla hlb)
  generalize cmpF 1 ((a : Int) == (b : Int)) (decide (a < b)) (a.testBit 63) (b.testBit 63) = r at *
  go_enter Try.func38, Try.ntmps38
  go_wp2_with fail
  refine HC.out.mono ?_
  rintro e w1 ⟨rfl, rfl⟩
  go_wp2_with fail
  go_ret2
  rw [HF.out]
  exact ⟨rfl, rfl⟩

set_option maxRecDepth 100000 in
set_option maxHeartbeats 1600000 in
theorem twoW_c2 (w : World) (a b : Nat) (hla : a < 18446744073709551616) (hlb : b < 18446744073709551616) :
    Calls Try.prog 38 #[.int .u8 83, .int .u64 a, .int .u64 b] w (QW w (twoF 83 a b)) := by
  have HF : Hid (twoF 83 a b = ((cmpF 2 ((a : Int) == (b : Int)) (decide (a < b)) (a.testBit 63) (b.testBit 63)).toNat, 0)) := by unfold Hid; rfl
  have HC := Lib.hid (compareW_2 w a b hla hlb)
  generalize cmpF 2 ((a : Int) == (b : Int)) (decide (a < b)) (a.testBit 63) (b.testBit 63) = r at *
  go_enter Try.func38, Try.ntmps38
  go_wp2_with fail
  refine HC.out.mono ?_
  rintro e w1 ⟨rfl, rfl⟩
  go_wp2_with fail
  go_ret2
  rw [HF.out]
  exact ⟨rfl, rfl⟩

set_option maxRecDepth 100000 in
set_option maxHeartbeats 1600000 in
theorem twoW_c3 (w : World) (a b : Nat) (hla : a < 18446744073709551616) (hlb : b < 18446744073709551616) :
    Calls Try.prog 38 #[.int .u8 84, .int .u64 a, .int .u64 b] w (QW w (twoF 84 a b)) := by
  have HF : Hid (twoF 84 a b = ((cmpF 3 ((a : Int) == (b : Int)) (decide (a < b)) (a.testBit 63) (b.testBit 63)).toNat, 0)) := by unfold Hid; rfl
  have HC := Lib.hid (compareW_3 w a b hla hlb)
  generalize cmpF 3 ((a : Int) == (b : Int)) (decide (a < b)) (a.testBit 63) (b.testBit 63) = r at *
  go_enter Try.func38, Try.ntmps38
  go_wp2_with fail
  refine HC.out.mono ?_
  rintro e w1 ⟨rfl, rfl⟩
  go_wp2_with fail
  go_ret2
  rw [HF.out]
  exact ⟨rfl, rfl⟩

set_option maxRecDepth 100000 in
set_option maxHeartbeats 1600000 in
theorem twoW_c4 (w : World) (a b : Nat) (hla : a < 18446744073709551616) (hlb : b < 18446744073709551616) :
    Calls Try.prog 38 #[.int .u8 85, .int .u64 a, .int .u64 b] w (QW w (twoF 85 a b)) := by
  have HF : Hid (twoF 85 a b = ((cmpF 4 ((a : Int) == (b : Int)) (decide (a < b)) (a.testBit 63) (b.testBit 63)).toNat, 0)) := by unfold Hid; rfl
  have HC := Lib.hid (compareW_4 w a b hla hlb)
  generalize cmpF 4 ((a : Int) == (b : Int)) (decide (a < b)) (a.testBit 63) (b.testBit 63) = r at *
  go_enter Try.func38, Try.ntmps38
  go_wp2_with fail
  refine HC.out.mono ?_
  rintro e w1 ⟨rfl, rfl⟩
  go_wp2_with fail
  go_ret2
  rw [HF.out]
  exact ⟨rfl, rfl⟩

set_option maxRecDepth 100000 in
set_option maxHeartbeats 1600000 in
theorem twoW_c5 (w : World) (a b : Nat) (hla : a < 18446744073709551616) (hlb : b < 18446744073709551616) :
    Calls Try.prog 38 #[.int .u8 86, .int .u64 a, .int .u64 b] w (QW w (twoF 86 a b)) := by
  have HF : Hid (twoF 86 a b = ((cmpF 5 ((a : Int) == (b : Int)) (decide (a < b)) (a.testBit 63) (b.testBit 63)).toNat, 0)) := by unfold Hid; rfl
  have HC := Lib.hid (compareW_5 w a b hla hlb)
  generalize cmpF 5 ((a : Int) == (b : Int)) (decide (a < b)) (a.testBit 63) (b.testBit 63) = r at *
  go_enter Try.func38, Try.ntmps38
  go_wp2_with fail
  refine HC.out.mono ?_
  rintro e w1 ⟨rfl, rfl⟩
  go_wp2_with fail
  go_ret2
  rw [HF.out]
  exact ⟨rfl, rfl⟩

set_option maxRecDepth 100000 in
set_option maxHeartbeats 1600000 in
theorem twoW_c6 (w : World) (a b : Nat) (hla : a < 18446744073709551616) (hlb : b < 18446744073709551616) :
    Calls Try.prog 38 #[.int .u8 87, .int .u64 a, .int .u64 b] w (QW w (twoF 87 a b)) := by
  have HF : Hid (twoF 87 a b = ((cmpF 6 ((a : Int) == (b : Int)) (decide (a < b)) (a.testBit 63) (b.testBit 63)).toNat, 0)) := by unfold Hid; rfl
  have HC := Lib.hid (compareW_6 w a b hla hlb)
  generalize cmpF 6 ((a : Int) == (b : Int)) (decide (a < b)) (a.testBit 63) (b.testBit 63) = r at *
  go_enter Try.func38, Try.ntmps38
  go_wp2_with fail
  refine HC.out.mono ?_
  rintro e w1 ⟨rfl, rfl⟩
  go_wp2_with fail
  go_ret2
  rw [HF.out]
  exact ⟨rfl, rfl⟩

set_option maxRecDepth 100000 in
set_option maxHeartbeats 1600000 in
theorem twoW_c7 (w : World) (a b : Nat) (hla : a < 18446744073709551616) (hlb : b < 18446744073709551616) :
    Calls Try.prog 38 #[.int .u8 88, .int .u64 a, .int .u64 b] w (QW w (twoF 88 a b)) := by
  have HF : Hid (twoF 88 a b = ((cmpF 7 ((a : Int) == (b : Int)) (decide (a < b)) (a.testBit 63) (b.testBit 63)).toNat, 0)) := by unfold Hid; rfl
  have HC := Lib.hid (compareW_7 w a b hla hlb)
  generalize cmpF 7 ((a : Int) == (b : Int)) (decide (a < b)) (a.testBit 63) (b.testBit 63) = r at *
  go_enter Try.func38, Try.ntmps38
  go_wp2_with fail
  refine HC.out.mono ?_
  rintro e w1 ⟨rfl, rfl⟩
  go_wp2_with fail
  go_ret2
  rw [HF.out]
  exact ⟨rfl, rfl⟩

set_option maxRecDepth 100000 in
set_option maxHeartbeats 1600000 in
theorem twoW_c8 (w : World) (a b : Nat) (hla : a < 18446744073709551616) (hlb : b < 18446744073709551616) :
    Calls Try.prog 38 #[.int .u8 89, .int .u64 a, .int .u64 b] w (QW w (twoF 89 a b)) := by
  have HF : Hid (twoF 89 a b = ((cmpF 8 ((a : Int) == (b : Int)) (decide (a < b)) (a.testBit 63) (b.testBit 63)).toNat, 0)) := by unfold Hid; rfl
  have HC := Lib.hid (compareW_8 w a b hla hlb)
  generalize cmpF 8 ((a : Int) == (b : Int)) (decide (a < b)) (a.testBit 63) (b.testBit 63) = r at *
  go_enter Try.func38, Try.ntmps38
  go_wp2_with fail
  refine HC.out.mono ?_
  rintro e w1 ⟨rfl, rfl⟩
  go_wp2_with fail
  go_ret2
  rw [HF.out]
  exact ⟨rfl, rfl⟩

set_option maxRecDepth 100000 in
set_option maxHeartbeats 1600000 in
theorem twoW_c9 (w : World) (a b : Nat) (hla : a < 18446744073709551616) (hlb : b < 18446744073709551616) :
    Calls Try.prog 38 #[.int .u8 90, .int .u64 a, .int .u64 b] w (QW w (twoF 90 a b)) := by
  have HF : Hid (twoF 90 a b = ((cmpF 9 ((a : Int) == (b : Int)) (decide (a < b)) (a.testBit 63) (b.testBit 63)).toNat, 0)) := by unfold Hid; rfl
  have HC := Lib.hid (compareW_9 w a b hla hlb)
  generalize cmpF 9 ((a : Int) == (b : Int)) (decide (a < b)) (a.testBit 63) (b.testBit 63) = r at *
  go_enter Try.func38, Try.ntmps38
  go_wp2_with fail
  refine HC.out.mono ?_
  rintro e w1 ⟨rfl, rfl⟩
  go_wp2_with fail
  go_ret2
  rw [HF.out]
  exact ⟨rfl, rfl⟩

set_option maxRecDepth 100000 in
set_option maxHeartbeats 1600000 in
theorem twoW_124 (w : World) (a b : Nat) (hla : a < 18446744073709551616) (hlb : b < 18446744073709551616) :
    Calls Try.prog 38 #[.int .u8 124, .int .u64 a, .int .u64 b] w (QW w (twoF 124 a b)) := by
  obtain ⟨n, hn⟩ : ∃ n, n = b % 64 := ⟨_, rfl⟩
  have HN := Lib.hid hn
  have hnl : n < 64 := by omega
  have hand := and63 (b := b) hlb
  rw [← hn] at hand
  clear hn
  go_enter Try.func38, Try.ntmps38
  go_wp2_with fail
  refine (compareW_no w 124 a b hla hlb (by omega) (by omega) (by omega)).mono ?_
  rintro e w1 ⟨rfl, rfl⟩
  go_wp2_with fail
  go_ret2
  exact qw_of (add_law a b) rfl

set_option maxRecDepth 100000 in
set_option maxHeartbeats 1600000 in
theorem twoW_125 (w : World) (a b : Nat) (hla : a < 18446744073709551616) (hlb : b < 18446744073709551616) :
    Calls Try.prog 38 #[.int .u8 125, .int .u64 a, .int .u64 b] w (QW w (twoF 125 a b)) := by
  obtain ⟨n, hn⟩ : ∃ n, n = b % 64 := ⟨_, rfl⟩
  have HN := Lib.hid hn
  have hnl : n < 64 := by omega
  have hand := and63 (b := b) hlb
  rw [← hn] at hand
  clear hn
  go_enter Try.func38, Try.ntmps38
  go_wp2_with fail
  refine (compareW_no w 125 a b hla hlb (by omega) (by omega) (by omega)).mono ?_
  rintro e w1 ⟨rfl, rfl⟩
  go_wp2_with fail
  go_ret2
  exact qw_of (sub_law hla hlb) rfl

set_option maxRecDepth 100000 in
set_option maxHeartbeats 1600000 in
theorem twoW_126 (w : World) (a b : Nat) (hla : a < 18446744073709551616) (hlb : b < 18446744073709551616) :
    Calls Try.prog 38 #[.int .u8 126, .int .u64 a, .int .u64 b] w (QW w (twoF 126 a b)) := by
  obtain ⟨n, hn⟩ : ∃ n, n = b % 64 := ⟨_, rfl⟩
  have HN := Lib.hid hn
  have hnl : n < 64 := by omega
  have hand := and63 (b := b) hlb
  rw [← hn] at hand
  clear hn
  go_enter Try.func38, Try.ntmps38
  go_wp2_with fail
  refine (compareW_no w 126 a b hla hlb (by omega) (by omega) (by omega)).mono ?_
  rintro e w1 ⟨rfl, rfl⟩
  go_wp2_with fail
  go_ret2
  exact qw_of (mul_law a b) rfl

set_option maxRecDepth 100000 in
set_option maxHeartbeats 1600000 in
theorem twoW_127 (w : World) (a b : Nat) (hla : a < 18446744073709551616) (hlb : b < 18446744073709551616) :
    Calls Try.prog 38 #[.int .u8 127, .int .u64 a, .int .u64 b] w (QW w (twoF 127 a b)) := by
  obtain ⟨n, hn⟩ : ∃ n, n = b % 64 := ⟨_, rfl⟩
  have HN := Lib.hid hn
  have hnl : n < 64 := by omega
  have hand := and63 (b := b) hlb
  rw [← hn] at hand
  clear hn
  go_enter Try.func38, Try.ntmps38
  go_wp2_with fail
  refine (compareW_no w 127 a b hla hlb (by omega) (by omega) (by omega)).mono ?_
  rintro e w1 ⟨rfl, rfl⟩
  go_wp2_with fail
  refine (divideW_0 _ a b hla hlb).mono ?_
  rintro e w1 ⟨rfl, rfl⟩
  go_wp2_with fail
  go_ret2
  exact ⟨rfl, rfl⟩

set_option maxRecDepth 100000 in
set_option maxHeartbeats 1600000 in
theorem twoW_128 (w : World) (a b : Nat) (hla : a < 18446744073709551616) (hlb : b < 18446744073709551616) :
    Calls Try.prog 38 #[.int .u8 128, .int .u64 a, .int .u64 b] w (QW w (twoF 128 a b)) := by
  obtain ⟨n, hn⟩ : ∃ n, n = b % 64 := ⟨_, rfl⟩
  have HN := Lib.hid hn
  have hnl : n < 64 := by omega
  have hand := and63 (b := b) hlb
  rw [← hn] at hand
  clear hn
  go_enter Try.func38, Try.ntmps38
  go_wp2_with fail
  refine (compareW_no w 128 a b hla hlb (by omega) (by omega) (by omega)).mono ?_
  rintro e w1 ⟨rfl, rfl⟩
  go_wp2_with fail
  refine (divideW_1 _ a b hla hlb).mono ?_
  rintro e w1 ⟨rfl, rfl⟩
  go_wp2_with fail
  go_ret2
  exact ⟨rfl, rfl⟩

set_option maxRecDepth 100000 in
set_option maxHeartbeats 1600000 in
theorem twoW_129 (w : World) (a b : Nat) (hla : a < 18446744073709551616) (hlb : b < 18446744073709551616) :
    Calls Try.prog 38 #[.int .u8 129, .int .u64 a, .int .u64 b] w (QW w (twoF 129 a b)) := by
  obtain ⟨n, hn⟩ : ∃ n, n = b % 64 := ⟨_, rfl⟩
  have HN := Lib.hid hn
  have hnl : n < 64 := by omega
  have hand := and63 (b := b) hlb
  rw [← hn] at hand
  clear hn
  go_enter Try.func38, Try.ntmps38
  go_wp2_with fail
  refine (compareW_no w 129 a b hla hlb (by omega) (by omega) (by omega)).mono ?_
  rintro e w1 ⟨rfl, rfl⟩
  go_wp2_with fail
  refine (divideW_2 _ a b hla hlb).mono ?_
  rintro e w1 ⟨rfl, rfl⟩
  go_wp2_with fail
  go_ret2
  exact ⟨rfl, rfl⟩

set_option maxRecDepth 100000 in
set_option maxHeartbeats 1600000 in
theorem twoW_130 (w : World) (a b : Nat) (hla : a < 18446744073709551616) (hlb : b < 18446744073709551616) :
    Calls Try.prog 38 #[.int .u8 130, .int .u64 a, .int .u64 b] w (QW w (twoF 130 a b)) := by
  obtain ⟨n, hn⟩ : ∃ n, n = b % 64 := ⟨_, rfl⟩
  have HN := Lib.hid hn
  have hnl : n < 64 := by omega
  have hand := and63 (b := b) hlb
  rw [← hn] at hand
  clear hn
  go_enter Try.func38, Try.ntmps38
  go_wp2_with fail
  refine (compareW_no w 130 a b hla hlb (by omega) (by omega) (by omega)).mono ?_
  rintro e w1 ⟨rfl, rfl⟩
  go_wp2_with fail
  refine (divideW_3 _ a b hla hlb).mono ?_
  rintro e w1 ⟨rfl, rfl⟩
  go_wp2_with fail
  go_ret2
  exact ⟨rfl, rfl⟩

set_option maxRecDepth 100000 in
set_option maxHeartbeats 1600000 in
theorem twoW_131 (w : World) (a b : Nat) (hla : a < 18446744073709551616) (hlb : b < 18446744073709551616) :
    Calls Try.prog 38 #[.int .u8 131, .int .u64 a, .int .u64 b] w (QW w (twoF 131 a b)) := by
  obtain ⟨n, hn⟩ : ∃ n, n = b % 64 := ⟨_, rfl⟩
  have HN := Lib.hid hn
  have hnl : n < 64 := by omega
  have hand := and63 (b := b) hlb
  rw [← hn] at hand
  clear hn
  go_enter Try.func38, Try.ntmps38
  go_wp2_with fail
  refine (compareW_no w 131 a b hla hlb (by omega) (by omega) (by omega)).mono ?_
  rintro e w1 ⟨rfl, rfl⟩
  go_wp2_with fail
  go_ret2
  exact qw_of (Go.u64_and_nat a b hla hlb) rfl

set_option maxRecDepth 100000 in
set_option maxHeartbeats 1600000 in
theorem twoW_132 (w : World) (a b : Nat) (hla : a < 18446744073709551616) (hlb : b < 18446744073709551616) :
    Calls Try.prog 38 #[.int .u8 132, .int .u64 a, .int .u64 b] w (QW w (twoF 132 a b)) := by
  obtain ⟨n, hn⟩ : ∃ n, n = b % 64 := ⟨_, rfl⟩
  have HN := Lib.hid hn
  have hnl : n < 64 := by omega
  have hand := and63 (b := b) hlb
  rw [← hn] at hand
  clear hn
  go_enter Try.func38, Try.ntmps38
  go_wp2_with fail
  refine (compareW_no w 132 a b hla hlb (by omega) (by omega) (by omega)).mono ?_
  rintro e w1 ⟨rfl, rfl⟩
  go_wp2_with fail
  go_ret2
  exact qw_of (Go.u64_or_nat a b hla hlb) rfl

set_option maxRecDepth 100000 in
set_option maxHeartbeats 1600000 in
theorem twoW_133 (w : World) (a b : Nat) (hla : a < 18446744073709551616) (hlb : b < 18446744073709551616) :
    Calls Try.prog 38 #[.int .u8 133, .int .u64 a, .int .u64 b] w (QW w (twoF 133 a b)) := by
  obtain ⟨n, hn⟩ : ∃ n, n = b % 64 := ⟨_, rfl⟩
  have HN := Lib.hid hn
  have hnl : n < 64 := by omega
  have hand := and63 (b := b) hlb
  rw [← hn] at hand
  clear hn
  go_enter Try.func38, Try.ntmps38
  go_wp2_with fail
  refine (compareW_no w 133 a b hla hlb (by omega) (by omega) (by omega)).mono ?_
  rintro e w1 ⟨rfl, rfl⟩
  go_wp2_with fail
  go_ret2
  exact qw_of (Go.u64_xor_nat a b hla hlb) rfl

set_option maxRecDepth 100000 in
set_option maxHeartbeats 1600000 in
theorem twoW_134 (w : World) (a b : Nat) (hla : a < 18446744073709551616) (hlb : b < 18446744073709551616) :
    Calls Try.prog 38 #[.int .u8 134, .int .u64 a, .int .u64 b] w (QW w (twoF 134 a b)) := by
  obtain ⟨n, hn⟩ : ∃ n, n = b % 64 := ⟨_, rfl⟩
  have HN := Lib.hid hn
  have hnl : n < 64 := by omega
  have hand := and63 (b := b) hlb
  rw [← hn] at hand
  clear hn
  go_enter Try.func38, Try.ntmps38
  go_wp2_with fail
  refine (compareW_no w 134 a b hla hlb (by omega) (by omega) (by omega)).mono ?_
  rintro e w1 ⟨rfl, rfl⟩
  go_wp2_with fail
  go_ret2
  exact qw_of (by rw [show ((twoF 134 a b).1) = a * 2 ^ n % 2 ^ 64 by rw [HN.out]; rfl]; exact shl_law a n) rfl

set_option maxRecDepth 100000 in
set_option maxHeartbeats 1600000 in
theorem twoW_135 (w : World) (a b : Nat) (hla : a < 18446744073709551616) (hlb : b < 18446744073709551616) :
    Calls Try.prog 38 #[.int .u8 135, .int .u64 a, .int .u64 b] w (QW w (twoF 135 a b)) := by
  obtain ⟨n, hn⟩ : ∃ n, n = b % 64 := ⟨_, rfl⟩
  have HN := Lib.hid hn
  have hnl : n < 64 := by omega
  have hand := and63 (b := b) hlb
  rw [← hn] at hand
  clear hn
  go_enter Try.func38, Try.ntmps38
  go_wp2_with fail
  refine (compareW_no w 135 a b hla hlb (by omega) (by omega) (by omega)).mono ?_
  rintro e w1 ⟨rfl, rfl⟩
  go_wp2_with fail
  go_ret2
  exact qw_of (by rw [show ((twoF 135 a b).1) = sarN a n by rw [HN.out]; rfl]; exact sar_law hla hnl) rfl

set_option maxRecDepth 100000 in
set_option maxHeartbeats 1600000 in
theorem twoW_136 (w : World) (a b : Nat) (hla : a < 18446744073709551616) (hlb : b < 18446744073709551616) :
    Calls Try.prog 38 #[.int .u8 136, .int .u64 a, .int .u64 b] w (QW w (twoF 136 a b)) := by
  obtain ⟨n, hn⟩ : ∃ n, n = b % 64 := ⟨_, rfl⟩
  have HN := Lib.hid hn
  have hnl : n < 64 := by omega
  have hand := and63 (b := b) hlb
  rw [← hn] at hand
  clear hn
  go_enter Try.func38, Try.ntmps38
  go_wp2_with fail
  refine (compareW_no w 136 a b hla hlb (by omega) (by omega) (by omega)).mono ?_
  rintro e w1 ⟨rfl, rfl⟩
  go_wp2_with fail
  go_ret2
  exact qw_of (by rw [show ((twoF 136 a b).1) = a / 2 ^ n by rw [HN.out]; rfl]; simp) rfl

set_option maxRecDepth 100000 in
set_option maxHeartbeats 1600000 in
theorem twoW_137 (w : World) (a b : Nat) (hla : a < 18446744073709551616) (hlb : b < 18446744073709551616) :
    Calls Try.prog 38 #[.int .u8 137, .int .u64 a, .int .u64 b] w (QW w (twoF 137 a b)) := by
  obtain ⟨n, hn⟩ : ∃ n, n = b % 64 := ⟨_, rfl⟩
  have HN := Lib.hid hn
  have hnl : n < 64 := by omega
  have hand := and63 (b := b) hlb
  rw [← hn] at hand
  clear hn
  go_enter Try.func38, Try.ntmps38
  go_wp2_with fail
  refine (compareW_no w 137 a b hla hlb (by omega) (by omega) (by omega)).mono ?_
  rintro e w1 ⟨rfl, rfl⟩
  go_wp2_with fail
  refine (rotW _ a n (n : Int) hla (by omega) (by rw [wrapu, Int.emod_eq_of_lt (by omega) (by omega)]; have := and63 (b := n) (by omega); rwa [Nat.mod_eq_of_lt hnl] at this) (fun _ => by have := and63 (b := n) (by omega); rwa [Nat.mod_eq_of_lt hnl] at this)).mono ?_
  rintro e w1 ⟨rfl, rfl⟩
  go_wp2_with fail
  go_ret2
  exact qw_of (by rw [show ((twoF 137 a b).1) = rotlN a n by rw [HN.out]; rfl]) rfl

set_option maxRecDepth 100000 in
set_option maxHeartbeats 1600000 in
theorem twoW_138 (w : World) (a b : Nat) (hla : a < 18446744073709551616) (hlb : b < 18446744073709551616) :
    Calls Try.prog 38 #[.int .u8 138, .int .u64 a, .int .u64 b] w (QW w (twoF 138 a b)) := by
  obtain ⟨n, hn⟩ : ∃ n, n = b % 64 := ⟨_, rfl⟩
  have HN := Lib.hid hn
  have hnl : n < 64 := by omega
  have hand := and63 (b := b) hlb
  rw [← hn] at hand
  clear hn
  go_enter Try.func38, Try.ntmps38
  go_wp2_with fail
  refine (compareW_no w 138 a b hla hlb (by omega) (by omega) (by omega)).mono ?_
  rintro e w1 ⟨rfl, rfl⟩
  go_wp2_with fail
  refine (rotW _ a ((64 - n) % 64) (-(n : Int)) hla (by omega) (rot_ix hnl) (rot_ix0 hnl)).mono ?_
  rintro e w1 ⟨rfl, rfl⟩
  go_wp2_with fail
  go_ret2
  exact qw_of (by rw [show ((twoF 138 a b).1) = rotrN a n by rw [HN.out]; rfl]; rw [← rotr_law hla hnl]) rfl

set_option maxRecDepth 100000 in
set_option maxHeartbeats 1600000 in
theorem twoW_no (w : World) (op : Nat) (a b : Nat) (hla : a < 18446744073709551616) (hlb : b < 18446744073709551616) (h0 : op < 256) (hop : op < 81 ∨ 90 < op) (hk : op < 124 ∨ 138 < op) :
    Calls Try.prog 38 #[.int .u8 op, .int .u64 a, .int .u64 b] w (QW w (0, 9)) := by
  have e0 : ((op : Int) == 124) = false := beq_eq_false_iff_ne.2 (by omega)
  have e1 : ((op : Int) == 125) = false := beq_eq_false_iff_ne.2 (by omega)
  have e2 : ((op : Int) == 126) = false := beq_eq_false_iff_ne.2 (by omega)
  have e3 : ((op : Int) == 127) = false := beq_eq_false_iff_ne.2 (by omega)
  have e4 : ((op : Int) == 128) = false := beq_eq_false_iff_ne.2 (by omega)
  have e5 : ((op : Int) == 129) = false := beq_eq_false_iff_ne.2 (by omega)
  have e6 : ((op : Int) == 130) = false := beq_eq_false_iff_ne.2 (by omega)
  have e7 : ((op : Int) == 131) = false := beq_eq_false_iff_ne.2 (by omega)
  have e8 : ((op : Int) == 132) = false := beq_eq_false_iff_ne.2 (by omega)
  have e9 : ((op : Int) == 133) = false := beq_eq_false_iff_ne.2 (by omega)
  have e10 : ((op : Int) == 134) = false := beq_eq_false_iff_ne.2 (by omega)
  have e11 : ((op : Int) == 135) = false := beq_eq_false_iff_ne.2 (by omega)
  have e12 : ((op : Int) == 136) = false := beq_eq_false_iff_ne.2 (by omega)
  have e13 : ((op : Int) == 137) = false := beq_eq_false_iff_ne.2 (by omega)
  have e14 : ((op : Int) == 138) = false := beq_eq_false_iff_ne.2 (by omega)
  have hand := and63 (b := b) hlb
  go_enter Try.func38, Try.ntmps38
  go_wp2_with fail
  refine (compareW_no w op a b hla hlb (by omega) (by omega) (by omega)).mono ?_
  rintro e w1 ⟨rfl, rfl⟩
  go_wp2_with fail
  go_ret2
  exact ⟨rfl, rfl⟩
end Go.Proofs.Ytfechgpdlabgaaa
