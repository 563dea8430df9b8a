/-
  wide: the law WideOne.
-/
import Derived.Test.YtolhcfhgldkodaaDoorWoC
set_option linter.unusedVariables false
set_option linter.unusedSimpArgs false
namespace Go.Proofs.YtolhcfhgldkodaaDoor
open Go.RowKit Wide
theorem step_below {w w' : World} (h : Step (fun _ => False) w w') : Below w.heap.size w w' := h.below _ (fun _ _ h => h.elim) (Nat.le_refl _)
set_option maxRecDepth 100000 in
set_option maxHeartbeats 1600000 in
theorem sgn_a (w : World) : Calls Tryd.prog 18 #[.bool false, .int .u64 18446744073709551609, .int .u64 2] w fun e w' => e = .returned (.tuple #[.int .u64 18446744073709551613, .int .i64 0]) ∧ w = w' := by
  have y1 : wrap64 18446744073709551609 = -7 := by decide +kernel
  have y2 : wrap64 2 = 2 := by decide +kernel
  have y3 : ((2 : Int) == -1) = false := by decide
  have e1 : IntKind.u64.wrap ((-7 : Int).tdiv 2) = 18446744073709551613 := by decide +kernel
  have e2 : IntKind.i64.wrap ((-7 : Int).tdiv 2) = (-7 : Int).tdiv 2 := by decide +kernel
  have e3 : ((18446744073709551609 : Int) == 9223372036854775808) = false := by decide
  go_enter Tryd.func18, Tryd.ntmps18
  go_wp2_with fail
  go_ret2
  exact ⟨rfl, rfl⟩
set_option maxRecDepth 100000 in
set_option maxHeartbeats 1600000 in
theorem div_a (w : World) : Calls Tryd.prog 15 #[.int .u8 127, .int .u64 18446744073709551609, .int .u64 2] w fun e w' => e = .returned (.tuple #[.int .u64 18446744073709551613, .int .i64 0]) ∧ w = w' := by
  have H := Lib.hid (sgn_a w)
  go_enter Tryd.func15, Tryd.ntmps15
  go_wp2_with fail
  refine H.out.mono ?_
  rintro e w' ⟨rfl, rfl⟩
  go_wp2_with fail
  go_ret2
  exact ⟨rfl, rfl⟩
set_option maxRecDepth 100000 in
set_option maxHeartbeats 1600000 in
theorem cmp_a (w : World) : Calls Tryd.prog 14 #[.int .u8 127, .int .u64 18446744073709551609, .int .u64 2] w fun e w' => e = .returned (.tuple #[.int .u64 0, .bool false]) ∧ w = w' := by
  go_enter Tryd.func14, Tryd.ntmps14
  go_wp2_with fail
  go_ret2
  exact ⟨rfl, rfl⟩
set_option maxRecDepth 100000 in
set_option maxHeartbeats 1600000 in
theorem two_a (w : World) : Calls Tryd.prog 7 #[.int .u8 127, .int .u64 18446744073709551609, .int .u64 2] w fun e w' => e = .returned (.tuple #[.int .u64 18446744073709551613, .int .i64 0]) ∧ w = w' := by
  have H := Lib.hid (cmp_a w)
  have H2 := Lib.hid (div_a w)
  go_enter Tryd.func7, Tryd.ntmps7
  go_wp2_with fail
  refine H.out.mono ?_
  rintro e w' ⟨rfl, rfl⟩
  go_wp2_with fail
  refine H2.out.mono ?_
  rintro e w' ⟨rfl, rfl⟩
  go_wp2_with fail
  go_ret2
  exact ⟨rfl, rfl⟩
set_option maxRecDepth 100000 in
set_option maxHeartbeats 1600000 in
theorem sgn_b (w : World) : Calls Tryd.prog 18 #[.bool true, .int .u64 18446744073709551609, .int .u64 2] w fun e w' => e = .returned (.tuple #[.int .u64 18446744073709551615, .int .i64 0]) ∧ w = w' := by
  have y1 : wrap64 18446744073709551609 = -7 := by decide +kernel
  have y2 : wrap64 2 = 2 := by decide +kernel
  have y3 : ((2 : Int) == -1) = false := by decide
  have e1 : IntKind.u64.wrap ((-7 : Int).tmod 2) = 18446744073709551615 := by decide +kernel
  have e2 : IntKind.i64.wrap ((-7 : Int).tmod 2) = (-7 : Int).tmod 2 := by decide +kernel
  have e3 : ((18446744073709551609 : Int) == 9223372036854775808) = false := by decide
  go_enter Tryd.func18, Tryd.ntmps18
  go_wp2_with fail
  go_ret2
  exact ⟨rfl, rfl⟩
set_option maxRecDepth 100000 in
set_option maxHeartbeats 1600000 in
theorem div_b (w : World) : Calls Tryd.prog 15 #[.int .u8 129, .int .u64 18446744073709551609, .int .u64 2] w fun e w' => e = .returned (.tuple #[.int .u64 18446744073709551615, .int .i64 0]) ∧ w = w' := by
  have H := Lib.hid (sgn_b w)
  go_enter Tryd.func15, Tryd.ntmps15
  go_wp2_with fail
  refine H.out.mono ?_
  rintro e w' ⟨rfl, rfl⟩
  go_wp2_with fail
  go_ret2
  exact ⟨rfl, rfl⟩
set_option maxRecDepth 100000 in
set_option maxHeartbeats 1600000 in
theorem cmp_b (w : World) : Calls Tryd.prog 14 #[.int .u8 129, .int .u64 18446744073709551609, .int .u64 2] w fun e w' => e = .returned (.tuple #[.int .u64 0, .bool false]) ∧ w = w' := by
  go_enter Tryd.func14, Tryd.ntmps14
  go_wp2_with fail
  go_ret2
  exact ⟨rfl, rfl⟩
set_option maxRecDepth 100000 in
set_option maxHeartbeats 1600000 in
theorem two_b (w : World) : Calls Tryd.prog 7 #[.int .u8 129, .int .u64 18446744073709551609, .int .u64 2] w fun e w' => e = .returned (.tuple #[.int .u64 18446744073709551615, .int .i64 0]) ∧ w = w' := by
  have H := Lib.hid (cmp_b w)
  have H2 := Lib.hid (div_b w)
  go_enter Tryd.func7, Tryd.ntmps7
  go_wp2_with fail
  refine H.out.mono ?_
  rintro e w' ⟨rfl, rfl⟩
  go_wp2_with fail
  refine H2.out.mono ?_
  rintro e w' ⟨rfl, rfl⟩
  go_wp2_with fail
  go_ret2
  exact ⟨rfl, rfl⟩
set_option maxRecDepth 100000 in
set_option maxHeartbeats 1600000 in
theorem awake19 (w : World) : Calls Tryd.prog 4 #[] w fun e w' => e = .returned (.bool true) ∧ w = w' := by
  have H1 := Lib.hid (two_a w)
  have H2 := Lib.hid (two_b w)
  go_enter Tryd.func4, Tryd.ntmps4
  go_wp2_with fail
  refine H1.out.mono ?_
  rintro e w' ⟨rfl, rfl⟩
  go_wp2_with fail
  refine H2.out.mono ?_
  rintro e w' ⟨rfl, rfl⟩
  go_wp2_with fail
  go_ret
  exact ⟨rfl, rfl⟩
theorem isTz_ex : ∀ (n v : Nat), v < 2 ^ n → n ≤ 64 → 0 < v → ∃ k, k < n ∧ v % 2 ^ k = 0 ∧ v.testBit k = true
  | 0, v, h, _, h0 => by simp at h; omega
  | n + 1, v, h, hn, h0 => by
    by_cases ho : v % 2 = 1
    · exact ⟨0, by omega, Nat.mod_one v, by rw [bit_div]; simpa using ho⟩
    · obtain ⟨k, h1, h2, h3⟩ := isTz_ex n (v / 2) (by rw [Nat.pow_succ] at h; omega) (by omega) (by omega)
      refine ⟨k + 1, by omega, ?_, by rw [Nat.testBit_succ]; exact h3⟩
      rw [Nat.pow_succ, Nat.mul_comm, Nat.mod_mul, h2]
      omega
theorem isTz_any {v : Nat} (hv : v < 18446744073709551616) : ∃ m, isTz v m := by
  by_cases h0 : v = 0
  · exact ⟨64, .inr ⟨rfl, h0⟩⟩
  · obtain ⟨k, h1, h2, h3⟩ := isTz_ex 64 v hv (by decide) (by omega)
    exact ⟨k, .inl ⟨h1, h2, h3⟩⟩
set_option maxRecDepth 100000 in
set_option maxHeartbeats 1600000 in
theorem wideOne_walk (w : World) (op a : Nat) (hop : op < 256) (hla : a < 18446744073709551616) (hT : Hid (Tab w)) :
    Calls Tryd.prog 3 #[.int .u8 (op : Int), .int .u64 (a : Int)] w fun e w' => e = .returned (.bool true) ∧ Below w.heap.size w w' := by
  obtain ⟨m, hm⟩ := isTz_any hla
  have hk := bitLen_isLen hla
  generalize Lib.bitLen a = k at hk
  have H1 := Lib.hid (oneW_any w op a k m hop hla hT hk hm)
  have H2 := Lib.hid (one_any w op a k m hop hla hk hm)
  have HA := Lib.hid (awake19 w)
  generalize isOne op = b at H1 H2
  have lo : wrap64 (op : Int) = (op : Int) := by unfold wrap64; omega
  generalize oneR op a k m = r at H1 H2
  have q1 : ((r : Int) == (r : Int)) = true := beq_self_eq_true _
  have q2 : (b == b) = true := beq_self_eq_true _
  clear hm hk hT
  go_enter Tryd.func3, Tryd.ntmps3
  go_wp2_with fail
  refine HA.out.mono ?_
  rintro e w1 ⟨rfl, rfl⟩
  go_wp2_with fail
  refine H1.out.mono ?_
  rintro e w1 ⟨rfl, rfl⟩
  go_wp2_with fail
  refine H2.out.mono ?_
  rintro e w1 ⟨rfl, hS⟩
  have HS := Lib.hid hS
  clear hS
  go_wp2_with fail
  go_ret
  exact ⟨rfl, step_below HS.out⟩
end Go.Proofs.YtolhcfhgldkodaaDoor
