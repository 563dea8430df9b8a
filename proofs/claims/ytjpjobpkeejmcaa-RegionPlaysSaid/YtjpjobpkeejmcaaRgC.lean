/-
  region: up.
-/
import Derived.Test.YtjpjobpkeejmcaaRgB
set_option linter.unusedVariables false
set_option linter.unusedSimpArgs false
namespace Go.Proofs.Ytjpjobpkeejmcaa
open Go.RowKit

def upN (n al : Nat) : Nat := (n + 2 ^ al - 1) / 2 ^ al * 2 ^ al
theorem up_plain (n k q : Nat) (hk1 : 0 < k) (hq : q = (n + k - 1) / k) : q * k ≤ n + k - 1 ∧ q ≤ n + k - 1 ∧ ((n : Int) + (k : Int) - 1).tdiv (k : Int) = (q : Int) := by
  refine ⟨by rw [hq]; exact Nat.div_mul_le_self _ _, by rw [hq]; exact Nat.div_le_self _ _, ?_⟩
  rw [show (n : Int) + (k : Int) - 1 = ((n + k - 1 : Nat) : Int) by omega, Int.tdiv_eq_ediv_of_nonneg (Int.natCast_nonneg _), hq]
  exact (Int.natCast_ediv _ _).symm
theorem two_pow (al : Nat) (ha : al ≤ 20) : 0 < 2 ^ al ∧ 2 ^ al ≤ 1048576 ∧ (2 : Int) ^ al = ((2 ^ al : Nat) : Int) :=
  ⟨Nat.pow_pos (by decide), Nat.le_trans (Nat.pow_le_pow_right (by decide) ha) (by decide), by simp⟩

set_option maxRecDepth 100000 in
set_option maxHeartbeats 3200000 in
theorem up_walk (w : World) (n al : Nat) (hn : n ≤ 4294967296) (ha : al ≤ 20) :
    Calls Try.prog 31 #[.int .i64 (n : Int), .int .u32 (al : Int)] w fun e w' => e = .returned (.int .i64 (upN n al : Int)) ∧ w' = w := by
  obtain ⟨hk1, hk2, hkc⟩ := two_pow al ha
  rw [upN]
  obtain ⟨k, hk⟩ : ∃ k, k = 2 ^ al := ⟨_, rfl⟩
  rw [← hk] at hk1 hk2 hkc ⊢
  obtain ⟨q, hq⟩ : ∃ q, q = (n + k - 1) / k := ⟨_, rfl⟩
  obtain ⟨hd, hq2, hqt⟩ := up_plain n k q hk1 hq
  rw [← hq]
  obtain ⟨p2, hp2⟩ : ∃ p2 : Int, p2 = (2 : Int) ^ al := ⟨_, rfl⟩
  have hp : p2 = (k : Int) := hp2.trans hkc
  obtain ⟨m, hm⟩ : ∃ m, m = q * k := ⟨_, rfl⟩
  rw [← hm] at hd ⊢
  clear hkc hk hq
  have e1 : IntKind.i64.wrap p2 = (k : Int) := by clear hqt hm hp2; rw [hp]; exact IntWalk.i64_in _ (by omega)
  have e1' : wrap64 p2 = (k : Int) := by clear hqt hm hp2; rw [hp]; exact IntWalk.wrap64_in _ ⟨by omega, by omega⟩
  have e2 := IntWalk.i64_in ((n : Int) + (k : Int)) (by clear hqt hm hp2; omega)
  have e3 := IntWalk.i64_in ((n : Int) + (k : Int) - 1) (by clear hqt hm hp2; omega)
  have e4 := IntWalk.i64_in (q : Int) (by clear hqt hm hp2; omega)
  have e5 : IntKind.i64.wrap ((q : Int) * (k : Int)) = (m : Int) := by
    rw [show (q : Int) * (k : Int) = (m : Int) by rw [hm, Int.natCast_mul]]
    exact IntWalk.i64_in _ (by clear hqt hm hp2; omega)
  have hkz : ¬ (k : Int) = 0 := by omega
  rw [hp2] at e1 e1'
  have ha0 : (0 : Int) ≤ (al : Int) := by omega
  have ha1 : (al : Int) ≤ 64 := by omega
  clear hk2 hk1 hd hq2 hm hp2 hp ha hn
  go_enter Try.func31, Try.ntmps31
  go_wp2_with fail
  go_ret
  exact ⟨rfl, rfl⟩
end Go.Proofs.Ytjpjobpkeejmcaa
