/-
  consts: the constant of a value; Cut.
-/
import Derived.Test.YtfemeendkjcffaaVaC
set_option linter.unusedVariables false
set_option linter.unusedSimpArgs false
namespace Go.Proofs.Ytfemeendkjcffaa
open Go.RowKit

/-- The constant of a value. -/
def cofF (t n : Nat) : (Nat × Nat) × Nat := if t = 127 then ((65, n % 4294967296), 0) else if t = 126 then ((66, n), 0) else ((0, 0), 7)
def cutF (t n : Nat) : Nat × Nat := if t = 127 then (t, n % 4294967296) else (t, n)

set_option maxRecDepth 100000 in
set_option maxHeartbeats 1600000 in
theorem cof_walk (w : World) (t n : Nat) (hn : n < 18446744073709551616) : Calls Try.prog 45 #[.agg #[.int .u8 (t : Int), .int .u64 (n : Int)]] w fun e w' =>
    e = .returned (.tuple #[.agg #[.int .u8 ((cofF t n).1.1 : Nat), .int .u64 ((cofF t n).1.2 : Nat), .int .u64 0, .slice none 0 0], .int .i64 ((cofF t n).2 : Nat)]) ∧ Step (fun _ => False) w w' := by
  by_cases h1 : t = 127
  · rw [cofF, if_pos h1]
    subst h1
    obtain ⟨q, hq⟩ : ∃ q, q = n % 4294967296 := ⟨_, rfl⟩
    have he : (n : Int) % 4294967296 = (q : Int) := by omega
    have hw := IntWalk.u64_in (q : Int) (by omega)
    rw [← hq]
    clear hq
    go_enter Try.func45, Try.ntmps45
    go_wp2_with fail
    exact bodyPost_ret (v := .tuple #[.agg #[.int .u8 65, .int .u64 (q : Int), .int .u64 0, .slice none 0 0], .int .i64 0]) (by simp [results, Try.results45, go_sem]) rfl ⟨rfl, (Step.refl.alloc _).alloc _⟩
  by_cases h2 : t = 126
  · rw [cofF, if_neg h1, if_pos h2]
    subst h2
    clear h1
    go_enter Try.func45, Try.ntmps45
    go_wp2_with fail
    exact bodyPost_ret (v := .tuple #[.agg #[.int .u8 66, .int .u64 (n : Int), .int .u64 0, .slice none 0 0], .int .i64 0]) (by simp [results, Try.results45, go_sem]) rfl ⟨rfl, (Step.refl.alloc _).alloc _⟩
  · rw [cofF, if_neg h1, if_neg h2]
    have q1 : ¬ (t : Int) = 127 := by omega
    have q2 : ¬ (t : Int) = 126 := by omega
    clear h1 h2
    go_enter Try.func45, Try.ntmps45
    go_wp2_with fail
    exact bodyPost_ret (v := .tuple #[.agg #[.int .u8 0, .int .u64 0, .int .u64 0, .slice none 0 0], .int .i64 7]) (by simp [results, Try.results45, go_sem]) rfl ⟨rfl, (Step.refl.alloc _).alloc _⟩

set_option maxRecDepth 100000 in
set_option maxHeartbeats 1600000 in
theorem cut_walk (w : World) (t n : Nat) : Calls Try.prog 46 #[.agg #[.int .u8 (t : Int), .int .u64 (n : Int)]] w fun e w' => e = .returned (valV (cutF t n)) ∧ Step (fun _ => False) w w' := by
  by_cases h1 : t = 127
  · rw [cutF, if_pos h1]
    subst h1
    obtain ⟨q, hq⟩ : ∃ q, q = n % 4294967296 := ⟨_, rfl⟩
    have he : (n : Int) % 4294967296 = (q : Int) := by omega
    rw [← hq]
    clear hq
    go_enter Try.func46, Try.ntmps46
    go_wp2_with fail
    exact bodyPost_ret (v := valV (127, q)) (by simp [results, Try.results46, go_sem, valV]) rfl ⟨rfl, (Step.refl.alloc _).alloc _⟩
  · rw [cutF, if_neg h1]
    have q1 : ¬ (t : Int) = 127 := by omega
    clear h1
    go_enter Try.func46, Try.ntmps46
    go_wp2_with fail
    exact bodyPost_ret (v := valV (t, n)) (by simp [results, Try.results46, go_sem, valV]) rfl ⟨rfl, (Step.refl.alloc _).alloc _⟩
end Go.Proofs.Ytfemeendkjcffaa
