/-
  module: what is laid of empty lists.
-/
import Derived.Test.YteibigianodhnaaMfU
import Derived.Test.YteibigianodhnaaMfA
set_option linter.unusedVariables false
set_option linter.unusedSimpArgs false
namespace Go.Proofs.Yteibigianodhnaa
open Go.RowKit

theorem uint0 (w : World) : Calls Try.prog 28 #[.int .u64 0] w fun e w' => (∃ D n c, e = .returned (.slice D n c)) ∧ Step (fun _ => False) w w' :=
  (uint_walk w 0 (by decide)).mono (by rintro e w' ⟨D, c, rfl, _, hs⟩; exact ⟨⟨D, _, c, rfl⟩, hs⟩)

set_option maxRecDepth 100000 in
set_option maxHeartbeats 1600000 in
theorem lst_ft (w : World) (f : Value) : Calls Try.prog 17 #[.slice none 0 0, f] w fun e w' => (∃ D n c, e = .returned (.tuple #[.slice D n c, .int .i64 0])) ∧ Step (fun _ => False) w w' := by
  go_enter Try.func17, Try.ntmps17
  go_wp2_with fail
  refine (uint0 _).mono ?_
  rintro e w5 ⟨⟨D5, n5, c5, rfl⟩, hS⟩
  have HS := Lib.hid hS
  clear hS
  go_wp2_with fail
  go_loopw [6, 20] (fun ov iv wr => ov = .slice D5 n5 c5 ∧ iv = .int .i64 0 ∧ wr = w5) (fun _ _ _ => 0)
  case atStart => exact ⟨rfl, rfl, rfl⟩
  case round =>
    obtain ⟨rfl, rfl, rfl⟩ := hrel
    go_wp2_with fail
    refine bodyPost_ret (v := .tuple #[.slice D5 n5 c5, .int .i64 0]) (by simp [results, Try.results17, go_sem]) rfl ?_
    exact ⟨⟨_, _, _, rfl⟩, HS.out⟩

set_option maxRecDepth 100000 in
set_option maxHeartbeats 1600000 in
theorem lst_u32 (w : World) (f : Value) : Calls Try.prog 21 #[.slice none 0 0, f] w fun e w' => (∃ D n c, e = .returned (.tuple #[.slice D n c, .int .i64 0])) ∧ Step (fun _ => False) w w' := by
  go_enter Try.func21, Try.ntmps21
  go_wp2_with fail
  refine (uint0 _).mono ?_
  rintro e w5 ⟨⟨D5, n5, c5, rfl⟩, hS⟩
  have HS := Lib.hid hS
  clear hS
  go_wp2_with fail
  go_loopw [6, 20] (fun ov iv wr => ov = .slice D5 n5 c5 ∧ iv = .int .i64 0 ∧ wr = w5) (fun _ _ _ => 0)
  case atStart => exact ⟨rfl, rfl, rfl⟩
  case round =>
    obtain ⟨rfl, rfl, rfl⟩ := hrel
    go_wp2_with fail
    refine bodyPost_ret (v := .tuple #[.slice D5 n5 c5, .int .i64 0]) (by simp [results, Try.results21, go_sem]) rfl ?_
    exact ⟨⟨_, _, _, rfl⟩, HS.out⟩

set_option maxRecDepth 100000 in
set_option maxHeartbeats 1600000 in
theorem lst_lim (w : World) (f : Value) : Calls Try.prog 23 #[.slice none 0 0, f] w fun e w' => (∃ D n c, e = .returned (.tuple #[.slice D n c, .int .i64 0])) ∧ Step (fun _ => False) w w' := by
  go_enter Try.func23, Try.ntmps23
  go_wp2_with fail
  refine (uint0 _).mono ?_
  rintro e w5 ⟨⟨D5, n5, c5, rfl⟩, hS⟩
  have HS := Lib.hid hS
  clear hS
  go_wp2_with fail
  go_loopw [6, 20] (fun ov iv wr => ov = .slice D5 n5 c5 ∧ iv = .int .i64 0 ∧ wr = w5) (fun _ _ _ => 0)
  case atStart => exact ⟨rfl, rfl, rfl⟩
  case round =>
    obtain ⟨rfl, rfl, rfl⟩ := hrel
    go_wp2_with fail
    refine bodyPost_ret (v := .tuple #[.slice D5 n5 c5, .int .i64 0]) (by simp [results, Try.results23, go_sem]) rfl ?_
    exact ⟨⟨_, _, _, rfl⟩, HS.out⟩

set_option maxRecDepth 100000 in
set_option maxHeartbeats 1600000 in
theorem put_imports (w : World) : Calls Try.prog 20 #[.slice none 0 0] w fun e w' => (∃ D n c, e = .returned (.tuple #[.slice D n c, .int .i64 0])) ∧ Step (fun _ => False) w w' := by
  go_enter Try.func20, Try.ntmps20
  go_wp2_with fail
  refine (uint0 _).mono ?_
  rintro e w5 ⟨⟨D5, n5, c5, rfl⟩, hS⟩
  have HS := Lib.hid hS
  clear hS
  go_wp2_with fail
  go_loopw [4, 18] (fun ov iv wr => ov = .slice D5 n5 c5 ∧ iv = .int .i64 0 ∧ wr = w5) (fun _ _ _ => 0)
  case atStart => exact ⟨rfl, rfl, rfl⟩
  case round =>
    obtain ⟨rfl, rfl, rfl⟩ := hrel
    go_wp2_with fail
    refine bodyPost_ret (v := .tuple #[.slice D5 n5 c5, .int .i64 0]) (by simp [results, Try.results20, go_sem]) rfl ?_
    exact ⟨⟨_, _, _, rfl⟩, HS.out⟩

set_option maxRecDepth 100000 in
set_option maxHeartbeats 1600000 in
theorem put_exports (w : World) : Calls Try.prog 27 #[.slice none 0 0] w fun e w' => (∃ D n c, e = .returned (.tuple #[.slice D n c, .int .i64 0])) ∧ Step (fun _ => False) w w' := by
  go_enter Try.func27, Try.ntmps27
  go_wp2_with fail
  refine (uint0 _).mono ?_
  rintro e w5 ⟨⟨D5, n5, c5, rfl⟩, hS⟩
  have HS := Lib.hid hS
  clear hS
  go_wp2_with fail
  go_loopw [4, 18] (fun ov iv wr => ov = .slice D5 n5 c5 ∧ iv = .int .i64 0 ∧ wr = w5) (fun _ _ _ => 0)
  case atStart => exact ⟨rfl, rfl, rfl⟩
  case round =>
    obtain ⟨rfl, rfl, rfl⟩ := hrel
    go_wp2_with fail
    refine bodyPost_ret (v := .tuple #[.slice D5 n5 c5, .int .i64 0]) (by simp [results, Try.results27, go_sem]) rfl ?_
    exact ⟨⟨_, _, _, rfl⟩, HS.out⟩

set_option maxRecDepth 100000 in
set_option maxHeartbeats 1600000 in
theorem put_globals (w : World) : Calls Try.prog 26 #[.slice none 0 0] w fun e w' => (∃ D n c, e = .returned (.tuple #[.slice D n c, .int .i64 0])) ∧ Step (fun _ => False) w w' := by
  go_enter Try.func26, Try.ntmps26
  go_wp2_with fail
  refine (uint0 _).mono ?_
  rintro e w5 ⟨⟨D5, n5, c5, rfl⟩, hS⟩
  have HS := Lib.hid hS
  clear hS
  go_wp2_with fail
  go_loopw [4, 18] (fun ov iv wr => ov = .slice D5 n5 c5 ∧ iv = .int .i64 0 ∧ wr = w5) (fun _ _ _ => 0)
  case atStart => exact ⟨rfl, rfl, rfl⟩
  case round =>
    obtain ⟨rfl, rfl, rfl⟩ := hrel
    go_wp2_with fail
    refine bodyPost_ret (v := .tuple #[.slice D5 n5 c5, .int .i64 0]) (by simp [results, Try.results26, go_sem]) rfl ?_
    exact ⟨⟨_, _, _, rfl⟩, HS.out⟩

set_option maxRecDepth 100000 in
set_option maxHeartbeats 1600000 in
theorem put_elems (w : World) : Calls Try.prog 29 #[.slice none 0 0] w fun e w' => (∃ D n c, e = .returned (.tuple #[.slice D n c, .int .i64 0])) ∧ Step (fun _ => False) w w' := by
  go_enter Try.func29, Try.ntmps29
  go_wp2_with fail
  refine (uint0 _).mono ?_
  rintro e w5 ⟨⟨D5, n5, c5, rfl⟩, hS⟩
  have HS := Lib.hid hS
  clear hS
  go_wp2_with fail
  go_loopw [4, 18] (fun ov iv wr => ov = .slice D5 n5 c5 ∧ iv = .int .i64 0 ∧ wr = w5) (fun _ _ _ => 0)
  case atStart => exact ⟨rfl, rfl, rfl⟩
  case round =>
    obtain ⟨rfl, rfl, rfl⟩ := hrel
    go_wp2_with fail
    refine bodyPost_ret (v := .tuple #[.slice D5 n5 c5, .int .i64 0]) (by simp [results, Try.results29, go_sem]) rfl ?_
    exact ⟨⟨_, _, _, rfl⟩, HS.out⟩

set_option maxRecDepth 100000 in
set_option maxHeartbeats 1600000 in
theorem put_bodies (w : World) : Calls Try.prog 30 #[.slice none 0 0] w fun e w' => (∃ D n c, e = .returned (.tuple #[.slice D n c, .int .i64 0])) ∧ Step (fun _ => False) w w' := by
  go_enter Try.func30, Try.ntmps30
  go_wp2_with fail
  refine (uint0 _).mono ?_
  rintro e w5 ⟨⟨D5, n5, c5, rfl⟩, hS⟩
  have HS := Lib.hid hS
  clear hS
  go_wp2_with fail
  go_loopw [4, 18] (fun ov iv wr => ov = .slice D5 n5 c5 ∧ iv = .int .i64 0 ∧ wr = w5) (fun _ _ _ => 0)
  case atStart => exact ⟨rfl, rfl, rfl⟩
  case round =>
    obtain ⟨rfl, rfl, rfl⟩ := hrel
    go_wp2_with fail
    refine bodyPost_ret (v := .tuple #[.slice D5 n5 c5, .int .i64 0]) (by simp [results, Try.results30, go_sem]) rfl ?_
    exact ⟨⟨_, _, _, rfl⟩, HS.out⟩

set_option maxRecDepth 100000 in
set_option maxHeartbeats 1600000 in
theorem put_datas (w : World) : Calls Try.prog 31 #[.slice none 0 0] w fun e w' => (∃ D n c, e = .returned (.tuple #[.slice D n c, .int .i64 0])) ∧ Step (fun _ => False) w w' := by
  go_enter Try.func31, Try.ntmps31
  go_wp2_with fail
  refine (uint0 _).mono ?_
  rintro e w5 ⟨⟨D5, n5, c5, rfl⟩, hS⟩
  have HS := Lib.hid hS
  clear hS
  go_wp2_with fail
  go_loopw [4, 18] (fun ov iv wr => ov = .slice D5 n5 c5 ∧ iv = .int .i64 0 ∧ wr = w5) (fun _ _ _ => 0)
  case atStart => exact ⟨rfl, rfl, rfl⟩
  case round =>
    obtain ⟨rfl, rfl, rfl⟩ := hrel
    go_wp2_with fail
    refine bodyPost_ret (v := .tuple #[.slice D5 n5 c5, .int .i64 0]) (by simp [results, Try.results31, go_sem]) rfl ?_
    exact ⟨⟨_, _, _, rfl⟩, HS.out⟩
end Go.Proofs.Yteibigianodhnaa
