/-
  leb: the reference's bits and groups.
-/
import Derived.Test.YtfemeendkjcffaaLeB
set_option linter.unusedVariables false
set_option linter.unusedSimpArgs false
namespace Go.Proofs.Ytfemeendkjcffaa
open Go.RowKit

theorem E_bool : ElemTy Try.prog 244 4 1 1 := elem_of Try.underlying244 (z := .bool false) (by kernel_rfl) rfl (by decide)
def bools (l : List Bool) : List Value := l.map Value.bool
theorem bools_append (l m : List Bool) : bools (l ++ m) = bools l ++ bools m := by simp [bools]
theorem one_bool (b : Bool) : ∀ u ∈ #[Value.bool b].toList, u.oneCell' = true := by
  intro u hu
  simp at hu
  subst hu
  rfl
/-- The bit of a number at a place; of one below nought all are set far up. -/
def ibit (v : Int) (j : Nat) : Bool := v / 2 ^ j % 2 == 1
def ibs (n : Nat) (v : Int) : List Bool := (List.range n).map (ibit v)
theorem ibs_succ (n : Nat) (v : Int) : ibs (n + 1) v = ibs n v ++ [ibit v n] := by simp [ibs, List.range_succ]
theorem ibs_len (n : Nat) (v : Int) : (ibs n v).length = n := by simp [ibs]
theorem ibs_at {w : World} {S : Nat → Prop} {A : Option Addr} {n k : Nat} {v : Int} (h : Reads w S 1 A n (bools (ibs n v))) (hk : k < n) : ∃ ad, A = some ad ∧ S ad.block ∧ ad.block < w.heap.size ∧ w.cell? (ad.add k) = some (.bool (ibit v k)) := by
  obtain ⟨ad, u, rfl, hS, hlt, hu, hc⟩ := h.at_ hk
  refine ⟨ad, rfl, hS, hlt, ?_⟩
  rw [hc]
  simp [bools, ibs, hk] at hu
  rw [← hu]
theorem idiv_succ (v : Int) (k : Nat) : v / 2 ^ (k + 1) = v / 2 ^ k / 2 := by
  rw [Int.pow_succ, Int.ediv_ediv_of_nonneg]
  exact Int.le_of_lt (Int.pow_pos (by decide))

set_option maxRecDepth 100000 in
set_option maxHeartbeats 800000 in
theorem bits_walk (w : World) (v : Nat) (hv : v < 18446744073709551616) : Calls Try.prog 205 #[.int .u64 (v : Int)] w fun e w' => ∃ D c, e = .returned (.slice D 64 c) ∧ w'.ownsRow w.heap.size 4 1 (.slice D 64 c) 64 (bools (ibs 64 (v : Int))) ∧ Step (fun _ => False) w w' := by
  have h0 : w.ownsRow w.heap.size 4 1 (.slice none 0 0) 0 (bools (ibs 0 (v : Int))) := World.ownsRow_nil _ _ _ _
  go_enter Try.func205, Try.ntmps205
  go_wp2_with fail
  go_loopw [0, 3, 4] (fun x o i wr => ∃ (k c y : Nat) (D : Option Addr), k ≤ 64 ∧ x = .int .u64 (y : Int) ∧ o = .slice D k c ∧ i = .int .i64 (k : Int) ∧ y < 18446744073709551616 ∧ Hid ((y : Int) = (v : Int) / 2 ^ k) ∧
      Hid (wr.ownsRow w.heap.size 4 1 (.slice D k c) k (bools (ibs k (v : Int)))) ∧ Hid (Step (fun _ => False) w wr)) (fun _ _ i _ => 64 - (intOf i).toNat)
  case atStart => exact ⟨0, 0, v, none, by omega, rfl, rfl, rfl, hv, by simp [Hid], h0, Step.refl⟩
  case round =>
    obtain ⟨k, c, y, D, hk, rfl, rfl, rfl, hy, HY, HO, HS⟩ := hrel
    clear h0
    by_cases hlt : k < 64
    · have hlt' : (k : Int) < 64 := by omega
      have hm : k + 1 ≤ maxLen := by unfold maxLen; omega
      have hsz := HS.out.size
      go_wp2_with (at_builtin; refine wpList_append_src _ rfl _ _ (by rfl) E_bool (by rfl) (HO.out.alloc _) (by rfl) (reads_new _ _ _ 1 1 rfl) (one_bool _) hm (by omega) (by simp; omega) ?_; intro D' c' w1 hown1 hgrow hat)
      have hb : bools (ibs k (v : Int)) ++ #[Value.bool ((y : Int) % 2 == 1)].toList = bools (ibs (k + 1) (v : Int)) := by
        rw [ibs_succ, bools_append, HY.out]
        rfl
      rw [hb] at hown1
      go_roundw
      case rel => exact ⟨k + 1, c', y / 2, D', by omega, by go_num, rfl, by go_num, by omega, by unfold Hid; rw [idiv_succ, ← HY.out, Int.natCast_ediv]; rfl, hown1, grow_step (HS.out.alloc _) hgrow (HO.out.alloc _) (Nat.le_refl _)⟩
      case measure => simp [intOf]; omega
    · obtain rfl : k = 64 := by omega
      go_wp2_with fail
      go_ret
      exact ⟨D, c, rfl, HO.out, HS.out⟩

/-! ### Group -/
/-- The byte of a group: the i-th of n. -/
def grpB (v : Int) (n i : Nat) : Int := v / 128 ^ i % 128 + if i + 1 < n then 128 else 0
def grpL (v : Int) (n k : Nat) : List UInt8 := (List.range k).map fun i => b8 (grpB v n i)
theorem grpL_succ (v : Int) (n k : Nat) : grpL v n (k + 1) = grpL v n k ++ [b8 (grpB v n k)] := by simp [grpL, List.range_succ]
theorem grpL_len (v : Int) (n k : Nat) : (grpL v n k).length = k := by simp [grpL]
theorem grp_step (x : Int) (m : Nat) : x / 2 % 2 ^ m * 2 + x % 2 = x % 2 ^ (m + 1) := by
  have hP : (0 : Int) < 2 ^ m := Int.pow_pos (by decide)
  rw [Int.pow_succ]
  generalize (2 : Int) ^ m = P at *
  have h1 := Int.emod_add_mul_ediv x (P * 2)
  have h2 := Int.emod_nonneg x (show P * 2 ≠ 0 by omega)
  have h3 := Int.emod_lt_of_pos x (show (0 : Int) < P * 2 by omega)
  have h4 : x / 2 = x % (P * 2) / 2 + P * (x / (P * 2)) := by
    have : x = x % (P * 2) + 2 * (P * (x / (P * 2))) := by rw [← Int.mul_assoc, Int.mul_comm 2 P]; exact h1.symm
    generalize hq : P * (x / (P * 2)) = q at *
    omega
  rw [h4, Int.add_mul_emod_self_left]
  have h5 : x % (P * 2) / 2 % P = x % (P * 2) / 2 := Int.emod_eq_of_lt (by omega) (by omega)
  rw [h5]
  have h6 : x % 2 = x % (P * 2) % 2 := by
    have : x = x % (P * 2) + 2 * (P * (x / (P * 2))) := by rw [← Int.mul_assoc, Int.mul_comm 2 P]; exact h1.symm
    generalize hq : P * (x / (P * 2)) = q at *
    omega
  omega
end Go.Proofs.Ytfemeendkjcffaa
