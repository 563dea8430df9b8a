/-
  creelref19: bit.
-/
import Derived.Test.YtfechgpdlabgaaaWidI
set_option linter.unusedVariables false
set_option linter.unusedSimpArgs false
namespace Go.Proofs.Ytfechgpdlabgaaa
open Go.RowKit Wide
def NRet (w : World) (u : Nat) (e : Ending) (w' : World) : Prop := e = .returned (.int .u64 (u : Int)) ∧ Step (fun _ => False) w w'

set_option maxRecDepth 100000 in
set_option maxHeartbeats 3200000 in
theorem bit_0 (w : World) (S S' : Nat → Prop) (A A' : Option Addr) (c c' a b u : Nat) (ha : Reads w S 1 A 64 (bools (bs 64 a))) (hb : Reads w S' 1 A' 64 (bools (bs 64 b))) (hu : u < 18446744073709551616) (hbit : Hid (∀ k, k < 64 → (a.testBit k && b.testBit k) = u.testBit k)) :
    Calls Try.prog 83 #[.int .i64 0, .slice A 64 c, .slice A' 64 c'] w (NRet w u) := by
  have h0 : w.ownsRow w.heap.size 4 1 (.slice none 0 0) 0 (bools (bs 0 u)) := World.ownsRow_nil _ _ _ _
  go_enter Try.func83, Try.ntmps83
  go_wp2_with fail
  go_loopw [7, 8] (fun o i wr => ∃ (k c2 : Nat) (D : Option Addr), k ≤ 64 ∧ o = .slice D k c2 ∧ i = .int .i64 (k : Int) ∧
      Hid (wr.ownsRow w.heap.size 4 1 (.slice D k c2) k (bools (bs k u))) ∧ Hid (Step (fun _ => False) w wr)) (fun _ i _ => 64 - (intOf i).toNat)
  case atStart => exact ⟨0, 0, none, by omega, rfl, rfl, h0, Step.refl⟩
  case round =>
    obtain ⟨k, c2, D, hk, rfl, rfl, HO, HS⟩ := hrel
    clear h0
    by_cases hlt : k < 64
    · obtain ⟨ad, rfl, _, hlw, hc⟩ := bools_at ha hlt
      have hc1 := (HS.out.cell (p := ad.add k) (by rw [add_block]; exact hlw) id).trans hc
      obtain ⟨ad', rfl, _, hlw', hc'⟩ := bools_at hb hlt
      have hc2 := (HS.out.cell (p := ad'.add k) (by rw [add_block]; exact hlw') id).trans hc'
      have hlt' : (k : Int) < 64 := by omega
      have i0 : (0 : Int) ≤ (k : Int) := by omega
      have hm : k + 1 ≤ maxLen := by unfold maxLen; omega
      have hsz := HS.out.size
      have HB := Lib.hid (hbit.out k hlt)
      generalize a.testBit k = xa at hc1 HB
      generalize b.testBit k = xb at hc2 HB
      clear hc hc' ha hb
      cases xa <;> cases xb
      all_goals
        go_wp2_with (at_builtin; refine wpList_append_src _ rfl _ _ (by rfl) E_bool (by rfl) (HO.out.alloc _) (by rfl) (reads_new _ _ _ 1 1 rfl) (one_bool _) hm (by omega) (by simp; omega) ?_; intro D' c3 w1 hown1 hgrow hat)
        go_roundw
        case rel => exact ⟨k + 1, c3, D', by omega, rfl, by go_num, grow_bit hown1 HB.out, grow_step ((HS.out.alloc _)) hgrow ((HO.out.alloc _)) (Nat.le_refl _)⟩
        case measure => simp [intOf]; omega
    · obtain rfl : k = 64 := by omega
      go_wp2_with fail
      refine (number_n _ _ D c2 u (Reads.of_own HO.out) hu).mono ?_
      rintro e w3 ⟨rfl, rfl⟩
      go_wp2_with fail
      go_ret
      exact ⟨rfl, HS.out⟩

set_option maxRecDepth 100000 in
set_option maxHeartbeats 3200000 in
theorem bit_1 (w : World) (S S' : Nat → Prop) (A A' : Option Addr) (c c' a b u : Nat) (ha : Reads w S 1 A 64 (bools (bs 64 a))) (hb : Reads w S' 1 A' 64 (bools (bs 64 b))) (hu : u < 18446744073709551616) (hbit : Hid (∀ k, k < 64 → (a.testBit k || b.testBit k) = u.testBit k)) :
    Calls Try.prog 83 #[.int .i64 1, .slice A 64 c, .slice A' 64 c'] w (NRet w u) := by
  have h0 : w.ownsRow w.heap.size 4 1 (.slice none 0 0) 0 (bools (bs 0 u)) := World.ownsRow_nil _ _ _ _
  go_enter Try.func83, Try.ntmps83
  go_wp2_with fail
  go_loopw [7, 8] (fun o i wr => ∃ (k c2 : Nat) (D : Option Addr), k ≤ 64 ∧ o = .slice D k c2 ∧ i = .int .i64 (k : Int) ∧
      Hid (wr.ownsRow w.heap.size 4 1 (.slice D k c2) k (bools (bs k u))) ∧ Hid (Step (fun _ => False) w wr)) (fun _ i _ => 64 - (intOf i).toNat)
  case atStart => exact ⟨0, 0, none, by omega, rfl, rfl, h0, Step.refl⟩
  case round =>
    obtain ⟨k, c2, D, hk, rfl, rfl, HO, HS⟩ := hrel
    clear h0
    by_cases hlt : k < 64
    · obtain ⟨ad, rfl, _, hlw, hc⟩ := bools_at ha hlt
      have hc1 := (HS.out.cell (p := ad.add k) (by rw [add_block]; exact hlw) id).trans hc
      obtain ⟨ad', rfl, _, hlw', hc'⟩ := bools_at hb hlt
      have hc2 := (HS.out.cell (p := ad'.add k) (by rw [add_block]; exact hlw') id).trans hc'
      have hlt' : (k : Int) < 64 := by omega
      have i0 : (0 : Int) ≤ (k : Int) := by omega
      have hm : k + 1 ≤ maxLen := by unfold maxLen; omega
      have hsz := HS.out.size
      have HB := Lib.hid (hbit.out k hlt)
      generalize a.testBit k = xa at hc1 HB
      generalize b.testBit k = xb at hc2 HB
      clear hc hc' ha hb
      cases xa <;> cases xb
      all_goals
        go_wp2_with (at_builtin; refine wpList_append_src _ rfl _ _ (by rfl) E_bool (by rfl) (HO.out.alloc _) (by rfl) (reads_new _ _ _ 1 1 rfl) (one_bool _) hm (by omega) (by simp; omega) ?_; intro D' c3 w1 hown1 hgrow hat)
        go_roundw
        case rel => exact ⟨k + 1, c3, D', by omega, rfl, by go_num, grow_bit hown1 HB.out, grow_step ((HS.out.alloc _)) hgrow ((HO.out.alloc _)) (Nat.le_refl _)⟩
        case measure => simp [intOf]; omega
    · obtain rfl : k = 64 := by omega
      go_wp2_with fail
      refine (number_n _ _ D c2 u (Reads.of_own HO.out) hu).mono ?_
      rintro e w3 ⟨rfl, rfl⟩
      go_wp2_with fail
      go_ret
      exact ⟨rfl, HS.out⟩

set_option maxRecDepth 100000 in
set_option maxHeartbeats 3200000 in
theorem bit_2 (w : World) (S S' : Nat → Prop) (A A' : Option Addr) (c c' a b u : Nat) (ha : Reads w S 1 A 64 (bools (bs 64 a))) (hb : Reads w S' 1 A' 64 (bools (bs 64 b))) (hu : u < 18446744073709551616) (hbit : Hid (∀ k, k < 64 → (a.testBit k != b.testBit k) = u.testBit k)) :
    Calls Try.prog 83 #[.int .i64 2, .slice A 64 c, .slice A' 64 c'] w (NRet w u) := by
  have h0 : w.ownsRow w.heap.size 4 1 (.slice none 0 0) 0 (bools (bs 0 u)) := World.ownsRow_nil _ _ _ _
  go_enter Try.func83, Try.ntmps83
  go_wp2_with fail
  go_loopw [7, 8] (fun o i wr => ∃ (k c2 : Nat) (D : Option Addr), k ≤ 64 ∧ o = .slice D k c2 ∧ i = .int .i64 (k : Int) ∧
      Hid (wr.ownsRow w.heap.size 4 1 (.slice D k c2) k (bools (bs k u))) ∧ Hid (Step (fun _ => False) w wr)) (fun _ i _ => 64 - (intOf i).toNat)
  case atStart => exact ⟨0, 0, none, by omega, rfl, rfl, h0, Step.refl⟩
  case round =>
    obtain ⟨k, c2, D, hk, rfl, rfl, HO, HS⟩ := hrel
    clear h0
    by_cases hlt : k < 64
    · obtain ⟨ad, rfl, _, hlw, hc⟩ := bools_at ha hlt
      have hc1 := (HS.out.cell (p := ad.add k) (by rw [add_block]; exact hlw) id).trans hc
      obtain ⟨ad', rfl, _, hlw', hc'⟩ := bools_at hb hlt
      have hc2 := (HS.out.cell (p := ad'.add k) (by rw [add_block]; exact hlw') id).trans hc'
      have hlt' : (k : Int) < 64 := by omega
      have i0 : (0 : Int) ≤ (k : Int) := by omega
      have hm : k + 1 ≤ maxLen := by unfold maxLen; omega
      have hsz := HS.out.size
      have HB := Lib.hid (hbit.out k hlt)
      generalize a.testBit k = xa at hc1 HB
      generalize b.testBit k = xb at hc2 HB
      clear hc hc' ha hb
      go_wp2_with fail
      go_region_law (refine step_append_src _ (by rfl) _ _ (by rfl) E_bool (by rfl) (own_drew (HO.out.alloc _)) (by rfl) (reads_new _ _ _ 1 1 rfl).drew (one_bool _) hm (by omega) (by have := HS.out.size; simp; omega) ?_; intro D' c3 w1 hown1 hgrow hat)
      all_goals
        go_wp2_with fail
        go_roundw
        case rel => exact ⟨k + 1, c3, D', by omega, rfl, by go_num, grow_bit hown1 HB.out, grow_step ((HS.out.alloc _).drew) hgrow (own_drew (HO.out.alloc _)) (Nat.le_refl _)⟩
        case measure => simp [intOf]; omega
    · obtain rfl : k = 64 := by omega
      go_wp2_with fail
      refine (number_n _ _ D c2 u (Reads.of_own HO.out) hu).mono ?_
      rintro e w3 ⟨rfl, rfl⟩
      go_wp2_with fail
      go_ret
      exact ⟨rfl, HS.out⟩

end Go.Proofs.Ytfechgpdlabgaaa
