/-
  creelref19: shift, rotate, bit.
-/
import Derived.Test.YtfechgpdlabgaaaWidB
set_option linter.unusedVariables false
set_option linter.unusedSimpArgs false
namespace Go.Proofs.Ytfechgpdlabgaaa
open Go.RowKit Wide

def shiftBit (v : Nat) (s : Int) (fill : Bool) (k : Nat) : Bool := if 0 ≤ (k : Int) - s ∧ (k : Int) - s < 64 then v.testBit ((k : Int) - s).toNat else fill

set_option maxRecDepth 100000 in
set_option maxHeartbeats 1600000 in
theorem shift_any (w : World) (S : Nat → Prop) (A : Option Addr) (c v u : Nat) (s : Int) (fill : Bool) (hr : Reads w S 1 A 64 (bools (bs 64 v))) (h1 : -64 ≤ s) (h2 : s ≤ 64) (hu : Hid (∀ k, k < 64 → shiftBit v s fill k = u.testBit k)) :
    Calls Try.prog 84 #[.slice A 64 c, .int .i64 s, .bool fill] w (BRet w u) := by
  have h0 : w.ownsRow w.heap.size 4 1 (.slice none 0 0) 0 (bools (bs 0 u)) := World.ownsRow_nil _ _ _ _
  go_enter Try.func84, Try.ntmps84
  go_wp2_with fail
  go_loopw [7, 8] (fun o i wr => ∃ (k c2 : Nat) (D : Option Addr), k ≤ 64 ∧ o = .slice D k c2 ∧ i = .int .i64 (k : Int) ∧
      Hid (wr.ownsRow w.heap.size 4 1 (.slice D k c2) k (bools (bs k u))) ∧ Hid (Step (fun _ => False) w wr)) (fun _ i _ => 64 - (intOf i).toNat)
  case atStart => exact ⟨0, 0, none, by omega, rfl, rfl, h0, Step.refl⟩
  case round =>
    obtain ⟨k, c2, D, hk, rfl, rfl, HO, HS⟩ := hrel
    clear h0
    by_cases hlt : k < 64
    · have hlt' : (k : Int) < 64 := by omega
      have hm : k + 1 ≤ maxLen := by unfold maxLen; omega
      have hsz := HS.out.size
      have HB := hu.out k hlt
      have hw := IntWalk.i64_in ((k : Int) - s) (by omega)
      unfold shiftBit at HB
      by_cases hneg : (k : Int) - s < 0
      · rw [if_neg (by omega)] at HB
        have HB' := Lib.hid HB
        have n1 : ¬ 0 ≤ (k : Int) - s := by omega
        clear HB hr
        cases fill
        all_goals
          go_wp2_with (at_builtin; refine wpList_append_src _ rfl _ _ (by rfl) E_bool (by rfl) (HO.out.alloc _) (by rfl) (reads_new _ _ _ 1 1 rfl) (one_bool _) hm (by omega) (by simp; omega) ?_; intro D' c3 w1 hown1 hgrow hat)
          go_roundw
          case rel => exact ⟨k + 1, c3, D', by omega, rfl, by go_num, grow_bit hown1 HB'.out, grow_step (HS.out.alloc _) hgrow (HO.out.alloc _) (Nat.le_refl _)⟩
          case measure => simp [intOf]; omega
      by_cases hbig : 64 ≤ (k : Int) - s
      · rw [if_neg (by omega)] at HB
        have HB' := Lib.hid HB
        have n1 : ¬ (k : Int) - s < 64 := by omega
        clear HB hr
        cases fill
        all_goals
          go_wp2_with (at_builtin; refine wpList_append_src _ rfl _ _ (by rfl) E_bool (by rfl) (HO.out.alloc _) (by rfl) (reads_new _ _ _ 1 1 rfl) (one_bool _) hm (by omega) (by simp; omega) ?_; intro D' c3 w1 hown1 hgrow hat)
          go_roundw
          case rel => exact ⟨k + 1, c3, D', by omega, rfl, by go_num, grow_bit hown1 HB'.out, grow_step (HS.out.alloc _) hgrow (HO.out.alloc _) (Nat.le_refl _)⟩
          case measure => simp [intOf]; omega
      rw [if_pos (by omega)] at HB
      obtain ⟨ad, rfl, _, hlw, hc⟩ := bools_at hr (k := ((k : Int) - s).toNat) (by omega)
      have hc1 := (HS.out.cell (p := ad.add ((k : Int) - s).toNat) (by rw [add_block]; exact hlw) id).trans hc
      rw [HB] at hc1
      have n1 : 0 ≤ (k : Int) - s := by omega
      have n2 : (k : Int) - s < 64 := by omega
      clear HB hr hc
      cases hub : u.testBit k
      all_goals
        rw [hub] at hc1
        have HUB := Lib.hid hub
        clear hub
        go_wp2_with (at_builtin; refine wpList_append_src _ rfl _ _ (by rfl) E_bool (by rfl) (HO.out.alloc _) (by rfl) (reads_new _ _ _ 1 1 rfl) (one_bool _) hm (by omega) (by simp; omega) ?_; intro D' c3 w1 hown1 hgrow hat)
        go_roundw
        case rel => exact ⟨k + 1, c3, D', by omega, rfl, by go_num, grow_bit hown1 HUB.out.symm, grow_step (HS.out.alloc _) hgrow (HO.out.alloc _) (Nat.le_refl _)⟩
        case measure => simp [intOf]; omega
    · obtain rfl : k = 64 := by omega
      go_wp2_with fail
      go_ret
      exact ⟨D, c2, rfl, HO.out, HS.out⟩
end Go.Proofs.Ytfechgpdlabgaaa
