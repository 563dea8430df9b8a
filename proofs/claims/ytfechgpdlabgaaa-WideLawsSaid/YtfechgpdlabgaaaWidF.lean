/-
  creelref19: times.
-/
import Derived.Test.YtfechgpdlabgaaaWidE
set_option linter.unusedVariables false
set_option linter.unusedSimpArgs false
namespace Go.Proofs.Ytfechgpdlabgaaa
open Go.RowKit Wide

theorem shift_up_bits (a k : Nat) : Hid (∀ i, i < 64 → shiftBit a (k : Int) false i = (a * 2 ^ k).testBit i) := fun i hi => by
  unfold shiftBit
  rw [Nat.mul_comm, Nat.testBit_two_pow_mul]
  by_cases h : k ≤ i
  · rw [if_pos (by omega)]
    simp [h, show ((i : Int) - (k : Int)).toNat = i - k by omega]
  · rw [if_neg (by omega)]
    simp [h]

set_option maxRecDepth 100000 in
set_option maxHeartbeats 1600000 in
theorem times_any (w : World) (S S' : Nat → Prop) (A A' : Option Addr) (c c' a b : Nat) (ha : Reads w S 1 A 64 (bools (bs 64 a))) (hb : Reads w S' 1 A' 64 (bools (bs 64 b))) (hlb : b < 2 ^ 64) :
    Calls Try.prog 81 #[.slice A 64 c, .slice A' 64 c'] w (BRet w (a * b)) := by
  have hmk := make64z
  have h0 : (w.alloc zeros).ownsRow w.heap.size 4 1 (.slice (some ⟨w.heap.size, 0, none⟩) 64 64) 64 (bools (bs 64 0)) :=
    ⟨by simp [bools, bs_length], .inr ⟨w.heap.size, 64, _, rfl, Nat.le_refl _, heap_alloc_new w _, Nat.le_refl _, by unfold maxLen; omega, by simp [bools, bs_length], List.take_of_length_le (by simp [bools, bs_length])⟩⟩
  have HH := Lib.hid h0
  have hfin : Hid (b % 2 ^ 64 = b) := Nat.mod_eq_of_lt hlb
  clear hlb h0
  go_enter Try.func81, Try.ntmps81
  go_wp2_with fail
  go_loopw [5, 6] (fun o i wr => ∃ (k c2 y : Nat) (D : Option Addr), k ≤ 64 ∧ o = .slice D 64 c2 ∧ i = .int .i64 (k : Int) ∧ Hid (y = a * (b % 2 ^ k)) ∧
      Hid (wr.ownsRow w.heap.size 4 1 (.slice D 64 c2) 64 (bools (bs 64 y))) ∧ Hid (Step (fun _ => False) w wr)) (fun _ i _ => 64 - (intOf i).toNat)
  case atStart => exact ⟨0, 64, 0, some ⟨w.heap.size, 0, none⟩, by omega, rfl, rfl, by simp [Hid, Nat.mod_one], HH.out, Step.refl.alloc _⟩
  case round =>
    obtain ⟨k, c2, y, D, hk, rfl, rfl, HY, HO, HS⟩ := hrel
    clear HH hmk
    by_cases hlt : k < 64
    · obtain ⟨ad, rfl, _, hlw, hc⟩ := bools_at hb hlt
      have hc1 := (HS.out.cell (p := ad.add k) (by rw [add_block]; exact hlw) id).trans hc
      have hlt' : (k : Int) < 64 := by omega
      have i0 : (0 : Int) ≤ (k : Int) := by omega
      have HT := times_step a b k
      rw [← HY.out] at HT
      have hra := Lib.hid (ha.step HS.out (fun _ _ => id))
      cases hbk : b.testBit k
      · rw [hbk] at hc1 HT
        have HT' : Hid (y = a * (b % 2 ^ (k + 1))) := by unfold Hid; rw [HT]; simp
        clear hbk HT hc ha hb
        go_wp2_with fail
        go_roundw
        case rel => exact ⟨k + 1, c2, y, D, by omega, rfl, by go_num, HT'.out, HO.out, HS.out⟩
        case measure => simp [intOf]; omega
      · rw [hbk] at hc1 HT
        have HT' : Hid (y + a * 2 ^ k + false.toNat = a * (b % 2 ^ (k + 1))) := by unfold Hid; rw [HT]; simp
        clear hbk HT hc ha hb
        go_wp2_with fail
        refine (shift_any wr _ A c a (a * 2 ^ k) (k : Int) false hra.out (by omega) (by omega) (shift_up_bits a k)).mono ?_
        rintro e w6 ⟨A6, c6, rfl, hA6, s6⟩
        go_wp2_with fail
        refine (add_any w6 _ _ D A6 c2 c6 y (a * 2 ^ k) false (Reads.of_own (own_below HO.out s6)) (Reads.of_own hA6)).mono ?_
        rintro e w7 ⟨A7, c7, rfl, hA7, s7⟩
        have HS7 := Lib.hid ((HS.out.trans s6).trans s7)
        have H7 := Lib.hid (own_base (base' := w.heap.size) hA7 (fun j hj => by have := own_ge hA7 j hj; have := HS.out.size; have := s6.size; omega))
        clear hA6 s6 hA7 s7
        go_wp2_with fail
        go_roundw
        case rel => exact ⟨k + 1, c7, _, A7, by omega, rfl, by go_num, HT'.out, H7.out, HS7.out⟩
        case measure => simp [intOf]; omega
    · obtain rfl : k = 64 := by omega
      have HY2 : Hid (y = a * b) := by unfold Hid; rw [HY.out, hfin.out]
      go_wp2_with fail
      go_ret
      rw [← HY2.out]
      exact ⟨D, c2, rfl, HO.out, HS.out⟩
end Go.Proofs.Ytfechgpdlabgaaa
