/-
  creelref19: rotate, bit, turned.
-/
import Derived.Test.YtfechgpdlabgaaaWidC
set_option linter.unusedVariables false
set_option linter.unusedSimpArgs false
namespace Go.Proofs.Ytfechgpdlabgaaa
open Go.RowKit Wide

def rotIx (k : Nat) (s : Int) : Nat := ((((k : Int) - s).tmod 64 + 64) % 64).toNat

set_option maxRecDepth 100000 in
set_option maxHeartbeats 1600000 in
theorem rotate_any (w : World) (S : Nat → Prop) (A : Option Addr) (c v u : Nat) (s : Int) (hr : Reads w S 1 A 64 (bools (bs 64 v))) (h1 : -64 ≤ s) (h2 : s ≤ 64) (hu : Hid (∀ k, k < 64 → v.testBit (rotIx k s) = u.testBit k)) :
    Calls Try.prog 85 #[.slice A 64 c, .int .i64 s] w (BRet w u) := by
  have h0 : w.ownsRow w.heap.size 4 1 (.slice none 0 0) 0 (bools (bs 0 u)) := World.ownsRow_nil _ _ _ _
  go_enter Try.func85, Try.ntmps85
  go_wp2_with fail
  go_loopw [5, 6] (fun o i wr => ∃ (k c2 : Nat) (D : Option Addr), k ≤ 64 ∧ o = .slice D k c2 ∧ i = .int .i64 (k : Int) ∧
      Hid (wr.ownsRow w.heap.size 4 1 (.slice D k c2) k (bools (bs k u))) ∧ Hid (Step (fun _ => False) w wr)) (fun _ i _ => 64 - (intOf i).toNat)
  case atStart => exact ⟨0, 0, none, by omega, rfl, rfl, h0, Step.refl⟩
  case round =>
    obtain ⟨k, c2, D, hk, rfl, rfl, HO, HS⟩ := hrel
    clear h0
    by_cases hlt : k < 64
    · have hlt' : (k : Int) < 64 := by omega
      have hm : k + 1 ≤ maxLen := by unfold maxLen; omega
      have hsz := HS.out.size
      have HB := hu.out k hlt
      have hw := IntWalk.i64_in ((k : Int) - s) (by omega)
      have t1 : -64 < ((k : Int) - s).tmod 64 := by
        rcases Int.lt_or_le ((k : Int) - s) 0 with hn | hn
        · rw [← Int.neg_neg ((k : Int) - s), Int.neg_tmod, Int.tmod_eq_emod_of_nonneg (by omega)]; omega
        · rw [Int.tmod_eq_emod_of_nonneg hn]; omega
      have t2 : ((k : Int) - s).tmod 64 < 64 := by
        rcases Int.lt_or_le ((k : Int) - s) 0 with hn | hn
        · rw [← Int.neg_neg ((k : Int) - s), Int.neg_tmod, Int.tmod_eq_emod_of_nonneg (by omega)]; omega
        · rw [Int.tmod_eq_emod_of_nonneg hn]; omega
      unfold rotIx at HB
      generalize hz : ((k : Int) - s).tmod 64 = z at t1 t2 HB
      have hw2 := IntWalk.i64_in (z + 64) (by omega)
      rw [show (z + 64) % 64 = z % 64 by omega] at HB
      obtain ⟨ad, rfl, _, hlw, hc⟩ := bools_at hr (k := (z % 64).toNat) (by omega)
      have hc1 := (HS.out.cell (p := ad.add (z % 64).toNat) (by rw [add_block]; exact hlw) id).trans hc
      rw [HB] at hc1
      have n1 : 0 ≤ (z + 64) % 64 := by omega
      have n2 : (z + 64) % 64 < 64 := by omega
      clear HB hr hc
      go_wp2_with (at_builtin; refine wpList_append_src _ rfl _ _ (by rfl) E_bool (by rfl) (HO.out.alloc _) (by rfl) (reads_new _ _ _ 1 1 rfl) (one_bool _) hm (by omega) (by simp; omega) ?_; intro D' c3 w1 hown1 hgrow hat)
      go_roundw
      case rel => exact ⟨k + 1, c3, D', by omega, rfl, by go_num, grow_bit hown1 rfl, grow_step (HS.out.alloc _) hgrow (HO.out.alloc _) (Nat.le_refl _)⟩
      case measure => simp [intOf]; omega
    · obtain rfl : k = 64 := by omega
      go_wp2_with fail
      go_ret
      exact ⟨D, c2, rfl, HO.out, HS.out⟩

/-- make of 64 bools. -/
theorem make64 (w : World) : (Instr.makeSlice 142 (.int .i64 64) (.int .i64 64)).run Try.prog w = .ok (.slice (some ⟨w.heap.size, 0, none⟩) 64 64) (w.alloc (.cells (bools (bs 64 0)).toArray 4)) := by kernel_rfl

end Go.Proofs.Ytfechgpdlabgaaa
