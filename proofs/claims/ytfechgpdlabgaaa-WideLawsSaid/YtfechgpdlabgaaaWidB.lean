/-
  creelref19: add, less, turned, shift, rotate.
-/
import Derived.Test.YtfechgpdlabgaaaWid
set_option linter.unusedVariables false
set_option linter.unusedSimpArgs false
namespace Go.Proofs.Ytfechgpdlabgaaa
open Go.RowKit Wide

theorem truth_q (w : World) (b : Bool) : Calls Try.prog 106 #[.bool b] w fun e w' => e = .returned (.int .u64 (b.toNat : Int)) ∧ w' = w := (truth19 w b).mono fun _ _ h => ⟨h.1, h.2.symm⟩

theorem sum_cell (x y z : Bool) : ((((x.toNat : Int) + (y.toNat : Int)) + (z.toNat : Int)) % 2 == 1) = decide ((x.toNat + y.toNat + z.toNat) % 2 = 1) := by cases x <;> cases y <;> cases z <;> rfl
theorem sum_carry (x y z : Bool) : decide (1 < ((x.toNat : Int) + (y.toNat : Int)) + (z.toNat : Int)) = decide (1 < x.toNat + y.toNat + z.toNat) := by cases x <;> cases y <;> cases z <;> rfl

set_option maxRecDepth 100000 in
set_option maxHeartbeats 1600000 in
theorem add_any (w : World) (S S' : Nat → Prop) (A A' : Option Addr) (c c' a b : Nat) (q : Bool) (ha : Reads w S 1 A 64 (bools (bs 64 a))) (hb : Reads w S' 1 A' 64 (bools (bs 64 b))) :
    Calls Try.prog 79 #[.slice A 64 c, .slice A' 64 c', .bool q] w (BRet w (a + b + q.toNat)) := by
  have h0 : w.ownsRow w.heap.size 4 1 (.slice none 0 0) 0 (bools (bs 0 (a + b + q.toNat))) := World.ownsRow_nil _ _ _ _
  have hbit : Hid (∀ k, (a + b + q.toNat).testBit k = decide (((a.testBit k).toNat + (b.testBit k).toNat + (carry a b q k).toNat) % 2 = 1)) := fun k => sum_bit a b q k
  obtain ⟨u, hu⟩ : ∃ u, u = a + b + q.toNat := ⟨_, rfl⟩
  rw [← hu] at h0 hbit ⊢
  clear hu
  go_enter Try.func79, Try.ntmps79
  go_wp2_with fail
  go_loopw [2, 7, 8] (fun z o i wr => ∃ (k c2 : Nat) (D : Option Addr) (y : Bool), k ≤ 64 ∧ z = .bool y ∧ o = .slice D k c2 ∧ i = .int .i64 (k : Int) ∧ Hid (y = carry a b q k) ∧
      Hid (wr.ownsRow w.heap.size 4 1 (.slice D k c2) k (bools (bs k u))) ∧ Hid (Step (fun _ => False) w wr)) (fun _ _ i _ => 64 - (intOf i).toNat)
  case atStart => exact ⟨0, 0, none, q, by omega, rfl, rfl, rfl, (carry_zero a b q).symm, h0, Step.refl⟩
  case round =>
    obtain ⟨k, c2, D, y, hk, rfl, rfl, rfl, HY, HO, HS⟩ := hrel
    clear h0
    by_cases hlt : k < 64
    · obtain ⟨ad, rfl, _, hlw, hc⟩ := bools_at ha hlt
      have hc1 := (HS.out.cell (p := ad.add k) (by rw [add_block]; exact hlw) id).trans hc
      obtain ⟨ad', rfl, _, hlw', hc'⟩ := bools_at hb hlt
      have hc2 := (HS.out.cell (p := ad'.add k) (by rw [add_block]; exact hlw') id).trans hc'
      have hlt' : (k : Int) < 64 := by omega
      have i0 : (0 : Int) ≤ (k : Int) := by omega
      have hm : k + 1 ≤ maxLen := by unfold maxLen; omega
      have hsz := HS.out.size
      have HB := hbit.out k
      rw [← HY.out, ← sum_cell] at HB
      have HC := carry_succ a b q k
      rw [← HY.out, ← sum_carry] at HC
      have HB' := Lib.hid HB
      have HC' := Lib.hid HC
      have x0 := bit_le (a.testBit k)
      have x1 := bit_le (b.testBit k)
      have x2 := bit_le y
      generalize a.testBit k = xa at hc1 HB' HC' x0
      generalize b.testBit k = xb at hc2 HB' HC' x1
      clear hc hc' ha hb HB HC
      go_wp2_with fail
      go_quiet ((go_at_call 106; exact Calls.quiet_of_same (truth_q _ _)))
      have HO2 : Hid ((wr.drewN nq).ownsRow w.heap.size 4 1 (.slice D k c2) k (bools (bs k u))) := own_below HO.out (Step.refl.drewN nq)
      have HS2 : Hid (Step (fun _ => False) w (wr.drewN nq)) := HS.out.drewN nq
      clear HO HS hc1 hc2 hsz
      generalize wr.drewN nq = w2 at HO2 HS2 ⊢
      have hsz := HS2.out.size
      go_wp2_with (at_builtin; refine wpList_append_src _ rfl _ _ (by rfl) E_bool (by rfl) (HO2.out.alloc _) (by rfl) (reads_new _ _ _ 1 1 rfl) (one_bool _) hm (by omega) (by simp; omega) ?_; intro D' c3 w1 hown1 hgrow hat)
      go_roundw
      case rel => exact ⟨k + 1, c3, D', _, by omega, rfl, rfl, by go_num, HC'.out.symm, grow_bit hown1 HB'.out.symm, grow_step (HS2.out.alloc _) hgrow (HO2.out.alloc _) (Nat.le_refl _)⟩
      case measure => simp [intOf]; omega
    · obtain rfl : k = 64 := by omega
      go_wp2_with fail
      go_ret
      exact ⟨D, c2, rfl, HO.out, HS.out⟩

set_option maxRecDepth 100000 in
set_option maxHeartbeats 1600000 in
theorem less_any (w : World) (S S' : Nat → Prop) (A A' : Option Addr) (c c' a b : Nat) (ha : Reads w S 1 A 64 (bools (bs 64 a))) (hb : Reads w S' 1 A' 64 (bools (bs 64 b))) (hla : a < 2 ^ 64) (hlb : b < 2 ^ 64) :
    Calls Try.prog 107 #[.slice A 64 c, .slice A' 64 c'] w fun e w' => e = .returned (.bool (decide (a < b))) ∧ ∃ m, w' = w.drewN m := by
  have hlt : Hid (∀ k, a / 2 ^ (k + 1) = b / 2 ^ (k + 1) → a.testBit k ≠ b.testBit k → decide (a < b) = b.testBit k) := fun k h1 h2 => lt_of_bit h1 h2
  have hst : Hid (∀ k, a / 2 ^ (k + 1) = b / 2 ^ (k + 1) → a.testBit k = b.testBit k → a / 2 ^ k = b / 2 ^ k) := fun k h1 h2 => by rw [div_step a k, div_step b k, h1, h2]
  have h64 : Hid (a / 2 ^ 64 = b / 2 ^ 64) := by unfold Hid; rw [Nat.div_eq_of_lt hla, Nat.div_eq_of_lt hlb]
  clear hla hlb
  go_enter Try.func107, Try.ntmps107
  go_wp2_with fail
  go_loopw [5] (fun i wr => ∃ (k m : Nat), k ≤ 64 ∧ i = .int .i64 ((k : Int) - 1) ∧ Hid (a / 2 ^ k = b / 2 ^ k) ∧ Hid (wr = w.drewN m)) (fun i _ => (intOf i + 1).toNat)
  case atStart => exact ⟨64, 0, by omega, rfl, h64, rfl⟩
  case round =>
    obtain ⟨k, m, hk, hi, HE, HW⟩ := hrel
    rcases k with _ | j
    · obtain rfl : u5 = .int .i64 (-1) := by rw [hi]; rfl
      have hab : a = b := by have := HE.out; simpa using this
      have hf : Hid (decide (a < b) = false) := by unfold Hid; rw [hab]; simp
      clear hi hab
      go_wp2_with fail
      go_ret
      exact ⟨by rw [hf.out]; rfl, m, HW.out⟩
    · obtain rfl : u5 = .int .i64 (j : Int) := by rw [hi]; congr 1; omega
      obtain ⟨ad, rfl, _, hlw, hc⟩ := bools_at ha (k := j) (by omega)
      obtain ⟨ad', rfl, _, hlw', hc'⟩ := bools_at hb (k := j) (by omega)
      have i0 : (0 : Int) ≤ (j : Int) := by omega
      have i1 : (j : Int) < 64 := by omega
      have hwj := IntWalk.i64_in ((j : Int) - 1) (by omega)
      have H1 := Lib.hid (hlt.out j HE.out)
      have H2 := Lib.hid (hst.out j HE.out)
      have hc1 : wr.cell? (ad.add j) = some (.bool (a.testBit j)) := by rw [HW.out]; exact hc
      have hc2 : wr.cell? (ad'.add j) = some (.bool (b.testBit j)) := by rw [HW.out]; exact hc'
      clear hi ha hb hc hc'
      generalize a.testBit j = xa at hc1 H1 H2
      generalize b.testBit j = xb at hc2 H1 H2
      by_cases hab : xa = xb
      · subst hab
        go_wp2_with fail
        go_quiet (fail)
        go_wp2
        go_roundw
        case rel => exact ⟨j, m + nq, by omega, rfl, H2.out (by simp), by unfold Hid; rw [HW.out, World.drewN_drewN]⟩
        case measure => simp [intOf]
      · have hne : (xa != xb) = true := by simpa using hab
        have hr : Hid (decide (a < b) = xb) := H1.out hab
        have HAB := Lib.hid hab
        clear hab
        cases xa <;> cases xb <;> first | exact absurd rfl HAB.out | skip
        all_goals
          go_wp2_with fail
          go_quiet (fail)
          have hc3 := hc2
          go_wp2
          go_ret
          exact ⟨by rw [hr.out]; rfl, m + nq, by rw [HW.out, World.drewN_drewN]⟩
end Go.Proofs.Ytfechgpdlabgaaa
