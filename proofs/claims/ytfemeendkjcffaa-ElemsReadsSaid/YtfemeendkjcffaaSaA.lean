/-
  instr: Same of any two, and the reference's.
-/
import Derived.Test.YtfemeendkjcffaaGe
set_option linter.unusedVariables false
set_option linter.unusedSimpArgs false
namespace Go.Proofs.Ytfemeendkjcffaa
open Go.RowKit

def sameF (op1 a1 b1 : Nat) (L1 : List Nat) (op2 a2 b2 : Nat) (L2 : List Nat) : Bool := decide (op1 = op2) && decide (a1 = a2) && decide (b1 = b2) && decide (L1 = L2)
theorem same_no {op1 a1 b1 op2 a2 b2 : Nat} {L1 L2 : List Nat} (h : ¬ (op1 = op2 ∧ a1 = a2 ∧ b1 = b2 ∧ L1 = L2)) : sameF op1 a1 b1 L1 op2 a2 b2 L2 = false := by
  rw [sameF]
  cases hd : (decide (op1 = op2) && decide (a1 = a2) && decide (b1 = b2) && decide (L1 = L2)) with
  | false => rfl
  | true =>
    simp only [Bool.and_eq_true, decide_eq_true_eq] at hd
    exact absurd ⟨hd.1.1.1, hd.1.1.2, hd.1.2, hd.2⟩ h
theorem same_yes (op a b : Nat) (L : List Nat) : sameF op a b L op a b L = true := by simp [sameF]
theorem ne_int {a b : Nat} (h : ¬ a = b) : ((a : Int) != (b : Int)) = true := bne_iff_ne.2 (by omega)
theorem take_eq {L1 L2 : List Nat} {j : Nat} (h : L1.take j = L2.take j) (h1 : j < L1.length) (h2 : j < L2.length) (hx : L1[j] = L2[j]) : L1.take (j + 1) = L2.take (j + 1) := by
  rw [List.take_succ_eq_append_getElem h1, List.take_succ_eq_append_getElem h2, h, hx]

set_option maxRecDepth 100000 in
set_option maxHeartbeats 3200000 in
theorem isame_walk (w : World) (op1 a1 b1 c1 op2 a2 b2 c2 : Nat) (A1 A2 : Option Addr) (L1 L2 : List Nat) (S1 S2 : Nat → Prop) (h1 : Reads w S1 1 A1 L1.length (u32s L1)) (h2 : Reads w S2 1 A2 L2.length (u32s L2)) (hs1 : L1.length ≤ 1000000) :
    Calls Try.prog 57 #[.agg (insC (op1 : Int) (a1 : Int) (b1 : Int) A1 L1.length c1), .agg (insC (op2 : Int) (a2 : Int) (b2 : Int) A2 L2.length c2)] w fun e w' => e = .returned (.bool (sameF op1 a1 b1 L1 op2 a2 b2 L2)) ∧ Step (fun _ => False) w w' := by
  simp only [insC]
  by_cases e1 : op1 = op2
  rotate_left
  · have hq := ne_int e1
    rw [same_no (fun h => e1 h.1)]
    clear h1 h2 e1
    go_enter Try.func57, Try.ntmps57
    go_wp2_with fail
    go_ret
    exact ⟨rfl, (Step.refl.alloc _).alloc _⟩
  subst e1
  have n1 : ((op1 : Int) != (op1 : Int)) = false := by simp
  by_cases e2 : a1 = a2
  rotate_left
  · have hq := ne_int e2
    rw [same_no (fun h => e2 h.2.1)]
    clear h1 h2 e2
    go_enter Try.func57, Try.ntmps57
    go_wp2_with fail
    go_ret
    exact ⟨rfl, (Step.refl.alloc _).alloc _⟩
  subst e2
  have n2 : ((a1 : Int) != (a1 : Int)) = false := by simp
  by_cases e3 : b1 = b2
  rotate_left
  · have hq := ne_int e3
    rw [same_no (fun h => e3 h.2.2.1)]
    clear h1 h2 e3
    go_enter Try.func57, Try.ntmps57
    go_wp2_with fail
    go_ret
    exact ⟨rfl, (Step.refl.alloc _).alloc _⟩
  subst e3
  have n3 : ((b1 : Int) != (b1 : Int)) = false := by simp
  by_cases e4 : L1.length = L2.length
  rotate_left
  · have hq := ne_int e4
    rw [same_no (fun h => e4 (by rw [h.2.2.2]))]
    clear h1 h2 e4
    go_enter Try.func57, Try.ntmps57
    go_wp2_with fail
    go_ret
    exact ⟨rfl, (Step.refl.alloc _).alloc _⟩
  obtain ⟨n, hn⟩ : ∃ n, n = L1.length := ⟨_, rfl⟩
  have HN1 := Lib.hid hn
  have HN2 : Hid (n = L2.length) := by rw [Hid, hn, e4]
  rw [← e4, ← hn]
  rw [← hn] at h1 e4 hs1
  rw [← e4] at h2
  have n4 : ((n : Int) != (n : Int)) = false := by simp
  have H1 := Lib.hid h1
  have H2 := Lib.hid h2
  obtain ⟨R, hR⟩ : ∃ R, R = sameF op1 a1 b1 L1 op1 a1 b1 L2 := ⟨_, rfl⟩
  rw [← hR]
  have HR := Lib.hid hR
  have HB1 := Lib.hid ((Blk.new w 50 #[.int .u8 (op1 : Int), .int .u64 (a1 : Int), .int .u64 (b1 : Int), .slice A1 n c1]).alloc (.cells #[.int .u8 (op1 : Int), .int .u64 (a1 : Int), .int .u64 (b1 : Int), .slice A2 n c2] 50))
  have HB2 : Hid (Blk ((w.alloc (.cells #[.int .u8 (op1 : Int), .int .u64 (a1 : Int), .int .u64 (b1 : Int), .slice A1 n c1] 50)).alloc (.cells #[.int .u8 (op1 : Int), .int .u64 (a1 : Int), .int .u64 (b1 : Int), .slice A2 n c2] 50)) (w.heap.size + 1) 50 #[.int .u8 (op1 : Int), .int .u64 (a1 : Int), .int .u64 (b1 : Int), .slice A2 n c2]) := by
    have hq := Blk.new (w.alloc (.cells #[.int .u8 (op1 : Int), .int .u64 (a1 : Int), .int .u64 (b1 : Int), .slice A1 n c1] 50)) 50 #[.int .u8 (op1 : Int), .int .u64 (a1 : Int), .int .u64 (b1 : Int), .slice A2 n c2]
    rw [show (w.alloc (.cells #[.int .u8 (op1 : Int), .int .u64 (a1 : Int), .int .u64 (b1 : Int), .slice A1 n c1] 50)).heap.size = w.heap.size + 1 by simp] at hq
    exact hq
  have HS : Hid (Step (fun _ => False) w ((w.alloc (.cells #[.int .u8 (op1 : Int), .int .u64 (a1 : Int), .int .u64 (b1 : Int), .slice A1 n c1] 50)).alloc (.cells #[.int .u8 (op1 : Int), .int .u64 (a1 : Int), .int .u64 (b1 : Int), .slice A2 n c2] 50))) := (Step.refl.alloc _).alloc _
  clear hR hn e4 h1 h2
  go_enter Try.func57, Try.ntmps57
  go_wp2_with fail
  go_loopw [38] (fun iv wr => ∃ (j : Nat), j ≤ n ∧ iv = .int .i64 (j : Int) ∧ Hid (L1.take j = L2.take j) ∧ Hid (Step (fun _ => False) w wr) ∧ Hid (Blk wr w.heap.size 50 #[.int .u8 (op1 : Int), .int .u64 (a1 : Int), .int .u64 (b1 : Int), .slice A1 n c1]) ∧ Hid (Blk wr (w.heap.size + 1) 50 #[.int .u8 (op1 : Int), .int .u64 (a1 : Int), .int .u64 (b1 : Int), .slice A2 n c2])) (fun iv _ => n + 1 - (intOf iv).toNat)
  case atStart => exact ⟨0, by omega, rfl, by rw [Hid, List.take_zero, List.take_zero], HS, HB1, HB2⟩
  case round =>
    obtain ⟨j, hj, rfl, HT, HSj, HBj, HCj⟩ := hrel
    have y3 := HBj.out.cell 3
    have z3 := HCj.out.cell 3
    simp at y3 z3
    by_cases hlt : j < n
    · have g1 : (j : Int) < (n : Int) := by omega
      have hw1 := IntWalk.i64_in ((j : Int) + 1) (by omega)
      have hj1 : j < L1.length := by rw [← HN1.out]; exact hlt
      have hj2 : j < L2.length := by rw [← HN2.out]; exact hlt
      obtain ⟨ad, u, rfl, _, hbl, hu, hc⟩ := (H1.out.step HSj.out (fun _ _ => id)).at_ hlt
      rw [u32s_get L1 j hj1] at hu
      injection hu with hu
      subst hu
      obtain ⟨ad2, u, rfl, _, hbl2, hu, hc2⟩ := (H2.out.step HSj.out (fun _ _ => id)).at_ hlt
      rw [u32s_get L2 j hj2] at hu
      injection hu with hu
      subst hu
      have HTn := Lib.hid (fun hx => take_eq HT.out hj1 hj2 hx)
      have HNo : Hid (¬ L1[j] = L2[j] → R = false) := Lib.hid (fun hx => by
        rw [HR.out]
        exact same_no (fun h => hx (by have := h.2.2.2; subst this; rfl)))
      generalize L1[j] = x at *
      generalize L2[j] = y at *
      by_cases hxy : x = y
      · subst hxy
        have n5 : ((x : Int) != (x : Int)) = false := by simp
        go_wp2_with fail
        go_roundw
        case rel => exact ⟨j + 1, by omega, by rw [Int.natCast_add]; rfl, HTn.out (by first | rfl | trivial), HSj, HBj, HCj⟩
        case measure => simp [intOf]; omega
      · have n5 := ne_int hxy
        have hRf := HNo.out hxy
        subst hRf
        go_wp2_with fail
        go_ret
        exact ⟨rfl, HSj.out⟩
    · obtain rfl : j = n := by omega
      have hL : L1 = L2 := by
        have := HT.out
        rwa [show L1.take j = L1 by rw [HN1.out]; exact List.take_length, show L2.take j = L2 by rw [HN2.out]; exact List.take_length] at this
      have hRf : R = true := by rw [HR.out, hL]; exact same_yes _ _ _ _
      subst hRf
      go_wp2_with fail
      go_ret
      exact ⟨rfl, HSj.out⟩

set_option maxRecDepth 100000 in
set_option maxHeartbeats 3200000 in
theorem rsame_walk (w : World) (op1 a1 b1 c1 op2 a2 b2 c2 : Nat) (A1 A2 : Option Addr) (L1 L2 : List Nat) (S1 S2 : Nat → Prop) (h1 : Reads w S1 1 A1 L1.length (u32s L1)) (h2 : Reads w S2 1 A2 L2.length (u32s L2)) (hs1 : L1.length ≤ 1000000) :
    Calls Try.prog 39 #[.agg (insC (op1 : Int) (a1 : Int) (b1 : Int) A1 L1.length c1), .agg (insC (op2 : Int) (a2 : Int) (b2 : Int) A2 L2.length c2)] w fun e w' => e = .returned (.bool (sameF op1 a1 b1 L1 op2 a2 b2 L2)) ∧ Step (fun _ => False) w w' := by
  simp only [insC]
  by_cases e1 : op1 = op2
  rotate_left
  · have hq := ne_int e1
    rw [same_no (fun h => e1 h.1)]
    clear h1 h2 e1
    go_enter Try.func39, Try.ntmps39
    go_wp2_with fail
    go_ret
    exact ⟨rfl, (Step.refl.alloc _).alloc _⟩
  subst e1
  have n1 : ((op1 : Int) != (op1 : Int)) = false := by simp
  by_cases e2 : a1 = a2
  rotate_left
  · have hq := ne_int e2
    rw [same_no (fun h => e2 h.2.1)]
    clear h1 h2 e2
    go_enter Try.func39, Try.ntmps39
    go_wp2_with fail
    go_ret
    exact ⟨rfl, (Step.refl.alloc _).alloc _⟩
  subst e2
  have n2 : ((a1 : Int) != (a1 : Int)) = false := by simp
  by_cases e3 : b1 = b2
  rotate_left
  · have hq := ne_int e3
    rw [same_no (fun h => e3 h.2.2.1)]
    clear h1 h2 e3
    go_enter Try.func39, Try.ntmps39
    go_wp2_with fail
    go_ret
    exact ⟨rfl, (Step.refl.alloc _).alloc _⟩
  subst e3
  have n3 : ((b1 : Int) != (b1 : Int)) = false := by simp
  by_cases e4 : L1.length = L2.length
  rotate_left
  · have hq := ne_int e4
    rw [same_no (fun h => e4 (by rw [h.2.2.2]))]
    clear h1 h2 e4
    go_enter Try.func39, Try.ntmps39
    go_wp2_with fail
    go_ret
    exact ⟨rfl, (Step.refl.alloc _).alloc _⟩
  obtain ⟨n, hn⟩ : ∃ n, n = L1.length := ⟨_, rfl⟩
  have HN1 := Lib.hid hn
  have HN2 : Hid (n = L2.length) := by rw [Hid, hn, e4]
  rw [← e4, ← hn]
  rw [← hn] at h1 e4 hs1
  rw [← e4] at h2
  have n4 : ((n : Int) != (n : Int)) = false := by simp
  have H1 := Lib.hid h1
  have H2 := Lib.hid h2
  obtain ⟨R, hR⟩ : ∃ R, R = sameF op1 a1 b1 L1 op1 a1 b1 L2 := ⟨_, rfl⟩
  rw [← hR]
  have HR := Lib.hid hR
  have HB1 := Lib.hid ((Blk.new w 50 #[.int .u8 (op1 : Int), .int .u64 (a1 : Int), .int .u64 (b1 : Int), .slice A1 n c1]).alloc (.cells #[.int .u8 (op1 : Int), .int .u64 (a1 : Int), .int .u64 (b1 : Int), .slice A2 n c2] 50))
  have HB2 : Hid (Blk ((w.alloc (.cells #[.int .u8 (op1 : Int), .int .u64 (a1 : Int), .int .u64 (b1 : Int), .slice A1 n c1] 50)).alloc (.cells #[.int .u8 (op1 : Int), .int .u64 (a1 : Int), .int .u64 (b1 : Int), .slice A2 n c2] 50)) (w.heap.size + 1) 50 #[.int .u8 (op1 : Int), .int .u64 (a1 : Int), .int .u64 (b1 : Int), .slice A2 n c2]) := by
    have hq := Blk.new (w.alloc (.cells #[.int .u8 (op1 : Int), .int .u64 (a1 : Int), .int .u64 (b1 : Int), .slice A1 n c1] 50)) 50 #[.int .u8 (op1 : Int), .int .u64 (a1 : Int), .int .u64 (b1 : Int), .slice A2 n c2]
    rw [show (w.alloc (.cells #[.int .u8 (op1 : Int), .int .u64 (a1 : Int), .int .u64 (b1 : Int), .slice A1 n c1] 50)).heap.size = w.heap.size + 1 by simp] at hq
    exact hq
  have HS : Hid (Step (fun _ => False) w ((w.alloc (.cells #[.int .u8 (op1 : Int), .int .u64 (a1 : Int), .int .u64 (b1 : Int), .slice A1 n c1] 50)).alloc (.cells #[.int .u8 (op1 : Int), .int .u64 (a1 : Int), .int .u64 (b1 : Int), .slice A2 n c2] 50))) := (Step.refl.alloc _).alloc _
  clear hR hn e4 h1 h2
  go_enter Try.func39, Try.ntmps39
  go_wp2_with fail
  go_loopw [5] (fun iv wr => ∃ (j : Nat), j ≤ n ∧ iv = .int .i64 (j : Int) ∧ Hid (L1.take j = L2.take j) ∧ Hid (Step (fun _ => False) w wr) ∧ Hid (Blk wr w.heap.size 50 #[.int .u8 (op1 : Int), .int .u64 (a1 : Int), .int .u64 (b1 : Int), .slice A1 n c1]) ∧ Hid (Blk wr (w.heap.size + 1) 50 #[.int .u8 (op1 : Int), .int .u64 (a1 : Int), .int .u64 (b1 : Int), .slice A2 n c2])) (fun iv _ => n + 1 - (intOf iv).toNat)
  case atStart => exact ⟨0, by omega, rfl, by rw [Hid, List.take_zero, List.take_zero], HS, HB1, HB2⟩
  case round =>
    obtain ⟨j, hj, rfl, HT, HSj, HBj, HCj⟩ := hrel
    have y3 := HBj.out.cell 3
    have z3 := HCj.out.cell 3
    simp at y3 z3
    by_cases hlt : j < n
    · have g1 : (j : Int) < (n : Int) := by omega
      have hw1 := IntWalk.i64_in ((j : Int) + 1) (by omega)
      have hj1 : j < L1.length := by rw [← HN1.out]; exact hlt
      have hj2 : j < L2.length := by rw [← HN2.out]; exact hlt
      obtain ⟨ad, u, rfl, _, hbl, hu, hc⟩ := (H1.out.step HSj.out (fun _ _ => id)).at_ hlt
      rw [u32s_get L1 j hj1] at hu
      injection hu with hu
      subst hu
      obtain ⟨ad2, u, rfl, _, hbl2, hu, hc2⟩ := (H2.out.step HSj.out (fun _ _ => id)).at_ hlt
      rw [u32s_get L2 j hj2] at hu
      injection hu with hu
      subst hu
      have HTn := Lib.hid (fun hx => take_eq HT.out hj1 hj2 hx)
      have HNo : Hid (¬ L1[j] = L2[j] → R = false) := Lib.hid (fun hx => by
        rw [HR.out]
        exact same_no (fun h => hx (by have := h.2.2.2; subst this; rfl)))
      generalize L1[j] = x at *
      generalize L2[j] = y at *
      by_cases hxy : x = y
      · subst hxy
        have n5 : ((x : Int) != (x : Int)) = false := by simp
        go_wp2_with fail
        go_quiet (fail)
        go_wp2_with fail
        go_roundw
        case rel => exact ⟨j + 1, by omega, by rw [Int.natCast_add]; rfl, HTn.out (by first | rfl | trivial), HSj.out.drewN _, HBj.out.drewN _, HCj.out.drewN _⟩
        case measure => simp [intOf]; omega
      · have n5 := ne_int hxy
        have hRf := HNo.out hxy
        subst hRf
        go_wp2_with fail
        go_quiet (fail)
        go_wp2_with fail
        go_ret
        exact ⟨rfl, HSj.out.drewN _⟩
    · obtain rfl : j = n := by omega
      have hL : L1 = L2 := by
        have := HT.out
        rwa [show L1.take j = L1 by rw [HN1.out]; exact List.take_length, show L2.take j = L2 by rw [HN2.out]; exact List.take_length] at this
      have hRf : R = true := by rw [HR.out, hL]; exact same_yes _ _ _ _
      subst hRf
      go_wp2_with fail
      go_ret
      exact ⟨rfl, HSj.out⟩
end Go.Proofs.Ytfemeendkjcffaa
