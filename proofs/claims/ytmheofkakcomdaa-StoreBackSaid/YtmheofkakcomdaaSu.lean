/-
  store: New, Begin, Write, SetSlot.
-/
import Derived.Test.YtmheofkakcomdaaSs
set_option linter.unusedVariables false
set_option linter.unusedSimpArgs false
namespace Go.Proofs.Ytmheofkakcomdaa
open Go.RowKit

theorem fnew_ok (w : World) : Calls Try.prog 35 #[] w fun e w' => e = .returned (.pointer (some ⟨w.heap.size, 0, none⟩)) ∧ Step (fun _ => False) w w' := by
  go_enter Try.func35, Try.ntmps35
  go_wp2_with fail
  go_ret
  exact ⟨rfl, Step.refl.alloc _⟩
set_option maxRecDepth 100000 in
set_option maxHeartbeats 1600000 in
theorem snew_err (w : World) (p m q r : Int) (hq : q < 0 ∨ r < q ∨ 1048576 < r ∨ p < 0 ∨ m < p ∨ 256 < m) :
    Calls Try.prog 7 #[.agg #[.int .i64 p, .int .i64 m, .int .i64 q, .int .i64 r]] w fun e w' => e = .returned (.tuple #[.pointer none, .int .i64 26]) ∧ Step (fun _ => False) w w' := by
  have HM1 : Hid (∀ w, (p < 0 ∨ m < p ∨ 256 < m) → Calls Try.prog 33 #[.int .i64 p, .int .i64 m] w fun e w' => e = .returned (.tuple #[.pointer none, .int .i64 26]) ∧ w' = w) := fun w h => mnew_err w p m h
  have HT1 : Hid (∀ w, (q < 0 ∨ r < q ∨ 1048576 < r) → Calls Try.prog 34 #[.int .i64 q, .int .i64 r] w fun e w' => e = .returned (.tuple #[.pointer none, .int .i64 26]) ∧ w' = w) := fun w h => tnew_err w q r h
  by_cases hp : p < 0 ∨ m < p ∨ 256 < m
  · have HP := Lib.hid hp
    clear hp hq
    go_enter Try.func7, Try.ntmps7
    go_wp2_with fail
    refine (HM1.out _ HP.out).mono ?_
    rintro e w1 ⟨rfl, rfl⟩
    go_wp2_with fail
    go_ret2
    exact ⟨rfl, Step.refl.alloc _⟩
  · obtain ⟨k, rfl⟩ : ∃ k : Nat, p = k := ⟨p.toNat, by omega⟩
    have HQ : Hid (q < 0 ∨ r < q ∨ 1048576 < r) := by show q < 0 ∨ _; omega
    have HK : Hid ((k : Int) ≤ m ∧ m ≤ 256) := by show (k : Int) ≤ m ∧ m ≤ 256; omega
    have HB := Lib.hid (Blk.new w 30 #[.int .i64 (k : Int), .int .i64 m, .int .i64 q, .int .i64 r])
    obtain ⟨H, hH⟩ : ∃ H, H = w.heap.size := ⟨_, rfl⟩
    rw [← hH] at HB
    have HH := Lib.hid hH
    clear hp hq hH
    go_enter Try.func7, Try.ntmps7
    go_wp2_with fail
    refine (mnew_ok _ k m 0 HK.out.1 HK.out.2 (Nat.zero_le _)).mono ?_
    rintro e w1 ⟨M, A, c, rfl, _, hS, _, _⟩
    have HB1 := Lib.hid (HB.out.step hS id)
    have HS := Lib.hid ((Step.refl.alloc (F := fun _ => False) _).trans hS)
    rw [← HH.out]
    have c2 := HB1.out.cell 2
    have c3 := HB1.out.cell 3
    simp at c2 c3
    clear hS HB HH
    go_wp2_with fail
    refine (HT1.out _ HQ.out).mono ?_
    rintro e w2 ⟨rfl, rfl⟩
    go_wp2_with fail
    go_ret2
    exact ⟨rfl, HS.out⟩
set_option maxRecDepth 100000 in
set_option maxHeartbeats 1600000 in
theorem snew_ok (w : World) (p q : Nat) (m r : Int) (B : Nat) (h1 : (p : Int) ≤ m) (h2 : m ≤ 256) (h3 : (q : Int) ≤ r) (h4 : r ≤ 1048576) (hB : B ≤ w.heap.size) :
    Calls Try.prog 7 #[.agg #[.int .i64 (p : Int), .int .i64 m, .int .i64 (q : Int), .int .i64 r]] w fun e w' => ∃ S M T Fu J A c At ct K, e = .returned (.tuple #[.pointer (some ⟨S, 0, none⟩), .int .i64 0]) ∧
      Stw w' B ⟨S, M, T, Fu, J, A, p * 65536, c, m, List.replicate (p * 65536) 0, At, q, ct, r, List.replicate q (-1), none, 0, 0, [], none, 0, 0, [], .slice none 0 0, .map (some K)⟩ ∧ Step (fun _ => False) w w' := by
  have hmm := @run_makeMap Try.prog
  have HK : Hid ((p : Int) ≤ m ∧ m ≤ 256 ∧ (q : Int) ≤ r ∧ r ≤ 1048576) := ⟨h1, h2, h3, h4⟩
  have HB := Lib.hid (Blk.new w 30 #[.int .i64 (p : Int), .int .i64 m, .int .i64 (q : Int), .int .i64 r])
  obtain ⟨H, hH⟩ : ∃ H, H = w.heap.size := ⟨_, rfl⟩
  rw [← hH] at HB
  have HH := Lib.hid hH
  clear h1 h2 h3 h4 hH
  go_enter Try.func7, Try.ntmps7
  go_wp2_with fail
  refine (mnew_ok _ p m B HK.out.1 HK.out.2.1 (by simp; omega)).mono ?_
  rintro e w1 ⟨M, A, c, rfl, hm, hS, _, _⟩
  have HB1 := Lib.hid (HB.out.step hS id)
  have HS := Lib.hid ((Step.refl.alloc (F := fun _ => False) _).trans hS)
  have HM := Lib.hid hm
  rw [← HH.out]
  have c2 := HB1.out.cell 2
  have c3 := HB1.out.cell 3
  simp at c2 c3
  clear hS HB HH hm
  go_wp2_with fail
  refine (tnew_ok _ q r B HK.out.2.2.1 HK.out.2.2.2 (Nat.le_trans hB HS.out.size)).mono ?_
  rintro e w2 ⟨T, At, ct, rfl, ht, hS2, _⟩
  have HT := Lib.hid ht
  have HM2 := Lib.hid (HM.out.quiet hS2)
  have HS2 := Lib.hid (HS.out.trans hS2)
  clear ht hS2 HM HS HB1 c2 c3
  go_wp2_with fail
  refine (fnew_ok _).mono ?_
  rintro e w3 ⟨rfl, hS3⟩
  obtain ⟨Fu, hFu⟩ : ∃ Fu, Fu = w2.heap.size := ⟨_, rfl⟩
  rw [← hFu]
  have HT3 := Lib.hid (HT.out.quiet hS3)
  have HM3 := Lib.hid (HM2.out.quiet hS3)
  have HS3 := Lib.hid (HS2.out.trans hS3)
  clear hS3 HT HM2 HS2 hFu
  go_wp2_with fail
  have hBa : B ≤ (w3.alloc (.map #[] 0)).heap.size := by have := HS3.out.size; simp; omega
  refine (jnew_ok _ B hBa).mono ?_
  rintro e w4 ⟨rfl, hj, hS4⟩
  have hS4b := (Step.refl.alloc (F := fun _ => False) (w := w3) (.map #[] 0)).trans hS4
  have HJ := Lib.hid hj
  have HT4 := Lib.hid (HT3.out.quiet hS4b)
  have HM4 := Lib.hid (HM3.out.quiet hS4b)
  have HS4 := Lib.hid (HS3.out.trans hS4b)
  obtain ⟨J, hJ⟩ : ∃ J, J = (w3.alloc (.map #[] 0)).heap.size := ⟨_, rfl⟩
  rw [← hJ] at HJ ⊢
  obtain ⟨K9, hK9⟩ : ∃ K9, K9 = w3.heap.size := ⟨_, rfl⟩
  rw [← hK9]
  clear hj hS4 hS4b hJ hK9 HT3 HM3 HS3 hBa hmm
  go_wp2_with fail
  go_ret2
  have hal : Step (fun _ => False) w4 (w4.alloc (.cells #[.pointer (some ⟨M, 0, none⟩), .pointer (some ⟨T, 0, none⟩), .pointer (some ⟨Fu, 0, none⟩), .slice none 0 0, .map (some K9), .pointer (some ⟨J, 0, none⟩)] 79)) := Step.refl.alloc _
  exact ⟨_, M, T, Fu, J, A, c, At, ct, K9, rfl, ⟨Blk.new _ _ _, HM4.out.quiet hal, HT4.out.quiet hal, HJ.out.quiet hal, fun k _ e => by simp [blkOf] at e, Nat.le_trans hB HS4.out.size⟩, HS4.out.trans hal⟩
end Go.Proofs.Ytmheofkakcomdaa
