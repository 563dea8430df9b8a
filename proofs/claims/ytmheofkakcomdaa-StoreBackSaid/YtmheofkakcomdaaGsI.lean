/-
  store: New, as a store with its globals and its owners.
-/
import Derived.Test.YtmheofkakcomdaaGsH
import Derived.Test.YtmheofkakcomdaaGsG
set_option linter.unusedVariables false
set_option linter.unusedSimpArgs false
namespace Go.Proofs.Ytmheofkakcomdaa
open Go.RowKit
theorem fnew_blk (w : World) : Calls Try.prog 35 #[] w fun e w' => e = .returned (.pointer (some ⟨w.heap.size, 0, none⟩)) ∧ w' = w.alloc (.cells #[.slice none 0 0, .slice none 0 0] 123) := by
  go_enter Try.func35, Try.ntmps35
  go_wp2_with fail
  go_ret
  exact ⟨rfl, rfl⟩
set_option maxRecDepth 100000 in
set_option maxHeartbeats 1600000 in
theorem g_new (w : World) (B : Nat) (hB : B ≤ w.heap.size) :
    Calls Try.prog 7 #[.agg #[.int .i64 1, .int .i64 3, .int .i64 8, .int .i64 12]] w fun e w' => ∃ s : Sg, e = .returned (.tuple #[.pointer (some ⟨s.S, 0, none⟩), .int .i64 0]) ∧
      Gw w' B s ∧ s.vs = [] ∧ s.nn = 0 ∧ s.f = (fun _ => none) ∧ s.A = none ∧ (∀ k, s.foot k → w.heap.size ≤ k) ∧ Step (fun _ => False) w w' := by
  have hmm := @run_makeMap Try.prog
  have HB := Lib.hid (Blk.new w 30 #[.int .i64 1, .int .i64 3, .int .i64 8, .int .i64 12])
  obtain ⟨H, hH⟩ : ∃ H, H = w.heap.size := ⟨_, rfl⟩
  rw [← hH] at HB
  have HH := Lib.hid hH
  have HM := Lib.hid (fun W (hW : B ≤ W.heap.size) => mnew_ok W 1 3 B (by decide) (by decide) hW)
  have HT := Lib.hid (fun W (hW : B ≤ W.heap.size) => tnew_ok W 8 12 B (by decide) (by decide) hW)
  clear hH
  go_enter Try.func7, Try.ntmps7
  go_wp2_with fail
  refine (HM.out _ (by simp; omega)).mono ?_
  rintro e w1 ⟨M, A, c, rfl, _, hS, _, _⟩
  have HB1 := Lib.hid (HB.out.step hS id)
  have HS := Lib.hid ((Step.refl.alloc (F := fun _ => False) _).trans hS)
  rw [← HH.out]
  have c2 := HB1.out.cell 2
  have c3 := HB1.out.cell 3
  simp at c2 c3
  clear hS HB HH HM
  go_wp2_with fail
  refine (HT.out _ (Nat.le_trans hB HS.out.size)).mono ?_
  rintro e w2 ⟨T, At, ct, rfl, _, hS2, _⟩
  have HS2 := Lib.hid (HS.out.trans hS2)
  clear hS2 HS HB1 c2 c3 HT
  go_wp2_with fail
  refine (fnew_blk _).mono ?_
  rintro e w3 ⟨rfl, hw3⟩
  obtain ⟨Fu, hFu⟩ : ∃ Fu, Fu = w2.heap.size := ⟨_, rfl⟩
  rw [← hFu]
  have hF := Blk.new w2 123 #[.slice none 0 0, .slice none 0 0]
  rw [← hw3, ← hFu] at hF
  have HF := Lib.hid hF
  have HS3 : Hid (Step (fun _ => False) w w3) := by rw [hw3]; exact HS2.out.alloc _
  clear HS2 hFu hw3 hF
  obtain ⟨D, hD⟩ := MapI.made Try.prog w3 3
  obtain ⟨K9, hK9⟩ : ∃ K9, K9 = w3.heap.size := ⟨_, rfl⟩
  rw [← hK9] at hD
  have HD := Lib.hid hD
  have HFm := Lib.hid (HF.out.alloc (.map #[] 0))
  have HSm := Lib.hid (HS3.out.alloc (.map #[] 0))
  have HK9 := Lib.hid (show w.heap.size ≤ K9 by rw [hK9]; exact HS3.out.size)
  clear hD HF
  go_wp2_with fail
  have hBa : B ≤ (w3.alloc (.map #[] 0)).heap.size := by have := HSm.out.size; omega
  refine (jnew_ok _ B hBa).mono ?_
  rintro e w4 ⟨rfl, hj, hS4⟩
  have HJ := Lib.hid hj
  have HF4 := Lib.hid (HFm.out.step hS4 id)
  have HD4 := Lib.hid (HD.out.step hS4 id)
  have HS4 := Lib.hid (HSm.out.trans hS4)
  obtain ⟨J, hJ⟩ : ∃ J, J = (w3.alloc (.map #[] 0)).heap.size := ⟨_, rfl⟩
  rw [← hJ] at HJ ⊢
  rw [← hK9]
  clear hj hS4 hJ hK9 HS3 hBa hmm HFm HD HSm
  go_wp2_with fail
  go_ret2
  have hal : Step (fun _ => False) w4 (w4.alloc (.cells #[.pointer (some ⟨M, 0, none⟩), .pointer (some ⟨T, 0, none⟩), .pointer (some ⟨Fu, 0, none⟩), .slice none 0 0, .map (some K9), .pointer (some ⟨J, 0, none⟩)] 79)) := Step.refl.alloc _
  exact ⟨⟨w4.heap.size, M, T, Fu, J, none, 0, [], K9, 0, fun _ => none, D⟩, rfl, ⟨Blk.new _ _ _, HF4.out.step hal id, HJ.out.quiet hal, World.ownsRow_nil _ _ _ _, HD4.out.step hal id, Nat.le_trans hB HS4.out.size, Nat.le_trans hB HK9.out⟩, rfl, rfl, rfl, rfl, fun k hk => by
    rcases hk with rfl | rfl | hk
    · exact HS4.out.size
    · exact HK9.out
    · simp [blkOf] at hk, HS4.out.trans hal⟩
end Go.Proofs.Ytmheofkakcomdaa
