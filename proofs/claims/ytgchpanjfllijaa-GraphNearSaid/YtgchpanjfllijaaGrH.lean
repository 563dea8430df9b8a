/-
  Graph: the statement GraphOrders, walked.
-/
import Derived.Test.YtgchpanjfllijaaGrG
set_option linter.unusedVariables false
set_option linter.unusedSimpArgs false
namespace Go.Proofs.Ytgchpanjfllijaa
open Go.RowKit

theorem rowsOf_len (l : List Rw) (h : l.length ≤ 15) : (rowsOf l).length ≤ 15 := by
  have := rowsOf_le l l.length (Nat.le_refl _)
  rw [List.take_length] at this
  omega

set_option maxRecDepth 100000 in
set_option maxHeartbeats 1600000 in
theorem orders_walk (w : World) (A : Option Addr) (c : Nat) (l : List Rw) (root : Nm) (hv : Reads w (fun k => k < w.heap.size) 2 A l.length (rws l)) (hl : l.length ≤ 9223372036854775807)
    (hT : ∀ r ∈ l, Told w w.heap.size r) (hn : ∀ r ∈ l, r.needs.length ≤ 9223372036854775807) (hroot : root.length ≤ maxLen) :
    Calls Try.prog 3 #[.slice A l.length c, .string (str root)] w fun e w' => e = .returned (.bool true) ∧ Below w.heap.size w w' := by
  have HT := Lib.hid hT
  have HV := Lib.hid hv
  have HN := Lib.hid hn
  clear hT hv hn
  go_enter Try.func3, Try.ntmps3
  go_wp2_with fail
  refine (awake35 w).mono ?_
  rintro e w1 ⟨rfl, hS1⟩
  have HV1 := Lib.hid ((HV.out.step hS1 (fun _ _ => id)).mono (S' := fun k => k < w1.heap.size) (fun k hk _ => hk))
  have HS1 := Lib.hid hS1
  clear hS1
  go_wp2_with fail
  refine (made_walk HV1.out hl (fun r hr => ⟨(HT.out r hr).2.2.1, HN.out r hr⟩)).mono ?_
  rintro e w2 ⟨hS2, rfl | ⟨D, cc, n, rfl, hM, hn15, hO, hl15, hnd⟩⟩
  · go_wp2_with fail
    go_ret
    exact ⟨rfl, (HS1.out.trans hS2).below w.heap.size (fun _ _ h => h.elim) (Nat.le_refl _)⟩
  · have hrows := rowsOf_len l hl15
    have HND : Hid (∀ r ∈ rowsOf l, r.needs.length ≤ 15) := Lib.hid fun r hr => hnd r (rowsOf_mem hr)
    have HS2 := Lib.hid (HS1.out.trans hS2)
    have HT2 : Hid (∀ r ∈ rowsOf l, Told w2 w.heap.size r) := Lib.hid fun r hr => (HT.out r (rowsOf_mem hr)).step HS2.out (fun _ _ => id)
    have HM := Lib.hid hM
    have HO := Lib.hid hO
    have HR2 := Lib.hid ((Reads.of_own hO).mono (S' := fun k => k < w2.heap.size) (fun k hk _ => hk))
    generalize rowsOf l = rows at *
    clear hM hO hnd hS2
    have hle2 := HS2.out.size
    go_wp2_with fail
    refine (order_walk hrows HND.out root hroot (fun r hr => ⟨((HT2.out r hr).1.mono (fun k hk _ => hk)), (HT2.out r hr).2⟩) HM.out).mono ?_
    rintro e w3 ⟨hS3, hR3⟩
    have HS3 := Lib.hid (HS2.out.trans hS3)
    have HR3' := Lib.hid ((HR2.out.step hS3 (fun _ _ => id)).mono (S' := fun k => k < w3.heap.size) (fun k hk _ => hk))
    have HT3 : Hid (∀ r ∈ rows, Told w3 w.heap.size r) := Lib.hid fun r hr => (HT2.out r hr).step hS3 (fun _ _ => id)
    have HI : Hid (Inv rows [] []) := Lib.hid ⟨⟨List.nodup_nil, by simp⟩, ⟨List.nodup_nil, by simp⟩, by simp⟩
    have hemp := str_toList []
    cases hR : visF rows (rows.length + 1) [] [] root with
    | error x =>
      rw [hR] at hR3
      dsimp only at hR3
      subst hR3
      have HRR := Lib.hid hR
      have hcode := visF_code _ [] [] root x hR
      obtain ⟨x1, x2⟩ := x
      have hne : ¬ x2 = 0 := by rcases hcode with h | h <;> dsimp only at h <;> omega
      have hE := seq_t (x := x1) rfl
      clear hS3 hR
      go_wp2_with fail
      refine (r35_visit (B := w.heap.size) hrows HND.out D cc (rows.length + 1) [] [] root w3 none none 0 0 HI.out (by simp) (by have := HS3.out.size; omega) HT3.out HR3'.out Reads.nil_ Reads.nil_).mono ?_
      rintro e w4 ⟨hS4, hR4⟩
      rw [HRR.out] at hR4
      obtain ⟨v, rfl⟩ := hR4
      have HS4 := Lib.hid (HS3.out.trans hS4)
      clear hS4
      go_wp2_with fail
      go_ret
      exact ⟨rfl, HS4.out.below w.heap.size (fun _ _ h => h.elim) (Nat.le_refl _)⟩
    | ok d =>
      rw [hR] at hR3
      obtain ⟨D3, c3, rfl, hD3⟩ := hR3
      have HRR := Lib.hid hR
      have HD3 := Lib.hid hD3
      have hdl : d.length ≤ 15 := by
        have := (visF_inv _ [] [] root d HI.out (by simp) hR).1.dn.le
        omega
      clear hS3 hR hD3
      go_wp2_with fail
      refine (r35_visit (B := w.heap.size) hrows HND.out D cc (rows.length + 1) [] [] root w3 none none 0 0 HI.out (by simp) (by have := HS3.out.size; omega) HT3.out HR3'.out Reads.nil_ Reads.nil_).mono ?_
      rintro e w4 ⟨hS4, hR4⟩
      rw [HRR.out] at hR4
      obtain ⟨D4, c4, rfl, hD4⟩ := hR4
      have HS4 := Lib.hid (HS3.out.trans hS4)
      have HD34 := Lib.hid (HD3.out.step hS4 (fun _ _ => id))
      have HD4 := Lib.hid hD4
      clear hS4 hD4
      go_wp2_with fail
      refine (r35_same HD34.out HD4.out (by omega) (by omega)).mono ?_
      rintro e w5 ⟨rfl, hS5⟩
      rw [decide_eq_true rfl]
      have HS5 := Lib.hid (HS4.out.trans hS5)
      clear hS5
      go_wp2_with fail
      go_ret
      exact ⟨rfl, HS5.out.below w.heap.size (fun _ _ h => h.elim) (Nat.le_refl _)⟩
end Go.Proofs.Ytgchpanjfllijaa
