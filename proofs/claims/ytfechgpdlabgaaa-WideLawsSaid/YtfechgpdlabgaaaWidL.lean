/-
  creelref19: quotient.
-/
import Derived.Test.YtfechgpdlabgaaaWidK
set_option linter.unusedVariables false
set_option linter.unusedSimpArgs false
namespace Go.Proofs.Ytfechgpdlabgaaa
open Go.RowKit Wide
/-- div_s, div_u, rem_s, rem_u: the number, the error's number. -/
def quotF (k a b : Nat) : Nat × Int :=
  if b = 0 then (0, 61) else
  let q := if k % 2 = 0 then sgnQ a b else a / b
  let r := if k % 2 = 0 then sgnR a b else a % b
  if k = 0 ∧ a.testBit 63 = true ∧ b.testBit 63 = true ∧ q.testBit 63 = true then (0, 62) else if k < 2 then (q, 0) else (r, 0)
def QRet (w : World) (r : Nat × Int) (e : Ending) (w' : World) : Prop := e = .returned (.tuple #[.int .u64 (r.1 : Int), .int .i64 r.2]) ∧ Step (fun _ => False) w w'
theorem sgnQ_lt {a b : Nat} (h : a < 2 ^ 64) : sgnQ a b < 2 ^ 64 := by
  unfold sgnQ
  split
  · exact negN_lt _
  · exact Nat.lt_of_le_of_lt (Nat.div_le_self _ _) (absN_lt h)
theorem sgnR_lt {a b : Nat} (h : b < 2 ^ 64) (h0 : 0 < b) : sgnR a b < 2 ^ 64 := by
  unfold sgnR
  split
  · exact negN_lt _
  · exact Nat.lt_of_lt_of_le (Nat.mod_lt _ (absN_pos h h0)) (Nat.le_of_lt (absN_lt h))

set_option maxRecDepth 100000 in
set_option maxHeartbeats 3200000 in
theorem quot_zero (w : World) (ga gb c c' a b : Nat) (ha : w.ownsRow 0 4 1 (.slice (some ⟨ga, 0, none⟩) 64 c) 64 (bools (bs 64 a))) (hb : w.ownsRow 0 4 1 (.slice (some ⟨gb, 0, none⟩) 64 c') 64 (bools (bs 64 b))) (hla : a < 18446744073709551616) (hlb : b < 18446744073709551616) (k : Nat) (h0 : b = 0) :
    Calls Try.prog 82 #[.int .i64 k, .slice (some ⟨ga, 0, none⟩) 64 c, .slice (some ⟨gb, 0, none⟩) 64 c'] w (QRet w (quotF k a b)) := by
  have HF : Hid (quotF k a b = (0, 61)) := by unfold Hid quotF; rw [if_pos h0]
  subst h0
  go_enter Try.func82, Try.ntmps82
  go_wp2_with fail
  refine (number_n _ _ _ c' 0 (Reads.of_own hb) (by omega)).mono ?_
  rintro e w1 ⟨rfl, rfl⟩
  go_wp2_with fail
  go_ret2
  rw [HF.out]
  exact ⟨rfl, Step.refl⟩

set_option maxRecDepth 100000 in
set_option maxHeartbeats 3200000 in
theorem quot_0 (w : World) (ga gb c c' a b : Nat) (ha : w.ownsRow 0 4 1 (.slice (some ⟨ga, 0, none⟩) 64 c) 64 (bools (bs 64 a))) (hb : w.ownsRow 0 4 1 (.slice (some ⟨gb, 0, none⟩) 64 c') 64 (bools (bs 64 b))) (hla : a < 18446744073709551616) (hlb : b < 18446744073709551616) (h0 : 0 < b) :
    Calls Try.prog 82 #[.int .i64 0, .slice (some ⟨ga, 0, none⟩) 64 c, .slice (some ⟨gb, 0, none⟩) 64 c'] w (QRet w (quotF 0 a b)) := by
  have HF : Hid (quotF 0 a b = if a.testBit 63 = true ∧ b.testBit 63 = true ∧ (sgnQ a b).testBit 63 = true then (0, 62) else (sgnQ a b, 0)) := by unfold Hid quotF; rw [if_neg (by omega)]; simp
  obtain ⟨_, e1, _, gal, hca, _⟩ := row_at ha
  obtain rfl : ga = _ := by injection e1 with e1; injection e1
  obtain ⟨_, e2, _, gbl, hcb, _⟩ := row_at hb
  obtain rfl : gb = _ := by injection e2 with e2; injection e2
  have ca := hca 63 (by omega)
  have cb := hcb 63 (by omega)
  clear e1 e2 hca hcb
  generalize a.testBit 63 = ta at *
  generalize b.testBit 63 = tb at *
  have hn0 : ((b : Int) == 0) = false := by simp; omega
  have Hpos := Lib.hid h0
  have HLA := Lib.hid hla
  have HLB := Lib.hid hlb
  have HQ : Hid ((sgnQ a b) < 18446744073709551616) := sgnQ_lt (by simpa using hla)
  have HR : Hid ((sgnR a b) < 18446744073709551616) := sgnR_lt (by simpa using hlb) h0
  go_enter Try.func82, Try.ntmps82
  go_wp2_with fail
  refine (number_n _ _ _ c' b (Reads.of_own hb) hlb).mono ?_
  rintro e w1 ⟨rfl, rfl⟩
  go_wp2_with fail
  refine (divide_any _ _ _ _ _ _ _ a b (Reads.of_own ha) (Reads.of_own hb) hla hlb h0).mono ?_
  rintro e w3 ⟨A3, c3, A4, c4, rfl, h3, h4, s3⟩
  go_wp2_with fail
  refine (signed_any _ ga gb c c' a b (own_below ha s3) (own_below hb s3) (by simpa using hla) (by simpa using hlb) h0).mono ?_
  rintro e w5 ⟨A5, c5, A6, c6, rfl, h5, h6, s5⟩
  have t5 := s3.trans s5
  have ca5 := (t5.cell (p := ⟨ga, 63, none⟩) gal id).trans ca
  have cb5 := (t5.cell (p := ⟨gb, 63, none⟩) gbl id).trans cb
  obtain ⟨gq, rfl, _, _, hcq, _⟩ := row_at h5
  have cq := hcq 63 (by omega)
  clear hcq ca cb
  generalize (sgnQ a b).testBit 63 = tq at *
  cases ta <;> cases tb <;> cases tq
  all_goals
    go_wp2_with fail
    first
      | go_quiet (fail)
      | skip
    go_wp2_with fail
    first
      | (refine (number_n _ _ _ _ _ ((Reads.of_own h5).step (Step.refl.drewN _) (fun _ _ => id)) HQ.out).mono ?_; rintro e w1 ⟨rfl, rfl⟩)
      | (refine (number_n _ _ _ _ _ (Reads.of_own h5) HQ.out).mono ?_; rintro e w1 ⟨rfl, rfl⟩)
      | skip
    go_wp2_with fail
    go_ret2
    rw [HF.out]
    first | exact ⟨rfl, t5⟩ | exact ⟨rfl, t5.drewN _⟩
set_option maxRecDepth 100000 in
set_option maxHeartbeats 3200000 in
theorem quot_1 (w : World) (ga gb c c' a b : Nat) (ha : w.ownsRow 0 4 1 (.slice (some ⟨ga, 0, none⟩) 64 c) 64 (bools (bs 64 a))) (hb : w.ownsRow 0 4 1 (.slice (some ⟨gb, 0, none⟩) 64 c') 64 (bools (bs 64 b))) (hla : a < 18446744073709551616) (hlb : b < 18446744073709551616) (h0 : 0 < b) :
    Calls Try.prog 82 #[.int .i64 1, .slice (some ⟨ga, 0, none⟩) 64 c, .slice (some ⟨gb, 0, none⟩) 64 c'] w (QRet w (quotF 1 a b)) := by
  have HF : Hid (quotF 1 a b = (a / b, 0)) := by unfold Hid quotF; rw [if_neg (by omega)]; simp
  have hn0 : ((b : Int) == 0) = false := by simp; omega
  have Hpos := Lib.hid h0
  have HLA := Lib.hid hla
  have HLB := Lib.hid hlb
  have HQ : Hid ((a / b) < 18446744073709551616) := Nat.lt_of_le_of_lt (Nat.div_le_self _ _) hla
  have HR : Hid ((a % b) < 18446744073709551616) := Nat.lt_trans (Nat.mod_lt _ h0) hlb
  go_enter Try.func82, Try.ntmps82
  go_wp2_with fail
  refine (number_n _ _ _ c' b (Reads.of_own hb) hlb).mono ?_
  rintro e w1 ⟨rfl, rfl⟩
  go_wp2_with fail
  refine (divide_any _ _ _ _ _ _ _ a b (Reads.of_own ha) (Reads.of_own hb) hla hlb h0).mono ?_
  rintro e w3 ⟨A3, c3, A4, c4, rfl, h3, h4, s3⟩
  go_wp2_with fail
  have t5 := s3
  have h5 := h3
  have h6 := h4
  go_wp2_with fail
  refine (number_n _ _ _ c3 _ (Reads.of_own h5) HQ.out).mono ?_
  rintro e w1 ⟨rfl, rfl⟩
  go_wp2_with fail
  go_ret2
  rw [HF.out]
  exact ⟨rfl, t5⟩

set_option maxRecDepth 100000 in
set_option maxHeartbeats 3200000 in
theorem quot_2 (w : World) (ga gb c c' a b : Nat) (ha : w.ownsRow 0 4 1 (.slice (some ⟨ga, 0, none⟩) 64 c) 64 (bools (bs 64 a))) (hb : w.ownsRow 0 4 1 (.slice (some ⟨gb, 0, none⟩) 64 c') 64 (bools (bs 64 b))) (hla : a < 18446744073709551616) (hlb : b < 18446744073709551616) (h0 : 0 < b) :
    Calls Try.prog 82 #[.int .i64 2, .slice (some ⟨ga, 0, none⟩) 64 c, .slice (some ⟨gb, 0, none⟩) 64 c'] w (QRet w (quotF 2 a b)) := by
  have HF : Hid (quotF 2 a b = (sgnR a b, 0)) := by unfold Hid quotF; rw [if_neg (by omega)]; simp
  have hn0 : ((b : Int) == 0) = false := by simp; omega
  have Hpos := Lib.hid h0
  have HLA := Lib.hid hla
  have HLB := Lib.hid hlb
  have HQ : Hid ((sgnQ a b) < 18446744073709551616) := sgnQ_lt (by simpa using hla)
  have HR : Hid ((sgnR a b) < 18446744073709551616) := sgnR_lt (by simpa using hlb) h0
  go_enter Try.func82, Try.ntmps82
  go_wp2_with fail
  refine (number_n _ _ _ c' b (Reads.of_own hb) hlb).mono ?_
  rintro e w1 ⟨rfl, rfl⟩
  go_wp2_with fail
  refine (divide_any _ _ _ _ _ _ _ a b (Reads.of_own ha) (Reads.of_own hb) hla hlb h0).mono ?_
  rintro e w3 ⟨A3, c3, A4, c4, rfl, h3, h4, s3⟩
  go_wp2_with fail
  refine (signed_any _ ga gb c c' a b (own_below ha s3) (own_below hb s3) (by simpa using hla) (by simpa using hlb) h0).mono ?_
  rintro e w5 ⟨A5, c5, A6, c6, rfl, h5, h6, s5⟩
  have t5 := s3.trans s5
  go_wp2_with fail
  refine (number_n _ _ _ c6 _ (Reads.of_own h6) HR.out).mono ?_
  rintro e w1 ⟨rfl, rfl⟩
  go_wp2_with fail
  go_ret2
  rw [HF.out]
  exact ⟨rfl, t5⟩

set_option maxRecDepth 100000 in
set_option maxHeartbeats 3200000 in
theorem quot_3 (w : World) (ga gb c c' a b : Nat) (ha : w.ownsRow 0 4 1 (.slice (some ⟨ga, 0, none⟩) 64 c) 64 (bools (bs 64 a))) (hb : w.ownsRow 0 4 1 (.slice (some ⟨gb, 0, none⟩) 64 c') 64 (bools (bs 64 b))) (hla : a < 18446744073709551616) (hlb : b < 18446744073709551616) (h0 : 0 < b) :
    Calls Try.prog 82 #[.int .i64 3, .slice (some ⟨ga, 0, none⟩) 64 c, .slice (some ⟨gb, 0, none⟩) 64 c'] w (QRet w (quotF 3 a b)) := by
  have HF : Hid (quotF 3 a b = (a % b, 0)) := by unfold Hid quotF; rw [if_neg (by omega)]; simp
  have hn0 : ((b : Int) == 0) = false := by simp; omega
  have Hpos := Lib.hid h0
  have HLA := Lib.hid hla
  have HLB := Lib.hid hlb
  have HQ : Hid ((a / b) < 18446744073709551616) := Nat.lt_of_le_of_lt (Nat.div_le_self _ _) hla
  have HR : Hid ((a % b) < 18446744073709551616) := Nat.lt_trans (Nat.mod_lt _ h0) hlb
  go_enter Try.func82, Try.ntmps82
  go_wp2_with fail
  refine (number_n _ _ _ c' b (Reads.of_own hb) hlb).mono ?_
  rintro e w1 ⟨rfl, rfl⟩
  go_wp2_with fail
  refine (divide_any _ _ _ _ _ _ _ a b (Reads.of_own ha) (Reads.of_own hb) hla hlb h0).mono ?_
  rintro e w3 ⟨A3, c3, A4, c4, rfl, h3, h4, s3⟩
  go_wp2_with fail
  have t5 := s3
  have h5 := h3
  have h6 := h4
  go_wp2_with fail
  refine (number_n _ _ _ c4 _ (Reads.of_own h6) HR.out).mono ?_
  rintro e w1 ⟨rfl, rfl⟩
  go_wp2_with fail
  go_ret2
  rw [HF.out]
  exact ⟨rfl, t5⟩

end Go.Proofs.Ytfechgpdlabgaaa
