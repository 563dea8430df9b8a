/-
  The laws of layer 19: walks.
-/
import Derived.Test.YtfechgpdlabgaaaWidO
set_option linter.unusedVariables false
set_option linter.unusedSimpArgs false
namespace Go.Proofs.Ytfechgpdlabgaaa
open Go.RowKit Wide
theorem step_below {w w' : World} (h : Step (fun _ => False) w w') : Below w.heap.size w w' := h.below _ (fun _ _ h => h.elim) (Nat.le_refl _)
theorem awake_a : twoF 127 18446744073709551609 2 = (18446744073709551613, 0) := by decide +kernel
theorem awake_b : twoF 129 18446744073709551609 2 = (18446744073709551615, 0) := by decide +kernel
theorem twoW_lit (w : World) (op a b v : Nat) (x : Int) (hop : op < 256) (hla : a < 18446744073709551616) (hlb : b < 18446744073709551616) (h : twoF op a b = (v, x)) :
    Calls Try.prog 38 #[.int .u8 op, .int .u64 a, .int .u64 b] w fun e w' => e = .returned (.tuple #[.int .u64 v, .int .i64 x]) ∧ w = w' := by
  have := twoW_any w op a b hop hla hlb
  rw [h] at this
  exact this
set_option maxRecDepth 100000 in
set_option maxHeartbeats 1600000 in
theorem awake19 (w : World) : Calls Try.prog 37 #[] w fun e w' => e = .returned (.bool true) ∧ w = w' := by
  go_enter Try.func37, Try.ntmps37
  go_wp2_with fail
  refine (twoW_lit w 127 18446744073709551609 2 _ _ (by decide) (by decide) (by decide) awake_a).mono ?_
  rintro e w1 ⟨rfl, rfl⟩
  go_wp2_with fail
  refine (twoW_lit w 129 18446744073709551609 2 _ _ (by decide) (by decide) (by decide) awake_b).mono ?_
  rintro e w1 ⟨rfl, rfl⟩
  go_wp2_with fail
  go_ret
  exact ⟨rfl, rfl⟩
set_option maxRecDepth 100000 in
set_option maxHeartbeats 1600000 in
theorem wideTwo_walk (w : World) (op a b : Nat) (hop : op < 256) (hla : a < 18446744073709551616) (hlb : b < 18446744073709551616) :
    Calls Try.prog 8 #[.int .u8 op, .int .u64 a, .int .u64 b] w fun e w' => e = .returned (.bool true) ∧ Below w.heap.size w w' := by
  have h1 := Lib.hid (fun w => twoW_any w op a b hop hla hlb)
  have h2 := Lib.hid (fun w => two_any w op a b hop hla hlb)
  obtain ⟨v, x⟩ : Nat × Int := twoF op a b
  generalize twoF op a b = r at *
  obtain ⟨v, x⟩ := r
  go_enter Try.func8, Try.ntmps8
  go_wp2_with fail
  refine (awake19 _).mono ?_
  rintro e w1 ⟨rfl, rfl⟩
  go_wp2_with fail
  refine (h1.out _).mono ?_
  rintro e w1 ⟨rfl, rfl⟩
  go_wp2_with fail
  refine (h2.out _).mono ?_
  rintro e w1 ⟨rfl, s1⟩
  go_wp2_with fail
  go_ret
  exact ⟨rfl, step_below s1⟩
set_option maxRecDepth 100000 in
set_option maxHeartbeats 1600000 in
theorem fn_any (w : World) (op a b v : Nat) (hop : op < 256) (hla : a < 18446744073709551616) (hlb : b < 18446744073709551616) (h : (twoF op a b).1 = v) :
    Calls Try.prog 40 #[.int .u8 op, .int .u64 a, .int .u64 b] w fun e w' => e = .returned (.int .u64 v) ∧ w = w' := by
  have h1 := Lib.hid (twoW_any w op a b hop hla hlb)
  generalize twoF op a b = r at *
  obtain ⟨v', x⟩ := r
  obtain rfl : v' = v := h
  go_enter Try.func40, Try.ntmps40
  go_wp2_with fail
  refine h1.out.mono ?_
  rintro e w1 ⟨rfl, rfl⟩
  go_wp2_with fail
  go_ret
  exact ⟨rfl, rfl⟩
theorem twoF_lt {op a b : Nat} (ha : a < 2 ^ 64) (hb : b < 2 ^ 64) (h : op = 124 ∨ op = 126 ∨ op = 137 ∨ op = 133) : (twoF op a b).1 < 18446744073709551616 := by
  rcases h with rfl | rfl | rfl | rfl
  · exact Nat.mod_lt _ (by decide)
  · exact Nat.mod_lt _ (by decide)
  · have := rotlN_lt (n := b % 64) ha (Nat.mod_lt _ (by decide)); exact this
  · have : a ^^^ b < 2 ^ 64 := Nat.xor_lt_two_pow ha hb; exact this

set_option maxRecDepth 100000 in
set_option maxHeartbeats 3200000 in
theorem wideLaws_zero (w : World) (a b : Nat) (hla : a < 18446744073709551616) (hlb : b < 18446744073709551616) (h0 : b = 0) :
    Calls Try.prog 9 #[.int .u64 a, .int .u64 b] w fun e w' => e = .returned (.bool true) ∧ w = w' := by
  have Q1 : Hid (twoF 127 a b = (0, 61)) := by unfold Hid; subst h0; rfl
  have Q2 : Hid (twoF 129 a b = (0, 61)) := by unfold Hid; subst h0; rfl
  have e0 : ((b : Int) == 0) = true := by simp [h0]
  clear h0
  obtain ⟨s1, hs1⟩ : ∃ v, v = (twoF 124 a b).1 := ⟨_, rfl⟩
  obtain ⟨s2, hs2⟩ : ∃ v, v = (twoF 137 a b).1 := ⟨_, rfl⟩
  obtain ⟨s3, hs3⟩ : ∃ v, v = (twoF 133 a b).1 := ⟨_, rfl⟩
  have l1 : s1 < 18446744073709551616 := by rw [hs1]; exact twoF_lt hla hlb (by simp)
  have l2 : s2 < 18446744073709551616 := by rw [hs2]; exact twoF_lt hla hlb (by simp)
  have l3 : s3 < 18446744073709551616 := by rw [hs3]; exact twoF_lt hla hlb (by simp)
  have A1 : Hid ((twoF 125 s1 b).1 = a) := by unfold Hid; rw [hs1]; exact law_add hla hlb
  have A2 : Hid ((twoF 138 s2 b).1 = a) := by unfold Hid; rw [hs2]; exact law_rot hla
  have A3 : Hid ((twoF 133 s3 b).1 = a) := by unfold Hid; rw [hs3]; exact law_xor a b
  have B1 := Lib.hid hs1.symm
  have B2 := Lib.hid hs2.symm
  have B3 := Lib.hid hs3.symm
  clear hs1 hs2 hs3
  have htri := law_tri (a := a) (b := b) hla hlb
  have htwo := law_two (a := a) (b := b) hla hlb
  obtain ⟨t1, ht1⟩ : ∃ v, v = (twoF 83 a b).1 := ⟨_, rfl⟩
  obtain ⟨t2, ht2⟩ : ∃ v, v = (twoF 85 a b).1 := ⟨_, rfl⟩
  obtain ⟨t3, ht3⟩ : ∃ v, v = (twoF 81 a b).1 := ⟨_, rfl⟩
  obtain ⟨t4, ht4⟩ : ∃ v, v = (twoF 84 a b).1 := ⟨_, rfl⟩
  obtain ⟨t5, ht5⟩ : ∃ v, v = (twoF 90 a b).1 := ⟨_, rfl⟩
  rw [← ht1, ← ht2, ← ht3] at htri
  rw [← ht4, ← ht5] at htwo
  have T1 := Lib.hid ht1.symm
  have T2 := Lib.hid ht2.symm
  have T3 := Lib.hid ht3.symm
  have T4 := Lib.hid ht4.symm
  have T5 := Lib.hid ht5.symm
  clear ht1 ht2 ht3 ht4 ht5
  have u1 : t1 + t2 + t3 ≤ 1 := by omega
  have u2 : 1 ≤ t1 + t2 + t3 := by omega
  have u3 : t4 + t5 ≤ 1 := by omega
  have u4 : 1 ≤ t4 + t5 := by omega
  clear htri htwo
  go_enter Try.func9, Try.ntmps9
  go_wp2_with fail
  refine (awake19 _).mono ?_
  rintro e w1 ⟨rfl, rfl⟩
  go_wp2_with fail
  refine (fn_any _ 124 a b s1 (by decide) hla hlb B1.out).mono ?_
  rintro e w1 ⟨rfl, rfl⟩
  go_wp2_with fail
  refine (fn_any _ 125 s1 b a (by decide) l1 hlb A1.out).mono ?_
  rintro e w1 ⟨rfl, rfl⟩
  go_wp2_with fail
  refine (fn_any _ 137 a b s2 (by decide) hla hlb B2.out).mono ?_
  rintro e w1 ⟨rfl, rfl⟩
  go_wp2_with fail
  refine (fn_any _ 138 s2 b a (by decide) l2 hlb A2.out).mono ?_
  rintro e w1 ⟨rfl, rfl⟩
  go_wp2_with fail
  refine (fn_any _ 133 a b s3 (by decide) hla hlb B3.out).mono ?_
  rintro e w1 ⟨rfl, rfl⟩
  go_wp2_with fail
  refine (fn_any _ 133 s3 b a (by decide) l3 hlb A3.out).mono ?_
  rintro e w1 ⟨rfl, rfl⟩
  go_wp2_with fail
  refine (fn_any _ 83 a b t1 (by decide) hla hlb T1.out).mono ?_
  rintro e w1 ⟨rfl, rfl⟩
  go_wp2_with fail
  refine (fn_any _ 85 a b t2 (by decide) hla hlb T2.out).mono ?_
  rintro e w1 ⟨rfl, rfl⟩
  go_wp2_with fail
  refine (fn_any _ 81 a b t3 (by decide) hla hlb T3.out).mono ?_
  rintro e w1 ⟨rfl, rfl⟩
  go_wp2_with fail
  refine (fn_any _ 84 a b t4 (by decide) hla hlb T4.out).mono ?_
  rintro e w1 ⟨rfl, rfl⟩
  go_wp2_with fail
  refine (fn_any _ 90 a b t5 (by decide) hla hlb T5.out).mono ?_
  rintro e w1 ⟨rfl, rfl⟩
  go_wp2_with fail
  refine (twoW_lit _ 127 a b 0 61 (by decide) hla hlb Q1.out).mono ?_
  rintro e w1 ⟨rfl, rfl⟩
  go_wp2_with fail
  refine (twoW_lit _ 129 a b 0 61 (by decide) hla hlb Q2.out).mono ?_
  rintro e w1 ⟨rfl, rfl⟩
  go_wp2_with fail
  go_ret
  exact ⟨rfl, rfl⟩

set_option maxRecDepth 100000 in
set_option maxHeartbeats 3200000 in
theorem wideLaws_over (w : World) (a b : Nat) (hla : a < 18446744073709551616) (hlb : b < 18446744073709551616) (h0 : b = 2 ^ 64 - 1 ∧ a = 2 ^ 63) :
    Calls Try.prog 9 #[.int .u64 a, .int .u64 b] w fun e w' => e = .returned (.bool true) ∧ w = w' := by
  have hb0 : 0 < b := by omega
  have Q1 : Hid (twoF 127 a b = (0, 62)) := by unfold Hid; show quotF 0 a b = (0, 62); rw [quot0 hla hlb hb0, if_pos h0]
  have Q2 : Hid (twoF 129 a b = (0, 0)) := by unfold Hid; show quotF 2 a b = (0, 0); rw [h0.1]; exact quot2_one hla
  have e0 : ((b : Int) == 0) = false := by simp; omega
  have e1 : ((a : Int) == 9223372036854775808) = true := by simp; omega
  have e2 : IntKind.u64.wrap ((b : Int) + 1) = 0 := by rw [wrapu]; omega
  clear h0
  obtain ⟨s1, hs1⟩ : ∃ v, v = (twoF 124 a b).1 := ⟨_, rfl⟩
  obtain ⟨s2, hs2⟩ : ∃ v, v = (twoF 137 a b).1 := ⟨_, rfl⟩
  obtain ⟨s3, hs3⟩ : ∃ v, v = (twoF 133 a b).1 := ⟨_, rfl⟩
  have l1 : s1 < 18446744073709551616 := by rw [hs1]; exact twoF_lt hla hlb (by simp)
  have l2 : s2 < 18446744073709551616 := by rw [hs2]; exact twoF_lt hla hlb (by simp)
  have l3 : s3 < 18446744073709551616 := by rw [hs3]; exact twoF_lt hla hlb (by simp)
  have A1 : Hid ((twoF 125 s1 b).1 = a) := by unfold Hid; rw [hs1]; exact law_add hla hlb
  have A2 : Hid ((twoF 138 s2 b).1 = a) := by unfold Hid; rw [hs2]; exact law_rot hla
  have A3 : Hid ((twoF 133 s3 b).1 = a) := by unfold Hid; rw [hs3]; exact law_xor a b
  have B1 := Lib.hid hs1.symm
  have B2 := Lib.hid hs2.symm
  have B3 := Lib.hid hs3.symm
  clear hs1 hs2 hs3
  have htri := law_tri (a := a) (b := b) hla hlb
  have htwo := law_two (a := a) (b := b) hla hlb
  obtain ⟨t1, ht1⟩ : ∃ v, v = (twoF 83 a b).1 := ⟨_, rfl⟩
  obtain ⟨t2, ht2⟩ : ∃ v, v = (twoF 85 a b).1 := ⟨_, rfl⟩
  obtain ⟨t3, ht3⟩ : ∃ v, v = (twoF 81 a b).1 := ⟨_, rfl⟩
  obtain ⟨t4, ht4⟩ : ∃ v, v = (twoF 84 a b).1 := ⟨_, rfl⟩
  obtain ⟨t5, ht5⟩ : ∃ v, v = (twoF 90 a b).1 := ⟨_, rfl⟩
  rw [← ht1, ← ht2, ← ht3] at htri
  rw [← ht4, ← ht5] at htwo
  have T1 := Lib.hid ht1.symm
  have T2 := Lib.hid ht2.symm
  have T3 := Lib.hid ht3.symm
  have T4 := Lib.hid ht4.symm
  have T5 := Lib.hid ht5.symm
  clear ht1 ht2 ht3 ht4 ht5
  have u1 : t1 + t2 + t3 ≤ 1 := by omega
  have u2 : 1 ≤ t1 + t2 + t3 := by omega
  have u3 : t4 + t5 ≤ 1 := by omega
  have u4 : 1 ≤ t4 + t5 := by omega
  clear htri htwo
  go_enter Try.func9, Try.ntmps9
  go_wp2_with fail
  refine (awake19 _).mono ?_
  rintro e w1 ⟨rfl, rfl⟩
  go_wp2_with fail
  refine (fn_any _ 124 a b s1 (by decide) hla hlb B1.out).mono ?_
  rintro e w1 ⟨rfl, rfl⟩
  go_wp2_with fail
  refine (fn_any _ 125 s1 b a (by decide) l1 hlb A1.out).mono ?_
  rintro e w1 ⟨rfl, rfl⟩
  go_wp2_with fail
  refine (fn_any _ 137 a b s2 (by decide) hla hlb B2.out).mono ?_
  rintro e w1 ⟨rfl, rfl⟩
  go_wp2_with fail
  refine (fn_any _ 138 s2 b a (by decide) l2 hlb A2.out).mono ?_
  rintro e w1 ⟨rfl, rfl⟩
  go_wp2_with fail
  refine (fn_any _ 133 a b s3 (by decide) hla hlb B3.out).mono ?_
  rintro e w1 ⟨rfl, rfl⟩
  go_wp2_with fail
  refine (fn_any _ 133 s3 b a (by decide) l3 hlb A3.out).mono ?_
  rintro e w1 ⟨rfl, rfl⟩
  go_wp2_with fail
  refine (fn_any _ 83 a b t1 (by decide) hla hlb T1.out).mono ?_
  rintro e w1 ⟨rfl, rfl⟩
  go_wp2_with fail
  refine (fn_any _ 85 a b t2 (by decide) hla hlb T2.out).mono ?_
  rintro e w1 ⟨rfl, rfl⟩
  go_wp2_with fail
  refine (fn_any _ 81 a b t3 (by decide) hla hlb T3.out).mono ?_
  rintro e w1 ⟨rfl, rfl⟩
  go_wp2_with fail
  refine (fn_any _ 84 a b t4 (by decide) hla hlb T4.out).mono ?_
  rintro e w1 ⟨rfl, rfl⟩
  go_wp2_with fail
  refine (fn_any _ 90 a b t5 (by decide) hla hlb T5.out).mono ?_
  rintro e w1 ⟨rfl, rfl⟩
  go_wp2_with fail
  refine (twoW_lit _ 127 a b 0 62 (by decide) hla hlb Q1.out).mono ?_
  rintro e w1 ⟨rfl, rfl⟩
  go_wp2_with fail
  refine (twoW_lit _ 129 a b 0 0 (by decide) hla hlb Q2.out).mono ?_
  rintro e w1 ⟨rfl, rfl⟩
  go_wp2_with fail
  go_ret
  exact ⟨rfl, rfl⟩

set_option maxRecDepth 100000 in
set_option maxHeartbeats 3200000 in
theorem wideLaws_div (w : World) (a b : Nat) (hla : a < 18446744073709551616) (hlb : b < 18446744073709551616) (hb0 : 0 < b) (h0 : ¬ (b = 2 ^ 64 - 1 ∧ a = 2 ^ 63)) :
    Calls Try.prog 9 #[.int .u64 a, .int .u64 b] w fun e w' => e = .returned (.bool true) ∧ w = w' := by
  have D1 := law_div (a := a) (b := b) hla hlb hb0
  have Q1 : Hid (twoF 127 a b = (sgnQ a b, 0)) := by unfold Hid; show quotF 0 a b = (sgnQ a b, 0); rw [quot0 hla hlb hb0, if_neg h0]
  have Q2 : Hid (twoF 129 a b = (sgnR a b, 0)) := by unfold Hid; show quotF 2 a b = (sgnR a b, 0); unfold quotF; rw [if_neg (by omega)]; simp
  have lq : sgnQ a b < 18446744073709551616 := sgnQ_lt hla
  have lr : sgnR a b < 18446744073709551616 := sgnR_lt hlb hb0
  have e0 : ((b : Int) == 0) = false := by simp; omega
  generalize sgnQ a b = q at *
  generalize sgnR a b = r at *
  obtain ⟨p, hp⟩ : ∃ v, v = (twoF 126 q b).1 := ⟨_, rfl⟩
  rw [← hp] at D1
  have lp : p < 18446744073709551616 := by rw [hp]; exact twoF_lt lq hlb (by simp)
  have HP := Lib.hid hp.symm
  have HD := Lib.hid D1
  clear hp D1 h0 hb0
  obtain ⟨s1, hs1⟩ : ∃ v, v = (twoF 124 a b).1 := ⟨_, rfl⟩
  obtain ⟨s2, hs2⟩ : ∃ v, v = (twoF 137 a b).1 := ⟨_, rfl⟩
  obtain ⟨s3, hs3⟩ : ∃ v, v = (twoF 133 a b).1 := ⟨_, rfl⟩
  have l1 : s1 < 18446744073709551616 := by rw [hs1]; exact twoF_lt hla hlb (by simp)
  have l2 : s2 < 18446744073709551616 := by rw [hs2]; exact twoF_lt hla hlb (by simp)
  have l3 : s3 < 18446744073709551616 := by rw [hs3]; exact twoF_lt hla hlb (by simp)
  have A1 : Hid ((twoF 125 s1 b).1 = a) := by unfold Hid; rw [hs1]; exact law_add hla hlb
  have A2 : Hid ((twoF 138 s2 b).1 = a) := by unfold Hid; rw [hs2]; exact law_rot hla
  have A3 : Hid ((twoF 133 s3 b).1 = a) := by unfold Hid; rw [hs3]; exact law_xor a b
  have B1 := Lib.hid hs1.symm
  have B2 := Lib.hid hs2.symm
  have B3 := Lib.hid hs3.symm
  clear hs1 hs2 hs3
  have htri := law_tri (a := a) (b := b) hla hlb
  have htwo := law_two (a := a) (b := b) hla hlb
  obtain ⟨t1, ht1⟩ : ∃ v, v = (twoF 83 a b).1 := ⟨_, rfl⟩
  obtain ⟨t2, ht2⟩ : ∃ v, v = (twoF 85 a b).1 := ⟨_, rfl⟩
  obtain ⟨t3, ht3⟩ : ∃ v, v = (twoF 81 a b).1 := ⟨_, rfl⟩
  obtain ⟨t4, ht4⟩ : ∃ v, v = (twoF 84 a b).1 := ⟨_, rfl⟩
  obtain ⟨t5, ht5⟩ : ∃ v, v = (twoF 90 a b).1 := ⟨_, rfl⟩
  rw [← ht1, ← ht2, ← ht3] at htri
  rw [← ht4, ← ht5] at htwo
  have T1 := Lib.hid ht1.symm
  have T2 := Lib.hid ht2.symm
  have T3 := Lib.hid ht3.symm
  have T4 := Lib.hid ht4.symm
  have T5 := Lib.hid ht5.symm
  clear ht1 ht2 ht3 ht4 ht5
  have u1 : t1 + t2 + t3 ≤ 1 := by omega
  have u2 : 1 ≤ t1 + t2 + t3 := by omega
  have u3 : t4 + t5 ≤ 1 := by omega
  have u4 : 1 ≤ t4 + t5 := by omega
  clear htri htwo
  go_enter Try.func9, Try.ntmps9
  go_wp2_with fail
  refine (awake19 _).mono ?_
  rintro e w1 ⟨rfl, rfl⟩
  go_wp2_with fail
  refine (fn_any _ 124 a b s1 (by decide) hla hlb B1.out).mono ?_
  rintro e w1 ⟨rfl, rfl⟩
  go_wp2_with fail
  refine (fn_any _ 125 s1 b a (by decide) l1 hlb A1.out).mono ?_
  rintro e w1 ⟨rfl, rfl⟩
  go_wp2_with fail
  refine (fn_any _ 137 a b s2 (by decide) hla hlb B2.out).mono ?_
  rintro e w1 ⟨rfl, rfl⟩
  go_wp2_with fail
  refine (fn_any _ 138 s2 b a (by decide) l2 hlb A2.out).mono ?_
  rintro e w1 ⟨rfl, rfl⟩
  go_wp2_with fail
  refine (fn_any _ 133 a b s3 (by decide) hla hlb B3.out).mono ?_
  rintro e w1 ⟨rfl, rfl⟩
  go_wp2_with fail
  refine (fn_any _ 133 s3 b a (by decide) l3 hlb A3.out).mono ?_
  rintro e w1 ⟨rfl, rfl⟩
  go_wp2_with fail
  refine (fn_any _ 83 a b t1 (by decide) hla hlb T1.out).mono ?_
  rintro e w1 ⟨rfl, rfl⟩
  go_wp2_with fail
  refine (fn_any _ 85 a b t2 (by decide) hla hlb T2.out).mono ?_
  rintro e w1 ⟨rfl, rfl⟩
  go_wp2_with fail
  refine (fn_any _ 81 a b t3 (by decide) hla hlb T3.out).mono ?_
  rintro e w1 ⟨rfl, rfl⟩
  go_wp2_with fail
  refine (fn_any _ 84 a b t4 (by decide) hla hlb T4.out).mono ?_
  rintro e w1 ⟨rfl, rfl⟩
  go_wp2_with fail
  refine (fn_any _ 90 a b t5 (by decide) hla hlb T5.out).mono ?_
  rintro e w1 ⟨rfl, rfl⟩
  go_wp2_with fail
  refine (twoW_lit _ 127 a b q 0 (by decide) hla hlb Q1.out).mono ?_
  rintro e w1 ⟨rfl, rfl⟩
  go_wp2_with fail
  refine (twoW_lit _ 129 a b r 0 (by decide) hla hlb Q2.out).mono ?_
  rintro e w1 ⟨rfl, rfl⟩
  go_wp2_with fail
  refine (fn_any _ 126 q b p (by decide) lq hlb HP.out).mono ?_
  rintro e w1 ⟨rfl, rfl⟩
  go_wp2_with fail
  refine (fn_any _ 124 p r a (by decide) lp lr HD.out).mono ?_
  rintro e w1 ⟨rfl, rfl⟩
  go_wp2_with fail
  go_ret
  exact ⟨rfl, rfl⟩

theorem wideLaws_walk (w : World) (a b : Nat) (hla : a < 18446744073709551616) (hlb : b < 18446744073709551616) :
    Calls Try.prog 9 #[.int .u64 a, .int .u64 b] w fun e w' => e = .returned (.bool true) ∧ Below w.heap.size w w' := by
  have key : Calls Try.prog 9 #[.int .u64 a, .int .u64 b] w fun e w' => e = .returned (.bool true) ∧ w = w' := by
    rcases Nat.eq_zero_or_pos b with h | h
    · exact wideLaws_zero w a b hla hlb h
    · by_cases h2 : b = 2 ^ 64 - 1 ∧ a = 2 ^ 63
      · exact wideLaws_over w a b hla hlb h2
      · exact wideLaws_div w a b hla hlb h h2
  exact key.mono fun e w' ⟨h1, h2⟩ => ⟨h1, h2 ▸ Below.refl _ _⟩
end Go.Proofs.Ytfechgpdlabgaaa
