/-
  leb: the reference's Uint, walked.
-/
import Derived.Test.YtfemeendkjcffaaLeE
set_option linter.unusedVariables false
set_option linter.unusedSimpArgs false
namespace Go.Proofs.Ytfemeendkjcffaa
open Go.RowKit

theorem ibit_nat (v j : Nat) : ibit (v : Int) j = v.testBit j := by
  rw [ibit, Nat.testBit_eq_decide_div_mod_eq]
  rw [show ((v : Int) / 2 ^ j % 2) = ((v / 2 ^ j % 2 : Nat) : Int) by rw [Int.natCast_emod, Int.natCast_ediv, Int.natCast_pow]; rfl]
  rw [Bool.eq_iff_iff, beq_iff_eq, decide_eq_true_iff]
  omega
theorem bits_lt {v a : Nat} (hv : v < 2 ^ 64) : (∀ j, a ≤ j → j < 64 → ibit (v : Int) j = false) ↔ v < 2 ^ a := by
  constructor
  · intro h
    refine Nat.lt_pow_two_of_testBit v fun j hj => ?_
    rcases Nat.lt_or_ge j 64 with h1 | h1
    · rw [← ibit_nat]; exact h j hj h1
    · exact Nat.testBit_lt_two_pow (Nat.lt_of_lt_of_le hv (Nat.pow_le_pow_right (by decide : 2 > 0) h1))
  · intro h j hj _
    rw [ibit_nat]
    exact Nat.testBit_lt_two_pow (Nat.lt_of_lt_of_le h (Nat.pow_le_pow_right (by decide : 2 > 0) hj))
theorem pow7 (n : Nat) : 2 ^ (7 * n) = 128 ^ n := by rw [Nat.pow_mul]

set_option maxRecDepth 100000 in
set_option maxHeartbeats 1600000 in
theorem ruint_walk (w : World) (v : Nat) (h : v < 18446744073709551616) : Calls Try.prog 195 #[.int .u64 (v : Int)] w fun e w' => ∃ D c, e = .returned (.slice D (uintF v).length c) ∧ w'.ownsRow w.heap.size 5 1 (.slice D (uintF v).length c) (uintF v).length (u8s (uintF v)) ∧ Step (fun _ => False) w w' := by
  obtain ⟨T, hT⟩ : ∃ T, T = uintF v := ⟨_, rfl⟩
  rw [← hT]
  have HT : Hid (∀ n, 1 ≤ n → n ≤ 10 → v < 128 ^ n → (∀ m, 1 ≤ m → m < n → ¬ v < 128 ^ m) → T = grpL (v : Int) n n) := fun n h1 h2 h3 h4 => hT.trans (uint_grp 10 v n h1 h2 h3 h4)
  clear hT
  have HB : Hid (∀ j, 64 ≤ j → j < 70 → ibit (v : Int) j = false) := fun j h1 _ => by
    rw [ibit_nat]
    exact Nat.testBit_lt_two_pow (Nat.lt_of_lt_of_le h (Nat.pow_le_pow_right (by decide : 2 > 0) h1))
  have HL : Hid (∀ a, (∀ j, a ≤ j → j < 64 → ibit (v : Int) j = false) ↔ v < 2 ^ a) := fun a => bits_lt h
  go_enter Try.func195, Try.ntmps195
  go_wp2_with fail
  refine (bits_walk _ v h).mono ?_
  rintro e w1 ⟨D, c, rfl, hown, hS1⟩
  have HR := Lib.hid (Reads.of_own hown)
  have HS1 := Lib.hid hS1
  clear hown hS1
  go_wp2_with fail
  go_loopw [4] (fun nv wr => ∃ n : Nat, 1 ≤ n ∧ n ≤ 10 ∧ nv = .int .i64 (n : Int) ∧ Hid (∀ m, 1 ≤ m → m < n → ¬ v < 128 ^ m) ∧ Hid (wr = w1)) (fun nv _ => 11 - (intOf nv).toNat)
  case atStart => exact ⟨1, by omega, by omega, rfl, fun m h1 h2 => by omega, by first | exact Lib.hid trivial | rfl⟩
  case round =>
    obtain ⟨n, hn1, hn2, rfl, HM, hq⟩ := hrel
    have hq' := hq.out
    subst hq'
    by_cases hlt : n < 10
    · have hlt' : (n : Int) < 10 := by omega
      have hw7 := IntWalk.i64_in (7 * (n : Int)) (by omega)
      have hwn := IntWalk.i64_in ((n : Int) + 1) (by omega)
      go_wp2_with fail
      go_loopw [5, 6] (fun mv iv wr' => ∃ (i : Nat) (M : Bool), 7 * n ≤ i ∧ i ≤ 64 ∧ mv = .bool M ∧ iv = .int .i64 (i : Int) ∧ Hid (M = true ↔ ∃ j, 7 * n ≤ j ∧ j < i ∧ ibit (v : Int) j = true) ∧ Hid (wr' = wr)) (fun _ iv _ => 65 - (intOf iv).toNat)
      case atStart => exact ⟨7 * n, false, by omega, by omega, rfl, by simp, by simp [Hid]; omega, by first | exact Lib.hid trivial | rfl⟩
      case round =>
        obtain ⟨i, M, hi1, hi2, rfl, rfl, HX, hq⟩ := hrel
        have hq' := hq.out
        subst hq'
        have hwi := IntWalk.i64_in ((i : Int) + 1) (by omega)
        by_cases hil : i < 64
        · have hil' : (i : Int) < 64 := by omega
          have hi0 : (0 : Int) ≤ (i : Int) := by omega
          cases M
          · obtain ⟨ab, ao, rfl, habl, hall⟩ := ibs_all HR.out
            have hcell := hall i hil
            have HX2 : Hid ((ibit (v : Int) i = true) ↔ ∃ j, 7 * n ≤ j ∧ j < i + 1 ∧ ibit (v : Int) j = true) := by
              constructor
              · intro hb; exact ⟨i, hi1, by omega, hb⟩
              · rintro ⟨j, h1, h2, h3⟩
                rcases Nat.lt_or_ge j i with h4 | h4
                · exact absurd (HX.out.2 ⟨j, h1, h4, h3⟩) (by decide)
                · obtain rfl : j = i := by omega
                  exact h3
            generalize ibit (v : Int) i = bb at *
            clear hall
            go_wp2_with fail
            go_roundw
            case rel => exact ⟨i + 1, bb, by omega, by omega, rfl, by rw [Int.natCast_add]; rfl, HX2, by first | exact Lib.hid trivial | rfl⟩
            case measure => simp [intOf]; omega
          · have HX2 : Hid (true = true ↔ ∃ j, 7 * n ≤ j ∧ j < i + 1 ∧ ibit (v : Int) j = true) := by
              obtain ⟨j, h1, h2, h3⟩ := HX.out.1 rfl
              exact ⟨fun _ => ⟨j, h1, by omega, h3⟩, fun _ => rfl⟩
            go_wp2_with fail
            go_roundw
            case rel => exact ⟨i + 1, true, by omega, by omega, rfl, by rw [Int.natCast_add]; rfl, HX2, by first | exact Lib.hid trivial | rfl⟩
            case measure => simp [intOf]; omega
        · obtain rfl : i = 64 := by omega
          have HV : Hid (M = false ↔ v < 128 ^ n) := by
            rw [Hid, ← pow7, ← HL.out]
            constructor
            · intro hM j h1 h2
              cases hb : ibit (v : Int) j with
              | false => rfl
              | true => rw [HX.out.2 ⟨j, h1, h2, hb⟩] at hM; cases hM
            · intro hA
              cases hM : M with
              | false => rfl
              | true =>
                obtain ⟨j, h1, h2, h3⟩ := HX.out.1 hM
                rw [hA j h1 h2] at h3
                cases h3
          cases M
          · have hv := HV.out.1 rfl
            have hTg := HT.out n hn1 (by omega) hv HM.out
            clear hil HX
            go_wp2_with fail
            refine (group_walk _ (v : Int) n c false _ D HR.out HB.out hn1 (by omega)).mono ?_
            rintro e w5 ⟨D', c', rfl, hown5, hS5⟩
            go_wp2_with fail
            go_ret
            rw [hTg, grpL_len]
            exact ⟨D', c', rfl, own_base hown5 (fun k hk => Nat.le_trans HS1.out.size (own_ge hown5 k hk)), HS1.out.trans hS5⟩
          · have hv : ¬ v < 128 ^ n := fun hh => by have := HV.out.2 hh; cases this
            have HM2 : Hid (∀ m, 1 ≤ m → m < n + 1 → ¬ v < 128 ^ m) := fun m h1 h2 => by
              rcases Nat.lt_or_ge m n with h3 | h3
              · exact HM.out m h1 h3
              · obtain rfl : m = n := by omega
                exact hv
            clear hil HX hv HV
            go_wp2_with fail
            go_roundw
            case rel => exact ⟨n + 1, by omega, by omega, by rw [Int.natCast_add]; rfl, HM2, by first | exact Lib.hid trivial | rfl⟩
            case measure => simp [intOf]; omega
    · obtain rfl : n = 10 := by omega
      have hTg := HT.out 10 (by omega) (by omega) (Nat.lt_of_lt_of_le h (by decide)) HM.out
      go_wp2_with fail
      refine (group_walk _ (v : Int) 10 c false _ D HR.out HB.out (by omega) (by omega)).mono ?_
      rintro e w5 ⟨D', c', rfl, hown5, hS5⟩
      go_wp2_with fail
      go_ret
      rw [hTg, grpL_len]
      exact ⟨D', c', rfl, own_base hown5 (fun k hk => Nat.le_trans HS1.out.size (own_ge hown5 k hk)), HS1.out.trans hS5⟩
end Go.Proofs.Ytfemeendkjcffaa
