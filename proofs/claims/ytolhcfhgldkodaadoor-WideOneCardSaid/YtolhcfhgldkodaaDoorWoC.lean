/-
  wide: the instructions of one number, in the program and in the reference.
-/
import Derived.Test.YtolhcfhgldkodaaDoorWoB
set_option linter.unusedVariables false
set_option linter.unusedSimpArgs false
namespace Go.Proofs.YtolhcfhgldkodaaDoor
open Go.RowKit Wide
/-- What an instruction makes of one number. -/
def oneR (op v k m : Nat) : Nat := if op = 80 then (decide (v = 0)).toNat else if op = 121 then 64 - k else if op = 122 then m else if op = 123 then sumB v 64 else 0
def isOne (op : Nat) : Bool := op == 80 || op == 121 || op == 122 || op == 123
theorem sumB_zero (v : Nat) : ∀ n, sumB v n = 0 → v % 2 ^ n = 0
  | 0, _ => Nat.mod_one v
  | n + 1, h => by
    have h1 : sumB v n + v / 2 ^ n % 2 = 0 := h
    have h2 := sumB_zero v n (by omega)
    rw [mod_succ, h2, bit_toNat, show v / 2 ^ n % 2 = 0 by omega]
    simp
theorem sumB_of_zero : ∀ n, sumB 0 n = 0
  | 0 => rfl
  | n + 1 => by
    show sumB 0 n + 0 / 2 ^ n % 2 = 0
    rw [sumB_of_zero n, Nat.zero_div]
theorem ones_zero {v : Nat} (hv : v < 18446744073709551616) : ((sumB v 64 : Int) == 0) = decide (v = 0) := by
  by_cases h : v = 0
  · subst h
    rw [sumB_of_zero]
    rfl
  · have : sumB v 64 ≠ 0 := fun e => h (by have := sumB_zero v 64 e; rwa [Nat.mod_eq_of_lt hv] at this)
    rw [decide_eq_false h]
    simp
    omega
theorem truthW (w : World) (b : Bool) : Calls Tryd.prog 8 #[.bool b] w fun e w' => e = .returned (.int .u64 (b.toNat : Int)) ∧ w = w' := by
  cases b
  all_goals
    go_enter Tryd.func8, Tryd.ntmps8
    go_wp2
    go_ret
    exact ⟨rfl, rfl⟩

set_option maxRecDepth 100000 in
set_option maxHeartbeats 3200000 in
theorem oneW_any (w : World) (op v k m : Nat) (hop : op < 256) (hv : v < 18446744073709551616) (hT : Hid (Tab w)) (hk : isLen v k) (hm : isTz v m) :
    Calls Tryd.prog 5 #[.int .u8 (op : Int), .int .u64 (v : Int)] w fun e w' => e = .returned (.tuple #[.int .u64 (oneR op v k m : Int), .bool (isOne op)]) ∧ w = w' := by
  have hkv : Lib.bitLen v = k := isLen_one (bitLen_isLen hv) hk
  have HL := bits_LeadingZeros64 (v : Int) w (by omega) (by omega)
  rw [Int.toNat_natCast, hkv] at HL
  replace HL := Lib.hid HL
  have HTr := Lib.hid (trail_walk w v m hv hT hm)
  have HO := Lib.hid (ones_walk w v hv)
  have hk64 : k ≤ 64 := hk.1
  have hm64 : m ≤ 64 := by rcases hm with h | h <;> omega
  have lk : IntKind.u64.wrap (64 - (k : Int)) = ((64 - k : Nat) : Int) := by rw [Go.IntKind.wrap_u64]; omega
  have lm : IntKind.u64.wrap (m : Int) = (m : Int) := wrapU _ (by omega)
  have ls : IntKind.u64.wrap (sumB v 64 : Int) = (sumB v 64 : Int) := wrapU _ (by have := sumB_le v 64; omega)
  by_cases h80 : op = 80
  · subst h80
    have HTW := Lib.hid (truthW w ((v : Int) == 0))
    have e : ((v : Int) == 0) = decide (v = 0) := by rw [Bool.eq_iff_iff]; simp
    have er : oneR 80 v k m = (decide (v = 0)).toNat := rfl
    rw [er, ← e]
    clear e er
    go_enter Tryd.func5, Tryd.ntmps5
    go_wp2_with fail
    refine HTW.out.mono ?_
    rintro e w' ⟨rfl, rfl⟩
    go_wp2_with fail
    go_ret2
    exact ⟨rfl, rfl⟩
  · have n80 : ((op : Int) == 80) = false := by simp; omega
    by_cases h121 : op = 121
    · subst h121
      go_enter Tryd.func5, Tryd.ntmps5
      go_wp2_with fail
      refine HL.out.mono ?_
      rintro e w' ⟨rfl, rfl⟩
      go_wp2_with fail
      go_ret2
      exact ⟨rfl, rfl⟩
    · have n121 : ((op : Int) == 121) = false := by simp; omega
      by_cases h122 : op = 122
      · subst h122
        go_enter Tryd.func5, Tryd.ntmps5
        go_wp2_with fail
        refine HTr.out.mono ?_
        rintro e w' ⟨rfl, rfl⟩
        go_wp2_with fail
        go_ret2
        exact ⟨rfl, rfl⟩
      · have n122 : ((op : Int) == 122) = false := by simp; omega
        by_cases h123 : op = 123
        · subst h123
          have er : oneR 123 v k m = sumB v 64 := rfl
          rw [er]
          generalize sumB v 64 = s at HO ls ⊢
          clear er
          go_enter Tryd.func5, Tryd.ntmps5
          go_wp2_with fail
          refine HO.out.mono ?_
          rintro e w' ⟨rfl, rfl⟩
          go_wp2_with fail
          go_ret2
          exact ⟨rfl, rfl⟩
        · have n123 : ((op : Int) == 123) = false := by simp; omega
          have er : oneR op v k m = 0 := by rw [oneR, if_neg h80, if_neg h121, if_neg h122, if_neg h123]
          have ei : isOne op = false := by simp [isOne, h80, h121, h122, h123]
          rw [er, ei]
          clear er ei
          go_enter Tryd.func5, Tryd.ntmps5
          go_wp2_with fail
          go_ret2
          exact ⟨rfl, rfl⟩

theorem truthS (w : World) (b : Bool) : Calls Tryd.prog 13 #[.bool b] w fun e w' => e = .returned (.int .u64 (b.toNat : Int)) ∧ w' = w := (truth19 w b).mono fun _ _ h => ⟨h.1, h.2.symm⟩
set_option maxRecDepth 100000 in
set_option maxHeartbeats 6400000 in
theorem one_any (w : World) (op v k m : Nat) (hop : op < 256) (hv : v < 18446744073709551616) (hk : isLen v k) (hm : isTz v m) :
    Calls Tryd.prog 6 #[.int .i64 (op : Int), .int .u64 (v : Int)] w fun e w' => e = .returned (.tuple #[.int .u64 (oneR op v k m : Int), .bool (isOne op)]) ∧ Step (fun _ => False) w w' := by
  have HB := Lib.hid (bits_any w v hv)
  have HK := Lib.hid hk
  have HM := Lib.hid hm
  have HZ := Lib.hid (ones_zero hv)
  clear hk hm
  go_enter Tryd.func6, Tryd.ntmps6
  go_wp2_with fail
  refine HB.out.mono ?_
  rintro e w1 ⟨A, c, rfl, hown, hS⟩
  have HR := Lib.hid (Reads.of_own hown)
  have HS := Lib.hid hS
  clear hown hS HB
  go_wp2_with fail
  go_loopw [8, 9] (fun sv iv wk => ∃ j : Nat, j ≤ 64 ∧ sv = .int .u64 (sumB v j : Int) ∧ iv = .int .i64 (j : Int) ∧ wk = w1) (fun _ iv _ => 64 - (intOf iv).toNat)
  case atStart => exact ⟨0, by omega, rfl, rfl, rfl⟩
  case round =>
    obtain ⟨j, hj, rfl, rfl, hwk⟩ := hrel
    have hwk2 := hwk.symm
    subst hwk2
    by_cases hlt : j < 64
    · have g1 : (j : Int) < 64 := by omega
      have i0 : (0 : Int) ≤ (j : Int) := by omega
      obtain ⟨ad, rfl, _, _, hc⟩ := bools_at HR.out hlt
      have hw1 := IntWalk.i64_in ((j : Int) + 1) (by omega)
      have hsb := sumB_le v j
      have hs : IntKind.u64.wrap ((sumB v j : Int) + ((v.testBit j).toNat : Int)) = (sumB v (j + 1) : Int) := by
        rw [← Int.natCast_add, wrapU _ (by have := bit_le (v.testBit j); omega), bit_toNat]
        rfl
      have HTT := Lib.hid (truthS w1 (v.testBit j))
      obtain ⟨s2, hs2⟩ : ∃ s2, s2 = sumB v (j + 1) := ⟨_, rfl⟩
      rw [← hs2] at hs
      have HS2 := Lib.hid hs2
      generalize sumB v j = s at hs
      clear hsb hs2
      go_wp2_with fail
      refine HTT.out.mono ?_
      rintro e w2 ⟨rfl, rfl⟩
      go_wp2_with fail
      go_roundw
      case rel => exact ⟨j + 1, by omega, by rw [HS2.out], by rw [Int.natCast_add]; rfl, by first | trivial | rfl⟩
      case measure => first | (simp [intOf]; done) | (simp [intOf]; omega)
    · obtain rfl : j = 64 := by omega
      obtain ⟨s, hs⟩ : ∃ s, s = sumB v 64 := ⟨_, rfl⟩
      have HZ2 := HZ.out
      rw [← hs] at HZ2
      replace HZ2 := Lib.hid HZ2
      have HE : Hid (∀ op k m, oneR op v k m = if op = 80 then (decide (v = 0)).toNat else if op = 121 then 64 - k else if op = 122 then m else if op = 123 then s else 0) := fun op k m => by rw [oneR, hs]
      rw [← hs]
      clear hs hlt HZ
      by_cases h80 : op = 80
      · subst h80
        have HTW := Lib.hid (truthS w1 ((s : Int) == 0))
        go_wp2_with fail
        refine HTW.out.mono ?_
        rintro e w' ⟨rfl, rfl⟩
        go_wp2_with fail
        go_ret2
        exact ⟨by rw [HE.out, HZ2.out]; rfl, HS.out⟩
      · have n80 : ((op : Int) == 80) = false := by simp; omega
        by_cases h121 : op = 121
        · subst h121
          go_wp2_with fail
          go_loopw [7, 10] (fun nv iv wk => ∃ (j : Nat) (I : Int), j ≤ 64 ∧ nv = .int .u64 ((64 - j : Nat) : Int) ∧ iv = .int .i64 I ∧ Hid (I = (j : Int) - 1) ∧ Hid (v < 2 ^ j) ∧ wk = w1) (fun _ iv _ => (intOf iv + 1).toNat)
          case atStart => exact ⟨64, 63, by omega, rfl, rfl, by show (63 : Int) = _; decide, hv, rfl⟩
          case round =>
            obtain ⟨j, I, hj, rfl, rfl, HI, HV, hwk⟩ := hrel
            have hwk2 := hwk.symm
            subst hwk2
            cases j with
            | zero =>
              have hI := HI.out
              obtain rfl : I = -1 := by simpa using hI
              have hk0 := Lib.hid (isLen_one HK.out ⟨by decide, HV.out, .inl rfl⟩)
              have i0' : decide ((0 : Int) ≤ -1) = false := by decide
              clear hI HI HV
              go_wp2_with fail
              go_ret2
              exact ⟨by rw [HE.out, hk0.out]; rfl, HS.out⟩
            | succ j =>
              have hI := HI.out
              obtain rfl : I = (j : Int) := by omega
              have i0 : (0 : Int) ≤ (j : Int) := by omega
              have i0' : decide ((0 : Int) ≤ (j : Int)) = true := decide_eq_true i0
              have g1 : (j : Int) < 64 := by omega
              obtain ⟨ad, rfl, _, _, hc⟩ := bools_at HR.out (show j < 64 by omega)
              have hw1 := IntWalk.i64_in ((j : Int) - 1) (by omega)
              have hw2 : IntKind.u64.wrap (((64 - (j + 1) : Nat) : Int) + 1) = ((64 - j : Nat) : Int) := by rw [Go.IntKind.wrap_u64]; omega
              clear hI HI
              cases hb : v.testBit j with
              | true =>
                rw [hb] at hc
                have hk1 : k = j + 1 := isLen_one HK.out ⟨by omega, HV.out, .inr (by
                  show 2 ^ j ≤ v
                  exact Nat.ge_two_pow_of_testBit hb)⟩
                have HK1 := Lib.hid hk1
                clear hb hk1
                go_wp2_with fail
                go_ret2
                refine ⟨?_, HS.out⟩
                rw [HE.out, HK1.out, if_neg (by decide), if_pos rfl, show 64 - (j + 1) = 63 - j by omega]
                rfl
              | false =>
                rw [hb] at hc
                have HV2 : Hid (v < 2 ^ j) := by
                  have h1 := HV.out
                  have h2 := mod_succ v j
                  rw [hb, Nat.mod_eq_of_lt h1] at h2
                  show v < 2 ^ j
                  rw [h2]
                  simpa using Nat.mod_lt v (Nat.two_pow_pos j)
                clear hb
                generalize 64 - (j + 1) = y at hw2
                go_wp2_with fail
                go_roundw
                case rel => exact ⟨j, (j : Int) - 1, by omega, rfl, rfl, rfl, HV2, by first | trivial | rfl⟩
                case measure => first | (simp [intOf]; done) | (simp [intOf]; omega)
        · have n121 : ((op : Int) == 121) = false := by simp; omega
          by_cases h122 : op = 122
          · subst h122
            go_wp2_with fail
            go_loopw [7, 11] (fun nv iv wk => ∃ (j : Nat), j ≤ 64 ∧ nv = .int .u64 (j : Int) ∧ iv = .int .i64 (j : Int) ∧ Hid (v % 2 ^ j = 0) ∧ wk = w1) (fun _ iv _ => 64 - (intOf iv).toNat)
            case atStart => exact ⟨0, by omega, rfl, rfl, Nat.mod_one v, rfl⟩
            case round =>
              obtain ⟨j, hj, rfl, rfl, HV, hwk⟩ := hrel
              have hwk2 := hwk.symm
              subst hwk2
              by_cases hlt : j < 64
              · have i0 : (0 : Int) ≤ (j : Int) := by omega
                have g1 : (j : Int) < 64 := by omega
                have g1' : decide ((j : Int) < 64) = true := decide_eq_true g1
                obtain ⟨ad, rfl, _, _, hc⟩ := bools_at HR.out hlt
                have hw1 := IntWalk.i64_in ((j : Int) + 1) (by omega)
                have hw2 : IntKind.u64.wrap ((j : Int) + 1) = ((j + 1 : Nat) : Int) := by rw [Go.IntKind.wrap_u64]; omega
                cases hb : v.testBit j with
                | true =>
                  rw [hb] at hc
                  have hm1 : m = j := isTz_one HM.out (.inl ⟨hlt, HV.out, hb⟩)
                  have HM1 := Lib.hid hm1
                  clear hb hm1
                  go_wp2_with fail
                  go_ret2
                  exact ⟨by rw [HE.out, HM1.out]; rfl, HS.out⟩
                | false =>
                  rw [hb] at hc
                  have HV2 : Hid (v % 2 ^ (j + 1) = 0) := by
                    show v % 2 ^ (j + 1) = 0
                    rw [mod_succ, HV.out, hb]
                    simp
                  clear hb
                  go_wp2_with fail
                  go_roundw
                  case rel => exact ⟨j + 1, by omega, rfl, by rw [Int.natCast_add]; rfl, HV2, by first | trivial | rfl⟩
                  case measure => first | (simp [intOf]; done) | (simp [intOf]; omega)
              · obtain rfl : j = 64 := by omega
                have hm1 : m = 64 := isTz_one HM.out (.inr ⟨rfl, by have := HV.out; rwa [Nat.mod_eq_of_lt hv] at this⟩)
                have HM1 := Lib.hid hm1
                clear hlt hm1
                go_wp2_with fail
                go_ret2
                exact ⟨by rw [HE.out, HM1.out]; rfl, HS.out⟩
          · have n122 : ((op : Int) == 122) = false := by simp; omega
            by_cases h123 : op = 123
            · subst h123
              go_wp2_with fail
              go_ret2
              exact ⟨by rw [HE.out]; rfl, HS.out⟩
            · have n123 : ((op : Int) == 123) = false := by simp; omega
              go_wp2_with fail
              go_ret2
              exact ⟨by rw [HE.out, if_neg h80, if_neg h121, if_neg h122, if_neg h123]; simp [isOne, h80, h121, h122, h123], HS.out⟩
end Go.Proofs.YtolhcfhgldkodaaDoor
