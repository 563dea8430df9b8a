/-
  creelref19: divide.
-/
import Derived.Test.YtfechgpdlabgaaaWidG
set_option linter.unusedVariables false
set_option linter.unusedSimpArgs false
namespace Go.Proofs.Ytfechgpdlabgaaa
open Go.RowKit Wide

def DRet (w : World) (q r : Nat) (e : Ending) (w' : World) : Prop :=
  ∃ A c A' c', e = .returned (.tuple #[.slice A 64 c, .slice A' 64 c']) ∧ w'.ownsRow w.heap.size 4 1 (.slice A 64 c) 64 (bools (bs 64 q)) ∧ w'.ownsRow w.heap.size 4 1 (.slice A' 64 c') 64 (bools (bs 64 r)) ∧ Step (fun _ => False) w w'

theorem high_bit {R b t : Nat} (hR : R < b) (hb : b < 2 ^ 64) (ht : t ≤ 1) : R.testBit 63 = decide (2 ^ 64 ≤ 2 * R + t) := by
  rw [bit_div, Bool.eq_iff_iff]
  simp
  omega
theorem hi_next (Q j : Nat) (h : Q < 2 ^ 64) : ∀ i, i < 64 → (Q / 2 ^ j * 2 ^ j).testBit i = if i = j then Q.testBit j else (Q / 2 ^ (j + 1) * 2 ^ (j + 1)).testBit i := fun i _ => by
  rw [Nat.mul_comm, Nat.testBit_two_pow_mul, Nat.mul_comm, Nat.testBit_two_pow_mul, Nat.testBit_div_two_pow, Nat.testBit_div_two_pow]
  by_cases h1 : i = j
  · subst h1; simp
  · rw [if_neg h1]
    by_cases h2 : j ≤ i
    · rw [show i - j + j = i by omega, show i - (j + 1) + (j + 1) = i by omega]
      simp [h2, show j + 1 ≤ i by omega]
    · simp [h2, show ¬ j + 1 ≤ i by omega]
theorem low_set (R : Nat) (t : Bool) : ∀ i, i < 64 → (2 * R + t.toNat).testBit i = if i = 0 then t else (R * 2 ^ 1).testBit i := fun i _ => by
  by_cases h : i = 0
  · subst h
    rw [if_pos rfl, Nat.testBit_zero]
    cases t <;> simp <;> omega
  · rw [if_neg h]
    obtain ⟨k, rfl⟩ : ∃ k, i = k + 1 := ⟨i - 1, by omega⟩
    rw [Nat.testBit_succ, Nat.testBit_succ]
    congr 1
    cases t <;> simp <;> omega

theorem row_own {w : World} {B v c g : Nat} (h : w.ownsRow B 4 1 (.slice (some ⟨g, 0, none⟩) 64 c) 64 (bools (bs 64 v))) : B ≤ g ∧ g < w.heap.size ∧ True := by
  have := own_lt h g rfl
  have := own_ge h g rfl
  exact ⟨by omega, by omega, trivial⟩

set_option maxRecDepth 100000 in
set_option maxHeartbeats 1600000 in
theorem divide_any (w : World) (S S' : Nat → Prop) (A A' : Option Addr) (c c' a b : Nat) (ha : Reads w S 1 A 64 (bools (bs 64 a))) (hb : Reads w S' 1 A' 64 (bools (bs 64 b))) (hla : a < 2 ^ 64) (hlb : b < 2 ^ 64) (hpos : 0 < b) :
    Calls Try.prog 108 #[.slice A 64 c, .slice A' 64 c'] w (DRet w (a / b) (a % b)) := by
  have hmk := make64z
  have hq0 : Hid (a / b < 2 ^ 64) := Nat.lt_of_le_of_lt (Nat.div_le_self _ _) hla
  have Hdm : Hid (∀ i, a / 2 ^ i % b = (if b ≤ 2 * (a / 2 ^ (i + 1) % b) + (a.testBit i).toNat then 2 * (a / 2 ^ (i + 1) % b) + (a.testBit i).toNat - b else 2 * (a / 2 ^ (i + 1) % b) + (a.testBit i).toNat)) := fun i => (divmod_step a b i hpos).2
  have Hqb : Hid (∀ i, (a / b).testBit i = decide (b ≤ 2 * (a / 2 ^ (i + 1) % b) + (a.testBit i).toNat)) := fun i => quot_bit a b i hpos
  have Hlt : Hid (∀ i, a / 2 ^ i % b < b) := fun i => Nat.mod_lt _ hpos
  have hend : Hid (a / 2 ^ 64 = 0) := Nat.div_eq_of_lt hla
  have Hlb := Lib.hid hlb
  have Hha := Lib.hid ha
  have Hhb := Lib.hid hb
  have z0 := own_zeros w w.heap.size (Nat.le_refl _)
  have z1 := own_zeros (w.alloc zeros) w.heap.size (by simp)
  have Z0 := Lib.hid (own_below z0 (Step.refl.alloc zeros))
  rw [show (w.alloc zeros).heap.size = w.heap.size + 1 by simp] at z1
  have Z1 := Lib.hid z1
  have ZS : Hid (Step (fun _ => False) w ((w.alloc zeros).alloc zeros)) := (Step.refl.alloc _).alloc _
  have Zs : Hid ((w.alloc zeros).heap.size = w.heap.size + 1) := by simp [Hid]
  clear hla hlb ha hb z0 z1
  obtain ⟨Q, HQ⟩ : ∃ Q, Q = a / b := ⟨_, rfl⟩
  have hQR : Hid (∃ R, R = a % b) := ⟨_, rfl⟩
  go_enter Try.func108, Try.ntmps108
  go_wp2_with fail
  go_region
  all_goals go_wp2_with fail
  · go_loopw [7, 8] (fun r i wr => ∃ (k c2 qv rv : Nat) (D2 : Option Addr), k ≤ 64 ∧ r = .slice D2 64 c2 ∧ i = .int .i64 ((k : Int) - 1) ∧ Hid (qv = a / b / 2 ^ k * 2 ^ k) ∧ Hid (rv = a / 2 ^ k % b) ∧
      Hid (wr.ownsRow w.heap.size 4 1 (.slice (some ⟨w.heap.size, 0, none⟩) 64 64) 64 (bools (bs 64 qv))) ∧ Hid (wr.ownsRow w.heap.size 4 1 (.slice D2 64 c2) 64 (bools (bs 64 rv))) ∧ Hid (blkOf D2 ≠ some (w.heap.size)) ∧ Hid (Step (fun _ => False) w wr)) (fun _ i _ => (intOf i + 1).toNat)
    case atStart => exact ⟨64, 64, 0, 0, some ⟨w.heap.size + 1, 0, none⟩, by omega, rfl, rfl, by unfold Hid; rw [Nat.div_eq_of_lt hq0.out, Nat.zero_mul], by unfold Hid; rw [hend.out, Nat.zero_mod], Z0, Z1, by simp [Hid, blkOf], ZS.out.drew⟩
    case round =>
      obtain ⟨k, c2, qv, rv, D2, hk, rfl, hi, HQ1, HR1, HO1, HO2, HD, HS⟩ := hrel
      clear Z0 Z1 ZS Zs hmk
      rcases k with _ | j
      · obtain rfl : u8 = .int .i64 (-1) := by rw [hi]; rfl
        go_wp2_with fail
        go_ret2
        have e1 : qv = a / b := by rw [HQ1.out]; simp
        have e2 : rv = a % b := by rw [HR1.out]; simp
        subst e1; subst e2
        exact ⟨_, _, D2, c2, rfl, HO1.out, HO2.out, HS.out⟩
      · obtain rfl : u8 = .int .i64 (j : Int) := by rw [hi]; congr 1; omega
        obtain ⟨ad, rfl, _, hlw, hc⟩ := bools_at Hha.out (k := j) (by omega)
        have i0 : (0 : Int) ≤ (j : Int) := by omega
        have i1 : (j : Int) < 64 := by omega
        have hwj := IntWalk.i64_in ((j : Int) - 1) (by omega)
        obtain ⟨g2, rfl, hb2, hl2, hcell2, hfr2⟩ := row_at HO2.out
        have hc63 := hcell2 63 (by omega)
        have HC := Lib.hid hc
        have HQ2 := Lib.hid (hi_next (a / b) j hq0.out)
        have hlow := low_set rv (a.testBit j)
        have Hst := Lib.hid (Hdm.out j)
        have Hqj := Lib.hid (Hqb.out j)
        have Hrl := Lib.hid (Hlt.out (j + 1))
        rw [← HR1.out] at Hst Hqj Hrl
        rw [← HQ1.out] at HQ2
        have Hhigh := Lib.hid (high_bit (t := (a.testBit j).toNat) Hrl.out Hlb.out (bit_le _))
        have Hlow := Lib.hid hlow
        clear hi hcell2 hfr2 hc hlow
        generalize a.testBit j = t at *
        generalize rv.testBit 63 = h at *
        go_wp2_with fail
        refine (shift_any wr _ (some ⟨g2, 0, none⟩) c2 rv (rv * 2 ^ 1) 1 false (Reads.of_own HO2.out) (by omega) (by omega) (shift_up_bits rv 1)).mono ?_
        rintro e w6 ⟨A6, c6, rfl, hA6, s6⟩
        obtain ⟨g6, rfl, hb6, hl6, hcell6, hfr6⟩ := row_at hA6
        have hc0 := hcell6 0 (by omega)
        have hf0 := hfr6 0
        have z0 := HS.out.size
        have z6 := s6.size
        have HS6 := Lib.hid (HS.out.trans s6)
        have HO16 := Lib.hid (own_below HO1.out s6)
        have hcj := (HS6.out.cell (p := ad.add j) (by rw [add_block]; exact hlw) id).trans HC.out
        have H6 := Lib.hid (row_set hA6 (k := 0) (by omega) Hlow.out)
        have N6 : Hid (g6 ≠ w.heap.size) := by
          obtain ⟨_, hlG, _⟩ := row_own HO1.out
          have : w.heap.size < wr.heap.size := hlG
          unfold Hid; omega
        clear hcell6 hfr6 hA6 s6
        have HS6' : Hid (Step (fun _ => False) w (w6.setCell ⟨g6, 0, none⟩ (.bool t))) := HS6.out.setCell (.inr (by show w.heap.size ≤ g6; omega)) _
        have HO6 : Hid ((w6.setCell ⟨g6, 0, none⟩ (.bool t)).ownsRow w.heap.size 4 1 (.slice (some ⟨w.heap.size, 0, none⟩) 64 64) 64 (bools (bs 64 qv))) := own_set HO16.out (by intro hh; exact N6.out (Option.some.inj hh).symm) _
        have hbt := bit_le t
        cases h
        · go_wp2_with fail
          have hT : 2 * rv + t.toNat < 2 ^ 64 := by have := Hhigh.out; simpa using this
          refine (less_any _ _ S' (some ⟨g6, 0, none⟩) A' c6 c' (2 * rv + t.toNat) b (Reads.of_own H6.out) (Hhb.out.step HS6'.out (fun _ _ => id)) hT Hlb.out).mono ?_
          rintro e w7 ⟨rfl, m, rfl⟩
          have HSW := Lib.hid (HS6'.out.drewN m)
          have HOr := Lib.hid (own_below H6.out (Step.refl.drewN m))
          have HOq := Lib.hid (own_below HO6.out (Step.refl.drewN m))
          generalize (w6.setCell ⟨g6, 0, none⟩ (.bool t)).drewN m = W at *
          by_cases hlt : 2 * rv + t.toNat < b
          · have HOq2 : Hid (W.ownsRow w.heap.size 4 1 (.slice (some ⟨w.heap.size, 0, none⟩) 64 64) 64 (bools (bs 64 (a / b / 2 ^ j * 2 ^ j)))) := by
              rw [bs_congr (u := qv) fun i hi => by
                rw [HQ2.out i hi]
                split
                · rename_i h1
                  rw [Hqj.out, decide_eq_false (by omega), h1, HQ1.out, Nat.mul_comm, Nat.testBit_two_pow_mul]
                  simp [show ¬ j + 1 ≤ j by omega]
                · rfl]
              exact HOq.out
            have HR : Hid (2 * rv + t.toNat = a / 2 ^ j % b) := by rw [Hst.out]; simp [Hid]; omega
            rw [decide_eq_true hlt]
            clear hT hlt
            go_wp2_with fail
            go_roundw
            case rel => exact ⟨j, c6, _, _, _, by omega, rfl, rfl, rfl, HR.out, HOq2.out, own_base HOr.out (fun k hk => by have := own_ge HOr.out k hk; omega), by intro hh; exact N6.out (Option.some.inj hh), HSW.out⟩
            case measure => simp [intOf]
          · rw [decide_eq_false hlt]
            have hle : Hid (b ≤ 2 * rv + t.toNat) := by unfold Hid; omega
            clear hT hlt
            go_wp2_with fail
            have zW := HSW.out.size
            refine (not_any W S' A' c' b (Hhb.out.step HSW.out (fun _ _ => id)) Hlb.out).mono ?_
            rintro e w8 ⟨A8, c8, rfl, hA8, s8⟩
            go_wp2_with fail
            refine (add_any w8 _ _ (some ⟨g6, 0, none⟩) A8 c6 c8 (2 * rv + t.toNat) (2 ^ 64 - 1 - b) true (Reads.of_own (own_below HOr.out s8)) (Reads.of_own hA8)).mono ?_
            rintro e w9 ⟨A9, c9, rfl, hA9, s9⟩
            have HSX := Lib.hid ((HSW.out.trans s8).trans s9)
            have H9 : Hid (w9.ownsRow w8.heap.size 4 1 (.slice A9 64 c9) 64 (bools (bs 64 (a / 2 ^ j % b)))) := by
              rw [Hst.out, if_pos hle.out, ← bs_mod 64 (2 * rv + t.toNat - b)]
              rw [← bs_mod 64 (2 * rv + t.toNat + (2 ^ 64 - 1 - b) + true.toNat)] at hA9
              rw [show (2 * rv + t.toNat + (2 ^ 64 - 1 - b) + true.toNat) = 2 * rv + t.toNat - b + 2 ^ 64 by have := hle.out; have := Hlb.out; simp; omega, Nat.add_mod_right] at hA9
              exact hA9
            obtain ⟨g9, rfl, hb9, hl9, _, _⟩ := row_at hA9
            have HO19 := Lib.hid (own_below (own_below HOq.out s8) s9)
            have z8 := s8.size
            have N9 : Hid (g9 ≠ w.heap.size) := by
              obtain ⟨_, hlG, _⟩ := row_own HOq.out
              have : w.heap.size < W.heap.size := hlG
              unfold Hid; omega
            obtain ⟨gq, eq, hbq, hlq, hcellq, hfrq⟩ := row_at HO19.out
            have hcq : w9.cell? ⟨w.heap.size, j, none⟩ = some (.bool (qv.testBit j)) := by injection eq with eq; injection eq with eq; subst eq; exact hcellq j (by omega)
            have hfq : w9.frozen? ⟨w.heap.size, j, none⟩ = false := by injection eq with eq; injection eq with eq; subst eq; exact hfrq j
            clear eq hcellq hfrq hA9 hA8 s8 s9
            have HOZ : Hid ((w9.setCell ⟨w.heap.size, j, none⟩ (.bool true)).ownsRow w.heap.size 4 1 (.slice (some ⟨w.heap.size, 0, none⟩) 64 64) 64 (bools (bs 64 (a / b / 2 ^ j * 2 ^ j)))) :=
              row_set HO19.out (by omega) fun i hi => by
                rw [HQ2.out i hi, Hqj.out, decide_eq_true hle.out]
            have HRZ : Hid ((w9.setCell ⟨w.heap.size, j, none⟩ (.bool true)).ownsRow w.heap.size 4 1 (.slice (some ⟨g9, 0, none⟩) 64 c9) 64 (bools (bs 64 (a / 2 ^ j % b)))) :=
              own_set (own_base H9.out (fun k hk => by have := own_ge H9.out k hk; omega)) (by intro hh; exact N9.out (Option.some.inj hh)) _
            have HSZ : Hid (Step (fun _ => False) w (w9.setCell ⟨w.heap.size, j, none⟩ (.bool true))) := HSX.out.setCell (.inr (by show w.heap.size ≤ w.heap.size; omega)) _
            clear HSX H9 HO19 hle HSW HOr HOq HS6' HO6 H6 HO16 HS6 HS HO1 HO2
            go_wp2_with fail
            go_roundw
            case rel => exact ⟨j, c9, _, _, _, by omega, rfl, rfl, rfl, rfl, HOZ.out, HRZ.out, by intro hh; exact N9.out (Option.some.inj hh), HSZ.out⟩
            case measure => simp [intOf]
        · have hle : Hid (b ≤ 2 * rv + t.toNat) := by have hh := Hhigh.out; have hl := Hlb.out; simp at hh; unfold Hid; omega
          have HSW := HS6'
          have HOr := H6
          have HOq := HO6
          go_wp2_with fail
          generalize (w6.setCell ⟨g6, 0, none⟩ (.bool t)) = W at *
          have zW := HSW.out.size
          refine (not_any W S' A' c' b (Hhb.out.step HSW.out (fun _ _ => id)) Hlb.out).mono ?_
          rintro e w8 ⟨A8, c8, rfl, hA8, s8⟩
          go_wp2_with fail
          refine (add_any w8 _ _ (some ⟨g6, 0, none⟩) A8 c6 c8 (2 * rv + t.toNat) (2 ^ 64 - 1 - b) true (Reads.of_own (own_below HOr.out s8)) (Reads.of_own hA8)).mono ?_
          rintro e w9 ⟨A9, c9, rfl, hA9, s9⟩
          have HSX := Lib.hid ((HSW.out.trans s8).trans s9)
          have H9 : Hid (w9.ownsRow w8.heap.size 4 1 (.slice A9 64 c9) 64 (bools (bs 64 (a / 2 ^ j % b)))) := by
            rw [Hst.out, if_pos hle.out, ← bs_mod 64 (2 * rv + t.toNat - b)]
            rw [← bs_mod 64 (2 * rv + t.toNat + (2 ^ 64 - 1 - b) + true.toNat)] at hA9
            rw [show (2 * rv + t.toNat + (2 ^ 64 - 1 - b) + true.toNat) = 2 * rv + t.toNat - b + 2 ^ 64 by have := hle.out; have := Hlb.out; simp; omega, Nat.add_mod_right] at hA9
            exact hA9
          obtain ⟨g9, rfl, hb9, hl9, _, _⟩ := row_at hA9
          have HO19 := Lib.hid (own_below (own_below HOq.out s8) s9)
          have z8 := s8.size
          have N9 : Hid (g9 ≠ w.heap.size) := by
            obtain ⟨_, hlG, _⟩ := row_own HOq.out
            have : w.heap.size < W.heap.size := hlG
            unfold Hid; omega
          obtain ⟨gq, eq, hbq, hlq, hcellq, hfrq⟩ := row_at HO19.out
          have hcq : w9.cell? ⟨w.heap.size, j, none⟩ = some (.bool (qv.testBit j)) := by injection eq with eq; injection eq with eq; subst eq; exact hcellq j (by omega)
          have hfq : w9.frozen? ⟨w.heap.size, j, none⟩ = false := by injection eq with eq; injection eq with eq; subst eq; exact hfrq j
          clear eq hcellq hfrq hA9 hA8 s8 s9
          have HOZ : Hid ((w9.setCell ⟨w.heap.size, j, none⟩ (.bool true)).ownsRow w.heap.size 4 1 (.slice (some ⟨w.heap.size, 0, none⟩) 64 64) 64 (bools (bs 64 (a / b / 2 ^ j * 2 ^ j)))) :=
            row_set HO19.out (by omega) fun i hi => by
              rw [HQ2.out i hi, Hqj.out, decide_eq_true hle.out]
          have HRZ : Hid ((w9.setCell ⟨w.heap.size, j, none⟩ (.bool true)).ownsRow w.heap.size 4 1 (.slice (some ⟨g9, 0, none⟩) 64 c9) 64 (bools (bs 64 (a / 2 ^ j % b)))) :=
            own_set (own_base H9.out (fun k hk => by have := own_ge H9.out k hk; omega)) (by intro hh; exact N9.out (Option.some.inj hh)) _
          have HSZ : Hid (Step (fun _ => False) w (w9.setCell ⟨w.heap.size, j, none⟩ (.bool true))) := HSX.out.setCell (.inr (by show w.heap.size ≤ w.heap.size; omega)) _
          clear HSX H9 HO19 hle HSW HOr HOq HS6' HO6 H6 HO16 HS6 HS HO1 HO2
          go_wp2_with fail
          go_roundw
          case rel => exact ⟨j, c9, _, _, _, by omega, rfl, rfl, rfl, rfl, HOZ.out, HRZ.out, by intro hh; exact N9.out (Option.some.inj hh), HSZ.out⟩
          case measure => simp [intOf]
  · go_loopw [7, 8] (fun r i wr => ∃ (k c2 qv rv : Nat) (D2 : Option Addr), k ≤ 64 ∧ r = .slice D2 64 c2 ∧ i = .int .i64 ((k : Int) - 1) ∧ Hid (qv = a / b / 2 ^ k * 2 ^ k) ∧ Hid (rv = a / 2 ^ k % b) ∧
      Hid (wr.ownsRow w.heap.size 4 1 (.slice (some ⟨w.heap.size + 1, 0, none⟩) 64 64) 64 (bools (bs 64 qv))) ∧ Hid (wr.ownsRow w.heap.size 4 1 (.slice D2 64 c2) 64 (bools (bs 64 rv))) ∧ Hid (blkOf D2 ≠ some (w.heap.size + 1)) ∧ Hid (Step (fun _ => False) w wr)) (fun _ i _ => (intOf i + 1).toNat)
    case atStart => exact ⟨64, 64, 0, 0, some ⟨w.heap.size, 0, none⟩, by omega, rfl, rfl, by unfold Hid; rw [Nat.div_eq_of_lt hq0.out, Nat.zero_mul], by unfold Hid; rw [hend.out, Nat.zero_mod], Z1, Z0, by simp [Hid, blkOf], ZS.out.drew⟩
    case round =>
      obtain ⟨k, c2, qv, rv, D2, hk, rfl, hi, HQ1, HR1, HO1, HO2, HD, HS⟩ := hrel
      clear Z0 Z1 ZS Zs hmk
      rcases k with _ | j
      · obtain rfl : u8 = .int .i64 (-1) := by rw [hi]; rfl
        go_wp2_with fail
        go_ret2
        have e1 : qv = a / b := by rw [HQ1.out]; simp
        have e2 : rv = a % b := by rw [HR1.out]; simp
        subst e1; subst e2
        exact ⟨_, _, D2, c2, rfl, HO1.out, HO2.out, HS.out⟩
      · obtain rfl : u8 = .int .i64 (j : Int) := by rw [hi]; congr 1; omega
        obtain ⟨ad, rfl, _, hlw, hc⟩ := bools_at Hha.out (k := j) (by omega)
        have i0 : (0 : Int) ≤ (j : Int) := by omega
        have i1 : (j : Int) < 64 := by omega
        have hwj := IntWalk.i64_in ((j : Int) - 1) (by omega)
        obtain ⟨g2, rfl, hb2, hl2, hcell2, hfr2⟩ := row_at HO2.out
        have hc63 := hcell2 63 (by omega)
        have HC := Lib.hid hc
        have HQ2 := Lib.hid (hi_next (a / b) j hq0.out)
        have hlow := low_set rv (a.testBit j)
        have Hst := Lib.hid (Hdm.out j)
        have Hqj := Lib.hid (Hqb.out j)
        have Hrl := Lib.hid (Hlt.out (j + 1))
        rw [← HR1.out] at Hst Hqj Hrl
        rw [← HQ1.out] at HQ2
        have Hhigh := Lib.hid (high_bit (t := (a.testBit j).toNat) Hrl.out Hlb.out (bit_le _))
        have Hlow := Lib.hid hlow
        clear hi hcell2 hfr2 hc hlow
        generalize a.testBit j = t at *
        generalize rv.testBit 63 = h at *
        go_wp2_with fail
        refine (shift_any wr _ (some ⟨g2, 0, none⟩) c2 rv (rv * 2 ^ 1) 1 false (Reads.of_own HO2.out) (by omega) (by omega) (shift_up_bits rv 1)).mono ?_
        rintro e w6 ⟨A6, c6, rfl, hA6, s6⟩
        obtain ⟨g6, rfl, hb6, hl6, hcell6, hfr6⟩ := row_at hA6
        have hc0 := hcell6 0 (by omega)
        have hf0 := hfr6 0
        have z0 := HS.out.size
        have z6 := s6.size
        have HS6 := Lib.hid (HS.out.trans s6)
        have HO16 := Lib.hid (own_below HO1.out s6)
        have hcj := (HS6.out.cell (p := ad.add j) (by rw [add_block]; exact hlw) id).trans HC.out
        have H6 := Lib.hid (row_set hA6 (k := 0) (by omega) Hlow.out)
        have N6 : Hid (g6 ≠ w.heap.size + 1) := by
          obtain ⟨_, hlG, _⟩ := row_own HO1.out
          have : w.heap.size + 1 < wr.heap.size := hlG
          unfold Hid; omega
        clear hcell6 hfr6 hA6 s6
        have HS6' : Hid (Step (fun _ => False) w (w6.setCell ⟨g6, 0, none⟩ (.bool t))) := HS6.out.setCell (.inr (by show w.heap.size ≤ g6; omega)) _
        have HO6 : Hid ((w6.setCell ⟨g6, 0, none⟩ (.bool t)).ownsRow w.heap.size 4 1 (.slice (some ⟨w.heap.size + 1, 0, none⟩) 64 64) 64 (bools (bs 64 qv))) := own_set HO16.out (by intro hh; exact N6.out (Option.some.inj hh).symm) _
        have hbt := bit_le t
        cases h
        · go_wp2_with fail
          have hT : 2 * rv + t.toNat < 2 ^ 64 := by have := Hhigh.out; simpa using this
          refine (less_any _ _ S' (some ⟨g6, 0, none⟩) A' c6 c' (2 * rv + t.toNat) b (Reads.of_own H6.out) (Hhb.out.step HS6'.out (fun _ _ => id)) hT Hlb.out).mono ?_
          rintro e w7 ⟨rfl, m, rfl⟩
          have HSW := Lib.hid (HS6'.out.drewN m)
          have HOr := Lib.hid (own_below H6.out (Step.refl.drewN m))
          have HOq := Lib.hid (own_below HO6.out (Step.refl.drewN m))
          generalize (w6.setCell ⟨g6, 0, none⟩ (.bool t)).drewN m = W at *
          by_cases hlt : 2 * rv + t.toNat < b
          · have HOq2 : Hid (W.ownsRow w.heap.size 4 1 (.slice (some ⟨w.heap.size + 1, 0, none⟩) 64 64) 64 (bools (bs 64 (a / b / 2 ^ j * 2 ^ j)))) := by
              rw [bs_congr (u := qv) fun i hi => by
                rw [HQ2.out i hi]
                split
                · rename_i h1
                  rw [Hqj.out, decide_eq_false (by omega), h1, HQ1.out, Nat.mul_comm, Nat.testBit_two_pow_mul]
                  simp [show ¬ j + 1 ≤ j by omega]
                · rfl]
              exact HOq.out
            have HR : Hid (2 * rv + t.toNat = a / 2 ^ j % b) := by rw [Hst.out]; simp [Hid]; omega
            rw [decide_eq_true hlt]
            clear hT hlt
            go_wp2_with fail
            go_roundw
            case rel => exact ⟨j, c6, _, _, _, by omega, rfl, rfl, rfl, HR.out, HOq2.out, own_base HOr.out (fun k hk => by have := own_ge HOr.out k hk; omega), by intro hh; exact N6.out (Option.some.inj hh), HSW.out⟩
            case measure => simp [intOf]
          · rw [decide_eq_false hlt]
            have hle : Hid (b ≤ 2 * rv + t.toNat) := by unfold Hid; omega
            clear hT hlt
            go_wp2_with fail
            have zW := HSW.out.size
            refine (not_any W S' A' c' b (Hhb.out.step HSW.out (fun _ _ => id)) Hlb.out).mono ?_
            rintro e w8 ⟨A8, c8, rfl, hA8, s8⟩
            go_wp2_with fail
            refine (add_any w8 _ _ (some ⟨g6, 0, none⟩) A8 c6 c8 (2 * rv + t.toNat) (2 ^ 64 - 1 - b) true (Reads.of_own (own_below HOr.out s8)) (Reads.of_own hA8)).mono ?_
            rintro e w9 ⟨A9, c9, rfl, hA9, s9⟩
            have HSX := Lib.hid ((HSW.out.trans s8).trans s9)
            have H9 : Hid (w9.ownsRow w8.heap.size 4 1 (.slice A9 64 c9) 64 (bools (bs 64 (a / 2 ^ j % b)))) := by
              rw [Hst.out, if_pos hle.out, ← bs_mod 64 (2 * rv + t.toNat - b)]
              rw [← bs_mod 64 (2 * rv + t.toNat + (2 ^ 64 - 1 - b) + true.toNat)] at hA9
              rw [show (2 * rv + t.toNat + (2 ^ 64 - 1 - b) + true.toNat) = 2 * rv + t.toNat - b + 2 ^ 64 by have := hle.out; have := Hlb.out; simp; omega, Nat.add_mod_right] at hA9
              exact hA9
            obtain ⟨g9, rfl, hb9, hl9, _, _⟩ := row_at hA9
            have HO19 := Lib.hid (own_below (own_below HOq.out s8) s9)
            have z8 := s8.size
            have N9 : Hid (g9 ≠ w.heap.size + 1) := by
              obtain ⟨_, hlG, _⟩ := row_own HOq.out
              have : w.heap.size + 1 < W.heap.size := hlG
              unfold Hid; omega
            obtain ⟨gq, eq, hbq, hlq, hcellq, hfrq⟩ := row_at HO19.out
            have hcq : w9.cell? ⟨w.heap.size + 1, j, none⟩ = some (.bool (qv.testBit j)) := by injection eq with eq; injection eq with eq; subst eq; exact hcellq j (by omega)
            have hfq : w9.frozen? ⟨w.heap.size + 1, j, none⟩ = false := by injection eq with eq; injection eq with eq; subst eq; exact hfrq j
            clear eq hcellq hfrq hA9 hA8 s8 s9
            have HOZ : Hid ((w9.setCell ⟨w.heap.size + 1, j, none⟩ (.bool true)).ownsRow w.heap.size 4 1 (.slice (some ⟨w.heap.size + 1, 0, none⟩) 64 64) 64 (bools (bs 64 (a / b / 2 ^ j * 2 ^ j)))) :=
              row_set HO19.out (by omega) fun i hi => by
                rw [HQ2.out i hi, Hqj.out, decide_eq_true hle.out]
            have HRZ : Hid ((w9.setCell ⟨w.heap.size + 1, j, none⟩ (.bool true)).ownsRow w.heap.size 4 1 (.slice (some ⟨g9, 0, none⟩) 64 c9) 64 (bools (bs 64 (a / 2 ^ j % b)))) :=
              own_set (own_base H9.out (fun k hk => by have := own_ge H9.out k hk; omega)) (by intro hh; exact N9.out (Option.some.inj hh)) _
            have HSZ : Hid (Step (fun _ => False) w (w9.setCell ⟨w.heap.size + 1, j, none⟩ (.bool true))) := HSX.out.setCell (.inr (by show w.heap.size ≤ w.heap.size + 1; omega)) _
            clear HSX H9 HO19 hle HSW HOr HOq HS6' HO6 H6 HO16 HS6 HS HO1 HO2
            go_wp2_with fail
            go_roundw
            case rel => exact ⟨j, c9, _, _, _, by omega, rfl, rfl, rfl, rfl, HOZ.out, HRZ.out, by intro hh; exact N9.out (Option.some.inj hh), HSZ.out⟩
            case measure => simp [intOf]
        · have hle : Hid (b ≤ 2 * rv + t.toNat) := by have hh := Hhigh.out; have hl := Hlb.out; simp at hh; unfold Hid; omega
          have HSW := HS6'
          have HOr := H6
          have HOq := HO6
          go_wp2_with fail
          generalize (w6.setCell ⟨g6, 0, none⟩ (.bool t)) = W at *
          have zW := HSW.out.size
          refine (not_any W S' A' c' b (Hhb.out.step HSW.out (fun _ _ => id)) Hlb.out).mono ?_
          rintro e w8 ⟨A8, c8, rfl, hA8, s8⟩
          go_wp2_with fail
          refine (add_any w8 _ _ (some ⟨g6, 0, none⟩) A8 c6 c8 (2 * rv + t.toNat) (2 ^ 64 - 1 - b) true (Reads.of_own (own_below HOr.out s8)) (Reads.of_own hA8)).mono ?_
          rintro e w9 ⟨A9, c9, rfl, hA9, s9⟩
          have HSX := Lib.hid ((HSW.out.trans s8).trans s9)
          have H9 : Hid (w9.ownsRow w8.heap.size 4 1 (.slice A9 64 c9) 64 (bools (bs 64 (a / 2 ^ j % b)))) := by
            rw [Hst.out, if_pos hle.out, ← bs_mod 64 (2 * rv + t.toNat - b)]
            rw [← bs_mod 64 (2 * rv + t.toNat + (2 ^ 64 - 1 - b) + true.toNat)] at hA9
            rw [show (2 * rv + t.toNat + (2 ^ 64 - 1 - b) + true.toNat) = 2 * rv + t.toNat - b + 2 ^ 64 by have := hle.out; have := Hlb.out; simp; omega, Nat.add_mod_right] at hA9
            exact hA9
          obtain ⟨g9, rfl, hb9, hl9, _, _⟩ := row_at hA9
          have HO19 := Lib.hid (own_below (own_below HOq.out s8) s9)
          have z8 := s8.size
          have N9 : Hid (g9 ≠ w.heap.size + 1) := by
            obtain ⟨_, hlG, _⟩ := row_own HOq.out
            have : w.heap.size + 1 < W.heap.size := hlG
            unfold Hid; omega
          obtain ⟨gq, eq, hbq, hlq, hcellq, hfrq⟩ := row_at HO19.out
          have hcq : w9.cell? ⟨w.heap.size + 1, j, none⟩ = some (.bool (qv.testBit j)) := by injection eq with eq; injection eq with eq; subst eq; exact hcellq j (by omega)
          have hfq : w9.frozen? ⟨w.heap.size + 1, j, none⟩ = false := by injection eq with eq; injection eq with eq; subst eq; exact hfrq j
          clear eq hcellq hfrq hA9 hA8 s8 s9
          have HOZ : Hid ((w9.setCell ⟨w.heap.size + 1, j, none⟩ (.bool true)).ownsRow w.heap.size 4 1 (.slice (some ⟨w.heap.size + 1, 0, none⟩) 64 64) 64 (bools (bs 64 (a / b / 2 ^ j * 2 ^ j)))) :=
            row_set HO19.out (by omega) fun i hi => by
              rw [HQ2.out i hi, Hqj.out, decide_eq_true hle.out]
          have HRZ : Hid ((w9.setCell ⟨w.heap.size + 1, j, none⟩ (.bool true)).ownsRow w.heap.size 4 1 (.slice (some ⟨g9, 0, none⟩) 64 c9) 64 (bools (bs 64 (a / 2 ^ j % b)))) :=
            own_set (own_base H9.out (fun k hk => by have := own_ge H9.out k hk; omega)) (by intro hh; exact N9.out (Option.some.inj hh)) _
          have HSZ : Hid (Step (fun _ => False) w (w9.setCell ⟨w.heap.size + 1, j, none⟩ (.bool true))) := HSX.out.setCell (.inr (by show w.heap.size ≤ w.heap.size + 1; omega)) _
          clear HSX H9 HO19 hle HSW HOr HOq HS6' HO6 H6 HO16 HS6 HS HO1 HO2
          go_wp2_with fail
          go_roundw
          case rel => exact ⟨j, c9, _, _, _, by omega, rfl, rfl, rfl, rfl, HOZ.out, HRZ.out, by intro hh; exact N9.out (Option.some.inj hh), HSZ.out⟩
          case measure => simp [intOf]
end Go.Proofs.Ytfechgpdlabgaaa
