/-
  leb: what was written is read back.
-/
import Derived.Test.YtfemeendkjcffaaRdC
import Derived.Test.YtfemeendkjcffaaLeB
import Derived.Test.YtfemeendkjcffaaPuA
set_option linter.unusedVariables false
set_option linter.unusedSimpArgs false
namespace Go.Proofs.Ytfemeendkjcffaa
open Go.RowKit

theorem getD_app (l m : List UInt8) (i : Nat) (h : i < l.length) : (l ++ m).getD i 0 = l.getD i 0 := by rw [List.getD_eq_getElem?_getD, List.getD_eq_getElem?_getD, List.getElem?_append_left h]

theorem grp_uint : ∀ (m f v j : Nat) (rest : List UInt8), 0 < m → m ≤ f → v < 128 ^ m →
    grpN m (uintL f v ++ rest) j = (j + (uintL f v).length, 0) ∧ 0 < (uintL f v).length ∧ (uintL f v).length ≤ m ∧ valL (uintL f v) = v ∧ ∀ i, i + 1 = (uintL f v).length → ((uintL f v).getD i 0).toNat < 128
  | 0, _, _, _, _, h, _, _ => absurd h (by decide)
  | m + 1, 0, _, _, _, _, h, _ => absurd h (by omega)
  | m + 1, f + 1, v, j, rest, _, hf, hv => by
    rw [uintL]
    split
    · rename_i hlt
      refine ⟨?_, by simp, by simp, ?_, ?_⟩
      · rw [List.singleton_append, grpN, if_pos (by simp; omega)]
        rfl
      · simp [valL]; omega
      · intro i hi
        obtain rfl : i = 0 := by simpa using hi
        simp; omega
    · rename_i hge
      have hm : 0 < m := by
        rcases Nat.eq_zero_or_pos m with rfl | h
        · simp at hv; omega
        · exact h
      have hv2 : v / 128 < 128 ^ m := by
        rw [Nat.pow_succ] at hv
        exact Nat.div_lt_of_lt_mul (by rw [Nat.mul_comm]; exact hv)
      obtain ⟨h1, h2, h3, h4, h5⟩ := grp_uint m f (v / 128) (j + 1) rest hm (by omega) hv2
      refine ⟨?_, by simp, by simp; omega, ?_, ?_⟩
      · rw [List.cons_append, grpN, if_neg (by simp; omega), h1, List.length_cons]
        simp; omega
      · rw [valL, h4]; simp; omega
      · intro i hi
        cases i with
        | zero => rw [List.length_cons] at hi; omega
        | succ i => rw [List.getD_cons_succ]; exact h5 i (by rw [List.length_cons] at hi; omega)
theorem grpN_take (l rest : List UInt8) : (l ++ rest).take l.length = l := List.take_left
theorem valL_last (l : List UInt8) (p : Nat) (h : p + 1 = l.length) : valL l = valL (l.take p) + (l.getD p 0).toNat % 128 * 128 ^ p ∧ valL (l.take p) < 128 ^ p := by
  have h1 := valL_take l p (by omega)
  have h2 := valL_lt (l.take p)
  rw [List.length_take, Nat.min_eq_left (by omega)] at h2
  rw [show p + 1 = l.length from h, List.take_length] at h1
  refine ⟨?_, h2⟩
  rw [h1, List.getD_eq_getElem?_getD, List.getElem?_eq_getElem (by omega)]
  rfl

theorem rdU_back (v : Nat) (rest : List UInt8) (hv : v < 4294967296) : rdU (uintF v ++ rest) = (v, (uintF v).length, 0) ∧ 0 < (uintF v).length ∧ (uintF v).length ≤ 5 := by
  obtain ⟨h1, h2, h3, h4, h5⟩ := grp_uint 5 10 v 0 rest (by decide) (by decide) (by omega)
  have e : uintF v = uintL 10 v := rfl
  rw [e]
  generalize uintL 10 v = l at *
  refine ⟨?_, h2, h3⟩
  rw [rdU, h1, if_pos rfl]
  simp only [Nat.zero_add]
  rw [if_neg, grpN_take, h4]
  rintro ⟨h6, h7⟩
  have h8 := valL_last l 4 (by omega)
  have h9 := h5 4 (by omega)
  rw [getD_app _ _ _ (by omega)] at h7
  rw [h4] at h8
  omega

theorem emod_step (v M : Int) (hM : 0 < M) : v % (128 * M) = v % 128 + 128 * (v / 128 % M) := by
  have h1 : v = (v % 128 + 128 * (v / 128 % M)) + (128 * M) * (v / 128 / M) := by
    have h2 := Int.emod_add_mul_ediv v 128
    have h3 := Int.emod_add_mul_ediv (v / 128) M
    have h4 : (128 * M) * (v / 128 / M) = 128 * (M * (v / 128 / M)) := by rw [Int.mul_assoc]
    omega
  have h5 := Int.emod_nonneg (v / 128) (by omega : M ≠ 0)
  have h6 := Int.emod_lt_of_pos (v / 128) hM
  have h7 : 128 * (v / 128 % M) + 128 ≤ 128 * M := by omega
  generalize hr : v % 128 + 128 * (v / 128 % M) = r at *
  rw [h1, Int.add_mul_emod_self_left]
  exact Int.emod_eq_of_lt (by omega) (by omega)

theorem b8_nat (n : Int) (h0 : 0 ≤ n) (h : n < 256) : ((b8 n).toNat : Int) = n := by
  rw [b8]
  simp
  omega
theorem grp_int : ∀ (m f : Nat) (v : Int) (j : Nat) (rest : List UInt8), m < f → -(64 * 128 ^ m) ≤ v → v < 64 * 128 ^ m →
    ∃ p, (intL f v).length = p + 1 ∧ p ≤ m ∧ grpN (m + 1) (intL f v ++ rest) j = (j + (p + 1), 0) ∧ -(64 * 128 ^ p) ≤ v ∧ v < 64 * 128 ^ p ∧ (valL (intL f v) : Int) = v % 128 ^ (p + 1) ∧ ((intL f v).getD p 0).toNat < 128
  | _, 0, _, _, _, h, _, _ => absurd h (by omega)
  | m, f + 1, v, j, rest, hf, hl, hh => by
    rw [intL]
    split
    · rename_i hs
      have hb := b8_nat (v % 128) (by omega) (by omega)
      refine ⟨0, rfl, by omega, ?_, by simp; omega, by simp; omega, ?_, ?_⟩
      · rw [List.singleton_append, grpN, if_pos (by omega)]
      · simp [valL]; omega
      · simp; omega
    · rename_i hs
      have hm : ∃ m', m = m' + 1 := by
        cases m with
        | zero => simp at hl hh; omega
        | succ m' => exact ⟨m', rfl⟩
      obtain ⟨m', rfl⟩ := hm
      have hpos : (0 : Int) < 128 ^ m' := Int.pow_pos (by decide)
      rw [Int.pow_succ] at hl hh
      generalize hP : (128 : Int) ^ m' = P at *
      obtain ⟨p, h1, h2, h3, h4, h5, h6, h7⟩ := grp_int m' f (v / 128) (j + 1) rest (by omega) (by rw [hP]; omega) (by rw [hP]; omega)
      have hb := b8_nat (v % 128 + 128) (by omega) (by omega)
      have hpp : (0 : Int) < 128 ^ p := Int.pow_pos (by decide)
      refine ⟨p + 1, by rw [List.length_cons, h1], by omega, ?_, ?_, ?_, ?_, ?_⟩
      · rw [List.cons_append, grpN, if_neg (by omega), h3]
        simp; omega
      · rw [Int.pow_succ]; generalize (128 : Int) ^ p = Q at *; omega
      · rw [Int.pow_succ]; generalize (128 : Int) ^ p = Q at *; omega
      · rw [valL, Int.pow_succ, Int.mul_comm, emod_step v _ (by rw [Int.pow_succ]; omega), ← h6]
        omega
      · rw [List.getD_cons_succ]; exact h7

theorem sgn_back (p : Nat) (v : Int) (V : Nat) (hp : p < 10) (hl : -(64 * 128 ^ p) ≤ v) (hh : v < 64 * 128 ^ p) (h64 : -9223372036854775808 ≤ v ∧ v ≤ 9223372036854775807) (hV : (V : Int) = v % 128 ^ (p + 1)) : sgnN (p + 1) V = v := by
  rw [sgnN]
  rcases ten_cases hp with rfl | rfl | rfl | rfl | rfl | rfl | rfl | rfl | rfl | rfl <;> simp at hl hh hV ⊢ <;> (try unfold wrap64) <;> (try split) <;> omega

theorem rdS_back32 (v : Int) (rest : List UInt8) (h : -2147483648 ≤ v ∧ v ≤ 2147483647) : rdS 5 8 15 (intF v ++ rest) = (v, (intF v).length, 0) ∧ 0 < (intF v).length ∧ (intF v).length ≤ 5 := by
  obtain ⟨p, h1, h2, h3, h4, h5, h6, h7⟩ := grp_int 4 10 v 0 rest (by decide) (by omega) (by omega)
  have e : intF v = intL 10 v := rfl
  rw [e]
  generalize intL 10 v = l at *
  refine ⟨?_, by omega, by omega⟩
  rw [rdS, h3, if_pos rfl]
  simp only [Nat.zero_add]
  rw [if_neg, ← h1, grpN_take, h1, sgn_back p v _ (by omega) h4 h5 (by omega) h6]
  rintro ⟨h8, h9⟩
  obtain rfl : p = 4 := by omega
  have h10 := valL_last l 4 (by omega)
  rw [getD_app _ _ _ (by omega)] at h9
  change ¬((l.getD 4 0).toNat / 8 = 0 ∨ (l.getD 4 0).toNat / 8 = 15) at h9
  generalize (l.getD 4 0).toNat = q at h7 h9 h10
  simp at h6 h10
  omega
theorem rdS_back64 (v : Int) (rest : List UInt8) (h : -9223372036854775808 ≤ v ∧ v ≤ 9223372036854775807) : rdS 10 1 127 (intF v ++ rest) = (v, (intF v).length, 0) ∧ 0 < (intF v).length ∧ (intF v).length ≤ 10 := by
  obtain ⟨p, h1, h2, h3, h4, h5, h6, h7⟩ := grp_int 9 10 v 0 rest (by decide) (by omega) (by omega)
  have e : intF v = intL 10 v := rfl
  rw [e]
  generalize intL 10 v = l at *
  refine ⟨?_, by omega, by omega⟩
  rw [rdS, h3, if_pos rfl]
  simp only [Nat.zero_add]
  rw [if_neg, ← h1, grpN_take, h1, sgn_back p v _ (by omega) h4 h5 h h6]
  rintro ⟨h8, h9⟩
  obtain rfl : p = 9 := by omega
  have h10 := valL_last l 9 (by omega)
  rw [getD_app _ _ _ (by omega)] at h9
  change ¬((l.getD 9 0).toNat / 1 = 0 ∨ (l.getD 9 0).toNat / 1 = 127) at h9
  generalize (l.getD 9 0).toNat = q at h7 h9 h10
  simp at h6 h10
  omega
end Go.Proofs.Ytfemeendkjcffaa
