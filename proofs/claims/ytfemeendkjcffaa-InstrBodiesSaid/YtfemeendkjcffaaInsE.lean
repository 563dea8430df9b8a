/-
  creelref07: Walk and Shape of any row.
-/
import Derived.Test.YtfemeendkjcffaaInsB
set_option linter.unusedVariables false
set_option linter.unusedSimpArgs false
namespace Go.Proofs.Ytfemeendkjcffaa
open Go.RowKit

/-- An open block's letter. -/
def ltr (op : Nat) : Nat := if op = 4 then 105 else if op = 5 then 101 else 98
theorem ltr_lt (op : Nat) : ltr op < 256 := by
  rw [ltr]
  split
  · decide
  · split <;> decide
theorem ltr_if (op : Nat) : ltr op = 105 ↔ op = 4 := by
  rw [ltr]
  constructor
  · intro h
    split at h
    · assumption
    · split at h <;> exact absurd h (by decide)
  · intro h
    rw [if_pos h]
def opn (st : List Nat) : List UInt8 := st.reverse.map fun op => UInt8.ofNat (ltr op)
theorem opn_len (st : List Nat) : (opn st).length = st.length := by simp [opn]
theorem opn_nil : opn [] = [] := rfl
theorem opn_cons (op : Nat) (st : List Nat) : opn (op :: st) = opn st ++ [UInt8.ofNat (ltr op)] := by simp [opn]
theorem opn_take (op : Nat) (st : List Nat) : (opn (op :: st)).take st.length = opn st := by
  rw [opn_cons]
  exact List.take_left' (opn_len st)
theorem opn_top (op : Nat) (st : List Nat) (h : st.length < (opn (op :: st)).length) : ((opn (op :: st))[st.length].toNat : Int) = (ltr op : Int) := by
  have h1 : (opn (op :: st))[st.length]? = some (UInt8.ofNat (ltr op)) := by
    rw [opn_cons, List.getElem?_append_right (by rw [opn_len]; exact Nat.le_refl _), opn_len]
    simp
  rw [List.getElem?_eq_getElem h] at h1
  injection h1 with h1
  rw [h1]
  have := ltr_lt op
  simp
  omega
theorem opn_add (op : Nat) (st : List Nat) (x : UInt8) (h : UInt8.ofNat (ltr op) = x) : str (opn st) ++ (⟨#[x]⟩ : ByteArray) = str (opn (op :: st)) := by
  rw [opn_cons, h]
  exact str_append (opn st) [x]

set_option maxRecDepth 100000 in
set_option maxHeartbeats 6400000 in
theorem rwalk_walk (w : World) (n c : Nat) (A : Option Addr) (l : List Ig) (S : Nat → Prop) (HN : Hid (n = l.length)) (hnb : n ≤ 1000) (hr : Reads w S 4 A n (igs l)) :
    Calls Try.prog 157 #[.slice A n c] w fun e w' => (∃ z : Int, e = .returned (.tuple #[.int .i64 (walkF (opsL l) 0 [] : Nat), .int .i64 z])) ∧ Step (fun _ => False) w w' := by
  have HR := Lib.hid hr
  obtain ⟨R, hR⟩ : ∃ R, R = walkF (opsL l) 0 [] := ⟨_, rfl⟩
  rw [← hR]
  have HSh := Lib.hid hR
  clear hr hR
  go_enter Try.func157, Try.ntmps157
  go_wp2_with fail
  go_loopw [4, 5] (fun ov iv wr => ∃ (j : Nat) (st : List Nat), j ≤ n ∧ ov = .string (str (opn st)) ∧ iv = .int .i64 (j : Int) ∧ Hid (walkF ((opsL l).drop j) j st = R) ∧ st.length ≤ j ∧ Hid (Step (fun _ => False) w wr)) (fun _ iv _ => n + 1 - (intOf iv).toNat)
  case atStart => exact ⟨0, [], by omega, rfl, rfl, by rw [Hid, List.drop_zero, HSh.out], by simp, Step.refl⟩
  case round =>
    obtain ⟨j, st, hj, rfl, rfl, HI, hsl, HS⟩ := hrel
    by_cases hlt : j < n
    · have g1 : (j : Int) < (n : Int) := by omega
      have i0 : (0 : Int) ≤ (j : Int) := by omega
      have hw1 := IntWalk.i64_in ((j : Int) + 1) (by omega)
      have hjl : j < l.length := by rw [← HN.out]; exact hlt
      obtain ⟨bk, off, rfl, _, hbl, hc⟩ := reads_row Ig.cells 4 (by decide) Ig.four (HR.out.step HS.out (fun _ _ => id)) (k := j) hjl
      have hI := HI.out
      rw [ops_drop l j hjl] at hI
      obtain ⟨x, hxe⟩ : ∃ x, x = l[j] := ⟨_, rfl⟩
      rw [← hxe] at hc hI
      clear hxe HI
      obtain ⟨op, a, b, m, cc, B, L⟩ := x
      have c0 := hc 0 _ rfl
      simp only [Nat.add_zero] at c0
      simp only at c0 hI
      have HI := Lib.hid hI
      clear hc hI
      have hsz := str_size (opn st)
      rw [opn_len] at hsz
      by_cases h23 : op = 2 ∨ op = 3
      · have HI2 : Hid (walkF ((opsL l).drop (j + 1)) (j + 1) (op :: st) = R) := by rw [Hid, ← HI.out, walkF_open (by omega)]
        have hap := opn_add op st 98 (by rw [ltr, if_neg (by omega), if_neg (by omega)]; rfl)
        clear HI
        rcases h23 with rfl | rfl
        · go_wp2_with fail
          go_roundw
          case rel => exact ⟨j + 1, 2 :: st, by omega, rfl, by rw [Int.natCast_add]; rfl, HI2, by simp; omega, HS⟩
          case measure => simp [intOf]; omega
        · go_wp2_with fail
          go_roundw
          case rel => exact ⟨j + 1, 3 :: st, by omega, rfl, by rw [Int.natCast_add]; rfl, HI2, by simp; omega, HS⟩
          case measure => simp [intOf]; omega
      have m2 : ¬ (op : Int) = 2 := by omega
      have m3 : ¬ (op : Int) = 3 := by omega
      have n2 : ((op : Int) == 2) = false := by simp; omega
      have n3 : ((op : Int) == 3) = false := by simp; omega
      by_cases h4 : op = 4
      · subst h4
        have HI2 : Hid (walkF ((opsL l).drop (j + 1)) (j + 1) (4 :: st) = R) := by rw [Hid, ← HI.out, walkF_open (by omega)]
        have hap := opn_add 4 st 105 rfl
        clear HI
        go_wp2_with fail
        go_roundw
        case rel => exact ⟨j + 1, 4 :: st, by omega, rfl, by rw [Int.natCast_add]; rfl, HI2, by simp; omega, HS⟩
        case measure => simp [intOf]; omega
      have m4 : ¬ (op : Int) = 4 := by omega
      have n4 : ((op : Int) == 4) = false := by simp; omega
      by_cases h5 : op = 5
      · subst h5
        cases st with
        | nil =>
          have hR0 : R = 0 := by rw [← HI.out, walkF_bad (by simp)]
          subst hR0
          rw [opn_nil]
          have hem : (str []).toList.isEmpty = true := by rw [str_toList]; rfl
          clear HI
          go_wp2_with fail
          go_ret2
          exact ⟨⟨_, rfl⟩, HS.out⟩
        | cons y st =>
          have hlc : (y :: st).length = st.length + 1 := rfl
          rw [hlc] at hsl hsz
          have hne : (str (opn (y :: st))).toList.isEmpty = false := by
            rw [str_toList, opn_cons]
            simp
          have hex : (str (opn (y :: st))).extract 0 st.length = str (opn st) := by
            rw [str_extract, List.drop_zero, Nat.sub_zero, opn_take]
          have hll : (opn (y :: st)).length = st.length + 1 := opn_len _
          have hix := index_strn Try.underlying9 (opn (y :: st)) ((st.length : Int) + 1 - 1) st.length (by omega) (by omega) (P := Try.prog)
          rw [opn_top] at hix
          have hgt : ∀ h : st.length < (str (opn (y :: st))).size, ((str (opn (y :: st)))[st.length]'h).toNat = ltr y := fun h => by
            have h1 := opn_top y st (by omega)
            have h2 : (str (opn (y :: st)))[st.length]'h = (opn (y :: st))[st.length]'(by omega) := rfl
            rw [h2]
            omega
          have hsz0 : (str (opn st)).size = st.length := by rw [str_size, opn_len]
          have hsx := str_slice_h Try.underlying9 (opn (y :: st)) .i64 ((st.length : Int) + 1 - 1) st.length (by omega) (by omega) (P := Try.prog)
          rw [opn_take] at hsx
          have hw2 := IntWalk.i64_in ((st.length : Int) + 1 - 1) (by omega)
          by_cases h6 : y = 4
          · subst h6
            have HI2 : Hid (walkF ((opsL l).drop (j + 1)) (j + 1) (5 :: st) = R) := by rw [Hid, ← HI.out, walkF_else]
            have hap := opn_add 5 st 101 rfl
            have hl4 : ltr 4 = 105 := rfl
            rw [hl4] at hix hgt
            clear HI hl4 hlc
            go_wp2_with fail
            go_roundw
            case rel => exact ⟨j + 1, 5 :: st, by omega, rfl, by rw [Int.natCast_add]; rfl, HI2, by simp; omega, HS⟩
            case measure => simp [intOf]; omega
          · have hR0 : R = 0 := by rw [← HI.out, walkF_bad (by simp; exact h6)]
            subst hR0
            obtain ⟨q, hq⟩ : ∃ q, q = ltr y := ⟨_, rfl⟩
            have hq2 : ¬ q = 105 := by rw [hq, ltr_if]; exact h6
            have hq3 : ((q : Int) != 105) = true := bne_iff_ne.2 (by omega)
            rw [← hq] at hix hgt
            clear HI hq hlc
            go_wp2_with fail
            go_ret2
            exact ⟨⟨_, rfl⟩, HS.out⟩
      have m5 : ¬ (op : Int) = 5 := by omega
      have n5 : ((op : Int) == 5) = false := by simp; omega
      by_cases h11 : op = 11
      · subst h11
        cases st with
        | nil =>
          have hR0 : R = j + 1 := by rw [← HI.out, walkF_last]
          subst hR0
          rw [opn_nil]
          have hem : (str []).toList.isEmpty = true := by rw [str_toList]; rfl
          clear HI
          go_wp2_with fail
          go_ret2
          exact ⟨⟨_, by rw [Int.natCast_add]; rfl⟩, HS.out⟩
        | cons y st =>
          have HI2 : Hid (walkF ((opsL l).drop (j + 1)) (j + 1) st = R) := by rw [Hid, ← HI.out, walkF_end]
          have hlc : (y :: st).length = st.length + 1 := rfl
          rw [hlc] at hsl hsz
          have hne : (str (opn (y :: st))).toList.isEmpty = false := by
            rw [str_toList, opn_cons]
            simp
          have hex : (str (opn (y :: st))).extract 0 st.length = str (opn st) := by
            rw [str_extract, List.drop_zero, Nat.sub_zero, opn_take]
          have hll : (opn (y :: st)).length = st.length + 1 := opn_len _
          have hsx := str_slice_h Try.underlying9 (opn (y :: st)) .i64 ((st.length : Int) + 1 - 1) st.length (by omega) (by omega) (P := Try.prog)
          rw [opn_take] at hsx
          have hw2 := IntWalk.i64_in ((st.length : Int) + 1 - 1) (by omega)
          clear HI hlc
          go_wp2_with fail
          go_roundw
          case rel => exact ⟨j + 1, st, by omega, rfl, by rw [Int.natCast_add]; rfl, HI2, by omega, HS⟩
          case measure => simp [intOf]; omega
      have HI2 : Hid (walkF ((opsL l).drop (j + 1)) (j + 1) st = R) := by rw [Hid, ← HI.out, walkF_plain (by omega) h5 h11]
      have m11 : ¬ (op : Int) = 11 := by omega
      have n11 : ((op : Int) == 11) = false := by simp; omega
      clear HI
      go_wp2_with fail
      go_roundw
      case rel => exact ⟨j + 1, st, by omega, rfl, by rw [Int.natCast_add]; rfl, HI2, by omega, HS⟩
      case measure => simp [intOf]; omega
    · obtain rfl : j = n := by omega
      have hR0 : R = 0 := by
        rw [← HI.out, List.drop_eq_nil_of_le (by rw [opsL, List.length_map, HN.out]; exact Nat.le_refl _), walkF_nil]
      subst hR0
      clear HI
      go_wp2_with fail
      go_ret2
      exact ⟨⟨_, rfl⟩, HS.out⟩

set_option maxRecDepth 100000 in
set_option maxHeartbeats 3200000 in
theorem rshape_walk (w : World) (n c : Nat) (A : Option Addr) (l : List Ig) (S : Nat → Prop) (HN : Hid (n = l.length)) (hnb : n ≤ 1000) (hr : Reads w S 4 A n (igs l)) :
    Calls Try.prog 60 #[.slice A n c] w fun e w' => e = .returned (.int .i64 (shpF l : Nat)) ∧ Step (fun _ => False) w w' := by
  have HG := Lib.hid (rwalk_walk w n c A l S HN hnb hr)
  obtain ⟨R, hR⟩ : ∃ R, R = walkF (opsL l) 0 [] := ⟨_, rfl⟩
  have hle := walkF_le (opsL l) 0 []
  rw [opsL, List.length_map, Nat.zero_add, ← HN.out, ← opsL, ← hR] at hle
  have hsh : shpF l = if R = n ∧ ¬ n = 0 then 0 else 30 := by rw [shpF, ← hR, ← HN.out]
  rw [← hR] at HG
  obtain ⟨Q, hQ⟩ : ∃ Q, Q = shpF l := ⟨_, rfl⟩
  rw [← hQ] at hsh ⊢
  have g0 : ¬ (20000 : Int) < (n : Int) := by omega
  clear hr hR hQ
  by_cases h : R = n ∧ ¬ n = 0
  · rw [if_pos h] at hsh
    subst hsh
    obtain ⟨rfl, h0⟩ := h
    have h1 : ((R : Int) == 0) = false := by simp; omega
    have h2 : ((R : Int) != (R : Int)) = false := by simp
    go_enter Try.func60, Try.ntmps60
    go_wp2_with fail
    refine HG.out.mono ?_
    rintro e w1 ⟨⟨z, rfl⟩, hS⟩
    go_wp2_with fail
    go_ret
    exact ⟨rfl, hS⟩
  · rw [if_neg h] at hsh
    subst hsh
    by_cases h0 : R = 0
    · subst h0
      go_enter Try.func60, Try.ntmps60
      go_wp2_with fail
      refine HG.out.mono ?_
      rintro e w1 ⟨⟨z, rfl⟩, hS⟩
      go_wp2_with fail
      go_ret
      exact ⟨rfl, hS⟩
    · have h1 : ((R : Int) == 0) = false := by simp; omega
      have h2 : ((R : Int) != (n : Int)) = true := bne_iff_ne.2 (by omega)
      go_enter Try.func60, Try.ntmps60
      go_wp2_with fail
      refine HG.out.mono ?_
      rintro e w1 ⟨⟨z, rfl⟩, hS⟩
      go_wp2_with fail
      go_ret
      exact ⟨rfl, hS⟩
end Go.Proofs.Ytfemeendkjcffaa
