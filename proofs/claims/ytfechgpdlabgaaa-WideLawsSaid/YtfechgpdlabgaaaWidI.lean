/-
  creelref19: Compare.
-/
import Derived.Test.YtfechgpdlabgaaaWidH
set_option linter.unusedVariables false
set_option linter.unusedSimpArgs false
namespace Go.Proofs.Ytfechgpdlabgaaa
open Go.RowKit Wide
theorem number_n (w : World) (S : Nat → Prop) (A : Option Addr) (c v : Nat) (hr : Reads w S 1 A 64 (bools (bs 64 v))) (hv : v < 18446744073709551616) :
    Calls Try.prog 78 #[.slice A 64 c] w fun e w' => e = .returned (.int .u64 (v : Int)) ∧ w = w' := (number_any w S A c v hr).mono fun _ _ h => ⟨by rw [h.1, Nat.mod_eq_of_lt hv], h.2⟩
/-- The comparisons by their place: alike, below without signs, the two highest bits. -/
def cmpF (k : Nat) (same lt ta tb : Bool) : Bool :=
  let below := if k % 2 == 0 && ta != tb then ta else lt
  match k with | 0 => same | 1 => !same | 2 | 3 => below | 4 | 5 => !below && !same | 6 | 7 => below || same | _ => !below
def CRet (w : World) (r : Bool) (is : Bool) (e : Ending) (w' : World) : Prop := e = .returned (.tuple #[.int .u64 (r.toNat : Int), .bool is]) ∧ Step (fun _ => False) w w'
theorem cret_of {w w2 : World} {r : Bool} {n : Nat} (h : r.toNat = n) (hs : Step (fun _ => False) w w2) : CRet w r true (.returned (.tuple #[.int .u64 (n : Int), .bool true])) w2 := by subst h; exact ⟨rfl, hs⟩

set_option maxRecDepth 100000 in
set_option maxHeartbeats 3200000 in
theorem compare_0 (w : World) (a b : Nat) (hla : a < 18446744073709551616) (hlb : b < 18446744073709551616) :
    Calls Try.prog 76 #[.int .i64 81, .int .u64 a, .int .u64 b] w (CRet w (cmpF 0 ((a : Int) == (b : Int)) (decide (a < b)) (a.testBit 63) (b.testBit 63)) true) := by
  obtain ⟨s, hs⟩ : ∃ s, s = ((a : Int) == (b : Int)) := ⟨_, rfl⟩
  obtain ⟨t, ht⟩ : ∃ t, t = decide (a < b) := ⟨_, rfl⟩
  have HS := Lib.hid hs
  have HT := Lib.hid ht
  rw [← hs, ← ht]
  clear hs ht
  generalize a.testBit 63 = ta
  generalize b.testBit 63 = tb
  cases s
  all_goals
    have h1 : ((a : Int) == (b : Int)) = _ := HS.out.symm
    go_enter Try.func76, Try.ntmps76
    go_wp2_with fail
    refine (bits_any _ a hla).mono ?_
    rintro e w1 ⟨A, c, rfl, ha, s1⟩
    go_wp2_with fail
    refine (bits_any _ b hlb).mono ?_
    rintro e w2 ⟨A', c', rfl, hb, s2⟩
    have ra := (Reads.of_own ha).step s2 (fun _ _ => id)
    have rb := Reads.of_own hb
    go_wp2_with fail
    refine (number_n _ _ A c a ra hla).mono ?_
    rintro e w3 ⟨rfl, rfl⟩
    go_wp2_with fail
    refine (number_n _ _ A' c' b rb hlb).mono ?_
    rintro e w3 ⟨rfl, rfl⟩
    go_wp2_with fail
    refine (truth19 _ _).mono ?_
    rintro e w4 ⟨rfl, rfl⟩
    go_wp2_with fail
    go_ret2
    exact cret_of rfl (s1.trans s2)
set_option maxRecDepth 100000 in
set_option maxHeartbeats 3200000 in
theorem compare_1 (w : World) (a b : Nat) (hla : a < 18446744073709551616) (hlb : b < 18446744073709551616) :
    Calls Try.prog 76 #[.int .i64 82, .int .u64 a, .int .u64 b] w (CRet w (cmpF 1 ((a : Int) == (b : Int)) (decide (a < b)) (a.testBit 63) (b.testBit 63)) true) := by
  obtain ⟨s, hs⟩ : ∃ s, s = ((a : Int) == (b : Int)) := ⟨_, rfl⟩
  obtain ⟨t, ht⟩ : ∃ t, t = decide (a < b) := ⟨_, rfl⟩
  have HS := Lib.hid hs
  have HT := Lib.hid ht
  rw [← hs, ← ht]
  clear hs ht
  generalize a.testBit 63 = ta
  generalize b.testBit 63 = tb
  cases s
  all_goals
    have h1 : ((a : Int) == (b : Int)) = _ := HS.out.symm
    go_enter Try.func76, Try.ntmps76
    go_wp2_with fail
    refine (bits_any _ a hla).mono ?_
    rintro e w1 ⟨A, c, rfl, ha, s1⟩
    go_wp2_with fail
    refine (bits_any _ b hlb).mono ?_
    rintro e w2 ⟨A', c', rfl, hb, s2⟩
    have ra := (Reads.of_own ha).step s2 (fun _ _ => id)
    have rb := Reads.of_own hb
    go_wp2_with fail
    refine (number_n _ _ A c a ra hla).mono ?_
    rintro e w3 ⟨rfl, rfl⟩
    go_wp2_with fail
    refine (number_n _ _ A' c' b rb hlb).mono ?_
    rintro e w3 ⟨rfl, rfl⟩
    go_wp2_with fail
    refine (truth19 _ _).mono ?_
    rintro e w4 ⟨rfl, rfl⟩
    go_wp2_with fail
    go_ret2
    exact cret_of rfl (s1.trans s2)
set_option maxRecDepth 100000 in
set_option maxHeartbeats 3200000 in
theorem compare_2 (w : World) (a b : Nat) (hla : a < 18446744073709551616) (hlb : b < 18446744073709551616) :
    Calls Try.prog 76 #[.int .i64 83, .int .u64 a, .int .u64 b] w (CRet w (cmpF 2 ((a : Int) == (b : Int)) (decide (a < b)) (a.testBit 63) (b.testBit 63)) true) := by
  obtain ⟨s, hs⟩ : ∃ s, s = ((a : Int) == (b : Int)) := ⟨_, rfl⟩
  obtain ⟨t, ht⟩ : ∃ t, t = decide (a < b) := ⟨_, rfl⟩
  have HS := Lib.hid hs
  have HT := Lib.hid ht
  rw [← hs, ← ht]
  clear hs ht
  obtain ⟨ta, hta⟩ : ∃ t, t = a.testBit 63 := ⟨_, rfl⟩
  obtain ⟨tb, htb⟩ : ∃ t, t = b.testBit 63 := ⟨_, rfl⟩
  have HA := Lib.hid hta
  have HB := Lib.hid htb
  rw [← hta, ← htb]
  clear hta htb
  cases s <;> cases t <;> cases ta <;> cases tb
  all_goals
    have h1 : ((a : Int) == (b : Int)) = _ := HS.out.symm
    go_enter Try.func76, Try.ntmps76
    go_wp2_with fail
    refine (bits_any _ a hla).mono ?_
    rintro e w1 ⟨A, c, rfl, ha, s1⟩
    go_wp2_with fail
    refine (bits_any _ b hlb).mono ?_
    rintro e w2 ⟨A', c', rfl, hb, s2⟩
    have ra := (Reads.of_own ha).step s2 (fun _ _ => id)
    have rb := Reads.of_own hb
    go_wp2_with fail
    refine (number_n _ _ A c a ra hla).mono ?_
    rintro e w3 ⟨rfl, rfl⟩
    go_wp2_with fail
    refine (number_n _ _ A' c' b rb hlb).mono ?_
    rintro e w3 ⟨rfl, rfl⟩
    go_wp2_with fail
    refine (less_any _ _ _ A A' c c' a b ra rb (by omega) (by omega)).mono ?_
    rintro e w3 ⟨rfl, m, rfl⟩
    rw [← HT.out]
    obtain ⟨ga, rfl, _, _, hca, _⟩ := row_at (own_below ha s2)
    obtain ⟨gb, rfl, _, _, hcb, _⟩ := row_at hb
    have hca' : (w2.drewN m).cell? ⟨ga, 63, none⟩ = _ := hca 63 (by omega)
    have hcb' : (w2.drewN m).cell? ⟨gb, 63, none⟩ = _ := hcb 63 (by omega)
    rw [← HA.out] at hca'
    rw [← HB.out] at hcb'
    clear hca hcb
    have hst : Hid (Step (fun _ => False) w (w2.drewN m)) := (s1.trans s2).drewN m
    generalize w2.drewN m = w3 at *
    go_wp2_with fail
    go_quiet (fail)
    go_wp2_with fail
    refine (truth19 _ _).mono ?_
    rintro e w4 ⟨rfl, rfl⟩
    go_wp2_with fail
    go_ret2
    exact cret_of rfl (hst.out.drewN nq)
set_option maxRecDepth 100000 in
set_option maxHeartbeats 3200000 in
theorem compare_3 (w : World) (a b : Nat) (hla : a < 18446744073709551616) (hlb : b < 18446744073709551616) :
    Calls Try.prog 76 #[.int .i64 84, .int .u64 a, .int .u64 b] w (CRet w (cmpF 3 ((a : Int) == (b : Int)) (decide (a < b)) (a.testBit 63) (b.testBit 63)) true) := by
  obtain ⟨s, hs⟩ : ∃ s, s = ((a : Int) == (b : Int)) := ⟨_, rfl⟩
  obtain ⟨t, ht⟩ : ∃ t, t = decide (a < b) := ⟨_, rfl⟩
  have HS := Lib.hid hs
  have HT := Lib.hid ht
  rw [← hs, ← ht]
  clear hs ht
  generalize a.testBit 63 = ta
  generalize b.testBit 63 = tb
  cases s <;> cases t
  all_goals
    have h1 : ((a : Int) == (b : Int)) = _ := HS.out.symm
    go_enter Try.func76, Try.ntmps76
    go_wp2_with fail
    refine (bits_any _ a hla).mono ?_
    rintro e w1 ⟨A, c, rfl, ha, s1⟩
    go_wp2_with fail
    refine (bits_any _ b hlb).mono ?_
    rintro e w2 ⟨A', c', rfl, hb, s2⟩
    have ra := (Reads.of_own ha).step s2 (fun _ _ => id)
    have rb := Reads.of_own hb
    go_wp2_with fail
    refine (number_n _ _ A c a ra hla).mono ?_
    rintro e w3 ⟨rfl, rfl⟩
    go_wp2_with fail
    refine (number_n _ _ A' c' b rb hlb).mono ?_
    rintro e w3 ⟨rfl, rfl⟩
    go_wp2_with fail
    refine (less_any _ _ _ A A' c c' a b ra rb (by omega) (by omega)).mono ?_
    rintro e w3 ⟨rfl, m, rfl⟩
    rw [← HT.out]
    have hst : Hid (Step (fun _ => False) w (w2.drewN m)) := (s1.trans s2).drewN m
    generalize w2.drewN m = w3 at *
    go_wp2_with fail
    go_quiet (fail)
    go_wp2_with fail
    refine (truth19 _ _).mono ?_
    rintro e w4 ⟨rfl, rfl⟩
    go_wp2_with fail
    go_ret2
    exact cret_of rfl (hst.out.drewN nq)
set_option maxRecDepth 100000 in
set_option maxHeartbeats 3200000 in
theorem compare_4 (w : World) (a b : Nat) (hla : a < 18446744073709551616) (hlb : b < 18446744073709551616) :
    Calls Try.prog 76 #[.int .i64 85, .int .u64 a, .int .u64 b] w (CRet w (cmpF 4 ((a : Int) == (b : Int)) (decide (a < b)) (a.testBit 63) (b.testBit 63)) true) := by
  obtain ⟨s, hs⟩ : ∃ s, s = ((a : Int) == (b : Int)) := ⟨_, rfl⟩
  obtain ⟨t, ht⟩ : ∃ t, t = decide (a < b) := ⟨_, rfl⟩
  have HS := Lib.hid hs
  have HT := Lib.hid ht
  rw [← hs, ← ht]
  clear hs ht
  obtain ⟨ta, hta⟩ : ∃ t, t = a.testBit 63 := ⟨_, rfl⟩
  obtain ⟨tb, htb⟩ : ∃ t, t = b.testBit 63 := ⟨_, rfl⟩
  have HA := Lib.hid hta
  have HB := Lib.hid htb
  rw [← hta, ← htb]
  clear hta htb
  cases s <;> cases t <;> cases ta <;> cases tb
  all_goals
    have h1 : ((a : Int) == (b : Int)) = _ := HS.out.symm
    go_enter Try.func76, Try.ntmps76
    go_wp2_with fail
    refine (bits_any _ a hla).mono ?_
    rintro e w1 ⟨A, c, rfl, ha, s1⟩
    go_wp2_with fail
    refine (bits_any _ b hlb).mono ?_
    rintro e w2 ⟨A', c', rfl, hb, s2⟩
    have ra := (Reads.of_own ha).step s2 (fun _ _ => id)
    have rb := Reads.of_own hb
    go_wp2_with fail
    refine (number_n _ _ A c a ra hla).mono ?_
    rintro e w3 ⟨rfl, rfl⟩
    go_wp2_with fail
    refine (number_n _ _ A' c' b rb hlb).mono ?_
    rintro e w3 ⟨rfl, rfl⟩
    go_wp2_with fail
    refine (less_any _ _ _ A A' c c' a b ra rb (by omega) (by omega)).mono ?_
    rintro e w3 ⟨rfl, m, rfl⟩
    rw [← HT.out]
    obtain ⟨ga, rfl, _, _, hca, _⟩ := row_at (own_below ha s2)
    obtain ⟨gb, rfl, _, _, hcb, _⟩ := row_at hb
    have hca' : (w2.drewN m).cell? ⟨ga, 63, none⟩ = _ := hca 63 (by omega)
    have hcb' : (w2.drewN m).cell? ⟨gb, 63, none⟩ = _ := hcb 63 (by omega)
    rw [← HA.out] at hca'
    rw [← HB.out] at hcb'
    clear hca hcb
    have hst : Hid (Step (fun _ => False) w (w2.drewN m)) := (s1.trans s2).drewN m
    generalize w2.drewN m = w3 at *
    go_wp2_with fail
    go_quiet (fail)
    go_wp2_with fail
    refine (truth19 _ _).mono ?_
    rintro e w4 ⟨rfl, rfl⟩
    go_wp2_with fail
    go_ret2
    exact cret_of rfl (hst.out.drewN nq)
set_option maxRecDepth 100000 in
set_option maxHeartbeats 3200000 in
theorem compare_5 (w : World) (a b : Nat) (hla : a < 18446744073709551616) (hlb : b < 18446744073709551616) :
    Calls Try.prog 76 #[.int .i64 86, .int .u64 a, .int .u64 b] w (CRet w (cmpF 5 ((a : Int) == (b : Int)) (decide (a < b)) (a.testBit 63) (b.testBit 63)) true) := by
  obtain ⟨s, hs⟩ : ∃ s, s = ((a : Int) == (b : Int)) := ⟨_, rfl⟩
  obtain ⟨t, ht⟩ : ∃ t, t = decide (a < b) := ⟨_, rfl⟩
  have HS := Lib.hid hs
  have HT := Lib.hid ht
  rw [← hs, ← ht]
  clear hs ht
  generalize a.testBit 63 = ta
  generalize b.testBit 63 = tb
  cases s <;> cases t
  all_goals
    have h1 : ((a : Int) == (b : Int)) = _ := HS.out.symm
    go_enter Try.func76, Try.ntmps76
    go_wp2_with fail
    refine (bits_any _ a hla).mono ?_
    rintro e w1 ⟨A, c, rfl, ha, s1⟩
    go_wp2_with fail
    refine (bits_any _ b hlb).mono ?_
    rintro e w2 ⟨A', c', rfl, hb, s2⟩
    have ra := (Reads.of_own ha).step s2 (fun _ _ => id)
    have rb := Reads.of_own hb
    go_wp2_with fail
    refine (number_n _ _ A c a ra hla).mono ?_
    rintro e w3 ⟨rfl, rfl⟩
    go_wp2_with fail
    refine (number_n _ _ A' c' b rb hlb).mono ?_
    rintro e w3 ⟨rfl, rfl⟩
    go_wp2_with fail
    refine (less_any _ _ _ A A' c c' a b ra rb (by omega) (by omega)).mono ?_
    rintro e w3 ⟨rfl, m, rfl⟩
    rw [← HT.out]
    have hst : Hid (Step (fun _ => False) w (w2.drewN m)) := (s1.trans s2).drewN m
    generalize w2.drewN m = w3 at *
    go_wp2_with fail
    go_quiet (fail)
    go_wp2_with fail
    refine (truth19 _ _).mono ?_
    rintro e w4 ⟨rfl, rfl⟩
    go_wp2_with fail
    go_ret2
    exact cret_of rfl (hst.out.drewN nq)
set_option maxRecDepth 100000 in
set_option maxHeartbeats 3200000 in
theorem compare_6 (w : World) (a b : Nat) (hla : a < 18446744073709551616) (hlb : b < 18446744073709551616) :
    Calls Try.prog 76 #[.int .i64 87, .int .u64 a, .int .u64 b] w (CRet w (cmpF 6 ((a : Int) == (b : Int)) (decide (a < b)) (a.testBit 63) (b.testBit 63)) true) := by
  obtain ⟨s, hs⟩ : ∃ s, s = ((a : Int) == (b : Int)) := ⟨_, rfl⟩
  obtain ⟨t, ht⟩ : ∃ t, t = decide (a < b) := ⟨_, rfl⟩
  have HS := Lib.hid hs
  have HT := Lib.hid ht
  rw [← hs, ← ht]
  clear hs ht
  obtain ⟨ta, hta⟩ : ∃ t, t = a.testBit 63 := ⟨_, rfl⟩
  obtain ⟨tb, htb⟩ : ∃ t, t = b.testBit 63 := ⟨_, rfl⟩
  have HA := Lib.hid hta
  have HB := Lib.hid htb
  rw [← hta, ← htb]
  clear hta htb
  cases s <;> cases t <;> cases ta <;> cases tb
  all_goals
    have h1 : ((a : Int) == (b : Int)) = _ := HS.out.symm
    go_enter Try.func76, Try.ntmps76
    go_wp2_with fail
    refine (bits_any _ a hla).mono ?_
    rintro e w1 ⟨A, c, rfl, ha, s1⟩
    go_wp2_with fail
    refine (bits_any _ b hlb).mono ?_
    rintro e w2 ⟨A', c', rfl, hb, s2⟩
    have ra := (Reads.of_own ha).step s2 (fun _ _ => id)
    have rb := Reads.of_own hb
    go_wp2_with fail
    refine (number_n _ _ A c a ra hla).mono ?_
    rintro e w3 ⟨rfl, rfl⟩
    go_wp2_with fail
    refine (number_n _ _ A' c' b rb hlb).mono ?_
    rintro e w3 ⟨rfl, rfl⟩
    go_wp2_with fail
    refine (less_any _ _ _ A A' c c' a b ra rb (by omega) (by omega)).mono ?_
    rintro e w3 ⟨rfl, m, rfl⟩
    rw [← HT.out]
    obtain ⟨ga, rfl, _, _, hca, _⟩ := row_at (own_below ha s2)
    obtain ⟨gb, rfl, _, _, hcb, _⟩ := row_at hb
    have hca' : (w2.drewN m).cell? ⟨ga, 63, none⟩ = _ := hca 63 (by omega)
    have hcb' : (w2.drewN m).cell? ⟨gb, 63, none⟩ = _ := hcb 63 (by omega)
    rw [← HA.out] at hca'
    rw [← HB.out] at hcb'
    clear hca hcb
    have hst : Hid (Step (fun _ => False) w (w2.drewN m)) := (s1.trans s2).drewN m
    generalize w2.drewN m = w3 at *
    go_wp2_with fail
    go_quiet (fail)
    go_wp2_with fail
    refine (truth19 _ _).mono ?_
    rintro e w4 ⟨rfl, rfl⟩
    go_wp2_with fail
    go_ret2
    exact cret_of rfl (hst.out.drewN nq)
set_option maxRecDepth 100000 in
set_option maxHeartbeats 3200000 in
theorem compare_7 (w : World) (a b : Nat) (hla : a < 18446744073709551616) (hlb : b < 18446744073709551616) :
    Calls Try.prog 76 #[.int .i64 88, .int .u64 a, .int .u64 b] w (CRet w (cmpF 7 ((a : Int) == (b : Int)) (decide (a < b)) (a.testBit 63) (b.testBit 63)) true) := by
  obtain ⟨s, hs⟩ : ∃ s, s = ((a : Int) == (b : Int)) := ⟨_, rfl⟩
  obtain ⟨t, ht⟩ : ∃ t, t = decide (a < b) := ⟨_, rfl⟩
  have HS := Lib.hid hs
  have HT := Lib.hid ht
  rw [← hs, ← ht]
  clear hs ht
  generalize a.testBit 63 = ta
  generalize b.testBit 63 = tb
  cases s <;> cases t
  all_goals
    have h1 : ((a : Int) == (b : Int)) = _ := HS.out.symm
    go_enter Try.func76, Try.ntmps76
    go_wp2_with fail
    refine (bits_any _ a hla).mono ?_
    rintro e w1 ⟨A, c, rfl, ha, s1⟩
    go_wp2_with fail
    refine (bits_any _ b hlb).mono ?_
    rintro e w2 ⟨A', c', rfl, hb, s2⟩
    have ra := (Reads.of_own ha).step s2 (fun _ _ => id)
    have rb := Reads.of_own hb
    go_wp2_with fail
    refine (number_n _ _ A c a ra hla).mono ?_
    rintro e w3 ⟨rfl, rfl⟩
    go_wp2_with fail
    refine (number_n _ _ A' c' b rb hlb).mono ?_
    rintro e w3 ⟨rfl, rfl⟩
    go_wp2_with fail
    refine (less_any _ _ _ A A' c c' a b ra rb (by omega) (by omega)).mono ?_
    rintro e w3 ⟨rfl, m, rfl⟩
    rw [← HT.out]
    have hst : Hid (Step (fun _ => False) w (w2.drewN m)) := (s1.trans s2).drewN m
    generalize w2.drewN m = w3 at *
    go_wp2_with fail
    go_quiet (fail)
    go_wp2_with fail
    refine (truth19 _ _).mono ?_
    rintro e w4 ⟨rfl, rfl⟩
    go_wp2_with fail
    go_ret2
    exact cret_of rfl (hst.out.drewN nq)
set_option maxRecDepth 100000 in
set_option maxHeartbeats 3200000 in
theorem compare_8 (w : World) (a b : Nat) (hla : a < 18446744073709551616) (hlb : b < 18446744073709551616) :
    Calls Try.prog 76 #[.int .i64 89, .int .u64 a, .int .u64 b] w (CRet w (cmpF 8 ((a : Int) == (b : Int)) (decide (a < b)) (a.testBit 63) (b.testBit 63)) true) := by
  obtain ⟨s, hs⟩ : ∃ s, s = ((a : Int) == (b : Int)) := ⟨_, rfl⟩
  obtain ⟨t, ht⟩ : ∃ t, t = decide (a < b) := ⟨_, rfl⟩
  have HS := Lib.hid hs
  have HT := Lib.hid ht
  rw [← hs, ← ht]
  clear hs ht
  obtain ⟨ta, hta⟩ : ∃ t, t = a.testBit 63 := ⟨_, rfl⟩
  obtain ⟨tb, htb⟩ : ∃ t, t = b.testBit 63 := ⟨_, rfl⟩
  have HA := Lib.hid hta
  have HB := Lib.hid htb
  rw [← hta, ← htb]
  clear hta htb
  cases s <;> cases t <;> cases ta <;> cases tb
  all_goals
    have h1 : ((a : Int) == (b : Int)) = _ := HS.out.symm
    go_enter Try.func76, Try.ntmps76
    go_wp2_with fail
    refine (bits_any _ a hla).mono ?_
    rintro e w1 ⟨A, c, rfl, ha, s1⟩
    go_wp2_with fail
    refine (bits_any _ b hlb).mono ?_
    rintro e w2 ⟨A', c', rfl, hb, s2⟩
    have ra := (Reads.of_own ha).step s2 (fun _ _ => id)
    have rb := Reads.of_own hb
    go_wp2_with fail
    refine (number_n _ _ A c a ra hla).mono ?_
    rintro e w3 ⟨rfl, rfl⟩
    go_wp2_with fail
    refine (number_n _ _ A' c' b rb hlb).mono ?_
    rintro e w3 ⟨rfl, rfl⟩
    go_wp2_with fail
    refine (less_any _ _ _ A A' c c' a b ra rb (by omega) (by omega)).mono ?_
    rintro e w3 ⟨rfl, m, rfl⟩
    rw [← HT.out]
    obtain ⟨ga, rfl, _, _, hca, _⟩ := row_at (own_below ha s2)
    obtain ⟨gb, rfl, _, _, hcb, _⟩ := row_at hb
    have hca' : (w2.drewN m).cell? ⟨ga, 63, none⟩ = _ := hca 63 (by omega)
    have hcb' : (w2.drewN m).cell? ⟨gb, 63, none⟩ = _ := hcb 63 (by omega)
    rw [← HA.out] at hca'
    rw [← HB.out] at hcb'
    clear hca hcb
    have hst : Hid (Step (fun _ => False) w (w2.drewN m)) := (s1.trans s2).drewN m
    generalize w2.drewN m = w3 at *
    go_wp2_with fail
    go_quiet (fail)
    go_wp2_with fail
    refine (truth19 _ _).mono ?_
    rintro e w4 ⟨rfl, rfl⟩
    go_wp2_with fail
    go_ret2
    exact cret_of rfl (hst.out.drewN nq)
set_option maxRecDepth 100000 in
set_option maxHeartbeats 3200000 in
theorem compare_9 (w : World) (a b : Nat) (hla : a < 18446744073709551616) (hlb : b < 18446744073709551616) :
    Calls Try.prog 76 #[.int .i64 90, .int .u64 a, .int .u64 b] w (CRet w (cmpF 9 ((a : Int) == (b : Int)) (decide (a < b)) (a.testBit 63) (b.testBit 63)) true) := by
  obtain ⟨s, hs⟩ : ∃ s, s = ((a : Int) == (b : Int)) := ⟨_, rfl⟩
  obtain ⟨t, ht⟩ : ∃ t, t = decide (a < b) := ⟨_, rfl⟩
  have HS := Lib.hid hs
  have HT := Lib.hid ht
  rw [← hs, ← ht]
  clear hs ht
  generalize a.testBit 63 = ta
  generalize b.testBit 63 = tb
  cases s <;> cases t
  all_goals
    have h1 : ((a : Int) == (b : Int)) = _ := HS.out.symm
    go_enter Try.func76, Try.ntmps76
    go_wp2_with fail
    refine (bits_any _ a hla).mono ?_
    rintro e w1 ⟨A, c, rfl, ha, s1⟩
    go_wp2_with fail
    refine (bits_any _ b hlb).mono ?_
    rintro e w2 ⟨A', c', rfl, hb, s2⟩
    have ra := (Reads.of_own ha).step s2 (fun _ _ => id)
    have rb := Reads.of_own hb
    go_wp2_with fail
    refine (number_n _ _ A c a ra hla).mono ?_
    rintro e w3 ⟨rfl, rfl⟩
    go_wp2_with fail
    refine (number_n _ _ A' c' b rb hlb).mono ?_
    rintro e w3 ⟨rfl, rfl⟩
    go_wp2_with fail
    refine (less_any _ _ _ A A' c c' a b ra rb (by omega) (by omega)).mono ?_
    rintro e w3 ⟨rfl, m, rfl⟩
    rw [← HT.out]
    have hst : Hid (Step (fun _ => False) w (w2.drewN m)) := (s1.trans s2).drewN m
    generalize w2.drewN m = w3 at *
    go_wp2_with fail
    go_quiet (fail)
    go_wp2_with fail
    refine (truth19 _ _).mono ?_
    rintro e w4 ⟨rfl, rfl⟩
    go_wp2_with fail
    go_ret2
    exact cret_of rfl (hst.out.drewN nq)

set_option maxRecDepth 100000 in
set_option maxHeartbeats 1600000 in
theorem compare_no (w : World) (op : Int) (a b : Nat) (hla : a < 18446744073709551616) (hlb : b < 18446744073709551616) (h0 : 0 ≤ op) (h9 : op ≤ 255) (hop : op < 81 ∨ 90 < op) :
    Calls Try.prog 76 #[.int .i64 op, .int .u64 a, .int .u64 b] w (CRet w false false) := by
  rcases hop with hop | hop
  all_goals
    go_enter Try.func76, Try.ntmps76
    go_wp2_with fail
    refine (bits_any _ a hla).mono ?_
    rintro e w1 ⟨A, c, rfl, ha, s1⟩
    go_wp2_with fail
    refine (bits_any _ b hlb).mono ?_
    rintro e w2 ⟨A', c', rfl, hb, s2⟩
    go_wp2_with fail
    go_ret2
    exact ⟨rfl, s1.trans s2⟩
end Go.Proofs.Ytfechgpdlabgaaa
