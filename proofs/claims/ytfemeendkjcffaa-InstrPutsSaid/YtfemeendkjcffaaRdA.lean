/-
  leb: the bytes of a number at a place.
-/
import Derived.Test.YtfemeendkjcffaaByt
import Derived.Laws.BitsAllLaws
set_option linter.unusedVariables false
set_option linter.unusedSimpArgs false
namespace Go.Proofs.Ytfemeendkjcffaa
open Go.RowKit

/-- How many bytes, of at most m, and the error's number. -/
def grpN : Nat → List UInt8 → Nat → Nat × Nat
  | 0, _, _ => (0, 3)
  | _ + 1, [], _ => (0, 2)
  | m + 1, b :: t, n => if b.toNat < 128 then (n + 1, 0) else grpN m t (n + 1)
/-- The value of bytes of seven bits. -/
def valL : List UInt8 → Nat
  | [] => 0
  | b :: t => b.toNat % 128 + 128 * valL t
theorem valL_lt : ∀ l : List UInt8, valL l < 128 ^ l.length
  | [] => by simp [valL]
  | b :: t => by
    have h := valL_lt t
    have h2 : b.toNat % 128 < 128 := Nat.mod_lt _ (by decide)
    rw [valL, List.length_cons, Nat.pow_succ]
    omega
theorem valL_append : ∀ (l : List UInt8) (b : UInt8), valL (l ++ [b]) = valL l + b.toNat % 128 * 128 ^ l.length
  | [], b => by simp [valL]
  | a :: l, b => by
    rw [List.cons_append, valL, valL_append l b, valL, List.length_cons, Nat.pow_succ, Nat.mul_add, Nat.add_assoc, ← Nat.mul_assoc, ← Nat.mul_assoc, Nat.mul_comm 128 (b.toNat % 128), Nat.mul_assoc, Nat.mul_assoc, Nat.mul_comm 128 (128 ^ l.length)]
theorem valL_take (l : List UInt8) (i : Nat) (h : i < l.length) : valL (l.take (i + 1)) = valL (l.take i) + l[i].toNat % 128 * 128 ^ i := by
  rw [List.take_succ_eq_append_getElem h, valL_append, List.length_take, Nat.min_eq_left (by omega)]
theorem grpN_le : ∀ (m : Nat) (t : List UInt8) (j : Nat), (grpN m t j).2 = 0 → j < (grpN m t j).1 ∧ (grpN m t j).1 ≤ j + m ∧ (grpN m t j).1 ≤ j + t.length
  | 0, _, _ => by simp [grpN]
  | _ + 1, [], _ => by simp [grpN]
  | m + 1, b :: t, j => by
    rw [grpN]
    split
    · intro _
      simp
    · intro h
      have := grpN_le m t (j + 1) h
      simp
      omega
def grpV (D : Option Addr) (c k : Nat) (r : Nat × Nat) : Value := if r.2 = 0 then .tuple #[.slice (cutA D c k 1) r.1 (c - k), .int .i64 0] else .tuple #[.slice none 0 0, .int .i64 (r.2 : Int)]

/-- Which widths are read. -/
def Wide (bits m : Nat) : Prop := bits = 32 ∧ m = 5 ∨ bits = 64 ∧ m = 10

set_option maxRecDepth 100000 in
set_option maxHeartbeats 1600000 in
theorem lright_walk (w : World) (bits m : Nat) (h : Wide bits m) : Calls Try.prog 212 #[.int .i64 (bits : Int)] w fun e w' => e = .returned (.bool true) ∧ w' = w := by
  rcases h with ⟨rfl, rfl⟩ | ⟨rfl, rfl⟩ <;>
  · go_enter Try.func212, Try.ntmps212
    go_wp2_with fail
    go_ret
    exact ⟨rfl, rfl⟩
set_option maxRecDepth 100000 in
set_option maxHeartbeats 1600000 in
theorem lmost_walk (w : World) (bits m : Nat) (h : Wide bits m) : Calls Try.prog 213 #[.int .i64 (bits : Int)] w fun e w' => e = .returned (.int .i64 (m : Int)) ∧ w' = w := by
  have HR : Hid (∀ w, Calls Try.prog 212 #[.int .i64 (bits : Int)] w fun e w' => e = .returned (.bool true) ∧ w' = w) := fun w => lright_walk w bits m h
  rcases h with ⟨rfl, rfl⟩ | ⟨rfl, rfl⟩ <;>
  · go_enter Try.func213, Try.ntmps213
    go_wp2_with fail
    refine (HR.out _).mono ?_
    rintro e w5 ⟨rfl, rfl⟩
    go_wp2_with fail
    go_ret
    exact ⟨rfl, rfl⟩
set_option maxRecDepth 100000 in
set_option maxHeartbeats 1600000 in
theorem lstart_walk (w : World) (bits m : Nat) (h : Wide bits m) (D : Option Addr) (n c k : Nat) (hk : k ≤ n) : Calls Try.prog 209 #[.slice D n c, .int .i64 (k : Int), .int .i64 (bits : Int)] w fun e w' => e = .returned (.bool true) ∧ w' = w := by
  have HR : Hid (∀ w, Calls Try.prog 212 #[.int .i64 (bits : Int)] w fun e w' => e = .returned (.bool true) ∧ w' = w) := fun w => lright_walk w bits m h
  have g1 : decide ((0 : Int) ≤ (k : Int)) = true := decide_eq_true (by omega)
  have g2 : decide ((k : Int) ≤ (n : Int)) = true := decide_eq_true (by omega)
  have g3 : (0 : Int) ≤ (k : Int) := by omega
  have g4 : (k : Int) ≤ (n : Int) := by omega
  go_enter Try.func209, Try.ntmps209
  go_wp2_with fail
  refine (HR.out _).mono ?_
  rintro e w5 ⟨rfl, rfl⟩
  go_wp2_with fail
  go_ret
  exact ⟨rfl, rfl⟩

set_option maxRecDepth 100000 in
set_option maxHeartbeats 1600000 in
theorem lgroup_walk (w : World) (bits m : Nat) (h : Wide bits m) (D : Option Addr) (c k : Nat) (bs : List UInt8) (S : Nat → Prop) (hr : Reads w S 1 D bs.length (u8s bs)) (hk : k ≤ bs.length) (hcap : bs.length ≤ c) (hsh : bs.length ≤ 1000000) :
    Calls Try.prog 210 #[.slice D bs.length c, .int .i64 (k : Int), .int .i64 (bits : Int)] w fun e w' => e = .returned (grpV D c k (grpN m (bs.drop k) 0)) ∧ w' = w := by
  have HM : Hid (∀ w, Calls Try.prog 213 #[.int .i64 (bits : Int)] w fun e w' => e = .returned (.int .i64 (m : Int)) ∧ w' = w) := fun w => lmost_walk w bits m h
  have hm : m ≤ 10 := by rcases h with ⟨_, rfl⟩ | ⟨_, rfl⟩ <;> decide
  have hw0 := IntWalk.i64_in ((bs.length : Int) - (k : Int)) (by omega)
  go_enter Try.func210, Try.ntmps210
  go_wp2_with fail
  go_loopw [8] (fun iv wr => ∃ (j : Nat), j ≤ m ∧ iv = .int .i64 ((j : Int) + 1) ∧ Hid (grpN (m - j) (bs.drop (k + j)) j = grpN m (bs.drop k) 0) ∧ wr = w) (fun iv _ => m + 1 - (intOf iv).toNat)
  case atStart => exact ⟨0, by omega, rfl, by rw [Hid, Nat.sub_zero, Nat.add_zero], rfl⟩
  case round =>
    obtain ⟨j, hj, rfl, HG, rfl⟩ := hrel
    go_wp2_with fail
    refine (HM.out _).mono ?_
    rintro e w5 ⟨rfl, hw5⟩
    obtain rfl : wr = w5 := hw5.symm
    by_cases hlt : j < m
    · have g1 : (j : Int) + 1 ≤ (m : Int) := by omega
      by_cases hend : k + j < bs.length
      · have g2 : ¬ (bs.length : Int) - (k : Int) < (j : Int) + 1 := by omega
        have hw1 : IntKind.i64.wrap ((k : Int) + ((j : Int) + 1)) = (k : Int) + ((j : Int) + 1) := by rw [IntKind.wrap_i64]; omega
        have hw2 : IntKind.i64.wrap ((k : Int) + ((j : Int) + 1) - 1) = ((k + j : Nat) : Int) := by rw [IntKind.wrap_i64]; omega
        have hw3 : IntKind.i64.wrap ((j : Int) + 1 + 1) = (j : Int) + 1 + 1 := by rw [IntKind.wrap_i64]; omega
        obtain ⟨ad, u, hD, _, hbl, hu, hc⟩ := hr.at_ hend
        rw [u8s_get bs _ hend] at hu
        injection hu with hu
        subst hu
        subst hD
        have HG2 : Hid (grpN m (bs.drop k) 0 = if bs[k + j].toNat < 128 then (j + 1, 0) else grpN (m - (j + 1)) (bs.drop (k + (j + 1))) (j + 1)) := by
          rw [Hid, ← HG.out, List.drop_eq_getElem_cons hend, show m - j = (m - (j + 1)) + 1 by omega, grpN]
          rfl
        clear HG
        have hb256 := UInt8.toNat_lt bs[k + j]
        generalize bs[k + j].toNat = b at *
        have g4 : ((k + j : Nat) : Int) < (bs.length : Int) := by omega
        by_cases hb : b < 128
        · have g3 : (b : Int) < 128 := by omega
          have hsl := slice_lhn (P := Try.prog) E_u8 (some ad) bs.length c .i64 .i64 (k : Int) ((k : Int) + ((j : Int) + 1)) k (k + (j + 1)) (j + 1) (c - k) rfl (by omega) (by omega) (by omega) (by omega) rfl
          rw [if_pos hb] at HG2
          go_wp2_with fail
          go_ret2
          exact ⟨by rw [HG2.out]; rfl, rfl⟩
        · have g3 : ¬ (b : Int) < 128 := by omega
          rw [if_neg hb] at HG2
          go_wp2_with fail
          exact ⟨⟨j + 1, by omega, by rw [Int.natCast_add]; rfl, Lib.hid HG2.out.symm, trivial⟩, by rw [show intOf (.int .i64 ((j : Int) + 1 + 1)) = ((j + 2 : Nat) : Int) from rfl, show intOf (.int .i64 ((j : Int) + 1)) = ((j + 1 : Nat) : Int) from rfl]; omega⟩
      · have g2 : (bs.length : Int) - (k : Int) < (j : Int) + 1 := by omega
        have HG2 : Hid (grpN m (bs.drop k) 0 = (0, 2)) := by
          rw [Hid, ← HG.out, List.drop_eq_nil_of_le (by omega), show m - j = (m - (j + 1)) + 1 by omega, grpN]
        clear HG
        go_wp2_with fail
        go_ret2
        exact ⟨by rw [HG2.out]; rfl, rfl⟩
    · obtain rfl : j = m := by omega
      have g1 : ¬ (j : Int) + 1 ≤ (j : Int) := by omega
      have HG2 : Hid (grpN j (bs.drop k) 0 = (0, 3)) := by rw [Hid, ← HG.out, Nat.sub_self, grpN]
      clear HG
      go_wp2_with fail
      go_ret2
      exact ⟨by rw [HG2.out]; rfl, rfl⟩
end Go.Proofs.Ytfemeendkjcffaa
