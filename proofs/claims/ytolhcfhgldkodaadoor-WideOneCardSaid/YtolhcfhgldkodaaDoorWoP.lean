/-
  wide, plain: how many ones a number has, how many zeros at either end.
-/
import Derived.Test.YtolhcfhgldkodaaDoorWidP
set_option linter.unusedVariables false
set_option linter.unusedSimpArgs false
namespace Go.Proofs.YtolhcfhgldkodaaDoor
open Wide

def sumB (v : Nat) : Nat → Nat
  | 0 => 0
  | n + 1 => sumB v n + v / 2 ^ n % 2
theorem sumB_le (v : Nat) : ∀ n, sumB v n ≤ n
  | 0 => Nat.le_refl _
  | n + 1 => by
    have h := sumB_le v n
    have h2 : v / 2 ^ n % 2 < 2 := Nat.mod_lt _ (by decide)
    show sumB v n + v / 2 ^ n % 2 ≤ n + 1
    omega
theorem sumB_shift (v k : Nat) : ∀ n, sumB v (k + n) = sumB v k + sumB (v / 2 ^ k) n
  | 0 => rfl
  | n + 1 => by
    show sumB v (k + n) + v / 2 ^ (k + n) % 2 = sumB v k + (sumB (v / 2 ^ k) n + v / 2 ^ k / 2 ^ n % 2)
    rw [sumB_shift v k n, Nat.pow_add, Nat.div_div_eq_div_mul, Nat.add_assoc]
theorem sumB8 (v : Nat) : sumB v 8 = v % 2 + v / 2 % 2 + (v / 4 % 2 + v / 8 % 2) + (v / 16 % 2 + v / 32 % 2 + (v / 64 % 2 + v / 128 % 2)) := by
  simp only [sumB]
  simp only [show (2 : Nat) ^ 0 = 1 from rfl, show (2 : Nat) ^ 1 = 2 from rfl, show (2 : Nat) ^ 2 = 4 from rfl, show (2 : Nat) ^ 3 = 8 from rfl, show (2 : Nat) ^ 4 = 16 from rfl, show (2 : Nat) ^ 5 = 32 from rfl, show (2 : Nat) ^ 6 = 64 from rfl, show (2 : Nat) ^ 7 = 128 from rfl, Nat.div_one, Nat.zero_add]
  omega

theorem and_dig (k a b c d : Nat) (ha : a < 2 ^ k) (hb : b < 2 ^ k) : (2 ^ k * c + a) &&& (2 ^ k * d + b) = 2 ^ k * (c &&& d) + (a &&& b) := by
  apply Nat.eq_of_testBit_eq
  intro i
  rw [Nat.testBit_and, Nat.testBit_two_pow_mul_add c ha, Nat.testBit_two_pow_mul_add d hb, Nat.testBit_two_pow_mul_add _ (Nat.lt_of_le_of_lt Nat.and_le_left ha)]
  split <;> simp [Nat.testBit_and]

def m0 : Nat → Nat
  | 0 => 0
  | n + 1 => 4 * m0 n + 1
def m1 : Nat → Nat
  | 0 => 0
  | n + 1 => 16 * m1 n + 3
def m2 : Nat → Nat
  | 0 => 0
  | n + 1 => 256 * m2 n + 15
def st1 (n v : Nat) : Nat := (v / 2 &&& m0 n) + (v &&& m0 n)
def st2 (n v : Nat) : Nat := (v / 4 &&& m1 n) + (v &&& m1 n)
def st3 (n v : Nat) : Nat := (v / 16 + v) &&& m2 n

theorem low1 (v n : Nat) : v &&& m0 (n + 1) = 4 * (v / 4 &&& m0 n) + v % 2 := by
  have h := and_dig 2 (v % 4) 1 (v / 4) (m0 n) (Nat.mod_lt _ (by decide)) (by decide)
  rw [show (2 : Nat) ^ 2 = 4 from rfl, Nat.div_add_mod] at h
  rw [show m0 (n + 1) = 4 * m0 n + 1 from rfl, h, show (1 : Nat) = 2 ^ 1 - 1 from rfl, Nat.and_two_pow_sub_one_eq_mod]
  omega
theorem low2 (v n : Nat) : v &&& m1 (n + 1) = 16 * (v / 16 &&& m1 n) + v % 4 := by
  have h := and_dig 4 (v % 16) 3 (v / 16) (m1 n) (Nat.mod_lt _ (by decide)) (by decide)
  rw [show (2 : Nat) ^ 4 = 16 from rfl, Nat.div_add_mod] at h
  rw [show m1 (n + 1) = 16 * m1 n + 3 from rfl, h, show (3 : Nat) = 2 ^ 2 - 1 from rfl, Nat.and_two_pow_sub_one_eq_mod]
  omega
theorem low3 (v n : Nat) : v &&& m2 (n + 1) = 256 * (v / 256 &&& m2 n) + v % 16 := by
  have h := and_dig 8 (v % 256) 15 (v / 256) (m2 n) (Nat.mod_lt _ (by decide)) (by decide)
  rw [show (2 : Nat) ^ 8 = 256 from rfl, Nat.div_add_mod] at h
  rw [show m2 (n + 1) = 256 * m2 n + 15 from rfl, h, show (15 : Nat) = 2 ^ 4 - 1 from rfl, Nat.and_two_pow_sub_one_eq_mod]
  omega
theorem st1_succ (n v : Nat) : st1 (n + 1) v = 4 * st1 n (v / 4) + (v % 2 + v / 2 % 2) := by
  rw [st1, st1, low1, low1, show v / 2 / 4 = v / 4 / 2 by omega]
  omega
theorem st2_succ (n v : Nat) : st2 (n + 1) v = 16 * st2 n (v / 16) + (v % 4 + v / 4 % 4) := by
  rw [st2, st2, low2, low2, show v / 4 / 16 = v / 16 / 4 by omega]
  omega
theorem st3_succ (n v : Nat) : st3 (n + 1) v = 256 * ((v / 16 + v) / 256 &&& m2 n) + (v / 16 + v) % 16 := by rw [st3, low3]

def all8 (n v : Nat) : Nat := st2 (2 * n) (st1 (4 * n) v)
theorem all8_succ (n v : Nat) : all8 (n + 1) v = 256 * all8 n (v / 256) + 16 * (v / 16 % 2 + v / 32 % 2 + (v / 64 % 2 + v / 128 % 2)) + (v % 2 + v / 2 % 2 + (v / 4 % 2 + v / 8 % 2)) := by
  rw [all8, show 4 * (n + 1) = 4 * n + 1 + 1 + 1 + 1 by omega, st1_succ, st1_succ, st1_succ, st1_succ, show 2 * (n + 1) = 2 * n + 1 + 1 by omega, st2_succ, st2_succ, all8]
  rw [show v / 4 / 4 / 4 / 4 = v / 256 by omega]
  generalize st1 (4 * n) (v / 256) = Y
  have a0 : v % 2 < 2 := Nat.mod_lt _ (by decide)
  have a1 : v / 2 % 2 < 2 := Nat.mod_lt _ (by decide)
  have a2 : v / 4 % 2 < 2 := Nat.mod_lt _ (by decide)
  have a3 : v / 8 % 2 < 2 := Nat.mod_lt _ (by decide)
  have a4 : v / 16 % 2 < 2 := Nat.mod_lt _ (by decide)
  have a5 : v / 32 % 2 < 2 := Nat.mod_lt _ (by decide)
  have a6 : v / 64 % 2 < 2 := Nat.mod_lt _ (by decide)
  have a7 : v / 128 % 2 < 2 := Nat.mod_lt _ (by decide)
  rw [show v / 4 / 2 = v / 8 by omega, show v / 4 / 4 = v / 16 by omega, show v / 16 / 2 = v / 32 by omega, show v / 16 / 4 = v / 64 by omega, show v / 64 / 2 = v / 128 by omega]
  generalize v % 2 = b0 at *
  generalize v / 2 % 2 = b1 at *
  generalize v / 4 % 2 = b2 at *
  generalize v / 8 % 2 = b3 at *
  generalize v / 16 % 2 = b4 at *
  generalize v / 32 % 2 = b5 at *
  generalize v / 64 % 2 = b6 at *
  generalize v / 128 % 2 = b7 at *
  have e1 : (4 * (4 * (4 * (4 * Y + (b6 + b7)) + (b4 + b5)) + (b2 + b3)) + (b0 + b1)) / 16 = 4 * (4 * Y + (b6 + b7)) + (b4 + b5) := by omega
  have e2 : (4 * (4 * Y + (b6 + b7)) + (b4 + b5)) / 16 = Y := by omega
  rw [e1, e2]
  omega
theorem all8_low (n v : Nat) : all8 n v % 16 ≤ 4 := by
  cases n with
  | zero => simp [all8, st2, m1]
  | succ n =>
    rw [all8_succ]
    have a0 : v % 2 < 2 := Nat.mod_lt _ (by decide)
    have a1 : v / 2 % 2 < 2 := Nat.mod_lt _ (by decide)
    have a2 : v / 4 % 2 < 2 := Nat.mod_lt _ (by decide)
    have a3 : v / 8 % 2 < 2 := Nat.mod_lt _ (by decide)
    generalize all8 n (v / 256) = Z
    generalize v / 16 % 2 + v / 32 % 2 + (v / 64 % 2 + v / 128 % 2) = Y
    generalize v % 2 = b0 at *
    generalize v / 2 % 2 = b1 at *
    generalize v / 4 % 2 = b2 at *
    generalize v / 8 % 2 = b3 at *
    omega
def pops (n v : Nat) : Nat := st3 n (all8 n v)
theorem pops_succ (n v : Nat) : pops (n + 1) v = 256 * pops n (v / 256) + sumB v 8 := by
  have hl := all8_low n (v / 256)
  rw [pops, st3_succ, all8_succ, pops, st3, sumB8]
  have a0 : v % 2 < 2 := Nat.mod_lt _ (by decide)
  have a1 : v / 2 % 2 < 2 := Nat.mod_lt _ (by decide)
  have a2 : v / 4 % 2 < 2 := Nat.mod_lt _ (by decide)
  have a3 : v / 8 % 2 < 2 := Nat.mod_lt _ (by decide)
  have a4 : v / 16 % 2 < 2 := Nat.mod_lt _ (by decide)
  have a5 : v / 32 % 2 < 2 := Nat.mod_lt _ (by decide)
  have a6 : v / 64 % 2 < 2 := Nat.mod_lt _ (by decide)
  have a7 : v / 128 % 2 < 2 := Nat.mod_lt _ (by decide)
  generalize all8 n (v / 256) = Z at *
  generalize v % 2 = b0 at *
  generalize v / 2 % 2 = b1 at *
  generalize v / 4 % 2 = b2 at *
  generalize v / 8 % 2 = b3 at *
  generalize v / 16 % 2 = b4 at *
  generalize v / 32 % 2 = b5 at *
  generalize v / 64 % 2 = b6 at *
  generalize v / 128 % 2 = b7 at *
  have e1 : ((256 * Z + 16 * (b4 + b5 + (b6 + b7)) + (b0 + b1 + (b2 + b3))) / 16 + (256 * Z + 16 * (b4 + b5 + (b6 + b7)) + (b0 + b1 + (b2 + b3)))) / 256 = Z / 16 + Z := by omega
  rw [e1]
  omega
theorem pops_8 (v : Nat) : ∃ p0 p1 p2 p3 p4 p5 p6 p7 : Nat, p0 ≤ 8 ∧ p1 ≤ 8 ∧ p2 ≤ 8 ∧ p3 ≤ 8 ∧ p4 ≤ 8 ∧ p5 ≤ 8 ∧ p6 ≤ 8 ∧ p7 ≤ 8 ∧ sumB v 64 = p0 + p1 + p2 + p3 + p4 + p5 + p6 + p7 ∧
    pops 8 v = p0 + 256 * p1 + 65536 * p2 + 16777216 * p3 + 4294967296 * p4 + 1099511627776 * p5 + 281474976710656 * p6 + 72057594037927936 * p7 := by
  refine ⟨sumB v 8, sumB (v / 256) 8, sumB (v / 256 / 256) 8, sumB (v / 256 / 256 / 256) 8, sumB (v / 256 / 256 / 256 / 256) 8, sumB (v / 256 / 256 / 256 / 256 / 256) 8, sumB (v / 256 / 256 / 256 / 256 / 256 / 256) 8, sumB (v / 256 / 256 / 256 / 256 / 256 / 256 / 256) 8, sumB_le _ _, sumB_le _ _, sumB_le _ _, sumB_le _ _, sumB_le _ _, sumB_le _ _, sumB_le _ _, sumB_le _ _, ?_, ?_⟩
  · rw [show 64 = 8 + (8 + (8 + (8 + (8 + (8 + (8 + 8)))))) from rfl]
    simp only [sumB_shift, show (2 : Nat) ^ 8 = 256 from rfl]
    omega
  · simp only [pops_succ]
    have h0 : ∀ x, pops 0 x = 0 := fun x => by simp [pops, st3, m2]
    rw [h0]
    omega
theorem m0_32 : m0 32 = 6148914691236517205 := by decide
theorem m1_16 : m1 16 = 3689348814741910323 := by decide
theorem m2_8 : m2 8 = 1085102592571150095 := by decide
theorem cut_at {x a r m : Nat} (h : x = a + m * r) (ha : a < m) : x / m = r := by
  subst h
  rw [Nat.add_comm, Nat.mul_add_div (by omega), Nat.div_eq_of_lt ha, Nat.add_zero]
theorem pops_last (v : Nat) : ∃ x y z u : Nat, pops 8 v = x ∧ x < 1152921504606846976 ∧ x + x / 256 = y ∧ y < 2305843009213693952 ∧ y + y / 65536 = z ∧ z < 4611686018427387904 ∧ z + z / 4294967296 = u ∧ u < 9223372036854775808 ∧ u % 128 = sumB v 64 := by
  obtain ⟨p0, p1, p2, p3, p4, p5, p6, p7, h0, h1, h2, h3, h4, h5, h6, h7, hs, hp⟩ := pops_8 v
  rw [hs, hp]
  clear hs hp
  have c1 : (p0 + 256 * p1 + 65536 * p2 + 16777216 * p3 + 4294967296 * p4 + 1099511627776 * p5 + 281474976710656 * p6 + 72057594037927936 * p7) / 256 = (p1 + 256 * p2 + 65536 * p3 + 16777216 * p4 + 4294967296 * p5 + 1099511627776 * p6 + 281474976710656 * p7) := cut_at (a := p0) (by omega) (by omega)
  have c2 : ((p0 + 256 * p1 + 65536 * p2 + 16777216 * p3 + 4294967296 * p4 + 1099511627776 * p5 + 281474976710656 * p6 + 72057594037927936 * p7) + (p1 + 256 * p2 + 65536 * p3 + 16777216 * p4 + 4294967296 * p5 + 1099511627776 * p6 + 281474976710656 * p7)) / 65536 = ((p2 + p3) + 256 * (p3 + p4) + 65536 * (p4 + p5) + 16777216 * (p5 + p6) + 4294967296 * (p6 + p7) + 1099511627776 * p7) := cut_at (a := (p0 + p1) + 256 * (p1 + p2)) (by omega) (by omega)
  have c3 : ((p0 + 256 * p1 + 65536 * p2 + 16777216 * p3 + 4294967296 * p4 + 1099511627776 * p5 + 281474976710656 * p6 + 72057594037927936 * p7) + (p1 + 256 * p2 + 65536 * p3 + 16777216 * p4 + 4294967296 * p5 + 1099511627776 * p6 + 281474976710656 * p7) + ((p2 + p3) + 256 * (p3 + p4) + 65536 * (p4 + p5) + 16777216 * (p5 + p6) + 4294967296 * (p6 + p7) + 1099511627776 * p7)) / 4294967296 = ((p4 + p5 + p6 + p7) + 256 * (p5 + p6 + p7) + 65536 * (p6 + p7) + 16777216 * p7) := cut_at (a := (p0 + p1 + p2 + p3) + 256 * (p1 + p2 + p3 + p4) + 65536 * (p2 + p3 + p4 + p5) + 16777216 * (p3 + p4 + p5 + p6)) (by omega) (by omega)
  refine ⟨(p0 + 256 * p1 + 65536 * p2 + 16777216 * p3 + 4294967296 * p4 + 1099511627776 * p5 + 281474976710656 * p6 + 72057594037927936 * p7), (p0 + 256 * p1 + 65536 * p2 + 16777216 * p3 + 4294967296 * p4 + 1099511627776 * p5 + 281474976710656 * p6 + 72057594037927936 * p7) + (p1 + 256 * p2 + 65536 * p3 + 16777216 * p4 + 4294967296 * p5 + 1099511627776 * p6 + 281474976710656 * p7), (p0 + 256 * p1 + 65536 * p2 + 16777216 * p3 + 4294967296 * p4 + 1099511627776 * p5 + 281474976710656 * p6 + 72057594037927936 * p7) + (p1 + 256 * p2 + 65536 * p3 + 16777216 * p4 + 4294967296 * p5 + 1099511627776 * p6 + 281474976710656 * p7) + ((p2 + p3) + 256 * (p3 + p4) + 65536 * (p4 + p5) + 16777216 * (p5 + p6) + 4294967296 * (p6 + p7) + 1099511627776 * p7), (p0 + 256 * p1 + 65536 * p2 + 16777216 * p3 + 4294967296 * p4 + 1099511627776 * p5 + 281474976710656 * p6 + 72057594037927936 * p7) + (p1 + 256 * p2 + 65536 * p3 + 16777216 * p4 + 4294967296 * p5 + 1099511627776 * p6 + 281474976710656 * p7) + ((p2 + p3) + 256 * (p3 + p4) + 65536 * (p4 + p5) + 16777216 * (p5 + p6) + 4294967296 * (p6 + p7) + 1099511627776 * p7) + ((p4 + p5 + p6 + p7) + 256 * (p5 + p6 + p7) + 65536 * (p6 + p7) + 16777216 * p7), rfl, ?_, by rw [c1], ?_, by rw [c2], ?_, by rw [c3], ?_, ?_⟩
  all_goals clear c1 c2 c3
  · omega
  · omega
  · omega
  · omega
  have e : ∀ s V : Nat, s < 128 → (s + 128 * V) % 128 = s := fun s V h => by omega
  have e2 := e (p0 + p1 + p2 + p3 + p4 + p5 + p6 + p7) (2 * (p1 + p2 + p3 + p4 + (p5 + p6 + p7)) + 512 * (p2 + p3 + p4 + p5 + (p6 + p7)) + 131072 * (p3 + p4 + p5 + p6 + p7) + 33554432 * (p4 + p5 + p6 + p7) + 8589934592 * (p5 + p6 + p7) + 2199023255552 * (p6 + p7) + 562949953421312 * p7) (by omega)
  rw [← e2]
  congr 1
  omega

/-! ### zeros at the ends -/
def isLen (v k : Nat) : Prop := k ≤ 64 ∧ v < 2 ^ k ∧ (k = 0 ∨ 2 ^ (k - 1) ≤ v)
theorem isLen_one {v k m : Nat} (h : isLen v k) (h' : isLen v m) : k = m := by
  obtain ⟨_, a, b⟩ := h
  obtain ⟨_, c, d⟩ := h'
  rcases Nat.lt_trichotomy k m with hl | hl | hl
  · exfalso
    rcases d with d | d
    · omega
    · have : 2 ^ k ≤ 2 ^ (m - 1) := Nat.pow_le_pow_right (by decide) (by omega)
      omega
  · exact hl
  · exfalso
    rcases b with b | b
    · omega
    · have : 2 ^ m ≤ 2 ^ (k - 1) := Nat.pow_le_pow_right (by decide) (by omega)
      omega
def isTz (v k : Nat) : Prop := (k < 64 ∧ v % 2 ^ k = 0 ∧ v.testBit k = true) ∨ (k = 64 ∧ v = 0)
theorem isTz_one {v k m : Nat} (h : isTz v k) (h' : isTz v m) : k = m := by
  have key : ∀ {k m : Nat}, k < m → v % 2 ^ m = 0 → v.testBit k = false := fun {k m} hk hv => by
    have h1 := Nat.testBit_mod_two_pow v m k
    rw [hv] at h1
    simpa [hk] using h1
  rcases h with ⟨a, b, c⟩ | ⟨a, b⟩ <;> rcases h' with ⟨d, e, f⟩ | ⟨d, e⟩
  · rcases Nat.lt_trichotomy k m with hl | hl | hl
    · rw [key hl e] at c; cases c
    · exact hl
    · rw [key hl b] at f; cases f
  · subst e; simp at c
  · subst b; simp at f
  · omega
theorem tz_and {v k : Nat} (hv : v < 2 ^ 64) (h0 : v % 2 ^ k = 0) (hb : v.testBit k = true) : v &&& (2 ^ 64 - v) = 2 ^ k := by
  have hd := Nat.div_add_mod v (2 ^ k)
  rw [h0, Nat.add_zero] at hd
  have hodd : v / 2 ^ k % 2 = 1 := by rw [bit_div] at hb; simpa using hb
  obtain ⟨q, hq⟩ : ∃ q, v / 2 ^ k = 2 * q + 1 := ⟨v / 2 ^ k / 2, by omega⟩
  rw [hq] at hd
  have hp : 0 < 2 ^ k := Nat.two_pow_pos k
  have hpos : 1 ≤ v := by rw [← hd]; exact Nat.mul_pos hp (by omega)
  have hm1 : v - 1 = 2 ^ k * (2 * q) + (2 ^ k - 1) := by rw [← hd, Nat.mul_add]; omega
  rw [show 2 ^ 64 - v = 2 ^ 64 - (v - 1 + 1) by omega]
  apply Nat.eq_of_testBit_eq
  intro i
  rw [Nat.testBit_and, Nat.testBit_two_pow_sub_succ (by omega), hm1, Nat.testBit_two_pow_mul_add _ (by omega), Nat.testBit_two_pow]
  have hv1 : v.testBit i = if i < k then false else (2 * q + 1).testBit (i - k) := by
    conv => lhs; rw [← hd, ← Nat.add_zero (2 ^ k * (2 * q + 1))]
    rw [Nat.testBit_two_pow_mul_add _ hp]
    simp
  have hi64 : v.testBit i = true → i < 64 := fun h => by
    apply Classical.byContradiction
    intro hge
    rw [Nat.testBit_lt_two_pow (Nat.lt_of_lt_of_le hv (Nat.pow_le_pow_right (by decide) (by omega)))] at h
    cases h
  by_cases hik : i < k
  · rw [hv1, if_pos hik]
    have : ¬ k = i := by omega
    simp [this]
  · rw [if_neg hik]
    by_cases he : k = i
    · subst he
      have := hi64 hb
      rw [hb, Nat.sub_self]
      simp [this]
    · obtain ⟨j, rfl⟩ : ∃ j, i = k + (j + 1) := ⟨i - k - 1, by omega⟩
      rw [hv1, if_neg hik, show k + (j + 1) - k = j + 1 by omega, Nat.testBit_succ, Nat.testBit_succ, show (2 * q + 1) / 2 = q by omega, show 2 * q / 2 = q by omega]
      have h3 : decide (k = k + (j + 1)) = false := decide_eq_false he
      rw [h3]
      cases q.testBit j <;> simp
end Go.Proofs.YtolhcfhgldkodaaDoor
