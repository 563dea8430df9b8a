/-
  Numbers of 64 bits as lists of bits, the lowest first: plain laws, no program in sight.
-/
namespace Go.Proofs.YtolhcfhgldkodaaDoor.Wide

/-- The bits of a number, so many. -/
def bs (n v : Nat) : List Bool := (List.range n).map v.testBit
theorem bs_length (n v : Nat) : (bs n v).length = n := by simp [bs]
theorem bs_get (n v i : Nat) (h : i < n) : (bs n v)[i]? = some (v.testBit i) := by simp [bs, h]
theorem bs_succ (n v : Nat) : bs (n + 1) v = bs n v ++ [v.testBit n] := by simp [bs, List.range_succ]
theorem bs_congr {n v u : Nat} (h : ∀ i, i < n → v.testBit i = u.testBit i) : bs n v = bs n u := by
  unfold bs
  exact List.map_congr_left fun i hi => h i (by simpa using hi)
theorem bs_mod (n v : Nat) : bs n (v % 2 ^ n) = bs n v := bs_congr fun i hi => by simp [Nat.testBit_mod_two_pow, hi]

theorem bit_div (v i : Nat) : v.testBit i = decide (v / 2 ^ i % 2 = 1) := Nat.testBit_eq_decide_div_mod_eq
theorem bit_toNat (v i : Nat) : (v.testBit i).toNat = v / 2 ^ i % 2 := Nat.toNat_testBit v i
theorem div_succ (v i : Nat) : v / 2 ^ (i + 1) = v / 2 ^ i / 2 := by rw [Nat.pow_succ, Nat.div_div_eq_div_mul]
theorem div_step (v i : Nat) : v / 2 ^ i = v / 2 ^ (i + 1) * 2 + (v.testBit i).toNat := by rw [bit_toNat, div_succ]; omega

/-- The carry into place k of a sum. -/
def carry (a b : Nat) (c : Bool) (k : Nat) : Bool := decide (2 ^ k ≤ a % 2 ^ k + b % 2 ^ k + c.toNat)
theorem carry_zero (a b : Nat) (c : Bool) : carry a b c 0 = c := by cases c <;> simp [carry, Nat.mod_one]
theorem mod_succ (a k : Nat) : a % 2 ^ (k + 1) = a % 2 ^ k + 2 ^ k * (a.testBit k).toNat := by
  rw [bit_toNat, Nat.pow_succ, Nat.mod_mul]
theorem bit_le (b : Bool) : b.toNat ≤ 1 := by cases b <;> simp
theorem carry_succ (a b : Nat) (c : Bool) (k : Nat) : carry a b c (k + 1) = decide (1 < (a.testBit k).toNat + (b.testBit k).toNat + (carry a b c k).toNat) := by
  have h1 := mod_succ a k
  have h2 := mod_succ b k
  have l1 := Nat.mod_lt a (Nat.two_pow_pos k)
  have l2 := Nat.mod_lt b (Nat.two_pow_pos k)
  have hc := bit_le c
  unfold carry
  rw [h1, h2, Nat.pow_succ]
  generalize 2 ^ k = p at *
  generalize a % p = x at *
  generalize b % p = y at *
  cases a.testBit k <;> cases b.testBit k <;> by_cases hh : p ≤ x + y + c.toNat <;> simp [hh] <;> omega
theorem sum_bit (a b : Nat) (c : Bool) (k : Nat) : (a + b + c.toNat).testBit k = decide (((a.testBit k).toNat + (b.testBit k).toNat + (carry a b c k).toNat) % 2 = 1) := by
  have l1 := Nat.mod_lt a (Nat.two_pow_pos k)
  have l2 := Nat.mod_lt b (Nat.two_pow_pos k)
  have d1 := Nat.div_add_mod a (2 ^ k)
  have d2 := Nat.div_add_mod b (2 ^ k)
  have hc := bit_le c
  have e : (a + b + c.toNat) / 2 ^ k = a / 2 ^ k + b / 2 ^ k + (carry a b c k).toNat := by
    unfold carry
    have hp := Nat.two_pow_pos k
    generalize 2 ^ k = p at *
    generalize hqa : a / p = qa at *
    generalize hqb : b / p = qb at *
    by_cases hh : p ≤ a % p + b % p + c.toNat
    · simp only [hh, decide_true, Bool.toNat_true]
      refine Nat.div_eq_of_lt_le ?_ ?_
      · rw [Nat.add_mul, Nat.add_mul, Nat.mul_comm qa, Nat.mul_comm qb]; omega
      · rw [Nat.add_mul, Nat.add_mul, Nat.add_mul, Nat.mul_comm qa, Nat.mul_comm qb]; omega
    · simp only [hh, decide_false, Bool.toNat_false, Nat.add_zero]
      refine Nat.div_eq_of_lt_le ?_ ?_
      · rw [Nat.add_mul, Nat.mul_comm qa, Nat.mul_comm qb]; omega
      · rw [Nat.add_mul, Nat.add_mul, Nat.mul_comm qa, Nat.mul_comm qb]; omega
  rw [bit_div, e, bit_toNat, bit_toNat]
  congr 1
  rw [Nat.add_mod, Nat.add_mod (a / 2 ^ k)]
  simp [Nat.add_mod]

theorem not_bit {a i : Nat} (h : a < 2 ^ 64) (hi : i < 64) : (2 ^ 64 - 1 - a).testBit i = !a.testBit i := by
  have := Nat.testBit_two_pow_sub_succ h i
  rw [show 2 ^ 64 - (a + 1) = 2 ^ 64 - 1 - a by omega] at this
  rw [this]
  simp [hi]

/-- Which is below, from the highest bit on: all places above k alike. -/
theorem lt_of_bit {a b k : Nat} (h : a / 2 ^ (k + 1) = b / 2 ^ (k + 1)) (hab : a.testBit k ≠ b.testBit k) : decide (a < b) = b.testBit k := by
  have e1 := div_step a k
  have e2 := div_step b k
  rw [h] at e1
  have hp := Nat.two_pow_pos k
  have d1 := Nat.div_add_mod a (2 ^ k)
  have d2 := Nat.div_add_mod b (2 ^ k)
  have l1 := Nat.mod_lt a hp
  have l2 := Nat.mod_lt b hp
  generalize a / 2 ^ k = qa at *
  generalize b / 2 ^ k = qb at *
  generalize 2 ^ k = p at *
  cases ha : a.testBit k <;> cases hb : b.testBit k <;> simp [ha, hb] at hab e1 e2 ⊢
  · have : qb = qa + 1 := by omega
    subst this
    rw [Nat.mul_add] at d2
    omega
  · have : qa = qb + 1 := by omega
    subst this
    rw [Nat.mul_add] at d1
    omega

/-- Long division: one place down. -/
theorem divmod_step (a b i : Nat) (hb : 0 < b) : a / 2 ^ i / b = a / 2 ^ (i + 1) / b * 2 + (if b ≤ 2 * (a / 2 ^ (i + 1) % b) + (a.testBit i).toNat then 1 else 0) ∧
    a / 2 ^ i % b = (if b ≤ 2 * (a / 2 ^ (i + 1) % b) + (a.testBit i).toNat then 2 * (a / 2 ^ (i + 1) % b) + (a.testBit i).toNat - b else 2 * (a / 2 ^ (i + 1) % b) + (a.testBit i).toNat) := by
  rw [div_step a i]
  have ht := bit_le (a.testBit i)
  have hl := Nat.mod_lt (a / 2 ^ (i + 1)) hb
  have hd := Nat.div_add_mod (a / 2 ^ (i + 1)) b
  generalize a / 2 ^ (i + 1) = x at *
  generalize (a.testBit i).toNat = t at *
  generalize hq : x / b = q at *
  generalize hr : x % b = r at *
  by_cases hh : b ≤ 2 * r + t
  · rw [if_pos hh, if_pos hh]
    have e : x * 2 + t = b * (q * 2 + 1) + (2 * r + t - b) := by rw [Nat.mul_add, ← Nat.mul_assoc]; omega
    rw [e]
    exact ⟨by rw [Nat.mul_add_div hb, Nat.div_eq_of_lt (by omega)], by rw [Nat.mul_add_mod, Nat.mod_eq_of_lt (by omega)]⟩
  · rw [if_neg hh, if_neg hh]
    have e : x * 2 + t = b * (q * 2) + (2 * r + t) := by rw [← Nat.mul_assoc]; omega
    rw [e]
    exact ⟨by rw [Nat.mul_add_div hb, Nat.div_eq_of_lt (by omega)], by rw [Nat.mul_add_mod, Nat.mod_eq_of_lt (by omega)]⟩
theorem quot_bit (a b i : Nat) (hb : 0 < b) : (a / b).testBit i = decide (b ≤ 2 * (a / 2 ^ (i + 1) % b) + (a.testBit i).toNat) := by
  rw [bit_div, Nat.div_div_eq_div_mul, Nat.mul_comm b, ← Nat.div_div_eq_div_mul, (divmod_step a b i hb).1]
  by_cases hh : b ≤ 2 * (a / 2 ^ (i + 1) % b) + (a.testBit i).toNat <;> simp [hh] <;> omega

/-- A product, place by place. -/
theorem times_step (a b k : Nat) : a * (b % 2 ^ (k + 1)) = a * (b % 2 ^ k) + (if b.testBit k then a * 2 ^ k else 0) := by
  rw [mod_succ, Nat.mul_add]
  cases b.testBit k <;> simp
end Go.Proofs.YtolhcfhgldkodaaDoor.Wide
