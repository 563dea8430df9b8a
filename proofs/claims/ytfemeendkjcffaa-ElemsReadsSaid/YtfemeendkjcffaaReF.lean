/-
  creelref02.Read: a number as bits; what it comes to is what leb's readers come to.
-/
import Derived.Test.YtfemeendkjcffaaReB
set_option linter.unusedVariables false
set_option linter.unusedSimpArgs false
namespace Go.Proofs.Ytfemeendkjcffaa
open Go.RowKit

def bitB (b : UInt8) : List Bool := (List.range 7).map fun i => b.toNat.testBit i
theorem bitB_len (b : UInt8) : (bitB b).length = 7 := by simp [bitB]
def bitsL (l : List UInt8) : List Bool := l.flatMap bitB
theorem bitsL_cons (b : UInt8) (l : List UInt8) : bitsL (b :: l) = bitB b ++ bitsL l := by simp [bitsL]
theorem bitsL_len (l : List UInt8) : (bitsL l).length = 7 * l.length := by
  induction l with
  | nil => rfl
  | cons b l ih => rw [bitsL_cons, List.length_append, bitB_len, ih, List.length_cons]; omega
theorem bitsL_snoc (l : List UInt8) (b : UInt8) : bitsL (l ++ [b]) = bitsL l ++ bitB b := by simp [bitsL]
theorem bitsL_get (l : List UInt8) : ∀ (i : Nat), i < 7 * l.length → (bitsL l)[i]? = some ((valL l).testBit i) := by
  induction l with
  | nil => intro i hi; simp at hi
  | cons b l ih =>
    intro i hi
    have h1 : valL (b :: l) = 2 ^ 7 * valL l + b.toNat % 128 := by rw [valL]; omega
    have h2 : b.toNat % 128 < 2 ^ 7 := Nat.mod_lt _ (by decide)
    rw [h1, Nat.testBit_two_pow_mul_add _ h2, bitsL_cons]
    by_cases h7 : i < 7
    · rw [if_pos h7, List.getElem?_append_left (by rw [bitB_len]; exact h7), bitB, List.getElem?_map, List.getElem?_range h7]
      simp only [Option.map_some]
      rw [show (128 : Nat) = 2 ^ 7 from rfl, Nat.testBit_mod_two_pow]
      simp [h7]
    · rw [if_neg h7, List.getElem?_append_right (by rw [bitB_len]; omega), bitB_len]
      rw [List.length_cons] at hi
      exact ih (i - 7) (by omega)
/-- Bits added up. -/
def sumB (f : Nat → Bool) : Nat → Nat
  | 0 => 0
  | i + 1 => sumB f i + if f i then 2 ^ i else 0
theorem sumB_bit (V : Nat) : ∀ m, sumB V.testBit m = V % 2 ^ m
  | 0 => by simp [sumB, Nat.mod_one]
  | m + 1 => by
    rw [sumB, sumB_bit V m, Nat.mod_pow_succ, Nat.testBit_eq_decide_div_mod_eq]
    rcases Nat.mod_two_eq_zero_or_one (V / 2 ^ m) with h | h <;> simp [h]
theorem sumB_congr {f g : Nat → Bool} : ∀ m, (∀ i, i < m → f i = g i) → sumB f m = sumB g m
  | 0, _ => rfl
  | m + 1, h => by rw [sumB, sumB, sumB_congr m (fun i hi => h i (by omega)), h m (by omega)]
theorem sumB_split (f : Nat → Bool) (a : Nat) : ∀ m, a ≤ m → (∀ i, a ≤ i → i < m → f i = true) → sumB f m + 2 ^ a = sumB f a + 2 ^ m := by
  intro m hm
  induction m with
  | zero =>
    intro _
    obtain rfl : a = 0 := by omega
    rfl
  | succ m ih =>
    intro h
    by_cases h1 : a = m + 1
    · subst h1; rfl
    · have h2 := ih (by omega) (fun i h3 h4 => h i h3 (by omega))
      rw [sumB, h m (by omega) (by omega), if_pos rfl, Nat.pow_succ]
      omega
theorem sumB_none (f : Nat → Bool) (a : Nat) : ∀ m, a ≤ m → (∀ i, a ≤ i → i < m → f i = false) → sumB f m = sumB f a := by
  intro m hm
  induction m with
  | zero =>
    intro _
    obtain rfl : a = 0 := by omega
    rfl
  | succ m ih =>
    intro h
    by_cases h1 : a = m + 1
    · subst h1; rfl
    · rw [sumB, h m (by omega) (by omega), ih (by omega) (fun i h3 h4 => h i h3 (by omega))]
      simp
theorem sumB_lt (f : Nat → Bool) : ∀ m, sumB f m < 2 ^ m
  | 0 => by simp [sumB]
  | m + 1 => by
    have := sumB_lt f m
    rw [sumB, Nat.pow_succ]
    split <;> omega
/-- What is added up of bits l, of which the top one goes on. -/
def gB (l : List Bool) (B : Nat) (top : Bool) (i : Nat) : Bool := if B ≤ i then top else l[i]?.getD top
/-- Are the bits that are too many as the top one? -/
def fitB (l : List Bool) (B : Nat) (top : Bool) (i : Nat) : Prop := ∀ j, j < i → B ≤ j → j < l.length → l[j]? = some top
def topB (l : List Bool) (B : Nat) (sg : Bool) : Bool := sg && (l[min B l.length - 1]?.getD false)

instance (l : List Bool) (B : Nat) (x : Bool) : Decidable (∀ j, B ≤ j → j < l.length → l[j]? = some x) :=
  decidable_of_iff (∀ j, j < l.length → B ≤ j → l[j]? = some x) ⟨fun h j a b => h j b a, fun h j a b => h j b a⟩

/-- What the reference's reader comes to. -/
def rrF (B m : Nat) (sg : Bool) (t : List UInt8) : Nat × Nat × Nat :=
  if (grpN m t 0).2 = 0 then
    (let l := bitsL (t.take (grpN m t 0).1)
     if (∀ j, B ≤ j → j < l.length → l[j]? = some (topB l B sg)) then (sumB (gB l B (topB l B sg)) 64, (grpN m t 0).1, 0) else (0, 0, 3))
  else (0, 0, (grpN m t 0).2)
theorem bit_top {V p : Nat} (h : V < 2 ^ (p + 1)) : V.testBit p = decide (2 ^ p ≤ V) := by
  rw [Nat.testBit_eq_decide_div_mod_eq]
  rw [Nat.pow_succ] at h
  by_cases h1 : 2 ^ p ≤ V
  · have h2 : V / 2 ^ p = 1 := by
      refine Nat.div_eq_of_lt_le (by omega) (by omega)
    simp [h2, h1]
  · have h2 : V / 2 ^ p = 0 := Nat.div_eq_of_lt (by omega)
    simp [h2, h1]
theorem pow128 (n : Nat) : (128 : Nat) ^ n = 2 ^ (7 * n) := by rw [Nat.pow_mul]
/-- What is known of the bytes that are read. -/
theorem grp_facts {m : Nat} {t : List UInt8} (h : (grpN m t 0).2 = 0) : 0 < (grpN m t 0).1 ∧ (grpN m t 0).1 ≤ m ∧ (t.take (grpN m t 0).1).length = (grpN m t 0).1 ∧ valL (t.take (grpN m t 0).1) < 2 ^ (7 * (grpN m t 0).1) := by
  obtain ⟨l1, l2, l3⟩ := grpN_le m t 0 h
  rw [Nat.zero_add] at l2 l3
  have hl : (t.take (grpN m t 0).1).length = (grpN m t 0).1 := by rw [List.length_take]; exact Nat.min_eq_left l3
  have hv := valL_lt (t.take (grpN m t 0).1)
  rw [hl, pow128] at hv
  exact ⟨l1, l2, hl, hv⟩
theorem bits_at (l : List UInt8) (i : Nat) (x : Bool) (h : i < 7 * l.length) : ((bitsL l)[i]? = some x) = ((valL l).testBit i = x) := by
  rw [bitsL_get l i h]
  simp
theorem bits_getD (l : List UInt8) (i : Nat) (x : Bool) (h : i < 7 * l.length) : (bitsL l)[i]?.getD x = (valL l).testBit i := by rw [bitsL_get l i h]; rfl
theorem bits_out (l : List UInt8) (i : Nat) (x : Bool) (h : ¬ i < 7 * l.length) : (bitsL l)[i]?.getD x = x := by
  rw [List.getElem?_eq_none (by rw [bitsL_len]; omega)]
  rfl

theorem grpN_last : ∀ (m : Nat) (t : List UInt8) (j : Nat), (grpN m t j).2 = 0 → (t.getD ((grpN m t j).1 - j - 1) 0).toNat < 128
  | 0, _, _ => by simp [grpN]
  | _ + 1, [], _ => by simp [grpN]
  | m + 1, b :: t, j => by
    rw [grpN]
    split
    · rename_i h
      intro _
      simp
      exact h
    · intro h
      have h1 := grpN_last m t (j + 1) h
      have h2 := (grpN_le m t (j + 1) h).1
      have h3 : (grpN m t (j + 1)).1 - j - 1 = ((grpN m t (j + 1)).1 - (j + 1) - 1) + 1 := by omega
      rw [h3]
      simpa using h1
theorem rrF_u (t : List UInt8) : rrF 32 5 false t = rdU t := by
  rw [rrF, rdU]
  by_cases h0 : (grpN 5 t 0).2 = 0
  · rw [if_pos h0, if_pos h0]
    obtain ⟨l1, l2, l3, l4⟩ := grp_facts h0
    have htb : topB (bitsL (t.take (grpN 5 t 0).1)) 32 false = false := rfl
    have e3 : (grpN 5 t 0).1 = 5 → (t.take (grpN 5 t 0).1).getD 4 0 = t.getD 4 0 := fun h5 => by
      rw [h5, List.getD_eq_getElem?_getD, List.getD_eq_getElem?_getD, List.getElem?_take, if_pos (by decide)]
    have e4 : (grpN 5 t 0).1 = 5 → (t.getD 4 0).toNat < 128 := fun h5 => by
      have := grpN_last 5 t 0 h0
      rwa [h5] at this
    simp only [htb]
    generalize (grpN 5 t 0).1 = n at *
    generalize hL : t.take n = L at *
    have hcond : (∀ j, 32 ≤ j → j < (bitsL L).length → (bitsL L)[j]? = some false) ↔ valL L < 4294967296 := by
      constructor
      · intro h
        refine Nat.lt_pow_two_of_testBit (n := 32) _ (fun i hi => ?_)
        by_cases h1 : i < 7 * L.length
        · have := h i hi (by rw [bitsL_len]; exact h1)
          rwa [bits_at L i false h1] at this
        · exact Nat.testBit_lt_two_pow (Nat.lt_of_lt_of_le l4 (Nat.pow_le_pow_right (by decide) (by omega)))
      · intro h j h1 h2
        rw [bitsL_len] at h2
        rw [bits_at L j false h2]
        exact Nat.testBit_lt_two_pow (Nat.lt_of_lt_of_le h (by rw [show (4294967296 : Nat) = 2 ^ 32 from rfl]; exact Nat.pow_le_pow_right (by decide) h1))
    have hval : valL L < 4294967296 → sumB (gB (bitsL L) 32 false) 64 = valL L := fun h => by
      rw [sumB_none _ 32 64 (by decide) (fun i h1 h2 => by rw [gB, if_pos h1])]
      rw [sumB_congr (g := (valL L).testBit) 32 (fun i hi => by
        rw [gB, if_neg (by omega)]
        by_cases h1 : i < 7 * L.length
        · exact bits_getD L i false h1
        · rw [bits_out L i false h1]
          exact (Nat.testBit_lt_two_pow (Nat.lt_of_lt_of_le l4 (Nat.pow_le_pow_right (by decide) (by omega)))).symm), sumB_bit]
      exact Nat.mod_eq_of_lt h
    have hbad : (n = 5 ∧ 16 ≤ (t.getD 4 0).toNat) ↔ ¬ valL L < 4294967296 := by
      by_cases h5 : n = 5
      · subst h5
        obtain ⟨e1, e2⟩ := valL_last L 4 (by omega)
        rw [e3 rfl] at e1
        have h6 := e4 rfl
        have h7 : (128 : Nat) ^ 4 = 268435456 := rfl
        rw [h7] at e1 e2
        omega
      · have h6 : valL L < 2 ^ 28 := Nat.lt_of_lt_of_le l4 (Nat.pow_le_pow_right (by decide) (by omega))
        have h7 : (2 : Nat) ^ 28 = 268435456 := rfl
        omega
    by_cases hv : valL L < 4294967296
    · rw [if_pos (hcond.2 hv), if_neg (fun h => hbad.1 h hv), hval hv]
    · rw [if_neg (fun h => hv (hcond.1 h)), if_pos (hbad.2 hv)]
  · rw [if_neg h0, if_neg h0]
theorem emod_pow {a : Int} {b : Nat} (h : (b : Int) = a) (hb : b < 18446744073709551616) : (a % 18446744073709551616).toNat = b := by omega
theorem q16 : ∀ q, q < 16 → (((q.testBit 1 = q.testBit 0 ∧ q.testBit 2 = q.testBit 0 ∧ q.testBit 3 = q.testBit 0)) ↔ (q = 0 ∨ q = 15)) := by decide
theorem q128 : ∀ q, q < 128 → (((q.testBit 1 = q.testBit 0 ∧ q.testBit 2 = q.testBit 0 ∧ q.testBit 3 = q.testBit 0 ∧ q.testBit 4 = q.testBit 0 ∧ q.testBit 5 = q.testBit 0 ∧ q.testBit 6 = q.testBit 0)) ↔ (q = 0 ∨ q = 127)) := by decide
theorem wrap_nat (V : Nat) : ((wrap64 (V : Int)) % 18446744073709551616).toNat = V % 18446744073709551616 := by
  unfold wrap64
  omega
theorem bit_div (V a i : Nat) : V.testBit (a + i) = (V / 2 ^ a).testBit i := by
  rw [Nat.testBit_div_two_pow, Nat.add_comm]

/-- .. with a sign. -/
theorem rrF_short (t : List UInt8) (B m d mx : Nat) (hB : B = 32 ∧ m = 5 ∧ d = 8 ∧ mx = 15 ∨ B = 64 ∧ m = 10 ∧ d = 1 ∧ mx = 127) (h0 : (grpN m t 0).2 = 0) (hn : ¬ (grpN m t 0).1 = m) :
    rrF B m true t = (((rdS m d mx t).1 % 18446744073709551616).toNat, (rdS m d mx t).2.1, (rdS m d mx t).2.2) := by
  rw [rrF, rdS, if_pos h0, if_pos h0]
  dsimp only
  obtain ⟨l1, l2, l3, l4⟩ := grp_facts h0
  generalize (grpN m t 0).1 = n at *
  generalize t.take n = L at *
  have h63 : 7 * n ≤ 63 ∧ 7 * n < B := by omega
  obtain ⟨p, hp⟩ : ∃ p, 7 * n = p + 1 := ⟨7 * n - 1, by omega⟩
  have hfit : ∀ x, (∀ j, B ≤ j → j < (bitsL L).length → (bitsL L)[j]? = some x) := fun x j h1 h2 => by rw [bitsL_len, l3] at h2; omega
  rw [if_pos (hfit _), if_neg (fun h => hn h.1)]
  have hmin : min B (bitsL L).length - 1 = p := by rw [bitsL_len, l3]; omega
  have htop : topB (bitsL L) B true = (valL L).testBit p := by
    rw [topB, hmin, Bool.true_and]
    exact bits_getD L p false (by rw [l3]; omega)
  have hlt : valL L < 2 ^ (p + 1) := by rw [← hp]; exact l4
  have hbt := bit_top hlt
  have hg : ∀ i, i < 7 * n → gB (bitsL L) B (topB (bitsL L) B true) i = (valL L).testBit i := fun i hi => by
    rw [gB, if_neg (by omega)]
    exact bits_getD L i _ (by rw [l3]; exact hi)
  have hg2 : ∀ i, 7 * n ≤ i → gB (bitsL L) B (topB (bitsL L) B true) i = topB (bitsL L) B true := fun i hi => by
    rw [gB]
    split
    · rfl
    · exact bits_out L i _ (by rw [l3]; omega)
  have hlow : sumB (gB (bitsL L) B (topB (bitsL L) B true)) (7 * n) = valL L := by
    rw [sumB_congr (g := (valL L).testBit) (7 * n) hg, sumB_bit]
    exact Nat.mod_eq_of_lt l4
  have hn10 : ¬ n = 10 := by omega
  have hpw : (128 : Int) ^ n = ((2 ^ (p + 1) : Nat) : Int) := by rw [← hp, ← pow128]; simp
  have hpn : (128 : Nat) ^ n = 2 ^ (p + 1) := by rw [← hp, pow128]
  have h64 : (2 : Nat) ^ (p + 1) ≤ 2 ^ 63 := Nat.pow_le_pow_right (by decide) (by omega)
  have h63' : (2 : Nat) ^ 63 = 9223372036854775808 := rfl
  have hps : (2 : Nat) ^ (p + 1) = 2 * 2 ^ p := by rw [Nat.pow_succ]; omega
  by_cases hb : 2 ^ p ≤ valL L
  · have ht1 : topB (bitsL L) B true = true := by rw [htop, hbt]; simp [hb]
    have hs := sumB_split (gB (bitsL L) B (topB (bitsL L) B true)) (7 * n) 64 (by omega) (fun i h1 _ => by rw [hg2 i h1, ht1])
    rw [hlow, hp] at hs
    have h2 : (2 : Nat) ^ 64 = 18446744073709551616 := rfl
    rw [h2] at hs
    have hsg : sgnN n (valL L) = (valL L : Int) - ((2 ^ (p + 1) : Nat) : Int) := by
      rw [sgnN, if_neg hn10, if_neg (by rw [hpn]; omega), hpw]
    rw [hsg]
    generalize sumB (gB (bitsL L) B (topB (bitsL L) B true)) 64 = s at *
    generalize (2 : Nat) ^ (p + 1) = Q at *
    have : s = (((valL L : Int) - (Q : Int)) % 18446744073709551616).toNat := by omega
    rw [this]
  · have ht1 : topB (bitsL L) B true = false := by rw [htop, hbt]; simp [hb]
    have hs := sumB_none (gB (bitsL L) B (topB (bitsL L) B true)) (7 * n) 64 (by omega) (fun i h1 _ => by rw [hg2 i h1, ht1])
    rw [hlow] at hs
    have hsg : sgnN n (valL L) = (valL L : Int) := by
      rw [sgnN, if_neg hn10, if_pos (by rw [hpn]; omega)]
    rw [hsg, hs]
    have : valL L = ((valL L : Int) % 18446744073709551616).toNat := by omega
    rw [← this]
theorem rrF_32 (t : List UInt8) : rrF 32 5 true t = (((rdS 5 8 15 t).1 % 18446744073709551616).toNat, (rdS 5 8 15 t).2.1, (rdS 5 8 15 t).2.2) := by
  by_cases h0 : (grpN 5 t 0).2 = 0
  rotate_left
  · rw [rrF, rdS, if_neg h0, if_neg h0]; rfl
  by_cases hn : (grpN 5 t 0).1 = 5
  rotate_left
  · exact rrF_short t 32 5 8 15 (.inl ⟨rfl, rfl, rfl, rfl⟩) h0 hn
  rw [rrF, rdS, if_pos h0, if_pos h0]
  dsimp only
  obtain ⟨l1, l2, l3, l4⟩ := grp_facts h0
  have hlb := grpN_last 5 t 0 h0
  rw [hn] at l3 l4 hlb ⊢
  have e3 : (t.take 5).getD 4 0 = t.getD 4 0 := by
    rw [List.getD_eq_getElem?_getD, List.getD_eq_getElem?_getD, List.getElem?_take, if_pos (by decide)]
  obtain ⟨e1, e2⟩ := valL_last (t.take 5) 4 (by omega)
  rw [e3] at e1
  generalize hL : t.take 5 = L at *
  have h7 : (128 : Nat) ^ 4 = 268435456 := rfl
  rw [h7] at e1 e2
  simp only [Nat.add_one_sub_one, show (5 : Nat) - 1 = 4 from rfl, show 5 - 0 - 1 = 4 from rfl] at *
  obtain ⟨q, hq⟩ : ∃ q, q = valL L / 2147483648 := ⟨_, rfl⟩
  have hq4 : (t.getD 4 0).toNat / 8 = q := by omega
  have hq16 : q < 16 := by omega
  have hmin : min 32 (bitsL L).length - 1 = 31 := by rw [bitsL_len, l3]; rfl
  have hbq : ∀ i, (valL L).testBit (31 + i) = q.testBit i := fun i => by rw [bit_div, hq]
  have htop : topB (bitsL L) 32 true = q.testBit 0 := by
    rw [topB, hmin, Bool.true_and, bits_getD L 31 false (by omega), ← hbq 0]
  have hfit : (∀ j, 32 ≤ j → j < (bitsL L).length → (bitsL L)[j]? = some (topB (bitsL L) 32 true)) ↔ (q = 0 ∨ q = 15) := by
    rw [← q16 q hq16, htop]
    constructor
    · intro h
      have g := fun j (h1 : 32 ≤ j) (h2 : j < 35) => by
        have := h j h1 (by rw [bitsL_len]; omega)
        rwa [bits_at L j _ (by omega)] at this
      exact ⟨by rw [← hbq 1]; exact g 32 (by decide) (by decide), by rw [← hbq 2]; exact g 33 (by decide) (by decide), by rw [← hbq 3]; exact g 34 (by decide) (by decide)⟩
    · rintro ⟨g1, g2, g3⟩ j h1 h2
      rw [bitsL_len] at h2
      rw [bits_at L j _ (by omega)]
      have : j = 31 + 1 ∨ j = 31 + 2 ∨ j = 31 + 3 := by omega
      rcases this with rfl | rfl | rfl
      · rw [hbq, g1]
      · rw [hbq, g2]
      · rw [hbq, g3]
  have hg : sumB (gB (bitsL L) 32 (topB (bitsL L) 32 true)) 32 = valL L % 2 ^ 32 := by
    rw [sumB_congr (g := (valL L).testBit) 32 (fun i hi => by rw [gB, if_neg (by omega)]; exact bits_getD L i _ (by omega)), sumB_bit]
  have h32 : (2 : Nat) ^ 32 = 4294967296 := rfl
  have h64 : (2 : Nat) ^ 64 = 18446744073709551616 := rfl
  have h128 : (128 : Int) ^ 5 = 34359738368 := rfl
  have h128' : (128 : Nat) ^ 5 = 34359738368 := rfl
  rw [hq4]
  by_cases hf : q = 0 ∨ q = 15
  · rw [if_pos (hfit.2 hf), if_neg (by simp [hf])]
    rcases hf with rfl | rfl
    · have ht1 : topB (bitsL L) 32 true = false := by rw [htop]; rfl
      have hs := sumB_none (gB (bitsL L) 32 (topB (bitsL L) 32 true)) 32 64 (by omega) (fun i h1 _ => by rw [gB, if_pos h1, ht1])
      have hsg : sgnN 5 (valL L) = (valL L : Int) := by rw [sgnN, if_neg (by decide), if_pos (by omega)]
      rw [hsg, hs, hg, h32]
      have : valL L % 4294967296 = ((valL L : Int) % 18446744073709551616).toNat := by omega
      rw [this]
    · have ht1 : topB (bitsL L) 32 true = true := by rw [htop]; rfl
      have hs := sumB_split (gB (bitsL L) 32 (topB (bitsL L) 32 true)) 32 64 (by omega) (fun i h1 _ => by rw [gB, if_pos h1, ht1])
      rw [hg, h32, h64] at hs
      have hsg : sgnN 5 (valL L) = (valL L : Int) - 34359738368 := by rw [sgnN, if_neg (by decide), if_neg (by omega), h128]
      rw [hsg]
      generalize sumB (gB (bitsL L) 32 (topB (bitsL L) 32 true)) 64 = s at *
      have : s = (((valL L : Int) - 34359738368) % 18446744073709551616).toNat := by omega
      rw [this]
  · rw [if_neg (fun h => hf (hfit.1 h)), if_pos (And.intro (by trivial) hf)]
    rfl
set_option maxHeartbeats 1000000 in
theorem rrF_64 (t : List UInt8) : rrF 64 10 true t = (((rdS 10 1 127 t).1 % 18446744073709551616).toNat, (rdS 10 1 127 t).2.1, (rdS 10 1 127 t).2.2) := by
  by_cases h0 : (grpN 10 t 0).2 = 0
  rotate_left
  · rw [rrF, rdS, if_neg h0, if_neg h0]; rfl
  by_cases hn : (grpN 10 t 0).1 = 10
  rotate_left
  · exact rrF_short t 64 10 1 127 (.inr ⟨rfl, rfl, rfl, rfl⟩) h0 hn
  rw [rrF, rdS, if_pos h0, if_pos h0]
  dsimp only
  obtain ⟨l1, l2, l3, l4⟩ := grp_facts h0
  have hlb := grpN_last 10 t 0 h0
  rw [hn] at l3 l4 hlb ⊢
  have e3 : (t.take 10).getD 9 0 = t.getD 9 0 := by
    rw [List.getD_eq_getElem?_getD, List.getD_eq_getElem?_getD, List.getElem?_take, if_pos (by decide)]
  obtain ⟨e1, e2⟩ := valL_last (t.take 10) 9 (by omega)
  rw [e3] at e1
  generalize hL : t.take 10 = L at *
  have h7 : (128 : Nat) ^ 9 = 9223372036854775808 := rfl
  rw [h7] at e1 e2
  simp only [show (10 : Nat) - 1 = 9 from rfl, show 10 - 0 - 1 = 9 from rfl] at *
  obtain ⟨q, hq⟩ : ∃ q, q = valL L / 9223372036854775808 := ⟨_, rfl⟩
  have hq4 : (t.getD 9 0).toNat / 1 = q := by omega
  have hq16 : q < 128 := by omega
  have hmin : min 64 (bitsL L).length - 1 = 63 := by rw [bitsL_len, l3]; rfl
  have hbq : ∀ i, (valL L).testBit (63 + i) = q.testBit i := fun i => by rw [bit_div, hq]
  have htop : topB (bitsL L) 64 true = q.testBit 0 := by
    rw [topB, hmin, Bool.true_and, bits_getD L 63 false (by omega), ← hbq 0]
  have hfit : (∀ j, 64 ≤ j → j < (bitsL L).length → (bitsL L)[j]? = some (topB (bitsL L) 64 true)) ↔ (q = 0 ∨ q = 127) := by
    rw [← q128 q hq16, htop]
    constructor
    · intro h
      have g := fun j (h1 : 64 ≤ j) (h2 : j < 70) => by
        have := h j h1 (by rw [bitsL_len]; omega)
        rwa [bits_at L j _ (by omega)] at this
      exact ⟨by rw [← hbq 1]; exact g 64 (by decide) (by decide), by rw [← hbq 2]; exact g 65 (by decide) (by decide), by rw [← hbq 3]; exact g 66 (by decide) (by decide), by rw [← hbq 4]; exact g 67 (by decide) (by decide), by rw [← hbq 5]; exact g 68 (by decide) (by decide), by rw [← hbq 6]; exact g 69 (by decide) (by decide)⟩
    · rintro ⟨g1, g2, g3, g4, g5, g6⟩ j h1 h2
      rw [bitsL_len] at h2
      rw [bits_at L j _ (by omega)]
      have : j = 63 + 1 ∨ j = 63 + 2 ∨ j = 63 + 3 ∨ j = 63 + 4 ∨ j = 63 + 5 ∨ j = 63 + 6 := by omega
      rcases this with rfl | rfl | rfl | rfl | rfl | rfl
      · rw [hbq, g1]
      · rw [hbq, g2]
      · rw [hbq, g3]
      · rw [hbq, g4]
      · rw [hbq, g5]
      · rw [hbq, g6]
  have hg : sumB (gB (bitsL L) 64 (topB (bitsL L) 64 true)) 64 = valL L % 2 ^ 64 := by
    rw [sumB_congr (g := (valL L).testBit) 64 (fun i hi => by rw [gB, if_neg (by omega)]; exact bits_getD L i _ (by omega)), sumB_bit]
  have h64 : (2 : Nat) ^ 64 = 18446744073709551616 := rfl
  rw [hq4]
  by_cases hf : q = 0 ∨ q = 127
  · rw [if_pos (hfit.2 hf), if_neg (by simp [hf])]
    have hsg : sgnN 10 (valL L) = wrap64 (valL L : Int) := by rw [sgnN, if_pos rfl]
    rw [hsg, hg, h64]
    rw [← wrap_nat]
  · rw [if_neg (fun h => hf (hfit.1 h)), if_pos (And.intro (by trivial) hf)]
    rfl
end Go.Proofs.Ytfemeendkjcffaa
