/-
  instr: the bytes of an instruction; Get of any that may be.
-/
import Derived.Test.YtfemeendkjcffaaAbB
set_option linter.unusedVariables false
set_option linter.unusedSimpArgs false
namespace Go.Proofs.Ytfemeendkjcffaa
open Go.RowKit

/-- The bytes of an instruction. -/
def putT (m a b : Nat) (L : List Nat) : List UInt8 :=
  if m = 0 then [] else if m = 1 then [UInt8.ofNat a] else if m = 3 then uintF L.length ++ (labL L ++ uintF a) else if m = 5 then uintF a ++ [UInt8.ofNat 0] else if m = 8 then uintF a ++ uintF b else if m = 9 then [UInt8.ofNat 0] else if m = 10 then intF (s32 a) else if m = 11 then intF (s64 a) else uintF a
def putL (op a b : Nat) (L : List Nat) : List UInt8 := UInt8.ofNat op :: putT (infF op).imm a b L

theorem s32_inn (a : Nat) (h : a < 4294967296) : (-2147483648 ≤ s32 a ∧ s32 a ≤ 2147483647) ∧ IntKind.u32.wrap (s32 a) = (a : Int) := by
  rw [IntKind.wrap_u32', s32]
  split <;> omega
theorem s64_inn (a : Nat) (h : a < 18446744073709551616) : (-9223372036854775808 ≤ s64 a ∧ s64 a ≤ 9223372036854775807) ∧ IntKind.u64.wrap (s64 a) = (a : Int) := by
  rw [IntKind.wrap_u64, s64]
  split <;> omega

/-- What an instruction that may be is. -/
theorem rgt_zero {op a b n : Nat} (h : rgtF op a b n = 0) : chkF op = 0 ∧ immF (infF op).imm a b n = 0 := by
  rw [rgtF] at h
  split at h
  · rename_i hc
    exact ⟨hc, h⟩
  · rename_i hc
    exact absurd h hc

theorem immF_zero {m a b n : Nat} (h : immF m a b n = 0) : (n = 0 ∨ m = 3 ∧ n ≤ 10000) ∧ (b = 0 ∨ m = 8) ∧ (m = 0 ∨ m = 9 → a = 0) ∧ (m = 1 → blkF a = 0) ∧ (¬ m = 0 → ¬ m = 9 → ¬ m = 1 → ¬ m = 11 → a < 4294967296 ∧ b < 4294967296) := by
  rw [immF] at h
  split at h
  · rename_i h1
    split at h <;> cases h
  rename_i h1
  split at h
  · cases h
  rename_i h2
  have hn : n = 0 ∨ m = 3 ∧ n ≤ 10000 := by
    rcases Nat.eq_zero_or_pos n with h3 | h3
    · exact .inl h3
    · by_cases hm : m = 3
      · exact .inr ⟨hm, by omega⟩
      · exact absurd (.inl ⟨h3, hm⟩) h1
  have hb : b = 0 ∨ m = 8 := by
    by_cases hb : b = 0
    · exact .inl hb
    · by_cases hm : m = 8
      · exact .inr hm
      · exact absurd ⟨hb, hm⟩ h2
  refine ⟨hn, hb, ?_, ?_, ?_⟩
  · intro hm
    rw [if_pos hm] at h
    split at h
    · assumption
    · cases h
  · intro hm
    rw [if_neg (by omega), if_pos hm] at h
    exact h
  · intro m0 m9 m1 m11
    rw [if_neg (by omega), if_neg m1, if_neg m11] at h
    split at h
    · assumption
    · cases h

def GetTo (X : Nat) (S : Nat → Prop) (D : Option Addr) (c : Nat) (bs : List UInt8) (k : Nat) (L : List Nat) (D' : Option Addr) (c' : Nat) (w w' : World) : Prop :=
  w'.ownsRow w.heap.size 51 1 (.slice D' L.length c') L.length (u32s L) ∧ Scn w' X S D c bs k

theorem get_all (w : World) (X : Nat) (S : Nat → Prop) (D : Option Addr) (c : Nat) (bs : List UInt8) (k : Nat) (h : Scn w X S D c bs k) (op a b : Nat) (L : List Nat) (rest : List UInt8) (hop : op < 256) (ha : a < 18446744073709551616) (hLb : ∀ x ∈ L, x < 4294967296)
    (hz : rgtF op a b L.length = 0) (hd : bs.drop k = putL op a b L ++ rest) :
    Calls Try.prog 142 #[.pointer (some ⟨X, 0, none⟩)] w fun e w' => ∃ D' c', e = .returned (.agg (insC (op : Int) (a : Int) (b : Int) D' L.length c')) ∧ Step (fun i => i = X) w w' ∧ GetTo X S D c bs (k + (putL op a b L).length) L D' c' w w' := by
  obtain ⟨hck, hi⟩ := rgt_zero hz
  obtain ⟨hn, hb, h09, h1, hlt⟩ := immF_zero hi
  have HO : Hid (∀ w, Calls Try.prog 25 #[.int .u8 (op : Int)] w fun e w' => e = .returned (infM (infF op) ((infF op).imm : Int)) ∧ Step (fun _ => False) w w') := fun w => of_walk w op hop
  have key : ∀ k2, k2 = k + (putL op a b L).length → (L = [] → (∀ e w', (e = .returned (.agg #[.int .u8 (op : Int), .int .u64 (a : Int), .int .u64 (b : Int), .slice none 0 0]) ∧ Scn w' X S D c bs k2 ∧ Step (fun i => i = X) w w') →
      ∃ D' c', e = Ending.returned (.agg (insC (op : Int) (a : Int) (b : Int) D' L.length c')) ∧ Step (fun i => i = X) w w' ∧ GetTo X S D c bs (k + (putL op a b L).length) L D' c' w w')) := by
    rintro k2 rfl rfl e w' ⟨rfl, hs, ht⟩
    exact ⟨none, 0, rfl, ht, World.ownsRow_nil _ _ _ _, hs⟩
  have hlen : (putL op a b L).length = 1 + (putT (infF op).imm a b L).length := by rw [putL, List.length_cons]; omega
  rw [putL, List.cons_append] at hd
  rw [hlen] at key ⊢
  generalize hm : (infF op).imm = m at *
  by_cases m3 : m = 3
  · subst m3
    obtain rfl : b = 0 := by omega
    have hL : L.length ≤ 10000 := by omega
    have ha2 := (hlt (by decide) (by decide) (by decide) (by decide)).1
    have hT : putT 3 a 0 L = uintF L.length ++ (labL L ++ uintF a) := by simp [putT]
    rw [hT] at hd ⊢
    refine (get_3 w X S D c bs k h op a (infF op) rest hop hck ha2 L hL hLb (by rw [hd]; simp) HO).mono ?_
    rintro e w' ⟨D', c', rfl, hown, hs, ht⟩
    refine ⟨D', c', rfl, ht, hown, ?_⟩
    rw [show k + (1 + (uintF L.length ++ (labL L ++ uintF a)).length) = k + 1 + (uintF L.length).length + (labL L).length + (uintF a).length by simp; omega]
    exact hs
  · obtain rfl : L = [] := by
      rcases hn with hn | hn
      · exact List.eq_nil_of_length_eq_zero hn
      · exact absurd hn.1 m3
    by_cases m0 : m = 0
    · subst m0
      obtain rfl : b = 0 := by omega
      obtain rfl : a = 0 := h09 (.inl rfl)
      have hT : putT 0 0 0 [] = [] := by simp [putT]
      rw [hT] at hd key ⊢
      exact (get_0 w X S D c bs k h op (infF op) rest hop hck (by rw [hd]; simp) HO).mono (key _ (by first | (simp; done) | (simp; omega)) rfl)
    by_cases m9 : m = 9
    · subst m9
      obtain rfl : b = 0 := by omega
      obtain rfl : a = 0 := h09 (.inr rfl)
      have hT : putT 9 0 0 [] = [UInt8.ofNat 0] := by simp [putT]
      rw [hT] at hd key ⊢
      exact (get_9 w X S D c bs k h op (infF op) rest hop hck (by rw [hd]; simp) HO).mono (key _ (by first | (simp; done) | (simp; omega)) rfl)
    by_cases m1 : m = 1
    · subst m1
      obtain rfl : b = 0 := by omega
      have hbk := h1 rfl
      have ha2 : a < 256 := by
        rw [blkF] at hbk
        split at hbk
        · omega
        · split at hbk
          · cases hbk
          · omega
      have hT : putT 1 a 0 [] = [UInt8.ofNat a] := by simp [putT]
      rw [hT] at hd key ⊢
      exact (get_1 w X S D c bs k h op a (infF op) rest hop hck ha2 hbk (by rw [hd]; simp) HO).mono (key _ (by first | (simp; done) | (simp; omega)) rfl)
    by_cases m11 : m = 11
    · subst m11
      obtain rfl : b = 0 := by omega
      obtain ⟨h2, h3⟩ := s64_inn a ha
      have hT : putT 11 a 0 [] = intF (s64 a) := by simp [putT]
      rw [hT] at hd key ⊢
      exact (get_11 w X S D c bs k h op a (infF op) rest hop hck ha (s64 a) h2 h3 hd HO).mono (key _ (by omega) rfl)
    obtain ⟨ha2, hb2⟩ := hlt m0 m9 m1 m11
    by_cases m8 : m = 8
    · subst m8
      have hT : putT 8 a b [] = uintF a ++ uintF b := by simp [putT]
      rw [hT] at hd key ⊢
      exact (get_8 w X S D c bs k h op a b (infF op) rest hop hck ha2 hb2 (by rw [hd]; simp) HO).mono (key _ (by first | (simp; done) | (simp; omega)) rfl)
    obtain rfl : b = 0 := by omega
    by_cases m5 : m = 5
    · subst m5
      have hT : putT 5 a 0 [] = uintF a ++ [UInt8.ofNat 0] := by simp [putT]
      rw [hT] at hd key ⊢
      exact (get_5 w X S D c bs k h op a (infF op) rest hop hck ha2 (by rw [hd]; simp) HO).mono (key _ (by first | (simp; done) | (simp; omega)) rfl)
    by_cases m10 : m = 10
    · subst m10
      obtain ⟨h2, h3⟩ := s32_inn a ha2
      have hT : putT 10 a 0 [] = intF (s32 a) := by simp [putT]
      rw [hT] at hd key ⊢
      exact (get_10 w X S D c bs k h op a (infF op) rest hop hck ha2 (s32 a) h2 h3 hd HO).mono (key _ (by omega) rfl)
    have hT : putT m a 0 [] = uintF a := by simp [putT, m0, m1, m3, m5, m8, m9, m10, m11]
    rw [hT] at hd key ⊢
    exact (get_d w X S D c bs k h op a (infF op) rest hop hck ha2 (m : Int) (by omega) hd HO).mono (key _ (by omega) rfl)
end Go.Proofs.Ytfemeendkjcffaa
