/-
  ops: the reference's word.
-/
import Derived.Test.YtfemeendkjcffaaOpA
import Derived.Deep.QuietTactic
import Derived.BigQuiet
set_option linter.unusedVariables false
set_option linter.unusedSimpArgs false
namespace Go.Proofs.Ytfemeendkjcffaa
open Go.RowKit

/-! ### word -/
def wordGo (s : List UInt8) : Nat → Nat → Option Nat → Nat → Int → List UInt8 × Bool
  | 0, _, _, _, _ => ([], false)
  | f + 1, i, head, frm, n =>
    if i < s.length ∧ s[i]? ≠ some 32 then wordGo s f (i + 1) head frm n
    else match head with
      | none => wordGo s f (i + 1) (some i) (i + 1) n
      | some hd => if n = 0 then (s.take hd ++ (s.drop frm).take (i - frm), true) else wordGo s f (i + 1) (some hd) (i + 1) (n - 1)
theorem wordGo_succ (s : List UInt8) (f i : Nat) (head : Option Nat) (frm : Nat) (n : Int) : wordGo s (f + 1) i head frm n =
    if i < s.length ∧ s[i]? ≠ some 32 then wordGo s f (i + 1) head frm n
    else match head with
      | none => wordGo s f (i + 1) (some i) (i + 1) n
      | some hd => if n = 0 then (s.take hd ++ (s.drop frm).take (i - frm), true) else wordGo s f (i + 1) (some hd) (i + 1) (n - 1) := by cases head <;> rfl
def wordF (s : List UInt8) (n : Int) : List UInt8 × Bool := wordGo s (s.length + 1) 0 none 0 n
def headI : Option Nat → Int
  | none => -1
  | some h => h

set_option maxRecDepth 100000 in
set_option maxHeartbeats 1600000 in
theorem word_walk (w : World) (s : List UInt8) (n : Int) (hs : s.length ≤ 1000) (hn : 0 ≤ n ∧ n ≤ 1000) :
    Calls Try.prog 135 #[.string (str s), .int .i64 n] w fun e w' => e = .returned (.tuple #[.string (str (wordF s n).1), .bool (wordF s n).2]) ∧ ∃ m, w' = w.drewN m := by
  obtain ⟨r, hr⟩ : ∃ r, r = wordF s n := ⟨_, rfl⟩
  rw [← hr]
  have hr := Lib.hid hr
  have hsz := str_size s
  go_enter Try.func135, Try.ntmps135
  go_wp2_with fail
  go_loopw [1, 6, 7, 8] (fun nv hv fv iv wr => ∃ (k fr : Nat) (h : Option Nat) (n : Int), k ≤ s.length + 1 ∧ fr ≤ k ∧ (∀ a, h = some a → a ≤ k ∧ a ≤ s.length) ∧ 0 ≤ n ∧ n ≤ 1000 ∧ nv = .int .i64 n ∧ hv = .int .i64 (headI h) ∧ fv = .int .i64 (fr : Int) ∧ iv = .int .i64 (k : Int) ∧ Hid (r = wordGo s (s.length + 1 - k) k h fr n) ∧ Hid (∃ m, wr = w.drewN m)) (fun nv hv fv iv _ => s.length + 2 - (intOf iv).toNat)
  case atStart => exact ⟨0, 0, none, n, by omega, by omega, by simp, hn.1, hn.2, rfl, rfl, rfl, rfl, hr, Lib.hid ⟨0, rfl⟩⟩
  case round =>
    obtain ⟨k, fr, h, n, hk, hfr, hh, hn0, hn1, rfl, rfl, rfl, rfl, HR, hq⟩ := hrel
    have hw1 := IntWalk.i64_in ((k : Int) + 1) (by omega)
    by_cases hend : k = s.length + 1
    · have h0 : s.length + 1 - k = 0 := by omega
      rw [h0] at HR
      have hr' : r = ([], false) := HR.out
      subst hr'
      have hgt : ¬ (k : Int) ≤ (s.length : Int) := by omega
      clear h0 HR hh
      go_wp2_with fail
      go_ret2
      exact ⟨rfl, hq.out⟩
    · have hle : (k : Int) ≤ (s.length : Int) := by omega
      have hf : s.length + 1 - k = (s.length - k) + 1 := by omega
      have hf2 : s.length + 1 - (k + 1) = s.length - k := by omega
      rw [hf] at HR
      have HR := HR.out
      rw [wordGo_succ] at HR
      by_cases hc : k < s.length ∧ s[k]? ≠ some 32
      · rw [if_pos hc] at HR
        have hlt : (k : Int) < (s.length : Int) := by omega
        have hix := index_str Try.underlying9 s k hc.1 (P := Try.prog)
        have hne : ((s[k].toNat : Int) != 32) = true := by
          rw [bne_iff_ne]
          intro hx
          refine hc.2 ?_
          rw [List.getElem?_eq_getElem hc.1]
          have : s[k].toNat = (32 : UInt8).toNat := by
            have : (32 : UInt8).toNat = 32 := rfl
            omega
          rw [UInt8.toNat_inj.1 this]
        obtain ⟨c, hcc⟩ : ∃ c : Int, c = (s[k].toNat : Int) := ⟨_, rfl⟩
        rw [← hcc] at hix hne
        have HH : Hid (∀ a, h = some a → a ≤ k + 1 ∧ a ≤ s.length) := fun a ha => ⟨by have := (hh a ha).1; omega, (hh a ha).2⟩
        have HR2 : Hid (r = wordGo s (s.length + 1 - (k + 1)) (k + 1) h fr n) := by rw [hf2]; exact HR
        clear hcc hc HR hf hf2 hh
        go_wp2_with fail
        go_roundw
        case rel => exact ⟨k + 1, fr, h, n, by omega, by omega, HH.out, hn0, hn1, rfl, rfl, rfl, by rw [Int.natCast_add]; rfl, HR2, hq⟩
        case measure => simp [intOf]; omega
      · rw [if_neg hc] at HR
        have hd32 : k = s.length ∨ (k < s.length ∧ s[k]? = some 32) := by
          rcases Nat.lt_or_ge k s.length with h1 | h1
          · exact .inr ⟨h1, Classical.not_not.1 fun h2 => hc ⟨h1, h2⟩⟩
          · exact .inl (by omega)
        clear hc
        cases h with
        | none =>
          have HR2 : Hid (r = wordGo s (s.length + 1 - (k + 1)) (k + 1) (some k) (k + 1) n) := by rw [hf2]; exact HR
          clear HR hf hf2 hh
          rw [show headI none = -1 from rfl]
          rcases hd32 with hd | ⟨hd, hd2⟩
          · have hlt : ¬ (k : Int) < (s.length : Int) := by omega
            have HK : Hid (k ≤ s.length) := by rw [hd]; exact Nat.le_refl _
            clear hd
            go_wp2_with fail
            go_roundw
            case rel => exact ⟨k + 1, k + 1, some k, n, by omega, by omega, fun a ha => by injection ha with ha; omega, hn0, hn1, rfl, rfl, by rw [Int.natCast_add]; rfl, by rw [Int.natCast_add]; rfl, HR2, hq⟩
            case measure => simp [intOf]; omega
          · have hlt : (k : Int) < (s.length : Int) := by omega
            have hix := index_str Try.underlying9 s k hd (P := Try.prog)
            rw [List.getElem?_eq_getElem hd] at hd2
            rw [Option.some.inj hd2] at hix
            rw [show ((32 : UInt8).toNat : Int) = 32 from rfl] at hix
            clear hd2
            go_wp2_with fail
            go_roundw
            case rel => exact ⟨k + 1, k + 1, some k, n, by omega, by omega, fun a ha => by injection ha with ha; omega, hn0, hn1, rfl, rfl, by rw [Int.natCast_add]; rfl, by rw [Int.natCast_add]; rfl, HR2, hq⟩
            case measure => simp [intOf]; omega
        | some a =>
          have hh := hh a rfl
          rw [show headI (some a) = (a : Int) from rfl]
          have ha0 : ¬ (a : Int) < 0 := by omega
          by_cases hz : n = 0
          · subst hz
            have HR2 : Hid (r = (s.take a ++ (s.drop fr).take (k - fr), true)) := HR
            have hkl : k ≤ s.length := by omega
            have hs1 := str_slice_h Try.underlying9 s .i64 (a : Int) a rfl hh.2 (P := Try.prog)
            have hs2 := str_slice_lh Try.underlying9 s .i64 .i64 (fr : Int) (k : Int) fr k rfl rfl hfr hkl (P := Try.prog)
            obtain ⟨x1, hx1⟩ : ∃ x1, x1 = s.take a := ⟨_, rfl⟩
            obtain ⟨x2, hx2⟩ : ∃ x2, x2 = (s.drop fr).take (k - fr) := ⟨_, rfl⟩
            have hsz1 : ¬ 9223372036854775807 < (str x1).size + (str x2).size := by
              rw [str_size, str_size, hx1, hx2, List.length_take, List.length_take]
              omega
            rw [← hx1, ← hx2] at HR2
            rw [← hx1] at hs1
            rw [← hx2] at hs2
            clear HR hf hf2 hx1 hx2
            rcases hd32 with hd | ⟨hd, hd2⟩
            · have hlt : ¬ (k : Int) < (s.length : Int) := by omega
              clear hd
              go_wp2_with fail
              go_quiet (fail)
              go_wp2_with fail
              go_ret2
              exact ⟨by rw [HR2.out, str_append]; rfl, by obtain ⟨m, hm⟩ := hq.out; rw [hm]; exact quiet_ex⟩
            · have hlt : (k : Int) < (s.length : Int) := by omega
              have hix := index_str Try.underlying9 s k hd (P := Try.prog)
              rw [List.getElem?_eq_getElem hd] at hd2
              rw [Option.some.inj hd2] at hix
              rw [show ((32 : UInt8).toNat : Int) = 32 from rfl] at hix
              clear hd2
              go_wp2_with fail
              go_quiet (fail)
              go_wp2_with fail
              go_ret2
              exact ⟨by rw [HR2.out, str_append]; rfl, by obtain ⟨m, hm⟩ := hq.out; rw [hm]; exact quiet_ex⟩
          · rw [show (match (some a : Option Nat) with | none => wordGo s (s.length - k) (k + 1) (some k) (k + 1) n | some hd => if n = 0 then (s.take hd ++ (s.drop fr).take (k - fr), true) else wordGo s (s.length - k) (k + 1) (some hd) (k + 1) (n - 1)) = wordGo s (s.length - k) (k + 1) (some a) (k + 1) (n - 1) from if_neg hz] at HR
            have HR2 : Hid (r = wordGo s (s.length + 1 - (k + 1)) (k + 1) (some a) (k + 1) (n - 1)) := by rw [hf2]; exact HR
            have hw2 := IntWalk.i64_in (n - 1) (by omega)
            have hnz : ¬ n = 0 := hz
            clear HR hf hf2 hz
            rcases hd32 with hd | ⟨hd, hd2⟩
            · have hlt : ¬ (k : Int) < (s.length : Int) := by omega
              clear hd
              go_wp2_with fail
              go_roundw
              case rel => exact ⟨k + 1, k + 1, some a, n - 1, by omega, by omega, by simp; omega, by omega, by omega, rfl, rfl, by rw [Int.natCast_add]; rfl, by rw [Int.natCast_add]; rfl, HR2, hq⟩
              case measure => simp [intOf]; omega
            · have hlt : (k : Int) < (s.length : Int) := by omega
              have hix := index_str Try.underlying9 s k hd (P := Try.prog)
              rw [List.getElem?_eq_getElem hd] at hd2
              rw [Option.some.inj hd2] at hix
              rw [show ((32 : UInt8).toNat : Int) = 32 from rfl] at hix
              clear hd2
              go_wp2_with fail
              go_roundw
              case rel => exact ⟨k + 1, k + 1, some a, n - 1, by omega, by omega, by simp; omega, by omega, by omega, rfl, rfl, by rw [Int.natCast_add]; rfl, by rw [Int.natCast_add]; rfl, HR2, hq⟩
              case measure => simp [intOf]; omega
end Go.Proofs.Ytfemeendkjcffaa
