/-
  wide: OnesCount64, TrailingZeros64.
-/
import Derived.Test.YtolhcfhgldkodaaDoorWoA
import Derived.Test.YtolhcfhgldkodaaDoorWoL
import Derived.Lib.ItoaNum
import Derived.Laws.Bits128
set_option linter.unusedVariables false
set_option linter.unusedSimpArgs false
namespace Go.Proofs.YtolhcfhgldkodaaDoor
open Go.RowKit Wide
theorem wrapU (n : Nat) (h : n < 18446744073709551616) : IntKind.u64.wrap (n : Int) = (n : Int) := by
  rw [Go.IntKind.wrap_u64]; omega
theorem andU {a b c : Nat} (ha : a < 18446744073709551616) (hb : b < 18446744073709551616) (h : a &&& b = c) : bits BinOp.and IntKind.u64 (a : Int) (b : Int) = (c : Int) := by
  rw [Go.u64_and_nat a b ha hb, h]
theorem st1_lt (v : Nat) : st1 32 v < 18446744073709551616 := by
  have h1 : v / 2 &&& m0 32 ≤ m0 32 := Nat.and_le_right
  have h2 : v &&& m0 32 ≤ m0 32 := Nat.and_le_right
  rw [m0_32] at h1 h2
  rw [st1, m0_32]
  omega
theorem st2_lt (v : Nat) : st2 16 v < 9223372036854775808 := by
  have h1 : v / 4 &&& m1 16 ≤ m1 16 := Nat.and_le_right
  have h2 : v &&& m1 16 ≤ m1 16 := Nat.and_le_right
  rw [m1_16] at h1 h2
  rw [st2, m1_16]
  omega
set_option maxRecDepth 100000 in
set_option maxHeartbeats 1600000 in
theorem ones_walk (w : World) (v : Nat) (hv : v < 18446744073709551616) : Calls Tryd.prog 11 #[.int .u64 (v : Int)] w fun e w' => e = .returned (.int .i64 (sumB v 64 : Int)) ∧ w = w' := by
  obtain ⟨x, y, z, u, ex, hx, ey, hy, ez, hz, eu, hu, es⟩ := pops_last v
  obtain ⟨Y, hY⟩ : ∃ Y, Y = st1 32 v := ⟨_, rfl⟩
  obtain ⟨Z, hZ⟩ : ∃ Z, Z = st2 16 Y := ⟨_, rfl⟩
  have lY : Y < 18446744073709551616 := by rw [hY]; exact st1_lt v
  have lZ : Z < 9223372036854775808 := by rw [hZ]; exact st2_lt Y
  have f1 : IntKind.u64.wrap (bits BinOp.and IntKind.u64 ((v : Int) / 2) 6148914691236517205 + bits BinOp.and IntKind.u64 (v : Int) 6148914691236517205) = (Y : Int) := by
    have a1 := andU (a := v / 2) (b := 6148914691236517205) (by omega) (by decide) rfl
    have a2 := andU (a := v) (b := 6148914691236517205) hv (by decide) rfl
    simp only [Int.natCast_ediv, Int.cast_ofNat_Int] at a1 a2
    rw [a1, a2, ← Int.natCast_add, wrapU _ (by have := st1_lt v; rw [st1, m0_32] at this; exact this), hY, st1, m0_32]
  have f2 : IntKind.u64.wrap (bits BinOp.and IntKind.u64 ((Y : Int) / 4) 3689348814741910323 + bits BinOp.and IntKind.u64 (Y : Int) 3689348814741910323) = (Z : Int) := by
    have a1 := andU (a := Y / 4) (b := 3689348814741910323) (by omega) (by decide) rfl
    have a2 := andU (a := Y) (b := 3689348814741910323) lY (by decide) rfl
    simp only [Int.natCast_ediv, Int.cast_ofNat_Int] at a1 a2
    rw [a1, a2, ← Int.natCast_add, wrapU _ (by have := st2_lt Y; rw [st2, m1_16] at this; omega), hZ, st2, m1_16]
  have f3 : bits BinOp.and IntKind.u64 (IntKind.u64.wrap ((Z : Int) / 16 + (Z : Int))) 1085102592571150095 = (x : Int) := by
    have a1 := andU (a := Z / 16 + Z) (b := 1085102592571150095) (by omega) (by decide) rfl
    have e : (Z : Int) / 16 + (Z : Int) = ((Z / 16 + Z : Nat) : Int) := by omega
    simp only [Int.cast_ofNat_Int] at a1
    rw [e, wrapU _ (by omega), a1, ← ex, pops, st3, m2_8, all8, hZ, hY]
  have f4 : IntKind.u64.wrap ((x : Int) + (x : Int) / 256) = (y : Int) := by
    rw [show (x : Int) + (x : Int) / 256 = ((x + x / 256 : Nat) : Int) by omega, wrapU _ (by omega), ey]
  have f5 : IntKind.u64.wrap ((y : Int) + (y : Int) / 65536) = (z : Int) := by
    rw [show (y : Int) + (y : Int) / 65536 = ((y + y / 65536 : Nat) : Int) by omega, wrapU _ (by omega), ez]
  have f6 : IntKind.u64.wrap ((z : Int) + (z : Int) / 4294967296) = (u : Int) := by
    rw [show (z : Int) + (z : Int) / 4294967296 = ((z + z / 4294967296 : Nat) : Int) by omega, wrapU _ (by omega), eu]
  clear ex ey ez eu hY hZ
  obtain ⟨s, hs⟩ : ∃ s, s = sumB v 64 := ⟨_, rfl⟩
  rw [← hs] at es ⊢
  have lu : wrap64 (u : Int) = (u : Int) := by unfold wrap64; omega
  have f7 : bits BinOp.and IntKind.i64 (u : Int) 127 = (s : Int) := by
    rw [Go.i64_and127, ← es]
    rfl
  clear hs es hx hy hz hu lY lZ
  go_enter Tryd.func11, Tryd.ntmps11
  go_wp2_with fail
  go_ret
  exact ⟨rfl, rfl⟩

def deB : List Int := [0, 1, 56, 2, 57, 49, 28, 3, 61, 58, 42, 50, 38, 29, 17, 4, 62, 47, 59, 36, 45, 43, 51, 22, 53, 39, 33, 30, 24, 18, 12, 5, 63, 55, 48, 27, 60, 41, 37, 16, 46, 35, 44, 21, 52, 32, 23, 11, 54, 26, 40, 15, 34, 20, 31, 10, 25, 14, 19, 9, 13, 8, 7, 6]
theorem deB_all : ((List.range 64).all fun k => decide (deB[2 ^ k * 285870213051353865 % 18446744073709551616 / 288230376151711744]? = some (k : Int))) = true := by decide +kernel
theorem deB_at {k : Nat} (h : k < 64) : deB[2 ^ k * 285870213051353865 % 18446744073709551616 / 288230376151711744]? = some (k : Int) := of_decide_eq_true (List.all_eq_true.1 deB_all k (List.mem_range.2 h))
/-- The table of TrailingZeros64 is laid. -/
def Tab (w : World) : Prop := ∀ i, i < 64 → w.cell? ⟨0, i, none⟩ = some (.int .u8 (deB.getD i 0))
set_option maxRecDepth 100000 in
set_option maxHeartbeats 1600000 in
theorem trail_walk (w : World) (v k : Nat) (hv : v < 18446744073709551616) (hT : Hid (Tab w)) (hk : isTz v k) : Calls Tryd.prog 10 #[.int .u64 (v : Int)] w fun e w' => e = .returned (.int .i64 (k : Int)) ∧ w = w' := by
  rcases hk with ⟨h1, h2, h3⟩ | ⟨rfl, rfl⟩
  · have h0 : 0 < v := by
      apply Nat.pos_of_ne_zero
      rintro rfl
      simp at h3
    have e1 : ((v : Int) == 0) = false := by simp; omega
    have e2 : IntKind.u64.wrap (-(v : Int)) = ((18446744073709551616 - v : Nat) : Int) := by rw [Go.IntKind.wrap_u64]; omega
    have e3 : bits BinOp.and IntKind.u64 (v : Int) ((18446744073709551616 - v : Nat) : Int) = ((2 ^ k : Nat) : Int) := andU hv (by omega) (tz_and hv h2 h3)
    obtain ⟨p, hp⟩ : ∃ p, p = 2 ^ k := ⟨_, rfl⟩
    obtain ⟨q, hq⟩ : ∃ q, q = 18446744073709551616 - v := ⟨_, rfl⟩
    rw [← hp, ← hq] at e3
    rw [← hq] at e2
    obtain ⟨i, hi⟩ : ∃ i, i = p * 285870213051353865 % 18446744073709551616 / 288230376151711744 := ⟨_, rfl⟩
    have e4 : IntKind.u64.wrap ((p : Int) * 285870213051353865) / 288230376151711744 = (i : Int) := by rw [Go.IntKind.wrap_u64, hi]; simp only [Int.natCast_ediv, Int.natCast_emod, Int.natCast_mul, Int.cast_ofNat_Int]
    have li : i < 64 := by clear e4 e3 e2 hp; omega
    have c := hT.out i li
    have hd := deB_at h1
    rw [← hp, ← hi] at hd
    rw [List.getD_eq_getElem?_getD, hd] at c
    simp only [Option.getD_some] at c
    have g0 : (0 : Int) ≤ (i : Int) := by omega
    have g1 : (i : Int) < 64 := by omega
    have lk : wrap64 (k : Int) = (k : Int) := by unfold wrap64; omega
    clear hp hq hi hd hT h2 h3
    go_enter Tryd.func10, Tryd.ntmps10
    go_wp2_with fail
    go_ret
    exact ⟨rfl, rfl⟩
  · go_enter Tryd.func10, Tryd.ntmps10
    go_wp2_with fail
    go_ret
    exact ⟨rfl, rfl⟩
theorem bitLen_isLen {v : Nat} (hv : v < 18446744073709551616) : isLen v (Lib.bitLen v) := by
  by_cases h0 : v = 0
  · subst h0
    exact ⟨by decide, by decide, .inl (by decide)⟩
  · have h := Lib.bitLenAux_bounds 64 v hv h0
    exact ⟨Lib.bitLen_le v 64 (by decide) hv, h.2.2, .inr h.2.1⟩
end Go.Proofs.YtolhcfhgldkodaaDoor
