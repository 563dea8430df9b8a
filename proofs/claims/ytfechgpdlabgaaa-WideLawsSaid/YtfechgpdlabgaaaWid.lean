/-
  creelref19, the numbers as bits: truth, Bits, Number, add, not, less.
-/
import Derived.Test.YtfechgpdlabgaaaRows
import Derived.Test.YtfechgpdlabgaaaMem
import Derived.Test.YtfechgpdlabgaaaWidP
set_option linter.unusedVariables false
set_option linter.unusedSimpArgs false
namespace Go.Proofs.Ytfechgpdlabgaaa
open Go.RowKit Wide

theorem E_bool : ElemTy Try.prog 142 4 1 1 := elem_of Try.underlying142 (z := .bool false) (by kernel_rfl) rfl (by decide)

def bools (l : List Bool) : List Value := l.map Value.bool
theorem bools_append (l m : List Bool) : bools (l ++ m) = bools l ++ bools m := by simp [bools]
theorem one_bool (b : Bool) : ∀ u ∈ #[Value.bool b].toList, u.oneCell' = true := by
  intro u hu
  simp at hu
  subst hu
  rfl
theorem bools_at {w : World} {S : Nat → Prop} {A : Option Addr} {n v k : Nat} (h : Reads w S 1 A n (bools (bs n v))) (hk : k < n) : ∃ ad, A = some ad ∧ S ad.block ∧ ad.block < w.heap.size ∧ w.cell? (ad.add k) = some (.bool (v.testBit k)) := by
  obtain ⟨ad, u, e, h1, h2, hu, hc⟩ := h.at_ hk
  rw [bools, List.getElem?_map, bs_get n v k hk] at hu
  exact ⟨ad, e, h1, h2, by rw [hc, ← Option.some.inj hu]⟩

/-- A row of the call's own with the bits of v. -/
def BRet (w : World) (v : Nat) (e : Ending) (w' : World) : Prop :=
  ∃ A c, e = .returned (.slice A 64 c) ∧ w'.ownsRow w.heap.size 4 1 (.slice A 64 c) 64 (bools (bs 64 v)) ∧ Step (fun _ => False) w w'

theorem truth19 (w : World) (b : Bool) : Calls Try.prog 106 #[.bool b] w fun e w' => e = .returned (.int .u64 (b.toNat : Int)) ∧ w = w' := by
  cases b
  all_goals
    go_enter Try.func106, Try.ntmps106
    go_wp2
    go_ret
    exact ⟨rfl, rfl⟩

theorem mod2_bit {x v k : Nat} (h : x = v / 2 ^ k) : ((x : Int) % 2 == 1) = v.testBit k := by
  rw [bit_div, ← h, Bool.eq_iff_iff]
  simp
  omega

theorem grow_bit {w : World} {B : Nat} {v : Value} {k x : Nat} {b : Bool} (h : w.ownsRow B 4 1 v (k + 1) (bools (bs k x) ++ #[Value.bool b].toList)) (hb : b = x.testBit k) : w.ownsRow B 4 1 v (k + 1) (bools (bs (k + 1) x)) := by
  subst hb
  rw [bs_succ, bools_append]
  exact h

set_option maxRecDepth 100000 in
set_option maxHeartbeats 800000 in
theorem bits_any (w : World) (v : Nat) (hv : v < 18446744073709551616) : Calls Try.prog 77 #[.int .u64 (v : Int)] w (BRet w v) := by
  have h0 : w.ownsRow w.heap.size 4 1 (.slice none 0 0) 0 (bools (bs 0 v)) := World.ownsRow_nil _ _ _ _
  go_enter Try.func77, Try.ntmps77
  go_wp2_with fail
  go_loopw [0, 3, 4] (fun x o i wr => ∃ (k c y : Nat) (D : Option Addr), k ≤ 64 ∧ x = .int .u64 (y : Int) ∧ o = .slice D k c ∧ i = .int .i64 (k : Int) ∧ y < 18446744073709551616 ∧ Hid (y = v / 2 ^ k) ∧
      Hid (wr.ownsRow w.heap.size 4 1 (.slice D k c) k (bools (bs k v))) ∧ Hid (Step (fun _ => False) w wr)) (fun _ _ i _ => 64 - (intOf i).toNat)
  case atStart => exact ⟨0, 0, v, none, by omega, rfl, rfl, rfl, hv, by simp [Hid], h0, Step.refl⟩
  case round =>
    obtain ⟨k, c, y, D, hk, rfl, rfl, rfl, hy, HY, HO, HS⟩ := hrel
    clear h0
    by_cases hlt : k < 64
    · have hlt' : (k : Int) < 64 := by omega
      have hm : k + 1 ≤ maxLen := by unfold maxLen; omega
      have hsz := HS.out.size
      go_wp2_with (at_builtin; refine wpList_append_src _ rfl _ _ (by rfl) E_bool (by rfl) (HO.out.alloc _) (by rfl) (reads_new _ _ _ 1 1 rfl) (one_bool _) hm (by omega) (by simp; omega) ?_; intro D' c' w1 hown1 hgrow hat)
      go_roundw
      case rel => exact ⟨k + 1, c', y / 2, D', by omega, by go_num, rfl, by go_num, by omega, by unfold Hid; rw [HY.out, div_succ], grow_bit hown1 (mod2_bit HY.out), grow_step (HS.out.alloc _) hgrow (HO.out.alloc _) (Nat.le_refl _)⟩
      case measure => simp [intOf]; omega
    · obtain rfl : k = 64 := by omega
      go_wp2_with fail
      go_ret
      exact ⟨D, c, rfl, HO.out, HS.out⟩

set_option maxRecDepth 100000 in
set_option maxHeartbeats 800000 in
theorem number_any (w : World) (S : Nat → Prop) (A : Option Addr) (c v : Nat) (hr : Reads w S 1 A 64 (bools (bs 64 v))) :
    Calls Try.prog 78 #[.slice A 64 c] w fun e w' => e = .returned (.int .u64 ((v % 2 ^ 64 : Nat) : Int)) ∧ w = w' := by
  obtain ⟨x, hx⟩ : ∃ x, x = v % 2 ^ 64 := ⟨_, rfl⟩
  rw [← bs_mod, ← hx] at hr
  rw [← hx]
  have hxl : x < 18446744073709551616 := by rw [hx]; exact Nat.mod_lt _ (by decide)
  clear hx
  go_enter Try.func78, Try.ntmps78
  go_wp2_with fail
  go_loop [3, 4] (fun o i => ∃ (k y : Nat), k ≤ 64 ∧ o = .int .u64 (y : Int) ∧ i = .int .i64 ((k : Int) - 1) ∧ y < 18446744073709551616 ∧ Hid (y = x / 2 ^ k)) (fun _ i => (intOf i + 1).toNat)
  case atStart => exact ⟨64, 0, by omega, rfl, rfl, by omega, by unfold Hid; rw [Nat.div_eq_of_lt hxl]⟩
  case round =>
    obtain ⟨k, y, hk, rfl, hi, hy, HY⟩ := hrel
    rcases k with _ | j
    · obtain rfl : u4 = .int .i64 (-1) := by rw [hi]; rfl
      clear hi
      go_wp2_with fail
      go_ret
      exact ⟨by rw [HY.out]; simp, rfl⟩
    · obtain rfl : u4 = .int .i64 (j : Int) := by rw [hi]; congr 1; omega
      obtain ⟨ad, rfl, _, _, hc⟩ := bools_at hr (k := j) (by omega)
      have i0 : (0 : Int) ≤ (j : Int) := by omega
      have i1 : (j : Int) < 64 := by omega
      have hwj := IntWalk.i64_in ((j : Int) - 1) (by omega)
      have hst := div_step x j
      rw [← HY.out] at hst
      have hle : x / 2 ^ j < 18446744073709551616 := Nat.lt_of_le_of_lt (Nat.div_le_self _ _) hxl
      rw [hst] at hle
      cases hb : x.testBit j
      · rw [hb] at hc hst hle
        have HST := Lib.hid hst
        simp at hle
        have hle' : (y : Int) * 2 < 18446744073709551616 := by omega
        clear hi hst hb
        go_wp2_with fail
        go_round
        case rel => exact ⟨j, y * 2, by omega, by go_num, rfl, hle, by unfold Hid; rw [HST.out]; simp⟩
        case measure => simp [intOf]
      · rw [hb] at hc hst hle
        have HST := Lib.hid hst
        simp at hle
        have hle' : (y : Int) * 2 + 1 < 18446744073709551616 := by omega
        clear hi hst hb
        go_wp2_with fail
        go_round
        case rel => exact ⟨j, y * 2 + 1, by omega, by go_num, rfl, hle, by unfold Hid; rw [HST.out]; simp⟩
        case measure => simp [intOf]

set_option maxRecDepth 100000 in
set_option maxHeartbeats 800000 in
theorem not_any (w : World) (S : Nat → Prop) (A : Option Addr) (c v : Nat) (hr : Reads w S 1 A 64 (bools (bs 64 v))) (hv : v < 2 ^ 64) : Calls Try.prog 80 #[.slice A 64 c] w (BRet w (2 ^ 64 - 1 - v)) := by
  obtain ⟨u, hu⟩ : ∃ u, u = 2 ^ 64 - 1 - v := ⟨_, rfl⟩
  have hbit : Hid (∀ k, k < 64 → (!v.testBit k) = u.testBit k) := fun k hk => by rw [hu, not_bit hv hk]
  rw [← hu]
  clear hu hv
  have h0 : w.ownsRow w.heap.size 4 1 (.slice none 0 0) 0 (bools (bs 0 u)) := World.ownsRow_nil _ _ _ _
  go_enter Try.func80, Try.ntmps80
  go_wp2_with fail
  go_loopw [3, 4] (fun o i wr => ∃ (k c2 : Nat) (D : Option Addr), k ≤ 64 ∧ o = .slice D k c2 ∧ i = .int .i64 (k : Int) ∧
      Hid (wr.ownsRow w.heap.size 4 1 (.slice D k c2) k (bools (bs k u))) ∧ Hid (Step (fun _ => False) w wr)) (fun _ i _ => 64 - (intOf i).toNat)
  case atStart => exact ⟨0, 0, none, by omega, rfl, rfl, h0, Step.refl⟩
  case round =>
    obtain ⟨k, c2, D, hk, rfl, rfl, HO, HS⟩ := hrel
    clear h0
    by_cases hlt : k < 64
    · obtain ⟨ad, rfl, _, hlw, hc⟩ := bools_at hr hlt
      have hc' := (HS.out.cell (p := ad.add k) (by rw [add_block]; exact hlw) id).trans hc
      have hlt' : (k : Int) < 64 := by omega
      have i0 : (0 : Int) ≤ (k : Int) := by omega
      have hm : k + 1 ≤ maxLen := by unfold maxLen; omega
      have hsz := HS.out.size
      have HB : Hid ((!v.testBit k) = u.testBit k) := hbit.out k hlt
      clear hc hr
      go_wp2_with (at_builtin; refine wpList_append_src _ rfl _ _ (by rfl) E_bool (by rfl) (HO.out.alloc _) (by rfl) (reads_new _ _ _ 1 1 rfl) (one_bool _) hm (by omega) (by simp; omega) ?_; intro D' c' w1 hown1 hgrow hat)
      go_roundw
      case rel => exact ⟨k + 1, c', D', by omega, rfl, by go_num, grow_bit hown1 HB.out, grow_step (HS.out.alloc _) hgrow (HO.out.alloc _) (Nat.le_refl _)⟩
      case measure => simp [intOf]; omega
    · obtain rfl : k = 64 := by omega
      go_wp2_with fail
      go_ret
      exact ⟨D, c2, rfl, HO.out, HS.out⟩
end Go.Proofs.Ytfechgpdlabgaaa
