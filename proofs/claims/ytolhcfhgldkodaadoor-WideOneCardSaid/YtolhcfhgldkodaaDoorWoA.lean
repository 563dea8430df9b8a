/-
  creelref19: truth, Bits (WideOne's seat).
-/
import Derived.Test.YtolhcfhgldkodaaDoorRows
import Derived.Test.YtolhcfhgldkodaaDoorMem
import Derived.Test.YtolhcfhgldkodaaDoorWoP
set_option linter.unusedVariables false
set_option linter.unusedSimpArgs false
namespace Go.Proofs.YtolhcfhgldkodaaDoor
open Go.RowKit Wide

theorem E_bool : ElemTy Tryd.prog 33 4 1 1 := elem_of Tryd.underlying33 (z := .bool false) (by kernel_rfl) rfl (by decide)

def bools (l : List Bool) : List Value := l.map Value.bool
theorem bools_append (l m : List Bool) : bools (l ++ m) = bools l ++ bools m := by simp [bools]
theorem one_bool (b : Bool) : ∀ u ∈ #[Value.bool b].toList, u.oneCell' = true := by
  intro u hu
  simp at hu
  subst hu
  rfl
theorem bools_at {w : World} {S : Nat → Prop} {A : Option Addr} {n v k : Nat} (h : Reads w S 1 A n (bools (bs n v))) (hk : k < n) : ∃ ad, A = some ad ∧ S ad.block ∧ ad.block < w.heap.size ∧ w.cell? (ad.add k) = some (.bool (v.testBit k)) := by
  obtain ⟨ad, u, e, h1, h2, hu, hc⟩ := h.at_ hk
  rw [bools, List.getElem?_map, bs_get n v k hk] at hu
  exact ⟨ad, e, h1, h2, by rw [hc, ← Option.some.inj hu]⟩

/-- A row of the call's own with the bits of v. -/
def BRet (w : World) (v : Nat) (e : Ending) (w' : World) : Prop :=
  ∃ A c, e = .returned (.slice A 64 c) ∧ w'.ownsRow w.heap.size 4 1 (.slice A 64 c) 64 (bools (bs 64 v)) ∧ Step (fun _ => False) w w'

theorem truth19 (w : World) (b : Bool) : Calls Tryd.prog 13 #[.bool b] w fun e w' => e = .returned (.int .u64 (b.toNat : Int)) ∧ w = w' := by
  cases b
  all_goals
    go_enter Tryd.func13, Tryd.ntmps13
    go_wp2
    go_ret
    exact ⟨rfl, rfl⟩

theorem mod2_bit {x v k : Nat} (h : x = v / 2 ^ k) : ((x : Int) % 2 == 1) = v.testBit k := by
  rw [bit_div, ← h, Bool.eq_iff_iff]
  simp
  omega

theorem grow_bit {w : World} {B : Nat} {v : Value} {k x : Nat} {b : Bool} (h : w.ownsRow B 4 1 v (k + 1) (bools (bs k x) ++ #[Value.bool b].toList)) (hb : b = x.testBit k) : w.ownsRow B 4 1 v (k + 1) (bools (bs (k + 1) x)) := by
  subst hb
  rw [bs_succ, bools_append]
  exact h

set_option maxRecDepth 100000 in
set_option maxHeartbeats 800000 in
theorem bits_any (w : World) (v : Nat) (hv : v < 18446744073709551616) : Calls Tryd.prog 12 #[.int .u64 (v : Int)] w (BRet w v) := by
  have h0 : w.ownsRow w.heap.size 4 1 (.slice none 0 0) 0 (bools (bs 0 v)) := World.ownsRow_nil _ _ _ _
  go_enter Tryd.func12, Tryd.ntmps12
  go_wp2_with fail
  go_loopw [0, 3, 4] (fun x o i wr => ∃ (k c y : Nat) (D : Option Addr), k ≤ 64 ∧ x = .int .u64 (y : Int) ∧ o = .slice D k c ∧ i = .int .i64 (k : Int) ∧ y < 18446744073709551616 ∧ Hid (y = v / 2 ^ k) ∧
      Hid (wr.ownsRow w.heap.size 4 1 (.slice D k c) k (bools (bs k v))) ∧ Hid (Step (fun _ => False) w wr)) (fun _ _ i _ => 64 - (intOf i).toNat)
  case atStart => exact ⟨0, 0, v, none, by omega, rfl, rfl, rfl, hv, by simp [Hid], h0, Step.refl⟩
  case round =>
    obtain ⟨k, c, y, D, hk, rfl, rfl, rfl, hy, HY, HO, HS⟩ := hrel
    clear h0
    by_cases hlt : k < 64
    · have hlt' : (k : Int) < 64 := by omega
      have hm : k + 1 ≤ maxLen := by unfold maxLen; omega
      have hsz := HS.out.size
      go_wp2_with (at_builtin; refine wpList_append_src _ rfl _ _ (by rfl) E_bool (by rfl) (HO.out.alloc _) (by rfl) (reads_new _ _ _ 1 1 rfl) (one_bool _) hm (by omega) (by simp; omega) ?_; intro D' c' w1 hown1 hgrow hat)
      go_roundw
      case rel => exact ⟨k + 1, c', y / 2, D', by omega, by go_num, rfl, by go_num, by omega, by unfold Hid; rw [HY.out, div_succ], grow_bit hown1 (mod2_bit HY.out), grow_step (HS.out.alloc _) hgrow (HO.out.alloc _) (Nat.le_refl _)⟩
      case measure => simp [intOf]; omega
    · obtain rfl : k = 64 := by omega
      go_wp2_with fail
      go_ret
      exact ⟨D, c, rfl, HO.out, HS.out⟩

end Go.Proofs.YtolhcfhgldkodaaDoor
