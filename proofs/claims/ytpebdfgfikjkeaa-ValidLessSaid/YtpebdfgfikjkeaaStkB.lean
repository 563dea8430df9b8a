/-
  opstack.Stack: Pop, Want, WantAll, Cut, Clone.
-/
import Derived.Test.YtpebdfgfikjkeaaStk
set_option linter.unusedVariables false
set_option linter.unusedSimpArgs false
namespace Go.Proofs.Ytpebdfgfikjkeaa
open Go.RowKit

def PopTo (w : World) (B g : Nat) (D : Option Addr) (r : List UInt8 × Int × Int) (e : Ending) (w' : World) : Prop :=
  e = .returned (.tuple #[.int .u8 r.2.1, .int .i64 r.2.2]) ∧ StkTo w B g D r.1 w'

set_option maxRecDepth 100000 in
set_option maxHeartbeats 800000 in
theorem stk_pop (w : World) (B g : Nat) (D : Option Addr) (c : Nat) (l : List UInt8) (floor : Int) (free : Bool) (h : StkAt w B g D c l) (hn : l.length ≤ 1000000) :
    Calls Try.prog 90 #[.pointer (some ⟨g, 0, none⟩), .int .i64 floor, .bool free] w (PopTo w B g D (popF l floor free)) := by
  have ho := h.own
  have hb := h.blk
  have c0 := hb.cell 0
  have f0 := hb.frozen 0
  simp at c0
  by_cases hle : (l.length : Int) ≤ max floor 0
  · have HP : Hid (popF l floor free = (l, 0, if free then 0 else 21)) := by unfold Hid popF; rw [if_pos hle]
    have HS : Hid (StkTo w B g D l w) := StkTo.same h
    rcases Int.lt_or_le floor 0 with hf | hf
    · have hl0 : l = [] := List.eq_nil_of_length_eq_zero (by omega)
      subst hl0
      cases free
      all_goals
        go_enter Try.func90, Try.ntmps90
        go_wp2
        go_ret2
        rw [PopTo, HP.out]
        exact ⟨rfl, HS.out⟩
    have hle' : (l.length : Int) ≤ floor := by omega
    have hf' : ¬ floor < 0 := by omega
    cases free
    all_goals
      go_enter Try.func90, Try.ntmps90
      go_wp2
      go_ret2
      rw [PopTo, HP.out]
      exact ⟨rfl, HS.out⟩
  · have hpos : 0 < l.length := by omega
    have HP : Hid (popF l floor free = (l.take (l.length - 1), ((l.getD (l.length - 1) 0).toNat : Int), 0)) := by unfold Hid popF; rw [if_neg hle]
    have hgt : max floor 0 < (l.length : Int) := by omega
    have hro := Reads.of_own ho
    obtain ⟨a, u, rfl, _, _, hu, hcell⟩ := hro.at_ (k := l.length - 1) (by omega)
    rw [u8s_get _ _ (by omega)] at hu
    obtain rfl := Option.some.inj hu
    have hget : l.getD (l.length - 1) 0 = l[l.length - 1] := by simp [List.getD, List.getElem?_eq_getElem (show l.length - 1 < l.length by omega)]
    rw [hget] at HP
    have i0 : (0 : Int) ≤ (l.length : Int) - 1 := by omega
    have i1 : (l.length : Int) - 1 < (l.length : Int) := by omega
    have i2 : (l.length : Int) - 1 ≤ (c : Int) := by have := own_cap ho; omega
    have hw := IntWalk.i64_in ((l.length : Int) - 1) (by omega)
    have ht : ((l.length : Int) - 1).toNat = l.length - 1 := by omega
    have sh := slice_hn E_u8 (some a) l.length c .i64 ((l.length : Int) - 1) (l.length - 1) (by omega) (by omega)
    have HT : Hid (∀ q, StkTo w B g (some a) (l.take (l.length - 1)) (((w.drewN q).setCell ⟨g, 0, none⟩ (.slice (some a) (l.length - 1) c)).drew)) := fun q => by
      refine (stk_of h (Step.refl.drewN q) (by simp) ?_ fun j hj => .inl hj).drew
      have h3 := own_take ho (k := l.length - 1) (by omega)
      rw [Nat.mul_one, ← u8s_take] at h3
      exact own_step h3 (Step.refl.drewN (F := fun _ => False) q) (fun _ _ => id)
    clear hu hro
    have hnil : l ≠ [] := by rintro rfl; simp at hpos
    have hnil' : decide (l = []) = false := by simpa using hnil
    have hfl : floor < (l.length : Int) := by omega
    have hfl' : decide ((l.length : Int) ≤ floor) = false := by simpa using hfl
    have nw := World.new_ne w _ c0
    rcases Int.lt_or_le floor 0 with hf | hf
    all_goals
      go_enter Try.func90, Try.ntmps90
      go_wp2_with fail
      go_quiet (fail)
      go_wp2_with fail
      have c1 : (w.drewN nq).cell? ⟨g, 0, none⟩ = some (.slice (some a) l.length c) := c0
      have f1 : (w.drewN nq).frozen? ⟨g, 0, none⟩ = false := f0
      have HT1 : Hid (StkTo w B g (some a) (l.take (l.length - 1)) (((w.drewN nq).setCell ⟨g, 0, none⟩ (.slice (some a) (l.length - 1) c)).drew)) := HT.out nq
      clear c0 f0 HT nw
      generalize w.drewN nq = w1 at c1 f1 HT1 ⊢
      go_still_tail 14, (by kernel_rfl)
      go_wp2
      go_ret2
      rw [PopTo, HP.out]
      exact ⟨rfl, HT1.out⟩
end Go.Proofs.Ytpebdfgfikjkeaa
