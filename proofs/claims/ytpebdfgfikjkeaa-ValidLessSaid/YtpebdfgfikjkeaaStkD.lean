/-
  opstack.Stack: Cut, Clone; the reference's Pop, Want, WantAll.
-/
import Derived.Test.YtpebdfgfikjkeaaStkC
set_option linter.unusedVariables false
set_option linter.unusedSimpArgs false
namespace Go.Proofs.Ytpebdfgfikjkeaa
open Go.RowKit

def cutF (l : List UInt8) (n : Int) : List UInt8 := if 0 ≤ n ∧ n < l.length then l.take n.toNat else l

set_option maxRecDepth 100000 in
set_option maxHeartbeats 800000 in
theorem stk_cut (w : World) (B g : Nat) (D : Option Addr) (c : Nat) (l : List UInt8) (n : Int) (h : StkAt w B g D c l) (hn : l.length ≤ 1000000) :
    Calls Try.prog 92 #[.pointer (some ⟨g, 0, none⟩), .int .i64 n] w fun e w' => e = .returned (.tuple #[]) ∧ StkTo w B g D (cutF l n) w' := by
  have ho := h.own
  have c0 := h.blk.cell 0
  have f0 := h.blk.frozen 0
  simp at c0
  by_cases h0 : n < 0
  · have HC : Hid (cutF l n = l) := by unfold Hid cutF; rw [if_neg (by omega)]
    have HS : Hid (StkTo w B g D l w) := StkTo.same h
    go_enter Try.func92, Try.ntmps92
    go_wp2
    go_end0
    rw [HC.out]
    exact ⟨rfl, HS.out⟩
  · obtain ⟨k, rfl⟩ := Int.eq_ofNat_of_zero_le (show 0 ≤ n by omega)
    by_cases hk : k < l.length
    · have HC : Hid (cutF l (k : Int) = l.take k) := by unfold Hid cutF; rw [if_pos (by omega)]; rfl
      have i1 : (k : Int) < (l.length : Int) := by omega
      have sh := slice_hn E_u8 D l.length c .i64 (k : Int) k rfl (by have := own_cap ho; omega)
      have HT : Hid (StkTo w B g D (l.take k) (w.setCell ⟨g, 0, none⟩ (.slice D k c))) := by
        refine stk_of h Step.refl (by simp; omega) ?_ fun j hj => .inl hj
        have h3 := own_take ho (k := k) (by omega)
        rwa [Nat.mul_one, ← u8s_take] at h3
      go_enter Try.func92, Try.ntmps92
      go_wp2
      go_end0
      rw [HC.out]
      exact ⟨rfl, HT.out⟩
    · have HC : Hid (cutF l (k : Int) = l) := by unfold Hid cutF; rw [if_neg (by omega)]
      have HS : Hid (StkTo w B g D l w) := StkTo.same h
      have i1 : ¬ (k : Int) < (l.length : Int) := by omega
      go_enter Try.func92, Try.ntmps92
      go_wp2
      go_end0
      rw [HC.out]
      exact ⟨rfl, HS.out⟩

/-- Clone: another one, all new. -/
def CloneTo (w : World) (l : List UInt8) (e : Ending) (w' : World) : Prop :=
  ∃ g D c, e = .returned (.pointer (some ⟨g, 0, none⟩)) ∧ w.heap.size ≤ g ∧ StkAt w' w.heap.size g D c l ∧ Step (fun _ => False) w w'

def RefTo (w : World) (r : List UInt8 × Int × Int) (e : Ending) (w' : World) : Prop :=
  e = .returned (.tuple #[.string (str r.1), .int .i64 r.2.1, .int .i64 r.2.2]) ∧ ∃ m, w' = w.drewN m

def RefAllTo (w : World) (r : List UInt8 × Int) (e : Ending) (w' : World) : Prop :=
  e = .returned (.tuple #[.string (str r.1), .int .i64 r.2]) ∧ ∃ m, w' = w.drewN m

end Go.Proofs.Ytpebdfgfikjkeaa
