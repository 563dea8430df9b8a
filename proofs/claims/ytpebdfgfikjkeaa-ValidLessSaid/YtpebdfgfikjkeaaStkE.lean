/-
  OpstackBack: the law's walk.
-/
import Derived.Test.YtpebdfgfikjkeaaStkD
set_option linter.unusedVariables false
set_option linter.unusedSimpArgs false
namespace Go.Proofs.Ytpebdfgfikjkeaa
open Go.RowKit

/-! ### The plain law -/
theorem wantF_last (l : List UInt8) (x : UInt8) (floor : Int) (free : Bool) (h : floor ≤ l.length) : ∃ g : Int, wantF (l ++ [x]) (x.toNat : Int) floor free = (l, g, 0) := by
  have hp : popF (l ++ [x]) floor free = (l, (x.toNat : Int), 0) := by
    unfold popF
    rw [if_neg (by simp; omega)]
    simp
  unfold wantF
  rw [hp]
  by_cases hx : (x.toNat : Int) = 0
  · exact ⟨(x.toNat : Int), by simp [hx]⟩
  · exact ⟨(x.toNat : Int), by simp [hx]⟩
theorem wantAllF_back (l : List UInt8) (floor : Int) (free : Bool) (h : floor ≤ l.length) : ∀ r : List UInt8, wantAllF (l ++ r.reverse) r floor free = (l, 0)
  | [] => by simp [wantAllF]
  | x :: r => by
    obtain ⟨g, hg⟩ := wantF_last (l ++ r.reverse) x floor free (by simp; omega)
    have : l ++ (x :: r).reverse = (l ++ r.reverse) ++ [x] := by simp
    rw [this, wantAllF, hg]
    simp only [ne_eq, not_true_eq_false, if_false]
    exact wantAllF_back l floor free h r
theorem wantAllF_free (l : List UInt8) : ∀ r : List UInt8, wantAllF l r (l.length : Int) true = (l, 0)
  | [] => rfl
  | x :: r => by
    have hp : popF l (l.length : Int) true = (l, 0, 0) := by unfold popF; rw [if_pos (by omega)]; rfl
    rw [wantAllF]
    have hw : wantF l (x.toNat : Int) (l.length : Int) true = (l, (x.toNat : Int), 0) := by unfold wantF; rw [hp]; simp
    rw [hw]
    simp only [ne_eq, not_true_eq_false, if_false]
    exact wantAllF_free l r
theorem wantAllF_bound (l : List UInt8) (x : UInt8) (r : List UInt8) : wantAllF l (x :: r) (l.length : Int) false = (l, 21) := by
  have hp : popF l (l.length : Int) false = (l, 0, 21) := by unfold popF; rw [if_pos (by omega)]; rfl
  rw [wantAllF]
  have hw : wantF l (x.toNat : Int) (l.length : Int) false = (l, 0, 21) := by unfold wantF; rw [hp]; simp
  rw [hw]
  simp

/-! ### The walk -/
theorem stk_b {w w' : World} {B g : Nat} {D : Option Addr} {c : Nat} {l m : List UInt8} (h : StkAt w B g D c l) (hg : B ≤ g) (t : StkTo w B g D m w') : ∃ D' c', StkAt w' B g D' c' m ∧ Below B w w' := by
  obtain ⟨D', c', h', s, _⟩ := t
  refine ⟨D', c', h', s.below B (fun k _ hk => ?_) h.base⟩
  rcases hk with rfl | hk
  · exact hg
  · exact own_ge h.own k (by rw [ownBlock_slice]; exact hk)

end Go.Proofs.Ytpebdfgfikjkeaa
