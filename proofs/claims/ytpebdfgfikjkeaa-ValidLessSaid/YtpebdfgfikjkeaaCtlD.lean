/-
  The law CtrlBelow: what stands below a block stays.
-/
import Derived.Test.YtpebdfgfikjkeaaCtlC
import Derived.Test.YtpebdfgfikjkeaaStkE
set_option linter.unusedVariables false
set_option linter.unusedSimpArgs false
namespace Go.Proofs.Ytpebdfgfikjkeaa
open Go.RowKit

theorem Ctl.ptr {w : World} {I : Nat → Prop} {g gs : Nat} {l : List UInt8} {fs : List Fr} (h : Ctl w I g gs l fs) : w.cell? ⟨g, 1, none⟩ = some (.pointer (some ⟨gs, 0, none⟩)) := by
  obtain ⟨D, c, Is, h, hI⟩ := h
  have := h.blk.cell 1
  simpa using this
theorem Ctl.stk {w : World} {I : Nat → Prop} {g gs : Nat} {l : List UInt8} {fs : List Fr} (h : Ctl w I g gs l fs) : ∃ Is, Stk w Is gs l ∧ ∀ m w', StkUp w Is gs m w' → CtlUp w I g gs m fs w' := by
  obtain ⟨D, c, Is, h, hI⟩ := h
  exact ⟨Is, h.stk, fun m w' t => h.stack hI t⟩
/-- The control, all of it made since W0. -/
def CtlNew (W0 : World) (g gs : Nat) (l : List UInt8) (fs : List Fr) (w : World) : Prop := ∃ I, Ctl w I g gs l fs ∧ Upd W0 (fun _ => False) I w
theorem CtlNew.up {W0 w w' : World} {I : Nat → Prop} {g gs : Nat} {m : List UInt8} {fs' : List Fr} (hu : Upd W0 (fun _ => False) I w) (t : CtlUp w I g gs m fs' w') : CtlNew W0 g gs m fs' w' := by
  obtain ⟨I', h1, h2⟩ := t
  exact ⟨I', h1, hu.trans h2⟩
theorem popF_above (b m : List UInt8) (d : Bool) : (popF (b ++ m) b.length d).1 = b ++ m.dropLast := by
  unfold popF
  rcases m.eq_nil_or_concat with rfl | ⟨m', x, rfl⟩
  · simp
  · rw [if_neg (by simp; omega)]
    simp only [List.concat_eq_append]
    rw [List.dropLast_concat]
    simp only [List.length_append, List.length_cons, List.length_nil]
    rw [← List.append_assoc]
    exact List.take_left' (by simp)
theorem cutF_above (b m : List UInt8) : cutF (b ++ m) b.length = b := by
  unfold cutF
  split
  · simp
  · rename_i h
    have : m = [] := by
      rcases m with _ | ⟨x, m⟩
      · rfl
      · exfalso; apply h; simp; omega
    rw [this, List.append_nil]

/-- The two blocks of the law: the outermost, and the one that was opened above b. -/
def twoF (b : List UInt8) (d : Bool) : List Fr := [⟨0, [], 0, false⟩, ⟨2, [], b.length, d⟩]
theorem wantF_above (b m : List UInt8) (t : Int) (d : Bool) : (wantF (b ++ m) t b.length d).1 = b ++ m.dropLast := by rw [wantF_fst, popF_above]
theorem wantAll_nil (l : List UInt8) (h : Int) (d : Bool) : wantAllF l (([] : List UInt8)).reverse h d = (l, 0) := rfl

end Go.Proofs.Ytpebdfgfikjkeaa
