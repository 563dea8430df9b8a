/-
  consts: Right, and the reference's.
-/
import Derived.Test.YtpebdfgfikjkeaaInD
set_option linter.unusedVariables false
set_option linter.unusedSimpArgs false
namespace Go.Proofs.Ytpebdfgfikjkeaa
open Go.RowKit

def crtF (op a b n : Nat) : Nat := if rgtF op a b n = 0 then (if op = 35 ∨ op = 65 ∨ op = 66 then 0 else 12) else rgtF op a b n

set_option maxRecDepth 100000 in
set_option maxHeartbeats 1600000 in
theorem cright_walk (w : World) (op a b n c : Nat) (A : Option Addr) (h : op < 256) :
    Calls Try.prog 85 #[insV op a b A n c] w fun e w' => e = .returned (.int .i64 (crtF op a b n : Nat)) ∧ Step (fun _ => False) w w' := by
  have HR : Hid (∀ w, Calls Try.prog 46 #[insV op a b A n c] w fun e w' => e = .returned (.int .i64 (rgtF op a b n : Nat)) ∧ Step (fun _ => False) w w') := fun w => right_walk w op a b n c A h
  rw [crtF]
  simp only [insV] at HR ⊢
  obtain ⟨r, hr⟩ : ∃ r, r = rgtF op a b n := ⟨_, rfl⟩
  rw [← hr] at HR ⊢
  clear hr
  by_cases hz : r = 0
  · rw [if_pos hz]
    subst hz
    by_cases h3 : op = 35 ∨ op = 65 ∨ op = 66
    · rw [if_pos h3]
      rcases h3 with rfl | rfl | rfl <;>
      · go_enter Try.func85, Try.ntmps85
        go_wp2_with fail
        refine (HR.out _).mono ?_
        rintro e w5 ⟨rfl, hS5⟩
        have HB5 := (Blk.new w 40 #[.int .u8 _, .int .u64 (a : Int), .int .u64 (b : Int), .slice A n c]).step hS5 id
        have HS5 := Lib.hid ((Step.refl.alloc _).trans hS5)
        clear hS5
        obtain ⟨X, hX⟩ : ∃ X, X = w.heap.size := ⟨_, rfl⟩
        rw [← hX] at HB5 ⊢
        clear hX
        have x0 := HB5.cell 0
        simp at x0
        clear HB5
        go_wp2_with fail
        go_ret
        exact ⟨rfl, HS5.out⟩
    · rw [if_neg h3]
      have q1 : ((op : Int) != 35) = true := bne_iff_ne.2 (by omega)
      have q2 : ((op : Int) != 65) = true := bne_iff_ne.2 (by omega)
      have q3 : ((op : Int) != 66) = true := bne_iff_ne.2 (by omega)
      go_enter Try.func85, Try.ntmps85
      go_wp2_with fail
      refine (HR.out _).mono ?_
      rintro e w5 ⟨rfl, hS5⟩
      have HB5 := (Blk.new w 40 #[.int .u8 (op : Int), .int .u64 (a : Int), .int .u64 (b : Int), .slice A n c]).step hS5 id
      have HS5 := Lib.hid ((Step.refl.alloc _).trans hS5)
      clear hS5
      obtain ⟨X, hX⟩ : ∃ X, X = w.heap.size := ⟨_, rfl⟩
      rw [← hX] at HB5 ⊢
      clear hX
      have x0 := HB5.cell 0
      simp at x0
      clear HB5
      go_wp2_with fail
      go_ret
      exact ⟨rfl, HS5.out⟩
  · rw [if_neg hz]
    have hne : ((r : Int) != 0) = true := bne_iff_ne.2 (by omega)
    go_enter Try.func85, Try.ntmps85
    go_wp2_with fail
    refine (HR.out _).mono ?_
    rintro e w5 ⟨rfl, hS5⟩
    have HS5 := Lib.hid ((Step.refl.alloc _).trans hS5)
    clear hS5
    go_wp2_with fail
    go_ret
    exact ⟨rfl, HS5.out⟩

end Go.Proofs.Ytpebdfgfikjkeaa
