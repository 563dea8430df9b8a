/-
  instr: the law InstrBodies, joined.
-/
import Derived.Test.YtfemeendkjcffaaInsH
import Derived.Test.YtfemeendkjcffaaInsJ
set_option linter.unusedVariables false
set_option linter.unusedSimpArgs false
namespace Go.Proofs.Ytfemeendkjcffaa
open Go.RowKit

set_option maxRecDepth 100000 in
set_option maxHeartbeats 1600000 in
theorem ibods_big1 (w : World) (n c m cm : Nat) (A B : Option Addr) (h : (60 : Int) < n) :
    Calls Try.prog 10 #[.slice A n c, .slice B m cm] w fun e w' => e = .returned (.bool true) ∧ Step (fun _ => False) w w' := by
  have h' : decide ((60 : Int) < (n : Int)) = true := decide_eq_true h
  go_enter Try.func10, Try.ntmps10
  go_wp2_with fail
  refine (awake07 _).mono ?_
  rintro e w5 ⟨rfl, hS5⟩
  go_wp2_with fail
  go_ret
  exact ⟨rfl, hS5⟩
set_option maxRecDepth 100000 in
set_option maxHeartbeats 1600000 in
theorem ibods_big2 (w : World) (n c m cm : Nat) (A B : Option Addr) (h : ¬ (60 : Int) < n) (h2 : (60 : Int) < m) :
    Calls Try.prog 10 #[.slice A n c, .slice B m cm] w fun e w' => e = .returned (.bool true) ∧ Step (fun _ => False) w w' := by
  have h' : decide ((60 : Int) < (n : Int)) = false := decide_eq_false h
  have h2' : decide ((60 : Int) < (m : Int)) = true := decide_eq_true h2
  go_enter Try.func10, Try.ntmps10
  go_wp2_with fail
  refine (awake07 _).mono ?_
  rintro e w5 ⟨rfl, hS5⟩
  go_wp2_with fail
  go_ret
  exact ⟨rfl, hS5⟩

theorem ibods_done (W : World) (n c m cm : Nat) (A B : Option Addr) (l : List Ig) (ms : List UInt8) (S : Nat → Prop) (hn : l.length = n) (hm : ms.length = m) (hwf : ∀ x ∈ l, x.wf) (hin : ∀ x ∈ l, x.L.length = x.n ∧ (∀ y ∈ x.L, y < 4294967296) ∧ Reads W S 1 x.A x.n (u32s x.L)) (hr : Reads W S 4 A n (igs l)) (hb : Reads W S 1 B m (u8s ms)) :
    Calls Try.prog 10 #[.slice A n c, .slice B m cm] W fun e W' => e = .returned (.bool true) ∧ Below W.heap.size W W' := by
  have key : Calls Try.prog 10 #[.slice A n c, .slice B m cm] W fun e W' => e = .returned (.bool true) ∧ Step (fun _ => False) W W' := by
    by_cases g1 : n ≤ 60
    · by_cases g2 : m ≤ 60
      · subst hm
        exact ibods_ok W n c cm A B l ms S hn.symm g1 g2 hwf hin hr hb
      · exact ibods_big2 W n c m cm A B (by omega) (by omega)
    · exact ibods_big1 W n c m cm A B (by omega)
  exact key.mono fun _ _ hh => ⟨hh.1, hh.2.below W.heap.size (fun _ _ hf => hf.elim) (Nat.le_refl _)⟩
end Go.Proofs.Ytfemeendkjcffaa
