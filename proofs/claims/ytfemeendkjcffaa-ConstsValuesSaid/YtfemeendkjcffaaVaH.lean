/-
  consts: the law ConstsValues: the globals' values that it makes.
-/
import Derived.Test.YtfemeendkjcffaaVaG
set_option linter.unusedVariables false
set_option linter.unusedSimpArgs false
namespace Go.Proofs.Ytfemeendkjcffaa
open Go.RowKit

/-- The globals' values that the law makes: each one's number is its place. -/
def placed (l : List (Nat × Bool)) : List (Nat × Nat) := l.zipIdx.map fun x => (x.1.1, x.2)
theorem placed_len (l : List (Nat × Bool)) : (placed l).length = l.length := by simp [placed]
theorem placed_succ (l : List (Nat × Bool)) (k : Nat) (h : k < l.length) : placed (l.take (k + 1)) = placed (l.take k) ++ [(l[k].1, k)] := by
  rw [List.take_succ_eq_append_getElem h, placed, List.zipIdx_append, List.map_append, ← placed]
  simp
  omega

/-- What the four calls answer, whatever they are: the law's first half goes by it. -/
structure Four (op a b n c : Nat) (A : Option Addr) (l : List (Nat × Bool)) (t e : Nat) (x : Nat × Nat) (f : Nat) : Prop where
  ty : ∀ (w : World) (B : Option Addr) (cc : Nat) (S : Nat → Prop), (∀ k, S k → k < w.heap.size) → Reads w S 2 B l.length (l.flatMap gtC) → Calls Try.prog 41 #[.agg #[.int .u8 (op : Int), .int .u64 (a : Int), .int .u64 (b : Int), .slice A n c], .slice B l.length cc] w fun r w' => r = .returned (.tuple #[.int .u8 (t : Int), .int .i64 (e : Int)]) ∧ Step (fun _ => False) w w'
  rt : ∀ (w : World) (B : Option Addr) (cc : Nat) (S : Nat → Prop), (∀ k, S k → k < w.heap.size) → Reads w S 2 B l.length (l.flatMap gtC) → Calls Try.prog 43 #[.agg #[.int .u8 (op : Int), .int .u64 (a : Int), .int .u64 (b : Int), .slice A n c], .slice B l.length cc] w fun r w' => r = .returned (.tuple #[.int .i64 (t : Int), .int .i64 (e : Int)]) ∧ Step (fun _ => False) w w'
  va : ∀ (w : World) (B : Option Addr) (cc : Nat) (S : Nat → Prop), Reads w S 2 B l.length ((placed l).flatMap valC) → Calls Try.prog 42 #[.agg #[.int .u8 (op : Int), .int .u64 (a : Int), .int .u64 (b : Int), .slice A n c], .slice B l.length cc] w fun r w' => r = .returned (.tuple #[valV x, .int .i64 (f : Int)]) ∧ Step (fun _ => False) w w'
  rv : ∀ (w : World) (B : Option Addr) (cc : Nat) (S : Nat → Prop), Reads w S 2 B l.length ((placed l).flatMap valC) → Calls Try.prog 44 #[.agg #[.int .u8 (op : Int), .int .u64 (a : Int), .int .u64 (b : Int), .slice A n c], .slice B l.length cc] w fun r w' => r = .returned (.tuple #[valV x, .int .i64 (f : Int)]) ∧ Step (fun _ => False) w w'
  tb : t < 256

theorem four (op a b n c : Nat) (A : Option Addr) (l : List (Nat × Bool)) (hop : op < 256) (ha : a < 18446744073709551616) (hl : l.length ≤ 1000) (hb : ∀ g ∈ l, g.1 < 256) : ∃ t e x f, Four op a b n c A l t e x f := by
  have hpl := placed_len l
  by_cases hz : crtF op a b n = 0
  · obtain ⟨rfl, rfl, hok⟩ := crt_zero hz
    refine ⟨(ctF op a l).1, (ctF op a l).2, (cvF op a (placed l)).1, (cvF op a (placed l)).2, ?_, ?_, ?_, ?_, ?_⟩
    · intro w B cc S hS hr
      exact ctype_ok w op a c cc A B l S hok ha hl hr
    · intro w B cc S hS hr
      exact rtype_ok w op a c cc A B l S hS hl hr hok ha hb
    · intro w B cc S hr
      have := cvalue_ok w op a c cc A B (placed l) S hok ha (by omega) (by rw [hpl]; exact hr)
      rw [hpl] at this
      exact this
    · intro w B cc S hr
      have := rvalue8_ok w op a c cc A B (placed l) S hok ha (by omega) (by rw [hpl]; exact hr)
      rw [hpl] at this
      exact this
    · rw [ctF]
      split
      · decide
      split
      · decide
      split
      · rename_i g hg
        split
        · decide
        · exact hb g (List.mem_of_getElem? hg)
      · decide
  · refine ⟨0, crtF op a b n, (0, 0), crtF op a b n, ?_, ?_, ?_, ?_, by decide⟩
    · intro w B cc S hS hr
      exact ctype_err w op a b n c l.length cc A B hop hz
    · intro w B cc S hS hr
      exact rtype_err w op a b n c cc A B l S hS hl hr hop hz
    · intro w B cc S hr
      exact cvalue_err w op a b n c l.length cc A B hop hz
    · intro w B cc S hr
      exact rvalue8_err w op a b n c l.length cc A B hop hz
end Go.Proofs.Ytfemeendkjcffaa
