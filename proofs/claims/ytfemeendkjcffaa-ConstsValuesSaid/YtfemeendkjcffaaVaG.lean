/-
  consts: the reference's Type, joined.
-/
import Derived.Test.YtfemeendkjcffaaVaF
set_option linter.unusedVariables false
set_option linter.unusedSimpArgs false
namespace Go.Proofs.Ytfemeendkjcffaa
open Go.RowKit

theorem tvals_at (l : List (Nat × Bool)) (a : Nat) : (tvals l)[a]? = (l[a]?).map fun g => (g.1, 0) := by simp [tvals]

theorem rtype_err (w : World) (op a b n c cc : Nat) (A B : Option Addr) (l : List (Nat × Bool)) (S : Nat → Prop) (hS : ∀ k, S k → k < w.heap.size) (hl : l.length ≤ 1000) (hr : Reads w S 2 B l.length (l.flatMap gtC)) (hop : op < 256) (h : ¬ crtF op a b n = 0) :
    Calls Try.prog 43 #[insV op a b A n c, .slice B l.length cc] w fun e w' => e = .returned (.tuple #[.int .i64 0, .int .i64 (crtF op a b n : Nat)]) ∧ Step (fun _ => False) w w' :=
  rtype_gen w op a b n c cc A B l S hS hl hr 0 0 (crtF op a b n : Nat) (by decide) (fun w S' B' c' _ => rvalue8_err w op a b n c l.length c' A B' hop h) (.inl (by omega))

theorem rtype_ok (w : World) (op a c cc : Nat) (A B : Option Addr) (l : List (Nat × Bool)) (S : Nat → Prop) (hS : ∀ k, S k → k < w.heap.size) (hl : l.length ≤ 1000) (hr : Reads w S 2 B l.length (l.flatMap gtC)) (hok : ConstOk op a) (ha : a < 18446744073709551616) (hb : ∀ g ∈ l, g.1 < 256) :
    Calls Try.prog 43 #[.agg #[.int .u8 (op : Int), .int .u64 (a : Int), .int .u64 0, .slice A 0 c], .slice B l.length cc] w fun e w' => e = .returned (.tuple #[.int .i64 ((ctF op a l).1 : Nat), .int .i64 ((ctF op a l).2 : Nat)]) ∧ Step (fun _ => False) w w' := by
  have HV : Hid (∀ (w : World) (S' : Nat → Prop) (B' : Option Addr) (c' : Nat), Reads w S' 2 B' l.length ((tvals l).flatMap valC) → Calls Try.prog 44 #[.agg #[.int .u8 (op : Int), .int .u64 (a : Int), .int .u64 0, .slice A 0 c], .slice B' l.length c'] w fun e w' => e = .returned (.tuple #[valV (cvF op a (tvals l)).1, .int .i64 ((cvF op a (tvals l)).2 : Nat)]) ∧ Step (fun _ => False) w w') := fun w S' B' c' h => by
    have hlen := tvals_len l
    have := rvalue8_ok w op a c c' A B' (tvals l) S' hok ha (by omega) (by rw [hlen]; exact h)
    rw [hlen] at this
    exact this
  rcases hok with ⟨rfl, h⟩ | ⟨rfl, h⟩ | rfl
  · by_cases halt : a < l.length
    · have e1 : cvF 35 a (tvals l) = ((l[a].1, 0), 0) := by
        rw [cvF, if_neg (by decide), if_neg (by decide), tvals_at, List.getElem?_eq_getElem halt]
        rfl
      have e2 : ctF 35 a l = if l[a].2 then (0, 24) else (l[a].1, 0) := by
        rw [ctF, if_neg (by decide), if_neg (by decide), List.getElem?_eq_getElem halt]
      rw [e1] at HV
      have := rtype_35 w a 0 0 c cc A B l S hS hl hr (l[a].1 : Nat) 0 (by have := hb l[a] (List.getElem_mem halt); omega) HV halt l[a].2 rfl
      rw [e2]
      cases hm : l[a].2
      · rw [hm] at this; exact this
      · rw [hm] at this; exact this
    · have e1 : cvF 35 a (tvals l) = ((0, 0), 24) := by
        rw [cvF, if_neg (by decide), if_neg (by decide), tvals_at, List.getElem?_eq_none (by omega)]
        rfl
      have e2 : ctF 35 a l = (0, 24) := by rw [ctF, if_neg (by decide), if_neg (by decide), List.getElem?_eq_none (by omega)]
      rw [e1] at HV
      rw [e2]
      exact rtype_gen w 35 a 0 0 c cc A B l S hS hl hr 0 0 24 (by decide) HV (.inl (by decide))
  · have e1 : cvF 65 a (tvals l) = ((127, a), 0) := by rw [cvF, if_pos rfl]
    rw [e1] at HV
    rw [ctF, if_pos rfl]
    exact rtype_gen w 65 a 0 0 c cc A B l S hS hl hr 127 a 0 (by decide) HV (.inr ⟨rfl, by decide⟩)
  · have e1 : cvF 66 a (tvals l) = ((126, a), 0) := by rw [cvF, if_neg (by decide), if_pos rfl]
    rw [e1] at HV
    rw [ctF, if_neg (by decide), if_pos rfl]
    exact rtype_gen w 66 a 0 0 c cc A B l S hS hl hr 126 a 0 (by decide) HV (.inr ⟨rfl, by decide⟩)
end Go.Proofs.Ytfemeendkjcffaa
