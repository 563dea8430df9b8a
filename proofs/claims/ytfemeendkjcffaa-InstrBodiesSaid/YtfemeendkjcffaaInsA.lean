/-
  instr: which rows of instructions are bodies, as a plain law; a stack of bytes.
-/
import Derived.Test.YtfemeendkjcffaaPuD
import Derived.Test.YtfemeendkjcffaaGe
import Derived.Test.YtfemeendkjcffaaBoC
set_option linter.unusedVariables false
set_option linter.unusedSimpArgs false
namespace Go.Proofs.Ytfemeendkjcffaa
open Go.RowKit

/-- Where the body that instructions begin with ends (0: nowhere), from place i on, with these blocks open (the innermost first). -/
def walkF : List Nat → Nat → List Nat → Nat
  | [], _, _ => 0
  | op :: l, i, st =>
    if 2 ≤ op ∧ op ≤ 4 then walkF l (i + 1) (op :: st)
    else if op = 5 then (if st.head? = some 4 then walkF l (i + 1) (5 :: st.tail) else 0)
    else if op = 11 then (if st = [] then i + 1 else walkF l (i + 1) st.tail)
    else walkF l (i + 1) st
theorem walkF_cons (op : Nat) (l : List Nat) (i : Nat) (st : List Nat) : walkF (op :: l) i st = if 2 ≤ op ∧ op ≤ 4 then walkF l (i + 1) (op :: st)
    else if op = 5 then (if st.head? = some 4 then walkF l (i + 1) (5 :: st.tail) else 0)
    else if op = 11 then (if st = [] then i + 1 else walkF l (i + 1) st.tail)
    else walkF l (i + 1) st := rfl
theorem walkF_nil (i : Nat) (st : List Nat) : walkF [] i st = 0 := rfl
theorem walkF_open {op : Nat} {l : List Nat} {i : Nat} {st : List Nat} (h : 2 ≤ op ∧ op ≤ 4) : walkF (op :: l) i st = walkF l (i + 1) (op :: st) := by rw [walkF_cons, if_pos h]
theorem walkF_else {l : List Nat} {i : Nat} {st : List Nat} : walkF (5 :: l) i (4 :: st) = walkF l (i + 1) (5 :: st) := by rw [walkF_cons, if_neg (by decide), if_pos rfl, if_pos (show (4 :: st).head? = some 4 from rfl)]; rfl
theorem walkF_bad {l : List Nat} {i : Nat} {st : List Nat} (h : st.head? ≠ some 4) : walkF (5 :: l) i st = 0 := by rw [walkF_cons, if_neg (by decide), if_pos rfl, if_neg h]
theorem walkF_last {l : List Nat} {i : Nat} : walkF (11 :: l) i [] = i + 1 := by rw [walkF_cons, if_neg (by decide), if_neg (by decide), if_pos rfl, if_pos rfl]
theorem walkF_end {l : List Nat} {i x : Nat} {st : List Nat} : walkF (11 :: l) i (x :: st) = walkF l (i + 1) st := by rw [walkF_cons, if_neg (by decide), if_neg (by decide), if_pos rfl, if_neg (by simp)]; rfl
theorem walkF_plain {op : Nat} {l : List Nat} {i : Nat} {st : List Nat} (h : ¬ (2 ≤ op ∧ op ≤ 4)) (h5 : ¬ op = 5) (h11 : ¬ op = 11) : walkF (op :: l) i st = walkF l (i + 1) st := by rw [walkF_cons, if_neg h, if_neg h5, if_neg h11]
theorem walkF_le (l : List Nat) : ∀ (i : Nat) (st : List Nat), walkF l i st ≤ i + l.length := by
  induction l with
  | nil => intro i st; rw [walkF_nil]; omega
  | cons op l ih =>
    intro i st
    rw [walkF_cons, List.length_cons]
    have h1 := fun st => ih (i + 1) st
    have h2 := h1 (op :: st)
    have h3 := h1 (5 :: st.tail)
    have h4 := h1 st.tail
    have h5 := h1 st
    split
    · omega
    · split
      · split <;> omega
      · split
        · split <;> omega
        · omega
/-- The open blocks as the program keeps them: the outermost first, behind a nought. -/
def stk (st : List Nat) : List UInt8 := UInt8.ofNat 0 :: (st.reverse.map UInt8.ofNat)
theorem stk_len (st : List Nat) : (stk st).length = st.length + 1 := by simp [stk]
theorem stk_push (op : Nat) (st : List Nat) : stk (op :: st) = stk st ++ [UInt8.ofNat op] := by simp [stk]
theorem stk_pop (op : Nat) (st : List Nat) : (u8s (stk (op :: st))).take (st.length + 1) = u8s (stk st) := by
  rw [stk_push, u8s_append]
  exact List.take_left' (by rw [u8s, List.length_map, stk_len])
theorem stk_top (op : Nat) (st : List Nat) (h : op < 256) : (u8s (stk (op :: st)))[st.length + 1]? = some (.int .u8 (op : Int)) := by
  rw [stk_push, u8s_append, List.getElem?_append_right (by rw [u8s, List.length_map, stk_len]; exact Nat.le_refl _), byte_cell op h]
  simp [u8s, stk_len]
theorem stk_bot : (u8s (stk []))[0]? = some (.int .u8 0) := by rw [stk]; rfl
theorem stk_set (op : Nat) (st : List Nat) : (u8s (stk (op :: st))).set (st.length + 1) (.int .u8 5) = u8s (stk (5 :: st)) := by
  rw [stk_push, stk_push, u8s_append, u8s_append, List.set_append_right _ _ (by rw [u8s, List.length_map, stk_len]; exact Nat.le_refl _)]
  simp [u8s, stk_len]
end Go.Proofs.Ytfemeendkjcffaa
