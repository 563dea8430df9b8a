/-
  The tree's check with the operations ahead of each given as numbers (a bit each): for great regions with many guards.
-/
import Derived.Test.YtmheofkakcomdaaMxf
set_option linter.unusedVariables false
set_option linter.unusedSimpArgs false
namespace Go.Proofs.Ytmheofkakcomdaa.Mxg
open Go Mif
/-- Bit i of number j: operation i stands ahead of operation j. -/
def tb (A : List Nat) (j i : Nat) : Bool := (A.getD j 0).testBit i
def masksOk (ops : Array Oper) (A : List Nat) : Bool :=
  decide (A.length ≤ ops.size) && (List.range ops.size).all fun j => match ops[j]? with
    | none => true
    | some o => (A.getD j 0 == o.after.toList.foldl (fun m e => if Region.binds .any e = true then m ||| (1 <<< e.on) ||| A.getD e.on 0 else m) 0) && o.after.toList.all fun e => !(Region.binds .any e) || decide (e.on < j)
theorem fold_bit {A : List Nat} {i : Nat} : ∀ (es : List Edge) (m : Nat), (es.foldl (fun m e => if Region.binds .any e = true then m ||| (1 <<< e.on) ||| A.getD e.on 0 else m) m).testBit i = true → m.testBit i = true ∨ ∃ e ∈ es, Region.binds .any e = true ∧ (e.on = i ∨ tb A e.on i = true)
  | [], m, h => .inl h
  | e :: es, m, h => by
    rw [List.foldl_cons] at h
    rcases fold_bit es _ h with h | ⟨e', h1, h2⟩
    · by_cases hb : Region.binds .any e = true
      · rw [if_pos hb, Nat.testBit_or, Nat.testBit_or, Bool.or_eq_true, Bool.or_eq_true] at h
        rcases h with (h | h) | h
        · exact .inl h
        · rw [Nat.one_shiftLeft, Nat.testBit_two_pow] at h
          exact .inr ⟨e, List.mem_cons_self, hb, .inl (of_decide_eq_true h)⟩
        · exact .inr ⟨e, List.mem_cons_self, hb, .inr h⟩
      · rw [if_neg hb] at h
        exact .inl h
    · exact .inr ⟨e', List.mem_cons_of_mem _ h1, h2⟩
theorem anc_of_tb {ops : Array Oper} {A : List Nat} (hA : masksOk ops A = true) : ∀ (j f i : Nat), j < f → tb A j i = true → ancF ops f j i = true := by
  unfold masksOk at hA
  rw [Bool.and_eq_true, List.all_eq_true] at hA
  obtain ⟨hl, hA⟩ := hA
  have hl := of_decide_eq_true hl
  intro j
  induction j using Nat.strongRecOn with
  | ind j ih =>
    intro f i hf h
    obtain ⟨f, rfl⟩ : ∃ n, f = n + 1 := ⟨f - 1, by omega⟩
    have hj : j < A.length := by
      rcases Nat.lt_or_ge j A.length with h1 | h1
      · exact h1
      · unfold tb at h
        rw [List.getD_eq_getElem?_getD, List.getElem?_eq_none h1] at h
        simp at h
    have hjs : j < ops.size := Nat.lt_of_lt_of_le hj hl
    have h1 := hA j (List.mem_range.2 hjs)
    have ho : ops[j]? = some ops[j] := Array.getElem?_eq_getElem hjs
    rw [ho] at h1
    simp only [Bool.and_eq_true, beq_iff_eq, List.all_eq_true] at h1
    obtain ⟨h1, h2⟩ := h1
    unfold tb at h
    rw [h1] at h
    rcases fold_bit _ _ h with h | ⟨e, he, hb, h⟩
    · simp at h
    · rw [ancF, ho]
      simp only [Array.any_eq_true']
      refine ⟨e, by simpa using he, ?_⟩
      rw [Bool.and_eq_true, Bool.or_eq_true]
      refine ⟨hb, ?_⟩
      rcases h with h | h
      · exact .inl (by simpa using h)
      · have h3 := h2 e he
        rw [hb] at h3
        simp only [Bool.not_true, Bool.false_or, decide_eq_true_eq] at h3
        exact .inr (ih e.on h3 f i (by omega) h)
theorem anc_tb {ops : Array Oper} {A : List Nat} (hA : masksOk ops A = true) {j i : Nat} (h : tb A j i = true) : anc ops j i = true := by
  have hj : j < ops.size := by
    have hA' := hA
    unfold masksOk at hA'
    rw [Bool.and_eq_true] at hA'
    have hl := of_decide_eq_true hA'.1
    rcases Nat.lt_or_ge j A.length with h1 | h1
    · omega
    · unfold tb at h
      rw [List.getD_eq_getElem?_getD, List.getElem?_eq_none h1] at h
      simp at h
  exact anc_of_tb hA j _ i hj h
def pairsM (ops : Array Oper) (nz : Nat → Bool) (A : List Nat) : Bool :=
  (List.range ops.size).all fun j => (List.range ops.size).all fun i => decide (i = j) || (nz i && nz j) || tb A i j || tb A j i || (match ops[i]?, ops[j]? with | some oi, some oj => oi.apart ops oj | _, _ => true)
def latesM (ops : Array Oper) (nz late : Nat → Bool) (A : List Nat) : Bool :=
  (List.range ops.size).all fun p => !(nz p) || late p || (List.range ops.size).all fun k => nz k || tb A p k
def covM (A : List Nat) (nzs : List Nat) : Nat → List Nat → Tr → Bool
  | 0, H, _ => nzs.all fun i => H.contains i
  | f + 1, H, T => nzs.all fun i => H.contains i || (nzs.any fun k => tb A i k && !(H.contains k)) || (match T.sel i with | some T' => covM A nzs f (i :: H) T' | none => false)
theorem cov_of {ops : Array Oper} {A : List Nat} (hA : masksOk ops A = true) {nzs : List Nat} : ∀ (f : Nat) (H : List Nat) (T : Tr), covM A nzs f H T = true → covB ops nzs f H T = true
  | 0, H, T, h => h
  | f + 1, H, T, h => by
    rw [covM, List.all_eq_true] at h
    rw [covB, List.all_eq_true]
    intro i hi
    have h1 := h i hi
    rw [Bool.or_eq_true, Bool.or_eq_true] at h1 ⊢
    rcases h1 with (h1 | h1) | h1
    · exact .inl (.inl h1)
    · rw [List.any_eq_true] at h1
      obtain ⟨k, hk, h1⟩ := h1
      rw [Bool.and_eq_true] at h1
      exact .inl (.inr (List.any_eq_true.2 ⟨k, hk, by rw [Bool.and_eq_true]; exact ⟨anc_tb hA h1.1, h1.2⟩⟩))
    · refine .inr ?_
      cases hs : T.sel i with
      | none => rw [hs] at h1; cases h1
      | some T' => rw [hs] at h1; exact cov_of hA f _ T' h1
/-- The reads' places in the tree, checked by a number. -/
def valM (ops : Array Oper) (nz : Nat → Bool) : Tr → Nat → Nat → Bool
  | .leaf, L, m => m == 0 && L == (1 <<< ops.size) - 1
  | .det j t, L, m => decide (j < ops.size) && !(nz j) && !(L.testBit j) && (match ops[j]? with | none => true | some o => o.after.toList.all fun e => !(Region.binds .any e) || L.testBit e.on) && (match m with | 0 => false | m' + 1 => valM ops nz t (L ||| 1 <<< j) m')
  | .op j t, L, m => decide (j < ops.size) && nz j && !(L.testBit j) && (match ops[j]? with | none => true | some o => o.after.toList.all fun e => !(Region.binds .any e) || L.testBit e.on) && (match m with | 0 => false | m' + 1 => valM ops nz t (L ||| 1 <<< j) m')
  | .fork s t, L, m => valM ops nz s L m && valM ops nz t L m
theorem put_bit {L : Nat} {M : List Nat} {j : Nat} (h : ∀ k, L.testBit k = M.contains k) : ∀ k, (L ||| 1 <<< j).testBit k = (j :: M).contains k := fun k => by
  rw [Nat.testBit_or, h k, Nat.one_shiftLeft, Nat.testBit_two_pow, List.contains_cons, Bool.or_comm]
  congr 1
  by_cases hk : j = k
  · subst hk; simp
  · have hk' : ¬ k = j := fun e => hk e.symm
    rw [decide_eq_false hk, beq_eq_false_iff_ne.2 hk']
theorem valB_of {ops : Array Oper} {nz : Nat → Bool} : ∀ (T : Tr) (L : Nat) (M : List Nat) (m : Nat), (∀ k, L.testBit k = M.contains k) → valM ops nz T L m = true → valB ops nz T M m = true
  | .leaf, L, M, m, hL, h => by
    rw [valM, Bool.and_eq_true] at h
    rw [valB, Bool.and_eq_true, List.all_eq_true]
    refine ⟨h.1, fun k hk => ?_⟩
    rw [← hL k, eq_of_beq h.2, Nat.one_shiftLeft, Nat.testBit_two_pow_sub_one]
    exact decide_eq_true (List.mem_range.1 hk)
  | .det j t, L, M, m, hL, h => by
    simp only [valM, Bool.and_eq_true] at h
    obtain ⟨⟨⟨⟨h1, h2⟩, h3⟩, h4⟩, h5⟩ := h
    simp only [valB, Bool.and_eq_true]
    refine ⟨⟨⟨⟨h1, h2⟩, by rw [← hL j]; exact h3⟩, ?_⟩, ?_⟩
    · cases ho : ops[j]? with
      | none => rfl
      | some o =>
        rw [ho] at h4
        simp only [List.all_eq_true] at h4
        simp only [Array.all_eq_true_iff_forall_mem]
        exact fun e he => by rw [← hL e.on]; exact h4 e (by simpa using he)
    · cases m with
      | zero => cases h5
      | succ m => exact valB_of t _ _ m (put_bit hL) h5
  | .op j t, L, M, m, hL, h => by
    simp only [valM, Bool.and_eq_true] at h
    obtain ⟨⟨⟨⟨h1, h2⟩, h3⟩, h4⟩, h5⟩ := h
    simp only [valB, Bool.and_eq_true]
    refine ⟨⟨⟨⟨h1, h2⟩, by rw [← hL j]; exact h3⟩, ?_⟩, ?_⟩
    · cases ho : ops[j]? with
      | none => rfl
      | some o =>
        rw [ho] at h4
        simp only [List.all_eq_true] at h4
        simp only [Array.all_eq_true_iff_forall_mem]
        exact fun e he => by rw [← hL e.on]; exact h4 e (by simpa using he)
    · cases m with
      | zero => cases h5
      | succ m => exact valB_of t _ _ m (put_bit hL) h5
  | .fork s t, L, M, m, hL, h => by
    rw [valM, Bool.and_eq_true] at h
    rw [valB, Bool.and_eq_true]
    exact ⟨valB_of s L M m hL h.1, valB_of t L M m hL h.2⟩
def treeM (ops : Array Oper) (nzs lates : List Nat) (T : Tr) (A : List Nat) : Bool :=
  masksOk ops A && Region.noSelect ops && pairsM ops (nzs.contains ·) A && latesM ops (nzs.contains ·) (lates.contains ·) A && valM ops (nzs.contains ·) T 0 ops.size && covM A nzs nzs.length [] T &&
  ((List.range ops.size).all fun i => match ops[i]? with | some o => nzs.contains i || plainB o | none => true)
theorem tree_of {ops : Array Oper} {nzs lates : List Nat} {T : Tr} {A : List Nat} (h : treeM ops nzs lates T A = true) : treeOk ops nzs lates T = true := by
  unfold treeM at h
  simp only [Bool.and_eq_true] at h
  obtain ⟨⟨⟨⟨⟨⟨hA, hns⟩, hp⟩, hlt⟩, hval⟩, hcov⟩, hpl⟩ := h
  unfold treeOk
  simp only [Bool.and_eq_true]
  refine ⟨⟨⟨⟨⟨hns, ?_⟩, ?_⟩, valB_of T 0 [] _ (fun k => by simp) hval⟩, cov_of hA _ _ _ hcov⟩, hpl⟩
  · unfold pairsM at hp
    unfold pairsB
    rw [List.all_eq_true] at hp ⊢
    intro j hj
    have hp := hp j hj
    rw [List.all_eq_true] at hp ⊢
    intro i hi
    have hp := hp i hi
    simp only [Bool.or_eq_true] at hp ⊢
    rcases hp with (((hp | hp) | hp) | hp) | hp
    · exact .inl (.inl (.inl (.inl (.inl (.inl hp)))))
    · exact .inl (.inl (.inl (.inl (.inl (.inr hp)))))
    · exact .inl (.inr (anc_tb hA hp))
    · exact .inr (anc_tb hA hp)
    · exact .inl (.inl (.inl (.inl (.inr hp))))
  · unfold latesM at hlt
    unfold latesB
    rw [List.all_eq_true] at hlt ⊢
    intro p hp
    have hlt := hlt p hp
    rw [Bool.or_eq_true, Bool.or_eq_true] at hlt ⊢
    rcases hlt with (h | h) | h
    · exact .inl (.inl h)
    · exact .inl (.inr h)
    · refine .inr ?_
      rw [List.all_eq_true] at h ⊢
      intro k hk
      have h := h k hk
      rw [Bool.or_eq_true] at h ⊢
      rcases h with h | h
      · exact .inl h
      · exact .inr (anc_tb hA h)
/-- wp_region_tree, its check by numbers: A = for each operation the bits of those that stand ahead of it. -/
theorem wp_region_masks {P : Program} {id : Nat} {R : Exit → Act → World → Prop} {a : Act} {w : World} {l : List Oper} (nzs lates : List Nat) (T : Tq) (A : List Nat) (S : World → Prop) (hm : P.follows .mixedOrders = true) (hB : (treeM l.toArray nzs lates T.tr A && T.plain (nzs.contains ·) l.length) = true) (hS : S w.drew)
    (hh : Nonempty (Cls S) → wpTL P l (fun w' => ∃ i : Cls S, w' = i.val) (lates.contains ·) (fun a' w' => R .normal a' w') T a w.drew) : (Code.region id l.toArray true).wp P R a w := by
  rw [Bool.and_eq_true] at hB
  exact wp_region_tree nzs lates T S hm (by rw [Bool.and_eq_true]; exact ⟨tree_of hB.1, hB.2⟩) hS hh
end Go.Proofs.Ytmheofkakcomdaa.Mxg
