/-
  A region that draws its order, out of reads (one value each, in every world of a class) and of operations that stand in one forced order: one walk, in the order of the text, serves every order.
-/
import Derived.Orders
import Derived.Still
import Derived.Tactics
import Derived.KernelRfl
import Derived.Below
import Derived.Deep.QuietTactic
import Derived.BigQuiet
set_option linter.unusedVariables false
set_option linter.unusedSimpArgs false
namespace Go.Proofs.Ytmheofkakcomdaa.Mif
open Go

/-- Operations that yield a value, and no call of a Go function. -/
def plainB (o : Oper) : Bool :=
  match o.op with
  | .call { callee := .builtin b, .. } => (match b with | .len | .cap | .min | .max => true | _ => false)
  | .move _ | .assign _ | .pick .. | .build .. | .load .. | .binOp .. | .unOp .. | .convert .. | .slice .. | .fieldAddr .. | .field .. | .indexAddr .. | .index .. | .extract .. | .lookup .. => true
  | .nilCheck _ => true
  | .makeFunc .. => true
  | _ => false

theorem out_v {P : Program} {s : Sem Value} {w w' : World} {n : Next} (h : (do let v ← s; pure (Next.value v) : Sem Next).run P w = .ok n w') : ∃ v, n = .value v := by
  rw [Sem.run_bind] at h
  cases hs : Sem.run P s w with
  | ok v w1 =>
    rw [hs] at h
    simp [Result.andThen, Sem.run_pure] at h
    exact ⟨v, h.1.symm⟩
  | halt x w1 => rw [hs] at h; simp [Result.andThen] at h

section
variable {P : Program} {ops : Array Oper} {C : World → Prop} {nz late : Nat → Bool} {Q : Act → World → Prop}

/-- In state a, in every world of the class, operation o yields v and leaves the world as it is; or it isn't wanted. -/
def YC (P : Program) (ops : Array Oper) (C : World → Prop) (o : Oper) (v : Value) (a : Act) : Prop :=
  (Region.wanted o (yielded ops a.tmps) = true ∧ ∀ w, C w → (execOp a.eval o).run P w = .ok (.value v) w) ∨
  (Region.wanted o (yielded ops a.tmps) = false ∧ v = undef)

theorem YC.of_same {o : Oper} {v : Value} {a a' : Act} (hy : YC P ops C o v a) (he : execOp a'.eval o = execOp a.eval o)
    (hw : Region.wanted o (yielded ops a'.tmps) = Region.wanted o (yielded ops a.tmps)) : YC P ops C o v a' := by
  unfold YC at *
  rw [he, hw]
  exact hy
theorem YC.put {o : Oper} {v u : Value} {a : Act} {d : Option Tmp} (hs : ∀ cs b, o.op ≠ .select cs b) (hd : ∀ t, d = some t → t ∉ o.looksAt ops) (hy : YC P ops C o v a) : YC P ops C o v (a.put d u) :=
  hy.of_same (execOp_put o hs a d u hd) (wanted_put o a d u hd)
theorem YC.unput {o : Oper} {v u : Value} {a : Act} {d : Option Tmp} (hs : ∀ cs b, o.op ≠ .select cs b) (hd : ∀ t, d = some t → t ∉ o.looksAt ops) (hy : YC P ops C o v (a.put d u)) : YC P ops C o v a :=
  hy.of_same (execOp_put o hs a d u hd).symm (wanted_put o a d u hd).symm
theorem YC.uniq {o : Oper} {v v' : Value} {a : Act} {w : World} (hC : C w) (h : YC P ops C o v a) (h' : YC P ops C o v' a) : v = v' := by
  rcases h with ⟨h1, h2⟩ | ⟨h1, h2⟩ <;> rcases h' with ⟨h3, h4⟩ | ⟨h3, h4⟩
  · have e := (h2 w hC).symm.trans (h4 w hC)
    injection e with e
    injection e
  · rw [h1] at h3; cases h3
  · rw [h1] at h3; cases h3
  · rw [h2, h4]

/-- The walk of what is left, by the text's order: a read yields one value in every world of the class; another operation is carried out where the walk stands. -/
def wpM (P : Program) (ops : Array Oper) (C : World → Prop) (nz late : Nat → Bool) (Q : Act → World → Prop) : List Nat → Act → World → Prop
  | [], a, w => Q a w
  | i :: rest, a, w => match ops[i]? with
    | none => wpM P ops C nz late Q rest a w
    | some o =>
      if nz i = true then
        (if Region.wanted o (yielded ops a.tmps) = true then o.wp P a w (fun a' w' => (late i = true → C w') ∧ wpM P ops C nz late Q rest a' w') (fun _ _ _ => False) else wpM P ops C nz late Q rest (a.put o.dst undef) w)
      else ∃ v, YC P ops C o v a ∧ wpM P ops C nz late Q rest (a.put o.dst v) w

theorem wpM_none {i : Nat} {rest : List Nat} {a : Act} {w : World} (h : ops[i]? = none) : wpM P ops C nz late Q (i :: rest) a w = wpM P ops C nz late Q rest a w := by
  rw [wpM, h]
theorem wpM_det {i : Nat} {rest : List Nat} {a : Act} {w : World} {o : Oper} (h : ops[i]? = some o) (hn : nz i = false) : wpM P ops C nz late Q (i :: rest) a w = ∃ v, YC P ops C o v a ∧ wpM P ops C nz late Q rest (a.put o.dst v) w := by
  rw [wpM, h]
  simp [hn]
theorem wpM_nz {i : Nat} {rest : List Nat} {a : Act} {w : World} {o : Oper} (h : ops[i]? = some o) (hn : nz i = true) : wpM P ops C nz late Q (i :: rest) a w =
    (if Region.wanted o (yielded ops a.tmps) = true then o.wp P a w (fun a' w' => (late i = true → C w') ∧ wpM P ops C nz late Q rest a' w') (fun _ _ _ => False) else wpM P ops C nz late Q rest (a.put o.dst undef) w) := by
  rw [wpM, h]
  simp [hn]

/-! ### what a wp gives -/
/-- The state behind an operation is that ahead of it, but for its own temporary. -/
theorem wp_strong {o : Oper} {a : Act} {w : World} {K : Act → World → Prop} {R : Exit → Act → World → Prop} (h : o.wp P a w K R) :
    o.wp P a w (fun a' w' => K a' w' ∧ ∃ u b, a' = Act.put b o.dst u ∧ b.tmps = a.tmps) R := by
  unfold Oper.wp at *
  generalize (execOp a.eval o).run P w = r at *
  cases r with
  | ok n w' =>
    cases n <;> simp only [Oper.upon] at h ⊢
    case value u => exact ⟨h, u, a, rfl, rfl⟩
    case skip => exact ⟨h, undef, a, rfl, rfl⟩
    case defer d => exact ⟨h, undef, _, rfl, rfl⟩
    case enter f args =>
      exact Calls.mono h fun e w'' he => by
        cases e with
        | returned u => exact ⟨he, u, a, rfl, rfl⟩
        | panicked c => exact he
        | outgrown => exact he
    case row row args => exact Rows.mono h fun u w'' he => ⟨he, u, a, rfl, rfl⟩
  | halt x w' => cases x <;> simp only [Oper.upon] at h ⊢ <;> exact h
/-- One that does not panic comes to something. -/
theorem wp_ex {o : Oper} {a : Act} {w : World} {K : Act → World → Prop} (h : o.wp P a w K (fun _ _ _ => False)) : ∃ a' w', K a' w' := by
  unfold Oper.wp at h
  generalize (execOp a.eval o).run P w = r at *
  cases r with
  | ok n w' =>
    cases n <;> simp only [Oper.upon] at h
    case value u => exact ⟨_, _, h⟩
    case skip => exact ⟨_, _, h⟩
    case defer d => exact ⟨_, _, h⟩
    case enter f args =>
      obtain ⟨e, w'', fr, he, _⟩ := h []
      cases e with
      | returned u => exact ⟨_, _, he⟩
      | panicked c => exact he.elim
      | outgrown => obtain ⟨_, _, hf⟩ := he; exact hf.elim
    case row row args =>
      obtain ⟨v, w'', he, _⟩ := h default []
      exact ⟨_, _, he⟩
  | halt x w' => cases x <;> simp only [Oper.upon] at h
theorem put_defers_tmps {a b : Act} (d : Option Tmp) (v : Value) (h : b.tmps = a.tmps) : (b.put d v).tmps = (a.put d v).tmps := by
  cases d <;> simp [Act.put, h]
/-- A temporary that an operation does not look at may have been written ahead of it. -/
theorem wp_put {o : Oper} {a : Act} {w : World} {K : Act → World → Prop} {d : Option Tmp} {v : Value} (hs : ∀ cs b, o.op ≠ .select cs b) (hd : ∀ t, d = some t → t ∉ o.looksAt ops) (hdd : ∀ t, d = some t → o.dst ≠ some t)
    (h : o.wp P a w (fun a' w' => K (a'.put d v) w') (fun _ _ _ => False)) : o.wp P (a.put d v) w K (fun _ _ _ => False) := by
  unfold Oper.wp at *
  rw [execOp_put o hs a d v hd]
  generalize (execOp a.eval o).run P w = r at *
  cases r with
  | ok n w' =>
    cases n <;> simp only [Oper.upon] at h ⊢
    case value u => rw [Act.put_comm a v u hdd]; exact h
    case skip => rw [Act.put_comm a v undef hdd]; exact h
    case defer x =>
      rw [Act.put_defers, Act.put_comm _ v undef hdd]
      exact h
    case enter f args =>
      exact Calls.mono h fun e w'' he => by
        cases e with
        | returned u => simp only at he ⊢; rw [Act.put_comm a v u hdd]; exact he
        | panicked c => exact he
        | outgrown => exact he
    case row row args => exact Rows.mono h fun u w'' he => by rw [Act.put_comm a v u hdd]; exact he
  | halt x w' => cases x <;> simp only [Oper.upon] at h ⊢ <;> exact h
theorem wp_unput {o : Oper} {a : Act} {w : World} {K : Act → World → Prop} {d : Option Tmp} {v : Value} (hs : ∀ cs b, o.op ≠ .select cs b) (hd : ∀ t, d = some t → t ∉ o.looksAt ops) (hdd : ∀ t, d = some t → o.dst ≠ some t)
    (h : o.wp P (a.put d v) w K (fun _ _ _ => False)) : o.wp P a w (fun a' w' => K (a'.put d v) w') (fun _ _ _ => False) := by
  unfold Oper.wp at *
  rw [execOp_put o hs a d v hd] at h
  generalize (execOp a.eval o).run P w = r at *
  cases r with
  | ok n w' =>
    cases n <;> simp only [Oper.upon] at h ⊢
    case value u => rw [Act.put_comm a v u hdd] at h; exact h
    case skip => rw [Act.put_comm a v undef hdd] at h; exact h
    case defer x =>
      rw [Act.put_defers, Act.put_comm _ v undef hdd] at h
      exact h
    case enter f args =>
      exact Calls.mono h fun e w'' he => by
        cases e with
        | returned u => simp only at he ⊢; rw [Act.put_comm a v u hdd] at he; exact he
        | panicked c => exact he
        | outgrown => exact he
    case row row args => exact Rows.mono h fun u w'' he => by rw [Act.put_comm a v u hdd] at he; exact he
  | halt x w' => cases x <;> simp only [Oper.upon] at h ⊢ <;> exact h

/-! ### what may come first -/
/-- Two operations that do not meet: neither looks at, nor writes, what the other one writes. -/
def Free (ops : Array Oper) (x y : Oper) : Prop := x.apart ops y = true

theorem hoist (hsel : ∀ (j : Nat) (o : Oper) cs b, ops[j]? = some o → o.op ≠ .select cs b) {i : Nat} {oi : Oper} (hi : ops[i]? = some oi) (hni : nz i = false) (post : List Nat) :
    ∀ (pre : List Nat) (a : Act) (w : World), (∀ p ∈ pre, ∀ op, ops[p]? = some op → Free ops op oi ∧ (nz p = true → late p = true)) →
    wpM P ops C nz late Q (pre ++ i :: post) a w → ∃ v, YC P ops C oi v a ∧ wpM P ops C nz late Q (pre ++ post) (a.put oi.dst v) w := by
  intro pre
  induction pre with
  | nil =>
    intro a w _ h
    rw [List.nil_append, wpM_det hi hni] at h
    exact h
  | cons p pre ih =>
    intro a w hf h
    have hf' : ∀ q ∈ pre, ∀ op, ops[q]? = some op → Free ops op oi ∧ (nz q = true → late q = true) := fun q hq => hf q (List.mem_cons_of_mem _ hq)
    rw [List.cons_append] at h
    cases hp : ops[p]? with
    | none =>
      rw [wpM_none hp] at h
      obtain ⟨v, h1, h2⟩ := ih a w hf' h
      exact ⟨v, h1, by rw [List.cons_append, wpM_none hp]; exact h2⟩
    | some op =>
      obtain ⟨hfr, hlate⟩ := hf p (List.mem_cons_self ..) op hp
      obtain ⟨f1, f2, f3⟩ := Oper.apart_spec hfr
      have f2' : ∀ d, oi.dst = some d → op.dst ≠ some d := fun d h1 h2 => f2 d h2 h1
      cases hn : nz p with
      | false =>
        rw [wpM_det hp hn] at h
        obtain ⟨vp, hy, h⟩ := h
        obtain ⟨v, h1, h2⟩ := ih _ w hf' h
        refine ⟨v, h1.unput (hsel i oi · · hi) f1, ?_⟩
        rw [List.cons_append, wpM_det hp hn]
        refine ⟨vp, hy.put (hsel p op · · hp) f3, ?_⟩
        rw [Act.put_comm a v vp f2']
        exact h2
      | true =>
        rw [wpM_nz hp hn] at h
        by_cases hw : Region.wanted op (yielded ops a.tmps) = true
        · rw [if_pos hw] at h
          obtain ⟨a1, w1, ⟨hC, hm⟩, u1, b1, rfl, hb1⟩ := wp_ex (wp_strong h)
          have hCw := hC (hlate hn)
          obtain ⟨v, h1, _⟩ := ih _ w1 hf' hm
          have back : ∀ (b : Act) (u : Value), b.tmps = a.tmps → YC P ops C oi v (b.put op.dst u) → YC P ops C oi v a := fun b u hb hy =>
            (hy.unput (hsel i oi · · hi) f1).of_same (by unfold Act.eval; rw [hb]) (by rw [hb])
          have hya := back b1 u1 hb1 h1
          refine ⟨v, hya, ?_⟩
          rw [List.cons_append, wpM_nz hp hn, if_pos (by rw [wanted_put op a oi.dst v f3]; exact hw)]
          refine wp_put (ops := ops) (hsel p op · · hp) f3 f2' ?_
          refine Oper.wp_mono (fun a' w' h3 => ?_) (wp_strong h)
          obtain ⟨⟨hC', hm'⟩, u, b, rfl, hb⟩ := h3
          refine ⟨hC', ?_⟩
          obtain ⟨v', h5, h6⟩ := ih _ w' hf' hm'
          have hyb : YC P ops C oi v' a := (h5.unput (hsel i oi · · hi) f1).of_same (by unfold Act.eval; rw [hb]) (by rw [hb])
          obtain rfl := YC.uniq hCw hya hyb
          exact h6
        · rw [if_neg hw] at h
          obtain ⟨v, h1, h2⟩ := ih _ w hf' h
          refine ⟨v, h1.unput (hsel i oi · · hi) f1, ?_⟩
          rw [List.cons_append, wpM_nz hp hn, if_neg (by rw [wanted_put op a oi.dst v f3]; exact hw), Act.put_comm a v undef f2']
          exact h2

theorem sink (hsel : ∀ (j : Nat) (o : Oper) cs b, ops[j]? = some o → o.op ≠ .select cs b) {i : Nat} {oi : Oper} (hi : ops[i]? = some oi) (hni : nz i = true) (post : List Nat) :
    ∀ (pre : List Nat) (a : Act) (w : World), (∀ p ∈ pre, ∀ op, ops[p]? = some op → Free ops op oi ∧ nz p = false) →
    wpM P ops C nz late Q (pre ++ i :: post) a w → wpM P ops C nz late Q (i :: (pre ++ post)) a w := by
  intro pre
  induction pre with
  | nil => intro a w _ h; exact h
  | cons p pre ih =>
    intro a w hf h
    have hf' : ∀ q ∈ pre, ∀ op, ops[q]? = some op → Free ops op oi ∧ nz q = false := fun q hq => hf q (List.mem_cons_of_mem _ hq)
    rw [List.cons_append] at h ⊢
    cases hp : ops[p]? with
    | none =>
      rw [wpM_none hp] at h
      have h2 := ih a w hf' h
      rw [wpM_nz hi hni] at h2 ⊢
      simp only [wpM_none hp]
      exact h2
    | some op =>
      obtain ⟨hfr, hn⟩ := hf p (List.mem_cons_self ..) op hp
      obtain ⟨f1, f2, f3⟩ := Oper.apart_spec hfr
      rw [wpM_det hp hn] at h
      obtain ⟨vp, hy, h⟩ := h
      have h2 := ih _ w hf' h
      rw [wpM_nz hi hni] at h2 ⊢
      by_cases hw : Region.wanted oi (yielded ops a.tmps) = true
      · rw [if_pos (by rw [wanted_put oi a op.dst vp f1]; exact hw)] at h2
        rw [if_pos hw]
        have f2' : ∀ d, op.dst = some d → oi.dst ≠ some d := fun d h1 h2 => f2 d h1 h2
        refine Oper.wp_mono (fun a' w' h3 => ?_) (wp_strong (wp_unput (ops := ops) (hsel i oi · · hi) f1 f2' h2))
        obtain ⟨⟨hC', hm'⟩, u, b, rfl, hb⟩ := h3
        refine ⟨hC', ?_⟩
        rw [wpM_det hp hn]
        refine ⟨vp, ?_, hm'⟩
        exact YC.put (hsel p op · · hp) f3 (hy.of_same (by unfold Act.eval; rw [hb]) (by rw [hb]))
      · rw [if_neg (by rw [wanted_put oi a op.dst vp f1]; exact hw)] at h2
        rw [if_neg hw, wpM_det hp hn]
        refine ⟨vp, hy.put (hsel p op · · hp) f3, ?_⟩
        have f2' : ∀ d, oi.dst = some d → op.dst ≠ some d := fun d h1 h2 => f2 d h2 h1
        rw [Act.put_comm a undef vp f2']
        exact h2

/-! ### the check -/
def ancF (ops : Array Oper) : Nat → Nat → Nat → Bool
  | 0, _, _ => false
  | f + 1, j, i => match ops[j]? with
    | none => false
    | some o => o.after.any fun e => Region.binds .any e && (e.on == i || ancF ops f e.on i)
def anc (ops : Array Oper) (j i : Nat) : Bool := ancF ops ops.size j i
/-- Is there a read that need not stand ahead of operation i? -/
def lateB (ops : Array Oper) (nz : Nat → Bool) (i : Nat) : Bool := (List.range ops.size).any fun j => !nz j && !(anc ops i j)
def mixB (ops : Array Oper) (nz : Nat → Bool) : Bool :=
  Region.noSelect ops &&
  ((List.range ops.size).all fun i => match ops[i]? with | none => true | some o => o.after.all fun e => !Region.binds .any e || decide (e.on < i)) &&
  ((List.range ops.size).all fun j => (List.range j).all fun i => anc ops j i || (!(nz i && nz j) && (match ops[i]?, ops[j]? with | some oi, some oj => oi.apart ops oj | _, _ => true)))

theorem anc_listed {listed : Array Bool} (hd : ∀ j o, ops[j]? = some o → listed.getD j false = true → ∀ e ∈ o.after, Region.binds .any e = true → listed.getD e.on false = true) :
    ∀ (f j i : Nat), (∀ o, ops[j]? = some o → ∀ e ∈ o.after, Region.binds .any e = true → listed.getD e.on false = true) → ancF ops f j i = true → listed.getD i false = true := by
  intro f
  induction f with
  | zero => intro j i _ h; simp [ancF] at h
  | succ f ih =>
    intro j i hj h
    rw [ancF] at h
    cases ho : ops[j]? with
    | none => rw [ho] at h; cases h
    | some o =>
      rw [ho] at h
      simp only [Array.any_eq_true'] at h
      obtain ⟨e, he, h⟩ := h
      rw [Bool.and_eq_true, Bool.or_eq_true] at h
      have hl := hj o ho e he h.1
      rcases h.2 with h2 | h2
      · rw [beq_iff_eq] at h2; rw [← h2]; exact hl
      · exact ih e.on i (fun o' ho' => hd e.on o' ho' hl) h2

/-- What is left, as it stands in the text. -/
structure Left (ops : Array Oper) (listed : Array Bool) (rem : List Nat) : Prop where
  size : listed.size = ops.size
  sorted : rem.Pairwise (· < ·)
  mem : ∀ i, i ∈ rem ↔ (i < ops.size ∧ listed.getD i true = false)
  down : ∀ j o, ops[j]? = some o → listed.getD j false = true → ∀ e ∈ o.after, Region.binds .any e = true → listed.getD e.on false = true

theorem getD_flip {listed : Array Bool} {i : Nat} (h : i < listed.size) : listed.getD i true = listed.getD i false := by simp [h]

theorem mix_any {Q' : Exit → Act → World → Prop} (hB : mixB ops nz = true) (hQ : ∀ a w, Q a w → Q' .normal a w) :
    ∀ (fuel : Nat) (rem : List Nat) (listed : Array Bool) (a : Act) (w : World), Left ops listed rem → rem.length = fuel → ((∃ j ∈ rem, nz j = false) → C w) →
    wpM P ops C nz (lateB ops nz) Q rem a w → wpAny P .any ops Q' fuel listed a w := by
  have hB' := hB
  simp only [mixB, Bool.and_eq_true, List.all_eq_true, List.mem_range] at hB'
  obtain ⟨⟨hns, hed⟩, hpairs⟩ := hB'
  have hsel := Region.noSelect_spec hns
  have edge : ∀ i o, ops[i]? = some o → ∀ e ∈ o.after, Region.binds .any e = true → e.on < i := fun i o ho e he hb => by
    have hi : i < ops.size := (Array.getElem?_eq_some_iff.1 ho).1
    have := hed i hi
    rw [ho] at this
    simp only [Array.all_eq_true_iff_forall_mem] at this
    have := this e he
    rw [hb] at this
    simpa using this
  have pair : ∀ i j oi oj, i < j → ops[i]? = some oi → ops[j]? = some oj → anc ops j i = true ∨ ((nz i = true → nz j = true → False) ∧ Free ops oi oj) := fun i j oi oj hij hi hj => by
    have hjl : j < ops.size := (Array.getElem?_eq_some_iff.1 hj).1
    have := hpairs j hjl i hij
    rw [hi, hj] at this
    rcases (Bool.or_eq_true _ _).mp this with h | h
    · exact .inl h
    · right
      rw [Bool.and_eq_true] at h
      refine ⟨fun h1 h2 => ?_, h.2⟩
      rw [h1, h2] at h
      simp at h
  intro fuel
  induction fuel with
  | zero =>
    intro rem listed a w hL hlen hC h
    obtain rfl : rem = [] := List.eq_nil_of_length_eq_zero hlen
    refine ⟨?_, hQ _ _ h⟩
    rw [List.eq_nil_iff_forall_not_mem]
    intro i hi
    rw [mem_ready] at hi
    obtain ⟨h0, o, ho, _⟩ := hi
    have : i ∈ ([] : List Nat) := (hL.mem i).2 ⟨(Array.getElem?_eq_some_iff.1 ho).1, h0⟩
    cases this
  | succ fuel ih =>
    intro rem listed a w hL hlen hC h
    have un : ∀ i, i < ops.size → listed.getD i false = false → i ∈ rem := fun i hi hf => (hL.mem i).2 ⟨hi, by rw [getD_flip (by rw [hL.size]; exact hi)]; exact hf⟩
    refine ⟨fun hnil => ?_, fun i hi => ?_⟩
    · -- the first one that is left may come up
      match rem, hlen, hL with
      | i :: rest, _, hL =>
        obtain ⟨hil, hiu⟩ := (hL.mem i).1 (List.mem_cons_self ..)
        have : i ∈ Region.ready .any ops listed := by
          rw [mem_ready]
          refine ⟨hiu, ops[i], Array.getElem?_eq_getElem hil, fun e he hb => ?_⟩
          have hlt := edge i _ (Array.getElem?_eq_getElem hil) e he hb
          cases hl : listed.getD e.on false with
          | true => rfl
          | false =>
            have hm : e.on ∈ i :: rest := (hL.mem e.on).2 ⟨by omega, by rw [getD_flip (by rw [hL.size]; omega)]; exact hl⟩
            rcases List.mem_cons.1 hm with h1 | h1
            · omega
            · have := (List.pairwise_cons.1 hL.sorted).1 e.on h1
              omega
        rw [hnil] at this
        cases this
    · obtain ⟨hiu, oi, hoi, hall⟩ := mem_ready.1 hi
      have hil : i < ops.size := (Array.getElem?_eq_some_iff.1 hoi).1
      have hmem : i ∈ rem := (hL.mem i).2 ⟨hil, hiu⟩
      obtain ⟨pre, post, rfl⟩ := List.append_of_mem hmem
      have hsort := hL.sorted
      rw [List.pairwise_append] at hsort
      obtain ⟨hs1, hs2, hs3⟩ := hsort
      have hs4 := List.pairwise_cons.1 hs2
      -- nothing that is left stands ahead of i by force
      have notanc : ∀ p ∈ pre ++ post, anc ops i p = false := fun p hp => by
        cases ha : anc ops i p with
        | false => rfl
        | true =>
          have hl := anc_listed hL.down ops.size i p (fun o ho e he hb => by
            rw [hoi] at ho
            injection ho with ho
            subst ho
            exact hall e he hb) ha
          have hpm : p ∈ pre ++ i :: post := by
            rcases List.mem_append.1 hp with h1 | h1
            · exact List.mem_append_left _ h1
            · exact List.mem_append_right _ (List.mem_cons_of_mem _ h1)
          obtain ⟨hps, hpu⟩ := (hL.mem p).1 hpm
          rw [getD_flip (by rw [hL.size]; exact hps), hl] at hpu
          cases hpu
      have hL' : Left ops (listed.setIfInBounds i true) (pre ++ post) := by
        refine ⟨by simpa using hL.size, ?_, fun j => ?_, fun j o ho hj e he hb => ?_⟩
        · rw [List.pairwise_append]
          exact ⟨hs1, hs4.2, fun x hx y hy => hs3 x hx y (List.mem_cons_of_mem _ hy)⟩
        · have hj := hL.mem j
          by_cases hji : j = i
          · subst hji
            constructor
            · intro hx
              exfalso
              rcases List.mem_append.1 hx with h1 | h1
              · have := hs3 j h1 j (List.mem_cons_self ..); omega
              · have := hs4.1 j h1; omega
            · rintro ⟨_, h2⟩
              exfalso
              rw [getD_flip (by simpa [hL.size] using hil)] at h2
              simp [hL.size, hil] at h2
          · rw [getD_set_ne true (Ne.symm hji), ← hj]
            simp only [List.mem_append, List.mem_cons]
            constructor
            · rintro (h1 | h1)
              · exact .inl h1
              · exact .inr (.inr h1)
            · rintro (h1 | h1 | h1)
              · exact .inl h1
              · exact absurd h1 hji
              · exact .inr h1
        · by_cases hji : j = i
          · subst hji
            rw [hoi] at ho
            injection ho with ho
            subst ho
            exact getD_set_true (hall e he hb)
          · rw [getD_set_ne false (Ne.symm hji)] at hj
            exact getD_set_true (hL.down j o ho hj e he hb)
      have hlen' : (pre ++ post).length = fuel := by simp at hlen ⊢; omega
      cases hn : nz i with
      | false =>
        have hCw := hC ⟨i, hmem, hn⟩
        obtain ⟨v, hy, hm⟩ := hoist hsel hoi hn post pre a w (fun p hp op hop => by
          have hpi : p < i := hs3 p hp i (List.mem_cons_self ..)
          rcases pair p i op oi hpi hop hoi with h1 | ⟨h1, h2⟩
          · rw [notanc p (List.mem_append_left _ hp)] at h1; cases h1
          · refine ⟨h2, fun hnp => ?_⟩
            unfold lateB
            rw [List.any_eq_true]
            refine ⟨i, List.mem_range.2 hil, ?_⟩
            rw [hn]
            have : anc ops p i = false := by
              cases ha : anc ops p i with
              | false => rfl
              | true =>
                -- an ancestor stands ahead in the text
                have lt : ∀ (f j k : Nat), ancF ops f j k = true → k < j := by
                  intro f
                  induction f with
                  | zero => intro j k h; simp [ancF] at h
                  | succ f ihf =>
                    intro j k h
                    rw [ancF] at h
                    cases ho : ops[j]? with
                    | none => rw [ho] at h; cases h
                    | some o =>
                      rw [ho] at h
                      simp only [Array.any_eq_true'] at h
                      obtain ⟨e, he, h⟩ := h
                      rw [Bool.and_eq_true, Bool.or_eq_true] at h
                      have hlt := edge j o ho e he h.1
                      rcases h.2 with h2 | h2
                      · rw [beq_iff_eq] at h2; omega
                      · have := ihf e.on k h2; omega
                have := lt _ _ _ ha
                omega
            simp [this]) h
        have hgo := ih (pre ++ post) (listed.setIfInBounds i true) (a.put oi.dst v) w hL' hlen' (fun _ => hCw) hm
        unfold wpOp
        rw [hoi]
        rcases hy with ⟨hw, hv⟩ | ⟨hw, rfl⟩
        · simp only [hw, if_true, Oper.wp, hv w hCw, Oper.upon]; exact .inl hgo
        · simp only [hw, Bool.false_eq_true, if_false]; exact hgo
      | true =>
        have hm := sink hsel hoi hn post pre a w (fun p hp op hop => by
          have hpi : p < i := hs3 p hp i (List.mem_cons_self ..)
          rcases pair p i op oi hpi hop hoi with h1 | ⟨h1, h2⟩
          · rw [notanc p (List.mem_append_left _ hp)] at h1; cases h1
          · refine ⟨h2, ?_⟩
            cases hnp : nz p with
            | false => rfl
            | true => exact (h1 hnp hn).elim) h
        have hlate : (∃ j ∈ pre ++ post, nz j = false) → lateB ops nz i = true := fun ⟨j, hj, hnj⟩ => by
          unfold lateB
          rw [List.any_eq_true]
          have hjm : j ∈ pre ++ i :: post := by
            rcases List.mem_append.1 hj with h1 | h1
            · exact List.mem_append_left _ h1
            · exact List.mem_append_right _ (List.mem_cons_of_mem _ h1)
          refine ⟨j, List.mem_range.2 ((hL.mem j).1 hjm).1, ?_⟩
          rw [hnj, notanc j hj]
          rfl
        rw [wpM_nz hoi hn] at hm
        unfold wpOp
        rw [hoi]
        by_cases hw : Region.wanted oi (yielded ops a.tmps) = true
        · rw [if_pos hw] at hm
          simp only [hw, if_true]
          refine .inl ?_
          have hmm := Oper.wp_mono (K' := wpAny P .any ops Q' fuel (listed.setIfInBounds i true)) (fun a' w' h3 => ih (pre ++ post) _ a' w' hL' hlen' (fun hx => h3.1 (hlate hx)) h3.2) hm
          -- no panic: whatever is said of one
          unfold Oper.wp at hmm ⊢
          generalize (execOp a.eval oi).run P w = r at *
          cases r with
          | ok n w' =>
            cases n <;> simp only [Oper.upon] at hmm ⊢ <;> first
              | exact hmm
              | exact Calls.mono hmm (fun e w'' he => by
                  cases e with
                  | returned u => exact he
                  | panicked c => exact he.elim
                  | outgrown => obtain ⟨_, _, hf⟩ := he; exact hf.elim)
          | halt x w' => cases x <;> simp only [Oper.upon] at hmm
        · rw [if_neg hw] at hm
          simp only [hw, if_false]
          exact ih (pre ++ post) _ _ w hL' hlen' (fun ⟨j, hj, hnj⟩ => hC ⟨j, by
            rcases List.mem_append.1 hj with h1 | h1
            · exact List.mem_append_left _ h1
            · exact List.mem_append_right _ (List.mem_cons_of_mem _ h1), hnj⟩) hm

/-! ### at a region that is written out -/
def Outs (P : Program) (m : Sem Next) : Prop := ∀ w n w', m.run P w = .ok n w' → ∃ v, n = .value v
theorem outs_pure (v : Value) : Outs P (pure (.value v)) := fun w n w' h => by
  rw [Sem.run_pure] at h
  injection h with h
  exact ⟨v, h.symm⟩
theorem outs_bind {α : Type} {m : Sem α} {f : α → Sem Next} (hf : ∀ x, Outs P (f x)) : Outs P (m >>= f) := fun w n w' h => by
  rw [Sem.run_bind] at h
  cases hs : Sem.run P m w with
  | ok v w1 => rw [hs] at h; exact hf v w1 n w' h
  | halt x w1 => rw [hs] at h; simp [Result.andThen] at h
theorem outs_nil (x : Value) : Outs P (match x with
    | .pointer none | .nilIface | .nilFunc => runtimePanic .nilDeref
    | .func (.method name) first captured =>
      match (first[0]? : Option Value) with
      | some .nilIface => runtimePanic .nilDeref
      | some (.iface t w) => do
        if (← nilAhead ((← program).types.size + Made.depth) t w name) != some false then
          unsupported (.noEntry "op/nilCheck.the method's receiver behind this interface value is a nil pointer, or cannot be seen to be none, and the arguments act or may panic (ledger 612)")
        pure (.value (.func (.method name) first captured))
      | _ => pure (.value (.func (.method name) first captured))
    | x => pure (.value x)) := by
  have hp : Outs P (runtimePanic .nilDeref) := fun w n w' h => by simp [runtimePanic] at h
  split
  · exact hp
  · exact hp
  · exact hp
  · split
    · exact hp
    · refine outs_bind fun _ => outs_bind fun x => ?_
      show Outs P (if (x != some false) = true then _ else _)
      split
      · exact outs_bind fun _ => outs_pure _
      · exact outs_pure _
    · exact outs_pure _
  · exact outs_pure _

theorem plain_value {ρ : Operand → Value} {o : Oper} {w w' : World} {n : Next} (hp : plainB o = true) (h : (execOp ρ o).run P w = .ok n w') : ∃ v, n = .value v := by
  obtain ⟨dst, op, type, pos, after, guard⟩ := o
  cases op <;> simp only [plainB] at hp <;> simp only [execOp] at h
  case move x => simp only [Sem.run_pure] at h; injection h with h; exact ⟨_, h.symm⟩
  case assign x => simp only [Sem.run_pure] at h; injection h with h; exact ⟨_, h.symm⟩
  case pick c a b =>
    rw [Sem.run_bind] at h
    cases hs : Sem.run P (asBool (ρ c)) w with
    | ok v w1 =>
      rw [hs] at h
      simp [Result.andThen, Sem.run_pure] at h
      exact ⟨_, h.1.symm⟩
    | halt x w1 => rw [hs] at h; simp [Result.andThen] at h
  case nilCheck x =>
    exact outs_nil (ρ x) w n w' h
  case call c =>
    obtain ⟨callee, args, ats⟩ := c
    cases callee with
    | value f => cases hp
    | invoke r m => cases hp
    | builtin b =>
      simp only [resolve, Sem.run_bind, Sem.run_pure, Result.andThen_ok, invoke] at h
      cases b <;> first | (cases hp; done) | (simp only [builtin] at h; exact out_v h)
  all_goals first | exact out_v h | cases hp

theorem yc_of_quiet {o : Oper} {v : Value} {a : Act} (hp : plainB o = true) (hw : Region.wanted o (yielded ops a.tmps) = true) (h : ∀ w, C w → o.quietAt P a C w v) : YC P ops C o v a :=
  .inl ⟨hw, fun w hC => by
    have h1 := h w hC
    unfold Oper.quietAt at h1
    cases hr : (execOp a.eval o).run P w with
    | ok n w' =>
      rw [hr] at h1
      obtain ⟨u, rfl⟩ := plain_value hp hr
      obtain ⟨e1, e2⟩ := h1
      rw [e1, e2]
    | halt x w' => rw [hr] at h1; exact h1.elim⟩

/-- The walk of the text's order, over the operations themselves. -/
def wpL (P : Program) (ops : Array Oper) (C : World → Prop) (nz late : Nat → Bool) (Q : Act → World → Prop) : Nat → List Oper → Act → World → Prop
  | _, [], a, w => Q a w
  | k, o :: rest, a, w =>
    if nz k = true then
      (if Region.wanted o (yielded ops a.tmps) = true then o.wp P a w (fun a' w' => (late k = true → C w') ∧ wpL P ops C nz late Q (k + 1) rest a' w') (fun _ _ _ => False) else wpL P ops C nz late Q (k + 1) rest (a.put o.dst undef) w)
    else if Region.wanted o (yielded ops a.tmps) = true then o.quiet P a C (fun a' => wpL P ops C nz late Q (k + 1) rest a' w) else wpL P ops C nz late Q (k + 1) rest (a.put o.dst undef) w

theorem wpM_of_wpL (hpl : ∀ k o, ops[k]? = some o → nz k = false → plainB o = true) : ∀ (l : List Oper) (k : Nat) (a : Act) (w : World), (∀ j, l[j]? = ops[k + j]?) → wpL P ops C nz late Q k l a w → wpM P ops C nz late Q (List.range' k l.length) a w := by
  intro l
  induction l with
  | nil => intro k a w _ h; exact h
  | cons o rest ih =>
    intro k a w hl h
    have ho : ops[k]? = some o := by have := hl 0; simpa using this.symm
    have hl' : ∀ j, rest[j]? = ops[k + 1 + j]? := fun j => by have := hl (j + 1); simpa [Nat.add_assoc, Nat.add_comm 1 j] using this
    rw [List.length_cons, List.range'_succ]
    rw [wpL] at h
    cases hn : nz k with
    | true =>
      rw [hn, if_pos rfl] at h
      rw [wpM_nz ho hn]
      split
      · rename_i hw
        rw [if_pos hw] at h
        exact Oper.wp_mono (fun a' w' h3 => ⟨h3.1, ih _ _ _ hl' h3.2⟩) h
      · rename_i hw
        rw [if_neg hw] at h
        exact ih _ _ _ hl' h
    | false =>
      rw [hn, if_neg (by simp)] at h
      rw [wpM_det ho hn]
      split at h
      · rename_i hw
        obtain ⟨v, h1, h2⟩ := h
        exact ⟨v, yc_of_quiet (hpl k o ho hn) hw h1, ih _ _ _ hl' h2⟩
      · rename_i hw
        exact ⟨undef, .inr ⟨by simpa using hw, rfl⟩, ih _ _ _ hl' h⟩

/-- So many reads at once. -/
theorem wpL_reads (m : Nat) : ∀ {k : Nat} {l : List Oper} {a : Act} {w : World}, ((List.range m).all fun j => !nz (k + j)) = true → wpQuiet P ops C (fun a' => wpL P ops C nz late Q (k + m) (l.drop m) a' w) (l.take m) a → wpL P ops C nz late Q k l a w := by
  induction m with
  | zero => intro k l a w _ h; simpa [wpQuiet] using h
  | succ m ih =>
    intro k l a w hn h
    cases l with
    | nil =>
      simp only [List.take_nil, List.drop_nil, wpQuiet, wpL] at h
      exact h
    | cons o rest =>
      rw [List.all_eq_true] at hn
      have h0 : nz k = false := by have := hn 0 (by simp); simpa using this
      have hn' : ((List.range m).all fun j => !nz (k + 1 + j)) = true := by
        rw [List.all_eq_true]
        intro j hj
        have := hn (j + 1) (by simp at hj ⊢; exact hj)
        rwa [show k + (j + 1) = k + 1 + j by omega] at this
      rw [List.take_succ_cons, List.drop_succ_cons, show k + (m + 1) = k + 1 + m by omega] at h
      rw [wpL, h0, if_neg (by simp)]
      rw [wpQuiet] at h
      split at h
      · rename_i hw
        rw [if_pos hw]
        exact Oper.quiet_mono (fun a' h3 => ih hn' h3) h
      · rename_i hw
        rw [if_neg hw]
        exact ih hn' h
/-- An operation that is carried out. -/
theorem wpL_op {k : Nat} {o : Oper} {rest : List Oper} {a : Act} {w : World} (hn : nz k = true)
    (h : ∀ K : Act → World → Prop, (∀ a' w', (late k = true → C w') → wpL P ops C nz late Q (k + 1) rest a' w' → K a' w') → if Region.wanted o (yielded ops a.tmps) = true then o.wp P a w K (fun _ _ _ => False) else K (a.put o.dst undef) w) :
    wpL P ops C nz late Q k (o :: rest) a w := by
  rw [wpL, hn, if_pos rfl]
  by_cases hw : Region.wanted o (yielded ops a.tmps) = true
  · have := h (fun a' w' => (late k = true → C w') ∧ wpL P ops C nz late Q (k + 1) rest a' w') (fun _ _ h1 h2 => ⟨h1, h2⟩)
    rw [if_pos hw] at this ⊢
    exact this
  · have := h (fun a' w' => wpL P ops C nz late Q (k + 1) rest a' w') (fun _ _ _ h2 => h2)
    rw [if_neg hw] at this ⊢
    exact this
theorem wpL_end {k : Nat} {a : Act} {w : World} (h : Q a w) : wpL P ops C nz late Q k [] a w := h

/-- A world of a class, in one piece. -/
structure Cls (S : World → Prop) where
  val : World
  prop : S val
def Cl (S : World → Prop) (w : World) : Prop := ∃ i : Cls S, w = i.val
theorem cl {S : World → Prop} {w : World} (h : S w) : Cl S w := ⟨⟨w, h⟩, rfl⟩

def mixOk (ops : Array Oper) (nzs lates : List Nat) : Bool :=
  mixB ops (nzs.contains ·) && ((List.range ops.size).all fun i => match ops[i]? with | some o => nzs.contains i || plainB o | none => true) &&
  ((List.range ops.size).all fun i => !(nzs.contains i) || lates.contains i || !(lateB ops (nzs.contains ·) i))

theorem wpM_late {late' : Nat → Bool} (hl : ∀ i, i < ops.size → nz i = true → late' i = true → late i = true) : ∀ (rem : List Nat) (a : Act) (w : World), wpM P ops C nz late Q rem a w → wpM P ops C nz late' Q rem a w := by
  intro rem
  induction rem with
  | nil => intro a w h; exact h
  | cons i rest ih =>
    intro a w h
    cases ho : ops[i]? with
    | none => rw [wpM_none ho] at h ⊢; exact ih _ _ h
    | some o =>
      cases hn : nz i with
      | false =>
        rw [wpM_det ho hn] at h ⊢
        obtain ⟨v, h1, h2⟩ := h
        exact ⟨v, h1, ih _ _ h2⟩
      | true =>
        rw [wpM_nz ho hn] at h ⊢
        split at h
        · rename_i hw
          rw [if_pos hw]
          exact Oper.wp_mono (fun a' w' h3 => ⟨fun hh => h3.1 (hl i (Array.getElem?_eq_some_iff.1 ho).1 hn hh), ih _ _ h3.2⟩) h
        · rename_i hw
          rw [if_neg hw]
          exact ih _ _ h

/-- **One walk, in the order of the text, for a region that draws its order**: nzs: the operations that are carried out (in one forced order), lates: those of them that a read may come up behind. -/
theorem wp_region_mix {id : Nat} {R : Exit → Act → World → Prop} {a : Act} {w : World} {l : List Oper} (nzs lates : List Nat) (S : World → Prop) (hm : P.follows .mixedOrders = true) (hB : mixOk l.toArray nzs lates = true) (hS : S w.drew)
    (hh : Nonempty (Cls S) → wpL P l.toArray (fun w' => ∃ i : Cls S, w' = i.val) (nzs.contains ·) (lates.contains ·) (fun a' w' => R .normal a' w') 0 l a w.drew) : (Code.region id l.toArray true).wp P R a w := by
  have h := hh ⟨⟨_, hS⟩⟩
  unfold mixOk at hB
  rw [Bool.and_eq_true, Bool.and_eq_true] at hB
  obtain ⟨⟨hB, hpl⟩, hlt⟩ := hB
  rw [List.all_eq_true] at hpl hlt
  refine wp_region_any hm ?_
  have hplain : ∀ k o, l.toArray[k]? = some o → nzs.contains k = false → plainB o = true := fun k o ho hn => by
    have hk : k < l.toArray.size := (Array.getElem?_eq_some_iff.1 ho).1
    have := hpl k (List.mem_range.2 hk)
    rw [ho] at this
    simp only [hn, Bool.false_or] at this
    exact this
  have h1 := wpM_of_wpL hplain l 0 a w.drew (by simp) h
  have h2 := wpM_late (late' := lateB l.toArray (nzs.contains ·)) (fun i hi hn hh => by
    have := hlt i (List.mem_range.2 hi)
    rw [hn, hh] at this
    simpa using this) _ _ _ h1
  refine mix_any (Q := fun a' w' => R .normal a' w') (nz := (nzs.contains ·)) (C := Cl S) hB (fun a w h => h) _ (List.range' 0 l.length) _ a _ ⟨by simp, ?_, fun i => ?_, fun j o _ hj => ?_⟩ (by simp) (fun _ => cl hS) h2
  · exact List.pairwise_lt_range' ..
  · simp only [List.mem_range', List.size_toArray]
    constructor
    · rintro ⟨k, hk, rfl⟩
      have h5 : k < l.length := hk
      refine ⟨by omega, ?_⟩
      rw [show 0 + 1 * k = k by omega]
      simp [h5]
    · rintro ⟨hi, _⟩
      exact ⟨i, hi, by omega⟩
  · exfalso
    rcases Nat.lt_or_ge j l.length with h3 | h3
    · simp [h3] at hj
    · simp [h3] at hj
end
end Go.Proofs.Ytmheofkakcomdaa.Mif

namespace Go.Proofs.Ytmheofkakcomdaa.Mxg
open Go Mif

inductive Tr where
  | leaf
  | det (i : Nat) (t : Tr)
  | op (i : Nat) (t : Tr)
  | fork (s t : Tr)

section
variable {P : Program} {ops : Array Oper} {C : World → Prop} {nz late : Nat → Bool} {Q : Act → World → Prop}

def wpT (P : Program) (ops : Array Oper) (C : World → Prop) (late : Nat → Bool) (Q : Act → World → Prop) : Tr → Act → World → Prop
  | .leaf, a, w => Q a w
  | .det i t, a, w => ∃ o, ops[i]? = some o ∧ ∃ v, YC P ops C o v a ∧ wpT P ops C late Q t (a.put o.dst v) w
  | .op i t, a, w => ∃ o, ops[i]? = some o ∧ (if Region.wanted o (yielded ops a.tmps) = true then o.wp P a w (fun a' w' => (late i = true → C w') ∧ wpT P ops C late Q t a' w') (fun _ _ _ => False) else wpT P ops C late Q t (a.put o.dst undef) w)
  | .fork s t, a, w => wpT P ops C late Q s a w ∧ wpT P ops C late Q t a w

/-- Without the read i. -/
def Tr.del (i : Nat) : Tr → Tr
  | .leaf => .leaf
  | .det j t => if j = i then t else .det j (t.del i)
  | .op j t => .op j (t.del i)
  | .fork s t => .fork (s.del i) (t.del i)
/-- What is left where i is the first one to be carried out. -/
def Tr.sel (i : Nat) : Tr → Option Tr
  | .leaf => none
  | .det j t => (t.sel i).map (.det j)
  | .op j t => if j = i then some t else none
  | .fork s t => match s.sel i with
    | some x => some x
    | none => t.sel i
/-- Ahead of the read i, on each way. -/
def Ahd (ok : Nat → Bool → Prop) (i : Nat) : Tr → Prop
  | .leaf => False
  | .det j t => j = i ∨ (j ≠ i ∧ ok j false ∧ Ahd ok i t)
  | .op j t => ok j true ∧ Ahd ok i t
  | .fork s t => Ahd ok i s ∧ Ahd ok i t
/-- The reads ahead of the first one to be carried out. -/
def Sok (ok : Nat → Prop) : Tr → Prop
  | .leaf => True
  | .det j t => ok j ∧ Sok ok t
  | .op _ _ => True
  | .fork s t => Sok ok s ∧ Sok ok t

theorem hoistT (hsel : ∀ (j : Nat) (o : Oper) cs b, ops[j]? = some o → o.op ≠ .select cs b) {i : Nat} {oi : Oper} (hi : ops[i]? = some oi) :
    ∀ (T : Tr) (a : Act) (w : World), C w → Ahd (fun p b => ∀ op, ops[p]? = some op → Free ops op oi ∧ (b = true → late p = true)) i T →
    wpT P ops C late Q T a w → ∃ v, YC P ops C oi v a ∧ wpT P ops C late Q (T.del i) (a.put oi.dst v) w := by
  intro T
  induction T with
  | leaf => intro a w _ h; exact h.elim
  | det p t ih =>
    intro a w hC hA h
    obtain ⟨op, hp, vp, hy, h⟩ := h
    rcases hA with e | ⟨hne, hok, hA⟩
    · subst e
      rw [hi] at hp
      injection hp with hp
      subst hp
      exact ⟨vp, hy, by rw [Tr.del, if_pos rfl]; exact h⟩
    · obtain ⟨f1, f2, f3⟩ := Oper.apart_spec (hok op hp).1
      have f2' : ∀ d, oi.dst = some d → op.dst ≠ some d := fun d h1 h2 => f2 d h2 h1
      obtain ⟨v, h1, h2⟩ := ih _ w hC hA h
      refine ⟨v, h1.unput (hsel i oi · · hi) f1, ?_⟩
      rw [Tr.del, if_neg hne]
      refine ⟨op, hp, vp, hy.put (hsel p op · · hp) f3, ?_⟩
      rw [Act.put_comm a v vp f2']
      exact h2
  | op p t ih =>
    intro a w hC hA h
    obtain ⟨hok, hA⟩ := hA
    obtain ⟨op, hp, h⟩ := h
    obtain ⟨hfr, hlate⟩ := hok op hp
    obtain ⟨f1, f2, f3⟩ := Oper.apart_spec hfr
    have f2' : ∀ d, oi.dst = some d → op.dst ≠ some d := fun d h1 h2 => f2 d h2 h1
    by_cases hw : Region.wanted op (yielded ops a.tmps) = true
    · rw [if_pos hw] at h
      obtain ⟨a1, w1, ⟨hC1, hm⟩, u1, b1, rfl, hb1⟩ := wp_ex (wp_strong h)
      have hCw := hC1 (hlate rfl)
      obtain ⟨v, h1, _⟩ := ih _ w1 hCw hA hm
      have hya : YC P ops C oi v a := (h1.unput (hsel i oi · · hi) f1).of_same (by unfold Act.eval; rw [hb1]) (by rw [hb1])
      refine ⟨v, hya, ?_⟩
      rw [Tr.del]
      refine ⟨op, hp, ?_⟩
      rw [if_pos (by rw [wanted_put op a oi.dst v f3]; exact hw)]
      refine wp_put (ops := ops) (hsel p op · · hp) f3 f2' ?_
      refine Oper.wp_mono (fun a' w' h3 => ?_) (wp_strong h)
      obtain ⟨⟨hC', hm'⟩, u, b, rfl, hb⟩ := h3
      refine ⟨hC', ?_⟩
      obtain ⟨v', h5, h6⟩ := ih _ w' (hC' (hlate rfl)) hA hm'
      have hyb : YC P ops C oi v' a := (h5.unput (hsel i oi · · hi) f1).of_same (by unfold Act.eval; rw [hb]) (by rw [hb])
      obtain rfl := YC.uniq hCw hya hyb
      exact h6
    · rw [if_neg hw] at h
      obtain ⟨v, h1, h2⟩ := ih _ w hC hA h
      refine ⟨v, h1.unput (hsel i oi · · hi) f1, ?_⟩
      rw [Tr.del]
      refine ⟨op, hp, ?_⟩
      rw [if_neg (by rw [wanted_put op a oi.dst v f3]; exact hw), Act.put_comm a v undef f2']
      exact h2
  | fork s t ihs iht =>
    intro a w hC hA h
    obtain ⟨v, h1, h2⟩ := ihs a w hC hA.1 h.1
    obtain ⟨v', h3, h4⟩ := iht a w hC hA.2 h.2
    obtain rfl := YC.uniq hC h1 h3
    exact ⟨v, h1, h2, h4⟩

theorem sinkT (hsel : ∀ (j : Nat) (o : Oper) cs b, ops[j]? = some o → o.op ≠ .select cs b) {i : Nat} {oi : Oper} (hi : ops[i]? = some oi) :
    ∀ (T T' : Tr) (a : Act) (w : World), T.sel i = some T' → Sok (fun p => ∀ op, ops[p]? = some op → Free ops op oi) T → wpT P ops C late Q T a w → wpT P ops C late Q (.op i T') a w := by
  intro T
  induction T with
  | leaf => intro T' a w h; cases h
  | det p t ih =>
    intro T' a w hs hok h
    rw [Tr.sel] at hs
    cases ht : t.sel i with
    | none => rw [ht] at hs; cases hs
    | some t' =>
      rw [ht] at hs
      injection hs with hs
      subst hs
      obtain ⟨op, hp, vp, hy, h⟩ := h
      obtain ⟨f1, f2, f3⟩ := Oper.apart_spec (hok.1 op hp)
      obtain ⟨oi', hi', h2⟩ := ih t' _ w ht hok.2 h
      rw [hi] at hi'
      injection hi' with hi'
      subst hi'
      refine ⟨oi, hi, ?_⟩
      by_cases hw : Region.wanted oi (yielded ops a.tmps) = true
      · rw [if_pos (by rw [wanted_put oi a op.dst vp f1]; exact hw)] at h2
        rw [if_pos hw]
        have f2' : ∀ d, op.dst = some d → oi.dst ≠ some d := fun d h1 h2 => f2 d h1 h2
        refine Oper.wp_mono (fun a' w' h3 => ?_) (wp_strong (wp_unput (ops := ops) (hsel i oi · · hi) f1 f2' h2))
        obtain ⟨⟨hC', hm'⟩, u, b, rfl, hb⟩ := h3
        refine ⟨hC', op, hp, vp, ?_, hm'⟩
        exact YC.put (hsel p op · · hp) f3 (hy.of_same (by unfold Act.eval; rw [hb]) (by rw [hb]))
      · rw [if_neg (by rw [wanted_put oi a op.dst vp f1]; exact hw)] at h2
        rw [if_neg hw]
        refine ⟨op, hp, vp, hy.put (hsel p op · · hp) f3, ?_⟩
        have f2' : ∀ d, oi.dst = some d → op.dst ≠ some d := fun d h1 h2 => f2 d h2 h1
        rw [Act.put_comm a undef vp f2']
        exact h2
  | op p t ih =>
    intro T' a w hs _ h
    rw [Tr.sel] at hs
    split at hs
    · rename_i e
      subst e
      injection hs with hs
      subst hs
      exact h
    · cases hs
  | fork s t ihs iht =>
    intro T' a w hs hok h
    rw [Tr.sel] at hs
    cases hx : s.sel i with
    | some x =>
      rw [hx] at hs
      injection hs with hs
      subst hs
      exact ihs x a w hx hok.1 h.1
    | none =>
      rw [hx] at hs
      exact iht T' a w hs hok.2 h.2

/-! ### which trees serve -/
def deps (ops : Array Oper) (j : Nat) (L : Nat → Prop) : Prop := ∀ o, ops[j]? = some o → ∀ e ∈ o.after, Region.binds .any e = true → L e.on
def Val (ops : Array Oper) (nz : Nat → Bool) : Tr → (Nat → Prop) → Nat → Prop
  | .leaf, L, m => m = 0 ∧ ∀ k, k < ops.size → L k
  | .det j t, L, m => j < ops.size ∧ nz j = false ∧ ¬ L j ∧ deps ops j L ∧ ∃ m', m = m' + 1 ∧ Val ops nz t (fun k => L k ∨ k = j) m'
  | .op j t, L, m => j < ops.size ∧ nz j = true ∧ ¬ L j ∧ deps ops j L ∧ ∃ m', m = m' + 1 ∧ Val ops nz t (fun k => L k ∨ k = j) m'
  | .fork s t, L, m => Val ops nz s L m ∧ Val ops nz t L m
theorem Val.congr {T : Tr} {L L' : Nat → Prop} {m : Nat} (h : Val ops nz T L m) (he : ∀ k, L k ↔ L' k) : Val ops nz T L' m := by
  have : L = L' := funext fun k => propext (he k)
  rwa [← this]
theorem deps.more {j : Nat} {L L' : Nat → Prop} (h : deps ops j L) (hL : ∀ k, L k → L' k) : deps ops j L' := fun o ho e he hb => hL _ (h o ho e he hb)
theorem Val.zero : ∀ {T : Tr} {L : Nat → Prop}, Val ops nz T L 0 → (∀ k, k < ops.size → L k)
  | .leaf, L, h => h.2
  | .det j t, L, h => by obtain ⟨_, _, _, _, m, hm, _⟩ := h; omega
  | .op j t, L, h => by obtain ⟨_, _, _, _, m, hm, _⟩ := h; omega
  | .fork s t, L, h => Val.zero h.1
theorem Val.done : ∀ {T : Tr} {L : Nat → Prop}, Val ops nz T L 0 → ∀ a w, wpT P ops C late Q T a w → Q a w
  | .leaf, L, h, a, w, hw => hw
  | .det j t, L, h, _, _, _ => by obtain ⟨_, _, _, _, m, hm, _⟩ := h; omega
  | .op j t, L, h, _, _, _ => by obtain ⟨_, _, _, _, m, hm, _⟩ := h; omega
  | .fork s t, L, h, a, w, hw => Val.done h.1 a w hw.1
theorem Val.first : ∀ {T : Tr} {L : Nat → Prop} {m : Nat}, Val ops nz T L (m + 1) → ∃ i, i < ops.size ∧ ¬ L i ∧ deps ops i L
  | .leaf, L, m, h => by cases h.1
  | .det j t, L, m, h => ⟨j, h.1, h.2.2.1, h.2.2.2.1⟩
  | .op j t, L, m, h => ⟨j, h.1, h.2.2.1, h.2.2.2.1⟩
  | .fork s t, L, m, h => Val.first h.1
theorem Val.del {i : Nat} (hn : nz i = false) (hi : i < ops.size) : ∀ {T : Tr} {L : Nat → Prop} {m : Nat}, Val ops nz T L (m + 1) → ¬ L i → Val ops nz (T.del i) (fun k => L k ∨ k = i) m
  | .leaf, L, m, h, _ => by cases h.1
  | .det j t, L, m, h, hu => by
    obtain ⟨h1, h2, h3, h4, m', hm, h5⟩ := h
    obtain rfl : m = m' := by omega
    rw [Tr.del]
    split
    · rename_i e; subst e; exact h5
    · rename_i e
      cases m with
      | zero =>
        have := Val.zero h5 i hi
        rcases this with h | h
        · exact absurd h hu
        · exact absurd h.symm e
      | succ m =>
        refine ⟨h1, h2, fun h => h.elim h3 e, h4.more fun k hk => .inl hk, m, rfl, ?_⟩
        exact (Val.del hn hi h5 (fun h => h.elim hu fun h => e h.symm)).congr fun k => by constructor <;> (rintro ((h | h) | h) <;> simp [h])
  | .op j t, L, m, h, hu => by
    obtain ⟨h1, h2, h3, h4, m', hm, h5⟩ := h
    obtain rfl : m = m' := by omega
    have e : j ≠ i := by rintro rfl; rw [hn] at h2; cases h2
    rw [Tr.del]
    cases m with
    | zero =>
      have := Val.zero h5 i hi
      rcases this with h | h
      · exact absurd h hu
      · exact absurd h.symm e
    | succ m =>
      refine ⟨h1, h2, fun h => h.elim h3 e, h4.more fun k hk => .inl hk, m, rfl, ?_⟩
      exact (Val.del hn hi h5 (fun h => h.elim hu fun h => e h.symm)).congr fun k => by constructor <;> (rintro ((h | h) | h) <;> simp [h])
  | .fork s t, L, m, h, hu => ⟨Val.del hn hi h.1 hu, Val.del hn hi h.2 hu⟩
theorem Val.sel {i : Nat} (hn : nz i = true) : ∀ {T T' : Tr} {L : Nat → Prop} {m : Nat}, T.sel i = some T' → Val ops nz T L (m + 1) → Val ops nz T' (fun k => L k ∨ k = i) m
  | .leaf, T', L, m, hs, h => by cases hs
  | .det j t, T', L, m, hs, h => by
    obtain ⟨h1, h2, h3, h4, m', hm, h5⟩ := h
    obtain rfl : m = m' := by omega
    have e : j ≠ i := by rintro rfl; rw [hn] at h2; cases h2
    rw [Tr.sel] at hs
    cases ht : t.sel i with
    | none => rw [ht] at hs; cases hs
    | some t' =>
      rw [ht] at hs
      injection hs with hs
      subst hs
      cases m with
      | zero =>
        exfalso
        clear h1 h2 h3 h4 e
        revert ht h5
        generalize (fun k => L k ∨ k = j) = L'
        intro ht h5
        induction t generalizing L' t' with
        | leaf => cases ht
        | det p t ih => obtain ⟨_, _, _, _, m, hm, _⟩ := h5; omega
        | op p t ih => obtain ⟨_, _, _, _, m, hm, _⟩ := h5; omega
        | fork s t ihs iht =>
          rw [Tr.sel] at ht
          cases hx : s.sel i with
          | some x => exact ihs x L' hx h5.1
          | none => rw [hx] at ht; exact iht t' L' ht h5.2
      | succ m =>
        refine ⟨h1, h2, fun h => h.elim h3 e, h4.more fun k hk => .inl hk, m, rfl, ?_⟩
        exact (Val.sel hn ht h5).congr fun k => by constructor <;> (rintro ((h | h) | h) <;> simp [h])
  | .op j t, T', L, m, hs, h => by
    obtain ⟨h1, h2, h3, h4, m', hm, h5⟩ := h
    obtain rfl : m = m' := by omega
    rw [Tr.sel] at hs
    split at hs
    · rename_i e
      subst e
      injection hs with hs
      subst hs
      exact h5
    · cases hs
  | .fork s t, T', L, m, hs, h => by
    rw [Tr.sel] at hs
    cases hx : s.sel i with
    | some x =>
      rw [hx] at hs
      injection hs with hs
      subst hs
      exact Val.sel hn hx h.1
    | none =>
      rw [hx] at hs
      exact Val.sel hn hs h.2

/-- Every order of what is carried out has its way. -/
def covB (ops : Array Oper) (nzs : List Nat) : Nat → List Nat → Tr → Bool
  | 0, H, _ => nzs.all fun i => H.contains i
  | f + 1, H, T => nzs.all fun i => H.contains i || (nzs.any fun k => anc ops i k && !(H.contains k)) || (match T.sel i with | some T' => covB ops nzs f (i :: H) T' | none => false)
theorem sel_del {r i : Nat} (hr : r ≠ i) : ∀ T : Tr, (T.del r).sel i = (T.sel i).map (Tr.del r)
  | .leaf => rfl
  | .det j t => by
    rw [Tr.del]
    split
    · rename_i e
      subst e
      rw [Tr.sel]
      cases ht : t.sel i with
      | none => rfl
      | some t' => simp [Tr.del]
    · rename_i e
      rw [Tr.sel, Tr.sel, sel_del hr t]
      cases ht : t.sel i with
      | none => rfl
      | some t' => simp [Tr.del, e]
  | .op j t => by
    rw [Tr.del, Tr.sel, Tr.sel]
    split <;> rfl
  | .fork s t => by
    rw [Tr.del, Tr.sel, Tr.sel, sel_del hr s, sel_del hr t]
    cases hx : s.sel i with
    | some x => rfl
    | none => rfl
theorem cov_del {nzs : List Nat} {r : Nat} (hr : r ∉ nzs) : ∀ (f : Nat) (H : List Nat) (T : Tr), covB ops nzs f H T = true → covB ops nzs f H (T.del r) = true
  | 0, H, T, h => h
  | f + 1, H, T, h => by
    rw [covB, List.all_eq_true] at h ⊢
    intro i hi
    have := h i hi
    rw [Bool.or_eq_true] at this ⊢
    rcases this with h1 | h1
    · exact .inl h1
    · right
      have hri : r ≠ i := fun e => hr (e ▸ hi)
      rw [sel_del hri]
      cases hx : T.sel i with
      | none => rw [hx] at h1; cases h1
      | some T' => rw [hx] at h1; exact cov_del hr f _ T' h1

/-! ### the theorem -/
def Down (ops : Array Oper) (L : Nat → Prop) : Prop := ∀ j, L j → deps ops j L
theorem Down.anc {L : Nat → Prop} (hd : Down ops L) : ∀ (f j i : Nat), deps ops j L → ancF ops f j i = true → L i := by
  intro f
  induction f with
  | zero => intro j i _ h; simp [ancF] at h
  | succ f ih =>
    intro j i hj h
    rw [ancF] at h
    cases ho : ops[j]? with
    | none => rw [ho] at h; cases h
    | some o =>
      rw [ho] at h
      simp only [Array.any_eq_true'] at h
      obtain ⟨e, he, h⟩ := h
      rw [Bool.and_eq_true, Bool.or_eq_true] at h
      have hl := hj o ho e he h.1
      rcases h.2 with h2 | h2
      · rw [beq_iff_eq] at h2; rwa [← h2]
      · exact ih e.on i (hd _ hl) h2
theorem Down.put {L : Nat → Prop} {j : Nat} (hd : Down ops L) (hj : deps ops j L) : Down ops (fun k => L k ∨ k = j) := fun k hk => by
  rcases hk with h | rfl
  · exact (hd k h).more fun _ h => .inl h
  · exact hj.more fun _ h => .inl h

def dirB (ops : Array Oper) (j i : Nat) : Bool := match ops[j]? with
  | none => false
  | some o => o.after.any fun e => Region.binds .any e && (e.on == i)
theorem anc_of_dir {j i : Nat} (h : dirB ops j i = true) : anc ops j i = true := by
  unfold dirB at h
  cases ho : ops[j]? with
  | none => rw [ho] at h; cases h
  | some o =>
    rw [ho] at h
    have hj : j < ops.size := (Array.getElem?_eq_some_iff.1 ho).1
    unfold anc
    obtain ⟨n, hn⟩ : ∃ n, ops.size = n + 1 := ⟨ops.size - 1, by omega⟩
    rw [hn, ancF, ho]
    simp only [Array.any_eq_true'] at h ⊢
    obtain ⟨e, he, h⟩ := h
    rw [Bool.and_eq_true] at h
    exact ⟨e, he, by rw [Bool.and_eq_true, Bool.or_eq_true]; exact ⟨h.1, .inl h.2⟩⟩
def pairsB (ops : Array Oper) (nz : Nat → Bool) : Bool :=
  (List.range ops.size).all fun j => (List.range ops.size).all fun i => decide (i = j) || (nz i && nz j) || (match ops[i]?, ops[j]? with | some oi, some oj => oi.apart ops oj | _, _ => true) || dirB ops i j || dirB ops j i || anc ops i j || anc ops j i
def latesB (ops : Array Oper) (nz late : Nat → Bool) : Bool :=
  (List.range ops.size).all fun p => !(nz p) || late p || (List.range ops.size).all fun k => nz k || anc ops p k

theorem ahd_of (hP : ∀ i j oi oj, ops[i]? = some oi → ops[j]? = some oj → i ≠ j → ¬ (nz i = true ∧ nz j = true) → anc ops i j = false → anc ops j i = false → Free ops oi oj)
    (hlt : ∀ p k, p < ops.size → k < ops.size → nz p = true → nz k = false → anc ops p k = false → late p = true) {i : Nat} {oi : Oper} (hi : ops[i]? = some oi) (hni : nz i = false) (hil : i < ops.size) :
    ∀ (T : Tr) (L : Nat → Prop) (m : Nat), Val ops nz T L m → Down ops L → deps ops i L → ¬ L i → Ahd (fun p b => ∀ op, ops[p]? = some op → Free ops op oi ∧ (b = true → late p = true)) i T := by
  intro T
  induction T with
  | leaf => intro L m h _ _ hu; exact absurd (h.2 i hil) hu
  | det j t ih =>
    intro L m h hd hi2 hu
    obtain ⟨h1, h2, h3, h4, m', hm, h5⟩ := h
    by_cases e : j = i
    · exact .inl e
    · right
      have a1 : anc ops i j = false := by
        cases h : anc ops i j with
        | false => rfl
        | true => exact absurd (hd.anc _ i j hi2 h) h3
      have a2 : anc ops j i = false := by
        cases h : anc ops j i with
        | false => rfl
        | true => exact absurd (hd.anc _ j i h4 h) hu
      exact ⟨e, fun op hop => ⟨hP j i op oi hop hi e (by simp [hni]) a2 a1, by simp⟩, ih _ m' h5 (hd.put h4) (hi2.more fun _ h => .inl h) (fun h => h.elim hu fun h => e h.symm)⟩
  | op j t ih =>
    intro L m h hd hi2 hu
    obtain ⟨h1, h2, h3, h4, m', hm, h5⟩ := h
    have e : j ≠ i := by rintro rfl; rw [hni] at h2; cases h2
    have a1 : anc ops i j = false := by
      cases h : anc ops i j with
      | false => rfl
      | true => exact absurd (hd.anc _ i j hi2 h) h3
    have a2 : anc ops j i = false := by
      cases h : anc ops j i with
      | false => rfl
      | true => exact absurd (hd.anc _ j i h4 h) hu
    exact ⟨fun op hop => ⟨hP j i op oi hop hi e (by simp [hni]) a2 a1, fun _ => hlt j i h1 hil h2 hni a2⟩, ih _ m' h5 (hd.put h4) (hi2.more fun _ h => .inl h) (fun h => h.elim hu fun h => e h.symm)⟩
  | fork s t ihs iht =>
    intro L m h hd hi2 hu
    exact ⟨ihs L m h.1 hd hi2 hu, iht L m h.2 hd hi2 hu⟩
theorem sok_of (hP : ∀ i j oi oj, ops[i]? = some oi → ops[j]? = some oj → i ≠ j → ¬ (nz i = true ∧ nz j = true) → anc ops i j = false → anc ops j i = false → Free ops oi oj)
    {i : Nat} {oi : Oper} (hi : ops[i]? = some oi) (hni : nz i = true) :
    ∀ (T : Tr) (L : Nat → Prop) (m : Nat), Val ops nz T L m → Down ops L → deps ops i L → ¬ L i → Sok (fun p => ∀ op, ops[p]? = some op → Free ops op oi) T := by
  intro T
  induction T with
  | leaf => intro L m h _ _ hu; trivial
  | det j t ih =>
    intro L m h hd hi2 hu
    obtain ⟨h1, h2, h3, h4, m', hm, h5⟩ := h
    have e : j ≠ i := by rintro rfl; rw [hni] at h2; cases h2
    have a1 : anc ops i j = false := by
      cases h : anc ops i j with
      | false => rfl
      | true => exact absurd (hd.anc _ i j hi2 h) h3
    have a2 : anc ops j i = false := by
      cases h : anc ops j i with
      | false => rfl
      | true => exact absurd (hd.anc _ j i h4 h) hu
    exact ⟨fun op hop => hP j i op oi hop hi e (by simp [h2]) a2 a1, ih _ m' h5 (hd.put h4) (hi2.more fun _ h => .inl h) (fun h => h.elim hu fun h => e h.symm)⟩
  | op j t ih => intro L m h _ _ _; trivial
  | fork s t ihs iht =>
    intro L m h hd hi2 hu
    exact ⟨ihs L m h.1 hd hi2 hu, iht L m h.2 hd hi2 hu⟩

theorem tree_any {Q' : Exit → Act → World → Prop} {nzs : List Nat} (hns : Region.noSelect ops = true) (hnz : ∀ i, nz i = true ↔ i ∈ nzs) (hQ : ∀ a w, Q a w → Q' .normal a w)
    (hP : ∀ i j oi oj, ops[i]? = some oi → ops[j]? = some oj → i ≠ j → ¬ (nz i = true ∧ nz j = true) → anc ops i j = false → anc ops j i = false → Free ops oi oj)
    (hlt : ∀ p k, p < ops.size → k < ops.size → nz p = true → nz k = false → anc ops p k = false → late p = true) :
    ∀ (fuel : Nat) (T : Tr) (listed : Array Bool) (a : Act) (w : World) (f : Nat) (H : List Nat), listed.size = ops.size → Val ops nz T (fun k => listed.getD k false = true) fuel → Down ops (fun k => listed.getD k false = true) →
    covB ops nzs f H T = true → (∀ i, i ∈ nzs → (i ∈ H ↔ listed.getD i false = true)) → ((∃ j, j < ops.size ∧ listed.getD j false = false ∧ nz j = false) → C w) →
    wpT P ops C late Q T a w → wpAny P .any ops Q' fuel listed a w := by
  have hsel := Region.noSelect_spec hns
  intro fuel
  induction fuel with
  | zero =>
    intro T listed a w f H hz hV hd hc hH hC h
    refine ⟨?_, hQ _ _ (Val.done hV a w h)⟩
    rw [List.eq_nil_iff_forall_not_mem]
    intro i hi
    rw [mem_ready] at hi
    obtain ⟨h0, o, ho, _⟩ := hi
    have hil : i < ops.size := (Array.getElem?_eq_some_iff.1 ho).1
    have := Val.zero hV i hil
    rw [getD_flip (by rw [hz]; exact hil)] at h0
    rw [h0] at this
    cases this
  | succ fuel ih =>
    intro T listed a w f H hz hV hd hc hH hC h
    have flip : ∀ i, i < ops.size → listed.getD i true = listed.getD i false := fun i hi => getD_flip (by rw [hz]; exact hi)
    refine ⟨fun hnil => ?_, fun i hi => ?_⟩
    · obtain ⟨i, hil, hu, hdp⟩ := hV.first
      have : i ∈ Region.ready .any ops listed := by
        rw [mem_ready]
        refine ⟨by rw [flip i hil]; exact Bool.eq_false_iff.2 hu, ops[i], Array.getElem?_eq_getElem hil, fun e he hb => hdp _ (Array.getElem?_eq_getElem hil) e he hb⟩
      rw [hnil] at this
      cases this
    · obtain ⟨hiu, oi, hoi, hall⟩ := mem_ready.1 hi
      have hil : i < ops.size := (Array.getElem?_eq_some_iff.1 hoi).1
      rw [flip i hil] at hiu
      have hu : ¬ (listed.getD i false = true) := by rw [hiu]; simp
      have hdp : deps ops i (fun k => listed.getD k false = true) := fun o ho e he hb => by
        rw [hoi] at ho
        injection ho with ho
        subst ho
        exact hall e he hb
      have hset : ∀ k, ((listed.getD k false = true) ∨ k = i) ↔ (listed.setIfInBounds i true).getD k false = true := fun k => by
        by_cases e : k = i
        · subst e; simp [hz, hil]
        · rw [getD_set_ne false (Ne.symm e)]; simp [e]
      have hd' : Down ops (fun k => (listed.setIfInBounds i true).getD k false = true) := by
        have := hd.put hdp
        have e : (fun k => (listed.getD k false = true) ∨ k = i) = (fun k => (listed.setIfInBounds i true).getD k false = true) := funext fun k => propext (hset k)
        rwa [e] at this
      have hz' : (listed.setIfInBounds i true).size = ops.size := by simpa using hz
      have hsub : ∀ j, (listed.setIfInBounds i true).getD j false = false → listed.getD j false = false := fun j hj => by
        cases h : listed.getD j false with
        | false => rfl
        | true => rw [((hset j).1 (.inl h))] at hj; cases hj
      cases hn : nz i with
      | false =>
        have hCw := hC ⟨i, hil, hiu, hn⟩
        obtain ⟨v, hy, hm⟩ := hoistT hsel hoi T a w hCw (ahd_of hP hlt hoi hn hil T _ _ hV hd hdp hu) h
        have hin : i ∉ nzs := fun h => by rw [(hnz i).2 h] at hn; cases hn
        have hgo := ih (T.del i) (listed.setIfInBounds i true) (a.put oi.dst v) w f H hz' ((hV.del hn hil hu).congr hset) hd' (cov_del hin f H T hc)
          (fun k hk => by rw [hH k hk, ← hset k]; constructor; exact .inl; rintro (h | h); exact h; exact absurd (h ▸ hk) hin) (fun _ => hCw) hm
        unfold wpOp
        rw [hoi]
        rcases hy with ⟨hw, hv⟩ | ⟨hw, rfl⟩
        · simp only [hw, if_true, Oper.wp, hv w hCw, Oper.upon]; exact .inl hgo
        · simp only [hw, Bool.false_eq_true, if_false]; exact hgo
      | true =>
        have hin := (hnz i).1 hn
        have hiH : i ∉ H := fun h => hu ((hH i hin).1 h)
        obtain ⟨T', hT', f', hc'⟩ : ∃ T', T.sel i = some T' ∧ ∃ f', covB ops nzs f' (i :: H) T' = true := by
          cases f with
          | zero =>
            rw [covB, List.all_eq_true] at hc
            have := hc i hin
            simp at this
            exact absurd this hiH
          | succ f =>
            rw [covB, List.all_eq_true] at hc
            have := hc i hin
            rw [Bool.or_eq_true, Bool.or_eq_true] at this
            rcases this with (h1 | h1) | h1
            · simp at h1; exact absurd h1 hiH
            · rw [List.any_eq_true] at h1
              obtain ⟨k, hk, h2⟩ := h1
              rw [Bool.and_eq_true] at h2
              have h3 : listed.getD k false = true := hd.anc _ i k hdp h2.1
              have h4 := (hH k hk).2 h3
              simp [h4] at h2
            · cases hx : T.sel i with
              | none => rw [hx] at h1; cases h1
              | some T' => rw [hx] at h1; exact ⟨T', rfl, f, h1⟩
        obtain ⟨oi', hoi', hm⟩ := sinkT hsel hoi T T' a w hT' (sok_of hP hoi hn T _ _ hV hd hdp hu) h
        rw [hoi] at hoi'
        injection hoi' with hoi'
        subst hoi'
        have hV' := (hV.sel hn hT').congr hset
        have hH' : ∀ k, k ∈ nzs → (k ∈ i :: H ↔ (listed.setIfInBounds i true).getD k false = true) := fun k hk => by
          rw [← hset k, List.mem_cons, hH k hk]
          exact Or.comm
        have hlate : (∃ j, j < ops.size ∧ (listed.setIfInBounds i true).getD j false = false ∧ nz j = false) → late i = true := fun ⟨j, hj, hju, hnj⟩ => by
          refine hlt i j hil hj hn hnj ?_
          cases h : anc ops i j with
          | false => rfl
          | true => have := hd.anc _ i j hdp h; rw [hsub j hju] at this; cases this
        unfold wpOp
        rw [hoi]
        by_cases hw : Region.wanted oi (yielded ops a.tmps) = true
        · rw [if_pos hw] at hm
          simp only [hw, if_true]
          refine .inl ?_
          have hmm := Oper.wp_mono (K' := wpAny P .any ops Q' fuel (listed.setIfInBounds i true)) (fun a' w' h3 => ih T' _ a' w' f' (i :: H) hz' hV' hd' hc' hH' (fun hx => h3.1 (hlate hx)) h3.2) hm
          unfold Oper.wp at hmm ⊢
          generalize (execOp a.eval oi).run P w = r at *
          cases r with
          | ok n w' =>
            cases n <;> simp only [Oper.upon] at hmm ⊢ <;> first
              | exact hmm
              | exact Calls.mono hmm (fun e w'' he => by
                  cases e with
                  | returned u => exact he
                  | panicked c => exact he.elim
                  | outgrown => obtain ⟨_, _, hf⟩ := he; exact hf.elim)
          | halt x w' => cases x <;> simp only [Oper.upon] at hmm
        · rw [if_neg hw] at hm
          simp only [hw, if_false]
          exact ih T' _ _ w f' (i :: H) hz' hV' hd' hc' hH' (fun ⟨j, hj, hju, hnj⟩ => hC ⟨j, hj, hsub j hju, hnj⟩) hm

/-! ### at a region that is written out -/
inductive Tq where
  | leaf
  | reads (is : List Nat) (t : Tq)
  | op (i : Nat) (t : Tq)
  | fork (s t : Tq)
def Tq.tr : Tq → Tr
  | .leaf => .leaf
  | .reads is t => is.foldr .det t.tr
  | .op i t => .op i t.tr
  | .fork s t => .fork s.tr t.tr
def wpTL (P : Program) (l : List Oper) (C : World → Prop) (late : Nat → Bool) (Q : Act → World → Prop) : Tq → Act → World → Prop
  | .leaf, a, w => Q a w
  | .reads is t, a, w => wpQuiet P l.toArray C (fun a' => wpTL P l C late Q t a' w) (is.filterMap fun i => l[i]?) a
  | .op i t, a, w => ∃ o, l[i]? = some o ∧ (if Region.wanted o (yielded l.toArray a.tmps) = true then o.wp P a w (fun a' w' => (late i = true → C w') ∧ wpTL P l C late Q t a' w') (fun _ _ _ => False) else wpTL P l C late Q t (a.put o.dst undef) w)
  | .fork s t, a, w => wpTL P l C late Q s a w ∧ wpTL P l C late Q t a w

def valB (ops : Array Oper) (nz : Nat → Bool) : Tr → List Nat → Nat → Bool
  | .leaf, L, m => m == 0 && (List.range ops.size).all fun k => L.contains k
  | .det j t, L, m => decide (j < ops.size) && !(nz j) && !(L.contains j) && (match ops[j]? with | none => true | some o => o.after.all fun e => !(Region.binds .any e) || L.contains e.on) && (match m with | 0 => false | m' + 1 => valB ops nz t (j :: L) m')
  | .op j t, L, m => decide (j < ops.size) && nz j && !(L.contains j) && (match ops[j]? with | none => true | some o => o.after.all fun e => !(Region.binds .any e) || L.contains e.on) && (match m with | 0 => false | m' + 1 => valB ops nz t (j :: L) m')
  | .fork s t, L, m => valB ops nz s L m && valB ops nz t L m
theorem deps_of {j : Nat} {L : List Nat} (h : (match ops[j]? with | none => true | some o => o.after.all fun e => !(Region.binds .any e) || L.contains e.on) = true) : deps ops j (· ∈ L) := fun o ho e he hb => by
  rw [ho] at h
  simp only [Array.all_eq_true_iff_forall_mem] at h
  have := h e he
  rw [hb] at this
  simpa using this
theorem val_of : ∀ (T : Tr) (L : List Nat) (m : Nat), valB ops nz T L m = true → Val ops nz T (· ∈ L) m
  | .leaf, L, m, h => by
    rw [valB, Bool.and_eq_true, List.all_eq_true] at h
    exact ⟨by simpa using h.1, fun k hk => by have := h.2 k (List.mem_range.2 hk); simpa using this⟩
  | .det j t, L, m, h => by
    simp only [valB, Bool.and_eq_true] at h
    obtain ⟨⟨⟨⟨h1, h2⟩, h3⟩, h4⟩, h5⟩ := h
    refine ⟨by simpa using h1, by simpa using h2, by simpa using h3, deps_of h4, ?_⟩
    cases m with
    | zero => cases h5
    | succ m => exact ⟨m, rfl, (val_of t (j :: L) m h5).congr fun k => by rw [List.mem_cons]; exact Or.comm⟩
  | .op j t, L, m, h => by
    simp only [valB, Bool.and_eq_true] at h
    obtain ⟨⟨⟨⟨h1, h2⟩, h3⟩, h4⟩, h5⟩ := h
    refine ⟨by simpa using h1, by simpa using h2, by simpa using h3, deps_of h4, ?_⟩
    cases m with
    | zero => cases h5
    | succ m => exact ⟨m, rfl, (val_of t (j :: L) m h5).congr fun k => by rw [List.mem_cons]; exact Or.comm⟩
  | .fork s t, L, m, h => by
    rw [valB, Bool.and_eq_true] at h
    exact ⟨val_of s L m h.1, val_of t L m h.2⟩

def treeOk (ops : Array Oper) (nzs lates : List Nat) (T : Tr) : Bool :=
  Region.noSelect ops && pairsB ops (nzs.contains ·) && latesB ops (nzs.contains ·) (lates.contains ·) && valB ops (nzs.contains ·) T [] ops.size && covB ops nzs nzs.length [] T &&
  ((List.range ops.size).all fun i => match ops[i]? with | some o => nzs.contains i || plainB o | none => true)

theorem dets_of {l : List Oper} {t : Tr} (hpl : ∀ k o, l[k]? = some o → nz k = false → plainB o = true) (K : Act → World → Prop) (hK : ∀ a w, K a w → wpT P l.toArray C late Q t a w) : ∀ (is : List Nat) (a : Act) (w : World), (∀ i ∈ is, nz i = false ∧ i < l.length) →
    wpQuiet P l.toArray C (fun a' => K a' w) (is.filterMap fun i => l[i]?) a → wpT P l.toArray C late Q (is.foldr .det t) a w := by
  intro is
  induction is with
  | nil => intro a w _ h; exact hK a w h
  | cons i is ih =>
    intro a w hi h
    obtain ⟨hn, hil⟩ := hi i (List.mem_cons_self ..)
    have ho : l[i]? = some l[i] := List.getElem?_eq_getElem hil
    rw [List.filterMap_cons, ho] at h
    simp only at h
    rw [wpQuiet] at h
    have ho' : l.toArray[i]? = some l[i] := by simp
    show ∃ o, _
    refine ⟨l[i], ho', ?_⟩
    have hi' : ∀ j ∈ is, nz j = false ∧ j < l.length := fun j hj => hi j (List.mem_cons_of_mem _ hj)
    split at h
    · rename_i hw
      obtain ⟨v, h1, h2⟩ := h
      exact ⟨v, yc_of_quiet (hpl i _ ho hn) hw h1, ih _ w hi' h2⟩
    · rename_i hw
      exact ⟨undef, .inr ⟨by simpa using hw, rfl⟩, ih _ w hi' h⟩
/-- Which reads the tree names. -/
def Tq.plain (nz : Nat → Bool) (n : Nat) : Tq → Bool
  | .leaf => true
  | .reads is t => (is.all fun i => !(nz i) && decide (i < n)) && t.plain nz n
  | .op _ t => t.plain nz n
  | .fork s t => s.plain nz n && t.plain nz n
theorem wpT_of {l : List Oper} (hpl : ∀ k o, l[k]? = some o → nz k = false → plainB o = true) : ∀ (T : Tq) (a : Act) (w : World), T.plain nz l.length = true → wpTL P l C late Q T a w → wpT P l.toArray C late Q T.tr a w
  | .leaf, a, w, _, h => h
  | .reads is t, a, w, hp, h => by
    rw [Tq.plain, Bool.and_eq_true, List.all_eq_true] at hp
    exact dets_of hpl (fun a w => wpTL P l C late Q t a w) (fun a w h => wpT_of hpl t a w hp.2 h) is a w (fun i hi => by have := hp.1 i hi; rw [Bool.and_eq_true] at this; exact ⟨by simpa using this.1, of_decide_eq_true this.2⟩) h
  | .op i t, a, w, hp, h => by
    obtain ⟨o, ho, h⟩ := h
    refine ⟨o, by simpa using ho, ?_⟩
    split
    · rename_i hw
      rw [if_pos hw] at h
      exact Oper.wp_mono (fun a' w' h3 => ⟨h3.1, wpT_of hpl t a' w' hp h3.2⟩) h
    · rename_i hw
      rw [if_neg hw] at h
      exact wpT_of hpl t _ w hp h
  | .fork s t, a, w, hp, h => by
    rw [Tq.plain, Bool.and_eq_true] at hp
    exact ⟨wpT_of hpl s a w hp.1 h.1, wpT_of hpl t a w hp.2 h.2⟩

/-- **A tree of walks for a region that draws its order**: nzs: the operations that are carried out; lates: those of them that a read may come up behind; T: the orders. -/
theorem wp_region_tree {id : Nat} {R : Exit → Act → World → Prop} {a : Act} {w : World} {l : List Oper} (nzs lates : List Nat) (T : Tq) (S : World → Prop) (hm : P.follows .mixedOrders = true) (hB : (treeOk l.toArray nzs lates T.tr && T.plain (nzs.contains ·) l.length) = true) (hS : S w.drew)
    (hh : Nonempty (Cls S) → wpTL P l (fun w' => ∃ i : Cls S, w' = i.val) (lates.contains ·) (fun a' w' => R .normal a' w') T a w.drew) : (Code.region id l.toArray true).wp P R a w := by
  have h := hh ⟨⟨_, hS⟩⟩
  unfold treeOk at hB
  simp only [Bool.and_eq_true] at hB
  obtain ⟨⟨⟨⟨⟨⟨hns, hp⟩, hlt⟩, hval⟩, hcov⟩, hpl⟩, htp⟩ := hB
  rw [List.all_eq_true] at hpl
  refine wp_region_any hm ?_
  have hplain : ∀ k o, l[k]? = some o → nzs.contains k = false → plainB o = true := fun k o ho hn => by
    have hk : k < l.toArray.size := by have := (List.getElem?_eq_some_iff.1 ho).1; simpa using this
    have := hpl k (List.mem_range.2 hk)
    rw [show l.toArray[k]? = some o by simpa using ho] at this
    simp only [hn, Bool.false_or] at this
    exact this
  have h1 := wpT_of (nz := (nzs.contains ·)) hplain T a w.drew htp h
  refine tree_any (Q := fun a' w' => R .normal a' w') (nz := (nzs.contains ·)) (late := (lates.contains ·)) (C := Cl S) (nzs := nzs) hns (fun i => by simp) (fun a w h => h) ?_ ?_ _ T.tr _ a _ _ [] (by simp) ((val_of T.tr [] _ hval).congr fun k => ?_) (fun j hj => ?_) hcov (fun i hi => ?_) (fun _ => cl hS) h1
  · intro i j oi oj hi hj hij hnn a1 a2
    unfold pairsB at hp
    rw [List.all_eq_true] at hp
    have h2 := hp j (List.mem_range.2 (Array.getElem?_eq_some_iff.1 hj).1)
    rw [List.all_eq_true] at h2
    have h3 := h2 i (List.mem_range.2 (Array.getElem?_eq_some_iff.1 hi).1)
    have b1 : dirB l.toArray i j = false := by
      cases h : dirB l.toArray i j with
      | false => rfl
      | true => rw [anc_of_dir h] at a1; cases a1
    have b2 : dirB l.toArray j i = false := by
      cases h : dirB l.toArray j i with
      | false => rfl
      | true => rw [anc_of_dir h] at a2; cases a2
    rw [hi, hj, a1, a2, b1, b2] at h3
    simp only [Bool.or_eq_true, decide_eq_true_eq, Bool.and_eq_true, Bool.false_eq_true, or_false] at h3
    rcases h3 with (h3 | h3) | h3
    · exact absurd h3 hij
    · exact absurd h3 hnn
    · exact h3
  · intro p k hpz hkz h1 h2 h3
    unfold latesB at hlt
    rw [List.all_eq_true] at hlt
    have h4 := hlt p (List.mem_range.2 hpz)
    rw [Bool.or_eq_true, Bool.or_eq_true] at h4
    rcases h4 with (h4 | h4) | h4
    · simp only at h4; rw [h1] at h4; cases h4
    · exact h4
    · rw [List.all_eq_true] at h4
      have h5 := h4 k (List.mem_range.2 hkz)
      simp only at h5
      rw [h2, h3] at h5
      cases h5
  · rcases Nat.lt_or_ge k l.length with h3 | h3 <;> simp [h3]
  · exfalso
    rcases Nat.lt_or_ge j l.length with h3 | h3 <;> simp [h3] at hj
  · rcases Nat.lt_or_ge i l.length with h3 | h3 <;> simp [h3]

theorem wpTL_leaf {l : List Oper} {a : Act} {w : World} (h : Q a w) : wpTL P l C late Q .leaf a w := h
theorem pick_eq (l : List Oper) : ∀ is : List Nat, (is.filterMap fun i => l[i]?) = is.flatMap fun i => l[i]?.toList
  | [] => rfl
  | i :: is => by
    rw [List.filterMap_cons, List.flatMap_cons, pick_eq l is]
    cases l[i]? <;> rfl
theorem wpTL_reads {l : List Oper} {is : List Nat} {t : Tq} {a : Act} {w : World} (h : wpQuiet P l.toArray C (fun a' => wpTL P l C late Q t a' w) (is.flatMap fun i => l[i]?.toList) a) : wpTL P l C late Q (.reads is t) a w := by
  rw [← pick_eq] at h
  exact h
theorem wpTL_fork {l : List Oper} {s t : Tq} {a : Act} {w : World} (h1 : wpTL P l C late Q s a w) (h2 : wpTL P l C late Q t a w) : wpTL P l C late Q (.fork s t) a w := ⟨h1, h2⟩
/-- Both ways come to the same end X. -/
theorem fork_cut {l : List Oper} {s t : Tq} {a : Act} {w : World} {X : Prop} (h1 : X → wpTL P l C late Q s a w) (h2 : X → wpTL P l C late Q t a w) (hx : X) : wpTL P l C late Q (.fork s t) a w := ⟨h1 hx, h2 hx⟩
theorem wpTL_op {l : List Oper} {i : Nat} {t : Tq} {a : Act} {w : World} {o : Oper} (ho : l[i]? = some o)
    (h : ∀ K : Act → World → Prop, (∀ a' w', (late i = true → C w') → wpTL P l C late Q t a' w' → K a' w') → if Region.wanted o (yielded l.toArray a.tmps) = true then o.wp P a w K (fun _ _ _ => False) else K (a.put o.dst undef) w) :
    wpTL P l C late Q (.op i t) a w := by
  refine ⟨o, ho, ?_⟩
  by_cases hw : Region.wanted o (yielded l.toArray a.tmps) = true
  · have := h (fun a' w' => (late i = true → C w') ∧ wpTL P l C late Q t a' w') (fun _ _ h1 h2 => ⟨h1, h2⟩)
    rw [if_pos hw] at this ⊢
    exact this
  · have := h (fun a' w' => wpTL P l C late Q t a' w') (fun _ _ _ h2 => h2)
    rw [if_neg hw] at this ⊢
    exact this
end
end Go.Proofs.Ytmheofkakcomdaa.Mxg
