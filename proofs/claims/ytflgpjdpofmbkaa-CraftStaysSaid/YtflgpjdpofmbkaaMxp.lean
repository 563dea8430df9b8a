/-
  A region that draws its order, as in Mix; reads that look at no memory (a field's address) may come up behind whatever is carried out.
-/
import Derived.Test.YtflgpjdpofmbkaaMix
import Derived.Test.YtflgpjdpofmbkaaMem
set_option linter.unusedVariables false
set_option linter.unusedSimpArgs false
namespace Go.Proofs.Ytflgpjdpofmbkaa.Mix
open Go

/-- Does an operation look at no memory? -/
def purB (P : Program) (o : Oper) : Bool :=
  match o.op with
  | .fieldAddr s _ f => (match P.underlying s with
    | some (.struct fs) => (match fs[f]? with
      | some fd => (match P.info? fd.type with
        | some i => i.size != 0
        | none => false)
      | none => false)
    | _ => false)
  | _ => false
def purN (P : Program) (ops : Array Oper) (j : Nat) : Bool := match ops[j]? with
  | some o => purB P o
  | none => true
theorem pur_run {P : Program} {ρ : Operand → Value} {o : Oper} {w w1 : World} {v : Value} (hp : purB P o = true) (h : (execOp ρ o).run P w = .ok (.value v) w1) (w2 : World) : (execOp ρ o).run P w2 = .ok (.value v) w2 := by
  obtain ⟨dst, op, type, pos, after, guard⟩ := o
  cases op <;> simp only [purB] at hp <;> first | (cases hp; done) | skip
  rename_i s x f
  split at hp
  · rename_i fs hs
    split at hp
    · rename_i fd hfd
      split at hp
      · rename_i i hi
        have hne : i.size ≠ 0 := by simpa using hp
        simp only [execOp] at h ⊢
        cases hx : ρ x <;> simp only [hx] at h ⊢ <;> try (rename_i ad; cases ad) <;> skip
        all_goals simp [Instr.fieldAt, run_underlying hs, hfd, Instr.sureAddr, fieldPlace, sizeOf, typeInfo, hi, hne] at h ⊢
        all_goals first | (cases h; done) | skip
        all_goals exact h.1
      · cases hp
    · cases hp
  · cases hp

section
variable {P : Program} {ops : Array Oper} {C : World → Prop} {nz late : Nat → Bool} {Q : Act → World → Prop}
theorem hoistP (hne : ∃ w, C w) (hsel : ∀ (j : Nat) (o : Oper) cs b, ops[j]? = some o → o.op ≠ .select cs b) {i : Nat} {oi : Oper} (hi : ops[i]? = some oi) (hni : nz i = false) (post : List Nat) :
    ∀ (pre : List Nat) (a : Act) (w : World), (∀ p ∈ pre, ∀ op, ops[p]? = some op → Free ops op oi) →
    wpM P ops C nz late Q (pre ++ i :: post) a w → ∃ v, YC P ops C oi v a ∧ wpM P ops C nz late Q (pre ++ post) (a.put oi.dst v) w := by
  intro pre
  induction pre with
  | nil =>
    intro a w _ h
    rw [List.nil_append, wpM_det hi hni] at h
    exact h
  | cons p pre ih =>
    intro a w hf h
    have hf' : ∀ q ∈ pre, ∀ op, ops[q]? = some op → Free ops op oi := fun q hq => hf q (List.mem_cons_of_mem _ hq)
    rw [List.cons_append] at h
    cases hp : ops[p]? with
    | none =>
      rw [wpM_none hp] at h
      obtain ⟨v, h1, h2⟩ := ih a w hf' h
      exact ⟨v, h1, by rw [List.cons_append, wpM_none hp]; exact h2⟩
    | some op =>
      have hfr := hf p (List.mem_cons_self ..) op hp
      obtain ⟨f1, f2, f3⟩ := Oper.apart_spec hfr
      have f2' : ∀ d, oi.dst = some d → op.dst ≠ some d := fun d h1 h2 => f2 d h2 h1
      cases hn : nz p with
      | false =>
        rw [wpM_det hp hn] at h
        obtain ⟨vp, hy, h⟩ := h
        obtain ⟨v, h1, h2⟩ := ih _ w hf' h
        refine ⟨v, h1.unput (hsel i oi · · hi) f1, ?_⟩
        rw [List.cons_append, wpM_det hp hn]
        refine ⟨vp, hy.put (hsel p op · · hp) f3, ?_⟩
        rw [Act.put_comm a v vp f2']
        exact h2
      | true =>
        rw [wpM_nz hp hn] at h
        by_cases hw : Region.wanted op (yielded ops a.tmps) = true
        · rw [if_pos hw] at h
          obtain ⟨a1, w1, ⟨hC, hm⟩, u1, b1, rfl, hb1⟩ := wp_ex (wp_strong h)
          obtain ⟨wz, hCw⟩ := hne
          obtain ⟨v, h1, _⟩ := ih _ w1 hf' hm
          have back : ∀ (b : Act) (u : Value), b.tmps = a.tmps → YC P ops C oi v (b.put op.dst u) → YC P ops C oi v a := fun b u hb hy =>
            (hy.unput (hsel i oi · · hi) f1).of_same (by unfold Act.eval; rw [hb]) (by rw [hb])
          have hya := back b1 u1 hb1 h1
          refine ⟨v, hya, ?_⟩
          rw [List.cons_append, wpM_nz hp hn, if_pos (by rw [wanted_put op a oi.dst v f3]; exact hw)]
          refine wp_put (ops := ops) (hsel p op · · hp) f3 f2' ?_
          refine Oper.wp_mono (fun a' w' h3 => ?_) (wp_strong h)
          obtain ⟨⟨hC', hm'⟩, u, b, rfl, hb⟩ := h3
          refine ⟨hC', ?_⟩
          obtain ⟨v', h5, h6⟩ := ih _ w' hf' hm'
          have hyb : YC P ops C oi v' a := (h5.unput (hsel i oi · · hi) f1).of_same (by unfold Act.eval; rw [hb]) (by rw [hb])
          obtain rfl := YC.uniq hCw hya hyb
          exact h6
        · rw [if_neg hw] at h
          obtain ⟨v, h1, h2⟩ := ih _ w hf' h
          refine ⟨v, h1.unput (hsel i oi · · hi) f1, ?_⟩
          rw [List.cons_append, wpM_nz hp hn, if_neg (by rw [wanted_put op a oi.dst v f3]; exact hw), Act.put_comm a v undef f2']
          exact h2

/-- Is there a read of memory that need not stand ahead of operation i? -/
def lateP (P : Program) (ops : Array Oper) (nz : Nat → Bool) (i : Nat) : Bool := (List.range ops.size).any fun j => !nz j && !(purN P ops j) && !(anc ops i j)
theorem mixP_any {Q' : Exit → Act → World → Prop} (hne : ∃ w, C w) (hB : mixB ops nz = true) (hQ : ∀ a w, Q a w → Q' .normal a w) :
    ∀ (fuel : Nat) (rem : List Nat) (listed : Array Bool) (a : Act) (w : World), Left ops listed rem → rem.length = fuel → ((∃ j ∈ rem, nz j = false ∧ purN P ops j = false) → C w) →
    wpM P ops C nz (lateP P ops nz) Q rem a w → wpAny P .any ops Q' fuel listed a w := by
  have hB' := hB
  simp only [mixB, Bool.and_eq_true, List.all_eq_true, List.mem_range] at hB'
  obtain ⟨⟨hns, hed⟩, hpairs⟩ := hB'
  have hsel := Region.noSelect_spec hns
  have edge : ∀ i o, ops[i]? = some o → ∀ e ∈ o.after, Region.binds .any e = true → e.on < i := fun i o ho e he hb => by
    have hi : i < ops.size := (Array.getElem?_eq_some_iff.1 ho).1
    have := hed i hi
    rw [ho] at this
    simp only [Array.all_eq_true_iff_forall_mem] at this
    have := this e he
    rw [hb] at this
    simpa using this
  have pair : ∀ i j oi oj, i < j → ops[i]? = some oi → ops[j]? = some oj → anc ops j i = true ∨ ((nz i = true → nz j = true → False) ∧ Free ops oi oj) := fun i j oi oj hij hi hj => by
    have hjl : j < ops.size := (Array.getElem?_eq_some_iff.1 hj).1
    have := hpairs j hjl i hij
    rw [hi, hj] at this
    rcases (Bool.or_eq_true _ _).mp this with h | h
    · exact .inl h
    · right
      rw [Bool.and_eq_true] at h
      refine ⟨fun h1 h2 => ?_, h.2⟩
      rw [h1, h2] at h
      simp at h
  intro fuel
  induction fuel with
  | zero =>
    intro rem listed a w hL hlen hC h
    obtain rfl : rem = [] := List.eq_nil_of_length_eq_zero hlen
    refine ⟨?_, hQ _ _ h⟩
    rw [List.eq_nil_iff_forall_not_mem]
    intro i hi
    rw [mem_ready] at hi
    obtain ⟨h0, o, ho, _⟩ := hi
    have : i ∈ ([] : List Nat) := (hL.mem i).2 ⟨(Array.getElem?_eq_some_iff.1 ho).1, h0⟩
    cases this
  | succ fuel ih =>
    intro rem listed a w hL hlen hC h
    have un : ∀ i, i < ops.size → listed.getD i false = false → i ∈ rem := fun i hi hf => (hL.mem i).2 ⟨hi, by rw [getD_flip (by rw [hL.size]; exact hi)]; exact hf⟩
    refine ⟨fun hnil => ?_, fun i hi => ?_⟩
    · -- the first one that is left may come up
      match rem, hlen, hL with
      | i :: rest, _, hL =>
        obtain ⟨hil, hiu⟩ := (hL.mem i).1 (List.mem_cons_self ..)
        have : i ∈ Region.ready .any ops listed := by
          rw [mem_ready]
          refine ⟨hiu, ops[i], Array.getElem?_eq_getElem hil, fun e he hb => ?_⟩
          have hlt := edge i _ (Array.getElem?_eq_getElem hil) e he hb
          cases hl : listed.getD e.on false with
          | true => rfl
          | false =>
            have hm : e.on ∈ i :: rest := (hL.mem e.on).2 ⟨by omega, by rw [getD_flip (by rw [hL.size]; omega)]; exact hl⟩
            rcases List.mem_cons.1 hm with h1 | h1
            · omega
            · have := (List.pairwise_cons.1 hL.sorted).1 e.on h1
              omega
        rw [hnil] at this
        cases this
    · obtain ⟨hiu, oi, hoi, hall⟩ := mem_ready.1 hi
      have hil : i < ops.size := (Array.getElem?_eq_some_iff.1 hoi).1
      have hmem : i ∈ rem := (hL.mem i).2 ⟨hil, hiu⟩
      obtain ⟨pre, post, rfl⟩ := List.append_of_mem hmem
      have hsort := hL.sorted
      rw [List.pairwise_append] at hsort
      obtain ⟨hs1, hs2, hs3⟩ := hsort
      have hs4 := List.pairwise_cons.1 hs2
      -- nothing that is left stands ahead of i by force
      have notanc : ∀ p ∈ pre ++ post, anc ops i p = false := fun p hp => by
        cases ha : anc ops i p with
        | false => rfl
        | true =>
          have hl := anc_listed hL.down ops.size i p (fun o ho e he hb => by
            rw [hoi] at ho
            injection ho with ho
            subst ho
            exact hall e he hb) ha
          have hpm : p ∈ pre ++ i :: post := by
            rcases List.mem_append.1 hp with h1 | h1
            · exact List.mem_append_left _ h1
            · exact List.mem_append_right _ (List.mem_cons_of_mem _ h1)
          obtain ⟨hps, hpu⟩ := (hL.mem p).1 hpm
          rw [getD_flip (by rw [hL.size]; exact hps), hl] at hpu
          cases hpu
      have hL' : Left ops (listed.setIfInBounds i true) (pre ++ post) := by
        refine ⟨by simpa using hL.size, ?_, fun j => ?_, fun j o ho hj e he hb => ?_⟩
        · rw [List.pairwise_append]
          exact ⟨hs1, hs4.2, fun x hx y hy => hs3 x hx y (List.mem_cons_of_mem _ hy)⟩
        · have hj := hL.mem j
          by_cases hji : j = i
          · subst hji
            constructor
            · intro hx
              exfalso
              rcases List.mem_append.1 hx with h1 | h1
              · have := hs3 j h1 j (List.mem_cons_self ..); omega
              · have := hs4.1 j h1; omega
            · rintro ⟨_, h2⟩
              exfalso
              rw [getD_flip (by simpa [hL.size] using hil)] at h2
              simp [hL.size, hil] at h2
          · rw [getD_set_ne true (Ne.symm hji), ← hj]
            simp only [List.mem_append, List.mem_cons]
            constructor
            · rintro (h1 | h1)
              · exact .inl h1
              · exact .inr (.inr h1)
            · rintro (h1 | h1 | h1)
              · exact .inl h1
              · exact absurd h1 hji
              · exact .inr h1
        · by_cases hji : j = i
          · subst hji
            rw [hoi] at ho
            injection ho with ho
            subst ho
            exact getD_set_true (hall e he hb)
          · rw [getD_set_ne false (Ne.symm hji)] at hj
            exact getD_set_true (hL.down j o ho hj e he hb)
      have hlen' : (pre ++ post).length = fuel := by simp at hlen ⊢; omega
      cases hn : nz i with
      | false =>
        obtain ⟨v, hy, hm⟩ := hoistP hne hsel hoi hn post pre a w (fun p hp op hop => by
          have hpi : p < i := hs3 p hp i (List.mem_cons_self ..)
          rcases pair p i op oi hpi hop hoi with h1 | ⟨h1, h2⟩
          · rw [notanc p (List.mem_append_left _ hp)] at h1; cases h1
          · exact h2) h
        have hgo := ih (pre ++ post) (listed.setIfInBounds i true) (a.put oi.dst v) w hL' hlen' (fun ⟨j, hj, h1, h2⟩ => hC ⟨j, by
            rcases List.mem_append.1 hj with h3 | h3
            · exact List.mem_append_left _ h3
            · exact List.mem_append_right _ (List.mem_cons_of_mem _ h3), h1, h2⟩) hm
        unfold wpOp
        rw [hoi]
        rcases hy with ⟨hw, hv⟩ | ⟨hw, rfl⟩
        · have hrun : (execOp a.eval oi).run P w = .ok (.value v) w := by
            cases hpu : purN P ops i with
            | true =>
              obtain ⟨wz, hCz⟩ := hne
              unfold purN at hpu
              rw [hoi] at hpu
              exact pur_run hpu (hv wz hCz) w
            | false => exact hv w (hC ⟨i, hmem, hn, hpu⟩)
          simp only [hw, if_true, Oper.wp, hrun, Oper.upon]; exact .inl hgo
        · simp only [hw, Bool.false_eq_true, if_false]; exact hgo
      | true =>
        have hm := sink hsel hoi hn post pre a w (fun p hp op hop => by
          have hpi : p < i := hs3 p hp i (List.mem_cons_self ..)
          rcases pair p i op oi hpi hop hoi with h1 | ⟨h1, h2⟩
          · rw [notanc p (List.mem_append_left _ hp)] at h1; cases h1
          · refine ⟨h2, ?_⟩
            cases hnp : nz p with
            | false => rfl
            | true => exact (h1 hnp hn).elim) h
        have hlate : (∃ j ∈ pre ++ post, nz j = false ∧ purN P ops j = false) → lateP P ops nz i = true := fun ⟨j, hj, hnj, hpj⟩ => by
          unfold lateP
          rw [List.any_eq_true]
          have hjm : j ∈ pre ++ i :: post := by
            rcases List.mem_append.1 hj with h1 | h1
            · exact List.mem_append_left _ h1
            · exact List.mem_append_right _ (List.mem_cons_of_mem _ h1)
          refine ⟨j, List.mem_range.2 ((hL.mem j).1 hjm).1, ?_⟩
          rw [hnj, hpj, notanc j hj]
          rfl
        rw [wpM_nz hoi hn] at hm
        unfold wpOp
        rw [hoi]
        by_cases hw : Region.wanted oi (yielded ops a.tmps) = true
        · rw [if_pos hw] at hm
          simp only [hw, if_true]
          refine .inl ?_
          have hmm := Oper.wp_mono (K' := wpAny P .any ops Q' fuel (listed.setIfInBounds i true)) (fun a' w' h3 => ih (pre ++ post) _ a' w' hL' hlen' (fun hx => h3.1 (hlate hx)) h3.2) hm
          -- no panic: whatever is said of one
          unfold Oper.wp at hmm ⊢
          generalize (execOp a.eval oi).run P w = r at *
          cases r with
          | ok n w' =>
            cases n <;> simp only [Oper.upon] at hmm ⊢ <;> first
              | exact hmm
              | exact Calls.mono hmm (fun e w'' he => by
                  cases e with
                  | returned u => exact he
                  | panicked c => exact he.elim
                  | outgrown => obtain ⟨_, _, hf⟩ := he; exact hf.elim)
          | halt x w' => cases x <;> simp only [Oper.upon] at hmm
        · rw [if_neg hw] at hm
          simp only [hw, if_false]
          exact ih (pre ++ post) _ _ w hL' hlen' (fun ⟨j, hj, hnj⟩ => hC ⟨j, by
            rcases List.mem_append.1 hj with h1 | h1
            · exact List.mem_append_left _ h1
            · exact List.mem_append_right _ (List.mem_cons_of_mem _ h1), hnj⟩) hm

def mixOkP (P : Program) (ops : Array Oper) (nzs lates : List Nat) : Bool :=
  mixB ops (nzs.contains ·) && ((List.range ops.size).all fun i => match ops[i]? with | some o => nzs.contains i || plainB o | none => true) &&
  ((List.range ops.size).all fun i => !(nzs.contains i) || lates.contains i || !(lateP P ops (nzs.contains ·) i))

/-- **One walk, in the order of the text, for a region that draws its order**: nzs: the operations that are carried out (in one forced order), lates: those of them that a read may come up behind. -/
theorem wp_region_mixp {id : Nat} {R : Exit → Act → World → Prop} {a : Act} {w : World} {l : List Oper} (nzs lates : List Nat) (S : World → Prop) (hm : P.follows .mixedOrders = true) (hB : mixOkP P l.toArray nzs lates = true) (hS : S w.drew)
    (hh : Nonempty (Cls S) → wpL P l.toArray (fun w' => ∃ i : Cls S, w' = i.val) (nzs.contains ·) (lates.contains ·) (fun a' w' => R .normal a' w') 0 l a w.drew) : (Code.region id l.toArray true).wp P R a w := by
  have h := hh ⟨⟨_, hS⟩⟩
  unfold mixOkP at hB
  rw [Bool.and_eq_true, Bool.and_eq_true] at hB
  obtain ⟨⟨hB, hpl⟩, hlt⟩ := hB
  rw [List.all_eq_true] at hpl hlt
  refine wp_region_any hm ?_
  have hplain : ∀ k o, l.toArray[k]? = some o → nzs.contains k = false → plainB o = true := fun k o ho hn => by
    have hk : k < l.toArray.size := (Array.getElem?_eq_some_iff.1 ho).1
    have := hpl k (List.mem_range.2 hk)
    rw [ho] at this
    simp only [hn, Bool.false_or] at this
    exact this
  have h1 := wpM_of_wpL hplain l 0 a w.drew (by simp) h
  have h2 := wpM_late (late' := lateP P l.toArray (nzs.contains ·)) (fun i hi hn hh => by
    have := hlt i (List.mem_range.2 hi)
    rw [hn, hh] at this
    simpa using this) _ _ _ h1
  refine mixP_any (hne := ⟨_, cl hS⟩) (Q := fun a' w' => R .normal a' w') (nz := (nzs.contains ·)) (C := Cl S) hB (fun a w h => h) _ (List.range' 0 l.length) _ a _ ⟨by simp, ?_, fun i => ?_, fun j o _ hj => ?_⟩ (by simp) (fun _ => cl hS) h2
  · exact List.pairwise_lt_range' ..
  · simp only [List.mem_range', List.size_toArray]
    constructor
    · rintro ⟨k, hk, rfl⟩
      have h5 : k < l.length := hk
      refine ⟨by omega, ?_⟩
      rw [show 0 + 1 * k = k by omega]
      simp [h5]
    · rintro ⟨hi, _⟩
      exact ⟨i, hi, by omega⟩
  · exfalso
    rcases Nat.lt_or_ge j l.length with h3 | h3
    · simp [h3] at hj
    · simp [h3] at hj
end
end Go.Proofs.Ytflgpjdpofmbkaa.Mix
