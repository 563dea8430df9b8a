/-
  A region that draws its order whose last carried-out operation gives up: the reads that do not wait for it come first, the others never come up.
-/
import Derived.Test.YtfemeendkjcffaaMix
set_option linter.unusedVariables false
set_option linter.unusedSimpArgs false
namespace Go.Proofs.Ytfemeendkjcffaa.Mix
open Go

section
variable {P : Program} {ops : Array Oper} {C : World → Prop} {nz late : Nat → Bool} {E : Exit → Act → World → Prop}

theorem wp_exit_mono {o : Oper} {a : Act} {w : World} {K K' : Act → World → Prop} {Q' : Exit → Act → World → Prop} (hK : ∀ a w, K a w → K' a w) (hQ : ∀ e a w, E e a w → Q' e a w)
    (hh : o.wp P a w K E) : o.wp P a w K' Q' := by
  unfold Oper.wp at *
  generalize (execOp a.eval o).run P w = r at *
  cases r with
  | ok n w' =>
    cases n <;> simp only [Oper.upon] at hh ⊢ <;>
      first
        | exact hK _ _ hh
        | exact Calls.mono hh (fun e w'' he => by
            cases e with
            | returned u => exact hK _ _ he
            | panicked c => exact hQ _ _ _ he
            | outgrown => obtain ⟨a1, w1, h1⟩ := he; exact ⟨a1, w1, hQ _ _ _ h1⟩)
        | exact Rows.mono hh (fun _ _ he => hK _ _ he)
  | halt x w' => cases x <;> simp only [Oper.upon] at hh ⊢ <;> exact hQ _ _ _ hh
theorem wp_unput_die {o : Oper} {a : Act} {w : World} {d : Option Tmp} {v : Value} (hs : ∀ cs b, o.op ≠ .select cs b) (hd : ∀ t, d = some t → t ∉ o.looksAt ops)
    (hE : ∀ e a d v w, E e (a.put d v) w → E e a w) (h : o.wp P (a.put d v) w (fun _ _ => False) E) : o.wp P a w (fun _ _ => False) E := by
  unfold Oper.wp at *
  rw [execOp_put o hs a d v hd] at h
  generalize (execOp a.eval o).run P w = r at *
  cases r with
  | ok n w' =>
    cases n <;> simp only [Oper.upon] at h ⊢
    case enter f args =>
      exact Calls.mono h fun e w'' he => by
        cases e with
        | returned u => exact he
        | panicked c => exact hE _ _ _ _ _ he
        | outgrown => exact he
    case row row args => exact h
  | halt x w' => cases x <;> simp only [Oper.upon] at h ⊢ <;> exact hE _ _ _ _ _ h

/-- It is carried out, and gives up. -/
def Die (P : Program) (ops : Array Oper) (op : Oper) (E : Exit → Act → World → Prop) (a : Act) (w : World) : Prop :=
  Region.wanted op (yielded ops a.tmps) = true ∧ op.wp P a w (fun _ _ => False) E

theorem sink_die {op : Oper} (hs : ∀ cs b, op.op ≠ .select cs b) (hE : ∀ e a d v w, E e (a.put d v) w → E e a w) :
    ∀ (rem : List Nat) (a : Act) (w : World), (∀ q ∈ rem, ∀ oq, ops[q]? = some oq → (∀ t, oq.dst = some t → t ∉ op.looksAt ops) ∧ nz q = false) →
    wpM P ops C nz late (Die P ops op E) rem a w → Die P ops op E a w := by
  intro rem
  induction rem with
  | nil => intro a w _ h; exact h
  | cons q rem ih =>
    intro a w hf h
    have hf' : ∀ r ∈ rem, ∀ oq, ops[r]? = some oq → (∀ t, oq.dst = some t → t ∉ op.looksAt ops) ∧ nz r = false := fun r hr => hf r (List.mem_cons_of_mem _ hr)
    cases hq : ops[q]? with
    | none =>
      rw [wpM_none hq] at h
      exact ih a w hf' h
    | some oq =>
      obtain ⟨f1, hn⟩ := hf q (List.mem_cons_self ..) oq hq
      rw [wpM_det hq hn] at h
      obtain ⟨v, _, h⟩ := h
      obtain ⟨h1, h2⟩ := ih _ w hf' h
      exact ⟨by rw [wanted_put op a oq.dst v f1] at h1; exact h1, wp_unput_die (ops := ops) hs f1 hE h2⟩

structure LeftD (ops : Array Oper) (listed : Array Bool) (p : Nat) (rem : List Nat) : Prop where
  size : listed.size = ops.size
  sorted : rem.Pairwise (· < ·)
  mem : ∀ i, i ∈ rem ↔ (i < ops.size ∧ listed.getD i true = false ∧ i ≠ p ∧ anc ops i p = false)
  pun : listed.getD p true = false
  down : ∀ j o, ops[j]? = some o → listed.getD j false = true → ∀ e ∈ o.after, Region.binds .any e = true → listed.getD e.on false = true

theorem mix_die {Q' : Exit → Act → World → Prop} (hB : mixB ops nz = true) {p : Nat} {op : Oper} (hp : ops[p]? = some op) (hnp : nz p = true) (hE : ∀ e a d v w, E e (a.put d v) w → E e a w) (hQ : ∀ e a w, E e a w → Q' e a w) :
    ∀ (fuel : Nat) (rem : List Nat) (listed : Array Bool) (a : Act) (w : World), LeftD ops listed p rem → rem.length + 1 ≤ fuel → ((∃ j ∈ rem, nz j = false) → C w) →
    wpM P ops C nz (lateB ops nz) (Die P ops op E) rem a w → wpAny P .any ops Q' fuel listed a w := by
  have hB' := hB
  simp only [mixB, Bool.and_eq_true, List.all_eq_true, List.mem_range] at hB'
  obtain ⟨⟨hns, hed⟩, hpairs⟩ := hB'
  have hsel := Region.noSelect_spec hns
  have hpl : p < ops.size := (Array.getElem?_eq_some_iff.1 hp).1
  have edge : ∀ i o, ops[i]? = some o → ∀ e ∈ o.after, Region.binds .any e = true → e.on < i := fun i o ho e he hb => by
    have hi : i < ops.size := (Array.getElem?_eq_some_iff.1 ho).1
    have := hed i hi
    rw [ho] at this
    simp only [Array.all_eq_true_iff_forall_mem] at this
    have := this e he
    rw [hb] at this
    simpa using this
  have pair : ∀ i j oi oj, i < j → ops[i]? = some oi → ops[j]? = some oj → anc ops j i = true ∨ ((nz i = true → nz j = true → False) ∧ Free ops oi oj) := fun i j oi oj hij hi hj => by
    have hjl : j < ops.size := (Array.getElem?_eq_some_iff.1 hj).1
    have := hpairs j hjl i hij
    rw [hi, hj] at this
    rcases (Bool.or_eq_true _ _).mp this with h | h
    · exact .inl h
    · right
      rw [Bool.and_eq_true] at h
      refine ⟨fun h1 h2 => ?_, h.2⟩
      rw [h1, h2] at h
      simp at h
  have lt : ∀ (f j k : Nat), ancF ops f j k = true → k < j := by
    intro f
    induction f with
    | zero => intro j k h; simp [ancF] at h
    | succ f ihf =>
      intro j k h
      rw [ancF] at h
      cases ho : ops[j]? with
      | none => rw [ho] at h; cases h
      | some o =>
        rw [ho] at h
        simp only [Array.any_eq_true'] at h
        obtain ⟨e, he, h⟩ := h
        rw [Bool.and_eq_true, Bool.or_eq_true] at h
        have hlt := edge j o ho e he h.1
        rcases h.2 with h2 | h2
        · rw [beq_iff_eq] at h2; omega
        · have := ihf e.on k h2; omega
  intro fuel
  induction fuel with
  | zero => intro rem listed a w _ hf; omega
  | succ fuel ih =>
    intro rem listed a w hL hlen hC h
    refine ⟨fun hnil => ?_, fun i hi => ?_⟩
    · exfalso
      have all : ∀ n i, i < n → i < ops.size → listed.getD i true = true := by
        intro n
        induction n with
        | zero => intro i hi; omega
        | succ n ihn =>
          intro i hi hil
          cases hl : listed.getD i true with
          | true => rfl
          | false =>
            have : i ∈ Region.ready .any ops listed := by
              rw [mem_ready]
              refine ⟨hl, ops[i], Array.getElem?_eq_getElem hil, fun e he hb => ?_⟩
              have hlt := edge i _ (Array.getElem?_eq_getElem hil) e he hb
              have := ihn e.on (by omega) (by omega)
              rw [getD_flip (by rw [hL.size]; omega)] at this
              exact this
            rw [hnil] at this
            cases this
      have := all (p + 1) p (by omega) hpl
      rw [hL.pun] at this
      cases this
    · obtain ⟨hiu, oi, hoi, hall⟩ := mem_ready.1 hi
      have hil : i < ops.size := (Array.getElem?_eq_some_iff.1 hoi).1
      have hiu' : listed.getD i true = false := hiu
      have ancl : ∀ q, anc ops i q = true → listed.getD q false = true := fun q ha => anc_listed hL.down ops.size i q (fun o ho e he hb => by
        rw [hoi] at ho
        injection ho with ho
        subst ho
        exact hall e he hb) ha
      by_cases hip : i = p
      · subst hip
        rw [hoi] at hp
        injection hp with hp
        subst hp
        have hq := sink_die (hsel i oi · · hoi) hE rem a w (fun q hq oq hoq => by
          obtain ⟨hqs, hqu, hqp, hqa⟩ := (hL.mem q).1 hq
          rcases Nat.lt_or_ge q i with hlt | hge
          · rcases pair q i oq oi hlt hoq hoi with h1 | ⟨h1, h2⟩
            · have := ancl q h1
              rw [getD_flip (by rw [hL.size]; exact hqs), this] at hqu
              cases hqu
            · obtain ⟨f1, f2, f3⟩ := Oper.apart_spec h2
              refine ⟨f1, ?_⟩
              cases hn : nz q with
              | false => rfl
              | true => exact (h1 hn hnp).elim
          · have hlt : i < q := by omega
            rcases pair i q oi oq hlt hoi hoq with h1 | ⟨h1, h2⟩
            · rw [hqa] at h1; cases h1
            · obtain ⟨f1, f2, f3⟩ := Oper.apart_spec h2
              refine ⟨f3, ?_⟩
              cases hn : nz q with
              | false => rfl
              | true => exact (h1 hnp hn).elim) h
        unfold wpOp
        rw [hoi]
        simp only [hq.1, if_true]
        exact .inl (wp_exit_mono (fun _ _ hf => hf.elim) hQ hq.2)
      have hia : anc ops i p = false := by
        cases ha : anc ops i p with
        | false => rfl
        | true =>
          have := ancl p ha
          rw [← getD_flip (by rw [hL.size]; exact hpl), hL.pun] at this
          cases this
      have hmem : i ∈ rem := (hL.mem i).2 ⟨hil, hiu', hip, hia⟩
      obtain ⟨pre, post, rfl⟩ := List.append_of_mem hmem
      have hsort := hL.sorted
      rw [List.pairwise_append] at hsort
      obtain ⟨hs1, hs2, hs3⟩ := hsort
      have hs4 := List.pairwise_cons.1 hs2
      have inrem : ∀ q ∈ pre ++ post, q ∈ pre ++ i :: post := fun q hq => by
        rcases List.mem_append.1 hq with h1 | h1
        · exact List.mem_append_left _ h1
        · exact List.mem_append_right _ (List.mem_cons_of_mem _ h1)
      have notanc : ∀ q ∈ pre ++ post, anc ops i q = false := fun q hq => by
        cases ha : anc ops i q with
        | false => rfl
        | true =>
          have hl := ancl q ha
          obtain ⟨hps, hpu, _⟩ := (hL.mem q).1 (inrem q hq)
          rw [getD_flip (by rw [hL.size]; exact hps), hl] at hpu
          cases hpu
      have hL' : LeftD ops (listed.setIfInBounds i true) p (pre ++ post) := by
        refine ⟨by simpa using hL.size, ?_, fun j => ?_, ?_, fun j o ho hj e he hb => ?_⟩
        · rw [List.pairwise_append]
          exact ⟨hs1, hs4.2, fun x hx y hy => hs3 x hx y (List.mem_cons_of_mem _ hy)⟩
        · have hj := hL.mem j
          by_cases hji : j = i
          · subst hji
            constructor
            · intro hx
              exfalso
              rcases List.mem_append.1 hx with h1 | h1
              · have := hs3 j h1 j (List.mem_cons_self ..); omega
              · have := hs4.1 j h1; omega
            · rintro ⟨_, h2, _⟩
              exfalso
              rw [getD_flip (by simpa [hL.size] using hil)] at h2
              simp [hL.size, hil] at h2
          · rw [getD_set_ne true (Ne.symm hji), ← hj]
            simp only [List.mem_append, List.mem_cons]
            constructor
            · rintro (h1 | h1)
              · exact .inl h1
              · exact .inr (.inr h1)
            · rintro (h1 | h1 | h1)
              · exact .inl h1
              · exact absurd h1 hji
              · exact .inr h1
        · rw [getD_set_ne true hip]
          exact hL.pun
        · by_cases hji : j = i
          · subst hji
            rw [hoi] at ho
            injection ho with ho
            subst ho
            exact getD_set_true (hall e he hb)
          · rw [getD_set_ne false (Ne.symm hji)] at hj
            exact getD_set_true (hL.down j o ho hj e he hb)
      have hlen' : (pre ++ post).length + 1 ≤ fuel := by simp at hlen ⊢; omega
      cases hn : nz i with
      | false =>
        have hCw := hC ⟨i, hmem, hn⟩
        obtain ⟨v, hy, hm⟩ := hoist hsel hoi hn post pre a w (fun q hq oq hoq => by
          have hpi : q < i := hs3 q hq i (List.mem_cons_self ..)
          rcases pair q i oq oi hpi hoq hoi with h1 | ⟨h1, h2⟩
          · rw [notanc q (List.mem_append_left _ hq)] at h1; cases h1
          · refine ⟨h2, fun hnq => ?_⟩
            unfold lateB
            rw [List.any_eq_true]
            refine ⟨i, List.mem_range.2 hil, ?_⟩
            rw [hn]
            have : anc ops q i = false := by
              cases ha : anc ops q i with
              | false => rfl
              | true => have := lt _ _ _ ha; omega
            simp [this]) h
        have hgo := ih (pre ++ post) (listed.setIfInBounds i true) (a.put oi.dst v) w hL' hlen' (fun _ => hCw) hm
        unfold wpOp
        rw [hoi]
        rcases hy with ⟨hw, hv⟩ | ⟨hw, rfl⟩
        · simp only [hw, if_true, Oper.wp, hv w hCw, Oper.upon]; exact .inl hgo
        · simp only [hw, Bool.false_eq_true, if_false]; exact hgo
      | true =>
        have hm := sink hsel hoi hn post pre a w (fun q hq oq hoq => by
          have hpi : q < i := hs3 q hq i (List.mem_cons_self ..)
          rcases pair q i oq oi hpi hoq hoi with h1 | ⟨h1, h2⟩
          · rw [notanc q (List.mem_append_left _ hq)] at h1; cases h1
          · refine ⟨h2, ?_⟩
            cases hnq : nz q with
            | false => rfl
            | true => exact (h1 hnq hn).elim) h
        have hlate : (∃ j ∈ pre ++ post, nz j = false) → lateB ops nz i = true := fun ⟨j, hj, hnj⟩ => by
          unfold lateB
          rw [List.any_eq_true]
          refine ⟨j, List.mem_range.2 ((hL.mem j).1 (inrem j hj)).1, ?_⟩
          rw [hnj, notanc j hj]
          rfl
        rw [wpM_nz hoi hn] at hm
        unfold wpOp
        rw [hoi]
        by_cases hw : Region.wanted oi (yielded ops a.tmps) = true
        · rw [if_pos hw] at hm
          simp only [hw, if_true]
          refine .inl ?_
          exact wp_exit_mono (fun a' w' h3 => ih (pre ++ post) _ a' w' hL' hlen' (fun hx => h3.1 (hlate hx)) h3.2) (fun _ _ _ hf => hf.elim) hm
        · rw [if_neg hw] at hm
          simp only [hw, if_false]
          exact ih (pre ++ post) _ _ w hL' hlen' (fun ⟨j, hj, hnj⟩ => hC ⟨j, inrem j hj, hnj⟩) hm

/-! ### at a region that is written out -/
def remL (ops : Array Oper) (p : Nat) : List Nat := (List.range ops.size).filter fun i => i != p && !(anc ops i p)
def dieOk (ops : Array Oper) (nzs lates : List Nat) (p : Nat) (rem : List Nat) : Bool := mixOk ops nzs lates && nzs.contains p && (remL ops p == rem)

theorem wpM_reads {l : List Oper} (is rest : List Nat) {a : Act} {w : World} {Q : Act → World → Prop} (hok : (is.all fun i => !(nz i) && (match l[i]? with | some o => plainB o | none => false)) = true)
    (h : wpQuiet P l.toArray C (fun a' => wpM P l.toArray C nz late Q rest a' w) (is.flatMap fun i => l[i]?.toList) a) : wpM P l.toArray C nz late Q (is ++ rest) a w := by
  induction is generalizing a with
  | nil => simpa [wpQuiet] using h
  | cons i is ih =>
    rw [List.all_cons, Bool.and_eq_true, Bool.and_eq_true] at hok
    obtain ⟨⟨hn, hpb⟩, hok⟩ := hok
    cases ho : l[i]? with
    | none => rw [ho] at hpb; cases hpb
    | some o =>
      rw [ho] at hpb
      simp only at hpb
      rw [List.flatMap_cons, ho, Option.toList_some, List.cons_append, List.nil_append, wpQuiet] at h
      rw [List.cons_append, wpM_det (o := o) (by simpa using ho) (by simpa using hn)]
      split at h
      · rename_i hw
        obtain ⟨v, h1, h2⟩ := h
        exact ⟨v, yc_of_quiet hpb hw h1, ih hok h2⟩
      · rename_i hw
        exact ⟨undef, .inr ⟨by simpa using hw, rfl⟩, ih hok h⟩
theorem wpM_op {l : List Oper} {i : Nat} {rest : List Nat} {o : Oper} {a : Act} {w : World} {Q : Act → World → Prop} (ho : l[i]? = some o) (hn : nz i = true)
    (h : ∀ K : Act → World → Prop, (∀ a' w', (late i = true → C w') → wpM P l.toArray C nz late Q rest a' w' → K a' w') → if Region.wanted o (yielded l.toArray a.tmps) = true then o.wp P a w K (fun _ _ _ => False) else K (a.put o.dst undef) w) :
    wpM P l.toArray C nz late Q (i :: rest) a w := by
  rw [wpM_nz (o := o) (by simpa using ho) hn]
  by_cases hw : Region.wanted o (yielded l.toArray a.tmps) = true
  · have := h (fun a' w' => (late i = true → C w') ∧ wpM P l.toArray C nz late Q rest a' w') (fun _ _ h1 h2 => ⟨h1, h2⟩)
    rw [if_pos hw] at this ⊢
    exact this
  · have := h (fun a' w' => wpM P l.toArray C nz late Q rest a' w') (fun _ _ _ h2 => h2)
    rw [if_neg hw] at this ⊢
    exact this
theorem wpM_die {l : List Oper} {op : Oper} {a : Act} {w : World} (h : Region.wanted op (yielded l.toArray a.tmps) = true ∧ op.wp P a w (fun _ _ => False) E) : wpM P l.toArray C nz late (Die P l.toArray op E) [] a w := h

theorem wp_region_die {id : Nat} {R : Exit → Act → World → Prop} {a : Act} {w : World} {l : List Oper} (nzs lates rem : List Nat) (p : Nat) {op : Oper} (S : World → Prop) (hm : P.follows .mixedOrders = true) (hB : dieOk l.toArray nzs lates p rem = true) (hp : l[p]? = some op) (hS : S w.drew)
    (hR : ∀ c (a : Act) d v w, R (.panic c) (a.put d v) w → R (.panic c) a w)
    (hh : Nonempty (Cls S) → wpM P l.toArray (fun w' => ∃ i : Cls S, w' = i.val) (nzs.contains ·) (lates.contains ·) (Die P l.toArray op (fun e a w => ∃ c, e = .panic c ∧ R e a w)) rem a w.drew) : (Code.region id l.toArray true).wp P R a w := by
  have h := hh ⟨⟨_, hS⟩⟩
  unfold dieOk at hB
  rw [Bool.and_eq_true, Bool.and_eq_true, beq_iff_eq] at hB
  obtain ⟨⟨hB, hnp⟩, hrem⟩ := hB
  unfold mixOk at hB
  rw [Bool.and_eq_true, Bool.and_eq_true] at hB
  obtain ⟨⟨hB, _⟩, hlt⟩ := hB
  rw [List.all_eq_true] at hlt
  have hpl : p < l.length := (List.getElem?_eq_some_iff.1 hp).1
  refine wp_region_any hm ?_
  have h2 := wpM_late (late' := lateB l.toArray (nzs.contains ·)) (fun i hi hn hh => by
    have := hlt i (List.mem_range.2 hi)
    rw [hn, hh] at this
    simpa using this) _ _ _ h
  have hlen : rem.length + 1 ≤ l.toArray.size := by
    rw [← hrem, remL]
    have h1 : ((List.range l.toArray.size).filter fun i => i != p && !(anc l.toArray i p)).length ≤ ((List.range l.toArray.size).filter fun i => i != p).length := by
      have : ((List.range l.toArray.size).filter fun i => i != p && !(anc l.toArray i p)) = (((List.range l.toArray.size).filter fun i => i != p).filter fun i => !(anc l.toArray i p)) := by
        rw [List.filter_filter]
        congr 1
        funext i
        exact Bool.and_comm _ _
      rw [this]
      exact List.length_filter_le _ _
    have h3 : ((List.range l.toArray.size).filter fun i => i != p).length < (List.range l.toArray.size).length := by
      rw [List.length_filter_lt_length_iff_exists]
      exact ⟨p, List.mem_range.2 (by simpa using hpl), by simp⟩
    rw [List.length_range] at h3
    omega
  refine mix_die (Q' := R) (nz := (nzs.contains ·)) (C := Cl S) (E := fun e a w => ∃ c, e = .panic c ∧ R e a w) hB (p := p) (op := op) (by simpa using hp) hnp (fun e a d v w ⟨c, he, h⟩ => ⟨c, he, by subst he; exact hR c a d v w h⟩) (fun e a w ⟨_, _, h⟩ => h) _ rem _ a _ ⟨by simp, ?_, fun i => ?_, ?_, fun j o _ hj => ?_⟩ (by simpa using hlen) (fun _ => cl hS) h2
  · rw [← hrem, remL]
    exact List.Pairwise.filter _ List.pairwise_lt_range
  · rw [← hrem, remL, List.mem_filter, List.mem_range]
    simp only [Bool.and_eq_true, bne_iff_ne, ne_eq, Bool.not_eq_true', List.size_toArray]
    constructor
    · rintro ⟨h1, h2, h3⟩
      exact ⟨h1, by simp [h1], h2, h3⟩
    · rintro ⟨h1, _, h2, h3⟩
      exact ⟨h1, h2, h3⟩
  · simp [hpl]
  · exfalso
    rcases Nat.lt_or_ge j l.length with h3 | h3
    · simp [h3] at hj
    · simp [h3] at hj
end
end Go.Proofs.Ytfemeendkjcffaa.Mix
