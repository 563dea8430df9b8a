/-
  A region that draws its order, where the operations that are carried out (calls, allocations, appends, stores) stand in several orders: a tree of walks.
-/
import Derived.Test.YtpebdfgfikjkeaaMix
set_option linter.unusedVariables false
set_option linter.unusedSimpArgs false
namespace Go.Proofs.Ytpebdfgfikjkeaa.Mxt
open Go Mix

inductive Tr where
  | leaf
  | det (i : Nat) (t : Tr)
  | op (i : Nat) (t : Tr)
  | fork (s t : Tr)

section
variable {P : Program} {ops : Array Oper} {C : World → Prop} {nz late : Nat → Bool} {Q : Act → World → Prop}

def wpT (P : Program) (ops : Array Oper) (C : World → Prop) (late : Nat → Bool) (Q : Act → World → Prop) : Tr → Act → World → Prop
  | .leaf, a, w => Q a w
  | .det i t, a, w => ∃ o, ops[i]? = some o ∧ ∃ v, YC P ops C o v a ∧ wpT P ops C late Q t (a.put o.dst v) w
  | .op i t, a, w => ∃ o, ops[i]? = some o ∧ (if Region.wanted o (yielded ops a.tmps) = true then o.wp P a w (fun a' w' => (late i = true → C w') ∧ wpT P ops C late Q t a' w') (fun _ _ _ => False) else wpT P ops C late Q t (a.put o.dst undef) w)
  | .fork s t, a, w => wpT P ops C late Q s a w ∧ wpT P ops C late Q t a w

/-- Without the read i. -/
def Tr.del (i : Nat) : Tr → Tr
  | .leaf => .leaf
  | .det j t => if j = i then t else .det j (t.del i)
  | .op j t => .op j (t.del i)
  | .fork s t => .fork (s.del i) (t.del i)
/-- What is left where i is the first one to be carried out. -/
def Tr.sel (i : Nat) : Tr → Option Tr
  | .leaf => none
  | .det j t => (t.sel i).map (.det j)
  | .op j t => if j = i then some t else none
  | .fork s t => match s.sel i with
    | some x => some x
    | none => t.sel i
/-- Ahead of the read i, on each way. -/
def Ahd (ok : Nat → Bool → Prop) (i : Nat) : Tr → Prop
  | .leaf => False
  | .det j t => j = i ∨ (j ≠ i ∧ ok j false ∧ Ahd ok i t)
  | .op j t => ok j true ∧ Ahd ok i t
  | .fork s t => Ahd ok i s ∧ Ahd ok i t
/-- The reads ahead of the first one to be carried out. -/
def Sok (ok : Nat → Prop) : Tr → Prop
  | .leaf => True
  | .det j t => ok j ∧ Sok ok t
  | .op _ _ => True
  | .fork s t => Sok ok s ∧ Sok ok t

theorem hoistT (hsel : ∀ (j : Nat) (o : Oper) cs b, ops[j]? = some o → o.op ≠ .select cs b) {i : Nat} {oi : Oper} (hi : ops[i]? = some oi) :
    ∀ (T : Tr) (a : Act) (w : World), C w → Ahd (fun p b => ∀ op, ops[p]? = some op → Free ops op oi ∧ (b = true → late p = true)) i T →
    wpT P ops C late Q T a w → ∃ v, YC P ops C oi v a ∧ wpT P ops C late Q (T.del i) (a.put oi.dst v) w := by
  intro T
  induction T with
  | leaf => intro a w _ h; exact h.elim
  | det p t ih =>
    intro a w hC hA h
    obtain ⟨op, hp, vp, hy, h⟩ := h
    rcases hA with e | ⟨hne, hok, hA⟩
    · subst e
      rw [hi] at hp
      injection hp with hp
      subst hp
      exact ⟨vp, hy, by rw [Tr.del, if_pos rfl]; exact h⟩
    · obtain ⟨f1, f2, f3⟩ := Oper.apart_spec (hok op hp).1
      have f2' : ∀ d, oi.dst = some d → op.dst ≠ some d := fun d h1 h2 => f2 d h2 h1
      obtain ⟨v, h1, h2⟩ := ih _ w hC hA h
      refine ⟨v, h1.unput (hsel i oi · · hi) f1, ?_⟩
      rw [Tr.del, if_neg hne]
      refine ⟨op, hp, vp, hy.put (hsel p op · · hp) f3, ?_⟩
      rw [Act.put_comm a v vp f2']
      exact h2
  | op p t ih =>
    intro a w hC hA h
    obtain ⟨hok, hA⟩ := hA
    obtain ⟨op, hp, h⟩ := h
    obtain ⟨hfr, hlate⟩ := hok op hp
    obtain ⟨f1, f2, f3⟩ := Oper.apart_spec hfr
    have f2' : ∀ d, oi.dst = some d → op.dst ≠ some d := fun d h1 h2 => f2 d h2 h1
    by_cases hw : Region.wanted op (yielded ops a.tmps) = true
    · rw [if_pos hw] at h
      obtain ⟨a1, w1, ⟨hC1, hm⟩, u1, b1, rfl, hb1⟩ := wp_ex (wp_strong h)
      have hCw := hC1 (hlate rfl)
      obtain ⟨v, h1, _⟩ := ih _ w1 hCw hA hm
      have hya : YC P ops C oi v a := (h1.unput (hsel i oi · · hi) f1).of_same (by unfold Act.eval; rw [hb1]) (by rw [hb1])
      refine ⟨v, hya, ?_⟩
      rw [Tr.del]
      refine ⟨op, hp, ?_⟩
      rw [if_pos (by rw [wanted_put op a oi.dst v f3]; exact hw)]
      refine wp_put (ops := ops) (hsel p op · · hp) f3 f2' ?_
      refine Oper.wp_mono (fun a' w' h3 => ?_) (wp_strong h)
      obtain ⟨⟨hC', hm'⟩, u, b, rfl, hb⟩ := h3
      refine ⟨hC', ?_⟩
      obtain ⟨v', h5, h6⟩ := ih _ w' (hC' (hlate rfl)) hA hm'
      have hyb : YC P ops C oi v' a := (h5.unput (hsel i oi · · hi) f1).of_same (by unfold Act.eval; rw [hb]) (by rw [hb])
      obtain rfl := YC.uniq hCw hya hyb
      exact h6
    · rw [if_neg hw] at h
      obtain ⟨v, h1, h2⟩ := ih _ w hC hA h
      refine ⟨v, h1.unput (hsel i oi · · hi) f1, ?_⟩
      rw [Tr.del]
      refine ⟨op, hp, ?_⟩
      rw [if_neg (by rw [wanted_put op a oi.dst v f3]; exact hw), Act.put_comm a v undef f2']
      exact h2
  | fork s t ihs iht =>
    intro a w hC hA h
    obtain ⟨v, h1, h2⟩ := ihs a w hC hA.1 h.1
    obtain ⟨v', h3, h4⟩ := iht a w hC hA.2 h.2
    obtain rfl := YC.uniq hC h1 h3
    exact ⟨v, h1, h2, h4⟩

theorem sinkT (hsel : ∀ (j : Nat) (o : Oper) cs b, ops[j]? = some o → o.op ≠ .select cs b) {i : Nat} {oi : Oper} (hi : ops[i]? = some oi) :
    ∀ (T T' : Tr) (a : Act) (w : World), T.sel i = some T' → Sok (fun p => ∀ op, ops[p]? = some op → Free ops op oi) T → wpT P ops C late Q T a w → wpT P ops C late Q (.op i T') a w := by
  intro T
  induction T with
  | leaf => intro T' a w h; cases h
  | det p t ih =>
    intro T' a w hs hok h
    rw [Tr.sel] at hs
    cases ht : t.sel i with
    | none => rw [ht] at hs; cases hs
    | some t' =>
      rw [ht] at hs
      injection hs with hs
      subst hs
      obtain ⟨op, hp, vp, hy, h⟩ := h
      obtain ⟨f1, f2, f3⟩ := Oper.apart_spec (hok.1 op hp)
      obtain ⟨oi', hi', h2⟩ := ih t' _ w ht hok.2 h
      rw [hi] at hi'
      injection hi' with hi'
      subst hi'
      refine ⟨oi, hi, ?_⟩
      by_cases hw : Region.wanted oi (yielded ops a.tmps) = true
      · rw [if_pos (by rw [wanted_put oi a op.dst vp f1]; exact hw)] at h2
        rw [if_pos hw]
        have f2' : ∀ d, op.dst = some d → oi.dst ≠ some d := fun d h1 h2 => f2 d h1 h2
        refine Oper.wp_mono (fun a' w' h3 => ?_) (wp_strong (wp_unput (ops := ops) (hsel i oi · · hi) f1 f2' h2))
        obtain ⟨⟨hC', hm'⟩, u, b, rfl, hb⟩ := h3
        refine ⟨hC', op, hp, vp, ?_, hm'⟩
        exact YC.put (hsel p op · · hp) f3 (hy.of_same (by unfold Act.eval; rw [hb]) (by rw [hb]))
      · rw [if_neg (by rw [wanted_put oi a op.dst vp f1]; exact hw)] at h2
        rw [if_neg hw]
        refine ⟨op, hp, vp, hy.put (hsel p op · · hp) f3, ?_⟩
        have f2' : ∀ d, oi.dst = some d → op.dst ≠ some d := fun d h1 h2 => f2 d h2 h1
        rw [Act.put_comm a undef vp f2']
        exact h2
  | op p t ih =>
    intro T' a w hs _ h
    rw [Tr.sel] at hs
    split at hs
    · rename_i e
      subst e
      injection hs with hs
      subst hs
      exact h
    · cases hs
  | fork s t ihs iht =>
    intro T' a w hs hok h
    rw [Tr.sel] at hs
    cases hx : s.sel i with
    | some x =>
      rw [hx] at hs
      injection hs with hs
      subst hs
      exact ihs x a w hx hok.1 h.1
    | none =>
      rw [hx] at hs
      exact iht T' a w hs hok.2 h.2

/-! ### which trees serve -/
def deps (ops : Array Oper) (j : Nat) (L : Nat → Prop) : Prop := ∀ o, ops[j]? = some o → ∀ e ∈ o.after, Region.binds .any e = true → L e.on
def Val (ops : Array Oper) (nz : Nat → Bool) : Tr → (Nat → Prop) → Nat → Prop
  | .leaf, L, m => m = 0 ∧ ∀ k, k < ops.size → L k
  | .det j t, L, m => j < ops.size ∧ nz j = false ∧ ¬ L j ∧ deps ops j L ∧ ∃ m', m = m' + 1 ∧ Val ops nz t (fun k => L k ∨ k = j) m'
  | .op j t, L, m => j < ops.size ∧ nz j = true ∧ ¬ L j ∧ deps ops j L ∧ ∃ m', m = m' + 1 ∧ Val ops nz t (fun k => L k ∨ k = j) m'
  | .fork s t, L, m => Val ops nz s L m ∧ Val ops nz t L m
theorem Val.congr {T : Tr} {L L' : Nat → Prop} {m : Nat} (h : Val ops nz T L m) (he : ∀ k, L k ↔ L' k) : Val ops nz T L' m := by
  have : L = L' := funext fun k => propext (he k)
  rwa [← this]
theorem deps.more {j : Nat} {L L' : Nat → Prop} (h : deps ops j L) (hL : ∀ k, L k → L' k) : deps ops j L' := fun o ho e he hb => hL _ (h o ho e he hb)
theorem Val.zero : ∀ {T : Tr} {L : Nat → Prop}, Val ops nz T L 0 → (∀ k, k < ops.size → L k)
  | .leaf, L, h => h.2
  | .det j t, L, h => by obtain ⟨_, _, _, _, m, hm, _⟩ := h; omega
  | .op j t, L, h => by obtain ⟨_, _, _, _, m, hm, _⟩ := h; omega
  | .fork s t, L, h => Val.zero h.1
theorem Val.done : ∀ {T : Tr} {L : Nat → Prop}, Val ops nz T L 0 → ∀ a w, wpT P ops C late Q T a w → Q a w
  | .leaf, L, h, a, w, hw => hw
  | .det j t, L, h, _, _, _ => by obtain ⟨_, _, _, _, m, hm, _⟩ := h; omega
  | .op j t, L, h, _, _, _ => by obtain ⟨_, _, _, _, m, hm, _⟩ := h; omega
  | .fork s t, L, h, a, w, hw => Val.done h.1 a w hw.1
theorem Val.first : ∀ {T : Tr} {L : Nat → Prop} {m : Nat}, Val ops nz T L (m + 1) → ∃ i, i < ops.size ∧ ¬ L i ∧ deps ops i L
  | .leaf, L, m, h => by cases h.1
  | .det j t, L, m, h => ⟨j, h.1, h.2.2.1, h.2.2.2.1⟩
  | .op j t, L, m, h => ⟨j, h.1, h.2.2.1, h.2.2.2.1⟩
  | .fork s t, L, m, h => Val.first h.1
theorem Val.del {i : Nat} (hn : nz i = false) (hi : i < ops.size) : ∀ {T : Tr} {L : Nat → Prop} {m : Nat}, Val ops nz T L (m + 1) → ¬ L i → Val ops nz (T.del i) (fun k => L k ∨ k = i) m
  | .leaf, L, m, h, _ => by cases h.1
  | .det j t, L, m, h, hu => by
    obtain ⟨h1, h2, h3, h4, m', hm, h5⟩ := h
    obtain rfl : m = m' := by omega
    rw [Tr.del]
    split
    · rename_i e; subst e; exact h5
    · rename_i e
      cases m with
      | zero =>
        have := Val.zero h5 i hi
        rcases this with h | h
        · exact absurd h hu
        · exact absurd h.symm e
      | succ m =>
        refine ⟨h1, h2, fun h => h.elim h3 e, h4.more fun k hk => .inl hk, m, rfl, ?_⟩
        exact (Val.del hn hi h5 (fun h => h.elim hu fun h => e h.symm)).congr fun k => by constructor <;> (rintro ((h | h) | h) <;> simp [h])
  | .op j t, L, m, h, hu => by
    obtain ⟨h1, h2, h3, h4, m', hm, h5⟩ := h
    obtain rfl : m = m' := by omega
    have e : j ≠ i := by rintro rfl; rw [hn] at h2; cases h2
    rw [Tr.del]
    cases m with
    | zero =>
      have := Val.zero h5 i hi
      rcases this with h | h
      · exact absurd h hu
      · exact absurd h.symm e
    | succ m =>
      refine ⟨h1, h2, fun h => h.elim h3 e, h4.more fun k hk => .inl hk, m, rfl, ?_⟩
      exact (Val.del hn hi h5 (fun h => h.elim hu fun h => e h.symm)).congr fun k => by constructor <;> (rintro ((h | h) | h) <;> simp [h])
  | .fork s t, L, m, h, hu => ⟨Val.del hn hi h.1 hu, Val.del hn hi h.2 hu⟩
theorem Val.sel {i : Nat} (hn : nz i = true) : ∀ {T T' : Tr} {L : Nat → Prop} {m : Nat}, T.sel i = some T' → Val ops nz T L (m + 1) → Val ops nz T' (fun k => L k ∨ k = i) m
  | .leaf, T', L, m, hs, h => by cases hs
  | .det j t, T', L, m, hs, h => by
    obtain ⟨h1, h2, h3, h4, m', hm, h5⟩ := h
    obtain rfl : m = m' := by omega
    have e : j ≠ i := by rintro rfl; rw [hn] at h2; cases h2
    rw [Tr.sel] at hs
    cases ht : t.sel i with
    | none => rw [ht] at hs; cases hs
    | some t' =>
      rw [ht] at hs
      injection hs with hs
      subst hs
      cases m with
      | zero =>
        exfalso
        clear h1 h2 h3 h4 e
        revert ht h5
        generalize (fun k => L k ∨ k = j) = L'
        intro ht h5
        induction t generalizing L' t' with
        | leaf => cases ht
        | det p t ih => obtain ⟨_, _, _, _, m, hm, _⟩ := h5; omega
        | op p t ih => obtain ⟨_, _, _, _, m, hm, _⟩ := h5; omega
        | fork s t ihs iht =>
          rw [Tr.sel] at ht
          cases hx : s.sel i with
          | some x => exact ihs x L' hx h5.1
          | none => rw [hx] at ht; exact iht t' L' ht h5.2
      | succ m =>
        refine ⟨h1, h2, fun h => h.elim h3 e, h4.more fun k hk => .inl hk, m, rfl, ?_⟩
        exact (Val.sel hn ht h5).congr fun k => by constructor <;> (rintro ((h | h) | h) <;> simp [h])
  | .op j t, T', L, m, hs, h => by
    obtain ⟨h1, h2, h3, h4, m', hm, h5⟩ := h
    obtain rfl : m = m' := by omega
    rw [Tr.sel] at hs
    split at hs
    · rename_i e
      subst e
      injection hs with hs
      subst hs
      exact h5
    · cases hs
  | .fork s t, T', L, m, hs, h => by
    rw [Tr.sel] at hs
    cases hx : s.sel i with
    | some x =>
      rw [hx] at hs
      injection hs with hs
      subst hs
      exact Val.sel hn hx h.1
    | none =>
      rw [hx] at hs
      exact Val.sel hn hs h.2

/-- Every order of what is carried out has its way. -/
def covB (ops : Array Oper) (nzs : List Nat) : Nat → List Nat → Tr → Bool
  | 0, H, _ => nzs.all fun i => H.contains i
  | f + 1, H, T => nzs.all fun i => H.contains i || (nzs.any fun k => anc ops i k && !(H.contains k)) || (match T.sel i with | some T' => covB ops nzs f (i :: H) T' | none => false)
theorem sel_del {r i : Nat} (hr : r ≠ i) : ∀ T : Tr, (T.del r).sel i = (T.sel i).map (Tr.del r)
  | .leaf => rfl
  | .det j t => by
    rw [Tr.del]
    split
    · rename_i e
      subst e
      rw [Tr.sel]
      cases ht : t.sel i with
      | none => rfl
      | some t' => simp [Tr.del]
    · rename_i e
      rw [Tr.sel, Tr.sel, sel_del hr t]
      cases ht : t.sel i with
      | none => rfl
      | some t' => simp [Tr.del, e]
  | .op j t => by
    rw [Tr.del, Tr.sel, Tr.sel]
    split <;> rfl
  | .fork s t => by
    rw [Tr.del, Tr.sel, Tr.sel, sel_del hr s, sel_del hr t]
    cases hx : s.sel i with
    | some x => rfl
    | none => rfl
theorem cov_del {nzs : List Nat} {r : Nat} (hr : r ∉ nzs) : ∀ (f : Nat) (H : List Nat) (T : Tr), covB ops nzs f H T = true → covB ops nzs f H (T.del r) = true
  | 0, H, T, h => h
  | f + 1, H, T, h => by
    rw [covB, List.all_eq_true] at h ⊢
    intro i hi
    have := h i hi
    rw [Bool.or_eq_true] at this ⊢
    rcases this with h1 | h1
    · exact .inl h1
    · right
      have hri : r ≠ i := fun e => hr (e ▸ hi)
      rw [sel_del hri]
      cases hx : T.sel i with
      | none => rw [hx] at h1; cases h1
      | some T' => rw [hx] at h1; exact cov_del hr f _ T' h1

/-! ### the theorem -/
def Down (ops : Array Oper) (L : Nat → Prop) : Prop := ∀ j, L j → deps ops j L
theorem Down.anc {L : Nat → Prop} (hd : Down ops L) : ∀ (f j i : Nat), deps ops j L → ancF ops f j i = true → L i := by
  intro f
  induction f with
  | zero => intro j i _ h; simp [ancF] at h
  | succ f ih =>
    intro j i hj h
    rw [ancF] at h
    cases ho : ops[j]? with
    | none => rw [ho] at h; cases h
    | some o =>
      rw [ho] at h
      simp only [Array.any_eq_true'] at h
      obtain ⟨e, he, h⟩ := h
      rw [Bool.and_eq_true, Bool.or_eq_true] at h
      have hl := hj o ho e he h.1
      rcases h.2 with h2 | h2
      · rw [beq_iff_eq] at h2; rwa [← h2]
      · exact ih e.on i (hd _ hl) h2
theorem Down.put {L : Nat → Prop} {j : Nat} (hd : Down ops L) (hj : deps ops j L) : Down ops (fun k => L k ∨ k = j) := fun k hk => by
  rcases hk with h | rfl
  · exact (hd k h).more fun _ h => .inl h
  · exact hj.more fun _ h => .inl h

def dirB (ops : Array Oper) (j i : Nat) : Bool := match ops[j]? with
  | none => false
  | some o => o.after.any fun e => Region.binds .any e && (e.on == i)
theorem anc_of_dir {j i : Nat} (h : dirB ops j i = true) : anc ops j i = true := by
  unfold dirB at h
  cases ho : ops[j]? with
  | none => rw [ho] at h; cases h
  | some o =>
    rw [ho] at h
    have hj : j < ops.size := (Array.getElem?_eq_some_iff.1 ho).1
    unfold anc
    obtain ⟨n, hn⟩ : ∃ n, ops.size = n + 1 := ⟨ops.size - 1, by omega⟩
    rw [hn, ancF, ho]
    simp only [Array.any_eq_true'] at h ⊢
    obtain ⟨e, he, h⟩ := h
    rw [Bool.and_eq_true] at h
    exact ⟨e, he, by rw [Bool.and_eq_true, Bool.or_eq_true]; exact ⟨h.1, .inl h.2⟩⟩
def pairsB (ops : Array Oper) (nz : Nat → Bool) : Bool :=
  (List.range ops.size).all fun j => (List.range ops.size).all fun i => decide (i = j) || (nz i && nz j) || (match ops[i]?, ops[j]? with | some oi, some oj => oi.apart ops oj | _, _ => true) || dirB ops i j || dirB ops j i || anc ops i j || anc ops j i
def latesB (ops : Array Oper) (nz late : Nat → Bool) : Bool :=
  (List.range ops.size).all fun p => !(nz p) || late p || (List.range ops.size).all fun k => nz k || anc ops p k

theorem ahd_of (hP : ∀ i j oi oj, ops[i]? = some oi → ops[j]? = some oj → i ≠ j → ¬ (nz i = true ∧ nz j = true) → anc ops i j = false → anc ops j i = false → Free ops oi oj)
    (hlt : ∀ p k, p < ops.size → k < ops.size → nz p = true → nz k = false → anc ops p k = false → late p = true) {i : Nat} {oi : Oper} (hi : ops[i]? = some oi) (hni : nz i = false) (hil : i < ops.size) :
    ∀ (T : Tr) (L : Nat → Prop) (m : Nat), Val ops nz T L m → Down ops L → deps ops i L → ¬ L i → Ahd (fun p b => ∀ op, ops[p]? = some op → Free ops op oi ∧ (b = true → late p = true)) i T := by
  intro T
  induction T with
  | leaf => intro L m h _ _ hu; exact absurd (h.2 i hil) hu
  | det j t ih =>
    intro L m h hd hi2 hu
    obtain ⟨h1, h2, h3, h4, m', hm, h5⟩ := h
    by_cases e : j = i
    · exact .inl e
    · right
      have a1 : anc ops i j = false := by
        cases h : anc ops i j with
        | false => rfl
        | true => exact absurd (hd.anc _ i j hi2 h) h3
      have a2 : anc ops j i = false := by
        cases h : anc ops j i with
        | false => rfl
        | true => exact absurd (hd.anc _ j i h4 h) hu
      exact ⟨e, fun op hop => ⟨hP j i op oi hop hi e (by simp [hni]) a2 a1, by simp⟩, ih _ m' h5 (hd.put h4) (hi2.more fun _ h => .inl h) (fun h => h.elim hu fun h => e h.symm)⟩
  | op j t ih =>
    intro L m h hd hi2 hu
    obtain ⟨h1, h2, h3, h4, m', hm, h5⟩ := h
    have e : j ≠ i := by rintro rfl; rw [hni] at h2; cases h2
    have a1 : anc ops i j = false := by
      cases h : anc ops i j with
      | false => rfl
      | true => exact absurd (hd.anc _ i j hi2 h) h3
    have a2 : anc ops j i = false := by
      cases h : anc ops j i with
      | false => rfl
      | true => exact absurd (hd.anc _ j i h4 h) hu
    exact ⟨fun op hop => ⟨hP j i op oi hop hi e (by simp [hni]) a2 a1, fun _ => hlt j i h1 hil h2 hni a2⟩, ih _ m' h5 (hd.put h4) (hi2.more fun _ h => .inl h) (fun h => h.elim hu fun h => e h.symm)⟩
  | fork s t ihs iht =>
    intro L m h hd hi2 hu
    exact ⟨ihs L m h.1 hd hi2 hu, iht L m h.2 hd hi2 hu⟩
theorem sok_of (hP : ∀ i j oi oj, ops[i]? = some oi → ops[j]? = some oj → i ≠ j → ¬ (nz i = true ∧ nz j = true) → anc ops i j = false → anc ops j i = false → Free ops oi oj)
    {i : Nat} {oi : Oper} (hi : ops[i]? = some oi) (hni : nz i = true) :
    ∀ (T : Tr) (L : Nat → Prop) (m : Nat), Val ops nz T L m → Down ops L → deps ops i L → ¬ L i → Sok (fun p => ∀ op, ops[p]? = some op → Free ops op oi) T := by
  intro T
  induction T with
  | leaf => intro L m h _ _ hu; trivial
  | det j t ih =>
    intro L m h hd hi2 hu
    obtain ⟨h1, h2, h3, h4, m', hm, h5⟩ := h
    have e : j ≠ i := by rintro rfl; rw [hni] at h2; cases h2
    have a1 : anc ops i j = false := by
      cases h : anc ops i j with
      | false => rfl
      | true => exact absurd (hd.anc _ i j hi2 h) h3
    have a2 : anc ops j i = false := by
      cases h : anc ops j i with
      | false => rfl
      | true => exact absurd (hd.anc _ j i h4 h) hu
    exact ⟨fun op hop => hP j i op oi hop hi e (by simp [h2]) a2 a1, ih _ m' h5 (hd.put h4) (hi2.more fun _ h => .inl h) (fun h => h.elim hu fun h => e h.symm)⟩
  | op j t ih => intro L m h _ _ _; trivial
  | fork s t ihs iht =>
    intro L m h hd hi2 hu
    exact ⟨ihs L m h.1 hd hi2 hu, iht L m h.2 hd hi2 hu⟩

theorem tree_any {Q' : Exit → Act → World → Prop} {nzs : List Nat} (hns : Region.noSelect ops = true) (hnz : ∀ i, nz i = true ↔ i ∈ nzs) (hQ : ∀ a w, Q a w → Q' .normal a w)
    (hP : ∀ i j oi oj, ops[i]? = some oi → ops[j]? = some oj → i ≠ j → ¬ (nz i = true ∧ nz j = true) → anc ops i j = false → anc ops j i = false → Free ops oi oj)
    (hlt : ∀ p k, p < ops.size → k < ops.size → nz p = true → nz k = false → anc ops p k = false → late p = true) :
    ∀ (fuel : Nat) (T : Tr) (listed : Array Bool) (a : Act) (w : World) (f : Nat) (H : List Nat), listed.size = ops.size → Val ops nz T (fun k => listed.getD k false = true) fuel → Down ops (fun k => listed.getD k false = true) →
    covB ops nzs f H T = true → (∀ i, i ∈ nzs → (i ∈ H ↔ listed.getD i false = true)) → ((∃ j, j < ops.size ∧ listed.getD j false = false ∧ nz j = false) → C w) →
    wpT P ops C late Q T a w → wpAny P .any ops Q' fuel listed a w := by
  have hsel := Region.noSelect_spec hns
  intro fuel
  induction fuel with
  | zero =>
    intro T listed a w f H hz hV hd hc hH hC h
    refine ⟨?_, hQ _ _ (Val.done hV a w h)⟩
    rw [List.eq_nil_iff_forall_not_mem]
    intro i hi
    rw [mem_ready] at hi
    obtain ⟨h0, o, ho, _⟩ := hi
    have hil : i < ops.size := (Array.getElem?_eq_some_iff.1 ho).1
    have := Val.zero hV i hil
    rw [getD_flip (by rw [hz]; exact hil)] at h0
    rw [h0] at this
    cases this
  | succ fuel ih =>
    intro T listed a w f H hz hV hd hc hH hC h
    have flip : ∀ i, i < ops.size → listed.getD i true = listed.getD i false := fun i hi => getD_flip (by rw [hz]; exact hi)
    refine ⟨fun hnil => ?_, fun i hi => ?_⟩
    · obtain ⟨i, hil, hu, hdp⟩ := hV.first
      have : i ∈ Region.ready .any ops listed := by
        rw [mem_ready]
        refine ⟨by rw [flip i hil]; exact Bool.eq_false_iff.2 hu, ops[i], Array.getElem?_eq_getElem hil, fun e he hb => hdp _ (Array.getElem?_eq_getElem hil) e he hb⟩
      rw [hnil] at this
      cases this
    · obtain ⟨hiu, oi, hoi, hall⟩ := mem_ready.1 hi
      have hil : i < ops.size := (Array.getElem?_eq_some_iff.1 hoi).1
      rw [flip i hil] at hiu
      have hu : ¬ (listed.getD i false = true) := by rw [hiu]; simp
      have hdp : deps ops i (fun k => listed.getD k false = true) := fun o ho e he hb => by
        rw [hoi] at ho
        injection ho with ho
        subst ho
        exact hall e he hb
      have hset : ∀ k, ((listed.getD k false = true) ∨ k = i) ↔ (listed.setIfInBounds i true).getD k false = true := fun k => by
        by_cases e : k = i
        · subst e; simp [hz, hil]
        · rw [getD_set_ne false (Ne.symm e)]; simp [e]
      have hd' : Down ops (fun k => (listed.setIfInBounds i true).getD k false = true) := by
        have := hd.put hdp
        have e : (fun k => (listed.getD k false = true) ∨ k = i) = (fun k => (listed.setIfInBounds i true).getD k false = true) := funext fun k => propext (hset k)
        rwa [e] at this
      have hz' : (listed.setIfInBounds i true).size = ops.size := by simpa using hz
      have hsub : ∀ j, (listed.setIfInBounds i true).getD j false = false → listed.getD j false = false := fun j hj => by
        cases h : listed.getD j false with
        | false => rfl
        | true => rw [((hset j).1 (.inl h))] at hj; cases hj
      cases hn : nz i with
      | false =>
        have hCw := hC ⟨i, hil, hiu, hn⟩
        obtain ⟨v, hy, hm⟩ := hoistT hsel hoi T a w hCw (ahd_of hP hlt hoi hn hil T _ _ hV hd hdp hu) h
        have hin : i ∉ nzs := fun h => by rw [(hnz i).2 h] at hn; cases hn
        have hgo := ih (T.del i) (listed.setIfInBounds i true) (a.put oi.dst v) w f H hz' ((hV.del hn hil hu).congr hset) hd' (cov_del hin f H T hc)
          (fun k hk => by rw [hH k hk, ← hset k]; constructor; exact .inl; rintro (h | h); exact h; exact absurd (h ▸ hk) hin) (fun _ => hCw) hm
        unfold wpOp
        rw [hoi]
        rcases hy with ⟨hw, hv⟩ | ⟨hw, rfl⟩
        · simp only [hw, if_true, Oper.wp, hv w hCw, Oper.upon]; exact .inl hgo
        · simp only [hw, Bool.false_eq_true, if_false]; exact hgo
      | true =>
        have hin := (hnz i).1 hn
        have hiH : i ∉ H := fun h => hu ((hH i hin).1 h)
        obtain ⟨T', hT', f', hc'⟩ : ∃ T', T.sel i = some T' ∧ ∃ f', covB ops nzs f' (i :: H) T' = true := by
          cases f with
          | zero =>
            rw [covB, List.all_eq_true] at hc
            have := hc i hin
            simp at this
            exact absurd this hiH
          | succ f =>
            rw [covB, List.all_eq_true] at hc
            have := hc i hin
            rw [Bool.or_eq_true, Bool.or_eq_true] at this
            rcases this with (h1 | h1) | h1
            · simp at h1; exact absurd h1 hiH
            · rw [List.any_eq_true] at h1
              obtain ⟨k, hk, h2⟩ := h1
              rw [Bool.and_eq_true] at h2
              have h3 : listed.getD k false = true := hd.anc _ i k hdp h2.1
              have h4 := (hH k hk).2 h3
              simp [h4] at h2
            · cases hx : T.sel i with
              | none => rw [hx] at h1; cases h1
              | some T' => rw [hx] at h1; exact ⟨T', rfl, f, h1⟩
        obtain ⟨oi', hoi', hm⟩ := sinkT hsel hoi T T' a w hT' (sok_of hP hoi hn T _ _ hV hd hdp hu) h
        rw [hoi] at hoi'
        injection hoi' with hoi'
        subst hoi'
        have hV' := (hV.sel hn hT').congr hset
        have hH' : ∀ k, k ∈ nzs → (k ∈ i :: H ↔ (listed.setIfInBounds i true).getD k false = true) := fun k hk => by
          rw [← hset k, List.mem_cons, hH k hk]
          exact Or.comm
        have hlate : (∃ j, j < ops.size ∧ (listed.setIfInBounds i true).getD j false = false ∧ nz j = false) → late i = true := fun ⟨j, hj, hju, hnj⟩ => by
          refine hlt i j hil hj hn hnj ?_
          cases h : anc ops i j with
          | false => rfl
          | true => have := hd.anc _ i j hdp h; rw [hsub j hju] at this; cases this
        unfold wpOp
        rw [hoi]
        by_cases hw : Region.wanted oi (yielded ops a.tmps) = true
        · rw [if_pos hw] at hm
          simp only [hw, if_true]
          refine .inl ?_
          have hmm := Oper.wp_mono (K' := wpAny P .any ops Q' fuel (listed.setIfInBounds i true)) (fun a' w' h3 => ih T' _ a' w' f' (i :: H) hz' hV' hd' hc' hH' (fun hx => h3.1 (hlate hx)) h3.2) hm
          unfold Oper.wp at hmm ⊢
          generalize (execOp a.eval oi).run P w = r at *
          cases r with
          | ok n w' =>
            cases n <;> simp only [Oper.upon] at hmm ⊢ <;> first
              | exact hmm
              | exact Calls.mono hmm (fun e w'' he => by
                  cases e with
                  | returned u => exact he
                  | panicked c => exact he.elim
                  | outgrown => obtain ⟨_, _, hf⟩ := he; exact hf.elim)
          | halt x w' => cases x <;> simp only [Oper.upon] at hmm
        · rw [if_neg hw] at hm
          simp only [hw, if_false]
          exact ih T' _ _ w f' (i :: H) hz' hV' hd' hc' hH' (fun ⟨j, hj, hju, hnj⟩ => hC ⟨j, hj, hsub j hju, hnj⟩) hm

/-! ### at a region that is written out -/
inductive Tq where
  | leaf
  | reads (is : List Nat) (t : Tq)
  | op (i : Nat) (t : Tq)
  | fork (s t : Tq)
def Tq.tr : Tq → Tr
  | .leaf => .leaf
  | .reads is t => is.foldr .det t.tr
  | .op i t => .op i t.tr
  | .fork s t => .fork s.tr t.tr
def wpTL (P : Program) (l : List Oper) (C : World → Prop) (late : Nat → Bool) (Q : Act → World → Prop) : Tq → Act → World → Prop
  | .leaf, a, w => Q a w
  | .reads is t, a, w => wpQuiet P l.toArray C (fun a' => wpTL P l C late Q t a' w) (is.filterMap fun i => l[i]?) a
  | .op i t, a, w => ∃ o, l[i]? = some o ∧ (if Region.wanted o (yielded l.toArray a.tmps) = true then o.wp P a w (fun a' w' => (late i = true → C w') ∧ wpTL P l C late Q t a' w') (fun _ _ _ => False) else wpTL P l C late Q t (a.put o.dst undef) w)
  | .fork s t, a, w => wpTL P l C late Q s a w ∧ wpTL P l C late Q t a w

def valB (ops : Array Oper) (nz : Nat → Bool) : Tr → List Nat → Nat → Bool
  | .leaf, L, m => m == 0 && (List.range ops.size).all fun k => L.contains k
  | .det j t, L, m => decide (j < ops.size) && !(nz j) && !(L.contains j) && (match ops[j]? with | none => true | some o => o.after.all fun e => !(Region.binds .any e) || L.contains e.on) && (match m with | 0 => false | m' + 1 => valB ops nz t (j :: L) m')
  | .op j t, L, m => decide (j < ops.size) && nz j && !(L.contains j) && (match ops[j]? with | none => true | some o => o.after.all fun e => !(Region.binds .any e) || L.contains e.on) && (match m with | 0 => false | m' + 1 => valB ops nz t (j :: L) m')
  | .fork s t, L, m => valB ops nz s L m && valB ops nz t L m
theorem deps_of {j : Nat} {L : List Nat} (h : (match ops[j]? with | none => true | some o => o.after.all fun e => !(Region.binds .any e) || L.contains e.on) = true) : deps ops j (· ∈ L) := fun o ho e he hb => by
  rw [ho] at h
  simp only [Array.all_eq_true_iff_forall_mem] at h
  have := h e he
  rw [hb] at this
  simpa using this
theorem val_of : ∀ (T : Tr) (L : List Nat) (m : Nat), valB ops nz T L m = true → Val ops nz T (· ∈ L) m
  | .leaf, L, m, h => by
    rw [valB, Bool.and_eq_true, List.all_eq_true] at h
    exact ⟨by simpa using h.1, fun k hk => by have := h.2 k (List.mem_range.2 hk); simpa using this⟩
  | .det j t, L, m, h => by
    simp only [valB, Bool.and_eq_true] at h
    obtain ⟨⟨⟨⟨h1, h2⟩, h3⟩, h4⟩, h5⟩ := h
    refine ⟨by simpa using h1, by simpa using h2, by simpa using h3, deps_of h4, ?_⟩
    cases m with
    | zero => cases h5
    | succ m => exact ⟨m, rfl, (val_of t (j :: L) m h5).congr fun k => by rw [List.mem_cons]; exact Or.comm⟩
  | .op j t, L, m, h => by
    simp only [valB, Bool.and_eq_true] at h
    obtain ⟨⟨⟨⟨h1, h2⟩, h3⟩, h4⟩, h5⟩ := h
    refine ⟨by simpa using h1, by simpa using h2, by simpa using h3, deps_of h4, ?_⟩
    cases m with
    | zero => cases h5
    | succ m => exact ⟨m, rfl, (val_of t (j :: L) m h5).congr fun k => by rw [List.mem_cons]; exact Or.comm⟩
  | .fork s t, L, m, h => by
    rw [valB, Bool.and_eq_true] at h
    exact ⟨val_of s L m h.1, val_of t L m h.2⟩

def treeOk (ops : Array Oper) (nzs lates : List Nat) (T : Tr) : Bool :=
  Region.noSelect ops && pairsB ops (nzs.contains ·) && latesB ops (nzs.contains ·) (lates.contains ·) && valB ops (nzs.contains ·) T [] ops.size && covB ops nzs nzs.length [] T &&
  ((List.range ops.size).all fun i => match ops[i]? with | some o => nzs.contains i || plainB o | none => true)

theorem dets_of {l : List Oper} {t : Tr} (hpl : ∀ k o, l[k]? = some o → nz k = false → plainB o = true) (K : Act → World → Prop) (hK : ∀ a w, K a w → wpT P l.toArray C late Q t a w) : ∀ (is : List Nat) (a : Act) (w : World), (∀ i ∈ is, nz i = false ∧ i < l.length) →
    wpQuiet P l.toArray C (fun a' => K a' w) (is.filterMap fun i => l[i]?) a → wpT P l.toArray C late Q (is.foldr .det t) a w := by
  intro is
  induction is with
  | nil => intro a w _ h; exact hK a w h
  | cons i is ih =>
    intro a w hi h
    obtain ⟨hn, hil⟩ := hi i (List.mem_cons_self ..)
    have ho : l[i]? = some l[i] := List.getElem?_eq_getElem hil
    rw [List.filterMap_cons, ho] at h
    simp only at h
    rw [wpQuiet] at h
    have ho' : l.toArray[i]? = some l[i] := by simp
    show ∃ o, _
    refine ⟨l[i], ho', ?_⟩
    have hi' : ∀ j ∈ is, nz j = false ∧ j < l.length := fun j hj => hi j (List.mem_cons_of_mem _ hj)
    split at h
    · rename_i hw
      obtain ⟨v, h1, h2⟩ := h
      exact ⟨v, yc_of_quiet (hpl i _ ho hn) hw h1, ih _ w hi' h2⟩
    · rename_i hw
      exact ⟨undef, .inr ⟨by simpa using hw, rfl⟩, ih _ w hi' h⟩
/-- Which reads the tree names. -/
def Tq.plain (nz : Nat → Bool) (n : Nat) : Tq → Bool
  | .leaf => true
  | .reads is t => (is.all fun i => !(nz i) && decide (i < n)) && t.plain nz n
  | .op _ t => t.plain nz n
  | .fork s t => s.plain nz n && t.plain nz n
theorem wpT_of {l : List Oper} (hpl : ∀ k o, l[k]? = some o → nz k = false → plainB o = true) : ∀ (T : Tq) (a : Act) (w : World), T.plain nz l.length = true → wpTL P l C late Q T a w → wpT P l.toArray C late Q T.tr a w
  | .leaf, a, w, _, h => h
  | .reads is t, a, w, hp, h => by
    rw [Tq.plain, Bool.and_eq_true, List.all_eq_true] at hp
    exact dets_of hpl (fun a w => wpTL P l C late Q t a w) (fun a w h => wpT_of hpl t a w hp.2 h) is a w (fun i hi => by have := hp.1 i hi; rw [Bool.and_eq_true] at this; exact ⟨by simpa using this.1, of_decide_eq_true this.2⟩) h
  | .op i t, a, w, hp, h => by
    obtain ⟨o, ho, h⟩ := h
    refine ⟨o, by simpa using ho, ?_⟩
    split
    · rename_i hw
      rw [if_pos hw] at h
      exact Oper.wp_mono (fun a' w' h3 => ⟨h3.1, wpT_of hpl t a' w' hp h3.2⟩) h
    · rename_i hw
      rw [if_neg hw] at h
      exact wpT_of hpl t _ w hp h
  | .fork s t, a, w, hp, h => by
    rw [Tq.plain, Bool.and_eq_true] at hp
    exact ⟨wpT_of hpl s a w hp.1 h.1, wpT_of hpl t a w hp.2 h.2⟩

/-- **A tree of walks for a region that draws its order**: nzs: the operations that are carried out; lates: those of them that a read may come up behind; T: the orders. -/
theorem wp_region_tree {id : Nat} {R : Exit → Act → World → Prop} {a : Act} {w : World} {l : List Oper} (nzs lates : List Nat) (T : Tq) (S : World → Prop) (hm : P.follows .mixedOrders = true) (hB : (treeOk l.toArray nzs lates T.tr && T.plain (nzs.contains ·) l.length) = true) (hS : S w.drew)
    (hh : Nonempty (Cls S) → wpTL P l (fun w' => ∃ i : Cls S, w' = i.val) (lates.contains ·) (fun a' w' => R .normal a' w') T a w.drew) : (Code.region id l.toArray true).wp P R a w := by
  have h := hh ⟨⟨_, hS⟩⟩
  unfold treeOk at hB
  simp only [Bool.and_eq_true] at hB
  obtain ⟨⟨⟨⟨⟨⟨hns, hp⟩, hlt⟩, hval⟩, hcov⟩, hpl⟩, htp⟩ := hB
  rw [List.all_eq_true] at hpl
  refine wp_region_any hm ?_
  have hplain : ∀ k o, l[k]? = some o → nzs.contains k = false → plainB o = true := fun k o ho hn => by
    have hk : k < l.toArray.size := by have := (List.getElem?_eq_some_iff.1 ho).1; simpa using this
    have := hpl k (List.mem_range.2 hk)
    rw [show l.toArray[k]? = some o by simpa using ho] at this
    simp only [hn, Bool.false_or] at this
    exact this
  have h1 := wpT_of (nz := (nzs.contains ·)) hplain T a w.drew htp h
  refine tree_any (Q := fun a' w' => R .normal a' w') (nz := (nzs.contains ·)) (late := (lates.contains ·)) (C := Cl S) (nzs := nzs) hns (fun i => by simp) (fun a w h => h) ?_ ?_ _ T.tr _ a _ _ [] (by simp) ((val_of T.tr [] _ hval).congr fun k => ?_) (fun j hj => ?_) hcov (fun i hi => ?_) (fun _ => cl hS) h1
  · intro i j oi oj hi hj hij hnn a1 a2
    unfold pairsB at hp
    rw [List.all_eq_true] at hp
    have h2 := hp j (List.mem_range.2 (Array.getElem?_eq_some_iff.1 hj).1)
    rw [List.all_eq_true] at h2
    have h3 := h2 i (List.mem_range.2 (Array.getElem?_eq_some_iff.1 hi).1)
    have b1 : dirB l.toArray i j = false := by
      cases h : dirB l.toArray i j with
      | false => rfl
      | true => rw [anc_of_dir h] at a1; cases a1
    have b2 : dirB l.toArray j i = false := by
      cases h : dirB l.toArray j i with
      | false => rfl
      | true => rw [anc_of_dir h] at a2; cases a2
    rw [hi, hj, a1, a2, b1, b2] at h3
    simp only [Bool.or_eq_true, decide_eq_true_eq, Bool.and_eq_true, Bool.false_eq_true, or_false] at h3
    rcases h3 with (h3 | h3) | h3
    · exact absurd h3 hij
    · exact absurd h3 hnn
    · exact h3
  · intro p k hpz hkz h1 h2 h3
    unfold latesB at hlt
    rw [List.all_eq_true] at hlt
    have h4 := hlt p (List.mem_range.2 hpz)
    rw [Bool.or_eq_true, Bool.or_eq_true] at h4
    rcases h4 with (h4 | h4) | h4
    · simp only at h4; rw [h1] at h4; cases h4
    · exact h4
    · rw [List.all_eq_true] at h4
      have h5 := h4 k (List.mem_range.2 hkz)
      simp only at h5
      rw [h2, h3] at h5
      cases h5
  · rcases Nat.lt_or_ge k l.length with h3 | h3 <;> simp [h3]
  · exfalso
    rcases Nat.lt_or_ge j l.length with h3 | h3 <;> simp [h3] at hj
  · rcases Nat.lt_or_ge i l.length with h3 | h3 <;> simp [h3]

theorem wpTL_leaf {l : List Oper} {a : Act} {w : World} (h : Q a w) : wpTL P l C late Q .leaf a w := h
theorem pick_eq (l : List Oper) : ∀ is : List Nat, (is.filterMap fun i => l[i]?) = is.flatMap fun i => l[i]?.toList
  | [] => rfl
  | i :: is => by
    rw [List.filterMap_cons, List.flatMap_cons, pick_eq l is]
    cases l[i]? <;> rfl
theorem wpTL_reads {l : List Oper} {is : List Nat} {t : Tq} {a : Act} {w : World} (h : wpQuiet P l.toArray C (fun a' => wpTL P l C late Q t a' w) (is.flatMap fun i => l[i]?.toList) a) : wpTL P l C late Q (.reads is t) a w := by
  rw [← pick_eq] at h
  exact h
theorem wpTL_fork {l : List Oper} {s t : Tq} {a : Act} {w : World} (h1 : wpTL P l C late Q s a w) (h2 : wpTL P l C late Q t a w) : wpTL P l C late Q (.fork s t) a w := ⟨h1, h2⟩
/-- Both ways come to the same end X. -/
theorem fork_cut {l : List Oper} {s t : Tq} {a : Act} {w : World} {X : Prop} (h1 : X → wpTL P l C late Q s a w) (h2 : X → wpTL P l C late Q t a w) (hx : X) : wpTL P l C late Q (.fork s t) a w := ⟨h1 hx, h2 hx⟩
theorem wpTL_op {l : List Oper} {i : Nat} {t : Tq} {a : Act} {w : World} {o : Oper} (ho : l[i]? = some o)
    (h : ∀ K : Act → World → Prop, (∀ a' w', (late i = true → C w') → wpTL P l C late Q t a' w' → K a' w') → if Region.wanted o (yielded l.toArray a.tmps) = true then o.wp P a w K (fun _ _ _ => False) else K (a.put o.dst undef) w) :
    wpTL P l C late Q (.op i t) a w := by
  refine ⟨o, ho, ?_⟩
  by_cases hw : Region.wanted o (yielded l.toArray a.tmps) = true
  · have := h (fun a' w' => (late i = true → C w') ∧ wpTL P l C late Q t a' w') (fun _ _ h1 h2 => ⟨h1, h2⟩)
    rw [if_pos hw] at this ⊢
    exact this
  · have := h (fun a' w' => wpTL P l C late Q t a' w') (fun _ _ _ h2 => h2)
    rw [if_neg hw] at this ⊢
    exact this
end
end Go.Proofs.Ytpebdfgfikjkeaa.Mxt
