/-
  Graph: what is near, as a function and as a law; what an order and an error tell.
-/
import Derived.Test.YtgchpanjfllijaaGrD
set_option linter.unusedVariables false
set_option linter.unusedSimpArgs false
namespace Go.Proofs.Ytgchpanjfllijaa
open Go.RowKit

/-- What a name needs. -/
def nds (rows : List Rw) (s : Nm) : List Nm := match fnd rows s with
  | some r => r.needs
  | none => []
theorem nds_some {rows : List Rw} {s : Nm} {r : Rw} (h : fnd rows s = some r) : nds rows s = r.needs := by unfold nds; rw [h]
theorem nds_none {rows : List Rw} {s : Nm} (h : fnd rows s = none) : nds rows s = [] := by unfold nds; rw [h]
inductive Reach (rows : List Rw) (s : Nm) : Nm → Prop
  | refl : Reach rows s s
  | step {x t : Nm} : Reach rows s x → t ∈ nds rows x → Reach rows s t
theorem Reach.trans {rows : List Rw} {a b c : Nm} (h : Reach rows a b) (k : Reach rows b c) : Reach rows a c := by
  induction k with
  | refl => exact h
  | step _ ht ih => exact .step ih ht
theorem Reach.one {rows : List Rw} {a b : Nm} (h : b ∈ nds rows a) : Reach rows a b := .step .refl h
theorem Reach.first {rows : List Rw} {a b : Nm} (h : Reach rows a b) : a = b ∨ ∃ t ∈ nds rows a, Reach rows t b := by
  induction h with
  | refl => exact .inl rfl
  | step h1 ht ih =>
    rcases ih with rfl | ⟨u, hu, hr⟩
    · exact .inr ⟨_, ht, .refl⟩
    · exact .inr ⟨u, hu, .step hr ht⟩
theorem Reach.last {rows : List Rw} {a b : Nm} (h : Reach rows a b) : a = b ∨ ∃ x, Reach rows a x ∧ b ∈ nds rows x := by
  cases h with
  | refl => exact .inl rfl
  | step h1 ht => exact .inr ⟨_, h1, ht⟩

/-- All that can be near. -/
def univ (rows : List Rw) (s : Nm) : List Nm := s :: rows.flatMap (·.needs)
theorem nds_univ {rows : List Rw} {s x t : Nm} (h : t ∈ nds rows x) : t ∈ univ rows s := by
  unfold nds at h
  cases hf : fnd rows x with
  | none => rw [hf] at h; cases h
  | some r =>
    rw [hf] at h
    exact List.mem_cons.2 (.inr (List.mem_flatMap.2 ⟨r, (fnd_some hf).1, h⟩))
theorem Reach.univ {rows : List Rw} {s x : Nm} (h : Reach rows s x) : x ∈ univ rows s := by
  cases h with
  | refl => exact List.mem_cons.2 (.inl rfl)
  | step _ ht => exact nds_univ ht
theorem flat_le (rows : List Rw) (h : ∀ r ∈ rows, r.needs.length ≤ 15) : (rows.flatMap (·.needs)).length ≤ rows.length * 15 := by
  induction rows with
  | nil => simp
  | cons r l ih =>
    have h1 := h r (by simp)
    have h2 := ih (fun x hx => h x (by simp [hx]))
    rw [List.flatMap_cons, List.length_append, List.length_cons]
    omega
theorem univ_le {rows : List Rw} {s : Nm} (hr : rows.length ≤ 15) (h : ∀ r ∈ rows, r.needs.length ≤ 15) : (univ rows s).length ≤ 226 := by
  have := flat_le rows h
  unfold univ
  rw [List.length_cons]
  omega

/-- Some that are near. -/
structure Nr (rows : List Rw) (s : Nm) (out : List Nm) : Prop where
  nodup : out.Nodup
  reach : ∀ x ∈ out, Reach rows s x
  root : s ∈ out
theorem Nr.le {rows : List Rw} {s : Nm} {out : List Nm} (h : Nr rows s out) (hr : rows.length ≤ 15) (hn : ∀ r ∈ rows, r.needs.length ≤ 15) : out.length ≤ 226 := by
  have := sub_length out (univ rows s) h.nodup (fun x hx => (h.reach x hx).univ)
  have := univ_le (s := s) hr hn
  omega
def add1 (o : List Nm) (t : Nm) : List Nm := if o.contains t then o else o ++ [t]
theorem add1_mem {o : List Nm} {t x : Nm} : x ∈ add1 o t ↔ x ∈ o ∨ x = t := by
  unfold add1
  split
  · rename_i h
    have := List.contains_iff_mem.1 h
    exact ⟨.inl, fun h => h.elim id (fun e => e ▸ this)⟩
  · simp
theorem Nr.add {rows : List Rw} {s x t : Nm} {out : List Nm} (h : Nr rows s out) (hx : Reach rows s x) (ht : t ∈ nds rows x) : Nr rows s (add1 out t) := by
  refine ⟨?_, fun y hy => ?_, add1_mem.2 (.inl h.root)⟩
  · unfold add1
    split
    · exact h.nodup
    · rename_i hc
      rw [List.nodup_append]
      exact ⟨h.nodup, by simp, fun a ha b hb => by simp at hb; subst hb; exact fun e => hc (List.contains_iff_mem.2 (e ▸ ha))⟩
  · rcases add1_mem.1 hy with hy | rfl
    · exact h.reach y hy
    · exact .step hx ht
theorem add1_pre (o : List Nm) (t : Nm) : o <+: add1 o t := by
  unfold add1
  split
  · exact List.prefix_refl _
  · exact List.prefix_append _ _
theorem adds_pre : ∀ (ts o : List Nm), o <+: ts.foldl add1 o
  | [], o => List.prefix_refl _
  | t :: ts, o => (add1_pre o t).trans (adds_pre ts _)
theorem adds_mem {x : Nm} : ∀ (ts o : List Nm), x ∈ ts.foldl add1 o ↔ x ∈ o ∨ x ∈ ts
  | [], o => by simp
  | t :: ts, o => by
    rw [List.foldl_cons, adds_mem ts, add1_mem, List.mem_cons]
    exact ⟨fun h => by rcases h with (h | h) | h; exact .inl h; exact .inr (.inl h); exact .inr (.inr h), fun h => by rcases h with h | h | h; exact .inl (.inl h); exact .inl (.inr h); exact .inr h⟩
theorem Nr.adds {rows : List Rw} {s x : Nm} (hx : Reach rows s x) : ∀ (ts out : List Nm), (∀ t ∈ ts, t ∈ nds rows x) → Nr rows s out → Nr rows s (ts.foldl add1 out)
  | [], out, _, h => h
  | t :: ts, out, ht, h => Nr.adds hx ts _ (fun u hu => ht u (by simp [hu])) (h.add hx (ht t (by simp)))

def nearF (rows : List Rw) : Nat → Nat → List Nm → List Nm
  | 0, _, out => out
  | f + 1, i, out => match out[i]? with
    | none => out
    | some x => nearF rows f (i + 1) ((nds rows x).foldl add1 out)
/-- Near ones, in order. -/
def nearOf (rows : List Rw) (s : Nm) : List Nm := nearF rows 227 0 [s]
theorem nearF_step {rows : List Rw} {i : Nat} {out : List Nm} (hi : i < out.length) (h : i ≤ 226) : nearF rows (227 - i) i out = nearF rows (227 - (i + 1)) (i + 1) ((nds rows out[i]).foldl add1 out) := by
  rw [show 227 - i = (227 - (i + 1)) + 1 by omega, nearF, List.getElem?_eq_getElem hi]
theorem nearF_end {rows : List Rw} {i : Nat} {out : List Nm} (hi : out.length ≤ i) (h : i ≤ 226) : nearF rows (227 - i) i out = out := by
  rw [show 227 - i = (227 - (i + 1)) + 1 by omega, nearF, List.getElem?_eq_none hi]
theorem nearF_law {rows : List Rw} {s : Nm} (hr : rows.length ≤ 15) (hn : ∀ r ∈ rows, r.needs.length ≤ 15) : ∀ (f i : Nat) (out : List Nm), Nr rows s out → 227 ≤ i + f → i ≤ out.length → (∀ (j : Nat) (h : j < out.length), j < i → ∀ t ∈ nds rows out[j], t ∈ out) →
    Nr rows s (nearF rows f i out) ∧ ∀ x ∈ nearF rows f i out, ∀ t ∈ nds rows x, t ∈ nearF rows f i out
  | 0, i, out, h, hf, hi, hc => by
    have := h.le hr hn
    omega
  | f + 1, i, out, h, hf, hi, hc => by
    unfold nearF
    by_cases hlt : i < out.length
    · rw [List.getElem?_eq_getElem hlt]
      have hx := h.reach _ (List.getElem_mem hlt)
      have h2 := Nr.adds hx (nds rows out[i]) out (fun _ h => h) h
      have hpre := adds_pre (nds rows out[i]) out
      refine nearF_law hr hn f (i + 1) _ h2 (by omega) (by have := hpre.length_le; omega) fun j hj hji t ht => ?_
      have hjo : j < out.length := by omega
      rw [show ((nds rows out[i]).foldl add1 out)[j] = out[j] from (hpre.getElem hjo).symm] at ht
      rw [adds_mem]
      rcases Nat.lt_succ_iff_lt_or_eq.1 hji with hji | rfl
      · exact .inl (hc j hjo hji t ht)
      · exact .inr ht
    · rw [List.getElem?_eq_none (by omega)]
      show Nr rows s out ∧ ∀ x ∈ out, ∀ t ∈ nds rows x, t ∈ out
      refine ⟨h, fun x hx t ht => ?_⟩
      obtain ⟨j, hj, rfl⟩ := List.mem_iff_getElem.1 hx
      exact hc j hj (by omega) t ht
theorem nr_start (rows : List Rw) (s : Nm) : Nr rows s [s] := ⟨by simp, fun x hx => by simp at hx; subst hx; exact .refl, by simp⟩
/-- What is near is what can be reached. -/
theorem near_law {rows : List Rw} (s : Nm) (hr : rows.length ≤ 15) (hn : ∀ r ∈ rows, r.needs.length ≤ 15) : (nearOf rows s).Nodup ∧ ∀ x, x ∈ nearOf rows s ↔ Reach rows s x := by
  obtain ⟨h1, h2⟩ := nearF_law hr hn 227 0 [s] (nr_start rows s) (by omega) (by simp) (fun j _ h => absurd h (Nat.not_lt_zero _))
  refine ⟨h1.nodup, fun x => ⟨h1.reach x, fun hx => ?_⟩⟩
  induction hx with
  | refl => exact h1.root
  | step _ ht ih => exact h2 _ ih _ ht

/-- Each behind all that it needs. -/
def Behind (rows : List Rw) (d : List Nm) : Prop := ∀ (i : Nat) (h : i < d.length), ∀ t ∈ nds rows d[i], t ∈ d.take i
theorem Behind.snoc {rows : List Rw} {d : List Nm} {s : Nm} (h : Behind rows d) (hs : ∀ t ∈ nds rows s, t ∈ d) : Behind rows (d ++ [s]) := by
  intro i hi t ht
  rw [List.length_append] at hi
  by_cases hl : i < d.length
  · rw [List.getElem_append_left hl] at ht
    rw [List.take_append_of_le_length (by omega)]
    exact h i hl t ht
  · have : i = d.length := by simp at hi; omega
    subst this
    rw [List.getElem_append_right (Nat.le_refl _)] at ht
    simp at ht
    rw [List.take_append_of_le_length (Nat.le_refl _), List.take_length]
    exact hs t ht
theorem exFold_ok {P : List Nm → Prop} {S : Nm → Prop} {g : List Nm → Nm → Ro} (hg : ∀ d t d', P d → S t → g d t = .ok d' → P d' ∧ (∀ x ∈ d, x ∈ d') ∧ t ∈ d') :
    ∀ (ts d d' : List Nm), P d → (∀ t ∈ ts, S t) → exFold g d ts = .ok d' → P d' ∧ (∀ x ∈ d, x ∈ d') ∧ ∀ t ∈ ts, t ∈ d'
  | [], d, d', hp, _, h => by
    unfold exFold at h
    injection h with h
    subst h
    exact ⟨hp, fun _ h => h, by simp⟩
  | t :: ts, d, d', hp, hs, h => by
    unfold exFold at h
    split at h
    · rename_i d1 h1
      obtain ⟨p1, s1, m1⟩ := hg d t d1 hp (hs t (by simp)) h1
      obtain ⟨p2, s2, m2⟩ := exFold_ok hg ts d1 d' p1 (fun u hu => hs u (by simp [hu])) h
      exact ⟨p2, fun x hx => s2 x (s1 x hx), fun u hu => by
        rcases List.mem_cons.1 hu with rfl | hu
        · exact s2 _ m1
        · exact m2 u hu⟩
    · cases h
/-- An order: each behind what it needs, all of them near, all told. -/
theorem visF_ok {rows : List Rw} {root : Nm} : ∀ (f : Nat) (way done : List Nm) (s : Nm) (d : List Nm), way.length + f ≥ 1 → rows.length + 1 ≤ way.length + f → Names rows way →
    Behind rows done ∧ (∀ x ∈ done, Reach rows root x) → Reach rows root s → visF rows f way done s = .ok d → (Behind rows d ∧ ∀ x ∈ d, Reach rows root x) ∧ (∀ x ∈ done, x ∈ d) ∧ s ∈ d
  | 0, way, done, s, d, _, hf, hw, hb, hs, h => by
    have := hw.le
    omega
  | f + 1, way, done, s, d, _, hf, hw, hb, hs, h => by
    unfold visF at h
    split at h
    · rename_i hd
      injection h with h
      subst h
      exact ⟨hb, fun _ h => h, List.contains_iff_mem.1 hd⟩
    · split at h
      · cases h
      · rename_i hwc
        split at h
        · cases h
        · rename_i r hr
          split at h
          · rename_i d1 h1
            injection h with h
            subst h
            have hw' : s ∉ way := fun e => hwc (List.contains_iff_mem.2 e)
            have hw2 := hw.snoc hw' ⟨r, fnd_some hr⟩
            obtain ⟨p1, s1, m1⟩ := exFold_ok (P := fun d => Behind rows d ∧ ∀ x ∈ d, Reach rows root x) (S := fun t => Reach rows root t)
              (fun d t d' hp ht h' => visF_ok f (way ++ [s]) d t d' (by simp; omega) (by simp; omega) hw2 hp ht h') r.needs done d1 hb (fun t ht => .step hs (by rw [nds_some hr]; exact ht)) h1
            refine ⟨⟨p1.1.snoc (fun t ht => m1 t (by rwa [nds_some hr] at ht)), fun x hx => ?_⟩, fun x hx => by simp [s1 x hx], by simp⟩
            rcases List.mem_append.1 hx with hx | hx
            · exact p1.2 x hx
            · simp at hx; subst hx; exact hs
          · cases h
theorem exFold_err {S : Nm → Prop} {g : List Nm → Nm → Ro} {E : Nm × Int → Prop} (hg : ∀ d t x, S t → g d t = .error x → E x) :
    ∀ (ts d : List Nm) (x : Nm × Int), (∀ t ∈ ts, S t) → exFold g d ts = .error x → E x
  | [], d, x, _, h => by
    unfold exFold at h
    cases h
  | t :: ts, d, x, hs, h => by
    unfold exFold at h
    split at h
    · exact exFold_err hg ts _ x (fun u hu => hs u (by simp [hu])) h
    · rename_i y h1
      injection h with h
      subst h
      exact hg d t y (hs t (by simp)) h1
/-- What an error tells. -/
def ErrSays (rows : List Rw) (root : Nm) (x : Nm × Int) : Prop := Reach rows root x.1 ∧ ((x.2 = 40 ∧ fnd rows x.1 = none) ∨ (x.2 = 41 ∧ ∃ t ∈ nds rows x.1, Reach rows t x.1))
theorem visF_err {rows : List Rw} {root : Nm} : ∀ (f : Nat) (way done : List Nm) (s : Nm) (x : Nm × Int), (∀ y ∈ way, ∃ t ∈ nds rows y, Reach rows t s) → Reach rows root s → visF rows f way done s = .error x → ErrSays rows root x
  | 0, way, done, s, x, _, _, h => by
    unfold visF at h
    cases h
  | f + 1, way, done, s, x, hw, hs, h => by
    unfold visF at h
    split at h
    · cases h
    · split at h
      · rename_i hwc
        injection h with h
        subst h
        exact ⟨hs, .inr ⟨rfl, hw s (List.contains_iff_mem.1 hwc)⟩⟩
      · split at h
        · rename_i hn
          injection h with h
          subst h
          exact ⟨hs, .inl ⟨rfl, hn⟩⟩
        · rename_i r hr
          split at h
          · cases h
          · rename_i y h1
            injection h with h
            subst h
            refine exFold_err (S := fun t => t ∈ nds rows s) (E := ErrSays rows root) (fun d t x ht h' => visF_err f (way ++ [s]) d t x (fun y hy => ?_) (.step hs ht) h') r.needs done y (fun t ht => by rw [nds_some hr]; exact ht) h1
            rcases List.mem_append.1 hy with hy | hy
            · obtain ⟨u, hu, hru⟩ := hw y hy
              exact ⟨u, hu, .step hru ht⟩
            · simp at hy
              subst hy
              exact ⟨t, ht, .refl⟩
end Go.Proofs.Ytgchpanjfllijaa
