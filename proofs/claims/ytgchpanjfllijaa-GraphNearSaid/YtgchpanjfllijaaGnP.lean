/-
  GraphNear, the plain law: who needs a name, sorted; whether a name needs itself.
-/
import Derived.Test.YtgchpanjfllijaaGrL
import Derived.Sort.KeysCollected
set_option linter.unusedVariables false
set_option linter.unusedSimpArgs false
namespace Go.Proofs.Ytgchpanjfllijaa
open Go (leB)

/-- How many of the first names stand ahead of one. -/
def posF (s : Nm) : List Nm → Nat
  | [] => 0
  | x :: t => if x < s then posF s t + 1 else 0
theorem posF_le (s : Nm) : ∀ l : List Nm, posF s l ≤ l.length
  | [] => Nat.le_refl _
  | x :: t => by
    have := posF_le s t
    rw [posF, List.length_cons]
    split <;> omega
theorem posF_lt (s : Nm) : ∀ (l : List Nm) (i : Nat) (h : i < l.length), i < posF s l → l[i] < s
  | x :: t, 0, _, hi => by
    rw [posF] at hi
    split at hi
    · assumption
    · omega
  | x :: t, i + 1, h, hi => by
    rw [posF] at hi
    split at hi
    · exact posF_lt s t i (by simpa using h) (by omega)
    · omega
theorem posF_stop (s : Nm) : ∀ (l : List Nm) (h : posF s l < l.length), ¬ l[posF s l] < s
  | x :: t, h => by
    by_cases hx : x < s
    · have e : posF s (x :: t) = posF s t + 1 := by rw [posF, if_pos hx]
      have h2 : posF s t < t.length := by rw [e, List.length_cons] at h; omega
      have := posF_stop s t h2
      simpa only [e, List.getElem_cons_succ] using this
    · have e : posF s (x :: t) = 0 := by rw [posF, if_neg hx]
      simpa only [e, List.getElem_cons_zero] using hx
theorem posF_of (s : Nm) : ∀ (l : List Nm) (n : Nat), n ≤ l.length → (∀ i (h : i < l.length), i < n → l[i] < s) → (∀ h : n < l.length, ¬ l[n] < s) → posF s l = n
  | [], n, hn, _, _ => by simp at hn; subst hn; rfl
  | x :: t, 0, _, _, h2 => by rw [posF, if_neg (show ¬ x < s from h2 (by simp))]
  | x :: t, n + 1, hn, h1, h2 => by
    rw [posF, if_pos (show x < s from h1 0 (by simp) (by omega)), posF_of s t n (by simpa using hn) (fun i h hi => h1 (i + 1) (by simpa using h) (by omega)) (fun h => h2 (by simpa using h))]
def insF (s : Nm) (l : List Nm) : List Nm := l.take (posF s l) ++ s :: l.drop (posF s l)
def sortF (l : List Nm) : List Nm := l.foldl (fun o s => insF s o) []
theorem insF_perm (s : Nm) (l : List Nm) : (insF s l).Perm (s :: l) := by
  refine (List.perm_middle).trans (List.Perm.cons _ ?_)
  rw [List.take_append_drop]
theorem insF_len (s : Nm) (l : List Nm) : (insF s l).length = l.length + 1 := by rw [(insF_perm s l).length_eq, List.length_cons]
theorem insF_sorted (s : Nm) (l : List Nm) (h : l.Pairwise (fun a b => leB a b = true)) : (insF s l).Pairwise (fun a b => leB a b = true) := by
  have hL : ∀ x ∈ l.take (posF s l), x < s := fun x hx => by
    obtain ⟨i, hi, rfl⟩ := List.mem_iff_getElem.1 hx
    rw [List.length_take] at hi
    rw [List.getElem_take]
    exact posF_lt s l i (by omega) (by omega)
  have hR : ∀ x ∈ l.drop (posF s l), s ≤ x := fun x hx => by
    obtain ⟨i, hi, rfl⟩ := List.mem_iff_getElem.1 hx
    rw [List.length_drop] at hi
    have hp : posF s l < l.length := by omega
    have h0 := posF_stop s l hp
    rw [List.getElem_drop]
    rcases Nat.eq_zero_or_pos i with rfl | hi0
    · exact List.not_lt.1 h0
    · have h3 := (List.pairwise_iff_getElem.1 h) (posF s l) (posF s l + i) hp (by omega) (by omega)
      exact List.le_trans (List.not_lt.1 h0) (by simpa [leB] using h3)
  refine List.pairwise_append.2 ⟨h.sublist (List.take_sublist _ _), List.pairwise_cons.2 ⟨fun x hx => by simpa [leB] using hR x hx, h.sublist (List.drop_sublist _ _)⟩, fun a ha b hb => ?_⟩
  have h1 := hL a ha
  rcases List.mem_cons.1 hb with rfl | hb
  · simpa [leB] using List.le_of_lt h1
  · have h2 := hR b hb
    simpa [leB] using List.le_trans (List.le_of_lt h1) h2
theorem sortF_go : ∀ (l o : List Nm), o.Pairwise (fun a b => leB a b = true) → (l.foldl (fun o s => insF s o) o).Perm (o ++ l) ∧ (l.foldl (fun o s => insF s o) o).Pairwise (fun a b => leB a b = true)
  | [], o, h => ⟨by simp, h⟩
  | s :: t, o, h => by
    obtain ⟨h1, h2⟩ := sortF_go t (insF s o) (insF_sorted s o h)
    refine ⟨h1.trans ?_, h2⟩
    refine ((insF_perm s o).append_right t).trans ?_
    exact (List.perm_middle (l₁ := o) (l₂ := t) (a := s)).symm
theorem sortF_perm (l : List Nm) : (sortF l).Perm l := by
  have := (sortF_go l [] List.Pairwise.nil).1
  rwa [List.nil_append] at this
theorem sortF_sorted (l : List Nm) : (sortF l).Pairwise (fun a b => leB a b = true) := (sortF_go l [] List.Pairwise.nil).2
theorem sortF_succ (l : List Nm) (k : Nat) (h : k < l.length) : sortF (l.take (k + 1)) = insF l[k] (sortF (l.take k)) := by
  rw [List.take_succ_eq_append_getElem h, sortF, List.foldl_append]
  rfl
theorem sortF_len (l : List Nm) : (sortF l).length = l.length := (sortF_perm l).length_eq
theorem sort_eq {l m : List Nm} (h : l.Perm m) : l.mergeSort leB = sortF m := by
  have tr : ∀ a b c : List UInt8, leB a b = true → leB b c = true → leB a c = true := fun a b c h1 h2 => by simp only [leB, decide_eq_true_eq] at *; exact List.le_trans h1 h2
  have tot : ∀ a b : List UInt8, (leB a b || leB b a) = true := fun a b => by simp only [leB, Bool.or_eq_true, decide_eq_true_eq]; exact List.le_total a b
  refine List.Perm.eq_of_pairwise (le := fun a b => leB a b = true) (fun a b _ _ h1 h2 => ?_) (List.pairwise_mergeSort tr tot l) (sortF_sorted m) (((List.mergeSort_perm l leB).trans h).trans (sortF_perm m).symm)
  simp only [leB, decide_eq_true_eq] at h1 h2
  exact List.le_antisymm h1 h2

/-! ### who needs a name -/
def whoF (rows : List Rw) (s : Nm) : List Nm := (rows.filter (fun r => r.needs.contains s)).map Rw.name
theorem whoF_succ (rows : List Rw) (s : Nm) (k : Nat) (h : k < rows.length) : whoF (rows.take (k + 1)) s = whoF (rows.take k) s ++ (if rows[k].needs.contains s then [rows[k].name] else []) := by
  rw [List.take_succ_eq_append_getElem h, whoF, List.filter_append, List.map_append, whoF]
  congr 1
  by_cases hc : rows[k].needs.contains s = true
  · rw [if_pos hc]
    simp only [List.filter_cons, List.filter_nil, hc]
    rfl
  · rw [if_neg hc]
    simp only [List.filter_cons, List.filter_nil, hc]
    rfl
theorem whoF_le (rows : List Rw) (s : Nm) : (whoF rows s).length ≤ rows.length := by rw [whoF, List.length_map]; exact List.length_filter_le _ _
/-- Names told once. -/
def Once (rows : List Rw) : Prop := (rows.map Rw.name).Nodup
theorem once_add {acc : List Rw} {r : Rw} (h : Once acc) : Once (addRow acc r) := by
  unfold addRow
  split
  · rename_i hneg
    unfold Once
    rw [List.map_append]
    refine List.nodup_append.2 ⟨h, by simp, fun a ha b hb => ?_⟩
    simp at hb
    subst hb
    rintro rfl
    obtain ⟨x, hx, e⟩ := List.mem_map.1 ha
    exact findI_neg hneg x hx e
  · exact h
theorem once_rows (l : List Rw) : Once (rowsOf l) := by
  have : ∀ (l acc : List Rw), Once acc → Once (l.foldl addRow acc) := by
    intro l
    induction l with
    | nil => intro acc h; exact h
    | cons r t ih => intro acc h; exact ih _ (once_add h)
  exact this l [] (by simp [Once])
theorem once_fnd {rows : List Rw} (h : Once rows) {r : Rw} (hr : r ∈ rows) : fnd rows r.name = some r := by
  unfold fnd
  obtain ⟨i, hi, rfl⟩ := List.mem_iff_getElem.1 hr
  rw [List.find?_eq_some_iff_getElem]
  refine ⟨by simp, i, hi, rfl, fun j hj => ?_⟩
  have h1 := (List.pairwise_iff_getElem.1 h) j i (by rw [List.length_map]; omega) (by rw [List.length_map]; omega) hj
  rw [List.getElem_map, List.getElem_map] at h1
  simpa using h1
/-- The names met, those that need one, sorted: as the reference has them. -/
theorem who_law {rows : List Rw} (h : Once rows) {ss : List Nm} (hn : ss.Nodup) (hm : ∀ x, x ∈ ss ↔ (edgeF rows x).isSome = true) (s : Nm) :
    (ss.filter (fun x => (nds rows x).contains s)).mergeSort leB = sortF (whoF rows s) := by
  have hp : ss.Perm (rows.map Rw.name) := (List.perm_ext_iff_of_nodup hn h).2 fun x => by
    rw [hm x, edgeF_eq, Option.isSome_map]
    constructor
    · intro hx
      obtain ⟨r, hr⟩ := Option.isSome_iff_exists.1 hx
      obtain ⟨h1, h2⟩ := fnd_some hr
      exact List.mem_map.2 ⟨r, h1, h2⟩
    · intro hx
      obtain ⟨r, hr, rfl⟩ := List.mem_map.1 hx
      rw [once_fnd h hr]
      rfl
  refine sort_eq ((hp.filter _).trans ?_)
  rw [List.filter_map, whoF]
  refine List.Perm.of_eq (congrArg _ (List.filter_congr fun r hr => ?_))
  show (nds rows r.name).contains s = _
  rw [nds_some (once_fnd h hr)]

/-! ### does a name need itself? -/
theorem cyc_law {rows : List Rw} (s : Nm) (hr : rows.length ≤ 15) (hn : ∀ r ∈ rows, r.needs.length ≤ 15) : cyc rows s = (nearOf rows s).any fun x => (nds rows x).contains s := by
  rw [Bool.eq_iff_iff, cyc, List.any_eq_true, List.any_eq_true]
  constructor
  · rintro ⟨t, ht, hc⟩
    have h1 := ((near_law t hr hn).2 s).1 (List.contains_iff_mem.1 hc)
    rcases h1.last with e | ⟨x, hx, hs⟩
    · subst e
      exact ⟨t, ((near_law t hr hn).2 t).2 .refl, List.contains_iff_mem.2 ht⟩
    · exact ⟨x, ((near_law s hr hn).2 x).2 ((Reach.one ht).trans hx), List.contains_iff_mem.2 hs⟩
  · rintro ⟨x, hx, hc⟩
    have h1 := ((near_law s hr hn).2 x).1 hx
    have h2 := List.contains_iff_mem.1 hc
    rcases h1.first with e | ⟨t, ht, hx2⟩
    · subst e
      exact ⟨s, h2, List.contains_iff_mem.2 (((near_law s hr hn).2 s).2 .refl)⟩
    · exact ⟨t, ht, List.contains_iff_mem.2 (((near_law t hr hn).2 s).2 (.step hx2 h2))⟩
end Go.Proofs.Ytgchpanjfllijaa
