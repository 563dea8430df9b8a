/-
  FramesPlays, the plain law: what the list of all tells of the three stacks.
-/
import Derived.Test.YtokchoocelmdoaaFpL
set_option linter.unusedVariables false
set_option linter.unusedSimpArgs false
namespace Go.Proofs.Ytokchoocelmdoaa

theorem valsI_append (l m : List It) : valsI (l ++ m) = valsI l ++ valsI m := by simp [valsI]
theorem cntI_append (q : Int) (l m : List It) : cntI q (l ++ m) = cntI q l + cntI q m := by simp [cntI]
def labsI : Nat → List It → List Lb
  | _, [] => []
  | h, x :: t => if x.k = 0 then labsI (h + 1) t else if x.k = 1 then ⟨x.st, x.dst, x.ar, h, x.lp⟩ :: labsI h t else labsI h t
def frsI : Nat → Nat → List It → List (Int × Nat × Nat)
  | _, _, [] => []
  | h, b, x :: t => if x.k = 0 then frsI (h + 1) b t else if x.k = 1 then frsI h (b + 1) t else (x.r, b, h) :: frsI h b t
theorem valsI_cons0 {x : It} {t : List It} (h : x.k = 0) : valsI (x :: t) = x.v :: valsI t := by simp [valsI, h]
theorem valsI_cons {x : It} {t : List It} (h : x.k ≠ 0) : valsI (x :: t) = valsI t := by simp [valsI, h]
theorem cntI_cons (q : Int) (x : It) (t : List It) : cntI q (x :: t) = cntI q t + (if x.k = q then 1 else 0) := by
  rw [cntI, List.countP_cons]
  simp [cntI]
theorem labsI_append : ∀ (l m : List It) (h : Nat), labsI h (l ++ m) = labsI h l ++ labsI (h + (valsI l).length) m
  | [], m, h => by simp [labsI, valsI]
  | x :: t, m, h => by
    rw [List.cons_append, labsI, labsI]
    by_cases h0 : x.k = 0
    · rw [if_pos h0, if_pos h0, labsI_append t m, valsI_cons0 h0, List.length_cons]
      congr 2
      omega
    · rw [if_neg h0, if_neg h0, valsI_cons h0]
      by_cases h1 : x.k = 1
      · rw [if_pos h1, if_pos h1, labsI_append t m, List.cons_append]
      · rw [if_neg h1, if_neg h1, labsI_append t m]
theorem frsI_append : ∀ (l m : List It) (h b : Nat), frsI h b (l ++ m) = frsI h b l ++ frsI (h + (valsI l).length) (b + cntI 1 l) m
  | [], m, h, b => by simp [frsI, valsI, cntI]
  | x :: t, m, h, b => by
    rw [List.cons_append, frsI, frsI, cntI_cons]
    by_cases h0 : x.k = 0
    · rw [if_pos h0, if_pos h0, frsI_append t m, valsI_cons0 h0, List.length_cons, if_neg (by omega)]
      congr 2
      omega
    · rw [if_neg h0, if_neg h0, valsI_cons h0]
      by_cases h1 : x.k = 1
      · rw [if_pos h1, if_pos h1, if_pos h1, frsI_append t m]
        congr 2
        omega
      · rw [if_neg h1, if_neg h1, if_neg h1, frsI_append t m, List.cons_append, Nat.add_zero]
theorem labsI_length : ∀ (l : List It) (h : Nat), (labsI h l).length = cntI 1 l
  | [], h => rfl
  | x :: t, h => by
    rw [labsI, cntI_cons]
    by_cases h0 : x.k = 0
    · rw [if_pos h0, labsI_length t, if_neg (by omega), Nat.add_zero]
    · rw [if_neg h0]
      by_cases h1 : x.k = 1
      · rw [if_pos h1, if_pos h1, List.length_cons, labsI_length t]
      · rw [if_neg h1, if_neg h1, labsI_length t, Nat.add_zero]
/-- The items are of the three kinds, and tell small numbers. -/
def Good (l : List It) : Prop := ∀ x ∈ l, (x.k = 0 ∨ x.k = 1 ∨ x.k = 2) ∧ (0 ≤ x.ar ∧ x.ar ≤ 1) ∧ (0 ≤ x.r ∧ x.r ≤ 1)
theorem frsI_length : ∀ (l : List It) (h b : Nat), Good l → (frsI h b l).length = cntI 2 l
  | [], h, b, _ => rfl
  | x :: t, h, b, hg => by
    have hx := (hg x (by simp)).1
    have ht : Good t := fun y hy => hg y (by simp [hy])
    rw [frsI, cntI_cons]
    by_cases h0 : x.k = 0
    · rw [if_pos h0, frsI_length t _ _ ht, if_neg (by omega), Nat.add_zero]
    · rw [if_neg h0]
      by_cases h1 : x.k = 1
      · rw [if_pos h1, if_neg (by omega), frsI_length t _ _ ht, Nat.add_zero]
      · rw [if_neg h1, if_pos (by omega), List.length_cons, frsI_length t _ _ ht]
/-- Of values alone. -/
def AllV (l : List It) : Prop := ∀ x ∈ l, x.k = 0
theorem AllV.labs : ∀ {l : List It}, AllV l → ∀ h, labsI h l = []
  | [], _, h => rfl
  | x :: t, ha, h => by rw [labsI, if_pos (ha x (by simp)), AllV.labs (fun y hy => ha y (by simp [hy]))]
theorem AllV.frs : ∀ {l : List It}, AllV l → ∀ h b, frsI h b l = []
  | [], _, h, b => rfl
  | x :: t, ha, h, b => by rw [frsI, if_pos (ha x (by simp)), AllV.frs (fun y hy => ha y (by simp [hy]))]
theorem AllV.vlen : ∀ {l : List It}, AllV l → (valsI l).length = l.length
  | [], _ => rfl
  | x :: t, ha => by rw [valsI_cons0 (ha x (by simp)), List.length_cons, List.length_cons, AllV.vlen (fun y hy => ha y (by simp [hy]))]
theorem AllV.cnt {l : List It} (h : AllV l) {q : Int} (hq : q ≠ 0) : cntI q l = 0 := by
  rw [cntI, List.countP_eq_zero]
  intro x hx
  simp [h x hx, hq.symm]
theorem allV_map (v : List Int) : AllV (v.map valIt) := fun x hx => by
  obtain ⟨y, _, rfl⟩ := List.mem_map.1 hx
  rfl
theorem valsI_map (v : List Int) : valsI (v.map valIt) = v := by
  induction v with
  | nil => rfl
  | cons a v ih => rw [List.map_cons, valsI_cons0 rfl, ih]; rfl
theorem frs_nof : ∀ {l : List It} (h b : Nat), (∀ x ∈ l, x.k = 0 ∨ x.k = 1) → frsI h b l = []
  | [], _, _, _ => rfl
  | x :: t, h, b, ha => by
    have ht : ∀ y ∈ t, y.k = 0 ∨ y.k = 1 := fun y hy => ha y (by simp [hy])
    rw [frsI]
    by_cases h0 : x.k = 0
    · rw [if_pos h0, frs_nof _ _ ht]
    · rw [if_neg h0, if_pos ((ha x (by simp)).resolve_left h0), frs_nof _ _ ht]
theorem good_sub {l m : List It} (h : Good l) (hs : ∀ x ∈ m, x ∈ l) : Good m := fun x hx => h x (hs x hx)
theorem good_take {l : List It} (h : Good l) (k : Nat) : Good (l.take k) := good_sub h fun _ hx => List.mem_of_mem_take hx
theorem good_drop {l : List It} (h : Good l) (k : Nat) : Good (l.drop k) := good_sub h fun _ hx => List.mem_of_mem_drop hx
theorem good_app {l m : List It} (h : Good l) (h2 : Good m) : Good (l ++ m) := fun x hx => by
  rcases List.mem_append.1 hx with e | e
  · exact h x e
  · exact h2 x e
theorem good_map (v : List Int) : Good (v.map valIt) := fun x hx => by
  obtain ⟨y, _, rfl⟩ := List.mem_map.1 hx
  exact ⟨.inl rfl, by simp [valIt], by simp [valIt]⟩

/-! ### the top values taken -/
/-- The last n items are values. -/
def TailV (l : List It) (n : Nat) : Prop := n ≤ l.length ∧ AllV (l.drop (l.length - n))
theorem TailV.get {l : List It} {n : Nat} (h : TailV l n) : ∀ i (hi : i < l.length), l.length - n ≤ i → l[i].k = 0 := fun i hi hn => by
  refine h.2 _ ?_
  rw [List.mem_iff_getElem?]
  exact ⟨i - (l.length - n), by rw [List.getElem?_drop, show l.length - n + (i - (l.length - n)) = i by omega, List.getElem?_eq_getElem hi]⟩
theorem TailV.split {l : List It} {n : Nat} (h : TailV l n) : n ≤ (valsI l).length ∧ valsI (l.take (l.length - n)) = (valsI l).take ((valsI l).length - n) ∧ labsI 0 (l.take (l.length - n)) = labsI 0 l ∧ frsI 0 0 (l.take (l.length - n)) = frsI 0 0 l := by
  obtain ⟨h1, h2⟩ := h
  have e := (List.take_append_drop (l.length - n) l).symm
  have hv := h2.vlen
  rw [List.length_drop] at hv
  have ev : valsI l = valsI (l.take (l.length - n)) ++ valsI (l.drop (l.length - n)) := by rw [← valsI_append, List.take_append_drop]
  have el : (valsI l).length = (valsI (l.take (l.length - n))).length + n := by rw [ev, List.length_append, hv]; omega
  refine ⟨by omega, ?_, ?_, ?_⟩
  · rw [ev, List.take_left' (by rw [← ev]; omega)]
  · conv => rhs; rw [e, labsI_append, h2.labs, List.append_nil]
  · conv => rhs; rw [e, frsI_append, h2.frs, List.append_nil]

/-! ### the place of the last of a kind, and of the n-th block -/
theorem lastU_spec (l : List It) (q : Int) : ∀ n : Nat, n ≤ l.length → (lastU l q n = -1 ∧ ∀ i (h : i < l.length), i < n → l[i].k ≠ q) ∨ ∃ a : Nat, ∃ h : a < l.length, a < n ∧ lastU l q n = a ∧ l[a].k = q ∧ ∀ i (h : i < l.length), a < i → i < n → l[i].k ≠ q
  | 0, _ => .inl ⟨rfl, fun i _ h => absurd h (Nat.not_lt_zero i)⟩
  | n + 1, hn => by
    have hl : n < l.length := by omega
    by_cases hq : l[n].k = q
    · exact .inr ⟨n, hl, by omega, lastU_hit hl hq, hq, fun i _ h1 h2 => by omega⟩
    · rw [lastU_miss hl hq]
      rcases lastU_spec l q n (by omega) with ⟨h1, h2⟩ | ⟨a, ha, h1, h2, h3, h4⟩
      · refine .inl ⟨h1, fun i hi h => ?_⟩
        rcases Nat.lt_or_ge i n with e | e
        · exact h2 i hi e
        · obtain rfl : i = n := by omega
          exact hq
      · refine .inr ⟨a, ha, by omega, h2, h3, fun i hi h5 h6 => ?_⟩
        rcases Nat.lt_or_ge i n with e | e
        · exact h4 i hi h5 e
        · obtain rfl : i = n := by omega
          exact hq
theorem mem_drop_get {l : List It} {n : Nat} {P : It → Prop} (h : ∀ i (hi : i < l.length), n ≤ i → P l[i]) : ∀ x ∈ l.drop n, P x := fun x hx => by
  obtain ⟨i, hi⟩ := List.mem_iff_getElem?.1 hx
  rw [List.getElem?_drop] at hi
  obtain ⟨h1, h2⟩ := List.getElem?_eq_some_iff.1 hi
  rw [← h2]
  exact h (n + i) h1 (by omega)
theorem cnt_none {l : List It} {q : Int} (h : ∀ x ∈ l, x.k ≠ q) : cntI q l = 0 := by
  rw [cntI, List.countP_eq_zero]
  intro x hx
  simp [h x hx]
theorem drop_cons {l : List It} {a : Nat} (h : a < l.length) : l.drop a = l[a] :: l.drop (a + 1) := List.drop_eq_getElem_cons h
theorem lastI_none {l : List It} {q : Int} (h : lastI l q < 0) : cntI q l = 0 := by
  rcases lastU_spec l q l.length (Nat.le_refl _) with ⟨_, h2⟩ | ⟨a, _, _, h2, _⟩
  · refine cnt_none fun x hx => ?_
    obtain ⟨i, hi, rfl⟩ := List.mem_iff_getElem.1 hx
    exact h2 i hi hi
  · rw [lastI, h2] at h; omega
theorem lastI_some {l : List It} {q : Int} (h : 0 ≤ lastI l q) : ∃ a : Nat, ∃ ha : a < l.length, lastI l q = a ∧ l[a].k = q ∧ ∀ x ∈ l.drop (a + 1), x.k ≠ q := by
  rcases lastU_spec l q l.length (Nat.le_refl _) with ⟨h2, _⟩ | ⟨a, ha, _, h2, h3, h4⟩
  · rw [lastI, h2] at h; omega
  · exact ⟨a, ha, h2, h3, mem_drop_get fun i hi h5 => h4 i hi (by omega) hi⟩
/-- How many of a kind from a place on, among the first so many. -/
def cntR (l : List It) (q : Int) (i j : Nat) : Nat := cntI q ((l.take j).drop i)
theorem cntR_succ {l : List It} {q : Int} {i j : Nat} (hj : j < l.length) (hi : i ≤ j) : cntR l q i (j + 1) = cntR l q i j + (if l[j].k = q then 1 else 0) := by
  rw [cntR, cntR, List.take_succ_eq_append_getElem hj, List.drop_append_of_le_length (by rw [List.length_take]; omega), cntI_append]
  congr 1
  rw [cntI_cons]
  simp [cntI]
theorem cntR_self (l : List It) (q : Int) (i : Nat) : cntR l q i i = 0 := by
  rw [cntR, List.drop_of_length_le (by rw [List.length_take]; omega)]
  rfl
theorem blockU_spec (l : List It) (c : Nat) : ∀ (i n : Nat), i ≤ l.length → c ≤ i → (blockU l ((c : Int) - 1) i n = -1 ∧ cntR l 1 c i ≤ n) ∨ ∃ a : Nat, ∃ h : a < l.length, c ≤ a ∧ a < i ∧ blockU l ((c : Int) - 1) i n = a ∧ l[a].k = 1 ∧ cntR l 1 (a + 1) i = n
  | 0, n, _, hc => .inl ⟨rfl, by
    have e : c = 0 := by omega
    subst e
    rw [cntR_self]
    exact Nat.zero_le _⟩
  | i + 1, n, hi, hc => by
    have hl : i < l.length := by omega
    rcases Nat.eq_or_lt_of_le hc with e | e
    · left
      rw [← e, cntR_self]
      exact ⟨blockU_low (by omega), Nat.zero_le _⟩
    · have hb : ((c : Int) - 1) < (i : Int) := by omega
      by_cases hq : l[i].k = 1
      · rcases Nat.eq_zero_or_pos n with rfl | hp
        · exact .inr ⟨i, hl, by omega, by omega, blockU_hit hl hb hq, hq, cntR_self _ _ _⟩
        · obtain ⟨m, rfl⟩ : ∃ m, n = m + 1 := ⟨n - 1, by omega⟩
          rw [blockU_next hl hb hq]
          rcases blockU_spec l c i m (by omega) (by omega) with ⟨h1, h2⟩ | ⟨a, ha, h0, h1, h2, h3, h4⟩
          · refine .inl ⟨h1, ?_⟩
            rw [cntR_succ hl (by omega), if_pos hq]
            omega
          · refine .inr ⟨a, ha, h0, by omega, h2, h3, ?_⟩
            rw [cntR_succ hl (by omega), if_pos hq, h4]
      · rw [blockU_skip hl hb hq]
        rcases blockU_spec l c i n (by omega) (by omega) with ⟨h1, h2⟩ | ⟨a, ha, h0, h1, h2, h3, h4⟩
        · refine .inl ⟨h1, ?_⟩
          rw [cntR_succ hl (by omega), if_neg hq]
          omega
        · refine .inr ⟨a, ha, h0, by omega, h2, h3, ?_⟩
          rw [cntR_succ hl (by omega), if_neg hq, h4]
          rfl
theorem cntR_all (l : List It) (q : Int) (i : Nat) : cntR l q i l.length = cntI q (l.drop i) := by rw [cntR, List.take_length]
end Go.Proofs.Ytokchoocelmdoaa
