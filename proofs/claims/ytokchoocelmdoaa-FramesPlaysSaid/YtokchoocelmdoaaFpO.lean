/-
  FramesPlays: the stacks and the list of all, side by side.
-/
import Derived.Test.YtokchoocelmdoaaFpM
import Derived.Test.YtokchoocelmdoaaFpN
set_option linter.unusedVariables false
set_option linter.unusedSimpArgs false
namespace Go.Proofs.Ytokchoocelmdoaa
open Go.RowKit

def Fm.key (f : Fm) : Int × Nat × Nat := ((f.rs.size : Int), f.lb, f.h)
/-- The stacks tell what the list of all tells. -/
def Fst (w : World) (I : Nat → Prop) (g : Nat) (l : List It) (fs : List Fm) (most : Int) : Prop := Fs w I g (valsI l) (labsI 0 l) fs most ∧ fs.map Fm.key = frsI 0 0 l
structure Sta (w : World) (I : Nat → Prop) (g : Nat) (A : Option Addr) (c : Nat) (l : List It) (most : Int) : Prop where
  fst : ∃ fs, Fst w I g l fs most
  own : w.ownsRow 0 57 7 (.slice A l.length c) l.length (its l)
  good : Good l
def SDo (w : World) (I : Nat → Prop) (g : Nat) (A : Option Addr) (l : List It) (most : Int) (e : Ending) (w' : World) : Prop :=
  ∃ A' c' I', e = .returned (.tuple #[.slice A' l.length c', .bool true]) ∧ Sta w' I' g A' c' l most ∧ Upd w (fun k => I k ∨ blkOf A = some k) (fun k => I' k ∨ blkOf A' = some k) w'
theorem frsI_lb : ∀ (l : List It) (h b : Nat), ∀ e ∈ frsI h b l, e.2.1 ≤ b + cntI 1 l ∧ e.2.2 ≤ h + (valsI l).length
  | [], h, b, e, he => by simp [frsI] at he
  | x :: t, h, b, e, he => by
    rw [frsI] at he
    rw [cntI_cons]
    by_cases h0 : x.k = 0
    · rw [if_pos h0] at he
      have := frsI_lb t _ _ e he
      rw [valsI_cons0 h0, List.length_cons, if_neg (by omega)]
      omega
    · rw [if_neg h0] at he
      rw [valsI_cons h0]
      by_cases h1 : x.k = 1
      · rw [if_pos h1] at he
        have := frsI_lb t _ _ e he
        rw [if_pos h1]
        omega
      · rw [if_neg h1] at he
        rw [if_neg h1]
        rcases List.mem_cons.1 he with rfl | he
        · exact ⟨by simp, by simp⟩
        · have := frsI_lb t _ _ e he
          omega
section
variable {w w1 w2 w' : World} {I I' : Nat → Prop} {g c : Nat} {A : Option Addr} {l l' : List It} {fs fs' : List Fm} {most : Int}
theorem Fst.okf (h : Fst w I g l fs most) : Okf (labsI 0 l) fs := fun f hf => by
  have hm : f.key ∈ frsI 0 0 l := by rw [← h.2]; exact List.mem_map.2 ⟨f, hf, rfl⟩
  have := (frsI_lb l 0 0 _ hm).1
  rw [labsI_length]
  simpa [Fm.key] using this
theorem Fst.flen (h : Fst w I g l fs most) (hg : Good l) : fs.length = cntI 2 l := by
  rw [← frsI_length l 0 0 hg, ← h.2, List.length_map]
theorem Fst.quiet (h : Fst w I g l fs most) (hs : Step (fun _ => False) w w') : Fst w' I g l fs most := ⟨h.1.quiet hs, h.2⟩
/-- Split at the inmost function. -/
theorem Fst.split (h : Fst w I g l fs most) {a : Nat} (ha : a < l.length) (h2 : l[a].k = 2) (hg : Good l) (hn : ∀ x ∈ l.drop (a + 1), x.k ≠ 2) :
    ∃ (pre : List Fm) (f : Fm), fs = pre ++ [f] ∧ pre.map Fm.key = frsI 0 0 (l.take a) ∧ (f.rs.size : Int) = l[a].r ∧ f.lb = cntI 1 (l.take a) ∧ f.h = (valsI (l.take a)).length := by
  have e : l = l.take a ++ (l[a] :: l.drop (a + 1)) := by rw [← drop_cons ha, List.take_append_drop]
  have hk := h.2
  rw [e, frsI_append, frsI, if_neg (by omega), if_neg (by omega), frs_nof (l := l.drop (a + 1)) _ _ (fun x hx => by
    have h1 := (good_drop hg (a + 1) x hx).1
    have h3 := hn x hx
    omega)] at hk
  obtain ⟨pre, r, e1, e2, e3⟩ := List.map_eq_append_iff.1 hk
  obtain ⟨f, r2, e4, e5, e6⟩ := List.map_eq_cons_iff.1 e3
  obtain rfl : r2 = [] := List.map_eq_nil_iff.1 e6
  rw [e4] at e1
  rw [Fm.key, Prod.mk.injEq, Prod.mk.injEq] at e5
  refine ⟨pre, f, e1, e2, e5.1, by omega, by omega⟩
theorem Fst.none (h : Fst w I g l fs most) (hg : Good l) (hn : lastI l 2 < 0) : fs = [] := by
  have := h.flen hg
  rw [lastI_none hn] at this
  exact List.length_eq_zero_iff.1 this
/-- How many blocks of the inmost function are open. -/
theorem Fst.own (h : Fst w I g l fs most) (hg : Good l) : ∃ cc : Nat, lastI l 2 = (cc : Int) - 1 ∧ cc ≤ l.length ∧ ownN (labsI 0 l) fs = cntI 1 (l.drop cc) ∧ ∀ x ∈ l.drop cc, x.k ≠ 2 := by
  by_cases hn : lastI l 2 < 0
  · have hl := (lastU_lt l 2 l.length).1
    refine ⟨0, ?_, Nat.zero_le _, ?_, ?_⟩
    · have : lastI l 2 = lastU l 2 l.length := rfl
      omega
    · rw [h.none hg hn, ownN, List.getLast?_nil, labsI_length]
      rfl
    · intro x hx hk
      have := lastI_none hn
      rw [cntI, List.countP_eq_zero] at this
      exact absurd (this x hx) (by simp [hk])
  · obtain ⟨a, ha, e1, e2, e3⟩ := lastI_some (Int.not_lt.1 hn)
    obtain ⟨pre, f, rfl, _, _, hb, _⟩ := h.split ha e2 hg e3
    refine ⟨a + 1, by rw [e1]; omega, by omega, ?_, e3⟩
    rw [ownN, List.getLast?_concat, labsI_length]
    show cntI 1 l - f.lb = _
    have e : l = l.take a ++ (l[a] :: l.drop (a + 1)) := by rw [← drop_cons ha, List.take_append_drop]
    have hc : cntI 1 l = cntI 1 (l.take a) + cntI 1 (l.drop (a + 1)) := by
      conv => lhs; rw [e, cntI_append, cntI_cons, if_neg (by omega), Nat.add_zero]
    omega
/-- The n-th block of the inmost function. -/
theorem Fst.block (h : Fst w I g l fs most) (hg : Good l) (n : Nat) : (blockI l n < 0 ∧ ownN (labsI 0 l) fs ≤ n) ∨ ∃ a : Nat, ∃ ha : a < l.length, blockI l n = a ∧ l[a].k = 1 ∧ n < ownN (labsI 0 l) fs ∧ cntI 1 (l.drop (a + 1)) = n ∧ (∀ x ∈ l.drop a, x.k ≠ 2) := by
  obtain ⟨cc, e1, hc, e2, e3⟩ := h.own hg
  have e0 : blockI l n = blockU l ((cc : Int) - 1) l.length n := by rw [blockI, e1]
  rw [e0, e2]
  rcases blockU_spec l cc l.length n (Nat.le_refl _) hc with ⟨h1, h2⟩ | ⟨a, ha, h0, h1, h2, h3, h4⟩
  · rw [cntR_all] at h2
    exact .inl ⟨by omega, h2⟩
  · rw [cntR_all] at h4
    refine .inr ⟨a, ha, h2, h3, ?_, h4, fun x hx => ?_⟩
    · have e : l.drop cc = (l.drop cc).take (a - cc) ++ (l[a] :: l.drop (a + 1)) := by
        rw [← drop_cons ha]
        have := List.take_append_drop (a - cc) (l.drop cc)
        rw [List.drop_drop, show cc + (a - cc) = a by omega] at this
        exact this.symm
      rw [e, cntI_append, cntI_cons, if_pos h3, h4]
      omega
    · refine e3 x ?_
      rw [show l.drop a = (l.drop cc).drop (a - cc) by rw [List.drop_drop, show cc + (a - cc) = a by omega]] at hx
      exact List.mem_of_mem_drop hx
/-- Split at a block. -/
theorem lab_split {a n : Nat} (ha : a < l.length) (hk : l[a].k = 1) (hn : cntI 1 (l.drop (a + 1)) = n) (hf : ∀ x ∈ l.drop a, x.k ≠ 2) (hg : Good l) :
    (labsI 0 l).length = cntI 1 (l.take a) + n + 1 ∧ (labsI 0 l)[cntI 1 (l.take a)]? = some ⟨l[a].st, l[a].dst, l[a].ar, (valsI (l.take a)).length, l[a].lp⟩ ∧ labsI 0 (l.take a) = (labsI 0 l).take (cntI 1 (l.take a)) ∧
      labsI 0 (l.take a ++ [l[a]]) = (labsI 0 l).take (cntI 1 (l.take a) + 1) ∧ frsI 0 0 l = frsI 0 0 (l.take a) ∧ frsI 0 0 (l.take a ++ [l[a]]) = frsI 0 0 (l.take a) := by
  have e : l = l.take a ++ (l[a] :: l.drop (a + 1)) := by rw [← drop_cons ha, List.take_append_drop]
  have el : labsI 0 l = labsI 0 (l.take a) ++ (⟨l[a].st, l[a].dst, l[a].ar, (valsI (l.take a)).length, l[a].lp⟩ :: labsI (valsI (l.take a)).length (l.drop (a + 1))) := by
    conv => lhs; rw [e, labsI_append, labsI, if_neg (by omega), if_pos hk, Nat.zero_add]
  have ll := labsI_length (l.take a) 0
  have l1 : labsI 0 (l.take a ++ [l[a]]) = labsI 0 (l.take a) ++ [⟨l[a].st, l[a].dst, l[a].ar, (valsI (l.take a)).length, l[a].lp⟩] := by
    rw [labsI_append, labsI, if_neg (by omega), if_pos hk, Nat.zero_add]
    rfl
  have f1 : frsI (0 + (valsI (l.take a)).length) (0 + cntI 1 (l.take a)) (l[a] :: l.drop (a + 1)) = [] := frs_nof _ _ (fun x hx => by
    rw [← drop_cons ha] at hx
    have h1 := (good_drop hg a x hx).1
    have h3 := hf x hx
    omega)
  refine ⟨?_, ?_, ?_, ?_, ?_, ?_⟩
  · rw [labsI_length]
    conv => lhs; rw [e, cntI_append, cntI_cons, if_pos hk, hn]
    omega
  · rw [el, ← ll, List.getElem?_append_right (Nat.le_refl _), Nat.sub_self]
    rfl
  · rw [el, ← ll, List.take_left]
  · rw [l1, el, ← ll, List.take_length_add_append]
    rfl
  · conv => lhs; rw [e, frsI_append, f1, List.append_nil]
  · rw [frsI_append, frs_nof (l := [l[a]]) _ _ (fun x hx => by rw [List.mem_singleton.1 hx]; exact .inr hk), List.append_nil]
theorem vals_split (a : Nat) : valsI l = valsI (l.take a) ++ valsI (l.drop a) := by rw [← valsI_append, List.take_append_drop]
theorem keep_vals {a n : Nat} (hn : n ≤ (valsI (l.drop a)).length) : keepF (valsI l) (valsI (l.take a)).length n = valsI (backI l a n) := by
  have e := vals_split (l := l) a
  rw [backI, valsI_append, valsI_map, keepF, e]
  generalize valsI (l.take a) = p at *
  generalize valsI (l.drop a) = q at *
  rw [List.take_left, List.length_append, show p.length + q.length - n = p.length + (q.length - n) by omega, List.drop_length_add_append]
theorem back_labs {a n : Nat} : labsI 0 (backI l a n) = labsI 0 (l.take a) ∧ frsI 0 0 (backI l a n) = frsI 0 0 (l.take a) := by
  rw [backI, labsI_append, frsI_append, (allV_map _).labs, (allV_map _).frs, List.append_nil, List.append_nil]
  exact ⟨rfl, rfl⟩
theorem back_good {a n : Nat} (hg : Good l) : Good (backI l a n) := good_app (good_take hg a) (good_map _)

/-! ### what a call leaves -/
theorem Sta.quiet (h : Sta w I g A c l most) (hs : Step (fun _ => False) w w') : Sta w' I g A c l most := by
  obtain ⟨fs, hf⟩ := h.fst
  exact ⟨⟨fs, hf.quiet hs⟩, own_step h.own hs (fun _ _ => id), h.good⟩
theorem Fst.far (h : Fst w I g l fs most) {B size n c : Nat} {A : Option Addr} {vs : List Value} (ho : w.ownsRow B 57 size (.slice A n c) n vs) : ∀ k, blkOf A = some k → ¬ I k := h.1.row ho (by decide) (by decide) (by decide) (by decide)
/-- The stacks have turned (to w1), and then the list (to w2). -/
theorem sdo {A' : Option Addr} {c' : Nat} {fs' : List Fm} (hu : Upd w I I' w1) (hf : Fst w2 I' g l' fs' most) (hs : Step (fun k => blkOf A = some k) w1 w2) (ho : w2.ownsRow 0 57 7 (.slice A' l'.length c') l'.length (its l')) (hA : ∀ k, blkOf A' = some k → blkOf A = some k ∨ w.heap.size ≤ k) (hg : Good l') :
    SDo w I g A l' most (.returned (.tuple #[.slice A' l'.length c', .bool true])) w2 := by
  refine ⟨A', c', I', rfl, ⟨⟨fs', hf⟩, ho, hg⟩, (hu.1.mono fun k _ hk => .inl hk).trans' hs (fun i hi => .inl (.inr hi)), fun k hk => ?_⟩
  rcases hk with hk | hk
  · rcases hu.2 k hk with e | e
    · exact .inl (.inl e)
    · exact .inr e
  · rcases hA k hk with e | e
    · exact .inl (.inr e)
    · exact .inr e
end
end Go.Proofs.Ytokchoocelmdoaa
