/-
  store: the owners as a rising list: the plain laws.
-/
import Derived.Test.YtmheofkakcomdaaGsI
set_option linter.unusedVariables false
set_option linter.unusedSimpArgs false
namespace Go.Proofs.Ytmheofkakcomdaa
open Go.RowKit
/-- The owners: a rising list. -/
structure Ris (ow : List Int) (f : Int → Option Value) : Prop where
  up : ow.Pairwise (fun x y => x < y)
  mem : ∀ x, x ∈ ow ↔ (f x).isSome = true
theorem Ris.nodup {ow : List Int} {f : Int → Option Value} (h : Ris ow f) : ow.Nodup := h.up.imp (fun hxy e => by omega)
theorem own_keys {w : World} {B : Nat} {s : Sg} (h : Gw w B s) {ow : List Int} (hr : Ris ow s.f) {ss : List Int} (hp : ss.Perm (intKeys s.D)) : ss.mergeSort (fun x y => decide (x ≤ y)) = ow := by
  have h1 : ow.Perm (intKeys s.D) := CollectedI.perm (left := fun _ => false) ⟨hr.nodup, fun x => by
    rw [hr.mem x]
    have := (h.mp.2 x).1
    unfold kI at this
    rw [this]
    simp⟩ h.mp.1 (Maps.int_keyed Try.underlying3) Try.underlying3 (fun _ => rfl)
  have h2 := mergeSort_of_perm_i (hp.trans h1.symm)
  have h3 : ow.mergeSort leI = ow := List.mergeSort_of_pairwise (hr.up.imp (fun hxy => by simp [leI]; omega))
  exact h2.trans h3
theorem ris_put {ow : List Int} {f : Int → Option Value} (h : Ris ow f) (x : Int) (v : Value) (hx : ¬ x ∈ ow) : Ris (risF ow x) (putI f x v) := by
  have key : ∀ j, j ≤ ow.length → ((risP (ow.take j) x).2 = false → (risP (ow.take j) x).1 = ow.take j ∧ ∀ y ∈ ow.take j, y < x) ∧
      ((risP (ow.take j) x).2 = true → (risP (ow.take j) x).1.Pairwise (fun a b => a < b) ∧ (∃ y ∈ ow.take j, x < y) ∧ ∀ z, z ∈ (risP (ow.take j) x).1 ↔ z = x ∨ z ∈ ow.take j) := by
    intro j
    induction j with
    | zero =>
      intro _
      rw [List.take_zero]
      exact ⟨fun _ => ⟨rfl, fun y hy => (by cases hy)⟩, fun e => (by cases e)⟩
    | succ j ih =>
      intro hj
      have hjl : j < ow.length := by omega
      obtain ⟨i1, i2⟩ := ih (by omega)
      have hup : ∀ y ∈ ow.take j, y < ow[j] := fun y hy => by
        obtain ⟨i, hi, rfl⟩ := List.mem_iff_getElem.1 hy
        rw [List.length_take] at hi
        rw [List.getElem_take]
        exact List.pairwise_iff_getElem.1 h.up i j (by omega) hjl (by omega)
      have hne : ow[j] ≠ x := fun e => hx (e ▸ List.getElem_mem hjl)
      rw [risP_succ ow x j hjl, List.take_succ_eq_append_getElem hjl]
      obtain ⟨⟨o, d⟩, hp⟩ : ∃ p, risP (ow.take j) x = p := ⟨_, rfl⟩
      rw [hp] at i1 i2 ⊢
      have hpu : (ow.take j).Pairwise (fun a b => a < b) := h.up.take
      clear ih hp
      generalize ow[j] = q at *
      generalize ow.take j = p at *
      simp only at i1 i2
      cases d with
      | false =>
        obtain ⟨e1, e2⟩ := i1 rfl
        by_cases hxy : x < q
        · rw [risS, if_pos ⟨rfl, hxy⟩]
          refine ⟨fun e => (by cases e), fun _ => ⟨?_, ⟨q, by simp, hxy⟩, fun z => by simp [e1, or_left_comm]⟩⟩
          rw [e1]
          refine List.pairwise_append.2 ⟨List.pairwise_append.2 ⟨hpu, by simp, fun y hy z hz => by rw [List.mem_singleton.1 hz]; exact e2 y hy⟩, by simp, fun y hy z hz => ?_⟩
          rw [List.mem_singleton.1 hz]
          rcases List.mem_append.1 hy with hy | hy
          · exact hup y hy
          · rw [List.mem_singleton.1 hy]; exact hxy
        · rw [risS, if_neg (fun e => hxy e.2)]
          refine ⟨fun _ => ⟨by rw [e1], fun y hy => ?_⟩, fun e => (by cases e)⟩
          rcases List.mem_append.1 hy with hy | hy
          · exact e2 y hy
          · rw [List.mem_singleton.1 hy]; omega
      | true =>
        obtain ⟨e1, ⟨y0, hy0, hxy⟩, e3⟩ := i2 rfl
        rw [risS, if_neg (fun e => by cases e.1)]
        refine ⟨fun e => (by cases e), fun _ => ⟨?_, ⟨y0, List.mem_append_left _ hy0, hxy⟩, fun z => by simp [e3, or_assoc]⟩⟩
        refine List.pairwise_append.2 ⟨e1, by simp, fun y hy z hz => ?_⟩
        rw [List.mem_singleton.1 hz]
        rcases (e3 y).1 hy with rfl | hy
        · have := hup y0 hy0; omega
        · exact hup y hy
  obtain ⟨k1, k2⟩ := key ow.length (Nat.le_refl _)
  rw [List.take_length] at k1 k2
  have hm : ∀ z, z ∈ risF ow x ↔ z = x ∨ z ∈ ow := fun z => by
    rw [risF]
    cases hd : (risP ow x).2 with
    | false =>
      rw [if_neg (by simp), (k1 hd).1]
      simp [or_comm]
    | true =>
      rw [if_pos rfl]
      exact (k2 hd).2.2 z
  refine ⟨?_, fun z => ?_⟩
  · rw [risF]
    cases hd : (risP ow x).2 with
    | false =>
      rw [if_neg (by simp), (k1 hd).1]
      exact List.pairwise_append.2 ⟨h.up, by simp, fun y hy z hz => by rw [List.mem_singleton.1 hz]; exact (k1 hd).2 y hy⟩
    | true =>
      rw [if_pos rfl]
      exact (k2 hd).1
  · rw [hm, putI]
    by_cases hz : z = x
    · rw [if_pos hz]; simp [hz]
    · rw [if_neg hz, ← h.mem]; simp [hz]
theorem ris_del {ow : List Int} {f : Int → Option Value} (h : Ris ow f) (x : Int) : Ris (woF ow x) (delI f x) := by
  refine ⟨h.up.filter _, fun z => ?_⟩
  rw [woF, List.mem_filter, delI, h.mem z]
  by_cases hz : z = x
  · rw [if_pos hz]; simp [hz]
  · rw [if_neg hz]; simp [hz]
theorem ris_nil : Ris [] (fun _ => none) := ⟨List.Pairwise.nil, fun x => by simp⟩
end Go.Proofs.Ytmheofkakcomdaa
