/-
  An argument that is a slice of structs of one-cell fields, opened to a list.
-/
import Derived.Test.YtmheofkakcomdaaMem
import Derived.Deep.Slices
import Derived.Deep.Fields
import Derived.ChangeSame
set_option linter.unusedVariables false
set_option linter.unusedSimpArgs false
namespace Go.Proofs.Ytmheofkakcomdaa
open Go.RowKit Go.ChangeShapes Go.WideShapes Go.Deep

theorem flat_length {α : Type} (c : α → List Value) (m : Nat) (hc : ∀ a, (c a).length = m) (l : List α) : (l.flatMap c).length = l.length * m := by
  induction l with
  | nil => simp
  | cons a l ih => rw [List.flatMap_cons, List.length_append, hc, ih, List.length_cons, Nat.add_mul]; omega
theorem flat_get {α : Type} (c : α → List Value) (m : Nat) (hc : ∀ a, (c a).length = m) : ∀ (l : List α) (k j : Nat) (h : k < l.length), j < m → (l.flatMap c)[k * m + j]? = (c l[k])[j]?
  | a :: l, 0, j, _, hj => by
    simp only [List.flatMap_cons, Nat.zero_mul, Nat.zero_add, List.getElem_cons_zero]
    rw [List.getElem?_append_left (by rw [hc]; exact hj)]
  | a :: l, k + 1, j, h, hj => by
    simp only [List.flatMap_cons, List.getElem_cons_succ]
    have e : (k + 1) * m + j = m + (k * m + j) := by rw [Nat.add_mul]; omega
    rw [List.getElem?_append_right (by rw [hc, e]; omega), hc, e, Nat.add_sub_cancel_left]
    exact flat_get c m hc l k j (by simpa using h) hj

section
variable {H : Type} {enc : TypeId × Value → H} {P : Program} {w : World} {base : Nat} {spare : Nat → Bool} {held : Bool}
theorem open_structs {α : Type} [Inhabited α] (c : α → List Value) {t e : TypeId} {fs : Array Field} {fuel : Nat} {a0 : Option Addr} {len cap : Nat} {x : DataW H × List MemPlace}
    (ht : P.underlying t = some (.slice e)) (he : P.underlying e = some (.struct fs)) (hone : oneCellFields P fs = true) (hC : P.cellsOf e = fs.size) (hpos : 0 < fs.size) (hc : ∀ a, (c a).length = fs.size)
    (hmk : ∀ vs : List Value, vs.length = fs.size → (∀ (j : Nat) (f : Field), fs[j]? = some f → ∃ (v : Value) (y : DataW H × List MemPlace) (n : Nat), vs[j]? = some v ∧ DataW.trod enc P w base spare held n f.type [v] = some y) → ∃ a, vs = c a)
    (h : DataW.trod enc P w base spare held fuel t [.slice a0 len cap] = some x) :
    ∃ l : List α, l.length = len ∧ Reads w (fun k => k < w.heap.size) fs.size a0 len (l.flatMap c) ∧ len ≤ cap ∧ cap ≤ maxLen := by
  rcases open_slice ht h with ⟨h0, _⟩ | ⟨a, len', cap', m, n, D, Pl, hcs, hb, hl, hm, hmm, hx, hi⟩
  · simp at h0
    obtain ⟨rfl, rfl, rfl⟩ := h0
    exact ⟨[], rfl, Reads.nil_, Nat.le_refl _, by unfold maxLen; omega⟩
  · simp at hcs
    obtain ⟨rfl, rfl, rfl⟩ := hcs
    have hlm : len ≤ m := by rw [hmm]; split <;> omega
    have one : ∀ i, i < len → ∃ y : α, ∀ j u, (c y)[j]? = some u → w.cell? (a.add (i * fs.size + j)) = some u := fun i hil => by
      obtain ⟨cs', h1, h2⟩ := hi i (by omega)
      rw [hC] at h1
      obtain ⟨ys, n', hn', hy, hlen, hyl, hf⟩ := DataW.trod_struct he h2
      obtain ⟨_, hcl, hat⟩ := World.cells?_some h1
      obtain ⟨y, rfl⟩ := hmk cs' hcl (fun j f hj => by
        obtain ⟨ho, hk⟩ := hone_of hone j f hj
        have hjl : j < fs.size := (Array.getElem?_eq_some_iff.1 hj).1
        have h3 := hf j f hj
        rw [ho, hk] at h3
        have hone' : (cs'.drop j).take 1 = [cs'[j]'(by omega)] := by
          rw [List.drop_eq_getElem_cons (by omega)]
          rfl
        rw [hone'] at h3
        have hys : ys[j]? = some (ys[j]'(by omega)) := List.getElem?_eq_getElem (by omega)
        exact ⟨cs'[j]'(by omega), _, _, List.getElem?_eq_getElem (by omega), h3.trans hys⟩)
      refine ⟨y, fun j u hu => ?_⟩
      have hj : j < fs.size := by
        have := (List.getElem?_eq_some_iff.1 hu).1
        rw [hc] at this
        exact this
      rw [← add_add', hat j hj]
      exact hu
    obtain ⟨f, hf⟩ := choose_lt one
    refine ⟨(List.range len).map f, by simp, ⟨by rw [flat_length c fs.size hc]; simp, fun hn => ⟨a, rfl, ?_, ?_, fun j u hu => ?_⟩⟩, hl, hm⟩
    · obtain ⟨cs', h1, _⟩ := hi 0 (by omega)
      rw [hC] at h1
      obtain ⟨_, hcl, hat⟩ := World.cells?_some h1
      have h4 := hat 0 hpos
      rw [List.getElem?_eq_getElem (by omega)] at h4
      have := World.block_lt_of_cell? w _ h4
      rwa [add_block, add_block] at this
    · obtain ⟨cs', h1, _⟩ := hi 0 (by omega)
      rw [hC] at h1
      obtain ⟨_, hcl, hat⟩ := World.cells?_some h1
      have h4 := hat 0 hpos
      rw [List.getElem?_eq_getElem (by omega)] at h4
      have := World.block_lt_of_cell? w _ h4
      rwa [add_block, add_block] at this
    · have hj := (List.getElem?_eq_some_iff.1 hu).1
      rw [flat_length c fs.size hc, List.length_map, List.length_range] at hj
      have hq : j / fs.size < len := Nat.div_lt_of_lt_mul (by rw [Nat.mul_comm]; exact hj)
      have hr : j % fs.size < fs.size := Nat.mod_lt _ hpos
      have hjj : j = j / fs.size * fs.size + j % fs.size := by rw [Nat.mul_comm]; exact (Nat.div_add_mod j fs.size).symm
      rw [hjj] at hu ⊢
      rw [flat_get c fs.size hc _ _ _ (by simpa using hq) hr] at hu
      refine hf _ hq _ u ?_
      simpa using hu
end
end Go.Proofs.Ytmheofkakcomdaa
