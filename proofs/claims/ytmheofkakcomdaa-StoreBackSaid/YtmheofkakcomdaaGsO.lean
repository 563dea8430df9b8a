/-
  store: the argument of StoreGlobals and StoreBack, opened.
-/
import Derived.Test.YtmheofkakcomdaaGsK
import Derived.ProofKit
import Derived.OpenShut
import Derived.Lib.SmallJoins
import Derived.ChangeSame
import Derived.Deep.Slices
import Derived.Deep.Fields
import Derived.ChangeSlices
set_option linter.unusedVariables false
set_option linter.unusedSimpArgs false
namespace Go.Proofs.Ytmheofkakcomdaa
open Go.RowKit Go.ChangeShapes Go.WideShapes Go.Joins Go.ChangeAt Go.Deep

section
variable {H : Type} {enc : TypeId × Value → H} {P : Program} {w : World} {base : Nat} {spare : Nat → Bool} {held : Bool}
theorem open_rows {α : Type} [Inhabited α] (G : α → Prop) (c : α → List Value) {t e : TypeId} {m0 fuel : Nat} {a0 : Option Addr} {len cap : Nat} {x : DataW H × List MemPlace}
    (ht : P.underlying t = some (.slice e)) (hC : P.cellsOf e = m0) (hpos : 0 < m0) (hc : ∀ a, (c a).length = m0)
    (hmk : ∀ (vs : List Value) (n : Nat) (y : DataW H × List MemPlace), vs.length = m0 → DataW.trod enc P w base spare held n e vs = some y → ∃ a, G a ∧ vs = c a)
    (h : DataW.trod enc P w base spare held fuel t [.slice a0 len cap] = some x) :
    ∃ l : List α, l.length = len ∧ (∀ x ∈ l, G x) ∧ Reads w (fun k => k < w.heap.size) m0 a0 len (l.flatMap c) ∧ len ≤ cap ∧ cap ≤ maxLen := by
  rcases open_slice ht h with ⟨h0, _⟩ | ⟨a, len', cap', m, n, D, Pl, hcs, hb, hl, hm, hmm, hx, hi⟩
  · simp at h0
    obtain ⟨rfl, rfl, rfl⟩ := h0
    exact ⟨[], rfl, (fun _ h => by cases h), Reads.nil_, Nat.le_refl _, by unfold maxLen; omega⟩
  · simp at hcs
    obtain ⟨rfl, rfl, rfl⟩ := hcs
    have hlm : len ≤ m := by rw [hmm]; split <;> omega
    have one : ∀ i, i < len → ∃ y : α, G y ∧ ∀ j u, (c y)[j]? = some u → w.cell? (a.add (i * m0 + j)) = some u := fun i hil => by
      obtain ⟨cs', h1, h2⟩ := hi i (by omega)
      rw [hC] at h1
      obtain ⟨_, hcl, hat⟩ := World.cells?_some h1
      obtain ⟨y, hG, rfl⟩ := hmk cs' _ _ hcl h2
      refine ⟨y, hG, fun j u hu => ?_⟩
      have hj : j < m0 := by
        have := (List.getElem?_eq_some_iff.1 hu).1
        rw [hc] at this
        exact this
      rw [← add_add', hat j hj]
      exact hu
    obtain ⟨f, hf⟩ := choose_lt one
    have hcell0 : 0 < len → ∃ u, w.cell? (a.add 0 |>.add 0) = some u := fun hn => by
      obtain ⟨cs', h1, _⟩ := hi 0 (by omega)
      rw [hC] at h1
      obtain ⟨_, hcl, hat⟩ := World.cells?_some h1
      have h4 := hat 0 hpos
      rw [List.getElem?_eq_getElem (by omega), Nat.zero_mul] at h4
      exact ⟨_, h4⟩
    refine ⟨(List.range len).map f, by simp, fun x hx => ?_, ⟨by rw [flat_length c m0 hc]; simp, fun hn => ⟨a, rfl, ?_, ?_, fun j u hu => ?_⟩⟩, hl, hm⟩
    · obtain ⟨i, hi2, rfl⟩ := List.mem_map.1 hx
      exact (hf i (List.mem_range.1 hi2)).1
    · obtain ⟨u, h4⟩ := hcell0 hn
      have := World.block_lt_of_cell? w _ h4
      rwa [add_block, add_block] at this
    · obtain ⟨u, h4⟩ := hcell0 hn
      have := World.block_lt_of_cell? w _ h4
      rwa [add_block, add_block] at this
    · have hj := (List.getElem?_eq_some_iff.1 hu).1
      rw [flat_length c m0 hc, List.length_map, List.length_range] at hj
      have hq : j / m0 < len := Nat.div_lt_of_lt_mul (by rw [Nat.mul_comm]; exact hj)
      have hr : j % m0 < m0 := Nat.mod_lt _ hpos
      have hjj : j = j / m0 * m0 + j % m0 := by rw [Nat.mul_comm]; exact (Nat.div_add_mod j m0).symm
      rw [hjj] at hu ⊢
      rw [flat_get c m0 hc _ _ _ (by simpa using hq) hr] at hu
      refine (hf _ hq).2 _ u ?_
      simpa using hu
end

section
variable {H : Type} {enc : TypeId × Value → H} {P : Program} {w : World} {base : Nat} {spare : Nat → Bool} {held : Bool}
/-- One field of a struct. -/
theorem field_of {t : TypeId} {fs : Array Field} {fuel : Nat} {cs cs' : List Value} {x : DataW H × List MemPlace} (ht : P.underlying t = some (.struct fs)) (h : DataW.trod enc P w base spare held fuel t cs = some x)
    (i : Nat) (f : Field) (hf : fs[i]? = some f) (o k : Nat) (ho : (f.offset, P.cellsOf f.type) = (o, k)) (hc : (cs.drop o).take k = cs') : ∃ (y : DataW H × List MemPlace) (n : Nat), DataW.trod enc P w base spare held n f.type cs' = some y := by
  obtain ⟨xs, n, _, _, _, hlen, hx⟩ := DataW.trod_struct ht h
  have hi : i < xs.length := by rw [hlen]; exact (Array.getElem?_eq_some_iff.1 hf).1
  have h1 := hx i f hf
  simp only [Prod.mk.injEq] at ho
  rw [ho.1, ho.2, hc, List.getElem?_eq_getElem hi] at h1
  exact ⟨_, n, h1⟩
end
theorem list1 {α : Type} {cs : List α} (h : cs.length = 1) : ∃ v0, cs = [v0] := by
  match cs, h with
  | [v0], _ => exact ⟨v0, rfl⟩
theorem list2 {α : Type} {cs : List α} (h : cs.length = 2) : ∃ v0 v1, cs = [v0, v1] := by
  match cs, h with
  | [v0, v1], _ => exact ⟨v0, v1, rfl⟩
theorem list8 {α : Type} {cs : List α} (h : cs.length = 8) : ∃ v0 v1 v2 v3 v4 v5 v6 v7, cs = [v0, v1, v2, v3, v4, v5, v6, v7] := by
  match cs, h with
  | [v0, v1, v2, v3, v4, v5, v6, v7], _ => exact ⟨v0, v1, v2, v3, v4, v5, v6, v7, rfl⟩
/-- A call as it comes in. -/
structure OgIn (w : World) (o : Og) : Prop where
  a : (Lit.int .i64 o.a).wf = true
  b : (Lit.int .i64 o.b).wf = true
  vt : o.vt < 256
  t : o.t < 256
  data : ∃ xs : List Nat, xs.length = o.dn ∧ Reads w (fun k => k < w.heap.size) 1 o.A o.dn (xs.map fun x : Nat => .int .u8 (x : Int)) ∧ ∀ x ∈ xs, x < 256
  dl : o.dn ≤ o.dc ∧ o.dc ≤ maxLen
section
variable {H : Type} {enc : TypeId × Value → H} {w : World} {base : Nat} {spare : Nat → Bool} {held : Bool}
theorem open_b8 {fuel : Nat} {vs : List Value} {x : DataW H × List MemPlace} (hl : vs.length = 1) (h : DataW.trod enc Try.prog w base spare held fuel 5 vs = some x) : ∃ y : Nat, y < 256 ∧ vs = [.int .u8 (y : Int)] := by
  obtain ⟨v0, rfl⟩ := list1 hl
  obtain ⟨i0, e0, _, w0⟩ := DataW.trod_int Try.underlying5 h
  simp at e0
  subst e0
  have b0 := Go.bounds_u8 w0
  exact ⟨i0.toNat, by omega, by rw [Int.toNat_of_nonneg (by omega)]⟩
set_option maxRecDepth 100000 in
theorem open_og {fuel : Nat} {vs : List Value} {x : DataW H × List MemPlace} (hl : vs.length = 8) (h : DataW.trod enc Try.prog w base spare held fuel 41 vs = some x) : ∃ o : Og, OgIn w o ∧ vs = o.cells := by
  obtain ⟨v0, v1, v2, v3, v4, v5, v6, v7, rfl⟩ := list8 hl
  obtain ⟨y0, n0, t0⟩ := field_of (cs' := [v0]) Try.underlying41 h 0 _ rfl 0 1 (by kernel_rfl) rfl
  obtain ⟨y1, n1, t1⟩ := field_of (cs' := [v1]) Try.underlying41 h 1 _ rfl 1 1 (by kernel_rfl) rfl
  obtain ⟨y2, n2, t2⟩ := field_of (cs' := [v2]) Try.underlying41 h 2 _ rfl 2 1 (by kernel_rfl) rfl
  obtain ⟨y3, n3, t3⟩ := field_of (cs' := [v3, v4]) Try.underlying41 h 3 _ rfl 3 2 (by kernel_rfl) rfl
  obtain ⟨y4, n4, t4⟩ := field_of (cs' := [v5, v6]) Try.underlying41 h 4 _ rfl 5 2 (by kernel_rfl) rfl
  obtain ⟨y5, n5, t5⟩ := field_of (cs' := [v7]) Try.underlying41 h 5 _ rfl 7 1 (by kernel_rfl) rfl
  obtain ⟨i0, e0, _, _⟩ := DataW.trod_int Try.underlying3 t0
  obtain ⟨i1, e1, _, w1⟩ := DataW.trod_int Try.underlying3 t1
  obtain ⟨i2, e2, _, w2⟩ := DataW.trod_int Try.underlying3 t2
  obtain ⟨z3, m3, u3⟩ := field_of (cs' := [v3]) Try.underlying35 t3 0 _ rfl 0 1 (by kernel_rfl) rfl
  obtain ⟨z4, m4, u4⟩ := field_of (cs' := [v4]) Try.underlying35 t3 1 _ rfl 1 1 (by kernel_rfl) rfl
  obtain ⟨z5, m5, u5⟩ := field_of (cs' := [v5]) Try.underlying38 t4 0 _ rfl 0 1 (by kernel_rfl) rfl
  obtain ⟨z6, m6, u6⟩ := field_of (cs' := [v6]) Try.underlying38 t4 1 _ rfl 1 1 (by kernel_rfl) rfl
  obtain ⟨i3, e3, _, w3⟩ := DataW.trod_int Try.underlying5 u3
  obtain ⟨i4, e4, _⟩ := DataW.trod_bool Try.underlying4 u4
  obtain ⟨i5, e5, _, w5⟩ := DataW.trod_int Try.underlying5 u5
  obtain ⟨i6, e6, _, w6⟩ := DataW.trod_int Try.underlying36 u6
  obtain ⟨A, n, c, e7⟩ := slice_form Try.underlying39 t5
  simp at e0 e1 e2 e3 e4 e5 e6 e7
  subst e0 e1 e2 e3 e4 e5 e6 e7
  obtain ⟨xs, hx1, hx2, hx3, hx4⟩ := open_rows (fun x : Nat => x < 256) (fun x : Nat => [Value.int .u8 (x : Int)]) (m0 := 1) Try.underlying39 (by kernel_rfl) (by decide) (fun _ => rfl) (fun vs n y hl hy => open_b8 hl hy) t5
  have b3 := Go.bounds_u8 w3
  have b5 := Go.bounds_u8 w5
  have b6 := Go.bounds_u64 w6
  obtain ⟨p3, rfl⟩ : ∃ p : Nat, i3 = p := ⟨i3.toNat, by omega⟩
  obtain ⟨p5, rfl⟩ : ∃ p : Nat, i5 = p := ⟨i5.toNat, by omega⟩
  obtain ⟨p6, rfl⟩ : ∃ p : Nat, i6 = p := ⟨i6.toNat, by omega⟩
  refine ⟨⟨i0, i1, i2, p3, i4, p5, p6, A, n, c⟩, ⟨w1, w2, by show p5 < 256; omega, by show p3 < 256; omega, ⟨xs, hx1, ?_, hx2⟩, hx4⟩, rfl⟩
  have e : (xs.flatMap fun x : Nat => [Value.int .u8 (x : Int)]) = xs.map fun x : Nat => Value.int .u8 (x : Int) := by
    clear hx1 hx2 hx3
    induction xs with
    | nil => rfl
    | cons x xs ih => rw [List.flatMap_cons, ih]; rfl
  rw [← e]
  exact hx3
theorem open_ogs {fuel : Nat} {a0 : Option Addr} {len cap : Nat} {x : DataW H × List MemPlace} (h : DataW.trod enc Try.prog w base spare held fuel 22 [.slice a0 len cap] = some x) :
    ∃ l : List Og, l.length = len ∧ (∀ o ∈ l, OgIn w o) ∧ Reads w (fun k => k < w.heap.size) 8 a0 len (ogs l) ∧ len ≤ maxLen := by
  obtain ⟨l, h1, h2, h3, h4, h5⟩ := open_rows (OgIn w) Og.cells (m0 := 8) Try.underlying22 (by kernel_rfl) (by decide) Og.eight (fun vs n y hl hy => open_og hl hy) h
  exact ⟨l, h1, h2, h3, Nat.le_trans h4 h5⟩
end
end Go.Proofs.Ytmheofkakcomdaa
