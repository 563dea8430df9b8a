/-
  On: OpnI, OpnR, OpnN.
-/
import Derived.Test.YtfemeendkjcffaaOpn
import Derived.Test.YtfemeendkjcffaaByt
import Derived.ProofKit
import Derived.OpenShut
import Derived.Lib.SmallJoins
import Derived.ChangeSame
import Derived.Deep.Slices
import Derived.Deep.Fields
import Derived.ChangeSlices
set_option linter.unusedVariables false
set_option linter.unusedSimpArgs false
/-! Structs that hold an instruction, opened. -/
namespace Go.Proofs.Ytfemeendkjcffaa
open Go.RowKit Go.ChangeShapes Go.WideShapes Go.Joins Go.ChangeAt Go.Deep

section
variable {H : Type} {enc : TypeId × Value → H} {P : Program} {w : World} {base : Nat} {spare : Nat → Bool} {held : Bool}
theorem open_cells4 {t : TypeId} {f0 f1 f2 f3 : Field} {fuel : Nat} {c0 c1 c2 c3 : Value} {x : DataW H × List MemPlace} (hs : P.underlying t = some (.struct #[f0, f1, f2, f3])) (hone : oneCellFields P #[f0, f1, f2, f3] = true)
    (h : DataW.trod enc P w base spare held fuel t [c0, c1, c2, c3] = some x) :
    ∃ (y0 y1 y2 y3 : DataW H × List MemPlace) (n : Nat), DataW.trod enc P w base spare held n f0.type [c0] = some y0 ∧ DataW.trod enc P w base spare held n f1.type [c1] = some y1 ∧ DataW.trod enc P w base spare held n f2.type [c2] = some y2 ∧ DataW.trod enc P w base spare held n f3.type [c3] = some y3 := by
  obtain ⟨y0, y1, y2, y3, n, _, _, h0, h1, h2, h3⟩ := trod_struct4 hs h
  obtain ⟨o0, k0⟩ := hone_of hone 0 f0 rfl
  obtain ⟨o1, k1⟩ := hone_of hone 1 f1 rfl
  obtain ⟨o2, k2⟩ := hone_of hone 2 f2 rfl
  obtain ⟨o3, k3⟩ := hone_of hone 3 f3 rfl
  rw [o0, k0] at h0
  rw [o1, k1] at h1
  rw [o2, k2] at h2
  rw [o3, k3] at h3
  exact ⟨y0, y1, y2, y3, n, h0, h1, h2, h3⟩
theorem open_cells41 {t : TypeId} {f0 f1 : Field} {fuel : Nat} {c0 c1 c2 c3 c4 : Value} {x : DataW H × List MemPlace} (hs : P.underlying t = some (.struct #[f0, f1])) (ho : (f0.offset, P.cellsOf f0.type, f1.offset, P.cellsOf f1.type) = (0, 4, 4, 1))
    (h : DataW.trod enc P w base spare held fuel t [c0, c1, c2, c3, c4] = some x) :
    ∃ (y0 y1 : DataW H × List MemPlace) (n : Nat), DataW.trod enc P w base spare held n f0.type [c0, c1, c2, c3] = some y0 ∧ DataW.trod enc P w base spare held n f1.type [c4] = some y1 := by
  obtain ⟨y0, y1, n, _, _, h0, h1⟩ := trod_struct2 hs h
  simp only [Prod.mk.injEq] at ho
  obtain ⟨o0, k0, o1, k1⟩ := ho
  rw [o0, k0] at h0
  rw [o1, k1] at h1
  exact ⟨y0, y1, n, h0, h1⟩
end
theorem array5 {α : Type} {cs : Array α} (h : cs.size = 5) : ∃ c0 c1 c2 c3 c4, cs = #[c0, c1, c2, c3, c4] := by
  obtain ⟨l⟩ := cs
  match l, h with
  | [c0, c1, c2, c3, c4], _ => exact ⟨c0, c1, c2, c3, c4, rfl⟩

theorem array6 {α : Type} {cs : Array α} (h : cs.size = 6) : ∃ c0 c1 c2 c3 c4 c5, cs = #[c0, c1, c2, c3, c4, c5] := by
  obtain ⟨l⟩ := cs
  match l, h with
  | [c0, c1, c2, c3, c4, c5], _ => exact ⟨c0, c1, c2, c3, c4, c5, rfl⟩

section
variable {H : Type} {enc : TypeId × Value → H} {w : World} {base : Nat} {spare : Nat → Bool} {held : Bool}
theorem open_ins {fuel : Nat} {c0 c1 c2 c3 : Value} {x : DataW H × List MemPlace} (h : DataW.trod enc Try.prog w base spare held fuel 50 [c0, c1, c2, c3] = some x) :
    ∃ (op a b n c : Nat) (A : Option Addr), c0 = .int .u8 (op : Int) ∧ c1 = .int .u64 (a : Int) ∧ c2 = .int .u64 (b : Int) ∧ c3 = .slice A n c ∧ op < 256 ∧ a < 18446744073709551616 ∧ b < 18446744073709551616 := by
  obtain ⟨y0, y1, y2, y3, n, h0, h1, h2, h3⟩ := open_cells4 Try.underlying50 (by kernel_rfl) h
  obtain ⟨iop, e0, _, w0⟩ := DataW.trod_int Try.underlying5 h0
  obtain ⟨ia, e1, _, w1⟩ := DataW.trod_int Try.underlying47 h1
  obtain ⟨ib, e2, _, w2⟩ := DataW.trod_int Try.underlying47 h2
  obtain ⟨A, n, c, e3⟩ := slice_form Try.underlying48 h3
  simp at e0 e1 e2 e3
  have b0 := Go.bounds_u8 w0
  have b1 := Go.bounds_u64 w1
  have b2 := Go.bounds_u64 w2
  refine ⟨iop.toNat, ia.toNat, ib.toNat, n, c, A, ?_, ?_, ?_, e3, by omega, by omega, by omega⟩
  · rw [e0, Int.toNat_of_nonneg (by omega)]
  · rw [e1, Int.toNat_of_nonneg (by omega)]
  · rw [e2, Int.toNat_of_nonneg (by omega)]
theorem open_data_of {P : Program} {td : TypeId} {f0 f1 : Field} {r : Reach} {b0 : Nat} {v : Value} {d : DataW H} {p : List MemPlace} (hs : P.underlying td = some (.struct #[f0, f1])) (ho : (f0.offset, P.cellsOf f0.type, f1.offset, P.cellsOf f1.type) = (0, 4, 4, 1)) (hC : P.cellsOf td = 5)
    (hv : Value.okWide P w r b0 td v) (h : DataW.Trod enc P w base spare held td v d p) :
    ∃ (c0 c1 c2 c3 c4 : Value) (y0 y1 : DataW H × List MemPlace) (n : Nat), v = .agg #[c0, c1, c2, c3, c4] ∧ DataW.trod enc P w base spare held n f0.type [c0, c1, c2, c3] = some y0 ∧ DataW.trod enc P w base spare held n f1.type [c4] = some y1 := by
  obtain ⟨cs, rfl, hsz⟩ := okWide_struct hs hv
  obtain ⟨c0, c1, c2, c3, c4, rfl⟩ := array5 (hsz.trans hC)
  obtain ⟨fuel, hf⟩ := h
  obtain ⟨y0, y1, n, h0, h1⟩ := open_cells41 hs ho hf
  exact ⟨c0, c1, c2, c3, c4, y0, y1, n, rfl, h0, h1⟩
theorem open_cells24 {P : Program} {t : TypeId} {f0 f1 : Field} {fuel : Nat} {c0 c1 c2 c3 c4 c5 : Value} {x : DataW H × List MemPlace} (hs : P.underlying t = some (.struct #[f0, f1])) (ho : (f0.offset, P.cellsOf f0.type, f1.offset, P.cellsOf f1.type) = (0, 2, 2, 4))
    (h : DataW.trod enc P w base spare held fuel t [c0, c1, c2, c3, c4, c5] = some x) :
    ∃ (y0 y1 : DataW H × List MemPlace) (n : Nat), DataW.trod enc P w base spare held n f0.type [c0, c1] = some y0 ∧ DataW.trod enc P w base spare held n f1.type [c2, c3, c4, c5] = some y1 := by
  obtain ⟨y0, y1, n, _, _, h0, h1⟩ := trod_struct2 hs h
  simp only [Prod.mk.injEq] at ho
  obtain ⟨o0, k0, o1, k1⟩ := ho
  rw [o0, k0] at h0
  rw [o1, k1] at h1
  exact ⟨y0, y1, n, h0, h1⟩
theorem open_cells2 {P : Program} {t : TypeId} {f0 f1 : Field} {fuel : Nat} {c0 c1 : Value} {x : DataW H × List MemPlace} (hs : P.underlying t = some (.struct #[f0, f1])) (hone : oneCellFields P #[f0, f1] = true)
    (h : DataW.trod enc P w base spare held fuel t [c0, c1] = some x) :
    ∃ (y0 y1 : DataW H × List MemPlace) (n : Nat), DataW.trod enc P w base spare held n f0.type [c0] = some y0 ∧ DataW.trod enc P w base spare held n f1.type [c1] = some y1 := by
  obtain ⟨y0, y1, n, _, _, h0, h1⟩ := trod_struct2 hs h
  obtain ⟨o0, k0⟩ := hone_of hone 0 f0 rfl
  obtain ⟨o1, k1⟩ := hone_of hone 1 f1 rfl
  rw [o0, k0] at h0
  rw [o1, k1] at h1
  exact ⟨y0, y1, n, h0, h1⟩
theorem open_glob_of {P : Program} {td : TypeId} {f0 f1 : Field} {r : Reach} {b0 : Nat} {v : Value} {d : DataW H} {p : List MemPlace} (hs : P.underlying td = some (.struct #[f0, f1])) (ho : (f0.offset, P.cellsOf f0.type, f1.offset, P.cellsOf f1.type) = (0, 2, 2, 4)) (hC : P.cellsOf td = 6)
    (hv : Value.okWide P w r b0 td v) (h : DataW.Trod enc P w base spare held td v d p) :
    ∃ (c0 c1 c2 c3 c4 c5 : Value) (y0 y1 : DataW H × List MemPlace) (n : Nat), v = .agg #[c0, c1, c2, c3, c4, c5] ∧ DataW.trod enc P w base spare held n f0.type [c0, c1] = some y0 ∧ DataW.trod enc P w base spare held n f1.type [c2, c3, c4, c5] = some y1 := by
  obtain ⟨cs, rfl, hsz⟩ := okWide_struct hs hv
  obtain ⟨c0, c1, c2, c3, c4, c5, rfl⟩ := array6 (hsz.trans hC)
  obtain ⟨fuel, hf⟩ := h
  obtain ⟨y0, y1, n, h0, h1⟩ := open_cells24 hs ho hf
  exact ⟨c0, c1, c2, c3, c4, c5, y0, y1, n, rfl, h0, h1⟩
end
end Go.Proofs.Ytfemeendkjcffaa
/-! An argument that is a slice of structs of any cells, opened to a list. -/
namespace Go.Proofs.Ytfemeendkjcffaa
open Go.RowKit Go.ChangeShapes Go.WideShapes Go.Deep

section
variable {H : Type} {enc : TypeId × Value → H} {P : Program} {w : World} {base : Nat} {spare : Nat → Bool} {held : Bool}
theorem open_rows {α : Type} [Inhabited α] (G : α → Prop) (c : α → List Value) {t e : TypeId} {m0 fuel : Nat} {a0 : Option Addr} {len cap : Nat} {x : DataW H × List MemPlace}
    (ht : P.underlying t = some (.slice e)) (hC : P.cellsOf e = m0) (hpos : 0 < m0) (hc : ∀ a, (c a).length = m0)
    (hmk : ∀ (vs : List Value) (n : Nat) (y : DataW H × List MemPlace), vs.length = m0 → DataW.trod enc P w base spare held n e vs = some y → ∃ a, G a ∧ vs = c a)
    (h : DataW.trod enc P w base spare held fuel t [.slice a0 len cap] = some x) :
    ∃ l : List α, l.length = len ∧ (∀ x ∈ l, G x) ∧ Reads w (fun k => k < w.heap.size) m0 a0 len (l.flatMap c) ∧ len ≤ cap ∧ cap ≤ maxLen := by
  rcases open_slice ht h with ⟨h0, _⟩ | ⟨a, len', cap', m, n, D, Pl, hcs, hb, hl, hm, hmm, hx, hi⟩
  · simp at h0
    obtain ⟨rfl, rfl, rfl⟩ := h0
    exact ⟨[], rfl, (fun _ h => by cases h), Reads.nil_, Nat.le_refl _, by unfold maxLen; omega⟩
  · simp at hcs
    obtain ⟨rfl, rfl, rfl⟩ := hcs
    have hlm : len ≤ m := by rw [hmm]; split <;> omega
    have one : ∀ i, i < len → ∃ y : α, G y ∧ ∀ j u, (c y)[j]? = some u → w.cell? (a.add (i * m0 + j)) = some u := fun i hil => by
      obtain ⟨cs', h1, h2⟩ := hi i (by omega)
      rw [hC] at h1
      obtain ⟨_, hcl, hat⟩ := World.cells?_some h1
      obtain ⟨y, hG, rfl⟩ := hmk cs' _ _ hcl h2
      refine ⟨y, hG, fun j u hu => ?_⟩
      have hj : j < m0 := by
        have := (List.getElem?_eq_some_iff.1 hu).1
        rw [hc] at this
        exact this
      rw [← add_add', hat j hj]
      exact hu
    obtain ⟨f, hf⟩ := choose_lt one
    have hcell0 : 0 < len → ∃ u, w.cell? (a.add 0 |>.add 0) = some u := fun hn => by
      obtain ⟨cs', h1, _⟩ := hi 0 (by omega)
      rw [hC] at h1
      obtain ⟨_, hcl, hat⟩ := World.cells?_some h1
      have h4 := hat 0 hpos
      rw [List.getElem?_eq_getElem (by omega), Nat.zero_mul] at h4
      exact ⟨_, h4⟩
    refine ⟨(List.range len).map f, by simp, fun x hx => ?_, ⟨by rw [flat_length c m0 hc]; simp, fun hn => ⟨a, rfl, ?_, ?_, fun j u hu => ?_⟩⟩, hl, hm⟩
    · obtain ⟨i, hi2, rfl⟩ := List.mem_map.1 hx
      exact (hf i (List.mem_range.1 hi2)).1
    · obtain ⟨u, h4⟩ := hcell0 hn
      have := World.block_lt_of_cell? w _ h4
      rwa [add_block, add_block] at this
    · obtain ⟨u, h4⟩ := hcell0 hn
      have := World.block_lt_of_cell? w _ h4
      rwa [add_block, add_block] at this
    · have hj := (List.getElem?_eq_some_iff.1 hu).1
      rw [flat_length c m0 hc, List.length_map, List.length_range] at hj
      have hq : j / m0 < len := Nat.div_lt_of_lt_mul (by rw [Nat.mul_comm]; exact hj)
      have hr : j % m0 < m0 := Nat.mod_lt _ hpos
      have hjj : j = j / m0 * m0 + j % m0 := by rw [Nat.mul_comm]; exact (Nat.div_add_mod j m0).symm
      rw [hjj] at hu ⊢
      rw [flat_get c m0 hc _ _ _ (by simpa using hq) hr] at hu
      refine (hf _ hq).2 _ u ?_
      simpa using hu
end
end Go.Proofs.Ytfemeendkjcffaa
/-! A slice of numbers that an argument holds, opened. -/
namespace Go.Proofs.Ytfemeendkjcffaa
open Go.RowKit Go.ChangeShapes Go.WideShapes

section
variable {H : Type} {enc : TypeId × Value → H} {P : Program} {w : World} {base : Nat} {spare : Nat → Bool} {held : Bool}
/-- A slice of numbers that an argument holds. -/
theorem open_nats {t e : TypeId} {k : IntKind} {fuel : Nat} {a0 : Option Addr} {len cap : Nat} {x : DataW H × List MemPlace} (ht : P.underlying t = some (.slice e)) (he : P.underlying e = some (.int k)) (hc : P.cellsOf e = 1)
    (hpos : ∀ z : Int, (Lit.int k z).wf = true → 0 ≤ z)
    (h : DataW.trod enc P w base spare held fuel t [.slice a0 len cap] = some x) :
    ∃ l : List Nat, l.length = len ∧ Reads w (fun k => k < w.heap.size) 1 a0 len (l.map fun n : Nat => .int k (n : Int)) ∧ ∀ n ∈ l, (Lit.int k (n : Int)).wf = true := by
  rcases open_ints ht he hc h with ⟨hcs, _⟩ | ⟨a, len', cap', zs, hcs, _, hl, hm, hz, _, hcell, hwz⟩
  · simp at hcs
    obtain ⟨rfl, rfl, rfl⟩ := hcs
    exact ⟨[], rfl, Reads.nil_, by simp⟩
  · simp at hcs
    obtain ⟨rfl, rfl, rfl⟩ := hcs
    have hzl : len ≤ zs.length := by rw [hz]; split <;> omega
    have hmem : ∀ i, i < len → zs.getD i 0 ∈ zs := fun i hi => by
      rw [List.getD_eq_getElem?_getD, List.getElem?_eq_getElem (by omega)]
      exact List.getElem_mem _
    have hget : ∀ i, i < len → ∃ n : Nat, zs.getD i 0 = (n : Int) ∧ (Lit.int k (n : Int)).wf = true := fun i hi => by
      have h1 := hwz _ (hmem i hi)
      have h2 := hpos _ h1
      exact ⟨(zs.getD i 0).toNat, by omega, by rw [Int.toNat_of_nonneg h2]; exact h1⟩
    refine ⟨(List.range len).map fun i => (zs.getD i 0).toNat, by simp, ⟨by simp, fun hn => ⟨a, rfl, ?_, ?_, fun j u hu => ?_⟩⟩, ?_⟩
    · have := World.block_lt_of_cell? w _ (hcell 0 (by omega))
      rwa [add_block] at this
    · have := World.block_lt_of_cell? w _ (hcell 0 (by omega))
      rwa [add_block] at this
    · have hj : j < len := by simpa using (List.getElem?_eq_some_iff.1 hu).1
      obtain ⟨n, hn1, _⟩ := hget j hj
      simp [hj] at hu
      rw [hcell j (by omega), ← hu, hn1]
      rw [List.getD_eq_getElem?_getD] at hn1
      rw [hn1]
      congr 2
      omega
    · intro n hn
      obtain ⟨i, hi, rfl⟩ := List.mem_map.1 hn
      obtain ⟨m, hm1, hm2⟩ := hget i (List.mem_range.1 hi)
      rw [hm1]
      exact hm2
end
theorem pos_n32 (z : Int) (h : (Lit.int .u32 z).wf = true) : 0 ≤ z := (Go.bounds_u32 h).1
end Go.Proofs.Ytfemeendkjcffaa
