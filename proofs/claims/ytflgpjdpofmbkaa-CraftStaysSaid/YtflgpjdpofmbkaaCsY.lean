/-
  creellaw47: the law CraftStays' argument, opened.
-/
import Derived.Test.YtflgpjdpofmbkaaCsO
import Derived.Test.YtflgpjdpofmbkaaCsW
import Derived.ProofKit
import Derived.OpenShut
import Derived.Lib.SmallJoins
import Derived.ChangeSame
import Derived.Deep.Slices
import Derived.Deep.Fields
import Derived.ChangeSlices
set_option linter.unusedVariables false
set_option linter.unusedSimpArgs false
namespace Go.Proofs.Ytflgpjdpofmbkaa
open Go.RowKit Go.ChangeShapes Go.WideShapes Go.Joins Go.ChangeAt Go.Deep

section
variable {H : Type} {enc : TypeId × Value → H} {P : Program} {w : World} {base : Nat} {spare : Nat → Bool} {held : Bool}
theorem open_rows {α : Type} [Inhabited α] (G : α → Prop) (c : α → List Value) {t e : TypeId} {m0 fuel : Nat} {a0 : Option Addr} {len cap : Nat} {x : DataW H × List MemPlace}
    (ht : P.underlying t = some (.slice e)) (hC : P.cellsOf e = m0) (hpos : 0 < m0) (hc : ∀ a, (c a).length = m0)
    (hmk : ∀ (vs : List Value) (n : Nat) (y : DataW H × List MemPlace), vs.length = m0 → DataW.trod enc P w base spare held n e vs = some y → ∃ a, G a ∧ vs = c a)
    (h : DataW.trod enc P w base spare held fuel t [.slice a0 len cap] = some x) :
    ∃ l : List α, l.length = len ∧ (∀ x ∈ l, G x) ∧ Reads w (fun k => k < w.heap.size) m0 a0 len (l.flatMap c) ∧ len ≤ cap ∧ cap ≤ maxLen := by
  rcases open_slice ht h with ⟨h0, _⟩ | ⟨a, len', cap', m, n, D, Pl, hcs, hb, hl, hm, hmm, hx, hi⟩
  · simp at h0
    obtain ⟨rfl, rfl, rfl⟩ := h0
    exact ⟨[], rfl, (fun _ h => by cases h), Reads.nil_, Nat.le_refl _, by unfold maxLen; omega⟩
  · simp at hcs
    obtain ⟨rfl, rfl, rfl⟩ := hcs
    have hlm : len ≤ m := by rw [hmm]; split <;> omega
    have one : ∀ i, i < len → ∃ y : α, G y ∧ ∀ j u, (c y)[j]? = some u → w.cell? (a.add (i * m0 + j)) = some u := fun i hil => by
      obtain ⟨cs', h1, h2⟩ := hi i (by omega)
      rw [hC] at h1
      obtain ⟨_, hcl, hat⟩ := World.cells?_some h1
      obtain ⟨y, hG, rfl⟩ := hmk cs' _ _ hcl h2
      refine ⟨y, hG, fun j u hu => ?_⟩
      have hj : j < m0 := by
        have := (List.getElem?_eq_some_iff.1 hu).1
        rw [hc] at this
        exact this
      rw [← add_add', hat j hj]
      exact hu
    obtain ⟨f, hf⟩ := choose_lt one
    have hcell0 : 0 < len → ∃ u, w.cell? (a.add 0 |>.add 0) = some u := fun hn => by
      obtain ⟨cs', h1, _⟩ := hi 0 (by omega)
      rw [hC] at h1
      obtain ⟨_, hcl, hat⟩ := World.cells?_some h1
      have h4 := hat 0 hpos
      rw [List.getElem?_eq_getElem (by omega), Nat.zero_mul] at h4
      exact ⟨_, h4⟩
    refine ⟨(List.range len).map f, by simp, fun x hx => ?_, ⟨by rw [flat_length c m0 hc]; simp, fun hn => ⟨a, rfl, ?_, ?_, fun j u hu => ?_⟩⟩, hl, hm⟩
    · obtain ⟨i, hi2, rfl⟩ := List.mem_map.1 hx
      exact (hf i (List.mem_range.1 hi2)).1
    · obtain ⟨u, h4⟩ := hcell0 hn
      have := World.block_lt_of_cell? w _ h4
      rwa [add_block, add_block] at this
    · obtain ⟨u, h4⟩ := hcell0 hn
      have := World.block_lt_of_cell? w _ h4
      rwa [add_block, add_block] at this
    · have hj := (List.getElem?_eq_some_iff.1 hu).1
      rw [flat_length c m0 hc, List.length_map, List.length_range] at hj
      have hq : j / m0 < len := Nat.div_lt_of_lt_mul (by rw [Nat.mul_comm]; exact hj)
      have hr : j % m0 < m0 := Nat.mod_lt _ hpos
      have hjj : j = j / m0 * m0 + j % m0 := by rw [Nat.mul_comm]; exact (Nat.div_add_mod j m0).symm
      rw [hjj] at hu ⊢
      rw [flat_get c m0 hc _ _ _ (by simpa using hq) hr] at hu
      refine (hf _ hq).2 _ u ?_
      simpa using hu
end

section
variable {H : Type} {enc : TypeId × Value → H} {P : Program} {w : World} {base : Nat} {spare : Nat → Bool} {held : Bool}
/-- One field of a struct. -/
theorem field_of {t : TypeId} {fs : Array Field} {fuel : Nat} {cs cs' : List Value} {x : DataW H × List MemPlace} (ht : P.underlying t = some (.struct fs)) (h : DataW.trod enc P w base spare held fuel t cs = some x)
    (i : Nat) (f : Field) (hf : fs[i]? = some f) (o k : Nat) (ho : (f.offset, P.cellsOf f.type) = (o, k)) (hc : (cs.drop o).take k = cs') : ∃ (y : DataW H × List MemPlace) (n : Nat), DataW.trod enc P w base spare held n f.type cs' = some y := by
  obtain ⟨xs, n, _, _, _, hlen, hx⟩ := DataW.trod_struct ht h
  have hi : i < xs.length := by rw [hlen]; exact (Array.getElem?_eq_some_iff.1 hf).1
  have h1 := hx i f hf
  simp only [Prod.mk.injEq] at ho
  rw [ho.1, ho.2, hc, List.getElem?_eq_getElem hi] at h1
  exact ⟨_, n, h1⟩
theorem nats_of {t e : TypeId} {k : IntKind} {fuel : Nat} {a0 : Option Addr} {len cap : Nat} {x : DataW H × List MemPlace} (ht : P.underlying t = some (.slice e)) (he : P.underlying e = some (.int k)) (hc : P.cellsOf e = 1)
    (hpos : ∀ z : Int, (Lit.int k z).wf = true → 0 ≤ z)
    (h : DataW.trod enc P w base spare held fuel t [.slice a0 len cap] = some x) :
    ∃ l : List Nat, l.length = len ∧ Reads w (fun k => k < w.heap.size) 1 a0 len (l.map fun n : Nat => .int k (n : Int)) ∧ ∀ n ∈ l, (Lit.int k (n : Int)).wf = true := by
  rcases open_ints ht he hc h with ⟨hcs, _⟩ | ⟨a, len', cap', zs, hcs, _, hl, hm, hz, _, hcell, hwz⟩
  · simp at hcs
    obtain ⟨rfl, rfl, rfl⟩ := hcs
    exact ⟨[], rfl, Reads.nil_, by simp⟩
  · simp at hcs
    obtain ⟨rfl, rfl, rfl⟩ := hcs
    have hzl : len ≤ zs.length := by rw [hz]; split <;> omega
    have hmem : ∀ i, i < len → zs.getD i 0 ∈ zs := fun i hi => by
      rw [List.getD_eq_getElem?_getD, List.getElem?_eq_getElem (by omega)]
      exact List.getElem_mem _
    have hget : ∀ i, i < len → ∃ n : Nat, zs.getD i 0 = (n : Int) ∧ (Lit.int k (n : Int)).wf = true := fun i hi => by
      have h1 := hwz _ (hmem i hi)
      have h2 := hpos _ h1
      exact ⟨(zs.getD i 0).toNat, by omega, by rw [Int.toNat_of_nonneg h2]; exact h1⟩
    refine ⟨(List.range len).map fun i => (zs.getD i 0).toNat, by simp, ⟨by simp, fun hn => ⟨a, rfl, ?_, ?_, fun j u hu => ?_⟩⟩, ?_⟩
    · have := World.block_lt_of_cell? w _ (hcell 0 (by omega))
      rwa [add_block] at this
    · have := World.block_lt_of_cell? w _ (hcell 0 (by omega))
      rwa [add_block] at this
    · have hj : j < len := by simpa using (List.getElem?_eq_some_iff.1 hu).1
      obtain ⟨n, hn1, _⟩ := hget j hj
      simp [hj] at hu
      rw [hcell j (by omega), ← hu, hn1]
      rw [List.getD_eq_getElem?_getD] at hn1
      rw [hn1]
      congr 2
      omega
    · intro n hn
      obtain ⟨i, hi, rfl⟩ := List.mem_map.1 hn
      obtain ⟨m, hm1, hm2⟩ := hget i (List.mem_range.1 hi)
      rw [hm1]
      exact hm2
end
theorem pos_n32 (z : Int) (h : (Lit.int .u32 z).wf = true) : 0 ≤ z := (Go.bounds_u32 h).1
theorem list4 {α : Type} {cs : List α} (h : cs.length = 4) : ∃ c0 c1 c2 c3, cs = [c0, c1, c2, c3] := by
  match cs, h with
  | [c0, c1, c2, c3], _ => exact ⟨c0, c1, c2, c3, rfl⟩
theorem list11 {α : Type} {cs : List α} (h : cs.length = 11) : ∃ v0 v1 v2 v3 v4 v5 v6 v7 v8 v9 v10, cs = [v0, v1, v2, v3, v4, v5, v6, v7, v8, v9, v10] := by
  match cs, h with
  | [v0, v1, v2, v3, v4, v5, v6, v7, v8, v9, v10], _ => exact ⟨v0, v1, v2, v3, v4, v5, v6, v7, v8, v9, v10, rfl⟩
theorem nat32 {z : Int} (h : (Lit.int .u32 z).wf = true) : ∃ n : Nat, z = n ∧ n < 4294967296 := by
  have h2 := Go.bounds_u32 h
  exact ⟨z.toNat, by omega, by omega⟩
theorem nat8 {z : Int} (h : (Lit.int .u8 z).wf = true) : ∃ n : Nat, z = n ∧ n < 256 := by
  have h2 := Go.bounds_u8 h
  exact ⟨z.toNat, by omega, by omega⟩
theorem nat64 {z : Int} (h : (Lit.int .u64 z).wf = true) : ∃ n : Nat, z = n := by
  have h2 := Go.bounds_u64 h
  exact ⟨z.toNat, by omega⟩
/-- A call as the argument holds it: numbers in range, its rows there. -/
structure Opx.raw (o : Opx) (w : World) (S : Nat → Prop) : Prop where
  n : o.n < 4294967296
  n2 : o.n2 < 4294967296
  vt : o.vt < 256
  bo : Reads w S 4 o.A o.bo.length (igs o.bo)
  ins : ∀ g ∈ o.bo, g.n = g.L.length ∧ Reads w S 1 g.A g.n (u32s g.L)
instance : Inhabited Opx := ⟨⟨0, [], 0, 0, ⟨[], []⟩, [], [], none, 0, 0, 0, false⟩⟩

section
variable {H : Type} {enc : TypeId × Value → H} {w : World} {base : Nat} {spare : Nat → Bool} {held : Bool}
theorem open_ig {fuel : Nat} {vs : List Value} {x : DataW H × List MemPlace} (hl : vs.length = 4) (h : DataW.trod enc Try.prog w base spare held fuel 59 vs = some x) :
    ∃ g : Ig, (g.n = g.L.length ∧ Reads w (fun k => k < w.heap.size) 1 g.A g.n (u32s g.L)) ∧ vs = g.cells := by
  obtain ⟨v0, v1, v2, v3, rfl⟩ := list4 hl
  obtain ⟨y0, n0, t0⟩ := field_of (cs' := [v0]) Try.underlying59 h 0 _ rfl 0 1 (by kernel_rfl) rfl
  obtain ⟨y1, n1, t1⟩ := field_of (cs' := [v1]) Try.underlying59 h 1 _ rfl 1 1 (by kernel_rfl) rfl
  obtain ⟨y2, n2, t2⟩ := field_of (cs' := [v2]) Try.underlying59 h 2 _ rfl 2 1 (by kernel_rfl) rfl
  obtain ⟨y3, n3, t3⟩ := field_of (cs' := [v3]) Try.underlying59 h 3 _ rfl 3 1 (by kernel_rfl) rfl
  obtain ⟨i0, e0, _, w0⟩ := DataW.trod_int Try.underlying5 t0
  obtain ⟨i1, e1, _, w1⟩ := DataW.trod_int Try.underlying48 t1
  obtain ⟨i2, e2, _, w2⟩ := DataW.trod_int Try.underlying48 t2
  obtain ⟨A, n, c, e3⟩ := slice_form Try.underlying29 t3
  simp at e0 e1 e2 e3
  subst e0 e1 e2 e3
  obtain ⟨L, hL, hr, _⟩ := nats_of Try.underlying29 Try.underlying36 (by kernel_rfl) pos_n32 t3
  obtain ⟨k0, rfl, _⟩ := nat8 w0
  obtain ⟨k1, rfl⟩ := nat64 w1
  obtain ⟨k2, rfl⟩ := nat64 w2
  exact ⟨⟨k0, k1, k2, n, c, A, L⟩, ⟨hL.symm, hr⟩, rfl⟩

theorem open_body {fuel : Nat} {a0 : Option Addr} {len cap : Nat} {x : DataW H × List MemPlace} (h : DataW.trod enc Try.prog w base spare held fuel 47 [.slice a0 len cap] = some x) :
    ∃ l : List Ig, l.length = len ∧ (∀ g ∈ l, g.n = g.L.length ∧ Reads w (fun k => k < w.heap.size) 1 g.A g.n (u32s g.L)) ∧ Reads w (fun k => k < w.heap.size) 4 a0 len (igs l) := by
  obtain ⟨l, h1, h2, h3, _⟩ := open_rows (fun g : Ig => g.n = g.L.length ∧ Reads w (fun k => k < w.heap.size) 1 g.A g.n (u32s g.L)) Ig.cells (m0 := 4) Try.underlying47 (by kernel_rfl) (by decide) Ig.len (fun vs n y hl hy => open_ig hl hy) h
  exact ⟨l, h1, h2, h3⟩
theorem open_op {fuel : Nat} {vs : List Value} {x : DataW H × List MemPlace} (hl : vs.length = 11) (h : DataW.trod enc Try.prog w base spare held fuel 52 vs = some x) :
    ∃ o : Opx, o.raw w (fun k => k < w.heap.size) ∧ vs = o.cl := by
  obtain ⟨v0, v1, v2, v3, v4, v5, v6, v7, v8, v9, v10, rfl⟩ := list11 hl
  obtain ⟨y0, n0, t0⟩ := field_of (cs' := [v0]) Try.underlying52 h 0 _ rfl 0 1 (by kernel_rfl) rfl
  obtain ⟨y1, n1, t1⟩ := field_of (cs' := [v1]) Try.underlying52 h 1 _ rfl 1 1 (by kernel_rfl) rfl
  obtain ⟨y2, n2, t2⟩ := field_of (cs' := [v2]) Try.underlying52 h 2 _ rfl 2 1 (by kernel_rfl) rfl
  obtain ⟨y3, n3, t3⟩ := field_of (cs' := [v3]) Try.underlying52 h 3 _ rfl 3 1 (by kernel_rfl) rfl
  obtain ⟨y4, n4, t4⟩ := field_of (cs' := [v4, v5]) Try.underlying52 h 4 _ rfl 4 2 (by kernel_rfl) rfl
  obtain ⟨y5, n5, t5⟩ := field_of (cs' := [v6]) Try.underlying52 h 5 _ rfl 6 1 (by kernel_rfl) rfl
  obtain ⟨y6, n6, t6⟩ := field_of (cs' := [v7]) Try.underlying52 h 6 _ rfl 7 1 (by kernel_rfl) rfl
  obtain ⟨y7, n7, t7⟩ := field_of (cs' := [v8, v9]) Try.underlying52 h 7 _ rfl 8 2 (by kernel_rfl) rfl
  obtain ⟨y8, n8, t8⟩ := field_of (cs' := [v10]) Try.underlying52 h 8 _ rfl 10 1 (by kernel_rfl) rfl
  obtain ⟨y40, n40, t40⟩ := field_of (cs' := [v4]) Try.underlying46 t4 0 _ rfl 0 1 (by kernel_rfl) rfl
  obtain ⟨y41, n41, t41⟩ := field_of (cs' := [v5]) Try.underlying46 t4 1 _ rfl 1 1 (by kernel_rfl) rfl
  obtain ⟨y70, n70, t70⟩ := field_of (cs' := [v8]) Try.underlying50 t7 0 _ rfl 0 1 (by kernel_rfl) rfl
  obtain ⟨y71, n71, t71⟩ := field_of (cs' := [v9]) Try.underlying50 t7 1 _ rfl 1 1 (by kernel_rfl) rfl
  obtain ⟨i0, e0, _, w0⟩ := DataW.trod_int Try.underlying3 t0
  obtain ⟨s1, e1, _, _⟩ := DataW.trod_string Try.underlying9 t1
  obtain ⟨i2, e2, _, w2⟩ := DataW.trod_int Try.underlying36 t2
  obtain ⟨i3, e3, _, w3⟩ := DataW.trod_int Try.underlying36 t3
  obtain ⟨s4, e4, _, _⟩ := DataW.trod_string Try.underlying9 t40
  obtain ⟨s5, e5, _, _⟩ := DataW.trod_string Try.underlying9 t41
  obtain ⟨s6, e6, _, _⟩ := DataW.trod_string Try.underlying9 t5
  obtain ⟨A, n, c, e7⟩ := slice_form Try.underlying47 t6
  obtain ⟨i8, e8, _, w8⟩ := DataW.trod_int Try.underlying5 t70
  obtain ⟨i9, e9, _, w9⟩ := DataW.trod_int Try.underlying48 t71
  obtain ⟨b, e10, _⟩ := DataW.trod_bool Try.underlying4 t8
  simp at e0 e1 e2 e3 e4 e5 e6 e7 e8 e9 e10
  subst e0 e1 e2 e3 e4 e5 e6 e7 e8 e9 e10
  obtain ⟨l, hln, hin, hr⟩ := open_body t6
  obtain ⟨k2, rfl, h2⟩ := nat32 w2
  obtain ⟨k3, rfl, h3⟩ := nat32 w3
  obtain ⟨k8, rfl, h8⟩ := nat8 w8
  obtain ⟨k9, rfl⟩ := nat64 w9
  refine ⟨⟨i0, s1.data.toList, k2, k3, ⟨s4.data.toList, s5.data.toList⟩, s6.data.toList, l, A, c, k8, k9, b⟩, ⟨h2, h3, h8, by rw [hln]; exact hr, hin⟩, ?_⟩
  subst hln
  simp [Opx.cl, Opx.cells, str_data]
theorem open_ops {fuel : Nat} {a0 : Option Addr} {len cap : Nat} {x : DataW H × List MemPlace} (h : DataW.trod enc Try.prog w base spare held fuel 22 [.slice a0 len cap] = some x) :
    ∃ l : List Opx, l.length = len ∧ (∀ o ∈ l, o.raw w (fun k => k < w.heap.size)) ∧ Reads w (fun k => k < w.heap.size) 11 a0 len (l.flatMap Opx.cl) := by
  obtain ⟨l, h1, h2, h3, _⟩ := open_rows (fun o : Opx => o.raw w (fun k => k < w.heap.size)) Opx.cl (m0 := 11) Try.underlying22 (by kernel_rfl) (by decide) Opx.len (fun vs n y hl hy => open_op hl hy) h
  exact ⟨l, h1, h2, h3⟩
end
end Go.Proofs.Ytflgpjdpofmbkaa
