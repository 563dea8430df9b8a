/-
  module: the law ModuleFuncs' arguments, opened.
-/
import Derived.Test.YteibigianodhnaaMfG
import Derived.ProofKit
import Derived.OpenShut
import Derived.Lib.SmallJoins
import Derived.ChangeSame
import Derived.Deep.Slices
import Derived.Deep.Fields
import Derived.ChangeSlices
set_option linter.unusedVariables false
set_option linter.unusedSimpArgs false
namespace Go.Proofs.Yteibigianodhnaa
open Go.RowKit Go.ChangeShapes Go.WideShapes Go.Joins Go.ChangeAt Go.Deep

section
variable {H : Type} {enc : TypeId × Value → H} {P : Program} {w : World} {base : Nat} {spare : Nat → Bool} {held : Bool}
theorem open_rows {α : Type} [Inhabited α] (G : α → Prop) (c : α → List Value) {t e : TypeId} {m0 fuel : Nat} {a0 : Option Addr} {len cap : Nat} {x : DataW H × List MemPlace}
    (ht : P.underlying t = some (.slice e)) (hC : P.cellsOf e = m0) (hpos : 0 < m0) (hc : ∀ a, (c a).length = m0)
    (hmk : ∀ (vs : List Value) (n : Nat) (y : DataW H × List MemPlace), vs.length = m0 → DataW.trod enc P w base spare held n e vs = some y → ∃ a, G a ∧ vs = c a)
    (h : DataW.trod enc P w base spare held fuel t [.slice a0 len cap] = some x) :
    ∃ l : List α, l.length = len ∧ (∀ x ∈ l, G x) ∧ Reads w (fun k => k < w.heap.size) m0 a0 len (l.flatMap c) ∧ len ≤ cap ∧ cap ≤ maxLen := by
  rcases open_slice ht h with ⟨h0, _⟩ | ⟨a, len', cap', m, n, D, Pl, hcs, hb, hl, hm, hmm, hx, hi⟩
  · simp at h0
    obtain ⟨rfl, rfl, rfl⟩ := h0
    exact ⟨[], rfl, (fun _ h => by cases h), Reads.nil_, Nat.le_refl _, by unfold maxLen; omega⟩
  · simp at hcs
    obtain ⟨rfl, rfl, rfl⟩ := hcs
    have hlm : len ≤ m := by rw [hmm]; split <;> omega
    have one : ∀ i, i < len → ∃ y : α, G y ∧ ∀ j u, (c y)[j]? = some u → w.cell? (a.add (i * m0 + j)) = some u := fun i hil => by
      obtain ⟨cs', h1, h2⟩ := hi i (by omega)
      rw [hC] at h1
      obtain ⟨_, hcl, hat⟩ := World.cells?_some h1
      obtain ⟨y, hG, rfl⟩ := hmk cs' _ _ hcl h2
      refine ⟨y, hG, fun j u hu => ?_⟩
      have hj : j < m0 := by
        have := (List.getElem?_eq_some_iff.1 hu).1
        rw [hc] at this
        exact this
      rw [← add_add', hat j hj]
      exact hu
    obtain ⟨f, hf⟩ := choose_lt one
    have hcell0 : 0 < len → ∃ u, w.cell? (a.add 0 |>.add 0) = some u := fun hn => by
      obtain ⟨cs', h1, _⟩ := hi 0 (by omega)
      rw [hC] at h1
      obtain ⟨_, hcl, hat⟩ := World.cells?_some h1
      have h4 := hat 0 hpos
      rw [List.getElem?_eq_getElem (by omega), Nat.zero_mul] at h4
      exact ⟨_, h4⟩
    refine ⟨(List.range len).map f, by simp, fun x hx => ?_, ⟨by rw [flat_length c m0 hc]; simp, fun hn => ⟨a, rfl, ?_, ?_, fun j u hu => ?_⟩⟩, hl, hm⟩
    · obtain ⟨i, hi2, rfl⟩ := List.mem_map.1 hx
      exact (hf i (List.mem_range.1 hi2)).1
    · obtain ⟨u, h4⟩ := hcell0 hn
      have := World.block_lt_of_cell? w _ h4
      rwa [add_block, add_block] at this
    · obtain ⟨u, h4⟩ := hcell0 hn
      have := World.block_lt_of_cell? w _ h4
      rwa [add_block, add_block] at this
    · have hj := (List.getElem?_eq_some_iff.1 hu).1
      rw [flat_length c m0 hc, List.length_map, List.length_range] at hj
      have hq : j / m0 < len := Nat.div_lt_of_lt_mul (by rw [Nat.mul_comm]; exact hj)
      have hr : j % m0 < m0 := Nat.mod_lt _ hpos
      have hjj : j = j / m0 * m0 + j % m0 := by rw [Nat.mul_comm]; exact (Nat.div_add_mod j m0).symm
      rw [hjj] at hu ⊢
      rw [flat_get c m0 hc _ _ _ (by simpa using hq) hr] at hu
      refine (hf _ hq).2 _ u ?_
      simpa using hu
end

section
variable {H : Type} {enc : TypeId × Value → H} {P : Program} {w : World} {base : Nat} {spare : Nat → Bool} {held : Bool}
/-- One field of a struct. -/
theorem field_of {t : TypeId} {fs : Array Field} {fuel : Nat} {cs cs' : List Value} {x : DataW H × List MemPlace} (ht : P.underlying t = some (.struct fs)) (h : DataW.trod enc P w base spare held fuel t cs = some x)
    (i : Nat) (f : Field) (hf : fs[i]? = some f) (o k : Nat) (ho : (f.offset, P.cellsOf f.type) = (o, k)) (hc : (cs.drop o).take k = cs') : ∃ (y : DataW H × List MemPlace) (n : Nat), DataW.trod enc P w base spare held n f.type cs' = some y := by
  obtain ⟨xs, n, _, _, _, hlen, hx⟩ := DataW.trod_struct ht h
  have hi : i < xs.length := by rw [hlen]; exact (Array.getElem?_eq_some_iff.1 hf).1
  have h1 := hx i f hf
  simp only [Prod.mk.injEq] at ho
  rw [ho.1, ho.2, hc, List.getElem?_eq_getElem hi] at h1
  exact ⟨_, n, h1⟩
theorem nats_of {t e : TypeId} {k : IntKind} {fuel : Nat} {a0 : Option Addr} {len cap : Nat} {x : DataW H × List MemPlace} (ht : P.underlying t = some (.slice e)) (he : P.underlying e = some (.int k)) (hc : P.cellsOf e = 1)
    (hpos : ∀ z : Int, (Lit.int k z).wf = true → 0 ≤ z)
    (h : DataW.trod enc P w base spare held fuel t [.slice a0 len cap] = some x) :
    ∃ l : List Nat, l.length = len ∧ Reads w (fun k => k < w.heap.size) 1 a0 len (l.map fun n : Nat => .int k (n : Int)) ∧ ∀ n ∈ l, (Lit.int k (n : Int)).wf = true := by
  rcases open_ints ht he hc h with ⟨hcs, _⟩ | ⟨a, len', cap', zs, hcs, _, hl, hm, hz, _, hcell, hwz⟩
  · simp at hcs
    obtain ⟨rfl, rfl, rfl⟩ := hcs
    exact ⟨[], rfl, Reads.nil_, by simp⟩
  · simp at hcs
    obtain ⟨rfl, rfl, rfl⟩ := hcs
    have hzl : len ≤ zs.length := by rw [hz]; split <;> omega
    have hmem : ∀ i, i < len → zs.getD i 0 ∈ zs := fun i hi => by
      rw [List.getD_eq_getElem?_getD, List.getElem?_eq_getElem (by omega)]
      exact List.getElem_mem _
    have hget : ∀ i, i < len → ∃ n : Nat, zs.getD i 0 = (n : Int) ∧ (Lit.int k (n : Int)).wf = true := fun i hi => by
      have h1 := hwz _ (hmem i hi)
      have h2 := hpos _ h1
      exact ⟨(zs.getD i 0).toNat, by omega, by rw [Int.toNat_of_nonneg h2]; exact h1⟩
    refine ⟨(List.range len).map fun i => (zs.getD i 0).toNat, by simp, ⟨by simp, fun hn => ⟨a, rfl, ?_, ?_, fun j u hu => ?_⟩⟩, ?_⟩
    · have := World.block_lt_of_cell? w _ (hcell 0 (by omega))
      rwa [add_block] at this
    · have := World.block_lt_of_cell? w _ (hcell 0 (by omega))
      rwa [add_block] at this
    · have hj : j < len := by simpa using (List.getElem?_eq_some_iff.1 hu).1
      obtain ⟨n, hn1, _⟩ := hget j hj
      simp [hj] at hu
      rw [hcell j (by omega), ← hu, hn1]
      rw [List.getD_eq_getElem?_getD] at hn1
      rw [hn1]
      congr 2
      omega
    · intro n hn
      obtain ⟨i, hi, rfl⟩ := List.mem_map.1 hn
      obtain ⟨m, hm1, hm2⟩ := hget i (List.mem_range.1 hi)
      rw [hm1]
      exact hm2
end
theorem list9 {α : Type} {cs : List α} (h : cs.length = 9) : ∃ v0 v1 v2 v3 v4 v5 v6 v7 v8, cs = [v0, v1, v2, v3, v4, v5, v6, v7, v8] := by
  match cs, h with
  | [v0, v1, v2, v3, v4, v5, v6, v7, v8], _ => exact ⟨v0, v1, v2, v3, v4, v5, v6, v7, v8, rfl⟩
theorem list2 {α : Type} {cs : List α} (h : cs.length = 2) : ∃ v0 v1, cs = [v0, v1] := by
  match cs, h with
  | [v0, v1], _ => exact ⟨v0, v1, rfl⟩
theorem array17 {α : Type} {cs : Array α} (h : cs.size = 17) : ∃ c0 c1 c2 c3 c4 c5 c6 c7 c8 c9 c10 c11 c12 c13 c14 c15 c16, cs = #[c0, c1, c2, c3, c4, c5, c6, c7, c8, c9, c10, c11, c12, c13, c14, c15, c16]  := by
  obtain ⟨l⟩ := cs
  match l, h with
  | [c0, c1, c2, c3, c4, c5, c6, c7, c8, c9, c10, c11, c12, c13, c14, c15, c16], _ => exact ⟨c0, c1, c2, c3, c4, c5, c6, c7, c8, c9, c10, c11, c12, c13, c14, c15, c16, rfl⟩
theorem nat32 {z : Int} (h : (Lit.int .u32 z).wf = true) : ∃ n : Nat, z = n ∧ n < 4294967296 := by
  have h2 := Go.bounds_u32 h
  exact ⟨z.toNat, by omega, by omega⟩
theorem nat8 {z : Int} (h : (Lit.int .u8 z).wf = true) : ∃ n : Nat, z = n ∧ n < 256 := by
  have h2 := Go.bounds_u8 h
  exact ⟨z.toNat, by omega, by omega⟩

section
variable {H : Type} {enc : TypeId × Value → H} {w : World} {base : Nat} {spare : Nat → Bool} {held : Bool}
theorem open_ft {fuel : Nat} {vs : List Value} {x : DataW H × List MemPlace} (hl : vs.length = 2) (h : DataW.trod enc Try.prog w base spare held fuel 40 vs = some x) : ∃ a : Ft, vs = a.cells := by
  obtain ⟨v0, v1, rfl⟩ := list2 hl
  obtain ⟨y0, n0, t0⟩ := field_of (cs' := [v0]) Try.underlying40 h 0 _ rfl 0 1 (by kernel_rfl) rfl
  obtain ⟨y1, n1, t1⟩ := field_of (cs' := [v1]) Try.underlying40 h 1 _ rfl 1 1 (by kernel_rfl) rfl
  obtain ⟨s0, e0, _⟩ := DataW.trod_string Try.underlying9 t0
  obtain ⟨s1, e1, _⟩ := DataW.trod_string Try.underlying9 t1
  simp at e0 e1
  subst e0 e1
  exact ⟨⟨s0.data.toList, s1.data.toList⟩, by rw [Ft.cells, str_data, str_data]⟩
set_option maxRecDepth 100000 in
theorem open_im {fuel : Nat} {vs : List Value} {x : DataW H × List MemPlace} (hl : vs.length = 9) (h : DataW.trod enc Try.prog w base spare held fuel 54 vs = some x) : ∃ a : Im, a.t < 4294967296 ∧ vs = a.cells := by
  obtain ⟨v0, v1, v2, v3, v4, v5, v6, v7, v8, rfl⟩ := list9 hl
  obtain ⟨y0, n0, t0⟩ := field_of (cs' := [v0]) Try.underlying54 h 0 _ rfl 0 1 (by kernel_rfl) rfl
  obtain ⟨y1, n1, t1⟩ := field_of (cs' := [v1]) Try.underlying54 h 1 _ rfl 1 1 (by kernel_rfl) rfl
  obtain ⟨y2, n2, t2⟩ := field_of (cs' := [v2]) Try.underlying54 h 2 _ rfl 2 1 (by kernel_rfl) rfl
  obtain ⟨y3, n3, t3⟩ := field_of (cs' := [v3]) Try.underlying54 h 3 _ rfl 3 1 (by kernel_rfl) rfl
  obtain ⟨y4, n4, t4⟩ := field_of (cs' := [v4, v5, v6]) Try.underlying54 h 4 _ rfl 4 3 (by kernel_rfl) rfl
  obtain ⟨y5, n5, t5⟩ := field_of (cs' := [v7, v8]) Try.underlying54 h 5 _ rfl 7 2 (by kernel_rfl) rfl
  obtain ⟨z0, m0, u0⟩ := field_of (cs' := [v4]) Try.underlying50 t4 0 _ rfl 0 1 (by kernel_rfl) rfl
  obtain ⟨z1, m1, u1⟩ := field_of (cs' := [v5]) Try.underlying50 t4 1 _ rfl 1 1 (by kernel_rfl) rfl
  obtain ⟨z2, m2, u2⟩ := field_of (cs' := [v6]) Try.underlying50 t4 2 _ rfl 2 1 (by kernel_rfl) rfl
  obtain ⟨z3, m3, u3⟩ := field_of (cs' := [v7]) Try.underlying52 t5 0 _ rfl 0 1 (by kernel_rfl) rfl
  obtain ⟨z4, m4, u4⟩ := field_of (cs' := [v8]) Try.underlying52 t5 1 _ rfl 1 1 (by kernel_rfl) rfl
  obtain ⟨s0, e0, _⟩ := DataW.trod_string Try.underlying9 t0
  obtain ⟨s1, e1, _⟩ := DataW.trod_string Try.underlying9 t1
  obtain ⟨i2, e2, _, w2⟩ := DataW.trod_int Try.underlying5 t2
  obtain ⟨i3, e3, _, w3⟩ := DataW.trod_int Try.underlying31 t3
  obtain ⟨i4, e4, _, w4⟩ := DataW.trod_int Try.underlying31 u0
  obtain ⟨i5, e5, _, w5⟩ := DataW.trod_int Try.underlying31 u1
  obtain ⟨i6, e6, _⟩ := DataW.trod_bool Try.underlying4 u2
  obtain ⟨i7, e7, _, w7⟩ := DataW.trod_int Try.underlying5 u3
  obtain ⟨i8, e8, _⟩ := DataW.trod_bool Try.underlying4 u4
  simp at e0 e1 e2 e3 e4 e5 e6 e7 e8
  subst e0 e1 e2 e3 e4 e5 e6 e7 e8
  obtain ⟨a2, rfl, _⟩ := nat8 w2
  obtain ⟨a3, rfl, h3⟩ := nat32 w3
  obtain ⟨a4, rfl, _⟩ := nat32 w4
  obtain ⟨a5, rfl, _⟩ := nat32 w5
  obtain ⟨a7, rfl, _⟩ := nat8 w7
  exact ⟨⟨s0.data.toList, s1.data.toList, a2, a3, a4, a5, i6, a7, i8⟩, h3, by rw [Im.cells, str_data, str_data]⟩
set_option maxRecDepth 100000 in
theorem open_mod {r : Reach} {b0 : Nat} {v : Value} {d : DataW H} {p : List MemPlace} (hv : Value.okWide Try.prog w r b0 36 v) (h : DataW.Trod enc Try.prog w base spare held 36 v d p) :
    ∃ (T I Fa : Option Addr) (tn tc n ic m fc : Nat) (x3 x4 x5 x6 x7 x8 x9 x10 x11 x12 x13 x14 x15 x16 : Value) (l : List Im) (fs : List Nat) (ts : List Ft), v = .agg #[.slice T tn tc, .slice I n ic, .slice Fa m fc, x3, x4, x5, x6, x7, x8, x9, x10, x11, x12, x13, x14, x15, x16] ∧ n = l.length ∧ m = fs.length ∧ tn = ts.length ∧ tn < 9223372036854775808 ∧
      Reads w (fun k => k < w.heap.size) 9 I n (ims l) ∧ Reads w (fun k => k < w.heap.size) 1 Fa m (u32s fs) ∧ Reads w (fun k => k < w.heap.size) 2 T tn (fts ts) ∧ (∀ x ∈ l, x.t < 4294967296) ∧ (∀ x ∈ fs, x < 4294967296) := by
  obtain ⟨cs, rfl, hsz⟩ := okWide_struct Try.underlying36 hv
  obtain ⟨c0, c1, c2, c3, c4, c5, c6, c7, c8, c9, c10, c11, c12, c13, c14, c15, c16, rfl⟩ := array17 (hsz.trans (by kernel_rfl))
  obtain ⟨fuel, hf⟩ := h
  obtain ⟨y0, n0, t0⟩ := field_of (cs' := [c0]) Try.underlying36 hf 0 _ rfl 0 1 (by kernel_rfl) rfl
  obtain ⟨y1, n1, t1⟩ := field_of (cs' := [c1]) Try.underlying36 hf 1 _ rfl 1 1 (by kernel_rfl) rfl
  obtain ⟨y2, n2, t2⟩ := field_of (cs' := [c2]) Try.underlying36 hf 2 _ rfl 2 1 (by kernel_rfl) rfl
  obtain ⟨T, tn, tc, e0⟩ := slice_form Try.underlying22 t0
  obtain ⟨I, n, ic, e1⟩ := slice_form Try.underlying23 t1
  obtain ⟨Fa, m, fc, e2⟩ := slice_form Try.underlying24 t2
  simp at e0 e1 e2
  subst e0 e1 e2
  obtain ⟨ts, q1, _, q3, q4, q5⟩ := open_rows (fun _ => True) Ft.cells (m0 := 2) Try.underlying22 (by kernel_rfl) (by decide) Ft.two (fun vs n y hl hy => by
    obtain ⟨a, ha⟩ := open_ft hl hy
    exact ⟨a, trivial, ha⟩) t0
  obtain ⟨l, r1, r2, r3, _⟩ := open_rows (fun x : Im => x.t < 4294967296) Im.cells (m0 := 9) Try.underlying23 (by kernel_rfl) (by decide) Im.nine (fun vs n y hl hy => open_im hl hy) t1
  obtain ⟨fs, s1, s2, s3⟩ := nats_of Try.underlying24 Try.underlying31 (by kernel_rfl) (fun z h => (Go.bounds_u32 h).1) t2
  refine ⟨T, I, Fa, tn, tc, n, ic, m, fc, c3, c4, c5, c6, c7, c8, c9, c10, c11, c12, c13, c14, c15, c16, l, fs, ts, rfl, r1.symm, s1.symm, q1.symm, ?_, r3, s2, q3, r2, fun x hx => ?_⟩
  · unfold maxLen at q5
    omega
  · have := (Go.bounds_u32 (s3 x hx)).2
    omega
end

theorem mf_all (W : World) (T I Fa : Option Addr) (tn tc n ic m fc : Nat) (x3 x4 x5 x6 x7 x8 x9 x10 x11 x12 x13 x14 x15 x16 : Value) (l : List Im) (fs : List Nat) (ts : List Ft) (f : Nat) (HN : n = l.length) (HM : m = fs.length) (HT : tn = ts.length) (htn : tn < 9223372036854775808) (S S' S'' : Nat → Prop)
    (hr : Reads W S 9 I n (ims l)) (hf : Reads W S' 1 Fa m (u32s fs)) (ht : Reads W S'' 2 T tn (fts ts)) (h1 : ∀ x ∈ l, x.t < 4294967296) (h2 : ∀ x ∈ fs, x < 4294967296) (hfb : f < 4294967296) :
    Calls Try.prog 3 #[.agg #[.slice T tn tc, .slice I n ic, .slice Fa m fc, x3, x4, x5, x6, x7, x8, x9, x10, x11, x12, x13, x14, x15, x16], .int .u32 (f : Int)] W fun e W' => e = .returned (.bool true) ∧ Below W.heap.size W W' := by
  have key : Calls Try.prog 3 #[.agg #[.slice T tn tc, .slice I n ic, .slice Fa m fc, x3, x4, x5, x6, x7, x8, x9, x10, x11, x12, x13, x14, x15, x16], .int .u32 (f : Int)] W fun e W' => e = .returned (.bool true) ∧ Step (fun _ => False) W W' := by
    by_cases h : n ≤ 100 ∧ m ≤ 100
    · exact mf_ok W T I Fa tn tc n ic m fc x3 x4 x5 x6 x7 x8 x9 x10 x11 x12 x13 x14 x15 x16 l fs ts S S' S'' HN h.1 HM h.2 HT htn hr hf ht f hfb h1 h2
    · exact mf_big W T I Fa tn tc n ic m fc x3 x4 x5 x6 x7 x8 x9 x10 x11 x12 x13 x14 x15 x16 f h
  exact key.mono fun _ _ hh => ⟨hh.1, hh.2.below W.heap.size (fun _ _ hf => hf.elim) (Nat.le_refl _)⟩
end Go.Proofs.Yteibigianodhnaa
