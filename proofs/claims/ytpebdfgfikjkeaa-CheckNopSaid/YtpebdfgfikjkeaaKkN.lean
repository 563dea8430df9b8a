/-
  check: the arguments of the law CheckNop, opened.
-/
import Derived.Test.YtpebdfgfikjkeaaKkM
import Derived.ProofKit
import Derived.OpenShut
import Derived.Lib.SmallJoins
import Derived.ChangeSame
import Derived.Deep.Slices
import Derived.Deep.Fields
import Derived.ChangeSlices
set_option linter.unusedVariables false
set_option linter.unusedSimpArgs false
namespace Go.Proofs.Ytpebdfgfikjkeaa
open Go.RowKit Go.ChangeShapes Go.WideShapes Go.Joins Go.ChangeAt Go.Deep
section
variable {H : Type} {enc : TypeId × Value → H} {P : Program} {w : World} {base : Nat} {spare : Nat → Bool} {held : Bool}
theorem open_rows {α : Type} [Inhabited α] (G : α → Prop) (c : α → List Value) {t e : TypeId} {m0 fuel : Nat} {a0 : Option Addr} {len cap : Nat} {x : DataW H × List MemPlace}
    (ht : P.underlying t = some (.slice e)) (hC : P.cellsOf e = m0) (hpos : 0 < m0) (hc : ∀ a, (c a).length = m0)
    (hmk : ∀ (vs : List Value) (n : Nat) (y : DataW H × List MemPlace), vs.length = m0 → DataW.trod enc P w base spare held n e vs = some y → ∃ a, G a ∧ vs = c a)
    (h : DataW.trod enc P w base spare held fuel t [.slice a0 len cap] = some x) :
    ∃ l : List α, l.length = len ∧ (∀ x ∈ l, G x) ∧ Reads w (fun k => k < w.heap.size) m0 a0 len (l.flatMap c) ∧ len ≤ cap ∧ cap ≤ maxLen := by
  rcases open_slice ht h with ⟨h0, _⟩ | ⟨a, len', cap', m, n, D, Pl, hcs, hb, hl, hm, hmm, hx, hi⟩
  · simp at h0
    obtain ⟨rfl, rfl, rfl⟩ := h0
    exact ⟨[], rfl, (fun _ h => by cases h), Reads.nil_, Nat.le_refl _, by unfold maxLen; omega⟩
  · simp at hcs
    obtain ⟨rfl, rfl, rfl⟩ := hcs
    have hlm : len ≤ m := by rw [hmm]; split <;> omega
    have one : ∀ i, i < len → ∃ y : α, G y ∧ ∀ j u, (c y)[j]? = some u → w.cell? (a.add (i * m0 + j)) = some u := fun i hil => by
      obtain ⟨cs', h1, h2⟩ := hi i (by omega)
      rw [hC] at h1
      obtain ⟨_, hcl, hat⟩ := World.cells?_some h1
      obtain ⟨y, hG, rfl⟩ := hmk cs' _ _ hcl h2
      refine ⟨y, hG, fun j u hu => ?_⟩
      have hj : j < m0 := by
        have := (List.getElem?_eq_some_iff.1 hu).1
        rw [hc] at this
        exact this
      rw [← add_add', hat j hj]
      exact hu
    obtain ⟨f, hf⟩ := choose_lt one
    have hcell0 : 0 < len → ∃ u, w.cell? (a.add 0 |>.add 0) = some u := fun hn => by
      obtain ⟨cs', h1, _⟩ := hi 0 (by omega)
      rw [hC] at h1
      obtain ⟨_, hcl, hat⟩ := World.cells?_some h1
      have h4 := hat 0 hpos
      rw [List.getElem?_eq_getElem (by omega), Nat.zero_mul] at h4
      exact ⟨_, h4⟩
    refine ⟨(List.range len).map f, by simp, fun x hx => ?_, ⟨by rw [flat_length c m0 hc]; simp, fun hn => ⟨a, rfl, ?_, ?_, fun j u hu => ?_⟩⟩, hl, hm⟩
    · obtain ⟨i, hi2, rfl⟩ := List.mem_map.1 hx
      exact (hf i (List.mem_range.1 hi2)).1
    · obtain ⟨u, h4⟩ := hcell0 hn
      have := World.block_lt_of_cell? w _ h4
      rwa [add_block, add_block] at this
    · obtain ⟨u, h4⟩ := hcell0 hn
      have := World.block_lt_of_cell? w _ h4
      rwa [add_block, add_block] at this
    · have hj := (List.getElem?_eq_some_iff.1 hu).1
      rw [flat_length c m0 hc, List.length_map, List.length_range] at hj
      have hq : j / m0 < len := Nat.div_lt_of_lt_mul (by rw [Nat.mul_comm]; exact hj)
      have hr : j % m0 < m0 := Nat.mod_lt _ hpos
      have hjj : j = j / m0 * m0 + j % m0 := by rw [Nat.mul_comm]; exact (Nat.div_add_mod j m0).symm
      rw [hjj] at hu ⊢
      rw [flat_get c m0 hc _ _ _ (by simpa using hq) hr] at hu
      refine (hf _ hq).2 _ u ?_
      simpa using hu
end

section
variable {H : Type} {enc : TypeId × Value → H} {P : Program} {w : World} {base : Nat} {spare : Nat → Bool} {held : Bool}
/-- One field of a struct. -/
theorem field_of {t : TypeId} {fs : Array Field} {fuel : Nat} {cs cs' : List Value} {x : DataW H × List MemPlace} (ht : P.underlying t = some (.struct fs)) (h : DataW.trod enc P w base spare held fuel t cs = some x)
    (i : Nat) (f : Field) (hf : fs[i]? = some f) (o k : Nat) (ho : (f.offset, P.cellsOf f.type) = (o, k)) (hc : (cs.drop o).take k = cs') : ∃ (y : DataW H × List MemPlace) (n : Nat), DataW.trod enc P w base spare held n f.type cs' = some y := by
  obtain ⟨xs, n, _, _, _, hlen, hx⟩ := DataW.trod_struct ht h
  have hi : i < xs.length := by rw [hlen]; exact (Array.getElem?_eq_some_iff.1 hf).1
  have h1 := hx i f hf
  simp only [Prod.mk.injEq] at ho
  rw [ho.1, ho.2, hc, List.getElem?_eq_getElem hi] at h1
  exact ⟨_, n, h1⟩
theorem nats_of {t e : TypeId} {k : IntKind} {fuel : Nat} {a0 : Option Addr} {len cap : Nat} {x : DataW H × List MemPlace} (ht : P.underlying t = some (.slice e)) (he : P.underlying e = some (.int k)) (hc : P.cellsOf e = 1)
    (hpos : ∀ z : Int, (Lit.int k z).wf = true → 0 ≤ z)
    (h : DataW.trod enc P w base spare held fuel t [.slice a0 len cap] = some x) :
    ∃ l : List Nat, l.length = len ∧ Reads w (fun k => k < w.heap.size) 1 a0 len (l.map fun n : Nat => .int k (n : Int)) ∧ ∀ n ∈ l, (Lit.int k (n : Int)).wf = true := by
  rcases open_ints ht he hc h with ⟨hcs, _⟩ | ⟨a, len', cap', zs, hcs, _, hl, hm, hz, _, hcell, hwz⟩
  · simp at hcs
    obtain ⟨rfl, rfl, rfl⟩ := hcs
    exact ⟨[], rfl, Reads.nil_, by simp⟩
  · simp at hcs
    obtain ⟨rfl, rfl, rfl⟩ := hcs
    have hzl : len ≤ zs.length := by rw [hz]; split <;> omega
    have hmem : ∀ i, i < len → zs.getD i 0 ∈ zs := fun i hi => by
      rw [List.getD_eq_getElem?_getD, List.getElem?_eq_getElem (by omega)]
      exact List.getElem_mem _
    have hget : ∀ i, i < len → ∃ n : Nat, zs.getD i 0 = (n : Int) ∧ (Lit.int k (n : Int)).wf = true := fun i hi => by
      have h1 := hwz _ (hmem i hi)
      have h2 := hpos _ h1
      exact ⟨(zs.getD i 0).toNat, by omega, by rw [Int.toNat_of_nonneg h2]; exact h1⟩
    refine ⟨(List.range len).map fun i => (zs.getD i 0).toNat, by simp, ⟨by simp, fun hn => ⟨a, rfl, ?_, ?_, fun j u hu => ?_⟩⟩, ?_⟩
    · have := World.block_lt_of_cell? w _ (hcell 0 (by omega))
      rwa [add_block] at this
    · have := World.block_lt_of_cell? w _ (hcell 0 (by omega))
      rwa [add_block] at this
    · have hj : j < len := by simpa using (List.getElem?_eq_some_iff.1 hu).1
      obtain ⟨n, hn1, _⟩ := hget j hj
      simp [hj] at hu
      rw [hcell j (by omega), ← hu, hn1]
      rw [List.getD_eq_getElem?_getD] at hn1
      rw [hn1]
      congr 2
      omega
    · intro n hn
      obtain ⟨i, hi, rfl⟩ := List.mem_map.1 hn
      obtain ⟨m, hm1, hm2⟩ := hget i (List.mem_range.1 hi)
      rw [hm1]
      exact hm2
end
theorem list2 {α : Type} {cs : List α} (h : cs.length = 2) : ∃ v0 v1, cs = [v0, v1] := by
  match cs, h with
  | [v0, v1], _ => exact ⟨v0, v1, rfl⟩
theorem nat32 {z : Int} (h : (Lit.int .u32 z).wf = true) : ∃ n : Nat, z = n ∧ n < 4294967296 := by
  have h2 := Go.bounds_u32 h
  exact ⟨z.toNat, by omega, by omega⟩
theorem nat8 {z : Int} (h : (Lit.int .u8 z).wf = true) : ∃ n : Nat, z = n ∧ n < 256 := by
  have h2 := Go.bounds_u8 h
  exact ⟨z.toNat, by omega, by omega⟩


section
variable {H : Type} {enc : TypeId × Value → H} {w : World} {base : Nat} {spare : Nat → Bool} {held : Bool}
theorem str_data4 (s : ByteArray) : str s.data.toList = s := by simp [str]
theorem list4 {α : Type} {cs : List α} (h : cs.length = 4) : ∃ c0 c1 c2 c3, cs = [c0, c1, c2, c3] := by
  match cs, h with
  | [c0, c1, c2, c3], _ => exact ⟨c0, c1, c2, c3, rfl⟩
theorem array5 {α : Type} {cs : Array α} (h : cs.size = 5) : ∃ c0 c1 c2 c3 c4, cs = #[c0, c1, c2, c3, c4] := by
  obtain ⟨l⟩ := cs
  match l, h with
  | [c0, c1, c2, c3, c4], _ => exact ⟨c0, c1, c2, c3, c4, rfl⟩
theorem flat_one (l : List Nat) : l.flatMap (fun y : Nat => [Value.int .u32 (y : Int)]) = l.map fun y : Nat => Value.int .u32 (y : Int) := by
  induction l with
  | nil => rfl
  | cons y l ih => rw [List.flatMap_cons, ih]; rfl
theorem open_ft {fuel : Nat} {vs : List Value} {x : DataW H × List MemPlace} (hl : vs.length = 2) (h : DataW.trod enc Try.prog w base spare held fuel 28 vs = some x) : ∃ a : List UInt8 × List UInt8, vs = ftC a := by
  obtain ⟨v0, v1, rfl⟩ := list2 hl
  obtain ⟨y0, n0, t0⟩ := field_of (cs' := [v0]) Try.underlying28 h 0 _ rfl 0 1 (by kernel_rfl) rfl
  obtain ⟨y1, n1, t1⟩ := field_of (cs' := [v1]) Try.underlying28 h 1 _ rfl 1 1 (by kernel_rfl) rfl
  obtain ⟨s0, e0, _⟩ := DataW.trod_string Try.underlying9 t0
  obtain ⟨s1, e1, _⟩ := DataW.trod_string Try.underlying9 t1
  simp at e0 e1
  subst e0 e1
  exact ⟨(s0.data.toList, s1.data.toList), by rw [ftC, str_data4, str_data4]⟩
theorem open_gt {fuel : Nat} {vs : List Value} {x : DataW H × List MemPlace} (hl : vs.length = 2) (h : DataW.trod enc Try.prog w base spare held fuel 62 vs = some x) : ∃ a : Nat × Bool, a.1 < 256 ∧ vs = glC a := by
  obtain ⟨v0, v1, rfl⟩ := list2 hl
  obtain ⟨y0, n0, t0⟩ := field_of (cs' := [v0]) Try.underlying62 h 0 _ rfl 0 1 (by kernel_rfl) rfl
  obtain ⟨y1, n1, t1⟩ := field_of (cs' := [v1]) Try.underlying62 h 1 _ rfl 1 1 (by kernel_rfl) rfl
  obtain ⟨i0, e0, _, w0⟩ := DataW.trod_int Try.underlying5 t0
  obtain ⟨i1, e1, _⟩ := DataW.trod_bool Try.underlying4 t1
  simp at e0 e1
  subst e0 e1
  obtain ⟨a0, rfl, h0⟩ := nat8 w0
  exact ⟨(a0, i1), h0, rfl⟩
theorem open_lo {fuel : Nat} {vs : List Value} {x : DataW H × List MemPlace} (hl : vs.length = 2) (h : DataW.trod enc Try.prog w base spare held fuel 104 vs = some x) : ∃ a : Nat × Nat, (a.1 < 4294967296 ∧ a.2 < 256) ∧ vs = loC a := by
  obtain ⟨v0, v1, rfl⟩ := list2 hl
  obtain ⟨y0, n0, t0⟩ := field_of (cs' := [v0]) Try.underlying104 h 0 _ rfl 0 1 (by kernel_rfl) rfl
  obtain ⟨y1, n1, t1⟩ := field_of (cs' := [v1]) Try.underlying104 h 1 _ rfl 1 1 (by kernel_rfl) rfl
  obtain ⟨i0, e0, _, w0⟩ := DataW.trod_int Try.underlying48 t0
  obtain ⟨i1, e1, _, w1⟩ := DataW.trod_int Try.underlying5 t1
  simp at e0 e1
  subst e0 e1
  obtain ⟨a0, rfl, h0⟩ := nat32 w0
  obtain ⟨a1, rfl, h1⟩ := nat8 w1
  exact ⟨(a0, a1), ⟨h0, h1⟩, rfl⟩
theorem open_ig {fuel : Nat} {vs : List Value} {x : DataW H × List MemPlace} (hl : vs.length = 4) (h : DataW.trod enc Try.prog w base spare held fuel 40 vs = some x) : ∃ a : Ig, IgRaw w (fun k => k < w.heap.size) a ∧ vs = a.cells := by
  obtain ⟨v0, v1, v2, v3, rfl⟩ := list4 hl
  obtain ⟨y0, n0, t0⟩ := field_of (cs' := [v0]) Try.underlying40 h 0 _ rfl 0 1 (by kernel_rfl) rfl
  obtain ⟨y1, n1, t1⟩ := field_of (cs' := [v1]) Try.underlying40 h 1 _ rfl 1 1 (by kernel_rfl) rfl
  obtain ⟨y2, n2, t2⟩ := field_of (cs' := [v2]) Try.underlying40 h 2 _ rfl 2 1 (by kernel_rfl) rfl
  obtain ⟨y3, n3, t3⟩ := field_of (cs' := [v3]) Try.underlying40 h 3 _ rfl 3 1 (by kernel_rfl) rfl
  obtain ⟨i0, e0, _, w0⟩ := DataW.trod_int Try.underlying5 t0
  obtain ⟨i1, e1, _, w1⟩ := DataW.trod_int Try.underlying38 t1
  obtain ⟨i2, e2, _, w2⟩ := DataW.trod_int Try.underlying38 t2
  obtain ⟨A, n, c, e3⟩ := slice_form Try.underlying23 t3
  simp at e0 e1 e2 e3
  subst e0 e1 e2 e3
  obtain ⟨L, hL, hr, hw⟩ := nats_of Try.underlying23 Try.underlying48 (by kernel_rfl) (fun z h => (Go.bounds_u32 h).1) t3
  obtain ⟨a0, rfl, h0⟩ := nat8 w0
  have g1 := Go.bounds_u64 w1
  have g2 := Go.bounds_u64 w2
  refine ⟨⟨a0, i1.toNat, i2.toNat, n, c, A, L⟩, ⟨h0, by simp only; omega, hL.symm, fun y hy => by have := (Go.bounds_u32 (hw y hy)).2; omega, ?_⟩, ?_⟩
  · show Reads w _ 1 A n (L.flatMap _)
    rw [flat_one]
    exact hr
  · show _ = [Value.int .u8 (a0 : Int), .int .u64 (i1.toNat : Int), .int .u64 (i2.toNat : Int), .slice A n c]
    rw [Int.toNat_of_nonneg g1.1, Int.toNat_of_nonneg g2.1]
set_option maxRecDepth 100000 in
theorem open_env {r : Reach} {b0 : Nat} {v : Value} {d : DataW H} {p : List MemPlace} (hv : Value.okWide Try.prog w r b0 26 v) (h : DataW.Trod enc Try.prog w base spare held 26 v d p) :
    ∃ (tA fA gA : Option Addr) (tc fc gc : Nat) (ts : List (List UInt8 × List UInt8)) (fs : List Nat) (gs : List (Nat × Bool)) (tb me : Bool), v = .agg #[.slice tA ts.length tc, .slice fA fs.length fc, .slice gA gs.length gc, .bool tb, .bool me] ∧
      Reads w (fun k => k < w.heap.size) 2 tA ts.length (ts.flatMap ftC) ∧ Reads w (fun k => k < w.heap.size) 1 fA fs.length (fs.map fun x : Nat => Value.int .u32 (x : Int)) ∧ Reads w (fun k => k < w.heap.size) 2 gA gs.length (gs.flatMap glC) ∧ (∀ x ∈ fs, x < 4294967296) ∧ (∀ x ∈ gs, x.1 < 256) := by
  obtain ⟨cs, rfl, hsz⟩ := okWide_struct Try.underlying26 hv
  obtain ⟨c0, c1, c2, c3, c4, rfl⟩ := array5 (hsz.trans (by kernel_rfl))
  obtain ⟨fuel, hf⟩ := h
  obtain ⟨y0, n0, t0⟩ := field_of (cs' := [c0]) Try.underlying26 hf 0 _ rfl 0 1 (by kernel_rfl) rfl
  obtain ⟨y1, n1, t1⟩ := field_of (cs' := [c1]) Try.underlying26 hf 1 _ rfl 1 1 (by kernel_rfl) rfl
  obtain ⟨y2, n2, t2⟩ := field_of (cs' := [c2]) Try.underlying26 hf 2 _ rfl 2 1 (by kernel_rfl) rfl
  obtain ⟨y3, n3, t3⟩ := field_of (cs' := [c3]) Try.underlying26 hf 3 _ rfl 3 1 (by kernel_rfl) rfl
  obtain ⟨y4, n4, t4⟩ := field_of (cs' := [c4]) Try.underlying26 hf 4 _ rfl 4 1 (by kernel_rfl) rfl
  obtain ⟨tA, tn, tc, e0⟩ := slice_form Try.underlying22 t0
  obtain ⟨fA, fn, fc, e1⟩ := slice_form Try.underlying23 t1
  obtain ⟨gA, gn, gc, e2⟩ := slice_form Try.underlying24 t2
  obtain ⟨tb, e3, _⟩ := DataW.trod_bool Try.underlying4 t3
  obtain ⟨me, e4, _⟩ := DataW.trod_bool Try.underlying4 t4
  simp at e0 e1 e2 e3 e4
  subst e0 e1 e2 e3 e4
  obtain ⟨ts, q1, _, q3, q4, q5⟩ := open_rows (fun _ => True) ftC (m0 := 2) Try.underlying22 (by kernel_rfl) (by decide) (fun _ => rfl) (fun vs n y hl hy => by
    obtain ⟨a, ha⟩ := open_ft hl hy
    exact ⟨a, trivial, ha⟩) t0
  obtain ⟨gs, r1, r2, r3, _⟩ := open_rows (fun x : Nat × Bool => x.1 < 256) glC (m0 := 2) Try.underlying24 (by kernel_rfl) (by decide) (fun _ => rfl) (fun vs n y hl hy => open_gt hl hy) t2
  obtain ⟨fs, s1, s2, s3⟩ := nats_of Try.underlying23 Try.underlying48 (by kernel_rfl) (fun z h => (Go.bounds_u32 h).1) t1
  subst q1 r1 s1
  exact ⟨tA, fA, gA, tc, fc, gc, ts, fs, gs, tb, me, rfl, q3, s2, r3, fun x hx => by have := (Go.bounds_u32 (s3 x hx)).2; omega, r2⟩
end
theorem nop_all (W : World) (tA fA gA LA IA : Option Addr) (tc fc gc lc c ln n : Nat) (ts : List (List UInt8 × List UInt8)) (fs : List Nat) (gs : List (Nat × Bool)) (tb me : Bool) (ps rs : ByteArray) (lo : List (Nat × Nat)) (l : List Ig)
    (h1 : Reads W (fun k => k < W.heap.size) 2 tA ts.length (ts.flatMap ftC)) (h2 : Reads W (fun k => k < W.heap.size) 1 fA fs.length (fs.map fun x : Nat => Value.int .u32 (x : Int))) (h3 : Reads W (fun k => k < W.heap.size) 2 gA gs.length (gs.flatMap glC))
    (h4 : ∀ x ∈ fs, x < 4294967296) (h5 : ∀ x ∈ gs, x.1 < 256) (hln : lo.length = ln) (hn : l.length = n) (hl : Reads W (fun k => k < W.heap.size) 2 LA ln (lo.flatMap loC)) (hb : ∀ g ∈ lo, g.1 < 4294967296 ∧ g.2 < 256) (hr : Reads W (fun k => k < W.heap.size) 4 IA n (igs l)) (hin : ∀ x ∈ l, IgRaw W (fun k => k < W.heap.size) x) :
    Calls Try.prog 3 #[.agg #[.slice tA ts.length tc, .slice fA fs.length fc, .slice gA gs.length gc, .bool tb, .bool me], .agg #[.string ps, .string rs], .agg #[.slice LA ln lc, .slice IA n c]] W fun e W' => e = .returned (.bool true) ∧ Below W.heap.size W W' := by
  subst hln
  have key := nop_walk W (fun k => k < W.heap.size) ⟨ts, fs, gs, tb, me, ps.data.toList ++ loT lo, rs.data.toList⟩ tA fA gA tc fc gc ps.data.toList LA IA lc n c lo l ⟨h1, h2, h3, fun _ h => h⟩ hn.symm hin hr hl hb h4 h5 rfl
  unfold envV at key
  simp only [str_data4] at key
  exact key.mono fun _ _ hh => ⟨hh.1, hh.2.below W.heap.size (fun _ _ hf => hf.elim) (Nat.le_refl _)⟩
end Go.Proofs.Ytpebdfgfikjkeaa
