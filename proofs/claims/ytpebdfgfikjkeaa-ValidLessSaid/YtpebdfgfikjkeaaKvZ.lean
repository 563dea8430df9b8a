/-
  A module that came in, opened.
-/
import Derived.Test.YtpebdfgfikjkeaaKwv
import Derived.Test.YtpebdfgfikjkeaaKwx
import Derived.SizedLaws
set_option linter.unusedVariables false
set_option linter.unusedSimpArgs false
namespace Go.Proofs.Ytpebdfgfikjkeaa
open Go.RowKit Go.ChangeShapes Go.WideShapes Go.Joins Go.ChangeAt Go.Deep
section
variable {H : Type} {enc : TypeId × Value → H} {P : Program} {w : World} {base : Nat} {spare : Nat → Bool} {held : Bool}
/-- One field of a struct, with its weight. -/
theorem field_reach {t : TypeId} {fs : Array Field} {fuel : Nat} {cs cs' : List Value} {x : DataW H × List MemPlace} {R : Nat} (ht : P.underlying t = some (.struct fs)) (h : DataW.trod enc P w base spare held fuel t cs = some x) (hw : ∀ n ∈ x.1.weights P t, n ≤ R)
    (i : Nat) (f : Field) (hf : fs[i]? = some f) (o k : Nat) (ho : (f.offset, P.cellsOf f.type) = (o, k)) (hc : (cs.drop o).take k = cs') : ∃ (y : DataW H × List MemPlace) (n : Nat), DataW.trod enc P w base spare held n f.type cs' = some y ∧ ∀ n ∈ y.1.weights P f.type, n ≤ R := by
  obtain ⟨xs, n, _, hxe, _, hlen, hx⟩ := DataW.trod_struct ht h
  have hi : i < xs.length := by rw [hlen]; exact (Array.getElem?_eq_some_iff.1 hf).1
  have h1 := hx i f hf
  simp only [Prod.mk.injEq] at ho
  rw [ho.1, ho.2, hc, List.getElem?_eq_getElem hi] at h1
  refine ⟨_, n, h1, fun m hm => hw m ?_⟩
  rw [hxe]
  simp only [DataW.weights, ht]
  refine DataW.weights_mem_each (j := i) (t := f.type) (d := xs[i].1) ?_ ?_ m hm
  · simp [hf]
  · simp [List.getElem?_eq_getElem hi]
theorem len_reach {t e : TypeId} {fuel : Nat} {a0 : Option Addr} {len cap : Nat} {x : DataW H × List MemPlace} {R : Nat} (ht : P.underlying t = some (.slice e)) (h : DataW.trod enc P w base spare held fuel t [.slice a0 len cap] = some x) (hw : ∀ n ∈ x.1.weights P t, n ≤ R) (hb : 1 ≤ P.bytesOf e) : len ≤ R := by
  rcases open_slice ht h with ⟨h0, _⟩ | ⟨a, len', cap', m, n, D, Pl, hcs, _, _, _, _, hx, _⟩
  · simp at h0
    omega
  · simp at hcs
    obtain ⟨_, rfl, rfl⟩ := hcs
    have h2 := hw ((((List.range len).map D).length + ((List.range (m - len)).map fun j => D (len + j)).length) * P.bytesOf e) (by
      rw [hx]
      simp only [DataW.weights, ht]
      exact List.mem_cons_self ..)
    rw [List.length_map, List.length_range] at h2
    exact Nat.le_trans (Nat.le_trans (Nat.le_add_right _ _) (Nat.le_mul_of_pos_right _ hb)) h2
end
instance : Inhabited Lm := ⟨⟨0, 0, false⟩⟩
instance : Inhabited Ex := ⟨⟨[], 0, 0⟩⟩
instance : Inhabited Gv := ⟨⟨0, false, default⟩⟩
instance : Inhabited Ev := ⟨⟨default, 0, 0, none, []⟩⟩
instance : Inhabited Cv := ⟨⟨[], [], none, none, 0, 0⟩⟩
instance : Inhabited Dv := ⟨⟨default, []⟩⟩
theorem list9 {α : Type} {cs : List α} (h : cs.length = 9) : ∃ v0 v1 v2 v3 v4 v5 v6 v7 v8, cs = [v0, v1, v2, v3, v4, v5, v6, v7, v8] := by
  match cs, h with
  | [v0, v1, v2, v3, v4, v5, v6, v7, v8], _ => exact ⟨v0, v1, v2, v3, v4, v5, v6, v7, v8, rfl⟩
theorem list1 {α : Type} {cs : List α} (h : cs.length = 1) : ∃ v0, cs = [v0] := by
  match cs, h with
  | [v0], _ => exact ⟨v0, rfl⟩
theorem list3 {α : Type} {cs : List α} (h : cs.length = 3) : ∃ v0 v1 v2, cs = [v0, v1, v2] := by
  match cs, h with
  | [v0, v1, v2], _ => exact ⟨v0, v1, v2, rfl⟩
theorem list5 {α : Type} {cs : List α} (h : cs.length = 5) : ∃ v0 v1 v2 v3 v4, cs = [v0, v1, v2, v3, v4] := by
  match cs, h with
  | [v0, v1, v2, v3, v4], _ => exact ⟨v0, v1, v2, v3, v4, rfl⟩
theorem list6 {α : Type} {cs : List α} (h : cs.length = 6) : ∃ v0 v1 v2 v3 v4 v5, cs = [v0, v1, v2, v3, v4, v5] := by
  match cs, h with
  | [v0, v1, v2, v3, v4, v5], _ => exact ⟨v0, v1, v2, v3, v4, v5, rfl⟩
theorem array17 {α : Type} {cs : Array α} (h : cs.size = 17) : ∃ c0 c1 c2 c3 c4 c5 c6 c7 c8 c9 c10 c11 c12 c13 c14 c15 c16, cs = #[c0, c1, c2, c3, c4, c5, c6, c7, c8, c9, c10, c11, c12, c13, c14, c15, c16]  := by
  obtain ⟨l⟩ := cs
  match l, h with
  | [c0, c1, c2, c3, c4, c5, c6, c7, c8, c9, c10, c11, c12, c13, c14, c15, c16], _ => exact ⟨c0, c1, c2, c3, c4, c5, c6, c7, c8, c9, c10, c11, c12, c13, c14, c15, c16, rfl⟩
section
variable {H : Type} {enc : TypeId × Value → H} {w : World} {base : Nat} {spare : Nat → Bool} {held : Bool}
theorem open_u32 {fuel : Nat} {vs : List Value} {x : DataW H × List MemPlace} (hl : vs.length = 1) (h : DataW.trod enc Try.prog w base spare held fuel 48 vs = some x) : ∃ y : Nat, y < 4294967296 ∧ vs = [.int .u32 (y : Int)] := by
  obtain ⟨v0, rfl⟩ := list1 hl
  obtain ⟨i0, e0, _, w0⟩ := DataW.trod_int Try.underlying48 h
  simp at e0
  subst e0
  obtain ⟨a0, rfl, h0⟩ := nat32 w0
  exact ⟨a0, h0, rfl⟩
theorem open_u32s {fuel : Nat} {a0 : Option Addr} {len cap : Nat} {x : DataW H × List MemPlace} (h : DataW.trod enc Try.prog w base spare held fuel 23 [.slice a0 len cap] = some x) :
    ∃ l : List Nat, l.length = len ∧ (∀ x ∈ l, x < 4294967296) ∧ Reads w (fun k => k < w.heap.size) 1 a0 len (l.flatMap fun y : Nat => [Value.int .u32 (y : Int)]) ∧ len ≤ cap ∧ cap ≤ maxLen :=
  open_rows (fun x : Nat => x < 4294967296) (fun y : Nat => [Value.int .u32 (y : Int)]) (m0 := 1) Try.underlying23 (by kernel_rfl) (by decide) (fun _ => rfl) (fun vs n y hl hy => open_u32 hl hy) h
theorem open_st {fuel : Nat} {vs : List Value} {x : DataW H × List MemPlace} (hl : vs.length = 1) (h : DataW.trod enc Try.prog w base spare held fuel 9 vs = some x) : ∃ y : List UInt8, True ∧ vs = stC y := by
  obtain ⟨v0, rfl⟩ := list1 hl
  obtain ⟨s0, e0, _⟩ := DataW.trod_string Try.underlying9 h
  simp at e0
  subst e0
  exact ⟨s0.data.toList, trivial, by rw [stC, str_data4]⟩
theorem open_lm {fuel : Nat} {vs : List Value} {x : DataW H × List MemPlace} (hl : vs.length = 3) (h : DataW.trod enc Try.prog w base spare held fuel 60 vs = some x) : ∃ y : Lm, True ∧ vs = y.cells := by
  obtain ⟨v0, v1, v2, rfl⟩ := list3 hl
  obtain ⟨y0, n0, t0⟩ := field_of (cs' := [v0]) Try.underlying60 h 0 _ rfl 0 1 (by kernel_rfl) rfl
  obtain ⟨y1, n1, t1⟩ := field_of (cs' := [v1]) Try.underlying60 h 1 _ rfl 1 1 (by kernel_rfl) rfl
  obtain ⟨y2, n2, t2⟩ := field_of (cs' := [v2]) Try.underlying60 h 2 _ rfl 2 1 (by kernel_rfl) rfl
  obtain ⟨i0, e0, _, w0⟩ := DataW.trod_int Try.underlying48 t0
  obtain ⟨i1, e1, _, w1⟩ := DataW.trod_int Try.underlying48 t1
  obtain ⟨i2, e2, _⟩ := DataW.trod_bool Try.underlying4 t2
  simp at e0 e1 e2
  subst e0 e1 e2
  obtain ⟨a0, rfl, _⟩ := nat32 w0
  obtain ⟨a1, rfl, _⟩ := nat32 w1
  exact ⟨⟨a0, a1, i2⟩, trivial, rfl⟩
set_option maxRecDepth 100000 in
theorem open_im {fuel : Nat} {vs : List Value} {x : DataW H × List MemPlace} (hl : vs.length = 9) (h : DataW.trod enc Try.prog w base spare held fuel 64 vs = some x) : ∃ a : Im, (a.g < 256 ∧ a.t < 4294967296) ∧ vs = a.cells := by
  obtain ⟨v0, v1, v2, v3, v4, v5, v6, v7, v8, rfl⟩ := list9 hl
  obtain ⟨y0, n0, t0⟩ := field_of (cs' := [v0]) Try.underlying64 h 0 _ rfl 0 1 (by kernel_rfl) rfl
  obtain ⟨y1, n1, t1⟩ := field_of (cs' := [v1]) Try.underlying64 h 1 _ rfl 1 1 (by kernel_rfl) rfl
  obtain ⟨y2, n2, t2⟩ := field_of (cs' := [v2]) Try.underlying64 h 2 _ rfl 2 1 (by kernel_rfl) rfl
  obtain ⟨y3, n3, t3⟩ := field_of (cs' := [v3]) Try.underlying64 h 3 _ rfl 3 1 (by kernel_rfl) rfl
  obtain ⟨y4, n4, t4⟩ := field_of (cs' := [v4, v5, v6]) Try.underlying64 h 4 _ rfl 4 3 (by kernel_rfl) rfl
  obtain ⟨y5, n5, t5⟩ := field_of (cs' := [v7, v8]) Try.underlying64 h 5 _ rfl 7 2 (by kernel_rfl) rfl
  obtain ⟨y, _, e⟩ := open_lm rfl t4
  obtain ⟨g, hg, eg⟩ := open_gt rfl t5
  obtain ⟨s0, e0, _⟩ := DataW.trod_string Try.underlying9 t0
  obtain ⟨s1, e1, _⟩ := DataW.trod_string Try.underlying9 t1
  obtain ⟨i2, e2, _, w2⟩ := DataW.trod_int Try.underlying5 t2
  obtain ⟨i3, e3, _, w3⟩ := DataW.trod_int Try.underlying48 t3
  simp [Lm.cells] at e
  simp [glC] at eg
  simp at e0 e1 e2 e3
  obtain ⟨rfl, rfl, rfl⟩ := e
  obtain ⟨rfl, rfl⟩ := eg
  subst e0 e1 e2 e3
  obtain ⟨a2, rfl, _⟩ := nat8 w2
  obtain ⟨a3, rfl, h3⟩ := nat32 w3
  exact ⟨⟨s0.data.toList, s1.data.toList, a2, a3, y.lo, y.hi, y.bd, g.1, g.2⟩, ⟨hg, h3⟩, by rw [Im.cells, str_data4, str_data4]⟩
theorem open_ex {fuel : Nat} {vs : List Value} {x : DataW H × List MemPlace} (hl : vs.length = 3) (h : DataW.trod enc Try.prog w base spare held fuel 66 vs = some x) : ∃ a : Ex, (a.k < 256 ∧ a.ix < 4294967296) ∧ vs = a.cells := by
  obtain ⟨v0, v1, v2, rfl⟩ := list3 hl
  obtain ⟨y0, n0, t0⟩ := field_of (cs' := [v0]) Try.underlying66 h 0 _ rfl 0 1 (by kernel_rfl) rfl
  obtain ⟨y1, n1, t1⟩ := field_of (cs' := [v1]) Try.underlying66 h 1 _ rfl 1 1 (by kernel_rfl) rfl
  obtain ⟨y2, n2, t2⟩ := field_of (cs' := [v2]) Try.underlying66 h 2 _ rfl 2 1 (by kernel_rfl) rfl
  obtain ⟨s0, e0, _⟩ := DataW.trod_string Try.underlying9 t0
  obtain ⟨i1, e1, _, w1⟩ := DataW.trod_int Try.underlying5 t1
  obtain ⟨i2, e2, _, w2⟩ := DataW.trod_int Try.underlying48 t2
  simp at e0 e1 e2
  subst e0 e1 e2
  obtain ⟨a1, rfl, h1⟩ := nat8 w1
  obtain ⟨a2, rfl, h2⟩ := nat32 w2
  exact ⟨⟨s0.data.toList, a1, a2⟩, ⟨h1, h2⟩, by rw [Ex.cells, str_data4]⟩
theorem ig_cells {x : Ig} {v0 v1 v2 v3 : Value} (h : [v0, v1, v2, v3] = x.cells) : v0 = .int .u8 (x.op : Int) ∧ v1 = .int .u64 (x.a : Int) ∧ v2 = .int .u64 (x.b : Int) ∧ v3 = .slice x.A x.n x.c := by
  have e : x.cells = [.int .u8 (x.op : Int), .int .u64 (x.a : Int), .int .u64 (x.b : Int), .slice x.A x.n x.c] := rfl
  rw [e] at h
  simpa using h
set_option maxRecDepth 100000 in
theorem open_gv {fuel : Nat} {vs : List Value} {x : DataW H × List MemPlace} (hl : vs.length = 6) (h : DataW.trod enc Try.prog w base spare held fuel 83 vs = some x) : ∃ a : Gv, (a.g < 256 ∧ IgRaw w (fun k => k < w.heap.size) a.x) ∧ vs = a.cells := by
  obtain ⟨v0, v1, v2, v3, v4, v5, rfl⟩ := list6 hl
  obtain ⟨y0, n0, t0⟩ := field_of (cs' := [v0, v1]) Try.underlying83 h 0 _ rfl 0 2 (by kernel_rfl) rfl
  obtain ⟨y1, n1, t1⟩ := field_of (cs' := [v2, v3, v4, v5]) Try.underlying83 h 1 _ rfl 2 4 (by kernel_rfl) rfl
  obtain ⟨g, hg, eg⟩ := open_gt rfl t0
  obtain ⟨x, hx, ex⟩ := open_ig rfl t1
  obtain ⟨rfl, rfl, rfl, rfl⟩ := ig_cells ex
  simp [glC] at eg
  obtain ⟨rfl, rfl⟩ := eg
  exact ⟨⟨g.1, g.2, x⟩, ⟨hg, hx⟩, rfl⟩
set_option maxRecDepth 100000 in
theorem open_ev {fuel : Nat} {vs : List Value} {x : DataW H × List MemPlace} (hl : vs.length = 5) (h : DataW.trod enc Try.prog w base spare held fuel 79 vs = some x) : ∃ v : Ev, (IgRaw w (fun k => k < w.heap.size) v.x ∧ v.n = v.L.length ∧ (∀ y ∈ v.L, y < 4294967296) ∧ Reads w (fun k => k < w.heap.size) 1 v.A v.n (v.L.flatMap fun y : Nat => [Value.int .u32 (y : Int)])) ∧ vs = v.cells := by
  obtain ⟨v0, v1, v2, v3, v4, rfl⟩ := list5 hl
  obtain ⟨y0, n0, t0⟩ := field_of (cs' := [v0, v1, v2, v3]) Try.underlying79 h 0 _ rfl 0 4 (by kernel_rfl) rfl
  obtain ⟨y1, n1, t1⟩ := field_of (cs' := [v4]) Try.underlying79 h 1 _ rfl 4 1 (by kernel_rfl) rfl
  obtain ⟨x, hx, ex⟩ := open_ig rfl t0
  obtain ⟨A, n, c, e1⟩ := slice_form Try.underlying23 t1
  simp at e1
  subst e1
  obtain ⟨L, h1, h2, h3, _⟩ := open_u32s t1
  obtain ⟨rfl, rfl, rfl, rfl⟩ := ig_cells ex
  exact ⟨⟨x, n, c, A, L⟩, ⟨hx, h1.symm, h2, h3⟩, rfl⟩
set_option maxRecDepth 100000 in
theorem open_dv {fuel : Nat} {vs : List Value} {x : DataW H × List MemPlace} (hl : vs.length = 5) (h : DataW.trod enc Try.prog w base spare held fuel 81 vs = some x) : ∃ v : Dv, IgRaw w (fun k => k < w.heap.size) v.x ∧ vs = v.cells := by
  obtain ⟨v0, v1, v2, v3, v4, rfl⟩ := list5 hl
  obtain ⟨y0, n0, t0⟩ := field_of (cs' := [v0, v1, v2, v3]) Try.underlying81 h 0 _ rfl 0 4 (by kernel_rfl) rfl
  obtain ⟨y1, n1, t1⟩ := field_of (cs' := [v4]) Try.underlying81 h 1 _ rfl 4 1 (by kernel_rfl) rfl
  obtain ⟨x, hx, ex⟩ := open_ig rfl t0
  obtain ⟨s0, e0, _⟩ := DataW.trod_string Try.underlying9 t1
  simp at e0
  subst e0
  obtain ⟨rfl, rfl, rfl, rfl⟩ := ig_cells ex
  exact ⟨⟨x, s0.data.toList⟩, hx, by rw [Dv.cells, str_data4]⟩
set_option maxRecDepth 100000 in
theorem open_cv {fuel : Nat} {vs : List Value} {x : DataW H × List MemPlace} (hl : vs.length = 2) (h : DataW.trod enc Try.prog w base spare held fuel 32 vs = some x) : ∃ c : Cv, CvIn w (fun k => k < w.heap.size) c ∧ vs = c.cells := by
  obtain ⟨v0, v1, rfl⟩ := list2 hl
  obtain ⟨y0, n0, t0⟩ := field_of (cs' := [v0]) Try.underlying32 h 0 _ rfl 0 1 (by kernel_rfl) rfl
  obtain ⟨y1, n1, t1⟩ := field_of (cs' := [v1]) Try.underlying32 h 1 _ rfl 1 1 (by kernel_rfl) rfl
  obtain ⟨A, n, c, e0⟩ := slice_form Try.underlying29 t0
  obtain ⟨B, m, d, e1⟩ := slice_form Try.underlying30 t1
  simp at e0 e1
  subst e0 e1
  obtain ⟨lo, q1, q2, q3, _⟩ := open_rows (fun g : Nat × Nat => g.1 < 4294967296 ∧ g.2 < 256) loC (m0 := 2) Try.underlying29 (by kernel_rfl) (by decide) (fun _ => rfl) (fun vs n y hl hy => open_lo hl hy) t0
  obtain ⟨l, r1, r2, r3, _⟩ := open_rows (fun x : Ig => IgRaw w (fun k => k < w.heap.size) x) Ig.cells (m0 := 4) Try.underlying30 (by kernel_rfl) (by decide) Ig.four (fun vs n y hl hy => open_ig hl hy) t1
  subst q1 r1
  exact ⟨⟨lo, l, A, B, c, d⟩, ⟨q3, r3, q2, r2⟩, rfl⟩
set_option maxRecDepth 100000 in
set_option maxHeartbeats 1600000 in
theorem open_md {r : Reach} {b0 : Nat} {v : Value} {d : DataW H} {p : List MemPlace} (hv : Value.okWide Try.prog w r b0 53 v) (h : DataW.Trod enc Try.prog w base spare held 53 v d p) (hw : ∀ n ∈ d.weights Try.prog 53, n ≤ reachBytes) :
    ∃ (a : Md) (M : Mv), v = .agg #[.slice a.A0 M.types.length a.c0, .slice a.A1 M.imports.length a.c1, .slice a.A2 M.funcs.length a.c2, .slice a.A3 M.tables.length a.c3, .slice a.A4 M.mems.length a.c4, .slice a.A5 M.globals.length a.c5, .slice a.A6 M.exports.length a.c6, .int .i64 M.start, .slice a.A8 M.elems.length a.c8, .slice a.A9 M.codes.length a.c9, .slice a.A10 M.datas.length a.c10, .bool M.has, .int .u32 (M.d1 : Int), .int .u32 (M.d2 : Int), .int .u32 (M.d3 : Int), .int .u32 (M.d4 : Int), .slice a.A16 M.nd.length a.c16] ∧ ModIn w (fun k => k < w.heap.size) a M ∧ (M.types.length ≤ reachBytes ∧ M.imports.length ≤ reachBytes ∧ M.funcs.length ≤ reachBytes ∧ M.tables.length ≤ reachBytes ∧ M.mems.length ≤ reachBytes ∧ M.globals.length ≤ reachBytes ∧ M.exports.length ≤ reachBytes ∧ M.elems.length ≤ reachBytes ∧ M.codes.length ≤ reachBytes ∧ M.datas.length ≤ reachBytes) := by
  obtain ⟨cs, rfl, hsz⟩ := okWide_struct Try.underlying53 hv
  obtain ⟨c0, c1, c2, c3, c4, c5, c6, c7, c8, c9, c10, c11, c12, c13, c14, c15, c16, rfl⟩ := array17 (hsz.trans (by kernel_rfl))
  obtain ⟨fuel, hf⟩ := h
  obtain ⟨y0, n0, t0, w0⟩ := field_reach (cs' := [c0]) Try.underlying53 hf hw 0 _ rfl 0 1 (by kernel_rfl) rfl
  obtain ⟨y1, n1, t1, w1⟩ := field_reach (cs' := [c1]) Try.underlying53 hf hw 1 _ rfl 1 1 (by kernel_rfl) rfl
  obtain ⟨y2, n2, t2, w2⟩ := field_reach (cs' := [c2]) Try.underlying53 hf hw 2 _ rfl 2 1 (by kernel_rfl) rfl
  obtain ⟨y3, n3, t3, w3⟩ := field_reach (cs' := [c3]) Try.underlying53 hf hw 3 _ rfl 3 1 (by kernel_rfl) rfl
  obtain ⟨y4, n4, t4, w4⟩ := field_reach (cs' := [c4]) Try.underlying53 hf hw 4 _ rfl 4 1 (by kernel_rfl) rfl
  obtain ⟨y5, n5, t5, w5⟩ := field_reach (cs' := [c5]) Try.underlying53 hf hw 5 _ rfl 5 1 (by kernel_rfl) rfl
  obtain ⟨y6, n6, t6, w6⟩ := field_reach (cs' := [c6]) Try.underlying53 hf hw 6 _ rfl 6 1 (by kernel_rfl) rfl
  obtain ⟨y8, n8, t8, w8⟩ := field_reach (cs' := [c8]) Try.underlying53 hf hw 8 _ rfl 8 1 (by kernel_rfl) rfl
  obtain ⟨y9, n9, t9, w9⟩ := field_reach (cs' := [c9]) Try.underlying53 hf hw 9 _ rfl 9 1 (by kernel_rfl) rfl
  obtain ⟨y10, n10, t10, w10⟩ := field_reach (cs' := [c10]) Try.underlying53 hf hw 10 _ rfl 10 1 (by kernel_rfl) rfl
  obtain ⟨y7, n7, t7⟩ := field_of (cs' := [c7]) Try.underlying53 hf 7 _ rfl 7 1 (by kernel_rfl) rfl
  obtain ⟨yd, nd, td⟩ := field_of (cs' := [c11, c12, c13, c14, c15, c16]) Try.underlying53 hf 11 _ rfl 11 6 (by kernel_rfl) rfl
  obtain ⟨z0, m0, u0⟩ := field_of (cs' := [c11]) Try.underlying51 td 0 _ rfl 0 1 (by kernel_rfl) rfl
  obtain ⟨z1, m1, u1⟩ := field_of (cs' := [c12]) Try.underlying51 td 1 _ rfl 1 1 (by kernel_rfl) rfl
  obtain ⟨z2, m2, u2⟩ := field_of (cs' := [c13]) Try.underlying51 td 2 _ rfl 2 1 (by kernel_rfl) rfl
  obtain ⟨z3, m3, u3⟩ := field_of (cs' := [c14]) Try.underlying51 td 3 _ rfl 3 1 (by kernel_rfl) rfl
  obtain ⟨z4, m4, u4⟩ := field_of (cs' := [c15]) Try.underlying51 td 4 _ rfl 4 1 (by kernel_rfl) rfl
  obtain ⟨z5, m5, u5⟩ := field_of (cs' := [c16]) Try.underlying51 td 5 _ rfl 5 1 (by kernel_rfl) rfl
  obtain ⟨A0, l0, k0, e0⟩ := slice_form Try.underlying22 t0
  obtain ⟨A1, l1, k1, e1⟩ := slice_form Try.underlying41 t1
  obtain ⟨A2, l2, k2, e2⟩ := slice_form Try.underlying23 t2
  obtain ⟨A3, l3, k3, e3⟩ := slice_form Try.underlying42 t3
  obtain ⟨A4, l4, k4, e4⟩ := slice_form Try.underlying42 t4
  obtain ⟨A5, l5, k5, e5⟩ := slice_form Try.underlying43 t5
  obtain ⟨A6, l6, k6, e6⟩ := slice_form Try.underlying44 t6
  obtain ⟨A8, l8, k8, e8⟩ := slice_form Try.underlying45 t8
  obtain ⟨A9, l9, k9, e9⟩ := slice_form Try.underlying46 t9
  obtain ⟨A10, l10, k10, e10⟩ := slice_form Try.underlying47 t10
  obtain ⟨i7, e7, _, _⟩ := DataW.trod_int Try.underlying3 t7
  obtain ⟨b11, e11, _⟩ := DataW.trod_bool Try.underlying4 u0
  obtain ⟨i12, e12, _, w12⟩ := DataW.trod_int Try.underlying48 u1
  obtain ⟨i13, e13, _, w13⟩ := DataW.trod_int Try.underlying48 u2
  obtain ⟨i14, e14, _, w14⟩ := DataW.trod_int Try.underlying48 u3
  obtain ⟨i15, e15, _, w15⟩ := DataW.trod_int Try.underlying48 u4
  obtain ⟨A16, l16, k16, e16⟩ := slice_form Try.underlying49 u5
  simp at e0 e1 e2 e3 e4 e5 e6 e7 e8 e9 e10 e11 e12 e13 e14 e15 e16
  subst e0 e1 e2 e3 e4 e5 e6 e7 e8 e9 e10 e11 e12 e13 e14 e15 e16
  obtain ⟨d1, rfl, _⟩ := nat32 w12
  obtain ⟨d2, rfl, _⟩ := nat32 w13
  obtain ⟨d3, rfl, _⟩ := nat32 w14
  obtain ⟨d4, rfl, _⟩ := nat32 w15
  obtain ⟨r0, p0, q0, s0, _, _⟩ := open_rows (fun _ : List UInt8 × List UInt8 => True) ftC (m0 := 2) Try.underlying22 (by kernel_rfl) (by decide) (fun _ => rfl) (fun vs n y hl hy => by
    obtain ⟨a, ha⟩ := open_ft hl hy
    exact ⟨a, trivial, ha⟩) t0
  obtain ⟨r1, p1, q1, s1, _, _⟩ := open_rows (fun a : Im => a.g < 256 ∧ a.t < 4294967296) Im.cells (m0 := 9) Try.underlying41 (by kernel_rfl) (by decide) Im.nine (fun vs n y hl hy => open_im hl hy) t1
  obtain ⟨r2, p2, q2, s2, _, _⟩ := open_u32s t2
  obtain ⟨r3, p3, q3, s3, _, _⟩ := open_rows (fun _ : Lm => True) Lm.cells (m0 := 3) Try.underlying42 (by kernel_rfl) (by decide) Lm.three (fun vs n y hl hy => open_lm hl hy) t3
  obtain ⟨r4, p4, q4, s4, _, _⟩ := open_rows (fun _ : Lm => True) Lm.cells (m0 := 3) Try.underlying42 (by kernel_rfl) (by decide) Lm.three (fun vs n y hl hy => open_lm hl hy) t4
  obtain ⟨r5, p5, q5, s5, _, _⟩ := open_rows (fun a : Gv => a.g < 256 ∧ IgRaw w (fun k => k < w.heap.size) a.x) Gv.cells (m0 := 6) Try.underlying43 (by kernel_rfl) (by decide) Gv.six (fun vs n y hl hy => open_gv hl hy) t5
  obtain ⟨r6, p6, q6, s6, _, _⟩ := open_rows (fun a : Ex => a.k < 256 ∧ a.ix < 4294967296) Ex.cells (m0 := 3) Try.underlying44 (by kernel_rfl) (by decide) Ex.three (fun vs n y hl hy => open_ex hl hy) t6
  obtain ⟨r8, p8, q8, s8, _, _⟩ := open_rows (fun v : Ev => IgRaw w (fun k => k < w.heap.size) v.x ∧ v.n = v.L.length ∧ (∀ y ∈ v.L, y < 4294967296) ∧ Reads w (fun k => k < w.heap.size) 1 v.A v.n (v.L.flatMap fun y : Nat => [Value.int .u32 (y : Int)])) Ev.cells (m0 := 5) Try.underlying45 (by kernel_rfl) (by decide) Ev.five (fun vs n y hl hy => open_ev hl hy) t8
  obtain ⟨r9, p9, q9, s9, _, _⟩ := open_rows (fun c : Cv => CvIn w (fun k => k < w.heap.size) c) Cv.cells (m0 := 2) Try.underlying46 (by kernel_rfl) (by decide) Cv.two (fun vs n y hl hy => open_cv hl hy) t9
  obtain ⟨r10, p10, q10, s10, _, _⟩ := open_rows (fun v : Dv => IgRaw w (fun k => k < w.heap.size) v.x) Dv.cells (m0 := 5) Try.underlying47 (by kernel_rfl) (by decide) Dv.five (fun vs n y hl hy => open_dv hl hy) t10
  obtain ⟨r16, p16, q16, s16, cp16, _⟩ := open_rows (fun _ : List UInt8 => True) stC (m0 := 1) Try.underlying49 (by kernel_rfl) (by decide) (fun _ => rfl) (fun vs n y hl hy => open_st hl hy) u5
  have lr0 := len_reach Try.underlying22 t0 w0 (of_decide_eq_true (by kernel_rfl))
  have lr1 := len_reach Try.underlying41 t1 w1 (of_decide_eq_true (by kernel_rfl))
  have lr2 := len_reach Try.underlying23 t2 w2 (of_decide_eq_true (by kernel_rfl))
  have lr3 := len_reach Try.underlying42 t3 w3 (of_decide_eq_true (by kernel_rfl))
  have lr4 := len_reach Try.underlying42 t4 w4 (of_decide_eq_true (by kernel_rfl))
  have lr5 := len_reach Try.underlying43 t5 w5 (of_decide_eq_true (by kernel_rfl))
  have lr6 := len_reach Try.underlying44 t6 w6 (of_decide_eq_true (by kernel_rfl))
  have lr8 := len_reach Try.underlying45 t8 w8 (of_decide_eq_true (by kernel_rfl))
  have lr9 := len_reach Try.underlying46 t9 w9 (of_decide_eq_true (by kernel_rfl))
  have lr10 := len_reach Try.underlying47 t10 w10 (of_decide_eq_true (by kernel_rfl))
  subst p0 p1 p2 p3 p4 p5 p6 p8 p9 p10 p16
  rw [flat_one] at s2
  exact ⟨⟨A0, A1, A2, A3, A4, A5, A6, A8, A9, A10, A16, k0, k1, k2, k3, k4, k5, k6, k8, k9, k10, k16⟩, ⟨r0, r1, r2, r3, r4, r5, r6, i7, r8, r9, r10, b11, d1, d2, d3, d4, r16⟩, rfl,
    ⟨s0, s1, s2, s3, s4, s5, s6, s8, s9, s10, s16, cp16, q1, q2, q5, q6, q8, q9, q10, fun _ h => h⟩, lr0, lr1, lr2, lr3, lr4, lr5, lr6, lr8, lr9, lr10⟩
end
end Go.Proofs.Ytpebdfgfikjkeaa
