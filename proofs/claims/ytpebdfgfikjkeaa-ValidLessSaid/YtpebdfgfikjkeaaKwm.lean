/-
  Kwm: KvM, KvN, KvO, KvP, KvQ, KvR, KvS.
-/
import Derived.Test.YtpebdfgfikjkeaaKwk
import Derived.Test.YtpebdfgfikjkeaaKkl
import Derived.Test.YtpebdfgfikjkeaaMxt
set_option linter.unusedVariables false
set_option linter.unusedSimpArgs false
/-! valid: a module as a record, in memory; the closures of valid.Module over a module alone. -/
namespace Go.Proofs.Ytpebdfgfikjkeaa
open Go.RowKit

/-- An element segment, a body, a data segment. -/
structure Ev where
  x : Ig
  n : Nat
  c : Nat
  A : Option Addr
  L : List Nat
def Ev.cells (v : Ev) : List Value := [.int .u8 (v.x.op : Int), .int .u64 (v.x.a : Int), .int .u64 (v.x.b : Int), .slice v.x.A v.x.n v.x.c, .slice v.A v.n v.c]
theorem Ev.five (v : Ev) : v.cells.length = 5 := rfl
structure Cv where
  lo : List (Nat × Nat)
  l : List Ig
  LA : Option Addr
  IA : Option Addr
  lc : Nat
  ic : Nat
def Cv.cells (v : Cv) : List Value := [.slice v.LA v.lo.length v.lc, .slice v.IA v.l.length v.ic]
theorem Cv.two (v : Cv) : v.cells.length = 2 := rfl
structure Dv where
  x : Ig
  b : List UInt8
def Dv.cells (v : Dv) : List Value := [.int .u8 (v.x.op : Int), .int .u64 (v.x.a : Int), .int .u64 (v.x.b : Int), .slice v.x.A v.x.n v.x.c, .string (str v.b)]
theorem Dv.five (v : Dv) : v.cells.length = 5 := rfl
theorem Lm.three (l : Lm) : l.cells.length = 3 := rfl
/-- A module. -/
structure Mv where
  types : List (List UInt8 × List UInt8)
  imports : List Im
  funcs : List Nat
  tables : List Lm
  mems : List Lm
  globals : List Gv
  exports : List Ex
  start : Int
  elems : List Ev
  codes : List Cv
  datas : List Dv
  has : Bool
  d1 : Nat
  d2 : Nat
  d3 : Nat
  d4 : Nat
  nd : List (List UInt8)
structure Md where
  A0 : Option Addr
  A1 : Option Addr
  A2 : Option Addr
  A3 : Option Addr
  A4 : Option Addr
  A5 : Option Addr
  A6 : Option Addr
  A8 : Option Addr
  A9 : Option Addr
  A10 : Option Addr
  A16 : Option Addr
  c0 : Nat
  c1 : Nat
  c2 : Nat
  c3 : Nat
  c4 : Nat
  c5 : Nat
  c6 : Nat
  c8 : Nat
  c9 : Nat
  c10 : Nat
  c16 : Nat
def modC (a : Md) (M : Mv) : Array Value := #[.slice a.A0 M.types.length a.c0, .slice a.A1 M.imports.length a.c1, .slice a.A2 M.funcs.length a.c2, .slice a.A3 M.tables.length a.c3, .slice a.A4 M.mems.length a.c4, .slice a.A5 M.globals.length a.c5, .slice a.A6 M.exports.length a.c6, .int .i64 M.start, .slice a.A8 M.elems.length a.c8, .slice a.A9 M.codes.length a.c9, .slice a.A10 M.datas.length a.c10, .bool M.has, .int .u32 (M.d1 : Int), .int .u32 (M.d2 : Int), .int .u32 (M.d3 : Int), .int .u32 (M.d4 : Int), .slice a.A16 M.nd.length a.c16]
theorem modC_size (a : Md) (M : Mv) : (modC a M).size = 17 := rfl
structure CvIn (w : World) (R : Nat → Prop) (c : Cv) : Prop where
  lo : Reads w R 2 c.LA c.lo.length (c.lo.flatMap loC)
  l : Reads w R 4 c.IA c.l.length (igs c.l)
  lob : ∀ g ∈ c.lo, g.1 < 4294967296 ∧ g.2 < 256
  ig : ∀ x ∈ c.l, IgRaw w R x
structure ModIn (w : World) (R : Nat → Prop) (a : Md) (M : Mv) : Prop where
  types : Reads w R 2 a.A0 M.types.length (M.types.flatMap ftC)
  imports : Reads w R 9 a.A1 M.imports.length (ims M.imports)
  funcs : Reads w R 1 a.A2 M.funcs.length (u32s M.funcs)
  tables : Reads w R 3 a.A3 M.tables.length (M.tables.flatMap Lm.cells)
  mems : Reads w R 3 a.A4 M.mems.length (M.mems.flatMap Lm.cells)
  globals : Reads w R 6 a.A5 M.globals.length (M.globals.flatMap Gv.cells)
  exports : Reads w R 3 a.A6 M.exports.length (exs M.exports)
  elems : Reads w R 5 a.A8 M.elems.length (M.elems.flatMap Ev.cells)
  codes : Reads w R 2 a.A9 M.codes.length (M.codes.flatMap Cv.cells)
  datas : Reads w R 5 a.A10 M.datas.length (M.datas.flatMap Dv.cells)
  nd : Reads w R 1 a.A16 M.nd.length (M.nd.flatMap stC)
  ndc : M.nd.length ≤ a.c16
  imb : ∀ x ∈ M.imports, x.g < 256 ∧ x.t < 4294967296
  fub : ∀ x ∈ M.funcs, x < 4294967296
  glb : ∀ v ∈ M.globals, v.g < 256 ∧ IgRaw w R v.x
  exb : ∀ x ∈ M.exports, x.k < 256 ∧ x.ix < 4294967296
  elb : ∀ v ∈ M.elems, IgRaw w R v.x ∧ v.n = v.L.length ∧ (∀ y ∈ v.L, y < 4294967296) ∧ Reads w R 1 v.A v.n (v.L.flatMap fun y : Nat => [Value.int .u32 (y : Int)])
  cob : ∀ c ∈ M.codes, CvIn w R c
  dab : ∀ v ∈ M.datas, IgRaw w R v.x
  rin : ∀ k, R k → k < w.heap.size
/-- What Small asks of a module. -/
structure Mv.small (M : Mv) : Prop where
  types : M.types.length ≤ 42
  imports : M.imports.length ≤ 42
  funcs : M.funcs.length ≤ 42
  tables : M.tables.length ≤ 42
  mems : M.mems.length ≤ 42
  globals : M.globals.length ≤ 42
  exports : M.exports.length ≤ 42
  elems : M.elems.length ≤ 42
  codes : M.codes.length ≤ 42
  datas : M.datas.length ≤ 42
  nd : M.nd.length ≤ 20
  ft : ∀ t ∈ M.types, t.1.length ≤ 100
  ex : ∀ x ∈ M.exports, x.n.length ≤ 300
  co : ∀ c ∈ M.codes, c.l.length ≤ 100 ∧ c.lo.length ≤ 20 ∧ ∀ x ∈ c.l, x.n ≤ 50
  el : ∀ v ∈ M.elems, v.n ≤ 50
section
variable {w w' : World} {R R' F : Nat → Prop} {a : Md} {M : Mv} {x : Ig}
theorem IgRaw.step (h : IgRaw w R x) (hs : Step F w w') (hd : ∀ k, R k → ¬ F k) : IgRaw w' R x := ⟨h.op, h.a, h.n, h.lt, h.rd.step hs hd⟩
theorem IgRaw.wide (h : IgRaw w R x) (hR : ∀ k, R k → R' k) : IgRaw w R' x := ⟨h.op, h.a, h.n, h.lt, h.rd.mono fun k _ hk => hR k hk⟩
theorem CvIn.step {c : Cv} (h : CvIn w R c) (hs : Step F w w') (hd : ∀ k, R k → ¬ F k) : CvIn w' R c := ⟨h.lo.step hs hd, h.l.step hs hd, h.lob, fun x hx => (h.ig x hx).step hs hd⟩
theorem CvIn.wide {c : Cv} (h : CvIn w R c) (hR : ∀ k, R k → R' k) : CvIn w R' c := ⟨h.lo.mono fun k _ hk => hR k hk, h.l.mono fun k _ hk => hR k hk, h.lob, fun x hx => (h.ig x hx).wide hR⟩
theorem ModIn.step (h : ModIn w R a M) (hs : Step F w w') (hd : ∀ k, R k → ¬ F k) : ModIn w' R a M :=
  ⟨h.types.step hs hd, h.imports.step hs hd, h.funcs.step hs hd, h.tables.step hs hd, h.mems.step hs hd, h.globals.step hs hd, h.exports.step hs hd, h.elems.step hs hd, h.codes.step hs hd, h.datas.step hs hd, h.nd.step hs hd, h.ndc, h.imb, h.fub, fun v hv => ⟨(h.glb v hv).1, (h.glb v hv).2.step hs hd⟩, h.exb,
    fun v hv => ⟨(h.elb v hv).1.step hs hd, (h.elb v hv).2.1, (h.elb v hv).2.2.1, (h.elb v hv).2.2.2.step hs hd⟩, fun c hc => (h.cob c hc).step hs hd, fun v hv => (h.dab v hv).step hs hd, fun k hk => Nat.lt_of_lt_of_le (h.rin k hk) hs.size⟩
theorem ModIn.wide (h : ModIn w R a M) (hR : ∀ k, R k → R' k) (hin : ∀ k, R' k → k < w.heap.size) : ModIn w R' a M :=
  ⟨h.types.mono fun k _ hk => hR k hk, h.imports.mono fun k _ hk => hR k hk, h.funcs.mono fun k _ hk => hR k hk, h.tables.mono fun k _ hk => hR k hk, h.mems.mono fun k _ hk => hR k hk, h.globals.mono fun k _ hk => hR k hk, h.exports.mono fun k _ hk => hR k hk, h.elems.mono fun k _ hk => hR k hk, h.codes.mono fun k _ hk => hR k hk, h.datas.mono fun k _ hk => hR k hk, h.nd.mono fun k _ hk => hR k hk, h.ndc, h.imb, h.fub,
    fun v hv => ⟨(h.glb v hv).1, (h.glb v hv).2.wide hR⟩, h.exb, fun v hv => ⟨(h.elb v hv).1.wide hR, (h.elb v hv).2.1, (h.elb v hv).2.2.1, (h.elb v hv).2.2.2.mono fun k _ hk => hR k hk⟩, fun c hc => (h.cob c hc).wide hR, fun v hv => (h.dab v hv).wide hR, hin⟩
end

section
variable {w : World} {R : Nat → Prop} {a : Md} {M : Mv} {X : Nat}
set_option maxRecDepth 100000 in
theorem m_1 (i : Nat) (hB : Blk w X 53 (modC a M)) (hM : ModIn w R a M) (hi : i < M.types.length) :
    Calls Try.prog 24 #[.int .i64 (i : Int), .pointer (some ⟨X, 0, none⟩)] w fun e w' => e = .returned (.int .i64 (ftE M.types[i] : Nat)) ∧ Step (fun _ => False) w w' := by
  have x0 := (hB.cell 0).trans (show _ = some (Value.slice a.A0 M.types.length a.c0) from rfl)
  obtain ⟨bk, off, hA, _, hbl, hc⟩ := reads_row ftC 2 (by decide) (fun _ => rfl) hM.types hi
  rw [hA] at x0
  have g1 : (i : Int) < (M.types.length : Int) := by omega
  have g0 : (0 : Int) ≤ (i : Int) := by omega
  generalize M.types[i] = t at hc ⊢
  obtain ⟨p, q⟩ := t
  have c0 := hc 0 _ rfl
  have c1 := hc 1 _ rfl
  simp only [Nat.add_zero] at c0
  simp only at c0 c1
  have HT := Lib.hid (t_func w p q)
  clear hc hA hM hB
  go_enter Try.func24, Try.ntmps24
  go_wp2_with fail
  refine HT.out.mono ?_
  rintro e w1 ⟨rfl, t1⟩
  go_wp2_with fail
  go_ret
  exact ⟨rfl, t1⟩
set_option maxRecDepth 100000 in
theorem m_2 (i : Nat) (hB : Blk w X 53 (modC a M)) (hM : ModIn w R a M) (hi : i < M.funcs.length) (ht : M.types.length ≤ 100000) :
    Calls Try.prog 27 #[.int .i64 (i : Int), .pointer (some ⟨X, 0, none⟩)] w fun e w' => e = .returned (.int .i64 (ixE M.funcs[i] M.types.length 7)) ∧ Step (fun _ => False) w w' := by
  have x0 := (hB.cell 0).trans (show _ = some (Value.slice a.A0 M.types.length a.c0) from rfl)
  have x2 := (hB.cell 2).trans (show _ = some (Value.slice a.A2 M.funcs.length a.c2) from rfl)
  have hf := hM.funcs
  rw [u32s, ← flat_one] at hf
  obtain ⟨bk, off, hA, _, hbl, hc⟩ := reads_row (fun y : Nat => [Value.int .u32 (y : Int)]) 1 (by decide) (fun _ => rfl) hf hi
  replace hc := hc 0 _ rfl
  rw [Nat.mul_one, Nat.add_zero] at hc
  rw [hA] at x2
  have g1 : (i : Int) < (M.funcs.length : Int) := by omega
  have g0 : (0 : Int) ≤ (i : Int) := by omega
  have hb := hM.fub M.funcs[i] (List.getElem_mem hi)
  generalize M.funcs[i] = y at hc hb ⊢
  have HT := Lib.hid (fun W => v_index W y M.types.length 7 hb ht)
  have d0 := cls_cell (F := fun _ => False) x0 id
  have d2 := cls_cell (F := fun _ => False) x2 id
  have d3 := cls_cell (F := fun _ => False) hc id
  clear hA hM hB hf
  go_enter Try.func27, Try.ntmps27
  go_wp2_with fail
  refine Mix.wp_region_mix [8] [8] (Step (fun _ => False) w) (by kernel_rfl) (by kernel_rfl) (Step.refl.drew) (fun hcls => ?_)
  refine Mix.wpL_reads 8 (by rfl) ?_
  simp only [List.take_succ_cons, List.drop_succ_cons, List.take_zero, List.drop_zero]
  repeat (go_big_quiet_step (fail))
  refine wpQuiet_nil ?_
  refine Mix.wpL_op (by rfl) (fun K hK => ?_)
  go_simp
  refine (HT.out _).mono ?_
  rintro e w1 ⟨rfl, rfl⟩
  refine hK _ _ (fun hlt => Mix.cl (Step.refl.drew)) ?_
  clear hK K
  refine Mix.wpL_reads 1 (by rfl) ?_
  simp only [List.take_succ_cons, List.drop_succ_cons, List.take_zero, List.drop_zero]
  repeat (go_big_quiet_step (fail))
  refine wpQuiet_nil ?_
  refine Mix.wpL_end ?_
  go_wp2
  go_ret
  exact ⟨rfl, Step.refl.drew⟩
set_option maxRecDepth 100000 in
theorem m_3 (i : Nat) (hB : Blk w X 53 (modC a M)) (hM : ModIn w R a M) (hi : i < M.tables.length) :
    Calls Try.prog 29 #[.int .i64 (i : Int), .pointer (some ⟨X, 0, none⟩)] w fun e w' => e = .returned (.int .i64 (lmE M.tables[i] 1048576 : Nat)) ∧ Step (fun _ => False) w w' := by
  have x0 := (hB.cell 3).trans (show _ = some (Value.slice a.A3 M.tables.length a.c3) from rfl)
  obtain ⟨bk, off, hA, _, hbl, hc⟩ := reads_row Lm.cells 3 (by decide) Lm.three hM.tables hi
  rw [hA] at x0
  have g1 : (i : Int) < (M.tables.length : Int) := by omega
  have g0 : (0 : Int) ≤ (i : Int) := by omega
  generalize M.tables[i] = t at hc ⊢
  obtain ⟨p, q, b⟩ := t
  have c0 := hc 0 _ rfl
  have c1 := hc 1 _ rfl
  have c2 := hc 2 _ rfl
  simp only [Nat.add_zero] at c0
  simp only at c0 c1 c2
  have HT := Lib.hid (t_limits w p q 1048576 b)
  clear hc hA hM hB
  go_enter Try.func29, Try.ntmps29
  go_wp2_with fail
  refine HT.out.mono ?_
  rintro e w1 ⟨rfl, t1⟩
  go_wp2_with fail
  go_ret
  exact ⟨rfl, t1⟩
set_option maxRecDepth 100000 in
theorem m_4 (i : Nat) (hB : Blk w X 53 (modC a M)) (hM : ModIn w R a M) (hi : i < M.mems.length) :
    Calls Try.prog 32 #[.int .i64 (i : Int), .pointer (some ⟨X, 0, none⟩)] w fun e w' => e = .returned (.int .i64 (lmE M.mems[i] 65536 : Nat)) ∧ Step (fun _ => False) w w' := by
  have x0 := (hB.cell 4).trans (show _ = some (Value.slice a.A4 M.mems.length a.c4) from rfl)
  obtain ⟨bk, off, hA, _, hbl, hc⟩ := reads_row Lm.cells 3 (by decide) Lm.three hM.mems hi
  rw [hA] at x0
  have g1 : (i : Int) < (M.mems.length : Int) := by omega
  have g0 : (0 : Int) ≤ (i : Int) := by omega
  generalize M.mems[i] = t at hc ⊢
  obtain ⟨p, q, b⟩ := t
  have c0 := hc 0 _ rfl
  have c1 := hc 1 _ rfl
  have c2 := hc 2 _ rfl
  simp only [Nat.add_zero] at c0
  simp only at c0 c1 c2
  have HT := Lib.hid (t_limits w p q 65536 b)
  clear hc hA hM hB
  go_enter Try.func32, Try.ntmps32
  go_wp2_with fail
  refine HT.out.mono ?_
  rintro e w1 ⟨rfl, t1⟩
  go_wp2_with fail
  go_ret
  exact ⟨rfl, t1⟩
end
end Go.Proofs.Ytpebdfgfikjkeaa
/-! valid.looker in memory; constant, data, global, elem, imported. -/
namespace Go.Proofs.Ytpebdfgfikjkeaa
open Go.RowKit

/-- What a looker has: where it lies, the functions' types' numbers, the globals' types, those taken. -/
structure La where
  K : Nat
  a : Md
  F : List Nat
  G : List (Nat × Bool)
  T : List (Nat × Bool)
  tb : Bool
  me : Bool
  fA : Option Addr
  gA : Option Addr
  kA : Option Addr
  fc : Nat
  gc : Nat
  kc : Nat
def lkC (k : La) (M : Mv) : Array Value := #[.slice k.a.A0 M.types.length k.a.c0, .slice k.a.A1 M.imports.length k.a.c1, .slice k.a.A2 M.funcs.length k.a.c2, .slice k.a.A3 M.tables.length k.a.c3, .slice k.a.A4 M.mems.length k.a.c4, .slice k.a.A5 M.globals.length k.a.c5, .slice k.a.A6 M.exports.length k.a.c6, .int .i64 M.start, .slice k.a.A8 M.elems.length k.a.c8, .slice k.a.A9 M.codes.length k.a.c9, .slice k.a.A10 M.datas.length k.a.c10, .bool M.has, .int .u32 (M.d1 : Int), .int .u32 (M.d2 : Int), .int .u32 (M.d3 : Int), .int .u32 (M.d4 : Int), .slice k.a.A16 M.nd.length k.a.c16,
  .slice k.a.A0 M.types.length k.a.c0, .slice k.fA k.F.length k.fc, .slice k.gA k.G.length k.gc, .bool k.tb, .bool k.me, .slice k.kA k.T.length k.kc]
structure LkIn (w : World) (R : Nat → Prop) (k : La) (M : Mv) : Prop where
  blk : Blk w k.K 87 (lkC k M)
  md : ModIn w R k.a M
  fr : Reads w R 1 k.fA k.F.length (u32s k.F)
  gr : Reads w R 2 k.gA k.G.length (gls k.G)
  kr : Reads w R 2 k.kA k.T.length (gls k.T)
  fl : k.F.length ≤ 200
  gl : k.G.length ≤ 200
  tl : k.T.length ≤ 200
  fb : ∀ x ∈ k.F, x < 4294967296
  gb : ∀ x ∈ k.G, x.1 < 256
theorem LkIn.step {w w' : World} {R : Nat → Prop} {k : La} {M : Mv} (h : LkIn w R k M) (hs : Step (fun _ => False) w w') : LkIn w' R k M :=
  ⟨h.blk.step hs id, h.md.step hs (fun _ _ => id), h.fr.step hs (fun _ _ => id), h.gr.step hs (fun _ _ => id), h.kr.step hs (fun _ _ => id), h.fl, h.gl, h.tl, h.fb, h.gb⟩

section
variable {w : World} {R : Nat → Prop} {k : La} {M : Mv}
/-- looker.constant. -/
def conE (T : List (Nat × Bool)) (op a b n t : Nat) : Int := if (ctE T op a b n).2 = 0 then (if (ctE T op a b n).1 = t then 0 else 21) else ((ctE T op a b n).2 : Nat)
set_option maxRecDepth 100000 in
set_option maxHeartbeats 800000 in
theorem l_constant (op a b n c t : Nat) (A : Option Addr) (hL : LkIn w R k M) (hop : op < 256) (ha : a < 18446744073709551616) :
    Calls Try.prog 58 #[.pointer (some ⟨k.K, 0, none⟩), .agg #[.int .u8 (op : Int), .int .u64 (a : Int), .int .u64 (b : Int), .slice A n c], .int .u8 (t : Int)] w fun e w' => e = .returned (.int .i64 (conE k.T op a b n t)) ∧ Step (fun _ => False) w w' := by
  have s0 : Step (fun _ => False) w (w.alloc (.cells #[.int .u8 (op : Int), .int .u64 (a : Int), .int .u64 (b : Int), .slice A n c] 40)) := Step.refl.alloc _
  have b0 := Blk.new w 40 #[.int .u8 (op : Int), .int .u64 (a : Int), .int .u64 (b : Int), .slice A n c]
  have h0 := hL.step s0
  have m0 := (b0.cell 0).trans (show _ = some (Value.int .u8 (op : Int)) from rfl)
  have m1 := (b0.cell 1).trans (show _ = some (Value.int .u64 (a : Int)) from rfl)
  have m2 := (b0.cell 2).trans (show _ = some (Value.int .u64 (b : Int)) from rfl)
  have m3 := (b0.cell 3).trans (show _ = some (Value.slice A n c) from rfl)
  have x22 := (h0.blk.cell 22).trans (show _ = some (Value.slice k.kA k.T.length k.kc) from rfl)
  have htl := hL.tl
  have HC := Lib.hid (fun W (hW : LkIn W R k M) => c_type W op a b n c k.kc A k.kA k.T R hop ha (by omega) hW.kr)
  have HG : Hid (conE k.T op a b n t = (if (ctE k.T op a b n).2 = 0 then (if (ctE k.T op a b n).1 = t then 0 else 21) else (((ctE k.T op a b n).2 : Nat) : Int) : Int)) := rfl
  generalize ctE k.T op a b n = q at HC HG
  obtain ⟨ty, er⟩ := q
  have H0 := Lib.hid h0
  have S0 := Lib.hid s0
  have d0 := cls_cell (F := fun _ => False) m0 id
  have d1 := cls_cell (F := fun _ => False) m1 id
  have d2 := cls_cell (F := fun _ => False) m2 id
  have d3 := cls_cell (F := fun _ => False) m3 id
  have d4 := cls_cell (F := fun _ => False) x22 id
  clear s0 b0 h0 m0 m1 m2 m3 x22 hL
  go_enter Try.func58, Try.ntmps58
  go_wp2_with fail
  generalize w.heap.size = N at *
  generalize w.alloc (.cells #[.int .u8 (op : Int), .int .u64 (a : Int), .int .u64 (b : Int), .slice A n c] 40) = W at *
  refine Mix.wp_region_mix [5] [5] (Step (fun _ => False) W) (by kernel_rfl) (by kernel_rfl) (Step.refl.drew) (fun hcls => ?_)
  refine Mix.wpL_reads 5 (by rfl) ?_
  simp only [List.take_succ_cons, List.drop_succ_cons, List.take_zero, List.drop_zero]
  repeat (go_big_quiet_step (fail))
  refine wpQuiet_nil ?_
  refine Mix.wpL_op (by rfl) (fun K hK => ?_)
  go_simp
  refine (HC.out _ (H0.out.step Step.refl.drew)).mono ?_
  rintro e w1 ⟨rfl, t1⟩
  refine hK _ _ (fun hlt => Mix.cl (Step.refl.drew.trans t1)) ?_
  clear hK K
  refine Mix.wpL_reads 5 (by rfl) ?_
  simp only [List.take_succ_cons, List.drop_succ_cons, List.take_zero, List.drop_zero]
  repeat (go_big_quiet_step (fail))
  refine wpQuiet_nil ?_
  refine Mix.wpL_end ?_
  have S1 := Lib.hid (S0.out.trans (Step.refl.drew.trans t1))
  clear t1 d0 d1 d2 d3 d4
  by_cases he : er = 0
  · subst he
    by_cases ht : ty = t
    · have e2 : ((ty : Int) != (t : Int)) = false := by rw [ht]; simp
      have HG2 : Hid (conE k.T op a b n t = 0) := by rw [Hid, HG.out]; simp [ht]
      clear ht
      go_wp2_with fail
      go_ret
      exact ⟨by rw [HG2.out]; rfl, S1.out⟩
    · have e2 : ((ty : Int) != (t : Int)) = true := by simp; omega
      have HG2 : Hid (conE k.T op a b n t = 21) := by rw [Hid, HG.out]; simp [ht]
      clear ht
      go_wp2_with fail
      go_ret
      exact ⟨by rw [HG2.out]; rfl, S1.out⟩
  · have e1 : ((er : Int) != 0) = true := by simp; omega
    have HG2 : Hid (conE k.T op a b n t = (er : Nat)) := by rw [Hid, HG.out]; simp [he]
    clear he
    go_wp2_with fail
    go_ret
    exact ⟨by rw [HG2.out]; rfl, S1.out⟩

/-- looker.data. -/
def daE (k : La) (v : Dv) : Int := if k.me = true then conE k.T v.x.op v.x.a v.x.b v.x.n 127 else 20
set_option maxRecDepth 100000 in
set_option maxHeartbeats 800000 in
theorem l_data (i : Nat) (hL : LkIn w R k M) (hi : i < M.datas.length) (hd : M.datas.length ≤ 1000) :
    Calls Try.prog 39 #[.pointer (some ⟨k.K, 0, none⟩), .int .i64 (i : Int)] w fun e w' => e = .returned (.int .i64 (daE k M.datas[i])) ∧ Step (fun _ => False) w w' := by
  have x10 := (hL.blk.cell 10).trans (show _ = some (Value.slice k.a.A10 M.datas.length k.a.c10) from rfl)
  have x21 := (hL.blk.cell 21).trans (show _ = some (Value.bool k.me) from rfl)
  have HG : Hid (daE k M.datas[i] = if k.me = true then conE k.T M.datas[i].x.op M.datas[i].x.a M.datas[i].x.b M.datas[i].x.n 127 else 20) := rfl
  obtain ⟨bk, off, hA, _, hbl, hc⟩ := reads_row Dv.cells 5 (by decide) Dv.five hL.md.datas hi
  rw [hA] at x10
  have g1 : (i : Int) < (M.datas.length : Int) := by omega
  have g0 : (0 : Int) ≤ (i : Int) := by omega
  have hb := hL.md.dab M.datas[i] (List.getElem_mem hi)
  generalize M.datas[i] = v at hc hb HG ⊢
  obtain ⟨⟨op, xa, xb, xn, xc, XA, XL⟩, s⟩ := v
  have c0 := hc 0 _ rfl
  have c1 := hc 1 _ rfl
  have c2 := hc 2 _ rfl
  have c3 := hc 3 _ rfl
  simp only [Nat.add_zero] at c0
  simp only at c0 c1 c2 c3
  have HC := Lib.hid (l_constant op xa xb xn xc 127 XA hL hb.op hb.a)
  cases hm : k.me with
  | true =>
    rw [hm] at x21
    have HG2 : Hid (daE k ⟨⟨op, xa, xb, xn, xc, XA, XL⟩, s⟩ = conE k.T op xa xb xn 127) := by rw [Hid, HG.out, if_pos hm]
    clear hc hA hL hb HG hm
    go_enter Try.func39, Try.ntmps39
    go_wp2_with fail
    refine HC.out.mono ?_
    rintro e w1 ⟨rfl, t1⟩
    go_wp2_with fail
    go_ret
    exact ⟨by rw [HG2.out]; rfl, t1⟩
  | false =>
    rw [hm] at x21
    have HG2 : Hid (daE k ⟨⟨op, xa, xb, xn, xc, XA, XL⟩, s⟩ = 20) := by rw [Hid, HG.out, if_neg (by rw [hm]; decide)]
    clear hc hA hL hb HG hm
    go_enter Try.func39, Try.ntmps39
    go_wp2_with fail
    go_ret
    exact ⟨by rw [HG2.out]; rfl, Step.refl⟩

/-- looker.global. -/
def goE (T : List (Nat × Bool)) (v : Gv) : Int := if glE v.g v.x.op v.x.a v.x.b v.x.n = 0 then conE T v.x.op v.x.a v.x.b v.x.n v.g else (glE v.g v.x.op v.x.a v.x.b v.x.n : Nat)
set_option maxRecDepth 100000 in
set_option maxHeartbeats 800000 in
theorem l_global (i : Nat) (hL : LkIn w R k M) (hi : i < M.globals.length) (hd : M.globals.length ≤ 1000) :
    Calls Try.prog 33 #[.pointer (some ⟨k.K, 0, none⟩), .int .i64 (i : Int)] w fun e w' => e = .returned (.int .i64 (goE k.T M.globals[i])) ∧ Step (fun _ => False) w w' := by
  have x5 := (hL.blk.cell 5).trans (show _ = some (Value.slice k.a.A5 M.globals.length k.a.c5) from rfl)
  have HG : Hid (goE k.T M.globals[i] = if glE M.globals[i].g M.globals[i].x.op M.globals[i].x.a M.globals[i].x.b M.globals[i].x.n = 0 then conE k.T M.globals[i].x.op M.globals[i].x.a M.globals[i].x.b M.globals[i].x.n M.globals[i].g else (glE M.globals[i].g M.globals[i].x.op M.globals[i].x.a M.globals[i].x.b M.globals[i].x.n : Nat)) := rfl
  obtain ⟨bk, off, hA, _, hbl, hc⟩ := reads_row Gv.cells 6 (by decide) Gv.six hL.md.globals hi
  rw [hA] at x5
  have g1 : (i : Int) < (M.globals.length : Int) := by omega
  have g0 : (0 : Int) ≤ (i : Int) := by omega
  have hb := hL.md.glb M.globals[i] (List.getElem_mem hi)
  generalize M.globals[i] = v at hc hb HG ⊢
  obtain ⟨g, gm, op, xa, xb, xn, xc, XA, XL⟩ := v
  have c0 := hc 0 _ rfl
  have c1 := hc 1 _ rfl
  have c2 := hc 2 _ rfl
  have c3 := hc 3 _ rfl
  have c4 := hc 4 _ rfl
  have c5 := hc 5 _ rfl
  simp only [Nat.add_zero] at c0
  simp only at c0 c1 c2 c3 c4 c5 HG
  have sA : Step (fun _ => False) w (w.alloc (.cells #[.int .u8 (g : Int), .bool gm, .int .u8 (op : Int), .int .u64 (xa : Int), .int .u64 (xb : Int), .slice XA xn xc] 83)) := Step.refl.alloc _
  have B0 := Lib.hid (Blk.new w 83 #[.int .u8 (g : Int), .bool gm, .int .u8 (op : Int), .int .u64 (xa : Int), .int .u64 (xb : Int), .slice XA xn xc])
  have HGR := Lib.hid (g_right (w.alloc (.cells #[.int .u8 (g : Int), .bool gm, .int .u8 (op : Int), .int .u64 (xa : Int), .int .u64 (xb : Int), .slice XA xn xc] 83)) g op xa xb xn xc gm XA hb.1 hb.2.op)
  have HC := Lib.hid (fun W (hW : LkIn W R k M) => l_constant op xa xb xn xc g XA hW hb.2.op hb.2.a)
  have SA := Lib.hid sA
  have HL := Lib.hid (hL.step sA)
  generalize glE g op xa xb xn = r at HG HGR
  by_cases hr : r = 0
  · subst hr
    rw [if_pos rfl] at HG
    clear hc hA hL hb sA
    go_enter Try.func33, Try.ntmps33
    go_wp2_with fail
    refine HGR.out.mono ?_
    rintro e w1 ⟨rfl, t1⟩
    have b1 := B0.out.step t1 id
    have m0 := (b1.cell 0).trans (show _ = some (Value.int .u8 (g : Int)) from rfl)
    have m2 := (b1.cell 2).trans (show _ = some (Value.int .u8 (op : Int)) from rfl)
    have m3 := (b1.cell 3).trans (show _ = some (Value.int .u64 (xa : Int)) from rfl)
    have m4 := (b1.cell 4).trans (show _ = some (Value.int .u64 (xb : Int)) from rfl)
    have m5 := (b1.cell 5).trans (show _ = some (Value.slice XA xn xc) from rfl)
    have HC1 := Lib.hid (HC.out w1 (HL.out.step t1))
    have S1 := Lib.hid (SA.out.trans t1)
    clear b1 t1
    go_wp2_with fail
    refine HC1.out.mono ?_
    rintro e w2 ⟨rfl, t2⟩
    go_wp2_with fail
    go_ret
    exact ⟨by rw [HG.out]; rfl, S1.out.trans t2⟩
  · rw [if_neg hr] at HG
    have e1 : ((r : Int) != 0) = true := by simp; omega
    clear hc hA hL hb sA hr
    go_enter Try.func33, Try.ntmps33
    go_wp2_with fail
    refine HGR.out.mono ?_
    rintro e w1 ⟨rfl, t1⟩
    go_wp2_with fail
    go_ret
    exact ⟨by rw [HG.out]; rfl, SA.out.trans t1⟩
end
end Go.Proofs.Ytpebdfgfikjkeaa
/-! valid.looker: imported, elem. -/
namespace Go.Proofs.Ytpebdfgfikjkeaa
open Go.RowKit

section
variable {w : World} {R : Nat → Prop} {k : La} {M : Mv}
/-- looker.imported. -/
def impE (nt : Nat) (x : Im) : Int := if imR x = 0 then (if x.k = 0 then ixE x.t nt 7 else if x.k = 1 then (lmE ⟨x.mi, x.ma, x.bo⟩ 1048576 : Nat) else if x.k = 2 then (lmE ⟨x.mi, x.ma, x.bo⟩ 65536 : Nat) else 0) else imR x
set_option maxRecDepth 100000 in
set_option maxHeartbeats 1600000 in
theorem l_imported (i : Nat) (hL : LkIn w R k M) (hi : i < M.imports.length) (hd : M.imports.length ≤ 1000) (hnt : M.types.length ≤ 1000) :
    Calls Try.prog 26 #[.pointer (some ⟨k.K, 0, none⟩), .int .i64 (i : Int)] w fun e w' => e = .returned (.int .i64 (impE M.types.length M.imports[i])) ∧ Step (fun _ => False) w w' := by
  have x1 := (hL.blk.cell 1).trans (show _ = some (Value.slice k.a.A1 M.imports.length k.a.c1) from rfl)
  obtain ⟨bk, off, hA, _, hbl, hc⟩ := reads_row Im.cells 9 (by decide) Im.nine hL.md.imports hi
  rw [hA] at x1
  have g1 : (i : Int) < (M.imports.length : Int) := by omega
  have g0 : (0 : Int) ≤ (i : Int) := by omega
  have hb := hL.md.imb M.imports[i] (List.getElem_mem hi)
  generalize M.imports[i] = v at hc hb ⊢
  obtain ⟨s0, s1, kk, t, mi, ma, bo, g, gm⟩ := v
  have c0 := hc 0 _ rfl
  have c1 := hc 1 _ rfl
  have c2 := hc 2 _ rfl
  have c3 := hc 3 _ rfl
  have c4 := hc 4 _ rfl
  have c5 := hc 5 _ rfl
  have c6 := hc 6 _ rfl
  have c7 := hc 7 _ rfl
  have c8 := hc 8 _ rfl
  simp only [Nat.add_zero] at c0
  simp only at c0 c1 c2 c3 c4 c5 c6 c7 c8 hb
  have HG : Hid (impE M.types.length ⟨s0, s1, kk, t, mi, ma, bo, g, gm⟩ = if imR ⟨s0, s1, kk, t, mi, ma, bo, g, gm⟩ = 0 then (if kk = 0 then ixE t M.types.length 7 else if kk = 1 then (lmE ⟨mi, ma, bo⟩ 1048576 : Nat) else if kk = 2 then (lmE ⟨mi, ma, bo⟩ 65536 : Nat) else 0) else imR ⟨s0, s1, kk, t, mi, ma, bo, g, gm⟩) := rfl
  have sA : Step (fun _ => False) w (w.alloc (.cells #[.string (str s0), .string (str s1), .int .u8 (kk : Int), .int .u32 (t : Int), .int .u32 (mi : Int), .int .u32 (ma : Int), .bool bo, .int .u8 (g : Int), .bool gm] 64)) := Step.refl.alloc _
  have B0 := Lib.hid (Blk.new w 64 #[.string (str s0), .string (str s1), .int .u8 (kk : Int), .int .u32 (t : Int), .int .u32 (mi : Int), .int .u32 (ma : Int), .bool bo, .int .u8 (g : Int), .bool gm])
  have HR := Lib.hid (i_right (w.alloc (.cells #[.string (str s0), .string (str s1), .int .u8 (kk : Int), .int .u32 (t : Int), .int .u32 (mi : Int), .int .u32 (ma : Int), .bool bo, .int .u8 (g : Int), .bool gm] 64)) s0 s1 kk t mi ma g bo gm hb.1)
  have SA := Lib.hid sA
  have HL := Lib.hid (hL.step sA)
  have HB := Lib.hid hb.2
  generalize imR ⟨s0, s1, kk, t, mi, ma, bo, g, gm⟩ = r at HG HR
  by_cases hr : r = 0
  case neg =>
    rw [if_neg hr] at HG
    have e1 : (r != 0) = true := by simpa using hr
    clear hc hA hL hb sA hr
    go_enter Try.func26, Try.ntmps26
    go_wp2_with fail
    refine HR.out.mono ?_
    rintro e w1 ⟨rfl, t1⟩
    go_wp2_with fail
    go_ret
    exact ⟨by rw [HG.out]; rfl, SA.out.trans t1⟩
  subst hr
  rw [if_pos rfl] at HG
  have HK : Hid ((kk = 0 ∧ impE M.types.length ⟨s0, s1, kk, t, mi, ma, bo, g, gm⟩ = ixE t M.types.length 7) ∨ (kk = 1 ∧ impE M.types.length ⟨s0, s1, kk, t, mi, ma, bo, g, gm⟩ = (lmE ⟨mi, ma, bo⟩ 1048576 : Nat)) ∨ (kk = 2 ∧ impE M.types.length ⟨s0, s1, kk, t, mi, ma, bo, g, gm⟩ = (lmE ⟨mi, ma, bo⟩ 65536 : Nat)) ∨
      ((¬ kk = 0 ∧ ¬ kk = 1 ∧ ¬ kk = 2) ∧ impE M.types.length ⟨s0, s1, kk, t, mi, ma, bo, g, gm⟩ = 0)) := by
    unfold Hid
    rw [HG.out]
    by_cases h0 : kk = 0
    · exact .inl ⟨h0, if_pos h0⟩
    rw [if_neg h0]
    by_cases h1 : kk = 1
    · exact .inr (.inl ⟨h1, if_pos h1⟩)
    rw [if_neg h1]
    by_cases h2 : kk = 2
    · exact .inr (.inr (.inl ⟨h2, if_pos h2⟩))
    rw [if_neg h2]
    exact .inr (.inr (.inr ⟨⟨h0, h1, h2⟩, rfl⟩))
  clear HG hc hA hL hb sA
  rcases HK.out with ⟨h, hg⟩ | ⟨h, hg⟩ | ⟨h, hg⟩ | ⟨⟨h, h', h''⟩, hg⟩
  · have o0 := int_eq h
    replace hg := Lib.hid hg
    replace h := Lib.hid h
    clear HK
    go_enter Try.func26, Try.ntmps26
    go_wp2_with fail
    refine HR.out.mono ?_
    rintro e w1 ⟨rfl, t1⟩
    have b1 := B0.out.step t1 id
    have m2 := (b1.cell 2).trans (show _ = some (Value.int .u8 (kk : Int)) from rfl)
    have m3 := (b1.cell 3).trans (show _ = some (Value.int .u32 (t : Int)) from rfl)
    have x0 := ((HL.out.step t1).blk.cell 0).trans (show _ = some (Value.slice k.a.A0 M.types.length k.a.c0) from rfl)
    have S1 := Lib.hid (SA.out.trans t1)
    have d0 := cls_cell (F := fun _ => False) m3 id
    have d1 := cls_cell (F := fun _ => False) x0 id
    clear b1 t1
    go_wp2_with fail
    refine Mix.wp_region_mix [8] [8] (Step (fun _ => False) w1) (by kernel_rfl) (by kernel_rfl) (Step.refl.drew) (fun hcls => ?_)
    refine Mix.wpL_reads 8 (by rfl) ?_
    simp only [List.take_succ_cons, List.drop_succ_cons, List.take_zero, List.drop_zero]
    repeat (go_big_quiet_step (fail))
    refine wpQuiet_nil ?_
    refine Mix.wpL_op (by rfl) (fun K hK => ?_)
    go_simp
    refine (v_index _ t M.types.length 7 HB.out (by omega)).mono ?_
    rintro e w2 ⟨rfl, rfl⟩
    refine hK _ _ (fun hlt => Mix.cl (Step.refl.drew)) ?_
    clear hK K
    refine Mix.wpL_reads 1 (by rfl) ?_
    simp only [List.take_succ_cons, List.drop_succ_cons, List.take_zero, List.drop_zero]
    repeat (go_big_quiet_step (fail))
    refine wpQuiet_nil ?_
    refine Mix.wpL_end ?_
    go_wp2
    go_ret
    exact ⟨by rw [hg.out]; rfl, S1.out.drew⟩
  · have o0 : ((kk : Int) == 0) = false := int_ne (k := 0) (by have := h; omega)
    have o1 := int_eq h
    replace hg := Lib.hid hg
    replace h := Lib.hid h
    clear HK
    go_enter Try.func26, Try.ntmps26
    go_wp2_with fail
    refine HR.out.mono ?_
    rintro e w1 ⟨rfl, t1⟩
    have b1 := B0.out.step t1 id
    have m2 := (b1.cell 2).trans (show _ = some (Value.int .u8 (kk : Int)) from rfl)
    have m4 := (b1.cell 4).trans (show _ = some (Value.int .u32 (mi : Int)) from rfl)
    have m5 := (b1.cell 5).trans (show _ = some (Value.int .u32 (ma : Int)) from rfl)
    have m6 := (b1.cell 6).trans (show _ = some (Value.bool bo) from rfl)
    have S1 := Lib.hid (SA.out.trans t1)
    clear b1 t1
    go_wp2_with fail
    refine (t_limits _ mi ma 1048576 bo).mono ?_
    rintro e w2 ⟨rfl, t2⟩
    go_wp2_with fail
    go_ret
    exact ⟨by rw [hg.out]; rfl, S1.out.trans t2⟩
  · have o0 : ((kk : Int) == 0) = false := int_ne (k := 0) (by have := h; omega)
    have o1 : ((kk : Int) == 1) = false := int_ne (k := 1) (by have := h; omega)
    have o2 := int_eq h
    replace hg := Lib.hid hg
    replace h := Lib.hid h
    clear HK
    go_enter Try.func26, Try.ntmps26
    go_wp2_with fail
    refine HR.out.mono ?_
    rintro e w1 ⟨rfl, t1⟩
    have b1 := B0.out.step t1 id
    have m2 := (b1.cell 2).trans (show _ = some (Value.int .u8 (kk : Int)) from rfl)
    have m4 := (b1.cell 4).trans (show _ = some (Value.int .u32 (mi : Int)) from rfl)
    have m5 := (b1.cell 5).trans (show _ = some (Value.int .u32 (ma : Int)) from rfl)
    have m6 := (b1.cell 6).trans (show _ = some (Value.bool bo) from rfl)
    have S1 := Lib.hid (SA.out.trans t1)
    clear b1 t1
    go_wp2_with fail
    refine (t_limits _ mi ma 65536 bo).mono ?_
    rintro e w2 ⟨rfl, t2⟩
    go_wp2_with fail
    go_ret
    exact ⟨by rw [hg.out]; rfl, S1.out.trans t2⟩
  · have o0 : ((kk : Int) == 0) = false := int_ne h
    have o1 : ((kk : Int) == 1) = false := int_ne h'
    have o2 : ((kk : Int) == 2) = false := int_ne h''
    replace hg := Lib.hid hg
    clear HK h h' h''
    go_enter Try.func26, Try.ntmps26
    go_wp2_with fail
    refine HR.out.mono ?_
    rintro e w1 ⟨rfl, t1⟩
    have b1 := B0.out.step t1 id
    have m2 := (b1.cell 2).trans (show _ = some (Value.int .u8 (kk : Int)) from rfl)
    have S1 := Lib.hid (SA.out.trans t1)
    clear b1 t1
    go_wp2_with fail
    go_ret
    exact ⟨by rw [hg.out]; rfl, S1.out⟩

/-- looker.elem. -/
def fnE (m : Nat) : List Nat → Int
  | [] => 0
  | y :: l => if y < m then fnE m l else 20
def evE (k : La) (v : Ev) : Int := if k.tb = true then (if conE k.T v.x.op v.x.a v.x.b v.x.n 127 = 0 then fnE k.F.length v.L else conE k.T v.x.op v.x.a v.x.b v.x.n 127) else 20
set_option maxRecDepth 100000 in
set_option maxHeartbeats 1600000 in
theorem l_elem (i : Nat) (hL : LkIn w R k M) (hi : i < M.elems.length) (hd : M.elems.length ≤ 1000) (hfn : ∀ v ∈ M.elems, v.n ≤ 50) :
    Calls Try.prog 38 #[.pointer (some ⟨k.K, 0, none⟩), .int .i64 (i : Int)] w fun e w' => e = .returned (.int .i64 (evE k M.elems[i])) ∧ Step (fun _ => False) w w' := by
  have x8 := (hL.blk.cell 8).trans (show _ = some (Value.slice k.a.A8 M.elems.length k.a.c8) from rfl)
  obtain ⟨bk, off, hA, _, hbl, hc⟩ := reads_row Ev.cells 5 (by decide) Ev.five hL.md.elems hi
  rw [hA] at x8
  have g1 : (i : Int) < (M.elems.length : Int) := by omega
  have g0 : (0 : Int) ≤ (i : Int) := by omega
  have hb := hL.md.elb M.elems[i] (List.getElem_mem hi)
  have hfn50 := hfn M.elems[i] (List.getElem_mem hi)
  generalize M.elems[i] = v at hc hb hfn50 ⊢
  obtain ⟨⟨op, xa, xb, xn, xc, XA, XL⟩, n, c, A, L⟩ := v
  have c0 := hc 0 _ rfl
  have c1 := hc 1 _ rfl
  have c2 := hc 2 _ rfl
  have c3 := hc 3 _ rfl
  have c4 := hc 4 _ rfl
  simp only [Nat.add_zero] at c0
  simp only at c0 c1 c2 c3 c4 hfn50
  obtain ⟨hx, hn, hLb, hrd⟩ := hb
  simp only at hx hn hLb hrd
  have HG : Hid (evE k ⟨⟨op, xa, xb, xn, xc, XA, XL⟩, n, c, A, L⟩ = if k.tb = true then (if conE k.T op xa xb xn 127 = 0 then fnE k.F.length L else conE k.T op xa xb xn 127) else 20) := rfl
  have sA : Step (fun _ => False) w (w.alloc (.cells #[.int .u8 (op : Int), .int .u64 (xa : Int), .int .u64 (xb : Int), .slice XA xn xc, .slice A n c] 79)) := Step.refl.alloc _
  have B0 := Lib.hid (Blk.new w 79 #[.int .u8 (op : Int), .int .u64 (xa : Int), .int .u64 (xb : Int), .slice XA xn xc, .slice A n c])
  have SA := Lib.hid sA
  have HL := Lib.hid (hL.step sA)
  have x20 := (HL.out.blk.cell 20).trans (show _ = some (Value.bool k.tb) from rfl)
  have HC := Lib.hid (l_constant op xa xb xn xc 127 XA HL.out hx.op hx.a)
  have HN := Lib.hid hn
  have HLB := Lib.hid hLb
  have HRD := Lib.hid (hrd.step sA (fun _ _ => id))
  have hkl := hL.blk.lt
  have hfl := hL.fl
  cases hm : k.tb with
  | false =>
    rw [hm] at x20
    have HG2 : Hid (evE k ⟨⟨op, xa, xb, xn, xc, XA, XL⟩, n, c, A, L⟩ = 20) := by rw [Hid, HG.out, if_neg (by rw [hm]; decide)]
    have nK : k.K ≠ w.heap.size := Nat.ne_of_lt hkl
    clear hc hA hL hx hn hLb hrd HG hm sA hfn
    go_enter Try.func38, Try.ntmps38
    go_wp2_with fail
    go_ret
    exact ⟨by rw [HG2.out]; rfl, SA.out⟩
  | true =>
    rw [hm] at x20
    have HG2 : Hid (evE k ⟨⟨op, xa, xb, xn, xc, XA, XL⟩, n, c, A, L⟩ = if conE k.T op xa xb xn 127 = 0 then fnE k.F.length L else conE k.T op xa xb xn 127) := by rw [Hid, HG.out, if_pos hm]
    generalize conE k.T op xa xb xn 127 = r at HC HG2
    clear hc hA hL hx hn hLb hrd HG hm sA hfn
    by_cases hr : r = 0
    · subst hr
      rw [if_pos rfl] at HG2
      go_enter Try.func38, Try.ntmps38
      go_wp2_with fail
      refine HC.out.mono ?_
      rintro e w1 ⟨rfl, t1⟩
      have b1 := B0.out.step t1 id
      have m4 := (b1.cell 4).trans (show _ = some (Value.slice A n c) from rfl)
      have S1 := Lib.hid (SA.out.trans t1)
      have HL1 := Lib.hid (HL.out.step t1)
      have HRD1 := Lib.hid (HRD.out.step t1 (fun _ _ => id))
      have x18 := (HL1.out.blk.cell 18).trans (show _ = some (Value.slice k.fA k.F.length k.fc) from rfl)
      clear b1 t1 c0 c1 c2 c3 c4 x8 x20
      go_wp2_with fail
      go_loopw [34] (fun jv wr => ∃ (j : Nat), j ≤ n ∧ jv = .int .i64 (j : Int) ∧ Hid (fnE k.F.length L = fnE k.F.length (L.drop j)) ∧ Hid (w1 = wr)) (fun jv _ => n + 1 - (intOf jv).toNat)
      case atStart => exact ⟨0, by omega, rfl, rfl, rfl⟩
      case round =>
        obtain ⟨j, hj, rfl, HI, HW⟩ := hrel
        have hw := HW.out
        subst hw
        by_cases hlt : j < n
        · have q1 : (j : Int) < (n : Int) := by omega
          have i0 : (0 : Int) ≤ (j : Int) := by omega
          have hw2 := IntWalk.i64_in ((j : Int) + 1) (by omega)
          have hjl : j < L.length := by rw [← HN.out]; exact hlt
          obtain ⟨b2, off2, hA2, _, hbl2, hc2⟩ := reads_row (fun y : Nat => [Value.int .u32 (y : Int)]) 1 (by decide) (fun _ => rfl) HRD1.out hjl
          subst hA2
          replace hc2 := hc2 0 _ rfl
          rw [Nat.mul_one, Nat.add_zero] at hc2
          have HD : Hid (L.drop j = L[j] :: L.drop (j + 1)) := List.drop_eq_getElem_cons _
          have hyb := HLB.out L[j] (List.getElem_mem hjl)
          generalize L[j] = y at hc2 HD hyb
          have HU : Hid (fnE k.F.length (y :: L.drop (j + 1)) = if y < k.F.length then fnE k.F.length (L.drop (j + 1)) else 20) := rfl
          have HV := Lib.hid (v_index w1 y k.F.length 20 hyb (by omega))
          by_cases hy : y < k.F.length
          · have HI2 : Hid (fnE k.F.length L = fnE k.F.length (L.drop (j + 1))) := by unfold Hid; rw [HI.out, HD.out, HU.out, if_pos hy]
            have hv : ixE y k.F.length 20 = 0 := if_pos hy
            rw [hv] at HV
            clear hy hv
            go_wp2_with fail
            refine HV.out.mono ?_
            rintro e w2 ⟨rfl, rfl⟩
            go_wp2_with fail
            go_roundw
            case rel => exact ⟨j + 1, by omega, by rw [Int.natCast_add]; rfl, HI2, by first | rfl | trivial⟩
            case measure => simp [intOf]; omega
          · have HI2 : Hid (fnE k.F.length L = 20) := by unfold Hid; rw [HI.out, HD.out, HU.out, if_neg hy]
            have hv : ixE y k.F.length 20 = 20 := if_neg hy
            rw [hv] at HV
            clear hy hv
            go_wp2_with fail
            refine HV.out.mono ?_
            rintro e w2 ⟨rfl, rfl⟩
            go_wp2_with fail
            go_ret
            exact ⟨by rw [HG2.out, HI2.out]; rfl, S1.out⟩
        · obtain rfl : j = n := by omega
          have HI2 : Hid (fnE k.F.length L = 0) := by unfold Hid; rw [HI.out, HN.out, List.drop_length]; rfl
          go_wp2_with fail
          go_ret
          exact ⟨by rw [HG2.out, HI2.out]; rfl, S1.out⟩
    · rw [if_neg hr] at HG2
      have e1 : (r != 0) = true := by simpa using hr
      clear hr
      go_enter Try.func38, Try.ntmps38
      go_wp2_with fail
      refine HC.out.mono ?_
      rintro e w1 ⟨rfl, t1⟩
      go_wp2_with fail
      go_ret
      exact ⟨by rw [HG2.out]; rfl, SA.out.trans t1⟩
end
end Go.Proofs.Ytpebdfgfikjkeaa
/-! valid.looker.export. -/
namespace Go.Proofs.Ytpebdfgfikjkeaa
open Go.RowKit

section
variable {w : World} {R : Nat → Prop} {k : La} {M : Mv}
def cntF (k : La) (kk : Nat) : Nat := if kk = 0 then k.F.length else if kk = 1 then (if k.tb = true then 1 else 0) else if kk = 2 then (if k.me = true then 1 else 0) else k.G.length
def exE (k : La) (x : Ex) : Int := if exR x = 0 then ixE x.ix (cntF k x.k) 20 else exR x
theorem exR_kind {x : Ex} (h : exR x = 0) : x.k ≤ 3 := by
  unfold exR at h
  split at h
  · split at h
    · simp at h
    · omega
  · rename_i h2
    exact absurd h h2
set_option maxRecDepth 100000 in
set_option maxHeartbeats 3200000 in
theorem l_export (i : Nat) (hL : LkIn w R k M) (hi : i < M.exports.length) (hd : M.exports.length ≤ 1000) :
    Calls Try.prog 34 #[.pointer (some ⟨k.K, 0, none⟩), .int .i64 (i : Int)] w fun e w' => e = .returned (.int .i64 (exE k M.exports[i])) ∧ Step (fun _ => False) w w' := by
  have x6 := (hL.blk.cell 6).trans (show _ = some (Value.slice k.a.A6 M.exports.length k.a.c6) from rfl)
  obtain ⟨bk, off, hA, _, hbl, hc⟩ := reads_row Ex.cells 3 (by decide) Ex.three hL.md.exports hi
  rw [hA] at x6
  have g1 : (i : Int) < (M.exports.length : Int) := by omega
  have g0 : (0 : Int) ≤ (i : Int) := by omega
  have hb := hL.md.exb M.exports[i] (List.getElem_mem hi)
  generalize M.exports[i] = v at hc hb ⊢
  obtain ⟨nm, kk, ix⟩ := v
  have c0 := hc 0 _ rfl
  have c1 := hc 1 _ rfl
  have c2 := hc 2 _ rfl
  simp only [Nat.add_zero] at c0
  simp only at c0 c1 c2 hb
  have HG : Hid (exE k ⟨nm, kk, ix⟩ = if exR ⟨nm, kk, ix⟩ = 0 then ixE ix (cntF k kk) 20 else exR ⟨nm, kk, ix⟩) := rfl
  have hkind := exR_kind (x := ⟨nm, kk, ix⟩)
  have sA : Step (fun _ => False) w (w.alloc (.cells #[.string (str nm), .int .u8 (kk : Int), .int .u32 (ix : Int)] 66)) := Step.refl.alloc _
  have B0 := Lib.hid (Blk.new w 66 #[.string (str nm), .int .u8 (kk : Int), .int .u32 (ix : Int)])
  have HR := Lib.hid (e_right (w.alloc (.cells #[.string (str nm), .int .u8 (kk : Int), .int .u32 (ix : Int)] 66)) nm kk ix)
  have SA := Lib.hid sA
  have HL := Lib.hid (hL.step sA)
  have HXB := Lib.hid hb.2
  have hfl := hL.fl
  have hgl := hL.gl
  generalize exR ⟨nm, kk, ix⟩ = r at HG HR hkind
  by_cases hr : r = 0
  case neg =>
    rw [if_neg hr] at HG
    have e1 : (r != 0) = true := by simpa using hr
    clear hc hA hL hb sA hr hkind
    go_enter Try.func34, Try.ntmps34
    go_wp2_with fail
    refine HR.out.mono ?_
    rintro e w1 ⟨rfl, t1⟩
    go_wp2_with fail
    go_ret
    exact ⟨by rw [HG.out]; rfl, SA.out.trans t1⟩
  subst hr
  rw [if_pos rfl] at HG
  have hk3 : kk ≤ 3 := hkind rfl
  have hcnt : cntF k kk ≤ 100000 := by
    unfold cntF
    split
    · omega
    · split
      · split <;> omega
      · split
        · split <;> omega
        · omega
  obtain ⟨n1, hn1⟩ : ∃ n1 : Nat, n1 = if k.tb = true then 1 else 0 := ⟨_, rfl⟩
  obtain ⟨n2, hn2⟩ : ∃ n2 : Nat, n2 = if k.me = true then 1 else 0 := ⟨_, rfl⟩
  have HV1 : Hid (∀ W, Calls Try.prog 60 #[.bool k.tb] W fun e w' => e = .returned (.int .i64 (n1 : Int)) ∧ W = w') := fun W => by
    have := v_count W k.tb
    rw [show (if k.tb = true then (1 : Int) else 0) = (n1 : Int) by rw [hn1]; split <;> rfl] at this
    exact this
  have HV2 : Hid (∀ W, Calls Try.prog 60 #[.bool k.me] W fun e w' => e = .returned (.int .i64 (n2 : Int)) ∧ W = w') := fun W => by
    have := v_count W k.me
    rw [show (if k.me = true then (1 : Int) else 0) = (n2 : Int) by rw [hn2]; split <;> rfl] at this
    exact this
  have HK : Hid ((#[.int .i64 (k.F.length : Int), .int .i64 (n1 : Int), .int .i64 (n2 : Int), .int .i64 (k.G.length : Int)] : Array Value)[kk]? = some (.int .i64 (cntF k kk : Int))) := by
    unfold Hid cntF
    rw [← hn1, ← hn2]
    have h4 : kk = 0 ∨ kk = 1 ∨ kk = 2 ∨ kk = 3 := by omega
    rcases h4 with rfl | rfl | rfl | rfl <;> rfl
  have q0 : (0 : Int) ≤ (kk : Int) := by omega
  have q4 : (kk : Int) < 4 := by omega
  clear hc hA hL hb sA hkind hn1 hn2
  go_enter Try.func34, Try.ntmps34
  go_wp2_with fail
  refine HR.out.mono ?_
  rintro e w1 ⟨rfl, t1⟩
  have b1 := B0.out.step t1 id
  have m1 := (b1.cell 1).trans (show _ = some (Value.int .u8 (kk : Int)) from rfl)
  have m2 := (b1.cell 2).trans (show _ = some (Value.int .u32 (ix : Int)) from rfl)
  have N1 := b1.lt
  have HL1 := Lib.hid (HL.out.step t1)
  have S1 := Lib.hid (SA.out.trans t1)
  have x18 := (HL1.out.blk.cell 18).trans (show _ = some (Value.slice k.fA k.F.length k.fc) from rfl)
  have x19 := (HL1.out.blk.cell 19).trans (show _ = some (Value.slice k.gA k.G.length k.gc) from rfl)
  have x20 := (HL1.out.blk.cell 20).trans (show _ = some (Value.bool k.tb) from rfl)
  have x21 := (HL1.out.blk.cell 21).trans (show _ = some (Value.bool k.me) from rfl)
  clear b1 t1 c0 c1 c2 x6
  generalize w.heap.size = N at *
  have z1 := cls_cell (F := fun _ => False) x18 id
  have z2 := cls_cell (F := fun _ => False) x19 id
  have z3 := cls_cell (F := fun _ => False) x20 id
  have z4 := cls_cell (F := fun _ => False) x21 id
  go_wp2_with fail
  refine Mxt.wp_region_tree [11, 17, 25, 26] [11, 17, 25] (.reads [0, 1, 2, 3, 4, 5, 6, 7, 8, 9, 10, 12, 13, 14, 15, 16, 18, 19, 20, 21, 22, 23] (.fork (.op 11 (.fork (.op 17 (.reads [24] (.op 25 (.op 26 .leaf)))) (.op 25 (.op 17 (.reads [24] (.op 26 .leaf)))))) (.op 25 (.op 11 (.op 17 (.reads [24] (.op 26 .leaf))))))) (Step (fun _ => False) w1) (by kernel_rfl) (by kernel_rfl) Step.refl.drew (fun hcls => ?_)
  refine Mxt.wpTL_reads ?_
  simp only [List.flatMap_cons, List.flatMap_nil, List.getElem?_cons_succ, List.getElem?_cons_zero, Option.toList_some, List.cons_append, List.nil_append]
  repeat (go_big_quiet_step (fail))
  refine wpQuiet_nil ?_
  refine Mxt.wpTL_fork ?_ ?_
  · refine Mxt.wpTL_op (by rfl) (fun K hK => ?_)
    go_simp
    refine HV1.out _ |>.mono ?_
    rintro e w6 ⟨rfl, rfl⟩
    refine hK _ _ (fun hlt => Mix.cl (Step.refl.drew)) ?_
    clear hK K
    refine Mxt.wpTL_fork ?_ ?_
    · refine Mxt.wpTL_op (by rfl) (fun K hK => ?_)
      go_simp
      refine HV2.out _ |>.mono ?_
      rintro e w7 ⟨rfl, rfl⟩
      refine hK _ _ (fun hlt => Mix.cl (Step.refl.drew)) ?_
      clear hK K
      refine Mxt.wpTL_reads ?_
      simp only [List.flatMap_cons, List.flatMap_nil, List.getElem?_cons_succ, List.getElem?_cons_zero, Option.toList_some, List.cons_append, List.nil_append]
      repeat (go_big_quiet_step (fail))
      refine wpQuiet_nil ?_
      refine Mxt.wpTL_op (by rfl) (fun K hK => ?_)
      go_simp
      refine hK _ _ (fun hlt => Mix.cl (Step.drew (Step.alloc Step.refl _))) ?_
      clear hK K
      refine Mxt.wpTL_op (by rfl) (fun K hK => ?_)
      go_simp
      refine hK _ _ (fun hlt => absurd hlt (by decide)) ?_
      clear hK K
      refine Mxt.wpTL_leaf ?_
      have hs2 : Step (fun _ => False) w1 ((w1.alloc (.cells #[.int .i64 (k.F.length : Int), .int .i64 (n1 : Int), .int .i64 (n2 : Int), .int .i64 (k.G.length : Int)] 128)).drew) := (Step.refl.alloc _).drew
      have bz := (Blk.new w1 128 #[.int .i64 (k.F.length : Int), .int .i64 (n1 : Int), .int .i64 (n2 : Int), .int .i64 (k.G.length : Int)]).drew
      have yk := (bz.cell kk).trans HK.out
      have S2 := Lib.hid (S1.out.trans hs2)
      replace m1 := (hs2.cell (p := ⟨N, 1, none⟩) N1 id).trans m1
      replace m2 := (hs2.cell (p := ⟨N, 2, none⟩) N1 id).trans m2
      clear hs2 bz HL1
      generalize w1.heap.size = Y at *
      generalize (w1.alloc (.cells #[.int .i64 (k.F.length : Int), .int .i64 (n1 : Int), .int .i64 (n2 : Int), .int .i64 (k.G.length : Int)] 128)).drew = U at *
      have d1 := cls_cell (F := fun _ => False) m1 id
      have d2 := cls_cell (F := fun _ => False) m2 id
      have d3 := cls_cell (F := fun _ => False) yk id
      go_wp2_with fail
      refine Mix.wp_region_mix [6] [6] (Step (fun _ => False) U) (by kernel_rfl) (by kernel_rfl) (Step.refl.drew) (fun hcls => ?_)
      refine Mix.wpL_reads 6 (by rfl) ?_
      simp only [List.take_succ_cons, List.drop_succ_cons, List.take_zero, List.drop_zero]
      repeat (go_big_quiet_step (fail))
      refine wpQuiet_nil ?_
      refine Mix.wpL_op (by rfl) (fun K hK => ?_)
      go_simp
      refine (v_index _ ix (cntF k kk) 20 HXB.out (by omega)).mono ?_
      rintro e w9 ⟨rfl, rfl⟩
      refine hK _ _ (fun hlt => Mix.cl (Step.refl.drew)) ?_
      clear hK K
      refine Mix.wpL_reads 1 (by rfl) ?_
      simp only [List.take_succ_cons, List.drop_succ_cons, List.take_zero, List.drop_zero]
      repeat (go_big_quiet_step (fail))
      refine wpQuiet_nil ?_
      refine Mix.wpL_end ?_
      go_wp2
      go_ret
      exact ⟨by rw [HG.out]; rfl, S2.out.drew⟩
    · refine Mxt.wpTL_op (by rfl) (fun K hK => ?_)
      go_simp
      refine hK _ _ (fun hlt => Mix.cl (Step.drew (Step.alloc Step.refl _))) ?_
      clear hK K
      refine Mxt.wpTL_op (by rfl) (fun K hK => ?_)
      go_simp
      refine HV2.out _ |>.mono ?_
      rintro e w7 ⟨rfl, rfl⟩
      refine hK _ _ (fun hlt => Mix.cl (Step.drew (Step.alloc Step.refl _))) ?_
      clear hK K
      refine Mxt.wpTL_reads ?_
      simp only [List.flatMap_cons, List.flatMap_nil, List.getElem?_cons_succ, List.getElem?_cons_zero, Option.toList_some, List.cons_append, List.nil_append]
      repeat (go_big_quiet_step (fail))
      refine wpQuiet_nil ?_
      refine Mxt.wpTL_op (by rfl) (fun K hK => ?_)
      go_simp
      refine hK _ _ (fun hlt => absurd hlt (by decide)) ?_
      clear hK K
      refine Mxt.wpTL_leaf ?_
      have hs2 : Step (fun _ => False) w1 ((w1.alloc (.cells #[.int .i64 (k.F.length : Int), .int .i64 (n1 : Int), .int .i64 (n2 : Int), .int .i64 (k.G.length : Int)] 128)).drew) := (Step.refl.alloc _).drew
      have bz := (Blk.new w1 128 #[.int .i64 (k.F.length : Int), .int .i64 (n1 : Int), .int .i64 (n2 : Int), .int .i64 (k.G.length : Int)]).drew
      have yk := (bz.cell kk).trans HK.out
      have S2 := Lib.hid (S1.out.trans hs2)
      replace m1 := (hs2.cell (p := ⟨N, 1, none⟩) N1 id).trans m1
      replace m2 := (hs2.cell (p := ⟨N, 2, none⟩) N1 id).trans m2
      clear hs2 bz HL1
      generalize w1.heap.size = Y at *
      generalize (w1.alloc (.cells #[.int .i64 (k.F.length : Int), .int .i64 (n1 : Int), .int .i64 (n2 : Int), .int .i64 (k.G.length : Int)] 128)).drew = U at *
      have d1 := cls_cell (F := fun _ => False) m1 id
      have d2 := cls_cell (F := fun _ => False) m2 id
      have d3 := cls_cell (F := fun _ => False) yk id
      go_wp2_with fail
      refine Mix.wp_region_mix [6] [6] (Step (fun _ => False) U) (by kernel_rfl) (by kernel_rfl) (Step.refl.drew) (fun hcls => ?_)
      refine Mix.wpL_reads 6 (by rfl) ?_
      simp only [List.take_succ_cons, List.drop_succ_cons, List.take_zero, List.drop_zero]
      repeat (go_big_quiet_step (fail))
      refine wpQuiet_nil ?_
      refine Mix.wpL_op (by rfl) (fun K hK => ?_)
      go_simp
      refine (v_index _ ix (cntF k kk) 20 HXB.out (by omega)).mono ?_
      rintro e w9 ⟨rfl, rfl⟩
      refine hK _ _ (fun hlt => Mix.cl (Step.refl.drew)) ?_
      clear hK K
      refine Mix.wpL_reads 1 (by rfl) ?_
      simp only [List.take_succ_cons, List.drop_succ_cons, List.take_zero, List.drop_zero]
      repeat (go_big_quiet_step (fail))
      refine wpQuiet_nil ?_
      refine Mix.wpL_end ?_
      go_wp2
      go_ret
      exact ⟨by rw [HG.out]; rfl, S2.out.drew⟩
  · refine Mxt.wpTL_op (by rfl) (fun K hK => ?_)
    go_simp
    refine hK _ _ (fun hlt => Mix.cl (Step.drew (Step.alloc Step.refl _))) ?_
    clear hK K
    refine Mxt.wpTL_op (by rfl) (fun K hK => ?_)
    go_simp
    refine HV1.out _ |>.mono ?_
    rintro e w6 ⟨rfl, rfl⟩
    refine hK _ _ (fun hlt => Mix.cl (Step.drew (Step.alloc Step.refl _))) ?_
    clear hK K
    refine Mxt.wpTL_op (by rfl) (fun K hK => ?_)
    go_simp
    refine HV2.out _ |>.mono ?_
    rintro e w7 ⟨rfl, rfl⟩
    refine hK _ _ (fun hlt => Mix.cl (Step.drew (Step.alloc Step.refl _))) ?_
    clear hK K
    refine Mxt.wpTL_reads ?_
    simp only [List.flatMap_cons, List.flatMap_nil, List.getElem?_cons_succ, List.getElem?_cons_zero, Option.toList_some, List.cons_append, List.nil_append]
    repeat (go_big_quiet_step (fail))
    refine wpQuiet_nil ?_
    refine Mxt.wpTL_op (by rfl) (fun K hK => ?_)
    go_simp
    refine hK _ _ (fun hlt => absurd hlt (by decide)) ?_
    clear hK K
    refine Mxt.wpTL_leaf ?_
    have hs2 : Step (fun _ => False) w1 ((w1.alloc (.cells #[.int .i64 (k.F.length : Int), .int .i64 (n1 : Int), .int .i64 (n2 : Int), .int .i64 (k.G.length : Int)] 128)).drew) := (Step.refl.alloc _).drew
    have bz := (Blk.new w1 128 #[.int .i64 (k.F.length : Int), .int .i64 (n1 : Int), .int .i64 (n2 : Int), .int .i64 (k.G.length : Int)]).drew
    have yk := (bz.cell kk).trans HK.out
    have S2 := Lib.hid (S1.out.trans hs2)
    replace m1 := (hs2.cell (p := ⟨N, 1, none⟩) N1 id).trans m1
    replace m2 := (hs2.cell (p := ⟨N, 2, none⟩) N1 id).trans m2
    clear hs2 bz HL1
    generalize w1.heap.size = Y at *
    generalize (w1.alloc (.cells #[.int .i64 (k.F.length : Int), .int .i64 (n1 : Int), .int .i64 (n2 : Int), .int .i64 (k.G.length : Int)] 128)).drew = U at *
    have d1 := cls_cell (F := fun _ => False) m1 id
    have d2 := cls_cell (F := fun _ => False) m2 id
    have d3 := cls_cell (F := fun _ => False) yk id
    go_wp2_with fail
    refine Mix.wp_region_mix [6] [6] (Step (fun _ => False) U) (by kernel_rfl) (by kernel_rfl) (Step.refl.drew) (fun hcls => ?_)
    refine Mix.wpL_reads 6 (by rfl) ?_
    simp only [List.take_succ_cons, List.drop_succ_cons, List.take_zero, List.drop_zero]
    repeat (go_big_quiet_step (fail))
    refine wpQuiet_nil ?_
    refine Mix.wpL_op (by rfl) (fun K hK => ?_)
    go_simp
    refine (v_index _ ix (cntF k kk) 20 HXB.out (by omega)).mono ?_
    rintro e w9 ⟨rfl, rfl⟩
    refine hK _ _ (fun hlt => Mix.cl (Step.refl.drew)) ?_
    clear hK K
    refine Mix.wpL_reads 1 (by rfl) ?_
    simp only [List.take_succ_cons, List.drop_succ_cons, List.take_zero, List.drop_zero]
    repeat (go_big_quiet_step (fail))
    refine wpQuiet_nil ?_
    refine Mix.wpL_end ?_
    go_wp2
    go_ret
    exact ⟨by rw [HG.out]; rfl, S2.out.drew⟩
end
end Go.Proofs.Ytpebdfgfikjkeaa
/-! valid.looker.body. -/
namespace Go.Proofs.Ytpebdfgfikjkeaa
open Go.RowKit

section
variable {w : World} {R : Nat → Prop} {k : La} {M : Mv}
def bdK (k : La) (M : Mv) (t : List UInt8 × List UInt8) (c : Cv) : Ke := ⟨M.types, k.F, k.G, k.tb, k.me, t.1 ++ loT c.lo, t.2⟩
def bdE (k : La) (M : Mv) (t : List UInt8 × List UInt8) (c : Cv) : Int := (bodyF (bdK k M t c) c.lo c.l).2
set_option maxRecDepth 100000 in
set_option maxHeartbeats 3200000 in
theorem l_body (i q : Nat) (hL : LkIn w R k M) (hS : M.small) (hfts : ∀ t ∈ M.types, t.1.length ≤ 100 ∧ t.2.length ≤ 100) (hi : i < M.codes.length) (hif : i < M.funcs.length) (hq : q = M.funcs[i]) (hqt : q < M.types.length) :
    Calls Try.prog 40 #[.pointer (some ⟨k.K, 0, none⟩), .int .i64 (i : Int)] w fun e w' => e = .returned (.int .i64 (bdE k M M.types[q] M.codes[i])) ∧ Step (fun _ => False) w w' := by
  have x0 := (hL.blk.cell 0).trans (show _ = some (Value.slice k.a.A0 M.types.length k.a.c0) from rfl)
  have x2 := (hL.blk.cell 2).trans (show _ = some (Value.slice k.a.A2 M.funcs.length k.a.c2) from rfl)
  have hf := hL.md.funcs
  rw [u32s, ← flat_one] at hf
  obtain ⟨bf, of, hAf, _, hbf, hcf⟩ := reads_row (fun y : Nat => [Value.int .u32 (y : Int)]) 1 (by decide) (fun _ => rfl) hf hif
  replace hcf := hcf 0 _ rfl
  rw [Nat.mul_one, Nat.add_zero, ← hq] at hcf
  rw [hAf] at x2
  obtain ⟨bt, ot, hAt, _, hbt, hct⟩ := reads_row ftC 2 (by decide) (fun _ => rfl) hL.md.types hqt
  have hxt := hAt
  rw [hAt] at x0
  have hft := hfts M.types[q] (List.getElem_mem hqt)
  have hcb := hL.md.cob M.codes[i] (List.getElem_mem hi)
  have hcs := hS.co M.codes[i] (List.getElem_mem hi)
  obtain ⟨bc, oc, hAc, _, hbc, hcc⟩ := reads_row Cv.cells 2 (by decide) Cv.two hL.md.codes hi
  have s1 := hS.types
  have s2 := hS.funcs
  have s3 := hS.codes
  have hbd : ∀ c t, bdE k M t c = (bodyF (bdK k M t c) c.lo c.l).2 := fun _ _ => rfl
  have HENV : Hid (∀ W, LkIn W R k M → ∀ (lo : List (Nat × Nat)) (p r : List UInt8), EnvIn W R ⟨M.types, k.F, k.G, k.tb, k.me, p ++ loT lo, r⟩ k.a.A0 k.fA k.gA) := fun W hW lo p r => ⟨hW.md.types, hW.fr, hW.gr, hW.md.rin⟩
  have HOKE : Hid (∀ (lo : List (Nat × Nat)) (p r : List UInt8), p.length ≤ 100 → r.length ≤ 100 → lo.length ≤ 20 → locF lo 0 ≠ none → (⟨M.types, k.F, k.G, k.tb, k.me, p ++ loT lo, r⟩ : Ke).ok) := fun lo p r h1 h2 h3 h => by
    obtain ⟨ln, hln⟩ : ∃ v, locF lo 0 = some v := by
      cases hc : locF lo 0 with
      | none => exact absurd hc h
      | some v => exact ⟨v, rfl⟩
    have := locF_le lo 0 ln (by omega) hln
    have f1 := hL.fl
    have f2 := hL.gl
    exact ⟨hfts, by simp only; omega, by simp only; omega, by simp only; omega, hL.fb, hL.gb, by simp only [List.length_append]; omega, h2⟩
  generalize M.types[q] = t at hct hft ⊢
  generalize M.codes[i] = c at hcb hcs hcc ⊢
  obtain ⟨p, r⟩ := t
  obtain ⟨lo, l, LA, IA, lc, ic⟩ := c
  have t0 := hct 0 _ rfl
  have t1 := hct 1 _ rfl
  have y0 := hcc 0 _ rfl
  have y1 := hcc 1 _ rfl
  simp only [Nat.add_zero] at t0 y0
  simp only at t0 t1 y0 y1 hft hcs
  have gi : (i : Int) < (M.funcs.length : Int) := by omega
  have gi0 : (0 : Int) ≤ (i : Int) := by omega
  have gq : (q : Int) < (M.types.length : Int) := by omega
  have gc : (i : Int) < (M.codes.length : Int) := by omega
  have HBODY : Hid (∀ W, LkIn W R k M → Step (fun _ => False) w W → Calls Try.prog 8 #[.agg #[.slice k.a.A0 M.types.length k.a.c0, .slice k.fA k.F.length k.fc, .slice k.gA k.G.length k.gc, .bool k.tb, .bool k.me], .agg #[.string (str p), .string (str r)], .agg #[.slice LA lo.length lc, .slice IA l.length ic]] W fun e w' =>
      e = .returned (.tuple #[.int .i64 (bodyF (bdK k M (p, r) ⟨lo, l, LA, IA, lc, ic⟩) lo l).1, .int .i64 (bodyF (bdK k M (p, r) ⟨lo, l, LA, IA, lc, ic⟩) lo l).2]) ∧ Step (fun _ => False) W w') := fun W hW hs =>
    body_walk W R (bdK k M (p, r) ⟨lo, l, LA, IA, lc, ic⟩) k.a.A0 k.fA k.gA k.a.c0 k.fc k.gc p LA IA lc l.length ic lo l (HENV.out W hW lo p r) rfl (by omega)
      (fun x hx => (hcb.ig x hx).in_ hs (fun _ _ => id) (fun _ h => h) (by have := hcs.2.2 x hx; omega)) (hcb.l.step hs (fun _ _ => id)) (hcb.lo.step hs (fun _ _ => id)) hcb.lob (by omega) (by omega) (HOKE.out lo p r hft.1 hft.2 hcs.2.1) rfl hft.2
  have HG : Hid (bdE k M (p, r) ⟨lo, l, LA, IA, lc, ic⟩ = (bodyF (bdK k M (p, r) ⟨lo, l, LA, IA, lc, ic⟩) lo l).2) := rfl
  generalize bodyF (bdK k M (p, r) ⟨lo, l, LA, IA, lc, ic⟩) lo l = bq at HBODY HG
  obtain ⟨b1, b2⟩ := bq
  have HL := Lib.hid hL
  have d0 := cls_cell (F := fun _ => False) x0 id
  have d2 := cls_cell (F := fun _ => False) x2 id
  have d3 := cls_cell (F := fun _ => False) hcf id
  have d4 := cls_cell (F := fun _ => False) t0 id
  have d5 := cls_cell (F := fun _ => False) t1 id
  have HYC : Hid (∀ V, Step (fun _ => False) w V → V.cell? ⟨bc, oc + i * 2, none⟩ = some (.slice LA lo.length lc) ∧ V.cell? ⟨bc, oc + i * 2 + 1, none⟩ = some (.slice IA l.length ic)) := fun V hV => ⟨(hV.cell (p := ⟨bc, oc + i * 2, none⟩) hbc id).trans y0, (hV.cell (p := ⟨bc, oc + i * 2 + 1, none⟩) hbc id).trans y1⟩
  have HAC := Lib.hid hAc
  have HAT := Lib.hid hxt
  clear hq hL hS hf hAf hcf hAt hct hcb hcs hAc hcc hbd HENV HOKE x0 x2 t0 t1 y0 y1 hxt
  go_enter Try.func40, Try.ntmps40
  go_wp2_with fail
  refine Mix.wp_region_mix [15, 16] [15] (Step (fun _ => False) w) (by kernel_rfl) (by kernel_rfl) (Step.refl.drew) (fun hcls => ?_)
  refine Mix.wpL_reads 15 (by rfl) ?_
  simp only [List.take_succ_cons, List.drop_succ_cons, List.take_zero, List.drop_zero]
  repeat (go_big_quiet_step (fail))
  refine wpQuiet_nil ?_
  refine Mix.wpL_op (by rfl) (fun K hK => ?_)
  go_simp
  refine hK _ _ (fun hlt => Mix.cl (Step.refl.drew.alloc _)) ?_
  clear hK K
  refine Mix.wpL_op (by rfl) (fun K hK => ?_)
  go_simp
  refine hK _ _ (fun hlt => absurd hlt (by decide)) ?_
  clear hK K
  refine Mix.wpL_end ?_
  have hs2 : Step (fun _ => False) w (w.alloc (.cells #[.string (str p), .string (str r)] 28)).drew := (Step.refl.alloc _).drew
  have bz := (Blk.new w 28 #[.string (str p), .string (str r)]).drew
  have z0 := (bz.cell 0).trans (show _ = some (Value.string (str p)) from rfl)
  have z1 := (bz.cell 1).trans (show _ = some (Value.string (str r)) from rfl)
  have HL2 := Lib.hid (HL.out.step hs2)
  have yy := HYC.out _ hs2
  obtain ⟨yy0, yy1⟩ := yy
  have S2 := Lib.hid hs2
  have v17 := (HL2.out.blk.cell 17).trans (show _ = some (Value.slice k.a.A0 M.types.length k.a.c0) from rfl)
  have v18 := (HL2.out.blk.cell 18).trans (show _ = some (Value.slice k.fA k.F.length k.fc) from rfl)
  have v19 := (HL2.out.blk.cell 19).trans (show _ = some (Value.slice k.gA k.G.length k.gc) from rfl)
  have v20 := (HL2.out.blk.cell 20).trans (show _ = some (Value.bool k.tb) from rfl)
  have v21 := (HL2.out.blk.cell 21).trans (show _ = some (Value.bool k.me) from rfl)
  have v9 := (HL2.out.blk.cell 9).trans (show _ = some (Value.slice k.a.A9 M.codes.length k.a.c9) from rfl)
  rw [HAC.out] at v9
  clear bz hs2 d0 d2 d3 d4 d5
  generalize w.heap.size = N at *
  generalize (w.alloc (.cells #[.string (str p), .string (str r)] 28)).drew = V at *
  have d0 := cls_cell (F := fun _ => False) z0 id
  have d1 := cls_cell (F := fun _ => False) z1 id
  have d2 := cls_cell (F := fun _ => False) yy0 id
  have d3 := cls_cell (F := fun _ => False) yy1 id
  have d4 := cls_cell (F := fun _ => False) v17 id
  have d5 := cls_cell (F := fun _ => False) v18 id
  have d6 := cls_cell (F := fun _ => False) v19 id
  have d7 := cls_cell (F := fun _ => False) v20 id
  have d8 := cls_cell (F := fun _ => False) v21 id
  have d9 := cls_cell (F := fun _ => False) v9 id
  rw [HAT.out] at d4
  go_wp2_with fail
  refine Mix.wp_region_mix [13] [13] (Step (fun _ => False) V) (by kernel_rfl) (by kernel_rfl) (Step.refl.drew) (fun hcls => ?_)
  refine Mix.wpL_reads 13 (by rfl) ?_
  simp only [List.take_succ_cons, List.drop_succ_cons, List.take_zero, List.drop_zero]
  repeat (go_big_quiet_step (fail))
  refine wpQuiet_nil ?_
  refine Mix.wpL_op (by rfl) (fun K hK => ?_)
  go_simp
  have HBD := HBODY.out _ (HL2.out.step Step.refl.drew) (S2.out.trans Step.refl.drew)
  rw [HAT.out] at HBD
  refine HBD.mono ?_
  rintro e w5 ⟨rfl, t5⟩
  refine hK _ _ (fun hlt => Mix.cl (Step.refl.drew.trans t5)) ?_
  clear hK K
  refine Mix.wpL_reads 5 (by rfl) ?_
  simp only [List.take_succ_cons, List.drop_succ_cons, List.take_zero, List.drop_zero]
  repeat (go_big_quiet_step (fail))
  refine wpQuiet_nil ?_
  refine Mix.wpL_end ?_
  go_wp2
  go_ret
  exact ⟨by rw [HG.out]; rfl, S2.out.trans (Step.refl.drew.trans t5)⟩
end
end Go.Proofs.Ytpebdfgfikjkeaa
/-! valid.looker.start. -/
namespace Go.Proofs.Ytpebdfgfikjkeaa
open Go.RowKit

/-- module.TypeOf. -/
def tyF (M : Mv) (f : Nat) : (List UInt8 × List UInt8) × Bool := match (fnA M.imports M.funcs)[f]? with
  | none => (([], []), false)
  | some q => match M.types[q]? with
    | none => (([], []), false)
    | some x => (x, true)
theorem v_typeof {w : World} {R : Nat → Prop} {a : Md} {M : Mv} (hM : ModIn w R a M) (hS : M.small) (f : Nat) (hf : f < 4294967296) :
    Calls Try.prog 61 #[.agg (modC a M), .int .u32 (f : Int)] w fun e w' => e = .returned (.tuple #[.agg #[.string (str (tyF M f).1.1), .string (str (tyF M f).1.2)], .bool (tyF M f).2]) ∧ Step (fun _ => False) w w' := by
  have s0 := hS.types
  have s1 := hS.imports
  have s2 := hS.funcs
  have hb := fnA_mem M.imports M.funcs (fun x hx => (hM.imb x hx).2) hM.fub
  unfold tyF
  cases h1 : (fnA M.imports M.funcs)[f]? with
  | none =>
    exact typeof_none w a.A0 a.A1 a.A2 M.types.length a.c0 M.imports.length a.c1 M.funcs.length a.c2 _ _ _ _ _ _ _ _ _ _ _ _ _ _ M.imports M.funcs M.types R R R rfl (by omega) rfl (by omega) rfl (by omega) hM.imports hM.funcs hM.types f hf hb
      (fun ⟨h, _⟩ => by rw [List.getElem?_eq_getElem h] at h1; cases h1)
  | some q =>
    simp only
    cases h2 : M.types[q]? with
    | none =>
      exact typeof_none w a.A0 a.A1 a.A2 M.types.length a.c0 M.imports.length a.c1 M.funcs.length a.c2 _ _ _ _ _ _ _ _ _ _ _ _ _ _ M.imports M.funcs M.types R R R rfl (by omega) rfl (by omega) rfl (by omega) hM.imports hM.funcs hM.types f hf hb
        (fun ⟨h, hlt⟩ => by
          rw [List.getElem?_eq_getElem h] at h1
          injection h1 with h1
          rw [h1] at hlt
          rw [List.getElem?_eq_getElem hlt] at h2
          cases h2)
    | some x =>
      exact typeof_some w a.A0 a.A1 a.A2 M.types.length a.c0 M.imports.length a.c1 M.funcs.length a.c2 _ _ _ _ _ _ _ _ _ _ _ _ _ _ M.imports M.funcs M.types R R R rfl (by omega) rfl (by omega) rfl (by omega) hM.imports hM.funcs hM.types f hf hb q h1 (List.getElem?_eq_some_iff.1 h2).1 x h2
/-- looker.start. -/
def stF (k : La) (M : Mv) : Ft := if M.start = -1 then Ft.no else if M.start < 0 then ⟨20, 8, 0⟩ else if (k.F.length : Int) ≤ M.start then ⟨20, 8, 0⟩ else if (tyF M M.start.toNat).2 = true ∧ (tyF M M.start.toNat).1.1 = [] ∧ (tyF M M.start.toNat).1.2 = [] then Ft.no else ⟨28, 8, 0⟩
section
variable {w : World} {R : Nat → Prop} {k : La} {M : Mv}
set_option maxRecDepth 100000 in
set_option maxHeartbeats 1600000 in
theorem l_start_no (hL : LkIn w R k M) (h : M.start = -1) :
    Calls Try.prog 37 #[.pointer (some ⟨k.K, 0, none⟩)] w fun e w' => e = .returned Ft.no.val ∧ Step (fun _ => False) w w' := by
  have x7 := (hL.blk.cell 7).trans (show _ = some (Value.int .i64 M.start) from rfl)
  have nK := hL.blk.lt
  have ne : k.K ≠ w.heap.size := Nat.ne_of_lt nK
  rw [h] at x7
  clear hL h
  go_enter Try.func37, Try.ntmps37
  go_wp2_with fail
  refine bodyPost_ret (v := Ft.no.val) (by simp [results, Try.results37, go_sem, Ft.val, Ft.no]) rfl ⟨rfl, Step.refl.alloc _⟩
set_option maxRecDepth 100000 in
set_option maxHeartbeats 3200000 in
theorem l_start_out (hL : LkIn w R k M) (hfl : k.F.length ≤ 200) (h1 : ¬ M.start = -1) (h : M.start < 0 ∨ (¬ M.start < 0 ∧ (k.F.length : Int) ≤ M.start)) :
    Calls Try.prog 37 #[.pointer (some ⟨k.K, 0, none⟩)] w fun e w' => e = .returned (Ft.val ⟨20, 8, 0⟩) ∧ Step (fun _ => False) w w' := by
  have sA : Step (fun _ => False) w (w.alloc (.cells #[.int .i64 0, .int .i64 0, .int .i64 0] 56)) := Step.refl.alloc _
  have B0 := Lib.hid (Blk.new w 56 #[.int .i64 0, .int .i64 0, .int .i64 0])
  have hL2 := hL.step sA
  have x7 := (hL2.blk.cell 7).trans (show _ = some (Value.int .i64 M.start) from rfl)
  have x18 := (hL2.blk.cell 18).trans (show _ = some (Value.slice k.fA k.F.length k.fc) from rfl)
  have SA := Lib.hid sA
  have HNS : Hid (w.heap.size ≤ w.heap.size) := Nat.le_refl _
  generalize M.start = st at *
  have e1 : (st == -1) = false := by simpa using h1
  have d0 := cls_cell (F := fun _ => False) x7 id
  have d1 := cls_cell (F := fun _ => False) x18 id
  clear hL hL2 sA h1
  go_enter Try.func37, Try.ntmps37
  go_upto_region 1 with fail
  generalize hNN : w.heap.size = N at *
  replace HNS : Hid (w.heap.size ≤ N) := by rw [Hid, hNN]; exact Nat.le_refl _
  clear hNN
  generalize w.alloc (.cells #[.int .i64 0, .int .i64 0, .int .i64 0] 56) = V at *
  have hF : faultF 20 8 0 = ⟨20, 8, 0⟩ := rfl
  rcases h with h | ⟨h, h2⟩
  all_goals
    go_wp2_with fail
    go_quiet (fail)
    go_wp2_with fail
    have S1 := Lib.hid (SA.out.drewN nq)
    have B1 := Lib.hid (B0.out.drewN nq)
    generalize V.drewN nq = W at *
    refine (v_fault W 20 8 0).mono ?_
    rintro e w2 ⟨rfl, t2⟩
    rw [hF]
    unfold Ft.val
    have hb2 := B1.out.step t2 id
    have m0 := hb2.cell 0
    have m1 := hb2.cell 1
    have m2 := hb2.cell 2
    have mf := hb2.frozen
    simp at m0 m1 m2
    have bz := three_new (x := .int .i64 20) (y := .int .i64 8) (z := .int .i64 0) hb2
    have z0 := (bz.cell 0).trans (show _ = some (Value.int .i64 20) from rfl)
    have z1 := (bz.cell 1).trans (show _ = some (Value.int .i64 8) from rfl)
    have z2 := (bz.cell 2).trans (show _ = some (Value.int .i64 0) from rfl)
    have HZ := Lib.hid (three_step (F := fun _ => False) (x := .int .i64 20) (y := .int .i64 8) (z := .int .i64 0) (S1.out.trans t2) (.inr HNS.out))
    clear bz hb2 t2
    go_wp2_with fail
    refine bodyPost_ret (v := Ft.val ⟨20, 8, 0⟩) (by simp [results, Try.results37, go_sem, Ft.val, z0, z1, z2]) rfl ⟨rfl, HZ.out⟩
end
end Go.Proofs.Ytpebdfgfikjkeaa
/-! valid.looker.start where there is such a function. -/
namespace Go.Proofs.Ytpebdfgfikjkeaa
open Go.RowKit

/-- A module's value read where its cells lie. -/
theorem run_mod_at (w : World) (g : Nat) (cs : Array Value) (h17 : cs.size = 17) (hc : ∀ j v, cs[j]? = some v → w.cell? ⟨g, j, none⟩ = some v) : (loadVar 53 ⟨g, 0, none⟩).run Try.prog w = .ok (.agg cs) w := by
  have hl : (loadCells ⟨g, 0, none⟩ 17).run Try.prog w = .ok cs w := by
    have h := run_loadCells_list (P := Try.prog) w ⟨g, 0, none⟩ cs.toList (fun j v hv => by
      rw [Addr.add_lit, Nat.zero_add]
      exact hc j v (by simpa using hv))
    rw [Array.length_toList, h17] at h
    simpa using h
  have hagg : (isAgg 53).run Try.prog w = .ok true w := by
    unfold isAgg
    rw [Sem.run_bind, run_underlying Try.underlying53 w]
    rfl
  have hsz : (sizeOf 53).run Try.prog w = .ok 17 w := by kernel_rfl
  simp [loadVar, Sem.run_bind, hagg, hsz, hl]
theorem quiet_mod_at {C : World → Prop} {ops : Array Oper} {o : Oper} {a : Act} {K : Act → Prop} (x : Operand) (ho : o.op = .load 53 x) (g : Nat) (hx : a.eval x = .pointer (some ⟨g, 0, none⟩)) (cs : Array Value) (hC : ∀ w, C w → ∀ j v, cs[j]? = some v → w.cell? ⟨g, j, none⟩ = some v) (h17 : cs.size = 17)
    (hk : K (a.put o.dst (.agg cs))) : o.quiet Try.prog a C K :=
  ⟨_, fun w hw => by
    unfold Oper.quietAt execOp
    simp only [ho, hx, Instr.loadAt, Instr.sureAddr, Sem.run_bind, Sem.run_pure, Result.andThen_ok, run_mod_at w g cs h17 (hC w hw)]
    exact ⟨rfl, rfl⟩, hk⟩
theorem lk_cells {w : World} {k : La} {M : Mv} (hB : Blk w k.K 87 (lkC k M)) : ∀ j v, (modC k.a M)[j]? = some v → w.cell? ⟨k.K, j, none⟩ = some v := fun j v hv => by
  rw [hB.cell j]
  have h17 : j < 17 := by
    have := (Array.getElem?_eq_some_iff.1 hv).1
    rwa [modC_size] at this
  rw [← hv]
  have : j = 0 ∨ j = 1 ∨ j = 2 ∨ j = 3 ∨ j = 4 ∨ j = 5 ∨ j = 6 ∨ j = 7 ∨ j = 8 ∨ j = 9 ∨ j = 10 ∨ j = 11 ∨ j = 12 ∨ j = 13 ∨ j = 14 ∨ j = 15 ∨ j = 16 := by omega
  rcases this with rfl | rfl | rfl | rfl | rfl | rfl | rfl | rfl | rfl | rfl | rfl | rfl | rfl | rfl | rfl | rfl | rfl <;> rfl
section
variable {w : World} {R : Nat → Prop} {k : La} {M : Mv}
set_option maxRecDepth 100000 in
set_option maxHeartbeats 6400000 in
theorem l_start_no_such (hL : LkIn w R k M) (hS : M.small) (hfl : k.F.length ≤ 200) (h0 : ¬ M.start < 0) (h1 : ¬ (k.F.length : Int) ≤ M.start) (p q : List UInt8) (ht : tyF M M.start.toNat = ((p, q), false)) :
    Calls Try.prog 37 #[.pointer (some ⟨k.K, 0, none⟩)] w fun e w' => e = .returned (Ft.val ⟨28, 8, 0⟩) ∧ Step (fun _ => False) w w' := by
  have sA : Step (fun _ => False) w (w.alloc (.cells #[.int .i64 0, .int .i64 0, .int .i64 0] 56)) := Step.refl.alloc _
  have B0 := Lib.hid (Blk.new w 56 #[.int .i64 0, .int .i64 0, .int .i64 0])
  have hL2 := hL.step sA
  have x7 := (hL2.blk.cell 7).trans (show _ = some (Value.int .i64 M.start) from rfl)
  have x18 := (hL2.blk.cell 18).trans (show _ = some (Value.slice k.fA k.F.length k.fc) from rfl)
  have SA := Lib.hid sA
  have HL2 := Lib.hid hL2
  have HNS : Hid (w.heap.size ≤ w.heap.size) := Nat.le_refl _
  have hcv := IntWalk.u32_in M.start (by omega)
  have HT : Hid (∀ W, LkIn W R k M → Calls Try.prog 61 #[.agg (modC k.a M), .int .u32 M.start] W fun e w' => e = .returned (.tuple #[.agg #[.string (str p), .string (str q)], .bool false]) ∧ Step (fun _ => False) W w') := fun W hW => by
    have := v_typeof hW.md hS M.start.toNat (by omega)
    rw [ht, Int.toNat_of_nonneg (by omega)] at this
    exact this
  have hF : faultF 28 8 0 = ⟨28, 8, 0⟩ := rfl
  have e1 : (M.start == -1) = false := beq_eq_false_iff_ne.2 (by omega)
  clear hL hL2 sA ht
  go_enter Try.func37, Try.ntmps37
  go_upto_region 1 with fail
  generalize hNN : w.heap.size = N at *
  replace HNS : Hid (w.heap.size ≤ N) := by rw [Hid, hNN]; exact Nat.le_refl _
  clear hNN
  generalize w.alloc (.cells #[.int .i64 0, .int .i64 0, .int .i64 0] 56) = V at *
  have d0 := cls_cell (F := fun _ => False) x7 id
  have d1 := cls_cell (F := fun _ => False) x18 id
  go_wp2_with fail
  go_quiet (fail)
  go_wp2_with fail
  have S1 := Lib.hid (SA.out.drewN nq)
  have B1 := Lib.hid (B0.out.drewN nq)
  have HL1 := Lib.hid (HL2.out.step (Step.refl.drewN nq))
  replace x7 : (V.drewN nq).cell? ⟨k.K, 7, none⟩ = _ := x7
  clear d0 d1 HL2 B0 SA x18
  generalize V.drewN nq = W at *
  have d7 := cls_cell (F := fun _ => False) (w0 := W) x7 id
  refine Mxt.wp_region_tree [10, 14, 15] [10, 14, 15] (.reads [0, 1, 2, 3, 4, 5, 6, 7, 8, 9] (.fork (.op 10 (.reads [11, 12, 13] (.op 14 (.op 15 (.reads [16] .leaf))))) (.op 14 (.op 10 (.reads [11, 12, 13] (.op 15 (.reads [16] .leaf))))))) (Step (fun _ => False) W) (by kernel_rfl) (by kernel_rfl) Step.refl.drew (fun hcls => ?_)
  refine Mxt.wpTL_reads ?_
  simp only [List.flatMap_cons, List.flatMap_nil, List.getElem?_cons_succ, List.getElem?_cons_zero, Option.toList_some, List.cons_append, List.nil_append]
  repeat (first | (refine BigFrame.wpQuiet_want (by rfl) (fun K hK => quiet_mod_at (ops := #[]) _ rfl k.K rfl (modC k.a M) (fun w1 ⟨i, e⟩ => by rw [e]; exact lk_cells (HL1.out.step i.prop).blk) (modC_size k.a M) (hK _ ?_)); clear hK K; simp only [Act.put, List.setIfInBounds_toArray, List.set_cons_succ, List.set_cons_zero]) | (go_big_quiet_step (fail)))
  refine wpQuiet_nil ?_
  refine Mxt.wpTL_fork ?_ ?_
  · refine Mxt.wpTL_op (by rfl) (fun K hK => ?_)
    go_simp
    refine (HT.out _ (HL1.out.step Step.refl.drew)).mono ?_
    rintro e w5 ⟨rfl, t5⟩
    refine hK _ _ (fun hlt => Mix.cl (Step.refl.drew.trans t5)) ?_
    clear hK K
    refine Mxt.wpTL_reads ?_
    simp only [List.flatMap_cons, List.flatMap_nil, List.getElem?_cons_succ, List.getElem?_cons_zero, Option.toList_some, List.cons_append, List.nil_append]
    repeat (go_big_quiet_step (fail))
    refine wpQuiet_nil ?_
    refine Mxt.wpTL_op (by rfl) (fun K hK => ?_)
    go_simp
    refine hK _ _ (fun hlt => Mix.cl ((Step.refl.drew.trans t5).alloc _)) ?_
    clear hK K
    refine Mxt.wpTL_op (by rfl) (fun K hK => ?_)
    go_simp
    refine hK _ _ (fun hlt => Mix.cl ((Step.refl.drew.trans t5).alloc _)) ?_
    clear hK K
    refine Mxt.wpTL_reads ?_
    simp only [List.flatMap_cons, List.flatMap_nil, List.getElem?_cons_succ, List.getElem?_cons_zero, Option.toList_some, List.cons_append, List.nil_append]
    repeat (go_big_quiet_step (fail))
    refine wpQuiet_nil ?_
    refine Mxt.wpTL_leaf ?_
    have hsU : Step (fun _ => False) W (w5.alloc (.cells #[.string (str p), .string (str q)] 28)) := (Step.refl.drew.trans t5).alloc _
    have bz : Blk (w5.alloc (.cells #[.string (str p), .string (str q)] 28)) (w5.heap.size) 28 #[.string (str p), .string (str q)] := Blk.new w5 _ _
    have z0 := (bz.cell 0).trans (show _ = some (Value.string (str p)) from rfl)
    have z1 := (bz.cell 1).trans (show _ = some (Value.string (str q)) from rfl)
    have SU := Lib.hid (S1.out.trans hsU)
    have BU := Lib.hid (B1.out.step hsU id)
    clear hsU bz
    generalize w5.alloc (.cells #[.string (str p), .string (str q)] 28) = U at *
    go_wp2_with fail
    refine (v_fault U 28 8 0).mono ?_
    rintro e w9 ⟨rfl, t9⟩
    rw [hF]
    unfold Ft.val
    have hb2 := BU.out.step t9 id
    have m0 := hb2.cell 0
    have m1 := hb2.cell 1
    have m2 := hb2.cell 2
    have mf := hb2.frozen
    simp at m0 m1 m2
    have bz := three_new (x := .int .i64 28) (y := .int .i64 8) (z := .int .i64 0) hb2
    have y0 := (bz.cell 0).trans (show _ = some (Value.int .i64 28) from rfl)
    have y1 := (bz.cell 1).trans (show _ = some (Value.int .i64 8) from rfl)
    have y2 := (bz.cell 2).trans (show _ = some (Value.int .i64 0) from rfl)
    have HZ := Lib.hid (three_step (F := fun _ => False) (x := .int .i64 28) (y := .int .i64 8) (z := .int .i64 0) (SU.out.trans t9) (.inr HNS.out))
    clear bz hb2 t9
    go_wp2_with fail
    refine bodyPost_ret (v := Ft.val ⟨28, 8, 0⟩) (by simp [results, Try.results37, go_sem, Ft.val, y0, y1, y2]) rfl ⟨rfl, HZ.out⟩
  · refine Mxt.wpTL_op (by rfl) (fun K hK => ?_)
    go_simp
    refine hK _ _ (fun hlt => Mix.cl (Step.drew (Step.alloc Step.refl _))) ?_
    clear hK K
    refine Mxt.wpTL_op (by rfl) (fun K hK => ?_)
    go_simp
    refine (HT.out _ (HL1.out.step ((Step.refl.alloc _).drew))).mono ?_
    rintro e w5 ⟨rfl, t5⟩
    refine hK _ _ (fun hlt => Mix.cl ((Step.refl.alloc _).drew.trans t5)) ?_
    clear hK K
    have hb5 := ((Blk.new W 28 #[.string ⟨#[]⟩, .string ⟨#[]⟩]).drew).step t5 id
    have v0 := (hb5.cell 0).trans (show _ = some (Value.string ⟨#[]⟩) from rfl)
    have v1 := (hb5.cell 1).trans (show _ = some (Value.string ⟨#[]⟩) from rfl)
    have vf := hb5.frozen
    refine Mxt.wpTL_reads ?_
    simp only [List.flatMap_cons, List.flatMap_nil, List.getElem?_cons_succ, List.getElem?_cons_zero, Option.toList_some, List.cons_append, List.nil_append]
    repeat (go_big_quiet_step (fail))
    refine wpQuiet_nil ?_
    refine Mxt.wpTL_op (by rfl) (fun K hK => ?_)
    go_simp
    refine hK _ _ (fun hlt => Mix.cl ((((Step.refl.alloc _).drew.trans t5).setCell (p := ⟨W.heap.size, 0, none⟩) (.inr (Nat.le_refl _)) _).setCell (p := ⟨W.heap.size, 1, none⟩) (.inr (Nat.le_refl _)) _)) ?_
    clear hK K
    refine Mxt.wpTL_reads ?_
    simp only [List.flatMap_cons, List.flatMap_nil, List.getElem?_cons_succ, List.getElem?_cons_zero, Option.toList_some, List.cons_append, List.nil_append]
    repeat (go_big_quiet_step (fail))
    refine wpQuiet_nil ?_
    refine Mxt.wpTL_leaf ?_
    clear v0 v1 vf
    have hsU : Step (fun _ => False) W ((w5.setCell ⟨W.heap.size, 0, none⟩ (.string (str p))).setCell ⟨W.heap.size, 1, none⟩ (.string (str q))) := (((Step.refl.alloc _).drew.trans t5).setCell (p := ⟨W.heap.size, 0, none⟩) (.inr (Nat.le_refl _)) _).setCell (p := ⟨W.heap.size, 1, none⟩) (.inr (Nat.le_refl _)) _
    have bz : Blk ((w5.setCell ⟨W.heap.size, 0, none⟩ (.string (str p))).setCell ⟨W.heap.size, 1, none⟩ (.string (str q))) (W.heap.size) 28 #[.string (str p), .string (str q)] := by have := (hb5.set_ 0 (.string (str p))).set_ 1 (.string (str q)); simpa using this
    have z0 := (bz.cell 0).trans (show _ = some (Value.string (str p)) from rfl)
    have z1 := (bz.cell 1).trans (show _ = some (Value.string (str q)) from rfl)
    have SU := Lib.hid (S1.out.trans hsU)
    have BU := Lib.hid (B1.out.step hsU id)
    clear hsU bz hb5
    generalize (w5.setCell ⟨W.heap.size, 0, none⟩ (.string (str p))).setCell ⟨W.heap.size, 1, none⟩ (.string (str q)) = U at *
    go_wp2_with fail
    refine (v_fault U 28 8 0).mono ?_
    rintro e w9 ⟨rfl, t9⟩
    rw [hF]
    unfold Ft.val
    have hb2 := BU.out.step t9 id
    have m0 := hb2.cell 0
    have m1 := hb2.cell 1
    have m2 := hb2.cell 2
    have mf := hb2.frozen
    simp at m0 m1 m2
    have bz := three_new (x := .int .i64 28) (y := .int .i64 8) (z := .int .i64 0) hb2
    have y0 := (bz.cell 0).trans (show _ = some (Value.int .i64 28) from rfl)
    have y1 := (bz.cell 1).trans (show _ = some (Value.int .i64 8) from rfl)
    have y2 := (bz.cell 2).trans (show _ = some (Value.int .i64 0) from rfl)
    have HZ := Lib.hid (three_step (F := fun _ => False) (x := .int .i64 28) (y := .int .i64 8) (z := .int .i64 0) (SU.out.trans t9) (.inr HNS.out))
    clear bz hb2 t9
    go_wp2_with fail
    refine bodyPost_ret (v := Ft.val ⟨28, 8, 0⟩) (by simp [results, Try.results37, go_sem, Ft.val, y0, y1, y2]) rfl ⟨rfl, HZ.out⟩
set_option maxRecDepth 100000 in
set_option maxHeartbeats 6400000 in
theorem l_start_par (hL : LkIn w R k M) (hS : M.small) (hfl : k.F.length ≤ 200) (h0 : ¬ M.start < 0) (h1 : ¬ (k.F.length : Int) ≤ M.start) (p q : List UInt8) (ht : tyF M M.start.toNat = ((p, q), true)) (hp : (str p).toList.isEmpty = false) :
    Calls Try.prog 37 #[.pointer (some ⟨k.K, 0, none⟩)] w fun e w' => e = .returned (Ft.val ⟨28, 8, 0⟩) ∧ Step (fun _ => False) w w' := by
  have sA : Step (fun _ => False) w (w.alloc (.cells #[.int .i64 0, .int .i64 0, .int .i64 0] 56)) := Step.refl.alloc _
  have B0 := Lib.hid (Blk.new w 56 #[.int .i64 0, .int .i64 0, .int .i64 0])
  have hL2 := hL.step sA
  have x7 := (hL2.blk.cell 7).trans (show _ = some (Value.int .i64 M.start) from rfl)
  have x18 := (hL2.blk.cell 18).trans (show _ = some (Value.slice k.fA k.F.length k.fc) from rfl)
  have SA := Lib.hid sA
  have HL2 := Lib.hid hL2
  have HNS : Hid (w.heap.size ≤ w.heap.size) := Nat.le_refl _
  have hcv := IntWalk.u32_in M.start (by omega)
  have HT : Hid (∀ W, LkIn W R k M → Calls Try.prog 61 #[.agg (modC k.a M), .int .u32 M.start] W fun e w' => e = .returned (.tuple #[.agg #[.string (str p), .string (str q)], .bool true]) ∧ Step (fun _ => False) W w') := fun W hW => by
    have := v_typeof hW.md hS M.start.toNat (by omega)
    rw [ht, Int.toNat_of_nonneg (by omega)] at this
    exact this
  have hF : faultF 28 8 0 = ⟨28, 8, 0⟩ := rfl
  have e1 : (M.start == -1) = false := beq_eq_false_iff_ne.2 (by omega)
  clear hL hL2 sA ht
  go_enter Try.func37, Try.ntmps37
  go_upto_region 1 with fail
  generalize hNN : w.heap.size = N at *
  replace HNS : Hid (w.heap.size ≤ N) := by rw [Hid, hNN]; exact Nat.le_refl _
  clear hNN
  generalize w.alloc (.cells #[.int .i64 0, .int .i64 0, .int .i64 0] 56) = V at *
  have d0 := cls_cell (F := fun _ => False) x7 id
  have d1 := cls_cell (F := fun _ => False) x18 id
  go_wp2_with fail
  go_quiet (fail)
  go_wp2_with fail
  have S1 := Lib.hid (SA.out.drewN nq)
  have B1 := Lib.hid (B0.out.drewN nq)
  have HL1 := Lib.hid (HL2.out.step (Step.refl.drewN nq))
  replace x7 : (V.drewN nq).cell? ⟨k.K, 7, none⟩ = _ := x7
  clear d0 d1 HL2 B0 SA x18
  generalize V.drewN nq = W at *
  have d7 := cls_cell (F := fun _ => False) (w0 := W) x7 id
  refine Mxt.wp_region_tree [10, 14, 15] [10, 14, 15] (.reads [0, 1, 2, 3, 4, 5, 6, 7, 8, 9] (.fork (.op 10 (.reads [11, 12, 13] (.op 14 (.op 15 (.reads [16] .leaf))))) (.op 14 (.op 10 (.reads [11, 12, 13] (.op 15 (.reads [16] .leaf))))))) (Step (fun _ => False) W) (by kernel_rfl) (by kernel_rfl) Step.refl.drew (fun hcls => ?_)
  refine Mxt.wpTL_reads ?_
  simp only [List.flatMap_cons, List.flatMap_nil, List.getElem?_cons_succ, List.getElem?_cons_zero, Option.toList_some, List.cons_append, List.nil_append]
  repeat (first | (refine BigFrame.wpQuiet_want (by rfl) (fun K hK => quiet_mod_at (ops := #[]) _ rfl k.K rfl (modC k.a M) (fun w1 ⟨i, e⟩ => by rw [e]; exact lk_cells (HL1.out.step i.prop).blk) (modC_size k.a M) (hK _ ?_)); clear hK K; simp only [Act.put, List.setIfInBounds_toArray, List.set_cons_succ, List.set_cons_zero]) | (go_big_quiet_step (fail)))
  refine wpQuiet_nil ?_
  refine Mxt.wpTL_fork ?_ ?_
  · refine Mxt.wpTL_op (by rfl) (fun K hK => ?_)
    go_simp
    refine (HT.out _ (HL1.out.step Step.refl.drew)).mono ?_
    rintro e w5 ⟨rfl, t5⟩
    refine hK _ _ (fun hlt => Mix.cl (Step.refl.drew.trans t5)) ?_
    clear hK K
    refine Mxt.wpTL_reads ?_
    simp only [List.flatMap_cons, List.flatMap_nil, List.getElem?_cons_succ, List.getElem?_cons_zero, Option.toList_some, List.cons_append, List.nil_append]
    repeat (go_big_quiet_step (fail))
    refine wpQuiet_nil ?_
    refine Mxt.wpTL_op (by rfl) (fun K hK => ?_)
    go_simp
    refine hK _ _ (fun hlt => Mix.cl ((Step.refl.drew.trans t5).alloc _)) ?_
    clear hK K
    refine Mxt.wpTL_op (by rfl) (fun K hK => ?_)
    go_simp
    refine hK _ _ (fun hlt => Mix.cl ((Step.refl.drew.trans t5).alloc _)) ?_
    clear hK K
    refine Mxt.wpTL_reads ?_
    simp only [List.flatMap_cons, List.flatMap_nil, List.getElem?_cons_succ, List.getElem?_cons_zero, Option.toList_some, List.cons_append, List.nil_append]
    repeat (go_big_quiet_step (fail))
    refine wpQuiet_nil ?_
    refine Mxt.wpTL_leaf ?_
    have hsU : Step (fun _ => False) W (w5.alloc (.cells #[.string (str p), .string (str q)] 28)) := (Step.refl.drew.trans t5).alloc _
    have bz : Blk (w5.alloc (.cells #[.string (str p), .string (str q)] 28)) (w5.heap.size) 28 #[.string (str p), .string (str q)] := Blk.new w5 _ _
    have z0 := (bz.cell 0).trans (show _ = some (Value.string (str p)) from rfl)
    have z1 := (bz.cell 1).trans (show _ = some (Value.string (str q)) from rfl)
    have SU := Lib.hid (S1.out.trans hsU)
    have BU := Lib.hid (B1.out.step hsU id)
    clear hsU bz
    generalize w5.alloc (.cells #[.string (str p), .string (str q)] 28) = U at *
    go_wp2_with fail
    refine (v_fault U 28 8 0).mono ?_
    rintro e w9 ⟨rfl, t9⟩
    rw [hF]
    unfold Ft.val
    have hb2 := BU.out.step t9 id
    have m0 := hb2.cell 0
    have m1 := hb2.cell 1
    have m2 := hb2.cell 2
    have mf := hb2.frozen
    simp at m0 m1 m2
    have bz := three_new (x := .int .i64 28) (y := .int .i64 8) (z := .int .i64 0) hb2
    have y0 := (bz.cell 0).trans (show _ = some (Value.int .i64 28) from rfl)
    have y1 := (bz.cell 1).trans (show _ = some (Value.int .i64 8) from rfl)
    have y2 := (bz.cell 2).trans (show _ = some (Value.int .i64 0) from rfl)
    have HZ := Lib.hid (three_step (F := fun _ => False) (x := .int .i64 28) (y := .int .i64 8) (z := .int .i64 0) (SU.out.trans t9) (.inr HNS.out))
    clear bz hb2 t9
    go_wp2_with fail
    refine bodyPost_ret (v := Ft.val ⟨28, 8, 0⟩) (by simp [results, Try.results37, go_sem, Ft.val, y0, y1, y2]) rfl ⟨rfl, HZ.out⟩
  · refine Mxt.wpTL_op (by rfl) (fun K hK => ?_)
    go_simp
    refine hK _ _ (fun hlt => Mix.cl (Step.drew (Step.alloc Step.refl _))) ?_
    clear hK K
    refine Mxt.wpTL_op (by rfl) (fun K hK => ?_)
    go_simp
    refine (HT.out _ (HL1.out.step ((Step.refl.alloc _).drew))).mono ?_
    rintro e w5 ⟨rfl, t5⟩
    refine hK _ _ (fun hlt => Mix.cl ((Step.refl.alloc _).drew.trans t5)) ?_
    clear hK K
    have hb5 := ((Blk.new W 28 #[.string ⟨#[]⟩, .string ⟨#[]⟩]).drew).step t5 id
    have v0 := (hb5.cell 0).trans (show _ = some (Value.string ⟨#[]⟩) from rfl)
    have v1 := (hb5.cell 1).trans (show _ = some (Value.string ⟨#[]⟩) from rfl)
    have vf := hb5.frozen
    refine Mxt.wpTL_reads ?_
    simp only [List.flatMap_cons, List.flatMap_nil, List.getElem?_cons_succ, List.getElem?_cons_zero, Option.toList_some, List.cons_append, List.nil_append]
    repeat (go_big_quiet_step (fail))
    refine wpQuiet_nil ?_
    refine Mxt.wpTL_op (by rfl) (fun K hK => ?_)
    go_simp
    refine hK _ _ (fun hlt => Mix.cl ((((Step.refl.alloc _).drew.trans t5).setCell (p := ⟨W.heap.size, 0, none⟩) (.inr (Nat.le_refl _)) _).setCell (p := ⟨W.heap.size, 1, none⟩) (.inr (Nat.le_refl _)) _)) ?_
    clear hK K
    refine Mxt.wpTL_reads ?_
    simp only [List.flatMap_cons, List.flatMap_nil, List.getElem?_cons_succ, List.getElem?_cons_zero, Option.toList_some, List.cons_append, List.nil_append]
    repeat (go_big_quiet_step (fail))
    refine wpQuiet_nil ?_
    refine Mxt.wpTL_leaf ?_
    clear v0 v1 vf
    have hsU : Step (fun _ => False) W ((w5.setCell ⟨W.heap.size, 0, none⟩ (.string (str p))).setCell ⟨W.heap.size, 1, none⟩ (.string (str q))) := (((Step.refl.alloc _).drew.trans t5).setCell (p := ⟨W.heap.size, 0, none⟩) (.inr (Nat.le_refl _)) _).setCell (p := ⟨W.heap.size, 1, none⟩) (.inr (Nat.le_refl _)) _
    have bz : Blk ((w5.setCell ⟨W.heap.size, 0, none⟩ (.string (str p))).setCell ⟨W.heap.size, 1, none⟩ (.string (str q))) (W.heap.size) 28 #[.string (str p), .string (str q)] := by have := (hb5.set_ 0 (.string (str p))).set_ 1 (.string (str q)); simpa using this
    have z0 := (bz.cell 0).trans (show _ = some (Value.string (str p)) from rfl)
    have z1 := (bz.cell 1).trans (show _ = some (Value.string (str q)) from rfl)
    have SU := Lib.hid (S1.out.trans hsU)
    have BU := Lib.hid (B1.out.step hsU id)
    clear hsU bz hb5
    generalize (w5.setCell ⟨W.heap.size, 0, none⟩ (.string (str p))).setCell ⟨W.heap.size, 1, none⟩ (.string (str q)) = U at *
    go_wp2_with fail
    refine (v_fault U 28 8 0).mono ?_
    rintro e w9 ⟨rfl, t9⟩
    rw [hF]
    unfold Ft.val
    have hb2 := BU.out.step t9 id
    have m0 := hb2.cell 0
    have m1 := hb2.cell 1
    have m2 := hb2.cell 2
    have mf := hb2.frozen
    simp at m0 m1 m2
    have bz := three_new (x := .int .i64 28) (y := .int .i64 8) (z := .int .i64 0) hb2
    have y0 := (bz.cell 0).trans (show _ = some (Value.int .i64 28) from rfl)
    have y1 := (bz.cell 1).trans (show _ = some (Value.int .i64 8) from rfl)
    have y2 := (bz.cell 2).trans (show _ = some (Value.int .i64 0) from rfl)
    have HZ := Lib.hid (three_step (F := fun _ => False) (x := .int .i64 28) (y := .int .i64 8) (z := .int .i64 0) (SU.out.trans t9) (.inr HNS.out))
    clear bz hb2 t9
    go_wp2_with fail
    refine bodyPost_ret (v := Ft.val ⟨28, 8, 0⟩) (by simp [results, Try.results37, go_sem, Ft.val, y0, y1, y2]) rfl ⟨rfl, HZ.out⟩
set_option maxRecDepth 100000 in
set_option maxHeartbeats 6400000 in
theorem l_start_res (hL : LkIn w R k M) (hS : M.small) (hfl : k.F.length ≤ 200) (h0 : ¬ M.start < 0) (h1 : ¬ (k.F.length : Int) ≤ M.start) (p q : List UInt8) (ht : tyF M M.start.toNat = ((p, q), true)) (hp : (str p).toList.isEmpty = true) (hq : (str q).toList.isEmpty = false) :
    Calls Try.prog 37 #[.pointer (some ⟨k.K, 0, none⟩)] w fun e w' => e = .returned (Ft.val ⟨28, 8, 0⟩) ∧ Step (fun _ => False) w w' := by
  have sA : Step (fun _ => False) w (w.alloc (.cells #[.int .i64 0, .int .i64 0, .int .i64 0] 56)) := Step.refl.alloc _
  have B0 := Lib.hid (Blk.new w 56 #[.int .i64 0, .int .i64 0, .int .i64 0])
  have hL2 := hL.step sA
  have x7 := (hL2.blk.cell 7).trans (show _ = some (Value.int .i64 M.start) from rfl)
  have x18 := (hL2.blk.cell 18).trans (show _ = some (Value.slice k.fA k.F.length k.fc) from rfl)
  have SA := Lib.hid sA
  have HL2 := Lib.hid hL2
  have HNS : Hid (w.heap.size ≤ w.heap.size) := Nat.le_refl _
  have hcv := IntWalk.u32_in M.start (by omega)
  have HT : Hid (∀ W, LkIn W R k M → Calls Try.prog 61 #[.agg (modC k.a M), .int .u32 M.start] W fun e w' => e = .returned (.tuple #[.agg #[.string (str p), .string (str q)], .bool true]) ∧ Step (fun _ => False) W w') := fun W hW => by
    have := v_typeof hW.md hS M.start.toNat (by omega)
    rw [ht, Int.toNat_of_nonneg (by omega)] at this
    exact this
  have hF : faultF 28 8 0 = ⟨28, 8, 0⟩ := rfl
  have e1 : (M.start == -1) = false := beq_eq_false_iff_ne.2 (by omega)
  clear hL hL2 sA ht
  go_enter Try.func37, Try.ntmps37
  go_upto_region 1 with fail
  generalize hNN : w.heap.size = N at *
  replace HNS : Hid (w.heap.size ≤ N) := by rw [Hid, hNN]; exact Nat.le_refl _
  clear hNN
  generalize w.alloc (.cells #[.int .i64 0, .int .i64 0, .int .i64 0] 56) = V at *
  have d0 := cls_cell (F := fun _ => False) x7 id
  have d1 := cls_cell (F := fun _ => False) x18 id
  go_wp2_with fail
  go_quiet (fail)
  go_wp2_with fail
  have S1 := Lib.hid (SA.out.drewN nq)
  have B1 := Lib.hid (B0.out.drewN nq)
  have HL1 := Lib.hid (HL2.out.step (Step.refl.drewN nq))
  replace x7 : (V.drewN nq).cell? ⟨k.K, 7, none⟩ = _ := x7
  clear d0 d1 HL2 B0 SA x18
  generalize V.drewN nq = W at *
  have d7 := cls_cell (F := fun _ => False) (w0 := W) x7 id
  refine Mxt.wp_region_tree [10, 14, 15] [10, 14, 15] (.reads [0, 1, 2, 3, 4, 5, 6, 7, 8, 9] (.fork (.op 10 (.reads [11, 12, 13] (.op 14 (.op 15 (.reads [16] .leaf))))) (.op 14 (.op 10 (.reads [11, 12, 13] (.op 15 (.reads [16] .leaf))))))) (Step (fun _ => False) W) (by kernel_rfl) (by kernel_rfl) Step.refl.drew (fun hcls => ?_)
  refine Mxt.wpTL_reads ?_
  simp only [List.flatMap_cons, List.flatMap_nil, List.getElem?_cons_succ, List.getElem?_cons_zero, Option.toList_some, List.cons_append, List.nil_append]
  repeat (first | (refine BigFrame.wpQuiet_want (by rfl) (fun K hK => quiet_mod_at (ops := #[]) _ rfl k.K rfl (modC k.a M) (fun w1 ⟨i, e⟩ => by rw [e]; exact lk_cells (HL1.out.step i.prop).blk) (modC_size k.a M) (hK _ ?_)); clear hK K; simp only [Act.put, List.setIfInBounds_toArray, List.set_cons_succ, List.set_cons_zero]) | (go_big_quiet_step (fail)))
  refine wpQuiet_nil ?_
  refine Mxt.wpTL_fork ?_ ?_
  · refine Mxt.wpTL_op (by rfl) (fun K hK => ?_)
    go_simp
    refine (HT.out _ (HL1.out.step Step.refl.drew)).mono ?_
    rintro e w5 ⟨rfl, t5⟩
    refine hK _ _ (fun hlt => Mix.cl (Step.refl.drew.trans t5)) ?_
    clear hK K
    refine Mxt.wpTL_reads ?_
    simp only [List.flatMap_cons, List.flatMap_nil, List.getElem?_cons_succ, List.getElem?_cons_zero, Option.toList_some, List.cons_append, List.nil_append]
    repeat (go_big_quiet_step (fail))
    refine wpQuiet_nil ?_
    refine Mxt.wpTL_op (by rfl) (fun K hK => ?_)
    go_simp
    refine hK _ _ (fun hlt => Mix.cl ((Step.refl.drew.trans t5).alloc _)) ?_
    clear hK K
    refine Mxt.wpTL_op (by rfl) (fun K hK => ?_)
    go_simp
    refine hK _ _ (fun hlt => Mix.cl ((Step.refl.drew.trans t5).alloc _)) ?_
    clear hK K
    refine Mxt.wpTL_reads ?_
    simp only [List.flatMap_cons, List.flatMap_nil, List.getElem?_cons_succ, List.getElem?_cons_zero, Option.toList_some, List.cons_append, List.nil_append]
    repeat (go_big_quiet_step (fail))
    refine wpQuiet_nil ?_
    refine Mxt.wpTL_leaf ?_
    have hsU : Step (fun _ => False) W (w5.alloc (.cells #[.string (str p), .string (str q)] 28)) := (Step.refl.drew.trans t5).alloc _
    have bz : Blk (w5.alloc (.cells #[.string (str p), .string (str q)] 28)) (w5.heap.size) 28 #[.string (str p), .string (str q)] := Blk.new w5 _ _
    have z0 := (bz.cell 0).trans (show _ = some (Value.string (str p)) from rfl)
    have z1 := (bz.cell 1).trans (show _ = some (Value.string (str q)) from rfl)
    have SU := Lib.hid (S1.out.trans hsU)
    have BU := Lib.hid (B1.out.step hsU id)
    clear hsU bz
    generalize w5.alloc (.cells #[.string (str p), .string (str q)] 28) = U at *
    go_wp2_with fail
    refine (v_fault U 28 8 0).mono ?_
    rintro e w9 ⟨rfl, t9⟩
    rw [hF]
    unfold Ft.val
    have hb2 := BU.out.step t9 id
    have m0 := hb2.cell 0
    have m1 := hb2.cell 1
    have m2 := hb2.cell 2
    have mf := hb2.frozen
    simp at m0 m1 m2
    have bz := three_new (x := .int .i64 28) (y := .int .i64 8) (z := .int .i64 0) hb2
    have y0 := (bz.cell 0).trans (show _ = some (Value.int .i64 28) from rfl)
    have y1 := (bz.cell 1).trans (show _ = some (Value.int .i64 8) from rfl)
    have y2 := (bz.cell 2).trans (show _ = some (Value.int .i64 0) from rfl)
    have HZ := Lib.hid (three_step (F := fun _ => False) (x := .int .i64 28) (y := .int .i64 8) (z := .int .i64 0) (SU.out.trans t9) (.inr HNS.out))
    clear bz hb2 t9
    go_wp2_with fail
    refine bodyPost_ret (v := Ft.val ⟨28, 8, 0⟩) (by simp [results, Try.results37, go_sem, Ft.val, y0, y1, y2]) rfl ⟨rfl, HZ.out⟩
  · refine Mxt.wpTL_op (by rfl) (fun K hK => ?_)
    go_simp
    refine hK _ _ (fun hlt => Mix.cl (Step.drew (Step.alloc Step.refl _))) ?_
    clear hK K
    refine Mxt.wpTL_op (by rfl) (fun K hK => ?_)
    go_simp
    refine (HT.out _ (HL1.out.step ((Step.refl.alloc _).drew))).mono ?_
    rintro e w5 ⟨rfl, t5⟩
    refine hK _ _ (fun hlt => Mix.cl ((Step.refl.alloc _).drew.trans t5)) ?_
    clear hK K
    have hb5 := ((Blk.new W 28 #[.string ⟨#[]⟩, .string ⟨#[]⟩]).drew).step t5 id
    have v0 := (hb5.cell 0).trans (show _ = some (Value.string ⟨#[]⟩) from rfl)
    have v1 := (hb5.cell 1).trans (show _ = some (Value.string ⟨#[]⟩) from rfl)
    have vf := hb5.frozen
    refine Mxt.wpTL_reads ?_
    simp only [List.flatMap_cons, List.flatMap_nil, List.getElem?_cons_succ, List.getElem?_cons_zero, Option.toList_some, List.cons_append, List.nil_append]
    repeat (go_big_quiet_step (fail))
    refine wpQuiet_nil ?_
    refine Mxt.wpTL_op (by rfl) (fun K hK => ?_)
    go_simp
    refine hK _ _ (fun hlt => Mix.cl ((((Step.refl.alloc _).drew.trans t5).setCell (p := ⟨W.heap.size, 0, none⟩) (.inr (Nat.le_refl _)) _).setCell (p := ⟨W.heap.size, 1, none⟩) (.inr (Nat.le_refl _)) _)) ?_
    clear hK K
    refine Mxt.wpTL_reads ?_
    simp only [List.flatMap_cons, List.flatMap_nil, List.getElem?_cons_succ, List.getElem?_cons_zero, Option.toList_some, List.cons_append, List.nil_append]
    repeat (go_big_quiet_step (fail))
    refine wpQuiet_nil ?_
    refine Mxt.wpTL_leaf ?_
    clear v0 v1 vf
    have hsU : Step (fun _ => False) W ((w5.setCell ⟨W.heap.size, 0, none⟩ (.string (str p))).setCell ⟨W.heap.size, 1, none⟩ (.string (str q))) := (((Step.refl.alloc _).drew.trans t5).setCell (p := ⟨W.heap.size, 0, none⟩) (.inr (Nat.le_refl _)) _).setCell (p := ⟨W.heap.size, 1, none⟩) (.inr (Nat.le_refl _)) _
    have bz : Blk ((w5.setCell ⟨W.heap.size, 0, none⟩ (.string (str p))).setCell ⟨W.heap.size, 1, none⟩ (.string (str q))) (W.heap.size) 28 #[.string (str p), .string (str q)] := by have := (hb5.set_ 0 (.string (str p))).set_ 1 (.string (str q)); simpa using this
    have z0 := (bz.cell 0).trans (show _ = some (Value.string (str p)) from rfl)
    have z1 := (bz.cell 1).trans (show _ = some (Value.string (str q)) from rfl)
    have SU := Lib.hid (S1.out.trans hsU)
    have BU := Lib.hid (B1.out.step hsU id)
    clear hsU bz hb5
    generalize (w5.setCell ⟨W.heap.size, 0, none⟩ (.string (str p))).setCell ⟨W.heap.size, 1, none⟩ (.string (str q)) = U at *
    go_wp2_with fail
    refine (v_fault U 28 8 0).mono ?_
    rintro e w9 ⟨rfl, t9⟩
    rw [hF]
    unfold Ft.val
    have hb2 := BU.out.step t9 id
    have m0 := hb2.cell 0
    have m1 := hb2.cell 1
    have m2 := hb2.cell 2
    have mf := hb2.frozen
    simp at m0 m1 m2
    have bz := three_new (x := .int .i64 28) (y := .int .i64 8) (z := .int .i64 0) hb2
    have y0 := (bz.cell 0).trans (show _ = some (Value.int .i64 28) from rfl)
    have y1 := (bz.cell 1).trans (show _ = some (Value.int .i64 8) from rfl)
    have y2 := (bz.cell 2).trans (show _ = some (Value.int .i64 0) from rfl)
    have HZ := Lib.hid (three_step (F := fun _ => False) (x := .int .i64 28) (y := .int .i64 8) (z := .int .i64 0) (SU.out.trans t9) (.inr HNS.out))
    clear bz hb2 t9
    go_wp2_with fail
    refine bodyPost_ret (v := Ft.val ⟨28, 8, 0⟩) (by simp [results, Try.results37, go_sem, Ft.val, y0, y1, y2]) rfl ⟨rfl, HZ.out⟩
set_option maxRecDepth 100000 in
set_option maxHeartbeats 6400000 in
theorem l_start_ok (hL : LkIn w R k M) (hS : M.small) (hfl : k.F.length ≤ 200) (h0 : ¬ M.start < 0) (h1 : ¬ (k.F.length : Int) ≤ M.start) (p q : List UInt8) (ht : tyF M M.start.toNat = ((p, q), true)) (hp : (str p).toList.isEmpty = true) (hq : (str q).toList.isEmpty = true) :
    Calls Try.prog 37 #[.pointer (some ⟨k.K, 0, none⟩)] w fun e w' => e = .returned (Ft.no.val) ∧ Step (fun _ => False) w w' := by
  have sA : Step (fun _ => False) w (w.alloc (.cells #[.int .i64 0, .int .i64 0, .int .i64 0] 56)) := Step.refl.alloc _
  have B0 := Lib.hid (Blk.new w 56 #[.int .i64 0, .int .i64 0, .int .i64 0])
  have hL2 := hL.step sA
  have x7 := (hL2.blk.cell 7).trans (show _ = some (Value.int .i64 M.start) from rfl)
  have x18 := (hL2.blk.cell 18).trans (show _ = some (Value.slice k.fA k.F.length k.fc) from rfl)
  have SA := Lib.hid sA
  have HL2 := Lib.hid hL2
  have HNS : Hid (w.heap.size ≤ w.heap.size) := Nat.le_refl _
  have hcv := IntWalk.u32_in M.start (by omega)
  have HT : Hid (∀ W, LkIn W R k M → Calls Try.prog 61 #[.agg (modC k.a M), .int .u32 M.start] W fun e w' => e = .returned (.tuple #[.agg #[.string (str p), .string (str q)], .bool true]) ∧ Step (fun _ => False) W w') := fun W hW => by
    have := v_typeof hW.md hS M.start.toNat (by omega)
    rw [ht, Int.toNat_of_nonneg (by omega)] at this
    exact this
  have hF : faultF 28 8 0 = ⟨28, 8, 0⟩ := rfl
  have e1 : (M.start == -1) = false := beq_eq_false_iff_ne.2 (by omega)
  clear hL hL2 sA ht
  go_enter Try.func37, Try.ntmps37
  go_upto_region 1 with fail
  generalize hNN : w.heap.size = N at *
  replace HNS : Hid (w.heap.size ≤ N) := by rw [Hid, hNN]; exact Nat.le_refl _
  clear hNN
  generalize w.alloc (.cells #[.int .i64 0, .int .i64 0, .int .i64 0] 56) = V at *
  have d0 := cls_cell (F := fun _ => False) x7 id
  have d1 := cls_cell (F := fun _ => False) x18 id
  go_wp2_with fail
  go_quiet (fail)
  go_wp2_with fail
  have S1 := Lib.hid (SA.out.drewN nq)
  have B1 := Lib.hid (B0.out.drewN nq)
  have HL1 := Lib.hid (HL2.out.step (Step.refl.drewN nq))
  replace x7 : (V.drewN nq).cell? ⟨k.K, 7, none⟩ = _ := x7
  clear d0 d1 HL2 B0 SA x18
  generalize V.drewN nq = W at *
  have d7 := cls_cell (F := fun _ => False) (w0 := W) x7 id
  refine Mxt.wp_region_tree [10, 14, 15] [10, 14, 15] (.reads [0, 1, 2, 3, 4, 5, 6, 7, 8, 9] (.fork (.op 10 (.reads [11, 12, 13] (.op 14 (.op 15 (.reads [16] .leaf))))) (.op 14 (.op 10 (.reads [11, 12, 13] (.op 15 (.reads [16] .leaf))))))) (Step (fun _ => False) W) (by kernel_rfl) (by kernel_rfl) Step.refl.drew (fun hcls => ?_)
  refine Mxt.wpTL_reads ?_
  simp only [List.flatMap_cons, List.flatMap_nil, List.getElem?_cons_succ, List.getElem?_cons_zero, Option.toList_some, List.cons_append, List.nil_append]
  repeat (first | (refine BigFrame.wpQuiet_want (by rfl) (fun K hK => quiet_mod_at (ops := #[]) _ rfl k.K rfl (modC k.a M) (fun w1 ⟨i, e⟩ => by rw [e]; exact lk_cells (HL1.out.step i.prop).blk) (modC_size k.a M) (hK _ ?_)); clear hK K; simp only [Act.put, List.setIfInBounds_toArray, List.set_cons_succ, List.set_cons_zero]) | (go_big_quiet_step (fail)))
  refine wpQuiet_nil ?_
  refine Mxt.wpTL_fork ?_ ?_
  · refine Mxt.wpTL_op (by rfl) (fun K hK => ?_)
    go_simp
    refine (HT.out _ (HL1.out.step Step.refl.drew)).mono ?_
    rintro e w5 ⟨rfl, t5⟩
    refine hK _ _ (fun hlt => Mix.cl (Step.refl.drew.trans t5)) ?_
    clear hK K
    refine Mxt.wpTL_reads ?_
    simp only [List.flatMap_cons, List.flatMap_nil, List.getElem?_cons_succ, List.getElem?_cons_zero, Option.toList_some, List.cons_append, List.nil_append]
    repeat (go_big_quiet_step (fail))
    refine wpQuiet_nil ?_
    refine Mxt.wpTL_op (by rfl) (fun K hK => ?_)
    go_simp
    refine hK _ _ (fun hlt => Mix.cl ((Step.refl.drew.trans t5).alloc _)) ?_
    clear hK K
    refine Mxt.wpTL_op (by rfl) (fun K hK => ?_)
    go_simp
    refine hK _ _ (fun hlt => Mix.cl ((Step.refl.drew.trans t5).alloc _)) ?_
    clear hK K
    refine Mxt.wpTL_reads ?_
    simp only [List.flatMap_cons, List.flatMap_nil, List.getElem?_cons_succ, List.getElem?_cons_zero, Option.toList_some, List.cons_append, List.nil_append]
    repeat (go_big_quiet_step (fail))
    refine wpQuiet_nil ?_
    refine Mxt.wpTL_leaf ?_
    have hsU : Step (fun _ => False) W (w5.alloc (.cells #[.string (str p), .string (str q)] 28)) := (Step.refl.drew.trans t5).alloc _
    have bz : Blk (w5.alloc (.cells #[.string (str p), .string (str q)] 28)) (w5.heap.size) 28 #[.string (str p), .string (str q)] := Blk.new w5 _ _
    have z0 := (bz.cell 0).trans (show _ = some (Value.string (str p)) from rfl)
    have z1 := (bz.cell 1).trans (show _ = some (Value.string (str q)) from rfl)
    have SU := Lib.hid (S1.out.trans hsU)
    have BU := Lib.hid (B1.out.step hsU id)
    clear hsU bz
    generalize w5.alloc (.cells #[.string (str p), .string (str q)] 28) = U at *
    have m0 := BU.out.cell 0
    have m1 := BU.out.cell 1
    have m2 := BU.out.cell 2
    have mf := BU.out.frozen
    simp at m0 m1 m2
    have bz := three_new (x := .int .i64 0) (y := .int .i64 0) (z := .int .i64 0) BU.out
    have y0 := (bz.cell 0).trans (show _ = some (Value.int .i64 0) from rfl)
    have y1 := (bz.cell 1).trans (show _ = some (Value.int .i64 0) from rfl)
    have y2 := (bz.cell 2).trans (show _ = some (Value.int .i64 0) from rfl)
    have HZ := Lib.hid (three_step (F := fun _ => False) (x := .int .i64 0) (y := .int .i64 0) (z := .int .i64 0) SU.out (.inr HNS.out))
    clear bz
    go_wp2_with fail
    refine bodyPost_ret (v := Ft.no.val) (by simp [results, Try.results37, go_sem, Ft.val, Ft.no, y0, y1, y2]) rfl ⟨rfl, HZ.out⟩
  · refine Mxt.wpTL_op (by rfl) (fun K hK => ?_)
    go_simp
    refine hK _ _ (fun hlt => Mix.cl (Step.drew (Step.alloc Step.refl _))) ?_
    clear hK K
    refine Mxt.wpTL_op (by rfl) (fun K hK => ?_)
    go_simp
    refine (HT.out _ (HL1.out.step ((Step.refl.alloc _).drew))).mono ?_
    rintro e w5 ⟨rfl, t5⟩
    refine hK _ _ (fun hlt => Mix.cl ((Step.refl.alloc _).drew.trans t5)) ?_
    clear hK K
    have hb5 := ((Blk.new W 28 #[.string ⟨#[]⟩, .string ⟨#[]⟩]).drew).step t5 id
    have v0 := (hb5.cell 0).trans (show _ = some (Value.string ⟨#[]⟩) from rfl)
    have v1 := (hb5.cell 1).trans (show _ = some (Value.string ⟨#[]⟩) from rfl)
    have vf := hb5.frozen
    refine Mxt.wpTL_reads ?_
    simp only [List.flatMap_cons, List.flatMap_nil, List.getElem?_cons_succ, List.getElem?_cons_zero, Option.toList_some, List.cons_append, List.nil_append]
    repeat (go_big_quiet_step (fail))
    refine wpQuiet_nil ?_
    refine Mxt.wpTL_op (by rfl) (fun K hK => ?_)
    go_simp
    refine hK _ _ (fun hlt => Mix.cl ((((Step.refl.alloc _).drew.trans t5).setCell (p := ⟨W.heap.size, 0, none⟩) (.inr (Nat.le_refl _)) _).setCell (p := ⟨W.heap.size, 1, none⟩) (.inr (Nat.le_refl _)) _)) ?_
    clear hK K
    refine Mxt.wpTL_reads ?_
    simp only [List.flatMap_cons, List.flatMap_nil, List.getElem?_cons_succ, List.getElem?_cons_zero, Option.toList_some, List.cons_append, List.nil_append]
    repeat (go_big_quiet_step (fail))
    refine wpQuiet_nil ?_
    refine Mxt.wpTL_leaf ?_
    clear v0 v1 vf
    have hsU : Step (fun _ => False) W ((w5.setCell ⟨W.heap.size, 0, none⟩ (.string (str p))).setCell ⟨W.heap.size, 1, none⟩ (.string (str q))) := (((Step.refl.alloc _).drew.trans t5).setCell (p := ⟨W.heap.size, 0, none⟩) (.inr (Nat.le_refl _)) _).setCell (p := ⟨W.heap.size, 1, none⟩) (.inr (Nat.le_refl _)) _
    have bz : Blk ((w5.setCell ⟨W.heap.size, 0, none⟩ (.string (str p))).setCell ⟨W.heap.size, 1, none⟩ (.string (str q))) (W.heap.size) 28 #[.string (str p), .string (str q)] := by have := (hb5.set_ 0 (.string (str p))).set_ 1 (.string (str q)); simpa using this
    have z0 := (bz.cell 0).trans (show _ = some (Value.string (str p)) from rfl)
    have z1 := (bz.cell 1).trans (show _ = some (Value.string (str q)) from rfl)
    have SU := Lib.hid (S1.out.trans hsU)
    have BU := Lib.hid (B1.out.step hsU id)
    clear hsU bz hb5
    generalize (w5.setCell ⟨W.heap.size, 0, none⟩ (.string (str p))).setCell ⟨W.heap.size, 1, none⟩ (.string (str q)) = U at *
    have m0 := BU.out.cell 0
    have m1 := BU.out.cell 1
    have m2 := BU.out.cell 2
    have mf := BU.out.frozen
    simp at m0 m1 m2
    have bz := three_new (x := .int .i64 0) (y := .int .i64 0) (z := .int .i64 0) BU.out
    have y0 := (bz.cell 0).trans (show _ = some (Value.int .i64 0) from rfl)
    have y1 := (bz.cell 1).trans (show _ = some (Value.int .i64 0) from rfl)
    have y2 := (bz.cell 2).trans (show _ = some (Value.int .i64 0) from rfl)
    have HZ := Lib.hid (three_step (F := fun _ => False) (x := .int .i64 0) (y := .int .i64 0) (z := .int .i64 0) SU.out (.inr HNS.out))
    clear bz
    go_wp2_with fail
    refine bodyPost_ret (v := Ft.no.val) (by simp [results, Try.results37, go_sem, Ft.val, Ft.no, y0, y1, y2]) rfl ⟨rfl, HZ.out⟩
theorem l_start (hL : LkIn w R k M) (hS : M.small) :
    Calls Try.prog 37 #[.pointer (some ⟨k.K, 0, none⟩)] w fun e w' => e = .returned (stF k M).val ∧ Step (fun _ => False) w w' := by
  have hfl := hL.fl
  unfold stF
  by_cases h1 : M.start = -1
  · rw [if_pos h1]
    exact l_start_no hL h1
  rw [if_neg h1]
  by_cases h2 : M.start < 0
  · rw [if_pos h2]
    exact l_start_out hL hfl h1 (.inl h2)
  rw [if_neg h2]
  by_cases h3 : (k.F.length : Int) ≤ M.start
  · rw [if_pos h3]
    exact l_start_out hL hfl h1 (.inr ⟨h2, h3⟩)
  rw [if_neg h3]
  obtain ⟨y, ht⟩ : ∃ y, tyF M M.start.toNat = y := ⟨_, rfl⟩
  rw [ht]
  obtain ⟨⟨p, q⟩, b⟩ := y
  cases b with
  | false =>
    rw [if_neg (fun h => by cases h.1)]
    exact l_start_no_such hL hS hfl h2 h3 p q ht
  | true =>
    cases hp : p.isEmpty with
    | false =>
      rw [if_neg (fun h => by have := h.2.1; simp only at this; rw [this] at hp; cases hp)]
      exact l_start_par hL hS hfl h2 h3 p q ht (by rw [str_empty]; exact hp)
    | true =>
      cases hq : q.isEmpty with
      | false =>
        rw [if_neg (fun h => by have := h.2.2; simp only at this; rw [this] at hq; cases hq)]
        exact l_start_res hL hS hfl h2 h3 p q ht (by rw [str_empty]; exact hp) (by rw [str_empty]; exact hq)
      | true =>
        rw [if_pos ⟨rfl, List.isEmpty_iff.1 hp, List.isEmpty_iff.1 hq⟩]
        exact l_start_ok hL hS hfl h2 h3 p q ht (by rw [str_empty]; exact hp) (by rw [str_empty]; exact hq)
end
end Go.Proofs.Ytpebdfgfikjkeaa
