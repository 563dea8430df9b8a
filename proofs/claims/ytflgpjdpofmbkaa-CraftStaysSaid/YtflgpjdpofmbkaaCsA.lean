/-
  craft: a module under construction, as records and in memory.
-/
import Derived.Test.YtflgpjdpofmbkaaRes
import Derived.Test.YtflgpjdpofmbkaaBys
import Derived.Test.YtflgpjdpofmbkaaOpn
import Derived.Test.YtflgpjdpofmbkaaMix
set_option linter.unusedVariables false
set_option linter.unusedSimpArgs false
namespace Go.Proofs.Ytflgpjdpofmbkaa
open Go.RowKit

/-- The cells of element k of a row of structs. -/
theorem reads_row {α : Type} (c : α → List Value) (m : Nat) (hm : 0 < m) (hc : ∀ a, (c a).length = m) {w : World} {S : Nat → Prop} {A : Option Addr} {l : List α} {n : Nat} (hv : Reads w S m A n (l.flatMap c)) {k : Nat} (hk : k < l.length) :
    ∃ b off, A = some ⟨b, off, none⟩ ∧ S b ∧ b < w.heap.size ∧ ∀ j u, (c l[k])[j]? = some u → w.cell? ⟨b, off + k * m + j, none⟩ = some u := by
  have hn : 0 < n := by
    refine Nat.pos_of_ne_zero fun h => ?_
    have h1 := hv.1
    rw [flat_length c m hc, h, Nat.zero_mul] at h1
    have h2 : 0 < l.length * m := Nat.mul_pos (by omega) hm
    omega
  obtain ⟨ad, rfl, hS, hlt, hcell⟩ := hv.2 hn
  have h00 := flat_get c m hc l 0 0 (by omega) hm
  rw [Nat.zero_mul] at h00
  have h01 : (c (l[0]'(by omega)))[0]? = some ((c (l[0]'(by omega)))[0]'(by rw [hc]; exact hm)) := List.getElem?_eq_getElem _
  have h0 := hcell 0 _ (h00.trans h01)
  obtain ⟨b, off, spot⟩ := ad
  have hspot : spot = none := by
    have := World.cell?_spot h0
    simpa [Addr.add] using this
  subst hspot
  refine ⟨b, off, rfl, hS, hlt, fun j u hu => ?_⟩
  have hj : j < m := by
    have := (List.getElem?_eq_some_iff.1 hu).1
    rwa [hc] at this
  have h1 := hcell (k * m + j) u (by rw [flat_get c m hc l k j hk hj]; exact hu)
  rw [Addr.add_lit] at h1
  rw [Nat.add_assoc]
  exact h1

theorem nine_of {x0 x1 x2 x3 x4 x5 x6 x7 x8 : Value} (h : Value) (e : h ∈ [x0, x1, x2, x3, x4, x5, x6, x7, x8]) : h = x0 ∨ h = x1 ∨ h = x2 ∨ h = x3 ∨ h = x4 ∨ h = x5 ∨ h = x6 ∨ h = x7 ∨ h = x8 := by simpa using e
structure Ft where
  p : List UInt8
  r : List UInt8
structure Im where
  s0 : List UInt8
  s1 : List UInt8
  k : Nat
  t : Nat
  g : Nat
  gm : Bool
structure Gl where
  t : Nat
  m : Bool
  op : Nat
  a : Nat
structure Ex where
  s : List UInt8
  k : Nat
  i : Nat
/-- A row of functions: where, and which; the place of its own row. -/
structure El where
  g : Nat
  f : Nat
  A : Option Addr
  c : Nat
structure Ig where
  op : Nat
  a : Nat
  b : Nat
  n : Nat
  c : Nat
  A : Option Addr
  L : List Nat
structure Cd where
  lo : List UInt8
  bo : List Ig
  LA : Option Addr
  lc : Nat
  BA : Option Addr
  bc : Nat
structure Da where
  g : Nat
  s : List UInt8
instance : Inhabited Ft := ⟨⟨[], []⟩⟩
instance : Inhabited Im := ⟨⟨[], [], 0, 0, 0, false⟩⟩
instance : Inhabited Gl := ⟨⟨0, false, 0, 0⟩⟩
instance : Inhabited Ex := ⟨⟨[], 0, 0⟩⟩
instance : Inhabited El := ⟨⟨0, 0, none, 0⟩⟩
instance : Inhabited Ig := ⟨⟨0, 0, 0, 0, 0, none, []⟩⟩
instance : Inhabited Cd := ⟨⟨[], [], none, 0, none, 0⟩⟩
instance : Inhabited Da := ⟨⟨0, []⟩⟩
def Ft.cells (x : Ft) : List Value := [.string (str x.p), .string (str x.r)]
def Im.cells (x : Im) : List Value := [.string (str x.s0), .string (str x.s1), .int .u8 (x.k : Int), .int .u32 (x.t : Int), .int .u32 0, .int .u32 0, .bool false, .int .u8 (x.g : Int), .bool x.gm]
def Gl.cells (x : Gl) : List Value := [.int .u8 (x.t : Int), .bool x.m, .int .u8 (x.op : Int), .int .u64 (x.a : Int), .int .u64 0, .slice none 0 0]
def Ex.cells (x : Ex) : List Value := [.string (str x.s), .int .u8 (x.k : Int), .int .u32 (x.i : Int)]
def El.cells (x : El) : List Value := [.int .u8 35, .int .u64 (x.g : Int), .int .u64 0, .slice none 0 0, .slice x.A 1 x.c]
def Ig.cells (x : Ig) : List Value := [.int .u8 (x.op : Int), .int .u64 (x.a : Int), .int .u64 (x.b : Int), .slice x.A x.n x.c]
def Cd.cells (x : Cd) : List Value := [.slice x.LA x.lo.length x.lc, .slice x.BA x.bo.length x.bc]
def Da.cells (x : Da) : List Value := [.int .u8 35, .int .u64 (x.g : Int), .int .u64 0, .slice none 0 0, .string (str x.s)]
def igs (l : List Ig) : List Value := l.flatMap Ig.cells
def u32s (L : List Nat) : List Value := L.map fun n : Nat => .int .u32 (n : Int)
def strs (L : List (List UInt8)) : List Value := L.map fun s => .string (str s)
def locC (t : UInt8) : List Value := [.int .u32 1, .int .u8 (t.toNat : Int)]
def locs (l : List UInt8) : List Value := l.flatMap locC
theorem u32s_append (L M : List Nat) : u32s (L ++ M) = u32s L ++ u32s M := by simp [u32s]
theorem u32s_get (L : List Nat) (k : Nat) (h : k < L.length) : (u32s L)[k]? = some (.int .u32 (L[k] : Int)) := by simp [u32s, h]
theorem u32s_one (L : List Nat) : ∀ u ∈ u32s L, u.oneCell' = true := by
  intro u hu
  obtain ⟨n, _, rfl⟩ := List.mem_map.1 hu
  rfl
theorem strs_append (L M : List (List UInt8)) : strs (L ++ M) = strs L ++ strs M := by simp [strs]
theorem strs_get (L : List (List UInt8)) (k : Nat) (h : k < L.length) : (strs L)[k]? = some (.string (str L[k])) := by simp [strs, h]
theorem strs_one (L : List (List UInt8)) : ∀ u ∈ strs L, u.oneCell' = true := by
  intro u hu
  obtain ⟨n, _, rfl⟩ := List.mem_map.1 hu
  rfl
theorem one_of {x : Value} {l : List Value} (h : ∀ u ∈ l, u.oneCell' = true) (hx : x ∈ l) : x.oneCell' = true := h x hx
theorem Ft.len (x : Ft) : x.cells.length = 2 := rfl
theorem Ft.one (x : Ft) : ∀ u ∈ x.cells, u.oneCell' = true := by
  intro u hu
  simp [Ft.cells] at hu
  rcases hu with rfl | rfl <;> rfl
def fts (l : List Ft) : List Value := l.flatMap Ft.cells
theorem fts_append (l m : List Ft) : fts (l ++ m) = fts l ++ fts m := by simp [fts]
theorem fts_last (l : List Ft) (x : Ft) : fts (l ++ [x]) = fts l ++ x.cells := by simp [fts]
theorem fts_one (l : List Ft) : ∀ u ∈ fts l, u.oneCell' = true := by
  intro u hu
  obtain ⟨x, _, hx⟩ := List.mem_flatMap.1 hu
  exact x.one u hx
theorem Im.len (x : Im) : x.cells.length = 9 := rfl
theorem Im.one (x : Im) : ∀ u ∈ x.cells, u.oneCell' = true := by
  intro u hu
  simp [Im.cells] at hu
  rcases hu with rfl | rfl | rfl | rfl | rfl | rfl | rfl | rfl | rfl <;> rfl
def ims (l : List Im) : List Value := l.flatMap Im.cells
theorem ims_append (l m : List Im) : ims (l ++ m) = ims l ++ ims m := by simp [ims]
theorem ims_last (l : List Im) (x : Im) : ims (l ++ [x]) = ims l ++ x.cells := by simp [ims]
theorem ims_one (l : List Im) : ∀ u ∈ ims l, u.oneCell' = true := by
  intro u hu
  obtain ⟨x, _, hx⟩ := List.mem_flatMap.1 hu
  exact x.one u hx
theorem Gl.len (x : Gl) : x.cells.length = 6 := rfl
theorem Gl.one (x : Gl) : ∀ u ∈ x.cells, u.oneCell' = true := by
  intro u hu
  simp [Gl.cells] at hu
  rcases hu with rfl | rfl | rfl | rfl | rfl | rfl <;> rfl
def gls (l : List Gl) : List Value := l.flatMap Gl.cells
theorem gls_append (l m : List Gl) : gls (l ++ m) = gls l ++ gls m := by simp [gls]
theorem gls_last (l : List Gl) (x : Gl) : gls (l ++ [x]) = gls l ++ x.cells := by simp [gls]
theorem gls_one (l : List Gl) : ∀ u ∈ gls l, u.oneCell' = true := by
  intro u hu
  obtain ⟨x, _, hx⟩ := List.mem_flatMap.1 hu
  exact x.one u hx
theorem Ex.len (x : Ex) : x.cells.length = 3 := rfl
theorem Ex.one (x : Ex) : ∀ u ∈ x.cells, u.oneCell' = true := by
  intro u hu
  simp [Ex.cells] at hu
  rcases hu with rfl | rfl | rfl <;> rfl
def exs (l : List Ex) : List Value := l.flatMap Ex.cells
theorem exs_append (l m : List Ex) : exs (l ++ m) = exs l ++ exs m := by simp [exs]
theorem exs_last (l : List Ex) (x : Ex) : exs (l ++ [x]) = exs l ++ x.cells := by simp [exs]
theorem exs_one (l : List Ex) : ∀ u ∈ exs l, u.oneCell' = true := by
  intro u hu
  obtain ⟨x, _, hx⟩ := List.mem_flatMap.1 hu
  exact x.one u hx
theorem El.len (x : El) : x.cells.length = 5 := rfl
theorem El.one (x : El) : ∀ u ∈ x.cells, u.oneCell' = true := by
  intro u hu
  simp [El.cells] at hu
  rcases hu with rfl | rfl | rfl | rfl | rfl <;> rfl
def elsL (l : List El) : List Value := l.flatMap El.cells
theorem elsL_append (l m : List El) : elsL (l ++ m) = elsL l ++ elsL m := by simp [elsL]
theorem elsL_last (l : List El) (x : El) : elsL (l ++ [x]) = elsL l ++ x.cells := by simp [elsL]
theorem elsL_one (l : List El) : ∀ u ∈ elsL l, u.oneCell' = true := by
  intro u hu
  obtain ⟨x, _, hx⟩ := List.mem_flatMap.1 hu
  exact x.one u hx
theorem Cd.len (x : Cd) : x.cells.length = 2 := rfl
theorem Cd.one (x : Cd) : ∀ u ∈ x.cells, u.oneCell' = true := by
  intro u hu
  simp [Cd.cells] at hu
  rcases hu with rfl | rfl <;> rfl
def cdsL (l : List Cd) : List Value := l.flatMap Cd.cells
theorem cdsL_append (l m : List Cd) : cdsL (l ++ m) = cdsL l ++ cdsL m := by simp [cdsL]
theorem cdsL_last (l : List Cd) (x : Cd) : cdsL (l ++ [x]) = cdsL l ++ x.cells := by simp [cdsL]
theorem cdsL_one (l : List Cd) : ∀ u ∈ cdsL l, u.oneCell' = true := by
  intro u hu
  obtain ⟨x, _, hx⟩ := List.mem_flatMap.1 hu
  exact x.one u hx
theorem Da.len (x : Da) : x.cells.length = 5 := rfl
theorem Da.one (x : Da) : ∀ u ∈ x.cells, u.oneCell' = true := by
  intro u hu
  simp [Da.cells] at hu
  rcases hu with rfl | rfl | rfl | rfl | rfl <;> rfl
def das (l : List Da) : List Value := l.flatMap Da.cells
theorem das_append (l m : List Da) : das (l ++ m) = das l ++ das m := by simp [das]
theorem das_last (l : List Da) (x : Da) : das (l ++ [x]) = das l ++ x.cells := by simp [das]
theorem das_one (l : List Da) : ∀ u ∈ das l, u.oneCell' = true := by
  intro u hu
  obtain ⟨x, _, hx⟩ := List.mem_flatMap.1 hu
  exact x.one u hx
theorem Ig.len (x : Ig) : x.cells.length = 4 := rfl
theorem Ig.one (x : Ig) : ∀ u ∈ x.cells, u.oneCell' = true := by
  intro u hu
  simp [Ig.cells] at hu
  rcases hu with rfl | rfl | rfl | rfl <;> rfl
theorem igs_append (l m : List Ig) : igs (l ++ m) = igs l ++ igs m := by simp [igs]
theorem igs_last (l : List Ig) (x : Ig) : igs (l ++ [x]) = igs l ++ x.cells := by simp [igs]
theorem igs_one (l : List Ig) : ∀ u ∈ igs l, u.oneCell' = true := by
  intro u hu
  obtain ⟨x, _, hx⟩ := List.mem_flatMap.1 hu
  exact x.one u hx
theorem u32s_last (L : List Nat) (x : Nat) : u32s (L ++ [x]) = u32s L ++ [.int .u32 (x : Int)] := by simp [u32s]
theorem strs_last (L : List (List UInt8)) (x : List UInt8) : strs (L ++ [x]) = strs L ++ [.string (str x)] := by simp [strs]
theorem locC_len (t : UInt8) : (locC t).length = 2 := rfl
theorem locs_last (l : List UInt8) (x : UInt8) : locs (l ++ [x]) = locs l ++ locC x := by simp [locs]
theorem locs_one (l : List UInt8) : ∀ u ∈ locs l, u.oneCell' = true := by
  intro u hu
  obtain ⟨x, _, hx⟩ := List.mem_flatMap.1 hu
  simp [locC] at hx
  rcases hx with rfl | rfl <;> rfl
theorem E_fts : ElemTy Try.prog 27 46 2 32 := elem_of Try.underlying27 (z := .agg #[.string ByteArray.empty, .string ByteArray.empty]) (by kernel_rfl) rfl (by decide)
theorem E_ims : ElemTy Try.prog 28 67 9 56 := elem_of Try.underlying28 (z := .agg #[.string ByteArray.empty, .string ByteArray.empty, .int .u8 0, .int .u32 0, .int .u32 0, .int .u32 0, .bool false, .int .u8 0, .bool false]) (by kernel_rfl) rfl (by decide)
theorem E_u32s : ElemTy Try.prog 29 36 1 4 := elem_of Try.underlying29 (z := .int .u32 0) (by kernel_rfl) rfl (by decide)
theorem E_gls : ElemTy Try.prog 31 73 6 56 := elem_of Try.underlying31 (z := .agg #[.int .u8 0, .bool false, .int .u8 0, .int .u64 0, .int .u64 0, .slice none 0 0]) (by kernel_rfl) rfl (by decide)
theorem E_exs : ElemTy Try.prog 32 76 3 24 := elem_of Try.underlying32 (z := .agg #[.string ByteArray.empty, .int .u8 0, .int .u32 0]) (by kernel_rfl) rfl (by decide)
theorem E_elsL : ElemTy Try.prog 33 79 5 72 := elem_of Try.underlying33 (z := .agg #[.int .u8 0, .int .u64 0, .int .u64 0, .slice none 0 0, .slice none 0 0]) (by kernel_rfl) rfl (by decide)
theorem E_cdsL : ElemTy Try.prog 34 83 2 48 := elem_of Try.underlying34 (z := .agg #[.slice none 0 0, .slice none 0 0]) (by kernel_rfl) rfl (by decide)
theorem E_das : ElemTy Try.prog 35 86 5 64 := elem_of Try.underlying35 (z := .agg #[.int .u8 0, .int .u64 0, .int .u64 0, .slice none 0 0, .string ByteArray.empty]) (by kernel_rfl) rfl (by decide)
theorem E_strs : ElemTy Try.prog 37 9 1 16 := elem_of Try.underlying37 (z := .string ByteArray.empty) (by kernel_rfl) rfl (by decide)
theorem E_igs : ElemTy Try.prog 47 59 4 48 := elem_of Try.underlying47 (z := .agg #[.int .u8 0, .int .u64 0, .int .u64 0, .slice none 0 0]) (by kernel_rfl) rfl (by decide)
theorem E_locs : ElemTy Try.prog 81 101 2 8 := elem_of Try.underlying81 (z := .agg #[.int .u32 0, .int .u8 0]) (by kernel_rfl) rfl (by decide)

/-- What a module holds. -/
structure Mo where
  ts : List (Ft)
  is : List (Im)
  fs : List (Nat)
  gs : List (Gl)
  es : List (Ex)
  els : List (El)
  cs : List (Cd)
  ds : List (Da)
  nd : List (List UInt8)
  st : Int
  d1 : Nat
  d2 : Nat
  d3 : Nat
  d4 : Nat
/-- Where its rows lie. -/
structure Ad where
  A0 : Option Addr
  c0 : Nat
  A1 : Option Addr
  c1 : Nat
  A2 : Option Addr
  c2 : Nat
  A5 : Option Addr
  c5 : Nat
  A6 : Option Addr
  c6 : Nat
  A8 : Option Addr
  c8 : Nat
  A9 : Option Addr
  c9 : Nat
  A10 : Option Addr
  c10 : Nat
  A16 : Option Addr
  c16 : Nat
/-- A module's cells. -/
def mdC (a : Ad) (s : Mo) : Array Value := #[.slice a.A0 s.ts.length a.c0, .slice a.A1 s.is.length a.c1, .slice a.A2 s.fs.length a.c2, .slice none 0 0, .slice none 0 0, .slice a.A5 s.gs.length a.c5, .slice a.A6 s.es.length a.c6, .int .i64 s.st, .slice a.A8 s.els.length a.c8, .slice a.A9 s.cs.length a.c9, .slice a.A10 s.ds.length a.c10, .bool true, .int .u32 (s.d1 : Int), .int .u32 (s.d2 : Int), .int .u32 (s.d3 : Int), .int .u32 (s.d4 : Int), .slice a.A16 s.nd.length a.c16]
/-- A maker's cells. -/
def mkC (a : Ad) (s : Mo) (tk vr : Int) : Array Value := #[.slice a.A0 s.ts.length a.c0, .slice a.A1 s.is.length a.c1, .slice a.A2 s.fs.length a.c2, .slice none 0 0, .slice none 0 0, .slice a.A5 s.gs.length a.c5, .slice a.A6 s.es.length a.c6, .int .i64 s.st, .slice a.A8 s.els.length a.c8, .slice a.A9 s.cs.length a.c9, .slice a.A10 s.ds.length a.c10, .bool true, .int .u32 (s.d1 : Int), .int .u32 (s.d2 : Int), .int .u32 (s.d3 : Int), .int .u32 (s.d4 : Int), .slice a.A16 s.nd.length a.c16, .int .i64 tk, .int .i64 vr, .bool false]
/-- The blocks of a maker. -/
def ftA (X : Nat) (a : Ad) : Nat → Prop := fun k => k = X ∨ blkOf a.A0 = some k ∨ blkOf a.A1 = some k ∨ blkOf a.A2 = some k ∨ blkOf a.A5 = some k ∨ blkOf a.A6 = some k ∨ blkOf a.A8 = some k ∨ blkOf a.A9 = some k ∨ blkOf a.A10 = some k ∨ blkOf a.A16 = some k
/-- A maker at block X. -/
structure Mk (w : World) (B X : Nat) (a : Ad) (s : Mo) (tk vr : Int) : Prop where
  blk : Blk w X 61 (mkC a s tk vr)
  o0 : w.ownsRow B 46 2 (.slice a.A0 s.ts.length a.c0) s.ts.length (fts s.ts)
  o1 : w.ownsRow B 67 9 (.slice a.A1 s.is.length a.c1) s.is.length (ims s.is)
  o2 : w.ownsRow B 36 1 (.slice a.A2 s.fs.length a.c2) s.fs.length (u32s s.fs)
  o5 : w.ownsRow B 73 6 (.slice a.A5 s.gs.length a.c5) s.gs.length (gls s.gs)
  o6 : w.ownsRow B 76 3 (.slice a.A6 s.es.length a.c6) s.es.length (exs s.es)
  o8 : w.ownsRow B 79 5 (.slice a.A8 s.els.length a.c8) s.els.length (elsL s.els)
  o9 : w.ownsRow B 83 2 (.slice a.A9 s.cs.length a.c9) s.cs.length (cdsL s.cs)
  o10 : w.ownsRow B 86 5 (.slice a.A10 s.ds.length a.c10) s.ds.length (das s.ds)
  o16 : w.ownsRow B 9 1 (.slice a.A16 s.nd.length a.c16) s.nd.length (strs s.nd)
  ge : B ≤ X
theorem otag {w : World} {A : Option Addr} {B n c m size : Nat} {e : TypeId} {l : List Value} {g : Nat} {t : TypeId} {cs : Array Value} (h : w.ownsRow B e size (.slice A m c) n l) (hg : Blk w g t cs) (hne : e ≠ t) : blkOf A ≠ some g := by
  have := own_tag h hg hne
  rwa [ownBlock_slice] at this
section
variable {w w1 : World} {B X : Nat} {a : Ad} {s : Mo} {tk vr : Int} {F : Nat → Prop}
theorem Mk.step (h : Mk w B X a s tk vr) (hs : Step F w w1) (hd : Apart (ftA X a) F) : Mk w1 B X a s tk vr :=
  ⟨h.blk.step hs (hd X (.inl rfl)), own_step h.o0 hs (fun k hk => hd k (.inr (.inl (by rwa [ownBlock_slice] at hk)))), own_step h.o1 hs (fun k hk => hd k (.inr (.inr (.inl (by rwa [ownBlock_slice] at hk))))), own_step h.o2 hs (fun k hk => hd k (.inr (.inr (.inr (.inl (by rwa [ownBlock_slice] at hk)))))), own_step h.o5 hs (fun k hk => hd k (.inr (.inr (.inr (.inr (.inl (by rwa [ownBlock_slice] at hk))))))), own_step h.o6 hs (fun k hk => hd k (.inr (.inr (.inr (.inr (.inr (.inl (by rwa [ownBlock_slice] at hk)))))))), own_step h.o8 hs (fun k hk => hd k (.inr (.inr (.inr (.inr (.inr (.inr (.inl (by rwa [ownBlock_slice] at hk))))))))), own_step h.o9 hs (fun k hk => hd k (.inr (.inr (.inr (.inr (.inr (.inr (.inr (.inl (by rwa [ownBlock_slice] at hk)))))))))), own_step h.o10 hs (fun k hk => hd k (.inr (.inr (.inr (.inr (.inr (.inr (.inr (.inr (.inl (by rwa [ownBlock_slice] at hk))))))))))), own_step h.o16 hs (fun k hk => hd k (.inr (.inr (.inr (.inr (.inr (.inr (.inr (.inr (.inr ((by rwa [ownBlock_slice] at hk)))))))))))), h.ge⟩
theorem Mk.quiet (h : Mk w B X a s tk vr) (hs : Step (fun _ => False) w w1) : Mk w1 B X a s tk vr := h.step hs apart_none
theorem Mk.in_ (h : Mk w B X a s tk vr) : In w (ftA X a) := fun k hk => by
  rcases hk with rfl | hk | hk | hk | hk | hk | hk | hk | hk | hk
  · exact h.blk.lt
  · exact own_lt h.o0 k (by rwa [ownBlock_slice])
  · exact own_lt h.o1 k (by rwa [ownBlock_slice])
  · exact own_lt h.o2 k (by rwa [ownBlock_slice])
  · exact own_lt h.o5 k (by rwa [ownBlock_slice])
  · exact own_lt h.o6 k (by rwa [ownBlock_slice])
  · exact own_lt h.o8 k (by rwa [ownBlock_slice])
  · exact own_lt h.o9 k (by rwa [ownBlock_slice])
  · exact own_lt h.o10 k (by rwa [ownBlock_slice])
  · exact own_lt h.o16 k (by rwa [ownBlock_slice])
theorem Mk.gef (h : Mk w B X a s tk vr) : ∀ k, ftA X a k → B ≤ k := fun k hk => by
  rcases hk with rfl | hk | hk | hk | hk | hk | hk | hk | hk | hk
  · exact h.ge
  · exact own_ge h.o0 k (by rwa [ownBlock_slice])
  · exact own_ge h.o1 k (by rwa [ownBlock_slice])
  · exact own_ge h.o2 k (by rwa [ownBlock_slice])
  · exact own_ge h.o5 k (by rwa [ownBlock_slice])
  · exact own_ge h.o6 k (by rwa [ownBlock_slice])
  · exact own_ge h.o8 k (by rwa [ownBlock_slice])
  · exact own_ge h.o9 k (by rwa [ownBlock_slice])
  · exact own_ge h.o10 k (by rwa [ownBlock_slice])
  · exact own_ge h.o16 k (by rwa [ownBlock_slice])
theorem Mk.put0 {A' : Option Addr} {c' : Nat} {l' : List (Ft)} (h : Mk w B X a s tk vr) (hs : Step (fun k => blkOf a.A0 = some k) w w1) (ho : w1.ownsRow B 46 2 (.slice A' l'.length c') l'.length (fts l')) (hA : ∀ k, blkOf A' = some k → blkOf a.A0 = some k ∨ w.heap.size ≤ k) :
    Mk (w1.setCell ⟨X, 0, none⟩ (.slice A' l'.length c')) B X { a with A0 := A', c0 := c' } { s with ts := l' } tk vr ∧ Upd w (ftA X a) (ftA X { a with A0 := A', c0 := c' }) (w1.setCell ⟨X, 0, none⟩ (.slice A' l'.length c')) := by
  have hX : blkOf a.A0 ≠ some X := otag h.o0 h.blk (by decide)
  have hb1 := h.blk.step hs hX
  have hX' : blkOf A' ≠ some X := fun e => by
    rcases hA X e with h1 | h1
    · exact hX h1
    · have := h.blk.lt; omega
  refine ⟨⟨?_, own_set ho (by rw [ownBlock_slice]; exact hX') _, own_set (own_step h.o1 hs (fun k hk e => own_tag2 h.o1 h.o0 (by decide) k hk (by rwa [ownBlock_slice]))) (by rw [ownBlock_slice]; exact otag h.o1 h.blk (by decide)) _, own_set (own_step h.o2 hs (fun k hk e => own_tag2 h.o2 h.o0 (by decide) k hk (by rwa [ownBlock_slice]))) (by rw [ownBlock_slice]; exact otag h.o2 h.blk (by decide)) _, own_set (own_step h.o5 hs (fun k hk e => own_tag2 h.o5 h.o0 (by decide) k hk (by rwa [ownBlock_slice]))) (by rw [ownBlock_slice]; exact otag h.o5 h.blk (by decide)) _, own_set (own_step h.o6 hs (fun k hk e => own_tag2 h.o6 h.o0 (by decide) k hk (by rwa [ownBlock_slice]))) (by rw [ownBlock_slice]; exact otag h.o6 h.blk (by decide)) _, own_set (own_step h.o8 hs (fun k hk e => own_tag2 h.o8 h.o0 (by decide) k hk (by rwa [ownBlock_slice]))) (by rw [ownBlock_slice]; exact otag h.o8 h.blk (by decide)) _, own_set (own_step h.o9 hs (fun k hk e => own_tag2 h.o9 h.o0 (by decide) k hk (by rwa [ownBlock_slice]))) (by rw [ownBlock_slice]; exact otag h.o9 h.blk (by decide)) _, own_set (own_step h.o10 hs (fun k hk e => own_tag2 h.o10 h.o0 (by decide) k hk (by rwa [ownBlock_slice]))) (by rw [ownBlock_slice]; exact otag h.o10 h.blk (by decide)) _, own_set (own_step h.o16 hs (fun k hk e => own_tag2 h.o16 h.o0 (by decide) k hk (by rwa [ownBlock_slice]))) (by rw [ownBlock_slice]; exact otag h.o16 h.blk (by decide)) _, h.ge⟩, (hs.mono fun k _ hk => .inr (.inl hk)).setCell (.inl (.inl rfl)) _, fun k hk => ?_⟩
  · have := hb1.set_ 0 (.slice A' l'.length c')
    simpa [mkC] using this
  · rcases hk with hk | hk | hk | hk | hk | hk | hk | hk | hk | hk
    · exact .inl (.inl hk)
    · rcases hA k hk with h1 | h1
      · exact .inl (.inr (.inl h1))
      · exact .inr h1
    · exact .inl (.inr (.inr (.inl hk)))
    · exact .inl (.inr (.inr (.inr (.inl hk))))
    · exact .inl (.inr (.inr (.inr (.inr (.inl hk)))))
    · exact .inl (.inr (.inr (.inr (.inr (.inr (.inl hk))))))
    · exact .inl (.inr (.inr (.inr (.inr (.inr (.inr (.inl hk)))))))
    · exact .inl (.inr (.inr (.inr (.inr (.inr (.inr (.inr (.inl hk))))))))
    · exact .inl (.inr (.inr (.inr (.inr (.inr (.inr (.inr (.inr (.inl hk)))))))))
    · exact .inl (.inr (.inr (.inr (.inr (.inr (.inr (.inr (.inr (.inr (hk))))))))))
theorem Mk.put1 {A' : Option Addr} {c' : Nat} {l' : List (Im)} (h : Mk w B X a s tk vr) (hs : Step (fun k => blkOf a.A1 = some k) w w1) (ho : w1.ownsRow B 67 9 (.slice A' l'.length c') l'.length (ims l')) (hA : ∀ k, blkOf A' = some k → blkOf a.A1 = some k ∨ w.heap.size ≤ k) :
    Mk (w1.setCell ⟨X, 1, none⟩ (.slice A' l'.length c')) B X { a with A1 := A', c1 := c' } { s with is := l' } tk vr ∧ Upd w (ftA X a) (ftA X { a with A1 := A', c1 := c' }) (w1.setCell ⟨X, 1, none⟩ (.slice A' l'.length c')) := by
  have hX : blkOf a.A1 ≠ some X := otag h.o1 h.blk (by decide)
  have hb1 := h.blk.step hs hX
  have hX' : blkOf A' ≠ some X := fun e => by
    rcases hA X e with h1 | h1
    · exact hX h1
    · have := h.blk.lt; omega
  refine ⟨⟨?_, own_set (own_step h.o0 hs (fun k hk e => own_tag2 h.o0 h.o1 (by decide) k hk (by rwa [ownBlock_slice]))) (by rw [ownBlock_slice]; exact otag h.o0 h.blk (by decide)) _, own_set ho (by rw [ownBlock_slice]; exact hX') _, own_set (own_step h.o2 hs (fun k hk e => own_tag2 h.o2 h.o1 (by decide) k hk (by rwa [ownBlock_slice]))) (by rw [ownBlock_slice]; exact otag h.o2 h.blk (by decide)) _, own_set (own_step h.o5 hs (fun k hk e => own_tag2 h.o5 h.o1 (by decide) k hk (by rwa [ownBlock_slice]))) (by rw [ownBlock_slice]; exact otag h.o5 h.blk (by decide)) _, own_set (own_step h.o6 hs (fun k hk e => own_tag2 h.o6 h.o1 (by decide) k hk (by rwa [ownBlock_slice]))) (by rw [ownBlock_slice]; exact otag h.o6 h.blk (by decide)) _, own_set (own_step h.o8 hs (fun k hk e => own_tag2 h.o8 h.o1 (by decide) k hk (by rwa [ownBlock_slice]))) (by rw [ownBlock_slice]; exact otag h.o8 h.blk (by decide)) _, own_set (own_step h.o9 hs (fun k hk e => own_tag2 h.o9 h.o1 (by decide) k hk (by rwa [ownBlock_slice]))) (by rw [ownBlock_slice]; exact otag h.o9 h.blk (by decide)) _, own_set (own_step h.o10 hs (fun k hk e => own_tag2 h.o10 h.o1 (by decide) k hk (by rwa [ownBlock_slice]))) (by rw [ownBlock_slice]; exact otag h.o10 h.blk (by decide)) _, own_set (own_step h.o16 hs (fun k hk e => own_tag2 h.o16 h.o1 (by decide) k hk (by rwa [ownBlock_slice]))) (by rw [ownBlock_slice]; exact otag h.o16 h.blk (by decide)) _, h.ge⟩, (hs.mono fun k _ hk => .inr (.inr (.inl hk))).setCell (.inl (.inl rfl)) _, fun k hk => ?_⟩
  · have := hb1.set_ 1 (.slice A' l'.length c')
    simpa [mkC] using this
  · rcases hk with hk | hk | hk | hk | hk | hk | hk | hk | hk | hk
    · exact .inl (.inl hk)
    · exact .inl (.inr (.inl hk))
    · rcases hA k hk with h1 | h1
      · exact .inl (.inr (.inr (.inl h1)))
      · exact .inr h1
    · exact .inl (.inr (.inr (.inr (.inl hk))))
    · exact .inl (.inr (.inr (.inr (.inr (.inl hk)))))
    · exact .inl (.inr (.inr (.inr (.inr (.inr (.inl hk))))))
    · exact .inl (.inr (.inr (.inr (.inr (.inr (.inr (.inl hk)))))))
    · exact .inl (.inr (.inr (.inr (.inr (.inr (.inr (.inr (.inl hk))))))))
    · exact .inl (.inr (.inr (.inr (.inr (.inr (.inr (.inr (.inr (.inl hk)))))))))
    · exact .inl (.inr (.inr (.inr (.inr (.inr (.inr (.inr (.inr (.inr (hk))))))))))
theorem Mk.put2 {A' : Option Addr} {c' : Nat} {l' : List (Nat)} (h : Mk w B X a s tk vr) (hs : Step (fun k => blkOf a.A2 = some k) w w1) (ho : w1.ownsRow B 36 1 (.slice A' l'.length c') l'.length (u32s l')) (hA : ∀ k, blkOf A' = some k → blkOf a.A2 = some k ∨ w.heap.size ≤ k) :
    Mk (w1.setCell ⟨X, 2, none⟩ (.slice A' l'.length c')) B X { a with A2 := A', c2 := c' } { s with fs := l' } tk vr ∧ Upd w (ftA X a) (ftA X { a with A2 := A', c2 := c' }) (w1.setCell ⟨X, 2, none⟩ (.slice A' l'.length c')) := by
  have hX : blkOf a.A2 ≠ some X := otag h.o2 h.blk (by decide)
  have hb1 := h.blk.step hs hX
  have hX' : blkOf A' ≠ some X := fun e => by
    rcases hA X e with h1 | h1
    · exact hX h1
    · have := h.blk.lt; omega
  refine ⟨⟨?_, own_set (own_step h.o0 hs (fun k hk e => own_tag2 h.o0 h.o2 (by decide) k hk (by rwa [ownBlock_slice]))) (by rw [ownBlock_slice]; exact otag h.o0 h.blk (by decide)) _, own_set (own_step h.o1 hs (fun k hk e => own_tag2 h.o1 h.o2 (by decide) k hk (by rwa [ownBlock_slice]))) (by rw [ownBlock_slice]; exact otag h.o1 h.blk (by decide)) _, own_set ho (by rw [ownBlock_slice]; exact hX') _, own_set (own_step h.o5 hs (fun k hk e => own_tag2 h.o5 h.o2 (by decide) k hk (by rwa [ownBlock_slice]))) (by rw [ownBlock_slice]; exact otag h.o5 h.blk (by decide)) _, own_set (own_step h.o6 hs (fun k hk e => own_tag2 h.o6 h.o2 (by decide) k hk (by rwa [ownBlock_slice]))) (by rw [ownBlock_slice]; exact otag h.o6 h.blk (by decide)) _, own_set (own_step h.o8 hs (fun k hk e => own_tag2 h.o8 h.o2 (by decide) k hk (by rwa [ownBlock_slice]))) (by rw [ownBlock_slice]; exact otag h.o8 h.blk (by decide)) _, own_set (own_step h.o9 hs (fun k hk e => own_tag2 h.o9 h.o2 (by decide) k hk (by rwa [ownBlock_slice]))) (by rw [ownBlock_slice]; exact otag h.o9 h.blk (by decide)) _, own_set (own_step h.o10 hs (fun k hk e => own_tag2 h.o10 h.o2 (by decide) k hk (by rwa [ownBlock_slice]))) (by rw [ownBlock_slice]; exact otag h.o10 h.blk (by decide)) _, own_set (own_step h.o16 hs (fun k hk e => own_tag2 h.o16 h.o2 (by decide) k hk (by rwa [ownBlock_slice]))) (by rw [ownBlock_slice]; exact otag h.o16 h.blk (by decide)) _, h.ge⟩, (hs.mono fun k _ hk => .inr (.inr (.inr (.inl hk)))).setCell (.inl (.inl rfl)) _, fun k hk => ?_⟩
  · have := hb1.set_ 2 (.slice A' l'.length c')
    simpa [mkC] using this
  · rcases hk with hk | hk | hk | hk | hk | hk | hk | hk | hk | hk
    · exact .inl (.inl hk)
    · exact .inl (.inr (.inl hk))
    · exact .inl (.inr (.inr (.inl hk)))
    · rcases hA k hk with h1 | h1
      · exact .inl (.inr (.inr (.inr (.inl h1))))
      · exact .inr h1
    · exact .inl (.inr (.inr (.inr (.inr (.inl hk)))))
    · exact .inl (.inr (.inr (.inr (.inr (.inr (.inl hk))))))
    · exact .inl (.inr (.inr (.inr (.inr (.inr (.inr (.inl hk)))))))
    · exact .inl (.inr (.inr (.inr (.inr (.inr (.inr (.inr (.inl hk))))))))
    · exact .inl (.inr (.inr (.inr (.inr (.inr (.inr (.inr (.inr (.inl hk)))))))))
    · exact .inl (.inr (.inr (.inr (.inr (.inr (.inr (.inr (.inr (.inr (hk))))))))))
theorem Mk.put5 {A' : Option Addr} {c' : Nat} {l' : List (Gl)} (h : Mk w B X a s tk vr) (hs : Step (fun k => blkOf a.A5 = some k) w w1) (ho : w1.ownsRow B 73 6 (.slice A' l'.length c') l'.length (gls l')) (hA : ∀ k, blkOf A' = some k → blkOf a.A5 = some k ∨ w.heap.size ≤ k) :
    Mk (w1.setCell ⟨X, 5, none⟩ (.slice A' l'.length c')) B X { a with A5 := A', c5 := c' } { s with gs := l' } tk vr ∧ Upd w (ftA X a) (ftA X { a with A5 := A', c5 := c' }) (w1.setCell ⟨X, 5, none⟩ (.slice A' l'.length c')) := by
  have hX : blkOf a.A5 ≠ some X := otag h.o5 h.blk (by decide)
  have hb1 := h.blk.step hs hX
  have hX' : blkOf A' ≠ some X := fun e => by
    rcases hA X e with h1 | h1
    · exact hX h1
    · have := h.blk.lt; omega
  refine ⟨⟨?_, own_set (own_step h.o0 hs (fun k hk e => own_tag2 h.o0 h.o5 (by decide) k hk (by rwa [ownBlock_slice]))) (by rw [ownBlock_slice]; exact otag h.o0 h.blk (by decide)) _, own_set (own_step h.o1 hs (fun k hk e => own_tag2 h.o1 h.o5 (by decide) k hk (by rwa [ownBlock_slice]))) (by rw [ownBlock_slice]; exact otag h.o1 h.blk (by decide)) _, own_set (own_step h.o2 hs (fun k hk e => own_tag2 h.o2 h.o5 (by decide) k hk (by rwa [ownBlock_slice]))) (by rw [ownBlock_slice]; exact otag h.o2 h.blk (by decide)) _, own_set ho (by rw [ownBlock_slice]; exact hX') _, own_set (own_step h.o6 hs (fun k hk e => own_tag2 h.o6 h.o5 (by decide) k hk (by rwa [ownBlock_slice]))) (by rw [ownBlock_slice]; exact otag h.o6 h.blk (by decide)) _, own_set (own_step h.o8 hs (fun k hk e => own_tag2 h.o8 h.o5 (by decide) k hk (by rwa [ownBlock_slice]))) (by rw [ownBlock_slice]; exact otag h.o8 h.blk (by decide)) _, own_set (own_step h.o9 hs (fun k hk e => own_tag2 h.o9 h.o5 (by decide) k hk (by rwa [ownBlock_slice]))) (by rw [ownBlock_slice]; exact otag h.o9 h.blk (by decide)) _, own_set (own_step h.o10 hs (fun k hk e => own_tag2 h.o10 h.o5 (by decide) k hk (by rwa [ownBlock_slice]))) (by rw [ownBlock_slice]; exact otag h.o10 h.blk (by decide)) _, own_set (own_step h.o16 hs (fun k hk e => own_tag2 h.o16 h.o5 (by decide) k hk (by rwa [ownBlock_slice]))) (by rw [ownBlock_slice]; exact otag h.o16 h.blk (by decide)) _, h.ge⟩, (hs.mono fun k _ hk => .inr (.inr (.inr (.inr (.inl hk))))).setCell (.inl (.inl rfl)) _, fun k hk => ?_⟩
  · have := hb1.set_ 5 (.slice A' l'.length c')
    simpa [mkC] using this
  · rcases hk with hk | hk | hk | hk | hk | hk | hk | hk | hk | hk
    · exact .inl (.inl hk)
    · exact .inl (.inr (.inl hk))
    · exact .inl (.inr (.inr (.inl hk)))
    · exact .inl (.inr (.inr (.inr (.inl hk))))
    · rcases hA k hk with h1 | h1
      · exact .inl (.inr (.inr (.inr (.inr (.inl h1)))))
      · exact .inr h1
    · exact .inl (.inr (.inr (.inr (.inr (.inr (.inl hk))))))
    · exact .inl (.inr (.inr (.inr (.inr (.inr (.inr (.inl hk)))))))
    · exact .inl (.inr (.inr (.inr (.inr (.inr (.inr (.inr (.inl hk))))))))
    · exact .inl (.inr (.inr (.inr (.inr (.inr (.inr (.inr (.inr (.inl hk)))))))))
    · exact .inl (.inr (.inr (.inr (.inr (.inr (.inr (.inr (.inr (.inr (hk))))))))))
theorem Mk.put6 {A' : Option Addr} {c' : Nat} {l' : List (Ex)} (h : Mk w B X a s tk vr) (hs : Step (fun k => blkOf a.A6 = some k) w w1) (ho : w1.ownsRow B 76 3 (.slice A' l'.length c') l'.length (exs l')) (hA : ∀ k, blkOf A' = some k → blkOf a.A6 = some k ∨ w.heap.size ≤ k) :
    Mk (w1.setCell ⟨X, 6, none⟩ (.slice A' l'.length c')) B X { a with A6 := A', c6 := c' } { s with es := l' } tk vr ∧ Upd w (ftA X a) (ftA X { a with A6 := A', c6 := c' }) (w1.setCell ⟨X, 6, none⟩ (.slice A' l'.length c')) := by
  have hX : blkOf a.A6 ≠ some X := otag h.o6 h.blk (by decide)
  have hb1 := h.blk.step hs hX
  have hX' : blkOf A' ≠ some X := fun e => by
    rcases hA X e with h1 | h1
    · exact hX h1
    · have := h.blk.lt; omega
  refine ⟨⟨?_, own_set (own_step h.o0 hs (fun k hk e => own_tag2 h.o0 h.o6 (by decide) k hk (by rwa [ownBlock_slice]))) (by rw [ownBlock_slice]; exact otag h.o0 h.blk (by decide)) _, own_set (own_step h.o1 hs (fun k hk e => own_tag2 h.o1 h.o6 (by decide) k hk (by rwa [ownBlock_slice]))) (by rw [ownBlock_slice]; exact otag h.o1 h.blk (by decide)) _, own_set (own_step h.o2 hs (fun k hk e => own_tag2 h.o2 h.o6 (by decide) k hk (by rwa [ownBlock_slice]))) (by rw [ownBlock_slice]; exact otag h.o2 h.blk (by decide)) _, own_set (own_step h.o5 hs (fun k hk e => own_tag2 h.o5 h.o6 (by decide) k hk (by rwa [ownBlock_slice]))) (by rw [ownBlock_slice]; exact otag h.o5 h.blk (by decide)) _, own_set ho (by rw [ownBlock_slice]; exact hX') _, own_set (own_step h.o8 hs (fun k hk e => own_tag2 h.o8 h.o6 (by decide) k hk (by rwa [ownBlock_slice]))) (by rw [ownBlock_slice]; exact otag h.o8 h.blk (by decide)) _, own_set (own_step h.o9 hs (fun k hk e => own_tag2 h.o9 h.o6 (by decide) k hk (by rwa [ownBlock_slice]))) (by rw [ownBlock_slice]; exact otag h.o9 h.blk (by decide)) _, own_set (own_step h.o10 hs (fun k hk e => own_tag2 h.o10 h.o6 (by decide) k hk (by rwa [ownBlock_slice]))) (by rw [ownBlock_slice]; exact otag h.o10 h.blk (by decide)) _, own_set (own_step h.o16 hs (fun k hk e => own_tag2 h.o16 h.o6 (by decide) k hk (by rwa [ownBlock_slice]))) (by rw [ownBlock_slice]; exact otag h.o16 h.blk (by decide)) _, h.ge⟩, (hs.mono fun k _ hk => .inr (.inr (.inr (.inr (.inr (.inl hk)))))).setCell (.inl (.inl rfl)) _, fun k hk => ?_⟩
  · have := hb1.set_ 6 (.slice A' l'.length c')
    simpa [mkC] using this
  · rcases hk with hk | hk | hk | hk | hk | hk | hk | hk | hk | hk
    · exact .inl (.inl hk)
    · exact .inl (.inr (.inl hk))
    · exact .inl (.inr (.inr (.inl hk)))
    · exact .inl (.inr (.inr (.inr (.inl hk))))
    · exact .inl (.inr (.inr (.inr (.inr (.inl hk)))))
    · rcases hA k hk with h1 | h1
      · exact .inl (.inr (.inr (.inr (.inr (.inr (.inl h1))))))
      · exact .inr h1
    · exact .inl (.inr (.inr (.inr (.inr (.inr (.inr (.inl hk)))))))
    · exact .inl (.inr (.inr (.inr (.inr (.inr (.inr (.inr (.inl hk))))))))
    · exact .inl (.inr (.inr (.inr (.inr (.inr (.inr (.inr (.inr (.inl hk)))))))))
    · exact .inl (.inr (.inr (.inr (.inr (.inr (.inr (.inr (.inr (.inr (hk))))))))))
theorem Mk.put8 {A' : Option Addr} {c' : Nat} {l' : List (El)} (h : Mk w B X a s tk vr) (hs : Step (fun k => blkOf a.A8 = some k) w w1) (ho : w1.ownsRow B 79 5 (.slice A' l'.length c') l'.length (elsL l')) (hA : ∀ k, blkOf A' = some k → blkOf a.A8 = some k ∨ w.heap.size ≤ k) :
    Mk (w1.setCell ⟨X, 8, none⟩ (.slice A' l'.length c')) B X { a with A8 := A', c8 := c' } { s with els := l' } tk vr ∧ Upd w (ftA X a) (ftA X { a with A8 := A', c8 := c' }) (w1.setCell ⟨X, 8, none⟩ (.slice A' l'.length c')) := by
  have hX : blkOf a.A8 ≠ some X := otag h.o8 h.blk (by decide)
  have hb1 := h.blk.step hs hX
  have hX' : blkOf A' ≠ some X := fun e => by
    rcases hA X e with h1 | h1
    · exact hX h1
    · have := h.blk.lt; omega
  refine ⟨⟨?_, own_set (own_step h.o0 hs (fun k hk e => own_tag2 h.o0 h.o8 (by decide) k hk (by rwa [ownBlock_slice]))) (by rw [ownBlock_slice]; exact otag h.o0 h.blk (by decide)) _, own_set (own_step h.o1 hs (fun k hk e => own_tag2 h.o1 h.o8 (by decide) k hk (by rwa [ownBlock_slice]))) (by rw [ownBlock_slice]; exact otag h.o1 h.blk (by decide)) _, own_set (own_step h.o2 hs (fun k hk e => own_tag2 h.o2 h.o8 (by decide) k hk (by rwa [ownBlock_slice]))) (by rw [ownBlock_slice]; exact otag h.o2 h.blk (by decide)) _, own_set (own_step h.o5 hs (fun k hk e => own_tag2 h.o5 h.o8 (by decide) k hk (by rwa [ownBlock_slice]))) (by rw [ownBlock_slice]; exact otag h.o5 h.blk (by decide)) _, own_set (own_step h.o6 hs (fun k hk e => own_tag2 h.o6 h.o8 (by decide) k hk (by rwa [ownBlock_slice]))) (by rw [ownBlock_slice]; exact otag h.o6 h.blk (by decide)) _, own_set ho (by rw [ownBlock_slice]; exact hX') _, own_set (own_step h.o9 hs (fun k hk e => own_tag2 h.o9 h.o8 (by decide) k hk (by rwa [ownBlock_slice]))) (by rw [ownBlock_slice]; exact otag h.o9 h.blk (by decide)) _, own_set (own_step h.o10 hs (fun k hk e => own_tag2 h.o10 h.o8 (by decide) k hk (by rwa [ownBlock_slice]))) (by rw [ownBlock_slice]; exact otag h.o10 h.blk (by decide)) _, own_set (own_step h.o16 hs (fun k hk e => own_tag2 h.o16 h.o8 (by decide) k hk (by rwa [ownBlock_slice]))) (by rw [ownBlock_slice]; exact otag h.o16 h.blk (by decide)) _, h.ge⟩, (hs.mono fun k _ hk => .inr (.inr (.inr (.inr (.inr (.inr (.inl hk))))))).setCell (.inl (.inl rfl)) _, fun k hk => ?_⟩
  · have := hb1.set_ 8 (.slice A' l'.length c')
    simpa [mkC] using this
  · rcases hk with hk | hk | hk | hk | hk | hk | hk | hk | hk | hk
    · exact .inl (.inl hk)
    · exact .inl (.inr (.inl hk))
    · exact .inl (.inr (.inr (.inl hk)))
    · exact .inl (.inr (.inr (.inr (.inl hk))))
    · exact .inl (.inr (.inr (.inr (.inr (.inl hk)))))
    · exact .inl (.inr (.inr (.inr (.inr (.inr (.inl hk))))))
    · rcases hA k hk with h1 | h1
      · exact .inl (.inr (.inr (.inr (.inr (.inr (.inr (.inl h1)))))))
      · exact .inr h1
    · exact .inl (.inr (.inr (.inr (.inr (.inr (.inr (.inr (.inl hk))))))))
    · exact .inl (.inr (.inr (.inr (.inr (.inr (.inr (.inr (.inr (.inl hk)))))))))
    · exact .inl (.inr (.inr (.inr (.inr (.inr (.inr (.inr (.inr (.inr (hk))))))))))
theorem Mk.put9 {A' : Option Addr} {c' : Nat} {l' : List (Cd)} (h : Mk w B X a s tk vr) (hs : Step (fun k => blkOf a.A9 = some k) w w1) (ho : w1.ownsRow B 83 2 (.slice A' l'.length c') l'.length (cdsL l')) (hA : ∀ k, blkOf A' = some k → blkOf a.A9 = some k ∨ w.heap.size ≤ k) :
    Mk (w1.setCell ⟨X, 9, none⟩ (.slice A' l'.length c')) B X { a with A9 := A', c9 := c' } { s with cs := l' } tk vr ∧ Upd w (ftA X a) (ftA X { a with A9 := A', c9 := c' }) (w1.setCell ⟨X, 9, none⟩ (.slice A' l'.length c')) := by
  have hX : blkOf a.A9 ≠ some X := otag h.o9 h.blk (by decide)
  have hb1 := h.blk.step hs hX
  have hX' : blkOf A' ≠ some X := fun e => by
    rcases hA X e with h1 | h1
    · exact hX h1
    · have := h.blk.lt; omega
  refine ⟨⟨?_, own_set (own_step h.o0 hs (fun k hk e => own_tag2 h.o0 h.o9 (by decide) k hk (by rwa [ownBlock_slice]))) (by rw [ownBlock_slice]; exact otag h.o0 h.blk (by decide)) _, own_set (own_step h.o1 hs (fun k hk e => own_tag2 h.o1 h.o9 (by decide) k hk (by rwa [ownBlock_slice]))) (by rw [ownBlock_slice]; exact otag h.o1 h.blk (by decide)) _, own_set (own_step h.o2 hs (fun k hk e => own_tag2 h.o2 h.o9 (by decide) k hk (by rwa [ownBlock_slice]))) (by rw [ownBlock_slice]; exact otag h.o2 h.blk (by decide)) _, own_set (own_step h.o5 hs (fun k hk e => own_tag2 h.o5 h.o9 (by decide) k hk (by rwa [ownBlock_slice]))) (by rw [ownBlock_slice]; exact otag h.o5 h.blk (by decide)) _, own_set (own_step h.o6 hs (fun k hk e => own_tag2 h.o6 h.o9 (by decide) k hk (by rwa [ownBlock_slice]))) (by rw [ownBlock_slice]; exact otag h.o6 h.blk (by decide)) _, own_set (own_step h.o8 hs (fun k hk e => own_tag2 h.o8 h.o9 (by decide) k hk (by rwa [ownBlock_slice]))) (by rw [ownBlock_slice]; exact otag h.o8 h.blk (by decide)) _, own_set ho (by rw [ownBlock_slice]; exact hX') _, own_set (own_step h.o10 hs (fun k hk e => own_tag2 h.o10 h.o9 (by decide) k hk (by rwa [ownBlock_slice]))) (by rw [ownBlock_slice]; exact otag h.o10 h.blk (by decide)) _, own_set (own_step h.o16 hs (fun k hk e => own_tag2 h.o16 h.o9 (by decide) k hk (by rwa [ownBlock_slice]))) (by rw [ownBlock_slice]; exact otag h.o16 h.blk (by decide)) _, h.ge⟩, (hs.mono fun k _ hk => .inr (.inr (.inr (.inr (.inr (.inr (.inr (.inl hk)))))))).setCell (.inl (.inl rfl)) _, fun k hk => ?_⟩
  · have := hb1.set_ 9 (.slice A' l'.length c')
    simpa [mkC] using this
  · rcases hk with hk | hk | hk | hk | hk | hk | hk | hk | hk | hk
    · exact .inl (.inl hk)
    · exact .inl (.inr (.inl hk))
    · exact .inl (.inr (.inr (.inl hk)))
    · exact .inl (.inr (.inr (.inr (.inl hk))))
    · exact .inl (.inr (.inr (.inr (.inr (.inl hk)))))
    · exact .inl (.inr (.inr (.inr (.inr (.inr (.inl hk))))))
    · exact .inl (.inr (.inr (.inr (.inr (.inr (.inr (.inl hk)))))))
    · rcases hA k hk with h1 | h1
      · exact .inl (.inr (.inr (.inr (.inr (.inr (.inr (.inr (.inl h1))))))))
      · exact .inr h1
    · exact .inl (.inr (.inr (.inr (.inr (.inr (.inr (.inr (.inr (.inl hk)))))))))
    · exact .inl (.inr (.inr (.inr (.inr (.inr (.inr (.inr (.inr (.inr (hk))))))))))
theorem Mk.put10 {A' : Option Addr} {c' : Nat} {l' : List (Da)} (h : Mk w B X a s tk vr) (hs : Step (fun k => blkOf a.A10 = some k) w w1) (ho : w1.ownsRow B 86 5 (.slice A' l'.length c') l'.length (das l')) (hA : ∀ k, blkOf A' = some k → blkOf a.A10 = some k ∨ w.heap.size ≤ k) :
    Mk (w1.setCell ⟨X, 10, none⟩ (.slice A' l'.length c')) B X { a with A10 := A', c10 := c' } { s with ds := l' } tk vr ∧ Upd w (ftA X a) (ftA X { a with A10 := A', c10 := c' }) (w1.setCell ⟨X, 10, none⟩ (.slice A' l'.length c')) := by
  have hX : blkOf a.A10 ≠ some X := otag h.o10 h.blk (by decide)
  have hb1 := h.blk.step hs hX
  have hX' : blkOf A' ≠ some X := fun e => by
    rcases hA X e with h1 | h1
    · exact hX h1
    · have := h.blk.lt; omega
  refine ⟨⟨?_, own_set (own_step h.o0 hs (fun k hk e => own_tag2 h.o0 h.o10 (by decide) k hk (by rwa [ownBlock_slice]))) (by rw [ownBlock_slice]; exact otag h.o0 h.blk (by decide)) _, own_set (own_step h.o1 hs (fun k hk e => own_tag2 h.o1 h.o10 (by decide) k hk (by rwa [ownBlock_slice]))) (by rw [ownBlock_slice]; exact otag h.o1 h.blk (by decide)) _, own_set (own_step h.o2 hs (fun k hk e => own_tag2 h.o2 h.o10 (by decide) k hk (by rwa [ownBlock_slice]))) (by rw [ownBlock_slice]; exact otag h.o2 h.blk (by decide)) _, own_set (own_step h.o5 hs (fun k hk e => own_tag2 h.o5 h.o10 (by decide) k hk (by rwa [ownBlock_slice]))) (by rw [ownBlock_slice]; exact otag h.o5 h.blk (by decide)) _, own_set (own_step h.o6 hs (fun k hk e => own_tag2 h.o6 h.o10 (by decide) k hk (by rwa [ownBlock_slice]))) (by rw [ownBlock_slice]; exact otag h.o6 h.blk (by decide)) _, own_set (own_step h.o8 hs (fun k hk e => own_tag2 h.o8 h.o10 (by decide) k hk (by rwa [ownBlock_slice]))) (by rw [ownBlock_slice]; exact otag h.o8 h.blk (by decide)) _, own_set (own_step h.o9 hs (fun k hk e => own_tag2 h.o9 h.o10 (by decide) k hk (by rwa [ownBlock_slice]))) (by rw [ownBlock_slice]; exact otag h.o9 h.blk (by decide)) _, own_set ho (by rw [ownBlock_slice]; exact hX') _, own_set (own_step h.o16 hs (fun k hk e => own_tag2 h.o16 h.o10 (by decide) k hk (by rwa [ownBlock_slice]))) (by rw [ownBlock_slice]; exact otag h.o16 h.blk (by decide)) _, h.ge⟩, (hs.mono fun k _ hk => .inr (.inr (.inr (.inr (.inr (.inr (.inr (.inr (.inl hk))))))))).setCell (.inl (.inl rfl)) _, fun k hk => ?_⟩
  · have := hb1.set_ 10 (.slice A' l'.length c')
    simpa [mkC] using this
  · rcases hk with hk | hk | hk | hk | hk | hk | hk | hk | hk | hk
    · exact .inl (.inl hk)
    · exact .inl (.inr (.inl hk))
    · exact .inl (.inr (.inr (.inl hk)))
    · exact .inl (.inr (.inr (.inr (.inl hk))))
    · exact .inl (.inr (.inr (.inr (.inr (.inl hk)))))
    · exact .inl (.inr (.inr (.inr (.inr (.inr (.inl hk))))))
    · exact .inl (.inr (.inr (.inr (.inr (.inr (.inr (.inl hk)))))))
    · exact .inl (.inr (.inr (.inr (.inr (.inr (.inr (.inr (.inl hk))))))))
    · rcases hA k hk with h1 | h1
      · exact .inl (.inr (.inr (.inr (.inr (.inr (.inr (.inr (.inr (.inl h1)))))))))
      · exact .inr h1
    · exact .inl (.inr (.inr (.inr (.inr (.inr (.inr (.inr (.inr (.inr (hk))))))))))
theorem Mk.put16 {A' : Option Addr} {c' : Nat} {l' : List (List UInt8)} (h : Mk w B X a s tk vr) (hs : Step (fun k => blkOf a.A16 = some k) w w1) (ho : w1.ownsRow B 9 1 (.slice A' l'.length c') l'.length (strs l')) (hA : ∀ k, blkOf A' = some k → blkOf a.A16 = some k ∨ w.heap.size ≤ k) :
    Mk (w1.setCell ⟨X, 16, none⟩ (.slice A' l'.length c')) B X { a with A16 := A', c16 := c' } { s with nd := l' } tk vr ∧ Upd w (ftA X a) (ftA X { a with A16 := A', c16 := c' }) (w1.setCell ⟨X, 16, none⟩ (.slice A' l'.length c')) := by
  have hX : blkOf a.A16 ≠ some X := otag h.o16 h.blk (by decide)
  have hb1 := h.blk.step hs hX
  have hX' : blkOf A' ≠ some X := fun e => by
    rcases hA X e with h1 | h1
    · exact hX h1
    · have := h.blk.lt; omega
  refine ⟨⟨?_, own_set (own_step h.o0 hs (fun k hk e => own_tag2 h.o0 h.o16 (by decide) k hk (by rwa [ownBlock_slice]))) (by rw [ownBlock_slice]; exact otag h.o0 h.blk (by decide)) _, own_set (own_step h.o1 hs (fun k hk e => own_tag2 h.o1 h.o16 (by decide) k hk (by rwa [ownBlock_slice]))) (by rw [ownBlock_slice]; exact otag h.o1 h.blk (by decide)) _, own_set (own_step h.o2 hs (fun k hk e => own_tag2 h.o2 h.o16 (by decide) k hk (by rwa [ownBlock_slice]))) (by rw [ownBlock_slice]; exact otag h.o2 h.blk (by decide)) _, own_set (own_step h.o5 hs (fun k hk e => own_tag2 h.o5 h.o16 (by decide) k hk (by rwa [ownBlock_slice]))) (by rw [ownBlock_slice]; exact otag h.o5 h.blk (by decide)) _, own_set (own_step h.o6 hs (fun k hk e => own_tag2 h.o6 h.o16 (by decide) k hk (by rwa [ownBlock_slice]))) (by rw [ownBlock_slice]; exact otag h.o6 h.blk (by decide)) _, own_set (own_step h.o8 hs (fun k hk e => own_tag2 h.o8 h.o16 (by decide) k hk (by rwa [ownBlock_slice]))) (by rw [ownBlock_slice]; exact otag h.o8 h.blk (by decide)) _, own_set (own_step h.o9 hs (fun k hk e => own_tag2 h.o9 h.o16 (by decide) k hk (by rwa [ownBlock_slice]))) (by rw [ownBlock_slice]; exact otag h.o9 h.blk (by decide)) _, own_set (own_step h.o10 hs (fun k hk e => own_tag2 h.o10 h.o16 (by decide) k hk (by rwa [ownBlock_slice]))) (by rw [ownBlock_slice]; exact otag h.o10 h.blk (by decide)) _, own_set ho (by rw [ownBlock_slice]; exact hX') _, h.ge⟩, (hs.mono fun k _ hk => .inr (.inr (.inr (.inr (.inr (.inr (.inr (.inr (.inr (hk)))))))))).setCell (.inl (.inl rfl)) _, fun k hk => ?_⟩
  · have := hb1.set_ 16 (.slice A' l'.length c')
    simpa [mkC] using this
  · rcases hk with hk | hk | hk | hk | hk | hk | hk | hk | hk | hk
    · exact .inl (.inl hk)
    · exact .inl (.inr (.inl hk))
    · exact .inl (.inr (.inr (.inl hk)))
    · exact .inl (.inr (.inr (.inr (.inl hk))))
    · exact .inl (.inr (.inr (.inr (.inr (.inl hk)))))
    · exact .inl (.inr (.inr (.inr (.inr (.inr (.inl hk))))))
    · exact .inl (.inr (.inr (.inr (.inr (.inr (.inr (.inl hk)))))))
    · exact .inl (.inr (.inr (.inr (.inr (.inr (.inr (.inr (.inl hk))))))))
    · exact .inl (.inr (.inr (.inr (.inr (.inr (.inr (.inr (.inr (.inl hk)))))))))
    · rcases hA k hk with h1 | h1
      · exact .inl (.inr (.inr (.inr (.inr (.inr (.inr (.inr (.inr (.inr (h1))))))))))
      · exact .inr h1
theorem Mk.z0 (h : Mk w B X a s tk vr) (hg : w.grownBy w1 (blkOf a.A0)) : w1.frozen? ⟨X, 0, none⟩ = false ∧ w1.cell? ⟨X, 0, none⟩ = some (.slice a.A0 s.ts.length a.c0) := by
  have hb := h.blk.step (Step.grown (F := fun k => blkOf a.A0 = some k) Step.refl hg (fun k hk => .inl hk)) (otag h.o0 h.blk (by decide))
  have c := hb.cell 0
  simp [mkC] at c
  exact ⟨hb.frozen 0, c⟩
theorem Mk.zz0 (h : Mk w B X a s tk vr) (hg : w.grownBy w1 (blkOf a.A0)) (j : Nat) : w1.frozen? ⟨X, j, none⟩ = false ∧ w1.cell? ⟨X, j, none⟩ = (mkC a s tk vr)[j]? := by
  have hb := h.blk.step (Step.grown (F := fun k => blkOf a.A0 = some k) Step.refl hg (fun k hk => .inl hk)) (otag h.o0 h.blk (by decide))
  exact ⟨hb.frozen j, hb.cell j⟩
theorem Mk.z1 (h : Mk w B X a s tk vr) (hg : w.grownBy w1 (blkOf a.A1)) : w1.frozen? ⟨X, 1, none⟩ = false ∧ w1.cell? ⟨X, 1, none⟩ = some (.slice a.A1 s.is.length a.c1) := by
  have hb := h.blk.step (Step.grown (F := fun k => blkOf a.A1 = some k) Step.refl hg (fun k hk => .inl hk)) (otag h.o1 h.blk (by decide))
  have c := hb.cell 1
  simp [mkC] at c
  exact ⟨hb.frozen 1, c⟩
theorem Mk.zz1 (h : Mk w B X a s tk vr) (hg : w.grownBy w1 (blkOf a.A1)) (j : Nat) : w1.frozen? ⟨X, j, none⟩ = false ∧ w1.cell? ⟨X, j, none⟩ = (mkC a s tk vr)[j]? := by
  have hb := h.blk.step (Step.grown (F := fun k => blkOf a.A1 = some k) Step.refl hg (fun k hk => .inl hk)) (otag h.o1 h.blk (by decide))
  exact ⟨hb.frozen j, hb.cell j⟩
theorem Mk.z2 (h : Mk w B X a s tk vr) (hg : w.grownBy w1 (blkOf a.A2)) : w1.frozen? ⟨X, 2, none⟩ = false ∧ w1.cell? ⟨X, 2, none⟩ = some (.slice a.A2 s.fs.length a.c2) := by
  have hb := h.blk.step (Step.grown (F := fun k => blkOf a.A2 = some k) Step.refl hg (fun k hk => .inl hk)) (otag h.o2 h.blk (by decide))
  have c := hb.cell 2
  simp [mkC] at c
  exact ⟨hb.frozen 2, c⟩
theorem Mk.zz2 (h : Mk w B X a s tk vr) (hg : w.grownBy w1 (blkOf a.A2)) (j : Nat) : w1.frozen? ⟨X, j, none⟩ = false ∧ w1.cell? ⟨X, j, none⟩ = (mkC a s tk vr)[j]? := by
  have hb := h.blk.step (Step.grown (F := fun k => blkOf a.A2 = some k) Step.refl hg (fun k hk => .inl hk)) (otag h.o2 h.blk (by decide))
  exact ⟨hb.frozen j, hb.cell j⟩
theorem Mk.z5 (h : Mk w B X a s tk vr) (hg : w.grownBy w1 (blkOf a.A5)) : w1.frozen? ⟨X, 5, none⟩ = false ∧ w1.cell? ⟨X, 5, none⟩ = some (.slice a.A5 s.gs.length a.c5) := by
  have hb := h.blk.step (Step.grown (F := fun k => blkOf a.A5 = some k) Step.refl hg (fun k hk => .inl hk)) (otag h.o5 h.blk (by decide))
  have c := hb.cell 5
  simp [mkC] at c
  exact ⟨hb.frozen 5, c⟩
theorem Mk.zz5 (h : Mk w B X a s tk vr) (hg : w.grownBy w1 (blkOf a.A5)) (j : Nat) : w1.frozen? ⟨X, j, none⟩ = false ∧ w1.cell? ⟨X, j, none⟩ = (mkC a s tk vr)[j]? := by
  have hb := h.blk.step (Step.grown (F := fun k => blkOf a.A5 = some k) Step.refl hg (fun k hk => .inl hk)) (otag h.o5 h.blk (by decide))
  exact ⟨hb.frozen j, hb.cell j⟩
theorem Mk.z6 (h : Mk w B X a s tk vr) (hg : w.grownBy w1 (blkOf a.A6)) : w1.frozen? ⟨X, 6, none⟩ = false ∧ w1.cell? ⟨X, 6, none⟩ = some (.slice a.A6 s.es.length a.c6) := by
  have hb := h.blk.step (Step.grown (F := fun k => blkOf a.A6 = some k) Step.refl hg (fun k hk => .inl hk)) (otag h.o6 h.blk (by decide))
  have c := hb.cell 6
  simp [mkC] at c
  exact ⟨hb.frozen 6, c⟩
theorem Mk.zz6 (h : Mk w B X a s tk vr) (hg : w.grownBy w1 (blkOf a.A6)) (j : Nat) : w1.frozen? ⟨X, j, none⟩ = false ∧ w1.cell? ⟨X, j, none⟩ = (mkC a s tk vr)[j]? := by
  have hb := h.blk.step (Step.grown (F := fun k => blkOf a.A6 = some k) Step.refl hg (fun k hk => .inl hk)) (otag h.o6 h.blk (by decide))
  exact ⟨hb.frozen j, hb.cell j⟩
theorem Mk.z8 (h : Mk w B X a s tk vr) (hg : w.grownBy w1 (blkOf a.A8)) : w1.frozen? ⟨X, 8, none⟩ = false ∧ w1.cell? ⟨X, 8, none⟩ = some (.slice a.A8 s.els.length a.c8) := by
  have hb := h.blk.step (Step.grown (F := fun k => blkOf a.A8 = some k) Step.refl hg (fun k hk => .inl hk)) (otag h.o8 h.blk (by decide))
  have c := hb.cell 8
  simp [mkC] at c
  exact ⟨hb.frozen 8, c⟩
theorem Mk.zz8 (h : Mk w B X a s tk vr) (hg : w.grownBy w1 (blkOf a.A8)) (j : Nat) : w1.frozen? ⟨X, j, none⟩ = false ∧ w1.cell? ⟨X, j, none⟩ = (mkC a s tk vr)[j]? := by
  have hb := h.blk.step (Step.grown (F := fun k => blkOf a.A8 = some k) Step.refl hg (fun k hk => .inl hk)) (otag h.o8 h.blk (by decide))
  exact ⟨hb.frozen j, hb.cell j⟩
theorem Mk.z9 (h : Mk w B X a s tk vr) (hg : w.grownBy w1 (blkOf a.A9)) : w1.frozen? ⟨X, 9, none⟩ = false ∧ w1.cell? ⟨X, 9, none⟩ = some (.slice a.A9 s.cs.length a.c9) := by
  have hb := h.blk.step (Step.grown (F := fun k => blkOf a.A9 = some k) Step.refl hg (fun k hk => .inl hk)) (otag h.o9 h.blk (by decide))
  have c := hb.cell 9
  simp [mkC] at c
  exact ⟨hb.frozen 9, c⟩
theorem Mk.zz9 (h : Mk w B X a s tk vr) (hg : w.grownBy w1 (blkOf a.A9)) (j : Nat) : w1.frozen? ⟨X, j, none⟩ = false ∧ w1.cell? ⟨X, j, none⟩ = (mkC a s tk vr)[j]? := by
  have hb := h.blk.step (Step.grown (F := fun k => blkOf a.A9 = some k) Step.refl hg (fun k hk => .inl hk)) (otag h.o9 h.blk (by decide))
  exact ⟨hb.frozen j, hb.cell j⟩
theorem Mk.z10 (h : Mk w B X a s tk vr) (hg : w.grownBy w1 (blkOf a.A10)) : w1.frozen? ⟨X, 10, none⟩ = false ∧ w1.cell? ⟨X, 10, none⟩ = some (.slice a.A10 s.ds.length a.c10) := by
  have hb := h.blk.step (Step.grown (F := fun k => blkOf a.A10 = some k) Step.refl hg (fun k hk => .inl hk)) (otag h.o10 h.blk (by decide))
  have c := hb.cell 10
  simp [mkC] at c
  exact ⟨hb.frozen 10, c⟩
theorem Mk.zz10 (h : Mk w B X a s tk vr) (hg : w.grownBy w1 (blkOf a.A10)) (j : Nat) : w1.frozen? ⟨X, j, none⟩ = false ∧ w1.cell? ⟨X, j, none⟩ = (mkC a s tk vr)[j]? := by
  have hb := h.blk.step (Step.grown (F := fun k => blkOf a.A10 = some k) Step.refl hg (fun k hk => .inl hk)) (otag h.o10 h.blk (by decide))
  exact ⟨hb.frozen j, hb.cell j⟩
theorem Mk.z16 (h : Mk w B X a s tk vr) (hg : w.grownBy w1 (blkOf a.A16)) : w1.frozen? ⟨X, 16, none⟩ = false ∧ w1.cell? ⟨X, 16, none⟩ = some (.slice a.A16 s.nd.length a.c16) := by
  have hb := h.blk.step (Step.grown (F := fun k => blkOf a.A16 = some k) Step.refl hg (fun k hk => .inl hk)) (otag h.o16 h.blk (by decide))
  have c := hb.cell 16
  simp [mkC] at c
  exact ⟨hb.frozen 16, c⟩
theorem Mk.zz16 (h : Mk w B X a s tk vr) (hg : w.grownBy w1 (blkOf a.A16)) (j : Nat) : w1.frozen? ⟨X, j, none⟩ = false ∧ w1.cell? ⟨X, j, none⟩ = (mkC a s tk vr)[j]? := by
  have hb := h.blk.step (Step.grown (F := fun k => blkOf a.A16 = some k) Step.refl hg (fun k hk => .inl hk)) (otag h.o16 h.blk (by decide))
  exact ⟨hb.frozen j, hb.cell j⟩
theorem Mk.set_st (h : Mk w B X a s tk vr) (z : Int) : Mk (w.setCell ⟨X, 7, none⟩ (.int .i64 z)) B X a { s with st := z } tk vr ∧ Upd w (ftA X a) (ftA X a) (w.setCell ⟨X, 7, none⟩ (.int .i64 z)) := by
  refine ⟨⟨?_, own_set h.o0 (by rw [ownBlock_slice]; exact otag h.o0 h.blk (by decide)) _, own_set h.o1 (by rw [ownBlock_slice]; exact otag h.o1 h.blk (by decide)) _, own_set h.o2 (by rw [ownBlock_slice]; exact otag h.o2 h.blk (by decide)) _, own_set h.o5 (by rw [ownBlock_slice]; exact otag h.o5 h.blk (by decide)) _, own_set h.o6 (by rw [ownBlock_slice]; exact otag h.o6 h.blk (by decide)) _, own_set h.o8 (by rw [ownBlock_slice]; exact otag h.o8 h.blk (by decide)) _, own_set h.o9 (by rw [ownBlock_slice]; exact otag h.o9 h.blk (by decide)) _, own_set h.o10 (by rw [ownBlock_slice]; exact otag h.o10 h.blk (by decide)) _, own_set h.o16 (by rw [ownBlock_slice]; exact otag h.o16 h.blk (by decide)) _, h.ge⟩, Step.refl.setCell (.inl (.inl rfl)) _, fun k hk => .inl hk⟩
  have := h.blk.set_ 7 (.int .i64 z)
  simpa [mkC] using this
theorem Mk.set_d1 (h : Mk w B X a s tk vr) (z : Nat) : Mk (w.setCell ⟨X, 12, none⟩ (.int .u32 (z : Int))) B X a { s with d1 := z } tk vr ∧ Upd w (ftA X a) (ftA X a) (w.setCell ⟨X, 12, none⟩ (.int .u32 (z : Int))) := by
  refine ⟨⟨?_, own_set h.o0 (by rw [ownBlock_slice]; exact otag h.o0 h.blk (by decide)) _, own_set h.o1 (by rw [ownBlock_slice]; exact otag h.o1 h.blk (by decide)) _, own_set h.o2 (by rw [ownBlock_slice]; exact otag h.o2 h.blk (by decide)) _, own_set h.o5 (by rw [ownBlock_slice]; exact otag h.o5 h.blk (by decide)) _, own_set h.o6 (by rw [ownBlock_slice]; exact otag h.o6 h.blk (by decide)) _, own_set h.o8 (by rw [ownBlock_slice]; exact otag h.o8 h.blk (by decide)) _, own_set h.o9 (by rw [ownBlock_slice]; exact otag h.o9 h.blk (by decide)) _, own_set h.o10 (by rw [ownBlock_slice]; exact otag h.o10 h.blk (by decide)) _, own_set h.o16 (by rw [ownBlock_slice]; exact otag h.o16 h.blk (by decide)) _, h.ge⟩, Step.refl.setCell (.inl (.inl rfl)) _, fun k hk => .inl hk⟩
  have := h.blk.set_ 12 (.int .u32 (z : Int))
  simpa [mkC] using this
theorem Mk.set_d2 (h : Mk w B X a s tk vr) (z : Nat) : Mk (w.setCell ⟨X, 13, none⟩ (.int .u32 (z : Int))) B X a { s with d2 := z } tk vr ∧ Upd w (ftA X a) (ftA X a) (w.setCell ⟨X, 13, none⟩ (.int .u32 (z : Int))) := by
  refine ⟨⟨?_, own_set h.o0 (by rw [ownBlock_slice]; exact otag h.o0 h.blk (by decide)) _, own_set h.o1 (by rw [ownBlock_slice]; exact otag h.o1 h.blk (by decide)) _, own_set h.o2 (by rw [ownBlock_slice]; exact otag h.o2 h.blk (by decide)) _, own_set h.o5 (by rw [ownBlock_slice]; exact otag h.o5 h.blk (by decide)) _, own_set h.o6 (by rw [ownBlock_slice]; exact otag h.o6 h.blk (by decide)) _, own_set h.o8 (by rw [ownBlock_slice]; exact otag h.o8 h.blk (by decide)) _, own_set h.o9 (by rw [ownBlock_slice]; exact otag h.o9 h.blk (by decide)) _, own_set h.o10 (by rw [ownBlock_slice]; exact otag h.o10 h.blk (by decide)) _, own_set h.o16 (by rw [ownBlock_slice]; exact otag h.o16 h.blk (by decide)) _, h.ge⟩, Step.refl.setCell (.inl (.inl rfl)) _, fun k hk => .inl hk⟩
  have := h.blk.set_ 13 (.int .u32 (z : Int))
  simpa [mkC] using this
theorem Mk.set_d3 (h : Mk w B X a s tk vr) (z : Nat) : Mk (w.setCell ⟨X, 14, none⟩ (.int .u32 (z : Int))) B X a { s with d3 := z } tk vr ∧ Upd w (ftA X a) (ftA X a) (w.setCell ⟨X, 14, none⟩ (.int .u32 (z : Int))) := by
  refine ⟨⟨?_, own_set h.o0 (by rw [ownBlock_slice]; exact otag h.o0 h.blk (by decide)) _, own_set h.o1 (by rw [ownBlock_slice]; exact otag h.o1 h.blk (by decide)) _, own_set h.o2 (by rw [ownBlock_slice]; exact otag h.o2 h.blk (by decide)) _, own_set h.o5 (by rw [ownBlock_slice]; exact otag h.o5 h.blk (by decide)) _, own_set h.o6 (by rw [ownBlock_slice]; exact otag h.o6 h.blk (by decide)) _, own_set h.o8 (by rw [ownBlock_slice]; exact otag h.o8 h.blk (by decide)) _, own_set h.o9 (by rw [ownBlock_slice]; exact otag h.o9 h.blk (by decide)) _, own_set h.o10 (by rw [ownBlock_slice]; exact otag h.o10 h.blk (by decide)) _, own_set h.o16 (by rw [ownBlock_slice]; exact otag h.o16 h.blk (by decide)) _, h.ge⟩, Step.refl.setCell (.inl (.inl rfl)) _, fun k hk => .inl hk⟩
  have := h.blk.set_ 14 (.int .u32 (z : Int))
  simpa [mkC] using this
theorem Mk.set_d4 (h : Mk w B X a s tk vr) (z : Nat) : Mk (w.setCell ⟨X, 15, none⟩ (.int .u32 (z : Int))) B X a { s with d4 := z } tk vr ∧ Upd w (ftA X a) (ftA X a) (w.setCell ⟨X, 15, none⟩ (.int .u32 (z : Int))) := by
  refine ⟨⟨?_, own_set h.o0 (by rw [ownBlock_slice]; exact otag h.o0 h.blk (by decide)) _, own_set h.o1 (by rw [ownBlock_slice]; exact otag h.o1 h.blk (by decide)) _, own_set h.o2 (by rw [ownBlock_slice]; exact otag h.o2 h.blk (by decide)) _, own_set h.o5 (by rw [ownBlock_slice]; exact otag h.o5 h.blk (by decide)) _, own_set h.o6 (by rw [ownBlock_slice]; exact otag h.o6 h.blk (by decide)) _, own_set h.o8 (by rw [ownBlock_slice]; exact otag h.o8 h.blk (by decide)) _, own_set h.o9 (by rw [ownBlock_slice]; exact otag h.o9 h.blk (by decide)) _, own_set h.o10 (by rw [ownBlock_slice]; exact otag h.o10 h.blk (by decide)) _, own_set h.o16 (by rw [ownBlock_slice]; exact otag h.o16 h.blk (by decide)) _, h.ge⟩, Step.refl.setCell (.inl (.inl rfl)) _, fun k hk => .inl hk⟩
  have := h.blk.set_ 15 (.int .u32 (z : Int))
  simpa [mkC] using this
theorem Mk.set_tk (h : Mk w B X a s tk vr) (z : Int) : Mk (w.setCell ⟨X, 17, none⟩ (.int .i64 z)) B X a s z vr ∧ Upd w (ftA X a) (ftA X a) (w.setCell ⟨X, 17, none⟩ (.int .i64 z)) := by
  refine ⟨⟨?_, own_set h.o0 (by rw [ownBlock_slice]; exact otag h.o0 h.blk (by decide)) _, own_set h.o1 (by rw [ownBlock_slice]; exact otag h.o1 h.blk (by decide)) _, own_set h.o2 (by rw [ownBlock_slice]; exact otag h.o2 h.blk (by decide)) _, own_set h.o5 (by rw [ownBlock_slice]; exact otag h.o5 h.blk (by decide)) _, own_set h.o6 (by rw [ownBlock_slice]; exact otag h.o6 h.blk (by decide)) _, own_set h.o8 (by rw [ownBlock_slice]; exact otag h.o8 h.blk (by decide)) _, own_set h.o9 (by rw [ownBlock_slice]; exact otag h.o9 h.blk (by decide)) _, own_set h.o10 (by rw [ownBlock_slice]; exact otag h.o10 h.blk (by decide)) _, own_set h.o16 (by rw [ownBlock_slice]; exact otag h.o16 h.blk (by decide)) _, h.ge⟩, Step.refl.setCell (.inl (.inl rfl)) _, fun k hk => .inl hk⟩
  have := h.blk.set_ 17 (.int .i64 z)
  simpa [mkC] using this
theorem Mk.set_vr (h : Mk w B X a s tk vr) (z : Int) : Mk (w.setCell ⟨X, 18, none⟩ (.int .i64 z)) B X a s tk z ∧ Upd w (ftA X a) (ftA X a) (w.setCell ⟨X, 18, none⟩ (.int .i64 z)) := by
  refine ⟨⟨?_, own_set h.o0 (by rw [ownBlock_slice]; exact otag h.o0 h.blk (by decide)) _, own_set h.o1 (by rw [ownBlock_slice]; exact otag h.o1 h.blk (by decide)) _, own_set h.o2 (by rw [ownBlock_slice]; exact otag h.o2 h.blk (by decide)) _, own_set h.o5 (by rw [ownBlock_slice]; exact otag h.o5 h.blk (by decide)) _, own_set h.o6 (by rw [ownBlock_slice]; exact otag h.o6 h.blk (by decide)) _, own_set h.o8 (by rw [ownBlock_slice]; exact otag h.o8 h.blk (by decide)) _, own_set h.o9 (by rw [ownBlock_slice]; exact otag h.o9 h.blk (by decide)) _, own_set h.o10 (by rw [ownBlock_slice]; exact otag h.o10 h.blk (by decide)) _, own_set h.o16 (by rw [ownBlock_slice]; exact otag h.o16 h.blk (by decide)) _, h.ge⟩, Step.refl.setCell (.inl (.inl rfl)) _, fun k hk => .inl hk⟩
  have := h.blk.set_ 18 (.int .i64 z)
  simpa [mkC] using this
end
end Go.Proofs.Ytflgpjdpofmbkaa
