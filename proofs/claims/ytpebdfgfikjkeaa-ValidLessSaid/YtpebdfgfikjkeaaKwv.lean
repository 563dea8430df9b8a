/-
  Kwv: KvV, KvW.
-/
import Derived.Test.YtpebdfgfikjkeaaKwm
import Derived.Test.YtpebdfgfikjkeaaMxf
import Derived.Deep.DeepCutAuto
import Derived.Deep.CutBlock
set_option linter.unusedVariables false
set_option linter.unusedSimpArgs false
/-! What valid.Module tells. -/
namespace Go.Proofs.Ytpebdfgfikjkeaa
open Go.RowKit

/-- A slice literal, in a region that draws: what it leaves is laid, not reckoned. -/
theorem step_slice {P : Program} {w : World} {ops : Array Oper} {o : Oper} {a : Act} {K : Act → World → Prop} {Q : Exit → Act → World → Prop} {F : Prop} (hgd : Region.wanted o (yielded ops a.tmps) = true) {t e : TypeId} {len : Nat} {parts : List (Nat × Operand)}
    (ho : o.op = .buildSlice t len parts.toArray) (vs : List (Nat × Value)) (hvs : (parts.map fun x => (x.1, a.eval x.2)) = vs) (cells : Array Value) (hrun : ∀ w, (Instr.buildSlice t len vs.toArray).run P w = .ok (.slice (some ⟨w.heap.size, 0, none⟩) len len) (w.alloc (.cells cells e)))
    (h : K (a.put o.dst (.slice (some ⟨w.heap.size, 0, none⟩) len len)) (w.alloc (.cells cells e))) :
    if Region.wanted o (yielded ops a.tmps) = true then Oper.wp P o a w K Q else F := by
  rw [if_pos hgd]
  have e : (parts.toArray.map fun x => (x.1, a.eval x.2)) = vs.toArray := by rw [List.map_toArray, hvs]
  unfold Oper.wp execOp
  simp only [ho, Sem.run_bind, e, hrun, Result.andThen_ok]
  exact h
theorem bs2 (g1 g2 : Ft) : ∀ w : World, (Instr.buildSlice 121 2 #[(0, .agg #[.int .i64 g1.why, .int .i64 g1.list, .int .i64 g1.at_]), (1, .agg #[.int .i64 g2.why, .int .i64 g2.list, .int .i64 g2.at_])]).run Try.prog w = .ok (.slice (some ⟨w.heap.size, 0, none⟩) 2 2) (w.alloc (.cells #[.int .i64 g1.why, .int .i64 g1.list, .int .i64 g1.at_, .int .i64 g2.why, .int .i64 g2.list, .int .i64 g2.at_] 56)) := fun w => by kernel_rfl
theorem bs3 (g1 g2 g3 : Ft) : ∀ w : World, (Instr.buildSlice 121 3 #[(0, .agg #[.int .i64 g1.why, .int .i64 g1.list, .int .i64 g1.at_]), (1, .agg #[.int .i64 g2.why, .int .i64 g2.list, .int .i64 g2.at_]), (2, .agg #[.int .i64 g3.why, .int .i64 g3.list, .int .i64 g3.at_])]).run Try.prog w = .ok (.slice (some ⟨w.heap.size, 0, none⟩) 3 3) (w.alloc (.cells #[.int .i64 g1.why, .int .i64 g1.list, .int .i64 g1.at_, .int .i64 g2.why, .int .i64 g2.list, .int .i64 g2.at_, .int .i64 g3.why, .int .i64 g3.list, .int .i64 g3.at_] 56)) := fun w => by kernel_rfl
theorem bs9 (g1 g2 g3 g4 g5 g6 g7 g8 g9 : Ft) : ∀ w : World, (Instr.buildSlice 121 9 #[(0, .agg #[.int .i64 g1.why, .int .i64 g1.list, .int .i64 g1.at_]), (1, .agg #[.int .i64 g2.why, .int .i64 g2.list, .int .i64 g2.at_]), (2, .agg #[.int .i64 g3.why, .int .i64 g3.list, .int .i64 g3.at_]), (3, .agg #[.int .i64 g4.why, .int .i64 g4.list, .int .i64 g4.at_]), (4, .agg #[.int .i64 g5.why, .int .i64 g5.list, .int .i64 g5.at_]), (5, .agg #[.int .i64 g6.why, .int .i64 g6.list, .int .i64 g6.at_]), (6, .agg #[.int .i64 g7.why, .int .i64 g7.list, .int .i64 g7.at_]), (7, .agg #[.int .i64 g8.why, .int .i64 g8.list, .int .i64 g8.at_]), (8, .agg #[.int .i64 g9.why, .int .i64 g9.list, .int .i64 g9.at_])]).run Try.prog w = .ok (.slice (some ⟨w.heap.size, 0, none⟩) 9 9) (w.alloc (.cells #[.int .i64 g1.why, .int .i64 g1.list, .int .i64 g1.at_, .int .i64 g2.why, .int .i64 g2.list, .int .i64 g2.at_, .int .i64 g3.why, .int .i64 g3.list, .int .i64 g3.at_, .int .i64 g4.why, .int .i64 g4.list, .int .i64 g4.at_, .int .i64 g5.why, .int .i64 g5.list, .int .i64 g5.at_, .int .i64 g6.why, .int .i64 g6.list, .int .i64 g6.at_, .int .i64 g7.why, .int .i64 g7.list, .int .i64 g7.at_, .int .i64 g8.why, .int .i64 g8.list, .int .i64 g8.at_, .int .i64 g9.why, .int .i64 g9.list, .int .i64 g9.at_] 56)) := fun w => by kernel_rfl
theorem modC_eq (a : Md) (M : Mv) : modC a M = #[.slice a.A0 M.types.length a.c0, .slice a.A1 M.imports.length a.c1, .slice a.A2 M.funcs.length a.c2, .slice a.A3 M.tables.length a.c3, .slice a.A4 M.mems.length a.c4, .slice a.A5 M.globals.length a.c5, .slice a.A6 M.exports.length a.c6, .int .i64 M.start, .slice a.A8 M.elems.length a.c8, .slice a.A9 M.codes.length a.c9, .slice a.A10 M.datas.length a.c10, .bool M.has, .int .u32 (M.d1 : Int), .int .u32 (M.d2 : Int), .int .u32 (M.d3 : Int), .int .u32 (M.d4 : Int), .slice a.A16 M.nd.length a.c16] := rfl
theorem cls_cell2 {F : Nat → Prop} {w0 : World} {p : Addr} {v : Value} (hc : w0.cell? p = some v) (hF : ¬ F p.block) : ∀ i : Mif.Cls (Step F w0), i.val.cell? p = some v := fun i =>
  (i.prop.cell (World.block_lt_of_cell? _ _ hc) hF).trans hc
/-- The looker that valid.Module makes. -/
def lkOf (a : Md) (M : Mv) (K : Nat) (fA gA kA : Option Addr) (fc gc kc : Nat) : La :=
  ⟨K, a, fnA M.imports M.funcs, glA M.imports M.globals, tkL M.imports M.imports.length, decide ((0 : Int) < ((imL M.imports 1 M.imports.length).length : Int) + (M.tables.length : Int)), decide ((0 : Int) < ((imL M.imports 2 M.imports.length).length : Int) + (M.mems.length : Int)), fA, gA, kA, fc, gc, kc⟩
def atE {α : Type} (l : List α) (g : α → Int) (i : Nat) : Int := ((l[i]?).map g).getD 0
theorem atE_get {α : Type} (l : List α) (g : α → Int) (i : Nat) (h : i < l.length) : atE l g i = g l[i] := by rw [atE, List.getElem?_eq_getElem h]; rfl
theorem tkL_b (l : List Im) (h : ∀ x ∈ l, x.g < 256 ∧ x.t < 4294967296) (j : Nat) : ∀ y ∈ tkL l j, y.1 < 256 := fun y hy => by
  obtain ⟨x, hx, rfl⟩ := List.mem_map.1 hy
  exact (h x (List.mem_of_mem_take (List.mem_filter.1 hx).1)).1
theorem glA_b (l : List Im) (gs : List Gv) (h : ∀ x ∈ l, x.g < 256 ∧ x.t < 4294967296) (h2 : ∀ v ∈ gs, v.g < 256) : ∀ y ∈ glA l gs, y.1 < 256 := fun y hy => by
  rcases List.mem_append.1 hy with hy | hy
  · exact tkL_b l h _ y hy
  · obtain ⟨x, hx, rfl⟩ := List.mem_map.1 hy
    exact h2 x (List.mem_of_mem_take hx)
theorem fnA_len4 (l : List Im) (fs : List Nat) : (fnA l fs).length ≤ l.length + fs.length := by
  have := fnL_len l l.length
  rw [fnA, List.length_append]
  omega
/-- What LkIn's makers need. -/
theorem lk_made {U : World} {R4 : Nat → Prop} {a : Md} {M : Mv} {K : Nat} {fA gA kA : Option Addr} {fc gc kc : Nat} (hB : Blk U K 87 (lkC (lkOf a M K fA gA kA fc gc kc) M)) (hM : ModIn U R4 a M) (hS : M.small)
    (hf : Reads U R4 1 fA (fnA M.imports M.funcs).length (u32s (fnA M.imports M.funcs))) (hg : Reads U R4 2 gA (glA M.imports M.globals).length (gls (glA M.imports M.globals))) (hk : Reads U R4 2 kA (tkL M.imports M.imports.length).length (gls (tkL M.imports M.imports.length))) :
    LkIn U R4 (lkOf a M K fA gA kA fc gc kc) M := by
  have h1 := fnA_len4 M.imports M.funcs
  have h2 := glA_len M.imports M.globals
  have h3 := tkL_len M.imports M.imports.length
  have s1 := hS.imports
  have s2 := hS.funcs
  have s3 := hS.globals
  exact ⟨hB, hM, hf, hg, hk, by show (fnA M.imports M.funcs).length ≤ 200; omega, by show (glA M.imports M.globals).length ≤ 200; omega, by show (tkL M.imports M.imports.length).length ≤ 200; omega,
    fnA_mem M.imports M.funcs (fun x hx => (hM.imb x hx).2) hM.fub, glA_b M.imports M.globals hM.imb (fun v hv => (hM.glb v hv).1)⟩
/-- The looker's lists, wherever they lie. -/
def lk0 (M : Mv) : La := lkOf ⟨none, none, none, none, none, none, none, none, none, none, none, 0, 0, 0, 0, 0, 0, 0, 0, 0, 0, 0⟩ M 0 none none none 0 0 0
def lstA (M : Mv) : List Ft := [eachF M.types.length 1 (atE M.types fun t => (ftE t : Nat)), eachF M.imports.length 2 (atE M.imports (impE M.types.length)), eachF M.funcs.length 3 (atE M.funcs fun q => ixE q M.types.length 7), eachF M.tables.length 4 (atE M.tables fun l => (lmE l 1048576 : Nat)), oneF (((imL M.imports 1 M.imports.length).length : Int) + (M.tables.length : Int)) 4, eachF M.mems.length 5 (atE M.mems fun l => (lmE l 65536 : Nat)), oneF (((imL M.imports 2 M.imports.length).length : Int) + (M.mems.length : Int)) 5, eachF M.globals.length 6 (atE M.globals (goE (tkL M.imports M.imports.length))), eachF M.exports.length 7 (atE M.exports (exE (lk0 M)))]
def lstB (M : Mv) : List Ft := [stF (lk0 M) M, eachF M.elems.length 9 (atE M.elems (evE (lk0 M))), eachF M.datas.length 11 (atE M.datas (daE (lk0 M)))]
def bodyAt (k : La) (M : Mv) (i : Nat) : Int := match M.codes[i]?, (M.funcs[i]?).bind (fun q => M.types[q]?) with
  | some c, some t => bdE k M t c
  | _, _ => 0
theorem bodyAt_lk (a : Md) (M : Mv) (K : Nat) (fA gA kA : Option Addr) (fc gc kc : Nat) : bodyAt (lkOf a M K fA gA kA fc gc kc) M = bodyAt (lk0 M) M := by
  have e : bdK (lkOf a M K fA gA kA fc gc kc) M = bdK (lk0 M) M := rfl
  funext i
  unfold bodyAt bdE
  rw [e]
def lstC (M : Mv) : List Ft := [eachF M.codes.length 10 (bodyAt (lk0 M) M), faultF (dyE M.has M.d1 M.d2 M.d3 M.d4 M.nd) 12 0]
theorem lstC_lk (a : Md) (M : Mv) (K : Nat) (fA gA kA : Option Addr) (fc gc kc : Nat) : firstFt (lstC M) = firstFt [eachF M.codes.length 10 (bodyAt (lkOf a M K fA gA kA fc gc kc) M), faultF (dyE M.has M.d1 M.d2 M.d3 M.d4 M.nd) 12 0] := by
  rw [bodyAt_lk]
  rfl
/-- What valid.Module tells. -/
def modF (M : Mv) : Ft := if (firstFt (lstA M)).why = 0 then (if twF M.exports [] = true then faultF 27 7 ((M.exports.length : Int) - 1) else if (firstFt (lstB M)).why = 0 then (if M.codes.length = M.funcs.length then firstFt (lstC M) else faultF 11 10 (M.codes.length : Int)) else firstFt (lstB M)) else firstFt (lstA M)
theorem bodyAt_eq {M : Mv} (k : La) (i : Nat) (hi : i < M.codes.length) (hif : i < M.funcs.length) (hq : M.funcs[i] < M.types.length) : bodyAt k M i = bdE k M M.types[M.funcs[i]] M.codes[i] := by
  rw [bodyAt, List.getElem?_eq_getElem hi, List.getElem?_eq_getElem hif, Option.bind_some, List.getElem?_eq_getElem hq]
theorem eachR_no (l : Int) (f : Nat → Int) : ∀ k i, (eachR l f k i).why = 0 → ∀ j, i ≤ j → j < i + k → f j = 0
  | 0, i, _, j, h1, h2 => by omega
  | k + 1, i, h, j, h1, h2 => by
    rw [eachR] at h
    by_cases hz : f i = 0
    · rw [if_pos hz] at h
      by_cases e : j = i
      · rw [e]; exact hz
      · exact eachR_no l f k (i + 1) h j (by omega) (by omega)
    · rw [if_neg hz] at h
      exact absurd h hz
theorem eachF_no {n : Nat} {l : Int} {f : Nat → Int} (h : (eachF n l f).why = 0) (i : Nat) (hi : i < n) : f i = 0 := eachR_no l f n 0 h i (by omega) (by omega)
theorem firstFt_no : ∀ {l : List Ft}, (firstFt l).why = 0 → ∀ f ∈ l, f.why = 0
  | [], _, f, hf => by simp at hf
  | g :: l, h, f, hf => by
    rw [firstFt] at h
    by_cases hz : g.why = 0
    · rw [if_pos hz] at h
      rcases List.mem_cons.1 hf with e | e
      · rw [e]; exact hz
      · exact firstFt_no h f e
    · rw [if_neg hz] at h
      exact absurd h hz
theorem types_short {M : Mv} (hS : M.small) (h : (firstFt (lstA M)).why = 0) : ∀ t ∈ M.types, t.1.length ≤ 100 ∧ t.2.length ≤ 100 := fun t ht => by
  refine ⟨hS.ft t ht, ?_⟩
  obtain ⟨i, hi, rfl⟩ := List.mem_iff_getElem.1 ht
  have h3 := eachF_no (firstFt_no h _ (List.mem_cons_self ..)) i hi
  rw [atE_get _ _ _ hi] at h3
  have h4 : ftE M.types[i] = 0 := Int.ofNat.inj h3
  rw [ftE] at h4
  split at h4
  · exact absurd h4 (by decide)
  · split at h4
    · exact absurd h4 (by decide)
    · omega
theorem funcs_typed {M : Mv} (h : (firstFt (lstA M)).why = 0) (i : Nat) (hi : i < M.funcs.length) : M.funcs[i] < M.types.length := by
  have h3 := eachF_no (firstFt_no h _ (List.mem_cons_of_mem _ (List.mem_cons_of_mem _ (List.mem_cons_self ..)))) i hi
  rw [atE_get _ _ _ hi, ixE] at h3
  by_cases hz : M.funcs[i] < M.types.length
  · exact hz
  · rw [if_neg hz] at h3; exact absurd h3 (by decide)
end Go.Proofs.Ytpebdfgfikjkeaa
/-! What valid.Module tells of a module turned a little: the plain laws of ValidTwice and ValidLess. -/
namespace Go.Proofs.Ytpebdfgfikjkeaa
open Go.RowKit

theorem eachR_ok (l : Int) (f : Nat → Int) : ∀ k i, (∀ j, i ≤ j → j < i + k → f j = 0) → eachR l f k i = Ft.no
  | 0, _, _ => rfl
  | k + 1, i, h => by
    rw [eachR, if_pos (h i (Nat.le_refl _) (by omega))]
    exact eachR_ok l f k (i + 1) fun j h1 h2 => h j (by omega) (by omega)
theorem eachF_ok {n : Nat} {l : Int} {f : Nat → Int} (h : ∀ i, i < n → f i = 0) : eachF n l f = Ft.no := eachR_ok l f n 0 fun j _ h2 => h j (by omega)
theorem eachR_last (l : Int) (f : Nat → Int) : ∀ k i, (∀ j, i ≤ j → j < i + k → f j = 0) → ¬ f (i + k) = 0 → eachR l f (k + 1) i = ⟨f (i + k), l, ((i + k : Nat) : Int)⟩
  | 0, i, _, hn => by
    rw [eachR, if_neg (by simpa using hn)]
    rfl
  | k + 1, i, h, hn => by
    rw [eachR, if_pos (h i (Nat.le_refl _) (by omega))]
    have e : i + (k + 1) = i + 1 + k := by omega
    rw [e] at hn ⊢
    exact eachR_last l f k (i + 1) (fun j h1 h2 => h j (by omega) (by omega)) hn
theorem eachAt_all {α : Type} {l : List α} {n : Int} {g : α → Int} (h : (eachF l.length n (atE l g)).why = 0) (x : α) (hx : x ∈ l) : g x = 0 := by
  obtain ⟨i, hi, rfl⟩ := List.mem_iff_getElem.1 hx
  have := eachF_no h i hi
  rwa [atE_get _ _ _ hi] at this
theorem eachAt_no {α : Type} {l : List α} {n : Int} {g : α → Int} (h : ∀ x ∈ l, g x = 0) : eachF l.length n (atE l g) = Ft.no := eachF_ok fun i hi => by
  rw [atE_get _ _ _ hi]
  exact h _ (List.getElem_mem hi)
theorem firstFt_go {f : Ft} {l : List Ft} (h : f.why = 0) : firstFt (f :: l) = firstFt l := if_pos h
theorem firstFt_end {f : Ft} {l : List Ft} (h : ¬ f.why = 0) : firstFt (f :: l) = f := if_neg h
theorem firstFt_ok : ∀ {l : List Ft}, (∀ f ∈ l, f.why = 0) → firstFt l = Ft.no
  | [], _ => rfl
  | f :: l, h => by
    rw [firstFt_go (h f (List.mem_cons_self ..))]
    exact firstFt_ok fun g hg => h g (List.mem_cons_of_mem _ hg)
theorem imL_full (l : List Im) (k : Nat) : imL l k l.length = l.filter (fun x => x.k == k) := by rw [imL, List.take_length]

/-- What a module that may be has been asked. -/
structure Mv.okAll (M : Mv) : Prop where
  types : ∀ t ∈ M.types, ftE t = 0
  imports : ∀ x ∈ M.imports, impE M.types.length x = 0
  funcs : ∀ q ∈ M.funcs, ixE q M.types.length 7 = 0
  tables : ∀ l ∈ M.tables, lmE l 1048576 = 0
  tab1 : (oneF (((imL M.imports 1 M.imports.length).length : Int) + (M.tables.length : Int)) 4).why = 0
  mems : ∀ l ∈ M.mems, lmE l 65536 = 0
  mem1 : (oneF (((imL M.imports 2 M.imports.length).length : Int) + (M.mems.length : Int)) 5).why = 0
  globals : ∀ v ∈ M.globals, goE (tkL M.imports M.imports.length) v = 0
  exports : ∀ x ∈ M.exports, exE (lk0 M) x = 0
  once : ¬ twF M.exports [] = true
  start : (stF (lk0 M) M).why = 0
  elems : ∀ v ∈ M.elems, evE (lk0 M) v = 0
  datas : ∀ v ∈ M.datas, daE (lk0 M) v = 0
  len : M.codes.length = M.funcs.length
  codes : ∀ i, i < M.codes.length → bodyAt (lk0 M) M i = 0
  dy : (faultF (dyE M.has M.d1 M.d2 M.d3 M.d4 M.nd) 12 0).why = 0
theorem modF_all {M : Mv} (h : (modF M).why = 0) : M.okAll := by
  rw [modF] at h
  split at h
  case isFalse hn => exact absurd h hn
  rename_i hA
  split at h
  · rw [faultF, if_neg (by decide)] at h
    exact absurd h (show ¬ (27 : Int) = 0 by decide)
  rename_i hT
  split at h
  case isFalse hn => exact absurd h hn
  rename_i hB
  split at h
  case isFalse hn =>
    rw [faultF, if_neg (by decide)] at h
    exact absurd h (show ¬ (11 : Int) = 0 by decide)
  rename_i hL
  have A := firstFt_no hA
  have B := firstFt_no hB
  have C := firstFt_no h
  simp only [lstA, List.forall_mem_cons] at A
  simp only [lstB, List.forall_mem_cons] at B
  simp only [lstC, List.forall_mem_cons] at C
  obtain ⟨a1, a2, a3, a4, a5, a6, a7, a8, a9, _⟩ := A
  obtain ⟨b1, b2, b3, _⟩ := B
  obtain ⟨c1, c2, _⟩ := C
  exact ⟨fun t ht => Int.ofNat.inj (eachAt_all a1 t ht), fun x hx => eachAt_all a2 x hx, fun x hx => eachAt_all a3 x hx, fun x hx => Int.ofNat.inj (eachAt_all a4 x hx), a5, fun x hx => Int.ofNat.inj (eachAt_all a6 x hx), a7, fun x hx => eachAt_all a8 x hx, fun x hx => eachAt_all a9 x hx, hT, b1, fun x hx => eachAt_all b2 x hx, fun x hx => eachAt_all b3 x hx, hL, fun i hi => eachF_no c1 i hi, c2⟩
theorem no_why {f : Ft} (h : f = Ft.no) : f.why = 0 := by rw [h]; rfl
theorem no0 : Ft.no.why = 0 := rfl
theorem lstA_ok {M : Mv} (t : ∀ t ∈ M.types, ftE t = 0) (i : ∀ x ∈ M.imports, impE M.types.length x = 0) (f : ∀ q ∈ M.funcs, ixE q M.types.length 7 = 0) (b : ∀ l ∈ M.tables, lmE l 1048576 = 0) (b1 : (oneF (((imL M.imports 1 M.imports.length).length : Int) + (M.tables.length : Int)) 4).why = 0) (m : ∀ l ∈ M.mems, lmE l 65536 = 0)
    (m1 : (oneF (((imL M.imports 2 M.imports.length).length : Int) + (M.mems.length : Int)) 5).why = 0) (g : ∀ v ∈ M.globals, goE (tkL M.imports M.imports.length) v = 0) (e : ∀ x ∈ M.exports, exE (lk0 M) x = 0) : firstFt (lstA M) = Ft.no := by
  refine firstFt_ok ?_
  simp only [lstA, List.forall_mem_cons]
  exact ⟨no_why (eachAt_no fun x hx => by rw [t x hx]; rfl), no_why (eachAt_no i), no_why (eachAt_no f), no_why (eachAt_no fun x hx => by rw [b x hx]; rfl), b1, no_why (eachAt_no fun x hx => by rw [m x hx]; rfl), m1, no_why (eachAt_no g), no_why (eachAt_no e), fun _ h => absurd h (List.not_mem_nil)⟩
theorem modF_no {M : Mv} (h : M.okAll) : modF M = Ft.no := by
  have hB : firstFt (lstB M) = Ft.no := by
    refine firstFt_ok ?_
    simp only [lstB, List.forall_mem_cons]
    exact ⟨h.start, no_why (eachAt_no h.elems), no_why (eachAt_no h.datas), fun _ h => absurd h (List.not_mem_nil)⟩
  have hC : firstFt (lstC M) = Ft.no := by
    refine firstFt_ok ?_
    simp only [lstC, List.forall_mem_cons]
    exact ⟨no_why (eachF_ok h.codes), h.dy, fun _ h => absurd h (List.not_mem_nil)⟩
  rw [modF, lstA_ok h.types h.imports h.funcs h.tables h.tab1 h.mems h.mem1 h.globals h.exports, if_pos no0, if_neg h.once, hB, if_pos no0, if_pos h.len, hC]

/-- Two memories more. -/
def memI : Im := ⟨[101, 110, 118], [109, 101, 109, 111, 114, 121], 2, 0, 0, 0, false, 0, false⟩
def addM (M : Mv) : Mv := { M with imports := M.imports ++ [memI, memI] }
theorem mem_imp (n : Nat) : impE n memI = 0 := by
  rw [impE, show imR memI = 0 from by kernel_rfl]
  rfl
theorem addM_why {M : Mv} (h : M.okAll) : (modF (addM M)).why = 29 ∧ (modF (addM M)).list = 5 := by
  have h1 : imL (addM M).imports 1 (addM M).imports.length = imL M.imports 1 M.imports.length := by
    rw [imL_full, imL_full, addM, List.filter_append]
    exact List.append_nil _
  have h2 : (imL (addM M).imports 2 (addM M).imports.length).length = (imL M.imports 2 M.imports.length).length + 2 := by
    rw [imL_full, imL_full, addM, List.filter_append, List.length_append]
    rfl
  have hA : firstFt (lstA (addM M)) = oneF (((imL (addM M).imports 2 (addM M).imports.length).length : Int) + (M.mems.length : Int)) 5 := by
    have ho : ¬ (oneF (((imL (addM M).imports 2 (addM M).imports.length).length : Int) + (M.mems.length : Int)) 5).why = 0 := by
      rw [oneF, if_pos (by rw [h2]; omega), faultF, if_neg (by decide)]
      exact (show ¬ (29 : Int) = 0 by decide)
    have a2 : ∀ x ∈ (addM M).imports, impE (addM M).types.length x = 0 := fun x hx => by
      rcases List.mem_append.1 hx with hx | hx
      · exact h.imports x hx
      · rw [List.mem_cons, List.mem_singleton] at hx
        rcases hx with rfl | rfl <;> exact mem_imp _
    rw [lstA, firstFt_go (no_why (eachAt_no (l := (addM M).types) fun x hx => by rw [h.types x hx]; rfl)), firstFt_go (no_why (eachAt_no a2)), firstFt_go (no_why (eachAt_no (l := (addM M).funcs) (g := fun q => ixE q (addM M).types.length 7) (fun x hx => h.funcs x hx))), firstFt_go (no_why (eachAt_no (l := (addM M).tables) fun x hx => by rw [h.tables x hx]; rfl)), firstFt_go (by rw [h1]; exact h.tab1), firstFt_go (no_why (eachAt_no (l := (addM M).mems) fun x hx => by rw [h.mems x hx]; rfl))]
    exact firstFt_end ho
  have ho : oneF (((imL (addM M).imports 2 (addM M).imports.length).length : Int) + (M.mems.length : Int)) 5 = ⟨29, 5, ((imL (addM M).imports 2 (addM M).imports.length).length : Int) + (M.mems.length : Int) - 1⟩ := by
    rw [oneF, if_pos (by rw [h2]; omega), faultF, if_neg (by decide)]
  rw [modF, hA, ho, if_neg (show ¬ (29 : Int) = 0 by decide)]
  exact ⟨rfl, rfl⟩

/-- An export once more. -/
def addE (M : Mv) (x : Ex) : Mv := { M with exports := M.exports ++ [x] }
theorem twF_more (x : Ex) : ∀ (l : List Ex) (seen : List (List UInt8)), (x ∈ l ∨ x.n ∈ seen) → twF (l ++ [x]) seen = true
  | [], seen, h => by
    have : x.n ∈ seen := by simpa using h
    rw [List.nil_append, twF, if_pos this]
  | y :: l, seen, h => by
    rw [List.cons_append, twF]
    by_cases hy : y.n ∈ seen
    · rw [if_pos hy]
    · rw [if_neg hy]
      refine twF_more x l _ ?_
      rcases h with h | h
      · rcases List.mem_cons.1 h with e | e
        · exact .inr (by rw [e]; exact List.mem_cons_self ..)
        · exact .inl e
      · exact .inr (List.mem_cons_of_mem _ h)
theorem addE_why {M : Mv} (h : M.okAll) (x : Ex) (hx : x ∈ M.exports) : modF (addE M x) = ⟨27, 7, (M.exports.length : Int)⟩ := by
  have hA : firstFt (lstA (addE M x)) = Ft.no := lstA_ok (M := addE M x) h.types h.imports h.funcs h.tables h.tab1 h.mems h.mem1 h.globals (fun y hy => by
    rcases List.mem_append.1 hy with hy | hy
    · exact h.exports y hy
    · rw [List.mem_singleton.1 hy]; exact h.exports x hx)
  rw [modF, hA, if_pos no0, if_pos (show twF (addE M x).exports [] = true from twF_more x M.exports [] (.inl hx)), faultF, if_neg (by decide)]
  congr 1
  rw [addE, List.length_append, List.length_singleton]
  omega

/-- Less. -/
def lessM (M : Mv) : Mv := { M with exports := [], start := -1, datas := [] }
theorem lessM_no {M : Mv} (h : M.okAll) : modF (lessM M) = Ft.no :=
  modF_no (M := lessM M) ⟨h.types, h.imports, h.funcs, h.tables, h.tab1, h.mems, h.mem1, h.globals, fun _ hx => absurd hx (List.not_mem_nil), (show ¬ false = true by decide), by rw [stF, if_pos (show (lessM M).start = -1 from rfl)]; rfl, h.elems, fun _ hx => absurd hx (List.not_mem_nil), h.len, h.codes, h.dy⟩

/-- A type more. -/
def addT (M : Mv) (t : List UInt8 × List UInt8) : Mv := { M with types := M.types ++ [t] }
theorem one_more (E : Ke) (t : List UInt8 × List UInt8) (op x b m : Nat) (L : List Nat) (s : Ss) (h : (oneS E op x b m L s).2 = 0) : oneS { E with types := E.types ++ [t] } op x b m L s = oneS E op x b m L s := by
  have ht : ∀ y, (typeS E op y s).2 = 0 → typeS { E with types := E.types ++ [t] } op y s = typeS E op y s := fun y hy => by
    rw [typeS] at hy
    by_cases hl : E.types.length ≤ y
    · rw [if_pos hl] at hy
      exact absurd hy (show ¬ (7 : Int) = 0 by decide)
    · rw [typeS, typeS, if_neg hl, if_neg (by show ¬ (E.types ++ [t]).length ≤ y; rw [List.length_append]; omega)]
      congr 1
      show (E.types ++ [t]).getD y ([], []) = _
      simp only [List.getD_eq_getElem?_getD, List.getElem?_append_left (show y < E.types.length from by omega)]
  have hcall : (callS E op x s).2 = 0 → callS { E with types := E.types ++ [t] } op x s = callS E op x s := fun hc => by
    unfold callS at hc ⊢
    by_cases h16 : op = 16
    · rw [if_pos h16] at hc
      rw [if_pos h16, if_pos h16]
      by_cases hf : E.funcs.length ≤ x
      · rw [if_pos hf, if_pos hf]
      · rw [if_neg hf] at hc
        rw [if_neg hf, if_neg hf]
        exact ht _ hc
    · rw [if_neg h16] at hc
      rw [if_neg h16, if_neg h16]
      by_cases hf : E.table = true
      · rw [if_pos hf] at hc
        rw [if_pos hf, if_pos hf]
        exact ht _ hc
      · rw [if_neg hf, if_neg hf]
  unfold oneS at h ⊢
  by_cases hr : rgtF op x b m = 0
  · rw [if_pos hr] at h
    rw [if_pos hr, if_pos hr]
    by_cases h1 : op = 16 ∨ op = 17
    · rw [if_pos h1] at h
      rw [if_pos h1, if_pos h1]
      exact hcall h
    · rw [if_neg h1, if_neg h1]
      rfl
  · rw [if_neg hr, if_neg hr]
theorem run_more (E : Ke) (t : List UInt8 × List UInt8) : ∀ (l : List Ig) (s : Ss) (j : Nat), (runS E l s j).2 = 0 → runS { E with types := E.types ++ [t] } l s j = runS E l s j
  | [], s, j, _ => rfl
  | x :: l, s, j, h => by
    rw [runS] at h
    by_cases hz : (oneS E x.op x.a x.b x.n x.L s).2 = 0
    · rw [if_pos hz] at h
      rw [runS, runS, one_more E t _ _ _ _ _ _ hz, if_pos hz, if_pos hz]
      exact run_more E t l _ _ h
    · rw [if_neg hz] at h
      exact absurd h hz
theorem body_more (E : Ke) (t : List UInt8 × List UInt8) (lo : List (Nat × Nat)) (l : List Ig) (h : (bodyF E lo l).2 = 0) : (bodyF { E with types := E.types ++ [t] } lo l).2 = 0 := by
  rw [bodyF] at h ⊢
  by_cases hs : shpC lo l = 0
  · rw [if_pos hs] at h
    rw [if_pos hs, show s0S { E with types := E.types ++ [t] } = s0S E from rfl, run_more E t l _ _ h]
    exact h
  · rw [if_neg hs] at h ⊢
    exact h
theorem ixE_more {n m k : Nat} {e : Int} (h : ixE n m e = 0) (hmk : m ≤ k) (he : ¬ e = 0) : ixE n k e = 0 := by
  rw [ixE] at h ⊢
  by_cases hn : n < m
  · rw [if_pos (by omega)]
  · rw [if_neg hn] at h
    exact absurd h he
theorem impE_more {n m : Nat} {x : Im} (h : impE n x = 0) (hm : n ≤ m) : impE m x = 0 := by
  rw [impE] at h ⊢
  by_cases hr : imR x = 0
  · rw [if_pos hr] at h ⊢
    by_cases hk : x.k = 0
    · rw [if_pos hk] at h ⊢
      exact ixE_more h hm (by decide)
    · rw [if_neg hk] at h ⊢
      exact h
  · rw [if_neg hr] at h ⊢
    exact h
theorem addT_len (M : Mv) (t : List UInt8 × List UInt8) : (addT M t).types.length = M.types.length + 1 := by rw [addT, List.length_append, List.length_singleton]
theorem addT_tel {M : Mv} (h : M.okAll) (t : List UInt8 × List UInt8) : modF (addT M t) = Ft.no ∨ (modF (addT M t)).list = 1 ∧ (modF (addT M t)).at_ = (M.types.length : Int) := by
  by_cases ht : ftE t = 0
  · refine .inl (modF_no (M := addT M t) ⟨?_, fun x hx => impE_more (h.imports x hx) (by rw [addT_len]; omega), fun q hq => ixE_more (h.funcs q hq) (by rw [addT_len]; omega) (by decide), h.tables, h.tab1, h.mems, h.mem1, h.globals, h.exports, h.once, ?_, h.elems, h.datas, h.len, ?_, h.dy⟩)
    · intro y hy
      rcases List.mem_append.1 hy with hy | hy
      · exact h.types y hy
      · rw [List.mem_singleton.1 hy]; exact ht
    · have hs := h.start
      rw [stF] at hs ⊢
      by_cases h1 : M.start = -1
      · rw [if_pos (show (addT M t).start = -1 from h1)]; rfl
      rw [if_neg h1] at hs
      rw [if_neg (show ¬ (addT M t).start = -1 from h1)]
      by_cases h2 : M.start < 0
      · rw [if_pos h2] at hs
        exact absurd hs (show ¬ (20 : Int) = 0 by decide)
      rw [if_neg h2] at hs
      rw [if_neg (show ¬ (addT M t).start < 0 from h2)]
      by_cases h3 : ((lk0 M).F.length : Int) ≤ M.start
      · rw [if_pos h3] at hs
        exact absurd hs (show ¬ (20 : Int) = 0 by decide)
      rw [if_neg h3] at hs
      rw [if_neg (show ¬ ((lk0 (addT M t)).F.length : Int) ≤ (addT M t).start from h3)]
      by_cases h4 : (tyF M M.start.toNat).2 = true ∧ (tyF M M.start.toNat).1.1 = [] ∧ (tyF M M.start.toNat).1.2 = []
      · have e : tyF (addT M t) (addT M t).start.toNat = tyF M M.start.toNat := by
          have h5 := h4.1
          show tyF (addT M t) M.start.toNat = tyF M M.start.toNat
          unfold tyF at h5 ⊢
          show (match (fnA M.imports M.funcs)[M.start.toNat]? with
            | none => (([], []), false)
            | some q => match (M.types ++ [t])[q]? with
              | none => (([], []), false)
              | some x => (x, true)) = _
          cases hq : (fnA M.imports M.funcs)[M.start.toNat]? with
          | none => rfl
          | some q =>
            rw [hq] at h5
            cases hx : M.types[q]? with
            | none =>
              simp only [hx] at h5
              exact absurd h5 (by decide)
            | some x =>
              obtain ⟨hlt, hxe⟩ := List.getElem?_eq_some_iff.1 hx
              simp only [List.getElem?_append_left hlt, hx]
        rw [if_pos (by rw [e]; exact h4)]
        rfl
      · rw [if_neg h4] at hs
        exact absurd hs (show ¬ (28 : Int) = 0 by decide)
    · intro i hi
      have hi' : i < M.codes.length := hi
      have hf : i < M.funcs.length := by have := h.len; omega
      have hq : M.funcs[i] < M.types.length := by
        have h3 := h.funcs _ (List.getElem_mem hf)
        rw [ixE] at h3
        by_cases hz : M.funcs[i] < M.types.length
        · exact hz
        · rw [if_neg hz] at h3; exact absurd h3 (by decide)
      have hq2 : (addT M t).funcs[i] < (addT M t).types.length := by rw [addT_len]; exact Nat.lt_succ_of_lt hq
      have h4 := h.codes i hi'
      rw [bodyAt_eq _ _ hi' hf hq] at h4
      rw [bodyAt_eq (M := addT M t) _ _ hi hf hq2]
      have e : (addT M t).types[(addT M t).funcs[i]] = M.types[M.funcs[i]] := List.getElem_append_left hq
      rw [e]
      exact body_more (bdK (lk0 M) M M.types[M.funcs[i]] M.codes[i]) t _ _ h4
  · refine .inr ?_
    have e : eachF (M.types.length + 1) 1 (atE (M.types ++ [t]) fun t => (ftE t : Nat)) = ⟨(ftE t : Nat), 1, (M.types.length : Int)⟩ := by
      have hl : ∀ i, i < M.types.length → atE (M.types ++ [t]) (fun t => ((ftE t : Nat) : Int)) i = 0 := fun i hi => by
        rw [atE, List.getElem?_append_left hi, List.getElem?_eq_getElem hi]
        have := h.types _ (List.getElem_mem hi)
        show ((ftE M.types[i] : Nat) : Int) = 0
        rw [this]; rfl
      have hn : atE (M.types ++ [t]) (fun t => ((ftE t : Nat) : Int)) (0 + M.types.length) = (ftE t : Nat) := by
        rw [Nat.zero_add, atE, List.getElem?_append_right (Nat.le_refl _), Nat.sub_self]
        rfl
      rw [eachF, eachR_last 1 _ M.types.length 0 (fun j _ h2 => hl j (by omega)) (by rw [hn]; omega), hn, Nat.zero_add]
    have hA : firstFt (lstA (addT M t)) = ⟨(ftE t : Nat), 1, (M.types.length : Int)⟩ := by
      rw [lstA, addT_len]
      show firstFt (eachF (M.types.length + 1) 1 (atE (M.types ++ [t]) fun t => (ftE t : Nat)) :: _) = _
      rw [e]
      exact firstFt_end (by show ¬ ((ftE t : Nat) : Int) = 0; omega)
    rw [modF, hA, if_neg (by show ¬ ((ftE t : Nat) : Int) = 0; omega)]
    exact ⟨rfl, rfl⟩
end Go.Proofs.Ytpebdfgfikjkeaa
