/-
  module: of all functions the numbers of their types, both.
-/
import Derived.Test.YteibigianodhnaaMfD
set_option linter.unusedVariables false
set_option linter.unusedSimpArgs false
namespace Go.Proofs.Yteibigianodhnaa
open Go.RowKit

/-- The cells of element k of a row of structs. -/
theorem reads_row {α : Type} (c : α → List Value) (m : Nat) (hm : 0 < m) (hc : ∀ a, (c a).length = m) {w : World} {S : Nat → Prop} {A : Option Addr} {l : List α} {n : Nat} (hv : Reads w S m A n (l.flatMap c)) {k : Nat} (hk : k < l.length) :
    ∃ b off, A = some ⟨b, off, none⟩ ∧ S b ∧ b < w.heap.size ∧ ∀ j u, (c l[k])[j]? = some u → w.cell? ⟨b, off + k * m + j, none⟩ = some u := by
  have hn : 0 < n := by
    refine Nat.pos_of_ne_zero fun h => ?_
    have h1 := hv.1
    rw [flat_length c m hc, h, Nat.zero_mul] at h1
    have h2 : 0 < l.length * m := Nat.mul_pos (by omega) hm
    omega
  obtain ⟨ad, rfl, hS, hlt, hcell⟩ := hv.2 hn
  have h00 := flat_get c m hc l 0 0 (by omega) hm
  rw [Nat.zero_mul] at h00
  have h01 : (c (l[0]'(by omega)))[0]? = some ((c (l[0]'(by omega)))[0]'(by rw [hc]; exact hm)) := List.getElem?_eq_getElem _
  have h0 := hcell 0 _ (h00.trans h01)
  obtain ⟨b, off, spot⟩ := ad
  have hspot : spot = none := by
    have := World.cell?_spot h0
    simpa [Addr.add] using this
  subst hspot
  refine ⟨b, off, rfl, hS, hlt, fun j u hu => ?_⟩
  have hj : j < m := by
    have := (List.getElem?_eq_some_iff.1 hu).1
    rwa [hc] at this
  have h1 := hcell (k * m + j) u (by rw [flat_get c m hc l k j hk hj]; exact hu)
  rw [Addr.add_lit] at h1
  rw [Nat.add_assoc]
  exact h1

/-- What is taken, as a record. -/
structure Im where
  s0 : List UInt8
  s1 : List UInt8
  k : Nat
  t : Nat
  mi : Nat
  ma : Nat
  bo : Bool
  g : Nat
  gm : Bool
instance : Inhabited Im := ⟨⟨[], [], 0, 0, 0, 0, false, 0, false⟩⟩
def Im.cells (x : Im) : List Value := [.string (str x.s0), .string (str x.s1), .int .u8 (x.k : Int), .int .u32 (x.t : Int), .int .u32 (x.mi : Int), .int .u32 (x.ma : Int), .bool x.bo, .int .u8 (x.g : Int), .bool x.gm]
theorem Im.nine (x : Im) : x.cells.length = 9 := rfl
def ims (l : List Im) : List Value := l.flatMap Im.cells
theorem E_u32 : ElemTy Try.prog 24 31 1 4 := elem_of Try.underlying24 (z := .int .u32 0) (by kernel_rfl) rfl (by decide)
def u32s (L : List Nat) : List Value := L.map fun n : Nat => .int .u32 (n : Int)
theorem u32s_length (L : List Nat) : (u32s L).length = L.length := by simp [u32s]
theorem u32s_one (L : List Nat) : ∀ u ∈ u32s L, u.oneCell' = true := by
  intro u hu
  obtain ⟨n, _, rfl⟩ := List.mem_map.1 hu
  rfl
theorem u32s_append (L M : List Nat) : u32s (L ++ M) = u32s L ++ u32s M := by simp [u32s]
theorem u32s_get (L : List Nat) (k : Nat) (h : k < L.length) : (u32s L)[k]? = some (.int .u32 (L[k] : Int)) := by simp [u32s, h]

def fnL (l : List Im) (j : Nat) : List Nat := ((l.take j).filter (fun x => x.k == 0)).map Im.t
theorem fnL_zero (l : List Im) : fnL l 0 = [] := rfl
theorem fnL_t (l : List Im) (j : Nat) (h : j < l.length) (hk : l[j].k = 0) : fnL l (j + 1) = fnL l j ++ [l[j].t] := by
  unfold fnL
  rw [List.take_succ_eq_append_getElem h, List.filter_append, List.map_append]
  simp [hk]
theorem fnL_f (l : List Im) (j : Nat) (h : j < l.length) (hk : ¬ l[j].k = 0) : fnL l (j + 1) = fnL l j := by
  unfold fnL
  rw [List.take_succ_eq_append_getElem h, List.filter_append, List.map_append]
  simp [hk]
theorem fnL_len (l : List Im) (j : Nat) : (fnL l j).length ≤ j := by
  unfold fnL
  rw [List.length_map]
  exact Nat.le_trans (List.length_filter_le _ _) (by rw [List.length_take]; omega)
/-- All functions' types. -/
def fnA (l : List Im) (fs : List Nat) : List Nat := fnL l l.length ++ fs

set_option maxRecDepth 100000 in
set_option maxHeartbeats 3200000 in
theorem funcs_ok (w : World) (T I Fa : Option Addr) (tn tc n ic m fc : Nat) (x3 x4 x5 x6 x7 x8 x9 x10 x11 x12 x13 x14 x15 x16 : Value) (l : List Im) (fs : List Nat) (S S' : Nat → Prop) (HN : Hid (n = l.length)) (hn : n ≤ 100) (HM : Hid (m = fs.length)) (hm : m ≤ 100) (hr : Reads w S 9 I n (ims l)) (hf : Reads w S' 1 Fa m (u32s fs)) :
    Calls Try.prog 5 #[.agg #[.slice T tn tc, .slice I n ic, .slice Fa m fc, x3, x4, x5, x6, x7, x8, x9, x10, x11, x12, x13, x14, x15, x16]] w fun e w' => ∃ D c, e = .returned (.slice D (fnA l fs).length c) ∧ w'.ownsRow w.heap.size 31 1 (.slice D (fnA l fs).length c) (fnA l fs).length (u32s (fnA l fs)) ∧ Step (fun _ => False) w w' := by
  obtain ⟨v1, hv1⟩ : ∃ v1, v1 = w.alloc (.cells #[.slice T tn tc, .slice I n ic, .slice Fa m fc, x3, x4, x5, x6, x7, x8, x9, x10, x11, x12, x13, x14, x15, x16] 36) := ⟨_, rfl⟩
  have HB : Hid (Blk v1 w.heap.size 36 #[.slice T tn tc, .slice I n ic, .slice Fa m fc, x3, x4, x5, x6, x7, x8, x9, x10, x11, x12, x13, x14, x15, x16]) := by rw [hv1]; exact Blk.new w _ _
  have HS : Hid (Step (fun _ => False) w v1) := by rw [hv1]; exact Step.refl.alloc _
  have HR := Lib.hid (hr.step HS.out (fun _ _ => id))
  have HF := Lib.hid (hf.step HS.out (fun _ _ => id))
  have HE := Lib.hid hv1
  have HO0 : Hid (v1.ownsRow v1.heap.size 31 1 (.slice none 0 0) 0 (u32s [])) := World.ownsRow_nil _ _ _ _
  have c1 := HB.out.cell 1
  simp at c1
  rw [hv1] at c1
  clear hr hf hv1
  go_enter Try.func5, Try.ntmps5
  go_wp2_with fail
  rw [← HE.out]
  rw [← HE.out] at c1
  go_loopw [3, 9] (fun ov iv wr => ∃ (j c2 : Nat) (D2 : Option Addr), j ≤ n ∧ ov = .slice D2 (fnL l j).length c2 ∧ iv = .int .i64 (j : Int) ∧ Hid (Step (fun _ => False) v1 wr) ∧
    Hid (wr.ownsRow v1.heap.size 31 1 (.slice D2 (fnL l j).length c2) (fnL l j).length (u32s (fnL l j)))) (fun _ iv _ => n + 1 - (intOf iv).toNat)
  case atStart => exact ⟨0, 0, none, by omega, rfl, rfl, Step.refl, HO0⟩
  case round =>
    obtain ⟨j, c2, D2, hj, rfl, rfl, HSj, HOj⟩ := hrel
    clear HO0 c1
    have hfl := fnL_len l j
    have HBj := Lib.hid (HB.out.step HSj.out id)
    have c1 := HBj.out.cell 1
    have c2' := HBj.out.cell 2
    simp at c1 c2'
    have hsv := HSj.out.size
    have hsw := HS.out.size
    by_cases hlt : j < n
    · have g1 : (j : Int) < (n : Int) := by omega
      have i0 : (0 : Int) ≤ (j : Int) := by omega
      have hw1 := IntWalk.i64_in ((j : Int) + 1) (by omega)
      have hjl : j < l.length := by rw [← HN.out]; exact hlt
      obtain ⟨bk, off, rfl, _, hbl, hc⟩ := reads_row Im.cells 9 (by decide) Im.nine (HR.out.step HSj.out (fun _ _ => id)) (k := j) hjl
      have HT := Lib.hid (fnL_t l j hjl)
      have HX := Lib.hid (fnL_f l j hjl)
      obtain ⟨x, hxe⟩ : ∃ x, x = l[j] := ⟨_, rfl⟩
      rw [← hxe] at hc HT HX
      clear hxe
      obtain ⟨s0, s1, kk, t, mi, ma, bo, g, gm⟩ := x
      have e0 := hc 0 _ rfl
      have e1 := hc 1 _ rfl
      have e2 := hc 2 _ rfl
      have e3 := hc 3 _ rfl
      have e4 := hc 4 _ rfl
      have e5 := hc 5 _ rfl
      have e6 := hc 6 _ rfl
      have e7 := hc 7 _ rfl
      have e8 := hc 8 _ rfl
      simp only [Nat.add_zero] at e0
      simp only at e0 e1 e2 e3 e4 e5 e6 e7 e8 HT HX
      clear hc
      obtain ⟨k, hk⟩ : ∃ k : Int, k = (kk : Int) := ⟨_, rfl⟩
      rw [← hk] at e2
      have HK := Lib.hid hk
      clear hk
      by_cases hz : kk = 0
      · have hk0 : k = 0 := by rw [HK.out, hz]; rfl
        have HTz := Lib.hid (HT.out hz)
        clear HT HX HK hz
        subst hk0
        obtain ⟨V, hV⟩ : ∃ V, V = wr.alloc (.cells #[.string (str s0), .string (str s1), .int .u8 0, .int .u32 (t : Int), .int .u32 (mi : Int), .int .u32 (ma : Int), .bool bo, .int .u8 (g : Int), .bool gm] 54) := ⟨_, rfl⟩
        have HBx : Hid (Blk V wr.heap.size 54 #[.string (str s0), .string (str s1), .int .u8 0, .int .u32 (t : Int), .int .u32 (mi : Int), .int .u32 (ma : Int), .bool bo, .int .u8 (g : Int), .bool gm]) := by rw [hV]; exact Blk.new wr _ _
        have HSx : Hid (Step (fun _ => False) v1 V) := by rw [hV]; exact HSj.out.alloc _
        have HOx : Hid (V.ownsRow v1.heap.size 31 1 (.slice D2 (fnL l j).length c2) (fnL l j).length (u32s (fnL l j))) := by rw [hV]; exact HOj.out.alloc _
        have b2 := HBx.out.cell 2
        have b3 := HBx.out.cell 3
        simp at b2 b3
        rw [hV] at b2 b3 HOx HSx
        have hsx := HSx.out.size
        clear hV HBx HOj HSj
        have hone : ∀ u ∈ #[Value.int .u32 (t : Int)].toList, u.oneCell' = true := by simp [Value.oneCell']
        have hmx : (fnL l j).length + 1 ≤ maxLen := by unfold maxLen; omega
        have hrn := reads_new (wr.alloc (.cells #[.string (str s0), .string (str s1), .int .u8 0, .int .u32 (t : Int), .int .u32 (mi : Int), .int .u32 (ma : Int), .bool bo, .int .u8 (g : Int), .bool gm] 54)) #[Value.int .u32 (t : Int)] 31 1 1 rfl
        rw [show (wr.alloc (.cells #[.string (str s0), .string (str s1), .int .u8 0, .int .u32 (t : Int), .int .u32 (mi : Int), .int .u32 (ma : Int), .bool bo, .int .u8 (g : Int), .bool gm] 54)).heap.size = wr.heap.size + 1 by simp] at hrn
        go_wp2_with (at_builtin; refine wpList_append_src _ rfl _ _ (by rfl) E_u32 (by rfl) (HOx.out.alloc _) (by rfl) hrn hone hmx (by omega) (by simp at hsx ⊢; omega) ?_; intro D' c' w8 hown8 hgrow hat)
        have HS8 := Lib.hid (grow_step (HSx.out.alloc (.cells #[Value.int .u32 (t : Int)] 31)) hgrow (HOx.out.alloc _) (Nat.le_refl _))
        rw [show u32s (fnL l j) ++ #[Value.int .u32 (t : Int)].toList = u32s (fnL l (j + 1)) by rw [HTz.out, u32s_append]; rfl, show (fnL l j).length + 1 = (fnL l (j + 1)).length by rw [HTz.out]; simp] at hown8
        rw [show (fnL l j).length + 1 = (fnL l (j + 1)).length by rw [HTz.out]; simp]
        go_roundw
        case rel => exact ⟨j + 1, c', D', by omega, rfl, by rw [Int.natCast_add]; rfl, HS8, hown8⟩
        case measure => simp [intOf]; omega
      · have hkb : (k == 0) = false := by rw [HK.out]; simp; omega
        have hkn : ¬ k = 0 := by rw [HK.out]; omega
        have HXz := Lib.hid (HX.out hz)
        clear HT HX HK hz
        obtain ⟨V, hV⟩ : ∃ V, V = wr.alloc (.cells #[.string (str s0), .string (str s1), .int .u8 k, .int .u32 (t : Int), .int .u32 (mi : Int), .int .u32 (ma : Int), .bool bo, .int .u8 (g : Int), .bool gm] 54) := ⟨_, rfl⟩
        have HBx : Hid (Blk V wr.heap.size 54 #[.string (str s0), .string (str s1), .int .u8 k, .int .u32 (t : Int), .int .u32 (mi : Int), .int .u32 (ma : Int), .bool bo, .int .u8 (g : Int), .bool gm]) := by rw [hV]; exact Blk.new wr _ _
        have HSx : Hid (Step (fun _ => False) v1 V) := by rw [hV]; exact HSj.out.alloc _
        have HOx : Hid (V.ownsRow v1.heap.size 31 1 (.slice D2 (fnL l j).length c2) (fnL l j).length (u32s (fnL l j))) := by rw [hV]; exact HOj.out.alloc _
        have b2 := HBx.out.cell 2
        simp at b2
        rw [hV] at b2 HOx HSx
        clear hV HBx HOj HSj
        go_wp2_with fail
        go_roundw
        case rel => exact ⟨j + 1, c2, D2, by omega, by rw [HXz.out], by rw [Int.natCast_add]; rfl, HSx, by rw [HXz.out]; exact HOx⟩
        case measure => simp [intOf]; omega
    · obtain rfl : j = n := by omega
      have hFr := HF.out.step HSj.out (fun _ _ => id)
      have hone := u32s_one fs
      have hmx : (fnL l j).length + m ≤ maxLen := by unfold maxLen; omega
      go_wp2_with (at_builtin; refine wpList_append_src _ rfl _ _ (by rfl) E_u32 (by rfl) HOj.out (by rfl) hFr hone hmx (by omega) (by omega) ?_; intro D' c' w8 hown8 hgrow hat)
      go_ret
      rw [show u32s (fnL l j) ++ u32s fs = u32s (fnA l fs) by rw [fnA, u32s_append, ← HN.out], show (fnL l j).length + m = (fnA l fs).length by rw [fnA, List.length_append, ← HN.out, ← HM.out]] at hown8
      rw [show (fnL l j).length + m = (fnA l fs).length by rw [fnA, List.length_append, ← HN.out, ← HM.out]]
      exact ⟨D', c', rfl, own_base hown8 (fun k hk => Nat.le_trans hsw (own_ge hown8 k hk)), HS.out.trans (grow_step HSj.out hgrow HOj.out (Nat.le_refl _))⟩

set_option maxRecDepth 100000 in
set_option maxHeartbeats 3200000 in
theorem rfuncs_ok (w : World) (T I Fa : Option Addr) (tn tc n ic m fc : Nat) (x3 x4 x5 x6 x7 x8 x9 x10 x11 x12 x13 x14 x15 x16 : Value) (l : List Im) (fs : List Nat) (S S' : Nat → Prop) (HN : Hid (n = l.length)) (hn : n ≤ 100) (HM : Hid (m = fs.length)) (hm : m ≤ 100) (hr : Reads w S 9 I n (ims l)) (hf : Reads w S' 1 Fa m (u32s fs)) :
    Calls Try.prog 6 #[.agg #[.slice T tn tc, .slice I n ic, .slice Fa m fc, x3, x4, x5, x6, x7, x8, x9, x10, x11, x12, x13, x14, x15, x16]] w fun e w' => ∃ D c, e = .returned (.slice D (fnA l fs).length c) ∧ w'.ownsRow w.heap.size 31 1 (.slice D (fnA l fs).length c) (fnA l fs).length (u32s (fnA l fs)) ∧ Step (fun _ => False) w w' := by
  obtain ⟨v1, hv1⟩ : ∃ v1, v1 = w.alloc (.cells #[.slice T tn tc, .slice I n ic, .slice Fa m fc, x3, x4, x5, x6, x7, x8, x9, x10, x11, x12, x13, x14, x15, x16] 36) := ⟨_, rfl⟩
  have HB : Hid (Blk v1 w.heap.size 36 #[.slice T tn tc, .slice I n ic, .slice Fa m fc, x3, x4, x5, x6, x7, x8, x9, x10, x11, x12, x13, x14, x15, x16]) := by rw [hv1]; exact Blk.new w _ _
  have HS : Hid (Step (fun _ => False) w v1) := by rw [hv1]; exact Step.refl.alloc _
  have HR := Lib.hid (hr.step HS.out (fun _ _ => id))
  have HF := Lib.hid (hf.step HS.out (fun _ _ => id))
  have HE := Lib.hid hv1
  have HO0 : Hid (v1.ownsRow v1.heap.size 31 1 (.slice none 0 0) 0 (u32s [])) := World.ownsRow_nil _ _ _ _
  have c1 := HB.out.cell 1
  simp at c1
  rw [hv1] at c1
  clear hr hf hv1
  go_enter Try.func6, Try.ntmps6
  go_wp2_with fail
  rw [← HE.out]
  rw [← HE.out] at c1
  go_loopw [3, 4] (fun ov iv wr => ∃ (j c2 : Nat) (D2 : Option Addr), j ≤ n ∧ ov = .slice D2 (fnL l j).length c2 ∧ iv = .int .i64 (j : Int) ∧ Hid (Step (fun _ => False) v1 wr) ∧
    Hid (wr.ownsRow v1.heap.size 31 1 (.slice D2 (fnL l j).length c2) (fnL l j).length (u32s (fnL l j)))) (fun _ iv _ => n + 1 - (intOf iv).toNat)
  case atStart => exact ⟨0, 0, none, by omega, rfl, rfl, Step.refl, HO0⟩
  case round =>
    obtain ⟨j, c2, D2, hj, rfl, rfl, HSj, HOj⟩ := hrel
    clear HO0 c1
    have hfl := fnL_len l j
    have HBj := Lib.hid (HB.out.step HSj.out id)
    have c1 := HBj.out.cell 1
    have c2' := HBj.out.cell 2
    simp at c1 c2'
    have hsv := HSj.out.size
    have hsw := HS.out.size
    by_cases hlt : j < n
    · have g1 : (j : Int) < (n : Int) := by omega
      have i0 : (0 : Int) ≤ (j : Int) := by omega
      have hw1 := IntWalk.i64_in ((j : Int) + 1) (by omega)
      have hjl : j < l.length := by rw [← HN.out]; exact hlt
      obtain ⟨bk, off, rfl, _, hbl, hc⟩ := reads_row Im.cells 9 (by decide) Im.nine (HR.out.step HSj.out (fun _ _ => id)) (k := j) hjl
      have HT := Lib.hid (fnL_t l j hjl)
      have HX := Lib.hid (fnL_f l j hjl)
      obtain ⟨x, hxe⟩ : ∃ x, x = l[j] := ⟨_, rfl⟩
      rw [← hxe] at hc HT HX
      clear hxe
      obtain ⟨s0, s1, kk, t, mi, ma, bo, g, gm⟩ := x
      have e0 := hc 0 _ rfl
      have e1 := hc 1 _ rfl
      have e2 := hc 2 _ rfl
      have e3 := hc 3 _ rfl
      have e4 := hc 4 _ rfl
      have e5 := hc 5 _ rfl
      have e6 := hc 6 _ rfl
      have e7 := hc 7 _ rfl
      have e8 := hc 8 _ rfl
      simp only [Nat.add_zero] at e0
      simp only at e0 e1 e2 e3 e4 e5 e6 e7 e8 HT HX
      clear hc
      obtain ⟨k, hk⟩ : ∃ k : Int, k = (kk : Int) := ⟨_, rfl⟩
      rw [← hk] at e2
      have HK := Lib.hid hk
      clear hk
      by_cases hz : kk = 0
      · have hk0 : k = 0 := by rw [HK.out, hz]; rfl
        have HTz := Lib.hid (HT.out hz)
        clear HT HX HK hz
        subst hk0
        have HSx := HSj
        have HOx := HOj
        have hsx := HSx.out.size
        have hone : ∀ u ∈ #[Value.int .u32 (t : Int)].toList, u.oneCell' = true := by simp [Value.oneCell']
        have hmx : (fnL l j).length + 1 ≤ maxLen := by unfold maxLen; omega
        go_wp2_with (at_builtin; refine wpList_append_src _ rfl _ _ (by rfl) E_u32 (by rfl) (HOx.out.alloc _) (by rfl) (reads_new _ #[Value.int .u32 (t : Int)] 31 1 1 rfl) hone hmx (by omega) (by simp at hsx ⊢; omega) ?_; intro D' c' w8 hown8 hgrow hat)
        have HS8 := Lib.hid (grow_step (HSx.out.alloc (.cells #[Value.int .u32 (t : Int)] 31)) hgrow (HOx.out.alloc _) (Nat.le_refl _))
        rw [show u32s (fnL l j) ++ #[Value.int .u32 (t : Int)].toList = u32s (fnL l (j + 1)) by rw [HTz.out, u32s_append]; rfl, show (fnL l j).length + 1 = (fnL l (j + 1)).length by rw [HTz.out]; simp] at hown8
        rw [show (fnL l j).length + 1 = (fnL l (j + 1)).length by rw [HTz.out]; simp]
        go_roundw
        case rel => exact ⟨j + 1, c', D', by omega, rfl, by rw [Int.natCast_add]; rfl, HS8, hown8⟩
        case measure => simp [intOf]; omega
      · have hkb : (k == 0) = false := by rw [HK.out]; simp; omega
        have hkn : ¬ k = 0 := by rw [HK.out]; omega
        have HXz := Lib.hid (HX.out hz)
        clear HT HX HK hz
        have HSx := HSj
        have HOx := HOj
        go_wp2_with fail
        go_roundw
        case rel => exact ⟨j + 1, c2, D2, by omega, by rw [HXz.out], by rw [Int.natCast_add]; rfl, HSx, by rw [HXz.out]; exact HOx⟩
        case measure => simp [intOf]; omega
    · obtain rfl : j = n := by omega
      have hFr := HF.out.step HSj.out (fun _ _ => id)
      have hone := u32s_one fs
      have hmx : (fnL l j).length + m ≤ maxLen := by unfold maxLen; omega
      go_wp2_with (at_builtin; refine wpList_append_src _ rfl _ _ (by rfl) E_u32 (by rfl) HOj.out (by rfl) hFr hone hmx (by omega) (by omega) ?_; intro D' c' w8 hown8 hgrow hat)
      go_ret
      rw [show u32s (fnL l j) ++ u32s fs = u32s (fnA l fs) by rw [fnA, u32s_append, ← HN.out], show (fnL l j).length + m = (fnA l fs).length by rw [fnA, List.length_append, ← HN.out, ← HM.out]] at hown8
      rw [show (fnL l j).length + m = (fnA l fs).length by rw [fnA, List.length_append, ← HN.out, ← HM.out]]
      exact ⟨D', c', rfl, own_base hown8 (fun k hk => Nat.le_trans hsw (own_ge hown8 k hk)), HS.out.trans (grow_step HSj.out hgrow HOj.out (Nat.le_refl _))⟩
end Go.Proofs.Yteibigianodhnaa
