/-
  Kwc: KvC, KvD, KvE.
-/
import Derived.Test.YtpebdfgfikjkeaaKwa
import Derived.Test.YtpebdfgfikjkeaaInA
import Derived.Test.YtpebdfgfikjkeaaKka
import Derived.Test.YtpebdfgfikjkeaaMxt
set_option linter.unusedVariables false
set_option linter.unusedSimpArgs false
/-! types: Values, Func, Limits; exports.Right; imports.Count. -/
namespace Go.Proofs.Ytpebdfgfikjkeaa
open Go.RowKit

def valsE : List UInt8 → Nat
  | [] => 0
  | b :: l => if valF b.toNat = 0 then valsE l else valF b.toNat
set_option maxRecDepth 100000 in
set_option maxHeartbeats 800000 in
theorem t_values (w : World) (l : List UInt8) (hl : l.length ≤ 100000) : Calls Try.prog 55 #[.string (str l)] w fun e w' => e = .returned (.int .i64 (valsE l : Nat)) ∧ w = w' := by
  have hsz := str_size l
  have HV : Hid (∀ W (b : UInt8), Calls Try.prog 43 #[.int .u8 (b.toNat : Int)] W fun e w' => e = .returned (.int .i64 (valF b.toNat : Nat)) ∧ w' = W) := fun W b => value_walk W b.toNat b.toNat_lt
  obtain ⟨n, hn⟩ : ∃ n, n = l.length := ⟨_, rfl⟩
  rw [← hn] at hsz hl
  replace hn := Lib.hid hn
  go_enter Try.func55, Try.ntmps55
  go_wp2_with fail
  go_loopw [7] (fun iv wr => ∃ (j : Nat), j ≤ n ∧ iv = .int .i64 (j : Int) ∧ Hid (valsE l = valsE (l.drop j)) ∧ Hid (w = wr)) (fun iv _ => n + 1 - (intOf iv).toNat)
  case atStart => exact ⟨0, by omega, rfl, rfl, rfl⟩
  case round =>
    obtain ⟨j, hj, rfl, HI, HW⟩ := hrel
    have hw := HW.out
    subst hw
    by_cases hlt : j < n
    · have q1 : (j : Int) < (n : Int) := by omega
      have hw2 := IntWalk.i64_in ((j : Int) + 1) (by omega)
      have hjl : j < l.length := by rw [← hn.out]; exact hlt
      have HX : ∀ W, (Instr.index 9 (.string (str l)) (.int .i64 (j : Int))).run Try.prog W = .ok (.int .u8 (l[j].toNat : Int)) W := fun W => index_str Try.underlying9 l j hjl W
      have HD : Hid (l.drop j = l[j] :: l.drop (j + 1)) := List.drop_eq_getElem_cons _
      generalize l[j] = b at HX HD
      have HU : Hid (valsE (b :: l.drop (j + 1)) = if valF b.toNat = 0 then valsE (l.drop (j + 1)) else valF b.toNat) := rfl
      have HVb := Lib.hid (fun W => HV.out W b)
      generalize valF b.toNat = r at HU HVb
      by_cases hr : r = 0
      · subst hr
        have HI2 : Hid (valsE l = valsE (l.drop (j + 1))) := by unfold Hid; rw [HI.out, HD.out, HU.out, if_pos rfl]
        go_wp2_with fail
        refine (HVb.out _).mono ?_
        rintro e w1 ⟨rfl, hw⟩
        subst hw
        go_wp2_with fail
        go_roundw
        case rel => exact ⟨j + 1, by omega, by rw [Int.natCast_add]; rfl, HI2, by first | rfl | trivial⟩
        case measure => simp [intOf]; omega
      · have HI2 : Hid (valsE l = r) := by unfold Hid; rw [HI.out, HD.out, HU.out, if_neg hr]
        have e1 : ((r : Int) != 0) = true := by simp; omega
        clear hr
        go_wp2_with fail
        refine (HVb.out _).mono ?_
        rintro e w1 ⟨rfl, hw⟩
        subst hw
        go_wp2_with fail
        go_ret
        exact ⟨by rw [HI2.out]; rfl, by first | rfl | trivial⟩
    · obtain rfl : j = n := by omega
      have HI2 : Hid (valsE l = 0) := by unfold Hid; rw [HI.out, hn.out, List.drop_length]; rfl
      go_wp2_with fail
      go_ret
      exact ⟨by rw [HI2.out]; rfl, by first | rfl | trivial⟩
def ftE (t : List UInt8 × List UInt8) : Nat := if 1000 < t.1.length then 29 else if 1 < t.2.length then 29 else if valsE t.1 = 0 then valsE t.2 else valsE t.1
set_option maxRecDepth 100000 in
set_option maxHeartbeats 800000 in
theorem t_func (w : World) (p q : List UInt8) : Calls Try.prog 25 #[.agg #[.string (str p), .string (str q)]] w fun e w' => e = .returned (.int .i64 (ftE (p, q) : Nat)) ∧ Step (fun _ => False) w w' := by
  have hp := str_size p
  have hq := str_size q
  have s1 : Step (fun _ => False) w (w.alloc (.cells #[.string (str p), .string (str q)] 28)) := Step.refl.alloc _
  have S1 := Lib.hid s1
  clear s1
  by_cases h1 : 1000 < p.length
  · have g1 : (1000 : Int) < (p.length : Int) := by omega
    have HG : Hid (ftE (p, q) = 29) := if_pos h1
    go_enter Try.func25, Try.ntmps25
    go_wp2_with fail
    go_ret
    exact ⟨by rw [HG.out]; rfl, S1.out⟩
  have g1 : ¬ (1000 : Int) < (p.length : Int) := by omega
  have hg : ftE (p, q) = if 1 < q.length then 29 else if valsE p = 0 then valsE q else valsE p := if_neg h1
  by_cases h2 : 1 < q.length
  · have g2 : (1 : Int) < (q.length : Int) := by omega
    have HG : Hid (ftE (p, q) = 29) := by rw [Hid, hg, if_pos h2]
    clear hg
    go_enter Try.func25, Try.ntmps25
    go_wp2_with fail
    go_ret
    exact ⟨by rw [HG.out]; rfl, S1.out⟩
  have g2 : ¬ (1 : Int) < (q.length : Int) := by omega
  rw [if_neg h2] at hg
  have HP := Lib.hid (fun W => t_values W p (by omega))
  have HQ := Lib.hid (fun W => t_values W q (by omega))
  generalize valsE p = r at hg HP
  generalize valsE q = r2 at hg HQ
  by_cases h3 : r = 0
  · subst h3
    rw [if_pos rfl] at hg
    have HG := Lib.hid hg
    clear hg h1 h2
    go_enter Try.func25, Try.ntmps25
    go_wp2_with fail
    refine (HP.out _).mono ?_
    rintro e w1 ⟨rfl, hw⟩
    subst hw
    go_wp2_with fail
    refine (HQ.out _).mono ?_
    rintro e w1 ⟨rfl, hw⟩
    subst hw
    go_wp2_with fail
    go_ret
    exact ⟨by rw [HG.out]; rfl, S1.out⟩
  · rw [if_neg h3] at hg
    have HG := Lib.hid hg
    have e1 : ((r : Int) != 0) = true := by simp; omega
    clear hg h1 h2 h3
    go_enter Try.func25, Try.ntmps25
    go_wp2_with fail
    refine (HP.out _).mono ?_
    rintro e w1 ⟨rfl, hw⟩
    subst hw
    go_wp2_with fail
    go_ret
    exact ⟨by rw [HG.out]; rfl, S1.out⟩

/-- Limits. -/
structure Lm where
  lo : Nat
  hi : Nat
  bd : Bool
def Lm.cells (l : Lm) : List Value := [.int .u32 (l.lo : Int), .int .u32 (l.hi : Int), .bool l.bd]
def lmE (l : Lm) (most : Nat) : Nat := if most < l.lo then 26 else if l.bd = true then (if l.hi < l.lo then 26 else if most < l.hi then 26 else 0) else if l.hi = 0 then 0 else 26
set_option maxRecDepth 100000 in
set_option maxHeartbeats 800000 in
theorem t_limits (w : World) (lo hi most : Nat) (bd : Bool) : Calls Try.prog 30 #[.agg #[.int .u32 (lo : Int), .int .u32 (hi : Int), .bool bd], .int .u32 (most : Int)] w fun e w' => e = .returned (.int .i64 (lmE ⟨lo, hi, bd⟩ most : Nat)) ∧ Step (fun _ => False) w w' := by
  have s1 : Step (fun _ => False) w (w.alloc (.cells #[.int .u32 (lo : Int), .int .u32 (hi : Int), .bool bd] 60)) := Step.refl.alloc _
  have S1 := Lib.hid s1
  clear s1
  have hg : lmE ⟨lo, hi, bd⟩ most = if most < lo then 26 else if bd = true then (if hi < lo then 26 else if most < hi then 26 else 0) else if hi = 0 then 0 else 26 := rfl
  by_cases h1 : most < lo
  · have g1 : (most : Int) < (lo : Int) := by omega
    have HG : Hid (lmE ⟨lo, hi, bd⟩ most = 26) := by rw [Hid, hg, if_pos h1]
    clear hg h1
    go_enter Try.func30, Try.ntmps30
    go_wp2_with fail
    go_ret
    exact ⟨by rw [HG.out]; rfl, S1.out⟩
  have g1 : ¬ (most : Int) < (lo : Int) := by omega
  rw [if_neg h1] at hg
  cases bd with
  | true =>
    rw [if_pos rfl] at hg
    by_cases h2 : hi < lo
    · have g2 : (hi : Int) < (lo : Int) := by omega
      have HG : Hid (lmE ⟨lo, hi, true⟩ most = 26) := by rw [Hid, hg, if_pos h2]
      clear hg h1 h2
      go_enter Try.func30, Try.ntmps30
      go_wp2_with fail
      go_ret
      exact ⟨by rw [HG.out]; rfl, S1.out⟩
    have g2 : ¬ (hi : Int) < (lo : Int) := by omega
    rw [if_neg h2] at hg
    by_cases h3 : most < hi
    · have g3 : (most : Int) < (hi : Int) := by omega
      have HG : Hid (lmE ⟨lo, hi, true⟩ most = 26) := by rw [Hid, hg, if_pos h3]
      clear hg h1 h2 h3
      go_enter Try.func30, Try.ntmps30
      go_wp2_with fail
      go_ret
      exact ⟨by rw [HG.out]; rfl, S1.out⟩
    have g3 : ¬ (most : Int) < (hi : Int) := by omega
    have HG : Hid (lmE ⟨lo, hi, true⟩ most = 0) := by rw [Hid, hg, if_neg h3]
    clear hg h1 h2 h3
    go_enter Try.func30, Try.ntmps30
    go_wp2_with fail
    go_ret
    exact ⟨by rw [HG.out]; rfl, S1.out⟩
  | false =>
    rw [if_neg (by decide)] at hg
    by_cases h2 : hi = 0
    · rw [if_pos h2] at hg
      have g2 : ((hi : Int) != 0) = false := by rw [h2]; rfl
      have HG := Lib.hid hg
      clear hg h1 h2
      go_enter Try.func30, Try.ntmps30
      go_wp2_with fail
      go_ret
      exact ⟨by rw [HG.out]; rfl, S1.out⟩
    · rw [if_neg h2] at hg
      have g2 : ((hi : Int) != 0) = true := by simp; omega
      have HG := Lib.hid hg
      clear hg h1 h2
      go_enter Try.func30, Try.ntmps30
      go_wp2_with fail
      go_ret
      exact ⟨by rw [HG.out]; rfl, S1.out⟩

/-- An export. -/
structure Ex where
  n : List UInt8
  k : Nat
  ix : Nat
def Ex.cells (x : Ex) : List Value := [.string (str x.n), .int .u8 (x.k : Int), .int .u32 (x.ix : Int)]
def exR (x : Ex) : Int := if utfE x.n = 0 then (if 3 < x.k then 43 else 0) else utfE x.n
set_option maxRecDepth 100000 in
set_option maxHeartbeats 800000 in
theorem e_right (w : World) (nm : List UInt8) (k ix : Nat) : Calls Try.prog 59 #[.agg #[.string (str nm), .int .u8 (k : Int), .int .u32 (ix : Int)]] w fun e w' => e = .returned (.int .i64 (exR ⟨nm, k, ix⟩)) ∧ Step (fun _ => False) w w' := by
  have s1 : Step (fun _ => False) w (w.alloc (.cells #[.string (str nm), .int .u8 (k : Int), .int .u32 (ix : Int)] 66)) := Step.refl.alloc _
  have b1 := Blk.new w 66 #[.string (str nm), .int .u8 (k : Int), .int .u32 (ix : Int)]
  have S1 := Lib.hid s1
  have B1 := Lib.hid b1
  clear s1 b1
  have HC := Lib.hid (fun W => u_check W nm)
  have hg : exR ⟨nm, k, ix⟩ = if utfE nm = 0 then (if 3 < k then 43 else 0) else utfE nm := rfl
  generalize utfE nm = r at HC hg
  by_cases h1 : r = 0
  · subst h1
    rw [if_pos rfl] at hg
    have HG := Lib.hid hg
    clear hg
    by_cases h3 : 3 < k
    · have g3 : (3 : Int) < (k : Int) := by omega
      have HK := Lib.hid h3
      clear h3
      go_enter Try.func59, Try.ntmps59
      go_wp2_with fail
      refine (HC.out _).mono ?_
      rintro e w1 ⟨rfl, t1⟩
      have m1 := ((B1.out.step t1 id).cell 1).trans (show _ = some (Value.int .u8 (k : Int)) from rfl)
      go_wp2_with fail
      go_ret
      exact ⟨by rw [HG.out, if_pos HK.out]; rfl, S1.out.trans t1⟩
    · have g3 : ¬ (3 : Int) < (k : Int) := by omega
      have HK := Lib.hid h3
      clear h3
      go_enter Try.func59, Try.ntmps59
      go_wp2_with fail
      refine (HC.out _).mono ?_
      rintro e w1 ⟨rfl, t1⟩
      have m1 := ((B1.out.step t1 id).cell 1).trans (show _ = some (Value.int .u8 (k : Int)) from rfl)
      go_wp2_with fail
      go_ret
      exact ⟨by rw [HG.out, if_neg HK.out]; rfl, S1.out.trans t1⟩
  · rw [if_neg h1] at hg
    have HG := Lib.hid hg
    have e1 : (r != 0) = true := by simpa using h1
    clear hg h1
    go_enter Try.func59, Try.ntmps59
    go_wp2_with fail
    refine (HC.out _).mono ?_
    rintro e w1 ⟨rfl, t1⟩
    go_wp2_with fail
    go_ret
    exact ⟨by rw [HG.out]; rfl, S1.out.trans t1⟩
end Go.Proofs.Ytpebdfgfikjkeaa
/-! module: Funcs, TypeOf (out of MfE, MfF). -/
namespace Go.Proofs.Ytpebdfgfikjkeaa
open Go.RowKit

/-- What is taken, as a record. -/
structure Im where
  s0 : List UInt8
  s1 : List UInt8
  k : Nat
  t : Nat
  mi : Nat
  ma : Nat
  bo : Bool
  g : Nat
  gm : Bool
instance : Inhabited Im := ⟨⟨[], [], 0, 0, 0, 0, false, 0, false⟩⟩
def Im.cells (x : Im) : List Value := [.string (str x.s0), .string (str x.s1), .int .u8 (x.k : Int), .int .u32 (x.t : Int), .int .u32 (x.mi : Int), .int .u32 (x.ma : Int), .bool x.bo, .int .u8 (x.g : Int), .bool x.gm]
theorem Im.nine (x : Im) : x.cells.length = 9 := rfl
def ims (l : List Im) : List Value := l.flatMap Im.cells
theorem E_u32 : ElemTy Try.prog 23 48 1 4 := elem_of Try.underlying23 (z := .int .u32 0) (by kernel_rfl) rfl (by decide)
def u32s (L : List Nat) : List Value := L.map fun n : Nat => .int .u32 (n : Int)
theorem u32s_length (L : List Nat) : (u32s L).length = L.length := by simp [u32s]
theorem u32s_one (L : List Nat) : ∀ u ∈ u32s L, u.oneCell' = true := by
  intro u hu
  obtain ⟨n, _, rfl⟩ := List.mem_map.1 hu
  rfl
theorem u32s_append (L M : List Nat) : u32s (L ++ M) = u32s L ++ u32s M := by simp [u32s]
theorem u32s_get (L : List Nat) (k : Nat) (h : k < L.length) : (u32s L)[k]? = some (.int .u32 (L[k] : Int)) := by simp [u32s, h]

def fnL (l : List Im) (j : Nat) : List Nat := ((l.take j).filter (fun x => x.k == 0)).map Im.t
theorem fnL_zero (l : List Im) : fnL l 0 = [] := rfl
theorem fnL_t (l : List Im) (j : Nat) (h : j < l.length) (hk : l[j].k = 0) : fnL l (j + 1) = fnL l j ++ [l[j].t] := by
  unfold fnL
  rw [List.take_succ_eq_append_getElem h, List.filter_append, List.map_append]
  simp [hk]
theorem fnL_f (l : List Im) (j : Nat) (h : j < l.length) (hk : ¬ l[j].k = 0) : fnL l (j + 1) = fnL l j := by
  unfold fnL
  rw [List.take_succ_eq_append_getElem h, List.filter_append, List.map_append]
  simp [hk]
theorem fnL_len (l : List Im) (j : Nat) : (fnL l j).length ≤ j := by
  unfold fnL
  rw [List.length_map]
  exact Nat.le_trans (List.length_filter_le _ _) (by rw [List.length_take]; omega)
/-- All functions' types. -/
def fnA (l : List Im) (fs : List Nat) : List Nat := fnL l l.length ++ fs

set_option maxRecDepth 100000 in
set_option maxHeartbeats 3200000 in
theorem funcs_ok (w : World) (T I Fa : Option Addr) (tn tc n ic m fc : Nat) (x3 x4 x5 x6 x7 x8 x9 x10 x11 x12 x13 x14 x15 x16 : Value) (l : List Im) (fs : List Nat) (S S' : Nat → Prop) (HN : Hid (n = l.length)) (hn : n ≤ 100) (HM : Hid (m = fs.length)) (hm : m ≤ 100) (hr : Reads w S 9 I n (ims l)) (hf : Reads w S' 1 Fa m (u32s fs)) :
    Calls Try.prog 20 #[.agg #[.slice T tn tc, .slice I n ic, .slice Fa m fc, x3, x4, x5, x6, x7, x8, x9, x10, x11, x12, x13, x14, x15, x16]] w fun e w' => ∃ D c, e = .returned (.slice D (fnA l fs).length c) ∧ w'.ownsRow w.heap.size 48 1 (.slice D (fnA l fs).length c) (fnA l fs).length (u32s (fnA l fs)) ∧ Step (fun _ => False) w w' := by
  obtain ⟨v1, hv1⟩ : ∃ v1, v1 = w.alloc (.cells #[.slice T tn tc, .slice I n ic, .slice Fa m fc, x3, x4, x5, x6, x7, x8, x9, x10, x11, x12, x13, x14, x15, x16] 53) := ⟨_, rfl⟩
  have HB : Hid (Blk v1 w.heap.size 53 #[.slice T tn tc, .slice I n ic, .slice Fa m fc, x3, x4, x5, x6, x7, x8, x9, x10, x11, x12, x13, x14, x15, x16]) := by rw [hv1]; exact Blk.new w _ _
  have HS : Hid (Step (fun _ => False) w v1) := by rw [hv1]; exact Step.refl.alloc _
  have HR := Lib.hid (hr.step HS.out (fun _ _ => id))
  have HF := Lib.hid (hf.step HS.out (fun _ _ => id))
  have HE := Lib.hid hv1
  have HO0 : Hid (v1.ownsRow v1.heap.size 48 1 (.slice none 0 0) 0 (u32s [])) := World.ownsRow_nil _ _ _ _
  have c1 := HB.out.cell 1
  simp at c1
  rw [hv1] at c1
  clear hr hf hv1
  go_enter Try.func20, Try.ntmps20
  go_wp2_with fail
  rw [← HE.out]
  rw [← HE.out] at c1
  go_loopw [3, 9] (fun ov iv wr => ∃ (j c2 : Nat) (D2 : Option Addr), j ≤ n ∧ ov = .slice D2 (fnL l j).length c2 ∧ iv = .int .i64 (j : Int) ∧ Hid (Step (fun _ => False) v1 wr) ∧
    Hid (wr.ownsRow v1.heap.size 48 1 (.slice D2 (fnL l j).length c2) (fnL l j).length (u32s (fnL l j)))) (fun _ iv _ => n + 1 - (intOf iv).toNat)
  case atStart => exact ⟨0, 0, none, by omega, rfl, rfl, Step.refl, HO0⟩
  case round =>
    obtain ⟨j, c2, D2, hj, rfl, rfl, HSj, HOj⟩ := hrel
    clear HO0 c1
    have hfl := fnL_len l j
    have HBj := Lib.hid (HB.out.step HSj.out id)
    have c1 := HBj.out.cell 1
    have c2' := HBj.out.cell 2
    simp at c1 c2'
    have hsv := HSj.out.size
    have hsw := HS.out.size
    by_cases hlt : j < n
    · have g1 : (j : Int) < (n : Int) := by omega
      have i0 : (0 : Int) ≤ (j : Int) := by omega
      have hw1 := IntWalk.i64_in ((j : Int) + 1) (by omega)
      have hjl : j < l.length := by rw [← HN.out]; exact hlt
      obtain ⟨bk, off, rfl, _, hbl, hc⟩ := reads_row Im.cells 9 (by decide) Im.nine (HR.out.step HSj.out (fun _ _ => id)) (k := j) hjl
      have HT := Lib.hid (fnL_t l j hjl)
      have HX := Lib.hid (fnL_f l j hjl)
      obtain ⟨x, hxe⟩ : ∃ x, x = l[j] := ⟨_, rfl⟩
      rw [← hxe] at hc HT HX
      clear hxe
      obtain ⟨s0, s1, kk, t, mi, ma, bo, g, gm⟩ := x
      have e0 := hc 0 _ rfl
      have e1 := hc 1 _ rfl
      have e2 := hc 2 _ rfl
      have e3 := hc 3 _ rfl
      have e4 := hc 4 _ rfl
      have e5 := hc 5 _ rfl
      have e6 := hc 6 _ rfl
      have e7 := hc 7 _ rfl
      have e8 := hc 8 _ rfl
      simp only [Nat.add_zero] at e0
      simp only at e0 e1 e2 e3 e4 e5 e6 e7 e8 HT HX
      clear hc
      obtain ⟨k, hk⟩ : ∃ k : Int, k = (kk : Int) := ⟨_, rfl⟩
      rw [← hk] at e2
      have HK := Lib.hid hk
      clear hk
      by_cases hz : kk = 0
      · have hk0 : k = 0 := by rw [HK.out, hz]; rfl
        have HTz := Lib.hid (HT.out hz)
        clear HT HX HK hz
        subst hk0
        obtain ⟨V, hV⟩ : ∃ V, V = wr.alloc (.cells #[.string (str s0), .string (str s1), .int .u8 0, .int .u32 (t : Int), .int .u32 (mi : Int), .int .u32 (ma : Int), .bool bo, .int .u8 (g : Int), .bool gm] 64) := ⟨_, rfl⟩
        have HBx : Hid (Blk V wr.heap.size 64 #[.string (str s0), .string (str s1), .int .u8 0, .int .u32 (t : Int), .int .u32 (mi : Int), .int .u32 (ma : Int), .bool bo, .int .u8 (g : Int), .bool gm]) := by rw [hV]; exact Blk.new wr _ _
        have HSx : Hid (Step (fun _ => False) v1 V) := by rw [hV]; exact HSj.out.alloc _
        have HOx : Hid (V.ownsRow v1.heap.size 48 1 (.slice D2 (fnL l j).length c2) (fnL l j).length (u32s (fnL l j))) := by rw [hV]; exact HOj.out.alloc _
        have b2 := HBx.out.cell 2
        have b3 := HBx.out.cell 3
        simp at b2 b3
        rw [hV] at b2 b3 HOx HSx
        have hsx := HSx.out.size
        clear hV HBx HOj HSj
        have hone : ∀ u ∈ #[Value.int .u32 (t : Int)].toList, u.oneCell' = true := by simp [Value.oneCell']
        have hmx : (fnL l j).length + 1 ≤ maxLen := by unfold maxLen; omega
        have hrn := reads_new (wr.alloc (.cells #[.string (str s0), .string (str s1), .int .u8 0, .int .u32 (t : Int), .int .u32 (mi : Int), .int .u32 (ma : Int), .bool bo, .int .u8 (g : Int), .bool gm] 64)) #[Value.int .u32 (t : Int)] 48 1 1 rfl
        rw [show (wr.alloc (.cells #[.string (str s0), .string (str s1), .int .u8 0, .int .u32 (t : Int), .int .u32 (mi : Int), .int .u32 (ma : Int), .bool bo, .int .u8 (g : Int), .bool gm] 64)).heap.size = wr.heap.size + 1 by simp] at hrn
        go_wp2_with (at_builtin; refine wpList_append_src _ rfl _ _ (by rfl) E_u32 (by rfl) (HOx.out.alloc _) (by rfl) hrn hone hmx (by omega) (by simp at hsx ⊢; omega) ?_; intro D' c' w8 hown8 hgrow hat)
        have HS8 := Lib.hid (grow_step (HSx.out.alloc (.cells #[Value.int .u32 (t : Int)] 48)) hgrow (HOx.out.alloc _) (Nat.le_refl _))
        rw [show u32s (fnL l j) ++ #[Value.int .u32 (t : Int)].toList = u32s (fnL l (j + 1)) by rw [HTz.out, u32s_append]; rfl, show (fnL l j).length + 1 = (fnL l (j + 1)).length by rw [HTz.out]; simp] at hown8
        rw [show (fnL l j).length + 1 = (fnL l (j + 1)).length by rw [HTz.out]; simp]
        go_roundw
        case rel => exact ⟨j + 1, c', D', by omega, rfl, by rw [Int.natCast_add]; rfl, HS8, hown8⟩
        case measure => simp [intOf]; omega
      · have hkb : (k == 0) = false := by rw [HK.out]; simp; omega
        have hkn : ¬ k = 0 := by rw [HK.out]; omega
        have HXz := Lib.hid (HX.out hz)
        clear HT HX HK hz
        obtain ⟨V, hV⟩ : ∃ V, V = wr.alloc (.cells #[.string (str s0), .string (str s1), .int .u8 k, .int .u32 (t : Int), .int .u32 (mi : Int), .int .u32 (ma : Int), .bool bo, .int .u8 (g : Int), .bool gm] 64) := ⟨_, rfl⟩
        have HBx : Hid (Blk V wr.heap.size 64 #[.string (str s0), .string (str s1), .int .u8 k, .int .u32 (t : Int), .int .u32 (mi : Int), .int .u32 (ma : Int), .bool bo, .int .u8 (g : Int), .bool gm]) := by rw [hV]; exact Blk.new wr _ _
        have HSx : Hid (Step (fun _ => False) v1 V) := by rw [hV]; exact HSj.out.alloc _
        have HOx : Hid (V.ownsRow v1.heap.size 48 1 (.slice D2 (fnL l j).length c2) (fnL l j).length (u32s (fnL l j))) := by rw [hV]; exact HOj.out.alloc _
        have b2 := HBx.out.cell 2
        simp at b2
        rw [hV] at b2 HOx HSx
        clear hV HBx HOj HSj
        go_wp2_with fail
        go_roundw
        case rel => exact ⟨j + 1, c2, D2, by omega, by rw [HXz.out], by rw [Int.natCast_add]; rfl, HSx, by rw [HXz.out]; exact HOx⟩
        case measure => simp [intOf]; omega
    · obtain rfl : j = n := by omega
      have hFr := HF.out.step HSj.out (fun _ _ => id)
      have hone := u32s_one fs
      have hmx : (fnL l j).length + m ≤ maxLen := by unfold maxLen; omega
      go_wp2_with (at_builtin; refine wpList_append_src _ rfl _ _ (by rfl) E_u32 (by rfl) HOj.out (by rfl) hFr hone hmx (by omega) (by omega) ?_; intro D' c' w8 hown8 hgrow hat)
      go_ret
      rw [show u32s (fnL l j) ++ u32s fs = u32s (fnA l fs) by rw [fnA, u32s_append, ← HN.out], show (fnL l j).length + m = (fnA l fs).length by rw [fnA, List.length_append, ← HN.out, ← HM.out]] at hown8
      rw [show (fnL l j).length + m = (fnA l fs).length by rw [fnA, List.length_append, ← HN.out, ← HM.out]]
      exact ⟨D', c', rfl, own_base hown8 (fun k hk => Nat.le_trans hsw (own_ge hown8 k hk)), HS.out.trans (grow_step HSj.out hgrow HOj.out (Nat.le_refl _))⟩

theorem ftC_two (x : List UInt8 × List UInt8) : (ftC x).length = 2 := rfl
theorem fnA_mem (l : List Im) (fs : List Nat) (h1 : ∀ x ∈ l, x.t < 4294967296) (h2 : ∀ x ∈ fs, x < 4294967296) : ∀ x ∈ fnA l fs, x < 4294967296 := by
  intro x hx
  rcases List.mem_append.1 hx with hx | hx
  · obtain ⟨y, hy, rfl⟩ := List.mem_map.1 hx
    exact h1 y (List.mem_of_mem_take (List.mem_filter.1 hy).1)
  · exact h2 x hx
theorem fnA_len (l : List Im) (fs : List Nat) (n m : Nat) (h1 : n = l.length) (h2 : m = fs.length) (hn : n ≤ 100) (hm : m ≤ 100) : (fnA l fs).length ≤ 200 := by
  have := fnL_len l l.length
  rw [fnA, List.length_append]
  omega
/-- The type number that a function has, where there is such a type. -/
def okF (L : List Nat) (tn f : Nat) : Prop := ∃ h : f < L.length, L[f] < tn

set_option maxRecDepth 100000 in
set_option maxHeartbeats 6400000 in
theorem typeof_none (w : World) (T I Fa : Option Addr) (tn tc n ic m fc : Nat) (x3 x4 x5 x6 x7 x8 x9 x10 x11 x12 x13 x14 x15 x16 : Value) (l : List Im) (fs : List Nat) (ts : List (List UInt8 × List UInt8)) (S S' S'' : Nat → Prop) (HN : Hid (n = l.length)) (hn : n ≤ 100) (HM : Hid (m = fs.length)) (hm : m ≤ 100) (HTn : Hid (tn = ts.length)) (htn : tn < 9223372036854775808) (hr : Reads w S 9 I n (ims l)) (hf : Reads w S' 1 Fa m (u32s fs)) (ht : Reads w S'' 2 T tn (ts.flatMap ftC)) (f : Nat) (hfb : f < 4294967296) (hLb : ∀ x ∈ fnA l fs, x < 4294967296) (hno : ¬ okF (fnA l fs) tn f) :
    Calls Try.prog 61 #[.agg #[.slice T tn tc, .slice I n ic, .slice Fa m fc, x3, x4, x5, x6, x7, x8, x9, x10, x11, x12, x13, x14, x15, x16], .int .u32 (f : Int)] w fun e w' => e = .returned (.tuple #[.agg #[.string { data := #[] }, .string { data := #[] }], .bool false]) ∧ Step (fun _ => False) w w' := by
  obtain ⟨v2, hv2⟩ : ∃ v2, v2 = (w.alloc (.cells #[.slice T tn tc, .slice I n ic, .slice Fa m fc, x3, x4, x5, x6, x7, x8, x9, x10, x11, x12, x13, x14, x15, x16] 53)).alloc (.cells #[.string { data := #[] }, .string { data := #[] }] 28) := ⟨_, rfl⟩
  have HB : Hid (Blk v2 w.heap.size 53 #[.slice T tn tc, .slice I n ic, .slice Fa m fc, x3, x4, x5, x6, x7, x8, x9, x10, x11, x12, x13, x14, x15, x16]) := by rw [hv2]; exact (Blk.new w _ _).alloc _
  have HP : Hid (Blk v2 (w.heap.size + 1) 28 #[.string { data := #[] }, .string { data := #[] }]) := by
    rw [hv2]
    have := Blk.new (w.alloc (.cells #[.slice T tn tc, .slice I n ic, .slice Fa m fc, x3, x4, x5, x6, x7, x8, x9, x10, x11, x12, x13, x14, x15, x16] 53)) 28 #[.string { data := #[] }, .string { data := #[] }]
    exact Lib.hid (by simpa using this)
  have HS : Hid (Step (fun _ => False) w v2) := by rw [hv2]; exact (Step.refl.alloc _).alloc _
  have hsz : v2.heap.size = w.heap.size + 2 := by rw [hv2]; simp
  have HF := Lib.hid (funcs_ok v2 T I Fa tn tc n ic m fc x3 x4 x5 x6 x7 x8 x9 x10 x11 x12 x13 x14 x15 x16 l fs S S' HN hn HM hm (hr.step HS.out (fun _ _ => id)) (hf.step HS.out (fun _ _ => id)))
  have HT := Lib.hid ((ht.mono (S' := fun k => k < w.heap.size) (fun k hk _ => hk)).step HS.out (fun _ _ => id))
  have hKb := fnA_len l fs n m HN.out HM.out hn hm
  obtain ⟨L, hL⟩ : ∃ L, L = fnA l fs := ⟨_, rfl⟩
  rw [← hL] at HF hKb hLb hno
  obtain ⟨K, hK⟩ : ∃ K, K = L.length := ⟨_, rfl⟩
  rw [← hK] at HF hKb
  have HK := Lib.hid hK
  have HE := Lib.hid hv2
  have HNO := Lib.hid hno
  clear hr hf ht hK hL hv2 hno
  have c0 := HB.out.cell 0
  have c1 := HB.out.cell 1
  have c2 := HB.out.cell 2
  have c3 := HB.out.cell 3
  have c4 := HB.out.cell 4
  have c5 := HB.out.cell 5
  have c6 := HB.out.cell 6
  have c7 := HB.out.cell 7
  have c8 := HB.out.cell 8
  have c9 := HB.out.cell 9
  have c10 := HB.out.cell 10
  have c11 := HB.out.cell 11
  have c12 := HB.out.cell 12
  have c13 := HB.out.cell 13
  have c14 := HB.out.cell 14
  have c15 := HB.out.cell 15
  have c16 := HB.out.cell 16
  simp at c0 c1 c2 c3 c4 c5 c6 c7 c8 c9 c10 c11 c12 c13 c14 c15 c16
  rw [HE.out] at c0 c1 c2 c3 c4 c5 c6 c7 c8 c9 c10 c11 c12 c13 c14 c15 c16
  go_enter Try.func61, Try.ntmps61
  go_wp2_with fail
  rw [← HE.out]
  refine HF.out.mono ?_
  rintro e w5 ⟨D, cD, rfl, hown, hs⟩
  clear c0 c1 c2 c3 c4 c5 c6 c7 c8 c9 c10 c11 c12 c13 c14 c15 c16
  have HB5 := Lib.hid (HB.out.step hs id)
  have HP5 := Lib.hid (HP.out.step hs id)
  have HT5 := Lib.hid (HT.out.step hs (fun _ _ => id))
  have HS5 := Lib.hid (HS.out.trans hs)
  have HO5 := Lib.hid hown
  have hs5 := hs.size
  clear hs hown HF HB HP HT HS HE
  have w1 := IntWalk.u64_in (f : Int) (by omega)
  have w2 := IntWalk.u64_in (K : Int) (by omega)
  have w3 := IntWalk.u64_in (tn : Int) (by omega)
  have c0 := HB5.out.cell 0
  simp at c0
  have p0 := HP5.out.cell 0
  have p1 := HP5.out.cell 1
  simp at p0 p1
  have z0 := HP5.out.frozen 0
  have z1 := HP5.out.frozen 1
  by_cases hfK : f < K
  · have hqb := hLb L[f] (List.getElem_mem (by rw [← HK.out]; exact hfK))
    have hq2 : ¬ L[f] < tn := fun h => HNO.out ⟨by rw [← HK.out]; exact hfK, h⟩
    obtain ⟨bb, rfl, hbb, hbl, hcc, _⟩ := own_row HO5.out (by omega)
    have hcu := hcc f _ (u32s_get L f (by rw [← HK.out]; exact hfK))
    clear hcc
    obtain ⟨q, hq⟩ : ∃ q, q = L[f] := ⟨_, rfl⟩
    rw [← hq] at hcu hqb hq2
    have w4 := IntWalk.u64_in (q : Int) (by omega)
    have HQ := Lib.hid hq
    clear hq
    have g1 : decide ((K : Int) ≤ (f : Int)) = false := by simp; omega
    have g1n : decide (K ≤ f) = false := by simp; omega
    have g1' : ¬ (K : Int) ≤ (f : Int) := by omega
    have g2 : decide ((tn : Int) ≤ (q : Int)) = true := by simp; omega
    have g2n : decide (tn ≤ q) = true := by simp; omega
    have g2' : (tn : Int) ≤ (q : Int) := by omega
    have g3 : (f : Int) < (K : Int) := by omega
    have g4 : (0 : Int) ≤ (f : Int) := by omega
    go_wp2_with fail
    go_quiet (fail)
    go_wp2_with fail
    refine bodyPost_ret (v := .tuple #[.agg #[.string { data := #[] }, .string { data := #[] }], .bool false]) (by simp [results, Try.results61, go_sem, p0, p1]) rfl ?_
    exact ⟨rfl, ((HS5.out.drewN _).setCell (p := ⟨w.heap.size + 1, 0, none⟩) (.inr (Nat.le_succ _)) _).setCell (p := ⟨w.heap.size + 1, 1, none⟩) (.inr (Nat.le_succ _)) _⟩
  · have g1 : decide ((K : Int) ≤ (f : Int)) = true := by simp; omega
    have g1n : decide (K ≤ f) = true := by simp; omega
    have g1' : (K : Int) ≤ (f : Int) := by omega
    go_wp2_with fail
    go_quiet (fail)
    go_wp2_with fail
    refine bodyPost_ret (v := .tuple #[.agg #[.string { data := #[] }, .string { data := #[] }], .bool false]) (by simp [results, Try.results61, go_sem, p0, p1]) rfl ?_
    exact ⟨rfl, ((HS5.out.drewN _).setCell (p := ⟨w.heap.size + 1, 0, none⟩) (.inr (Nat.le_succ _)) _).setCell (p := ⟨w.heap.size + 1, 1, none⟩) (.inr (Nat.le_succ _)) _⟩

set_option maxRecDepth 100000 in
set_option maxHeartbeats 6400000 in
theorem typeof_some (w : World) (T I Fa : Option Addr) (tn tc n ic m fc : Nat) (x3 x4 x5 x6 x7 x8 x9 x10 x11 x12 x13 x14 x15 x16 : Value) (l : List Im) (fs : List Nat) (ts : List (List UInt8 × List UInt8)) (S S' S'' : Nat → Prop) (HN : Hid (n = l.length)) (hn : n ≤ 100) (HM : Hid (m = fs.length)) (hm : m ≤ 100) (HTn : Hid (tn = ts.length)) (htn : tn < 9223372036854775808) (hr : Reads w S 9 I n (ims l)) (hf : Reads w S' 1 Fa m (u32s fs)) (ht : Reads w S'' 2 T tn (ts.flatMap ftC)) (f : Nat) (hfb : f < 4294967296) (hLb : ∀ x ∈ fnA l fs, x < 4294967296) (q : Nat) (hqe : (fnA l fs)[f]? = some q) (hq2 : q < tn) (x : List UInt8 × List UInt8) (hx : ts[q]? = some x) :
    Calls Try.prog 61 #[.agg #[.slice T tn tc, .slice I n ic, .slice Fa m fc, x3, x4, x5, x6, x7, x8, x9, x10, x11, x12, x13, x14, x15, x16], .int .u32 (f : Int)] w fun e w' => e = .returned (.tuple #[.agg #[.string (str x.1), .string (str x.2)], .bool true]) ∧ Step (fun _ => False) w w' := by
  obtain ⟨v2, hv2⟩ : ∃ v2, v2 = (w.alloc (.cells #[.slice T tn tc, .slice I n ic, .slice Fa m fc, x3, x4, x5, x6, x7, x8, x9, x10, x11, x12, x13, x14, x15, x16] 53)).alloc (.cells #[.string { data := #[] }, .string { data := #[] }] 28) := ⟨_, rfl⟩
  have HB : Hid (Blk v2 w.heap.size 53 #[.slice T tn tc, .slice I n ic, .slice Fa m fc, x3, x4, x5, x6, x7, x8, x9, x10, x11, x12, x13, x14, x15, x16]) := by rw [hv2]; exact (Blk.new w _ _).alloc _
  have HP : Hid (Blk v2 (w.heap.size + 1) 28 #[.string { data := #[] }, .string { data := #[] }]) := by
    rw [hv2]
    have := Blk.new (w.alloc (.cells #[.slice T tn tc, .slice I n ic, .slice Fa m fc, x3, x4, x5, x6, x7, x8, x9, x10, x11, x12, x13, x14, x15, x16] 53)) 28 #[.string { data := #[] }, .string { data := #[] }]
    exact Lib.hid (by simpa using this)
  have HS : Hid (Step (fun _ => False) w v2) := by rw [hv2]; exact (Step.refl.alloc _).alloc _
  have hsz : v2.heap.size = w.heap.size + 2 := by rw [hv2]; simp
  have HF := Lib.hid (funcs_ok v2 T I Fa tn tc n ic m fc x3 x4 x5 x6 x7 x8 x9 x10 x11 x12 x13 x14 x15 x16 l fs S S' HN hn HM hm (hr.step HS.out (fun _ _ => id)) (hf.step HS.out (fun _ _ => id)))
  have HT := Lib.hid ((ht.mono (S' := fun k => k < w.heap.size) (fun k hk _ => hk)).step HS.out (fun _ _ => id))
  have hKb := fnA_len l fs n m HN.out HM.out hn hm
  obtain ⟨L, hL⟩ : ∃ L, L = fnA l fs := ⟨_, rfl⟩
  rw [← hL] at HF hKb hLb hqe
  obtain ⟨K, hK⟩ : ∃ K, K = L.length := ⟨_, rfl⟩
  rw [← hK] at HF hKb
  have HK := Lib.hid hK
  have HE := Lib.hid hv2
  clear hr hf ht hK hL hv2
  have c0 := HB.out.cell 0
  have c1 := HB.out.cell 1
  have c2 := HB.out.cell 2
  have c3 := HB.out.cell 3
  have c4 := HB.out.cell 4
  have c5 := HB.out.cell 5
  have c6 := HB.out.cell 6
  have c7 := HB.out.cell 7
  have c8 := HB.out.cell 8
  have c9 := HB.out.cell 9
  have c10 := HB.out.cell 10
  have c11 := HB.out.cell 11
  have c12 := HB.out.cell 12
  have c13 := HB.out.cell 13
  have c14 := HB.out.cell 14
  have c15 := HB.out.cell 15
  have c16 := HB.out.cell 16
  simp at c0 c1 c2 c3 c4 c5 c6 c7 c8 c9 c10 c11 c12 c13 c14 c15 c16
  rw [HE.out] at c0 c1 c2 c3 c4 c5 c6 c7 c8 c9 c10 c11 c12 c13 c14 c15 c16
  go_enter Try.func61, Try.ntmps61
  go_wp2_with fail
  rw [← HE.out]
  refine HF.out.mono ?_
  rintro e w5 ⟨D, cD, rfl, hown, hs⟩
  clear c0 c1 c2 c3 c4 c5 c6 c7 c8 c9 c10 c11 c12 c13 c14 c15 c16
  have HB5 := Lib.hid (HB.out.step hs id)
  have HP5 := Lib.hid (HP.out.step hs id)
  have HT5 := Lib.hid (HT.out.step hs (fun _ _ => id))
  have HS5 := Lib.hid (HS.out.trans hs)
  have HO5 := Lib.hid hown
  have hs5 := hs.size
  clear hs hown HF HB HP HT HS HE
  have w1 := IntWalk.u64_in (f : Int) (by omega)
  have w2 := IntWalk.u64_in (K : Int) (by omega)
  have w3 := IntWalk.u64_in (tn : Int) (by omega)
  have c0 := HB5.out.cell 0
  simp at c0
  have p0 := HP5.out.cell 0
  have p1 := HP5.out.cell 1
  simp at p0 p1
  have z0 := HP5.out.frozen 0
  have z1 := HP5.out.frozen 1
  have hfK : f < K := by rw [HK.out]; exact (List.getElem?_eq_some_iff.1 hqe).1
  have hqb : q < 4294967296 := hLb q (List.mem_of_getElem? hqe)
  obtain ⟨bb, rfl, hbb, hbl, hcc, _⟩ := own_row HO5.out (by omega)
  have hcu := hcc f (.int .u32 (q : Int)) (by simp [u32s, hqe])
  clear hcc
  have w4 := IntWalk.u64_in (q : Int) (by omega)
  replace hqe := Lib.hid hqe
  have hql : q < ts.length := by rw [← HTn.out]; exact hq2
  obtain ⟨bt, oft, rfl, hbS, hbt, hct⟩ := reads_row ftC 2 (by decide) ftC_two HT5.out (k := q) hql
  have hxe : ts[q] = x := by rw [List.getElem?_eq_getElem hql] at hx; injection hx
  rw [hxe] at hct
  have t0 := hct 0 _ rfl
  have t1 := hct 1 _ rfl
  simp only [Nat.add_zero] at t0
  clear hct hxe hx hql
  have g1 : decide ((K : Int) ≤ (f : Int)) = false := by simp; omega
  have g1n : decide (K ≤ f) = false := by simp; omega
  have g1' : ¬ (K : Int) ≤ (f : Int) := by omega
  have g2 : decide ((tn : Int) ≤ (q : Int)) = false := by simp; omega
  have g2n : decide (tn ≤ q) = false := by simp; omega
  have g2' : ¬ (tn : Int) ≤ (q : Int) := by omega
  have g3 : (f : Int) < (K : Int) := by omega
  have g4 : (0 : Int) ≤ (f : Int) := by omega
  have g5 : (q : Int) < (tn : Int) := by omega
  have g6 : (0 : Int) ≤ (q : Int) := by omega
  go_wp2_with fail
  go_quiet (fail)
  go_wp2_with fail
  obtain ⟨W, hW⟩ : ∃ W, W = w5.drewN nq := ⟨_, rfl⟩
  have HPW : Hid (Blk W (w.heap.size + 1) 28 #[.string { data := #[] }, .string { data := #[] }]) := by rw [hW]; exact HP5.out.drewN _
  have HSW : Hid (Step (fun _ => False) w W) := by rw [hW]; exact HS5.out.drewN _
  have k0 : W.cell? ⟨w.heap.size, 0, none⟩ = some (.slice (some ⟨bt, oft, none⟩) tn tc) := by rw [hW]; exact c0
  have k1 : W.cell? ⟨bb, f, none⟩ = some (.int .u32 (q : Int)) := by rw [hW]; exact hcu
  have k2 : W.cell? ⟨bt, oft + q * 2, none⟩ = some (.string (str x.1)) := by rw [hW]; exact t0
  have k3 : W.cell? ⟨bt, oft + q * 2 + 1, none⟩ = some (.string (str x.2)) := by rw [hW]; exact t1
  rw [← hW]
  clear hW c0 hcu t0 t1 p0 p1 z0 z1 HP5 HS5 HB5 HT5 HO5
  obtain ⟨F2, hF2⟩ : ∃ F2 : Nat → Prop, F2 = fun q => q = w.heap.size + 1 := ⟨_, rfl⟩
  have d0 := cls_cell (F := F2) (w0 := W) k0 (by rw [hF2]; simp)
  have d1 := cls_cell (F := F2) (w0 := W) k1 (by rw [hF2]; show ¬ bb = w.heap.size + 1; omega)
  have d2 := cls_cell (F := F2) (w0 := W) k2 (by rw [hF2]; show ¬ bt = w.heap.size + 1; omega)
  have d3 := cls_cell (F := F2) (w0 := W) k3 (by rw [hF2]; show ¬ bt = w.heap.size + 1; omega)
  have HF2 := Lib.hid hF2
  clear hF2 k0 k1 k2 k3
  refine Mix.wp_region_mix [8] [8] (Step F2 W) (by kernel_rfl) (by kernel_rfl) (Step.refl.drew) (fun hcls => ?_)
  refine Mix.wpL_reads 8 (by rfl) ?_
  simp only [List.take_succ_cons, List.drop_succ_cons, List.take_zero, List.drop_zero]
  repeat (go_big_quiet_step (fail))
  refine wpQuiet_nil ?_
  have z0 := HPW.out.frozen 0
  have z1 := HPW.out.frozen 1
  have r0 := HPW.out.cell 0
  have r1 := HPW.out.cell 1
  simp at r0 r1
  refine Mix.wpL_op (by rfl) (fun K hK => ?_)
  go_simp
  obtain ⟨W8, hW8⟩ : ∃ W8, W8 = (W.setCell ⟨w.heap.size + 1, 0, none⟩ (.string (str x.1))).setCell ⟨w.heap.size + 1, 1, none⟩ (.string (str x.2)) := ⟨_, rfl⟩
  have HP8 : Hid (Blk W8 (w.heap.size + 1) 28 #[.string (str x.1), .string (str x.2)]) := by
    have hq := (HPW.out.set_ 0 (.string (str x.1))).set_ 1 (.string (str x.2))
    rw [← hW8] at hq
    simp at hq
    exact hq
  have HT8 : Hid (Step (fun q => q = w.heap.size + 1) W W8) := by
    rw [hW8]
    exact ((Step.refl (F := fun q => q = w.heap.size + 1)).setCell (p := ⟨w.heap.size + 1, 0, none⟩) (.inl rfl) _).setCell (p := ⟨w.heap.size + 1, 1, none⟩) (.inl rfl) _
  rw [← hW8]
  refine hK _ _ (fun hlt => Mix.cl (HF2.out.symm ▸ HT8.out.drew)) ?_
  clear hK K
  clear z0 z1 r0 r1 hW8
  refine Mix.wpL_reads 1 (by rfl) ?_
  simp only [List.take_succ_cons, List.drop_succ_cons, List.take_zero, List.drop_zero]
  repeat (go_big_quiet_step (fail))
  refine wpQuiet_nil ?_
  refine Mix.wpL_end ?_
  go_wp2_with fail
  have p4 := HP8.out.cell 0
  have p5 := HP8.out.cell 1
  simp at p4 p5
  refine bodyPost_ret (v := .tuple #[.agg #[.string (str x.1), .string (str x.2)], .bool true]) (by simp [results, Try.results61, go_sem, p4, p5]) rfl ?_
  exact ⟨rfl, (HSW.out.trans' HT8.out (fun i hi => .inr (by omega))).drew⟩
end Go.Proofs.Ytpebdfgfikjkeaa
/-! imports: Of, Count. -/
namespace Go.Proofs.Ytpebdfgfikjkeaa
open Go.RowKit

def imL (l : List Im) (k j : Nat) : List Im := (l.take j).filter (fun x => x.k == k)
theorem imL_zero (l : List Im) (k : Nat) : imL l k 0 = [] := rfl
theorem imL_t (l : List Im) (k j : Nat) (h : j < l.length) (hk : l[j].k = k) : imL l k (j + 1) = imL l k j ++ [l[j]] := by
  rw [imL, List.take_succ_eq_append_getElem h, List.filter_append]
  simp [hk, imL]
theorem imL_f (l : List Im) (k j : Nat) (h : j < l.length) (hk : ¬ l[j].k = k) : imL l k (j + 1) = imL l k j := by
  rw [imL, List.take_succ_eq_append_getElem h, List.filter_append]
  simp [hk, imL]
theorem imL_len (l : List Im) (k j : Nat) : (imL l k j).length ≤ j := by
  have := List.length_filter_le (fun x : Im => x.k == k) (l.take j)
  rw [List.length_take] at this
  unfold imL
  omega
theorem ims_append (l m : List Im) : ims (l ++ m) = ims l ++ ims m := by simp [ims]
theorem ims_one (l : List Im) : ∀ u ∈ ims l, u.oneCell' = true := by
  intro u hu
  obtain ⟨f, _, hf⟩ := List.mem_flatMap.1 hu
  simp [Im.cells] at hf
  rcases hf with rfl | rfl | rfl | rfl | rfl | rfl | rfl | rfl | rfl <;> rfl
theorem E_im : ElemTy Try.prog 41 64 9 56 := elem_of Try.underlying41 (z := .agg #[.string ByteArray.empty, .string ByteArray.empty, .int .u8 0, .int .u32 0, .int .u32 0, .int .u32 0, .bool false, .int .u8 0, .bool false]) (by kernel_rfl) rfl (by decide)
set_option maxRecDepth 100000 in
set_option maxHeartbeats 3200000 in
theorem i_of (w : World) (I : Option Addr) (n ic k : Nat) (l : List Im) (S : Nat → Prop) (HN : Hid (n = l.length)) (hn : n ≤ 100) (hr : Reads w S 9 I n (ims l)) :
    Calls Try.prog 54 #[.slice I n ic, .int .u8 (k : Int)] w fun e w' => (∃ D c, e = .returned (.slice D (imL l k l.length).length c)) ∧ Step (fun _ => False) w w' := by
  have HR := Lib.hid hr
  have HO0 : Hid (w.ownsRow w.heap.size 64 9 (.slice none 0 0) 0 (ims [])) := World.ownsRow_nil _ _ _ _
  clear hr
  go_enter Try.func54, Try.ntmps54
  go_wp2_with fail
  go_loopw [5, 10] (fun ov iv wr => ∃ (j c2 : Nat) (D2 : Option Addr), j ≤ n ∧ ov = .slice D2 (imL l k j).length c2 ∧ iv = .int .i64 (j : Int) ∧ Hid (Step (fun _ => False) w wr) ∧
    Hid (wr.ownsRow w.heap.size 64 9 (.slice D2 (imL l k j).length c2) (imL l k j).length (ims (imL l k j)))) (fun _ iv _ => n + 1 - (intOf iv).toNat)
  case atStart => exact ⟨0, 0, none, by omega, rfl, rfl, Step.refl, HO0⟩
  case round =>
    obtain ⟨j, c2, D2, hj, rfl, rfl, HSj, HOj⟩ := hrel
    clear HO0
    have hfl := imL_len l k j
    have hsw := HSj.out.size
    by_cases hlt : j < n
    · have g1 : (j : Int) < (n : Int) := by omega
      have i0 : (0 : Int) ≤ (j : Int) := by omega
      have hw1 := IntWalk.i64_in ((j : Int) + 1) (by omega)
      have hjl : j < l.length := by rw [← HN.out]; exact hlt
      obtain ⟨bk, off, hI, _, hbl, hc⟩ := reads_row Im.cells 9 (by decide) Im.nine (HR.out.step HSj.out (fun _ _ => id)) (k := j) hjl
      subst hI
      have HT := Lib.hid (imL_t l k j hjl)
      have HX := Lib.hid (imL_f l k j hjl)
      obtain ⟨x, hxe⟩ : ∃ x, x = l[j] := ⟨_, rfl⟩
      rw [← hxe] at hc HT HX
      clear hxe
      have HC1 : Hid (ims [x] = x.cells) := by simp [Hid, ims]
      obtain ⟨s0, s1, kk, t, mi, ma, bo, g, gm⟩ := x
      have e0 := hc 0 _ rfl
      have e1 := hc 1 _ rfl
      have e2 := hc 2 _ rfl
      have e3 := hc 3 _ rfl
      have e4 := hc 4 _ rfl
      have e5 := hc 5 _ rfl
      have e6 := hc 6 _ rfl
      have e7 := hc 7 _ rfl
      have e8 := hc 8 _ rfl
      simp only [Nat.add_zero] at e0
      simp only at e0 e1 e2 e3 e4 e5 e6 e7 e8 HT HX
      clear hc
      by_cases hz : kk = k
      · have hkb : ((kk : Int) == (k : Int)) = true := by rw [hz]; exact beq_self_eq_true _
        have HTz := Lib.hid (HT.out hz)
        clear HT HX hz
        obtain ⟨V, hV⟩ : ∃ V, V = wr.alloc (.cells #[.string (str s0), .string (str s1), .int .u8 (kk : Int), .int .u32 (t : Int), .int .u32 (mi : Int), .int .u32 (ma : Int), .bool bo, .int .u8 (g : Int), .bool gm] 64) := ⟨_, rfl⟩
        have HSx : Hid (Step (fun _ => False) w V) := by rw [hV]; exact HSj.out.alloc _
        have HOx : Hid (V.ownsRow w.heap.size 64 9 (.slice D2 (imL l k j).length c2) (imL l k j).length (ims (imL l k j))) := by rw [hV]; exact HOj.out.alloc _
        rw [hV] at HOx HSx
        have hsx := HSx.out.size
        clear hV HOj HSj
        have hone := ims_one [⟨s0, s1, kk, t, mi, ma, bo, g, gm⟩]
        rw [HC1.out] at hone
        have hmx : (imL l k j).length + 1 ≤ maxLen := by unfold maxLen; omega
        have hrn := reads_new (wr.alloc (.cells #[.string (str s0), .string (str s1), .int .u8 (kk : Int), .int .u32 (t : Int), .int .u32 (mi : Int), .int .u32 (ma : Int), .bool bo, .int .u8 (g : Int), .bool gm] 64)) #[.string (str s0), .string (str s1), .int .u8 (kk : Int), .int .u32 (t : Int), .int .u32 (mi : Int), .int .u32 (ma : Int), .bool bo, .int .u8 (g : Int), .bool gm] 64 9 1 rfl
        rw [show (wr.alloc (.cells #[.string (str s0), .string (str s1), .int .u8 (kk : Int), .int .u32 (t : Int), .int .u32 (mi : Int), .int .u32 (ma : Int), .bool bo, .int .u8 (g : Int), .bool gm] 64)).heap.size = wr.heap.size + 1 by simp] at hrn
        go_wp2_with (at_builtin; refine wpList_append_src _ rfl _ _ (by rfl) E_im (by rfl) (HOx.out.alloc _) (by rfl) hrn hone hmx (by omega) (by simp at hsx ⊢; omega) ?_; intro D' c' w8 hown8 hgrow hat)
        have HS8 := Lib.hid (grow_step (HSx.out.alloc (.cells #[.string (str s0), .string (str s1), .int .u8 (kk : Int), .int .u32 (t : Int), .int .u32 (mi : Int), .int .u32 (ma : Int), .bool bo, .int .u8 (g : Int), .bool gm] 64)) hgrow (HOx.out.alloc _) (Nat.le_refl _))
        have hE1 : ims (imL l k j) ++ #[Value.string (str s0), .string (str s1), .int .u8 (kk : Int), .int .u32 (t : Int), .int .u32 (mi : Int), .int .u32 (ma : Int), .bool bo, .int .u8 (g : Int), .bool gm].toList = ims (imL l k (j + 1)) := by rw [HTz.out, ims_append, HC1.out]; rfl
        have hE2 : (imL l k j).length + 1 = (imL l k (j + 1)).length := by rw [HTz.out]; simp
        rw [hE1, hE2] at hown8
        rw [hE2]
        go_roundw
        case rel => exact ⟨j + 1, c', D', by omega, rfl, by rw [Int.natCast_add]; rfl, HS8, hown8⟩
        case measure => simp [intOf]; omega
      · have hkb : ((kk : Int) == (k : Int)) = false := beq_eq_false_iff_ne.2 (by omega)
        have HXz := Lib.hid (HX.out hz)
        clear HT HX hz
        have HSx := Lib.hid (HSj.out.alloc (.cells #[.string (str s0), .string (str s1), .int .u8 (kk : Int), .int .u32 (t : Int), .int .u32 (mi : Int), .int .u32 (ma : Int), .bool bo, .int .u8 (g : Int), .bool gm] 64))
        have HOx := Lib.hid (HOj.out.alloc (.cells #[.string (str s0), .string (str s1), .int .u8 (kk : Int), .int .u32 (t : Int), .int .u32 (mi : Int), .int .u32 (ma : Int), .bool bo, .int .u8 (g : Int), .bool gm] 64))
        clear HOj HSj
        go_wp2_with fail
        go_roundw
        case rel => exact ⟨j + 1, c2, D2, by omega, by rw [HXz.out], by rw [Int.natCast_add]; rfl, HSx, by rw [HXz.out]; exact HOx⟩
        case measure => simp [intOf]; omega
    · obtain rfl : j = n := by omega
      have HNL := HN
      go_wp2_with fail
      go_ret
      refine ⟨⟨D2, c2, ?_⟩, HSj.out⟩
      rw [← HN.out]
      rfl
set_option maxRecDepth 100000 in
theorem i_count (w : World) (I : Option Addr) (n ic k : Nat) (l : List Im) (S : Nat → Prop) (HN : Hid (n = l.length)) (hn : n ≤ 100) (hr : Reads w S 9 I n (ims l)) :
    Calls Try.prog 19 #[.slice I n ic, .int .u8 (k : Int)] w fun e w' => e = .returned (.int .i64 ((imL l k l.length).length : Int)) ∧ Step (fun _ => False) w w' := by
  have HO := Lib.hid (i_of w I n ic k l S HN hn hr)
  clear hr
  go_enter Try.func19, Try.ntmps19
  go_wp2_with fail
  refine HO.out.mono ?_
  rintro e w1 ⟨⟨D, c, rfl⟩, t1⟩
  go_wp2_with fail
  go_ret
  exact ⟨rfl, t1⟩
end Go.Proofs.Ytpebdfgfikjkeaa
