/-
  store's reference: Rising, Same, Free.
-/
import Derived.Test.YtmheofkakcomdaaGsE
set_option linter.unusedVariables false
set_option linter.unusedSimpArgs false
namespace Go.Proofs.Ytmheofkakcomdaa
open Go.RowKit
def risS (x : Int) (p : List Int × Bool) (y : Int) : List Int × Bool := if p.2 = false ∧ x < y then (p.1 ++ [x] ++ [y], true) else (p.1 ++ [y], p.2)
def risP (l : List Int) (x : Int) : List Int × Bool := l.foldl (risS x) ([], false)
def risF (l : List Int) (x : Int) : List Int := if (risP l x).2 = true then (risP l x).1 else (risP l x).1 ++ [x]
theorem risP_succ (l : List Int) (x : Int) (j : Nat) (hj : j < l.length) : risP (l.take (j + 1)) x = risS x (risP (l.take j) x) l[j] := by
  rw [risP, List.take_succ_eq_append_getElem hj, List.foldl_append]
  rfl
set_option maxRecDepth 100000 in
set_option maxHeartbeats 3200000 in
theorem r_rising (w : World) (S : Nat → Prop) (A : Option Addr) (c : Nat) (l : List Int) (x : Int) (hr : Reads w S 1 A l.length (i64s l)) (ha : l.length ≤ 1000) :
    Calls Try.prog 14 #[.slice A l.length c, .int .i64 x] w fun e w' => ∃ D c', e = .returned (.slice D (risF l x).length c') ∧ w'.ownsRow w.heap.size 3 1 (.slice D (risF l x).length c') (risF l x).length (i64s (risF l x)) ∧ Step (fun _ => False) w w' := by
  have HR := Lib.hid hr
  clear hr
  go_enter Try.func14, Try.ntmps14
  go_wp2_with fail
  go_loopw [5, 6, 7] (fun ov dv iv wr => ∃ (j c : Nat) (D : Option Addr) (o : List Int) (d : Bool), j ≤ l.length ∧ ov = .slice D o.length c ∧ dv = .bool d ∧ iv = .int .i64 (j : Int) ∧ o.length ≤ 2 * j ∧ Hid (risP (l.take j) x = (o, d)) ∧ Hid (Step (fun _ => False) w wr) ∧ Hid (wr.ownsRow w.heap.size 3 1 (.slice D o.length c) o.length (i64s o))) (fun _ _ iv _ => l.length + 1 - (Go.RowKit.intOf iv).toNat)
  case atStart => exact ⟨0, 0, none, [], false, Nat.zero_le _, rfl, rfl, rfl, by simp, by rw [List.take_zero]; rfl, Step.refl, World.ownsRow_nil _ _ _ _⟩
  case round =>
    obtain ⟨j, co, D, o, d, hj, rfl, rfl, rfl, hol, HP, HS, HO⟩ := hrel
    by_cases hlt : j < l.length
    · have q1 : (j : Int) < (l.length : Int) := by omega
      have i0 : (0 : Int) ≤ (j : Int) := by omega
      have hw1 := IntWalk.i64_in ((j : Int) + 1) (by omega)
      obtain ⟨b, off, hA, _, hb, hc0⟩ := ins_row HR.out hlt
      subst hA
      have HU : Hid (risP (l.take (j + 1)) x = risS x (o, d) l[j]) := by rw [Hid, risP_succ l x j hlt, HP.out]
      have HC := Lib.hid (fun W (hs : Step (fun _ => False) w W) => (hs.cell (p := ⟨b, off + j, none⟩) hb id).trans hc0)
      have HBL := Lib.hid (fun W (hs : Step (fun _ => False) w W) => Nat.lt_of_lt_of_le hb hs.size)
      have hc := HC.out _ HS.out
      have hbl := HBL.out _ HS.out
      clear hc0 hb
      generalize l[j] = y at *
      cases d with
      | true =>
        have HE : Hid (risP (l.take (j + 1)) x = (o ++ [y], true)) := by rw [Hid, HU.out, risS, if_neg (by simp)]
        have hmx : o.length + 1 ≤ maxLen := by unfold maxLen; omega
        have hone8 := one_int (y)
        have hrn8 := reads_new wr #[.int .i64 (y)] 3 1 1 rfl
        have hsx8 := HS.out.size
        go_wp2_with (at_builtin; refine wpList_append_src _ rfl _ _ (by rfl) E_int (by rfl) (HO.out.alloc _) (by rfl) hrn8 hone8 hmx (by omega) (by simp; omega) ?_; intro D8 c8 w8 hown8 hgrow8 hat8)
        have HS8 := Lib.hid (grow_step (HS.out.alloc (.cells #[.int .i64 (y)] 3)) hgrow8 (HO.out.alloc _) (Nat.le_refl _))
        have HO8 := Lib.hid hown8
        clear hown8 hgrow8 hat8 hone8 hrn8 hsx8 hmx
        go_roundw
        case rel => exact ⟨j + 1, c8, D8, o ++ [y], true, by omega, by rw [List.length_append]; rfl, rfl, by rw [Int.natCast_add]; rfl, by simp; omega, HE, HS8, by rw [List.length_append, i64s_append]; exact HO8⟩
        case measure => simp [Go.RowKit.intOf]; omega
      | false =>
        by_cases hxy : x < y
        · have HE : Hid (risP (l.take (j + 1)) x = (o ++ [x] ++ [y], true)) := by rw [Hid, HU.out, risS, if_pos ⟨rfl, hxy⟩]
          have hmx : o.length + 1 ≤ maxLen := by unfold maxLen; omega
          have hmy : o.length + 1 + 1 ≤ maxLen := by unfold maxLen; omega
          have hone8 := one_int (x)
          have hrn8 := reads_new wr #[.int .i64 (x)] 3 1 1 rfl
          have hsx8 := HS.out.size
          go_upto_region 9 with (at_builtin; refine wpList_append_src _ rfl _ _ (by rfl) E_int (by rfl) (HO.out.alloc _) (by rfl) hrn8 hone8 hmx (by omega) (by simp; omega) ?_; intro D8 c8 w8 hown8 hgrow8 hat8)
          have HS8 := Lib.hid (grow_step (HS.out.alloc (.cells #[.int .i64 (x)] 3)) hgrow8 (HO.out.alloc _) (Nat.le_refl _))
          have HO8 := Lib.hid hown8
          clear hown8 hgrow8 hat8 hone8 hrn8 hsx8 hmx
          have hc8 := HC.out _ HS8.out
          have hb8 := HBL.out _ HS8.out
          clear hc hbl
          have hone9 := one_int (y)
          have hrn9 := reads_new w8 #[.int .i64 (y)] 3 1 1 rfl
          have hsx9 := HS8.out.size
          go_wp2_with (at_builtin; refine wpList_append_src _ rfl _ _ (by rfl) E_int (by rfl) (HO8.out.alloc _) (by rfl) hrn9 hone9 hmy (by omega) (by simp; omega) ?_; intro D9 c9 w9 hown9 hgrow9 hat9)
          have HS9 := Lib.hid (grow_step (HS8.out.alloc (.cells #[.int .i64 (y)] 3)) hgrow9 (HO8.out.alloc _) (Nat.le_refl _))
          have HO9 := Lib.hid hown9
          clear hown9 hgrow9 hat9 hone9 hrn9 hsx9 hmy
          go_roundw
          case rel => exact ⟨j + 1, c9, D9, o ++ [x] ++ [y], true, by omega, by rw [List.length_append, List.length_append]; rfl, rfl, by rw [Int.natCast_add]; rfl, by simp; omega, HE, HS9, by rw [List.length_append, List.length_append, i64s_append, i64s_append]; exact HO9⟩
          case measure => simp [Go.RowKit.intOf]; omega
        · have HE : Hid (risP (l.take (j + 1)) x = (o ++ [y], false)) := by rw [Hid, HU.out, risS, if_neg (fun h => hxy h.2)]
          have hmx : o.length + 1 ≤ maxLen := by unfold maxLen; omega
          have hone8 := one_int (y)
          have hrn8 := reads_new wr #[.int .i64 (y)] 3 1 1 rfl
          have hsx8 := HS.out.size
          go_wp2_with (at_builtin; refine wpList_append_src _ rfl _ _ (by rfl) E_int (by rfl) (HO.out.alloc _) (by rfl) hrn8 hone8 hmx (by omega) (by simp; omega) ?_; intro D8 c8 w8 hown8 hgrow8 hat8)
          have HS8 := Lib.hid (grow_step (HS.out.alloc (.cells #[.int .i64 (y)] 3)) hgrow8 (HO.out.alloc _) (Nat.le_refl _))
          have HO8 := Lib.hid hown8
          clear hown8 hgrow8 hat8 hone8 hrn8 hsx8 hmx
          go_roundw
          case rel => exact ⟨j + 1, c8, D8, o ++ [y], false, by omega, by rw [List.length_append]; rfl, rfl, by rw [Int.natCast_add]; rfl, by simp; omega, HE, HS8, by rw [List.length_append, i64s_append]; exact HO8⟩
          case measure => simp [Go.RowKit.intOf]; omega
    · have hje : j = l.length := by omega
      have q1 : ¬ (j : Int) < (l.length : Int) := by omega
      rw [hje, List.take_length] at HP
      clear hje
      cases d with
      | true =>
        have HE : Hid (risF l x = o) := by rw [Hid, risF, HP.out, if_pos rfl]
        go_wp2_with fail
        go_ret
        exact ⟨D, co, by rw [HE.out]; rfl, by rw [HE.out]; exact HO.out, HS.out⟩
      | false =>
        have HE : Hid (risF l x = o ++ [x]) := by rw [Hid, risF, HP.out, if_neg (by simp)]
        have hmx : o.length + 1 ≤ maxLen := by unfold maxLen; omega
        have hone8 := one_int (x)
        have hrn8 := reads_new wr #[.int .i64 (x)] 3 1 1 rfl
        have hsx8 := HS.out.size
        go_wp2_with (at_builtin; refine wpList_append_src _ rfl _ _ (by rfl) E_int (by rfl) (HO.out.alloc _) (by rfl) hrn8 hone8 hmx (by omega) (by simp; omega) ?_; intro D8 c8 w8 hown8 hgrow8 hat8)
        have HS8 := Lib.hid (grow_step (HS.out.alloc (.cells #[.int .i64 (x)] 3)) hgrow8 (HO.out.alloc _) (Nat.le_refl _))
        have HO8 := Lib.hid hown8
        clear hown8 hgrow8 hat8 hone8 hrn8 hsx8 hmx
        go_wp2_with fail
        go_ret
        exact ⟨D8, c8, by rw [HE.out, List.length_append]; rfl, by rw [HE.out, List.length_append, i64s_append]; exact HO8.out, HS8.out⟩
set_option maxRecDepth 100000 in
set_option maxHeartbeats 1600000 in
theorem r_same (w : World) (S S' : Nat → Prop) (A A' : Option Addr) (c c' : Nat) (l m : List Int) (hr : Reads w S 1 A l.length (i64s l)) (hr' : Reads w S' 1 A' m.length (i64s m)) (ha : l.length ≤ 1000) :
    Calls Try.prog 22 #[.slice A l.length c, .slice A' m.length c'] w fun e w' => e = .returned (.bool (decide (l = m))) ∧ Step (fun _ => False) w w' := by
  have HR := Lib.hid hr
  have HR' := Lib.hid hr'
  clear hr hr'
  by_cases hln : l.length = m.length
  · have e0 : ((l.length : Int) != (m.length : Int)) = false := by rw [hln]; simp
    have HLN := Lib.hid hln
    clear hln
    go_enter Try.func22, Try.ntmps22
    go_wp2_with fail
    go_loopw [5] (fun iv wr => ∃ (j : Nat), j ≤ l.length ∧ iv = .int .i64 (j : Int) ∧ Hid (l.take j = m.take j) ∧ Hid (Step (fun _ => False) w wr)) (fun iv _ => l.length + 1 - (Go.RowKit.intOf iv).toNat)
    case atStart => exact ⟨0, Nat.zero_le _, rfl, by rw [List.take_zero, List.take_zero]; exact rfl, Step.refl⟩
    case round =>
      obtain ⟨j, hj, rfl, HI, HS⟩ := hrel
      by_cases hlt : j < l.length
      · have q1 : (j : Int) < (l.length : Int) := by omega
        have q2 : (j : Int) < (m.length : Int) := by have := HLN.out; omega
        have hlt2 : j < m.length := by have := HLN.out; omega
        have i0 : (0 : Int) ≤ (j : Int) := by omega
        have hw1 := IntWalk.i64_in ((j : Int) + 1) (by omega)
        obtain ⟨b, off, hA, _, hb, hc⟩ := ins_row (HR.out.step HS.out (fun _ _ => id)) hlt
        subst hA
        obtain ⟨b', off', hA', _, hb', hc'⟩ := ins_row (HR'.out.step HS.out (fun _ _ => id)) hlt2
        subst hA'
        have HU : Hid (l.take (j + 1) = l.take j ++ [l[j]]) := List.take_succ_eq_append_getElem hlt
        have HU' : Hid (m.take (j + 1) = m.take j ++ [m[j]]) := List.take_succ_eq_append_getElem hlt2
        have HN : Hid (l[j] ≠ m[j] → ¬ l = m) := fun h e => h (by subst e; rfl)
        generalize l[j] = y at *
        generalize m[j] = z at *
        by_cases hy : y = z
        · have e1 : (y != z) = false := by rw [hy]; simp
          have HI2 : Hid (l.take (j + 1) = m.take (j + 1)) := by rw [Hid, HU.out, HU'.out, HI.out, hy]
          replace hy := Lib.hid hy
          go_wp2_with fail
          go_quiet (fail)
          go_wp2_with fail
          go_roundw
          case rel => exact ⟨j + 1, by omega, by rw [Int.natCast_add]; rfl, HI2, HS.out.drewN _⟩
          case measure => simp [Go.RowKit.intOf]; omega
        · have e1 : (y != z) = true := bne_iff_ne.2 hy
          have HX : Hid (decide (l = m) = false) := decide_eq_false (HN.out hy)
          replace hy := Lib.hid hy
          go_wp2_with fail
          go_quiet (fail)
          go_wp2_with fail
          go_ret
          exact ⟨by rw [HX.out]; rfl, HS.out.drewN _⟩
      · have hje : j = l.length := by omega
        have q1 : ¬ (j : Int) < (l.length : Int) := by omega
        have HX : Hid (decide (l = m) = true) := decide_eq_true (by
          have h := HI.out
          rw [hje, List.take_length, HLN.out, List.take_length] at h
          exact h)
        clear hje HI
        go_wp2_with fail
        go_ret
        exact ⟨by rw [HX.out]; rfl, HS.out⟩
  · have hne : ¬ (l.length : Int) = (m.length : Int) := by omega
    have e0 : ((l.length : Int) != (m.length : Int)) = true := bne_iff_ne.2 hne
    have HX : Hid (decide (l = m) = false) := decide_eq_false (fun e => hln (by rw [e]))
    clear hln hne
    go_enter Try.func22, Try.ntmps22
    go_wp2_with fail
    go_ret
    exact ⟨by rw [HX.out]; rfl, Step.refl⟩
end Go.Proofs.Ytmheofkakcomdaa
