/-
  store's reference: Live, Has, Same, Without, Rising.
-/
import Derived.Test.YtmheofkakcomdaaGsD
set_option linter.unusedVariables false
set_option linter.unusedSimpArgs false
namespace Go.Proofs.Ytmheofkakcomdaa
open Go.RowKit
theorem one_int (x : Int) : ∀ u ∈ (#[.int .i64 x] : Array Value).toList, u.oneCell' = true := by simp [Value.oneCell']
theorem i64s_flat : ∀ l : List Int, i64s l = l.flatMap (fun y : Int => [Value.int .i64 y])
  | [] => rfl
  | y :: l => by
    rw [List.flatMap_cons, ← i64s_flat l]
    rfl
theorem ins_row {w : World} {S : Nat → Prop} {A : Option Addr} {n : Nat} {l : List Int} (h : Reads w S 1 A n (i64s l)) {k : Nat} (hk : k < l.length) : ∃ b off, A = some ⟨b, off, none⟩ ∧ S b ∧ b < w.heap.size ∧ w.cell? ⟨b, off + k, none⟩ = some (.int .i64 l[k]) := by
  rw [i64s_flat] at h
  obtain ⟨b, off, h1, h2, h3, h4⟩ := reads_row (fun y : Int => [Value.int .i64 y]) 1 (by decide) (fun _ => rfl) h hk
  have h5 := h4 0 _ rfl
  rw [Nat.mul_one, Nat.add_zero] at h5
  exact ⟨b, off, h1, h2, h3, h5⟩
set_option maxRecDepth 100000 in
set_option maxHeartbeats 1600000 in
theorem r_live (w : World) (S : Nat → Prop) (A : Option Addr) (c : Nat) (l : List Vr) (a : Int) (hr : Reads w S 6 A l.length (vrs l)) (ha : l.length ≤ 1000) :
    Calls Try.prog 20 #[.slice A l.length c, .int .i64 a] w fun e w' => e = .returned (.bool (gaF l a).isSome) ∧ w = w' := by
  by_cases h0 : a < 0
  · have HG : Hid ((gaF l a).isSome = false) := by rw [Hid, gaF, if_neg (by omega)]; rfl
    have g0 : ¬ 0 ≤ a := by omega
    clear hr
    go_enter Try.func20, Try.ntmps20
    go_wp2_with fail
    go_ret
    exact ⟨by rw [HG.out]; rfl, rfl⟩
  · by_cases h1 : (l.length : Int) ≤ a
    · have HG : Hid ((gaF l a).isSome = false) := by rw [Hid, gaF, if_neg (by omega)]; rfl
      have g0 : 0 ≤ a := by omega
      have g1 : ¬ a < (l.length : Int) := by omega
      clear hr
      go_enter Try.func20, Try.ntmps20
      go_wp2_with fail
      go_ret
      exact ⟨by rw [HG.out]; rfl, rfl⟩
    · obtain ⟨k, rfl⟩ : ∃ k : Nat, a = (k : Int) := ⟨a.toNat, by omega⟩
      have hk : k < l.length := by omega
      have HG : Hid ((gaF l (k : Int)).isSome = l[k].lv) := by
        have e : l.getD ((k : Int).toNat) default = l[k] := by rw [List.getD_eq_getElem?_getD, Int.toNat_natCast, List.getElem?_eq_getElem hk]; rfl
        rw [Hid, gaF, if_pos (by omega), e]
        cases l[k].lv <;> rfl
      obtain ⟨bk, off, rfl, _, hbl, hc⟩ := reads_row Vr.cells 6 (by decide) Vr.six hr hk
      have g1 : (k : Int) < (l.length : Int) := by omega
      have g0 : (0 : Int) ≤ (k : Int) := by omega
      have c5 := hc 5 _ rfl
      generalize l[k].lv = lv at *
      clear hc hr
      go_enter Try.func20, Try.ntmps20
      go_wp2_with fail
      go_ret
      exact ⟨by rw [HG.out]; rfl, rfl⟩
set_option maxRecDepth 100000 in
set_option maxHeartbeats 1600000 in
theorem r_has (w : World) (S : Nat → Prop) (A : Option Addr) (c : Nat) (l : List Int) (x : Int) (hr : Reads w S 1 A l.length (i64s l)) (ha : l.length ≤ 1000) :
    Calls Try.prog 13 #[.slice A l.length c, .int .i64 x] w fun e w' => e = .returned (.bool (decide (x ∈ l))) ∧ w = w' := by
  have HR := Lib.hid hr
  clear hr
  go_enter Try.func13, Try.ntmps13
  go_wp2_with fail
  go_loopw [5] (fun iv wr => ∃ (j : Nat), j ≤ l.length ∧ iv = .int .i64 (j : Int) ∧ Hid (¬ x ∈ l.take j) ∧ Hid (w = wr)) (fun iv _ => l.length + 1 - (Go.RowKit.intOf iv).toNat)
  case atStart => exact ⟨0, by omega, rfl, (fun h => by rw [List.take_zero] at h; cases h), rfl⟩
  case round =>
    obtain ⟨j, hj, rfl, HI, HW⟩ := hrel
    have hw := HW.out
    subst hw
    by_cases hlt : j < l.length
    · have q1 : (j : Int) < (l.length : Int) := by omega
      have i0 : (0 : Int) ≤ (j : Int) := by omega
      have hw1 := IntWalk.i64_in ((j : Int) + 1) (by omega)
      obtain ⟨b, off, hA, _, hb, hc⟩ := ins_row HR.out hlt
      subst hA
      have HU : Hid (l.take (j + 1) = l.take j ++ [l[j]]) := List.take_succ_eq_append_getElem hlt
      have HM : Hid (l[j] ∈ l) := List.getElem_mem hlt
      generalize l[j] = y at *
      by_cases hy : y = x
      · have e1 : (y == x) = true := beq_iff_eq.2 hy
        have HX : Hid (decide (x ∈ l) = true) := by rw [Hid, ← hy]; exact decide_eq_true HM.out
        replace hy := Lib.hid hy
        go_wp2_with fail
        go_ret
        exact ⟨by rw [HX.out]; rfl, rfl⟩
      · have e1 : (y == x) = false := beq_eq_false_iff_ne.2 hy
        have HI2 : Hid (¬ x ∈ l.take (j + 1)) := fun h => by
          rw [HU.out] at h
          rcases List.mem_append.1 h with h | h
          · exact HI.out h
          · exact hy (List.mem_singleton.1 h).symm
        replace hy := Lib.hid hy
        go_wp2_with fail
        go_roundw
        case rel => exact ⟨j + 1, by omega, by rw [Int.natCast_add]; rfl, HI2, trivial⟩
        case measure => simp [Go.RowKit.intOf]; omega
    · have hje : j = l.length := by omega
      have HX : Hid (decide (x ∈ l) = false) := decide_eq_false (fun h => HI.out (by rw [hje, List.take_length]; exact h))
      have q1 : ¬ (j : Int) < (l.length : Int) := by omega
      clear HI hje
      go_wp2_with fail
      go_ret
      exact ⟨by rw [HX.out]; rfl, rfl⟩
def woF (l : List Int) (x : Int) : List Int := l.filter (fun y => y != x)
set_option maxRecDepth 100000 in
set_option maxHeartbeats 1600000 in
theorem r_without (w : World) (S : Nat → Prop) (A : Option Addr) (c : Nat) (l : List Int) (x : Int) (hr : Reads w S 1 A l.length (i64s l)) (ha : l.length ≤ 1000) :
    Calls Try.prog 16 #[.slice A l.length c, .int .i64 x] w fun e w' => ∃ D c', e = .returned (.slice D (woF l x).length c') ∧ w'.ownsRow w.heap.size 3 1 (.slice D (woF l x).length c') (woF l x).length (i64s (woF l x)) ∧ Step (fun _ => False) w w' := by
  have HR := Lib.hid hr
  clear hr
  go_enter Try.func16, Try.ntmps16
  go_wp2_with fail
  go_loopw [5, 6] (fun ov iv wr => ∃ (j c : Nat) (D : Option Addr), j ≤ l.length ∧ ov = .slice D (woF (l.take j) x).length c ∧ iv = .int .i64 (j : Int) ∧ Hid (Step (fun _ => False) w wr) ∧ Hid (wr.ownsRow w.heap.size 3 1 (.slice D (woF (l.take j) x).length c) (woF (l.take j) x).length (i64s (woF (l.take j) x)))) (fun _ iv _ => l.length + 1 - (Go.RowKit.intOf iv).toNat)
  case atStart => exact ⟨0, 0, none, Nat.zero_le _, by rw [List.take_zero]; rfl, rfl, Step.refl, by rw [List.take_zero]; exact World.ownsRow_nil _ _ _ _⟩
  case round =>
    obtain ⟨j, co, D, hj, rfl, rfl, HS, HO⟩ := hrel
    by_cases hlt : j < l.length
    · have q1 : (j : Int) < (l.length : Int) := by omega
      have i0 : (0 : Int) ≤ (j : Int) := by omega
      have hw1 := IntWalk.i64_in ((j : Int) + 1) (by omega)
      obtain ⟨b, off, hA, _, hb, hc⟩ := ins_row (HR.out.step HS.out (fun _ _ => id)) hlt
      subst hA
      have HU : Hid (woF (l.take (j + 1)) x = woF (l.take j) x ++ (if l[j] = x then [] else [l[j]])) := by
        rw [Hid, woF, List.take_succ_eq_append_getElem hlt, List.filter_append]
        by_cases h : l[j] = x
        · rw [if_pos h]; simp [woF, h]
        · rw [if_neg h]; simp [woF, h]
      have hle : (woF (l.take j) x).length ≤ j := by
        have h1 := List.length_filter_le (fun y : Int => y != x) (l.take j)
        rw [List.length_take] at h1
        unfold woF
        omega
      generalize l[j] = y at *
      generalize woF (l.take j) x = o at *
      by_cases hy : y = x
      · have e1 : (y != x) = false := by rw [hy]; simp
        have HE : Hid (woF (l.take (j + 1)) x = o) := by rw [Hid, HU.out, if_pos hy, List.append_nil]
        replace hy := Lib.hid hy
        go_wp2_with fail
        go_roundw
        case rel => exact ⟨j + 1, co, D, by omega, by rw [HE.out], by rw [Int.natCast_add]; rfl, HS, by rw [HE.out]; exact HO⟩
        case measure => simp [Go.RowKit.intOf]; omega
      · have e1 : (y != x) = true := bne_iff_ne.2 hy
        have HE : Hid (woF (l.take (j + 1)) x = o ++ [y]) := by rw [Hid, HU.out, if_neg hy]
        have hmx : o.length + 1 ≤ maxLen := by unfold maxLen; omega
        replace hy := Lib.hid hy
        have hone := one_int (y)
        have hrn := reads_new wr #[.int .i64 (y)] 3 1 1 rfl
        have hsx := HS.out.size
        go_wp2_with (at_builtin; refine wpList_append_src _ rfl _ _ (by rfl) E_int (by rfl) (HO.out.alloc _) (by rfl) hrn hone hmx (by omega) (by simp; omega) ?_; intro D' c' w8 hown8 hgrow hat)
        have HS8 := Lib.hid (grow_step (HS.out.alloc (.cells #[.int .i64 (y)] 3)) hgrow (HO.out.alloc _) (Nat.le_refl _))
        have HO8 := Lib.hid hown8
        clear hown8 hgrow hat hone hrn hsx hmx
        go_roundw
        case rel => exact ⟨j + 1, c', D', by omega, by rw [HE.out, List.length_append]; rfl, by rw [Int.natCast_add]; rfl, HS8, by rw [HE.out, List.length_append, i64s_append]; exact HO8⟩
        case measure => simp [Go.RowKit.intOf]; omega
    · have hje : j = l.length := by omega
      have q1 : ¬ (j : Int) < (l.length : Int) := by omega
      have HE : Hid (l.take j = l) := by rw [Hid, hje, List.take_length]
      rw [HE.out] at HO ⊢
      clear hje
      go_wp2_with fail
      go_ret
      exact ⟨D, co, rfl, HO.out, HS.out⟩
end Go.Proofs.Ytmheofkakcomdaa
