/-
  creelref07: SameAll of alike rows.
-/
import Derived.Test.YtfemeendkjcffaaInsB
import Derived.Test.YtfemeendkjcffaaSaA
set_option linter.unusedVariables false
set_option linter.unusedSimpArgs false
namespace Go.Proofs.Ytfemeendkjcffaa
open Go.RowKit

/-- Two instructions alike, their labels read. -/
def Alike (w : World) (S1 S2 : Nat → Prop) (x y : Ig) : Prop := y.op = x.op ∧ y.a = x.a ∧ y.b = x.b ∧ y.L = x.L ∧ x.n = x.L.length ∧ y.n = x.L.length ∧ x.L.length ≤ 100000 ∧ Reads w S1 1 x.A x.L.length (u32s x.L) ∧ Reads w S2 1 y.A x.L.length (u32s x.L)

set_option maxRecDepth 100000 in
set_option maxHeartbeats 6400000 in
theorem sameall_ok (w : World) (n c d : Nat) (A B : Option Addr) (l k : List Ig) (S T S1 S2 : Nat → Prop) (HN : Hid (n = l.length)) (HK : Hid (n = k.length)) (hnb : n ≤ 1000) (hr : Reads w S 4 A n (igs l)) (ht : Reads w T 4 B n (igs k))
    (hs : ∀ (i : Nat) (x y : Ig), l[i]? = some x → k[i]? = some y → Alike w S1 S2 x y) :
    Calls Try.prog 64 #[.slice A n c, .slice B n d] w fun e w' => e = .returned (.bool true) ∧ Step (fun _ => False) w w' := by
  have HR := Lib.hid hr
  have HT := Lib.hid ht
  have HS := Lib.hid hs
  have n4 : ((n : Int) != (n : Int)) = false := by simp
  clear hr ht hs
  go_enter Try.func64, Try.ntmps64
  go_wp2_with fail
  go_loopw [5] (fun iv wr => ∃ (i : Nat), i ≤ n ∧ iv = .int .i64 (i : Int) ∧ Hid (Step (fun _ => False) w wr)) (fun iv _ => n + 1 - (intOf iv).toNat)
  case atStart => exact ⟨0, by omega, rfl, Step.refl⟩
  case round =>
    obtain ⟨i, hi, rfl, HSi⟩ := hrel
    by_cases hlt : i < n
    · have g1 : (i : Int) < (n : Int) := by omega
      have i0 : (0 : Int) ≤ (i : Int) := by omega
      have hw1 := IntWalk.i64_in ((i : Int) + 1) (by omega)
      have hil : i < l.length := by rw [← HN.out]; exact hlt
      have hik : i < k.length := by rw [← HK.out]; exact hlt
      obtain ⟨bk, off, rfl, _, hbl, hc⟩ := reads_row Ig.cells 4 (by decide) Ig.four (HR.out.step HSi.out (fun _ _ => id)) (k := i) hil
      obtain ⟨bz, ofz, rfl, _, hbz, hcz⟩ := reads_row Ig.cells 4 (by decide) Ig.four (HT.out.step HSi.out (fun _ _ => id)) (k := i) hik
      have hA := HS.out i _ _ (List.getElem?_eq_getElem hil) (List.getElem?_eq_getElem hik)
      obtain ⟨x, hxe⟩ : ∃ x, x = l[i] := ⟨_, rfl⟩
      obtain ⟨y, hye⟩ : ∃ y, y = k[i] := ⟨_, rfl⟩
      rw [← hxe] at hA hc
      rw [← hye] at hA hcz
      clear hxe hye
      obtain ⟨op, a, b, m, cc, A1, L⟩ := x
      obtain ⟨op2, a2, b2, m2, cc2, A2, L2⟩ := y
      obtain ⟨e1, e2, e3, e4, e5, e6, hL, hr1, hr2⟩ := hA
      simp only at e1 e2 e3 e4 e5 e6 hL hr1 hr2
      subst e1 e2 e3 e4 e5 e6
      have hLm : L2.length ≤ 1000000 := by omega
      have HSm : Hid (∀ w', Step (fun _ => False) w w' → Calls Try.prog 39 #[.agg (insC (op2 : Int) (a2 : Int) (b2 : Int) A1 L2.length cc), .agg (insC (op2 : Int) (a2 : Int) (b2 : Int) A2 L2.length cc2)] w' fun e w'' => e = .returned (.bool true) ∧ Step (fun _ => False) w' w'') := fun w' h' => by
        have h := rsame_walk w' op2 a2 b2 cc op2 a2 b2 cc2 A1 A2 L2 L2 S1 S2 (hr1.step h' (fun _ _ => id)) (hr2.step h' (fun _ _ => id)) hLm
        rw [same_yes] at h
        exact h
      simp only [insC] at HSm
      have c0 := hc 0 _ rfl
      have c1 := hc 1 _ rfl
      have c2 := hc 2 _ rfl
      have c3 := hc 3 _ rfl
      have e0 := hcz 0 _ rfl
      have e1 := hcz 1 _ rfl
      have e2 := hcz 2 _ rfl
      have e3 := hcz 3 _ rfl
      simp only [Nat.add_zero] at c0 e0
      simp only at c0 c1 c2 c3 e0 e1 e2 e3
      obtain ⟨q, hq⟩ : ∃ q, q = L2.length := ⟨_, rfl⟩
      rw [← hq] at HSm c3 e3
      have d0 := cls_cell (F := fun _ => False) (w0 := wr) c0 id
      have d1 := cls_cell (F := fun _ => False) (w0 := wr) c1 id
      have d2 := cls_cell (F := fun _ => False) (w0 := wr) c2 id
      have d3 := cls_cell (F := fun _ => False) (w0 := wr) c3 id
      have f0 := cls_cell (F := fun _ => False) (w0 := wr) e0 id
      have f1 := cls_cell (F := fun _ => False) (w0 := wr) e1 id
      have f2 := cls_cell (F := fun _ => False) (w0 := wr) e2 id
      have f3 := cls_cell (F := fun _ => False) (w0 := wr) e3 id
      clear hc hcz c0 c1 c2 c3 e0 e1 e2 e3 hr1 hr2 hL hLm hq
      go_wp2_with fail
      refine Mix.wp_region_mix [8] [8] (Step (fun _ => False) wr) (by kernel_rfl) (by kernel_rfl) Step.refl.drew (fun hcls => ?_)
      refine Mix.wpL_reads 8 (by rfl) ?_
      simp only [List.take_succ_cons, List.drop_succ_cons, List.take_zero, List.drop_zero]
      repeat (go_big_quiet_step (fail))
      refine wpQuiet_nil ?_
      refine Mix.wpL_op (by rfl) (fun K hK => ?_)
      go_simp
      refine (HSm.out _ (HSi.out.trans Step.refl.drew)).mono ?_
      rintro e wd ⟨rfl, hSd⟩
      have HSd := Lib.hid (Step.refl.drew.trans hSd)
      refine hK _ _ (fun hlt => Mix.cl HSd.out) ?_
      clear hK K hSd
      refine Mix.wpL_reads 1 (by rfl) ?_
      simp only [List.take_succ_cons, List.drop_succ_cons, List.take_zero, List.drop_zero]
      repeat (go_big_quiet_step (fail))
      refine wpQuiet_nil ?_
      refine Mix.wpL_end ?_
      go_wp2_with fail
      go_roundw
      case rel => exact ⟨i + 1, by omega, by rw [Int.natCast_add]; rfl, HSi.out.trans HSd.out⟩
      case measure => simp [intOf]; omega
    · obtain rfl : i = n := by omega
      go_wp2_with fail
      go_ret
      exact ⟨rfl, HSi.out⟩
end Go.Proofs.Ytfemeendkjcffaa
