/-
  GraphNear: creelref35.Sorted.
-/
import Derived.Test.YtgchpanjfllijaaGnB
import Derived.Deep.DeepCutAuto
set_option linter.unusedVariables false
set_option linter.unusedSimpArgs false
namespace Go.Proofs.Ytgchpanjfllijaa
open Go.RowKit

set_option maxRecDepth 100000 in
set_option maxHeartbeats 3200000 in
theorem r35_sorted {w : World} {S : Nat → Prop} {A : Option Addr} {c : Nat} {l : List Nm} (hv : Reads w S 1 A l.length (strs l)) (hl : l.length ≤ 1000) :
    Calls Try.prog 17 #[.slice A l.length c] w fun e w' => ∃ D c', e = .returned (.slice D l.length c') ∧ w'.ownsRow w.heap.size 9 1 (.slice D l.length c') l.length (strs (sortF l)) ∧ Step (fun _ => False) w w' := by
  have HV := Lib.hid hv
  clear hv
  go_enter Try.func17, Try.ntmps17
  go_wp2_with fail
  go_loopw [3, 4] (fun ov i wr => ∃ (k c : Nat) (D : Option Addr), k ≤ l.length ∧ ov = .slice D k c ∧ i = .int .i64 (k : Int) ∧ Hid (Step (fun _ => False) w wr) ∧ Hid (wr.ownsRow w.heap.size 9 1 (.slice D k c) k (strs (sortF (l.take k))))) (fun _ i _ => l.length - (intOf i).toNat)
  case atStart => exact ⟨0, 0, none, Nat.zero_le _, rfl, rfl, Step.refl, World.ownsRow_nil _ _ _ _⟩
  case round =>
    obtain ⟨k, co, D, hk, rfl, rfl, HS, HO⟩ := hrel
    obtain ⟨W, rfl⟩ : ∃ W, W = wr := ⟨_, rfl⟩
    by_cases hlt : k < l.length
    · obtain ⟨ad, u, rfl, _, hbl, hu, hc⟩ := (HV.out.step HS.out (fun _ _ => id)).at_ hlt
      rw [strs_get l k hlt] at hu
      injection hu with hu
      subst hu
      have HSC := Lib.hid (sortF_succ l k hlt)
      have hol : (sortF (l.take k)).length = k := by rw [sortF_len, List.length_take]; omega
      have i0 : (0 : Int) ≤ (k : Int) := by omega
      have i1 : (k : Int) < (l.length : Int) := by omega
      have hw := IntWalk.i64_in ((k : Int) + 1) (by omega)
      generalize l[k] = x at *
      generalize sortF (l.take k) = o at *
      have HOL := Lib.hid hol
      have hcap := own_cap HO.out
      clear hol
      go_wp2_with fail
      go_loopw [5] (fun nv wr' => ∃ n : Nat, n ≤ k ∧ nv = .int .i64 (n : Int) ∧ Hid (∀ i (h : i < o.length), i < n → o[i] < x) ∧ Hid (Step (fun _ => False) W wr')) (fun nv _ => k - (intOf nv).toNat)
      case atStart => exact ⟨0, Nat.zero_le _, rfl, Lib.hid (fun i h hi => absurd hi (Nat.not_lt_zero i)), Step.refl⟩
      case round =>
        obtain ⟨n, hn, rfl, HLT, HS2⟩ := hrel
        have HOw := Lib.hid (own_step HO.out HS2.out (fun _ _ => id))
        have hcx := (HS2.out.cell (by rw [add_block]; exact hbl) id).trans hc
        have n0 : (0 : Int) ≤ (n : Int) := by omega
        have hwn := IntWalk.i64_in ((n : Int) + 1) (by omega)
        have hpl := posF_le x o
        rw [HOL.out] at hpl
        have hpn : n ≤ posF x o := by
          rcases Nat.lt_or_ge (posF x o) n with e | e
          · exact absurd (HLT.out (posF x o) (by rw [HOL.out]; omega) e) (posF_stop x o (by rw [HOL.out]; omega))
          · exact e
        have dx := cls_cell (F := fun _ => False) (w0 := wr) hcx id
        obtain ⟨bb, hbb⟩ : ∃ bb, bb = decide (n < posF x o) := ⟨_, rfl⟩
        have HBB := Lib.hid hbb
        clear hbb
        go_upto_region 6 with fail
        go_cut [27] (fun s27 wx => s27 = .bool bb ∧ wx = wr.drew)
        case first =>
          by_cases hnk : n < k
          · obtain ⟨ad2, u2, rfl, _, _, hu2, hc2⟩ := (Reads.of_own HOw.out).at_ (k := n) hnk
            rw [strs_get o n (by rw [HOL.out]; exact hnk)] at hu2
            injection hu2 with hu2
            subst hu2
            have g1 : (n : Int) < (k : Int) := by omega
            have g2 : decide ((n : Int) < (k : Int)) = true := decide_eq_true g1
            have g3 : decide (n < k) = true := decide_eq_true hnk
            have dy := cls_cell (F := fun _ => False) (w0 := wr) hc2 id
            by_cases hle : o[n]'(by rw [HOL.out]; exact hnk) < x
            · have hb := less_t hle
              have hd : decide (n < posF x o) = true := by
                refine decide_eq_true ?_
                rcases Nat.lt_or_ge n (posF x o) with e | e
                · exact e
                · obtain rfl : n = posF x o := by omega
                  exact absurd hle (posF_stop x o (by rw [HOL.out]; exact hnk))
              have HD := Lib.hid (HBB.out.trans hd)
              generalize o[n]'(by rw [HOL.out]; exact hnk) = y at *
              clear hle hd hc2
              refine Mix.wp_region_mix [] [] (Step (fun _ => False) wr) (by kernel_rfl) (by kernel_rfl) Step.refl.drew (fun hcls => ?_)
              refine Mix.wpL_reads 15 (by rfl) ?_
              simp only [List.take_succ_cons, List.drop_succ_cons, List.take_zero, List.drop_zero]
              repeat (go_big_quiet_step (fail))
              refine wpQuiet_nil ?_
              refine Mix.wpL_end ?_
              go_wp2_with fail
              go_meet
              exact ⟨congrArg Value.bool HD.out.symm, rfl⟩
            · have hb := less_f hle
              have hd : decide (n < posF x o) = false := by
                refine decide_eq_false (fun e => hle ?_)
                exact posF_lt x o n (by rw [HOL.out]; exact hnk) e
              have HD := Lib.hid (HBB.out.trans hd)
              generalize o[n]'(by rw [HOL.out]; exact hnk) = y at *
              clear hle hd hc2
              refine Mix.wp_region_mix [] [] (Step (fun _ => False) wr) (by kernel_rfl) (by kernel_rfl) Step.refl.drew (fun hcls => ?_)
              refine Mix.wpL_reads 15 (by rfl) ?_
              simp only [List.take_succ_cons, List.drop_succ_cons, List.take_zero, List.drop_zero]
              repeat (go_big_quiet_step (fail))
              refine wpQuiet_nil ?_
              refine Mix.wpL_end ?_
              go_wp2_with fail
              go_meet
              exact ⟨congrArg Value.bool HD.out.symm, rfl⟩
          · have hd : decide (n < posF x o) = false := decide_eq_false (by omega)
            have HD := Lib.hid (HBB.out.trans hd)
            have g1 : ¬ (n : Int) < (k : Int) := by omega
            have g2 : decide ((n : Int) < (k : Int)) = false := decide_eq_false g1
            have g3 : decide (n < k) = false := decide_eq_false hnk
            clear hd
            refine Mix.wp_region_mix [] [] (Step (fun _ => False) wr) (by kernel_rfl) (by kernel_rfl) Step.refl.drew (fun hcls => ?_)
            refine Mix.wpL_reads 15 (by rfl) ?_
            simp only [List.take_succ_cons, List.drop_succ_cons, List.take_zero, List.drop_zero]
            repeat (go_big_quiet_step (fail))
            refine wpQuiet_nil ?_
            refine Mix.wpL_end ?_
            go_wp2_with fail
            go_meet
            exact ⟨congrArg Value.bool HD.out.symm, rfl⟩
        case rest =>
          obtain ⟨rfl, hwc⟩ := hcut
          have hwc' := hwc.symm
          have HW := Lib.hid hwc
          clear hwc'
          by_cases hlp : n < posF x o
          · obtain rfl : bb = true := HBB.out.trans (decide_eq_true hlp)
            have HL2 : Hid (∀ i (h : i < o.length), i < n + 1 → o[i] < x) := fun i h hi => posF_lt x o i h (by omega)
            have HS3 : Hid (Step (fun _ => False) W wc) := by rw [Hid, HW.out]; exact HS2.out.drew
            clear dx hcx hwc
            go_wp2_with fail
            go_roundw
            case rel => exact ⟨n + 1, by omega, by go_num, HL2, HS3⟩
            case measure => first | (simp [intOf]; done) | (simp [intOf]; omega)
          · obtain rfl : bb = false := HBB.out.trans (decide_eq_false hlp)
            have hnp : posF x o = n := by omega
            have HSc : Hid (Step (fun _ => False) W wc) := by rw [Hid, HW.out]; exact HS2.out.drew
            have HSw := Lib.hid (HS.out.trans HSc.out)
            have HOc := Lib.hid (own_step HO.out HSc.out (fun _ _ => id))
            have hcx2 := (HSc.out.cell (by rw [add_block]; exact hbl) id).trans hc
            have HIN : Hid (strs (o.take n) ++ #[Value.string (str x)].toList ++ strs (o.drop n) = strs (sortF (l.take (k + 1)))) := by
              unfold Hid
              rw [HSC.out, insF, hnp, strs_append]
              simp [strs]
            obtain ⟨y, hy⟩ : ∃ y, y = k - n := ⟨_, rfl⟩
            have hyn : n + y = k := by omega
            have HLN : Hid (n + 1 + y = k + 1) := by unfold Hid; omega
            have HD0 : Hid (D = none → n = 0) := fun e => by
              subst e
              rcases HOc.out.2 with ⟨_, h0⟩ | ⟨g, cap, cur, e, _⟩
              · omega
              · cases e
            have sl := slice_ln E_str D k co .i64 (n : Int) n y (co - n) rfl (by omega) (by omega) rfl
            have sm := slice_hm E_str D k co .i64 (n : Int) n rfl (by omega)
            have j1 : (n : Int) ≤ (k : Int) := by omega
            have j2 : (n : Int) ≤ (co : Int) := by omega
            have hrd := (Reads.of_own HOc.out).cut (k := n) (cap := co) (by omega) hcap
            rw [Nat.mul_one, strs_drop, ← hy] at hrd
            have hrd2 : Reads wc (fun k_1 => (Value.slice D k co).ownBlock = some k_1) 1 (cutA D co n 1) y (strs (o.drop n)) := by simpa [cutA] using hrd
            have HRT : Hid (∀ Z, Step (fun _ => False) wc Z → Reads Z (fun k_1 => (Value.slice D k co).ownBlock = some k_1) 1 D n (strs (o.take n))) := fun Z hZ => by
              have := ((Reads.of_own HOc.out).step hZ (fun _ _ => id)).take (k := n) (by omega)
              rwa [Nat.mul_one, strs_take] at this
            have hone1 := strs_one (o.drop n)
            have hone2 : ∀ u ∈ #[Value.string (str x)].toList, u.oneCell' = true := strs_one [x]
            have hm1 : 0 + y ≤ maxLen := by unfold maxLen; omega
            have hm2 : n + 1 ≤ maxLen := by unfold maxLen; omega
            have hm3 : n + 1 + y ≤ maxLen := by unfold maxLen; omega
            have hfr : (wc.alloc (.cells #[] 9)).ownsRow wc.heap.size 9 1 (.slice (some ⟨wc.heap.size, 0, none⟩) 0 0) 0 [] := own_fresh 1 (Nat.le_refl _)
            have hrd3 := hrd2.step (F := fun _ => False) (Step.refl.alloc (.cells #[] 9)) (fun _ _ => id)
            have hyl : y ≤ 1000 := by omega
            have hnl : n ≤ 1000 := by omega
            clear dx hcx hwc hy hnp hlp hrd hrd2 hpl hpn
            go_upto_region 9 with (at_builtin; refine wpList_append_src _ rfl _ _ (by rfl) E_str (by rfl) hfr (by rfl) hrd3 hone1 hm1 (by omega) (by simp) ?_; intro A1 c1 w1 hown1 hgrow1 hat1)
            have hs1 : Step (fun _ => False) wc w1 := (Step.refl.alloc _).grown hgrow1 (fun q hq => by
              simp [blkOf] at hq
              right; omega)
            have HS1 := Lib.hid hs1
            rw [Nat.zero_add, List.nil_append] at hown1
            have HO1 := Lib.hid hown1
            have hcx3 := (hs1.cell (by rw [add_block]; exact Nat.lt_of_lt_of_le hbl HSc.out.size) id).trans hcx2
            have dx := cls_cell (F := fun _ => False) (w0 := w1) hcx3 id
            clear hs1 hown1 hgrow1 hat1 hfr hrd3 hcx3 hcx2
            go_wp2_with fail
            refine Mix.wp_region_mix [8, 9, 11] [8, 9, 11] (Step (fun _ => False) w1) (by kernel_rfl) (by kernel_rfl) Step.refl.drew (fun hcls => ?_)
            refine Mix.wpL_reads 8 (by rfl) ?_
            simp only [List.take_succ_cons, List.drop_succ_cons, List.take_zero, List.drop_zero]
            repeat (go_big_quiet_step (fail))
            refine wpQuiet_nil ?_
            refine Mix.wpL_op (by rfl) (fun K hK => ?_)
            go_simp
            refine hK _ _ (fun hlt => Mix.cl (Step.drew (Step.alloc Step.refl _))) ?_
            clear hK K
            refine Mix.wpL_op (by rfl) (fun K hK => ?_)
            refine step_append_cap (w0 := w1) (by rfl) _ _ (by rfl) E_str (Step.drew (Step.alloc Step.refl _)) (by rfl) (HRT.out _ (HS1.out.trans (Step.drew (Step.alloc Step.refl _)))) HD0.out (by rfl) (reads_new w1 #[.string (str x)] 9 1 1 rfl).drew hone2 (by decide) hm2 (by omega) ?_
            intro D2 c2 W2 hown2 hS2 hgrow2 hat2
            refine hK _ _ (fun hlt => Mix.cl (hS2)) ?_
            clear hK K
            simp only [Act.put, List.setIfInBounds_toArray, List.set_cons_succ, List.set_cons_zero]
            refine Mix.wpL_reads 1 (by rfl) ?_
            simp only [List.take_succ_cons, List.drop_succ_cons, List.take_zero, List.drop_zero]
            repeat (go_big_quiet_step (fail))
            refine wpQuiet_nil ?_
            refine Mix.wpL_op (by rfl) (fun K hK => ?_)
            refine step_append_new (w0 := w1) (by rfl) _ _ (by rfl) E_str hS2 (by rfl) hown2 (by rfl) ((Reads.of_own HO1.out).step hS2 (fun _ _ => id)) hone1 hm3 (by omega) ?_
            intro D3 c3 W3 hown3 hS3 hgrow3 hat3
            refine hK _ _ (fun hlt => Mix.cl (hS3)) ?_
            clear hK K
            simp only [Act.put, List.setIfInBounds_toArray, List.set_cons_succ, List.set_cons_zero]
            refine Mix.wpL_reads 1 (by rfl) ?_
            simp only [List.take_succ_cons, List.drop_succ_cons, List.take_zero, List.drop_zero]
            repeat (go_big_quiet_step (fail))
            refine wpQuiet_nil ?_
            refine Mix.wpL_end ?_
            have HS3 := Lib.hid (HSw.out.trans (HS1.out.trans hS3))
            have HO3 : Hid (W3.ownsRow w.heap.size 9 1 (.slice D3 (k + 1) c3) (k + 1) (strs (sortF (l.take (k + 1))))) := by
              have h8 := own_base (base' := w.heap.size) hown3 (fun q hq => Nat.le_trans (HSw.out.trans HS1.out).size (own_ge hown3 q hq))
              rw [HIN.out, HLN.out] at h8
              exact h8
            clear dx hcls hown3 hS3 hgrow3 hat3 hown2 hS2 hgrow2 hat2
            go_wp2_with fail
            rw [HLN.out]
            go_roundw
            case rel => exact ⟨k + 1, c3, D3, by omega, rfl, by go_num, HS3, HO3⟩
            case measure => first | (simp [intOf]; done) | (simp [intOf]; omega)
    · obtain rfl : k = l.length := by omega
      have hh := HO.out
      rw [List.take_length] at hh
      replace HO := Lib.hid hh
      clear hh
      go_wp2_with fail
      go_ret
      exact ⟨D, co, rfl, HO.out, HS.out⟩
end Go.Proofs.Ytgchpanjfllijaa
