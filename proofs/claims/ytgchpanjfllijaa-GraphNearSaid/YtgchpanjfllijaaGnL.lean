/-
  GraphNear, walked.
-/
import Derived.Test.YtgchpanjfllijaaGnW
set_option linter.unusedVariables false
set_option linter.unusedSimpArgs false
namespace Go.Proofs.Ytgchpanjfllijaa
open Go.RowKit

set_option maxRecDepth 100000 in
set_option maxHeartbeats 6400000 in
theorem gnear_walk (w : World) (A : Option Addr) (c : Nat) (l : List Rw) (s : Nm) (hv : Reads w (fun k => k < w.heap.size) 2 A l.length (rws l)) (hl : l.length ≤ 9223372036854775807)
    (hT : ∀ r ∈ l, Told w w.heap.size r) (hn : ∀ r ∈ l, r.needs.length ≤ 9223372036854775807) (hs : s.length ≤ maxLen) :
    Calls Try.prog 5 #[.slice A l.length c, .string (str s)] w fun e w' => e = .returned (.bool true) ∧ Below w.heap.size w w' := by
  have HT := Lib.hid hT
  have HV := Lib.hid hv
  have HN := Lib.hid hn
  clear hT hv hn
  go_enter Try.func5, Try.ntmps5
  go_wp2_with fail
  refine (awake35 w).mono ?_
  rintro e w1 ⟨rfl, hS1⟩
  have HV1 := Lib.hid ((HV.out.step hS1 (fun _ _ => id)).mono (S' := fun k => k < w1.heap.size) (fun k hk _ => hk))
  have HS1 := Lib.hid hS1
  clear hS1
  go_wp2_with fail
  refine (made_walk HV1.out hl (fun r hr => ⟨(HT.out r hr).2.2.1, HN.out r hr⟩)).mono ?_
  rintro e w2 ⟨hS2, rfl | ⟨D, cc, n, rfl, hM, hn15, hO, hl15, hnd⟩⟩
  · go_wp2_with fail
    go_ret
    exact ⟨rfl, (HS1.out.trans hS2).below w.heap.size (fun _ _ h => h.elim) (Nat.le_refl _)⟩
  · have hrows := rowsOf_len l hl15
    have HON := Lib.hid (once_rows l)
    have HND : Hid (∀ r ∈ rowsOf l, r.needs.length ≤ 15) := Lib.hid fun r hr => hnd r (rowsOf_mem hr)
    have HS2 := Lib.hid (HS1.out.trans hS2)
    have HT2 : Hid (∀ r ∈ rowsOf l, Told w2 w2.heap.size r) := Lib.hid fun r hr => (HT.out r (rowsOf_mem hr)).next HS2.out
    have HM := Lib.hid hM
    have HR2 := Lib.hid ((Reads.of_own hO).mono (S' := fun k => k < w2.heap.size) (fun k hk _ => hk))
    generalize rowsOf l = rows at *
    clear hM hO hnd hS2
    go_wp2_with fail
    go_loopw [8, 9] (fun wv i wr => ∃ (k m c : Nat) (Dw : Option Addr), k ≤ rows.length ∧ m ≤ k ∧ wv = .slice Dw m c ∧ i = .int .i64 (k : Int) ∧ Hid ((whoF (rows.take k) s).length = m) ∧ Hid (wr.ownsRow w2.heap.size 9 1 (.slice Dw m c) m (strs (whoF (rows.take k) s))) ∧ Hid (Step (fun _ => False) w2 wr)) (fun _ i _ => rows.length - (intOf i).toNat)
    case atStart => exact ⟨0, 0, 0, none, Nat.zero_le _, Nat.le_refl _, rfl, rfl, rfl, World.ownsRow_nil _ _ _ _, Step.refl⟩
    case round =>
      obtain ⟨k, m, cw, Dw, hk, hmk, rfl, rfl, HWL, HWO, HSr⟩ := hrel
      by_cases hlt : k < rows.length
      · obtain ⟨rb, ro, rfl, _, hrb, r0, r1⟩ := rw_cells (HR2.out.step HSr.out (fun _ _ => id)) hlt
        have hneeds := ((HT2.out _ (List.getElem_mem hlt)).1).step HSr.out (fun _ _ => id)
        have h15 := HND.out _ (List.getElem_mem hlt)
        have HWS := Lib.hid (whoF_succ rows s k hlt)
        have i0 : (0 : Int) ≤ (k : Int) := by omega
        have i1 : (k : Int) < (rows.length : Int) := by omega
        have hw := IntWalk.i64_in ((k : Int) + 1) (by omega)
        generalize rows[k] = r at *
        have HHS := Lib.hid (r35_has (c := r.cap) s hneeds (by omega))
        clear hneeds
        go_wp2_with fail
        refine HHS.out.mono ?_
        rintro e w6 ⟨rfl, hw6⟩
        obtain rfl := hw6.symm
        clear hw6
        cases hct : r.needs.contains s with
        | true =>
          rw [hct, if_pos rfl] at HWS
          have hm1 : m + 1 ≤ maxLen := by unfold maxLen; omega
          have hone1 : ∀ u ∈ #[Value.string (str r.name)].toList, u.oneCell' = true := strs_one [r.name]
          have hsz := HSr.out.size
          clear hct
          go_wp2_with (at_builtin; refine wpList_append_src _ rfl _ _ (by rfl) E_str (by rfl) (HWO.out.alloc _) (by rfl) (reads_new _ #[Value.string (str r.name)] 9 1 1 rfl) hone1 hm1 (by omega) (by simp; omega) ?_; intro D3 c3 w3 hown3 hgrow3 hat3)
          have HO3 := Lib.hid hown3
          have HG3 := Lib.hid hgrow3
          clear hown3 hgrow3 hat3
          go_roundw
          case rel => exact ⟨k + 1, m + 1, c3, D3, by omega, by omega, rfl, by go_num, by rw [HWS.out, List.length_append, HWL.out]; rfl, by
            show w3.ownsRow _ _ _ _ _ _
            rw [HWS.out, strs_append]
            exact HO3.out, grow_step (HSr.out.alloc _) HG3.out (HWO.out.alloc _) (Nat.le_refl _)⟩
          case measure => first | (simp [intOf]; done) | (simp [intOf]; omega)
        | false =>
          rw [hct, if_neg (by decide), List.append_nil] at HWS
          clear hct
          go_wp2_with fail
          go_roundw
          case rel => exact ⟨k + 1, m, cw, Dw, by omega, by omega, rfl, by go_num, by rw [HWS.out]; exact HWL.out, by rw [HWS.out]; exact HWO.out, HSr.out⟩
          case measure => first | (simp [intOf]; done) | (simp [intOf]; omega)
      · obtain rfl : k = rows.length := by omega
        have i1 : ¬ (rows.length : Int) < (rows.length : Int) := by omega
        have h1 := HWL.out
        have h2 := HWO.out
        rw [List.take_length] at h1 h2
        have HWL2 := Lib.hid h1
        have HWO2 := Lib.hid h2
        have HT3 : Hid (∀ r ∈ rows, Told wr wr.heap.size r) := Lib.hid fun r hr => (HT2.out r hr).next HSr.out
        have HR3 := Lib.hid ((HR2.out.step HSr.out (fun _ _ => id)).mono (S' := fun k => k < wr.heap.size) (fun k hk _ => hk))
        have HNR := Lib.hid (r35_near (cr := cc) hrows HND.out s HT3.out HR3.out)
        have hnl := near_le s hrows HND.out
        have HCY := Lib.hid (cyc_law s hrows HND.out)
        obtain ⟨nr, hnr⟩ : ∃ nr, nr = nearOf rows s := ⟨_, rfl⟩
        have HNE := Lib.hid hnr
        rw [← hnr] at HNR hnl HCY
        clear h1 h2 HWL HWO hnr
        go_wp2_with fail
        refine HNR.out.mono ?_
        rintro e w4 ⟨hS4, Dn, cn, rfl, hrn⟩
        have HS4 := Lib.hid (HSr.out.trans hS4)
        have HRN := Lib.hid hrn
        have HR4 := Lib.hid ((HR3.out.step hS4 (fun _ _ => id)).mono (S' := fun k => k < w4.heap.size) (fun k hk _ => hk))
        have HT4 : Hid (∀ r ∈ rows, Told w4 w4.heap.size r) := Lib.hid fun r hr => (HT3.out r hr).next hS4
        have HWR := Lib.hid ((Reads.of_own HWO2.out).step hS4 (fun _ _ => id))
        clear hS4 hrn HNR
        go_wp2_with fail
        go_loopw [11, 12] (fun cv i wr => ∃ (k : Nat) (b : Bool), k ≤ nr.length ∧ cv = .bool b ∧ i = .int .i64 (k : Int) ∧ Hid (b = (nr.take k).any fun x => (nds rows x).contains s) ∧ Hid (wr = w4)) (fun _ i _ => nr.length - (intOf i).toNat)
        case atStart => exact ⟨0, false, Nat.zero_le _, rfl, rfl, rfl, rfl⟩
        case round =>
          obtain ⟨k, b, hk, rfl, rfl, HB, hwr⟩ := hrel
          have hwr' := hwr.out
          subst hwr'
          by_cases hlt : k < nr.length
          · obtain ⟨ad, u, rfl, _, hbl, hu, hcx⟩ := HRN.out.at_ hlt
            rw [strs_get nr k hlt] at hu
            injection hu with hu
            subst hu
            have HBS : Hid (((nr.take (k + 1)).any fun x => (nds rows x).contains s) = (b || (nds rows nr[k]).contains s)) := by
              unfold Hid
              rw [List.take_succ_eq_append_getElem hlt, List.any_append, ← HB.out]
              simp
            have i0 : (0 : Int) ≤ (k : Int) := by omega
            have i1 : (k : Int) < (nr.length : Int) := by omega
            have hw := IntWalk.i64_in ((k : Int) + 1) (by omega)
            generalize nr[k] = x at *
            have HFI := r35_find (c := cc) x HR4.out (by omega)
            rcases fnd_findI (rows := rows) (s := x) with ⟨hf, hfi⟩ | ⟨q, hq, hf, hfi, _⟩
            · rw [hfi] at HFI
              rw [nds_none hf] at HBS
              replace HFI := Lib.hid HFI
              clear hf hfi
              go_wp2_with fail
              refine HFI.out.mono ?_
              rintro e w6 ⟨rfl, hw6⟩
              obtain rfl := hw6.symm
              clear hw6
              go_wp2_with fail
              go_roundw
              case rel => exact ⟨k + 1, b, by omega, rfl, by go_num, Lib.hid (by rw [HBS.out]; cases b <;> rfl), by first | exact Lib.hid trivial | rfl⟩
              case measure => first | (simp [intOf]; done) | (simp [intOf]; omega)
            · rw [hfi] at HFI
              rw [nds_some hf] at HBS
              replace HFI := Lib.hid HFI
              obtain ⟨rb, ro, rfl, _, hrb, r0, r1⟩ := rw_cells HR4.out hq
              have hneeds := (HT4.out _ (List.getElem_mem hq)).1
              have h15 := HND.out _ (List.getElem_mem hq)
              have q0 : (0 : Int) ≤ (q : Int) := by omega
              have q1 : (q : Int) < (rows.length : Int) := by omega
              generalize rows[q] = r at *
              have HHS := Lib.hid (r35_has (c := r.cap) s hneeds (by omega))
              clear hf hfi hneeds
              cases b with
              | true =>
                go_wp2_with fail
                refine HFI.out.mono ?_
                rintro e w6 ⟨rfl, hw6⟩
                obtain rfl := hw6.symm
                clear hw6
                go_wp2_with fail
                go_roundw
                case rel => exact ⟨k + 1, true, by omega, rfl, by go_num, Lib.hid (by rw [HBS.out]; rfl), by first | exact Lib.hid trivial | rfl⟩
                case measure => first | (simp [intOf]; done) | (simp [intOf]; omega)
              | false =>
                go_wp2_with fail
                refine HFI.out.mono ?_
                rintro e w6 ⟨rfl, hw6⟩
                obtain rfl := hw6.symm
                clear hw6
                go_wp2_with fail
                refine HHS.out.mono ?_
                rintro e w6 ⟨rfl, hw6⟩
                obtain rfl := hw6.symm
                clear hw6
                go_wp2_with fail
                go_roundw
                case rel => exact ⟨k + 1, r.needs.contains s, by omega, by first | rfl | simp, by go_num, Lib.hid (by rw [HBS.out]; simp), by first | exact Lib.hid trivial | rfl⟩
                case measure => first | (simp [intOf]; done) | (simp [intOf]; omega)
          · obtain rfl : k = nr.length := by omega
            have i1 : ¬ (nr.length : Int) < (nr.length : Int) := by omega
            have hb := HB.out
            rw [List.take_length, ← HCY.out] at hb
            have HBC := Lib.hid hb
            clear hb HB
            have HM4 := Lib.hid (HM.out.step HS4.out id)
            have HNW := near_walk hrows HND.out s hs HT4.out HM4.out
            rw [← HNE.out] at HNW
            replace HNW := Lib.hid HNW
            have hzl : (sortF (whoF rows s)).length = m := by rw [sortF_len]; exact HWL2.out
            have hm15 : m ≤ 15 := by rw [← HWL2.out]; have := whoF_le rows s; omega
            clear i1
            go_wp2_with fail
            refine HNW.out.mono ?_
            rintro e w5 ⟨hS5, D5, c5, rfl, hD5⟩
            have hsa := r35_same (c := c5) (d := cn) hD5 (HRN.out.step hS5 (fun _ _ => id)) (by omega) (by omega)
            rw [decide_eq_true (rfl : nr = nr)] at hsa
            have HSA := Lib.hid hsa
            have HS5 := Lib.hid hS5
            clear hsa hD5 hS5 HNW
            go_wp2_with fail
            refine HSA.out.mono ?_
            rintro e w6 ⟨rfl, hS6⟩
            have HS6 := Lib.hid (HS5.out.trans hS6)
            have HWW := Lib.hid (who_walk hrows HND.out HON.out s (fun r hr => (HT4.out r hr).next HS6.out) (HM4.out.step HS6.out id))
            clear hS6 HSA
            go_wp2_with fail
            refine HWW.out.mono ?_
            rintro e w7 ⟨Dq, cq, mq, rfl, hmq, hrq, hS7⟩
            rw [hzl] at hmq
            obtain rfl : mq = m := hmq
            have HS7 := Lib.hid (HS6.out.trans hS7)
            have hso := r35_sorted (w := w7) (c := cw) (l := whoF rows s) (A := Dw) (by rw [HWL2.out]; exact HWR.out.step HS7.out (fun _ _ => id)) (by rw [HWL2.out]; omega)
            rw [HWL2.out] at hso
            have HSO := Lib.hid hso
            have HRQ := Lib.hid hrq
            clear hso hrq hS7 HWW
            go_wp2_with fail
            refine HSO.out.mono ?_
            rintro e w8 ⟨Dz, cz, rfl, hzo, hS8⟩
            have hsa := r35_same (c := cq) (d := cz) (l := sortF (whoF rows s)) (m := sortF (whoF rows s)) (by rw [hzl]; exact HRQ.out.step hS8 (fun _ _ => id)) (by rw [hzl]; exact Reads.of_own hzo) (by omega) (by omega)
            rw [decide_eq_true (rfl : sortF (whoF rows s) = sortF (whoF rows s)), hzl] at hsa
            have HSA := Lib.hid hsa
            have HS8 := Lib.hid (HS7.out.trans hS8)
            clear hsa hzo hS8 HSO
            go_wp2_with fail
            refine HSA.out.mono ?_
            rintro e w9 ⟨rfl, hS9⟩
            have HS9 := Lib.hid (HS8.out.trans hS9)
            have hcw := cyclic_walk hrows HND.out s hs (fun r hr => (HT4.out r hr).next HS9.out) (HM4.out.step HS9.out id)
            rw [← HBC.out] at hcw
            have HCW := Lib.hid hcw
            clear hcw hS9 HSA
            go_wp2_with fail
            refine HCW.out.mono ?_
            rintro e w10 ⟨rfl, hS10⟩
            have HS10 := Lib.hid (HS9.out.trans hS10)
            have hbb : (b == b) = true := by cases b <;> rfl
            clear hS10 HCW
            go_wp2_with fail
            go_ret
            exact ⟨by first | rfl | (rw [hbb]), ((HS2.out.trans HS4.out).trans HS10.out).below w.heap.size (fun _ _ h => h.elim) (Nat.le_refl _)⟩
end Go.Proofs.Ytgchpanjfllijaa
