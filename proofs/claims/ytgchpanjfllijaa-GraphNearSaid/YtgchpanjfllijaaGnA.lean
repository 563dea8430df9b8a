/-
  GraphNear: creelref35.Near.
-/
import Derived.Test.YtgchpanjfllijaaGrL
set_option linter.unusedVariables false
set_option linter.unusedSimpArgs false
namespace Go.Proofs.Ytgchpanjfllijaa
open Go.RowKit

set_option maxRecDepth 100000 in
set_option maxHeartbeats 3200000 in
theorem r35_near {rows : List Rw} {R : Option Addr} {cr : Nat} {SR : Nat → Prop} (hrows : rows.length ≤ 15) (hnd : ∀ r ∈ rows, r.needs.length ≤ 15) (s : Nm) {w : World} (hT : ∀ r ∈ rows, Told w w.heap.size r) (hR : Reads w SR 2 R rows.length (rws rows)) :
    Calls Try.prog 15 #[.slice R rows.length cr, .string (str s)] w fun e w' => Step (fun _ => False) w w' ∧ ∃ D c, e = .returned (.slice D (nearOf rows s).length c) ∧ Reads w' (fun k => k < w'.heap.size) 1 D (nearOf rows s).length (strs (nearOf rows s)) := by
  have HRR := Lib.hid hR
  have HT := Lib.hid hT
  have HND := Lib.hid hnd
  have HO := Lib.hid (own_one w (B := w.heap.size) s (Nat.le_refl _))
  have HS : Hid (Step (fun _ => False) w (w.alloc (.cells #[.string (str s)] 9))) := Lib.hid (Step.refl.alloc _)
  clear hR hT hnd
  go_enter Try.func15, Try.ntmps15
  go_wp2_with fail
  go_loopw [5, 6] (fun ov i wr => ∃ (k c : Nat) (D : Option Addr) (o : List Nm), k ≤ o.length ∧ ov = .slice D o.length c ∧ i = .int .i64 (k : Int) ∧ Hid (Step (fun _ => False) w wr) ∧
    Hid (wr.ownsRow w.heap.size 9 1 (.slice D o.length c) o.length (strs o)) ∧ Hid (Nr rows s o) ∧ Hid (nearF rows (227 - k) k o = nearOf rows s)) (fun _ i _ => 227 - (intOf i).toNat)
  case atStart => exact ⟨0, 1, some ⟨w.heap.size, 0, none⟩, [s], by simp, rfl, rfl, HS, HO, Lib.hid (nr_start rows s), Lib.hid rfl⟩
  case round =>
    obtain ⟨k, c, D, o, hk, rfl, rfl, HS1, HO1, HN1, HF1⟩ := hrel
    clear HS HO
    have hol := HN1.out.le hrows HND.out
    by_cases hlt : k < o.length
    · obtain ⟨ad, u, had, _, hbl, hu, hc⟩ := (Reads.of_own HO1.out).at_ hlt
      rw [strs_get o k hlt] at hu
      injection hu with hu
      subst hu
      have hx := HN1.out.reach _ (List.getElem_mem hlt)
      have HF2 := Lib.hid ((nearF_step hlt (by omega)).symm.trans HF1.out)
      have i0 : (0 : Int) ≤ (k : Int) := by omega
      have i1 : (k : Int) < (o.length : Int) := by omega
      have hw := IntWalk.i64_in ((k : Int) + 1) (by omega)
      have hRw := Lib.hid (HRR.out.step HS1.out (fun _ _ => id))
      generalize o[k] = x at *
      have HX := Lib.hid hx
      have HFI := Lib.hid (r35_find (c := cr) x hRw.out (by omega))
      clear hx
      subst had
      rcases fnd_findI (rows := rows) (s := x) with ⟨hf, hfi⟩ | ⟨q, hq, hf, hfi, _⟩
      · have hnil := nds_none hf
        rw [hfi] at HFI
        rw [hnil] at HF2
        clear hf hfi hnil
        go_wp2_with fail
        refine HFI.out.mono ?_
        rintro e w6 ⟨rfl, hw6⟩
        obtain rfl : wr = w6 := hw6.symm
        clear hw6
        go_wp2_with fail
        go_loopw [5, 8] (fun ov j wr' => ov = .slice (some ad) o.length c ∧ j = .int .i64 0 ∧ Hid (wr' = wr)) (fun _ _ _ => 0)
        case atStart => exact ⟨rfl, rfl, rfl⟩
        case round =>
          obtain ⟨rfl, rfl, hwr⟩ := hrel
          have hwr' := hwr.out
          subst hwr'
          go_wp2_with fail
          go_roundw
          case rel => exact ⟨k + 1, c, some ad, o, by omega, rfl, by rw [Int.natCast_add]; rfl, HS1, HO1, HN1, HF2⟩
          case measure => simp [intOf]; omega
      · have hnds := nds_some hf
        have hq15 := HND.out _ (List.getElem_mem hq)
        have hts := (HT.out _ (List.getElem_mem hq)).1
        obtain ⟨rb, ro, hRe, _, hrb, r0, r1⟩ := rw_cells HRR.out hq
        subst hRe
        rw [hfi] at HFI
        rw [hnds] at HF2
        have hmem : Hid (∀ t ∈ rows[q].needs, t ∈ nds rows x) := Lib.hid fun t ht => by rw [hnds]; exact ht
        have HRA := Lib.hid hts
        have q0 : (0 : Int) ≤ (q : Int) := by omega
        have q1 : (q : Int) < (rows.length : Int) := by omega
        generalize rows[q] = r at *
        generalize hneeds : r.needs = ts at *
        generalize r.A = rA at *
        generalize r.cap = rc at *
        clear hf hfi hnds hts r0 hneeds
        go_wp2_with fail
        refine HFI.out.mono ?_
        rintro e w6 ⟨rfl, hw6⟩
        obtain rfl : wr = w6 := hw6.symm
        clear hw6 HFI
        go_wp2_with fail
        go_loopw [5, 8] (fun ov j wr' => ∃ (m c : Nat) (D : Option Addr) (p : List Nm), m ≤ ts.length ∧ ov = .slice D p.length c ∧ j = .int .i64 (m : Int) ∧ Hid (Step (fun _ => False) w wr') ∧
          Hid (wr'.ownsRow w.heap.size 9 1 (.slice D p.length c) p.length (strs p)) ∧ Hid (Nr rows s p) ∧ Hid (ts.foldl add1 o = (ts.drop m).foldl add1 p) ∧ Hid (k + 1 ≤ p.length)) (fun _ j _ => ts.length - (intOf j).toNat)
        case atStart => exact ⟨0, c, some ad, o, by omega, rfl, rfl, HS1, HO1, HN1, Lib.hid rfl, Lib.hid hlt⟩
        case round =>
          obtain ⟨m, c, D, p, hm, rfl, rfl, HS2, HO2, HN2, HF3, HK2⟩ := hrel
          have hpl := HN2.out.le hrows HND.out
          have r1' := (HS2.out.cell (p := ⟨rb, ro + q * 2 + 1, none⟩) hrb id).trans r1
          by_cases hlt2 : m < ts.length
          · have hst := HRA.out.step HS2.out (fun _ _ => id)
            obtain ⟨ad2, u, rfl, _, hbl2, hu, hc2⟩ := hst.at_ hlt2
            rw [strs_get ts m hlt2] at hu
            injection hu with hu
            subst hu
            have hmm := hmem.out _ (List.getElem_mem hlt2)
            have hdrop : ts.drop m = ts[m] :: ts.drop (m + 1) := List.drop_eq_getElem_cons hlt2
            rw [hdrop, List.foldl_cons] at HF3
            have j0 : (0 : Int) ≤ (m : Int) := by omega
            have j1 : (m : Int) < (ts.length : Int) := by omega
            have hw2 := IntWalk.i64_in ((m : Int) + 1) (by omega)
            have HN3 := Lib.hid (HN2.out.add HX.out hmm)
            generalize ts[m] = t at *
            go_wp2_with fail
            refine (r35_has t (Reads.of_own HO2.out) (by omega)).mono ?_
            rintro e w6 ⟨rfl, hw6⟩
            obtain rfl : wr = w6 := hw6.symm
            by_cases hct : p.contains t = true
            · rw [hct]
              rw [add1, if_pos hct] at HF3 HN3
              go_wp2_with fail
              go_roundw
              case rel => exact ⟨m + 1, c, D, p, by omega, rfl, by rw [Int.natCast_add]; rfl, HS2, HO2, HN3, HF3, HK2⟩
              case measure => simp [intOf]; omega
            · have hct' : p.contains t = false := by simpa using hct
              rw [hct']
              rw [add1, if_neg hct] at HF3 HN3
              have hm1 : p.length + 1 ≤ maxLen := by unfold maxLen; omega
              have one1 : ∀ u ∈ #[Value.string (str t)].toList, u.oneCell' = true := strs_one [t]
              have HL : Hid (p.length + 1 = (p ++ [t]).length) := Lib.hid (by simp)
              have hstr : strs p ++ #[Value.string (str t)].toList = strs (p ++ [t]) := by rw [strs_append]; rfl
              have hsz := HS2.out.size
              go_wp2_with (at_builtin; refine wpList_append_src _ rfl _ _ (by rfl) E_str (by rfl) (HO2.out.alloc _) (by rfl) (reads_new _ #[Value.string (str t)] 9 1 1 rfl) one1 hm1 (by omega) (by simp; omega) ?_; intro D3 c3 w3 hown3 hgrow3 hat3; rw [hstr] at hown3; have HO3 := Lib.hid hown3; have HG3 := Lib.hid hgrow3; clear hown3 hgrow3 hat3)
              have HO3 := HO3.out
              rw [HL.out] at HO3 ⊢
              have HS4 := Lib.hid (grow_step (HS2.out.alloc _) HG3.out (HO2.out.alloc _) (Nat.le_refl _))
              go_roundw
              case rel => exact ⟨m + 1, c3, D3, p ++ [t], by omega, rfl, by rw [Int.natCast_add]; rfl, HS4, HO3, HN3, HF3, Lib.hid (by have := HK2.out; simp; omega)⟩
              case measure => simp [intOf]; omega
          · obtain rfl : m = ts.length := by omega
            rw [List.drop_length, List.foldl_nil] at HF3
            go_wp2_with fail
            go_roundw
            case rel => exact ⟨k + 1, c, D, p, HK2.out, rfl, by rw [Int.natCast_add]; rfl, HS2, HO2, HN2, Lib.hid (by rw [← HF3.out]; exact HF2.out)⟩
            case measure => simp [intOf]; omega
    · obtain rfl : k = o.length := by omega
      rw [nearF_end (Nat.le_refl _) (by omega)] at HF1
      go_wp2_with fail
      go_ret
      refine ⟨HS1.out, ?_⟩
      rw [← HF1.out]
      exact ⟨D, c, rfl, (Reads.of_own HO1.out).mono (fun k hk _ => hk)⟩
end Go.Proofs.Ytgchpanjfllijaa
