/-
  module: the law ModuleFuncs, walked.
-/
import Derived.Test.YteibigianodhnaaMfF
set_option linter.unusedVariables false
set_option linter.unusedSimpArgs false
namespace Go.Proofs.Yteibigianodhnaa
open Go.RowKit

set_option maxRecDepth 100000 in
set_option maxHeartbeats 3200000 in
theorem mf_big (w : World) (T I Fa : Option Addr) (tn tc n ic m fc : Nat) (x3 x4 x5 x6 x7 x8 x9 x10 x11 x12 x13 x14 x15 x16 : Value) (f : Nat) (h : ¬ (n ≤ 100 ∧ m ≤ 100)) :
    Calls Try.prog 3 #[.agg #[.slice T tn tc, .slice I n ic, .slice Fa m fc, x3, x4, x5, x6, x7, x8, x9, x10, x11, x12, x13, x14, x15, x16], .int .u32 (f : Int)] w fun e w' => e = .returned (.bool true) ∧ Step (fun _ => False) w w' := by
  obtain ⟨v1, hv1⟩ : ∃ v1, v1 = w.alloc (.cells #[.slice T tn tc, .slice I n ic, .slice Fa m fc, x3, x4, x5, x6, x7, x8, x9, x10, x11, x12, x13, x14, x15, x16] 36) := ⟨_, rfl⟩
  have HB : Hid (Blk v1 w.heap.size 36 #[.slice T tn tc, .slice I n ic, .slice Fa m fc, x3, x4, x5, x6, x7, x8, x9, x10, x11, x12, x13, x14, x15, x16]) := by rw [hv1]; exact Blk.new w _ _
  have HS : Hid (Step (fun _ => False) w v1) := by rw [hv1]; exact Step.refl.alloc _
  have hsz : v1.heap.size = w.heap.size + 1 := by rw [hv1]; simp
  have HE := Lib.hid hv1
  clear hv1
  go_enter Try.func3, Try.ntmps3
  go_wp2_with fail
  rw [← HE.out]
  refine (awake17 _).mono ?_
  rintro e w1 ⟨rfl, hs1⟩
  have HB1 := Lib.hid (HB.out.step hs1 id)
  have HS1 := Lib.hid (HS.out.trans hs1)
  clear hs1 HB HS HE
  have c1 := HB1.out.cell 1
  have c2 := HB1.out.cell 2
  simp at c1 c2
  by_cases hn : 100 < n
  · have g1 : (100 : Int) < (n : Int) := by omega
    have g2 : decide ((100 : Int) < (n : Int)) = true := by simp; omega
    go_wp2_with fail
    go_ret
    exact ⟨rfl, HS1.out⟩
  · have g1 : ¬ (100 : Int) < (n : Int) := by omega
    have g2 : decide ((100 : Int) < (n : Int)) = false := by simp; omega
    have g3 : (100 : Int) < (m : Int) := by omega
    have g4 : decide ((100 : Int) < (m : Int)) = true := by simp; omega
    go_wp2_with fail
    go_ret
    exact ⟨rfl, HS1.out⟩

set_option maxRecDepth 100000 in
set_option maxHeartbeats 12800000 in
theorem mf_ok (w : World) (T I Fa : Option Addr) (tn tc n ic m fc : Nat) (x3 x4 x5 x6 x7 x8 x9 x10 x11 x12 x13 x14 x15 x16 : Value) (l : List Im) (fs : List Nat) (ts : List Ft) (S S' S'' : Nat → Prop) (HN : Hid (n = l.length)) (hn : n ≤ 100) (HM : Hid (m = fs.length)) (hm : m ≤ 100) (HTn : Hid (tn = ts.length)) (htn : tn < 9223372036854775808) (hr : Reads w S 9 I n (ims l)) (hf : Reads w S' 1 Fa m (u32s fs)) (ht : Reads w S'' 2 T tn (fts ts)) (f : Nat) (hfb : f < 4294967296) (hti : ∀ x ∈ l, x.t < 4294967296) (htf : ∀ x ∈ fs, x < 4294967296) :
    Calls Try.prog 3 #[.agg #[.slice T tn tc, .slice I n ic, .slice Fa m fc, x3, x4, x5, x6, x7, x8, x9, x10, x11, x12, x13, x14, x15, x16], .int .u32 (f : Int)] w fun e w' => e = .returned (.bool true) ∧ Step (fun _ => False) w w' := by
  have hLb := fnA_mem l fs hti htf
  have hKb := fnA_len l fs n m HN.out HM.out hn hm
  obtain ⟨v1, hv1⟩ : ∃ v1, v1 = w.alloc (.cells #[.slice T tn tc, .slice I n ic, .slice Fa m fc, x3, x4, x5, x6, x7, x8, x9, x10, x11, x12, x13, x14, x15, x16] 36) := ⟨_, rfl⟩
  have HB : Hid (Blk v1 w.heap.size 36 #[.slice T tn tc, .slice I n ic, .slice Fa m fc, x3, x4, x5, x6, x7, x8, x9, x10, x11, x12, x13, x14, x15, x16]) := by rw [hv1]; exact Blk.new w _ _
  have HS : Hid (Step (fun _ => False) w v1) := by rw [hv1]; exact Step.refl.alloc _
  have hsz : v1.heap.size = w.heap.size + 1 := by rw [hv1]; simp
  have HE := Lib.hid hv1
  clear hv1
  have HR := Lib.hid (hr.step HS.out (fun _ _ => id))
  have HF := Lib.hid (hf.step HS.out (fun _ _ => id))
  have HT := Lib.hid ((ht.mono (S' := fun k => k < w.heap.size) (fun k hk _ => hk)).step HS.out (fun _ _ => id))
  have hFu : ∀ wz, Step (fun _ => False) v1 wz → _ := fun wz hz => funcs_ok wz T I Fa tn tc n ic m fc x3 x4 x5 x6 x7 x8 x9 x10 x11 x12 x13 x14 x15 x16 l fs S S' HN hn HM hm (HR.out.step hz (fun _ _ => id)) (HF.out.step hz (fun _ _ => id))
  have hRu : ∀ wz, Step (fun _ => False) v1 wz → _ := fun wz hz => rfuncs_ok wz T I Fa tn tc n ic m fc x3 x4 x5 x6 x7 x8 x9 x10 x11 x12 x13 x14 x15 x16 l fs S S' HN hn HM hm (HR.out.step hz (fun _ _ => id)) (HF.out.step hz (fun _ _ => id))
  have hN : ∀ wz, Step (fun _ => False) v1 wz → ∀ hno, _ := fun wz hz hno => typeof_none wz T I Fa tn tc n ic m fc x3 x4 x5 x6 x7 x8 x9 x10 x11 x12 x13 x14 x15 x16 l fs ts S S' (fun k => k < w.heap.size) HN hn HM hm HTn htn (HR.out.step hz (fun _ _ => id)) (HF.out.step hz (fun _ _ => id)) (HT.out.step hz (fun _ _ => id)) f hfb hLb hno
  have hSo : ∀ wz, Step (fun _ => False) v1 wz → ∀ q hqe hq2 x hx, _ := fun wz hz q hqe hq2 x hx => typeof_some wz T I Fa tn tc n ic m fc x3 x4 x5 x6 x7 x8 x9 x10 x11 x12 x13 x14 x15 x16 l fs ts S S' (fun k => k < w.heap.size) HN hn HM hm HTn htn (HR.out.step hz (fun _ _ => id)) (HF.out.step hz (fun _ _ => id)) (HT.out.step hz (fun _ _ => id)) f hfb hLb q hqe hq2 x hx
  obtain ⟨L, hL⟩ : ∃ L, L = fnA l fs := ⟨_, rfl⟩
  rw [← hL] at hLb hKb
  simp only [← hL] at hFu hRu hN hSo
  obtain ⟨K, hK⟩ : ∃ K, K = L.length := ⟨_, rfl⟩
  rw [← hK] at hKb
  simp only [← hK] at hFu hRu
  have HK := Lib.hid hK
  have HFu := Lib.hid hFu
  have HRu := Lib.hid hRu
  have HNo := Lib.hid hN
  have HSo := Lib.hid hSo
  clear hFu hRu hN hSo hL hK hr hf ht HR HF
  go_enter Try.func3, Try.ntmps3
  go_wp2_with fail
  rw [← HE.out]
  refine (awake17 _).mono ?_
  rintro e w1 ⟨rfl, hs1⟩
  have HB1 := Lib.hid (HB.out.step hs1 id)
  have HS1 := Lib.hid (HS.out.trans hs1)
  have HV1 := Lib.hid hs1
  have hz1 := hs1.size
  clear hs1 HB HS HE
  have c0 := HB1.out.cell 0
  have c1 := HB1.out.cell 1
  have c2 := HB1.out.cell 2
  have c3 := HB1.out.cell 3
  have c4 := HB1.out.cell 4
  have c5 := HB1.out.cell 5
  have c6 := HB1.out.cell 6
  have c7 := HB1.out.cell 7
  have c8 := HB1.out.cell 8
  have c9 := HB1.out.cell 9
  have c10 := HB1.out.cell 10
  have c11 := HB1.out.cell 11
  have c12 := HB1.out.cell 12
  have c13 := HB1.out.cell 13
  have c14 := HB1.out.cell 14
  have c15 := HB1.out.cell 15
  have c16 := HB1.out.cell 16
  simp at c0 c1 c2 c3 c4 c5 c6 c7 c8 c9 c10 c11 c12 c13 c14 c15 c16
  have d0 := cls_cell (F := fun _ => False) (w0 := w1) c0 id
  have d1 := cls_cell (F := fun _ => False) (w0 := w1) c1 id
  have d2 := cls_cell (F := fun _ => False) (w0 := w1) c2 id
  have d3 := cls_cell (F := fun _ => False) (w0 := w1) c3 id
  have d4 := cls_cell (F := fun _ => False) (w0 := w1) c4 id
  have d5 := cls_cell (F := fun _ => False) (w0 := w1) c5 id
  have d6 := cls_cell (F := fun _ => False) (w0 := w1) c6 id
  have d7 := cls_cell (F := fun _ => False) (w0 := w1) c7 id
  have d8 := cls_cell (F := fun _ => False) (w0 := w1) c8 id
  have d9 := cls_cell (F := fun _ => False) (w0 := w1) c9 id
  have d10 := cls_cell (F := fun _ => False) (w0 := w1) c10 id
  have d11 := cls_cell (F := fun _ => False) (w0 := w1) c11 id
  have d12 := cls_cell (F := fun _ => False) (w0 := w1) c12 id
  have d13 := cls_cell (F := fun _ => False) (w0 := w1) c13 id
  have d14 := cls_cell (F := fun _ => False) (w0 := w1) c14 id
  have d15 := cls_cell (F := fun _ => False) (w0 := w1) c15 id
  have d16 := cls_cell (F := fun _ => False) (w0 := w1) c16 id
  have g1 : ¬ (100 : Int) < (n : Int) := by omega
  have g2 : decide ((100 : Int) < (n : Int)) = false := by simp; omega
  have g3 : ¬ (100 : Int) < (m : Int) := by omega
  have g4 : decide ((100 : Int) < (m : Int)) = false := by simp; omega
  go_wp2_with fail
  clear c0 c1 c2 c3 c4 c5 c6 c7 c8 c9 c10 c11 c12 c13 c14 c15 c16
  refine Mix.wp_region_mix [1, 3] [1, 3] (Step (fun _ => False) w1) (by kernel_rfl) (by kernel_rfl) Step.refl.drew (fun hcls => ?_)
  refine Mix.wpL_reads 1 (by rfl) ?_
  simp only [List.take_succ_cons, List.drop_succ_cons, List.take_zero, List.drop_zero]
  repeat (go_big_quiet_step (fail))
  refine wpQuiet_nil ?_
  refine Mix.wpL_op (by rfl) (fun K hK => ?_)
  go_simp
  refine (HFu.out _ HV1.out.drew).mono ?_
  rintro e wa ⟨D1, q1, rfl, hown1, hsa⟩
  have HA := Lib.hid ((Step.refl (F := fun _ => False) (w := w1)).drew.trans hsa)
  have HO1 := Lib.hid hown1
  refine hK _ _ (fun hlt => Mix.cl (HA.out)) ?_
  clear hK K
  clear hown1 hsa
  refine Mix.wpL_reads 1 (by rfl) ?_
  simp only [List.take_succ_cons, List.drop_succ_cons, List.take_zero, List.drop_zero]
  repeat (go_big_quiet_step (fail))
  refine wpQuiet_nil ?_
  refine Mix.wpL_op (by rfl) (fun K hK => ?_)
  go_simp
  refine (HRu.out wa (HV1.out.trans HA.out)).mono ?_
  rintro e wb ⟨D2, q2, rfl, hown2, hsb⟩
  have HBb := Lib.hid (HA.out.trans hsb)
  have HO2 := Lib.hid hown2
  have HO1b := Lib.hid (own_step HO1.out hsb (fun _ _ => id))
  refine hK _ _ (fun hlt => Mix.cl (HBb.out)) ?_
  clear hK K
  clear hown2 hsb HO1
  refine Mix.wpL_reads 2 (by rfl) ?_
  simp only [List.take_succ_cons, List.drop_succ_cons, List.take_zero, List.drop_zero]
  repeat (go_big_quiet_step (fail))
  refine wpQuiet_nil ?_
  refine Mix.wpL_end ?_
  go_wp2_with fail
  have HSb : Hid (Step (fun _ => False) v1 wb) := HV1.out.trans HBb.out
  have HMb := Lib.hid (HB1.out.step HBb.out id)
  have hwb := HSb.out.size
  have hwb2 := HA.out.size
  go_loopw [7] (fun iv wr => ∃ (i : Nat), i ≤ K ∧ iv = .int .i64 (i : Int) ∧ Hid (Step (fun _ => False) wb wr)) (fun iv _ => K + 1 - (intOf iv).toNat)
  case atStart => exact ⟨0, by omega, rfl, Step.refl⟩
  case round =>
    obtain ⟨i, hi, rfl, HSi⟩ := hrel
    by_cases hlt : i < K
    · as_aux_lemma =>
        have b1 : (i : Int) < (K : Int) := by omega
        have i0 : (0 : Int) ≤ (i : Int) := by omega
        have hw1 := IntWalk.i64_in ((i : Int) + 1) (by omega)
        obtain ⟨ba, rfl, _, _, hca, _⟩ := own_row (own_step HO1b.out HSi.out (fun _ _ => id)) (by omega)
        obtain ⟨bb, rfl, _, _, hcb, _⟩ := own_row (own_step HO2.out HSi.out (fun _ _ => id)) (by omega)
        have ca := hca i _ (u32s_get L i (by rw [← HK.out]; exact hlt))
        have cb := hcb i _ (u32s_get L i (by rw [← HK.out]; exact hlt))
        obtain ⟨q, hq⟩ : ∃ q, q = L[i]'(by rw [← HK.out]; exact hlt) := ⟨_, rfl⟩
        rw [← hq] at ca cb
        have hqq : ((q : Int) != (q : Int)) = false := by simp
        clear hca hcb hq
        go_wp2_with fail
        go_quiet (fail)
        go_wp2_with fail
        go_roundw
        case rel => exact ⟨i + 1, by omega, by rw [Int.natCast_add]; rfl, HSi.out.drewN _⟩
        case measure => simp [intOf]; omega
    · obtain rfl : i = K := by omega
      have HSr := Lib.hid (HSb.out.trans HSi.out)
      have HMr := Lib.hid (HMb.out.step HSi.out id)
      have HOr := Lib.hid (own_step HO2.out HSi.out (fun _ _ => id))
      have HTr := Lib.hid (HT.out.step HSr.out (fun _ _ => id))
      have c0 := HMr.out.cell 0
      have c1 := HMr.out.cell 1
      have c2 := HMr.out.cell 2
      have c3 := HMr.out.cell 3
      have c4 := HMr.out.cell 4
      have c5 := HMr.out.cell 5
      have c6 := HMr.out.cell 6
      have c7 := HMr.out.cell 7
      have c8 := HMr.out.cell 8
      have c9 := HMr.out.cell 9
      have c10 := HMr.out.cell 10
      have c11 := HMr.out.cell 11
      have c12 := HMr.out.cell 12
      have c13 := HMr.out.cell 13
      have c14 := HMr.out.cell 14
      have c15 := HMr.out.cell 15
      have c16 := HMr.out.cell 16
      simp at c0 c1 c2 c3 c4 c5 c6 c7 c8 c9 c10 c11 c12 c13 c14 c15 c16
      by_cases hok : okF L tn f
      · as_aux_lemma =>
          obtain ⟨hfl, hqt⟩ := hok
          obtain ⟨q, hq⟩ : ∃ q, q = L[f] := ⟨_, rfl⟩
          have hqe : L[f]? = some q := by rw [hq, List.getElem?_eq_getElem hfl]
          rw [← hq] at hqt
          have hql : q < ts.length := by rw [← HTn.out]; exact hqt
          have hqb := hLb q (List.mem_of_getElem? hqe)
          have hfi : f < i := by rw [HK.out]; exact hfl
          obtain ⟨x, hx⟩ : ∃ x, x = ts[q] := ⟨_, rfl⟩
          have hxe : ts[q]? = some x := by rw [hx, List.getElem?_eq_getElem hql]
          have HTO := Lib.hid (HSo.out wr HSr.out q hqe hqt x hxe)
          clear hq hxe hfl
          go_wp2_with fail
          refine HTO.out.mono ?_
          rintro e wt ⟨rfl, hst⟩
          clear c0 c1 c2 c3 c4 c5 c6 c7 c8 c9 c10 c11 c12 c13 c14 c15 c16
          have HVt : Hid (Blk (wt.alloc (.cells #[.string (str x.p), .string (str x.r)] 40)) wt.heap.size 40 #[.string (str x.p), .string (str x.r)]) := Blk.new wt _ _
          have HSt : Hid (Step (fun _ => False) wr (wt.alloc (.cells #[.string (str x.p), .string (str x.r)] 40))) := hst.alloc _
          have HMt := Lib.hid (HMr.out.step HSt.out id)
          have y0 := HVt.out.cell 0
          have y1 := HVt.out.cell 1
          have c0 := HMt.out.cell 0
          simp at y0 y1 c0
          have w1 := IntWalk.u64_in (f : Int) (by omega)
          have w2 := IntWalk.u64_in (i : Int) (by omega)
          have w3 := IntWalk.u64_in (tn : Int) (by omega)
          obtain ⟨bb, rfl, _, _, hcb, _⟩ := own_row (own_step HOr.out HSt.out (fun _ _ => id)) (by omega)
          have cb := hcb f (.int .u32 (q : Int)) (by simp [u32s, hqe])
          have w4 := IntWalk.u64_in (q : Int) (by omega)
          have g1 : decide ((i : Int) ≤ (f : Int)) = false := by simp; omega
          have g1n : decide (i ≤ f) = false := by simp; omega
          have g1' : ¬ (i : Int) ≤ (f : Int) := by omega
          have g3 : (f : Int) < (i : Int) := by omega
          have g4 : (0 : Int) ≤ (f : Int) := by omega
          obtain ⟨bt, oft, rfl, _, hbt, hct⟩ := reads_row Ft.cells 2 (by decide) Ft.two (HTr.out.step HSt.out (fun _ _ => id)) (k := q) hql
          rw [← hx] at hct
          have t0 := hct 0 _ rfl
          have t1 := hct 1 _ rfl
          simp only [Nat.add_zero] at t0
          have g2 : decide ((tn : Int) ≤ (q : Int)) = false := by simp; omega
          have g2n : decide (tn ≤ q) = false := by simp; omega
          have g2' : ¬ (tn : Int) ≤ (q : Int) := by omega
          have g5 : (q : Int) < (tn : Int) := by omega
          have g6 : (0 : Int) ≤ (q : Int) := by omega
          replace hqe := Lib.hid hqe
          clear hct hcb hx hql
          go_wp2_with fail
          go_quiet (fail)
          go_wp2_with fail
          go_quiet (fail)
          go_wp2_with fail
          go_ret
          exact ⟨rfl, ((HS1.out.trans (HBb.out.trans (HSi.out.trans HSt.out))).drewN _).drewN _⟩
      · as_aux_lemma =>
          have HTO := Lib.hid (HNo.out wr HSr.out hok)
          go_wp2_with fail
          refine HTO.out.mono ?_
          rintro e wt ⟨rfl, hst⟩
          clear c0 c1 c2 c3 c4 c5 c6 c7 c8 c9 c10 c11 c12 c13 c14 c15 c16
          have HVt : Hid (Blk (wt.alloc (.cells #[.string { data := #[] }, .string { data := #[] }] 40)) wt.heap.size 40 #[.string { data := #[] }, .string { data := #[] }]) := Blk.new wt _ _
          have HSt : Hid (Step (fun _ => False) wr (wt.alloc (.cells #[.string { data := #[] }, .string { data := #[] }] 40))) := hst.alloc _
          have HMt := Lib.hid (HMr.out.step HSt.out id)
          have y0 := HVt.out.cell 0
          have y1 := HVt.out.cell 1
          have c0 := HMt.out.cell 0
          simp at y0 y1 c0
          have w1 := IntWalk.u64_in (f : Int) (by omega)
          have w2 := IntWalk.u64_in (i : Int) (by omega)
          have w3 := IntWalk.u64_in (tn : Int) (by omega)
          by_cases hfi : f < i
          · have hfl : f < L.length := by rw [← HK.out]; exact hfi
            obtain ⟨q, hq⟩ : ∃ q, q = L[f] := ⟨_, rfl⟩
            have hqe : L[f]? = some q := by rw [hq, List.getElem?_eq_getElem hfl]
            have hqt : ¬ q < tn := fun h => hok ⟨hfl, by rw [← hq]; exact h⟩
            have hqb := hLb q (List.mem_of_getElem? hqe)
            obtain ⟨bb, rfl, _, _, hcb, _⟩ := own_row (own_step HOr.out HSt.out (fun _ _ => id)) (by omega)
            have cb := hcb f (.int .u32 (q : Int)) (by simp [u32s, hqe])
            have w4 := IntWalk.u64_in (q : Int) (by omega)
            have g1 : decide ((i : Int) ≤ (f : Int)) = false := by simp; omega
            have g1n : decide (i ≤ f) = false := by simp; omega
            have g1' : ¬ (i : Int) ≤ (f : Int) := by omega
            have g3 : (f : Int) < (i : Int) := by omega
            have g4 : (0 : Int) ≤ (f : Int) := by omega
            have g2 : decide ((tn : Int) ≤ (q : Int)) = true := by simp; omega
            have g2n : decide (tn ≤ q) = true := by simp; omega
            have g2' : (tn : Int) ≤ (q : Int) := by omega
            replace hqe := Lib.hid hqe
            replace hok := Lib.hid hok
            clear hcb hq
            go_wp2_with fail
            go_quiet (fail)
            go_wp2_with fail
            go_ret
            exact ⟨rfl, (HS1.out.trans (HBb.out.trans (HSi.out.trans HSt.out))).drewN _⟩
          · have g1 : decide ((i : Int) ≤ (f : Int)) = true := by simp; omega
            have g1n : decide (i ≤ f) = true := by simp; omega
            have g1' : (i : Int) ≤ (f : Int) := by omega
            replace hok := Lib.hid hok
            go_wp2_with fail
            go_quiet (fail)
            go_wp2_with fail
            go_ret
            exact ⟨rfl, (HS1.out.trans (HBb.out.trans (HSi.out.trans HSt.out))).drewN _⟩
end Go.Proofs.Yteibigianodhnaa
