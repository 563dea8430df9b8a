/-
  CtrlPlays: the law's walk.
-/
import Derived.Test.YtfechgpdlabgaaaCtlM
set_option linter.unusedVariables false
set_option linter.unusedSimpArgs false
namespace Go.Proofs.Ytfechgpdlabgaaa
open Go.RowKit
theorem COp.four (o : COp) : o.cells.length = 4 := rfl
def cops (l : List COp) : List Value := l.flatMap COp.cells

set_option maxRecDepth 100000 in
set_option maxHeartbeats 4000000 in
theorem ctl_body (w : World) (r : List UInt8) (A : Option Addr) (cc : Nat) (ops : List COp) (hv : Reads w (fun k => k < w.heap.size) 4 A ops.length (cops ops)) (hc : ops.length ≤ cc) (hc2 : cc ≤ 9223372036854775807) (h64 : ∀ o ∈ ops, o.n < 18446744073709551616)
    (h60 : ¬ (60 : Int) < ops.length) (h20 : ¬ (20 : Int) < (r.length : Int)) :
    Calls Try.prog 12 #[.string (str r), .slice A ops.length cc] w fun e w' => e = .returned (.bool true) ∧ Below w.heap.size w w' := by
  have hzr := str_size r
  have H64 := Lib.hid h64
  clear h64
  go_enter Try.func12, Try.ntmps12
  go_wp2_with fail
  refine (awake22 w).mono ?_
  rintro e w0 ⟨rfl, b0⟩
  go_wp2_with fail
  refine (ctl_new w0 r).mono ?_
  rintro e w1 ⟨g, gs, I, rfl, hcl, s1, hI⟩
  have hst0 : Sta (w1.alloc (.cells #[.int .i64 0, .string (str r), .string ⟨#[]⟩, .bool false] 104)) I (fun k => k = w1.heap.size) g gs (some ⟨w1.heap.size, 0, none⟩) 1 [⟨0, r, [], false⟩] :=
    ⟨hcl.quiet (Step.alloc Step.refl _), reads_new w1 _ _ 4 1 rfl, fun k hk hi => by have := hcl.in_ k hi; omega, fun k hk => by rw [hk]; simp, Nat.le_refl _⟩
  have hup0 : Upd w (fun _ => False) I (w1.alloc (.cells #[.int .i64 0, .string (str r), .string ⟨#[]⟩, .bool false] 104)) :=
    ⟨Step.alloc ((Step.ofBelow b0).trans s1) _, fun k hk => .inr (Nat.le_trans b0.size (hI k hk))⟩
  have hj0 : ∀ k, k = w1.heap.size → w.heap.size ≤ k := fun k hk => by rw [hk]; exact Nat.le_trans b0.size s1.size
  have hgood0 : Good [⟨0, r, [], false⟩] := fun b hb => by
    rw [List.mem_singleton] at hb
    subst hb
    exact ⟨by simp, by simp, by simp only; omega⟩
  clear hcl s1 hI b0
  go_wp2_with fail
  go_loopw [6, 7] (fun v i wr => ∃ (k : Nat) (A1 : Option Addr) (c1 : Nat) (I1 J1 : Nat → Prop) (l1 : List Bk), k ≤ ops.length ∧ v = .slice A1 l1.length c1 ∧ i = .int .i64 (k : Int) ∧ Sta wr I1 J1 g gs A1 c1 l1 ∧ Upd w (fun _ => False) I1 wr ∧ (∀ k, J1 k → w.heap.size ≤ k) ∧ l1.length ≤ 1 + k ∧ (allOwn l1).length ≤ k ∧ Good l1) (fun _ i _ => ops.length - (intOf i).toNat)
  case atStart => exact ⟨0, _, _, I, _, _, Nat.zero_le _, rfl, rfl, hst0, hup0, hj0, by simp, by simp [allOwn], hgood0⟩
  case round =>
    obtain ⟨k, A1, c1, I1, J1, l1, hk, rfl, rfl, HS1, hu1, hj1, hl1, ha1, hg1⟩ := hrel
    clear hst0 hup0 hj0 hgood0
    by_cases hlt : k < ops.length
    · obtain ⟨bb, off, rfl, _, hbl, hcells⟩ := reads_cells COp.cells 4 (by decide) COp.four (hv.step (F := fun k => w.heap.size ≤ k) (hu1.1.mono fun _ _ h => h.elim) (fun k hk h => by omega)) hlt
      have c0 := hcells 0 _ rfl
      have c1' := hcells 1 _ rfl
      have c2' := hcells 2 _ rfl
      have c3' := hcells 3 _ rfl
      clear hcells
      rw [Nat.add_zero] at c0
      have i0 : (0 : Int) ≤ (k : Int) := by omega
      have i1 : (k : Int) < (ops.length : Int) := by omega
      have hss := str_size (ops[k]).s
      have hn64 := H64.out ops[k] (List.getElem_mem hlt)
      generalize hok : ops[k] = o at c0 c1' c2' c3' hss hn64
      clear hok
      by_cases h50 : (20 : Int) < (o.s.length : Int)
      · go_wp2_with fail
        go_ret
        exact ⟨rfl, hu1.below (fun _ h => h.elim) (Nat.le_refl _)⟩
      obtain ⟨l2, hdo, hl2, ha2, hg2⟩ := cdo_any o HS1 (by omega) (by omega) hg1 (by omega) hn64
      have HDO := Lib.hid hdo
      have HU1 := Lib.hid hu1
      have HS1' := Lib.hid HS1
      clear hdo hu1 HS1
      unfold COp.val at HDO
      go_wp2_with fail
      refine HDO.out.mono ?_
      rintro e w2 ⟨A2, c2, I2, J2, rfl, hs2, u2, hj2⟩
      have hp2 := hs2.ctl.ptr
      obtain ⟨Is, hst, _⟩ := hs2.ctl.stk
      have HST := Lib.hid hst
      have HU2 := Lib.hid (HU1.out.trans u2)
      have hJn : ∀ k, J2 k → w.heap.size ≤ k := fun k hk => by
        rcases hj2 k hk with h | h
        · exact hj1 k h
        · exact Nat.le_trans HU1.out.1.size h
      have HS := Lib.hid hs2
      have hlf := fsOf_length l2 0
      have hza := str_size (allOwn l2)
      have e2 := cls_cell (F := fun _ => False) hp2 id
      clear hst hs2 u2 hj2 hj1 HDO HS1' c0 c1' c2' c3' hp2
      go_wp2_with fail
      refine Mxt.wp_region_tree [4, 14, 15, 17] [4, 14, 15, 17] (.reads [0, 1, 2, 3] (.op 4 (.reads [5, 6, 7, 8, 9, 10, 11, 12, 13] (.op 14 (.reads [16] (.fork (.op 15 (.op 17 (.reads [18, 19] .leaf))) (.op 17 (.op 15 (.reads [18, 19] .leaf))))))))) (Step (fun _ => False) w2) (by kernel_rfl) (by kernel_rfl) Step.refl.drew (fun hcls => ?_)
      refine Mxt.wpTL_reads ?_
      simp only [List.flatMap_cons, List.flatMap_nil, List.getElem?_cons_succ, List.getElem?_cons_zero, Option.toList_some, List.cons_append, List.nil_append]
      repeat (go_big_quiet_step (fail))
      refine wpQuiet_nil ?_
      refine Mxt.wpTL_op (by rfl) (fun K hK => ?_)
      go_simp
      refine (ctl_depth (HS.out.ctl.quiet Step.refl.drew)).mono ?_
      rintro e w3 ⟨rfl, rfl⟩
      refine hK _ _ (fun hlt => Mix.cl (Step.refl.drew)) ?_
      clear hK K
      refine Mxt.wpTL_reads ?_
      simp only [List.flatMap_cons, List.flatMap_nil, List.getElem?_cons_succ, List.getElem?_cons_zero, Option.toList_some, List.cons_append, List.nil_append]
      repeat (go_big_quiet_step (fail))
      refine wpQuiet_nil ?_
      refine Mxt.wpTL_op (by rfl) (fun K hK => ?_)
      go_simp
      refine (stkR_list (HST.out.quiet Step.refl.drew) (by omega)).mono ?_
      rintro e w5 ⟨A5, c5, rfl, ho5, s5⟩
      refine hK _ _ (fun hlt => Mix.cl (Step.trans Step.refl.drew s5)) ?_
      clear hK K
      refine Mxt.wpTL_reads ?_
      simp only [List.flatMap_cons, List.flatMap_nil, List.getElem?_cons_succ, List.getElem?_cons_zero, Option.toList_some, List.cons_append, List.nil_append]
      repeat (go_big_quiet_step (fail))
      refine wpQuiet_nil ?_
      have hcv := run_conv_bytes (P := Try.prog) w5 46 9 5 Try.underlying46 Try.underlying5 Try.underlying9 (c := c5) (Reads.of_own ho5)
      have HALL := r22_all (c := c2) ([] : List UInt8) (HS.out.row.step (Step.trans Step.refl.drew s5) (fun _ _ => id)) (by omega) (by omega) (by simp)
      rw [List.append_nil] at HALL
      have hemp : (str ([] : List UInt8)) = ⟨#[]⟩ := rfl
      rw [hemp] at HALL
      have HS5 := Lib.hid (HS.out.box (Step.trans Step.refl.drew s5))
      have HU5 := Lib.hid ((HU2.out.drew).quiet s5)
      have hw5 : Step (fun _ => False) w2 w5 := Step.trans Step.refl.drew s5
      clear ho5 s5
      refine Mxt.fork_cut (X := ?X) ?h1 ?h2 ?hx
      case h1 =>
        intro hX
        refine Mxt.wpTL_op (by rfl) (fun K hK => ?_)
        go_simp
        refine hK _ _ (fun hlt => Mix.cl (hw5)) ?_
        clear hK K
        refine Mxt.wpTL_op (by rfl) (fun K hK => ?_)
        go_simp
        refine (HALL).mono ?_
        rintro e w6 ⟨rfl, hw6⟩
        obtain rfl : w5 = w6 := hw6.symm
        refine hK _ _ (fun hlt => Mix.cl (hw5)) ?_
        clear hK K
        refine Mxt.wpTL_reads ?_
        simp only [List.flatMap_cons, List.flatMap_nil, List.getElem?_cons_succ, List.getElem?_cons_zero, Option.toList_some, List.cons_append, List.nil_append]
        repeat (go_big_quiet_step (fail))
        refine wpQuiet_nil ?_
        refine Mxt.wpTL_leaf ?_
        exact hX
      case h2 =>
        intro hX
        refine Mxt.wpTL_op (by rfl) (fun K hK => ?_)
        go_simp
        refine (HALL).mono ?_
        rintro e w6 ⟨rfl, hw6⟩
        obtain rfl : w5 = w6 := hw6.symm
        refine hK _ _ (fun hlt => Mix.cl (hw5)) ?_
        clear hK K
        refine Mxt.wpTL_op (by rfl) (fun K hK => ?_)
        go_simp
        refine hK _ _ (fun hlt => Mix.cl (hw5)) ?_
        clear hK K
        refine Mxt.wpTL_reads ?_
        simp only [List.flatMap_cons, List.flatMap_nil, List.getElem?_cons_succ, List.getElem?_cons_zero, Option.toList_some, List.cons_append, List.nil_append]
        repeat (go_big_quiet_step (fail))
        refine wpQuiet_nil ?_
        refine Mxt.wpTL_leaf ?_
        exact hX
      clear hcv HALL hw5
      rcases l2.eq_nil_or_concat with hl2e | ⟨pre, b, hl2e⟩
      · subst hl2e
        have HC0 : Ctl w5 I2 g gs (allOwn []) [] := HS5.out.ctl
        go_wp2_with fail
        refine (ctl_top_none HC0).mono ?_
        rintro e w7 ⟨rfl, s7⟩
        go_wp2_with fail
        go_quiet (fail)
        go_wp2_with fail
        go_roundw
        case rel => exact ⟨k + 1, A2, c2, I2, J2, [], by omega, rfl, by go_num, HS5.out.box (Step.drewN (Step.alloc s7 _) _), HU5.out.quiet (Step.drewN (Step.alloc s7 _) _), hJn, by simp, by simp [allOwn], hg2⟩
        case measure => simp [intOf]; omega
      · rw [List.concat_eq_append] at hl2e
        have hpos : 0 < l2.length := by rw [hl2e]; simp
        have HTOP : Hid ((fsOf 0 l2)[(fsOf 0 l2).length - 1]? = some ⟨b.op, b.res, (allOwn pre).length, b.dead⟩) := by unfold Hid; rw [hl2e]; exact fsOf_top pre b
        have HBE : Hid (l2[l2.length - 1]'(by omega) = b) := by
          unfold Hid
          subst hl2e
          simp
        have HTK : Hid (l2.take (l2.length - 1) = pre) := by unfold Hid; rw [hl2e]; simp
        have i2 : (0 : Int) < (l2.length : Int) := by omega
        have i3 : (0 : Int) ≤ (l2.length : Int) - 1 := by omega
        have i4 : (l2.length : Int) - 1 < (l2.length : Int) := by omega
        have hwl := IntWalk.i64_in ((l2.length : Int) - 1) (by omega)
        have htl : ((l2.length : Int) - 1).toNat = l2.length - 1 := by omega
        clear hl2e
        go_wp2_with fail
        refine (ctl_top _ HS5.out.ctl (by rw [fsOf_length]; omega) HTOP.out).mono ?_
        rintro e w7 ⟨rfl, s7⟩
        unfold Fr.val
        go_wp2_with fail
        have hs7 : Step (fun _ => False) w5 (w7.alloc (.cells #[.int .u8 b.op, .string (str b.res), .int .i64 ((allOwn pre).length : Int), .bool b.dead] 98)) := Step.alloc s7 _
        have bF := Blk.new w7 98 #[.int .u8 b.op, .string (str b.res), .int .i64 ((allOwn pre).length : Int), .bool b.dead]
        generalize w7.alloc (.cells #[.int .u8 b.op, .string (str b.res), .int .i64 ((allOwn pre).length : Int), .bool b.dead] 98) = V at *
        have v1 := bF.cell 1
        have v2 := bF.cell 2
        have v3 := bF.cell 3
        simp at v1 v2 v3
        have HS7 := Lib.hid (HS5.out.box hs7)
        have HU7 := Lib.hid (HU5.out.quiet hs7)
        obtain ⟨gq, oq, rfl, _, hbq, hcq⟩ := reads_cells Bk.cells 4 (by decide) Bk.four HS7.out.row (k := l2.length - 1) (by omega)
        rw [HBE.out] at hcq
        have q1 := hcq 1 _ rfl
        have q3 := hcq 3 _ rfl
        have d1 := cls_cell (F := fun _ => False) v1 id
        have d2 := cls_cell (F := fun _ => False) v2 id
        have d3 := cls_cell (F := fun _ => False) v3 id
        have d4 := cls_cell (F := fun _ => False) q1 id
        have d5 := cls_cell (F := fun _ => False) q3 id
        have HBEL := r22_below (c := c2) (HS7.out.row.step (F := fun _ => False) Step.refl.drew (fun _ _ => id)) (by omega) (by omega)
        rw [HTK.out] at HBEL
        clear hcq bF v1 v2 v3 q1 q3 s7 hs7
        refine Mxt.wp_region_tree [11] [11] (.reads [0, 1, 2, 3, 4, 5, 6, 7, 8, 9, 10] (.op 11 (.reads [12, 13, 14, 15, 16, 17, 18, 19, 20, 21, 22, 23, 24, 25, 26, 27, 28, 29, 30, 31, 32, 33, 34, 35, 36, 37, 38] .leaf))) (Step (fun _ => False) V) (by kernel_rfl) (by kernel_rfl) Step.refl.drew (fun hcls => ?_)
        refine Mxt.wpTL_reads ?_
        simp only [List.flatMap_cons, List.flatMap_nil, List.getElem?_cons_succ, List.getElem?_cons_zero, Option.toList_some, List.cons_append, List.nil_append]
        repeat (go_big_quiet_step (fail))
        refine wpQuiet_nil ?_
        refine Mxt.wpTL_op (by rfl) (fun K hK => ?_)
        go_simp
        refine (HBEL).mono ?_
        rintro e w8 ⟨rfl, rfl⟩
        refine hK _ _ (fun hlt => Mix.cl (Step.refl.drew)) ?_
        clear hK K
        refine Mxt.wpTL_reads ?_
        simp only [List.flatMap_cons, List.flatMap_nil, List.getElem?_cons_succ, List.getElem?_cons_zero, Option.toList_some, List.cons_append, List.nil_append]
        repeat (go_big_quiet_step (fail))
        refine wpQuiet_nil ?_
        refine Mxt.wpTL_leaf ?_
        clear d1 d2 d3 d4 d5 HBEL
        go_wp2_with fail
        go_roundw
        case rel => exact ⟨k + 1, some ⟨gq, oq, none⟩, c2, I2, J2, l2, by omega, rfl, by go_num, HS7.out.box Step.refl.drew, HU7.out.drew, hJn, by omega, by omega, hg2⟩
        case measure => simp [intOf]; omega
    · obtain rfl : k = ops.length := by omega
      go_wp2_with fail
      go_ret
      exact ⟨rfl, hu1.below (fun _ h => h.elim) (Nat.le_refl _)⟩
end Go.Proofs.Ytfechgpdlabgaaa
