/-
  CtrlPlays: 'do': Push.
-/
import Derived.Test.YtfechgpdlabgaaaCtlJ
set_option linter.unusedVariables false
set_option linter.unusedSimpArgs false
namespace Go.Proofs.Ytfechgpdlabgaaa
open Go.RowKit
section
variable {w : World} {I J : Nat → Prop} {g gs c : Nat} {A : Option Addr} {l pre : List Bk} {b : Bk} {t : UInt8} {s : List UInt8} {n : Nat}

set_option maxRecDepth 100000 in
set_option maxHeartbeats 1600000 in
theorem cdo_0n (k : Int) (q1 : (k == 1) = false) (q2 : (k == 2) = false) (q3 : (k == 3) = false) (q4 : (k == 4) = false) (q5 : (k == 5) = false) (q6 : (k == 6) = false) (q7 : (k == 7) = false) (H : Sta w I J g gs A c []) : Calls Try.prog 57 #[.pointer (some ⟨g, 0, none⟩), .slice A 0 c, .agg #[.int .i64 k, .int .u8 (t.toNat : Int), .string (str s), .int .u64 (n : Int)]] w (CDo w I J g gs []) := by
  have s1 : Step (fun _ => False) w (w.alloc (.cells #[.int .i64 k, .int .u8 (t.toNat : Int), .string (str s), .int .u64 (n : Int)] 107)) := Step.refl.alloc _
  have b1 : Blk (w.alloc (.cells #[.int .i64 k, .int .u8 (t.toNat : Int), .string (str s), .int .u64 (n : Int)] 107)) w.heap.size 107 #[.int .i64 k, .int .u8 (t.toNat : Int), .string (str s), .int .u64 (n : Int)] := Blk.new w _ _
  have HH := Lib.hid (H.box s1)
  have hbi : ¬ I w.heap.size := fun hk => by have := H.ctl.in_ _ hk; omega
  have hbl : w.heap.size < (w.alloc (.cells #[.int .i64 k, .int .u8 (t.toNat : Int), .string (str s), .int .u64 (n : Int)] 107)).heap.size := by simp
  have S1 := Lib.hid s1
  have HB1 := Lib.hid b1
  clear s1 b1
  have HC0 := Lib.hid (show Ctl (w.alloc (.cells #[.int .i64 k, .int .u8 (t.toNat : Int), .string (str s), .int .u64 (n : Int)] 107)) I g gs [] [] from HH.out.ctl)
  have HO := Lib.hid (fun w' (hs : Step (fun _ => False) (w.alloc (.cells #[.int .i64 k, .int .u8 (t.toNat : Int), .string (str s), .int .u64 (n : Int)] 107)) w') => CDo.after (J := J) S1.out (cdo_old (l := []) HH.out (Upd.quiet Upd.refl hs) (HC0.out.quiet hs)))
  clear H
  go_enter Try.func57, Try.ntmps57
  go_wp2_with fail
  go_ret2
  exact HO.out _ Step.refl

set_option maxRecDepth 100000 in
set_option maxHeartbeats 1600000 in
theorem cdo_0 (k : Int) (q1 : (k == 1) = false) (q2 : (k == 2) = false) (q3 : (k == 3) = false) (q4 : (k == 4) = false) (q5 : (k == 5) = false) (q6 : (k == 6) = false) (q7 : (k == 7) = false) (hl : l = pre ++ [b]) (H : Sta w I J g gs A c l) (hz : l.length ≤ 1000) (hn : (allOwn l).length ≤ 100000) :
    Calls Try.prog 57 #[.pointer (some ⟨g, 0, none⟩), .slice A l.length c, .agg #[.int .i64 k, .int .u8 (t.toNat : Int), .string (str s), .int .u64 (n : Int)]] w (CDo w I J g gs (pre ++ [{ b with own := b.own ++ [t] }])) := by
  have s1 : Step (fun _ => False) w (w.alloc (.cells #[.int .i64 k, .int .u8 (t.toNat : Int), .string (str s), .int .u64 (n : Int)] 107)) := Step.refl.alloc _
  have b1 : Blk (w.alloc (.cells #[.int .i64 k, .int .u8 (t.toNat : Int), .string (str s), .int .u64 (n : Int)] 107)) w.heap.size 107 #[.int .i64 k, .int .u8 (t.toNat : Int), .string (str s), .int .u64 (n : Int)] := Blk.new w _ _
  have HH := Lib.hid (H.box s1)
  have hbi : ¬ I w.heap.size := fun hk => by have := H.ctl.in_ _ hk; omega
  have hbl : w.heap.size < (w.alloc (.cells #[.int .i64 k, .int .u8 (t.toNat : Int), .string (str s), .int .u64 (n : Int)] 107)).heap.size := by simp
  have S1 := Lib.hid s1
  have HB1 := Lib.hid b1
  clear s1 b1
  have HL := Lib.hid hl
  have htop : (fsOf 0 l)[(fsOf 0 l).length - 1]? = some ⟨b.op, b.res, (allOwn pre).length, b.dead⟩ := by rw [hl]; exact fsOf_top pre b
  have hlb : l[l.length - 1]? = some b := by rw [hl]; simp
  have hal : allOwn l = allOwn pre ++ b.own := by rw [hl, allOwn_last]
  have hpl : pre.length = l.length - 1 := by rw [hl]; simp
  have HTK : Hid (l.take (l.length - 1) = pre) := by unfold Hid; rw [hl]; simp
  have HA : Hid (allOwn (pre ++ [{ b with own := b.own ++ [t] }]) = allOwn l ++ [t]) := by unfold Hid; rw [allOwn_last, hal, List.append_assoc]
  have HF : Hid (fsOf 0 (pre ++ [{ b with own := b.own ++ [t] }]) = fsOf 0 l) := by unfold Hid; rw [hl, fsOf_last, fsOf_last]
  have hbo : b.own.length ≤ 100000 := by rw [hal] at hn; simp at hn; omega
  have HLL : Hid ((pre ++ [{ b with own := b.own ++ [t] }]).length = l.length - 1 + 1) := by unfold Hid; rw [List.length_append, hpl]; rfl
  have HPL := Lib.hid hpl
  have hone1 := bks_one pre
  have hone2 := bk_one b.op (str b.res) (str (b.own ++ [t])) b.dead
  have hm1 : 0 + (l.length - 1) ≤ maxLen := by unfold maxLen; omega
  have hm2 : l.length - 1 + 1 ≤ maxLen := by unfold maxLen; omega
  have n0 : ((l.length : Int) == 0) = false := beq_eq_false_iff_ne.2 (by rw [hl]; simp; omega)
  have e1 := HH.out.ctl.ptr
  have e2 : (w.alloc (.cells #[.int .i64 k, .int .u8 (t.toNat : Int), .string (str s), .int .u64 (n : Int)] 107)).cell? ⟨w.heap.size, 1, none⟩ = some (.int .u8 (t.toNat : Int)) := HB1.out.cell 1
  obtain ⟨Is, hst, hback⟩ := HH.out.ctl.stk
  have HST := Lib.hid hst
  have HBK := Lib.hid hback
  have hg1 : g < (w.alloc (.cells #[.int .i64 k, .int .u8 (t.toNat : Int), .string (str s), .int .u64 (n : Int)] 107)).heap.size := HH.out.ctl.in_ g HH.out.ctl.self
  have hz1 := str_size b.own
  have hz2 : (str [t]).size = 1 := rfl
  have hap := str_append b.own [t]
  clear hl H htop hal hpl hst hback
  go_enter Try.func57, Try.ntmps57
  go_wp2_with fail
  generalize hNN : w.heap.size = NN at *
  generalize (w.alloc (.cells #[.int .i64 k, .int .u8 (t.toNat : Int), .string (str s), .int .u64 (n : Int)] 107)) = V1 at *
  have d1 := cls_cell (F := fun _ => False) e1 id
  have d2 := cls_cell (F := fun _ => False) e2 id
  refine Mix.wp_region_mix [6] [] (Step (fun _ => False) V1) (by kernel_rfl) (by kernel_rfl) Step.refl.drew (fun hcls => ?_)
  refine Mix.wpL_reads 6 (by rfl) ?_
  simp only [List.take_succ_cons, List.drop_succ_cons, List.take_zero, List.drop_zero]
  repeat (go_big_quiet_step (fail))
  refine wpQuiet_nil ?_
  refine Mix.wpL_op (by rfl) (fun K hK => ?_)
  go_simp
  refine (stkR_push t (HST.out.quiet Step.refl.drew) (by omega)).mono ?_
  rintro e w2 ⟨rfl, hup⟩
  refine hK _ _ (fun hlt => absurd hlt (by decide)) ?_
  clear hK K
  refine Mix.wpL_end ?_
  clear d1 d2 e1
  have hup2 := HBK.out _ _ (by
    obtain ⟨I', h1, h2⟩ := hup
    exact ⟨I', h1, Upd.after Step.refl.drew h2⟩)
  obtain ⟨I2, h2c, u2⟩ := hup2
  have h2 := h2c
  clear h2c hup
  subst hNN
  have b2 := HB1.out.step u2.1 hbi
  have c1 := b2.cell 1
  simp at c1
  have HU2 := Lib.hid (Upd.after S1.out u2)
  have HC2 := Lib.hid h2
  have HRO := Lib.hid (HH.out.row.step u2.1 HH.out.far)
  have hbl2 := b2.lt
  clear b2 u2 h2
  have hpos : l.length - 1 < l.length := (List.getElem?_eq_some_iff.1 hlb).1
  have hbe : l[l.length - 1] = b := (List.getElem?_eq_some_iff.1 hlb).2
  obtain ⟨gb, off, rfl, _, hbb, hcb⟩ := reads_cells Bk.cells 4 (by decide) Bk.four HRO.out hpos
  rw [hbe] at hcb
  have k0 := hcb 0 _ rfl
  have k1 := hcb 1 _ rfl
  have k2 := hcb 2 _ rfl
  have k3 := hcb 3 _ rfl
  rw [Nat.add_zero] at k0
  have i0 : (0 : Int) ≤ (l.length : Int) - 1 := by omega
  have i1 : (l.length : Int) - 1 < (l.length : Int) := by omega
  have i2 : (l.length : Int) - 1 ≤ (c : Int) := by have := HH.out.cap; omega
  have hwr := IntWalk.i64_in ((l.length : Int) - 1) (by omega)
  have htn : ((l.length : Int) - 1).toNat = l.length - 1 := by omega
  have sh := slice_hn E_bk (some ⟨gb, off, none⟩) l.length c .i64 ((l.length : Int) - 1) (l.length - 1) (by omega) (by have := HH.out.cap; omega)
  clear hcb hbe
  have hsrc0 := HRO.out.take (k := l.length - 1) (by omega)
  rw [bks_take, HTK.out] at hsrc0
  have hcv := run_conv_bytes (P := Try.prog) ((w2.alloc (.cells #[.int .i64 b.op, .string (str b.res), .string (str b.own), .bool b.dead] 104)).alloc (.cells #[.int .u8 (t.toNat : Int)] 5)) 46 9 5 Try.underlying46 Try.underlying5 Try.underlying9 (c := 1) (l := [t]) (reads_new (w2.alloc (.cells #[.int .i64 b.op, .string (str b.res), .string (str b.own), .bool b.dead] 104)) #[.int .u8 (t.toNat : Int)] 5 1 1 rfl)
  have hzz : (w2.alloc (.cells #[.int .i64 b.op, .string (str b.res), .string (str b.own), .bool b.dead] 104)).heap.size = w2.heap.size + 1 := by simp
  rw [hzz] at hcv
  go_wp2_with fail
  have hsrc := hsrc0.step (F := fun _ => False) (Step.alloc (Step.alloc Step.refl (.cells #[.int .i64 b.op, .string (str b.res), .string (str (b.own ++ [t])), .bool b.dead] 104)) (.cells #[.int .u8 (t.toNat : Int)] 5)) (fun _ _ => id)
  have bV : Blk ((w2.alloc (.cells #[.int .i64 b.op, .string (str b.res), .string (str (b.own ++ [t])), .bool b.dead] 104)).alloc (.cells #[.int .u8 (t.toNat : Int)] 5)) w2.heap.size 104 #[.int .i64 b.op, .string (str b.res), .string (str (b.own ++ [t])), .bool b.dead] := (Blk.new w2 _ _).alloc _
  have HSV : Hid (Step (fun _ => False) w2 ((w2.alloc (.cells #[.int .i64 b.op, .string (str b.res), .string (str (b.own ++ [t])), .bool b.dead] 104)).alloc (.cells #[.int .u8 (t.toNat : Int)] 5))) := Step.alloc (Step.alloc Step.refl _) _
  clear hcv
  generalize (w2.alloc (.cells #[.int .i64 b.op, .string (str b.res), .string (str (b.own ++ [t])), .bool b.dead] 104)).alloc (.cells #[.int .u8 (t.toNat : Int)] 5) = V at *
  have v0 := bV.cell 0
  have v1 := bV.cell 1
  have v2 := bV.cell 2
  have v3 := bV.cell 3
  simp at v0 v1 v2 v3
  have d0 := cls_cell (F := fun _ => False) v0 id
  have d1 := cls_cell (F := fun _ => False) v1 id
  have d2 := cls_cell (F := fun _ => False) v2 id
  have d3 := cls_cell (F := fun _ => False) v3 id
  have CTL : Hid (∀ A' c' W, BkNew V A' c' (pre ++ [{ b with own := b.own ++ [t] }]) W → CDo w I J g gs (pre ++ [{ b with own := b.own ++ [t] }]) (.returned (.tuple #[.slice A' (pre ++ [{ b with own := b.own ++ [t] }]).length c', .bool true])) W) := fun A' c' W h =>
    cdo_new (HU2.out.quiet HSV.out) (by rw [HA.out, HF.out]; exact HC2.out.quiet HSV.out) h
  clear v0 v1 v2 v3 bV hsrc0 k0 k1 k2 k3 HRO hap
  have hz1 : (V.alloc (.cells #[.int .i64 b.op, .string (str b.res), .string (str (b.own ++ [t])), .bool b.dead] 104)).heap.size = V.heap.size + 1 := by simp
  have hz0 : (V.alloc (.cells #[] 104)).heap.size = V.heap.size + 1 := by simp
  have hfA : (V.alloc (.cells #[] 104)).drew.ownsRow V.heap.size 104 4 (.slice (some ⟨V.heap.size, 0, none⟩) 0 0) 0 [] := own_drew (own_fresh 4 (Nat.le_refl _))
  have hrA := hsrc.step (F := fun _ => False) (Step.drew (Step.alloc Step.refl (.cells #[] 104))) (fun _ _ => id)
  have hfB : ((V.alloc (.cells #[] 104)).alloc (.cells #[.int .i64 b.op, .string (str b.res), .string (str (b.own ++ [t])), .bool b.dead] 104)).drew.ownsRow V.heap.size 104 4 (.slice (some ⟨V.heap.size, 0, none⟩) 0 0) 0 [] := own_drew ((own_fresh 4 (Nat.le_refl _)).alloc _)
  have hrB := hsrc.step (F := fun _ => False) (Step.drew (Step.alloc (Step.alloc Step.refl (.cells #[] 104)) (.cells #[.int .i64 b.op, .string (str b.res), .string (str (b.own ++ [t])), .bool b.dead] 104))) (fun _ _ => id)
  have hxB := (reads_new (V.alloc (.cells #[] 104)) #[.int .i64 b.op, .string (str b.res), .string (str (b.own ++ [t])), .bool b.dead] 104 4 1 rfl).drew
  have hfC : ((V.alloc (.cells #[.int .i64 b.op, .string (str b.res), .string (str (b.own ++ [t])), .bool b.dead] 104)).alloc (.cells #[] 104)).drew.ownsRow V.heap.size 104 4 (.slice (some ⟨V.heap.size + 1, 0, none⟩) 0 0) 0 [] := by
    have := own_drew (own_fresh (w := V.alloc (.cells #[.int .i64 b.op, .string (str b.res), .string (str (b.own ++ [t])), .bool b.dead] 104)) (e := 104) (base := V.heap.size) 4 (by omega))
    rwa [hz1] at this
  have hrC := hsrc.step (F := fun _ => False) (Step.drew (Step.alloc (Step.alloc Step.refl (.cells #[.int .i64 b.op, .string (str b.res), .string (str (b.own ++ [t])), .bool b.dead] 104)) (.cells #[] 104))) (fun _ _ => id)
  have hxC := ((reads_new V #[.int .i64 b.op, .string (str b.res), .string (str (b.own ++ [t])), .bool b.dead] 104 4 1 rfl).step (F := fun _ => False) (Step.alloc Step.refl (.cells #[] 104)) (fun _ _ => id)).drew
  rw [hz0] at hxB
  refine Mxt.wp_region_tree [0, 6, 8, 9] [0, 6, 8, 9] (.fork (.op 0 (.reads [1, 2, 3, 4, 5] (.fork (.op 6 (.reads [7] (.op 8 (.op 9 (.reads [10, 11] .leaf))))) (.reads [7] (.op 8 (.op 6 (.op 9 (.reads [10, 11] .leaf)))))))) (.reads [7] (.op 8 (.reads [1, 2, 3, 4, 5] (.op 0 (.op 6 (.op 9 (.reads [10, 11] .leaf)))))))) (Step (fun _ => False) V) (by kernel_rfl) (by kernel_rfl) Step.refl.drew (fun hcls => ?_)
  refine Mxt.wpTL_fork ?_ ?_
  · refine Mxt.wpTL_op (by rfl) (fun K hK => ?_)
    go_simp
    refine hK _ _ (fun hlt => Mix.cl (Step.drew (Step.alloc Step.refl _))) ?_
    clear hK K
    refine Mxt.wpTL_reads ?_
    simp only [List.flatMap_cons, List.flatMap_nil, List.getElem?_cons_succ, List.getElem?_cons_zero, Option.toList_some, List.cons_append, List.nil_append]
    repeat (go_big_quiet_step (fail))
    refine wpQuiet_nil ?_
    refine Mxt.wpTL_fork ?_ ?_
    · refine Mxt.wpTL_op (by rfl) (fun K hK => ?_)
      refine step_append_new (w0 := V) (by rfl) _ _ (by rfl) E_bk (Step.drew (Step.alloc Step.refl _)) (by rfl) (hfA) (by rfl) (hrA) hone1 hm1 (by omega) ?_
      intro D1 c1 W1 hown1 hS1 hgrow1 hat1
      refine hK _ _ (fun hlt => Mix.cl hS1) ?_
      clear hK K
      simp only [Act.put, List.setIfInBounds_toArray, List.set_cons_succ, List.set_cons_zero, Nat.zero_add]
      simp only [Nat.zero_add] at hown1
      refine Mxt.wpTL_reads ?_
      simp only [List.flatMap_cons, List.flatMap_nil, List.getElem?_cons_succ, List.getElem?_cons_zero, Option.toList_some, List.cons_append, List.nil_append]
      repeat (go_big_quiet_step (fail))
      refine wpQuiet_nil ?_
      refine Mxt.wpTL_op (by rfl) (fun K hK => ?_)
      go_simp
      refine hK _ _ (fun hlt => Mix.cl (Step.alloc hS1 _)) ?_
      clear hK K
      refine Mxt.wpTL_op (by rfl) (fun K hK => ?_)
      refine step_append_new (w0 := V) (by rfl) _ _ (by rfl) E_bk (Step.alloc hS1 _) (by rfl) (hown1.alloc _) (by rfl) (reads_new W1 #[.int .i64 b.op, .string (str b.res), .string (str (b.own ++ [t])), .bool b.dead] 104 4 1 rfl) hone2 hm2 (by omega) ?_
      intro D2 c2 W2 hown2 hS2 hgrow2 hat2
      refine hK _ _ (fun hlt => Mix.cl hS2) ?_
      clear hK K
      simp only [Act.put, List.setIfInBounds_toArray, List.set_cons_succ, List.set_cons_zero, Nat.zero_add]
      refine Mxt.wpTL_reads ?_
      simp only [List.flatMap_cons, List.flatMap_nil, List.getElem?_cons_succ, List.getElem?_cons_zero, Option.toList_some, List.cons_append, List.nil_append]
      repeat (go_big_quiet_step (fail))
      refine wpQuiet_nil ?_
      refine Mxt.wpTL_leaf ?_
      go_wp2_with fail
      go_ret2
      have HR := CTL.out _ _ _ (twice_new (b := { b with own := b.own ++ [t] }) hown2 hS2 HPL.out.symm rfl)
      rw [HLL.out] at HR
      exact HR
    · refine Mxt.wpTL_reads ?_
      simp only [List.flatMap_cons, List.flatMap_nil, List.getElem?_cons_succ, List.getElem?_cons_zero, Option.toList_some, List.cons_append, List.nil_append]
      repeat (go_big_quiet_step (fail))
      refine wpQuiet_nil ?_
      refine Mxt.wpTL_op (by rfl) (fun K hK => ?_)
      go_simp
      refine hK _ _ (fun hlt => Mix.cl (Step.drew (Step.alloc (Step.alloc Step.refl _) _))) ?_
      clear hK K
      refine Mxt.wpTL_op (by rfl) (fun K hK => ?_)
      refine step_append_new (w0 := V) (by rfl) _ _ (by rfl) E_bk (Step.drew (Step.alloc (Step.alloc Step.refl _) _)) (by rfl) (hfB) (by rfl) (hrB) hone1 hm1 (by omega) ?_
      intro D1 c1 W1 hown1 hS1 hgrow1 hat1
      refine hK _ _ (fun hlt => Mix.cl hS1) ?_
      clear hK K
      simp only [Act.put, List.setIfInBounds_toArray, List.set_cons_succ, List.set_cons_zero, Nat.zero_add]
      simp only [Nat.zero_add] at hown1
      have hx1 := hxB.step (Step.grown (F := fun k => blkOf (some (⟨V.heap.size, 0, none⟩ : Addr)) = some k) Step.refl hgrow1 (fun k hk => .inl hk)) (fun k hk e => by simp [blkOf] at e; omega)
      refine Mxt.wpTL_op (by rfl) (fun K hK => ?_)
      refine step_append_new (w0 := V) (by rfl) _ _ (by rfl) E_bk (hS1) (by rfl) (hown1) (by rfl) (hx1) hone2 hm2 (by omega) ?_
      intro D2 c2 W2 hown2 hS2 hgrow2 hat2
      refine hK _ _ (fun hlt => Mix.cl hS2) ?_
      clear hK K
      simp only [Act.put, List.setIfInBounds_toArray, List.set_cons_succ, List.set_cons_zero, Nat.zero_add]
      refine Mxt.wpTL_reads ?_
      simp only [List.flatMap_cons, List.flatMap_nil, List.getElem?_cons_succ, List.getElem?_cons_zero, Option.toList_some, List.cons_append, List.nil_append]
      repeat (go_big_quiet_step (fail))
      refine wpQuiet_nil ?_
      refine Mxt.wpTL_leaf ?_
      go_wp2_with fail
      go_ret2
      have HR := CTL.out _ _ _ (twice_new (b := { b with own := b.own ++ [t] }) hown2 hS2 HPL.out.symm rfl)
      rw [HLL.out] at HR
      exact HR
  · refine Mxt.wpTL_reads ?_
    simp only [List.flatMap_cons, List.flatMap_nil, List.getElem?_cons_succ, List.getElem?_cons_zero, Option.toList_some, List.cons_append, List.nil_append]
    repeat (go_big_quiet_step (fail))
    refine wpQuiet_nil ?_
    refine Mxt.wpTL_op (by rfl) (fun K hK => ?_)
    go_simp
    refine hK _ _ (fun hlt => Mix.cl (Step.drew (Step.alloc Step.refl _))) ?_
    clear hK K
    refine Mxt.wpTL_reads ?_
    simp only [List.flatMap_cons, List.flatMap_nil, List.getElem?_cons_succ, List.getElem?_cons_zero, Option.toList_some, List.cons_append, List.nil_append]
    repeat (go_big_quiet_step (fail))
    refine wpQuiet_nil ?_
    refine Mxt.wpTL_op (by rfl) (fun K hK => ?_)
    go_simp
    refine hK _ _ (fun hlt => Mix.cl (Step.drew (Step.alloc (Step.alloc Step.refl _) _))) ?_
    clear hK K
    refine Mxt.wpTL_op (by rfl) (fun K hK => ?_)
    refine step_append_new (w0 := V) (by rfl) _ _ (by rfl) E_bk (Step.drew (Step.alloc (Step.alloc Step.refl _) _)) (by rfl) (hfC) (by rfl) (hrC) hone1 hm1 (by omega) ?_
    intro D1 c1 W1 hown1 hS1 hgrow1 hat1
    refine hK _ _ (fun hlt => Mix.cl hS1) ?_
    clear hK K
    simp only [Act.put, List.setIfInBounds_toArray, List.set_cons_succ, List.set_cons_zero, Nat.zero_add]
    simp only [Nat.zero_add] at hown1
    have hx1 := hxC.step (Step.grown (F := fun k => blkOf (some (⟨V.heap.size + 1, 0, none⟩ : Addr)) = some k) Step.refl hgrow1 (fun k hk => .inl hk)) (fun k hk e => by simp [blkOf] at e; omega)
    refine Mxt.wpTL_op (by rfl) (fun K hK => ?_)
    refine step_append_new (w0 := V) (by rfl) _ _ (by rfl) E_bk (hS1) (by rfl) (hown1) (by rfl) (hx1) hone2 hm2 (by omega) ?_
    intro D2 c2 W2 hown2 hS2 hgrow2 hat2
    refine hK _ _ (fun hlt => Mix.cl hS2) ?_
    clear hK K
    simp only [Act.put, List.setIfInBounds_toArray, List.set_cons_succ, List.set_cons_zero, Nat.zero_add]
    refine Mxt.wpTL_reads ?_
    simp only [List.flatMap_cons, List.flatMap_nil, List.getElem?_cons_succ, List.getElem?_cons_zero, Option.toList_some, List.cons_append, List.nil_append]
    repeat (go_big_quiet_step (fail))
    refine wpQuiet_nil ?_
    refine Mxt.wpTL_leaf ?_
    go_wp2_with fail
    go_ret2
    have HR := CTL.out _ _ _ (twice_new (b := { b with own := b.own ++ [t] }) hown2 hS2 HPL.out.symm rfl)
    rw [HLL.out] at HR
    exact HR
end
end Go.Proofs.Ytfechgpdlabgaaa
