/-
  frames.Stacks: Enter.
-/
import Derived.Test.YtokchoocelmdoaaFpG
import Derived.Laws.CopyOwn
set_option linter.unusedVariables false
set_option linter.unusedSimpArgs false
namespace Go.Proofs.Ytokchoocelmdoaa
open Go.RowKit

/-- A function as the law makes them. -/
def fnV (ps rs lo : ByteArray) : Value := .agg #[.string ps, .string rs, .int .i64 0, .string lo, .slice none 0 0, .slice none 0 0, .slice none 0 0]
theorem mk_u2 (w : World) : (Instr.makeSlice 36 (.int .i64 (2 : Nat)) (.int .i64 (2 : Nat))).run Try.prog w = .ok (.slice (some ⟨w.heap.size, 0, none⟩) 2 2) (w.alloc (.cells (List.replicate 2 (Value.int .u64 0)).toArray 28)) := by kernel_rfl
theorem mk_u3 (w : World) : (Instr.makeSlice 36 (.int .i64 (3 : Nat)) (.int .i64 (3 : Nat))).run Try.prog w = .ok (.slice (some ⟨w.heap.size, 0, none⟩) 3 3) (w.alloc (.cells (List.replicate 3 (Value.int .u64 0)).toArray 28)) := by kernel_rfl
theorem mk_u4 (w : World) : (Instr.makeSlice 36 (.int .i64 (4 : Nat)) (.int .i64 (4 : Nat))).run Try.prog w = .ok (.slice (some ⟨w.heap.size, 0, none⟩) 4 4) (w.alloc (.cells (List.replicate 4 (Value.int .u64 0)).toArray 28)) := by kernel_rfl
theorem mk_u5 (w : World) : (Instr.makeSlice 36 (.int .i64 (5 : Nat)) (.int .i64 (5 : Nat))).run Try.prog w = .ok (.slice (some ⟨w.heap.size, 0, none⟩) 5 5) (w.alloc (.cells (List.replicate 5 (Value.int .u64 0)).toArray 28)) := by kernel_rfl
theorem mk_u64 (N : Nat) (h2 : 2 ≤ N) (h : N ≤ 5) (w : World) : (Instr.makeSlice 36 (.int .i64 (N : Int)) (.int .i64 (N : Int))).run Try.prog w = .ok (.slice (some ⟨w.heap.size, 0, none⟩) N N) (w.alloc (.cells (List.replicate N (Value.int .u64 0)).toArray 28)) := by
  have h6 : N = 2 ∨ N = 3 ∨ N = 4 ∨ N = 5 := by omega
  rcases h6 with rfl | rfl | rfl | rfl
  · exact mk_u2 w
  · exact mk_u3 w
  · exact mk_u4 w
  · exact mk_u5 w
theorem reads_blk {w : World} {M n : Nat} {t : TypeId} {cs : List Value} {S : Nat → Prop} (h : Blk w M t cs.toArray) (hn : cs.length = n) (hS : S M) : Reads w S 1 (some ⟨M, 0, none⟩) n cs := by
  refine ⟨by rw [hn, Nat.mul_one], fun _ => ⟨_, rfl, hS, h.lt, fun j u hu => ?_⟩⟩
  rw [Addr.add_lit, Nat.zero_add]
  exact (h.cell j).trans (by simpa using hu)
theorem fm_one (f : Fm) : ∀ u ∈ f.cells, u.oneCell' = true := by
  intro u hu
  simp [Fm.cells] at hu
  rcases hu with rfl | rfl | rfl | rfl | rfl | rfl | rfl | rfl | rfl <;> rfl
theorem u64s_rep (l : List Int) (m n : Nat) (hl : l.length = n) (hm : m = n + 2) : Go.splice (List.replicate m (Value.int .u64 0)) 0 (u64s l) = u64s (l ++ [0, 0]) := by
  subst hm
  simp [Go.splice, u64s, hl, List.drop_replicate]
section
variable {w : World} {I : Nat → Prop} {g : Nat} {xs : List Int} {ls : List Lb} {fs : List Fm} {most : Int}
set_option maxRecDepth 100000 in
set_option maxHeartbeats 1600000 in
theorem fs_enter_deep (ps rs lo : ByteArray) (h : Fs w I g xs ls fs most) (hm : most ≤ (fs.length : Int)) :
    Calls Try.prog 30 #[.pointer (some ⟨g, 0, none⟩), fnV ps rs lo] w fun e w' => e = .returned (.int .i64 71) ∧ Step (fun _ => False) w w' := by
  obtain ⟨D1, c1, D2, c2, D3, c3, h, hI⟩ := h
  have a2 := h.st.blk.cell 2
  have a3 := h.st.blk.cell 3
  simp at a2 a3
  have hgl := h.st.blk.lt
  have g0 : decide (most ≤ (fs.length : Int)) = true := decide_eq_true hm
  have hne : g ≠ w.heap.size := by omega
  clear h hI
  unfold fnV
  go_enter Try.func30, Try.ntmps30
  go_wp2_with fail
  go_quiet (fail)
  go_wp2
  go_ret
  exact ⟨rfl, (Step.refl.alloc _).drewN _⟩
set_option maxRecDepth 100000 in
set_option maxHeartbeats 1600000 in
theorem fs_enter_few (ps rs lo : ByteArray) (h : Fs w I g xs ls fs most) (hm : (fs.length : Int) < most) (hx : xs.length ≤ 1000000) (hp : xs.length < ps.size) :
    Calls Try.prog 30 #[.pointer (some ⟨g, 0, none⟩), fnV ps rs lo] w fun e w' => e = .returned (.int .i64 21) ∧ Step (fun _ => False) w w' := by
  have HF := Lib.hid h
  obtain ⟨D1, c1, D2, c2, D3, c3, h, hI⟩ := h
  have a2 := (h.st.blk.alloc (.cells #[.string ps, .string rs, .int .i64 0, .string lo, .slice none 0 0, .slice none 0 0, .slice none 0 0] 72)).cell 2
  have a3 := (h.st.blk.alloc (.cells #[.string ps, .string rs, .int .i64 0, .string lo, .slice none 0 0, .slice none 0 0, .slice none 0 0] 72)).cell 3
  simp only [List.getElem?_toArray, List.getElem?_cons_succ, List.getElem?_cons_zero] at a2 a3
  have hgl := h.st.blk.lt
  have g0 : decide (most ≤ (fs.length : Int)) = false := decide_eq_false (by omega)
  have d2 := cls_cell (F := fun _ => False) a2 id
  have d3 := cls_cell (F := fun _ => False) a3 id
  clear h hI a2 a3
  unfold fnV
  go_enter Try.func30, Try.ntmps30
  go_wp2_with fail
  refine Mix.wp_region_mix [] [] (Step (fun _ => False) (w.alloc (.cells #[.string ps, .string rs, .int .i64 0, .string lo, .slice none 0 0, .slice none 0 0, .slice none 0 0] 72))) (by kernel_rfl) (by kernel_rfl) Step.refl.drew (fun hcls => ?_)
  refine Mix.wpL_reads 10 (by rfl) ?_
  simp only [List.take_succ_cons, List.drop_succ_cons, List.take_zero, List.drop_zero]
  repeat (go_big_quiet_step (fail))
  refine wpQuiet_nil ?_
  refine Mix.wpL_end ?_
  clear d2 d3 hcls
  go_wp2_with fail
  refine (fs_take_fails (ps.size : Int) (HF.out.quiet (Step.refl.alloc _).drew) hx (.inr (by omega))).mono ?_
  rintro e W ⟨rfl, hw⟩
  obtain rfl := hw
  go_wp2
  go_ret
  exact ⟨rfl, (Step.refl.alloc _).drew⟩
set_option maxRecDepth 100000 in
set_option maxHeartbeats 3200000 in
theorem fs_enter (ps rs lo : ByteArray) (np : Nat) (h : Fs w I g xs ls fs most) (hm : (fs.length : Int) < most) (hx : xs.length ≤ 1000000) (hps : ps.size = np) (hlo : lo.size = np + 2) (hnp : np ≤ 3) (hp : np ≤ xs.length) (hl : fs.length ≤ 100000) :
    Calls Try.prog 30 #[.pointer (some ⟨g, 0, none⟩), fnV ps rs lo] w fun e w' => e = .returned (.int .i64 0) ∧ ∃ (A : Option Addr) (c : Nat), FsUp w I g (xs.take (xs.length - np)) ls (fs ++ [⟨ps, rs, lo, A, np + 2, c, ls.length, xs.length - np⟩]) most w' ∧ np + 2 ≤ c ∧
      Reads w' (fun k => w.heap.size ≤ k) 1 A (np + 2) (u64s (xs.drop (xs.length - np) ++ [0, 0])) := by
  have HF := Lib.hid h
  have HIN : Hid (In w I) := h.in_
  obtain ⟨D1, c1, D2, c2, D3, c3, h, hI⟩ := h
  have a2 := (h.st.blk.alloc (.cells #[.string ps, .string rs, .int .i64 0, .string lo, .slice none 0 0, .slice none 0 0, .slice none 0 0] 72)).cell 2
  have a3 := (h.st.blk.alloc (.cells #[.string ps, .string rs, .int .i64 0, .string lo, .slice none 0 0, .slice none 0 0, .slice none 0 0] 72)).cell 3
  simp only [List.getElem?_toArray, List.getElem?_cons_succ, List.getElem?_cons_zero] at a2 a3
  have hgl := h.st.blk.lt
  have g0 : decide (most ≤ (fs.length : Int)) = false := decide_eq_false (by omega)
  have d2 := cls_cell (F := fun _ => False) a2 id
  have d3 := cls_cell (F := fun _ => False) a3 id
  have B0 := Lib.hid (Blk.new w 72 #[.string ps, .string rs, .int .i64 0, .string lo, .slice none 0 0, .slice none 0 0, .slice none 0 0]).drew
  have S0 : Hid (Step (fun _ => False) w (w.alloc (.cells #[.string ps, .string rs, .int .i64 0, .string lo, .slice none 0 0, .slice none 0 0, .slice none 0 0] 72)).drew) := (Step.refl.alloc _).drew
  clear h hI a2 a3
  unfold fnV
  go_enter Try.func30, Try.ntmps30
  go_wp2_with fail
  refine Mix.wp_region_mix [] [] (Step (fun _ => False) (w.alloc (.cells #[.string ps, .string rs, .int .i64 0, .string lo, .slice none 0 0, .slice none 0 0, .slice none 0 0] 72))) (by kernel_rfl) (by kernel_rfl) Step.refl.drew (fun hcls => ?_)
  refine Mix.wpL_reads 10 (by rfl) ?_
  simp only [List.take_succ_cons, List.drop_succ_cons, List.take_zero, List.drop_zero]
  repeat (go_big_quiet_step (fail))
  refine wpQuiet_nil ?_
  refine Mix.wpL_end ?_
  clear d2 d3 hcls
  obtain ⟨V, hV⟩ : ∃ V, V = (w.alloc (.cells #[.string ps, .string rs, .int .i64 0, .string lo, .slice none 0 0, .slice none 0 0, .slice none 0 0] 72)).drew := ⟨_, rfl⟩
  obtain ⟨N, hN⟩ : ∃ N, N = w.heap.size := ⟨_, rfl⟩
  rw [← hV, ← hN]
  rw [← hV] at B0 S0
  rw [← hN] at B0
  have HN : Hid (w.heap.size ≤ N) := by rw [hN]; exact Nat.le_refl _
  have HV := Lib.hid (HF.out.quiet S0.out)
  clear hV hN
  have b0 := B0.out.cell 0
  have b2 := B0.out.cell 3
  simp at b0 b2
  go_wp2_with fail
  refine (fs_take np HV.out hx hp).mono ?_
  rintro e W ⟨A, c', rfl, hown, I', ⟨D1', c1', D2', c2', D3', c3', h', hI'⟩, u⟩
  have NI : ¬ I N := fun e => by have := HIN.out N e; have := HN.out; omega
  have B1 := Lib.hid (B0.out.step u.1 NI)
  have U1 := Lib.hid (u.after S0.out)
  have HW := Lib.hid h'
  have HIW := Lib.hid hI'
  have HO := Lib.hid hown
  clear b0 b2 B0 hown h' hI' NI HV HF
  have b2 := B1.out.cell 3
  simp at b2
  obtain ⟨m, hm2⟩ : ∃ m, m = np + 2 := ⟨_, rfl⟩
  rw [← hm2] at hlo
  have hmk := mk_u64 m (by omega) (by omega) W
  have m1 : decide ((m : Int) < (np : Int)) = false := decide_eq_false (by omega)
  have m2 : decide (m < np) = false := decide_eq_false (by omega)
  have m3 : ¬ m < np := by omega
  have m4 : ¬ (m : Int) < (np : Int) := by omega
  have HM := Lib.hid hm2
  clear hm2
  go_upto_region 7 with fail
  obtain ⟨ys, hys⟩ : ∃ ys, ys = xs.take (xs.length - np) := ⟨_, rfl⟩
  rw [← hys] at HW
  obtain ⟨zs, hzs⟩ : ∃ zs, zs = xs.drop (xs.length - np) := ⟨_, rfl⟩
  have HYS := Lib.hid hys
  have HYL : Hid (ys.length = xs.length - np) := by unfold Hid; rw [hys, List.length_take]; omega
  have HZL : Hid (zs.length = np) := by unfold Hid; rw [hzs, List.length_drop]; omega
  rw [← hzs] at HO
  have HZS := Lib.hid hzs
  have hg : (W.alloc (.cells (Array.replicate m (.int .u64 0)) 28)).heap[W.heap.size]? = some (.cells (List.replicate m (Value.int .u64 0)).toArray 28 (0, 0)) := by
    rw [List.toArray_replicate]
    exact heap_alloc_new W _
  have hro := (Reads.of_own HO.out).step (F := fun _ => False) (Step.refl.alloc (.cells (Array.replicate m (Value.int .u64 0)) 28)) (fun _ _ => id)
  have hcn : (u64s zs).length = Nat.min np m := by rw [u64s_length, HZL.out]; exact (Nat.min_eq_left (by omega)).symm
  have hcp : 0 < (u64s zs).length → some (⟨W.heap.size, 0, none⟩ : Addr) = some ⟨W.heap.size, 0, none⟩ ∧ ∃ ad, A = some ad ∧ ∀ j v, (u64s zs)[j]? = some v → (W.alloc (.cells (Array.replicate m (.int .u64 0)) 28)).cell? (ad.add j) = some v := fun hpz => by
    rw [u64s_length, HZL.out] at hpz
    obtain ⟨ad, e1, _, _, e2⟩ := hro.2 hpz
    exact ⟨rfl, ad, e1, e2⟩
  have hcf : 0 + (u64s zs).length ≤ (List.replicate m (Value.int .u64 0)).length := by rw [u64s_length, HZL.out, List.length_replicate]; omega
  have hc1 := u64s_one zs
  have HRP := Lib.hid (u64s_rep zs m np HZL.out HM.out)
  clear hys hzs hro b2 m1 m2 m3 m4 hmk
  go_upto_region 8 with (refine wpList_copy_splice rfl _ _ _ _ (by rfl) 28 Try.underlying36 (by kernel_rfl) _ _ _ _ _ _ (by rfl) (by rfl) W.heap.size 0 (List.replicate m (.int .u64 0)) 28 hg (u64s zs) hcn hcp hcf hc1 W.heap.size W ((Below.refl _ W).alloc (Nat.le_refl _) _) (Nat.le_refl _) ?_; intro W2 hrow hbel)
  have hS2 : Step (fun _ => False) W W2 := Step.ofBelow hbel
  have H2 := Lib.hid (HW.out.quiet hS2)
  have B2 := Lib.hid (B1.out.step hS2 id)
  have U2 := Lib.hid (U1.out.quiet hS2)
  have R2 := Lib.hid hrow.out
  rw [HRP.out] at R2
  have HMW : Hid (w.heap.size ≤ W.heap.size) := U1.out.1.size
  obtain ⟨M, hM⟩ : ∃ M, M = W.heap.size := ⟨_, rfl⟩
  rw [← hM] at R2 HMW ⊢
  have HM2 : Hid (M < W2.heap.size) := by rw [Hid, hM]; exact Nat.lt_of_lt_of_le (by have := (Blk.new W 28 #[]).lt; simp at this; exact (Array.getElem?_eq_some_iff.1 hrow.out).1) (Nat.le_refl _)
  have hND : blkOf D3' ≠ some N := by
    have := own_tag H2.out.fo B2.out (by decide)
    rwa [ownBlock_slice] at this
  have b0 := B2.out.cell 0
  have b1 := B2.out.cell 1
  have b2 := B2.out.cell 2
  have b3 := B2.out.cell 3
  have b4 := B2.out.cell 4
  have b5 := B2.out.cell 5
  have b6 := B2.out.cell 6
  have a0 := H2.out.st.blk.cell 0
  have a1 := H2.out.st.blk.cell 1
  have a2 := H2.out.st.blk.cell 2
  simp at b0 b1 b2 b3 b4 b5 b6 a0 a1 a2
  have d0 := cls_cell (F := fun k => blkOf D3' = some k) (w0 := W2) b0 hND
  have d1 := cls_cell (F := fun k => blkOf D3' = some k) (w0 := W2) b1 hND
  have d2 := cls_cell (F := fun k => blkOf D3' = some k) (w0 := W2) b2 hND
  have d3 := cls_cell (F := fun k => blkOf D3' = some k) (w0 := W2) b3 hND
  have d4 := cls_cell (F := fun k => blkOf D3' = some k) (w0 := W2) b4 hND
  have d5 := cls_cell (F := fun k => blkOf D3' = some k) (w0 := W2) b5 hND
  have d6 := cls_cell (F := fun k => blkOf D3' = some k) (w0 := W2) b6 hND
  have d7 := cls_cell (F := fun k => blkOf D3' = some k) (w0 := W2) a0 H2.out.ne3
  have d8 := cls_cell (F := fun k => blkOf D3' = some k) (w0 := W2) a1 H2.out.ne3
  have d9 := cls_cell (F := fun k => blkOf D3' = some k) (w0 := W2) a2 H2.out.ne3
  have hm : fs.length + 1 ≤ maxLen := by unfold maxLen; omega
  obtain ⟨fn, hfn⟩ : ∃ fn : Fm, fn = ⟨ps, rs, lo, some ⟨M, 0, none⟩, m, m, ls.length, ys.length⟩ := ⟨_, rfl⟩
  have hone : ∀ u ∈ #[Value.string ps, .string rs, .int .i64 0, .string lo, .slice none 0 0, .slice none 0 0, .slice none 0 0, .int .i64 0, .slice (some ⟨M, 0, none⟩) m m, .int .i64 (ls.length : Int), .int .i64 (ys.length : Int)].toList, u.oneCell' = true := by
    have := fm_one fn
    rw [hfn] at this
    exact this
  have HFN := Lib.hid hfn
  clear hS2 hbel hrow hg hcn hcp hcf hc1 hND b0 b1 b2 b3 b4 b5 b6 hM B1 U1 HW HRP HO hfn
  simp only [Act.put, List.setIfInBounds_toArray, List.set_cons_succ, List.set_cons_zero]
  refine Mix.wp_region_mix [18, 19, 22] [18, 19] (Step (fun k => blkOf D3' = some k) W2) (by kernel_rfl) (by kernel_rfl) Step.refl.drew (fun hcls => ?_)
  refine Mix.wpL_reads 18 (by rfl) ?_
  simp only [List.take_succ_cons, List.drop_succ_cons, List.take_zero, List.drop_zero]
  repeat (go_big_quiet_step (fail))
  refine wpQuiet_nil ?_
  refine Mix.wpL_op (by rfl) (fun K hK => ?_)
  go_simp
  refine hK _ _ (fun hlt => Mix.cl (Step.drew (Step.alloc Step.refl _))) ?_
  clear hK K
  refine Mix.wpL_op (by rfl) (fun K hK => ?_)
  refine step_append_src _ (by rfl) _ _ (by rfl) E_fm (by rfl) (own_drew (H2.out.fo.alloc _)) (by rfl) (reads_new W2 #[.string ps, .string rs, .int .i64 0, .string lo, .slice none 0 0, .slice none 0 0, .slice none 0 0, .int .i64 0, .slice (some ⟨M, 0, none⟩) m m, .int .i64 (ls.length : Int), .int .i64 (ys.length : Int)] 74 11 1 rfl).drew hone hm (by omega) (Nat.zero_le _) ?_
  intro D' c2' w1 hown1 hgrow hat
  have hs1 : Hid (Step (fun k => blkOf D3' = some k) W2 w1) := (Step.drew (Step.alloc Step.refl _)).grown hgrow (fun k hk => .inl hk)
  refine hK _ _ (fun hlt => Mix.cl (hs1.out)) ?_
  clear hK K
  go_simp
  refine Mix.wpL_reads 2 (by rfl) ?_
  simp only [List.take_succ_cons, List.drop_succ_cons, List.take_zero, List.drop_zero]
  repeat (go_big_quiet_step (fail))
  refine wpQuiet_nil ?_
  have hb1 := H2.out.st.blk.step hs1.out H2.out.ne3
  have q0 := hb1.cell 2
  have f0 := hb1.frozen 2
  simp at q0
  refine Mix.wpL_op (by rfl) (fun K hK => ?_)
  go_simp
  refine hK _ _ (fun hlt => absurd hlt (by decide)) ?_
  clear hK K
  refine Mix.wpL_end ?_
  go_wp2
  go_ret
  have hM3 : blkOf D3' ≠ some M := by
    have := own_tag H2.out.fo (show Blk W2 M 28 _ from R2.out) (by decide)
    rwa [ownBlock_slice] at this
  have hMg : M ≠ g := fun e => by
    have h7 : Blk W2 M 28 _ := R2.out
    rw [e] at h7
    exact absurd (h7.tag H2.out.st.blk) (by decide)
  have hb3 := ((show Blk W2 M 28 _ from R2.out).step hs1.out hM3).far (p := ⟨g, 2, none⟩) hMg (.slice D' (fs.length + 1) c2')
  have hfin : fms (fs ++ [⟨ps, rs, lo, some ⟨M, 0, none⟩, np + 2, m, ls.length, xs.length - np⟩]) = fms fs ++ #[Value.string ps, .string rs, .int .i64 0, .string lo, .slice none 0 0, .slice none 0 0, .slice none 0 0, .int .i64 0, .slice (some ⟨M, 0, none⟩) m m, .int .i64 (ls.length : Int), .int .i64 (ys.length : Int)].toList := by
    rw [fms_append, ← HYL.out, ← HM.out]
    rfl
  rw [← HYS.out, ← HZS.out]
  refine ⟨rfl, some ⟨M, 0, none⟩, m, ?_, by rw [HM.out]; exact Nat.le_refl _, ?_⟩
  · refine FsUp.trans U2.out (FsUp.quiet (H2.out.frames HIW.out hs1.out (D' := D') (c' := c2') (n' := fs.length + 1) (by simp) (by rw [hfin]; exact hown1) (fun k hk => ?_)) Step.refl)
    rcases hat with e | e
    · exact .inl (e ▸ hk)
    · rw [e] at hk
      simp at hk
      right; omega
  · exact reads_blk hb3 (by rw [u64s_length, List.length_append, HZL.out]; rfl) HMW.out
end
end Go.Proofs.Ytokchoocelmdoaa
