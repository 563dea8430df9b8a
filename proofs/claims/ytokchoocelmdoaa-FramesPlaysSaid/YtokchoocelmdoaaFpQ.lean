/-
  FramesPlays: branch (printed by gen_fpq.py).
-/
import Derived.Test.YtokchoocelmdoaaFpP
import Derived.Test.YtokchoocelmdoaaMxt
set_option linter.unusedVariables false
set_option linter.unusedSimpArgs false
namespace Go.Proofs.Ytokchoocelmdoaa
open Go.RowKit

section
variable {w w1 w2 w' : World} {I I' : Nat → Prop} {g c : Nat} {A : Option Addr} {l l' : List It} {fs fs' : List Fm} {most : Int}
set_option maxRecDepth 100000 in
set_option maxHeartbeats 1600000 in
theorem branch_far (n : Nat) (hn : n < 18446744073709551616) (H : Sta w I g A c l most) (hz : l.length ≤ 1000) (hf : Fst w I g l fs most) (hneg : blockI l n < 0) (hown : ownN (labsI 0 l) fs ≤ n) :
    Calls Try.prog 29 #[.pointer (some ⟨g, 0, none⟩), .slice A l.length c, .int .u64 (n : Int)] w (SAny w I g A l.length most) := by
  have hfl := hf.len H.good
  have hll := labs_len (l := l)
  have HE := Lib.hid (fs_branch_far n hf.1 hf.okf (by omega) (by omega) hown)
  have HR := Reads.of_own H.own
  have HB : Hid (∀ W, Step (fun _ => False) w W → Calls Try.prog 27 #[.slice A l.length c, .int .u64 (n : Int)] W fun e w' => e = .returned (.int .i64 (blockI l n)) ∧ w' = W) := fun W hW => r_block n (HR.step hW (fun _ _ => id)) (by omega) hn
  have HD : Hid (∀ W, Step (fun _ => False) w W → SDo w I g A l most (.returned (.tuple #[.slice A l.length c, .bool true])) W) := fun W hW => sdo_same H hW
  have g0 : decide (blockI l n < 0) = true := decide_eq_true hneg
  generalize blockI l n = at_ at *
  clear H hf HR hneg hown
  go_enter Try.func29, Try.ntmps29
  go_wp2_with fail
  refine HE.out.mono ?_
  rintro e W ⟨rfl, hs⟩
  have HS := Lib.hid hs
  clear hs
  go_wp2_with fail
  refine (HB.out W HS.out).mono ?_
  rintro e w' ⟨rfl, hw⟩
  obtain rfl := hw.symm
  clear hw
  go_wp2_with fail
  go_ret2
  exact ⟨l, Nat.le_refl _, HD.out _ HS.out⟩
set_option maxRecDepth 100000 in
set_option maxHeartbeats 3200000 in
theorem branch_few (n a k : Nat) (hn : n < 18446744073709551616) (H : Sta w I g A c l most) (hz : l.length ≤ 1000) (hf : Fst w I g l fs most) (ha : a < l.length) (e1 : blockI l n = a) (e2 : l[a].k = 1) (hk : n < ownN (labsI 0 l) fs) (hc1 : cntI 1 (l.drop (a + 1)) = n) (hno : ∀ x ∈ l.drop a, x.k ≠ 2) (har : l[a].ar = (k : Int)) (hfew : (valsI (l.drop a)).length < k) :
    Calls Try.prog 29 #[.pointer (some ⟨g, 0, none⟩), .slice A l.length c, .int .u64 (n : Int)] w (SAny w I g A l.length most) := by
  obtain ⟨q1, q2, q3, q4, q5, q6⟩ := lab_split ha e2 hc1 hno H.good
  have hfl := hf.len H.good
  have hll := labs_len (l := l)
  have hvl := vals_len (l := l)
  have hvs := congrArg List.length (vals_split (l := l) a)
  rw [List.length_append] at hvs
  have hcap := own_cap H.own
  have hk1 := (H.good _ (List.getElem_mem ha)).2.1
  rw [har] at hk1
  have g0 : decide ((a : Int) < 0) = false := decide_eq_false (by omega)
  have i0 : (0 : Int) ≤ (a : Int) := by omega
  have i1 : (a : Int) < (l.length : Int) := by omega
  have HR0 := (Reads.of_own H.own).mono (S' := fun k => blkOf A = some k) (fun k _ hk => by rwa [ownBlock_slice] at hk)
  have HBk : Hid (∀ W, Reads W (fun k => blkOf A = some k) 7 A l.length (its l) → Calls Try.prog 27 #[.slice A l.length c, .int .u64 (n : Int)] W fun e w' => e = .returned (.int .i64 (a : Int)) ∧ w' = W) := fun W hW => by
    have := r_block (c := c) n hW (by omega) hn
    rwa [e1] at this
  have HC : Hid (∀ W, Reads W (fun k => blkOf A = some k) 7 A l.length (its l) → ∃ b off, A = some ⟨b, off, none⟩ ∧ W.cell? ⟨b, off + a * 7, none⟩ = some (.int .i64 1) ∧ W.cell? ⟨b, off + a * 7 + 1, none⟩ = some (.int .u64 l[a].v) ∧ W.cell? ⟨b, off + a * 7 + 2, none⟩ = some (.int .i64 l[a].st) ∧ W.cell? ⟨b, off + a * 7 + 3, none⟩ = some (.int .i64 l[a].dst) ∧ W.cell? ⟨b, off + a * 7 + 4, none⟩ = some (.int .i64 (k : Int)) ∧ W.cell? ⟨b, off + a * 7 + 5, none⟩ = some (.bool l[a].lp) ∧ W.cell? ⟨b, off + a * 7 + 6, none⟩ = some (.int .i64 l[a].r)) := fun W hW => by
    obtain ⟨b, off, e4, _, _, hc⟩ := reads_cells It.cells 7 (by decide) It.len hW (k := a) ha
    have c0 := hc 0 _ rfl
    rw [Nat.add_zero, e2] at c0
    have c4 := hc 4 _ rfl
    rw [har] at c4
    have c5 := hc 5 _ rfl
    exact ⟨b, off, e4, c0, hc 1 _ rfl, hc 2 _ rfl, hc 3 _ rfl, c4, c5, hc 6 _ rfl⟩
  have HE := Lib.hid (fs_branch_err n (cntI 1 (l.take a)) k _ hf.1 hf.okf (by omega) (by omega) (by omega) hk q1 q2 har (by show _ < (valsI (l.take a)).length + k; omega) (by omega))
  have HB : Hid (∀ W, Step (fun _ => False) w W → Calls Try.prog 33 #[.slice A l.length c, .int .i64 (a : Int), .int .i64 (k : Int)] W fun e w' => e = .returned (.tuple #[.slice A l.length c, .bool false]) ∧ Step (fun _ => False) W w') := fun W hW =>
    r_back_few a k (HR0.step hW (fun _ _ => id)) (by omega) (by omega) hcap hfew
  have HD : Hid (∀ W, Step (fun _ => False) w W → SDo w I g A l most (.returned (.tuple #[.slice A l.length c, .bool true])) W) := fun W hW => sdo_same H hW
  have HR := Lib.hid HR0
  clear H hf HR0 e1 e2 hk hc1 hno har q1 q2 q3 q4 q5 q6 hfew hvs hk1
  generalize l[a].lp = ylp at *
  generalize l[a].v = yv at *
  generalize l[a].st = yst at *
  generalize l[a].dst = ydst at *
  generalize l[a].r = yr at *
  go_enter Try.func29, Try.ntmps29
  go_wp2_with fail
  refine HE.out.mono ?_
  rintro e W ⟨rfl, hs⟩
  have HS := Lib.hid hs
  have HRW := Lib.hid (HR.out.step hs (fun _ _ => id))
  clear hs
  go_wp2_with fail
  refine (HBk.out W HRW.out).mono ?_
  rintro e w' ⟨rfl, hw⟩
  obtain rfl := hw.symm
  clear hw
  obtain ⟨b, off, rfl, x0, x1, x2, x3, x4, x5, x6⟩ := HC.out W HRW.out
  have N1 := Lib.hid (Blk.new W 57 #[.int .i64 1, .int .u64 yv, .int .i64 yst, .int .i64 ydst, .int .i64 (k : Int), .bool ylp, .int .i64 yr])
  have S1 : Hid (Step (fun _ => False) W (W.alloc (.cells #[.int .i64 1, .int .u64 yv, .int .i64 yst, .int .i64 ydst, .int .i64 (k : Int), .bool ylp, .int .i64 yr] 57))) := Step.refl.alloc _
  clear HC HBk
  go_upto_region 6 with fail
  obtain ⟨V, hV⟩ : ∃ V, V = W.alloc (.cells #[.int .i64 1, .int .u64 yv, .int .i64 yst, .int .i64 ydst, .int .i64 (k : Int), .bool ylp, .int .i64 yr] 57) := ⟨_, rfl⟩
  obtain ⟨N, hN⟩ : ∃ N, N = W.heap.size := ⟨_, rfl⟩
  rw [← hV, ← hN]
  rw [← hV] at N1 S1
  rw [← hN] at N1
  clear hV hN x0 x1 x2 x3 x4 x5 x6
  have y2 := N1.out.cell 2
  have y3 := N1.out.cell 3
  have y4 := N1.out.cell 4
  have y5 := N1.out.cell 5
  simp at y2 y3 y4 y5
  go_wp2_with fail
  refine (HB.out V (HS.out.trans S1.out)).mono ?_
  rintro e U ⟨rfl, hs⟩
  have HU := Lib.hid ((HS.out.trans S1.out).trans hs)
  clear hs y2 y3 y4 y5
  go_wp2_with fail
  go_ret2
  exact ⟨l, Nat.le_refl _, HD.out _ HU.out⟩
set_option maxRecDepth 100000 in
set_option maxHeartbeats 3200000 in
theorem branch_out (n a k : Nat) (hn : n < 18446744073709551616) (H : Sta w I g A c l most) (hz : l.length ≤ 1000) (hf : Fst w I g l fs most) (ha : a < l.length) (e1 : blockI l n = a) (e2 : l[a].k = 1) (hk : n < ownN (labsI 0 l) fs) (hc1 : cntI 1 (l.drop (a + 1)) = n) (hno : ∀ x ∈ l.drop a, x.k ≠ 2) (har : l[a].ar = (k : Int)) (hgood : k ≤ (valsI (l.drop a)).length) (hlp : l[a].lp = false) :
    Calls Try.prog 29 #[.pointer (some ⟨g, 0, none⟩), .slice A l.length c, .int .u64 (n : Int)] w (SAny w I g A l.length most) := by
  obtain ⟨q1, q2, q3, q4, q5, q6⟩ := lab_split ha e2 hc1 hno H.good
  have hfl := hf.len H.good
  have hll := labs_len (l := l)
  have hvl := vals_len (l := l)
  have hvs := congrArg List.length (vals_split (l := l) a)
  rw [List.length_append] at hvs
  have hcap := own_cap H.own
  have hk1 := (H.good _ (List.getElem_mem ha)).2.1
  rw [har] at hk1
  have g0 : decide ((a : Int) < 0) = false := decide_eq_false (by omega)
  have i0 : (0 : Int) ≤ (a : Int) := by omega
  have i1 : (a : Int) < (l.length : Int) := by omega
  have HR0 := (Reads.of_own H.own).mono (S' := fun k => blkOf A = some k) (fun k _ hk => by rwa [ownBlock_slice] at hk)
  have HBk : Hid (∀ W, Reads W (fun k => blkOf A = some k) 7 A l.length (its l) → Calls Try.prog 27 #[.slice A l.length c, .int .u64 (n : Int)] W fun e w' => e = .returned (.int .i64 (a : Int)) ∧ w' = W) := fun W hW => by
    have := r_block (c := c) n hW (by omega) hn
    rwa [e1] at this
  have HC : Hid (∀ W, Reads W (fun k => blkOf A = some k) 7 A l.length (its l) → ∃ b off, A = some ⟨b, off, none⟩ ∧ W.cell? ⟨b, off + a * 7, none⟩ = some (.int .i64 1) ∧ W.cell? ⟨b, off + a * 7 + 1, none⟩ = some (.int .u64 l[a].v) ∧ W.cell? ⟨b, off + a * 7 + 2, none⟩ = some (.int .i64 l[a].st) ∧ W.cell? ⟨b, off + a * 7 + 3, none⟩ = some (.int .i64 l[a].dst) ∧ W.cell? ⟨b, off + a * 7 + 4, none⟩ = some (.int .i64 (k : Int)) ∧ W.cell? ⟨b, off + a * 7 + 5, none⟩ = some (.bool false) ∧ W.cell? ⟨b, off + a * 7 + 6, none⟩ = some (.int .i64 l[a].r)) := fun W hW => by
    obtain ⟨b, off, e4, _, _, hc⟩ := reads_cells It.cells 7 (by decide) It.len hW (k := a) ha
    have c0 := hc 0 _ rfl
    rw [Nat.add_zero, e2] at c0
    have c4 := hc 4 _ rfl
    rw [har] at c4
    have c5 := hc 5 _ rfl
    rw [hlp] at c5
    exact ⟨b, off, e4, c0, hc 1 _ rfl, hc 2 _ rfl, hc 3 _ rfl, c4, c5, hc 6 _ rfl⟩
  have HE := fs_branch_out n (cntI 1 (l.take a)) k _ hf.1 hf.okf (by omega) (by omega) (by omega) hk q1 q2 har (by show (valsI (l.take a)).length + k ≤ _; omega) hlp
  rw [show keepF (valsI l) (Lb.mk l[a].st l[a].dst l[a].ar (valsI (l.take a)).length l[a].lp).h k = valsI (backI l a k) from keep_vals hgood, ← q3, ← (back_labs (l := l) (a := a) (n := k)).1] at HE
  replace HE := Lib.hid HE
  have HK : Hid (fs.map Fm.key = frsI 0 0 (backI l a k)) := by unfold Hid; rw [back_labs.2]; exact hf.2.trans q5
  have HFAR := Lib.hid (hf.far H.own)
  have HO := Lib.hid H.own
  have HG := Lib.hid (back_good (a := a) (n := k) H.good)
  have HBL := Lib.hid (back_len hgood)
  have HB : Hid (∀ W, Reads W (fun k => blkOf A = some k) 7 A l.length (its l) → Calls Try.prog 33 #[.slice A l.length c, .int .i64 (a : Int), .int .i64 (k : Int)] W fun e w' => ∃ D c', e = .returned (.tuple #[.slice D (backI l a k).length c', .bool true]) ∧ ItNew W D c' (backI l a k) w') := fun W hW =>
    r_back a k hW (by omega) (by omega) hcap hgood
  generalize backI l a k = bk at *
  clear H hf HR0 e1 e2 hk hc1 hno har q1 q2 q3 q4 q5 q6 hgood hvs hk1 hlp
  generalize l[a].v = yv at *
  generalize l[a].st = yst at *
  generalize l[a].dst = ydst at *
  generalize l[a].r = yr at *
  go_enter Try.func29, Try.ntmps29
  go_wp2_with fail
  refine HE.out.mono ?_
  rintro e W ⟨rfl, I', h', u⟩
  have HO1 := Lib.hid (own_step HO.out u.1 (fun k hk => HFAR.out k (by rwa [ownBlock_slice] at hk)))
  have HH := Lib.hid h'
  have HU := Lib.hid u
  have HRW := Lib.hid ((Reads.of_own HO1.out).mono (S' := fun k => blkOf A = some k) (fun k _ hk => by rwa [ownBlock_slice] at hk))
  clear h' u
  go_wp2_with fail
  refine (HBk.out W HRW.out).mono ?_
  rintro e w' ⟨rfl, hw⟩
  obtain rfl := hw.symm
  clear hw
  obtain ⟨b, off, rfl, x0, x1, x2, x3, x4, x5, x6⟩ := HC.out W HRW.out
  have N1 := Lib.hid (Blk.new W 57 #[.int .i64 1, .int .u64 yv, .int .i64 yst, .int .i64 ydst, .int .i64 (k : Int), .bool false, .int .i64 yr])
  have S1 : Hid (Step (fun _ => False) W (W.alloc (.cells #[.int .i64 1, .int .u64 yv, .int .i64 yst, .int .i64 ydst, .int .i64 (k : Int), .bool false, .int .i64 yr] 57))) := Step.refl.alloc _
  clear HC HBk
  go_upto_region 6 with fail
  obtain ⟨V, hV⟩ : ∃ V, V = W.alloc (.cells #[.int .i64 1, .int .u64 yv, .int .i64 yst, .int .i64 ydst, .int .i64 (k : Int), .bool false, .int .i64 yr] 57) := ⟨_, rfl⟩
  obtain ⟨N, hN⟩ : ∃ N, N = W.heap.size := ⟨_, rfl⟩
  rw [← hV, ← hN]
  rw [← hV] at N1 S1
  rw [← hN] at N1
  clear hV hN x0 x1 x2 x3 x4 x5 x6
  have y2 := N1.out.cell 2
  have y3 := N1.out.cell 3
  have y4 := N1.out.cell 4
  have y5 := N1.out.cell 5
  simp at y2 y3 y4 y5
  go_wp2_with fail
  refine (HB.out V (HRW.out.step S1.out (fun _ _ => id))).mono ?_
  rintro e U ⟨D, c', rfl, hn⟩
  have HN := Lib.hid hn
  have n5 := (N1.out.step hn.2 id).cell 5
  have n3 := (N1.out.step hn.2 id).cell 3
  simp at n5 n3
  have d3 := cls_cell (F := fun _ => False) (w0 := U) n3 id
  clear hn y2 y3 y4 y5
  go_wp2_with fail
  refine Mix.wp_region_mix [] [] (Step (fun _ => False) U) (by kernel_rfl) (by kernel_rfl) Step.refl.drew (fun hcls => ?_)
  refine Mix.wpL_reads 14 (by rfl) ?_
  simp only [List.take_succ_cons, List.drop_succ_cons, List.take_zero, List.drop_zero]
  repeat (go_big_quiet_step (fail))
  refine wpQuiet_nil ?_
  refine Mix.wpL_end ?_
  go_wp2_with fail
  go_ret2
  exact ⟨bk, HBL.out, sdo (I' := I') HU.out ⟨HH.out.quiet ((S1.out.trans HN.out.2).drew), HK.out⟩ ((S1.out.trans HN.out.2).drew.mono fun _ _ e => e.elim) (own_drew (own_base HN.out.1 (fun _ _ => Nat.zero_le _))) (fun k hk => .inr (Nat.le_trans HU.out.1.size (Nat.le_trans S1.out.size (own_ge HN.out.1 k (by rwa [ownBlock_slice]))))) HG.out⟩
/-- What a loop's branch leaves. -/
def loopI (l : List It) (a : Nat) (x : It) (k : Nat) : List It := (l.take a ++ [x]) ++ ((valsI l).drop ((valsI l).length - k)).map valIt
theorem loop_vals {a k : Nat} (ha : a < l.length) (e2 : l[a].k = 1) (hk : k ≤ (valsI (l.drop a)).length) : valsI (loopI l a l[a] k) = valsI (backI l a k) := by
  have e := vals_split (l := l) a
  rw [loopI, backI, valsI_append, valsI_append, valsI_append, valsI_map, valsI_map, e]
  rw [show valsI [l[a]] = [] from valsI_cons (by omega), List.append_nil]
  congr 1
  generalize valsI (l.take a) = p at *
  generalize valsI (l.drop a) = q at *
  rw [List.length_append, show p.length + q.length - k = p.length + (q.length - k) by omega, List.drop_length_add_append]
theorem loop_labs {a k : Nat} {x : It} : labsI 0 (loopI l a x k) = labsI 0 (l.take a ++ [x]) ∧ frsI 0 0 (loopI l a x k) = frsI 0 0 (l.take a ++ [x]) := by
  rw [loopI, labsI_append, frsI_append, (allV_map _).labs, (allV_map _).frs, List.append_nil, List.append_nil]
  exact ⟨rfl, rfl⟩
theorem loop_len {a k : Nat} (ha : a < l.length) (e2 : l[a].k = 1) (hk : k ≤ (valsI (l.drop a)).length) : (loopI l a l[a] k).length ≤ l.length := by
  rw [drop_cons ha, valsI_cons (by omega)] at hk
  have := valsI_le (l.drop (a + 1))
  rw [List.length_drop] at this
  have h3 := congrArg List.length (vals_split (l := l) a)
  rw [List.length_append] at h3
  rw [loopI, List.length_append, List.length_append, List.length_map, List.length_drop, List.length_take, List.length_singleton]
  omega
set_option maxRecDepth 100000 in
set_option maxHeartbeats 3200000 in
theorem branch_loop (n a k : Nat) (hn : n < 18446744073709551616) (H : Sta w I g A c l most) (hz : l.length ≤ 1000) (hf : Fst w I g l fs most) (ha : a < l.length) (e1 : blockI l n = a) (e2 : l[a].k = 1) (hk : n < ownN (labsI 0 l) fs) (hc1 : cntI 1 (l.drop (a + 1)) = n) (hno : ∀ x ∈ l.drop a, x.k ≠ 2) (har : l[a].ar = (k : Int)) (hgood : k ≤ (valsI (l.drop a)).length) (hlp : l[a].lp = true) :
    Calls Try.prog 29 #[.pointer (some ⟨g, 0, none⟩), .slice A l.length c, .int .u64 (n : Int)] w (SAny w I g A l.length most) := by
  obtain ⟨q1, q2, q3, q4, q5, q6⟩ := lab_split ha e2 hc1 hno H.good
  have hfl := hf.len H.good
  have hll := labs_len (l := l)
  have hvl := vals_len (l := l)
  have hvs := congrArg List.length (vals_split (l := l) a)
  rw [List.length_append] at hvs
  have hcap := own_cap H.own
  have hk1 := (H.good _ (List.getElem_mem ha)).2.1
  rw [har] at hk1
  have g0 : decide ((a : Int) < 0) = false := decide_eq_false (by omega)
  have i0 : (0 : Int) ≤ (a : Int) := by omega
  have i1 : (a : Int) < (l.length : Int) := by omega
  have HR0 := (Reads.of_own H.own).mono (S' := fun k => blkOf A = some k) (fun k _ hk => by rwa [ownBlock_slice] at hk)
  have HBk : Hid (∀ W, Reads W (fun k => blkOf A = some k) 7 A l.length (its l) → Calls Try.prog 27 #[.slice A l.length c, .int .u64 (n : Int)] W fun e w' => e = .returned (.int .i64 (a : Int)) ∧ w' = W) := fun W hW => by
    have := r_block (c := c) n hW (by omega) hn
    rwa [e1] at this
  have HC : Hid (∀ W, Reads W (fun k => blkOf A = some k) 7 A l.length (its l) → ∃ b off, A = some ⟨b, off, none⟩ ∧ W.cell? ⟨b, off + a * 7, none⟩ = some (.int .i64 1) ∧ W.cell? ⟨b, off + a * 7 + 1, none⟩ = some (.int .u64 l[a].v) ∧ W.cell? ⟨b, off + a * 7 + 2, none⟩ = some (.int .i64 l[a].st) ∧ W.cell? ⟨b, off + a * 7 + 3, none⟩ = some (.int .i64 l[a].dst) ∧ W.cell? ⟨b, off + a * 7 + 4, none⟩ = some (.int .i64 (k : Int)) ∧ W.cell? ⟨b, off + a * 7 + 5, none⟩ = some (.bool true) ∧ W.cell? ⟨b, off + a * 7 + 6, none⟩ = some (.int .i64 l[a].r)) := fun W hW => by
    obtain ⟨b, off, e4, _, _, hc⟩ := reads_cells It.cells 7 (by decide) It.len hW (k := a) ha
    have c0 := hc 0 _ rfl
    rw [Nat.add_zero, e2] at c0
    have c4 := hc 4 _ rfl
    rw [har] at c4
    have c5 := hc 5 _ rfl
    rw [hlp] at c5
    exact ⟨b, off, e4, c0, hc 1 _ rfl, hc 2 _ rfl, hc 3 _ rfl, c4, c5, hc 6 _ rfl⟩
  have HE := fs_branch_loop n (cntI 1 (l.take a)) k _ hf.1 hf.okf (by omega) (by omega) (by omega) hk q1 q2 har (by show (valsI (l.take a)).length + k ≤ _; omega) hlp
  rw [show keepF (valsI l) (Lb.mk l[a].st l[a].dst l[a].ar (valsI (l.take a)).length l[a].lp).h k = valsI (backI l a k) from keep_vals hgood, ← q4, ← loop_vals ha e2 hgood, ← (loop_labs (l := l) (a := a) (k := k) (x := l[a])).1] at HE
  replace HE := Lib.hid HE
  have HK : Hid (fs.map Fm.key = frsI 0 0 (loopI l a l[a] k)) := by unfold Hid; rw [loop_labs.2, q6]; exact hf.2.trans q5
  have HFAR := Lib.hid (hf.far H.own)
  have HO := Lib.hid H.own
  have HG : Hid (Good (loopI l a l[a] k)) := good_app (good_app (good_take H.good a) (fun x hx => by rw [List.mem_singleton.1 hx]; exact H.good _ (List.getElem_mem ha))) (good_map _)
  have HBL := Lib.hid (loop_len ha e2 hgood)
  have HB : Hid (∀ W, Reads W (fun k => blkOf A = some k) 7 A l.length (its l) → Calls Try.prog 33 #[.slice A l.length c, .int .i64 (a : Int), .int .i64 (k : Int)] W fun e w' => ∃ D c', e = .returned (.tuple #[.slice D (backI l a k).length c', .bool true]) ∧ ItNew W D c' (backI l a k) w') := fun W hW =>
    r_back a k hW (by omega) (by omega) hcap hgood
  have hTL : (l.take a).length = a := by rw [List.length_take]; omega
  have HSRC : Hid (∀ W, Reads W (fun k => blkOf A = some k) 7 A l.length (its l) → Reads W (fun k => blkOf A = some k) 7 A a (its (l.take a))) := fun W hW => by
    have := hW.take (k := a) (by omega)
    rwa [← its_take] at this
  have HXC : Hid (its [l[a]] = #[.int .i64 1, .int .u64 l[a].v, .int .i64 l[a].st, .int .i64 l[a].dst, .int .i64 (k : Int), .bool true, .int .i64 l[a].r].toList) := by
    unfold Hid
    show It.cells l[a] ++ [] = _
    rw [It.cells, e2, har, hlp]
    rfl
  have HVA : Hid (∀ W, Reads W (fun k => blkOf A = some k) 7 A l.length (its l) → Calls Try.prog 14 #[.slice A l.length c] W fun e w' => ∃ D c', e = .returned (.slice D (valsI l).length c') ∧ w'.ownsRow W.heap.size 28 1 (.slice D (valsI l).length c') (valsI l).length (u64s (valsI l)) ∧ Step (fun _ => False) W w') := fun W hW => r_values hW (by omega)
  have HPU : Hid (∀ W D2 c2 V cv (S S' : Nat → Prop), Reads W S 7 D2 (a + 1) (its (l.take a ++ [l[a]])) → Reads W S' 1 V k (u64s ((valsI l).drop ((valsI l).length - k))) → Calls Try.prog 19 #[.slice D2 (a + 1) c2, .slice V k cv] W fun e w' => ∃ D c', e = .returned (.slice D (loopI l a l[a] k).length c') ∧ ItNew W D c' (loopI l a l[a] k) w') := fun W D2 c2 V cv S S' h1 h2 => by
    have hl1 : (l.take a ++ [l[a]]).length = a + 1 := by rw [List.length_append, hTL]; rfl
    have hl2 : ((valsI l).drop ((valsI l).length - k)).length = k := by rw [List.length_drop]; omega
    have := r_push (cv := cv) (c := c2) (w := W) (l := l.take a ++ [l[a]]) (v := (valsI l).drop ((valsI l).length - k)) (V := V) (A := D2) (S := S) (S' := S') (by rw [hl1]; exact h1) (by rw [hl2]; exact h2) (by omega) (by omega)
    rw [hl1, hl2] at this
    exact this
  have HIA := Lib.hid (its_append (l.take a) [l[a]])
  have hone1 := its_one (l.take a)
  have hkv : k ≤ (valsI l).length := by omega
  generalize loopI l a l[a] k = lp at *
  generalize backI l a k = bk at *
  generalize its (l.take a ++ [l[a]]) = ipx at *
  generalize its [l[a]] = ix at *
  generalize its (l.take a) = ip at *
  generalize valsI l = vs at *
  have hm1 : 0 + a ≤ maxLen := by unfold maxLen; omega
  have hm2 : a + 1 ≤ maxLen := by unfold maxLen; omega
  have hal : a ≤ 1000 := by omega
  have i2 : (a : Int) ≤ (c : Int) := by omega
  have hwv := IntWalk.i64_in ((vs.length : Int) - (k : Int)) (by omega)
  have i3 : (0 : Int) ≤ (vs.length : Int) - (k : Int) := by omega
  have i4 : (vs.length : Int) - (k : Int) ≤ (vs.length : Int) := by omega
  have sl := slice_hn E_it A l.length c .i64 (a : Int) a rfl (by omega)
  clear H hf HR0 e1 e2 hk hc1 hno har q1 q2 q3 q4 q5 q6 hgood hvs hk1 hlp hTL
  generalize l[a].v = yv at *
  generalize l[a].st = yst at *
  generalize l[a].dst = ydst at *
  generalize l[a].r = yr at *
  go_enter Try.func29, Try.ntmps29
  go_wp2_with fail
  refine HE.out.mono ?_
  rintro e W ⟨rfl, I', h', u⟩
  have HO1 := Lib.hid (own_step HO.out u.1 (fun k hk => HFAR.out k (by rwa [ownBlock_slice] at hk)))
  have HH := Lib.hid h'
  have HU := Lib.hid u
  have HRW := Lib.hid ((Reads.of_own HO1.out).mono (S' := fun k => blkOf A = some k) (fun k _ hk => by rwa [ownBlock_slice] at hk))
  clear h' u
  go_wp2_with fail
  refine (HBk.out W HRW.out).mono ?_
  rintro e w' ⟨rfl, hw⟩
  obtain rfl := hw.symm
  clear hw
  obtain ⟨b, off, rfl, x0, x1, x2, x3, x4, x5, x6⟩ := HC.out W HRW.out
  have N1 := Lib.hid (Blk.new W 57 #[.int .i64 1, .int .u64 yv, .int .i64 yst, .int .i64 ydst, .int .i64 (k : Int), .bool true, .int .i64 yr])
  have S1 : Hid (Step (fun _ => False) W (W.alloc (.cells #[.int .i64 1, .int .u64 yv, .int .i64 yst, .int .i64 ydst, .int .i64 (k : Int), .bool true, .int .i64 yr] 57))) := Step.refl.alloc _
  clear HC HBk
  go_upto_region 6 with fail
  obtain ⟨V, hV⟩ : ∃ V, V = W.alloc (.cells #[.int .i64 1, .int .u64 yv, .int .i64 yst, .int .i64 ydst, .int .i64 (k : Int), .bool true, .int .i64 yr] 57) := ⟨_, rfl⟩
  obtain ⟨N, hN⟩ : ∃ N, N = W.heap.size := ⟨_, rfl⟩
  rw [← hV, ← hN]
  rw [← hV] at N1 S1
  rw [← hN] at N1
  clear hV hN x0 x1 x2 x3 x4 x5 x6
  have y2 := N1.out.cell 2
  have y3 := N1.out.cell 3
  have y4 := N1.out.cell 4
  have y5 := N1.out.cell 5
  simp at y2 y3 y4 y5
  go_wp2_with fail
  refine (HB.out V (HRW.out.step S1.out (fun _ _ => id))).mono ?_
  rintro e U ⟨D, c', rfl, hn⟩
  have HS2 := Lib.hid (S1.out.trans hn.2)
  have N2 := Lib.hid (N1.out.step hn.2 id)
  clear hn y2 y3 y4 y5 N1 S1 HB
  have y5 := N2.out.cell 5
  simp at y5
  go_wp2_with fail
  refine (HVA.out U (HRW.out.step HS2.out (fun _ _ => id))).mono ?_
  rintro e W4 ⟨Dv, cv, rfl, hv, hs4⟩
  have S4 := Lib.hid (HS2.out.trans hs4)
  have N4 := N2.out.step hs4 id
  have y0 := N4.cell 0
  have y1 := N4.cell 1
  have y2 := N4.cell 2
  have y3 := N4.cell 3
  have y4 := N4.cell 4
  have y5' := N4.cell 5
  have y6 := N4.cell 6
  simp at y0 y1 y2 y3 y4 y5' y6
  have d0 := cls_cell (F := fun _ => False) (w0 := W4) y0 id
  have d1 := cls_cell (F := fun _ => False) (w0 := W4) y1 id
  have d2 := cls_cell (F := fun _ => False) (w0 := W4) y2 id
  have d3 := cls_cell (F := fun _ => False) (w0 := W4) y3 id
  have d4 := cls_cell (F := fun _ => False) (w0 := W4) y4 id
  have d5 := cls_cell (F := fun _ => False) (w0 := W4) y5' id
  have d6 := cls_cell (F := fun _ => False) (w0 := W4) y6 id
  have hsrc := HSRC.out W4 (HRW.out.step S4.out (fun _ _ => id))
  have hone2 : ∀ u ∈ (#[.int .i64 1, .int .u64 yv, .int .i64 yst, .int .i64 ydst, .int .i64 (k : Int), .bool true, .int .i64 yr] : Array Value).toList, u.oneCell' = true := by
    intro u hu
    simp at hu
    rcases hu with rfl | rfl | rfl | rfl | rfl | rfl | rfl <;> rfl
  have sv := slice_ln E_u64 Dv vs.length cv .i64 ((vs.length : Int) - (k : Int)) (vs.length - k) k (cv - (vs.length - k)) (by omega) (by omega) (by omega) rfl
  have hrv := (Reads.of_own hv).cut (k := vs.length - k) (cap := cv) (by omega) (own_cap hv)
  rw [show vs.length - (vs.length - k) = k by omega, Nat.mul_one, ← u64s_drop] at hrv
  have HP : Hid (∀ W D2 c2, W.ownsRow W4.heap.size 57 7 (.slice D2 (a + 1) c2) (a + 1) ([] ++ ip ++ #[.int .i64 1, .int .u64 yv, .int .i64 yst, .int .i64 ydst, .int .i64 (k : Int), .bool true, .int .i64 yr].toList) → Step (fun _ => False) W4 W → Calls Try.prog 19 #[.slice D2 (a + 1) c2, .slice (cutA Dv cv (vs.length - k) 1) k (cv - (vs.length - k))] W fun e w' => ∃ D c', e = .returned (.slice D lp.length c') ∧ ItNew W D c' lp w') := fun W D2 c2 h1 h2 =>
    HPU.out W D2 c2 _ _ _ _ (Reads.of_own (by rw [List.nil_append, ← HXC.out, ← HIA.out] at h1; exact h1)) (by simpa [cutA] using hrv.step h2 (fun _ _ => id))
  clear hv hs4 hrv N4 y0 y1 y2 y3 y4 y5 y5' y6 HVA HPU
  go_wp2_with fail
  have hz1 : (W4.alloc (.cells #[.int .i64 1, .int .u64 yv, .int .i64 yst, .int .i64 ydst, .int .i64 (k : Int), .bool true, .int .i64 yr] 57)).heap.size = W4.heap.size + 1 := by simp
  have hz0 : (W4.alloc (.cells #[] 57)).heap.size = W4.heap.size + 1 := by simp
  have hfA : (W4.alloc (.cells #[] 57)).drew.ownsRow W4.heap.size 57 7 (.slice (some ⟨W4.heap.size, 0, none⟩) 0 0) 0 [] := own_drew (own_fresh 7 (Nat.le_refl _))
  have hrA := hsrc.step (F := fun _ => False) (Step.drew (Step.alloc Step.refl (.cells #[] 57))) (fun _ _ => id)
  have hfB : ((W4.alloc (.cells #[] 57)).alloc (.cells #[.int .i64 1, .int .u64 yv, .int .i64 yst, .int .i64 ydst, .int .i64 (k : Int), .bool true, .int .i64 yr] 57)).drew.ownsRow W4.heap.size 57 7 (.slice (some ⟨W4.heap.size, 0, none⟩) 0 0) 0 [] := own_drew ((own_fresh 7 (Nat.le_refl _)).alloc _)
  have hrB := hsrc.step (F := fun _ => False) (Step.drew (Step.alloc (Step.alloc Step.refl (.cells #[] 57)) (.cells #[.int .i64 1, .int .u64 yv, .int .i64 yst, .int .i64 ydst, .int .i64 (k : Int), .bool true, .int .i64 yr] 57))) (fun _ _ => id)
  have hxB := (reads_new (W4.alloc (.cells #[] 57)) #[.int .i64 1, .int .u64 yv, .int .i64 yst, .int .i64 ydst, .int .i64 (k : Int), .bool true, .int .i64 yr] 57 7 1 rfl).drew
  have hfC : ((W4.alloc (.cells #[.int .i64 1, .int .u64 yv, .int .i64 yst, .int .i64 ydst, .int .i64 (k : Int), .bool true, .int .i64 yr] 57)).alloc (.cells #[] 57)).drew.ownsRow W4.heap.size 57 7 (.slice (some ⟨W4.heap.size + 1, 0, none⟩) 0 0) 0 [] := by
    have := own_drew (own_fresh (w := W4.alloc (.cells #[.int .i64 1, .int .u64 yv, .int .i64 yst, .int .i64 ydst, .int .i64 (k : Int), .bool true, .int .i64 yr] 57)) (e := 57) (base := W4.heap.size) 7 (by omega))
    rwa [hz1] at this
  have hrC := hsrc.step (F := fun _ => False) (Step.drew (Step.alloc (Step.alloc Step.refl (.cells #[.int .i64 1, .int .u64 yv, .int .i64 yst, .int .i64 ydst, .int .i64 (k : Int), .bool true, .int .i64 yr] 57)) (.cells #[] 57))) (fun _ _ => id)
  have hxC := ((reads_new W4 #[.int .i64 1, .int .u64 yv, .int .i64 yst, .int .i64 ydst, .int .i64 (k : Int), .bool true, .int .i64 yr] 57 7 1 rfl).step (F := fun _ => False) (Step.alloc Step.refl (.cells #[] 57)) (fun _ _ => id)).drew
  rw [hz0] at hxB
  refine Mxt.wp_region_tree [0, 4, 6, 7, 15] [0, 4, 6, 7, 15] (.fork (.op 0 (.reads [1, 2, 3] (.fork (.op 4 (.reads [5] (.op 6 (.op 7 (.reads [8, 9, 10, 11, 12, 13, 14] (.op 15 (.reads [16, 17, 18, 19, 20, 21, 22, 23, 24, 25, 26, 27, 28, 29] .leaf))))))) (.reads [5] (.op 6 (.op 4 (.op 7 (.reads [8, 9, 10, 11, 12, 13, 14] (.op 15 (.reads [16, 17, 18, 19, 20, 21, 22, 23, 24, 25, 26, 27, 28, 29] .leaf)))))))))) (.reads [5] (.op 6 (.reads [1, 2, 3] (.op 0 (.op 4 (.op 7 (.reads [8, 9, 10, 11, 12, 13, 14] (.op 15 (.reads [16, 17, 18, 19, 20, 21, 22, 23, 24, 25, 26, 27, 28, 29] .leaf)))))))))) (Step (fun _ => False) W4) (by kernel_rfl) (by kernel_rfl) Step.refl.drew (fun hcls => ?_)
  refine Mxt.wpTL_fork ?_ ?_
  · refine Mxt.wpTL_op (by rfl) (fun K hK => ?_)
    go_simp
    refine hK _ _ (fun hlt => Mix.cl (Step.drew (Step.alloc Step.refl _))) ?_
    clear hK K
    refine Mxt.wpTL_reads ?_
    simp only [List.flatMap_cons, List.flatMap_nil, List.getElem?_cons_succ, List.getElem?_cons_zero, Option.toList_some, List.cons_append, List.nil_append]
    repeat (go_big_quiet_step (fail))
    refine wpQuiet_nil ?_
    refine Mxt.wpTL_fork ?_ ?_
    · refine Mxt.wpTL_op (by rfl) (fun K hK => ?_)
      refine step_append_new (w0 := W4) (by rfl) _ _ (by rfl) E_it (Step.drew (Step.alloc Step.refl _)) (by rfl) (hfA) (by rfl) (hrA) hone1 hm1 (by omega) ?_
      intro D1 c1 W1 hown1 hS1 hgrow1 hat1
      refine hK _ _ (fun hlt => Mix.cl hS1) ?_
      clear hK K
      simp only [Act.put, List.setIfInBounds_toArray, List.set_cons_succ, List.set_cons_zero, Nat.zero_add]
      simp only [Nat.zero_add] at hown1
      refine Mxt.wpTL_reads ?_
      simp only [List.flatMap_cons, List.flatMap_nil, List.getElem?_cons_succ, List.getElem?_cons_zero, Option.toList_some, List.cons_append, List.nil_append]
      repeat (go_big_quiet_step (fail))
      refine wpQuiet_nil ?_
      refine Mxt.wpTL_op (by rfl) (fun K hK => ?_)
      go_simp
      refine hK _ _ (fun hlt => Mix.cl (Step.alloc hS1 _)) ?_
      clear hK K
      refine Mxt.wpTL_op (by rfl) (fun K hK => ?_)
      refine step_append_new (w0 := W4) (by rfl) _ _ (by rfl) E_it (Step.alloc hS1 _) (by rfl) (hown1.alloc _) (by rfl) (reads_new W1 #[.int .i64 1, .int .u64 yv, .int .i64 yst, .int .i64 ydst, .int .i64 (k : Int), .bool true, .int .i64 yr] 57 7 1 rfl) hone2 hm2 (by omega) ?_
      intro D2 c2 W2 hown2 hS2 hgrow2 hat2
      refine hK _ _ (fun hlt => Mix.cl hS2) ?_
      clear hK K
      simp only [Act.put, List.setIfInBounds_toArray, List.set_cons_succ, List.set_cons_zero, Nat.zero_add]
      refine Mxt.wpTL_reads ?_
      simp only [List.flatMap_cons, List.flatMap_nil, List.getElem?_cons_succ, List.getElem?_cons_zero, Option.toList_some, List.cons_append, List.nil_append]
      repeat (go_big_quiet_step (fail))
      refine wpQuiet_nil ?_
      refine Mxt.wpTL_op (by rfl) (fun K hK => ?_)
      go_simp
      refine (HP.out W2 D2 c2 hown2 hS2).mono ?_
      rintro e U ⟨D3, c3, rfl, hn⟩
      have hst := hS2.trans hn.2
      refine hK _ _ (fun hlt => Mix.cl hst) ?_
      clear hK K
      have HN := Lib.hid hn
      clear hn
      refine Mxt.wpTL_reads ?_
      simp only [List.flatMap_cons, List.flatMap_nil, List.getElem?_cons_succ, List.getElem?_cons_zero, Option.toList_some, List.cons_append, List.nil_append]
      repeat (go_big_quiet_step (fail))
      refine wpQuiet_nil ?_
      refine Mxt.wpTL_leaf ?_
      go_wp2_with fail
      go_ret2
      exact ⟨lp, HBL.out, sdo (I' := I') HU.out ⟨HH.out.quiet ((S4.out.trans hst)), HK.out⟩ ((S4.out.trans hst).mono fun _ _ e => e.elim) (own_base HN.out.1 (fun _ _ => Nat.zero_le _)) (fun k hk => .inr (Nat.le_trans HU.out.1.size (Nat.le_trans (S4.out.trans hS2).size (own_ge HN.out.1 k (by rwa [ownBlock_slice]))))) HG.out⟩
    · refine Mxt.wpTL_reads ?_
      simp only [List.flatMap_cons, List.flatMap_nil, List.getElem?_cons_succ, List.getElem?_cons_zero, Option.toList_some, List.cons_append, List.nil_append]
      repeat (go_big_quiet_step (fail))
      refine wpQuiet_nil ?_
      refine Mxt.wpTL_op (by rfl) (fun K hK => ?_)
      go_simp
      refine hK _ _ (fun hlt => Mix.cl (Step.drew (Step.alloc (Step.alloc Step.refl _) _))) ?_
      clear hK K
      refine Mxt.wpTL_op (by rfl) (fun K hK => ?_)
      refine step_append_new (w0 := W4) (by rfl) _ _ (by rfl) E_it (Step.drew (Step.alloc (Step.alloc Step.refl _) _)) (by rfl) (hfB) (by rfl) (hrB) hone1 hm1 (by omega) ?_
      intro D1 c1 W1 hown1 hS1 hgrow1 hat1
      refine hK _ _ (fun hlt => Mix.cl hS1) ?_
      clear hK K
      simp only [Act.put, List.setIfInBounds_toArray, List.set_cons_succ, List.set_cons_zero, Nat.zero_add]
      simp only [Nat.zero_add] at hown1
      have hx1 := hxB.step (Step.grown (F := fun k => blkOf (some (⟨W4.heap.size, 0, none⟩ : Addr)) = some k) Step.refl hgrow1 (fun k hk => .inl hk)) (fun k hk e => by simp [blkOf] at e; omega)
      refine Mxt.wpTL_op (by rfl) (fun K hK => ?_)
      refine step_append_new (w0 := W4) (by rfl) _ _ (by rfl) E_it (hS1) (by rfl) (hown1) (by rfl) (hx1) hone2 hm2 (by omega) ?_
      intro D2 c2 W2 hown2 hS2 hgrow2 hat2
      refine hK _ _ (fun hlt => Mix.cl hS2) ?_
      clear hK K
      simp only [Act.put, List.setIfInBounds_toArray, List.set_cons_succ, List.set_cons_zero, Nat.zero_add]
      refine Mxt.wpTL_reads ?_
      simp only [List.flatMap_cons, List.flatMap_nil, List.getElem?_cons_succ, List.getElem?_cons_zero, Option.toList_some, List.cons_append, List.nil_append]
      repeat (go_big_quiet_step (fail))
      refine wpQuiet_nil ?_
      refine Mxt.wpTL_op (by rfl) (fun K hK => ?_)
      go_simp
      refine (HP.out W2 D2 c2 hown2 hS2).mono ?_
      rintro e U ⟨D3, c3, rfl, hn⟩
      have hst := hS2.trans hn.2
      refine hK _ _ (fun hlt => Mix.cl hst) ?_
      clear hK K
      have HN := Lib.hid hn
      clear hn
      refine Mxt.wpTL_reads ?_
      simp only [List.flatMap_cons, List.flatMap_nil, List.getElem?_cons_succ, List.getElem?_cons_zero, Option.toList_some, List.cons_append, List.nil_append]
      repeat (go_big_quiet_step (fail))
      refine wpQuiet_nil ?_
      refine Mxt.wpTL_leaf ?_
      go_wp2_with fail
      go_ret2
      exact ⟨lp, HBL.out, sdo (I' := I') HU.out ⟨HH.out.quiet ((S4.out.trans hst)), HK.out⟩ ((S4.out.trans hst).mono fun _ _ e => e.elim) (own_base HN.out.1 (fun _ _ => Nat.zero_le _)) (fun k hk => .inr (Nat.le_trans HU.out.1.size (Nat.le_trans (S4.out.trans hS2).size (own_ge HN.out.1 k (by rwa [ownBlock_slice]))))) HG.out⟩
  · refine Mxt.wpTL_reads ?_
    simp only [List.flatMap_cons, List.flatMap_nil, List.getElem?_cons_succ, List.getElem?_cons_zero, Option.toList_some, List.cons_append, List.nil_append]
    repeat (go_big_quiet_step (fail))
    refine wpQuiet_nil ?_
    refine Mxt.wpTL_op (by rfl) (fun K hK => ?_)
    go_simp
    refine hK _ _ (fun hlt => Mix.cl (Step.drew (Step.alloc Step.refl _))) ?_
    clear hK K
    refine Mxt.wpTL_reads ?_
    simp only [List.flatMap_cons, List.flatMap_nil, List.getElem?_cons_succ, List.getElem?_cons_zero, Option.toList_some, List.cons_append, List.nil_append]
    repeat (go_big_quiet_step (fail))
    refine wpQuiet_nil ?_
    refine Mxt.wpTL_op (by rfl) (fun K hK => ?_)
    go_simp
    refine hK _ _ (fun hlt => Mix.cl (Step.drew (Step.alloc (Step.alloc Step.refl _) _))) ?_
    clear hK K
    refine Mxt.wpTL_op (by rfl) (fun K hK => ?_)
    refine step_append_new (w0 := W4) (by rfl) _ _ (by rfl) E_it (Step.drew (Step.alloc (Step.alloc Step.refl _) _)) (by rfl) (hfC) (by rfl) (hrC) hone1 hm1 (by omega) ?_
    intro D1 c1 W1 hown1 hS1 hgrow1 hat1
    refine hK _ _ (fun hlt => Mix.cl hS1) ?_
    clear hK K
    simp only [Act.put, List.setIfInBounds_toArray, List.set_cons_succ, List.set_cons_zero, Nat.zero_add]
    simp only [Nat.zero_add] at hown1
    have hx1 := hxC.step (Step.grown (F := fun k => blkOf (some (⟨W4.heap.size + 1, 0, none⟩ : Addr)) = some k) Step.refl hgrow1 (fun k hk => .inl hk)) (fun k hk e => by simp [blkOf] at e; omega)
    refine Mxt.wpTL_op (by rfl) (fun K hK => ?_)
    refine step_append_new (w0 := W4) (by rfl) _ _ (by rfl) E_it (hS1) (by rfl) (hown1) (by rfl) (hx1) hone2 hm2 (by omega) ?_
    intro D2 c2 W2 hown2 hS2 hgrow2 hat2
    refine hK _ _ (fun hlt => Mix.cl hS2) ?_
    clear hK K
    simp only [Act.put, List.setIfInBounds_toArray, List.set_cons_succ, List.set_cons_zero, Nat.zero_add]
    refine Mxt.wpTL_reads ?_
    simp only [List.flatMap_cons, List.flatMap_nil, List.getElem?_cons_succ, List.getElem?_cons_zero, Option.toList_some, List.cons_append, List.nil_append]
    repeat (go_big_quiet_step (fail))
    refine wpQuiet_nil ?_
    refine Mxt.wpTL_op (by rfl) (fun K hK => ?_)
    go_simp
    refine (HP.out W2 D2 c2 hown2 hS2).mono ?_
    rintro e U ⟨D3, c3, rfl, hn⟩
    have hst := hS2.trans hn.2
    refine hK _ _ (fun hlt => Mix.cl hst) ?_
    clear hK K
    have HN := Lib.hid hn
    clear hn
    refine Mxt.wpTL_reads ?_
    simp only [List.flatMap_cons, List.flatMap_nil, List.getElem?_cons_succ, List.getElem?_cons_zero, Option.toList_some, List.cons_append, List.nil_append]
    repeat (go_big_quiet_step (fail))
    refine wpQuiet_nil ?_
    refine Mxt.wpTL_leaf ?_
    go_wp2_with fail
    go_ret2
    exact ⟨lp, HBL.out, sdo (I' := I') HU.out ⟨HH.out.quiet ((S4.out.trans hst)), HK.out⟩ ((S4.out.trans hst).mono fun _ _ e => e.elim) (own_base HN.out.1 (fun _ _ => Nat.zero_le _)) (fun k hk => .inr (Nat.le_trans HU.out.1.size (Nat.le_trans (S4.out.trans hS2).size (own_ge HN.out.1 k (by rwa [ownBlock_slice]))))) HG.out⟩
set_option maxRecDepth 100000 in
theorem branch_walk (n : Nat) (hn : n < 18446744073709551616) (H : Sta w I g A c l most) (hz : l.length ≤ 1000) :
    Calls Try.prog 29 #[.pointer (some ⟨g, 0, none⟩), .slice A l.length c, .int .u64 (n : Int)] w (SAny w I g A l.length most) := by
  obtain ⟨fs, hf⟩ := H.fst
  rcases hf.block H.good n with ⟨h1, h2⟩ | ⟨a, ha, e1, e2, hk, hc1, hno⟩
  · exact branch_far n hn H hz hf h1 h2
  · have hk1 := (H.good _ (List.getElem_mem ha)).2.1
    obtain ⟨k, har⟩ : ∃ k : Nat, l[a].ar = (k : Int) := ⟨l[a].ar.toNat, by omega⟩
    by_cases hfew : (valsI (l.drop a)).length < k
    · exact branch_few n a k hn H hz hf ha e1 e2 hk hc1 hno har hfew
    · cases hlp : l[a].lp with
      | false => exact branch_out n a k hn H hz hf ha e1 e2 hk hc1 hno har (by omega) hlp
      | true => exact branch_loop n a k hn H hz hf ha e1 e2 hk hc1 hno har (by omega) hlp
end
end Go.Proofs.Ytokchoocelmdoaa
