/-
  creelref22: Close.
-/
import Derived.Test.YtfechgpdlabgaaaCtlF
import Derived.Test.YtfechgpdlabgaaaCtl
set_option linter.unusedVariables false
set_option linter.unusedSimpArgs false
namespace Go.Proofs.Ytfechgpdlabgaaa
open Go.RowKit

theorem bkres_new {w : World} {A : Option Addr} {c n : Nat} {l : List Bk} {w' : World} (h : BkNew w A c l w') (hn : l.length = n) : Reads w' (fun k => w.heap.size ≤ k ∧ k < w'.heap.size) 4 A n (bks l) := by
  subst hn
  refine (Reads.of_own h.1).mono fun k hk ho => ⟨own_ge h.1 k ho, hk⟩
/-- The two blocks that Close makes first: its result, and 'next'. -/
theorem two_blks (w : World) : Blk ((w.alloc (.cells #[.int .i64 0, .string ⟨#[]⟩, .string ⟨#[]⟩, .bool false] 104)).alloc (.cells #[.int .i64 0, .string ⟨#[]⟩, .string ⟨#[]⟩, .bool false] 104)) w.heap.size 104 #[.int .i64 0, .string ⟨#[]⟩, .string ⟨#[]⟩, .bool false] ∧ Blk ((w.alloc (.cells #[.int .i64 0, .string ⟨#[]⟩, .string ⟨#[]⟩, .bool false] 104)).alloc (.cells #[.int .i64 0, .string ⟨#[]⟩, .string ⟨#[]⟩, .bool false] 104)) (w.heap.size + 1) 104 #[.int .i64 0, .string ⟨#[]⟩, .string ⟨#[]⟩, .bool false] ∧
    Step (fun _ => False) w ((w.alloc (.cells #[.int .i64 0, .string ⟨#[]⟩, .string ⟨#[]⟩, .bool false] 104)).alloc (.cells #[.int .i64 0, .string ⟨#[]⟩, .string ⟨#[]⟩, .bool false] 104)) := by
  have hz : (w.alloc (.cells #[.int .i64 0, .string ⟨#[]⟩, .string ⟨#[]⟩, .bool false] 104)).heap.size = w.heap.size + 1 := by simp
  exact ⟨(Blk.new w _ _).alloc _, by rw [← hz]; exact Blk.new _ _ _, (Step.refl.alloc _).alloc _⟩

set_option maxRecDepth 100000 in
set_option maxHeartbeats 1600000 in
theorem r22_close_none {w : World} {A : Option Addr} {c : Nat} :
    Calls Try.prog 100 #[.slice A 0 c] w fun e w' => e = .returned (.tuple #[.slice A 0 c, (default : Bk).val, .int .i64 30]) ∧ Step (fun _ => False) w w' := by
  obtain ⟨bN, bM, s2⟩ := two_blks w
  go_enter Try.func100, Try.ntmps100
  go_wp2_with fail
  generalize hN : w.heap.size = N at *
  generalize hW : (w.alloc (.cells #[.int .i64 0, .string ⟨#[]⟩, .string ⟨#[]⟩, .bool false] 104)).alloc (.cells #[.int .i64 0, .string ⟨#[]⟩, .string ⟨#[]⟩, .bool false] 104) = W at *
  have p0 := bM.cell 0
  have p1 := bM.cell 1
  have p2 := bM.cell 2
  have p3 := bM.cell 3
  simp at p0 p1 p2 p3
  clear hW bM
  have HBN := Lib.hid bN
  have n0 := bN.cell 0
  have n1 := bN.cell 1
  have n2 := bN.cell 2
  have n3 := bN.cell 3
  have nf := bN.frozen
  simp at n0 n1 n2 n3
  have d0 := cls_cell (F := fun k => k = N) (w0 := W) p0 (by intro h; simp at h <;> omega)
  have d1 := cls_cell (F := fun k => k = N) (w0 := W) p1 (by intro h; simp at h <;> omega)
  have d2 := cls_cell (F := fun k => k = N) (w0 := W) p2 (by intro h; simp at h <;> omega)
  have d3 := cls_cell (F := fun k => k = N) (w0 := W) p3 (by intro h; simp at h <;> omega)
  clear bN
  refine Mix.wp_region_mix [3] [3] (Step (fun k => k = N) W) (by kernel_rfl) (by kernel_rfl) Step.refl.drew (fun hcls => ?_)
  refine Mix.wpL_reads 3 (by rfl) ?_
  simp only [List.take_succ_cons, List.drop_succ_cons, List.take_zero, List.drop_zero]
  repeat (go_big_quiet_step (fail))
  refine wpQuiet_nil ?_
  refine Mix.wpL_op (by rfl) (fun K hK => ?_)
  go_simp
  refine hK _ _ (fun hlt => Mix.cl (four_step (F := fun k => k = N) Step.refl (.inl rfl)).drew) ?_
  clear hK K
  refine Mix.wpL_reads 1 (by rfl) ?_
  simp only [List.take_succ_cons, List.drop_succ_cons, List.take_zero, List.drop_zero]
  repeat (go_big_quiet_step (fail))
  refine wpQuiet_nil ?_
  refine Mix.wpL_end ?_
  go_wp2
  have bz := four_new (x := .int .i64 0) (y := .string ⟨#[]⟩) (z := .string ⟨#[]⟩) (u := .bool false) HBN.out
  have z0 := bz.cell 0
  have z1 := bz.cell 1
  have z2 := bz.cell 2
  have z3 := bz.cell 3
  simp at z0 z1 z2 z3
  refine bodyPost_ret (v := .tuple #[.slice A 0 c, (default : Bk).val, .int .i64 30]) (by simp [results, Try.results100, go_sem, z0, z1, z2, z3]; try rfl) rfl ⟨rfl, s2.trans' (four_step (F := fun k => k = N) Step.refl (.inl rfl)).drew (fun k hk => .inr (by rw [hN]; exact Nat.le_of_eq hk.symm))⟩

set_option maxRecDepth 100000 in
set_option maxHeartbeats 1600000 in
theorem r22_close_err {w : World} {S : Nat → Prop} {A : Option Addr} {c : Nat} {l : List Bk} (b : Bk) (o : List UInt8) (er : Int) (hv : Reads w S 4 A l.length (bks l)) (hl : l.length ≤ 100000) (hb : l[l.length - 1]? = some b) (hn : b.own.length ≤ 1000000) (hr : b.res.length ≤ 1000000)
    (hw : wantAllF b.own b.res.reverse 0 b.dead = (o, er)) (he : (er == 0) = false) (he2 : (er != 0) = true) :
    Calls Try.prog 100 #[.slice A l.length c] w fun e w' => ∃ A' c', e = .returned (.tuple #[.slice A' (l.set (l.length - 1) { b with own := o }).length c', (default : Bk).val, .int .i64 er]) ∧ BkNew w A' c' (l.set (l.length - 1) { b with own := o }) w' := by
  have hpos : l.length - 1 < l.length := (List.getElem?_eq_some_iff.1 hb).1
  obtain rfl : l[l.length - 1] = b := (List.getElem?_eq_some_iff.1 hb).2
  obtain ⟨bN0, bM0, s2⟩ := two_blks w
  have HWA := Lib.hid (r22_wantAll (c := c) _ l[l.length - 1].res o er (hv.step s2 (fun _ _ => id)) hl hb hn hr hw)
  obtain ⟨gb, off, rfl, _, hbl, hc⟩ := reads_cells Bk.cells 4 (by decide) Bk.four (hv.step s2 (fun _ _ => id)) hpos
  have c1 := hc 1 _ rfl
  have n0 : ((l.length : Int) == 0) = false := beq_eq_false_iff_ne.2 (by omega)
  have i0 : (0 : Int) ≤ (l.length : Int) - 1 := by omega
  have i1 : (l.length : Int) - 1 < (l.length : Int) := by omega
  have hwr := IntWalk.i64_in ((l.length : Int) - 1) (by omega)
  have htn : ((l.length : Int) - 1).toNat = l.length - 1 := by omega
  generalize l[l.length - 1] = b at *
  have HB0 := Lib.hid bN0
  have HB1 := Lib.hid bM0
  have S2 := Lib.hid s2
  clear hb hc hv hw bN0 bM0 s2 hn
  go_enter Try.func100, Try.ntmps100
  go_wp2_with fail
  refine HWA.out.mono ?_
  rintro e W ⟨A', c', rfl, hnew⟩
  have bN := HB0.out.step hnew.2 id
  have bM := HB1.out.step hnew.2 id
  have sW := S2.out.trans hnew.2
  have hlen : (l.set (l.length - 1) { b with own := o }).length = l.length := List.length_set
  have hsz : w.heap.size + 2 ≤ ((w.alloc (.cells #[.int .i64 0, .string ⟨#[]⟩, .string ⟨#[]⟩, .bool false] 104)).alloc (.cells #[.int .i64 0, .string ⟨#[]⟩, .string ⟨#[]⟩, .bool false] 104)).heap.size := by simp
  have hrd := bkres_new hnew hlen
  have hown := own_base hnew.1 (fun k hk => Nat.le_trans S2.out.size (own_ge hnew.1 k hk))
  rw [hlen] at hown
  have p0 := bM.cell 0
  have p1 := bM.cell 1
  have p2 := bM.cell 2
  have p3 := bM.cell 3
  simp at p0 p1 p2 p3
  have hlast : ((l.set (l.length - 1) { b with own := o })[l.length - 1]'(by rw [hlen]; omega)) = { b with own := o } := by simp
  obtain ⟨gq, oq, rfl, hgq, hbq, hcq⟩ := reads_cells (l := l.set (l.length - 1) { b with own := o }) Bk.cells 4 (by decide) Bk.four (by rw [hlen]; exact hrd) (k := l.length - 1) (by rw [hlen]; omega)
  rw [hlast] at hcq
  have k0 := hcq 0 _ rfl
  have k1 := hcq 1 _ rfl
  have k2 := hcq 2 _ rfl
  have k3 := hcq 3 _ rfl
  rw [Nat.add_zero] at k0
  dsimp only at k0 k1 k2 k3
  have HO := Lib.hid hown
  have SW := Lib.hid sW
  have hgn : gq ≠ w.heap.size := by omega
  clear hcq hrd hnew hown sW hlast HWA
  go_wp2_with fail
  generalize hN : w.heap.size = N at *
  have HBN := Lib.hid bN
  have n0 := bN.cell 0
  have n1 := bN.cell 1
  have n2 := bN.cell 2
  have n3 := bN.cell 3
  have nf := bN.frozen
  simp at n0 n1 n2 n3
  have d0 := cls_cell (F := fun k => k = N) (w0 := W) p0 (by intro h; simp at h <;> omega)
  have d1 := cls_cell (F := fun k => k = N) (w0 := W) p1 (by intro h; simp at h <;> omega)
  have d2 := cls_cell (F := fun k => k = N) (w0 := W) p2 (by intro h; simp at h <;> omega)
  have d3 := cls_cell (F := fun k => k = N) (w0 := W) p3 (by intro h; simp at h <;> omega)
  clear bN
  refine Mix.wp_region_mix [4] [4] (Step (fun k => k = N) W) (by kernel_rfl) (by kernel_rfl) Step.refl.drew (fun hcls => ?_)
  refine Mix.wpL_reads 4 (by rfl) ?_
  simp only [List.take_succ_cons, List.drop_succ_cons, List.take_zero, List.drop_zero]
  repeat (go_big_quiet_step (fail))
  refine wpQuiet_nil ?_
  refine Mix.wpL_op (by rfl) (fun K hK => ?_)
  go_simp
  refine hK _ _ (fun hlt => Mix.cl (four_step (F := fun k => k = N) Step.refl (.inl rfl)).drew) ?_
  clear hK K
  refine Mix.wpL_reads 1 (by rfl) ?_
  simp only [List.take_succ_cons, List.drop_succ_cons, List.take_zero, List.drop_zero]
  repeat (go_big_quiet_step (fail))
  refine wpQuiet_nil ?_
  refine Mix.wpL_end ?_
  go_wp2
  have hq := own_step HO.out (four_step (F := fun k => k = N) (x := .int .i64 0) (y := .string ⟨#[]⟩) (z := .string ⟨#[]⟩) (u := .bool false) Step.refl (.inl rfl)).drew (fun k hk e => by rw [ownBlock_slice] at hk; simp [blkOf] at hk; omega)
  have bz := four_new (x := .int .i64 0) (y := .string ⟨#[]⟩) (z := .string ⟨#[]⟩) (u := .bool false) HBN.out
  have z0 := bz.cell 0
  have z1 := bz.cell 1
  have z2 := bz.cell 2
  have z3 := bz.cell 3
  simp at z0 z1 z2 z3
  refine bodyPost_ret (v := .tuple #[.slice (some ⟨gq, oq, none⟩) l.length c', (default : Bk).val, .int .i64 er]) (by simp [results, Try.results100, go_sem, z0, z1, z2, z3]; try rfl) rfl ⟨some ⟨gq, oq, none⟩, c', by rw [hlen], ⟨by rw [hlen, hN]; exact hq, SW.out.trans' (four_step (F := fun k => k = N) Step.refl (.inl rfl)).drew (fun k hk => .inr (by rw [hN]; exact Nat.le_of_eq hk.symm))⟩⟩

set_option maxRecDepth 100000 in
set_option maxHeartbeats 1600000 in
theorem r22_close_more {w : World} {S : Nat → Prop} {A : Option Addr} {c : Nat} {l : List Bk} (b : Bk) (o : List UInt8) (er : Int) (hv : Reads w S 4 A l.length (bks l)) (hl : l.length ≤ 100000) (hb : l[l.length - 1]? = some b) (hn : b.own.length ≤ 1000000) (hr : b.res.length ≤ 1000000)
    (hw : wantAllF b.own b.res.reverse 0 b.dead = (o, er)) (he : (er == 0) = true) (ho : o ≠ []) :
    Calls Try.prog 100 #[.slice A l.length c] w fun e w' => ∃ A' c', e = .returned (.tuple #[.slice A' (l.set (l.length - 1) { b with own := o }).length c', (default : Bk).val, .int .i64 21]) ∧ BkNew w A' c' (l.set (l.length - 1) { b with own := o }) w' := by
  have hpos : l.length - 1 < l.length := (List.getElem?_eq_some_iff.1 hb).1
  obtain rfl : l[l.length - 1] = b := (List.getElem?_eq_some_iff.1 hb).2
  obtain ⟨bN0, bM0, s2⟩ := two_blks w
  have HWA := Lib.hid (r22_wantAll (c := c) _ l[l.length - 1].res o er (hv.step s2 (fun _ _ => id)) hl hb hn hr hw)
  obtain ⟨gb, off, rfl, _, hbl, hc⟩ := reads_cells Bk.cells 4 (by decide) Bk.four (hv.step s2 (fun _ _ => id)) hpos
  have c1 := hc 1 _ rfl
  have n0 : ((l.length : Int) == 0) = false := beq_eq_false_iff_ne.2 (by omega)
  have i0 : (0 : Int) ≤ (l.length : Int) - 1 := by omega
  have i1 : (l.length : Int) - 1 < (l.length : Int) := by omega
  have hwr := IntWalk.i64_in ((l.length : Int) - 1) (by omega)
  have htn : ((l.length : Int) - 1).toNat = l.length - 1 := by omega
  generalize l[l.length - 1] = b at *
  have HB0 := Lib.hid bN0
  have HB1 := Lib.hid bM0
  have S2 := Lib.hid s2
  clear hb hc hv hw bN0 bM0 s2 hn
  go_enter Try.func100, Try.ntmps100
  go_wp2_with fail
  refine HWA.out.mono ?_
  rintro e W ⟨A', c', rfl, hnew⟩
  have bN := HB0.out.step hnew.2 id
  have bM := HB1.out.step hnew.2 id
  have sW := S2.out.trans hnew.2
  have hlen : (l.set (l.length - 1) { b with own := o }).length = l.length := List.length_set
  have hsz : w.heap.size + 2 ≤ ((w.alloc (.cells #[.int .i64 0, .string ⟨#[]⟩, .string ⟨#[]⟩, .bool false] 104)).alloc (.cells #[.int .i64 0, .string ⟨#[]⟩, .string ⟨#[]⟩, .bool false] 104)).heap.size := by simp
  have hrd := bkres_new hnew hlen
  have hown := own_base hnew.1 (fun k hk => Nat.le_trans S2.out.size (own_ge hnew.1 k hk))
  rw [hlen] at hown
  have p0 := bM.cell 0
  have p1 := bM.cell 1
  have p2 := bM.cell 2
  have p3 := bM.cell 3
  simp at p0 p1 p2 p3
  have hlast : ((l.set (l.length - 1) { b with own := o })[l.length - 1]'(by rw [hlen]; omega)) = { b with own := o } := by simp
  obtain ⟨gq, oq, rfl, hgq, hbq, hcq⟩ := reads_cells (l := l.set (l.length - 1) { b with own := o }) Bk.cells 4 (by decide) Bk.four (by rw [hlen]; exact hrd) (k := l.length - 1) (by rw [hlen]; omega)
  rw [hlast] at hcq
  have k0 := hcq 0 _ rfl
  have k1 := hcq 1 _ rfl
  have k2 := hcq 2 _ rfl
  have k3 := hcq 3 _ rfl
  rw [Nat.add_zero] at k0
  dsimp only at k0 k1 k2 k3
  have HO := Lib.hid hown
  have SW := Lib.hid sW
  have hgn : gq ≠ w.heap.size := by omega
  clear hcq hrd hnew hown sW hlast HWA
  have hne : (!(str o).toList.isEmpty) = true := by rw [str_toList]; cases o; exact absurd rfl ho; rfl
  go_wp2_with fail
  generalize hN : w.heap.size = N at *
  have HBN := Lib.hid bN
  have n0 := bN.cell 0
  have n1 := bN.cell 1
  have n2 := bN.cell 2
  have n3 := bN.cell 3
  have nf := bN.frozen
  simp at n0 n1 n2 n3
  have d0 := cls_cell (F := fun k => k = N) (w0 := W) p0 (by intro h; simp at h <;> omega)
  have d1 := cls_cell (F := fun k => k = N) (w0 := W) p1 (by intro h; simp at h <;> omega)
  have d2 := cls_cell (F := fun k => k = N) (w0 := W) p2 (by intro h; simp at h <;> omega)
  have d3 := cls_cell (F := fun k => k = N) (w0 := W) p3 (by intro h; simp at h <;> omega)
  clear bN
  refine Mix.wp_region_mix [4] [4] (Step (fun k => k = N) W) (by kernel_rfl) (by kernel_rfl) Step.refl.drew (fun hcls => ?_)
  refine Mix.wpL_reads 4 (by rfl) ?_
  simp only [List.take_succ_cons, List.drop_succ_cons, List.take_zero, List.drop_zero]
  repeat (go_big_quiet_step (fail))
  refine wpQuiet_nil ?_
  refine Mix.wpL_op (by rfl) (fun K hK => ?_)
  go_simp
  refine hK _ _ (fun hlt => Mix.cl (four_step (F := fun k => k = N) Step.refl (.inl rfl)).drew) ?_
  clear hK K
  refine Mix.wpL_reads 1 (by rfl) ?_
  simp only [List.take_succ_cons, List.drop_succ_cons, List.take_zero, List.drop_zero]
  repeat (go_big_quiet_step (fail))
  refine wpQuiet_nil ?_
  refine Mix.wpL_end ?_
  go_wp2
  have hq := own_step HO.out (four_step (F := fun k => k = N) (x := .int .i64 0) (y := .string ⟨#[]⟩) (z := .string ⟨#[]⟩) (u := .bool false) Step.refl (.inl rfl)).drew (fun k hk e => by rw [ownBlock_slice] at hk; simp [blkOf] at hk; omega)
  have bz := four_new (x := .int .i64 0) (y := .string ⟨#[]⟩) (z := .string ⟨#[]⟩) (u := .bool false) HBN.out
  have z0 := bz.cell 0
  have z1 := bz.cell 1
  have z2 := bz.cell 2
  have z3 := bz.cell 3
  simp at z0 z1 z2 z3
  refine bodyPost_ret (v := .tuple #[.slice (some ⟨gq, oq, none⟩) l.length c', (default : Bk).val, .int .i64 21]) (by simp [results, Try.results100, go_sem, z0, z1, z2, z3]; try rfl) rfl ⟨some ⟨gq, oq, none⟩, c', by rw [hlen], ⟨by rw [hlen, hN]; exact hq, SW.out.trans' (four_step (F := fun k => k = N) Step.refl (.inl rfl)).drew (fun k hk => .inr (by rw [hN]; exact Nat.le_of_eq hk.symm))⟩⟩

set_option maxRecDepth 100000 in
set_option maxHeartbeats 1600000 in
theorem r22_close_ok {w : World} {S : Nat → Prop} {A : Option Addr} {c : Nat} {l : List Bk} (b : Bk) (hv : Reads w S 4 A l.length (bks l)) (hl : l.length ≤ 100000) (hb : l[l.length - 1]? = some b) (hn : b.own.length ≤ 1000000) (hr : b.res.length ≤ 1000000)
    (hw : wantAllF b.own b.res.reverse 0 b.dead = ([], 0)) :
    Calls Try.prog 100 #[.slice A l.length c] w fun e w' => ∃ A' c', e = .returned (.tuple #[.slice A' (l.length - 1) c', .agg #[.int .i64 b.op, .string (str b.res), .string ⟨#[]⟩, .bool b.dead], .int .i64 0]) ∧ BkNew w A' c' l.dropLast w' := by
  have hpos : l.length - 1 < l.length := (List.getElem?_eq_some_iff.1 hb).1
  obtain rfl : l[l.length - 1] = b := (List.getElem?_eq_some_iff.1 hb).2
  obtain ⟨bN0, bM0, s2⟩ := two_blks w
  have HWA := Lib.hid (r22_wantAll (c := c) _ l[l.length - 1].res [] 0 (hv.step s2 (fun _ _ => id)) hl hb hn hr hw)
  obtain ⟨gb, off, rfl, _, hbl, hc⟩ := reads_cells Bk.cells 4 (by decide) Bk.four (hv.step s2 (fun _ _ => id)) hpos
  have c1 := hc 1 _ rfl
  have n0 : ((l.length : Int) == 0) = false := beq_eq_false_iff_ne.2 (by omega)
  have i0 : (0 : Int) ≤ (l.length : Int) - 1 := by omega
  have i1 : (l.length : Int) - 1 < (l.length : Int) := by omega
  have hwr := IntWalk.i64_in ((l.length : Int) - 1) (by omega)
  have htn : ((l.length : Int) - 1).toNat = l.length - 1 := by omega
  generalize l[l.length - 1] = b at *
  have HB0 := Lib.hid bN0
  have HB1 := Lib.hid bM0
  have S2 := Lib.hid s2
  clear hb hc hv hw bN0 bM0 s2 hn
  go_enter Try.func100, Try.ntmps100
  go_wp2_with fail
  refine HWA.out.mono ?_
  rintro e W ⟨A', c', rfl, hnew⟩
  have bN := HB0.out.step hnew.2 id
  have bM := HB1.out.step hnew.2 id
  have sW := S2.out.trans hnew.2
  have hlen : (l.set (l.length - 1) { b with own := [] }).length = l.length := List.length_set
  have hsz : w.heap.size + 2 ≤ ((w.alloc (.cells #[.int .i64 0, .string ⟨#[]⟩, .string ⟨#[]⟩, .bool false] 104)).alloc (.cells #[.int .i64 0, .string ⟨#[]⟩, .string ⟨#[]⟩, .bool false] 104)).heap.size := by simp
  have hrd := bkres_new hnew hlen
  have hown := own_base hnew.1 (fun k hk => Nat.le_trans S2.out.size (own_ge hnew.1 k hk))
  rw [hlen] at hown
  have p0 := bM.cell 0
  have p1 := bM.cell 1
  have p2 := bM.cell 2
  have p3 := bM.cell 3
  simp at p0 p1 p2 p3
  have hlast : ((l.set (l.length - 1) { b with own := [] })[l.length - 1]'(by rw [hlen]; omega)) = { b with own := [] } := by simp
  obtain ⟨gq, oq, rfl, hgq, hbq, hcq⟩ := reads_cells (l := l.set (l.length - 1) { b with own := [] }) Bk.cells 4 (by decide) Bk.four (by rw [hlen]; exact hrd) (k := l.length - 1) (by rw [hlen]; omega)
  rw [hlast] at hcq
  have k0 := hcq 0 _ rfl
  have k1 := hcq 1 _ rfl
  have k2 := hcq 2 _ rfl
  have k3 := hcq 3 _ rfl
  rw [Nat.add_zero] at k0
  have hcap := own_cap hown
  dsimp only at k0 k1 k2 k3
  have HO := Lib.hid hown
  have SW := Lib.hid sW
  have hgn : gq ≠ w.heap.size := by omega
  clear hcq hrd hnew hown sW hlast HWA
  have hne : (!(str []).toList.isEmpty) = false := by rw [str_toList]; rfl
  have sh := slice_hn E_bk (some ⟨gq, oq, none⟩) l.length c' .i64 ((l.length : Int) - 1) (l.length - 1) (by omega) (by omega)
  go_wp2_with fail
  generalize hN : w.heap.size = N at *
  have HBN := Lib.hid bN
  have n0 := bN.cell 0
  have n1 := bN.cell 1
  have n2 := bN.cell 2
  have n3 := bN.cell 3
  have nf := bN.frozen
  simp at n0 n1 n2 n3
  have d0 := cls_cell (F := fun k => k = N) (w0 := W) k0 (by intro h; simp at h <;> omega)
  have d1 := cls_cell (F := fun k => k = N) (w0 := W) k1 (by intro h; simp at h <;> omega)
  have d2 := cls_cell (F := fun k => k = N) (w0 := W) k2 (by intro h; simp at h <;> omega)
  have d3 := cls_cell (F := fun k => k = N) (w0 := W) k3 (by intro h; simp at h <;> omega)
  clear bN
  refine Mix.wp_region_mix [12] [12] (Step (fun k => k = N) W) (by kernel_rfl) (by kernel_rfl) Step.refl.drew (fun hcls => ?_)
  refine Mix.wpL_reads 12 (by rfl) ?_
  simp only [List.take_succ_cons, List.drop_succ_cons, List.take_zero, List.drop_zero]
  repeat (go_big_quiet_step (fail))
  refine wpQuiet_nil ?_
  refine Mix.wpL_op (by rfl) (fun K hK => ?_)
  go_simp
  refine hK _ _ (fun hlt => Mix.cl (four_step (F := fun k => k = N) Step.refl (.inl rfl)).drew) ?_
  clear hK K
  refine Mix.wpL_reads 1 (by rfl) ?_
  simp only [List.take_succ_cons, List.drop_succ_cons, List.take_zero, List.drop_zero]
  repeat (go_big_quiet_step (fail))
  refine wpQuiet_nil ?_
  refine Mix.wpL_end ?_
  go_wp2
  have hq := own_step HO.out (four_step (F := fun k => k = N) (x := .int .i64 b.op) (y := .string (str b.res)) (z := .string (str [])) (u := .bool b.dead) Step.refl (.inl rfl)).drew (fun k hk e => by rw [ownBlock_slice] at hk; simp [blkOf] at hk; omega)
  have hq2 := own_take hq (k := l.length - 1) (by omega)
  have hdl : (l.set (l.length - 1) { b with own := [] }).take (l.length - 1) = l.dropLast := by rw [List.take_set_of_le (Nat.le_refl _), List.dropLast_eq_take]
  rw [bks_take, hdl] at hq2
  have hdn : l.dropLast.length = l.length - 1 := List.length_dropLast
  have bz := four_new (x := .int .i64 b.op) (y := .string (str b.res)) (z := .string (str [])) (u := .bool b.dead) HBN.out
  have z0 := bz.cell 0
  have z1 := bz.cell 1
  have z2 := bz.cell 2
  have z3 := bz.cell 3
  simp at z0 z1 z2 z3
  refine bodyPost_ret (v := .tuple #[.slice (some ⟨gq, oq, none⟩) (l.length - 1) c', .agg #[.int .i64 b.op, .string (str b.res), .string ⟨#[]⟩, .bool b.dead], .int .i64 0]) (by simp [results, Try.results100, go_sem, z0, z1, z2, z3]; try rfl) rfl ⟨some ⟨gq, oq, none⟩, c', rfl, ⟨by rw [hdn, hN]; exact hq2, SW.out.trans' (four_step (F := fun k => k = N) Step.refl (.inl rfl)).drew (fun k hk => .inr (by rw [hN]; exact Nat.le_of_eq hk.symm))⟩⟩
end Go.Proofs.Ytfechgpdlabgaaa
