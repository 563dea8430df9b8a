/-
  ctrl.Control: Dead, Close.
-/
import Derived.Test.YtpebdfgfikjkeaaCtlB
set_option linter.unusedVariables false
set_option linter.unusedSimpArgs false
namespace Go.Proofs.Ytpebdfgfikjkeaa
open Go.RowKit

/-- A block's mark of being dead. -/
def deadF (fs : List Fr) : List Fr := fs.set (fs.length - 1) { fs.getD (fs.length - 1) default with dead := true }
theorem CtlAt.mark {w w1 : World} {I Is : Nat → Prop} {g gs c gf : Nat} {l : List UInt8} {fs : List Fr} {f : Fr} (h : CtlAt w g gs (some ⟨gf, 0, none⟩) c Is l fs) (hI : ∀ k, I k ↔ (k = g ∨ blkOf (some ⟨gf, 0, none⟩) = some k ∨ Is k)) (hf : fs[fs.length - 1]? = some f) :
    CtlUp w I g gs l (deadF fs) (w.setCell ⟨gf, (fs.length - 1) * 4 + 3, none⟩ (.bool true)) := by
  have hpos : fs.length - 1 < fs.length := (List.getElem?_eq_some_iff.1 hf).1
  have hsep := h.sep
  have hne := h.ne
  have hgd : fs.getD (fs.length - 1) default = fs[fs.length - 1] := by rw [List.getD, List.getElem?_eq_getElem hpos]; rfl
  have ho := own_setAt (j := (fs.length - 1) * 4 + 3) (u := .bool true) h.own (by rw [frs_length]; omega)
  have e : (frs fs).set ((fs.length - 1) * 4 + 3) (.bool true) = frs (deadF fs) := by
    unfold deadF frs
    refine flat_set Fr.cells 4 Fr.four fs (fs.length - 1) 3 _ _ hpos (by omega) ?_
    rw [hgd]
    rfl
  rw [e] at ho
  have hlen : (deadF fs).length = fs.length := by unfold deadF; simp
  have hs : Step (fun k => blkOf (some ⟨gf, 0, none⟩) = some k) w (w.setCell ⟨gf, (fs.length - 1) * 4 + 3, none⟩ (.bool true)) := Step.setCell (F := fun k => blkOf (some ⟨gf, 0, none⟩) = some k) (p := ⟨gf, (fs.length - 1) * 4 + 3, none⟩) Step.refl (.inl rfl) _
  refine ⟨I, ⟨some ⟨gf, 0, none⟩, c, Is, ⟨?_, by rw [hlen]; exact ho, h.stk.keep hs (fun k hk => (hsep k hk).2)⟩, hI⟩, hs.mono (fun k _ hk => (hI k).2 (.inr (.inl hk))), fun k hk => .inl hk⟩
  rw [hlen]
  exact h.blk.step hs hne

set_option maxRecDepth 100000 in
set_option maxHeartbeats 1600000 in
theorem ctl_dead_none {w : World} {I : Nat → Prop} {g gs : Nat} {l : List UInt8} (h : Ctl w I g gs l []) : Calls Try.prog 77 #[.pointer (some ⟨g, 0, none⟩)] w fun e w' => e = .returned (.tuple #[]) ∧ w = w' := by
  obtain ⟨D, c, Is, h, hI⟩ := h
  have c0 := h.blk.cell 0
  simp at c0
  go_enter Try.func77, Try.ntmps77
  go_wp2
  exact bodyPost_ret (v := .tuple #[]) (by simp [results, Try.results77, go_sem]) rfl ⟨rfl, rfl⟩

set_option maxRecDepth 100000 in
set_option maxHeartbeats 1600000 in
theorem ctl_dead {w : World} {I : Nat → Prop} {g gs : Nat} {l : List UInt8} {fs : List Fr} (f : Fr) (h : Ctl w I g gs l fs) (hl : fs.length ≤ 100000) (hn : l.length ≤ 1000000) (hf : fs[fs.length - 1]? = some f) :
    Calls Try.prog 77 #[.pointer (some ⟨g, 0, none⟩)] w fun e w' => e = .returned (.tuple #[]) ∧ CtlUp w I g gs (cutF l f.height) (deadF fs) w' := by
  have HF := Lib.hid hf
  obtain ⟨D, c, Is, h, hI⟩ := h
  have HI := Lib.hid hI
  have H := Lib.hid h
  have c0 := h.blk.cell 0
  have c1 := h.blk.cell 1
  simp at c0 c1
  have hsep := h.sep
  have hpos : fs.length - 1 < fs.length := (List.getElem?_eq_some_iff.1 hf).1
  obtain rfl : fs[fs.length - 1] = f := (List.getElem?_eq_some_iff.1 hf).2
  obtain ⟨gf, rfl, hlt, k0, k1, k2, k3, kf⟩ := h.cells (k := fs.length - 1) hpos
  have n0 : ((fs.length : Int) == 0) = false := beq_eq_false_iff_ne.2 (by omega)
  have i0 : (0 : Int) ≤ (fs.length : Int) - 1 := by omega
  have i1 : (fs.length : Int) - 1 < (fs.length : Int) := by omega
  have hw := IntWalk.i64_in ((fs.length : Int) - 1) (by omega)
  have ht : ((fs.length : Int) - 1).toNat = fs.length - 1 := by omega
  have hgl := h.blk.lt
  generalize fs[fs.length - 1] = f at *
  clear hf
  have H := Lib.hid h
  have HP := Lib.hid hpos
  clear h hI
  go_enter Try.func77, Try.ntmps77
  go_wp2_with fail
  go_quiet (fail)
  go_wp2_with fail
  have hD : ¬ Is gf := fun hk => (hsep gf hk).2 rfl
  have hG : ¬ Is g := fun hk => (hsep g hk).1 rfl
  have d1 := cls_cell (F := Is) (w0 := w.drewN nq) c1 hG
  have d2 := cls_cell (F := Is) (w0 := w.drewN nq) k2 hD
  have HK := Lib.hid (H.out.stk.quiet (Step.refl.drewN nq))
  have HS : Hid (Step (fun _ => False) w (w.drewN nq)) := Step.refl.drewN nq
  clear k0 k1 k2 k3 c0 c1
  generalize w.drewN nq = W at *
  refine Mix.wp_region_mix [8] [] (Step Is W) (by kernel_rfl) (by kernel_rfl) Step.refl.drew (fun hcls => ?_)
  refine Mix.wpL_reads 8 (by rfl) ?_
  simp only [List.take_succ_cons, List.drop_succ_cons, List.take_zero, List.drop_zero]
  repeat (go_big_quiet_step (fail))
  refine wpQuiet_nil ?_
  refine Mix.wpL_op (by rfl) (fun K hK => ?_)
  go_simp
  refine (stkR_cut (f.height : Int) (HK.out.quiet Step.refl.drew) hn).mono ?_
  rintro e w3 ⟨rfl, t3⟩
  refine hK _ _ (fun hlt => absurd hlt (by decide)) ?_
  clear hK K
  refine Mix.wpL_end ?_
  have U := H.out.stack HI.out (w' := w3) (m := cutF l (f.height : Int)) (by obtain ⟨I3, h3, u3⟩ := t3; exact ⟨I3, h3, Upd.after (HS.out.drew) u3⟩)
  obtain ⟨I4, U4, u4⟩ := U
  obtain ⟨D4, c4, Is4, h4, hI4⟩ := U4
  have hb := H.out.blk.step (F := Is) (w' := w3) (by obtain ⟨I3, h3, u3⟩ := t3; exact ((HS.out.mono (fun _ _ hh => hh.elim)).drew.trans u3.1)) hG
  have hbb : D4 = some ⟨gf, 0, none⟩ ∧ c4 = c := by
    have e := h4.blk
    unfold Blk at e hb
    rw [hb] at e
    injection e with e
    injection e with e
    have e0 := congrArg (fun a : Array Value => a[0]?) e
    simp at e0
    exact ⟨e0.1.symm, e0.2.symm⟩
  obtain ⟨rfl, rfl⟩ := hbb
  obtain ⟨gf', e1, _, _, _, _, m3, mf⟩ := h4.cells (k := fs.length - 1) HP.out
  injection e1 with e1
  injection e1 with e1
  subst e1
  have mf3 := mf ((fs.length - 1) * 4 + 3)
  have H4 := Lib.hid h4
  have U4 := Lib.hid u4
  have HI4 := Lib.hid hI4
  clear hb h4 u4 hI4 mf t3
  go_wp2
  go_end0
  refine ⟨rfl, ?_⟩
  obtain ⟨I5, h5, u5⟩ := H4.out.mark (w1 := w3) HI4.out HF.out
  exact ⟨I5, h5, U4.out.trans u5⟩

/-- Close: the stack, the blocks, the block that ended, the error. -/
def closeF (l : List UInt8) (fs : List Fr) (f : Fr) : List UInt8 × List Fr × Fr × Int :=
  let r := wantAllF l f.res.reverse f.height f.dead
  if r.2 ≠ 0 then (r.1, fs, default, r.2) else if r.1.length ≠ f.height then (r.1, fs, default, 21) else (r.1, fs.dropLast, f, 0)

set_option maxRecDepth 100000 in
set_option maxHeartbeats 1600000 in
theorem ctl_close_none {w : World} {I : Nat → Prop} {g gs : Nat} {l : List UInt8} (h : Ctl w I g gs l []) : Calls Try.prog 79 #[.pointer (some ⟨g, 0, none⟩)] w fun e w' => e = .returned (.tuple #[(default : Fr).val, .int .i64 30]) ∧ Step (fun _ => False) w w' := by
  have HT := Lib.hid (ctl_top_none (h.quiet (Step.refl.alloc (.cells #[.int .u8 0, .string ⟨#[]⟩, .int .i64 0, .bool false] 136))))
  have hlt : w.heap.size < (w.alloc (.cells #[.int .u8 0, .string ⟨#[]⟩, .int .i64 0, .bool false] 136)).heap.size := by simp
  have b0 : Blk (w.alloc (.cells #[.int .u8 0, .string ⟨#[]⟩, .int .i64 0, .bool false] 136)) w.heap.size 136 _ := Blk.new w _ _
  have s0 : Step (fun _ => False) w (w.alloc (.cells #[.int .u8 0, .string ⟨#[]⟩, .int .i64 0, .bool false] 136)) := Step.refl.alloc _
  clear h
  go_enter Try.func79, Try.ntmps79
  go_wp2_with fail
  refine HT.out.mono ?_
  rintro e w1 ⟨rfl, s1⟩
  have b1 := b0.step s1 id
  have m0 := b1.cell 0
  have m1 := b1.cell 1
  have m2 := b1.cell 2
  have m3 := b1.cell 3
  have mf := b1.frozen
  have S1 := Lib.hid (s0.trans s1)
  simp at m0 m1 m2 m3
  have hlt1 : w.heap.size < w1.heap.size := Nat.lt_of_lt_of_le hlt s1.size
  have HB1 := Lib.hid b1
  clear b0 s0 s1 HT hlt b1
  generalize hn : w.heap.size = N at m0 m1 m2 m3 mf hlt1 HB1 ⊢
  have HN := Lib.hid hn
  clear hn
  go_wp2
  have bz := (four_new (x := .int .u8 0) (y := .string ⟨#[]⟩) (z := .int .i64 0) (u := .bool false) HB1.out).alloc (.cells #[.int .u8 0, .string ⟨#[]⟩, .int .i64 0, .bool false] 136)
  have z0 := bz.cell 0
  have z1 := bz.cell 1
  have z2 := bz.cell 2
  have z3 := bz.cell 3
  simp at z0 z1 z2 z3
  refine bodyPost_ret (v := .tuple #[(default : Fr).val, .int .i64 30]) ?_ rfl ⟨rfl, (four_step S1.out (.inr (Nat.le_of_eq HN.out))).alloc _⟩
  simp [results, Try.results79, go_sem, z0, z1, z2, z3]
  rfl

set_option maxRecDepth 100000 in
set_option maxHeartbeats 1600000 in
theorem ctl_close_err {w : World} {I : Nat → Prop} {g gs : Nat} {l : List UInt8} {fs : List Fr} (f : Fr) (l1 : List UInt8) (er : Int) (h : Ctl w I g gs l fs) (hl : fs.length ≤ 100000) (hn : l.length ≤ 1000000) (hr : f.res.length ≤ 1000000) (hf : fs[fs.length - 1]? = some f)
    (hw : wantAllF l f.res.reverse f.height f.dead = (l1, er)) (he : (er != 0) = true) :
    Calls Try.prog 79 #[.pointer (some ⟨g, 0, none⟩)] w fun e w' => e = .returned (.tuple #[(default : Fr).val, .int .i64 er]) ∧ CtlUp w I g gs l1 fs w' := by
  have HT := Lib.hid (ctl_top f (h.quiet (Step.refl.alloc (.cells #[.int .u8 0, .string ⟨#[]⟩, .int .i64 0, .bool false] 136))) hl hf)
  have hlt : w.heap.size < (w.alloc (.cells #[.int .u8 0, .string ⟨#[]⟩, .int .i64 0, .bool false] 136)).heap.size := by simp
  have b0 : Blk (w.alloc (.cells #[.int .u8 0, .string ⟨#[]⟩, .int .i64 0, .bool false] 136)) w.heap.size 136 _ := Blk.new w _ _
  have s0 : Step (fun _ => False) w (w.alloc (.cells #[.int .u8 0, .string ⟨#[]⟩, .int .i64 0, .bool false] 136)) := Step.refl.alloc _
  have HF := Lib.hid hf
  have H := Lib.hid h
  have HW := Lib.hid hw
  clear h hf hw
  go_enter Try.func79, Try.ntmps79
  go_wp2_with fail
  refine HT.out.mono ?_
  rintro e w1 ⟨rfl, s1⟩
  unfold Fr.val
  go_wp2_with fail
  have b1 := (b0.step s1 id).alloc (.cells #[.int .u8 f.op, .string (str f.res), .int .i64 (f.height : Int), .bool f.dead] 136)
  have bf : Blk (w1.alloc (.cells #[.int .u8 f.op, .string (str f.res), .int .i64 (f.height : Int), .bool f.dead] 136)) w1.heap.size 136 _ := Blk.new w1 _ _
  have hlt1 : w.heap.size < w1.heap.size := Nat.lt_of_lt_of_le hlt s1.size
  have S1 := Lib.hid ((s0.trans s1).alloc (.cells #[.int .u8 f.op, .string (str f.res), .int .i64 (f.height : Int), .bool f.dead] 136))
  have H1 := Lib.hid (H.out.quiet S1.out)
  have hin := H.out.in_
  have a0 : ¬ I w.heap.size := fun hk => by have := hin _ hk; omega
  have a1 : ¬ I w1.heap.size := fun hk => by have := hin _ hk; omega
  have HE := Lib.hid (ctl_wantAll f f.res H1.out hl hn HF.out hr)
  rw [HW.out] at HE
  have HIN : Hid (In w I) := hin
  clear s0 s1 hlt HT hin
  have hle : w.heap.size ≤ w1.heap.size := by omega
  refine HE.out.mono ?_
  rintro e w2 ⟨rfl, I2, h2, u2⟩
  have b2 := b1.step u2.1 a0
  have bf2 := bf.step u2.1 a1
  have a2 : ¬ I2 w.heap.size := fun hk => by
    rcases u2.2 _ hk with e | e
    · exact a0 e
    · simp at e; omega
  have a3 : ¬ I2 w1.heap.size := fun hk => by
    rcases u2.2 _ hk with e | e
    · exact a1 e
    · simp at e; omega
  have U2 := Lib.hid (Upd.after S1.out u2)
  have hz2 : w1.heap.size < w2.heap.size := by have := u2.1.size; simp at this; omega
  have H2 := Lib.hid h2
  clear b1 bf a0 a1 u2 h2 HE
  generalize hn0 : w.heap.size = N at *
  generalize hn1 : w1.heap.size = M at *
  have HN := Lib.hid hn0
  clear hn0 hn1
  have HB2 := Lib.hid b2
  have m0 := b2.cell 0
  have m1 := b2.cell 1
  have m2 := b2.cell 2
  have m3 := b2.cell 3
  have mf := b2.frozen
  have f0 := bf2.cell 0
  have f1 := bf2.cell 1
  have f2 := bf2.cell 2
  have f3 := bf2.cell 3
  simp at m0 m1 m2 m3 f0 f1 f2 f3

  obtain ⟨W3, hW3⟩ : ∃ W, W = w2 := ⟨_, rfl⟩
  subst hW3
  obtain ⟨I3, hI3⟩ : ∃ I, I = I2 := ⟨_, rfl⟩
  subst hI3
  have HB3 := HB2
  have H3 := H2
  have U3 := U2
  have A3 := Lib.hid a2
  clear a2 a3 HB2 H2 U2 b2 bf2 hz2
  go_wp2
  have bz := four_new (x := .int .u8 0) (y := .string ⟨#[]⟩) (z := .int .i64 0) (u := .bool false) HB3.out
  have z0 := bz.cell 0
  have z1 := bz.cell 1
  have z2 := bz.cell 2
  have z3 := bz.cell 3
  simp at z0 z1 z2 z3
  have hst : Step (fun k => k = N) W3 ((((W3.setCell ⟨N, 0, none⟩ (.int .u8 0)).setCell ⟨N, 1, none⟩ (.string ⟨#[]⟩)).setCell ⟨N, 2, none⟩ (.int .i64 0)).setCell ⟨N, 3, none⟩ (.bool false)) := four_step (F := fun k => k = N) Step.refl (.inl rfl)
  refine bodyPost_ret (v := .tuple #[(default : Fr).val, .int .i64 er]) ?_ rfl ⟨rfl, I3, H3.out.keep hst (fun k hk e => A3.out (e ▸ hk)), U3.out.write hst (fun k e => by rw [HN.out]; exact Nat.le_of_eq e.symm)⟩
  simp [results, Try.results79, go_sem, z0, z1, z2, z3]
  try rfl

set_option maxRecDepth 100000 in
set_option maxHeartbeats 1600000 in
theorem ctl_close_more {w : World} {I : Nat → Prop} {g gs : Nat} {l : List UInt8} {fs : List Fr} (f : Fr) (l1 : List UInt8) (er : Int) (h : Ctl w I g gs l fs) (hl : fs.length ≤ 100000) (hn : l.length ≤ 1000000) (hr : f.res.length ≤ 1000000) (hf : fs[fs.length - 1]? = some f)
    (hw : wantAllF l f.res.reverse f.height f.dead = (l1, er)) (he : (er != 0) = false) (hne : ((l1.length : Int) != (f.height : Int)) = true) :
    Calls Try.prog 79 #[.pointer (some ⟨g, 0, none⟩)] w fun e w' => e = .returned (.tuple #[(default : Fr).val, .int .i64 21]) ∧ CtlUp w I g gs l1 fs w' := by
  have HT := Lib.hid (ctl_top f (h.quiet (Step.refl.alloc (.cells #[.int .u8 0, .string ⟨#[]⟩, .int .i64 0, .bool false] 136))) hl hf)
  have hlt : w.heap.size < (w.alloc (.cells #[.int .u8 0, .string ⟨#[]⟩, .int .i64 0, .bool false] 136)).heap.size := by simp
  have b0 : Blk (w.alloc (.cells #[.int .u8 0, .string ⟨#[]⟩, .int .i64 0, .bool false] 136)) w.heap.size 136 _ := Blk.new w _ _
  have s0 : Step (fun _ => False) w (w.alloc (.cells #[.int .u8 0, .string ⟨#[]⟩, .int .i64 0, .bool false] 136)) := Step.refl.alloc _
  have HF := Lib.hid hf
  have H := Lib.hid h
  have HW := Lib.hid hw
  clear h hf hw
  go_enter Try.func79, Try.ntmps79
  go_wp2_with fail
  refine HT.out.mono ?_
  rintro e w1 ⟨rfl, s1⟩
  unfold Fr.val
  go_wp2_with fail
  have b1 := (b0.step s1 id).alloc (.cells #[.int .u8 f.op, .string (str f.res), .int .i64 (f.height : Int), .bool f.dead] 136)
  have bf : Blk (w1.alloc (.cells #[.int .u8 f.op, .string (str f.res), .int .i64 (f.height : Int), .bool f.dead] 136)) w1.heap.size 136 _ := Blk.new w1 _ _
  have hlt1 : w.heap.size < w1.heap.size := Nat.lt_of_lt_of_le hlt s1.size
  have S1 := Lib.hid ((s0.trans s1).alloc (.cells #[.int .u8 f.op, .string (str f.res), .int .i64 (f.height : Int), .bool f.dead] 136))
  have H1 := Lib.hid (H.out.quiet S1.out)
  have hin := H.out.in_
  have a0 : ¬ I w.heap.size := fun hk => by have := hin _ hk; omega
  have a1 : ¬ I w1.heap.size := fun hk => by have := hin _ hk; omega
  have HE := Lib.hid (ctl_wantAll f f.res H1.out hl hn HF.out hr)
  rw [HW.out] at HE
  have HIN : Hid (In w I) := hin
  clear s0 s1 hlt HT hin
  have hle : w.heap.size ≤ w1.heap.size := by omega
  refine HE.out.mono ?_
  rintro e w2 ⟨rfl, I2, h2, u2⟩
  have b2 := b1.step u2.1 a0
  have bf2 := bf.step u2.1 a1
  have a2 : ¬ I2 w.heap.size := fun hk => by
    rcases u2.2 _ hk with e | e
    · exact a0 e
    · simp at e; omega
  have a3 : ¬ I2 w1.heap.size := fun hk => by
    rcases u2.2 _ hk with e | e
    · exact a1 e
    · simp at e; omega
  have U2 := Lib.hid (Upd.after S1.out u2)
  have hz2 : w1.heap.size < w2.heap.size := by have := u2.1.size; simp at this; omega
  have H2 := Lib.hid h2
  clear b1 bf a0 a1 u2 h2 HE
  generalize hn0 : w.heap.size = N at *
  generalize hn1 : w1.heap.size = M at *
  have HN := Lib.hid hn0
  clear hn0 hn1
  have HB2 := Lib.hid b2
  have m0 := b2.cell 0
  have m1 := b2.cell 1
  have m2 := b2.cell 2
  have m3 := b2.cell 3
  have mf := b2.frozen
  have f0 := bf2.cell 0
  have f1 := bf2.cell 1
  have f2 := bf2.cell 2
  have f3 := bf2.cell 3
  simp at m0 m1 m2 m3 f0 f1 f2 f3

  obtain ⟨D, c, Is, h, hI⟩ := H2.out
  have c0 := h.blk.cell 0
  have c1 := h.blk.cell 1
  have fg := h.blk.frozen 0
  simp at c0 c1
  have HA := Lib.hid h
  have HI := Lib.hid hI
  have A3 := Lib.hid a2
  have A4 := Lib.hid a3
  have ng : g ≠ N := fun e => a2 (e ▸ (hI g).2 (.inl rfl))
  have ng' : g ≠ M := fun e => a3 (e ▸ (hI g).2 (.inl rfl))
  have HG := Lib.hid ng
  have HG' := Lib.hid ng'
  have HBF := Lib.hid bf2
  clear h hI a2 a3 b2 bf2
  have d1 := cls_cell (F := fun _ => False) c1 id
  have d2 := cls_cell (F := fun _ => False) f2 id
  go_wp2_with fail
  refine Mix.wp_region_mix [4] [4] (Step (fun _ => False) w2) (by kernel_rfl) (by kernel_rfl) Step.refl.drew (fun hcls => ?_)
  refine Mix.wpL_reads 4 (by rfl) ?_
  simp only [List.take_succ_cons, List.drop_succ_cons, List.take_zero, List.drop_zero]
  repeat (go_big_quiet_step (fail))
  refine wpQuiet_nil ?_
  refine Mix.wpL_op (by rfl) (fun K hK => ?_)
  go_simp
  refine (stkR_len (HA.out.stk.quiet Step.refl.drew)).mono ?_
  rintro e w3 ⟨rfl, rfl⟩
  refine hK _ _ (fun hlt => Mix.cl (Step.refl.drew)) ?_
  clear hK K
  refine Mix.wpL_reads 3 (by rfl) ?_
  simp only [List.take_succ_cons, List.drop_succ_cons, List.take_zero, List.drop_zero]
  repeat (go_big_quiet_step (fail))
  refine wpQuiet_nil ?_
  refine Mix.wpL_end ?_
  clear d1 d2
  have HB3 := Lib.hid HB2.out.drew
  have H3 := Lib.hid (H2.out.quiet Step.refl.drew)
  have U3 := Lib.hid U2.out.drew
  have m0 := HB2.out.drew.cell 0
  have m1 := HB2.out.drew.cell 1
  have m2 := HB2.out.drew.cell 2
  have m3 := HB2.out.drew.cell 3
  have mf := HB2.out.drew.frozen
  obtain ⟨I3, hI3⟩ : ∃ I, I = I2 := ⟨_, rfl⟩
  subst hI3
  clear c0 c1 fg f0 f1 f2 f3 HA HI HBF
  generalize w2.drew = W3 at *
  simp at m0 m1 m2 m3
  go_wp2
  have bz := four_new (x := .int .u8 0) (y := .string ⟨#[]⟩) (z := .int .i64 0) (u := .bool false) HB3.out
  have z0 := bz.cell 0
  have z1 := bz.cell 1
  have z2 := bz.cell 2
  have z3 := bz.cell 3
  simp at z0 z1 z2 z3
  have hst : Step (fun k => k = N) W3 ((((W3.setCell ⟨N, 0, none⟩ (.int .u8 0)).setCell ⟨N, 1, none⟩ (.string ⟨#[]⟩)).setCell ⟨N, 2, none⟩ (.int .i64 0)).setCell ⟨N, 3, none⟩ (.bool false)) := four_step (F := fun k => k = N) Step.refl (.inl rfl)
  refine bodyPost_ret (v := .tuple #[(default : Fr).val, .int .i64 21]) ?_ rfl ⟨rfl, I3, H3.out.keep hst (fun k hk e => A3.out (e ▸ hk)), U3.out.write hst (fun k e => by rw [HN.out]; exact Nat.le_of_eq e.symm)⟩
  simp [results, Try.results79, go_sem, z0, z1, z2, z3]
  try rfl

set_option maxRecDepth 100000 in
set_option maxHeartbeats 1600000 in
theorem ctl_close_ok {w : World} {I : Nat → Prop} {g gs : Nat} {l : List UInt8} {fs : List Fr} (f : Fr) (l1 : List UInt8) (er : Int) (h : Ctl w I g gs l fs) (hl : fs.length ≤ 100000) (hn : l.length ≤ 1000000) (hr : f.res.length ≤ 1000000) (hf : fs[fs.length - 1]? = some f)
    (hw : wantAllF l f.res.reverse f.height f.dead = (l1, er)) (he : (er != 0) = false) (hne : ((l1.length : Int) != (f.height : Int)) = false) :
    Calls Try.prog 79 #[.pointer (some ⟨g, 0, none⟩)] w fun e w' => e = .returned (.tuple #[(f).val, .int .i64 0]) ∧ CtlUp w I g gs l1 fs.dropLast w' := by
  have HT := Lib.hid (ctl_top f (h.quiet (Step.refl.alloc (.cells #[.int .u8 0, .string ⟨#[]⟩, .int .i64 0, .bool false] 136))) hl hf)
  have hlt : w.heap.size < (w.alloc (.cells #[.int .u8 0, .string ⟨#[]⟩, .int .i64 0, .bool false] 136)).heap.size := by simp
  have b0 : Blk (w.alloc (.cells #[.int .u8 0, .string ⟨#[]⟩, .int .i64 0, .bool false] 136)) w.heap.size 136 _ := Blk.new w _ _
  have s0 : Step (fun _ => False) w (w.alloc (.cells #[.int .u8 0, .string ⟨#[]⟩, .int .i64 0, .bool false] 136)) := Step.refl.alloc _
  have HF := Lib.hid hf
  have H := Lib.hid h
  have HW := Lib.hid hw
  clear h hf hw
  go_enter Try.func79, Try.ntmps79
  go_wp2_with fail
  refine HT.out.mono ?_
  rintro e w1 ⟨rfl, s1⟩
  unfold Fr.val
  go_wp2_with fail
  have b1 := (b0.step s1 id).alloc (.cells #[.int .u8 f.op, .string (str f.res), .int .i64 (f.height : Int), .bool f.dead] 136)
  have bf : Blk (w1.alloc (.cells #[.int .u8 f.op, .string (str f.res), .int .i64 (f.height : Int), .bool f.dead] 136)) w1.heap.size 136 _ := Blk.new w1 _ _
  have hlt1 : w.heap.size < w1.heap.size := Nat.lt_of_lt_of_le hlt s1.size
  have S1 := Lib.hid ((s0.trans s1).alloc (.cells #[.int .u8 f.op, .string (str f.res), .int .i64 (f.height : Int), .bool f.dead] 136))
  have H1 := Lib.hid (H.out.quiet S1.out)
  have hin := H.out.in_
  have a0 : ¬ I w.heap.size := fun hk => by have := hin _ hk; omega
  have a1 : ¬ I w1.heap.size := fun hk => by have := hin _ hk; omega
  have HE := Lib.hid (ctl_wantAll f f.res H1.out hl hn HF.out hr)
  rw [HW.out] at HE
  have HIN : Hid (In w I) := hin
  clear s0 s1 hlt HT hin
  have hle : w.heap.size ≤ w1.heap.size := by omega
  refine HE.out.mono ?_
  rintro e w2 ⟨rfl, I2, h2, u2⟩
  have b2 := b1.step u2.1 a0
  have bf2 := bf.step u2.1 a1
  have a2 : ¬ I2 w.heap.size := fun hk => by
    rcases u2.2 _ hk with e | e
    · exact a0 e
    · simp at e; omega
  have a3 : ¬ I2 w1.heap.size := fun hk => by
    rcases u2.2 _ hk with e | e
    · exact a1 e
    · simp at e; omega
  have U2 := Lib.hid (Upd.after S1.out u2)
  have hz2 : w1.heap.size < w2.heap.size := by have := u2.1.size; simp at this; omega
  have H2 := Lib.hid h2
  clear b1 bf a0 a1 u2 h2 HE
  generalize hn0 : w.heap.size = N at *
  generalize hn1 : w1.heap.size = M at *
  have HN := Lib.hid hn0
  clear hn0 hn1
  have HB2 := Lib.hid b2
  have m0 := b2.cell 0
  have m1 := b2.cell 1
  have m2 := b2.cell 2
  have m3 := b2.cell 3
  have mf := b2.frozen
  have f0 := bf2.cell 0
  have f1 := bf2.cell 1
  have f2 := bf2.cell 2
  have f3 := bf2.cell 3
  simp at m0 m1 m2 m3 f0 f1 f2 f3

  obtain ⟨D, c, Is, h, hI⟩ := H2.out
  have c0 := h.blk.cell 0
  have c1 := h.blk.cell 1
  have fg := h.blk.frozen 0
  simp at c0 c1
  have HA := Lib.hid h
  have HI := Lib.hid hI
  have A3 := Lib.hid a2
  have A4 := Lib.hid a3
  have ng : g ≠ N := fun e => a2 (e ▸ (hI g).2 (.inl rfl))
  have ng' : g ≠ M := fun e => a3 (e ▸ (hI g).2 (.inl rfl))
  have HG := Lib.hid ng
  have HG' := Lib.hid ng'
  have HBF := Lib.hid bf2
  clear h hI a2 a3 b2 bf2
  have d1 := cls_cell (F := fun _ => False) c1 id
  have d2 := cls_cell (F := fun _ => False) f2 id
  go_wp2_with fail
  refine Mix.wp_region_mix [4] [4] (Step (fun _ => False) w2) (by kernel_rfl) (by kernel_rfl) Step.refl.drew (fun hcls => ?_)
  refine Mix.wpL_reads 4 (by rfl) ?_
  simp only [List.take_succ_cons, List.drop_succ_cons, List.take_zero, List.drop_zero]
  repeat (go_big_quiet_step (fail))
  refine wpQuiet_nil ?_
  refine Mix.wpL_op (by rfl) (fun K hK => ?_)
  go_simp
  refine (stkR_len (HA.out.stk.quiet Step.refl.drew)).mono ?_
  rintro e w3 ⟨rfl, rfl⟩
  refine hK _ _ (fun hlt => Mix.cl (Step.refl.drew)) ?_
  clear hK K
  refine Mix.wpL_reads 3 (by rfl) ?_
  simp only [List.take_succ_cons, List.drop_succ_cons, List.take_zero, List.drop_zero]
  repeat (go_big_quiet_step (fail))
  refine wpQuiet_nil ?_
  refine Mix.wpL_end ?_
  clear d1 d2
  go_wp2_with fail
  have hpos : fs.length - 1 < fs.length := (List.getElem?_eq_some_iff.1 HF.out).1
  have i0 : (0 : Int) ≤ (fs.length : Int) - 1 := by omega
  have i2 : (fs.length : Int) - 1 ≤ (c : Int) := by have := own_cap HA.out.own; omega
  have hwl := IntWalk.i64_in ((fs.length : Int) - 1) (by omega)
  have ht : ((fs.length : Int) - 1).toNat = fs.length - 1 := by omega
  have sh := slice_hn E_fr D fs.length c .i64 ((fs.length : Int) - 1) (fs.length - 1) (by omega) (by have := own_cap HA.out.own; omega)
  have d0 := cls_cell (F := fun _ => False) (w0 := w2.drew) c0 id
  refine Mix.wp_region_mix [14] [] (Step (fun _ => False) w2.drew) (by kernel_rfl) (by kernel_rfl) Step.refl.drew (fun hcls => ?_)
  refine Mix.wpL_reads 14 (by rfl) ?_
  simp only [List.take_succ_cons, List.drop_succ_cons, List.take_zero, List.drop_zero]
  repeat (go_big_quiet_step (fail))
  refine wpQuiet_nil ?_
  refine Mix.wpL_op (by rfl) (fun K hK => ?_)
  go_simp
  refine hK _ _ (fun hlt => absurd hlt (by decide)) ?_
  clear hK K
  refine Mix.wpL_end ?_
  have hto := own_take HA.out.own (k := fs.length - 1) (by omega)
  have hdl : (fs.take (fs.length - 1)) = fs.dropLast := by rw [List.dropLast_eq_take]
  rw [← frs_take, hdl] at hto
  have R := HA.out.row HI.out (w1 := w2) (Step.refl) (D' := D) (c' := c) (n' := fs.length - 1) (by simp) hto (fun k hk => .inl hk)
  obtain ⟨I3, h3, u3⟩ := R
  have hg3 : Step (fun k => k = g) w2 (w2.setCell ⟨g, 0, none⟩ (.slice D (fs.length - 1) c)) := Step.setCell (F := fun k => k = g) (p := ⟨g, 0, none⟩) Step.refl (.inl rfl) _
  have b3 := HB2.out.step hg3 (Ne.symm HG.out)
  have bf3 := HBF.out.step hg3 (Ne.symm HG'.out)
  have U3 := Lib.hid ((U2.out.trans u3).drew.drew)
  have hin3 : N < w2.heap.size := HB2.out.lt
  have A3' : Hid (¬ I3 N) := fun hk => by
    rcases u3.2 _ hk with e | e
    · exact A3.out e
    · omega
  have H3 := Lib.hid (h3.quiet ((Step.refl.drew).drew))
  have HB3 := Lib.hid b3.drew.drew
  have m0 := b3.drew.drew.cell 0
  have m1 := b3.drew.drew.cell 1
  have m2 := b3.drew.drew.cell 2
  have m3 := b3.drew.drew.cell 3
  have mf := b3.drew.drew.frozen
  have f0 := bf3.drew.drew.cell 0
  have f1 := bf3.drew.drew.cell 1
  have f2 := bf3.drew.drew.cell 2
  have f3 := bf3.drew.drew.cell 3
  clear c0 c1 fg HA HI HBF A3 H2 U2 HB2 b3 bf3 u3 h3 hg3 hto sh d0
  generalize (w2.setCell ⟨g, 0, none⟩ (.slice D (fs.length - 1) c)).drew.drew = W3 at *
  have A3 := A3'
  simp at m0 m1 m2 m3 f0 f1 f2 f3
  go_wp2
  have bz := four_new (x := .int .u8 f.op) (y := .string (str f.res)) (z := .int .i64 (f.height : Int)) (u := .bool f.dead) HB3.out
  have z0 := bz.cell 0
  have z1 := bz.cell 1
  have z2 := bz.cell 2
  have z3 := bz.cell 3
  simp at z0 z1 z2 z3
  have hst : Step (fun k => k = N) W3 ((((W3.setCell ⟨N, 0, none⟩ (.int .u8 f.op)).setCell ⟨N, 1, none⟩ (.string (str f.res))).setCell ⟨N, 2, none⟩ (.int .i64 (f.height : Int))).setCell ⟨N, 3, none⟩ (.bool f.dead)) := four_step (F := fun k => k = N) Step.refl (.inl rfl)
  refine bodyPost_ret (v := .tuple #[(f).val, .int .i64 0]) ?_ rfl ⟨rfl, I3, H3.out.keep hst (fun k hk e => A3.out (e ▸ hk)), U3.out.write hst (fun k e => by rw [HN.out]; exact Nat.le_of_eq e.symm)⟩
  simp [results, Try.results79, go_sem, z0, z1, z2, z3]
  try rfl

end Go.Proofs.Ytpebdfgfikjkeaa
