/-
  check.checker.branch.
-/
import Derived.Test.YtpebdfgfikjkeaaKkC
set_option linter.unusedVariables false
set_option linter.unusedSimpArgs false
namespace Go.Proofs.Ytpebdfgfikjkeaa
open Go.RowKit

def leaveS (t : List UInt8) (s : Ss) : Ss × Int := if (allS t s).2 = 0 then (deadS (allS t s).1, 0) else allS t s
def labsE (fs : List Fr) (t : List UInt8) : List Nat → Int
  | [] => 0
  | n :: L => if (labelF fs n).2 = 0 then (if (labelF fs n).1 = t then labsE fs t L else 21) else (labelF fs n).2
def brifS (t : List UInt8) (s : Ss) : Ss × Int :=
  if fstE [(wantE 127 s).2, (allS t (wantE 127 s).1).2] = 0 then (pushS t (allS t (wantE 127 s).1).1, 0) else ((allS t (wantE 127 s).1).1, fstE [(wantE 127 s).2, (allS t (wantE 127 s).1).2])
def brtabS (t : List UInt8) (L : List Nat) (s : Ss) : Ss × Int :=
  if (wantE 127 s).2 = 0 then (if labsE (wantE 127 s).1.fs t L = 0 then leaveS t (wantE 127 s).1 else ((wantE 127 s).1, labsE (wantE 127 s).1.fs t L)) else wantE 127 s
def branchS (op a : Nat) (L : List Nat) (s : Ss) : Ss × Int :=
  if (labelF s.fs a).2 = 0 then (if op = 13 then brifS (labelF s.fs a).1 s else if op = 14 then brtabS (labelF s.fs a).1 L s else leaveS (labelF s.fs a).1 s) else (s, (labelF s.fs a).2)

theorem fr_default_len : (default : Fr).res.length ≤ 100 := Nat.zero_le _
theorem labelF_len {n : Nat} {s : Ss} (h : s.ok n) (a : Nat) : (labelF s.fs a).1.length ≤ 100 := by
  unfold labelF
  split
  · split
    · simp
    · rw [List.getD]
      cases hg : s.fs[s.fs.length - 1 - a]? with
      | none => exact fr_default_len
      | some f => exact h.res f (List.mem_of_getElem? hg)
  · simp
theorem deadS_ok {n : Nat} {s : Ss} (h : s.ok n) : (deadS s).ok n := by
  unfold deadS
  split
  · exact h
  · rename_i f hf
    have hm : f ∈ s.fs := List.mem_of_getElem? hf
    refine ⟨by have := h.fs; rw [deadF_len]; exact this, Nat.le_trans (cutF_le _ _) h.l, fun g hg => ?_⟩
    unfold deadF at hg
    rcases List.mem_or_eq_of_mem_set hg with e | e
    · exact h.res g e
    · rw [e]
      show (s.fs.getD (s.fs.length - 1) default).res.length ≤ 100
      have hf' : s.fs[s.fs.length - 1]? = some f := hf
      rw [List.getD, hf']
      exact h.res f hm
theorem Ss.ok.leave {n : Nat} {s : Ss} (h : s.ok n) (t : List UInt8) : (leaveS t s).1.ok n := by
  unfold leaveS
  split
  · exact deadS_ok (h.all t)
  · exact h.all t
theorem Ss.ok.branch {n : Nat} {s : Ss} (h : s.ok n) (op a : Nat) (L : List Nat) : (branchS op a L s).1.ok (n + 1) := by
  have hl := labelF_len h a
  unfold branchS
  split
  · split
    · unfold brifS
      split
      · exact ((h.wantE 127).all _).push _ hl
      · exact ((h.wantE 127).all _).less (by omega)
    · split
      · unfold brtabS
        split
        · split
          · exact ((h.wantE 127).leave _).less (by omega)
          · exact (h.wantE 127).less (by omega)
        · exact (h.wantE 127).less (by omega)
      · exact (h.leave _).less (by omega)
  · exact h.less (by omega)

theorem str_beq_ne {u t : List UInt8} (h : ¬ u = t) : ((str u).toList == (str t).toList) = false := by
  rw [ByteArray.toList_eq, ByteArray.toList_eq]
  simpa [str] using h
section
variable {w : World} {a : Ka} {E : Ke} {I : Nat → Prop} {s : Ss} {n : Nat}
set_option maxRecDepth 100000 in
set_option maxHeartbeats 1600000 in
theorem k_branch_no (op x b m c : Nat) (A : Option Addr) (h : Kk w a E I s) (hb : s.ok n) (hn : n ≤ 1000) (hx : x < 18446744073709551616) (he : ¬ (labelF s.fs x).2 = 0) :
    Calls Try.prog 82 #[.pointer (some ⟨a.k, 0, none⟩), .agg #[.int .u8 (op : Int), .int .u64 (x : Int), .int .u64 (b : Int), .slice A m c]] w (KRet w a E I (s, (labelF s.fs x).2)) := by
  have s0 : Step (fun _ => False) w (w.alloc (.cells #[.int .u8 (op : Int), .int .u64 (x : Int), .int .u64 (b : Int), .slice A m c] 40)) := Step.refl.alloc _
  have b0 := Blk.new w 40 #[.int .u8 (op : Int), .int .u64 (x : Int), .int .u64 (b : Int), .slice A m c]
  have h0 := h.quiet s0
  have m1 := (b0.cell 1).trans (show _ = some (Value.int .u64 (x : Int)) from rfl)
  have hL : Hid (∀ W, Kk W a E I s → _) := fun W hW => c_label (w := W) x hW.ctl hb hn hx
  have c6 := h0.c6
  have e1 : ((labelF s.fs x).2 != 0) = true := by simpa using he
  have H0 := Lib.hid h0
  have S0 := Lib.hid s0
  generalize labelF s.fs x = r at *
  obtain ⟨t, er⟩ := r
  simp only at e1
  have d1 := cls_cell (F := fun _ => False) c6 id
  have d2 := cls_cell (F := fun _ => False) m1 id
  clear b0 h0 h m1 s0 he
  go_enter Try.func82, Try.ntmps82
  go_wp2_with fail
  generalize w.heap.size = N at *
  generalize w.alloc (.cells #[.int .u8 (op : Int), .int .u64 (x : Int), .int .u64 (b : Int), .slice A m c] 40) = W at *
  refine Mix.wp_region_mix [6] [6] (Step (fun _ => False) W) (by kernel_rfl) (by kernel_rfl) (Step.refl.drew) (fun hcls => ?_)
  refine Mix.wpL_reads 6 (by rfl) ?_
  simp only [List.take_succ_cons, List.drop_succ_cons, List.take_zero, List.drop_zero]
  repeat (go_big_quiet_step (fail))
  refine wpQuiet_nil ?_
  refine Mix.wpL_op (by rfl) (fun K hK => ?_)
  go_simp
  refine (hL.out _ (H0.out.quiet Step.refl.drew)).mono ?_
  rintro e w3 ⟨rfl, t3⟩
  refine hK _ _ (fun hlt => Mix.cl (Step.refl.drew.trans t3)) ?_
  clear hK K
  refine Mix.wpL_reads 5 (by rfl) ?_
  simp only [List.take_succ_cons, List.drop_succ_cons, List.take_zero, List.drop_zero]
  repeat (go_big_quiet_step (fail))
  refine wpQuiet_nil ?_
  refine Mix.wpL_end ?_
  go_wp2
  go_ret
  exact ⟨rfl, KUp.same (H0.out.quiet (Step.refl.drew.trans t3)) |>.after (S0.out.trans (Step.refl.drew.trans t3))⟩
set_option maxRecDepth 100000 in
set_option maxHeartbeats 1600000 in
theorem k_branch_else (op x b m c : Nat) (A : Option Addr) (h : Kk w a E I s) (hb : s.ok n) (hn : n ≤ 1000) (hx : x < 18446744073709551616) (he : (labelF s.fs x).2 = 0) (o3 : ((op : Int) == 13) = false) (o4 : ((op : Int) == 14) = false) :
    Calls Try.prog 82 #[.pointer (some ⟨a.k, 0, none⟩), .agg #[.int .u8 (op : Int), .int .u64 (x : Int), .int .u64 (b : Int), .slice A m c]] w (KRet w a E I (leaveS (labelF s.fs x).1 s)) := by
  have s0 : Step (fun _ => False) w (w.alloc (.cells #[.int .u8 (op : Int), .int .u64 (x : Int), .int .u64 (b : Int), .slice A m c] 40)) := Step.refl.alloc _
  have b0 := Blk.new w 40 #[.int .u8 (op : Int), .int .u64 (x : Int), .int .u64 (b : Int), .slice A m c]
  have h0 := h.quiet s0
  have m1 := (b0.cell 1).trans (show _ = some (Value.int .u64 (x : Int)) from rfl)
  have hNI : ¬ I w.heap.size := fun hk => by have := Ctl.in_ (l := s.l) (fs := s.fs) h.ctl _ hk; omega
  have hL : Hid (∀ W, Kk W a E I s → _) := fun W hW => c_label (w := W) x hW.ctl hb hn hx
  have c6 := h0.c6
  have hl := labelF_len hb x
  have H0 := Lib.hid h0
  have S0 := Lib.hid s0
  have B0 := Lib.hid b0
  generalize labelF s.fs x = r at *
  obtain ⟨t, er⟩ := r
  simp only at he hl
  subst he
  have d1 := cls_cell (F := fun _ => False) c6 id
  have d2 := cls_cell (F := fun _ => False) m1 id
  clear b0 h0 h m1 s0 c6
  go_enter Try.func82, Try.ntmps82
  go_wp2_with fail
  generalize w.heap.size = N at *
  generalize w.alloc (.cells #[.int .u8 (op : Int), .int .u64 (x : Int), .int .u64 (b : Int), .slice A m c] 40) = W at *
  refine Mix.wp_region_mix [6] [6] (Step (fun _ => False) W) (by kernel_rfl) (by kernel_rfl) (Step.refl.drew) (fun hcls => ?_)
  refine Mix.wpL_reads 6 (by rfl) ?_
  simp only [List.take_succ_cons, List.drop_succ_cons, List.take_zero, List.drop_zero]
  repeat (go_big_quiet_step (fail))
  refine wpQuiet_nil ?_
  refine Mix.wpL_op (by rfl) (fun K hK => ?_)
  go_simp
  refine (hL.out _ (H0.out.quiet Step.refl.drew)).mono ?_
  rintro e w3 ⟨rfl, t3⟩
  refine hK _ _ (fun hlt => Mix.cl (Step.refl.drew.trans t3)) ?_
  clear hK K
  refine Mix.wpL_reads 5 (by rfl) ?_
  simp only [List.take_succ_cons, List.drop_succ_cons, List.take_zero, List.drop_zero]
  repeat (go_big_quiet_step (fail))
  refine wpQuiet_nil ?_
  refine Mix.wpL_end ?_
  have S3 := Lib.hid (S0.out.trans (Step.refl.drew.trans t3))
  have H3 := Lib.hid (H0.out.quiet (Step.refl.drew.trans t3))
  have B3 := Lib.hid (B0.out.step (Step.refl.drew.trans t3) id)
  have c6 := H3.out.c6
  have m0 := (B3.out.cell 0).trans (show _ = some (Value.int .u8 (op : Int)) from rfl)
  have m3 := (B3.out.cell 3).trans (show _ = some (Value.slice A m c) from rfl)
  clear hL H0 S0 d1 d2 t3 B0
  have HC := Lib.hid (c_all t H3.out.ctl hb hn hl)
  have HOK := Lib.hid (Ss.ok.all hb t)
  have hg : leaveS t s = if (allS t s).2 = 0 then (deadS (allS t s).1, 0) else allS t s := rfl
  generalize allS t s = r at HC HOK hg
  obtain ⟨s2, er⟩ := r
  simp only at HC HOK hg
  have HG := Lib.hid hg
  clear hg
  by_cases h2 : er = 0
  · subst h2
    go_wp2_with fail
    refine HC.out.mono ?_
    rintro e w2 ⟨rfl, u2⟩
    obtain ⟨I2, h2, p2⟩ := H3.out.up u2
    have c6'' := h2.c6
    have HD := Lib.hid (c_dead h2.ctl HOK.out hn)
    have H2 := Lib.hid h2
    have P2 := Lib.hid p2
    clear h2 p2 u2
    go_wp2_with fail
    refine HD.out.mono ?_
    rintro e w4 ⟨rfl, u4⟩
    go_wp2_with fail
    go_ret
    unfold KRet
    rw [HG.out, if_pos trivial]
    exact ⟨rfl, KUp.after S3.out (KUp.trans P2.out (H2.out.up u4))⟩
  · have e1 : (er != 0) = true := by simpa using h2
    have HE := Lib.hid h2
    clear h2
    go_wp2_with fail
    refine HC.out.mono ?_
    rintro e w2 ⟨rfl, u2⟩
    go_wp2_with fail
    go_ret
    unfold KRet
    rw [HG.out, if_neg HE.out]
    exact ⟨rfl, KUp.after S3.out (H3.out.up u2)⟩

set_option maxRecDepth 100000 in
set_option maxHeartbeats 1600000 in
theorem k_branch_if (op x b m c : Nat) (A : Option Addr) (h : Kk w a E I s) (hb : s.ok n) (hn : n ≤ 1000) (hx : x < 18446744073709551616) (he : (labelF s.fs x).2 = 0) (o3 : ((op : Int) == 13) = true) :
    Calls Try.prog 82 #[.pointer (some ⟨a.k, 0, none⟩), .agg #[.int .u8 (op : Int), .int .u64 (x : Int), .int .u64 (b : Int), .slice A m c]] w (KRet w a E I (brifS (labelF s.fs x).1 s)) := by
  have s0 : Step (fun _ => False) w (w.alloc (.cells #[.int .u8 (op : Int), .int .u64 (x : Int), .int .u64 (b : Int), .slice A m c] 40)) := Step.refl.alloc _
  have b0 := Blk.new w 40 #[.int .u8 (op : Int), .int .u64 (x : Int), .int .u64 (b : Int), .slice A m c]
  have h0 := h.quiet s0
  have m1 := (b0.cell 1).trans (show _ = some (Value.int .u64 (x : Int)) from rfl)
  have hNI : ¬ I w.heap.size := fun hk => by have := Ctl.in_ (l := s.l) (fs := s.fs) h.ctl _ hk; omega
  have hL : Hid (∀ W, Kk W a E I s → _) := fun W hW => c_label (w := W) x hW.ctl hb hn hx
  have c6 := h0.c6
  have hl := labelF_len hb x
  have H0 := Lib.hid h0
  have S0 := Lib.hid s0
  have B0 := Lib.hid b0
  generalize labelF s.fs x = r at *
  obtain ⟨t, er⟩ := r
  simp only at he hl
  subst he
  have d1 := cls_cell (F := fun _ => False) c6 id
  have d2 := cls_cell (F := fun _ => False) m1 id
  clear b0 h0 h m1 s0 c6
  go_enter Try.func82, Try.ntmps82
  go_wp2_with fail
  generalize w.heap.size = N at *
  generalize w.alloc (.cells #[.int .u8 (op : Int), .int .u64 (x : Int), .int .u64 (b : Int), .slice A m c] 40) = W at *
  refine Mix.wp_region_mix [6] [6] (Step (fun _ => False) W) (by kernel_rfl) (by kernel_rfl) (Step.refl.drew) (fun hcls => ?_)
  refine Mix.wpL_reads 6 (by rfl) ?_
  simp only [List.take_succ_cons, List.drop_succ_cons, List.take_zero, List.drop_zero]
  repeat (go_big_quiet_step (fail))
  refine wpQuiet_nil ?_
  refine Mix.wpL_op (by rfl) (fun K hK => ?_)
  go_simp
  refine (hL.out _ (H0.out.quiet Step.refl.drew)).mono ?_
  rintro e w3 ⟨rfl, t3⟩
  refine hK _ _ (fun hlt => Mix.cl (Step.refl.drew.trans t3)) ?_
  clear hK K
  refine Mix.wpL_reads 5 (by rfl) ?_
  simp only [List.take_succ_cons, List.drop_succ_cons, List.take_zero, List.drop_zero]
  repeat (go_big_quiet_step (fail))
  refine wpQuiet_nil ?_
  refine Mix.wpL_end ?_
  have S3 := Lib.hid (S0.out.trans (Step.refl.drew.trans t3))
  have H3 := Lib.hid (H0.out.quiet (Step.refl.drew.trans t3))
  have B3 := Lib.hid (B0.out.step (Step.refl.drew.trans t3) id)
  have c6 := H3.out.c6
  have m0 := (B3.out.cell 0).trans (show _ = some (Value.int .u8 (op : Int)) from rfl)
  have m3 := (B3.out.cell 3).trans (show _ = some (Value.slice A m c) from rfl)
  clear hL H0 S0 d1 d2 t3 B0
  have hg : brifS t s = if fstE [(wantE 127 s).2, (allS t (wantE 127 s).1).2] = 0 then (pushS t (allS t (wantE 127 s).1).1, 0) else ((allS t (wantE 127 s).1).1, fstE [(wantE 127 s).2, (allS t (wantE 127 s).1).2]) := rfl
  have HW := Lib.hid (fun W (hW : Kk W a E I s) => k_want 127 hW hb hn)
  have hb1 := hb.wantE 127
  generalize wantE 127 s = r1 at hg HW hb1
  obtain ⟨s1, e1⟩ := r1
  simp only at hg hb1
  have HA := Lib.hid (fun I1 W (hW : Kk W a E I1 s1) => c_all t hW.ctl hb1 hn hl)
  have hb2 := hb1.all t
  generalize allS t s1 = r2 at hg HA hb2
  obtain ⟨s2, e2⟩ := r2
  simp only at hg hb2
  have HF : Hid (∀ W : World, Calls Try.prog 95 #[.slice (some ⟨W.heap.size, 0, none⟩) 2 2] (W.alloc (.cells #[.int .i64 e1, .int .i64 e2] 35)) fun e w' => e = .returned (.int .i64 (fstE [e1, e2])) ∧ W.alloc (.cells #[.int .i64 e1, .int .i64 e2] 35) = w') := fun W =>
    k_same 2 (rfl : 2 = [e1, e2].length) (by omega) (reads_new W #[.int .i64 e1, .int .i64 e2] 35 1 2 rfl)
  generalize fstE [e1, e2] = q at hg HF
  have HG := Lib.hid hg
  have HB2 := Lib.hid hb2
  clear hg hb1 hb2
  go_wp2_with fail
  have d6 := cls_cell (F := I) c6 H3.out.kf.self
  refine Mix.wp_region_mix [1, 7, 8, 9] [1, 7, 8, 9] (Step I w3) (by kernel_rfl) (by kernel_rfl) (Step.refl.drew) (fun hcls => ?_)
  refine Mix.wpL_reads 1 (by rfl) ?_
  simp only [List.take_succ_cons, List.drop_succ_cons, List.take_zero, List.drop_zero]
  repeat (go_big_quiet_step (fail))
  refine wpQuiet_nil ?_
  refine Mix.wpL_op (by rfl) (fun K hK => ?_)
  go_simp
  refine (HW.out _ (H3.out.quiet Step.refl.drew)).mono ?_
  rintro e w4 ⟨rfl, I4, h4, p4⟩
  refine hK _ _ (fun hlt => Mix.cl (Step.refl.drew.trans p4.1)) ?_
  clear hK K
  refine Mix.wpL_reads 5 (by rfl) ?_
  simp only [List.take_succ_cons, List.drop_succ_cons, List.take_zero, List.drop_zero]
  repeat (go_big_quiet_step (fail))
  refine wpQuiet_nil ?_
  refine Mix.wpL_op (by rfl) (fun K hK => ?_)
  go_simp
  refine (HA.out _ _ h4).mono ?_
  rintro e w5 ⟨rfl, u5⟩
  obtain ⟨I5, h5, p5⟩ := h4.up u5
  refine hK _ _ (fun hlt => Mix.cl (Step.refl.drew.trans (p4.trans p5).1)) ?_
  clear hK K
  refine Mix.wpL_op (by rfl) (fun K hK => ?_)
  go_simp
  refine hK _ _ (fun hlt => Mix.cl ((Step.refl.drew.trans (p4.trans p5).1).alloc _)) ?_
  clear hK K
  refine Mix.wpL_op (by rfl) (fun K hK => ?_)
  go_simp
  refine (HF.out w5).mono ?_
  rintro e w6 ⟨rfl, rfl⟩
  refine hK _ _ (fun hlt => Mix.cl ((Step.refl.drew.trans (p4.trans p5).1).alloc _)) ?_
  clear hK K
  refine Mix.wpL_reads 1 (by rfl) ?_
  simp only [List.take_succ_cons, List.drop_succ_cons, List.take_zero, List.drop_zero]
  repeat (go_big_quiet_step (fail))
  refine wpQuiet_nil ?_
  refine Mix.wpL_end ?_
  have hs6 : Step (fun _ => False) w5 (w5.alloc (.cells #[.int .i64 e1, .int .i64 e2] 35)) := Step.refl.alloc _
  have H6 := Lib.hid (h5.quiet hs6)
  have P6 := Lib.hid ((Upd.after Step.refl.drew (p4.trans p5)).quiet hs6)
  have c7 := H6.out.c6
  have cg := H6.out.cg
  clear p4 p5 h4 h5 u5 hs6 d6 c6
  generalize w5.alloc (.cells #[.int .i64 e1, .int .i64 e2] 35) = w6 at *
  by_cases hq : q = 0
  · subst hq
    go_wp2_with fail
    refine (c_push t H6.out.ctl HB2.out hn hl).mono ?_
    rintro e w7 ⟨rfl, u7⟩
    go_wp2_with fail
    go_ret
    rw [KRet, HG.out, if_pos trivial]
    exact ⟨rfl, KUp.after S3.out (KUp.trans P6.out (H6.out.up u7))⟩
  · have q1 : (q != 0) = true := by simpa using hq
    have HE := Lib.hid hq
    clear hq
    go_wp2_with fail
    go_ret
    rw [KRet, HG.out, if_neg HE.out]
    exact ⟨rfl, KUp.after S3.out (KUp.trans P6.out (KUp.same H6.out))⟩

set_option maxRecDepth 100000 in
set_option maxHeartbeats 3200000 in
theorem k_branch_tab (op x b m c : Nat) (A : Option Addr) (L : List Nat) (h : Kk w a E I s) (hb : s.ok n) (hn : n ≤ 1000) (hx : x < 18446744073709551616) (he : (labelF s.fs x).2 = 0) (o3 : ((op : Int) == 13) = false) (o4 : ((op : Int) == 14) = true)
    (HM : Hid (m = L.length)) (hm : m ≤ 1000) (hL32 : ∀ y ∈ L, y < 4294967296) (hR : Reads w a.R 1 A m (L.flatMap fun y : Nat => [Value.int .u32 (y : Int)])) :
    Calls Try.prog 82 #[.pointer (some ⟨a.k, 0, none⟩), .agg #[.int .u8 (op : Int), .int .u64 (x : Int), .int .u64 (b : Int), .slice A m c]] w (KRet w a E I (brtabS (labelF s.fs x).1 L s)) := by
  have HR := Lib.hid hR
  have HL32 := Lib.hid hL32
  clear hR hL32
  have s0 : Step (fun _ => False) w (w.alloc (.cells #[.int .u8 (op : Int), .int .u64 (x : Int), .int .u64 (b : Int), .slice A m c] 40)) := Step.refl.alloc _
  have b0 := Blk.new w 40 #[.int .u8 (op : Int), .int .u64 (x : Int), .int .u64 (b : Int), .slice A m c]
  have h0 := h.quiet s0
  have m1 := (b0.cell 1).trans (show _ = some (Value.int .u64 (x : Int)) from rfl)
  have hNI : ¬ I w.heap.size := fun hk => by have := Ctl.in_ (l := s.l) (fs := s.fs) h.ctl _ hk; omega
  have hL : Hid (∀ W, Kk W a E I s → _) := fun W hW => c_label (w := W) x hW.ctl hb hn hx
  have c6 := h0.c6
  have hl := labelF_len hb x
  have H0 := Lib.hid h0
  have S0 := Lib.hid s0
  have B0 := Lib.hid b0
  generalize labelF s.fs x = r at *
  obtain ⟨t, er⟩ := r
  simp only at he hl
  subst he
  have d1 := cls_cell (F := fun _ => False) c6 id
  have d2 := cls_cell (F := fun _ => False) m1 id
  clear b0 h0 h m1 s0 c6
  go_enter Try.func82, Try.ntmps82
  go_wp2_with fail
  generalize w.heap.size = N at *
  generalize w.alloc (.cells #[.int .u8 (op : Int), .int .u64 (x : Int), .int .u64 (b : Int), .slice A m c] 40) = W at *
  refine Mix.wp_region_mix [6] [6] (Step (fun _ => False) W) (by kernel_rfl) (by kernel_rfl) (Step.refl.drew) (fun hcls => ?_)
  refine Mix.wpL_reads 6 (by rfl) ?_
  simp only [List.take_succ_cons, List.drop_succ_cons, List.take_zero, List.drop_zero]
  repeat (go_big_quiet_step (fail))
  refine wpQuiet_nil ?_
  refine Mix.wpL_op (by rfl) (fun K hK => ?_)
  go_simp
  refine (hL.out _ (H0.out.quiet Step.refl.drew)).mono ?_
  rintro e w3 ⟨rfl, t3⟩
  refine hK _ _ (fun hlt => Mix.cl (Step.refl.drew.trans t3)) ?_
  clear hK K
  refine Mix.wpL_reads 5 (by rfl) ?_
  simp only [List.take_succ_cons, List.drop_succ_cons, List.take_zero, List.drop_zero]
  repeat (go_big_quiet_step (fail))
  refine wpQuiet_nil ?_
  refine Mix.wpL_end ?_
  have S3 := Lib.hid (S0.out.trans (Step.refl.drew.trans t3))
  have H3 := Lib.hid (H0.out.quiet (Step.refl.drew.trans t3))
  have B3 := Lib.hid (B0.out.step (Step.refl.drew.trans t3) id)
  have c6 := H3.out.c6
  have m0 := (B3.out.cell 0).trans (show _ = some (Value.int .u8 (op : Int)) from rfl)
  have m3 := (B3.out.cell 3).trans (show _ = some (Value.slice A m c) from rfl)
  clear hL H0 S0 d1 d2 t3 B0
  have hg : brtabS t L s = if (wantE 127 s).2 = 0 then (if labsE (wantE 127 s).1.fs t L = 0 then leaveS t (wantE 127 s).1 else ((wantE 127 s).1, labsE (wantE 127 s).1.fs t L)) else wantE 127 s := rfl
  have hb1 := hb.wantE 127
  have HW := Lib.hid (k_want 127 H3.out hb hn)
  have HR3 := Lib.hid (HR.out.step S3.out (fun _ _ => id))
  generalize wantE 127 s = r1 at hg HW hb1
  obtain ⟨s1, e1⟩ := r1
  simp only at hg hb1
  have HG1 := Lib.hid hg
  have HB1 := Lib.hid hb1
  clear hg hb1
  by_cases hq : e1 = 0
  · subst hq
    have N3 : N < w3.heap.size := B3.out.lt
    go_wp2_with fail
    refine HW.out.mono ?_
    rintro e w4 ⟨rfl, I1, h1, p1⟩
    have m3' := (p1.1.cell (p := ⟨N, 3, none⟩) N3 hNI).trans m3
    have HV := Lib.hid h1
    have HR4 := Lib.hid (HR3.out.step p1.1 H3.out.kf.far)
    have P1 := Lib.hid p1
    clear h1 p1 c6 m3
    go_wp2_with fail
    go_loopw [63] (fun iv wr => ∃ (j : Nat), j ≤ m ∧ iv = .int .i64 (j : Int) ∧ Hid (labsE s1.fs t L = labsE s1.fs t (L.drop j)) ∧ Hid (Step (fun _ => False) w4 wr)) (fun iv _ => m + 1 - (intOf iv).toNat)
    case atStart => exact ⟨0, by omega, rfl, rfl, Step.refl⟩
    case round =>
      obtain ⟨j, hj, rfl, HI, HS⟩ := hrel
      have hv := HV.out.quiet HS.out
      replace HV := Lib.hid hv
      have c6 := hv.c6
      by_cases hlt : j < m
      · have g1 : (j : Int) < (m : Int) := by omega
        have i0 : (0 : Int) ≤ (j : Int) := by omega
        have hw1 := IntWalk.i64_in ((j : Int) + 1) (by omega)
        have hjl : j < L.length := by rw [← HM.out]; exact hlt
        have hr5 := HR4.out.step HS.out (fun _ _ => id)
        obtain ⟨bk, off, rfl, _, hbl, hc⟩ := reads_row (fun x : Nat => [Value.int .u32 (x : Int)]) 1 (by decide) (fun _ => rfl) hr5 hjl
        replace hc := hc 0 _ rfl
        rw [Nat.mul_one, Nat.add_zero] at hc
        have HD : Hid (L.drop j = L[j] :: L.drop (j + 1)) := List.drop_eq_getElem_cons hjl
        have hy := HL32.out L[j] (List.getElem_mem hjl)
        obtain ⟨y, hye⟩ : ∃ y, y = L[j] := ⟨_, rfl⟩
        rw [← hye] at hc HD hy
        clear hye hr5
        have hwy := IntWalk.u64_in (y : Int) (by omega)
        have HLB := Lib.hid (c_label y hv.ctl HB1.out hn (by omega))
        have HU : Hid (labsE s1.fs t (y :: L.drop (j + 1)) = if (labelF s1.fs y).2 = 0 then (if (labelF s1.fs y).1 = t then labsE s1.fs t (L.drop (j + 1)) else 21) else (labelF s1.fs y).2) := rfl
        generalize labelF s1.fs y = q at HLB HU
        obtain ⟨u, eu⟩ := q
        clear hv
        by_cases hu : eu = 0
        · subst hu
          by_cases hut : u = t
          · subst hut
            have HI2 : Hid (labsE s1.fs u L = labsE s1.fs u (L.drop (j + 1))) := by unfold Hid; rw [HI.out, HD.out, HU.out, if_pos rfl, if_pos rfl]
            go_wp2_with fail
            refine HLB.out.mono ?_
            rintro e w5 ⟨rfl, t5⟩
            have T5 := Lib.hid t5
            clear t5
            go_wp2_with fail
            go_roundw
            case rel => exact ⟨j + 1, by omega, by rw [Int.natCast_add]; rfl, HI2, HS.out.trans T5.out⟩
            case measure => simp [intOf]; omega
          · have HI2 : Hid (labsE s1.fs t L = 21) := by unfold Hid; rw [HI.out, HD.out, HU.out, if_pos rfl, if_neg hut]
            have q2 := str_beq_ne hut
            clear hut
            go_wp2_with fail
            refine HLB.out.mono ?_
            rintro e w5 ⟨rfl, t5⟩
            have T5 := Lib.hid t5
            clear t5
            go_wp2_with fail
            go_ret
            rw [KRet, HG1.out, if_pos trivial, HI2.out, if_neg (by decide)]
            exact ⟨rfl, KUp.after S3.out <| KUp.trans P1.out <| KUp.after HS.out <| KUp.quiet (KUp.same HV.out) T5.out⟩
        · have HI2 : Hid (labsE s1.fs t L = eu) := by unfold Hid; rw [HI.out, HD.out, HU.out, if_neg hu]
          have q2 : (eu != 0) = true := by simpa using hu
          have HE := Lib.hid hu
          clear hu
          go_wp2_with fail
          refine HLB.out.mono ?_
          rintro e w5 ⟨rfl, t5⟩
          have T5 := Lib.hid t5
          clear t5
          go_wp2_with fail
          go_ret
          rw [KRet, HG1.out, if_pos trivial, HI2.out, if_neg HE.out]
          exact ⟨rfl, KUp.after S3.out <| KUp.trans P1.out <| KUp.after HS.out <| KUp.quiet (KUp.same HV.out) T5.out⟩
      · obtain rfl : j = m := by omega
        have HI2 : Hid (labsE s1.fs t L = 0) := by unfold Hid; rw [HI.out, HM.out, List.drop_length]; rfl
        have HC := Lib.hid (c_all t HV.out.ctl HB1.out hn hl)
        have HOK := Lib.hid (Ss.ok.all HB1.out t)
        have hg : leaveS t s1 = if (allS t s1).2 = 0 then (deadS (allS t s1).1, 0) else allS t s1 := rfl
        generalize allS t s1 = r at HC HOK hg
        obtain ⟨s2, er⟩ := r
        simp only at HC HOK hg
        have HG := Lib.hid hg
        clear hg
        by_cases h2 : er = 0
        · subst h2
          go_wp2_with fail
          refine HC.out.mono ?_
          rintro e w2 ⟨rfl, u2⟩
          obtain ⟨I2, h2, p2⟩ := HV.out.up u2
          have c6'' := h2.c6
          have HD := Lib.hid (c_dead h2.ctl HOK.out hn)
          have H2 := Lib.hid h2
          have P2 := Lib.hid p2
          clear h2 p2 u2
          go_wp2_with fail
          refine HD.out.mono ?_
          rintro e w4 ⟨rfl, u4⟩
          go_wp2_with fail
          go_ret
          rw [KRet, HG1.out, if_pos trivial, HI2.out, if_pos rfl]
          rw [HG.out, if_pos trivial]
          exact ⟨rfl, KUp.after S3.out <| KUp.trans P1.out <| KUp.after HS.out (KUp.trans P2.out (H2.out.up u4))⟩
        · have e1 : (er != 0) = true := by simpa using h2
          have HE := Lib.hid h2
          clear h2
          go_wp2_with fail
          refine HC.out.mono ?_
          rintro e w2 ⟨rfl, u2⟩
          go_wp2_with fail
          go_ret
          rw [KRet, HG1.out, if_pos trivial, HI2.out, if_pos rfl]
          rw [HG.out, if_neg HE.out]
          exact ⟨rfl, KUp.after S3.out <| KUp.trans P1.out <| KUp.after HS.out (HV.out.up u2)⟩

  · have q1 : (e1 != 0) = true := by simpa using hq
    have HE := Lib.hid hq
    clear hq
    go_wp2_with fail
    refine HW.out.mono ?_
    rintro e w4 ⟨rfl, u4⟩
    go_wp2_with fail
    go_ret
    rw [KRet, HG1.out, if_neg HE.out]
    exact ⟨rfl, KUp.after S3.out u4⟩
end
end Go.Proofs.Ytpebdfgfikjkeaa
