/-
  check.checker.branch (all ways), control.
-/
import Derived.Test.YtpebdfgfikjkeaaKkD
set_option linter.unusedVariables false
set_option linter.unusedSimpArgs false
namespace Go.Proofs.Ytpebdfgfikjkeaa
open Go.RowKit

theorem int_eq {op k : Nat} (h : op = k) : ((op : Int) == (k : Int)) = true := by subst h; exact beq_self_eq_true _
theorem int_ne {op k : Nat} (h : ¬ op = k) : ((op : Int) == (k : Int)) = false := beq_eq_false_iff_ne.2 (by omega)
section
variable {w : World} {a : Ka} {E : Ke} {I : Nat → Prop} {s : Ss} {n : Nat}
theorem k_branch (op x b m c : Nat) (A : Option Addr) (L : List Nat) (h : Kk w a E I s) (hb : s.ok n) (hn : n ≤ 1000) (hx : x < 18446744073709551616)
    (HM : Hid (m = L.length)) (hm : m ≤ 1000) (hL32 : ∀ y ∈ L, y < 4294967296) (hR : Reads w a.R 1 A m (L.flatMap fun y : Nat => [Value.int .u32 (y : Int)])) :
    Calls Try.prog 82 #[.pointer (some ⟨a.k, 0, none⟩), .agg #[.int .u8 (op : Int), .int .u64 (x : Int), .int .u64 (b : Int), .slice A m c]] w (KRet w a E I (branchS op x L s)) := by
  unfold branchS
  by_cases he : (labelF s.fs x).2 = 0
  · rw [if_pos he]
    by_cases h13 : op = 13
    · rw [if_pos h13]
      exact k_branch_if op x b m c A h hb hn hx he (int_eq h13)
    · rw [if_neg h13]
      by_cases h14 : op = 14
      · rw [if_pos h14]
        exact k_branch_tab op x b m c A L h hb hn hx he (int_ne h13) (int_eq h14) HM hm hL32 hR
      · rw [if_neg h14]
        exact k_branch_else op x b m c A h hb hn hx he (int_ne h13) (int_ne h14)
  · rw [if_neg he]
    exact k_branch_no op x b m c A h hb hn hx he

def ifS (x : Nat) (s : Ss) : Ss × Int := if (wantE 127 s).2 = 0 then (openS 4 (bkF x) (wantE 127 s).1, 0) else wantE 127 s
def elseS (s : Ss) : Ss × Int := if (closeS s).2.2 = 0 then (openS 5 (closeS s).2.1.res (closeS s).1, 0) else ((closeS s).1, (closeS s).2.2)
def controlS (E : Ke) (op x : Nat) (L : List Nat) (s : Ss) : Ss × Int :=
  if op = 0 then (deadS s, 0) else if op = 2 ∨ op = 3 then (openS op (bkF x) s, 0) else if op = 4 then ifS x s else if op = 5 then elseS s else if op = 11 then endS s else if op = 15 then leaveS E.result s else branchS op x L s
theorem Ss.ok.control {n : Nat} {s : Ss} (h : s.ok n) (E : Ke) (op x : Nat) (L : List Nat) : (controlS E op x L s).1.ok (n + 1) := by
  have hk := bkF_len x
  unfold controlS
  split
  · exact (deadS_ok h).less (by omega)
  · split
    · exact h.open_ _ _ (by omega)
    · split
      · unfold ifS
        split
        · exact (h.wantE 127).open_ _ _ (by omega)
        · exact (h.wantE 127).less (by omega)
      · split
        · have := h.close
          unfold elseS
          split
          · exact this.1.open_ _ _ this.2
          · exact this.1.less (by omega)
        · split
          · exact h.end_
          · split
            · exact (h.leave _).less (by omega)
            · exact h.branch op x L

set_option maxRecDepth 100000 in
set_option maxHeartbeats 1600000 in
theorem k_control_0 (op x b m c : Nat) (A : Option Addr) (h : Kk w a E I s) (hb : s.ok n) (hn : n ≤ 1000) (o0 : ((op : Int) == 0) = true) :
    Calls Try.prog 51 #[.pointer (some ⟨a.k, 0, none⟩), .agg #[.int .u8 (op : Int), .int .u64 (x : Int), .int .u64 (b : Int), .slice A m c]] w (KRet w a E I (deadS s, 0)) := by
  have s0 : Step (fun _ => False) w (w.alloc (.cells #[.int .u8 (op : Int), .int .u64 (x : Int), .int .u64 (b : Int), .slice A m c] 40)) := Step.refl.alloc _
  have b0 := Blk.new w 40 #[.int .u8 (op : Int), .int .u64 (x : Int), .int .u64 (b : Int), .slice A m c]
  have h0 := h.quiet s0
  have m0 := (b0.cell 0).trans (show _ = some (Value.int .u8 (op : Int)) from rfl)
  have m1 := (b0.cell 1).trans (show _ = some (Value.int .u64 (x : Int)) from rfl)
  have hNI : ¬ I w.heap.size := fun hk => by have := Ctl.in_ (l := s.l) (fs := s.fs) h.ctl _ hk; omega
  have N3 : w.heap.size < (w.alloc (.cells #[.int .u8 (op : Int), .int .u64 (x : Int), .int .u64 (b : Int), .slice A m c] 40)).heap.size := by simp
  have c6 := h0.c6
  have nkI := h0.kf.self
  have H0 := Lib.hid h0
  have S0 := Lib.hid s0
  have B0 := Lib.hid b0
  clear b0 h0 h s0
  have HD := Lib.hid (c_dead H0.out.ctl hb hn)
  go_enter Try.func51, Try.ntmps51
  go_wp2_with fail
  refine HD.out.mono ?_
  rintro e w2 ⟨rfl, u2⟩
  go_wp2_with fail
  go_ret
  exact ⟨rfl, KUp.after S0.out (H0.out.up u2)⟩

set_option maxRecDepth 100000 in
set_option maxHeartbeats 1600000 in
theorem k_control_2 (op x b m c : Nat) (A : Option Addr) (h : Kk w a E I s) (hb : s.ok n) (hn : n ≤ 1000) (o0 : ((op : Int) == 0) = false) (o2 : ((op : Int) == 2) = true) (hx : x < 256) :
    Calls Try.prog 51 #[.pointer (some ⟨a.k, 0, none⟩), .agg #[.int .u8 (op : Int), .int .u64 (x : Int), .int .u64 (b : Int), .slice A m c]] w (KRet w a E I (openS op (bkF x) s, 0)) := by
  have s0 : Step (fun _ => False) w (w.alloc (.cells #[.int .u8 (op : Int), .int .u64 (x : Int), .int .u64 (b : Int), .slice A m c] 40)) := Step.refl.alloc _
  have b0 := Blk.new w 40 #[.int .u8 (op : Int), .int .u64 (x : Int), .int .u64 (b : Int), .slice A m c]
  have h0 := h.quiet s0
  have m0 := (b0.cell 0).trans (show _ = some (Value.int .u8 (op : Int)) from rfl)
  have m1 := (b0.cell 1).trans (show _ = some (Value.int .u64 (x : Int)) from rfl)
  have hNI : ¬ I w.heap.size := fun hk => by have := Ctl.in_ (l := s.l) (fs := s.fs) h.ctl _ hk; omega
  have N3 : w.heap.size < (w.alloc (.cells #[.int .u8 (op : Int), .int .u64 (x : Int), .int .u64 (b : Int), .slice A m c] 40)).heap.size := by simp
  have c6 := h0.c6
  have nkI := h0.kf.self
  have H0 := Lib.hid h0
  have S0 := Lib.hid s0
  have B0 := Lib.hid b0
  clear b0 h0 h s0
  go_enter Try.func51, Try.ntmps51
  go_wp2_with fail
  generalize w.heap.size = N at *
  generalize w.alloc (.cells #[.int .u8 (op : Int), .int .u64 (x : Int), .int .u64 (b : Int), .slice A m c] 40) = W at *
  have d0 := cls_cell (F := fun _ => False) m0 id
  have d1 := cls_cell (F := fun _ => False) m1 id
  have d6 := cls_cell (F := fun _ => False) c6 id
  refine Mix.wp_region_mix [8, 9] [8] (Step (fun _ => False) W) (by kernel_rfl) (by kernel_rfl) (Step.refl.drew) (fun hcls => ?_)
  refine Mix.wpL_reads 8 (by rfl) ?_
  simp only [List.take_succ_cons, List.drop_succ_cons, List.take_zero, List.drop_zero]
  repeat (go_big_quiet_step (fail))
  refine wpQuiet_nil ?_
  refine Mix.wpL_op (by rfl) (fun K hK => ?_)
  go_simp
  refine (k_block _ x hx).mono ?_
  rintro e w3 ⟨rfl, t3⟩
  refine hK _ _ (fun hlt => Mix.cl (Step.refl.drew.trans t3)) ?_
  clear hK K
  refine Mix.wpL_op (by rfl) (fun K hK => ?_)
  go_simp
  have HT := Lib.hid (Step.refl.drew.trans t3)
  refine (c_open (op : Int) (bkF x) (H0.out.quiet HT.out).ctl hb hn).mono ?_
  rintro e w4 ⟨rfl, u4⟩
  refine hK _ _ (fun hlt => absurd hlt (by decide)) ?_
  clear hK K
  refine Mix.wpL_end ?_
  go_wp2
  go_ret
  exact ⟨rfl, KUp.after S0.out (KUp.after HT.out ((H0.out.quiet HT.out).up u4))⟩

set_option maxRecDepth 100000 in
set_option maxHeartbeats 1600000 in
theorem k_control_3 (op x b m c : Nat) (A : Option Addr) (h : Kk w a E I s) (hb : s.ok n) (hn : n ≤ 1000) (o0 : ((op : Int) == 0) = false) (o2 : ((op : Int) == 2) = false) (o3 : ((op : Int) == 3) = true) (hx : x < 256) :
    Calls Try.prog 51 #[.pointer (some ⟨a.k, 0, none⟩), .agg #[.int .u8 (op : Int), .int .u64 (x : Int), .int .u64 (b : Int), .slice A m c]] w (KRet w a E I (openS op (bkF x) s, 0)) := by
  have s0 : Step (fun _ => False) w (w.alloc (.cells #[.int .u8 (op : Int), .int .u64 (x : Int), .int .u64 (b : Int), .slice A m c] 40)) := Step.refl.alloc _
  have b0 := Blk.new w 40 #[.int .u8 (op : Int), .int .u64 (x : Int), .int .u64 (b : Int), .slice A m c]
  have h0 := h.quiet s0
  have m0 := (b0.cell 0).trans (show _ = some (Value.int .u8 (op : Int)) from rfl)
  have m1 := (b0.cell 1).trans (show _ = some (Value.int .u64 (x : Int)) from rfl)
  have hNI : ¬ I w.heap.size := fun hk => by have := Ctl.in_ (l := s.l) (fs := s.fs) h.ctl _ hk; omega
  have N3 : w.heap.size < (w.alloc (.cells #[.int .u8 (op : Int), .int .u64 (x : Int), .int .u64 (b : Int), .slice A m c] 40)).heap.size := by simp
  have c6 := h0.c6
  have nkI := h0.kf.self
  have H0 := Lib.hid h0
  have S0 := Lib.hid s0
  have B0 := Lib.hid b0
  clear b0 h0 h s0
  go_enter Try.func51, Try.ntmps51
  go_wp2_with fail
  generalize w.heap.size = N at *
  generalize w.alloc (.cells #[.int .u8 (op : Int), .int .u64 (x : Int), .int .u64 (b : Int), .slice A m c] 40) = W at *
  have d0 := cls_cell (F := fun _ => False) m0 id
  have d1 := cls_cell (F := fun _ => False) m1 id
  have d6 := cls_cell (F := fun _ => False) c6 id
  refine Mix.wp_region_mix [8, 9] [8] (Step (fun _ => False) W) (by kernel_rfl) (by kernel_rfl) (Step.refl.drew) (fun hcls => ?_)
  refine Mix.wpL_reads 8 (by rfl) ?_
  simp only [List.take_succ_cons, List.drop_succ_cons, List.take_zero, List.drop_zero]
  repeat (go_big_quiet_step (fail))
  refine wpQuiet_nil ?_
  refine Mix.wpL_op (by rfl) (fun K hK => ?_)
  go_simp
  refine (k_block _ x hx).mono ?_
  rintro e w3 ⟨rfl, t3⟩
  refine hK _ _ (fun hlt => Mix.cl (Step.refl.drew.trans t3)) ?_
  clear hK K
  refine Mix.wpL_op (by rfl) (fun K hK => ?_)
  go_simp
  have HT := Lib.hid (Step.refl.drew.trans t3)
  refine (c_open (op : Int) (bkF x) (H0.out.quiet HT.out).ctl hb hn).mono ?_
  rintro e w4 ⟨rfl, u4⟩
  refine hK _ _ (fun hlt => absurd hlt (by decide)) ?_
  clear hK K
  refine Mix.wpL_end ?_
  go_wp2
  go_ret
  exact ⟨rfl, KUp.after S0.out (KUp.after HT.out ((H0.out.quiet HT.out).up u4))⟩

set_option maxRecDepth 100000 in
set_option maxHeartbeats 1600000 in
theorem k_control_4 (op x b m c : Nat) (A : Option Addr) (h : Kk w a E I s) (hb : s.ok n) (hn : n ≤ 1000) (o0 : ((op : Int) == 0) = false) (o2 : ((op : Int) == 2) = false) (o3 : ((op : Int) == 3) = false) (o4 : ((op : Int) == 4) = true) (h4 : op = 4) (hx : x < 256) :
    Calls Try.prog 51 #[.pointer (some ⟨a.k, 0, none⟩), .agg #[.int .u8 (op : Int), .int .u64 (x : Int), .int .u64 (b : Int), .slice A m c]] w (KRet w a E I (ifS x s)) := by
  have s0 : Step (fun _ => False) w (w.alloc (.cells #[.int .u8 (op : Int), .int .u64 (x : Int), .int .u64 (b : Int), .slice A m c] 40)) := Step.refl.alloc _
  have b0 := Blk.new w 40 #[.int .u8 (op : Int), .int .u64 (x : Int), .int .u64 (b : Int), .slice A m c]
  have h0 := h.quiet s0
  have m0 := (b0.cell 0).trans (show _ = some (Value.int .u8 (op : Int)) from rfl)
  have m1 := (b0.cell 1).trans (show _ = some (Value.int .u64 (x : Int)) from rfl)
  have hNI : ¬ I w.heap.size := fun hk => by have := Ctl.in_ (l := s.l) (fs := s.fs) h.ctl _ hk; omega
  have N3 : w.heap.size < (w.alloc (.cells #[.int .u8 (op : Int), .int .u64 (x : Int), .int .u64 (b : Int), .slice A m c] 40)).heap.size := by simp
  have c6 := h0.c6
  have nkI := h0.kf.self
  have H0 := Lib.hid h0
  have S0 := Lib.hid s0
  have B0 := Lib.hid b0
  clear b0 h0 h s0
  have hg : ifS x s = if (wantE 127 s).2 = 0 then (openS 4 (bkF x) (wantE 127 s).1, 0) else wantE 127 s := rfl
  rw [show (4 : Int) = (op : Int) by omega] at hg
  have HW := Lib.hid (k_want 127 H0.out hb hn)
  have hb1 := hb.wantE 127
  generalize wantE 127 s = r at hg HW hb1
  obtain ⟨s1, e1⟩ := r
  simp only at hg hb1
  have HG := Lib.hid hg
  have HB1 := Lib.hid hb1
  clear hg hb1 h4
  by_cases hq : e1 = 0
  · subst hq
    go_enter Try.func51, Try.ntmps51
    go_wp2_with fail
    generalize w.heap.size = N at *
    generalize w.alloc (.cells #[.int .u8 (op : Int), .int .u64 (x : Int), .int .u64 (b : Int), .slice A m c] 40) = W at *
    refine HW.out.mono ?_
    rintro e w2 ⟨rfl, I1, h1, p1⟩
    replace m0 := (p1.1.cell (p := ⟨N, 0, none⟩) N3 hNI).trans m0
    replace m1 := (p1.1.cell (p := ⟨N, 1, none⟩) N3 hNI).trans m1
    replace c6 := h1.c6
    have H1 := Lib.hid h1
    have P1 := Lib.hid p1
    clear h1 p1
    go_wp2_with fail
    have d0 := cls_cell (F := fun _ => False) m0 id
    have d1 := cls_cell (F := fun _ => False) m1 id
    have d6 := cls_cell (F := fun _ => False) c6 id
    refine Mix.wp_region_mix [8, 9] [8] (Step (fun _ => False) w2) (by kernel_rfl) (by kernel_rfl) (Step.refl.drew) (fun hcls => ?_)
    refine Mix.wpL_reads 8 (by rfl) ?_
    simp only [List.take_succ_cons, List.drop_succ_cons, List.take_zero, List.drop_zero]
    repeat (go_big_quiet_step (fail))
    refine wpQuiet_nil ?_
    refine Mix.wpL_op (by rfl) (fun K hK => ?_)
    go_simp
    refine (k_block _ x hx).mono ?_
    rintro e w3 ⟨rfl, t3⟩
    refine hK _ _ (fun hlt => Mix.cl (Step.refl.drew.trans t3)) ?_
    clear hK K
    refine Mix.wpL_op (by rfl) (fun K hK => ?_)
    go_simp
    have HT := Lib.hid (Step.refl.drew.trans t3)
    refine (c_open (op : Int) (bkF x) (H1.out.quiet HT.out).ctl HB1.out hn).mono ?_
    rintro e w4 ⟨rfl, u4⟩
    refine hK _ _ (fun hlt => absurd hlt (by decide)) ?_
    clear hK K
    refine Mix.wpL_end ?_
    go_wp2
    go_ret
    rw [KRet, HG.out, if_pos trivial]
    exact ⟨rfl, KUp.after S0.out (KUp.trans P1.out (KUp.after HT.out ((H1.out.quiet HT.out).up u4)))⟩
  · have q1 : (e1 != 0) = true := by simpa using hq
    have HE := Lib.hid hq
    clear hq
    go_enter Try.func51, Try.ntmps51
    go_wp2_with fail
    refine HW.out.mono ?_
    rintro e w2 ⟨rfl, u2⟩
    go_wp2_with fail
    go_ret
    rw [KRet, HG.out, if_neg HE.out]
    exact ⟨rfl, KUp.after S0.out u2⟩

set_option maxRecDepth 100000 in
set_option maxHeartbeats 1600000 in
theorem k_control_5 (op x b m c : Nat) (A : Option Addr) (h : Kk w a E I s) (hb : s.ok n) (hn : n ≤ 1000) (o0 : ((op : Int) == 0) = false) (o2 : ((op : Int) == 2) = false) (o3 : ((op : Int) == 3) = false) (o4 : ((op : Int) == 4) = false) (o5 : ((op : Int) == 5) = true) :
    Calls Try.prog 51 #[.pointer (some ⟨a.k, 0, none⟩), .agg #[.int .u8 (op : Int), .int .u64 (x : Int), .int .u64 (b : Int), .slice A m c]] w (KRet w a E I (elseS s)) := by
  have s0 : Step (fun _ => False) w (w.alloc (.cells #[.int .u8 (op : Int), .int .u64 (x : Int), .int .u64 (b : Int), .slice A m c] 40)) := Step.refl.alloc _
  have b0 := Blk.new w 40 #[.int .u8 (op : Int), .int .u64 (x : Int), .int .u64 (b : Int), .slice A m c]
  have h0 := h.quiet s0
  have m0 := (b0.cell 0).trans (show _ = some (Value.int .u8 (op : Int)) from rfl)
  have m1 := (b0.cell 1).trans (show _ = some (Value.int .u64 (x : Int)) from rfl)
  have hNI : ¬ I w.heap.size := fun hk => by have := Ctl.in_ (l := s.l) (fs := s.fs) h.ctl _ hk; omega
  have N3 : w.heap.size < (w.alloc (.cells #[.int .u8 (op : Int), .int .u64 (x : Int), .int .u64 (b : Int), .slice A m c] 40)).heap.size := by simp
  have c6 := h0.c6
  have nkI := h0.kf.self
  have H0 := Lib.hid h0
  have S0 := Lib.hid s0
  have B0 := Lib.hid b0
  clear b0 h0 h s0
  have HC := Lib.hid (c_close H0.out.ctl hb hn)
  have hb1 := hb.close
  have hg : elseS s = if (closeS s).2.2 = 0 then (openS 5 (closeS s).2.1.res (closeS s).1, 0) else ((closeS s).1, (closeS s).2.2) := rfl
  generalize closeS s = r at HC hb1 hg
  obtain ⟨s1, f, er⟩ := r
  simp only at HC hb1 hg
  have HG := Lib.hid hg
  have HB := Lib.hid hb1.1
  clear hb1 hg
  by_cases he : er = 0
  · subst he
    go_enter Try.func51, Try.ntmps51
    go_wp2_with fail
    generalize w.heap.size = N at *
    generalize w.alloc (.cells #[.int .u8 (op : Int), .int .u64 (x : Int), .int .u64 (b : Int), .slice A m c] 40) = W at *
    refine HC.out.mono ?_
    rintro e w1 ⟨rfl, u1⟩
    obtain ⟨I1, h1, p1⟩ := H0.out.up u1
    have b1 := Blk.new w1 136 #[.int .u8 f.op, .string (str f.res), .int .i64 (f.height : Int), .bool f.dead]
    have h2 := h1.quiet (Step.refl.alloc (.cells #[.int .u8 f.op, .string (str f.res), .int .i64 (f.height : Int), .bool f.dead] 136))
    replace c6 := h2.c6
    have k1 := (b1.cell 1).trans (show _ = some (Value.string (str f.res)) from rfl)
    have P1 : Hid (Upd W I I1 (w1.alloc (.cells #[.int .u8 f.op, .string (str f.res), .int .i64 (f.height : Int), .bool f.dead] 136))) := p1.quiet (Step.refl.alloc _)
    have H2 := Lib.hid h2
    clear h1 p1 u1 b1 h2 HC m1
    unfold Fr.val
    go_wp2_with fail
    generalize w1.heap.size = M at *
    generalize w1.alloc (.cells #[.int .u8 f.op, .string (str f.res), .int .i64 (f.height : Int), .bool f.dead] 136) = V at *
    have d1 := cls_cell (F := fun _ => False) k1 id
    have d6 := cls_cell (F := fun _ => False) c6 id
    refine Mix.wp_region_mix [6] [] (Step (fun _ => False) V) (by kernel_rfl) (by kernel_rfl) (Step.refl.drew) (fun hcls => ?_)
    refine Mix.wpL_reads 6 (by rfl) ?_
    simp only [List.take_succ_cons, List.drop_succ_cons, List.take_zero, List.drop_zero]
    repeat (go_big_quiet_step (fail))
    refine wpQuiet_nil ?_
    refine Mix.wpL_op (by rfl) (fun K hK => ?_)
    go_simp
    refine (c_open 5 f.res (H2.out.quiet Step.refl.drew).ctl HB.out hn).mono ?_
    rintro e w4 ⟨rfl, u4⟩
    refine hK _ _ (fun hlt => absurd hlt (by decide)) ?_
    clear hK K
    refine Mix.wpL_end ?_
    go_wp2
    go_ret
    rw [KRet, HG.out, if_pos trivial]
    exact ⟨rfl, KUp.after S0.out (KUp.trans P1.out (KUp.after Step.refl.drew ((H2.out.quiet Step.refl.drew).up u4)))⟩
  · have e1 : (er != 0) = true := by simpa using he
    have HE := Lib.hid he
    clear he
    go_enter Try.func51, Try.ntmps51
    go_wp2_with fail
    refine HC.out.mono ?_
    rintro e w1 ⟨rfl, u1⟩
    unfold Fr.val
    go_wp2_with fail
    go_ret
    rw [KRet, HG.out, if_neg HE.out]
    exact ⟨rfl, KUp.after S0.out (KUp.quiet (H0.out.up u1) (Step.refl.alloc _))⟩

set_option maxRecDepth 100000 in
set_option maxHeartbeats 1600000 in
theorem k_control_11 (op x b m c : Nat) (A : Option Addr) (h : Kk w a E I s) (hb : s.ok n) (hn : n ≤ 1000) (o0 : ((op : Int) == 0) = false) (o2 : ((op : Int) == 2) = false) (o3 : ((op : Int) == 3) = false) (o4 : ((op : Int) == 4) = false) (o5 : ((op : Int) == 5) = false) (o11 : ((op : Int) == 11) = true) :
    Calls Try.prog 51 #[.pointer (some ⟨a.k, 0, none⟩), .agg #[.int .u8 (op : Int), .int .u64 (x : Int), .int .u64 (b : Int), .slice A m c]] w (KRet w a E I (endS s)) := by
  have s0 : Step (fun _ => False) w (w.alloc (.cells #[.int .u8 (op : Int), .int .u64 (x : Int), .int .u64 (b : Int), .slice A m c] 40)) := Step.refl.alloc _
  have b0 := Blk.new w 40 #[.int .u8 (op : Int), .int .u64 (x : Int), .int .u64 (b : Int), .slice A m c]
  have h0 := h.quiet s0
  have m0 := (b0.cell 0).trans (show _ = some (Value.int .u8 (op : Int)) from rfl)
  have m1 := (b0.cell 1).trans (show _ = some (Value.int .u64 (x : Int)) from rfl)
  have hNI : ¬ I w.heap.size := fun hk => by have := Ctl.in_ (l := s.l) (fs := s.fs) h.ctl _ hk; omega
  have N3 : w.heap.size < (w.alloc (.cells #[.int .u8 (op : Int), .int .u64 (x : Int), .int .u64 (b : Int), .slice A m c] 40)).heap.size := by simp
  have c6 := h0.c6
  have nkI := h0.kf.self
  have H0 := Lib.hid h0
  have S0 := Lib.hid s0
  have B0 := Lib.hid b0
  clear b0 h0 h s0
  have HE := Lib.hid (k_end H0.out hb hn)
  go_enter Try.func51, Try.ntmps51
  go_wp2_with fail
  refine HE.out.mono ?_
  rintro e w2 ⟨rfl, u2⟩
  go_wp2_with fail
  go_ret
  exact ⟨rfl, KUp.after S0.out u2⟩

set_option maxRecDepth 100000 in
set_option maxHeartbeats 1600000 in
theorem k_control_15 (op x b m c : Nat) (A : Option Addr) (h : Kk w a E I s) (hb : s.ok n) (hn : n ≤ 1000) (o0 : ((op : Int) == 0) = false) (o2 : ((op : Int) == 2) = false) (o3 : ((op : Int) == 3) = false) (o4 : ((op : Int) == 4) = false) (o5 : ((op : Int) == 5) = false) (o11 : ((op : Int) == 11) = false) (o15 : ((op : Int) == 15) = true) (hE : E.result.length ≤ 100) :
    Calls Try.prog 51 #[.pointer (some ⟨a.k, 0, none⟩), .agg #[.int .u8 (op : Int), .int .u64 (x : Int), .int .u64 (b : Int), .slice A m c]] w (KRet w a E I (leaveS E.result s)) := by
  have s0 : Step (fun _ => False) w (w.alloc (.cells #[.int .u8 (op : Int), .int .u64 (x : Int), .int .u64 (b : Int), .slice A m c] 40)) := Step.refl.alloc _
  have b0 := Blk.new w 40 #[.int .u8 (op : Int), .int .u64 (x : Int), .int .u64 (b : Int), .slice A m c]
  have h0 := h.quiet s0
  have m0 := (b0.cell 0).trans (show _ = some (Value.int .u8 (op : Int)) from rfl)
  have m1 := (b0.cell 1).trans (show _ = some (Value.int .u64 (x : Int)) from rfl)
  have hNI : ¬ I w.heap.size := fun hk => by have := Ctl.in_ (l := s.l) (fs := s.fs) h.ctl _ hk; omega
  have N3 : w.heap.size < (w.alloc (.cells #[.int .u8 (op : Int), .int .u64 (x : Int), .int .u64 (b : Int), .slice A m c] 40)).heap.size := by simp
  have c6 := h0.c6
  have nkI := h0.kf.self
  have H0 := Lib.hid h0
  have S0 := Lib.hid s0
  have B0 := Lib.hid b0
  clear b0 h0 h s0
  have c7 := (H0.out.kf.blk.cell 7).trans (show _ = some (Value.string (str E.result)) from rfl)
  generalize ht : E.result = t at hE c7
  have hg : leaveS t s = if (allS t s).2 = 0 then (deadS (allS t s).1, 0) else allS t s := rfl
  have HC := Lib.hid (fun W (hW : Kk W a E I s) => c_all t hW.ctl hb hn hE)
  have HOK := Lib.hid (hb.all t)
  generalize allS t s = r at HC HOK hg
  obtain ⟨s2, er⟩ := r
  simp only at HC HOK hg
  have HG := Lib.hid hg
  clear hg ht
  have d6 := cls_cell (F := I) c6 nkI
  have d7 := cls_cell (F := I) c7 nkI
  go_enter Try.func51, Try.ntmps51
  go_wp2_with fail
  generalize w.heap.size = N at *
  generalize w.alloc (.cells #[.int .u8 (op : Int), .int .u64 (x : Int), .int .u64 (b : Int), .slice A m c] 40) = W at *
  refine Mix.wp_region_mix [8] [8] (Step I W) (by kernel_rfl) (by kernel_rfl) (Step.refl.drew) (fun hcls => ?_)
  refine Mix.wpL_reads 8 (by rfl) ?_
  simp only [List.take_succ_cons, List.drop_succ_cons, List.take_zero, List.drop_zero]
  repeat (go_big_quiet_step (fail))
  refine wpQuiet_nil ?_
  refine Mix.wpL_op (by rfl) (fun K hK => ?_)
  go_simp
  refine (HC.out _ (H0.out.quiet Step.refl.drew)).mono ?_
  rintro e w2 ⟨rfl, u2⟩
  obtain ⟨I2, h2, p2⟩ := (H0.out.quiet Step.refl.drew).up u2
  refine hK _ _ (fun hlt => Mix.cl (Step.refl.drew.trans p2.1)) ?_
  clear hK K
  refine Mix.wpL_reads 1 (by rfl) ?_
  simp only [List.take_succ_cons, List.drop_succ_cons, List.take_zero, List.drop_zero]
  repeat (go_big_quiet_step (fail))
  refine wpQuiet_nil ?_
  refine Mix.wpL_end ?_
  replace c6 := h2.c6
  have HD := Lib.hid (c_dead h2.ctl HOK.out hn)
  have H2 := Lib.hid h2
  have P2 := Lib.hid (Upd.after Step.refl.drew p2)
  clear h2 p2 u2 d6 d7
  by_cases h2 : er = 0
  · subst h2
    go_wp2_with fail
    refine HD.out.mono ?_
    rintro e w4 ⟨rfl, u4⟩
    go_wp2_with fail
    go_ret
    rw [KRet, HG.out, if_pos trivial]
    exact ⟨rfl, KUp.after S0.out (KUp.trans P2.out (H2.out.up u4))⟩
  · have e1 : (er != 0) = true := by simpa using h2
    have HE := Lib.hid h2
    clear h2
    go_wp2_with fail
    go_ret
    rw [KRet, HG.out, if_neg HE.out]
    exact ⟨rfl, KUp.after S0.out (KUp.trans P2.out (KUp.same H2.out))⟩

set_option maxRecDepth 100000 in
set_option maxHeartbeats 1600000 in
theorem k_control_else (op x b m c : Nat) (A : Option Addr) (h : Kk w a E I s) (hb : s.ok n) (hn : n ≤ 1000) (o0 : ((op : Int) == 0) = false) (o2 : ((op : Int) == 2) = false) (o3 : ((op : Int) == 3) = false) (o4 : ((op : Int) == 4) = false) (o5 : ((op : Int) == 5) = false) (o11 : ((op : Int) == 11) = false) (o15 : ((op : Int) == 15) = false) (L : List Nat) (hx : x < 18446744073709551616)
    (HM : Hid (m = L.length)) (hm : m ≤ 1000) (hL32 : ∀ y ∈ L, y < 4294967296) (hR : Reads w a.R 1 A m (L.flatMap fun y : Nat => [Value.int .u32 (y : Int)])) :
    Calls Try.prog 51 #[.pointer (some ⟨a.k, 0, none⟩), .agg #[.int .u8 (op : Int), .int .u64 (x : Int), .int .u64 (b : Int), .slice A m c]] w (KRet w a E I (branchS op x L s)) := by
  have s0 : Step (fun _ => False) w (w.alloc (.cells #[.int .u8 (op : Int), .int .u64 (x : Int), .int .u64 (b : Int), .slice A m c] 40)) := Step.refl.alloc _
  have b0 := Blk.new w 40 #[.int .u8 (op : Int), .int .u64 (x : Int), .int .u64 (b : Int), .slice A m c]
  have h0 := h.quiet s0
  have m0 := (b0.cell 0).trans (show _ = some (Value.int .u8 (op : Int)) from rfl)
  have m1 := (b0.cell 1).trans (show _ = some (Value.int .u64 (x : Int)) from rfl)
  have hNI : ¬ I w.heap.size := fun hk => by have := Ctl.in_ (l := s.l) (fs := s.fs) h.ctl _ hk; omega
  have N3 : w.heap.size < (w.alloc (.cells #[.int .u8 (op : Int), .int .u64 (x : Int), .int .u64 (b : Int), .slice A m c] 40)).heap.size := by simp
  have c6 := h0.c6
  have nkI := h0.kf.self
  have H0 := Lib.hid h0
  have S0 := Lib.hid s0
  have B0 := Lib.hid b0
  clear b0 h0 h s0
  have HE := Lib.hid (k_branch op x b m c A L H0.out hb hn hx HM hm hL32 (hR.step S0.out (fun _ _ => id)))
  clear hL32 hR
  go_enter Try.func51, Try.ntmps51
  go_wp2_with fail
  refine HE.out.mono ?_
  rintro e w2 ⟨rfl, u2⟩
  go_wp2_with fail
  go_ret
  exact ⟨rfl, KUp.after S0.out u2⟩

theorem k_control (op x b m c : Nat) (A : Option Addr) (h : Kk w a E I s) (hb : s.ok n) (hn : n ≤ 1000) (L : List Nat) (hx : x < 18446744073709551616)
    (HM : Hid (m = L.length)) (hm : m ≤ 1000) (hL32 : ∀ y ∈ L, y < 4294967296) (hR : Reads w a.R 1 A m (L.flatMap fun y : Nat => [Value.int .u32 (y : Int)])) (hE : E.result.length ≤ 100) (hbl : op = 2 ∨ op = 3 ∨ op = 4 → x < 256) :
    Calls Try.prog 51 #[.pointer (some ⟨a.k, 0, none⟩), .agg #[.int .u8 (op : Int), .int .u64 (x : Int), .int .u64 (b : Int), .slice A m c]] w (KRet w a E I (controlS E op x L s)) := by
  unfold controlS
  by_cases h0 : op = 0
  · rw [if_pos h0]
    exact k_control_0 op x b m c A h hb hn (int_eq h0)
  rw [if_neg h0]
  by_cases h2 : op = 2
  · rw [if_pos (.inl h2)]
    exact k_control_2 op x b m c A h hb hn (int_ne h0) (int_eq h2) (hbl (.inl h2))
  by_cases h3 : op = 3
  · rw [if_pos (.inr h3)]
    exact k_control_3 op x b m c A h hb hn (int_ne h0) (int_ne h2) (int_eq h3) (hbl (.inr (.inl h3)))
  rw [if_neg (by rintro (e | e); exact h2 e; exact h3 e)]
  by_cases h4 : op = 4
  · rw [if_pos h4]
    exact k_control_4 op x b m c A h hb hn (int_ne h0) (int_ne h2) (int_ne h3) (int_eq h4) h4 (hbl (.inr (.inr h4)))
  rw [if_neg h4]
  by_cases h5 : op = 5
  · rw [if_pos h5]
    exact k_control_5 op x b m c A h hb hn (int_ne h0) (int_ne h2) (int_ne h3) (int_ne h4) (int_eq h5)
  rw [if_neg h5]
  by_cases h11 : op = 11
  · rw [if_pos h11]
    exact k_control_11 op x b m c A h hb hn (int_ne h0) (int_ne h2) (int_ne h3) (int_ne h4) (int_ne h5) (int_eq h11)
  rw [if_neg h11]
  by_cases h15 : op = 15
  · rw [if_pos h15]
    exact k_control_15 op x b m c A h hb hn (int_ne h0) (int_ne h2) (int_ne h3) (int_ne h4) (int_ne h5) (int_ne h11) (int_eq h15) hE
  rw [if_neg h15]
  exact k_control_else op x b m c A h hb hn (int_ne h0) (int_ne h2) (int_ne h3) (int_ne h4) (int_ne h5) (int_ne h11) (int_ne h15) L hx HM hm hL32 hR
end
end Go.Proofs.Ytpebdfgfikjkeaa
