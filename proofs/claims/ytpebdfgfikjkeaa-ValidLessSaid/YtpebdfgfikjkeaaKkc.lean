/-
  Kkc: KkC, KkD, KkE.
-/
import Derived.Test.YtpebdfgfikjkeaaKka
import Derived.Test.YtpebdfgfikjkeaaRr
set_option linter.unusedVariables false
set_option linter.unusedSimpArgs false
/-! check: block, same, checker.end. -/
namespace Go.Proofs.Ytpebdfgfikjkeaa
open Go.RowKit

def bkF (a : Nat) : List UInt8 := if a = 64 then [] else [UInt8.ofNat a]
theorem bkF_len (a : Nat) : (bkF a).length ≤ 1 := by unfold bkF; split <;> simp
set_option maxRecDepth 100000 in
theorem k_block (w : World) (a : Nat) (ha : a < 256) : Calls Try.prog 78 #[.int .u64 a] w fun e w' => e = .returned (.string (str (bkF a))) ∧ Step (fun _ => False) w w' := by
  by_cases h : a = 64
  · subst h
    go_enter Try.func78, Try.ntmps78
    go_wp2
    go_ret
    exact ⟨rfl, Step.refl⟩
  · have hb : Hid (bkF a = [UInt8.ofNat a]) := if_neg h
    have e1 : ((a : Int) == 64) = false := beq_eq_false_iff_ne.2 (by omega)
    have hw := IntWalk.u8_in (a : Int) (by omega)
    have hu : ((UInt8.ofNat a).toNat : Int) = (a : Int) := by simp; omega
    have hcv := run_conv_bytes (P := Try.prog) (w.alloc (.cells #[.int .u8 (a : Int)] 5)) 107 9 5 Try.underlying107 Try.underlying5 Try.underlying9 (c := 1) (l := [UInt8.ofNat a]) (by
      have := reads_new w #[.int .u8 ((UInt8.ofNat a).toNat : Int)] 5 1 1 rfl
      rw [hu] at this
      rw [show u8s [UInt8.ofNat a] = [.int .u8 (a : Int)] from by rw [← hu]; rfl]
      exact this)
    clear hu h
    go_enter Try.func78, Try.ntmps78
    go_wp2_with fail
    go_ret
    rw [hb.out]
    exact ⟨rfl, Step.refl.alloc _⟩

/-- The first error. -/
def fstE (es : List Int) : Int := (es.find? (· != 0)).getD 0
set_option maxRecDepth 100000 in
set_option maxHeartbeats 800000 in
theorem k_same {w : World} {A : Option Addr} {c : Nat} {es : List Int} {S : Nat → Prop} (n : Nat) (HN : Hid (n = es.length)) (hn : n ≤ 1000) (hr : Reads w S 1 A n (es.flatMap fun x => [Value.int .i64 x])) :
    Calls Try.prog 95 #[.slice A n c] w fun e w' => e = .returned (.int .i64 (fstE es)) ∧ w = w' := by
  have HR := Lib.hid hr
  clear hr
  go_enter Try.func95, Try.ntmps95
  go_wp2_with fail
  go_loopw [7] (fun iv wr => ∃ (j : Nat), j ≤ n ∧ iv = .int .i64 (j : Int) ∧ Hid (fstE es = fstE (es.drop j)) ∧ Hid (w = wr)) (fun iv _ => n + 1 - (intOf iv).toNat)
  case atStart => exact ⟨0, by omega, rfl, rfl, rfl⟩
  case round =>
    obtain ⟨j, hj, rfl, HI, HS⟩ := hrel
    have hr' := HR.out
    rw [HS.out] at hr'
    by_cases hlt : j < n
    · have g1 : (j : Int) < (n : Int) := by omega
      have i0 : (0 : Int) ≤ (j : Int) := by omega
      have hw1 := IntWalk.i64_in ((j : Int) + 1) (by omega)
      have hjl : j < es.length := by rw [← HN.out]; exact hlt
      obtain ⟨b, off, rfl, _, hbl, hc⟩ := reads_row (fun x : Int => [Value.int .i64 x]) 1 (by decide) (fun _ => rfl) hr' hjl
      replace hc := hc 0 _ rfl
      rw [Nat.mul_one, Nat.add_zero] at hc
      have HD : Hid (es.drop j = es[j] :: es.drop (j + 1)) := List.drop_eq_getElem_cons hjl
      obtain ⟨x, hxe⟩ : ∃ x, x = es[j] := ⟨_, rfl⟩
      rw [← hxe] at hc HD
      clear hxe hr'
      by_cases hx : x = 0
      · subst hx
        have HI2 : Hid (fstE es = fstE (es.drop (j + 1))) := by unfold Hid; rw [HI.out, HD.out]; rfl
        go_wp2_with fail
        go_roundw
        case rel => exact ⟨j + 1, by omega, by rw [Int.natCast_add]; rfl, HI2, HS⟩
        case measure => simp [intOf]; omega
      · have e1 : (x != 0) = true := by simpa using hx
        have HI2 : Hid (fstE es = x) := by unfold Hid; rw [HI.out, HD.out, fstE, List.find?_cons_of_pos (by exact e1)]; rfl
        clear hx
        go_wp2_with fail
        go_ret
        exact ⟨by rw [HI2.out]; rfl, HS.out⟩
    · obtain rfl : j = n := by omega
      have HI2 : Hid (fstE es = 0) := by unfold Hid; rw [HI.out, HN.out, List.drop_length]; rfl
      go_wp2_with fail
      go_ret
      exact ⟨by rw [HI2.out]; rfl, HS.out⟩

def endS (s : Ss) : Ss × Int :=
  if (closeS s).2.2 ≠ 0 then ((closeS s).1, (closeS s).2.2) else if (closeS s).2.1.op = 4 ∧ (closeS s).2.1.res ≠ [] then ((closeS s).1, 21) else (pushS (closeS s).2.1.res (closeS s).1, 0)
theorem Ss.ok.end_ {n : Nat} {s : Ss} (h : s.ok n) : (endS s).1.ok (n + 1) := by
  have := h.close
  unfold endS
  split
  · exact this.1.less (by omega)
  · split
    · exact this.1.less (by omega)
    · exact this.1.push _ this.2
theorem str_nil_eq (l : List UInt8) : (str l == (⟨#[]⟩ : ByteArray)) = l.isEmpty := by
  rcases l with _ | ⟨x, l⟩
  · rfl
  · show decide (str (x :: l) = ⟨#[]⟩) = false
    apply decide_eq_false
    intro h
    have h2 : (str (x :: l)).size = 0 := by rw [h]; rfl
    rw [str_size] at h2
    exact absurd h2 (Nat.succ_ne_zero _)
theorem str_empty (l : List UInt8) : (str l).toList.isEmpty = l.isEmpty := by
  rw [ByteArray.toList_eq]
  simp [str]
section
variable {w : World} {a : Ka} {E : Ke} {I : Nat → Prop} {s : Ss} {n : Nat}
set_option maxRecDepth 100000 in
set_option maxHeartbeats 800000 in
theorem k_end (h : Kk w a E I s) (hb : s.ok n) (hn : n ≤ 1000) :
    Calls Try.prog 80 #[.pointer (some ⟨a.k, 0, none⟩)] w (KRet w a E I (endS s)) := by
  have c6 := h.c6
  have HC := Lib.hid (c_close h.ctl hb hn)
  have H := Lib.hid h
  have hb1 := hb.close
  have hg : endS s = if (closeS s).2.2 ≠ 0 then ((closeS s).1, (closeS s).2.2) else if (closeS s).2.1.op = 4 ∧ (closeS s).2.1.res ≠ [] then ((closeS s).1, 21) else (pushS (closeS s).2.1.res (closeS s).1, 0) := rfl
  clear h
  generalize closeS s = r at HC hb1 hg
  obtain ⟨s1, f, er⟩ := r
  simp only at HC hb1 hg
  have HG := Lib.hid hg
  have HB := Lib.hid hb1.1
  have HL := Lib.hid hb1.2
  clear hb1 hg
  by_cases he : er = 0
  · subst he
    by_cases h4 : f.op = 4 ∧ f.res ≠ []
    · have e4 : (f.op == 4) = true := by simpa using h4.1
      have e5 : (str f.res).toList.isEmpty = false := by
        rw [str_empty, List.isEmpty_eq_false_iff]
        exact h4.2
      have HQ := Lib.hid h4
      clear h4
      go_enter Try.func80, Try.ntmps80
      go_wp2_with fail
      refine HC.out.mono ?_
      rintro e w1 ⟨rfl, u1⟩
      unfold Fr.val
      go_wp2_with fail
      go_ret
      rw [KRet, HG.out, if_neg (by simp), if_pos HQ.out]
      exact ⟨rfl, KUp.quiet (H.out.up u1) (Step.refl.alloc _)⟩
    · have HQ := Lib.hid h4
      have e4 : (f.op == 4) = false ∨ (f.op == 4) = true ∧ (str f.res).toList.isEmpty = true := by
        by_cases h : f.op = 4
        · refine .inr ⟨by simpa using h, ?_⟩
          rw [str_empty, List.isEmpty_iff]
          by_cases h2 : f.res = []
          · exact h2
          · exact absurd ⟨h, h2⟩ h4
        · left
          simpa using h
      clear h4
      go_enter Try.func80, Try.ntmps80
      go_wp2_with fail
      refine HC.out.mono ?_
      rintro e w1 ⟨rfl, u1⟩
      obtain ⟨I1, h1, p1⟩ := H.out.up u1
      have b0 := Blk.new w1 136 #[.int .u8 f.op, .string (str f.res), .int .i64 (f.height : Int), .bool f.dead]
      have h2 := h1.quiet (Step.refl.alloc (.cells #[.int .u8 f.op, .string (str f.res), .int .i64 (f.height : Int), .bool f.dead] 136))
      have c6' := h2.c6
      have cg' := h2.cg
      have m1 := (b0.cell 1).trans (show _ = some (Value.string (str f.res)) from rfl)
      have HP : Hid (∀ W, Kk W a E I1 s1 → _) := fun W hW => c_push f.res (w := W) hW.ctl HB.out hn HL.out
      have P1 : Hid (Upd w I I1 (w1.alloc (.cells #[.int .u8 f.op, .string (str f.res), .int .i64 (f.height : Int), .bool f.dead] 136))) := p1.quiet (Step.refl.alloc _)
      have n1 : ¬ I1 w1.heap.size := fun hk => by have := Ctl.in_ (l := s1.l) (fs := s1.fs) h1.ctl _ hk; omega
      have nk := h2.kf.self
      have ng : a.g ≠ w1.heap.size := by have := h1.ltg; omega
      have H2 := Lib.hid h2
      have hgI := Ctl.self (l := s1.l) (fs := s1.fs) h2.ctl
      clear h1 p1 u1 c6 b0 h2 HC
      unfold Fr.val
      rcases e4 with e5 | ⟨e5, e6⟩
      all_goals
        go_wp2_with fail
        generalize w1.heap.size = N at *
        generalize w1.alloc (.cells #[.int .u8 f.op, .string (str f.res), .int .i64 (f.height : Int), .bool f.dead] 136) = W at *
        have d1 := cls_cell (F := fun _ => False) c6' id
        have d2 := cls_cell (F := fun _ => False) cg' id
        have d3 := cls_cell (F := fun _ => False) m1 id
        refine Mix.wp_region_mix [9] [] (Step (fun _ => False) W) (by kernel_rfl) (by kernel_rfl) (Step.refl.drew) (fun hcls => ?_)
        refine Mix.wpL_reads 9 (by rfl) ?_
        simp only [List.take_succ_cons, List.drop_succ_cons, List.take_zero, List.drop_zero]
        repeat (go_big_quiet_step (fail))
        refine wpQuiet_nil ?_
        refine Mix.wpL_op (by rfl) (fun K hK => ?_)
        go_simp
        refine (HP.out _ (H2.out.quiet Step.refl.drew)).mono ?_
        rintro e w3 ⟨rfl, t3⟩
        refine hK _ _ (fun hlt => absurd hlt (by decide)) ?_
        clear hK K
        refine Mix.wpL_end ?_
        go_wp2
        go_ret
        rw [KRet, HG.out, if_neg (by simp), if_neg HQ.out]
        exact ⟨rfl, KUp.trans (P1.out.drew) ((H2.out.quiet Step.refl.drew).up t3)⟩
  · have e1 : (er != 0) = true := by simpa using he
    have HE := Lib.hid he
    clear he
    go_enter Try.func80, Try.ntmps80
    go_wp2_with fail
    refine HC.out.mono ?_
    rintro e w1 ⟨rfl, u1⟩
    unfold Fr.val
    go_wp2_with fail
    go_ret
    rw [KRet, HG.out, if_pos HE.out]
    exact ⟨rfl, KUp.quiet (H.out.up u1) (Step.refl.alloc _)⟩
end
end Go.Proofs.Ytpebdfgfikjkeaa
/-! check.checker.branch. -/
namespace Go.Proofs.Ytpebdfgfikjkeaa
open Go.RowKit

def leaveS (t : List UInt8) (s : Ss) : Ss × Int := if (allS t s).2 = 0 then (deadS (allS t s).1, 0) else allS t s
def labsE (fs : List Fr) (t : List UInt8) : List Nat → Int
  | [] => 0
  | n :: L => if (labelF fs n).2 = 0 then (if (labelF fs n).1 = t then labsE fs t L else 21) else (labelF fs n).2
def brifS (t : List UInt8) (s : Ss) : Ss × Int :=
  if fstE [(wantE 127 s).2, (allS t (wantE 127 s).1).2] = 0 then (pushS t (allS t (wantE 127 s).1).1, 0) else ((allS t (wantE 127 s).1).1, fstE [(wantE 127 s).2, (allS t (wantE 127 s).1).2])
def brtabS (t : List UInt8) (L : List Nat) (s : Ss) : Ss × Int :=
  if (wantE 127 s).2 = 0 then (if labsE (wantE 127 s).1.fs t L = 0 then leaveS t (wantE 127 s).1 else ((wantE 127 s).1, labsE (wantE 127 s).1.fs t L)) else wantE 127 s
def branchS (op a : Nat) (L : List Nat) (s : Ss) : Ss × Int :=
  if (labelF s.fs a).2 = 0 then (if op = 13 then brifS (labelF s.fs a).1 s else if op = 14 then brtabS (labelF s.fs a).1 L s else leaveS (labelF s.fs a).1 s) else (s, (labelF s.fs a).2)

theorem fr_default_len : (default : Fr).res.length ≤ 100 := Nat.zero_le _
theorem labelF_len {n : Nat} {s : Ss} (h : s.ok n) (a : Nat) : (labelF s.fs a).1.length ≤ 100 := by
  unfold labelF
  split
  · split
    · simp
    · rw [List.getD]
      cases hg : s.fs[s.fs.length - 1 - a]? with
      | none => exact fr_default_len
      | some f => exact h.res f (List.mem_of_getElem? hg)
  · simp
theorem deadS_ok {n : Nat} {s : Ss} (h : s.ok n) : (deadS s).ok n := by
  unfold deadS
  split
  · exact h
  · rename_i f hf
    have hm : f ∈ s.fs := List.mem_of_getElem? hf
    refine ⟨by have := h.fs; rw [deadF_len]; exact this, Nat.le_trans (cutF_le _ _) h.l, fun g hg => ?_⟩
    unfold deadF at hg
    rcases List.mem_or_eq_of_mem_set hg with e | e
    · exact h.res g e
    · rw [e]
      show (s.fs.getD (s.fs.length - 1) default).res.length ≤ 100
      have hf' : s.fs[s.fs.length - 1]? = some f := hf
      rw [List.getD, hf']
      exact h.res f hm
theorem Ss.ok.leave {n : Nat} {s : Ss} (h : s.ok n) (t : List UInt8) : (leaveS t s).1.ok n := by
  unfold leaveS
  split
  · exact deadS_ok (h.all t)
  · exact h.all t
theorem Ss.ok.branch {n : Nat} {s : Ss} (h : s.ok n) (op a : Nat) (L : List Nat) : (branchS op a L s).1.ok (n + 1) := by
  have hl := labelF_len h a
  unfold branchS
  split
  · split
    · unfold brifS
      split
      · exact ((h.wantE 127).all _).push _ hl
      · exact ((h.wantE 127).all _).less (by omega)
    · split
      · unfold brtabS
        split
        · split
          · exact ((h.wantE 127).leave _).less (by omega)
          · exact (h.wantE 127).less (by omega)
        · exact (h.wantE 127).less (by omega)
      · exact (h.leave _).less (by omega)
  · exact h.less (by omega)

theorem str_beq_ne {u t : List UInt8} (h : ¬ u = t) : ((str u).toList == (str t).toList) = false := by
  rw [ByteArray.toList_eq, ByteArray.toList_eq]
  simpa [str] using h
section
variable {w : World} {a : Ka} {E : Ke} {I : Nat → Prop} {s : Ss} {n : Nat}
set_option maxRecDepth 100000 in
set_option maxHeartbeats 1600000 in
theorem k_branch_no (op x b m c : Nat) (A : Option Addr) (h : Kk w a E I s) (hb : s.ok n) (hn : n ≤ 1000) (hx : x < 18446744073709551616) (he : ¬ (labelF s.fs x).2 = 0) :
    Calls Try.prog 82 #[.pointer (some ⟨a.k, 0, none⟩), .agg #[.int .u8 (op : Int), .int .u64 (x : Int), .int .u64 (b : Int), .slice A m c]] w (KRet w a E I (s, (labelF s.fs x).2)) := by
  have s0 : Step (fun _ => False) w (w.alloc (.cells #[.int .u8 (op : Int), .int .u64 (x : Int), .int .u64 (b : Int), .slice A m c] 40)) := Step.refl.alloc _
  have b0 := Blk.new w 40 #[.int .u8 (op : Int), .int .u64 (x : Int), .int .u64 (b : Int), .slice A m c]
  have h0 := h.quiet s0
  have m1 := (b0.cell 1).trans (show _ = some (Value.int .u64 (x : Int)) from rfl)
  have hL : Hid (∀ W, Kk W a E I s → _) := fun W hW => c_label (w := W) x hW.ctl hb hn hx
  have c6 := h0.c6
  have e1 : ((labelF s.fs x).2 != 0) = true := by simpa using he
  have H0 := Lib.hid h0
  have S0 := Lib.hid s0
  generalize labelF s.fs x = r at *
  obtain ⟨t, er⟩ := r
  simp only at e1
  have d1 := cls_cell (F := fun _ => False) c6 id
  have d2 := cls_cell (F := fun _ => False) m1 id
  clear b0 h0 h m1 s0 he
  go_enter Try.func82, Try.ntmps82
  go_wp2_with fail
  generalize w.heap.size = N at *
  generalize w.alloc (.cells #[.int .u8 (op : Int), .int .u64 (x : Int), .int .u64 (b : Int), .slice A m c] 40) = W at *
  refine Mix.wp_region_mix [6] [6] (Step (fun _ => False) W) (by kernel_rfl) (by kernel_rfl) (Step.refl.drew) (fun hcls => ?_)
  refine Mix.wpL_reads 6 (by rfl) ?_
  simp only [List.take_succ_cons, List.drop_succ_cons, List.take_zero, List.drop_zero]
  repeat (go_big_quiet_step (fail))
  refine wpQuiet_nil ?_
  refine Mix.wpL_op (by rfl) (fun K hK => ?_)
  go_simp
  refine (hL.out _ (H0.out.quiet Step.refl.drew)).mono ?_
  rintro e w3 ⟨rfl, t3⟩
  refine hK _ _ (fun hlt => Mix.cl (Step.refl.drew.trans t3)) ?_
  clear hK K
  refine Mix.wpL_reads 5 (by rfl) ?_
  simp only [List.take_succ_cons, List.drop_succ_cons, List.take_zero, List.drop_zero]
  repeat (go_big_quiet_step (fail))
  refine wpQuiet_nil ?_
  refine Mix.wpL_end ?_
  go_wp2
  go_ret
  exact ⟨rfl, KUp.same (H0.out.quiet (Step.refl.drew.trans t3)) |>.after (S0.out.trans (Step.refl.drew.trans t3))⟩
set_option maxRecDepth 100000 in
set_option maxHeartbeats 1600000 in
theorem k_branch_else (op x b m c : Nat) (A : Option Addr) (h : Kk w a E I s) (hb : s.ok n) (hn : n ≤ 1000) (hx : x < 18446744073709551616) (he : (labelF s.fs x).2 = 0) (o3 : ((op : Int) == 13) = false) (o4 : ((op : Int) == 14) = false) :
    Calls Try.prog 82 #[.pointer (some ⟨a.k, 0, none⟩), .agg #[.int .u8 (op : Int), .int .u64 (x : Int), .int .u64 (b : Int), .slice A m c]] w (KRet w a E I (leaveS (labelF s.fs x).1 s)) := by
  have s0 : Step (fun _ => False) w (w.alloc (.cells #[.int .u8 (op : Int), .int .u64 (x : Int), .int .u64 (b : Int), .slice A m c] 40)) := Step.refl.alloc _
  have b0 := Blk.new w 40 #[.int .u8 (op : Int), .int .u64 (x : Int), .int .u64 (b : Int), .slice A m c]
  have h0 := h.quiet s0
  have m1 := (b0.cell 1).trans (show _ = some (Value.int .u64 (x : Int)) from rfl)
  have hNI : ¬ I w.heap.size := fun hk => by have := Ctl.in_ (l := s.l) (fs := s.fs) h.ctl _ hk; omega
  have hL : Hid (∀ W, Kk W a E I s → _) := fun W hW => c_label (w := W) x hW.ctl hb hn hx
  have c6 := h0.c6
  have hl := labelF_len hb x
  have H0 := Lib.hid h0
  have S0 := Lib.hid s0
  have B0 := Lib.hid b0
  generalize labelF s.fs x = r at *
  obtain ⟨t, er⟩ := r
  simp only at he hl
  subst he
  have d1 := cls_cell (F := fun _ => False) c6 id
  have d2 := cls_cell (F := fun _ => False) m1 id
  clear b0 h0 h m1 s0 c6
  go_enter Try.func82, Try.ntmps82
  go_wp2_with fail
  generalize w.heap.size = N at *
  generalize w.alloc (.cells #[.int .u8 (op : Int), .int .u64 (x : Int), .int .u64 (b : Int), .slice A m c] 40) = W at *
  refine Mix.wp_region_mix [6] [6] (Step (fun _ => False) W) (by kernel_rfl) (by kernel_rfl) (Step.refl.drew) (fun hcls => ?_)
  refine Mix.wpL_reads 6 (by rfl) ?_
  simp only [List.take_succ_cons, List.drop_succ_cons, List.take_zero, List.drop_zero]
  repeat (go_big_quiet_step (fail))
  refine wpQuiet_nil ?_
  refine Mix.wpL_op (by rfl) (fun K hK => ?_)
  go_simp
  refine (hL.out _ (H0.out.quiet Step.refl.drew)).mono ?_
  rintro e w3 ⟨rfl, t3⟩
  refine hK _ _ (fun hlt => Mix.cl (Step.refl.drew.trans t3)) ?_
  clear hK K
  refine Mix.wpL_reads 5 (by rfl) ?_
  simp only [List.take_succ_cons, List.drop_succ_cons, List.take_zero, List.drop_zero]
  repeat (go_big_quiet_step (fail))
  refine wpQuiet_nil ?_
  refine Mix.wpL_end ?_
  have S3 := Lib.hid (S0.out.trans (Step.refl.drew.trans t3))
  have H3 := Lib.hid (H0.out.quiet (Step.refl.drew.trans t3))
  have B3 := Lib.hid (B0.out.step (Step.refl.drew.trans t3) id)
  have c6 := H3.out.c6
  have m0 := (B3.out.cell 0).trans (show _ = some (Value.int .u8 (op : Int)) from rfl)
  have m3 := (B3.out.cell 3).trans (show _ = some (Value.slice A m c) from rfl)
  clear hL H0 S0 d1 d2 t3 B0
  have HC := Lib.hid (c_all t H3.out.ctl hb hn hl)
  have HOK := Lib.hid (Ss.ok.all hb t)
  have hg : leaveS t s = if (allS t s).2 = 0 then (deadS (allS t s).1, 0) else allS t s := rfl
  generalize allS t s = r at HC HOK hg
  obtain ⟨s2, er⟩ := r
  simp only at HC HOK hg
  have HG := Lib.hid hg
  clear hg
  by_cases h2 : er = 0
  · subst h2
    go_wp2_with fail
    refine HC.out.mono ?_
    rintro e w2 ⟨rfl, u2⟩
    obtain ⟨I2, h2, p2⟩ := H3.out.up u2
    have c6'' := h2.c6
    have HD := Lib.hid (c_dead h2.ctl HOK.out hn)
    have H2 := Lib.hid h2
    have P2 := Lib.hid p2
    clear h2 p2 u2
    go_wp2_with fail
    refine HD.out.mono ?_
    rintro e w4 ⟨rfl, u4⟩
    go_wp2_with fail
    go_ret
    unfold KRet
    rw [HG.out, if_pos trivial]
    exact ⟨rfl, KUp.after S3.out (KUp.trans P2.out (H2.out.up u4))⟩
  · have e1 : (er != 0) = true := by simpa using h2
    have HE := Lib.hid h2
    clear h2
    go_wp2_with fail
    refine HC.out.mono ?_
    rintro e w2 ⟨rfl, u2⟩
    go_wp2_with fail
    go_ret
    unfold KRet
    rw [HG.out, if_neg HE.out]
    exact ⟨rfl, KUp.after S3.out (H3.out.up u2)⟩

set_option maxRecDepth 100000 in
set_option maxHeartbeats 1600000 in
theorem k_branch_if (op x b m c : Nat) (A : Option Addr) (h : Kk w a E I s) (hb : s.ok n) (hn : n ≤ 1000) (hx : x < 18446744073709551616) (he : (labelF s.fs x).2 = 0) (o3 : ((op : Int) == 13) = true) :
    Calls Try.prog 82 #[.pointer (some ⟨a.k, 0, none⟩), .agg #[.int .u8 (op : Int), .int .u64 (x : Int), .int .u64 (b : Int), .slice A m c]] w (KRet w a E I (brifS (labelF s.fs x).1 s)) := by
  have s0 : Step (fun _ => False) w (w.alloc (.cells #[.int .u8 (op : Int), .int .u64 (x : Int), .int .u64 (b : Int), .slice A m c] 40)) := Step.refl.alloc _
  have b0 := Blk.new w 40 #[.int .u8 (op : Int), .int .u64 (x : Int), .int .u64 (b : Int), .slice A m c]
  have h0 := h.quiet s0
  have m1 := (b0.cell 1).trans (show _ = some (Value.int .u64 (x : Int)) from rfl)
  have hNI : ¬ I w.heap.size := fun hk => by have := Ctl.in_ (l := s.l) (fs := s.fs) h.ctl _ hk; omega
  have hL : Hid (∀ W, Kk W a E I s → _) := fun W hW => c_label (w := W) x hW.ctl hb hn hx
  have c6 := h0.c6
  have hl := labelF_len hb x
  have H0 := Lib.hid h0
  have S0 := Lib.hid s0
  have B0 := Lib.hid b0
  generalize labelF s.fs x = r at *
  obtain ⟨t, er⟩ := r
  simp only at he hl
  subst he
  have d1 := cls_cell (F := fun _ => False) c6 id
  have d2 := cls_cell (F := fun _ => False) m1 id
  clear b0 h0 h m1 s0 c6
  go_enter Try.func82, Try.ntmps82
  go_wp2_with fail
  generalize w.heap.size = N at *
  generalize w.alloc (.cells #[.int .u8 (op : Int), .int .u64 (x : Int), .int .u64 (b : Int), .slice A m c] 40) = W at *
  refine Mix.wp_region_mix [6] [6] (Step (fun _ => False) W) (by kernel_rfl) (by kernel_rfl) (Step.refl.drew) (fun hcls => ?_)
  refine Mix.wpL_reads 6 (by rfl) ?_
  simp only [List.take_succ_cons, List.drop_succ_cons, List.take_zero, List.drop_zero]
  repeat (go_big_quiet_step (fail))
  refine wpQuiet_nil ?_
  refine Mix.wpL_op (by rfl) (fun K hK => ?_)
  go_simp
  refine (hL.out _ (H0.out.quiet Step.refl.drew)).mono ?_
  rintro e w3 ⟨rfl, t3⟩
  refine hK _ _ (fun hlt => Mix.cl (Step.refl.drew.trans t3)) ?_
  clear hK K
  refine Mix.wpL_reads 5 (by rfl) ?_
  simp only [List.take_succ_cons, List.drop_succ_cons, List.take_zero, List.drop_zero]
  repeat (go_big_quiet_step (fail))
  refine wpQuiet_nil ?_
  refine Mix.wpL_end ?_
  have S3 := Lib.hid (S0.out.trans (Step.refl.drew.trans t3))
  have H3 := Lib.hid (H0.out.quiet (Step.refl.drew.trans t3))
  have B3 := Lib.hid (B0.out.step (Step.refl.drew.trans t3) id)
  have c6 := H3.out.c6
  have m0 := (B3.out.cell 0).trans (show _ = some (Value.int .u8 (op : Int)) from rfl)
  have m3 := (B3.out.cell 3).trans (show _ = some (Value.slice A m c) from rfl)
  clear hL H0 S0 d1 d2 t3 B0
  have hg : brifS t s = if fstE [(wantE 127 s).2, (allS t (wantE 127 s).1).2] = 0 then (pushS t (allS t (wantE 127 s).1).1, 0) else ((allS t (wantE 127 s).1).1, fstE [(wantE 127 s).2, (allS t (wantE 127 s).1).2]) := rfl
  have HW := Lib.hid (fun W (hW : Kk W a E I s) => k_want 127 hW hb hn)
  have hb1 := hb.wantE 127
  generalize wantE 127 s = r1 at hg HW hb1
  obtain ⟨s1, e1⟩ := r1
  simp only at hg hb1
  have HA := Lib.hid (fun I1 W (hW : Kk W a E I1 s1) => c_all t hW.ctl hb1 hn hl)
  have hb2 := hb1.all t
  generalize allS t s1 = r2 at hg HA hb2
  obtain ⟨s2, e2⟩ := r2
  simp only at hg hb2
  have HF : Hid (∀ W : World, Calls Try.prog 95 #[.slice (some ⟨W.heap.size, 0, none⟩) 2 2] (W.alloc (.cells #[.int .i64 e1, .int .i64 e2] 35)) fun e w' => e = .returned (.int .i64 (fstE [e1, e2])) ∧ W.alloc (.cells #[.int .i64 e1, .int .i64 e2] 35) = w') := fun W =>
    k_same 2 (rfl : 2 = [e1, e2].length) (by omega) (reads_new W #[.int .i64 e1, .int .i64 e2] 35 1 2 rfl)
  generalize fstE [e1, e2] = q at hg HF
  have HG := Lib.hid hg
  have HB2 := Lib.hid hb2
  clear hg hb1 hb2
  go_wp2_with fail
  have d6 := cls_cell (F := I) c6 H3.out.kf.self
  refine Mix.wp_region_mix [1, 7, 8, 9] [1, 7, 8, 9] (Step I w3) (by kernel_rfl) (by kernel_rfl) (Step.refl.drew) (fun hcls => ?_)
  refine Mix.wpL_reads 1 (by rfl) ?_
  simp only [List.take_succ_cons, List.drop_succ_cons, List.take_zero, List.drop_zero]
  repeat (go_big_quiet_step (fail))
  refine wpQuiet_nil ?_
  refine Mix.wpL_op (by rfl) (fun K hK => ?_)
  go_simp
  refine (HW.out _ (H3.out.quiet Step.refl.drew)).mono ?_
  rintro e w4 ⟨rfl, I4, h4, p4⟩
  refine hK _ _ (fun hlt => Mix.cl (Step.refl.drew.trans p4.1)) ?_
  clear hK K
  refine Mix.wpL_reads 5 (by rfl) ?_
  simp only [List.take_succ_cons, List.drop_succ_cons, List.take_zero, List.drop_zero]
  repeat (go_big_quiet_step (fail))
  refine wpQuiet_nil ?_
  refine Mix.wpL_op (by rfl) (fun K hK => ?_)
  go_simp
  refine (HA.out _ _ h4).mono ?_
  rintro e w5 ⟨rfl, u5⟩
  obtain ⟨I5, h5, p5⟩ := h4.up u5
  refine hK _ _ (fun hlt => Mix.cl (Step.refl.drew.trans (p4.trans p5).1)) ?_
  clear hK K
  refine Mix.wpL_op (by rfl) (fun K hK => ?_)
  go_simp
  refine hK _ _ (fun hlt => Mix.cl ((Step.refl.drew.trans (p4.trans p5).1).alloc _)) ?_
  clear hK K
  refine Mix.wpL_op (by rfl) (fun K hK => ?_)
  go_simp
  refine (HF.out w5).mono ?_
  rintro e w6 ⟨rfl, rfl⟩
  refine hK _ _ (fun hlt => Mix.cl ((Step.refl.drew.trans (p4.trans p5).1).alloc _)) ?_
  clear hK K
  refine Mix.wpL_reads 1 (by rfl) ?_
  simp only [List.take_succ_cons, List.drop_succ_cons, List.take_zero, List.drop_zero]
  repeat (go_big_quiet_step (fail))
  refine wpQuiet_nil ?_
  refine Mix.wpL_end ?_
  have hs6 : Step (fun _ => False) w5 (w5.alloc (.cells #[.int .i64 e1, .int .i64 e2] 35)) := Step.refl.alloc _
  have H6 := Lib.hid (h5.quiet hs6)
  have P6 := Lib.hid ((Upd.after Step.refl.drew (p4.trans p5)).quiet hs6)
  have c7 := H6.out.c6
  have cg := H6.out.cg
  clear p4 p5 h4 h5 u5 hs6 d6 c6
  generalize w5.alloc (.cells #[.int .i64 e1, .int .i64 e2] 35) = w6 at *
  by_cases hq : q = 0
  · subst hq
    go_wp2_with fail
    refine (c_push t H6.out.ctl HB2.out hn hl).mono ?_
    rintro e w7 ⟨rfl, u7⟩
    go_wp2_with fail
    go_ret
    rw [KRet, HG.out, if_pos trivial]
    exact ⟨rfl, KUp.after S3.out (KUp.trans P6.out (H6.out.up u7))⟩
  · have q1 : (q != 0) = true := by simpa using hq
    have HE := Lib.hid hq
    clear hq
    go_wp2_with fail
    go_ret
    rw [KRet, HG.out, if_neg HE.out]
    exact ⟨rfl, KUp.after S3.out (KUp.trans P6.out (KUp.same H6.out))⟩

set_option maxRecDepth 100000 in
set_option maxHeartbeats 3200000 in
theorem k_branch_tab (op x b m c : Nat) (A : Option Addr) (L : List Nat) (h : Kk w a E I s) (hb : s.ok n) (hn : n ≤ 1000) (hx : x < 18446744073709551616) (he : (labelF s.fs x).2 = 0) (o3 : ((op : Int) == 13) = false) (o4 : ((op : Int) == 14) = true)
    (HM : Hid (m = L.length)) (hm : m ≤ 1000) (hL32 : ∀ y ∈ L, y < 4294967296) (hR : Reads w a.R 1 A m (L.flatMap fun y : Nat => [Value.int .u32 (y : Int)])) :
    Calls Try.prog 82 #[.pointer (some ⟨a.k, 0, none⟩), .agg #[.int .u8 (op : Int), .int .u64 (x : Int), .int .u64 (b : Int), .slice A m c]] w (KRet w a E I (brtabS (labelF s.fs x).1 L s)) := by
  have HR := Lib.hid hR
  have HL32 := Lib.hid hL32
  clear hR hL32
  have s0 : Step (fun _ => False) w (w.alloc (.cells #[.int .u8 (op : Int), .int .u64 (x : Int), .int .u64 (b : Int), .slice A m c] 40)) := Step.refl.alloc _
  have b0 := Blk.new w 40 #[.int .u8 (op : Int), .int .u64 (x : Int), .int .u64 (b : Int), .slice A m c]
  have h0 := h.quiet s0
  have m1 := (b0.cell 1).trans (show _ = some (Value.int .u64 (x : Int)) from rfl)
  have hNI : ¬ I w.heap.size := fun hk => by have := Ctl.in_ (l := s.l) (fs := s.fs) h.ctl _ hk; omega
  have hL : Hid (∀ W, Kk W a E I s → _) := fun W hW => c_label (w := W) x hW.ctl hb hn hx
  have c6 := h0.c6
  have hl := labelF_len hb x
  have H0 := Lib.hid h0
  have S0 := Lib.hid s0
  have B0 := Lib.hid b0
  generalize labelF s.fs x = r at *
  obtain ⟨t, er⟩ := r
  simp only at he hl
  subst he
  have d1 := cls_cell (F := fun _ => False) c6 id
  have d2 := cls_cell (F := fun _ => False) m1 id
  clear b0 h0 h m1 s0 c6
  go_enter Try.func82, Try.ntmps82
  go_wp2_with fail
  generalize w.heap.size = N at *
  generalize w.alloc (.cells #[.int .u8 (op : Int), .int .u64 (x : Int), .int .u64 (b : Int), .slice A m c] 40) = W at *
  refine Mix.wp_region_mix [6] [6] (Step (fun _ => False) W) (by kernel_rfl) (by kernel_rfl) (Step.refl.drew) (fun hcls => ?_)
  refine Mix.wpL_reads 6 (by rfl) ?_
  simp only [List.take_succ_cons, List.drop_succ_cons, List.take_zero, List.drop_zero]
  repeat (go_big_quiet_step (fail))
  refine wpQuiet_nil ?_
  refine Mix.wpL_op (by rfl) (fun K hK => ?_)
  go_simp
  refine (hL.out _ (H0.out.quiet Step.refl.drew)).mono ?_
  rintro e w3 ⟨rfl, t3⟩
  refine hK _ _ (fun hlt => Mix.cl (Step.refl.drew.trans t3)) ?_
  clear hK K
  refine Mix.wpL_reads 5 (by rfl) ?_
  simp only [List.take_succ_cons, List.drop_succ_cons, List.take_zero, List.drop_zero]
  repeat (go_big_quiet_step (fail))
  refine wpQuiet_nil ?_
  refine Mix.wpL_end ?_
  have S3 := Lib.hid (S0.out.trans (Step.refl.drew.trans t3))
  have H3 := Lib.hid (H0.out.quiet (Step.refl.drew.trans t3))
  have B3 := Lib.hid (B0.out.step (Step.refl.drew.trans t3) id)
  have c6 := H3.out.c6
  have m0 := (B3.out.cell 0).trans (show _ = some (Value.int .u8 (op : Int)) from rfl)
  have m3 := (B3.out.cell 3).trans (show _ = some (Value.slice A m c) from rfl)
  clear hL H0 S0 d1 d2 t3 B0
  have hg : brtabS t L s = if (wantE 127 s).2 = 0 then (if labsE (wantE 127 s).1.fs t L = 0 then leaveS t (wantE 127 s).1 else ((wantE 127 s).1, labsE (wantE 127 s).1.fs t L)) else wantE 127 s := rfl
  have hb1 := hb.wantE 127
  have HW := Lib.hid (k_want 127 H3.out hb hn)
  have HR3 := Lib.hid (HR.out.step S3.out (fun _ _ => id))
  generalize wantE 127 s = r1 at hg HW hb1
  obtain ⟨s1, e1⟩ := r1
  simp only at hg hb1
  have HG1 := Lib.hid hg
  have HB1 := Lib.hid hb1
  clear hg hb1
  by_cases hq : e1 = 0
  · subst hq
    have N3 : N < w3.heap.size := B3.out.lt
    go_wp2_with fail
    refine HW.out.mono ?_
    rintro e w4 ⟨rfl, I1, h1, p1⟩
    have m3' := (p1.1.cell (p := ⟨N, 3, none⟩) N3 hNI).trans m3
    have HV := Lib.hid h1
    have HR4 := Lib.hid (HR3.out.step p1.1 H3.out.kf.far)
    have P1 := Lib.hid p1
    clear h1 p1 c6 m3
    go_wp2_with fail
    go_loopw [63] (fun iv wr => ∃ (j : Nat), j ≤ m ∧ iv = .int .i64 (j : Int) ∧ Hid (labsE s1.fs t L = labsE s1.fs t (L.drop j)) ∧ Hid (Step (fun _ => False) w4 wr)) (fun iv _ => m + 1 - (intOf iv).toNat)
    case atStart => exact ⟨0, by omega, rfl, rfl, Step.refl⟩
    case round =>
      obtain ⟨j, hj, rfl, HI, HS⟩ := hrel
      have hv := HV.out.quiet HS.out
      replace HV := Lib.hid hv
      have c6 := hv.c6
      by_cases hlt : j < m
      · have g1 : (j : Int) < (m : Int) := by omega
        have i0 : (0 : Int) ≤ (j : Int) := by omega
        have hw1 := IntWalk.i64_in ((j : Int) + 1) (by omega)
        have hjl : j < L.length := by rw [← HM.out]; exact hlt
        have hr5 := HR4.out.step HS.out (fun _ _ => id)
        obtain ⟨bk, off, rfl, _, hbl, hc⟩ := reads_row (fun x : Nat => [Value.int .u32 (x : Int)]) 1 (by decide) (fun _ => rfl) hr5 hjl
        replace hc := hc 0 _ rfl
        rw [Nat.mul_one, Nat.add_zero] at hc
        have HD : Hid (L.drop j = L[j] :: L.drop (j + 1)) := List.drop_eq_getElem_cons hjl
        have hy := HL32.out L[j] (List.getElem_mem hjl)
        obtain ⟨y, hye⟩ : ∃ y, y = L[j] := ⟨_, rfl⟩
        rw [← hye] at hc HD hy
        clear hye hr5
        have hwy := IntWalk.u64_in (y : Int) (by omega)
        have HLB := Lib.hid (c_label y hv.ctl HB1.out hn (by omega))
        have HU : Hid (labsE s1.fs t (y :: L.drop (j + 1)) = if (labelF s1.fs y).2 = 0 then (if (labelF s1.fs y).1 = t then labsE s1.fs t (L.drop (j + 1)) else 21) else (labelF s1.fs y).2) := rfl
        generalize labelF s1.fs y = q at HLB HU
        obtain ⟨u, eu⟩ := q
        clear hv
        by_cases hu : eu = 0
        · subst hu
          by_cases hut : u = t
          · subst hut
            have HI2 : Hid (labsE s1.fs u L = labsE s1.fs u (L.drop (j + 1))) := by unfold Hid; rw [HI.out, HD.out, HU.out, if_pos rfl, if_pos rfl]
            go_wp2_with fail
            refine HLB.out.mono ?_
            rintro e w5 ⟨rfl, t5⟩
            have T5 := Lib.hid t5
            clear t5
            go_wp2_with fail
            go_roundw
            case rel => exact ⟨j + 1, by omega, by rw [Int.natCast_add]; rfl, HI2, HS.out.trans T5.out⟩
            case measure => simp [intOf]; omega
          · have HI2 : Hid (labsE s1.fs t L = 21) := by unfold Hid; rw [HI.out, HD.out, HU.out, if_pos rfl, if_neg hut]
            have q2 := str_beq_ne hut
            clear hut
            go_wp2_with fail
            refine HLB.out.mono ?_
            rintro e w5 ⟨rfl, t5⟩
            have T5 := Lib.hid t5
            clear t5
            go_wp2_with fail
            go_ret
            rw [KRet, HG1.out, if_pos trivial, HI2.out, if_neg (by decide)]
            exact ⟨rfl, KUp.after S3.out <| KUp.trans P1.out <| KUp.after HS.out <| KUp.quiet (KUp.same HV.out) T5.out⟩
        · have HI2 : Hid (labsE s1.fs t L = eu) := by unfold Hid; rw [HI.out, HD.out, HU.out, if_neg hu]
          have q2 : (eu != 0) = true := by simpa using hu
          have HE := Lib.hid hu
          clear hu
          go_wp2_with fail
          refine HLB.out.mono ?_
          rintro e w5 ⟨rfl, t5⟩
          have T5 := Lib.hid t5
          clear t5
          go_wp2_with fail
          go_ret
          rw [KRet, HG1.out, if_pos trivial, HI2.out, if_neg HE.out]
          exact ⟨rfl, KUp.after S3.out <| KUp.trans P1.out <| KUp.after HS.out <| KUp.quiet (KUp.same HV.out) T5.out⟩
      · obtain rfl : j = m := by omega
        have HI2 : Hid (labsE s1.fs t L = 0) := by unfold Hid; rw [HI.out, HM.out, List.drop_length]; rfl
        have HC := Lib.hid (c_all t HV.out.ctl HB1.out hn hl)
        have HOK := Lib.hid (Ss.ok.all HB1.out t)
        have hg : leaveS t s1 = if (allS t s1).2 = 0 then (deadS (allS t s1).1, 0) else allS t s1 := rfl
        generalize allS t s1 = r at HC HOK hg
        obtain ⟨s2, er⟩ := r
        simp only at HC HOK hg
        have HG := Lib.hid hg
        clear hg
        by_cases h2 : er = 0
        · subst h2
          go_wp2_with fail
          refine HC.out.mono ?_
          rintro e w2 ⟨rfl, u2⟩
          obtain ⟨I2, h2, p2⟩ := HV.out.up u2
          have c6'' := h2.c6
          have HD := Lib.hid (c_dead h2.ctl HOK.out hn)
          have H2 := Lib.hid h2
          have P2 := Lib.hid p2
          clear h2 p2 u2
          go_wp2_with fail
          refine HD.out.mono ?_
          rintro e w4 ⟨rfl, u4⟩
          go_wp2_with fail
          go_ret
          rw [KRet, HG1.out, if_pos trivial, HI2.out, if_pos rfl]
          rw [HG.out, if_pos trivial]
          exact ⟨rfl, KUp.after S3.out <| KUp.trans P1.out <| KUp.after HS.out (KUp.trans P2.out (H2.out.up u4))⟩
        · have e1 : (er != 0) = true := by simpa using h2
          have HE := Lib.hid h2
          clear h2
          go_wp2_with fail
          refine HC.out.mono ?_
          rintro e w2 ⟨rfl, u2⟩
          go_wp2_with fail
          go_ret
          rw [KRet, HG1.out, if_pos trivial, HI2.out, if_pos rfl]
          rw [HG.out, if_neg HE.out]
          exact ⟨rfl, KUp.after S3.out <| KUp.trans P1.out <| KUp.after HS.out (HV.out.up u2)⟩

  · have q1 : (e1 != 0) = true := by simpa using hq
    have HE := Lib.hid hq
    clear hq
    go_wp2_with fail
    refine HW.out.mono ?_
    rintro e w4 ⟨rfl, u4⟩
    go_wp2_with fail
    go_ret
    rw [KRet, HG1.out, if_neg HE.out]
    exact ⟨rfl, KUp.after S3.out u4⟩
end
end Go.Proofs.Ytpebdfgfikjkeaa
/-! check.checker.branch (all ways), control. -/
namespace Go.Proofs.Ytpebdfgfikjkeaa
open Go.RowKit

theorem int_eq {op k : Nat} (h : op = k) : ((op : Int) == (k : Int)) = true := by subst h; exact beq_self_eq_true _
theorem int_ne {op k : Nat} (h : ¬ op = k) : ((op : Int) == (k : Int)) = false := beq_eq_false_iff_ne.2 (by omega)
section
variable {w : World} {a : Ka} {E : Ke} {I : Nat → Prop} {s : Ss} {n : Nat}
theorem k_branch (op x b m c : Nat) (A : Option Addr) (L : List Nat) (h : Kk w a E I s) (hb : s.ok n) (hn : n ≤ 1000) (hx : x < 18446744073709551616)
    (HM : Hid (m = L.length)) (hm : m ≤ 1000) (hL32 : ∀ y ∈ L, y < 4294967296) (hR : Reads w a.R 1 A m (L.flatMap fun y : Nat => [Value.int .u32 (y : Int)])) :
    Calls Try.prog 82 #[.pointer (some ⟨a.k, 0, none⟩), .agg #[.int .u8 (op : Int), .int .u64 (x : Int), .int .u64 (b : Int), .slice A m c]] w (KRet w a E I (branchS op x L s)) := by
  unfold branchS
  by_cases he : (labelF s.fs x).2 = 0
  · rw [if_pos he]
    by_cases h13 : op = 13
    · rw [if_pos h13]
      exact k_branch_if op x b m c A h hb hn hx he (int_eq h13)
    · rw [if_neg h13]
      by_cases h14 : op = 14
      · rw [if_pos h14]
        exact k_branch_tab op x b m c A L h hb hn hx he (int_ne h13) (int_eq h14) HM hm hL32 hR
      · rw [if_neg h14]
        exact k_branch_else op x b m c A h hb hn hx he (int_ne h13) (int_ne h14)
  · rw [if_neg he]
    exact k_branch_no op x b m c A h hb hn hx he

def ifS (x : Nat) (s : Ss) : Ss × Int := if (wantE 127 s).2 = 0 then (openS 4 (bkF x) (wantE 127 s).1, 0) else wantE 127 s
def elseS (s : Ss) : Ss × Int := if (closeS s).2.2 = 0 then (openS 5 (closeS s).2.1.res (closeS s).1, 0) else ((closeS s).1, (closeS s).2.2)
def controlS (E : Ke) (op x : Nat) (L : List Nat) (s : Ss) : Ss × Int :=
  if op = 0 then (deadS s, 0) else if op = 2 ∨ op = 3 then (openS op (bkF x) s, 0) else if op = 4 then ifS x s else if op = 5 then elseS s else if op = 11 then endS s else if op = 15 then leaveS E.result s else branchS op x L s
theorem Ss.ok.control {n : Nat} {s : Ss} (h : s.ok n) (E : Ke) (op x : Nat) (L : List Nat) : (controlS E op x L s).1.ok (n + 1) := by
  have hk := bkF_len x
  unfold controlS
  split
  · exact (deadS_ok h).less (by omega)
  · split
    · exact h.open_ _ _ (by omega)
    · split
      · unfold ifS
        split
        · exact (h.wantE 127).open_ _ _ (by omega)
        · exact (h.wantE 127).less (by omega)
      · split
        · have := h.close
          unfold elseS
          split
          · exact this.1.open_ _ _ this.2
          · exact this.1.less (by omega)
        · split
          · exact h.end_
          · split
            · exact (h.leave _).less (by omega)
            · exact h.branch op x L

set_option maxRecDepth 100000 in
set_option maxHeartbeats 1600000 in
theorem k_control_0 (op x b m c : Nat) (A : Option Addr) (h : Kk w a E I s) (hb : s.ok n) (hn : n ≤ 1000) (o0 : ((op : Int) == 0) = true) :
    Calls Try.prog 51 #[.pointer (some ⟨a.k, 0, none⟩), .agg #[.int .u8 (op : Int), .int .u64 (x : Int), .int .u64 (b : Int), .slice A m c]] w (KRet w a E I (deadS s, 0)) := by
  have s0 : Step (fun _ => False) w (w.alloc (.cells #[.int .u8 (op : Int), .int .u64 (x : Int), .int .u64 (b : Int), .slice A m c] 40)) := Step.refl.alloc _
  have b0 := Blk.new w 40 #[.int .u8 (op : Int), .int .u64 (x : Int), .int .u64 (b : Int), .slice A m c]
  have h0 := h.quiet s0
  have m0 := (b0.cell 0).trans (show _ = some (Value.int .u8 (op : Int)) from rfl)
  have m1 := (b0.cell 1).trans (show _ = some (Value.int .u64 (x : Int)) from rfl)
  have hNI : ¬ I w.heap.size := fun hk => by have := Ctl.in_ (l := s.l) (fs := s.fs) h.ctl _ hk; omega
  have N3 : w.heap.size < (w.alloc (.cells #[.int .u8 (op : Int), .int .u64 (x : Int), .int .u64 (b : Int), .slice A m c] 40)).heap.size := by simp
  have c6 := h0.c6
  have nkI := h0.kf.self
  have H0 := Lib.hid h0
  have S0 := Lib.hid s0
  have B0 := Lib.hid b0
  clear b0 h0 h s0
  have HD := Lib.hid (c_dead H0.out.ctl hb hn)
  go_enter Try.func51, Try.ntmps51
  go_wp2_with fail
  refine HD.out.mono ?_
  rintro e w2 ⟨rfl, u2⟩
  go_wp2_with fail
  go_ret
  exact ⟨rfl, KUp.after S0.out (H0.out.up u2)⟩

set_option maxRecDepth 100000 in
set_option maxHeartbeats 1600000 in
theorem k_control_2 (op x b m c : Nat) (A : Option Addr) (h : Kk w a E I s) (hb : s.ok n) (hn : n ≤ 1000) (o0 : ((op : Int) == 0) = false) (o2 : ((op : Int) == 2) = true) (hx : x < 256) :
    Calls Try.prog 51 #[.pointer (some ⟨a.k, 0, none⟩), .agg #[.int .u8 (op : Int), .int .u64 (x : Int), .int .u64 (b : Int), .slice A m c]] w (KRet w a E I (openS op (bkF x) s, 0)) := by
  have s0 : Step (fun _ => False) w (w.alloc (.cells #[.int .u8 (op : Int), .int .u64 (x : Int), .int .u64 (b : Int), .slice A m c] 40)) := Step.refl.alloc _
  have b0 := Blk.new w 40 #[.int .u8 (op : Int), .int .u64 (x : Int), .int .u64 (b : Int), .slice A m c]
  have h0 := h.quiet s0
  have m0 := (b0.cell 0).trans (show _ = some (Value.int .u8 (op : Int)) from rfl)
  have m1 := (b0.cell 1).trans (show _ = some (Value.int .u64 (x : Int)) from rfl)
  have hNI : ¬ I w.heap.size := fun hk => by have := Ctl.in_ (l := s.l) (fs := s.fs) h.ctl _ hk; omega
  have N3 : w.heap.size < (w.alloc (.cells #[.int .u8 (op : Int), .int .u64 (x : Int), .int .u64 (b : Int), .slice A m c] 40)).heap.size := by simp
  have c6 := h0.c6
  have nkI := h0.kf.self
  have H0 := Lib.hid h0
  have S0 := Lib.hid s0
  have B0 := Lib.hid b0
  clear b0 h0 h s0
  go_enter Try.func51, Try.ntmps51
  go_wp2_with fail
  generalize w.heap.size = N at *
  generalize w.alloc (.cells #[.int .u8 (op : Int), .int .u64 (x : Int), .int .u64 (b : Int), .slice A m c] 40) = W at *
  have d0 := cls_cell (F := fun _ => False) m0 id
  have d1 := cls_cell (F := fun _ => False) m1 id
  have d6 := cls_cell (F := fun _ => False) c6 id
  refine Mix.wp_region_mix [8, 9] [8] (Step (fun _ => False) W) (by kernel_rfl) (by kernel_rfl) (Step.refl.drew) (fun hcls => ?_)
  refine Mix.wpL_reads 8 (by rfl) ?_
  simp only [List.take_succ_cons, List.drop_succ_cons, List.take_zero, List.drop_zero]
  repeat (go_big_quiet_step (fail))
  refine wpQuiet_nil ?_
  refine Mix.wpL_op (by rfl) (fun K hK => ?_)
  go_simp
  refine (k_block _ x hx).mono ?_
  rintro e w3 ⟨rfl, t3⟩
  refine hK _ _ (fun hlt => Mix.cl (Step.refl.drew.trans t3)) ?_
  clear hK K
  refine Mix.wpL_op (by rfl) (fun K hK => ?_)
  go_simp
  have HT := Lib.hid (Step.refl.drew.trans t3)
  refine (c_open (op : Int) (bkF x) (H0.out.quiet HT.out).ctl hb hn).mono ?_
  rintro e w4 ⟨rfl, u4⟩
  refine hK _ _ (fun hlt => absurd hlt (by decide)) ?_
  clear hK K
  refine Mix.wpL_end ?_
  go_wp2
  go_ret
  exact ⟨rfl, KUp.after S0.out (KUp.after HT.out ((H0.out.quiet HT.out).up u4))⟩

set_option maxRecDepth 100000 in
set_option maxHeartbeats 1600000 in
theorem k_control_3 (op x b m c : Nat) (A : Option Addr) (h : Kk w a E I s) (hb : s.ok n) (hn : n ≤ 1000) (o0 : ((op : Int) == 0) = false) (o2 : ((op : Int) == 2) = false) (o3 : ((op : Int) == 3) = true) (hx : x < 256) :
    Calls Try.prog 51 #[.pointer (some ⟨a.k, 0, none⟩), .agg #[.int .u8 (op : Int), .int .u64 (x : Int), .int .u64 (b : Int), .slice A m c]] w (KRet w a E I (openS op (bkF x) s, 0)) := by
  have s0 : Step (fun _ => False) w (w.alloc (.cells #[.int .u8 (op : Int), .int .u64 (x : Int), .int .u64 (b : Int), .slice A m c] 40)) := Step.refl.alloc _
  have b0 := Blk.new w 40 #[.int .u8 (op : Int), .int .u64 (x : Int), .int .u64 (b : Int), .slice A m c]
  have h0 := h.quiet s0
  have m0 := (b0.cell 0).trans (show _ = some (Value.int .u8 (op : Int)) from rfl)
  have m1 := (b0.cell 1).trans (show _ = some (Value.int .u64 (x : Int)) from rfl)
  have hNI : ¬ I w.heap.size := fun hk => by have := Ctl.in_ (l := s.l) (fs := s.fs) h.ctl _ hk; omega
  have N3 : w.heap.size < (w.alloc (.cells #[.int .u8 (op : Int), .int .u64 (x : Int), .int .u64 (b : Int), .slice A m c] 40)).heap.size := by simp
  have c6 := h0.c6
  have nkI := h0.kf.self
  have H0 := Lib.hid h0
  have S0 := Lib.hid s0
  have B0 := Lib.hid b0
  clear b0 h0 h s0
  go_enter Try.func51, Try.ntmps51
  go_wp2_with fail
  generalize w.heap.size = N at *
  generalize w.alloc (.cells #[.int .u8 (op : Int), .int .u64 (x : Int), .int .u64 (b : Int), .slice A m c] 40) = W at *
  have d0 := cls_cell (F := fun _ => False) m0 id
  have d1 := cls_cell (F := fun _ => False) m1 id
  have d6 := cls_cell (F := fun _ => False) c6 id
  refine Mix.wp_region_mix [8, 9] [8] (Step (fun _ => False) W) (by kernel_rfl) (by kernel_rfl) (Step.refl.drew) (fun hcls => ?_)
  refine Mix.wpL_reads 8 (by rfl) ?_
  simp only [List.take_succ_cons, List.drop_succ_cons, List.take_zero, List.drop_zero]
  repeat (go_big_quiet_step (fail))
  refine wpQuiet_nil ?_
  refine Mix.wpL_op (by rfl) (fun K hK => ?_)
  go_simp
  refine (k_block _ x hx).mono ?_
  rintro e w3 ⟨rfl, t3⟩
  refine hK _ _ (fun hlt => Mix.cl (Step.refl.drew.trans t3)) ?_
  clear hK K
  refine Mix.wpL_op (by rfl) (fun K hK => ?_)
  go_simp
  have HT := Lib.hid (Step.refl.drew.trans t3)
  refine (c_open (op : Int) (bkF x) (H0.out.quiet HT.out).ctl hb hn).mono ?_
  rintro e w4 ⟨rfl, u4⟩
  refine hK _ _ (fun hlt => absurd hlt (by decide)) ?_
  clear hK K
  refine Mix.wpL_end ?_
  go_wp2
  go_ret
  exact ⟨rfl, KUp.after S0.out (KUp.after HT.out ((H0.out.quiet HT.out).up u4))⟩

set_option maxRecDepth 100000 in
set_option maxHeartbeats 1600000 in
theorem k_control_4 (op x b m c : Nat) (A : Option Addr) (h : Kk w a E I s) (hb : s.ok n) (hn : n ≤ 1000) (o0 : ((op : Int) == 0) = false) (o2 : ((op : Int) == 2) = false) (o3 : ((op : Int) == 3) = false) (o4 : ((op : Int) == 4) = true) (h4 : op = 4) (hx : x < 256) :
    Calls Try.prog 51 #[.pointer (some ⟨a.k, 0, none⟩), .agg #[.int .u8 (op : Int), .int .u64 (x : Int), .int .u64 (b : Int), .slice A m c]] w (KRet w a E I (ifS x s)) := by
  have s0 : Step (fun _ => False) w (w.alloc (.cells #[.int .u8 (op : Int), .int .u64 (x : Int), .int .u64 (b : Int), .slice A m c] 40)) := Step.refl.alloc _
  have b0 := Blk.new w 40 #[.int .u8 (op : Int), .int .u64 (x : Int), .int .u64 (b : Int), .slice A m c]
  have h0 := h.quiet s0
  have m0 := (b0.cell 0).trans (show _ = some (Value.int .u8 (op : Int)) from rfl)
  have m1 := (b0.cell 1).trans (show _ = some (Value.int .u64 (x : Int)) from rfl)
  have hNI : ¬ I w.heap.size := fun hk => by have := Ctl.in_ (l := s.l) (fs := s.fs) h.ctl _ hk; omega
  have N3 : w.heap.size < (w.alloc (.cells #[.int .u8 (op : Int), .int .u64 (x : Int), .int .u64 (b : Int), .slice A m c] 40)).heap.size := by simp
  have c6 := h0.c6
  have nkI := h0.kf.self
  have H0 := Lib.hid h0
  have S0 := Lib.hid s0
  have B0 := Lib.hid b0
  clear b0 h0 h s0
  have hg : ifS x s = if (wantE 127 s).2 = 0 then (openS 4 (bkF x) (wantE 127 s).1, 0) else wantE 127 s := rfl
  rw [show (4 : Int) = (op : Int) by omega] at hg
  have HW := Lib.hid (k_want 127 H0.out hb hn)
  have hb1 := hb.wantE 127
  generalize wantE 127 s = r at hg HW hb1
  obtain ⟨s1, e1⟩ := r
  simp only at hg hb1
  have HG := Lib.hid hg
  have HB1 := Lib.hid hb1
  clear hg hb1 h4
  by_cases hq : e1 = 0
  · subst hq
    go_enter Try.func51, Try.ntmps51
    go_wp2_with fail
    generalize w.heap.size = N at *
    generalize w.alloc (.cells #[.int .u8 (op : Int), .int .u64 (x : Int), .int .u64 (b : Int), .slice A m c] 40) = W at *
    refine HW.out.mono ?_
    rintro e w2 ⟨rfl, I1, h1, p1⟩
    replace m0 := (p1.1.cell (p := ⟨N, 0, none⟩) N3 hNI).trans m0
    replace m1 := (p1.1.cell (p := ⟨N, 1, none⟩) N3 hNI).trans m1
    replace c6 := h1.c6
    have H1 := Lib.hid h1
    have P1 := Lib.hid p1
    clear h1 p1
    go_wp2_with fail
    have d0 := cls_cell (F := fun _ => False) m0 id
    have d1 := cls_cell (F := fun _ => False) m1 id
    have d6 := cls_cell (F := fun _ => False) c6 id
    refine Mix.wp_region_mix [8, 9] [8] (Step (fun _ => False) w2) (by kernel_rfl) (by kernel_rfl) (Step.refl.drew) (fun hcls => ?_)
    refine Mix.wpL_reads 8 (by rfl) ?_
    simp only [List.take_succ_cons, List.drop_succ_cons, List.take_zero, List.drop_zero]
    repeat (go_big_quiet_step (fail))
    refine wpQuiet_nil ?_
    refine Mix.wpL_op (by rfl) (fun K hK => ?_)
    go_simp
    refine (k_block _ x hx).mono ?_
    rintro e w3 ⟨rfl, t3⟩
    refine hK _ _ (fun hlt => Mix.cl (Step.refl.drew.trans t3)) ?_
    clear hK K
    refine Mix.wpL_op (by rfl) (fun K hK => ?_)
    go_simp
    have HT := Lib.hid (Step.refl.drew.trans t3)
    refine (c_open (op : Int) (bkF x) (H1.out.quiet HT.out).ctl HB1.out hn).mono ?_
    rintro e w4 ⟨rfl, u4⟩
    refine hK _ _ (fun hlt => absurd hlt (by decide)) ?_
    clear hK K
    refine Mix.wpL_end ?_
    go_wp2
    go_ret
    rw [KRet, HG.out, if_pos trivial]
    exact ⟨rfl, KUp.after S0.out (KUp.trans P1.out (KUp.after HT.out ((H1.out.quiet HT.out).up u4)))⟩
  · have q1 : (e1 != 0) = true := by simpa using hq
    have HE := Lib.hid hq
    clear hq
    go_enter Try.func51, Try.ntmps51
    go_wp2_with fail
    refine HW.out.mono ?_
    rintro e w2 ⟨rfl, u2⟩
    go_wp2_with fail
    go_ret
    rw [KRet, HG.out, if_neg HE.out]
    exact ⟨rfl, KUp.after S0.out u2⟩

set_option maxRecDepth 100000 in
set_option maxHeartbeats 1600000 in
theorem k_control_5 (op x b m c : Nat) (A : Option Addr) (h : Kk w a E I s) (hb : s.ok n) (hn : n ≤ 1000) (o0 : ((op : Int) == 0) = false) (o2 : ((op : Int) == 2) = false) (o3 : ((op : Int) == 3) = false) (o4 : ((op : Int) == 4) = false) (o5 : ((op : Int) == 5) = true) :
    Calls Try.prog 51 #[.pointer (some ⟨a.k, 0, none⟩), .agg #[.int .u8 (op : Int), .int .u64 (x : Int), .int .u64 (b : Int), .slice A m c]] w (KRet w a E I (elseS s)) := by
  have s0 : Step (fun _ => False) w (w.alloc (.cells #[.int .u8 (op : Int), .int .u64 (x : Int), .int .u64 (b : Int), .slice A m c] 40)) := Step.refl.alloc _
  have b0 := Blk.new w 40 #[.int .u8 (op : Int), .int .u64 (x : Int), .int .u64 (b : Int), .slice A m c]
  have h0 := h.quiet s0
  have m0 := (b0.cell 0).trans (show _ = some (Value.int .u8 (op : Int)) from rfl)
  have m1 := (b0.cell 1).trans (show _ = some (Value.int .u64 (x : Int)) from rfl)
  have hNI : ¬ I w.heap.size := fun hk => by have := Ctl.in_ (l := s.l) (fs := s.fs) h.ctl _ hk; omega
  have N3 : w.heap.size < (w.alloc (.cells #[.int .u8 (op : Int), .int .u64 (x : Int), .int .u64 (b : Int), .slice A m c] 40)).heap.size := by simp
  have c6 := h0.c6
  have nkI := h0.kf.self
  have H0 := Lib.hid h0
  have S0 := Lib.hid s0
  have B0 := Lib.hid b0
  clear b0 h0 h s0
  have HC := Lib.hid (c_close H0.out.ctl hb hn)
  have hb1 := hb.close
  have hg : elseS s = if (closeS s).2.2 = 0 then (openS 5 (closeS s).2.1.res (closeS s).1, 0) else ((closeS s).1, (closeS s).2.2) := rfl
  generalize closeS s = r at HC hb1 hg
  obtain ⟨s1, f, er⟩ := r
  simp only at HC hb1 hg
  have HG := Lib.hid hg
  have HB := Lib.hid hb1.1
  clear hb1 hg
  by_cases he : er = 0
  · subst he
    go_enter Try.func51, Try.ntmps51
    go_wp2_with fail
    generalize w.heap.size = N at *
    generalize w.alloc (.cells #[.int .u8 (op : Int), .int .u64 (x : Int), .int .u64 (b : Int), .slice A m c] 40) = W at *
    refine HC.out.mono ?_
    rintro e w1 ⟨rfl, u1⟩
    obtain ⟨I1, h1, p1⟩ := H0.out.up u1
    have b1 := Blk.new w1 136 #[.int .u8 f.op, .string (str f.res), .int .i64 (f.height : Int), .bool f.dead]
    have h2 := h1.quiet (Step.refl.alloc (.cells #[.int .u8 f.op, .string (str f.res), .int .i64 (f.height : Int), .bool f.dead] 136))
    replace c6 := h2.c6
    have k1 := (b1.cell 1).trans (show _ = some (Value.string (str f.res)) from rfl)
    have P1 : Hid (Upd W I I1 (w1.alloc (.cells #[.int .u8 f.op, .string (str f.res), .int .i64 (f.height : Int), .bool f.dead] 136))) := p1.quiet (Step.refl.alloc _)
    have H2 := Lib.hid h2
    clear h1 p1 u1 b1 h2 HC m1
    unfold Fr.val
    go_wp2_with fail
    generalize w1.heap.size = M at *
    generalize w1.alloc (.cells #[.int .u8 f.op, .string (str f.res), .int .i64 (f.height : Int), .bool f.dead] 136) = V at *
    have d1 := cls_cell (F := fun _ => False) k1 id
    have d6 := cls_cell (F := fun _ => False) c6 id
    refine Mix.wp_region_mix [6] [] (Step (fun _ => False) V) (by kernel_rfl) (by kernel_rfl) (Step.refl.drew) (fun hcls => ?_)
    refine Mix.wpL_reads 6 (by rfl) ?_
    simp only [List.take_succ_cons, List.drop_succ_cons, List.take_zero, List.drop_zero]
    repeat (go_big_quiet_step (fail))
    refine wpQuiet_nil ?_
    refine Mix.wpL_op (by rfl) (fun K hK => ?_)
    go_simp
    refine (c_open 5 f.res (H2.out.quiet Step.refl.drew).ctl HB.out hn).mono ?_
    rintro e w4 ⟨rfl, u4⟩
    refine hK _ _ (fun hlt => absurd hlt (by decide)) ?_
    clear hK K
    refine Mix.wpL_end ?_
    go_wp2
    go_ret
    rw [KRet, HG.out, if_pos trivial]
    exact ⟨rfl, KUp.after S0.out (KUp.trans P1.out (KUp.after Step.refl.drew ((H2.out.quiet Step.refl.drew).up u4)))⟩
  · have e1 : (er != 0) = true := by simpa using he
    have HE := Lib.hid he
    clear he
    go_enter Try.func51, Try.ntmps51
    go_wp2_with fail
    refine HC.out.mono ?_
    rintro e w1 ⟨rfl, u1⟩
    unfold Fr.val
    go_wp2_with fail
    go_ret
    rw [KRet, HG.out, if_neg HE.out]
    exact ⟨rfl, KUp.after S0.out (KUp.quiet (H0.out.up u1) (Step.refl.alloc _))⟩

set_option maxRecDepth 100000 in
set_option maxHeartbeats 1600000 in
theorem k_control_11 (op x b m c : Nat) (A : Option Addr) (h : Kk w a E I s) (hb : s.ok n) (hn : n ≤ 1000) (o0 : ((op : Int) == 0) = false) (o2 : ((op : Int) == 2) = false) (o3 : ((op : Int) == 3) = false) (o4 : ((op : Int) == 4) = false) (o5 : ((op : Int) == 5) = false) (o11 : ((op : Int) == 11) = true) :
    Calls Try.prog 51 #[.pointer (some ⟨a.k, 0, none⟩), .agg #[.int .u8 (op : Int), .int .u64 (x : Int), .int .u64 (b : Int), .slice A m c]] w (KRet w a E I (endS s)) := by
  have s0 : Step (fun _ => False) w (w.alloc (.cells #[.int .u8 (op : Int), .int .u64 (x : Int), .int .u64 (b : Int), .slice A m c] 40)) := Step.refl.alloc _
  have b0 := Blk.new w 40 #[.int .u8 (op : Int), .int .u64 (x : Int), .int .u64 (b : Int), .slice A m c]
  have h0 := h.quiet s0
  have m0 := (b0.cell 0).trans (show _ = some (Value.int .u8 (op : Int)) from rfl)
  have m1 := (b0.cell 1).trans (show _ = some (Value.int .u64 (x : Int)) from rfl)
  have hNI : ¬ I w.heap.size := fun hk => by have := Ctl.in_ (l := s.l) (fs := s.fs) h.ctl _ hk; omega
  have N3 : w.heap.size < (w.alloc (.cells #[.int .u8 (op : Int), .int .u64 (x : Int), .int .u64 (b : Int), .slice A m c] 40)).heap.size := by simp
  have c6 := h0.c6
  have nkI := h0.kf.self
  have H0 := Lib.hid h0
  have S0 := Lib.hid s0
  have B0 := Lib.hid b0
  clear b0 h0 h s0
  have HE := Lib.hid (k_end H0.out hb hn)
  go_enter Try.func51, Try.ntmps51
  go_wp2_with fail
  refine HE.out.mono ?_
  rintro e w2 ⟨rfl, u2⟩
  go_wp2_with fail
  go_ret
  exact ⟨rfl, KUp.after S0.out u2⟩

set_option maxRecDepth 100000 in
set_option maxHeartbeats 1600000 in
theorem k_control_15 (op x b m c : Nat) (A : Option Addr) (h : Kk w a E I s) (hb : s.ok n) (hn : n ≤ 1000) (o0 : ((op : Int) == 0) = false) (o2 : ((op : Int) == 2) = false) (o3 : ((op : Int) == 3) = false) (o4 : ((op : Int) == 4) = false) (o5 : ((op : Int) == 5) = false) (o11 : ((op : Int) == 11) = false) (o15 : ((op : Int) == 15) = true) (hE : E.result.length ≤ 100) :
    Calls Try.prog 51 #[.pointer (some ⟨a.k, 0, none⟩), .agg #[.int .u8 (op : Int), .int .u64 (x : Int), .int .u64 (b : Int), .slice A m c]] w (KRet w a E I (leaveS E.result s)) := by
  have s0 : Step (fun _ => False) w (w.alloc (.cells #[.int .u8 (op : Int), .int .u64 (x : Int), .int .u64 (b : Int), .slice A m c] 40)) := Step.refl.alloc _
  have b0 := Blk.new w 40 #[.int .u8 (op : Int), .int .u64 (x : Int), .int .u64 (b : Int), .slice A m c]
  have h0 := h.quiet s0
  have m0 := (b0.cell 0).trans (show _ = some (Value.int .u8 (op : Int)) from rfl)
  have m1 := (b0.cell 1).trans (show _ = some (Value.int .u64 (x : Int)) from rfl)
  have hNI : ¬ I w.heap.size := fun hk => by have := Ctl.in_ (l := s.l) (fs := s.fs) h.ctl _ hk; omega
  have N3 : w.heap.size < (w.alloc (.cells #[.int .u8 (op : Int), .int .u64 (x : Int), .int .u64 (b : Int), .slice A m c] 40)).heap.size := by simp
  have c6 := h0.c6
  have nkI := h0.kf.self
  have H0 := Lib.hid h0
  have S0 := Lib.hid s0
  have B0 := Lib.hid b0
  clear b0 h0 h s0
  have c7 := (H0.out.kf.blk.cell 7).trans (show _ = some (Value.string (str E.result)) from rfl)
  generalize ht : E.result = t at hE c7
  have hg : leaveS t s = if (allS t s).2 = 0 then (deadS (allS t s).1, 0) else allS t s := rfl
  have HC := Lib.hid (fun W (hW : Kk W a E I s) => c_all t hW.ctl hb hn hE)
  have HOK := Lib.hid (hb.all t)
  generalize allS t s = r at HC HOK hg
  obtain ⟨s2, er⟩ := r
  simp only at HC HOK hg
  have HG := Lib.hid hg
  clear hg ht
  have d6 := cls_cell (F := I) c6 nkI
  have d7 := cls_cell (F := I) c7 nkI
  go_enter Try.func51, Try.ntmps51
  go_wp2_with fail
  generalize w.heap.size = N at *
  generalize w.alloc (.cells #[.int .u8 (op : Int), .int .u64 (x : Int), .int .u64 (b : Int), .slice A m c] 40) = W at *
  refine Mix.wp_region_mix [8] [8] (Step I W) (by kernel_rfl) (by kernel_rfl) (Step.refl.drew) (fun hcls => ?_)
  refine Mix.wpL_reads 8 (by rfl) ?_
  simp only [List.take_succ_cons, List.drop_succ_cons, List.take_zero, List.drop_zero]
  repeat (go_big_quiet_step (fail))
  refine wpQuiet_nil ?_
  refine Mix.wpL_op (by rfl) (fun K hK => ?_)
  go_simp
  refine (HC.out _ (H0.out.quiet Step.refl.drew)).mono ?_
  rintro e w2 ⟨rfl, u2⟩
  obtain ⟨I2, h2, p2⟩ := (H0.out.quiet Step.refl.drew).up u2
  refine hK _ _ (fun hlt => Mix.cl (Step.refl.drew.trans p2.1)) ?_
  clear hK K
  refine Mix.wpL_reads 1 (by rfl) ?_
  simp only [List.take_succ_cons, List.drop_succ_cons, List.take_zero, List.drop_zero]
  repeat (go_big_quiet_step (fail))
  refine wpQuiet_nil ?_
  refine Mix.wpL_end ?_
  replace c6 := h2.c6
  have HD := Lib.hid (c_dead h2.ctl HOK.out hn)
  have H2 := Lib.hid h2
  have P2 := Lib.hid (Upd.after Step.refl.drew p2)
  clear h2 p2 u2 d6 d7
  by_cases h2 : er = 0
  · subst h2
    go_wp2_with fail
    refine HD.out.mono ?_
    rintro e w4 ⟨rfl, u4⟩
    go_wp2_with fail
    go_ret
    rw [KRet, HG.out, if_pos trivial]
    exact ⟨rfl, KUp.after S0.out (KUp.trans P2.out (H2.out.up u4))⟩
  · have e1 : (er != 0) = true := by simpa using h2
    have HE := Lib.hid h2
    clear h2
    go_wp2_with fail
    go_ret
    rw [KRet, HG.out, if_neg HE.out]
    exact ⟨rfl, KUp.after S0.out (KUp.trans P2.out (KUp.same H2.out))⟩

set_option maxRecDepth 100000 in
set_option maxHeartbeats 1600000 in
theorem k_control_else (op x b m c : Nat) (A : Option Addr) (h : Kk w a E I s) (hb : s.ok n) (hn : n ≤ 1000) (o0 : ((op : Int) == 0) = false) (o2 : ((op : Int) == 2) = false) (o3 : ((op : Int) == 3) = false) (o4 : ((op : Int) == 4) = false) (o5 : ((op : Int) == 5) = false) (o11 : ((op : Int) == 11) = false) (o15 : ((op : Int) == 15) = false) (L : List Nat) (hx : x < 18446744073709551616)
    (HM : Hid (m = L.length)) (hm : m ≤ 1000) (hL32 : ∀ y ∈ L, y < 4294967296) (hR : Reads w a.R 1 A m (L.flatMap fun y : Nat => [Value.int .u32 (y : Int)])) :
    Calls Try.prog 51 #[.pointer (some ⟨a.k, 0, none⟩), .agg #[.int .u8 (op : Int), .int .u64 (x : Int), .int .u64 (b : Int), .slice A m c]] w (KRet w a E I (branchS op x L s)) := by
  have s0 : Step (fun _ => False) w (w.alloc (.cells #[.int .u8 (op : Int), .int .u64 (x : Int), .int .u64 (b : Int), .slice A m c] 40)) := Step.refl.alloc _
  have b0 := Blk.new w 40 #[.int .u8 (op : Int), .int .u64 (x : Int), .int .u64 (b : Int), .slice A m c]
  have h0 := h.quiet s0
  have m0 := (b0.cell 0).trans (show _ = some (Value.int .u8 (op : Int)) from rfl)
  have m1 := (b0.cell 1).trans (show _ = some (Value.int .u64 (x : Int)) from rfl)
  have hNI : ¬ I w.heap.size := fun hk => by have := Ctl.in_ (l := s.l) (fs := s.fs) h.ctl _ hk; omega
  have N3 : w.heap.size < (w.alloc (.cells #[.int .u8 (op : Int), .int .u64 (x : Int), .int .u64 (b : Int), .slice A m c] 40)).heap.size := by simp
  have c6 := h0.c6
  have nkI := h0.kf.self
  have H0 := Lib.hid h0
  have S0 := Lib.hid s0
  have B0 := Lib.hid b0
  clear b0 h0 h s0
  have HE := Lib.hid (k_branch op x b m c A L H0.out hb hn hx HM hm hL32 (hR.step S0.out (fun _ _ => id)))
  clear hL32 hR
  go_enter Try.func51, Try.ntmps51
  go_wp2_with fail
  refine HE.out.mono ?_
  rintro e w2 ⟨rfl, u2⟩
  go_wp2_with fail
  go_ret
  exact ⟨rfl, KUp.after S0.out u2⟩

theorem k_control (op x b m c : Nat) (A : Option Addr) (h : Kk w a E I s) (hb : s.ok n) (hn : n ≤ 1000) (L : List Nat) (hx : x < 18446744073709551616)
    (HM : Hid (m = L.length)) (hm : m ≤ 1000) (hL32 : ∀ y ∈ L, y < 4294967296) (hR : Reads w a.R 1 A m (L.flatMap fun y : Nat => [Value.int .u32 (y : Int)])) (hE : E.result.length ≤ 100) (hbl : op = 2 ∨ op = 3 ∨ op = 4 → x < 256) :
    Calls Try.prog 51 #[.pointer (some ⟨a.k, 0, none⟩), .agg #[.int .u8 (op : Int), .int .u64 (x : Int), .int .u64 (b : Int), .slice A m c]] w (KRet w a E I (controlS E op x L s)) := by
  unfold controlS
  by_cases h0 : op = 0
  · rw [if_pos h0]
    exact k_control_0 op x b m c A h hb hn (int_eq h0)
  rw [if_neg h0]
  by_cases h2 : op = 2
  · rw [if_pos (.inl h2)]
    exact k_control_2 op x b m c A h hb hn (int_ne h0) (int_eq h2) (hbl (.inl h2))
  by_cases h3 : op = 3
  · rw [if_pos (.inr h3)]
    exact k_control_3 op x b m c A h hb hn (int_ne h0) (int_ne h2) (int_eq h3) (hbl (.inr (.inl h3)))
  rw [if_neg (by rintro (e | e); exact h2 e; exact h3 e)]
  by_cases h4 : op = 4
  · rw [if_pos h4]
    exact k_control_4 op x b m c A h hb hn (int_ne h0) (int_ne h2) (int_ne h3) (int_eq h4) h4 (hbl (.inr (.inr h4)))
  rw [if_neg h4]
  by_cases h5 : op = 5
  · rw [if_pos h5]
    exact k_control_5 op x b m c A h hb hn (int_ne h0) (int_ne h2) (int_ne h3) (int_ne h4) (int_eq h5)
  rw [if_neg h5]
  by_cases h11 : op = 11
  · rw [if_pos h11]
    exact k_control_11 op x b m c A h hb hn (int_ne h0) (int_ne h2) (int_ne h3) (int_ne h4) (int_ne h5) (int_eq h11)
  rw [if_neg h11]
  by_cases h15 : op = 15
  · rw [if_pos h15]
    exact k_control_15 op x b m c A h hb hn (int_ne h0) (int_ne h2) (int_ne h3) (int_ne h4) (int_ne h5) (int_ne h11) (int_eq h15) hE
  rw [if_neg h15]
  exact k_control_else op x b m c A h hb hn (int_ne h0) (int_ne h2) (int_ne h3) (int_ne h4) (int_ne h5) (int_ne h11) (int_ne h15) L hx HM hm hL32 hR
end
end Go.Proofs.Ytpebdfgfikjkeaa
