/-
  check: block, same, checker.end.
-/
import Derived.Test.YtpebdfgfikjkeaaKkB
import Derived.Test.YtpebdfgfikjkeaaRr
set_option linter.unusedVariables false
set_option linter.unusedSimpArgs false
namespace Go.Proofs.Ytpebdfgfikjkeaa
open Go.RowKit

def bkF (a : Nat) : List UInt8 := if a = 64 then [] else [UInt8.ofNat a]
theorem bkF_len (a : Nat) : (bkF a).length ≤ 1 := by unfold bkF; split <;> simp
set_option maxRecDepth 100000 in
theorem k_block (w : World) (a : Nat) (ha : a < 256) : Calls Try.prog 78 #[.int .u64 a] w fun e w' => e = .returned (.string (str (bkF a))) ∧ Step (fun _ => False) w w' := by
  by_cases h : a = 64
  · subst h
    go_enter Try.func78, Try.ntmps78
    go_wp2
    go_ret
    exact ⟨rfl, Step.refl⟩
  · have hb : Hid (bkF a = [UInt8.ofNat a]) := if_neg h
    have e1 : ((a : Int) == 64) = false := beq_eq_false_iff_ne.2 (by omega)
    have hw := IntWalk.u8_in (a : Int) (by omega)
    have hu : ((UInt8.ofNat a).toNat : Int) = (a : Int) := by simp; omega
    have hcv := run_conv_bytes (P := Try.prog) (w.alloc (.cells #[.int .u8 (a : Int)] 5)) 107 9 5 Try.underlying107 Try.underlying5 Try.underlying9 (c := 1) (l := [UInt8.ofNat a]) (by
      have := reads_new w #[.int .u8 ((UInt8.ofNat a).toNat : Int)] 5 1 1 rfl
      rw [hu] at this
      rw [show u8s [UInt8.ofNat a] = [.int .u8 (a : Int)] from by rw [← hu]; rfl]
      exact this)
    clear hu h
    go_enter Try.func78, Try.ntmps78
    go_wp2_with fail
    go_ret
    rw [hb.out]
    exact ⟨rfl, Step.refl.alloc _⟩

/-- The first error. -/
def fstE (es : List Int) : Int := (es.find? (· != 0)).getD 0
set_option maxRecDepth 100000 in
set_option maxHeartbeats 800000 in
theorem k_same {w : World} {A : Option Addr} {c : Nat} {es : List Int} {S : Nat → Prop} (n : Nat) (HN : Hid (n = es.length)) (hn : n ≤ 1000) (hr : Reads w S 1 A n (es.flatMap fun x => [Value.int .i64 x])) :
    Calls Try.prog 95 #[.slice A n c] w fun e w' => e = .returned (.int .i64 (fstE es)) ∧ w = w' := by
  have HR := Lib.hid hr
  clear hr
  go_enter Try.func95, Try.ntmps95
  go_wp2_with fail
  go_loopw [7] (fun iv wr => ∃ (j : Nat), j ≤ n ∧ iv = .int .i64 (j : Int) ∧ Hid (fstE es = fstE (es.drop j)) ∧ Hid (w = wr)) (fun iv _ => n + 1 - (intOf iv).toNat)
  case atStart => exact ⟨0, by omega, rfl, rfl, rfl⟩
  case round =>
    obtain ⟨j, hj, rfl, HI, HS⟩ := hrel
    have hr' := HR.out
    rw [HS.out] at hr'
    by_cases hlt : j < n
    · have g1 : (j : Int) < (n : Int) := by omega
      have i0 : (0 : Int) ≤ (j : Int) := by omega
      have hw1 := IntWalk.i64_in ((j : Int) + 1) (by omega)
      have hjl : j < es.length := by rw [← HN.out]; exact hlt
      obtain ⟨b, off, rfl, _, hbl, hc⟩ := reads_row (fun x : Int => [Value.int .i64 x]) 1 (by decide) (fun _ => rfl) hr' hjl
      replace hc := hc 0 _ rfl
      rw [Nat.mul_one, Nat.add_zero] at hc
      have HD : Hid (es.drop j = es[j] :: es.drop (j + 1)) := List.drop_eq_getElem_cons hjl
      obtain ⟨x, hxe⟩ : ∃ x, x = es[j] := ⟨_, rfl⟩
      rw [← hxe] at hc HD
      clear hxe hr'
      by_cases hx : x = 0
      · subst hx
        have HI2 : Hid (fstE es = fstE (es.drop (j + 1))) := by unfold Hid; rw [HI.out, HD.out]; rfl
        go_wp2_with fail
        go_roundw
        case rel => exact ⟨j + 1, by omega, by rw [Int.natCast_add]; rfl, HI2, HS⟩
        case measure => simp [intOf]; omega
      · have e1 : (x != 0) = true := by simpa using hx
        have HI2 : Hid (fstE es = x) := by unfold Hid; rw [HI.out, HD.out, fstE, List.find?_cons_of_pos (by exact e1)]; rfl
        clear hx
        go_wp2_with fail
        go_ret
        exact ⟨by rw [HI2.out]; rfl, HS.out⟩
    · obtain rfl : j = n := by omega
      have HI2 : Hid (fstE es = 0) := by unfold Hid; rw [HI.out, HN.out, List.drop_length]; rfl
      go_wp2_with fail
      go_ret
      exact ⟨by rw [HI2.out]; rfl, HS.out⟩

def endS (s : Ss) : Ss × Int :=
  if (closeS s).2.2 ≠ 0 then ((closeS s).1, (closeS s).2.2) else if (closeS s).2.1.op = 4 ∧ (closeS s).2.1.res ≠ [] then ((closeS s).1, 21) else (pushS (closeS s).2.1.res (closeS s).1, 0)
theorem Ss.ok.end_ {n : Nat} {s : Ss} (h : s.ok n) : (endS s).1.ok (n + 1) := by
  have := h.close
  unfold endS
  split
  · exact this.1.less (by omega)
  · split
    · exact this.1.less (by omega)
    · exact this.1.push _ this.2
theorem str_nil_eq (l : List UInt8) : (str l == (⟨#[]⟩ : ByteArray)) = l.isEmpty := by
  rcases l with _ | ⟨x, l⟩
  · rfl
  · show decide (str (x :: l) = ⟨#[]⟩) = false
    apply decide_eq_false
    intro h
    have h2 : (str (x :: l)).size = 0 := by rw [h]; rfl
    rw [str_size] at h2
    exact absurd h2 (Nat.succ_ne_zero _)
theorem str_empty (l : List UInt8) : (str l).toList.isEmpty = l.isEmpty := by
  rw [ByteArray.toList_eq]
  simp [str]
section
variable {w : World} {a : Ka} {E : Ke} {I : Nat → Prop} {s : Ss} {n : Nat}
set_option maxRecDepth 100000 in
set_option maxHeartbeats 800000 in
theorem k_end (h : Kk w a E I s) (hb : s.ok n) (hn : n ≤ 1000) :
    Calls Try.prog 80 #[.pointer (some ⟨a.k, 0, none⟩)] w (KRet w a E I (endS s)) := by
  have c6 := h.c6
  have HC := Lib.hid (c_close h.ctl hb hn)
  have H := Lib.hid h
  have hb1 := hb.close
  have hg : endS s = if (closeS s).2.2 ≠ 0 then ((closeS s).1, (closeS s).2.2) else if (closeS s).2.1.op = 4 ∧ (closeS s).2.1.res ≠ [] then ((closeS s).1, 21) else (pushS (closeS s).2.1.res (closeS s).1, 0) := rfl
  clear h
  generalize closeS s = r at HC hb1 hg
  obtain ⟨s1, f, er⟩ := r
  simp only at HC hb1 hg
  have HG := Lib.hid hg
  have HB := Lib.hid hb1.1
  have HL := Lib.hid hb1.2
  clear hb1 hg
  by_cases he : er = 0
  · subst he
    by_cases h4 : f.op = 4 ∧ f.res ≠ []
    · have e4 : (f.op == 4) = true := by simpa using h4.1
      have e5 : (str f.res).toList.isEmpty = false := by
        rw [str_empty, List.isEmpty_eq_false_iff]
        exact h4.2
      have HQ := Lib.hid h4
      clear h4
      go_enter Try.func80, Try.ntmps80
      go_wp2_with fail
      refine HC.out.mono ?_
      rintro e w1 ⟨rfl, u1⟩
      unfold Fr.val
      go_wp2_with fail
      go_ret
      rw [KRet, HG.out, if_neg (by simp), if_pos HQ.out]
      exact ⟨rfl, KUp.quiet (H.out.up u1) (Step.refl.alloc _)⟩
    · have HQ := Lib.hid h4
      have e4 : (f.op == 4) = false ∨ (f.op == 4) = true ∧ (str f.res).toList.isEmpty = true := by
        by_cases h : f.op = 4
        · refine .inr ⟨by simpa using h, ?_⟩
          rw [str_empty, List.isEmpty_iff]
          by_cases h2 : f.res = []
          · exact h2
          · exact absurd ⟨h, h2⟩ h4
        · left
          simpa using h
      clear h4
      go_enter Try.func80, Try.ntmps80
      go_wp2_with fail
      refine HC.out.mono ?_
      rintro e w1 ⟨rfl, u1⟩
      obtain ⟨I1, h1, p1⟩ := H.out.up u1
      have b0 := Blk.new w1 136 #[.int .u8 f.op, .string (str f.res), .int .i64 (f.height : Int), .bool f.dead]
      have h2 := h1.quiet (Step.refl.alloc (.cells #[.int .u8 f.op, .string (str f.res), .int .i64 (f.height : Int), .bool f.dead] 136))
      have c6' := h2.c6
      have cg' := h2.cg
      have m1 := (b0.cell 1).trans (show _ = some (Value.string (str f.res)) from rfl)
      have HP : Hid (∀ W, Kk W a E I1 s1 → _) := fun W hW => c_push f.res (w := W) hW.ctl HB.out hn HL.out
      have P1 : Hid (Upd w I I1 (w1.alloc (.cells #[.int .u8 f.op, .string (str f.res), .int .i64 (f.height : Int), .bool f.dead] 136))) := p1.quiet (Step.refl.alloc _)
      have n1 : ¬ I1 w1.heap.size := fun hk => by have := Ctl.in_ (l := s1.l) (fs := s1.fs) h1.ctl _ hk; omega
      have nk := h2.kf.self
      have ng : a.g ≠ w1.heap.size := by have := h1.ltg; omega
      have H2 := Lib.hid h2
      have hgI := Ctl.self (l := s1.l) (fs := s1.fs) h2.ctl
      clear h1 p1 u1 c6 b0 h2 HC
      unfold Fr.val
      rcases e4 with e5 | ⟨e5, e6⟩
      all_goals
        go_wp2_with fail
        generalize w1.heap.size = N at *
        generalize w1.alloc (.cells #[.int .u8 f.op, .string (str f.res), .int .i64 (f.height : Int), .bool f.dead] 136) = W at *
        have d1 := cls_cell (F := fun _ => False) c6' id
        have d2 := cls_cell (F := fun _ => False) cg' id
        have d3 := cls_cell (F := fun _ => False) m1 id
        refine Mix.wp_region_mix [9] [] (Step (fun _ => False) W) (by kernel_rfl) (by kernel_rfl) (Step.refl.drew) (fun hcls => ?_)
        refine Mix.wpL_reads 9 (by rfl) ?_
        simp only [List.take_succ_cons, List.drop_succ_cons, List.take_zero, List.drop_zero]
        repeat (go_big_quiet_step (fail))
        refine wpQuiet_nil ?_
        refine Mix.wpL_op (by rfl) (fun K hK => ?_)
        go_simp
        refine (HP.out _ (H2.out.quiet Step.refl.drew)).mono ?_
        rintro e w3 ⟨rfl, t3⟩
        refine hK _ _ (fun hlt => absurd hlt (by decide)) ?_
        clear hK K
        refine Mix.wpL_end ?_
        go_wp2
        go_ret
        rw [KRet, HG.out, if_neg (by simp), if_neg HQ.out]
        exact ⟨rfl, KUp.trans (P1.out.drew) ((H2.out.quiet Step.refl.drew).up t3)⟩
  · have e1 : (er != 0) = true := by simpa using he
    have HE := Lib.hid he
    clear he
    go_enter Try.func80, Try.ntmps80
    go_wp2_with fail
    refine HC.out.mono ?_
    rintro e w1 ⟨rfl, u1⟩
    unfold Fr.val
    go_wp2_with fail
    go_ret
    rw [KRet, HG.out, if_pos HE.out]
    exact ⟨rfl, KUp.quiet (H.out.up u1) (Step.refl.alloc _)⟩
end
end Go.Proofs.Ytpebdfgfikjkeaa
