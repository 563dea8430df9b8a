/-
  The law CtrlBelow: what stands below a block stays.
-/
import Derived.Test.YtfechgpdlabgaaaCtlC
import Derived.Test.YtfechgpdlabgaaaStkE
set_option linter.unusedVariables false
set_option linter.unusedSimpArgs false
namespace Go.Proofs.Ytfechgpdlabgaaa
open Go.RowKit

theorem Ctl.ptr {w : World} {I : Nat → Prop} {g gs : Nat} {l : List UInt8} {fs : List Fr} (h : Ctl w I g gs l fs) : w.cell? ⟨g, 1, none⟩ = some (.pointer (some ⟨gs, 0, none⟩)) := by
  obtain ⟨D, c, Is, h, hI⟩ := h
  have := h.blk.cell 1
  simpa using this
theorem Ctl.stk {w : World} {I : Nat → Prop} {g gs : Nat} {l : List UInt8} {fs : List Fr} (h : Ctl w I g gs l fs) : ∃ Is, Stk w Is gs l ∧ ∀ m w', StkUp w Is gs m w' → CtlUp w I g gs m fs w' := by
  obtain ⟨D, c, Is, h, hI⟩ := h
  exact ⟨Is, h.stk, fun m w' t => h.stack hI t⟩
/-- The control, all of it made since W0. -/
def CtlNew (W0 : World) (g gs : Nat) (l : List UInt8) (fs : List Fr) (w : World) : Prop := ∃ I, Ctl w I g gs l fs ∧ Upd W0 (fun _ => False) I w
theorem CtlNew.up {W0 w w' : World} {I : Nat → Prop} {g gs : Nat} {m : List UInt8} {fs' : List Fr} (hu : Upd W0 (fun _ => False) I w) (t : CtlUp w I g gs m fs' w') : CtlNew W0 g gs m fs' w' := by
  obtain ⟨I', h1, h2⟩ := t
  exact ⟨I', h1, hu.trans h2⟩
theorem popF_above (b m : List UInt8) (d : Bool) : (popF (b ++ m) b.length d).1 = b ++ m.dropLast := by
  unfold popF
  rcases m.eq_nil_or_concat with rfl | ⟨m', x, rfl⟩
  · simp
  · rw [if_neg (by simp; omega)]
    simp only [List.concat_eq_append]
    rw [List.dropLast_concat]
    simp only [List.length_append, List.length_cons, List.length_nil]
    rw [← List.append_assoc]
    exact List.take_left' (by simp)
theorem cutF_above (b m : List UInt8) : cutF (b ++ m) b.length = b := by
  unfold cutF
  split
  · simp
  · rename_i h
    have : m = [] := by
      rcases m with _ | ⟨x, m⟩
      · rfl
      · exfalso; apply h; simp; omega
    rw [this, List.append_nil]

set_option maxRecDepth 100000 in
set_option maxHeartbeats 1600000 in
theorem awake22 (w : World) : Calls Try.prog 49 #[] w fun e w' => e = .returned (.bool true) ∧ Below w.heap.size w w' := by
  go_enter Try.func49, Try.ntmps49
  go_wp2_with fail
  refine (ctl_new w []).mono ?_
  rintro e w1 ⟨g, gs, I, rfl, h1, s1, hI⟩
  have c1 := h1.ptr
  go_wp2_with fail
  obtain ⟨Is, k1, up1⟩ := h1.stk
  have H1 := Lib.hid h1
  have U1 := Lib.hid up1
  clear up1
  refine (stkR_push 127 k1 (by simp)).mono ?_
  rintro e w2 ⟨rfl, t2⟩
  obtain ⟨I2, h2, u2⟩ := U1.out _ _ t2
  clear c1 t2 k1
  go_wp2_with fail
  refine (ctl_open 2 [] h2 (by simp)).mono ?_
  rintro e w3 ⟨rfl, I3, h3, u3⟩
  go_wp2_with fail
  refine (ctl_pop ⟨2, [], 1, false⟩ h3 (by simp) (by simp) rfl).mono ?_
  rintro e w4 ⟨rfl, I4, h4, u4⟩
  rw [show popF ([] ++ [127]) ((1 : Nat) : Int) false = ([127], 0, 21) from rfl] at *
  go_wp2_with fail
  refine (ctl_depth h4).mono ?_
  rintro e w5 ⟨rfl, rfl⟩
  go_wp2_with fail
  go_ret
  refine ⟨rfl, ?_⟩
  have b1 : Below w.heap.size w w1 := s1.below _ (fun _ _ h => h.elim) (Nat.le_refl _)
  have z1 := s1.size
  have b2 := u2.below hI z1
  have g2 := u2.ge hI z1
  have z2 := Nat.le_trans z1 u2.1.size
  have b3 := u3.below g2 z2
  have g3 := u3.ge g2 z2
  have b4 := u4.below g3 (Nat.le_trans z2 u3.1.size)
  exact ((b1.trans b2).trans b3).trans b4

/-- The two blocks of the law: the outermost, and the one that was opened above b. -/
def twoF (b : List UInt8) (d : Bool) : List Fr := [⟨0, [], 0, false⟩, ⟨2, [], b.length, d⟩]
theorem wantF_above (b m : List UInt8) (t : Int) (d : Bool) : (wantF (b ++ m) t b.length d).1 = b ++ m.dropLast := by rw [wantF_fst, popF_above]
theorem wantAll_nil (l : List UInt8) (h : Int) (d : Bool) : wantAllF l (([] : List UInt8)).reverse h d = (l, 0) := rfl

set_option maxRecDepth 100000 in
set_option maxHeartbeats 1600000 in
theorem below_body (w : World) (b s : List UInt8) (n0 n1 : Int) (hb : b.length ≤ 50) (hs : s.length ≤ 50) (d : Bool) (h00 : 0 ≤ n0) (h01 : n0 ≤ 255) (h10 : 0 ≤ n1) (h11 : n1 ≤ 255) (hd : (bits BinOp.and IntKind.u8 n0 1 == 1) = d) :
    Calls Try.prog 11 #[.string (str b), .string (str s), .agg #[.int .u8 n0, .int .u8 n1]] w fun e w' => e = .returned (.bool true) ∧ Below w.heap.size w w' := by
  have hzb := str_size b
  have hzs := str_size s
  have n1b : ¬ (50 : Int) < (b.length : Int) := by omega
  have n1s : ¬ (50 : Int) < (s.length : Int) := by omega
  have HD := Lib.hid hd
  go_enter Try.func11, Try.ntmps11
  go_wp2_with fail
  refine (awake22 _).mono ?_
  rintro e w1 ⟨rfl, b1⟩
  have bx : Blk (w.alloc (.cells #[.int .u8 n0, .int .u8 n1] 87)) w.heap.size _ _ := Blk.new w _ _
  have bx1 := bx.below b1 (by simp)
  have x0 := bx1.cell 0
  have x1 := bx1.cell 1
  simp at x0 x1
  have hlt : w.heap.size < w1.heap.size := by have := b1.size; simp at this; omega
  have B1 : Hid (Below w.heap.size w w1) := ((Below.refl _ _).alloc (Nat.le_refl _) _).trans (b1.mono (by simp))
  clear b1 bx bx1
  have d0 := cls_cell (F := fun _ => False) x0 id
  have d1 := cls_cell (F := fun _ => False) x1 id
  go_wp2_with fail
  refine Mix.wp_region_mix [6] [6] (Step (fun _ => False) w1) (by kernel_rfl) (by kernel_rfl) Step.refl.drew (fun hcls => ?_)
  refine Mix.wpL_reads 6 (by rfl) ?_
  simp only [List.take_succ_cons, List.drop_succ_cons, List.take_zero, List.drop_zero]
  repeat (go_big_quiet_step (fail))
  refine wpQuiet_nil ?_
  refine Mix.wpL_op (by rfl) (fun K hK => ?_)
  go_simp
  refine hK _ _ (fun hlt => Mix.cl (Step.drew (Step.alloc Step.refl _))) ?_
  clear hK K
  refine Mix.wpL_reads 2 (by rfl) ?_
  simp only [List.take_succ_cons, List.drop_succ_cons, List.take_zero, List.drop_zero]
  repeat (go_big_quiet_step (fail))
  refine wpQuiet_nil ?_
  refine Mix.wpL_end ?_
  have BW := Lib.hid ((Blk.new w1 5 #[.int .u8 n1, .int .u8 127]).drew)
  have SW : Hid (Step (fun _ => False) w1 (w1.alloc (.cells #[.int .u8 n1, .int .u8 127] 5)).drew) := Step.drew (Step.alloc Step.refl _)
  have hwb : Hid (w1.heap.size < (w1.alloc (.cells #[.int .u8 n1, .int .u8 127] 5)).drew.heap.size) := by unfold Hid; simp [World.drew]
  clear x0 x1 d0 d1
  generalize (w1.alloc (.cells #[.int .u8 n1, .int .u8 127] 5)).drew = W0 at *
  generalize hN : w1.heap.size = N at *
  have HN := Lib.hid hN
  clear hN
  go_wp2_with fail
  refine (ctl_new W0 []).mono ?_
  rintro e w2 ⟨g, gs, I2, rfl, h2, s2, hI2⟩
  have U2 : Hid (Upd W0 (fun _ => False) I2 w2) := ⟨s2, fun k hk => .inr (hI2 k hk)⟩
  have c2 := h2.ptr
  obtain ⟨Is, k2, up2⟩ := h2.stk
  have UP2 := Lib.hid up2
  have K2 := Lib.hid k2
  clear up2 s2 hI2 k2 h2
  go_wp2_with fail
  refine (stkR_pushAll b K2.out (by simp) (by omega)).mono ?_
  rintro e w3 ⟨rfl, t3⟩
  obtain ⟨I3, h3, U3⟩ := CtlNew.up U2.out (UP2.out _ _ t3)
  rw [List.nil_append] at h3
  clear c2 t3 UP2 K2 U2
  go_wp2_with fail
  refine (ctl_open 2 [] h3 (by simp)).mono ?_
  rintro e w4 ⟨rfl, t4⟩
  obtain ⟨I4, h4, U4⟩ := CtlNew.up U3 t4
  clear h3 U3 t4
  have c4 := h4.ptr
  obtain ⟨Is4, k4, up4⟩ := h4.stk
  have UP4 := Lib.hid up4
  have K4 := Lib.hid k4
  clear up4 k4 h4
  go_wp2_with fail
  refine (stkR_pushAll s K4.out (by omega) (by omega)).mono ?_
  rintro e w5 ⟨rfl, t5⟩
  obtain ⟨I5, h5, U5⟩ := CtlNew.up U4 (UP4.out _ _ t5)
  have H5 : Hid (Ctl w5 I5 g gs (b ++ s) (twoF b false)) := h5
  have V5 := Lib.hid U5
  clear c4 t5 UP4 K4 U4 h5 U5
  cases d
  all_goals
    have CASE : ∃ dd, dd = dd ∧ True := ⟨false, rfl, trivial⟩
    go_wp2_with fail
    first
      | (refine (ctl_dead ⟨2, [], b.length, false⟩ H5.out (by simp [twoF]) (by simp; omega) rfl).mono ?_
         rintro e w6 ⟨rfl, t6⟩
         rw [cutF_above] at t6
         have T6 : ∃ m, m.length ≤ s.length ∧ CtlUp w5 I5 g gs (b ++ m) (twoF b true) w6 := ⟨[], by simp, by rw [List.append_nil]; exact t6⟩
         clear t6
         go_wp2_with fail)
      | (have T6 : ∃ m, m.length ≤ s.length ∧ CtlUp w5 I5 g gs (b ++ m) (twoF b false) w5 := ⟨s, Nat.le_refl _, CtlUp.same H5.out⟩)
    obtain ⟨m6, hm6, T6⟩ := T6
    obtain ⟨I6, h6, U6⟩ := CtlNew.up V5.out T6
    have H6 := Lib.hid h6
    have V6 := Lib.hid U6
    have M6 := Lib.hid hm6
    clear h6 U6 T6 hm6 H5 V5 CASE
    go_loopw [10] (fun i wr => ∃ (k : Nat) (I : Nat → Prop) (m : List UInt8), k ≤ 2 ∧ i = .int .i64 (k : Int) ∧ Hid (m.length ≤ s.length) ∧ Hid (Ctl wr I g gs (b ++ m) (twoF b _)) ∧ Hid (Upd W0 (fun _ => False) I wr)) (fun i _ => 2 - (intOf i).toNat)
    case atStart => exact ⟨0, I6, m6, by omega, rfl, M6, H6, V6⟩
    case round =>
      obtain ⟨k, I7, m7, hk, rfl, M7, H7, V7⟩ := hrel
      clear H6 V6 M6
      by_cases hlt2 : k < 2
      · have BR := BW.out.step V7.out.1 id
        have y0 := BR.cell k
        have hx : ∃ x : Int, #[Value.int .u8 n1, Value.int .u8 127][k]? = some (.int .u8 x) := by
          rcases (show k = 0 ∨ k = 1 by omega) with rfl | rfl
          · exact ⟨n1, rfl⟩
          · exact ⟨127, rfl⟩
        obtain ⟨x, hx⟩ := hx
        have y1 := y0.trans hx
        have i0 : (0 : Int) ≤ (k : Int) := by omega
        have i1 : (k : Int) < 2 := by omega
        clear y0 hx BR
        go_wp2_with fail
        have hle : (b ++ m7).length ≤ 1000000 := by have := M7.out; simp; omega
        refine (ctl_want _ x H7.out (by simp [twoF]) hle rfl).mono ?_
        rintro e w8 ⟨rfl, t8⟩
        rw [wantF_above] at t8
        obtain ⟨I8, h8, U8⟩ := CtlNew.up V7.out t8
        go_wp2_with fail
        go_roundw
        case rel => exact ⟨k + 1, I8, m7.dropLast, by omega, by go_num, by have := M7.out; simp [Hid]; omega, h8, U8⟩
        case measure => simp [intOf]; omega
      · have hge : ¬ (k : Int) < 2 := by omega
        clear hlt2 hk
        go_wp2_with fail
        go_loopw [11] (fun i wr => ∃ (k : Nat) (I : Nat → Prop) (m : List UInt8), k ≤ s.length ∧ i = .int .i64 (k : Int) ∧ Hid (m.length ≤ s.length - k) ∧ Hid (Ctl wr I g gs (b ++ m) (twoF b _)) ∧ Hid (Upd W0 (fun _ => False) I wr)) (fun i _ => s.length - (intOf i).toNat)
        case atStart => exact ⟨0, I7, m7, by omega, rfl, M7, H7, V7⟩
        case round =>
          obtain ⟨k, I9, m9, hk, rfl, M9, H9, V9⟩ := hrel
          clear H7 V7 M7
          by_cases hlt3 : k < s.length
          · go_wp2_with fail
            have hle : (b ++ m9).length ≤ 1000000 := by have := M9.out; simp; omega
            refine (ctl_pop _ H9.out (by simp [twoF]) hle rfl).mono ?_
            rintro e w8 ⟨rfl, t8⟩
            rw [popF_above] at t8
            obtain ⟨I8, h8, U8⟩ := CtlNew.up V9.out t8
            go_wp2_with fail
            go_roundw
            case rel => exact ⟨k + 1, I8, m9.dropLast, by omega, by go_num, by have := M9.out; simp [Hid]; omega, h8, U8⟩
            case measure => simp [intOf]; omega
          · obtain rfl : k = s.length := by omega
            obtain rfl : m9 = [] := List.eq_nil_of_length_eq_zero (by have := M9.out; omega)
            rw [List.append_nil] at H9
            clear hlt3 hk
            go_wp2_with fail
            refine (ctl_close_ok _ b 0 H9.out (by simp [twoF]) (by omega) (by simp) rfl rfl rfl (by simp)).mono ?_
            rintro e w10 ⟨rfl, t10⟩
            obtain ⟨I10, h10, U10⟩ := CtlNew.up V9.out t10
            have c10 := h10.ptr
            have g10 : g < w10.heap.size := h10.in_ g h10.self
            obtain ⟨Is11, k11, _⟩ := h10.stk
            have H10 := Lib.hid h10
            have V10 := Lib.hid U10
            have K11 := Lib.hid k11
            clear h10 U10 k11 t10 H9 V9
            unfold Fr.val
            go_wp2_with fail
            refine (stkR_list (K11.out.quiet (Step.refl.alloc _)) (by omega)).mono ?_
            rintro e w12 ⟨A, ca, rfl, ho, s12⟩
            have hcv := run_conv_bytes (P := Try.prog) w12 46 9 5 Try.underlying46 Try.underlying5 Try.underlying9 (c := ca) (Reads.of_own ho)
            have H12 := Lib.hid (H10.out.quiet ((Step.refl.alloc _).trans s12))
            have S12 := Lib.hid ((Step.refl.alloc _).trans s12)
            clear s12 ho
            go_wp2_with fail
            refine (ctl_depth H12.out).mono ?_
            rintro e w13 ⟨rfl, rfl⟩
            go_wp2_with fail
            go_ret
            refine ⟨rfl, ?_⟩
            have e1 := SW.out.below w.heap.size (fun _ _ h => h.elim) B1.out.size
            have e0 : w.heap.size ≤ W0.heap.size := Nat.le_trans B1.out.size SW.out.size
            have e2 := V10.out.1.below w.heap.size (fun _ _ h => h.elim) e0
            have e3 : w.heap.size ≤ w10.heap.size := Nat.le_trans e0 V10.out.1.size
            have e6 := S12.out.below w.heap.size (fun _ _ h => h.elim) e3
            exact ((B1.out.trans e1).trans e2).trans e6

set_option maxRecDepth 100000 in
set_option maxHeartbeats 1600000 in
theorem below_long (w : World) (b s : List UInt8) (n0 n1 : Int) (hl : 50 < b.length ∨ (b.length ≤ 50 ∧ 50 < s.length)) (d : Bool) (h00 : 0 ≤ n0) (h01 : n0 ≤ 255) (h10 : 0 ≤ n1) (h11 : n1 ≤ 255) (hd : (bits BinOp.and IntKind.u8 n0 1 == 1) = d) :
    Calls Try.prog 11 #[.string (str b), .string (str s), .agg #[.int .u8 n0, .int .u8 n1]] w fun e w' => e = .returned (.bool true) ∧ Below w.heap.size w w' := by
  have hzb := str_size b
  have hzs := str_size s
  rcases hl with n1b | ⟨n1b, n1s⟩
  all_goals
    have HD := Lib.hid hd
    go_enter Try.func11, Try.ntmps11
    go_wp2_with fail
    refine (awake22 _).mono ?_
    rintro e w1 ⟨rfl, b1⟩
    have bx : Blk (w.alloc (.cells #[.int .u8 n0, .int .u8 n1] 87)) w.heap.size _ _ := Blk.new w _ _
    have bx1 := bx.below b1 (by simp)
    have x0 := bx1.cell 0
    have x1 := bx1.cell 1
    simp at x0 x1
    have hlt : w.heap.size < w1.heap.size := by have := b1.size; simp at this; omega
    have B1 : Hid (Below w.heap.size w w1) := ((Below.refl _ _).alloc (Nat.le_refl _) _).trans (b1.mono (by simp))
    clear b1 bx bx1
    have d0 := cls_cell (F := fun _ => False) x0 id
    have d1 := cls_cell (F := fun _ => False) x1 id
    go_wp2_with fail
    refine Mix.wp_region_mix [6] [6] (Step (fun _ => False) w1) (by kernel_rfl) (by kernel_rfl) Step.refl.drew (fun hcls => ?_)
    refine Mix.wpL_reads 6 (by rfl) ?_
    simp only [List.take_succ_cons, List.drop_succ_cons, List.take_zero, List.drop_zero]
    repeat (go_big_quiet_step (fail))
    refine wpQuiet_nil ?_
    refine Mix.wpL_op (by rfl) (fun K hK => ?_)
    go_simp
    refine hK _ _ (fun hlt => Mix.cl (Step.drew (Step.alloc Step.refl _))) ?_
    clear hK K
    refine Mix.wpL_reads 2 (by rfl) ?_
    simp only [List.take_succ_cons, List.drop_succ_cons, List.take_zero, List.drop_zero]
    repeat (go_big_quiet_step (fail))
    refine wpQuiet_nil ?_
    refine Mix.wpL_end ?_
  
    go_wp2_with fail
    go_ret
    exact ⟨rfl, B1.out.trans ((Step.drew (Step.alloc Step.refl _)).below (F := fun _ => False) w.heap.size (fun _ _ h => h.elim) B1.out.size)⟩
theorem below_walk (w : World) (b s : List UInt8) (n0 n1 : Int) (h00 : 0 ≤ n0) (h01 : n0 ≤ 255) (h10 : 0 ≤ n1) (h11 : n1 ≤ 255) :
    Calls Try.prog 11 #[.string (str b), .string (str s), .agg #[.int .u8 n0, .int .u8 n1]] w fun e w' => e = .returned (.bool true) ∧ Below w.heap.size w w' := by
  by_cases hb : b.length ≤ 50
  · by_cases hs : s.length ≤ 50
    · exact below_body w b s n0 n1 hb hs _ h00 h01 h10 h11 rfl
    · exact below_long w b s n0 n1 (.inr ⟨hb, by omega⟩) _ h00 h01 h10 h11 rfl
  · exact below_long w b s n0 n1 (.inl (by omega)) _ h00 h01 h10 h11 rfl

end Go.Proofs.Ytfechgpdlabgaaa
