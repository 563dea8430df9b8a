/-
  instr: the law InstrPuts, its walk: of what may be.
-/
import Derived.Test.YtfemeendkjcffaaLwA
set_option linter.unusedVariables false
set_option linter.unusedSimpArgs false
namespace Go.Proofs.Ytfemeendkjcffaa
open Go.RowKit

theorem put_len (op a b : Nat) (L : List Nat) : (putL op a b L).length ≤ 31 + 10 * L.length := by
  have h1 := num_len a
  have h2 := num_len b
  have h3 := num_len L.length
  have h4 := labL_len L
  have h5 : (intF (s32 a)).length ≤ 10 := intL_len 10 _
  have h6 : (intF (s64 a)).length ≤ 10 := intL_len 10 _
  rw [putL, List.length_cons, putT]
  repeat' split
  all_goals (try simp only [List.length_append, List.length_cons, List.length_nil])
  all_goals omega

set_option maxRecDepth 100000 in
set_option maxHeartbeats 6400000 in
theorem iputs_ok (w : World) (op a b c op2 a2 b2 c2 cm : Nat) (A A2 B : Option Addr) (L L2 : List Nat) (ms : List UInt8) (S : Nat → Prop) (h1 : Reads w S 1 A L.length (u32s L)) (h2 : Reads w S 1 A2 L2.length (u32s L2)) (h3 : Reads w S 1 B ms.length (u8s ms)) (hop : op < 256) (ha : a < 18446744073709551616) (hLb : ∀ x ∈ L, x < 4294967296) (l1 : L.length ≤ 200) (l2 : L2.length ≤ 200) (l3 : ms.length ≤ 100) (hz : rgtF op a b L.length = 0) :
    Calls Try.prog 9 #[.agg #[.int .u8 (op : Int), .int .u64 (a : Int), .int .u64 (b : Int), .slice A L.length c], .agg #[.int .u8 (op2 : Int), .int .u64 (a2 : Int), .int .u64 (b2 : Int), .slice A2 L2.length c2], .slice B ms.length cm] w fun e w' => e = .returned (.bool true) ∧ Step (fun _ => False) w w' := by
  have g1 : ¬ (200 : Int) < L.length := by omega
  have g2 : ¬ (200 : Int) < L2.length := by omega
  have g3 : ¬ (100 : Int) < ms.length := by omega
  have g1' : decide ((200 : Int) < (L.length : Int)) = false := decide_eq_false g1
  have g2' : decide ((200 : Int) < (L2.length : Int)) = false := decide_eq_false g2
  have g3' : decide ((100 : Int) < (ms.length : Int)) = false := decide_eq_false g3
  have HR : Hid (∀ w, Calls Try.prog 56 #[.agg #[.int .u8 (op : Int), .int .u64 (a : Int), .int .u64 (b : Int), .slice A L.length c]] w fun e w' => e = .returned (.int .i64 (rgtF op a b L.length : Nat)) ∧ Step (fun _ => False) w w') := fun w => right_walk w op a b L.length c A hop
  have HQ : Hid (∀ w, Calls Try.prog 54 #[.agg #[.int .u8 (op : Int), .int .u64 (a : Int), .int .u64 (b : Int), .slice A L.length c]] w fun e w' => e = .returned (.int .i64 (rgtF op a b L.length : Nat)) ∧ Step (fun _ => False) w w') := fun w => rright_walk w op a b L.length c A hop
  have HSi : Hid (∀ w', Step (fun _ => False) w w' → Calls Try.prog 57 #[.agg #[.int .u8 (op : Int), .int .u64 (a : Int), .int .u64 (b : Int), .slice A L.length c], .agg #[.int .u8 (op2 : Int), .int .u64 (a2 : Int), .int .u64 (b2 : Int), .slice A2 L2.length c2]] w' fun e w'' => e = .returned (.bool (sameF op a b L op2 a2 b2 L2)) ∧ Step (fun _ => False) w' w'') := fun w' ht =>
    isame_walk w' op a b c op2 a2 b2 c2 A A2 L L2 S S (h1.step ht (fun _ _ => id)) (h2.step ht (fun _ _ => id)) (by omega)
  have HSr : Hid (∀ w', Step (fun _ => False) w w' → Calls Try.prog 39 #[.agg #[.int .u8 (op : Int), .int .u64 (a : Int), .int .u64 (b : Int), .slice A L.length c], .agg #[.int .u8 (op2 : Int), .int .u64 (a2 : Int), .int .u64 (b2 : Int), .slice A2 L2.length c2]] w' fun e w'' => e = .returned (.bool (sameF op a b L op2 a2 b2 L2)) ∧ Step (fun _ => False) w' w'') := fun w' ht =>
    rsame_walk w' op a b c op2 a2 b2 c2 A A2 L L2 S S (h1.step ht (fun _ _ => id)) (h2.step ht (fun _ _ => id)) (by omega)
  obtain ⟨Rb, hRb⟩ : ∃ Rb, Rb = sameF op a b L op2 a2 b2 L2 := ⟨_, rfl⟩
  rw [← hRb] at HSi HSr
  have hbb : (Rb != Rb) = false := by simp
  clear hRb
  have HP : Hid (∀ w', Step (fun _ => False) w w' → Calls Try.prog 55 #[.agg #[.int .u8 (op : Int), .int .u64 (a : Int), .int .u64 (b : Int), .slice A L.length c]] w' fun e w'' => ∃ D c', e = .returned (.tuple #[.slice D (putL op a b L).length c', .int .i64 0]) ∧
      w''.ownsRow w'.heap.size 5 1 (.slice D (putL op a b L).length c') (putL op a b L).length (u8s (putL op a b L)) ∧ Step (fun _ => False) w' w'') := fun w' ht => iput_all w' op a b c A L S (h1.step ht (fun _ _ => id)) hop ha hLb hz
  have HW : Hid (∀ w', Step (fun _ => False) w w' → Calls Try.prog 59 #[.agg #[.int .u8 (op : Int), .int .u64 (a : Int), .int .u64 (b : Int), .slice A L.length c]] w' fun e w'' => e = .returned (.string (str (putL op a b L))) ∧ Step (fun _ => False) w' w'') := fun w' ht => rput_all w' op a b c A L S (h1.step ht (fun _ _ => id)) hop ha hLb hz
  have HA : Hid (∀ w' D' c' M, M = putL op a b L ++ ms → M.length ≤ 1000000 → (∃ S', Reads w' S' 1 D' M.length (u8s M)) → Calls Try.prog 58 #[.slice D' M.length c'] w' fun e w'' => ∃ D3 c3, e = .returned (.tuple #[.agg #[.int .u8 (op : Int), .int .u64 (a : Int), .int .u64 (b : Int), .slice D3 L.length c3], .int .i64 ((putL op a b L).length : Int), .agg #[.int .i64 0, .int .i64 0]]) ∧
      w''.ownsRow w'.heap.size 51 1 (.slice D3 L.length c3) L.length (u32s L) ∧ Step (fun _ => False) w' w'') := fun w' D' c' M hM hl hq => by
    obtain ⟨S', hq⟩ := hq
    exact parse_ok w' D' c' M S' hq hl op a b L ms hop ha hLb hz hM
  have HSx : Hid (∀ w' D3 c3 S3, Reads w' S3 1 D3 L.length (u32s L) → Step (fun _ => False) w w' → Calls Try.prog 39 #[.agg #[.int .u8 (op : Int), .int .u64 (a : Int), .int .u64 (b : Int), .slice D3 L.length c3], .agg #[.int .u8 (op : Int), .int .u64 (a : Int), .int .u64 (b : Int), .slice A L.length c]] w' fun e w'' => e = .returned (.bool true) ∧ Step (fun _ => False) w' w'') := fun w' D3 c3 S3 hq ht => by
    have := rsame_walk w' op a b c3 op a b c D3 A L L S3 S hq (h1.step ht (fun _ _ => id)) (by omega)
    rw [same_yes] at this
    exact this
  have hTl : (putL op a b L).length ≤ 3000 := by
    have h4 := put_len op a b L
    omega
  obtain ⟨T, hT⟩ : ∃ T, T = putL op a b L := ⟨_, rfl⟩
  rw [← hT] at HP HW HA hTl
  have HM := Lib.hid h3
  have hE : ((str T).toList == (str T).toList) = true := beq_self_eq_true _
  have hE2 : ((T.length : Int) == (T.length : Int)) = true := beq_self_eq_true _
  have hrr : ((0 : Int) != 0) = false := by simp
  rw [hz] at HR HQ
  rw [show (((0 : Nat) : Int)) = 0 from rfl] at HR HQ
  clear hT hz h1 h2 h3 hLb
  have HX0 := Lib.hid ((Blk.new w 50 #[.int .u8 (op : Int), .int .u64 (a : Int), .int .u64 (b : Int), .slice A L.length c]).alloc (.cells #[.int .u8 (op2 : Int), .int .u64 (a2 : Int), .int .u64 (b2 : Int), .slice A2 L2.length c2] 50))
  have HY0 : Hid (Blk ((w.alloc (.cells #[.int .u8 (op : Int), .int .u64 (a : Int), .int .u64 (b : Int), .slice A L.length c] 50)).alloc (.cells #[.int .u8 (op2 : Int), .int .u64 (a2 : Int), .int .u64 (b2 : Int), .slice A2 L2.length c2] 50)) (w.heap.size + 1) 50 #[.int .u8 (op2 : Int), .int .u64 (a2 : Int), .int .u64 (b2 : Int), .slice A2 L2.length c2]) := by
    have hq := Blk.new (w.alloc (.cells #[.int .u8 (op : Int), .int .u64 (a : Int), .int .u64 (b : Int), .slice A L.length c] 50)) 50 #[.int .u8 (op2 : Int), .int .u64 (a2 : Int), .int .u64 (b2 : Int), .slice A2 L2.length c2]
    rw [show (w.alloc (.cells #[.int .u8 (op : Int), .int .u64 (a : Int), .int .u64 (b : Int), .slice A L.length c] 50)).heap.size = w.heap.size + 1 by simp] at hq
    exact hq
  have HS0 : Hid (Step (fun _ => False) w ((w.alloc (.cells #[.int .u8 (op : Int), .int .u64 (a : Int), .int .u64 (b : Int), .slice A L.length c] 50)).alloc (.cells #[.int .u8 (op2 : Int), .int .u64 (a2 : Int), .int .u64 (b2 : Int), .slice A2 L2.length c2] 50))) := (Step.refl.alloc _).alloc _
  go_enter Try.func9, Try.ntmps9
  go_wp2_with fail
  refine (awake07 _).mono ?_
  rintro e w5 ⟨rfl, hS5⟩
  have HX5 := Lib.hid (HX0.out.step hS5 id)
  have HY5 := Lib.hid (HY0.out.step hS5 id)
  have HS5 := Lib.hid (HS0.out.trans hS5)
  clear hS5 HX0 HY0 HS0
  obtain ⟨X, hX⟩ : ∃ X, X = w.heap.size := ⟨_, rfl⟩
  rw [← hX] at HX5 HY5 ⊢
  have HXe := Lib.hid hX
  clear hX
  have x3 := HX5.out.cell 3
  have y3 := HY5.out.cell 3
  simp at x3 y3
  have x0 := HX5.out.cell 0
  have x1 := HX5.out.cell 1
  have x2 := HX5.out.cell 2
  simp at x0 x1 x2
  go_wp2_with fail
  refine (HQ.out _).mono ?_
  rintro e w6 ⟨rfl, hS6⟩
  have HX6 := Lib.hid (HX5.out.step hS6 id)
  have HY6 := Lib.hid (HY5.out.step hS6 id)
  have HS6 := Lib.hid (HS5.out.trans hS6)
  clear hS6 x0 x1 x2 x3 y3 HX5 HY5 HS5
  have x0 := HX6.out.cell 0
  have x1 := HX6.out.cell 1
  have x2 := HX6.out.cell 2
  have x3 := HX6.out.cell 3
  simp at x0 x1 x2 x3
  go_wp2_with fail
  refine (HP.out _ HS6.out).mono ?_
  rintro e w7 ⟨D7, c7, rfl, hown7, hS7⟩
  have HO7 := Lib.hid (own_base hown7 (base' := w.heap.size) (fun q hq => Nat.le_trans HS6.out.size (own_ge hown7 q hq)))
  have HX7 := Lib.hid (HX6.out.step hS7 id)
  have HY7 := Lib.hid (HY6.out.step hS7 id)
  have HS7 := Lib.hid (HS6.out.trans hS7)
  clear hS7 hown7 HX6 HY6 HS6
  clear x0 x1 x2 x3
  have x0 := HX7.out.cell 0
  have x1 := HX7.out.cell 1
  have x2 := HX7.out.cell 2
  have x3 := HX7.out.cell 3
  have y0 := HY7.out.cell 0
  have y1 := HY7.out.cell 1
  have y2 := HY7.out.cell 2
  have y3 := HY7.out.cell 3
  simp at x0 x1 x2 x3 y0 y1 y2 y3
  go_wp2_with fail
  have d0 := cls_cell (F := fun _ => False) (w0 := w7) x0 id
  have d1 := cls_cell (F := fun _ => False) (w0 := w7) x1 id
  have d2 := cls_cell (F := fun _ => False) (w0 := w7) x2 id
  have d3 := cls_cell (F := fun _ => False) (w0 := w7) x3 id
  have d4 := cls_cell (F := fun _ => False) (w0 := w7) y0 id
  have d5 := cls_cell (F := fun _ => False) (w0 := w7) y1 id
  have d6 := cls_cell (F := fun _ => False) (w0 := w7) y2 id
  have d7 := cls_cell (F := fun _ => False) (w0 := w7) y3 id
  clear x0 x1 x2 x3 y0 y1 y2 y3
  refine Mix.wp_region_mix [1, 12, 15] [1, 12, 15] (Step (fun _ => False) w7) (by kernel_rfl) (by kernel_rfl) Step.refl.drew (fun hcls => ?_)
  refine Mix.wpL_reads 1 (by rfl) ?_
  simp only [List.take_succ_cons, List.drop_succ_cons, List.take_zero, List.drop_zero]
  repeat (go_big_quiet_step (fail))
  refine wpQuiet_nil ?_
  refine Mix.wpL_op (by rfl) (fun K hK => ?_)
  go_simp
  refine (HR.out _).mono ?_
  rintro e wa ⟨rfl, hSa⟩
  have HSa := Lib.hid (Step.refl.drew.trans hSa)
  refine hK _ _ (fun hlt => Mix.cl HSa.out) ?_
  clear hK K hSa
  refine Mix.wpL_reads 10 (by rfl) ?_
  simp only [List.take_succ_cons, List.drop_succ_cons, List.take_zero, List.drop_zero]
  repeat (go_big_quiet_step (fail))
  refine wpQuiet_nil ?_
  refine Mix.wpL_op (by rfl) (fun K hK => ?_)
  go_simp
  refine (HSi.out _ (HS7.out.trans HSa.out)).mono ?_
  rintro e wb ⟨rfl, hSb⟩
  have HSb := Lib.hid (HSa.out.trans hSb)
  refine hK _ _ (fun hlt => Mix.cl HSb.out) ?_
  clear hK K hSb HSa
  refine Mix.wpL_reads 2 (by rfl) ?_
  simp only [List.take_succ_cons, List.drop_succ_cons, List.take_zero, List.drop_zero]
  repeat (go_big_quiet_step (fail))
  refine wpQuiet_nil ?_
  refine Mix.wpL_op (by rfl) (fun K hK => ?_)
  go_simp
  refine (HSr.out _ (HS7.out.trans HSb.out)).mono ?_
  rintro e wc ⟨rfl, hSc⟩
  have HSc := Lib.hid (HSb.out.trans hSc)
  refine hK _ _ (fun hlt => Mix.cl HSc.out) ?_
  clear hK K hSc HSb
  refine Mix.wpL_reads 2 (by rfl) ?_
  simp only [List.take_succ_cons, List.drop_succ_cons, List.take_zero, List.drop_zero]
  repeat (go_big_quiet_step (fail))
  refine wpQuiet_nil ?_
  refine Mix.wpL_end ?_
  clear d0 d1 d2 d3 d4 d5 d6 d7
  have HO8 := Lib.hid (own_step HO7.out HSc.out (fun _ _ => id))
  have HX8 := Lib.hid (HX7.out.step HSc.out id)
  have HS8 := Lib.hid (HS7.out.trans HSc.out)
  have hfr := own_fresh (w := wc) (e := 5) (base := wc.heap.size) 1 (Nat.le_refl _)
  have hrd := (Reads.of_own HO8.out).step (Step.refl.alloc (F := fun _ => False) (w := wc) (.cells #[] 5)) (fun _ _ => id)
  have hone := u8s_one T
  have hm : 0 + T.length ≤ maxLen := by unfold maxLen; omega
  clear HO7 HX7 HY7 HS7 HSc
  have hone2 := u8s_one ms
  have hm2 : T.length + ms.length ≤ maxLen := by unfold maxLen; omega
  go_wp2_with first
    | (at_builtin; refine wpList_append_src _ rfl _ _ (by rfl) E_u8 (by rfl) hfr (by rfl) hrd hone hm (by omega) (by simp) ?_; intro D9 c9 w9 hown hgrow hat; rw [Nat.zero_add, List.nil_append] at hown; have HO9 := Lib.hid hown; have HS9 := Lib.hid (grow_step (HS8.out.alloc _) hgrow hfr HS8.out.size); have HG9 := Lib.hid hgrow; have HW9 := Lib.hid (grow_step ((Step.refl (F := fun _ => False)).alloc _) hgrow hfr (Nat.le_refl _)); clear hown hgrow hat)
    | (at_builtin; refine wpList_append_src _ rfl _ _ (by rfl) E_u8 (by rfl) HO9.out (by rfl) (HM.out.step HS9.out (fun _ _ => id)) hone2 hm2 (by omega) HW9.out.size ?_; intro D10 c10 w10 hown hgrow hat; have HO10 := Lib.hid hown; have HG10 := Lib.hid hgrow; clear hown hgrow hat)
  have HW10 := Lib.hid (grow_step HW9.out HG10.out HO9.out (Nat.le_refl _))
  have HS10 := Lib.hid (HS8.out.trans HW10.out)
  have HX10 := Lib.hid (HX8.out.step HW10.out id)
  have HB10 := Lib.hid (own_step HO8.out HW10.out (fun _ _ => id))
  obtain ⟨M, hM⟩ : ∃ M, M = T ++ ms := ⟨_, rfl⟩
  have hMl : T.length + ms.length = M.length := by rw [hM, List.length_append]
  have hrM : ∃ S', Reads w10 S' 1 D10 M.length (u8s M) := by
    have h := Reads.of_own HO10.out
    rw [← u8s_append, ← hM, hMl] at h
    exact ⟨_, h⟩
  have HPa := Lib.hid (HA.out w10 D10 c10 M hM (by omega) hrM)
  have HMl := Lib.hid hMl
  clear hM hrM hMl HO10 HG10 HO9 HG9 HW9 HW10 HS9 HX8 HO8 HS8 hfr hrd hone hone2
  rw [HMl.out]
  refine HPa.out.mono ?_
  rintro e w11 ⟨D3, c3, rfl, hown11, hS11⟩
  have HX11 := Lib.hid ((HX10.out.step hS11 id).alloc (.cells #[.int .u8 (op : Int), .int .u64 (a : Int), .int .u64 (b : Int), .slice D3 L.length c3] 50) |>.alloc (.cells #[.int .i64 0, .int .i64 0] 85))
  have HZ11 := Lib.hid ((Blk.new w11 50 #[.int .u8 (op : Int), .int .u64 (a : Int), .int .u64 (b : Int), .slice D3 L.length c3]).alloc (.cells #[.int .i64 0, .int .i64 0] 85))
  have HV11 : Hid (Blk ((w11.alloc (.cells #[.int .u8 (op : Int), .int .u64 (a : Int), .int .u64 (b : Int), .slice D3 L.length c3] 50)).alloc (.cells #[.int .i64 0, .int .i64 0] 85)) (w11.heap.size + 1) 85 #[.int .i64 0, .int .i64 0]) := by
    have hq := Blk.new (w11.alloc (.cells #[.int .u8 (op : Int), .int .u64 (a : Int), .int .u64 (b : Int), .slice D3 L.length c3] 50)) 85 #[.int .i64 0, .int .i64 0]
    rw [show (w11.alloc (.cells #[.int .u8 (op : Int), .int .u64 (a : Int), .int .u64 (b : Int), .slice D3 L.length c3] 50)).heap.size = w11.heap.size + 1 by simp] at hq
    exact hq
  have HS11 := Lib.hid (((HS10.out.trans hS11).alloc (.cells #[.int .u8 (op : Int), .int .u64 (a : Int), .int .u64 (b : Int), .slice D3 L.length c3] 50)).alloc (.cells #[.int .i64 0, .int .i64 0] 85))
  have HB11 := Lib.hid (((own_step HB10.out hS11 (fun _ _ => id)).alloc (.cells #[.int .u8 (op : Int), .int .u64 (a : Int), .int .u64 (b : Int), .slice D3 L.length c3] 50)).alloc (.cells #[.int .i64 0, .int .i64 0] 85))
  have HL11 := Lib.hid ((hown11.alloc (.cells #[.int .u8 (op : Int), .int .u64 (a : Int), .int .u64 (b : Int), .slice D3 L.length c3] 50)).alloc (.cells #[.int .i64 0, .int .i64 0] 85))
  have hXl : X < w11.heap.size := by have h4 := HX10.out.lt; have h5 := hS11.size; omega
  clear hS11 hown11 HPa HX10 HB10 HS10
  go_wp2_with fail
  obtain ⟨W, hW⟩ : ∃ W, W = (w11.alloc (.cells #[.int .u8 (op : Int), .int .u64 (a : Int), .int .u64 (b : Int), .slice D3 L.length c3] 50)).alloc (.cells #[.int .i64 0, .int .i64 0] 85) := ⟨_, rfl⟩
  obtain ⟨Z, hZ⟩ : ∃ Z, Z = w11.heap.size := ⟨_, rfl⟩
  rw [← hW] at HX11 HZ11 HV11 HS11 HB11 HL11 ⊢
  rw [← hZ] at HZ11 HV11 ⊢
  clear hW hZ hXl
  have x0 := HX11.out.cell 0
  have x1 := HX11.out.cell 1
  have x2 := HX11.out.cell 2
  have x3 := HX11.out.cell 3
  have z0 := HZ11.out.cell 0
  have z1 := HZ11.out.cell 1
  have z2 := HZ11.out.cell 2
  have z3 := HZ11.out.cell 3
  have v0 := HV11.out.cell 0
  simp at x0 x1 x2 x3 z0 z1 z2 z3 v0
  have e0 := cls_cell (F := fun _ => False) (w0 := W) x0 id
  have e1 := cls_cell (F := fun _ => False) (w0 := W) x1 id
  have e2 := cls_cell (F := fun _ => False) (w0 := W) x2 id
  have e3 := cls_cell (F := fun _ => False) (w0 := W) x3 id
  have f0 := cls_cell (F := fun _ => False) (w0 := W) z0 id
  have f1 := cls_cell (F := fun _ => False) (w0 := W) z1 id
  have f2 := cls_cell (F := fun _ => False) (w0 := W) z2 id
  have f3 := cls_cell (F := fun _ => False) (w0 := W) z3 id
  have f4 := cls_cell (F := fun _ => False) (w0 := W) v0 id
  have hcv : ∀ i : Mix.Cls (Step (fun _ => False) W), (convert 53 9 (.slice D7 T.length c7)).run Try.prog i.val = .ok (.string (str T)) i.val := fun i => conv_bytes (c := c7) ((Reads.of_own HB11.out).step i.prop (fun _ _ => id))
  clear x0 x1 x2 x3 z0 z1 z2 z3 v0
  refine Mix.wp_region_mix [3, 19] [3, 19] (Step (fun _ => False) W) (by kernel_rfl) (by kernel_rfl) Step.refl.drew (fun hcls => ?_)
  refine Mix.wpL_reads 3 (by rfl) ?_
  simp only [List.take_succ_cons, List.drop_succ_cons, List.take_zero, List.drop_zero]
  repeat (go_big_quiet_step (fail))
  refine wpQuiet_nil ?_
  refine Mix.wpL_op (by rfl) (fun K hK => ?_)
  go_simp
  refine (HW.out _ HS11.out.drew).mono ?_
  rintro e wd ⟨rfl, hSd⟩
  have HSd := Lib.hid (Step.refl.drew.trans hSd)
  refine hK _ _ (fun hlt => Mix.cl HSd.out) ?_
  clear hK K hSd
  refine Mix.wpL_reads 15 (by rfl) ?_
  simp only [List.take_succ_cons, List.drop_succ_cons, List.take_zero, List.drop_zero]
  repeat (go_big_quiet_step (fail))
  refine wpQuiet_nil ?_
  refine Mix.wpL_op (by rfl) (fun K hK => ?_)
  go_simp
  refine (HSx.out _ D3 c3 _ ((Reads.of_own HL11.out).step HSd.out (fun _ _ => id)) (HS11.out.trans HSd.out)).mono ?_
  rintro e we ⟨rfl, hSe⟩
  have HSe := Lib.hid (HSd.out.trans hSe)
  refine hK _ _ (fun hlt => Mix.cl HSe.out) ?_
  clear hK K hSe
  refine Mix.wpL_reads 2 (by rfl) ?_
  simp only [List.take_succ_cons, List.drop_succ_cons, List.take_zero, List.drop_zero]
  repeat (go_big_quiet_step (fail))
  refine wpQuiet_nil ?_
  refine Mix.wpL_end ?_
  go_wp2_with fail
  go_ret
  exact ⟨rfl, HS11.out.trans HSe.out⟩
end Go.Proofs.Ytfemeendkjcffaa
