/-
  consts: the page's example; the law ConstsPuts.
-/
import Derived.Test.YtfemeendkjcffaaPu
import Derived.Test.YtfemeendkjcffaaMix
import Derived.Test.YtfemeendkjcffaaRes
set_option linter.unusedVariables false
set_option linter.unusedSimpArgs false
namespace Go.Proofs.Ytfemeendkjcffaa
open Go.RowKit

set_option maxRecDepth 100000 in
set_option maxHeartbeats 1600000 in
theorem global_walk (w : World) (n : Nat) (h : n < 4294967296) : Calls Try.prog 37 #[.int .u32 (n : Int)] w fun e w' => e = .returned (.agg #[.int .u8 35, .int .u64 (n : Int), .int .u64 0, .slice none 0 0]) ∧ Step (fun _ => False) w w' := by
  have hw := IntWalk.u64_in (n : Int) (by omega)
  go_enter Try.func37, Try.ntmps37
  go_wp2_with fail
  exact bodyPost_ret (v := .agg #[.int .u8 35, .int .u64 (n : Int), .int .u64 0, .slice none 0 0]) (by simp [results, Try.results37, go_sem]) rfl ⟨rfl, Step.refl.alloc _⟩

set_option maxRecDepth 100000 in
set_option maxHeartbeats 1600000 in
theorem same_nil (w : World) (op a b : Int) : Calls Try.prog 39 #[.agg #[.int .u8 op, .int .u64 a, .int .u64 b, .slice none 0 0], .agg #[.int .u8 op, .int .u64 a, .int .u64 b, .slice none 0 0]] w fun e w' => e = .returned (.bool true) ∧ Step (fun _ => False) w w' := by
  go_enter Try.func39, Try.ntmps39
  go_wp2_with fail
  go_loopw [5] (fun iv wr => iv = .int .i64 0 ∧ Hid (wr = (w.alloc (.cells #[.int .u8 op, .int .u64 a, .int .u64 b, .slice none 0 0] 50)).alloc (.cells #[.int .u8 op, .int .u64 a, .int .u64 b, .slice none 0 0] 50))) (fun iv _ => 1 - (intOf iv).toNat)
  case atStart => exact ⟨rfl, by first | exact Lib.hid trivial | rfl⟩
  case round =>
    obtain ⟨rfl, hq⟩ := hrel
    have hq' := hq.out
    subst hq'
    go_wp2_with fail
    go_ret
    exact ⟨rfl, (Step.refl.alloc _).alloc _⟩

theorem ok655 : ConstOk 65 5 := .inr (.inl ⟨rfl, by decide⟩)
theorem put655 : cputL 65 5 = [65, 5, 11] := by kernel_rfl

set_option maxRecDepth 100000 in
set_option maxHeartbeats 1600000 in
theorem awake08 (w : World) : Calls Try.prog 34 #[] w fun e w' => e = .returned (.bool true) ∧ Step (fun _ => False) w w' := by
  have HP : Hid (∀ w, Calls Try.prog 36 #[.agg #[.int .u8 65, .int .u64 5, .int .u64 0, .slice none 0 0]] w fun e w' => ∃ D c', e = .returned (.tuple #[.slice D 3 c', .int .i64 0]) ∧
      w'.ownsRow w.heap.size 5 1 (.slice D 3 c') 3 (u8s [65, 5, 11]) ∧ Step (fun _ => False) w w') := fun w => by
    have := cput_ok w 65 5 0 none ok655 (by decide)
    rw [put655] at this
    exact this
  go_enter Try.func34, Try.ntmps34
  go_wp2_with fail
  refine (HP.out _).mono ?_
  rintro e w5 ⟨D, c, rfl, hown, hS⟩
  have hcv := conv_bytes (c := c) (Reads.of_own hown)
  rw [show str [65, 5, 11] = (⟨#[65, 5, 11]⟩ : ByteArray) from rfl] at hcv
  clear hown
  go_wp2_with fail
  go_ret
  exact ⟨rfl, hS⟩

set_option maxRecDepth 100000 in
set_option maxHeartbeats 1600000 in
theorem cputs_walk (w : World) (op a b n c g : Nat) (A : Option Addr) (hop : op < 256) (ha : a < 18446744073709551616) (hb : b < 18446744073709551616) (hg : g < 4294967296) :
    Calls Try.prog 6 #[insV op a b A n c, .int .u32 (g : Int)] w fun e w' => e = .returned (.bool true) ∧ Step (fun _ => False) w w' := by
  have HG : Hid (∀ w, Calls Try.prog 37 #[.int .u32 (g : Int)] w fun e w' => e = .returned (.agg #[.int .u8 35, .int .u64 (g : Int), .int .u64 0, .slice none 0 0]) ∧ Step (fun _ => False) w w') := fun w => global_walk w g hg
  have hgw := IntWalk.u64_in (g : Int) (by omega)
  have HS1 : Hid (∀ w, Calls Try.prog 39 #[.agg #[.int .u8 35, .int .u64 (g : Int), .int .u64 0, .slice none 0 0], .agg #[.int .u8 35, .int .u64 (g : Int), .int .u64 0, .slice none 0 0]] w fun e w' => e = .returned (.bool true) ∧ Step (fun _ => False) w w') := fun w => same_nil w 35 g 0
  have HR : Hid (∀ w, Calls Try.prog 38 #[insV op a b A n c] w fun e w' => e = .returned (.int .i64 (crtF op a b n : Nat)) ∧ Step (fun _ => False) w w') := fun w => cright_walk w op a b n c A hop
  have HQ : Hid (∀ w, Calls Try.prog 35 #[insV op a b A n c] w fun e w' => e = .returned (.int .i64 (crtF op a b n : Nat)) ∧ Step (fun _ => False) w w') := fun w => crright_walk w op a b n c A hop
  by_cases hn : (200 : Int) < n
  · simp only [insV]
    clear HR HQ
    go_enter Try.func6, Try.ntmps6
    go_wp2_with fail
    refine (awake08 _).mono ?_
    rintro e w5 ⟨rfl, hS5⟩
    have HB5 := Lib.hid ((Blk.new w 50 #[.int .u8 (op : Int), .int .u64 (a : Int), .int .u64 (b : Int), .slice A n c]).step hS5 id)
    have HS5 := Lib.hid ((Step.refl.alloc _).trans hS5)
    clear hS5
    obtain ⟨X, hX⟩ : ∃ X, X = w.heap.size := ⟨_, rfl⟩
    rw [← hX] at HB5 ⊢
    clear hX
    have x3 := HB5.out.cell 3
    simp at x3
    go_wp2_with fail
    go_ret
    exact ⟨rfl, HS5.out⟩
  · by_cases hz : crtF op a b n = 0
    · obtain ⟨rfl, rfl, hok⟩ := crt_zero hz
      rw [hz] at HR HQ
      simp only [insV] at HR HQ ⊢
      rw [show (((0 : Nat) : Int)) = 0 from rfl] at HR HQ ⊢
      have HP : Hid (∀ w, Calls Try.prog 36 #[.agg #[.int .u8 (op : Int), .int .u64 (a : Int), .int .u64 0, .slice A 0 c]] w fun e w' => ∃ D c', e = .returned (.tuple #[.slice D (cputL op a).length c', .int .i64 0]) ∧
          w'.ownsRow w.heap.size 5 1 (.slice D (cputL op a).length c') (cputL op a).length (u8s (cputL op a)) ∧ Step (fun _ => False) w w') := fun w => cput_ok w op a c A hok ha
      have HW : Hid (∀ w, Calls Try.prog 40 #[.agg #[.int .u8 (op : Int), .int .u64 (a : Int), .int .u64 0, .slice A 0 c]] w fun e w' => e = .returned (.string (str (cputL op a))) ∧ Step (fun _ => False) w w') := fun w => crput_walk w op a c A hok ha
      obtain ⟨T, hT⟩ : ∃ T, T = cputL op a := ⟨_, rfl⟩
      rw [← hT] at HP HW
      clear hT hok hz hn
      go_enter Try.func6, Try.ntmps6
      go_wp2_with fail
      refine (awake08 _).mono ?_
      rintro e w5 ⟨rfl, hS5⟩
      have HB5 := Lib.hid ((Blk.new w 50 #[.int .u8 (op : Int), .int .u64 (a : Int), .int .u64 0, .slice A 0 c]).step hS5 id)
      have HS5 := Lib.hid ((Step.refl.alloc _).trans hS5)
      clear hS5
      obtain ⟨X, hX⟩ : ∃ X, X = w.heap.size := ⟨_, rfl⟩
      rw [← hX] at HB5 ⊢
      clear hX
      have x0 := HB5.out.cell 0
      have x1 := HB5.out.cell 1
      have x2 := HB5.out.cell 2
      have x3 := HB5.out.cell 3
      simp at x0 x1 x2 x3
      go_wp2_with fail
      refine (HQ.out _).mono ?_
      rintro e w6 ⟨rfl, hS6⟩
      have HB6 := Lib.hid (HB5.out.step hS6 id)
      have HS6 := Lib.hid (HS5.out.trans hS6)
      clear hS6 HS5 HB5 x0 x1 x2 x3
      have x0 := HB6.out.cell 0
      have x1 := HB6.out.cell 1
      have x2 := HB6.out.cell 2
      have x3 := HB6.out.cell 3
      simp at x0 x1 x2 x3
      go_wp2_with fail
      refine (HP.out _).mono ?_
      rintro e w7 ⟨D, c7, rfl, hown7, hS7⟩
      have HR7 := Lib.hid (Reads.of_own hown7)
      have HO7 := Lib.hid hown7
      have HB7 := Lib.hid (HB6.out.step hS7 id)
      have HS7 := Lib.hid (HS6.out.trans hS7)
      clear hS7 HS6 HB6 x0 x1 x2 x3 hown7
      have hXl := HB7.out.lt
      go_wp2_with fail
      refine (HG.out _).mono ?_
      rintro e w8 ⟨rfl, hS8⟩
      have HO8 := Lib.hid (own_step HO7.out hS8 (fun _ _ => id))
      have HB8 := Lib.hid (HB7.out.step hS8 id)
      have HS8 := Lib.hid (HS7.out.trans hS8)
      clear hS8 HS7 HB7 HR7 HO7
      have hXl8 := HB8.out.lt
      have x0 := HB8.out.cell 0
      have x1 := HB8.out.cell 1
      have x2 := HB8.out.cell 2
      have x3 := HB8.out.cell 3
      simp at x0 x1 x2 x3
      go_wp2_with fail
      refine (HR.out _).mono ?_
      rintro e w9 ⟨rfl, hS9⟩
      have HO9 := Lib.hid (own_step (HO8.out.alloc _) hS9 (fun _ _ => id))
      have HB9 := Lib.hid ((HB8.out.alloc _).step hS9 id)
      have HY9 := Lib.hid ((Blk.new w8 50 #[.int .u8 35, .int .u64 (g : Int), .int .u64 0, .slice none 0 0]).step hS9 id)
      have HS9 := Lib.hid ((HS8.out.alloc _).trans hS9)
      clear hS9 HS8 HB8 HO8 x0 x1 x2 x3
      obtain ⟨Y, hY⟩ : ∃ Y, Y = w8.heap.size := ⟨_, rfl⟩
      rw [← hY] at HY9 ⊢
      clear hY hXl8
      have y0 := HY9.out.cell 0
      have y1 := HY9.out.cell 1
      have y2 := HY9.out.cell 2
      have y3 := HY9.out.cell 3
      simp at y0 y1 y2 y3
      go_wp2_with fail
      refine (HS1.out _).mono ?_
      rintro e w10 ⟨rfl, hS10⟩
      have HO10 := Lib.hid (own_step HO9.out hS10 (fun _ _ => id))
      have HB10 := Lib.hid (HB9.out.step hS10 id)
      have HS10 := Lib.hid (HS9.out.trans hS10)
      clear hS10 HS9 HB9 HO9 HY9 y0 y1 y2 y3
      have x0 := HB10.out.cell 0
      have x1 := HB10.out.cell 1
      have x2 := HB10.out.cell 2
      have x3 := HB10.out.cell 3
      simp at x0 x1 x2 x3
      have d0 := cls_cell (F := fun _ => False) (w0 := w10) x0 id
      have d1 := cls_cell (F := fun _ => False) (w0 := w10) x1 id
      have d2 := cls_cell (F := fun _ => False) (w0 := w10) x2 id
      have d3 := cls_cell (F := fun _ => False) (w0 := w10) x3 id
      have hcv : ∀ i : Mix.Cls (Step (fun _ => False) w10), (convert 53 9 (.slice D T.length c7)).run Try.prog i.val = .ok (.string (str T)) i.val := fun i => conv_bytes (c := c7) ((Reads.of_own HO10.out).step i.prop (fun _ _ => id))
      have hE : ((str T).toList == (str T).toList) = true := beq_self_eq_true _
      clear x0 x1 x2 x3
      go_wp2_with fail
      refine Mix.wp_region_mix [14] [14] (Step (fun _ => False) w10) (by kernel_rfl) (by kernel_rfl) Step.refl.drew (fun hcls => ?_)
      refine Mix.wpL_reads 14 (by rfl) ?_
      simp only [List.take_succ_cons, List.drop_succ_cons, List.take_zero, List.drop_zero]
      repeat (go_big_quiet_step (fail))
      refine wpQuiet_nil ?_
      refine Mix.wpL_op (by rfl) (fun K hK => ?_)
      go_simp
      refine (HW.out _).mono ?_
      rintro e w11 ⟨rfl, hS11⟩
      refine hK _ _ (fun hlt => Mix.cl (Step.refl.drew.trans hS11)) ?_
      clear hK K
      refine Mix.wpL_reads 4 (by rfl) ?_
      simp only [List.take_succ_cons, List.drop_succ_cons, List.take_zero, List.drop_zero]
      repeat (go_big_quiet_step (fail))
      refine wpQuiet_nil ?_
      refine Mix.wpL_end ?_
      go_wp2_with fail
      go_ret
      exact ⟨rfl, HS10.out.trans (Step.refl.drew.trans hS11)⟩
    · have HP : Hid (∀ w, Calls Try.prog 36 #[insV op a b A n c] w fun e w' => e = .returned (.tuple #[.slice none 0 0, .int .i64 (crtF op a b n : Nat)]) ∧ Step (fun _ => False) w w') := fun w => cput_err w op a b n c A hop hz
      obtain ⟨r, hr⟩ : ∃ r : Int, r = (crtF op a b n : Nat) := ⟨_, rfl⟩
      have hne : ¬ r = 0 := by omega
      have hnb : (r != 0) = true := bne_iff_ne.2 hne
      rw [← hr] at HR HQ HP
      simp only [insV] at HR HQ HP ⊢
      clear hr hz
      go_enter Try.func6, Try.ntmps6
      go_wp2_with fail
      refine (awake08 _).mono ?_
      rintro e w5 ⟨rfl, hS5⟩
      have HB5 := Lib.hid ((Blk.new w 50 #[.int .u8 (op : Int), .int .u64 (a : Int), .int .u64 (b : Int), .slice A n c]).step hS5 id)
      have HS5 := Lib.hid ((Step.refl.alloc _).trans hS5)
      clear hS5
      obtain ⟨X, hX⟩ : ∃ X, X = w.heap.size := ⟨_, rfl⟩
      rw [← hX] at HB5 ⊢
      clear hX
      have x0 := HB5.out.cell 0
      have x1 := HB5.out.cell 1
      have x2 := HB5.out.cell 2
      have x3 := HB5.out.cell 3
      simp at x0 x1 x2 x3
      go_wp2_with fail
      refine (HQ.out _).mono ?_
      rintro e w6 ⟨rfl, hS6⟩
      have HB6 := Lib.hid (HB5.out.step hS6 id)
      have HS6 := Lib.hid (HS5.out.trans hS6)
      clear hS6 HS5 HB5 x0 x1 x2 x3
      have x0 := HB6.out.cell 0
      have x1 := HB6.out.cell 1
      have x2 := HB6.out.cell 2
      have x3 := HB6.out.cell 3
      simp at x0 x1 x2 x3
      go_wp2_with fail
      refine (HP.out _).mono ?_
      rintro e w7 ⟨rfl, hS7⟩
      have HB7 := Lib.hid (HB6.out.step hS7 id)
      have HS7 := Lib.hid (HS6.out.trans hS7)
      clear hS7 HS6 HB6 x0 x1 x2 x3
      have hXl := HB7.out.lt
      go_wp2_with fail
      refine (HG.out _).mono ?_
      rintro e w8 ⟨rfl, hS8⟩
      have HB8 := Lib.hid (HB7.out.step hS8 id)
      have HS8 := Lib.hid (HS7.out.trans hS8)
      clear hS8 HS7 HB7
      have hXl8 := HB8.out.lt
      have x0 := HB8.out.cell 0
      have x1 := HB8.out.cell 1
      have x2 := HB8.out.cell 2
      have x3 := HB8.out.cell 3
      simp at x0 x1 x2 x3
      go_wp2_with fail
      refine (HR.out _).mono ?_
      rintro e w9 ⟨rfl, hS9⟩
      have HY9 := Lib.hid ((Blk.new w8 50 #[.int .u8 35, .int .u64 (g : Int), .int .u64 0, .slice none 0 0]).step hS9 id)
      have HS9 := Lib.hid ((HS8.out.alloc _).trans hS9)
      clear hS9 HS8 HB8 x0 x1 x2 x3
      obtain ⟨Y, hY⟩ : ∃ Y, Y = w8.heap.size := ⟨_, rfl⟩
      rw [← hY] at HY9 ⊢
      clear hY hXl8
      have y0 := HY9.out.cell 0
      have y1 := HY9.out.cell 1
      have y2 := HY9.out.cell 2
      have y3 := HY9.out.cell 3
      simp at y0 y1 y2 y3
      go_wp2_with fail
      refine (HS1.out _).mono ?_
      rintro e w10 ⟨rfl, hS10⟩
      have HS10 := Lib.hid (HS9.out.trans hS10)
      clear hS10 HS9 HY9 y0 y1 y2 y3
      go_wp2_with fail
      go_quiet (fail)
      go_wp2_with fail
      go_ret
      exact ⟨rfl, HS10.out.drewN nq⟩

theorem cputs_done (W : World) (op a b n c g : Nat) (A : Option Addr) (hop : op < 256) (ha : a < 18446744073709551616) (hb : b < 18446744073709551616) (hg : g < 4294967296) :
    Calls Try.prog 6 #[insV op a b A n c, .int .u32 (g : Int)] W fun e W' => e = .returned (.bool true) ∧ Below W.heap.size W W' :=
  (cputs_walk W op a b n c g A hop ha hb hg).mono fun _ _ hh => ⟨hh.1, hh.2.below W.heap.size (fun _ _ hf => hf.elim) (Nat.le_refl _)⟩
end Go.Proofs.Ytfemeendkjcffaa
