/-
  ConstsReads: the law's walk.
-/
import Derived.Test.YtfemeendkjcffaaReO
import Derived.Test.YtfemeendkjcffaaReP
import Derived.Test.YtfemeendkjcffaaSaA
import Derived.Test.YtfemeendkjcffaaPuE
import Derived.Test.YtfemeendkjcffaaPa
set_option linter.unusedVariables false
set_option linter.unusedSimpArgs false
namespace Go.Proofs.Ytfemeendkjcffaa
open Go.RowKit

set_option maxRecDepth 100000 in
set_option maxHeartbeats 1600000 in
theorem creads_big (w : World) (D : Option Addr) (c n : Nat) (h : (300 : Int) < (n : Int)) :
    Calls Try.prog 8 #[.slice D n c] w fun e w' => e = .returned (.bool true) ∧ Step (fun _ => False) w w' := by
  have h' : decide ((300 : Int) < (n : Int)) = true := decide_eq_true h
  go_enter Try.func8, Try.ntmps8
  go_wp2_with fail
  refine (awake08 _).mono ?_
  rintro e w5 ⟨rfl, hS5⟩
  go_wp2_with fail
  go_ret
  exact ⟨rfl, hS5⟩

set_option maxRecDepth 100000 in
set_option maxHeartbeats 3200000 in
theorem creads_er (w : World) (D : Option Addr) (c : Nat) (bs : List UInt8) (S : Nat → Prop) (hlow : ∀ j, S j → j < w.heap.size) (hr : Reads w S 1 D bs.length (u8s bs)) (h : bs.length ≤ 300) (y b : Nat) (hc : creF bs 0 = .er y b) :
    Calls Try.prog 8 #[.slice D bs.length c] w fun e w' => e = .returned (.bool true) ∧ Step (fun _ => False) w w' := by
  have hl : ¬ (300 : Int) < (bs.length : Int) := by omega
  have hl' : decide ((300 : Int) < (bs.length : Int)) = false := decide_eq_false hl
  have HR := Lib.hid hr
  have ht := rcget_tel bs 0 0
  rw [hc] at ht
  obtain ⟨hy, ht1, ht2, ht3⟩ := ht
  have hyb : ((y : Int) == 0) = false := by simp; omega
  have HY := Lib.hid hy
  have HC := Lib.hid hc
  have HT1 := Lib.hid ht1
  have HT2 := Lib.hid ht2
  have HT3 := Lib.hid ht3
  clear hr hy hc ht1 ht2 ht3
  go_enter Try.func8, Try.ntmps8
  go_wp2_with fail
  refine (awake08 _).mono ?_
  rintro e w5 ⟨rfl, hS5⟩
  have HR5 := Lib.hid (HR.out.step hS5 (fun _ _ => id))
  have hn5 := hS5.size
  go_wp2_with fail
  refine (over_walk _ D c bs S HR5.out (by omega)).mono ?_
  rintro e w6 ⟨Y, S', D', c', rfl, hs6, hY, hS', ht6⟩
  have hYl := hs6.lt
  have hsz6 : w.heap.size ≤ w6.heap.size := Nat.le_trans hn5 ht6.size
  have HA7 := Lib.hid (((hS5.trans ht6).alloc (.cells #[.slice D bs.length c, .int .i64 0, .int .i64 0, .int .i64 0] 83)).alloc (.cells #[.pointer (some ⟨Y, 0, none⟩)] 79))
  have HZ7 : Hid (Rf ((w6.alloc (.cells #[.slice D bs.length c, .int .i64 0, .int .i64 0, .int .i64 0] 83)).alloc (.cells #[.pointer (some ⟨Y, 0, none⟩)] 79)) w6.heap.size S D c bs ⟨0, 0, 0⟩) :=
    ⟨(Blk.new w6 83 #[.slice D bs.length c, .int .i64 0, .int .i64 0, .int .i64 0]).alloc _, (HR5.out.step ht6 (fun _ _ => id)).step ((Step.refl (F := fun _ => False)).alloc _ |>.alloc _) (fun _ _ => id),
      fun hs => by have := hlow _ hs; omega, Nat.zero_le _, by omega, fun j hj => by have := hlow j hj; simp; omega⟩
  have HY7 := Lib.hid ((hs6.alloc (.cells #[.slice D bs.length c, .int .i64 0, .int .i64 0, .int .i64 0] 83)).alloc (.cells #[.pointer (some ⟨Y, 0, none⟩)] 79))
  have HP7 : Hid (Blk ((w6.alloc (.cells #[.slice D bs.length c, .int .i64 0, .int .i64 0, .int .i64 0] 83)).alloc (.cells #[.pointer (some ⟨Y, 0, none⟩)] 79)) (w6.heap.size + 1) 79 #[.pointer (some ⟨Y, 0, none⟩)]) := by
    have h9 := Blk.new (w6.alloc (.cells #[.slice D bs.length c, .int .i64 0, .int .i64 0, .int .i64 0] 83)) 79 #[.pointer (some ⟨Y, 0, none⟩)]
    rw [show (w6.alloc (.cells #[.slice D bs.length c, .int .i64 0, .int .i64 0, .int .i64 0] 83)).heap.size = w6.heap.size + 1 by simp] at h9
    exact h9
  go_wp2_with fail
  obtain ⟨W7, hW7⟩ : ∃ W7, W7 = (w6.alloc (.cells #[.slice D bs.length c, .int .i64 0, .int .i64 0, .int .i64 0] 83)).alloc (.cells #[.pointer (some ⟨Y, 0, none⟩)] 79) := ⟨_, rfl⟩
  obtain ⟨Z, hZ⟩ : ∃ Z, Z = w6.heap.size := ⟨_, rfl⟩
  rw [← hW7] at HZ7 HY7 HP7 HA7 ⊢
  rw [← hZ] at hsz6 HZ7 HP7 hYl ⊢
  have hZ7 := HZ7.out.lt
  have hYZ : Y ≠ Z := by omega
  clear hW7 hZ hs6
  refine (xvalue_err 49 #[.pointer (some ⟨Z + 1, 0, none⟩)] W7 (fun i => i = Y) (fun _ _ => True) (y : Int) (b : Int) (fun _ => rfl) hyb (fun k hk => hk ▸ HY7.out.lt) (fun w' h' => by
    have h9 := crclo_any w' Y (Z + 1) S' D' c' bs 0 (HY7.out.quiet h') (HP7.out.step h' id)
    rw [HC.out] at h9
    exact h9.mono fun e w'' ⟨h1, h2⟩ => ⟨h1, h2, trivial⟩)).mono ?_
  rintro e w8 ⟨rfl, wa, wb, s1, s2, _, s3⟩
  have hwa := s1.size
  have hA7s := HA7.out.size
  have HA8 := Lib.hid (((HA7.out.trans s1).trans' s2 (fun i hi => .inr (by omega))).trans' s3 (fun i hi => .inr (by omega)))
  have hlowZ := HZ7.out.low
  have HZ8 := Lib.hid (((HZ7.out.quiet s1).step s2 (Ne.symm hYZ) (fun j hj e => by have := hlow j hj; have := hY; omega)).step s3 (fun hk => by omega) (fun j hj hk => by have := hlowZ j hj; omega))
  clear s1 s2 s3
  simp only [insC]
  go_wp2_with fail
  have hZ8 := HZ8.out.lt
  have HI8 := Lib.hid ((Blk.new w8 50 (insC 0 0 0 none 0 0)).alloc (.cells #[.int .i64 (y : Int), .int .i64 (b : Int)] 85))
  have HT8 : Hid (Blk ((w8.alloc (.cells (insC 0 0 0 none 0 0) 50)).alloc (.cells #[.int .i64 (y : Int), .int .i64 (b : Int)] 85)) (w8.heap.size + 1) 85 #[.int .i64 (y : Int), .int .i64 (b : Int)]) := by
    have h9 := Blk.new (w8.alloc (.cells (insC 0 0 0 none 0 0) 50)) 85 #[.int .i64 (y : Int), .int .i64 (b : Int)]
    rw [show (w8.alloc (.cells (insC 0 0 0 none 0 0) 50)).heap.size = w8.heap.size + 1 by simp] at h9
    exact h9
  refine (rcget_walk _ Z S D c bs _ ((HZ8.out.alloc _).alloc _)).mono ?_
  rintro e w9 ⟨DG, cG, rfl, hs9, ht9⟩
  obtain ⟨I, hI⟩ : ∃ I, I = w8.heap.size := ⟨_, rfl⟩
  rw [← hI] at HI8 HT8 hZ8 ⊢
  have HA9 := Lib.hid (((HA8.out.alloc _).alloc _).trans' ht9 (fun i hi => .inr (by omega)))
  have HI9 := Lib.hid (HI8.out.step ht9 (by omega))
  have HT9 := Lib.hid (HT8.out.step ht9 (by omega))
  have HZ9 := Lib.hid hs9
  clear hs9 ht9 HI8 HT8 hI HZ8
  have x2 := HZ9.out.c2
  have x3 := HZ9.out.c3
  rw [HT2.out] at x2
  rw [HT3.out] at x3
  have zl := HZ9.out.lt
  have il := HI9.out.lt
  have tl := HT9.out.lt
  have y0 := HI9.out.cell 0
  have y1 := HI9.out.cell 1
  have y2 := HI9.out.cell 2
  have y3 := HI9.out.cell 3
  have z0 := HT9.out.cell 0
  have z1 := HT9.out.cell 1
  simp [insC] at y0 y1 y2 y3 z0 z1
  simp only [insC]
  go_wp2_with fail
  generalize hW : World.alloc w9 _ = W
  have HA10 : Hid (Step (fun _ => False) w W) := by rw [← hW]; exact Lib.hid (HA9.out.alloc _)
  have HI10 : Hid (Blk W I 50 (insC 0 0 0 none 0 0)) := by rw [← hW]; exact HI9.out.alloc _
  have HT10 : Hid (Blk W (I + 1) 85 #[.int .i64 (y : Int), .int .i64 (b : Int)]) := by rw [← hW]; exact HT9.out.alloc _
  have HZ10 : Hid (Rf W Z S D c bs (rcgF bs ⟨0, 0, 0⟩).2) := by rw [← hW]; exact HZ9.out.alloc _
  clear hW y0 y1 y2 y3 z0 z1 x2 x3 HI9 HT9 HZ9
  have x2 := HZ10.out.c2
  have x3 := HZ10.out.c3
  rw [HT2.out] at x2
  rw [HT3.out] at x3
  have y0 := HI10.out.cell 0
  have y1 := HI10.out.cell 1
  have y2 := HI10.out.cell 2
  have y3 := HI10.out.cell 3
  have z0 := HT10.out.cell 0
  have z1 := HT10.out.cell 1
  simp [insC] at y0 y1 y2 y3 z0 z1
  have d0 := cls_cell (F := fun _ => False) (w0 := W) y0 id
  have d1 := cls_cell (F := fun _ => False) (w0 := W) y1 id
  have d2 := cls_cell (F := fun _ => False) (w0 := W) y2 id
  have d3 := cls_cell (F := fun _ => False) (w0 := W) y3 id
  have d4 := cls_cell (F := fun _ => False) (w0 := W) z0 id
  have d5 := cls_cell (F := fun _ => False) (w0 := W) z1 id
  have d6 := cls_cell (F := fun _ => False) (w0 := W) x2 id
  have d7 := cls_cell (F := fun _ => False) (w0 := W) x3 id
  clear y0 y1 y2 y3 z0 z1 x2 x3
  refine Mix.wp_region_mix [19] [19] (Step (fun _ => False) W) (by kernel_rfl) (by kernel_rfl) Step.refl.drew (fun hcls => ?_)
  refine Mix.wpL_reads 19 (by rfl) ?_
  simp only [List.take_succ_cons, List.drop_succ_cons, List.take_zero, List.drop_zero]
  repeat (go_big_quiet_step (fail))
  refine wpQuiet_nil ?_
  refine Mix.wpL_op (by rfl) (fun K hK => ?_)
  go_simp
  refine (same_nil _ 0 0 0).mono ?_
  rintro e wd ⟨rfl, hSd⟩
  have HSd := Lib.hid (Step.refl.drew.trans hSd)
  refine hK _ _ (fun hlt => Mix.cl HSd.out) ?_
  clear hK K hSd
  refine Mix.wpL_reads 2 (by rfl) ?_
  simp only [List.take_succ_cons, List.drop_succ_cons, List.take_zero, List.drop_zero]
  repeat (go_big_quiet_step (fail))
  refine wpQuiet_nil ?_
  refine Mix.wpL_end ?_
  go_wp2_with fail
  go_ret
  exact ⟨rfl, HA10.out.trans HSd.out⟩
end Go.Proofs.Ytfemeendkjcffaa
