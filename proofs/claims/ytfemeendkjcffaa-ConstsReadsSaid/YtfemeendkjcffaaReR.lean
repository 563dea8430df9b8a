/-
  ConstsReads: where it is read.
-/
import Derived.Test.YtfemeendkjcffaaReQ
set_option linter.unusedVariables false
set_option linter.unusedSimpArgs false
namespace Go.Proofs.Ytfemeendkjcffaa
open Go.RowKit

set_option maxRecDepth 100000 in
set_option maxHeartbeats 3200000 in
theorem creads_ok (w : World) (D : Option Addr) (c : Nat) (bs : List UInt8) (S : Nat → Prop) (hlow : ∀ j, S j → j < w.heap.size) (hr : Reads w S 1 D bs.length (u8s bs)) (h : bs.length ≤ 300) (x : Nat × Nat) (k1 : Nat) (hc : creF bs 0 = .ok x k1) :
    Calls Try.prog 8 #[.slice D bs.length c] w fun e w' => e = .returned (.bool true) ∧ Step (fun _ => False) w w' := by
  have hl : ¬ (300 : Int) < (bs.length : Int) := by omega
  have hl' : decide ((300 : Int) < (bs.length : Int)) = false := decide_eq_false hl
  have HR := Lib.hid hr
  have ht := rcget_tel bs 0 0
  rw [hc] at ht
  obtain ⟨op, a⟩ := x
  have HC := Lib.hid hc
  have HT := Lib.hid ht
  clear hr hc ht
  go_enter Try.func8, Try.ntmps8
  go_wp2_with fail
  refine (awake08 _).mono ?_
  rintro e w5 ⟨rfl, hS5⟩
  have HR5 := Lib.hid (HR.out.step hS5 (fun _ _ => id))
  have hn5 := hS5.size
  go_wp2_with fail
  refine (over_walk _ D c bs S HR5.out (by omega)).mono ?_
  rintro e w6 ⟨Y, S', D', c', rfl, hs6, hY, hS', ht6⟩
  have hYl := hs6.lt
  have hlow6 := hs6.low
  have hsz6 : w.heap.size ≤ w6.heap.size := Nat.le_trans hn5 ht6.size
  have HA7 := Lib.hid (((hS5.trans ht6).alloc (.cells #[.slice D bs.length c, .int .i64 0, .int .i64 0, .int .i64 0] 83)).alloc (.cells #[.pointer (some ⟨Y, 0, none⟩)] 79))
  have HZ7 : Hid (Rf ((w6.alloc (.cells #[.slice D bs.length c, .int .i64 0, .int .i64 0, .int .i64 0] 83)).alloc (.cells #[.pointer (some ⟨Y, 0, none⟩)] 79)) w6.heap.size S D c bs ⟨0, 0, 0⟩) :=
    ⟨(Blk.new w6 83 #[.slice D bs.length c, .int .i64 0, .int .i64 0, .int .i64 0]).alloc _, (HR5.out.step ht6 (fun _ _ => id)).step ((Step.refl (F := fun _ => False)).alloc _ |>.alloc _) (fun _ _ => id),
      fun hs => by have := hlow _ hs; omega, Nat.zero_le _, by omega, fun j hj => by have := hlow j hj; simp; omega⟩
  have HY7 := Lib.hid ((hs6.alloc (.cells #[.slice D bs.length c, .int .i64 0, .int .i64 0, .int .i64 0] 83)).alloc (.cells #[.pointer (some ⟨Y, 0, none⟩)] 79))
  have HP7 : Hid (Blk ((w6.alloc (.cells #[.slice D bs.length c, .int .i64 0, .int .i64 0, .int .i64 0] 83)).alloc (.cells #[.pointer (some ⟨Y, 0, none⟩)] 79)) (w6.heap.size + 1) 79 #[.pointer (some ⟨Y, 0, none⟩)]) := by
    have h9 := Blk.new (w6.alloc (.cells #[.slice D bs.length c, .int .i64 0, .int .i64 0, .int .i64 0] 83)) 79 #[.pointer (some ⟨Y, 0, none⟩)]
    rw [show (w6.alloc (.cells #[.slice D bs.length c, .int .i64 0, .int .i64 0, .int .i64 0] 83)).heap.size = w6.heap.size + 1 by simp] at h9
    exact h9
  go_wp2_with fail
  obtain ⟨W7, hW7⟩ : ∃ W7, W7 = (w6.alloc (.cells #[.slice D bs.length c, .int .i64 0, .int .i64 0, .int .i64 0] 83)).alloc (.cells #[.pointer (some ⟨Y, 0, none⟩)] 79) := ⟨_, rfl⟩
  obtain ⟨Z, hZ⟩ : ∃ Z, Z = w6.heap.size := ⟨_, rfl⟩
  rw [← hW7] at HZ7 HY7 HP7 HA7 ⊢
  rw [← hZ] at hsz6 HZ7 HP7 hYl hlow6 ⊢
  have hZ7 := HZ7.out.lt
  have hYZ : Y ≠ Z := by omega
  clear hW7 hZ hs6
  refine (value_ok 49 #[.pointer (some ⟨Z + 1, 0, none⟩)] W7 (fun i => i = Y) (fun _ _ _ w' => Scn w' Y S' D' c' bs k1) (op : Int) (a : Int) 0 0 (fun _ => rfl) (fun k hk => hk ▸ HY7.out.lt) (fun w' h' => by
    have h9 := crclo_any w' Y (Z + 1) S' D' c' bs 0 (HY7.out.quiet h') (HP7.out.step h' id)
    rw [HC.out] at h9
    exact h9.mono fun e w'' ⟨D1, c1, h1, h2, h3⟩ => ⟨D1, c1, h1, h3, h2⟩)).mono ?_
  rintro e w8 ⟨DI, cI, rfl, wa, wb, s1, s2, hsY, s3⟩
  have hlY := HY7.out.low
  have hXY := HY7.out.lt
  have HY8 := Lib.hid (hsY.step s3 (fun hk => by omega) (fun j hj hk => by have := hlY j hj; omega))
  have hwa := s1.size
  have hA7s := HA7.out.size
  have HA8 := Lib.hid (((HA7.out.trans s1).trans' s2 (fun i hi => .inr (by omega))).trans' s3 (fun i hi => .inr (by omega)))
  have hlowZ := HZ7.out.low
  have HZ8 := Lib.hid (((HZ7.out.quiet s1).step s2 (Ne.symm hYZ) (fun j hj e => by have := hlow j hj; have := hY; omega)).step s3 (fun hk => by omega) (fun j hj hk => by have := hlowZ j hj; omega))
  have HP8 := Lib.hid (((HP7.out.step s1 id).step s2 (show Z + 1 ≠ Y by omega)).step s3 (fun hk => by have := HP7.out.lt; omega))
  clear s1 s2 s3
  simp only [insC]
  go_wp2_with fail
  have hZ8 := HZ8.out.lt
  have HI8 := Lib.hid ((Blk.new w8 50 (insC (op : Int) (a : Int) 0 DI 0 cI)).alloc (.cells #[.int .i64 0, .int .i64 0] 85))
  have HT8 : Hid (Blk ((w8.alloc (.cells (insC (op : Int) (a : Int) 0 DI 0 cI) 50)).alloc (.cells #[.int .i64 0, .int .i64 0] 85)) (w8.heap.size + 1) 85 #[.int .i64 0, .int .i64 0]) := by
    have h9 := Blk.new (w8.alloc (.cells (insC (op : Int) (a : Int) 0 DI 0 cI) 50)) 85 #[.int .i64 0, .int .i64 0]
    rw [show (w8.alloc (.cells (insC (op : Int) (a : Int) 0 DI 0 cI) 50)).heap.size = w8.heap.size + 1 by simp] at h9
    exact h9
  refine (rcget_walk _ Z S D c bs _ ((HZ8.out.alloc _).alloc _)).mono ?_
  intro e w9 hp
  rw [HT.out] at hp
  obtain ⟨DG, cG, rfl, hs9, ht9⟩ := hp
  simp only at hs9 ⊢
  have hYl8 := HY8.out.lt
  have HY9 := Lib.hid (((HY8.out.alloc _).alloc _).step ht9 hYZ (fun j hj e => by have := hlow6 j hj; omega))
  obtain ⟨I, hI⟩ : ∃ I, I = w8.heap.size := ⟨_, rfl⟩
  rw [← hI] at HI8 HT8 hZ8 ⊢
  have HP9 := Lib.hid (((HP8.out.alloc _).alloc _).step ht9 (show Z + 1 ≠ Z by omega))
  have HA9 := Lib.hid (((HA8.out.alloc _).alloc _).trans' ht9 (fun i hi => .inr (by omega)))
  have HI9 := Lib.hid (HI8.out.step ht9 (by omega))
  have HT9 := Lib.hid (HT8.out.step ht9 (by omega))
  have HZ9 := Lib.hid hs9
  clear hs9 ht9 HI8 HT8 hI HZ8
  have x2 := HZ9.out.c2
  have x3 := HZ9.out.c3
  simp only at x2 x3
  have zl := HZ9.out.lt
  have il := HI9.out.lt
  have tl := HT9.out.lt
  have y0 := HI9.out.cell 0
  have y1 := HI9.out.cell 1
  have y2 := HI9.out.cell 2
  have y3 := HI9.out.cell 3
  have z0 := HT9.out.cell 0
  have z1 := HT9.out.cell 1
  simp [insC] at y0 y1 y2 y3 z0 z1
  simp only [insC]
  go_wp2_with fail
  generalize hW : World.alloc w9 _ = W
  have HA10 : Hid (Step (fun _ => False) w W) := by rw [← hW]; exact Lib.hid (HA9.out.alloc _)
  have HI10 : Hid (Blk W I 50 (insC (op : Int) (a : Int) 0 DI 0 cI)) := by rw [← hW]; exact HI9.out.alloc _
  have HT10 : Hid (Blk W (I + 1) 85 #[.int .i64 0, .int .i64 0]) := by rw [← hW]; exact HT9.out.alloc _
  have HZ10 : Hid (Rf W Z S D c bs ⟨k1, 0, 0⟩) := by rw [← hW]; exact HZ9.out.alloc _
  have HP10 : Hid (Blk W (Z + 1) 79 #[.pointer (some ⟨Y, 0, none⟩)]) := by rw [← hW]; exact HP9.out.alloc _
  have HY10 : Hid (Scn W Y S' D' c' bs k1) := by rw [← hW]; exact HY9.out.alloc _
  have HG10 : Hid (Blk W w9.heap.size 50 (insC (op : Int) (a : Int) 0 DG 0 cG)) := by rw [← hW]; exact Blk.new w9 _ _
  clear hW y0 y1 y2 y3 z0 z1 x2 x3 HI9 HT9 HZ9
  have x2 := HZ10.out.c2
  have x3 := HZ10.out.c3
  simp only at x2 x3
  have y0 := HI10.out.cell 0
  have y1 := HI10.out.cell 1
  have y2 := HI10.out.cell 2
  have y3 := HI10.out.cell 3
  have z0 := HT10.out.cell 0
  have z1 := HT10.out.cell 1
  simp [insC] at y0 y1 y2 y3 z0 z1
  have d0 := cls_cell (F := fun _ => False) (w0 := W) y0 id
  have d1 := cls_cell (F := fun _ => False) (w0 := W) y1 id
  have d2 := cls_cell (F := fun _ => False) (w0 := W) y2 id
  have d3 := cls_cell (F := fun _ => False) (w0 := W) y3 id
  have d4 := cls_cell (F := fun _ => False) (w0 := W) z0 id
  have d5 := cls_cell (F := fun _ => False) (w0 := W) z1 id
  have d6 := cls_cell (F := fun _ => False) (w0 := W) x2 id
  have d7 := cls_cell (F := fun _ => False) (w0 := W) x3 id
  clear y0 y1 y2 y3 z0 z1 x2 x3
  have e0 := HP10.out.cell 0
  have g0 := HG10.out.cell 0
  have g1 := HG10.out.cell 1
  have g2 := HG10.out.cell 2
  have g3 := HG10.out.cell 3
  have x1 := HZ10.out.c1
  simp [insC] at e0 g0 g1 g2 g3
  simp only at x1
  have f0 := cls_cell (F := fun _ => False) (w0 := W) e0 id
  have f1 := cls_cell (F := fun _ => False) (w0 := W) g0 id
  have f2 := cls_cell (F := fun _ => False) (w0 := W) g1 id
  have f3 := cls_cell (F := fun _ => False) (w0 := W) g2 id
  have f4 := cls_cell (F := fun _ => False) (w0 := W) g3 id
  have f5 := cls_cell (F := fun _ => False) (w0 := W) x1 id
  clear e0 g0 g1 g2 g3 x1
  refine Mix.wp_region_mix [6, 10] [6, 10] (Step (fun _ => False) W) (by kernel_rfl) (by kernel_rfl) Step.refl.drew (fun hcls => ?_)
  refine Mix.wpL_reads 6 (by rfl) ?_
  simp only [List.take_succ_cons, List.drop_succ_cons, List.take_zero, List.drop_zero]
  repeat (go_big_quiet_step (fail))
  refine wpQuiet_nil ?_
  refine Mix.wpL_op (by rfl) (fun K hK => ?_)
  go_simp
  refine (rsame_walk _ op a 0 cI op a 0 cG DI DG [] [] (fun _ => False) (fun _ => False) Reads.nil_ Reads.nil_ (by decide)).mono ?_
  rintro e wd ⟨rfl, hSd⟩
  rw [same_yes]
  have HSd := Lib.hid (Step.refl.drew.trans hSd)
  refine hK _ _ (fun hlt => Mix.cl HSd.out) ?_
  clear hK K hSd
  refine Mix.wpL_reads 3 (by rfl) ?_
  simp only [List.take_succ_cons, List.drop_succ_cons, List.take_zero, List.drop_zero]
  repeat (go_big_quiet_step (fail))
  refine wpQuiet_nil ?_
  refine Mix.wpL_op (by rfl) (fun K hK => ?_)
  go_simp
  refine (at_walk _ Y S' D' c' bs k1 (HY10.out.quiet HSd.out)).mono ?_
  rintro e we ⟨rfl, hwe⟩
  subst we
  refine hK _ _ (fun hlt => Mix.cl HSd.out) ?_
  clear hK K
  refine Mix.wpL_reads 7 (by rfl) ?_
  simp only [List.take_succ_cons, List.drop_succ_cons, List.take_zero, List.drop_zero]
  repeat (go_big_quiet_step (fail))
  refine wpQuiet_nil ?_
  refine Mix.wpL_end ?_
  go_wp2_with fail
  go_ret
  exact ⟨rfl, HA10.out.trans HSd.out⟩
end Go.Proofs.Ytfemeendkjcffaa
