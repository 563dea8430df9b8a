/-
  abort.Value of a list of globals, of data, of elements, where it is given up (printed by gen_vsle.py).
-/
import Derived.Test.YtfemeendkjcffaaAb
set_option linter.unusedVariables false
set_option linter.unusedSimpArgs false
namespace Go.Proofs.Ytfemeendkjcffaa
open Go.RowKit

section
variable (h : FuncId) (caps : Array Value) (w : World) (F : Nat → Prop) (Q : World → World → Prop) (y a : Int) (hcf : ∀ w : World, (callFunc h caps).run Try.prog w = .ok (.enter h caps) w)
include hcf

set_option maxRecDepth 100000 in
set_option maxHeartbeats 1600000 in
theorem glclo_err (fb vb : Nat) (H : Calls Try.prog h caps w fun e w' => e = .panicked (stopP y a) ∧ Step F w w' ∧ Q w w') (hf : Blk w fb 130 #[.func (.func h) #[] caps]) (hv : Blk w vb 126 #[.slice none 0 0]) (hFv : ¬ F vb) :
    Calls Try.prog 167 #[.pointer (some ⟨fb, 0, none⟩), .pointer (some ⟨vb, 0, none⟩)] w fun e w' => e = .panicked (stopP y a) ∧ ∃ w1, Step F w w1 ∧ Q w w1 ∧ Step (fun k => k = vb) w1 w' := by
  have c0 := hf.cell 0
  simp at c0
  have HH := Lib.hid H
  have HV := Lib.hid hv
  clear H hf hv
  go_enter Try.func167, Try.ntmps167
  go_wp2_with fail
  refine HH.out.mono ?_
  rintro e w1 ⟨rfl, hs, hq⟩
  exact ⟨rfl, rfl, w1, hs, hq, Step.refl⟩

set_option maxRecDepth 100000 in
set_option maxHeartbeats 3200000 in
theorem glvalue_err (hy : (y == 0) = false) (hF : ∀ k, F k → k < w.heap.size) (H : ∀ w', Step (fun _ => False) w w' → Calls Try.prog h caps w' fun e w'' => e = .panicked (stopP y a) ∧ Step F w' w'' ∧ Q w' w'') :
    Calls Try.prog 80 #[.func (.func h) #[] caps] w fun e w' => e = .returned (.tuple #[.slice none 0 0, .agg #[.int .i64 y, .int .i64 a]]) ∧
      ∃ wa wb, Step (fun _ => False) w wa ∧ Step F wa wb ∧ Q wa wb ∧ Step (fun k => w.heap.size ≤ k ∧ k < wa.heap.size) wb w' := by
  have hmf : ∀ (fn : Fn) (first cap : Array Value) (w : World), (Instr.makeFunc fn first cap).run Try.prog w = .ok (.func fn first cap) w := fun _ _ _ _ => rfl
  have hyb : (y != 0) = true := by simp [bne, hy]
  have HH := Lib.hid H
  clear H
  obtain ⟨v1, hv1⟩ : ∃ v1, v1 = w.alloc (.cells #[.func (.func h) #[] caps] 130) := ⟨_, rfl⟩
  obtain ⟨v2, hv2⟩ : ∃ v2, v2 = v1.alloc (.cells #[.int .i64 0, .int .i64 0] 85) := ⟨_, rfl⟩
  obtain ⟨v3, hv3⟩ : ∃ v3, v3 = v2.alloc (.cells #[.slice none 0 0] 126) := ⟨_, rfl⟩
  obtain ⟨v4, hv4⟩ : ∃ v4, v4 = v3.alloc (.cells #[.int .i64 0, .int .i64 0] 85) := ⟨_, rfl⟩
  have s1 : v1.heap.size = w.heap.size + 1 := by rw [hv1]; simp
  have s2 : v2.heap.size = w.heap.size + 2 := by rw [hv2]; simp [s1]
  have s3 : v3.heap.size = w.heap.size + 3 := by rw [hv3]; simp [s2]
  have s4 : v4.heap.size = w.heap.size + 4 := by rw [hv4]; simp [s3]
  have t4 : Step (fun _ => False) w v4 := by
    rw [hv4, hv3, hv2, hv1]
    exact (((Step.refl.alloc _).alloc _).alloc _).alloc _
  have b1 : Blk v3 w.heap.size 130 #[.func (.func h) #[] caps] := by
    rw [hv3, hv2, hv1]
    exact ((Blk.new w _ _).alloc _).alloc _
  have b2 : Blk v3 (w.heap.size + 1) 85 #[.int .i64 0, .int .i64 0] := by
    have := (Blk.new v1 85 #[.int .i64 0, .int .i64 0]).alloc (.cells #[.slice none 0 0] 126)
    rw [← hv2, ← hv3, s1] at this
    exact this
  have b3 : Blk v3 (w.heap.size + 2) 126 #[.slice none 0 0] := by
    have := Blk.new v2 126 #[.slice none 0 0]
    rw [← hv3, s2] at this
    exact this
  have HO := Lib.hid (out_err 167 #[.pointer (some ⟨w.heap.size, 0, none⟩), .pointer (some ⟨w.heap.size + 2, 0, none⟩)] v3 (fun k => F k ∨ k = w.heap.size + 2)
    (fun wz => ∃ w1, Step F v4 w1 ∧ Q v4 w1 ∧ Step (fun k => k = w.heap.size + 2) w1 wz) y a
    (by rw [s3]; intro hk; rcases hk with hk | hk; · have := hF _ hk; omega
        · omega) (fun _ => rfl)
    (by
      rw [← hv4]
      refine (glclo_err h caps v4 F Q y a hcf w.heap.size (w.heap.size + 2) (HH.out _ t4) (by rw [hv4]; exact b1.alloc _) (by rw [hv4]; exact b3.alloc _) (fun hk => by have := hF _ hk; omega)).mono ?_
      rintro e wz ⟨rfl, w1, h1, h2, h4⟩
      exact ⟨rfl, (h1.mono fun _ _ hk => .inl hk).trans (h4.mono fun _ _ hk => .inr hk), w1, h1, h2, h4⟩))
  rw [← hv4, s3] at HO
  have HB2 := Lib.hid b2
  have HE : Hid (v3 = ((w.alloc (.cells #[.func (.func h) #[] caps] 130)).alloc (.cells #[.int .i64 0, .int .i64 0] 85)).alloc (.cells #[.slice none 0 0] 126)) := by rw [Hid, hv3, hv2, hv1]
  have HT5 := Lib.hid t4
  have HF := Lib.hid hF
  have HS5 := Lib.hid s4
  have HV5 := Lib.hid hv4
  clear b1 b2 b3 t4 s1 s2 s3 s4 hv1 hv2 hv3 hv4 HH hF
  go_enter Try.func80, Try.ntmps80
  go_wp2_with fail
  have HO2 := HO.out
  rw [HE.out] at HO2
  refine HO2.mono ?_
  rintro e w6 ⟨rfl, w1, h1, ⟨wb, g1, g2, g4⟩, h5⟩
  clear HO2 HO
  have HQ := Lib.hid g2
  have HT1 := Lib.hid g1
  have HT2 : Hid (Step (fun k => k = w.heap.size + 2 ∨ k = w.heap.size + 3) wb w6) := (g4.mono fun _ _ hk => .inl hk).trans (h5.mono fun _ _ hk => .inr hk)
  have hns : v4.heap.size ≤ w6.heap.size := Nat.le_trans h1.size h5.size
  have n5 := HS5.out
  have HP6 : Hid (Blk (w6.alloc (.cells #[.int .i64 y, .int .i64 a] 85)) (w.heap.size + 1) 85 #[.int .i64 0, .int .i64 0]) := by
    have h6 := HB2.out.alloc (.cells #[.int .i64 0, .int .i64 0] 85)
    rw [← HV5.out] at h6
    exact ((h6.step h1 (fun hk => by rcases hk with hk | hk; · have := HF.out _ hk; omega
                                     · omega)).step h5 (by omega)).alloc _
  have HN6 := Lib.hid (Blk.new w6 85 #[.int .i64 y, .int .i64 a])
  have HT6 := Lib.hid (HT2.out.alloc (.cells #[.int .i64 y, .int .i64 a] 85))
  obtain ⟨W, hW⟩ : ∃ W, W = w6.alloc (.cells #[.int .i64 y, .int .i64 a] 85) := ⟨_, rfl⟩
  obtain ⟨sN, hsN⟩ : ∃ sN, sN = w6.heap.size := ⟨_, rfl⟩
  rw [← hW] at HP6 HN6 HT6
  rw [← hsN] at HN6
  have y0 := HN6.out.cell 0
  simp at y0
  rw [hW] at y0
  rw [hsN] at y0
  clear h1 h5 g1 g2 g4 HB2 HE HT2
  go_wp2_with fail
  rw [← hW, ← hsN]
  have hs6 : w.heap.size + 4 ≤ sN := by omega
  clear y0 hW hsN hns n5
  have y0 := HN6.out.cell 0
  have y1 := HN6.out.cell 1
  simp at y0 y1
  obtain ⟨F2, hF2⟩ : ∃ F2 : Nat → Prop, F2 = fun q => q = w.heap.size + 1 := ⟨_, rfl⟩
  have hFs : ¬ F2 sN := by rw [hF2]; omega
  have HF2 := Lib.hid hF2
  clear hF2
  have e4 := cls_cell (F := F2) (w0 := W) y0 hFs
  have e5 := cls_cell (F := F2) (w0 := W) y1 hFs
  clear y0 y1
  refine Mix.wp_region_mix [3] [3] (Step F2 W) (by kernel_rfl) (by kernel_rfl) Step.refl.drew (fun hcls => ?_)
  refine Mix.wpL_reads 3 (by rfl) ?_
  simp only [List.take_succ_cons, List.drop_succ_cons, List.take_zero, List.drop_zero]
  repeat (go_big_quiet_step (fail))
  refine wpQuiet_nil ?_
  have z0 := HP6.out.frozen 0
  have z1 := HP6.out.frozen 1
  have r0 := HP6.out.cell 0
  have r1 := HP6.out.cell 1
  simp at r0 r1
  refine Mix.wpL_op (by rfl) (fun K hK => ?_)
  go_simp
  obtain ⟨W8, hW8⟩ : ∃ W8, W8 = (W.setCell ⟨w.heap.size + 1, 0, none⟩ (.int .i64 y)).setCell ⟨w.heap.size + 1, 1, none⟩ (.int .i64 a) := ⟨_, rfl⟩
  have HP8 : Hid (Blk W8 (w.heap.size + 1) 85 #[.int .i64 y, .int .i64 a]) := by
    have hq := (HP6.out.set_ 0 (.int .i64 y)).set_ 1 (.int .i64 a)
    rw [← hW8] at hq
    simp at hq
    exact hq
  have HT8 : Hid (Step (fun q => q = w.heap.size + 1) W W8) := by
    rw [hW8]
    exact ((Step.refl (F := fun q => q = w.heap.size + 1)).setCell (p := ⟨w.heap.size + 1, 0, none⟩) (.inl rfl) _).setCell (p := ⟨w.heap.size + 1, 1, none⟩) (.inl rfl) _
  rw [← hW8]
  refine hK _ _ (fun hlt => Mix.cl (by rw [HF2.out]; exact HT8.out.drew)) ?_
  clear hK K z0 z1 r0 r1 hW8
  refine Mix.wpL_end ?_
  go_wp2_with fail
  have p4 := HP8.out.cell 0
  have p5 := HP8.out.cell 1
  simp at p4 p5
  refine bodyPost_ret (v := .tuple #[.slice none 0 0, .agg #[.int .i64 y, .int .i64 a]]) (by simp [results, Try.results80, go_sem, p4, p5]) rfl ?_
  refine ⟨rfl, v4, wb, HT5.out, HT1.out, HQ.out, ?_⟩
  have n5 := HS5.out
  refine ((HT6.out.mono fun k _ hk => ?_).trans ((HT8.out.mono fun k _ hk => ?_))).drew
  · exact ⟨by rcases hk with rfl | rfl <;> omega, by rcases hk with rfl | rfl <;> omega⟩
  · exact ⟨by omega, by omega⟩
end

section
variable (h : FuncId) (caps : Array Value) (w : World) (F : Nat → Prop) (Q : World → World → Prop) (y a : Int) (hcf : ∀ w : World, (callFunc h caps).run Try.prog w = .ok (.enter h caps) w)
include hcf

set_option maxRecDepth 100000 in
set_option maxHeartbeats 1600000 in
theorem dlclo_err (fb vb : Nat) (H : Calls Try.prog h caps w fun e w' => e = .panicked (stopP y a) ∧ Step F w w' ∧ Q w w') (hf : Blk w fb 171 #[.func (.func h) #[] caps]) (hv : Blk w vb 167 #[.slice none 0 0]) (hFv : ¬ F vb) :
    Calls Try.prog 180 #[.pointer (some ⟨fb, 0, none⟩), .pointer (some ⟨vb, 0, none⟩)] w fun e w' => e = .panicked (stopP y a) ∧ ∃ w1, Step F w w1 ∧ Q w w1 ∧ Step (fun k => k = vb) w1 w' := by
  have c0 := hf.cell 0
  simp at c0
  have HH := Lib.hid H
  have HV := Lib.hid hv
  clear H hf hv
  go_enter Try.func180, Try.ntmps180
  go_wp2_with fail
  refine HH.out.mono ?_
  rintro e w1 ⟨rfl, hs, hq⟩
  exact ⟨rfl, rfl, w1, hs, hq, Step.refl⟩

set_option maxRecDepth 100000 in
set_option maxHeartbeats 3200000 in
theorem dlvalue_err (hy : (y == 0) = false) (hF : ∀ k, F k → k < w.heap.size) (H : ∀ w', Step (fun _ => False) w w' → Calls Try.prog h caps w' fun e w'' => e = .panicked (stopP y a) ∧ Step F w' w'' ∧ Q w' w'') :
    Calls Try.prog 112 #[.func (.func h) #[] caps] w fun e w' => e = .returned (.tuple #[.slice none 0 0, .agg #[.int .i64 y, .int .i64 a]]) ∧
      ∃ wa wb, Step (fun _ => False) w wa ∧ Step F wa wb ∧ Q wa wb ∧ Step (fun k => w.heap.size ≤ k ∧ k < wa.heap.size) wb w' := by
  have hmf : ∀ (fn : Fn) (first cap : Array Value) (w : World), (Instr.makeFunc fn first cap).run Try.prog w = .ok (.func fn first cap) w := fun _ _ _ _ => rfl
  have hyb : (y != 0) = true := by simp [bne, hy]
  have HH := Lib.hid H
  clear H
  obtain ⟨v1, hv1⟩ : ∃ v1, v1 = w.alloc (.cells #[.func (.func h) #[] caps] 171) := ⟨_, rfl⟩
  obtain ⟨v2, hv2⟩ : ∃ v2, v2 = v1.alloc (.cells #[.int .i64 0, .int .i64 0] 85) := ⟨_, rfl⟩
  obtain ⟨v3, hv3⟩ : ∃ v3, v3 = v2.alloc (.cells #[.slice none 0 0] 167) := ⟨_, rfl⟩
  obtain ⟨v4, hv4⟩ : ∃ v4, v4 = v3.alloc (.cells #[.int .i64 0, .int .i64 0] 85) := ⟨_, rfl⟩
  have s1 : v1.heap.size = w.heap.size + 1 := by rw [hv1]; simp
  have s2 : v2.heap.size = w.heap.size + 2 := by rw [hv2]; simp [s1]
  have s3 : v3.heap.size = w.heap.size + 3 := by rw [hv3]; simp [s2]
  have s4 : v4.heap.size = w.heap.size + 4 := by rw [hv4]; simp [s3]
  have t4 : Step (fun _ => False) w v4 := by
    rw [hv4, hv3, hv2, hv1]
    exact (((Step.refl.alloc _).alloc _).alloc _).alloc _
  have b1 : Blk v3 w.heap.size 171 #[.func (.func h) #[] caps] := by
    rw [hv3, hv2, hv1]
    exact ((Blk.new w _ _).alloc _).alloc _
  have b2 : Blk v3 (w.heap.size + 1) 85 #[.int .i64 0, .int .i64 0] := by
    have := (Blk.new v1 85 #[.int .i64 0, .int .i64 0]).alloc (.cells #[.slice none 0 0] 167)
    rw [← hv2, ← hv3, s1] at this
    exact this
  have b3 : Blk v3 (w.heap.size + 2) 167 #[.slice none 0 0] := by
    have := Blk.new v2 167 #[.slice none 0 0]
    rw [← hv3, s2] at this
    exact this
  have HO := Lib.hid (out_err 180 #[.pointer (some ⟨w.heap.size, 0, none⟩), .pointer (some ⟨w.heap.size + 2, 0, none⟩)] v3 (fun k => F k ∨ k = w.heap.size + 2)
    (fun wz => ∃ w1, Step F v4 w1 ∧ Q v4 w1 ∧ Step (fun k => k = w.heap.size + 2) w1 wz) y a
    (by rw [s3]; intro hk; rcases hk with hk | hk; · have := hF _ hk; omega
        · omega) (fun _ => rfl)
    (by
      rw [← hv4]
      refine (dlclo_err h caps v4 F Q y a hcf w.heap.size (w.heap.size + 2) (HH.out _ t4) (by rw [hv4]; exact b1.alloc _) (by rw [hv4]; exact b3.alloc _) (fun hk => by have := hF _ hk; omega)).mono ?_
      rintro e wz ⟨rfl, w1, h1, h2, h4⟩
      exact ⟨rfl, (h1.mono fun _ _ hk => .inl hk).trans (h4.mono fun _ _ hk => .inr hk), w1, h1, h2, h4⟩))
  rw [← hv4, s3] at HO
  have HB2 := Lib.hid b2
  have HE : Hid (v3 = ((w.alloc (.cells #[.func (.func h) #[] caps] 171)).alloc (.cells #[.int .i64 0, .int .i64 0] 85)).alloc (.cells #[.slice none 0 0] 167)) := by rw [Hid, hv3, hv2, hv1]
  have HT5 := Lib.hid t4
  have HF := Lib.hid hF
  have HS5 := Lib.hid s4
  have HV5 := Lib.hid hv4
  clear b1 b2 b3 t4 s1 s2 s3 s4 hv1 hv2 hv3 hv4 HH hF
  go_enter Try.func112, Try.ntmps112
  go_wp2_with fail
  have HO2 := HO.out
  rw [HE.out] at HO2
  refine HO2.mono ?_
  rintro e w6 ⟨rfl, w1, h1, ⟨wb, g1, g2, g4⟩, h5⟩
  clear HO2 HO
  have HQ := Lib.hid g2
  have HT1 := Lib.hid g1
  have HT2 : Hid (Step (fun k => k = w.heap.size + 2 ∨ k = w.heap.size + 3) wb w6) := (g4.mono fun _ _ hk => .inl hk).trans (h5.mono fun _ _ hk => .inr hk)
  have hns : v4.heap.size ≤ w6.heap.size := Nat.le_trans h1.size h5.size
  have n5 := HS5.out
  have HP6 : Hid (Blk (w6.alloc (.cells #[.int .i64 y, .int .i64 a] 85)) (w.heap.size + 1) 85 #[.int .i64 0, .int .i64 0]) := by
    have h6 := HB2.out.alloc (.cells #[.int .i64 0, .int .i64 0] 85)
    rw [← HV5.out] at h6
    exact ((h6.step h1 (fun hk => by rcases hk with hk | hk; · have := HF.out _ hk; omega
                                     · omega)).step h5 (by omega)).alloc _
  have HN6 := Lib.hid (Blk.new w6 85 #[.int .i64 y, .int .i64 a])
  have HT6 := Lib.hid (HT2.out.alloc (.cells #[.int .i64 y, .int .i64 a] 85))
  obtain ⟨W, hW⟩ : ∃ W, W = w6.alloc (.cells #[.int .i64 y, .int .i64 a] 85) := ⟨_, rfl⟩
  obtain ⟨sN, hsN⟩ : ∃ sN, sN = w6.heap.size := ⟨_, rfl⟩
  rw [← hW] at HP6 HN6 HT6
  rw [← hsN] at HN6
  have y0 := HN6.out.cell 0
  simp at y0
  rw [hW] at y0
  rw [hsN] at y0
  clear h1 h5 g1 g2 g4 HB2 HE HT2
  go_wp2_with fail
  rw [← hW, ← hsN]
  have hs6 : w.heap.size + 4 ≤ sN := by omega
  clear y0 hW hsN hns n5
  have y0 := HN6.out.cell 0
  have y1 := HN6.out.cell 1
  simp at y0 y1
  obtain ⟨F2, hF2⟩ : ∃ F2 : Nat → Prop, F2 = fun q => q = w.heap.size + 1 := ⟨_, rfl⟩
  have hFs : ¬ F2 sN := by rw [hF2]; omega
  have HF2 := Lib.hid hF2
  clear hF2
  have e4 := cls_cell (F := F2) (w0 := W) y0 hFs
  have e5 := cls_cell (F := F2) (w0 := W) y1 hFs
  clear y0 y1
  refine Mix.wp_region_mix [3] [3] (Step F2 W) (by kernel_rfl) (by kernel_rfl) Step.refl.drew (fun hcls => ?_)
  refine Mix.wpL_reads 3 (by rfl) ?_
  simp only [List.take_succ_cons, List.drop_succ_cons, List.take_zero, List.drop_zero]
  repeat (go_big_quiet_step (fail))
  refine wpQuiet_nil ?_
  have z0 := HP6.out.frozen 0
  have z1 := HP6.out.frozen 1
  have r0 := HP6.out.cell 0
  have r1 := HP6.out.cell 1
  simp at r0 r1
  refine Mix.wpL_op (by rfl) (fun K hK => ?_)
  go_simp
  obtain ⟨W8, hW8⟩ : ∃ W8, W8 = (W.setCell ⟨w.heap.size + 1, 0, none⟩ (.int .i64 y)).setCell ⟨w.heap.size + 1, 1, none⟩ (.int .i64 a) := ⟨_, rfl⟩
  have HP8 : Hid (Blk W8 (w.heap.size + 1) 85 #[.int .i64 y, .int .i64 a]) := by
    have hq := (HP6.out.set_ 0 (.int .i64 y)).set_ 1 (.int .i64 a)
    rw [← hW8] at hq
    simp at hq
    exact hq
  have HT8 : Hid (Step (fun q => q = w.heap.size + 1) W W8) := by
    rw [hW8]
    exact ((Step.refl (F := fun q => q = w.heap.size + 1)).setCell (p := ⟨w.heap.size + 1, 0, none⟩) (.inl rfl) _).setCell (p := ⟨w.heap.size + 1, 1, none⟩) (.inl rfl) _
  rw [← hW8]
  refine hK _ _ (fun hlt => Mix.cl (by rw [HF2.out]; exact HT8.out.drew)) ?_
  clear hK K z0 z1 r0 r1 hW8
  refine Mix.wpL_end ?_
  go_wp2_with fail
  have p4 := HP8.out.cell 0
  have p5 := HP8.out.cell 1
  simp at p4 p5
  refine bodyPost_ret (v := .tuple #[.slice none 0 0, .agg #[.int .i64 y, .int .i64 a]]) (by simp [results, Try.results112, go_sem, p4, p5]) rfl ?_
  refine ⟨rfl, v4, wb, HT5.out, HT1.out, HQ.out, ?_⟩
  have n5 := HS5.out
  refine ((HT6.out.mono fun k _ hk => ?_).trans ((HT8.out.mono fun k _ hk => ?_))).drew
  · exact ⟨by rcases hk with rfl | rfl <;> omega, by rcases hk with rfl | rfl <;> omega⟩
  · exact ⟨by omega, by omega⟩
end

section
variable (h : FuncId) (caps : Array Value) (w : World) (F : Nat → Prop) (Q : World → World → Prop) (y a : Int) (hcf : ∀ w : World, (callFunc h caps).run Try.prog w = .ok (.enter h caps) w)
include hcf

set_option maxRecDepth 100000 in
set_option maxHeartbeats 1600000 in
theorem elclo_err (fb vb : Nat) (H : Calls Try.prog h caps w fun e w' => e = .panicked (stopP y a) ∧ Step F w w' ∧ Q w w') (hf : Blk w fb 151 #[.func (.func h) #[] caps]) (hv : Blk w vb 147 #[.slice none 0 0]) (hFv : ¬ F vb) :
    Calls Try.prog 176 #[.pointer (some ⟨fb, 0, none⟩), .pointer (some ⟨vb, 0, none⟩)] w fun e w' => e = .panicked (stopP y a) ∧ ∃ w1, Step F w w1 ∧ Q w w1 ∧ Step (fun k => k = vb) w1 w' := by
  have c0 := hf.cell 0
  simp at c0
  have HH := Lib.hid H
  have HV := Lib.hid hv
  clear H hf hv
  go_enter Try.func176, Try.ntmps176
  go_wp2_with fail
  refine HH.out.mono ?_
  rintro e w1 ⟨rfl, hs, hq⟩
  exact ⟨rfl, rfl, w1, hs, hq, Step.refl⟩

set_option maxRecDepth 100000 in
set_option maxHeartbeats 3200000 in
theorem elvalue_err (hy : (y == 0) = false) (hF : ∀ k, F k → k < w.heap.size) (H : ∀ w', Step (fun _ => False) w w' → Calls Try.prog h caps w' fun e w'' => e = .panicked (stopP y a) ∧ Step F w' w'' ∧ Q w' w'') :
    Calls Try.prog 96 #[.func (.func h) #[] caps] w fun e w' => e = .returned (.tuple #[.slice none 0 0, .agg #[.int .i64 y, .int .i64 a]]) ∧
      ∃ wa wb, Step (fun _ => False) w wa ∧ Step F wa wb ∧ Q wa wb ∧ Step (fun k => w.heap.size ≤ k ∧ k < wa.heap.size) wb w' := by
  have hmf : ∀ (fn : Fn) (first cap : Array Value) (w : World), (Instr.makeFunc fn first cap).run Try.prog w = .ok (.func fn first cap) w := fun _ _ _ _ => rfl
  have hyb : (y != 0) = true := by simp [bne, hy]
  have HH := Lib.hid H
  clear H
  obtain ⟨v1, hv1⟩ : ∃ v1, v1 = w.alloc (.cells #[.func (.func h) #[] caps] 151) := ⟨_, rfl⟩
  obtain ⟨v2, hv2⟩ : ∃ v2, v2 = v1.alloc (.cells #[.int .i64 0, .int .i64 0] 85) := ⟨_, rfl⟩
  obtain ⟨v3, hv3⟩ : ∃ v3, v3 = v2.alloc (.cells #[.slice none 0 0] 147) := ⟨_, rfl⟩
  obtain ⟨v4, hv4⟩ : ∃ v4, v4 = v3.alloc (.cells #[.int .i64 0, .int .i64 0] 85) := ⟨_, rfl⟩
  have s1 : v1.heap.size = w.heap.size + 1 := by rw [hv1]; simp
  have s2 : v2.heap.size = w.heap.size + 2 := by rw [hv2]; simp [s1]
  have s3 : v3.heap.size = w.heap.size + 3 := by rw [hv3]; simp [s2]
  have s4 : v4.heap.size = w.heap.size + 4 := by rw [hv4]; simp [s3]
  have t4 : Step (fun _ => False) w v4 := by
    rw [hv4, hv3, hv2, hv1]
    exact (((Step.refl.alloc _).alloc _).alloc _).alloc _
  have b1 : Blk v3 w.heap.size 151 #[.func (.func h) #[] caps] := by
    rw [hv3, hv2, hv1]
    exact ((Blk.new w _ _).alloc _).alloc _
  have b2 : Blk v3 (w.heap.size + 1) 85 #[.int .i64 0, .int .i64 0] := by
    have := (Blk.new v1 85 #[.int .i64 0, .int .i64 0]).alloc (.cells #[.slice none 0 0] 147)
    rw [← hv2, ← hv3, s1] at this
    exact this
  have b3 : Blk v3 (w.heap.size + 2) 147 #[.slice none 0 0] := by
    have := Blk.new v2 147 #[.slice none 0 0]
    rw [← hv3, s2] at this
    exact this
  have HO := Lib.hid (out_err 176 #[.pointer (some ⟨w.heap.size, 0, none⟩), .pointer (some ⟨w.heap.size + 2, 0, none⟩)] v3 (fun k => F k ∨ k = w.heap.size + 2)
    (fun wz => ∃ w1, Step F v4 w1 ∧ Q v4 w1 ∧ Step (fun k => k = w.heap.size + 2) w1 wz) y a
    (by rw [s3]; intro hk; rcases hk with hk | hk; · have := hF _ hk; omega
        · omega) (fun _ => rfl)
    (by
      rw [← hv4]
      refine (elclo_err h caps v4 F Q y a hcf w.heap.size (w.heap.size + 2) (HH.out _ t4) (by rw [hv4]; exact b1.alloc _) (by rw [hv4]; exact b3.alloc _) (fun hk => by have := hF _ hk; omega)).mono ?_
      rintro e wz ⟨rfl, w1, h1, h2, h4⟩
      exact ⟨rfl, (h1.mono fun _ _ hk => .inl hk).trans (h4.mono fun _ _ hk => .inr hk), w1, h1, h2, h4⟩))
  rw [← hv4, s3] at HO
  have HB2 := Lib.hid b2
  have HE : Hid (v3 = ((w.alloc (.cells #[.func (.func h) #[] caps] 151)).alloc (.cells #[.int .i64 0, .int .i64 0] 85)).alloc (.cells #[.slice none 0 0] 147)) := by rw [Hid, hv3, hv2, hv1]
  have HT5 := Lib.hid t4
  have HF := Lib.hid hF
  have HS5 := Lib.hid s4
  have HV5 := Lib.hid hv4
  clear b1 b2 b3 t4 s1 s2 s3 s4 hv1 hv2 hv3 hv4 HH hF
  go_enter Try.func96, Try.ntmps96
  go_wp2_with fail
  have HO2 := HO.out
  rw [HE.out] at HO2
  refine HO2.mono ?_
  rintro e w6 ⟨rfl, w1, h1, ⟨wb, g1, g2, g4⟩, h5⟩
  clear HO2 HO
  have HQ := Lib.hid g2
  have HT1 := Lib.hid g1
  have HT2 : Hid (Step (fun k => k = w.heap.size + 2 ∨ k = w.heap.size + 3) wb w6) := (g4.mono fun _ _ hk => .inl hk).trans (h5.mono fun _ _ hk => .inr hk)
  have hns : v4.heap.size ≤ w6.heap.size := Nat.le_trans h1.size h5.size
  have n5 := HS5.out
  have HP6 : Hid (Blk (w6.alloc (.cells #[.int .i64 y, .int .i64 a] 85)) (w.heap.size + 1) 85 #[.int .i64 0, .int .i64 0]) := by
    have h6 := HB2.out.alloc (.cells #[.int .i64 0, .int .i64 0] 85)
    rw [← HV5.out] at h6
    exact ((h6.step h1 (fun hk => by rcases hk with hk | hk; · have := HF.out _ hk; omega
                                     · omega)).step h5 (by omega)).alloc _
  have HN6 := Lib.hid (Blk.new w6 85 #[.int .i64 y, .int .i64 a])
  have HT6 := Lib.hid (HT2.out.alloc (.cells #[.int .i64 y, .int .i64 a] 85))
  obtain ⟨W, hW⟩ : ∃ W, W = w6.alloc (.cells #[.int .i64 y, .int .i64 a] 85) := ⟨_, rfl⟩
  obtain ⟨sN, hsN⟩ : ∃ sN, sN = w6.heap.size := ⟨_, rfl⟩
  rw [← hW] at HP6 HN6 HT6
  rw [← hsN] at HN6
  have y0 := HN6.out.cell 0
  simp at y0
  rw [hW] at y0
  rw [hsN] at y0
  clear h1 h5 g1 g2 g4 HB2 HE HT2
  go_wp2_with fail
  rw [← hW, ← hsN]
  have hs6 : w.heap.size + 4 ≤ sN := by omega
  clear y0 hW hsN hns n5
  have y0 := HN6.out.cell 0
  have y1 := HN6.out.cell 1
  simp at y0 y1
  obtain ⟨F2, hF2⟩ : ∃ F2 : Nat → Prop, F2 = fun q => q = w.heap.size + 1 := ⟨_, rfl⟩
  have hFs : ¬ F2 sN := by rw [hF2]; omega
  have HF2 := Lib.hid hF2
  clear hF2
  have e4 := cls_cell (F := F2) (w0 := W) y0 hFs
  have e5 := cls_cell (F := F2) (w0 := W) y1 hFs
  clear y0 y1
  refine Mix.wp_region_mix [3] [3] (Step F2 W) (by kernel_rfl) (by kernel_rfl) Step.refl.drew (fun hcls => ?_)
  refine Mix.wpL_reads 3 (by rfl) ?_
  simp only [List.take_succ_cons, List.drop_succ_cons, List.take_zero, List.drop_zero]
  repeat (go_big_quiet_step (fail))
  refine wpQuiet_nil ?_
  have z0 := HP6.out.frozen 0
  have z1 := HP6.out.frozen 1
  have r0 := HP6.out.cell 0
  have r1 := HP6.out.cell 1
  simp at r0 r1
  refine Mix.wpL_op (by rfl) (fun K hK => ?_)
  go_simp
  obtain ⟨W8, hW8⟩ : ∃ W8, W8 = (W.setCell ⟨w.heap.size + 1, 0, none⟩ (.int .i64 y)).setCell ⟨w.heap.size + 1, 1, none⟩ (.int .i64 a) := ⟨_, rfl⟩
  have HP8 : Hid (Blk W8 (w.heap.size + 1) 85 #[.int .i64 y, .int .i64 a]) := by
    have hq := (HP6.out.set_ 0 (.int .i64 y)).set_ 1 (.int .i64 a)
    rw [← hW8] at hq
    simp at hq
    exact hq
  have HT8 : Hid (Step (fun q => q = w.heap.size + 1) W W8) := by
    rw [hW8]
    exact ((Step.refl (F := fun q => q = w.heap.size + 1)).setCell (p := ⟨w.heap.size + 1, 0, none⟩) (.inl rfl) _).setCell (p := ⟨w.heap.size + 1, 1, none⟩) (.inl rfl) _
  rw [← hW8]
  refine hK _ _ (fun hlt => Mix.cl (by rw [HF2.out]; exact HT8.out.drew)) ?_
  clear hK K z0 z1 r0 r1 hW8
  refine Mix.wpL_end ?_
  go_wp2_with fail
  have p4 := HP8.out.cell 0
  have p5 := HP8.out.cell 1
  simp at p4 p5
  refine bodyPost_ret (v := .tuple #[.slice none 0 0, .agg #[.int .i64 y, .int .i64 a]]) (by simp [results, Try.results96, go_sem, p4, p5]) rfl ?_
  refine ⟨rfl, v4, wb, HT5.out, HT1.out, HQ.out, ?_⟩
  have n5 := HS5.out
  refine ((HT6.out.mono fun k _ hk => ?_).trans ((HT8.out.mono fun k _ hk => ?_))).drew
  · exact ⟨by rcases hk with rfl | rfl <;> omega, by rcases hk with rfl | rfl <;> omega⟩
  · exact ⟨by omega, by omega⟩
end
end Go.Proofs.Ytfemeendkjcffaa
