/-
  abort: Value of bytes, where nothing is given up; Encode of the module that holds nothing; the page's example.
-/
import Derived.Test.YteibigianodhnaaMfC
set_option linter.unusedVariables false
set_option linter.unusedSimpArgs false
namespace Go.Proofs.Yteibigianodhnaa
open Go.RowKit

section
variable (h : FuncId) (caps : Array Value) (w : World) (F : Nat → Prop) (Q : Option Addr → Nat → World → World → Prop) (n : Nat) (hcf : ∀ w : World, (callFunc h caps).run Try.prog w = .ok (.enter h caps) w)
include hcf

set_option maxRecDepth 100000 in
set_option maxHeartbeats 1600000 in
theorem byclo_ok (fb vb : Nat) (H : Calls Try.prog h caps w fun e w' => ∃ Dz cz, e = .returned (.slice Dz n cz) ∧ Step F w w' ∧ Q Dz cz w w') (hf : Blk w fb 60 #[.func (.func h) #[] caps]) (hv : Blk w vb 45 #[.slice none 0 0]) (hFv : ¬ F vb) :
    Calls Try.prog 13 #[.pointer (some ⟨fb, 0, none⟩), .pointer (some ⟨vb, 0, none⟩)] w fun e w' => e = .returned (.tuple #[]) ∧ ∃ Dz cz w1, Step F w w1 ∧ Q Dz cz w w1 ∧ Blk w' vb 45 #[.slice Dz n cz] ∧ Step (fun k => k = vb) w1 w' := by
  have c0 := hf.cell 0
  simp at c0
  have HH := Lib.hid H
  have HV := Lib.hid hv
  clear H hf hv
  go_enter Try.func13, Try.ntmps13
  go_wp2_with fail
  refine HH.out.mono ?_
  rintro e w1 ⟨Dz, cz, rfl, hs, hq⟩
  have HB := HV.out.step hs hFv
  have zz := HB.frozen 0
  have cc := HB.cell 0
  simp at cc
  have hB2 := HB.set_ 0 (.slice Dz n cz)
  simp at hB2
  go_wp2_with fail
  go_end0
  exact ⟨rfl, Dz, cz, w1, hs, hq, hB2, Step.setCell (F := fun k => k = vb) (p := ⟨vb, 0, none⟩) Step.refl (.inl rfl) _⟩

set_option maxRecDepth 100000 in
set_option maxHeartbeats 3200000 in
theorem byvalue_ok (hF : ∀ k, F k → k < w.heap.size) (H : ∀ w', Step (fun _ => False) w w' → Calls Try.prog h caps w' fun e w'' => ∃ Dz cz, e = .returned (.slice Dz n cz) ∧ Step F w' w'' ∧ Q Dz cz w' w'') :
    Calls Try.prog 9 #[.func (.func h) #[] caps] w fun e w' => ∃ Dz cz, e = .returned (.tuple #[.slice Dz n cz, .agg #[.int .i64 0, .int .i64 0]]) ∧
      ∃ wa wb, Step (fun _ => False) w wa ∧ Step F wa wb ∧ Q Dz cz wa wb ∧ Step (fun k => w.heap.size ≤ k ∧ k < wa.heap.size) wb w' := by
  have hmf : ∀ (fn : Fn) (first cap : Array Value) (w : World), (Instr.makeFunc fn first cap).run Try.prog w = .ok (.func fn first cap) w := fun _ _ _ _ => rfl
  have HH := Lib.hid H
  clear H
  obtain ⟨v1, hv1⟩ : ∃ v1, v1 = w.alloc (.cells #[.func (.func h) #[] caps] 60) := ⟨_, rfl⟩
  obtain ⟨v2, hv2⟩ : ∃ v2, v2 = v1.alloc (.cells #[.int .i64 0, .int .i64 0] 56) := ⟨_, rfl⟩
  obtain ⟨v3, hv3⟩ : ∃ v3, v3 = v2.alloc (.cells #[.slice none 0 0] 45) := ⟨_, rfl⟩
  obtain ⟨v4, hv4⟩ : ∃ v4, v4 = v3.alloc (.cells #[.int .i64 0, .int .i64 0] 56) := ⟨_, rfl⟩
  have s1 : v1.heap.size = w.heap.size + 1 := by rw [hv1]; simp
  have s2 : v2.heap.size = w.heap.size + 2 := by rw [hv2]; simp [s1]
  have s3 : v3.heap.size = w.heap.size + 3 := by rw [hv3]; simp [s2]
  have s4 : v4.heap.size = w.heap.size + 4 := by rw [hv4]; simp [s3]
  have t4 : Step (fun _ => False) w v4 := by
    rw [hv4, hv3, hv2, hv1]
    exact (((Step.refl.alloc _).alloc _).alloc _).alloc _
  have b1 : Blk v3 w.heap.size 60 #[.func (.func h) #[] caps] := by
    rw [hv3, hv2, hv1]
    exact ((Blk.new w _ _).alloc _).alloc _
  have b2 : Blk v3 (w.heap.size + 1) 56 #[.int .i64 0, .int .i64 0] := by
    have := (Blk.new v1 56 #[.int .i64 0, .int .i64 0]).alloc (.cells #[.slice none 0 0] 45)
    rw [← hv2, ← hv3, s1] at this
    exact this
  have b3 : Blk v3 (w.heap.size + 2) 45 #[.slice none 0 0] := by
    have := Blk.new v2 45 #[.slice none 0 0]
    rw [← hv3, s2] at this
    exact this
  have HO := Lib.hid (out_ok 13 #[.pointer (some ⟨w.heap.size, 0, none⟩), .pointer (some ⟨w.heap.size + 2, 0, none⟩)] v3 (fun k => F k ∨ k = w.heap.size + 2)
    (fun wz => ∃ Dz cz w1, Step F v4 w1 ∧ Q Dz cz v4 w1 ∧ Blk wz (w.heap.size + 2) 45 #[.slice Dz n cz] ∧ Step (fun k => k = w.heap.size + 2) w1 wz)
    (by rw [s3]; intro hk; rcases hk with hk | hk; · have := hF _ hk; omega
        · omega) (fun _ => rfl)
    (by
      rw [← hv4]
      refine (byclo_ok h caps v4 F Q n hcf w.heap.size (w.heap.size + 2) (HH.out _ t4) (by rw [hv4]; exact b1.alloc _) (by rw [hv4]; exact b3.alloc _) (fun hk => by have := hF _ hk; omega)).mono ?_
      rintro e wz ⟨rfl, Dz, cz, w1, h1, h2, h3, h4⟩
      exact ⟨rfl, (h1.mono fun _ _ hk => .inl hk).trans (h4.mono fun _ _ hk => .inr hk), Dz, cz, w1, h1, h2, h3, h4⟩))
  rw [← hv4, s3] at HO
  have HB2 := Lib.hid b2
  have HE : Hid (v3 = ((w.alloc (.cells #[.func (.func h) #[] caps] 60)).alloc (.cells #[.int .i64 0, .int .i64 0] 56)).alloc (.cells #[.slice none 0 0] 45)) := by rw [Hid, hv3, hv2, hv1]
  have HT5 := Lib.hid t4
  have HF := Lib.hid hF
  have HS5 := Lib.hid s4
  have HV5 := Lib.hid hv4
  clear b1 b2 b3 t4 s1 s2 s3 s4 hv1 hv2 hv3 hv4 HH hF
  go_enter Try.func9, Try.ntmps9
  go_wp2_with fail
  have HO2 := HO.out
  rw [HE.out] at HO2
  refine HO2.mono ?_
  rintro e w6 ⟨rfl, w1, h1, ⟨Dz, cz, wb, g1, g2, g3, g4⟩, h5⟩
  clear HO2 HO
  have HQ := Lib.hid g2
  have HT1 := Lib.hid g1
  have HT2 : Hid (Step (fun k => k = w.heap.size + 2 ∨ k = w.heap.size + 3) wb w6) := (g4.mono fun _ _ hk => .inl hk).trans (h5.mono fun _ _ hk => .inr hk)
  have hns : v4.heap.size ≤ w6.heap.size := Nat.le_trans h1.size h5.size
  have n5 := HS5.out
  have HV6 := Lib.hid ((g3.step h5 (by omega)).alloc (.cells #[.int .i64 0, .int .i64 0] 56))
  have HP6 : Hid (Blk (w6.alloc (.cells #[.int .i64 0, .int .i64 0] 56)) (w.heap.size + 1) 56 #[.int .i64 0, .int .i64 0]) := by
    have h6 := HB2.out.alloc (.cells #[.int .i64 0, .int .i64 0] 56)
    rw [← HV5.out] at h6
    exact ((h6.step h1 (fun hk => by rcases hk with hk | hk; · have := HF.out _ hk; omega
                                     · omega)).step h5 (by omega)).alloc _
  have HN6 := Lib.hid (Blk.new w6 56 #[.int .i64 0, .int .i64 0])
  have HT6 := Lib.hid (HT2.out.alloc (.cells #[.int .i64 0, .int .i64 0] 56))
  obtain ⟨W, hW⟩ : ∃ W, W = w6.alloc (.cells #[.int .i64 0, .int .i64 0] 56) := ⟨_, rfl⟩
  obtain ⟨sN, hsN⟩ : ∃ sN, sN = w6.heap.size := ⟨_, rfl⟩
  rw [← hW] at HV6 HP6 HN6 HT6
  rw [← hsN] at HN6
  have y0 := HN6.out.cell 0
  simp at y0
  rw [hW] at y0
  rw [hsN] at y0
  clear h1 h5 g1 g2 g3 g4 HB2 HE HT2
  go_wp2_with fail
  rw [← hW, ← hsN]
  have hs6 : w.heap.size + 4 ≤ sN := by omega
  clear y0 hW hsN hns n5
  have y0 := HN6.out.cell 0
  have y1 := HN6.out.cell 1
  have x0 := HV6.out.cell 0
  simp at x0 y0 y1
  obtain ⟨F2, hF2⟩ : ∃ F2 : Nat → Prop, F2 = fun q => q = w.heap.size + 1 := ⟨_, rfl⟩
  have hFv : ¬ F2 (w.heap.size + 2) := by rw [hF2]; omega
  have hFs : ¬ F2 sN := by rw [hF2]; omega
  have HF2 := Lib.hid hF2
  clear hF2
  have d0 := cls_cell (F := F2) (w0 := W) x0 hFv
  have e4 := cls_cell (F := F2) (w0 := W) y0 hFs
  have e5 := cls_cell (F := F2) (w0 := W) y1 hFs
  clear x0 y0 y1
  refine Mix.wp_region_mix [3] [3] (Step F2 W) (by kernel_rfl) (by kernel_rfl) Step.refl.drew (fun hcls => ?_)
  refine Mix.wpL_reads 3 (by rfl) ?_
  simp only [List.take_succ_cons, List.drop_succ_cons, List.take_zero, List.drop_zero]
  repeat (go_big_quiet_step (fail))
  refine wpQuiet_nil ?_
  have z0 := HP6.out.frozen 0
  have z1 := HP6.out.frozen 1
  have r0 := HP6.out.cell 0
  have r1 := HP6.out.cell 1
  simp at r0 r1
  refine Mix.wpL_op (by rfl) (fun K hK => ?_)
  go_simp
  obtain ⟨W8, hW8⟩ : ∃ W8, W8 = (W.setCell ⟨w.heap.size + 1, 0, none⟩ (.int .i64 0)).setCell ⟨w.heap.size + 1, 1, none⟩ (.int .i64 0) := ⟨_, rfl⟩
  have HP8 : Hid (Blk W8 (w.heap.size + 1) 56 #[.int .i64 0, .int .i64 0]) := by
    have hq := (HP6.out.set_ 0 (.int .i64 0)).set_ 1 (.int .i64 0)
    rw [← hW8] at hq
    simp at hq
    exact hq
  have HT8 : Hid (Step (fun q => q = w.heap.size + 1) W W8) := by
    rw [hW8]
    exact ((Step.refl (F := fun q => q = w.heap.size + 1)).setCell (p := ⟨w.heap.size + 1, 0, none⟩) (.inl rfl) _).setCell (p := ⟨w.heap.size + 1, 1, none⟩) (.inl rfl) _
  rw [← hW8]
  refine hK _ _ (fun hlt => Mix.cl (by rw [HF2.out]; exact HT8.out.drew)) ?_
  clear hK K z0 z1 r0 r1 hW8
  refine Mix.wpL_end ?_
  go_wp2_with fail
  have p4 := HP8.out.cell 0
  have p5 := HP8.out.cell 1
  simp at p4 p5
  refine bodyPost_ret (v := .tuple #[.slice Dz n cz, .agg #[.int .i64 0, .int .i64 0]]) (by simp [results, Try.results9, go_sem, p4, p5]) rfl ?_
  refine ⟨Dz, cz, rfl, v4, wb, HT5.out, HT1.out, HQ.out, ?_⟩
  have n5 := HS5.out
  refine ((HT6.out.mono fun k _ hk => ?_).trans ((HT8.out.mono fun k _ hk => ?_))).drew
  · exact ⟨by rcases hk with rfl | rfl <;> omega, by rcases hk with rfl | rfl <;> omega⟩
  · exact ⟨by omega, by omega⟩
end

set_option maxRecDepth 100000 in
set_option maxHeartbeats 3200000 in
theorem enclo0 (w : World) (b : Nat) (h : Blk w b 36 #[.slice none 0 0, .slice none 0 0, .slice none 0 0, .slice none 0 0, .slice none 0 0, .slice none 0 0, .slice none 0 0, .int .i64 (-1), .slice none 0 0, .slice none 0 0, .slice none 0 0, .bool false, .int .u32 0, .int .u32 0, .int .u32 0, .int .u32 0, .slice none 0 0]) : Calls Try.prog 10 #[.pointer (some ⟨b, 0, none⟩)] w fun e w' => ∃ D c, e = .returned (.slice D 8 c) ∧ Step (fun _ => False) w w' ∧ (c = 8 ∧ Reads w' (fun k => w.heap.size ≤ k) 1 D 8 (u8s headL)) := by
  have HB := Lib.hid h
  clear h
  have c0 := HB.out.cell 0
  have c1 := HB.out.cell 1
  have c2 := HB.out.cell 2
  have c3 := HB.out.cell 3
  have c4 := HB.out.cell 4
  have c5 := HB.out.cell 5
  have c6 := HB.out.cell 6
  have c7 := HB.out.cell 7
  have c8 := HB.out.cell 8
  have c9 := HB.out.cell 9
  have c10 := HB.out.cell 10
  have c11 := HB.out.cell 11
  have c12 := HB.out.cell 12
  have c13 := HB.out.cell 13
  have c14 := HB.out.cell 14
  have c15 := HB.out.cell 15
  have c16 := HB.out.cell 16
  simp at c0 c1 c2 c3 c4 c5 c6 c7 c8 c9 c10 c11 c12 c13 c14 c15 c16
  go_enter Try.func10, Try.ntmps10
  go_wp2_with fail
  refine (encode0 _).mono ?_
  rintro e w5 ⟨D, rfl, hr, hs⟩
  go_wp2_with fail
  go_ret
  exact ⟨D, 8, rfl, hs, rfl, hr⟩

set_option maxRecDepth 100000 in
set_option maxHeartbeats 3200000 in
theorem Enc0 (w : World) : Calls Try.prog 8 #[.agg #[.slice none 0 0, .slice none 0 0, .slice none 0 0, .slice none 0 0, .slice none 0 0, .slice none 0 0, .slice none 0 0, .int .i64 (-1), .slice none 0 0, .slice none 0 0, .slice none 0 0, .bool false, .int .u32 0, .int .u32 0, .int .u32 0, .int .u32 0, .slice none 0 0]] w fun e w' => ∃ D, e = .returned (.tuple #[.slice D 8 8, .int .i64 0]) ∧ Reads w' (fun k => w.heap.size ≤ k) 1 D 8 (u8s headL) ∧ Step (fun _ => False) w w' := by
  obtain ⟨v1, hv1⟩ : ∃ v1, v1 = w.alloc (.cells #[.slice none 0 0, .slice none 0 0, .slice none 0 0, .slice none 0 0, .slice none 0 0, .slice none 0 0, .slice none 0 0, .int .i64 (-1), .slice none 0 0, .slice none 0 0, .slice none 0 0, .bool false, .int .u32 0, .int .u32 0, .int .u32 0, .int .u32 0, .slice none 0 0] 36) := ⟨_, rfl⟩
  have HB : Hid (Blk v1 w.heap.size 36 #[.slice none 0 0, .slice none 0 0, .slice none 0 0, .slice none 0 0, .slice none 0 0, .slice none 0 0, .slice none 0 0, .int .i64 (-1), .slice none 0 0, .slice none 0 0, .slice none 0 0, .bool false, .int .u32 0, .int .u32 0, .int .u32 0, .int .u32 0, .slice none 0 0]) := by rw [hv1]; exact Blk.new w _ _
  have HS : Hid (Step (fun _ => False) w v1) := by rw [hv1]; exact Step.refl.alloc _
  have HV := Lib.hid (byvalue_ok 10 #[.pointer (some ⟨w.heap.size, 0, none⟩)] v1 (fun _ => False) (fun Dz cz wa w' => cz = 8 ∧ Reads w' (fun k => wa.heap.size ≤ k) 1 Dz 8 (u8s headL)) 8 (fun _ => rfl) (fun _ hk => hk.elim) (fun w' ht => enclo0 w' _ (HB.out.step ht id)))
  have hmf : ∀ (fn : Fn) (first cap : Array Value) (w : World), (Instr.makeFunc fn first cap).run Try.prog w = .ok (.func fn first cap) w := fun _ _ _ _ => rfl
  have HE := Lib.hid hv1
  clear hv1
  go_enter Try.func8, Try.ntmps8
  go_wp2_with fail
  rw [← HE.out]
  refine HV.out.mono ?_
  rintro e w5 ⟨Dz, cz, rfl, wa, wb, g1, g2, ⟨rfl, hr⟩, g5⟩
  have hw1 := HS.out.size
  have hw2 := g1.size
  have HR := Lib.hid (hr.step g5 (fun q hq hk => by omega))
  have HS5 : Hid (Step (fun _ => False) w w5) := ((HS.out.trans g1).trans g2).trans' g5 (fun i hi => .inr (by omega))
  have HN := Lib.hid (Blk.new w5 56 #[.int .i64 0, .int .i64 0])
  have HR6 := Lib.hid (HR.out.step ((Step.refl (F := fun _ => False)).alloc (.cells #[.int .i64 0, .int .i64 0] 56)) (fun _ _ => id))
  have HS6 := Lib.hid (HS5.out.alloc (.cells #[.int .i64 0, .int .i64 0] 56))
  have y0 := HN.out.cell 0
  simp at y0
  clear hr g1 g2 g5 HV HB HS HE HR
  go_wp2_with fail
  go_quiet (fail)
  go_wp2_with fail
  go_ret2
  exact ⟨Dz, rfl, (HR6.out.mono (fun k _ hk => by omega)).step (Step.refl.drewN _ (F := fun _ => False)) (fun _ _ => id), HS6.out.drewN _⟩

set_option maxRecDepth 100000 in
set_option maxHeartbeats 3200000 in
theorem awake17 (w : World) : Calls Try.prog 4 #[] w fun e w' => e = .returned (.bool true) ∧ Step (fun _ => False) w w' := by
  go_enter Try.func4, Try.ntmps4
  go_wp2_with fail
  refine (Enc0 _).mono ?_
  rintro e w5 ⟨D, rfl, hr, hs⟩
  have hcv := conv_bytes (c := 8) hr
  have hx : ((str headL).toList == [0, 97, 115, 109, 1, 0, 0, 0]) = true := by rw [str_toList]; rfl
  go_wp2_with fail
  go_ret
  exact ⟨rfl, hs⟩
end Go.Proofs.Yteibigianodhnaa
