/-
  abort: Value of a list of rows of bytes, where nothing is given up; the law's closure.
-/
import Derived.Test.YtfemeendkjcffaaDbB
set_option linter.unusedVariables false
set_option linter.unusedSimpArgs false
namespace Go.Proofs.Ytfemeendkjcffaa
open Go.RowKit

section
variable (h : FuncId) (caps : Array Value) (w : World) (F : Nat → Prop) (Q : Option Addr → Nat → World → World → Prop) (n : Nat) (hcf : ∀ w : World, (callFunc h caps).run Try.prog w = .ok (.enter h caps) w)
include hcf

set_option maxRecDepth 100000 in
set_option maxHeartbeats 1600000 in
theorem dbclo_ok (fb vb : Nat) (H : Calls Try.prog h caps w fun e w' => ∃ Dz cz, e = .returned (.slice Dz n cz) ∧ Step F w w' ∧ Q Dz cz w w') (hf : Blk w fb 171 #[.func (.func h) #[] caps]) (hv : Blk w vb 167 #[.slice none 0 0]) (hFv : ¬ F vb) :
    Calls Try.prog 180 #[.pointer (some ⟨fb, 0, none⟩), .pointer (some ⟨vb, 0, none⟩)] w fun e w' => e = .returned (.tuple #[]) ∧ ∃ Dz cz w1, Step F w w1 ∧ Q Dz cz w w1 ∧ Blk w' vb 167 #[.slice Dz n cz] ∧ Step (fun k => k = vb) w1 w' := by
  have c0 := hf.cell 0
  simp at c0
  have HH := Lib.hid H
  have HV := Lib.hid hv
  clear H hf hv
  go_enter Try.func180, Try.ntmps180
  go_wp2_with fail
  refine HH.out.mono ?_
  rintro e w1 ⟨Dz, cz, rfl, hs, hq⟩
  have HB := HV.out.step hs hFv
  have zz := HB.frozen 0
  have cc := HB.cell 0
  simp at cc
  have hB2 := HB.set_ 0 (.slice Dz n cz)
  simp at hB2
  go_wp2_with fail
  go_end0
  exact ⟨rfl, Dz, cz, w1, hs, hq, hB2, Step.setCell (F := fun k => k = vb) (p := ⟨vb, 0, none⟩) Step.refl (.inl rfl) _⟩

set_option maxRecDepth 100000 in
set_option maxHeartbeats 3200000 in
theorem dbvalue_ok (hF : ∀ k, F k → k < w.heap.size) (H : ∀ w', Step (fun _ => False) w w' → Calls Try.prog h caps w' fun e w'' => ∃ Dz cz, e = .returned (.slice Dz n cz) ∧ Step F w' w'' ∧ Q Dz cz w' w'') :
    Calls Try.prog 112 #[.func (.func h) #[] caps] w fun e w' => ∃ Dz cz, e = .returned (.tuple #[.slice Dz n cz, .agg #[.int .i64 0, .int .i64 0]]) ∧
      ∃ wa wb, Step (fun _ => False) w wa ∧ Step F wa wb ∧ Q Dz cz wa wb ∧ Step (fun k => w.heap.size ≤ k ∧ k < wa.heap.size) wb w' := by
  have hmf : ∀ (fn : Fn) (first cap : Array Value) (w : World), (Instr.makeFunc fn first cap).run Try.prog w = .ok (.func fn first cap) w := fun _ _ _ _ => rfl
  have HH := Lib.hid H
  clear H
  obtain ⟨v1, hv1⟩ : ∃ v1, v1 = w.alloc (.cells #[.func (.func h) #[] caps] 171) := ⟨_, rfl⟩
  obtain ⟨v2, hv2⟩ : ∃ v2, v2 = v1.alloc (.cells #[.int .i64 0, .int .i64 0] 85) := ⟨_, rfl⟩
  obtain ⟨v3, hv3⟩ : ∃ v3, v3 = v2.alloc (.cells #[.slice none 0 0] 167) := ⟨_, rfl⟩
  obtain ⟨v4, hv4⟩ : ∃ v4, v4 = v3.alloc (.cells #[.int .i64 0, .int .i64 0] 85) := ⟨_, rfl⟩
  have s1 : v1.heap.size = w.heap.size + 1 := by rw [hv1]; simp
  have s2 : v2.heap.size = w.heap.size + 2 := by rw [hv2]; simp [s1]
  have s3 : v3.heap.size = w.heap.size + 3 := by rw [hv3]; simp [s2]
  have s4 : v4.heap.size = w.heap.size + 4 := by rw [hv4]; simp [s3]
  have t4 : Step (fun _ => False) w v4 := by
    rw [hv4, hv3, hv2, hv1]
    exact (((Step.refl.alloc _).alloc _).alloc _).alloc _
  have b1 : Blk v3 w.heap.size 171 #[.func (.func h) #[] caps] := by
    rw [hv3, hv2, hv1]
    exact ((Blk.new w _ _).alloc _).alloc _
  have b2 : Blk v3 (w.heap.size + 1) 85 #[.int .i64 0, .int .i64 0] := by
    have := (Blk.new v1 85 #[.int .i64 0, .int .i64 0]).alloc (.cells #[.slice none 0 0] 167)
    rw [← hv2, ← hv3, s1] at this
    exact this
  have b3 : Blk v3 (w.heap.size + 2) 167 #[.slice none 0 0] := by
    have := Blk.new v2 167 #[.slice none 0 0]
    rw [← hv3, s2] at this
    exact this
  have HO := Lib.hid (out_ok 180 #[.pointer (some ⟨w.heap.size, 0, none⟩), .pointer (some ⟨w.heap.size + 2, 0, none⟩)] v3 (fun k => F k ∨ k = w.heap.size + 2)
    (fun wz => ∃ Dz cz w1, Step F v4 w1 ∧ Q Dz cz v4 w1 ∧ Blk wz (w.heap.size + 2) 167 #[.slice Dz n cz] ∧ Step (fun k => k = w.heap.size + 2) w1 wz)
    (by rw [s3]; intro hk; rcases hk with hk | hk; · have := hF _ hk; omega
        · omega) (fun _ => rfl)
    (by
      rw [← hv4]
      refine (dbclo_ok h caps v4 F Q n hcf w.heap.size (w.heap.size + 2) (HH.out _ t4) (by rw [hv4]; exact b1.alloc _) (by rw [hv4]; exact b3.alloc _) (fun hk => by have := hF _ hk; omega)).mono ?_
      rintro e wz ⟨rfl, Dz, cz, w1, h1, h2, h3, h4⟩
      exact ⟨rfl, (h1.mono fun _ _ hk => .inl hk).trans (h4.mono fun _ _ hk => .inr hk), Dz, cz, w1, h1, h2, h3, h4⟩))
  rw [← hv4, s3] at HO
  have HB2 := Lib.hid b2
  have HE : Hid (v3 = ((w.alloc (.cells #[.func (.func h) #[] caps] 171)).alloc (.cells #[.int .i64 0, .int .i64 0] 85)).alloc (.cells #[.slice none 0 0] 167)) := by rw [Hid, hv3, hv2, hv1]
  have HT5 := Lib.hid t4
  have HF := Lib.hid hF
  have HS5 := Lib.hid s4
  have HV5 := Lib.hid hv4
  clear b1 b2 b3 t4 s1 s2 s3 s4 hv1 hv2 hv3 hv4 HH hF
  go_enter Try.func112, Try.ntmps112
  go_wp2_with fail
  have HO2 := HO.out
  rw [HE.out] at HO2
  refine HO2.mono ?_
  rintro e w6 ⟨rfl, w1, h1, ⟨Dz, cz, wb, g1, g2, g3, g4⟩, h5⟩
  clear HO2 HO
  have HQ := Lib.hid g2
  have HT1 := Lib.hid g1
  have HT2 : Hid (Step (fun k => k = w.heap.size + 2 ∨ k = w.heap.size + 3) wb w6) := (g4.mono fun _ _ hk => .inl hk).trans (h5.mono fun _ _ hk => .inr hk)
  have hns : v4.heap.size ≤ w6.heap.size := Nat.le_trans h1.size h5.size
  have n5 := HS5.out
  have HV6 := Lib.hid ((g3.step h5 (by omega)).alloc (.cells #[.int .i64 0, .int .i64 0] 85))
  have HP6 : Hid (Blk (w6.alloc (.cells #[.int .i64 0, .int .i64 0] 85)) (w.heap.size + 1) 85 #[.int .i64 0, .int .i64 0]) := by
    have h6 := HB2.out.alloc (.cells #[.int .i64 0, .int .i64 0] 85)
    rw [← HV5.out] at h6
    exact ((h6.step h1 (fun hk => by rcases hk with hk | hk; · have := HF.out _ hk; omega
                                     · omega)).step h5 (by omega)).alloc _
  have HN6 := Lib.hid (Blk.new w6 85 #[.int .i64 0, .int .i64 0])
  have HT6 := Lib.hid (HT2.out.alloc (.cells #[.int .i64 0, .int .i64 0] 85))
  obtain ⟨W, hW⟩ : ∃ W, W = w6.alloc (.cells #[.int .i64 0, .int .i64 0] 85) := ⟨_, rfl⟩
  obtain ⟨sN, hsN⟩ : ∃ sN, sN = w6.heap.size := ⟨_, rfl⟩
  rw [← hW] at HV6 HP6 HN6 HT6
  rw [← hsN] at HN6
  have y0 := HN6.out.cell 0
  simp at y0
  rw [hW] at y0
  rw [hsN] at y0
  clear h1 h5 g1 g2 g3 g4 HB2 HE HT2
  go_wp2_with fail
  rw [← hW, ← hsN]
  have hs6 : w.heap.size + 4 ≤ sN := by omega
  clear y0 hW hsN hns n5
  have y0 := HN6.out.cell 0
  have y1 := HN6.out.cell 1
  have x0 := HV6.out.cell 0
  simp at x0 y0 y1
  obtain ⟨F2, hF2⟩ : ∃ F2 : Nat → Prop, F2 = fun q => q = w.heap.size + 1 := ⟨_, rfl⟩
  have hFv : ¬ F2 (w.heap.size + 2) := by rw [hF2]; omega
  have hFs : ¬ F2 sN := by rw [hF2]; omega
  have HF2 := Lib.hid hF2
  clear hF2
  have d0 := cls_cell (F := F2) (w0 := W) x0 hFv
  have e4 := cls_cell (F := F2) (w0 := W) y0 hFs
  have e5 := cls_cell (F := F2) (w0 := W) y1 hFs
  clear x0 y0 y1
  refine Mix.wp_region_mix [3] [3] (Step F2 W) (by kernel_rfl) (by kernel_rfl) Step.refl.drew (fun hcls => ?_)
  refine Mix.wpL_reads 3 (by rfl) ?_
  simp only [List.take_succ_cons, List.drop_succ_cons, List.take_zero, List.drop_zero]
  repeat (go_big_quiet_step (fail))
  refine wpQuiet_nil ?_
  have z0 := HP6.out.frozen 0
  have z1 := HP6.out.frozen 1
  have r0 := HP6.out.cell 0
  have r1 := HP6.out.cell 1
  simp at r0 r1
  refine Mix.wpL_op (by rfl) (fun K hK => ?_)
  go_simp
  obtain ⟨W8, hW8⟩ : ∃ W8, W8 = (W.setCell ⟨w.heap.size + 1, 0, none⟩ (.int .i64 0)).setCell ⟨w.heap.size + 1, 1, none⟩ (.int .i64 0) := ⟨_, rfl⟩
  have HP8 : Hid (Blk W8 (w.heap.size + 1) 85 #[.int .i64 0, .int .i64 0]) := by
    have hq := (HP6.out.set_ 0 (.int .i64 0)).set_ 1 (.int .i64 0)
    rw [← hW8] at hq
    simp at hq
    exact hq
  have HT8 : Hid (Step (fun q => q = w.heap.size + 1) W W8) := by
    rw [hW8]
    exact ((Step.refl (F := fun q => q = w.heap.size + 1)).setCell (p := ⟨w.heap.size + 1, 0, none⟩) (.inl rfl) _).setCell (p := ⟨w.heap.size + 1, 1, none⟩) (.inl rfl) _
  rw [← hW8]
  refine hK _ _ (fun hlt => Mix.cl (by rw [HF2.out]; exact HT8.out.drew)) ?_
  clear hK K z0 z1 r0 r1 hW8
  refine Mix.wpL_end ?_
  go_wp2_with fail
  have p4 := HP8.out.cell 0
  have p5 := HP8.out.cell 1
  simp at p4 p5
  refine bodyPost_ret (v := .tuple #[.slice Dz n cz, .agg #[.int .i64 0, .int .i64 0]]) (by simp [results, Try.results112, go_sem, p4, p5]) rfl ?_
  refine ⟨Dz, cz, rfl, v4, wb, HT5.out, HT1.out, HQ.out, ?_⟩
  have n5 := HS5.out
  refine ((HT6.out.mono fun k _ hk => ?_).trans ((HT8.out.mono fun k _ hk => ?_))).drew
  · exact ⟨by rcases hk with rfl | rfl <;> omega, by rcases hk with rfl | rfl <;> omega⟩
  · exact ⟨by omega, by omega⟩
end

set_option maxRecDepth 100000 in
set_option maxHeartbeats 1600000 in
theorem dbclosure_ok (w : World) (X sb : Nat) (S : Nat → Prop) (D : Option Addr) (c : Nat) (bs : List UInt8) (h : Scn w X S D c bs 0) (l : List Dl) (n : Nat) (HN : Hid (n = l.length)) (hnb : n ≤ 1000) (hok : ∀ x ∈ l, x.wf ∧ x.err = 0) (hsm : ∀ x ∈ l, x.ds.length ≤ 200)  (hd : bs = putsD (uintF n) l n) (hsb : Blk w sb 79 #[.pointer (some ⟨X, 0, none⟩)]) :
    Calls Try.prog 118 #[.pointer (some ⟨sb, 0, none⟩)] w fun e w' => ∃ D' c', e = .returned (.slice D' n c') ∧ Step (fun i => i = X) w w' ∧ w'.ownsRow w.heap.size 156 5 (.slice D' n c') n (dls (l.map Dl.back)) := by
  have HG := Lib.hid (dgetall_ok w X S D c bs h l n HN hnb hok hsm hd)
  have s0 := hsb.cell 0
  simp at s0
  clear hsb h hd
  go_enter Try.func118, Try.ntmps118
  go_wp2_with fail
  refine HG.out.mono ?_
  rintro e w1 ⟨D', c', rfl, hown, ht⟩
  go_wp2_with fail
  go_ret
  exact ⟨D', c', rfl, ht, hown⟩
end Go.Proofs.Ytfemeendkjcffaa
