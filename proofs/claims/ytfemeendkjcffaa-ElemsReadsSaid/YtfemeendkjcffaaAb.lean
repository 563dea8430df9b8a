/-
  Ab: AbA, AbB.
-/
import Derived.Test.YtfemeendkjcffaaMix
import Derived.Test.YtfemeendkjcffaaRes
import Derived.Test.YtfemeendkjcffaaByt
import Derived.Test.YtfemeendkjcffaaOpC
import Derived.Great.Walk
import Derived.Defers
import Derived.Recover
import Derived.Laws.Pointers
set_option linter.unusedVariables false
set_option linter.unusedSimpArgs false
/-! abort: Out, Value of what gives nothing up. -/
namespace Go.Proofs.Ytfemeendkjcffaa
open Go.RowKit

set_option maxRecDepth 100000 in
set_option maxHeartbeats 1600000 in
theorem out_idle (p : Addr) (w : World) : CallsD Try.prog 189 #[.pointer (some p)] .returning w fun e u' w' => e = .returned (.tuple #[]) ∧ u' = .returning ∧ w' = w := by
  refine callsD_of_wpS Try.func189 rfl fun c₀ cs hu => ?_
  apply wpS_seq
  apply wpS_region
  simp [wpOpsS, go_sem, recoverD, hu, Try.ntmps189, Exit.thenS]
  apply wpS_seq
  apply wpS_seq
  apply wpS_region
  simp [wpOpsS, go_sem, Exit.thenS, Array.replicate]
  refine wpS_cond (t := true) (by simp [Act.eval]) ?_
  simp only [if_true]
  refine wpS_of_wp (wp_ret ?_)
  cases c₀
  simp_all [bodyPostS, results, Try.results189, Exit.thenS]

set_option maxRecDepth 100000 in
set_option maxHeartbeats 1600000 in
theorem out_ok (g : FuncId) (caps : Array Value) (w : World) (F : Nat → Prop) (Q : World → Prop) (hF : ¬ F w.heap.size) (hcf : ∀ w : World, (callFunc g caps).run Try.prog w = .ok (.enter g caps) w)
    (H : Calls Try.prog g caps (w.alloc (.cells #[.int .i64 0, .int .i64 0] 85)) fun e w' => e = .returned (.tuple #[]) ∧ Step F (w.alloc (.cells #[.int .i64 0, .int .i64 0] 85)) w' ∧ Q w') :
    Calls Try.prog 140 #[.func (.func g) #[] caps] w fun e w' => e = .returned (.agg #[.int .i64 0, .int .i64 0]) ∧ ∃ w1, Step F (w.alloc (.cells #[.int .i64 0, .int .i64 0] 85)) w1 ∧ Q w1 ∧ Step (fun k => k = w.heap.size) w1 w' := by
  have hmf : ∀ (fn : Fn) (first cap : Array Value) (w : World), (Instr.makeFunc fn first cap).run Try.prog w = .ok (.func fn first cap) w := fun _ _ _ _ => rfl
  have HH := Lib.hid H
  clear H
  go_enter_defers Try.func140, Try.ntmps140
  go_wp2_with fail
  refine HH.out.mono ?_
  rintro e w1 ⟨rfl, hs, hq⟩
  have HB := Lib.hid ((Blk.new w 85 #[.int .i64 0, .int .i64 0]).step hs hF)
  have c0 := HB.out.cell 0
  have c1 := HB.out.cell 1
  simp at c0 c1
  have z0 := HB.out.frozen 0
  have z1 := HB.out.frozen 1
  go_wp2_with fail
  refine leaves_cons (f := 189) (args := #[.pointer (some ⟨w.heap.size, 0, none⟩)]) (by simp) (by simp [go_sem]) ?_
  refine (out_idle ⟨w.heap.size, 0, none⟩ _).mono ?_
  rintro e u' w'' ⟨rfl, rfl, rfl⟩
  refine ⟨.agg #[.int .i64 0, .int .i64 0], by simp [results, Try.results140, go_sem, c0, c1], rfl, w1, hs, hq, ?_⟩
  exact ((Step.refl (F := fun k => k = w.heap.size)).setCell (p := ⟨w.heap.size, 0, none⟩) (.inl rfl) _).setCell (p := ⟨w.heap.size, 1, none⟩) (.inl rfl) _

set_option maxRecDepth 100000 in
set_option maxHeartbeats 1600000 in
theorem out_catch (g : Nat) (y a : Int) (older : List PanicEntry) (w : World) (c0 c1 : Value) (h0 : w.cell? ⟨g, 0, none⟩ = some c0) (h1 : w.cell? ⟨g, 1, none⟩ = some c1) (z0 : w.frozen? ⟨g, 0, none⟩ = false) (z1 : w.frozen? ⟨g, 1, none⟩ = false) (hg : g < w.heap.size) :
    CallsD Try.prog 189 #[.pointer (some ⟨g, 0, none⟩)] (.panicking ({ v := .iface 85 (.agg #[.int .i64 y, .int .i64 a]), recovered := false } :: older)) w fun e u' w' =>
      e = .returned (.tuple #[]) ∧ u' = .panicking ({ v := .iface 85 (.agg #[.int .i64 y, .int .i64 a]), recovered := true } :: older) ∧
      w' = ((w.setCell ⟨g, 0, none⟩ (.int .i64 y)).setCell ⟨g, 1, none⟩ (.int .i64 a)).alloc (.cells #[.int .i64 y, .int .i64 a] 85) := by
  refine callsD_of_wpS Try.func189 rfl fun c₀ cs hu => ?_
  apply wpS_seq
  apply wpS_region
  simp [wpOpsS, go_sem, recoverD, hu, Try.ntmps189, Exit.thenS]
  apply wpS_seq
  apply wpS_seq
  apply wpS_region
  simp [wpOpsS, go_sem, Exit.thenS, Array.replicate]
  refine wpS_cond (t := false) (by simp [Act.eval]) ?_
  simp only [Bool.false_eq_true, if_false]
  refine wpS_of_wp (wp_skip ?_)
  simp only [Exit.thenS]
  refine wpS_of_wp ?_
  have hta : ∀ w : World, (Instr.typeAssert (.iface 85 (.agg #[.int .i64 y, .int .i64 a])) 20 85 true).run Try.prog w = .ok (.tuple #[.agg #[.int .i64 y, .int .i64 a], .bool true]) w := fun _ => by kernel_rfl
  go_wp2_with fail
  exact ⟨rfl, _, rfl, .tuple #[], by simp [results, Try.results189], rfl, rfl, rfl⟩

/-- What is thrown. -/
def stopP (y a : Int) : List PanicEntry := [{ v := .iface 85 (.agg #[.int .i64 y, .int .i64 a]), recovered := false }]

set_option maxRecDepth 100000 in
set_option maxHeartbeats 1600000 in
theorem out_err (g : FuncId) (caps : Array Value) (w : World) (F : Nat → Prop) (Q : World → Prop) (y a : Int) (hF : ¬ F w.heap.size) (hcf : ∀ w : World, (callFunc g caps).run Try.prog w = .ok (.enter g caps) w)
    (H : Calls Try.prog g caps (w.alloc (.cells #[.int .i64 0, .int .i64 0] 85)) fun e w' => e = .panicked (stopP y a) ∧ Step F (w.alloc (.cells #[.int .i64 0, .int .i64 0] 85)) w' ∧ Q w') :
    Calls Try.prog 140 #[.func (.func g) #[] caps] w fun e w' => e = .returned (.agg #[.int .i64 y, .int .i64 a]) ∧ ∃ w1, Step F (w.alloc (.cells #[.int .i64 0, .int .i64 0] 85)) w1 ∧ Q w1 ∧ Step (fun k => k = w.heap.size) w1 w' := by
  have hmf : ∀ (fn : Fn) (first cap : Array Value) (w : World), (Instr.makeFunc fn first cap).run Try.prog w = .ok (.func fn first cap) w := fun _ _ _ _ => rfl
  have HH := Lib.hid H
  clear H
  go_enter_defers Try.func140, Try.ntmps140
  go_wp2_with fail
  refine HH.out.mono ?_
  rintro e w1 ⟨rfl, hs, hq⟩
  have HB := Lib.hid ((Blk.new w 85 #[.int .i64 0, .int .i64 0]).step hs hF)
  have c0 := HB.out.cell 0
  have c1 := HB.out.cell 1
  simp at c0 c1
  have z0 := HB.out.frozen 0
  have z1 := HB.out.frozen 1
  have hl := HB.out.lt
  refine leaves_cons (f := 189) (args := #[.pointer (some ⟨w.heap.size, 0, none⟩)]) (by simp) (by simp [go_sem]) ?_
  refine (out_catch w.heap.size y a [] _ _ _ c0 c1 z0 z1 hl).mono ?_
  rintro e u' w'' ⟨rfl, rfl, rfl⟩
  have HB2 := (((HB.out.set_ 0 (.int .i64 y)).set_ 1 (.int .i64 a)).alloc (.cells #[.int .i64 y, .int .i64 a] 85))
  simp at HB2
  have d0 := HB2.cell 0
  have d1 := HB2.cell 1
  simp at d0 d1
  refine ⟨.agg #[.int .i64 y, .int .i64 a], by simp [results, Try.results140, go_sem, d0, d1], rfl, w1, hs, hq, ?_⟩
  exact (((Step.refl (F := fun k => k = w.heap.size)).setCell (p := ⟨w.heap.size, 0, none⟩) (.inl rfl) _).setCell (p := ⟨w.heap.size, 1, none⟩) (.inl rfl) _).alloc _
end Go.Proofs.Ytfemeendkjcffaa
/-! abort: Value of an instruction, of what gives nothing up. -/
namespace Go.Proofs.Ytfemeendkjcffaa
open Go.RowKit

/-- The cells of an instruction. -/
def insC (op a b : Int) (D : Option Addr) (n c : Nat) : Array Value := #[.int .u8 op, .int .u64 a, .int .u64 b, .slice D n c]
theorem insC_one (op a b : Int) (D : Option Addr) (n c : Nat) : (insC op a b D n c).all (·.oneCell') = true := by simp [insC, Value.oneCell']

section
variable (h : FuncId) (caps : Array Value) (w : World) (F : Nat → Prop) (Q : Option Addr → Nat → World → World → Prop) (op a b : Int) (n : Nat) (hcf : ∀ w : World, (callFunc h caps).run Try.prog w = .ok (.enter h caps) w)
include hcf

set_option maxRecDepth 100000 in
set_option maxHeartbeats 1600000 in
theorem vclo_ok (fb vb : Nat) (H : Calls Try.prog h caps w fun e w' => ∃ D c', e = .returned (.agg (insC op a b D n c')) ∧ Step F w w' ∧ Q D c' w w') (hf : Blk w fb 89 #[.func (.func h) #[] caps]) (hv : Blk w vb 50 (insC 0 0 0 none 0 0)) (hFv : ¬ F vb) :
    Calls Try.prog 141 #[.pointer (some ⟨fb, 0, none⟩), .pointer (some ⟨vb, 0, none⟩)] w fun e w' => e = .returned (.tuple #[]) ∧ ∃ D c' w1, Step F w w1 ∧ Q D c' w w1 ∧ Blk w' vb 50 (insC op a b D n c') ∧ Step (fun k => k = vb) w1 w' := by
  have c0 := hf.cell 0
  simp at c0
  have HH := Lib.hid H
  have HV := Lib.hid hv
  clear H hf hv
  go_enter Try.func141, Try.ntmps141
  go_wp2_with fail
  refine HH.out.mono ?_
  rintro e w1 ⟨D, c', rfl, hs, hq⟩
  have HB := HV.out.step hs hFv
  have hone := insC_one op a b D n c'
  go_wp2_with (refine wpList_store_rowTo rfl 50 _ _ rfl rfl vb (insC op a b D n c') rfl rfl 50 _ HB rfl rfl hone ?_)
  go_end0
  exact ⟨rfl, D, c', w1, hs, hq, HB.row _, Step.setRow (F := fun k => k = vb) Step.refl (g := vb) (.inl rfl) _⟩

set_option maxRecDepth 100000 in
set_option maxHeartbeats 3200000 in
theorem value_ok (hF : ∀ k, F k → k < w.heap.size) (H : ∀ w', Step (fun _ => False) w w' → Calls Try.prog h caps w' fun e w'' => ∃ D c', e = .returned (.agg (insC op a b D n c')) ∧ Step F w' w'' ∧ Q D c' w' w'') :
    Calls Try.prog 48 #[.func (.func h) #[] caps] w fun e w' => ∃ D c', e = .returned (.tuple #[.agg (insC op a b D n c'), .agg #[.int .i64 0, .int .i64 0]]) ∧
      ∃ wa wb, Step (fun _ => False) w wa ∧ Step F wa wb ∧ Q D c' wa wb ∧ Step (fun k => w.heap.size ≤ k ∧ k < wa.heap.size) wb w' := by
  have hmf : ∀ (fn : Fn) (first cap : Array Value) (w : World), (Instr.makeFunc fn first cap).run Try.prog w = .ok (.func fn first cap) w := fun _ _ _ _ => rfl
  have HH := Lib.hid H
  clear H
  obtain ⟨v1, hv1⟩ : ∃ v1, v1 = w.alloc (.cells #[.func (.func h) #[] caps] 89) := ⟨_, rfl⟩
  obtain ⟨v2, hv2⟩ : ∃ v2, v2 = v1.alloc (.cells (insC 0 0 0 none 0 0) 50) := ⟨_, rfl⟩
  obtain ⟨v3, hv3⟩ : ∃ v3, v3 = v2.alloc (.cells #[.int .i64 0, .int .i64 0] 85) := ⟨_, rfl⟩
  obtain ⟨v4, hv4⟩ : ∃ v4, v4 = v3.alloc (.cells (insC 0 0 0 none 0 0) 50) := ⟨_, rfl⟩
  obtain ⟨v5, hv5⟩ : ∃ v5, v5 = v4.alloc (.cells #[.int .i64 0, .int .i64 0] 85) := ⟨_, rfl⟩
  have s1 : v1.heap.size = w.heap.size + 1 := by rw [hv1]; simp
  have s2 : v2.heap.size = w.heap.size + 2 := by rw [hv2]; simp [s1]
  have s3 : v3.heap.size = w.heap.size + 3 := by rw [hv3]; simp [s2]
  have s4 : v4.heap.size = w.heap.size + 4 := by rw [hv4]; simp [s3]
  have s5 : v5.heap.size = w.heap.size + 5 := by rw [hv5]; simp [s4]
  have t5 : Step (fun _ => False) w v5 := by
    rw [hv5, hv4, hv3, hv2, hv1]
    exact ((((Step.refl.alloc _).alloc _).alloc _).alloc _).alloc _
  have b1 : Blk v4 w.heap.size 89 #[.func (.func h) #[] caps] := by
    rw [hv4, hv3, hv2, hv1]
    exact (((Blk.new w _ _).alloc _).alloc _).alloc _
  have b2 : Blk v4 (w.heap.size + 1) 50 (insC 0 0 0 none 0 0) := by
    have := ((Blk.new v1 50 (insC 0 0 0 none 0 0)).alloc (.cells #[.int .i64 0, .int .i64 0] 85)).alloc (.cells (insC 0 0 0 none 0 0) 50)
    rw [← hv2, ← hv3, ← hv4, s1] at this
    exact this
  have b3 : Blk v4 (w.heap.size + 2) 85 #[.int .i64 0, .int .i64 0] := by
    have := (Blk.new v2 85 #[.int .i64 0, .int .i64 0]).alloc (.cells (insC 0 0 0 none 0 0) 50)
    rw [← hv3, ← hv4, s2] at this
    exact this
  have b4 : Blk v4 (w.heap.size + 3) 50 (insC 0 0 0 none 0 0) := by
    have := Blk.new v3 50 (insC 0 0 0 none 0 0)
    rw [← hv4, s3] at this
    exact this
  have HO := Lib.hid (out_ok 141 #[.pointer (some ⟨w.heap.size, 0, none⟩), .pointer (some ⟨w.heap.size + 3, 0, none⟩)] v4 (fun k => F k ∨ k = w.heap.size + 3)
    (fun wz => ∃ D c' w1, Step F v5 w1 ∧ Q D c' v5 w1 ∧ Blk wz (w.heap.size + 3) 50 (insC op a b D n c') ∧ Step (fun k => k = w.heap.size + 3) w1 wz)
    (by rw [s4]; intro hk; rcases hk with hk | hk; · have := hF _ hk; omega
        · omega) (fun _ => rfl)
    (by
      rw [← hv5]
      refine (vclo_ok h caps v5 F Q op a b n hcf w.heap.size (w.heap.size + 3) (HH.out _ t5) (by rw [hv5]; exact b1.alloc _) (by rw [hv5]; exact b4.alloc _) (fun hk => by have := hF _ hk; omega)).mono ?_
      rintro e wz ⟨rfl, D, c', w1, h1, h2, h3, h4⟩
      exact ⟨rfl, (h1.mono fun _ _ hk => .inl hk).trans (h4.mono fun _ _ hk => .inr hk), D, c', w1, h1, h2, h3, h4⟩))
  rw [← hv5, s4] at HO
  have HB2 := Lib.hid b2
  have HB3 := Lib.hid b3
  have HE : Hid (v4 = (((w.alloc (.cells #[.func (.func h) #[] caps] 89)).alloc (.cells (insC 0 0 0 none 0 0) 50)).alloc (.cells #[.int .i64 0, .int .i64 0] 85)).alloc (.cells (insC 0 0 0 none 0 0) 50)) := by rw [Hid, hv4, hv3, hv2, hv1]
  have HT5 := Lib.hid t5
  have HF := Lib.hid hF
  have HS5 := Lib.hid s5
  have HV5 := Lib.hid hv5
  clear b1 b2 b3 b4 t5 s1 s2 s3 s4 s5 hv1 hv2 hv3 hv4 hv5 HH hF
  go_enter Try.func48, Try.ntmps48
  go_wp2_with fail
  have HO2 := HO.out
  rw [HE.out] at HO2
  refine HO2.mono ?_
  rintro e w6 ⟨rfl, w1, h1, ⟨D, c', wb, g1, g2, g3, g4⟩, h5⟩
  clear HO2 HO
  have HQ := Lib.hid g2
  have HT1 := Lib.hid g1
  have HT2 : Hid (Step (fun k => k = w.heap.size + 3 ∨ k = w.heap.size + 4) wb w6) := (g4.mono fun _ _ hk => .inl hk).trans (h5.mono fun _ _ hk => .inr hk)
  have hns : v5.heap.size ≤ w6.heap.size := Nat.le_trans h1.size h5.size
  have n5 := HS5.out
  have HV6 := Lib.hid ((g3.step h5 (by omega)).alloc (.cells #[.int .i64 0, .int .i64 0] 85))
  have HR6 : Hid (Blk (w6.alloc (.cells #[.int .i64 0, .int .i64 0] 85)) (w.heap.size + 1) 50 (insC 0 0 0 none 0 0)) := by
    have h6 := HB2.out.alloc (.cells #[.int .i64 0, .int .i64 0] 85)
    rw [← HV5.out] at h6
    exact ((h6.step h1 (fun hk => by rcases hk with hk | hk; · have := HF.out _ hk; omega
                                     · omega)).step h5 (by omega)).alloc _
  have HP6 : Hid (Blk (w6.alloc (.cells #[.int .i64 0, .int .i64 0] 85)) (w.heap.size + 2) 85 #[.int .i64 0, .int .i64 0]) := by
    have h6 := HB3.out.alloc (.cells #[.int .i64 0, .int .i64 0] 85)
    rw [← HV5.out] at h6
    exact ((h6.step h1 (fun hk => by rcases hk with hk | hk; · have := HF.out _ hk; omega
                                     · omega)).step h5 (by omega)).alloc _
  have HN6 := Lib.hid (Blk.new w6 85 #[.int .i64 0, .int .i64 0])
  have HT6 := Lib.hid (HT2.out.alloc (.cells #[.int .i64 0, .int .i64 0] 85))
  obtain ⟨W, hW⟩ : ∃ W, W = w6.alloc (.cells #[.int .i64 0, .int .i64 0] 85) := ⟨_, rfl⟩
  obtain ⟨s, hs⟩ : ∃ s, s = w6.heap.size := ⟨_, rfl⟩
  rw [← hW] at HV6 HR6 HP6 HN6 HT6
  rw [← hs] at HN6
  have y0 := HN6.out.cell 0
  simp at y0
  rw [hW] at y0
  rw [hs] at y0
  clear h1 h5 g1 g2 g3 g4 HB2 HB3 HE HT2
  go_wp2_with fail
  rw [← hW, ← hs]
  have hs6 : w.heap.size + 5 ≤ s := by omega
  clear y0 hW hs hns n5
  have y0 := HN6.out.cell 0
  have y1 := HN6.out.cell 1
  have x0 := HV6.out.cell 0
  have x1 := HV6.out.cell 1
  have x2 := HV6.out.cell 2
  have x3 := HV6.out.cell 3
  simp [insC] at x0 x1 x2 x3 y0 y1
  obtain ⟨F2, hF2⟩ : ∃ F2 : Nat → Prop, F2 = fun q => q = w.heap.size + 1 ∨ q = w.heap.size + 2 := ⟨_, rfl⟩
  have hFv : ¬ F2 (w.heap.size + 3) := by rw [hF2]; omega
  have hFs : ¬ F2 s := by rw [hF2]; omega
  have HF2 := Lib.hid hF2
  clear hF2
  have d0 := cls_cell (F := F2) (w0 := W) x0 hFv
  have d1 := cls_cell (F := F2) (w0 := W) x1 hFv
  have d2 := cls_cell (F := F2) (w0 := W) x2 hFv
  have d3 := cls_cell (F := F2) (w0 := W) x3 hFv
  have d4 := cls_cell (F := F2) (w0 := W) y0 hFs
  have d5 := cls_cell (F := F2) (w0 := W) y1 hFs
  clear x0 x1 x2 x3 y0 y1
  refine Mix.wp_region_mix [2, 3] [2] (Step F2 W) (by kernel_rfl) (by kernel_rfl) Step.refl.drew (fun hcls => ?_)
  refine Mix.wpL_reads 2 (by rfl) ?_
  simp only [List.take_succ_cons, List.drop_succ_cons, List.take_zero, List.drop_zero]
  repeat (go_big_quiet_step (fail))
  refine wpQuiet_nil ?_
  have z0 := HR6.out.frozen 0
  have z1 := HR6.out.frozen 1
  have z2 := HR6.out.frozen 2
  have z3 := HR6.out.frozen 3
  have r0 := HR6.out.cell 0
  have r1 := HR6.out.cell 1
  have r2 := HR6.out.cell 2
  have r3 := HR6.out.cell 3
  simp [insC] at r0 r1 r2 r3
  refine Mix.wpL_op (by rfl) (fun K hK => ?_)
  go_simp
  obtain ⟨W7, hW7⟩ : ∃ W7, W7 = (((W.setCell ⟨w.heap.size + 1, 0, none⟩ (.int .u8 op)).setCell ⟨w.heap.size + 1, 1, none⟩ (.int .u64 a)).setCell ⟨w.heap.size + 1, 2, none⟩ (.int .u64 b)).setCell ⟨w.heap.size + 1, 3, none⟩ (.slice D n c') := ⟨_, rfl⟩
  have HR7 : Hid (Blk W7 (w.heap.size + 1) 50 (insC op a b D n c')) := by
    have hq := (((HR6.out.set_ 0 (.int .u8 op)).set_ 1 (.int .u64 a)).set_ 2 (.int .u64 b)).set_ 3 (.slice D n c')
    rw [← hW7] at hq
    simp [insC] at hq
    exact hq
  have HP7 : Hid (Blk W7 (w.heap.size + 2) 85 #[.int .i64 0, .int .i64 0]) := by
    rw [hW7]
    exact (((HP6.out.far (p := ⟨w.heap.size + 1, 0, none⟩) (show w.heap.size + 2 ≠ w.heap.size + 1 by omega) _).far (p := ⟨w.heap.size + 1, 1, none⟩) (show w.heap.size + 2 ≠ w.heap.size + 1 by omega) _).far (p := ⟨w.heap.size + 1, 2, none⟩) (show w.heap.size + 2 ≠ w.heap.size + 1 by omega) _).far (p := ⟨w.heap.size + 1, 3, none⟩) (show w.heap.size + 2 ≠ w.heap.size + 1 by omega) _
  have HT7 : Hid (Step (fun q => q = w.heap.size + 1 ∨ q = w.heap.size + 2) W W7) := by
    rw [hW7]
    exact ((((Step.refl.setCell (p := ⟨w.heap.size + 1, 0, none⟩) (.inl (.inl rfl)) _).setCell (p := ⟨w.heap.size + 1, 1, none⟩) (.inl (.inl rfl)) _).setCell (p := ⟨w.heap.size + 1, 2, none⟩) (.inl (.inl rfl)) _).setCell (p := ⟨w.heap.size + 1, 3, none⟩) (.inl (.inl rfl)) _)
  rw [← hW7]
  refine hK _ _ (fun hlt => Mix.cl (by rw [HF2.out]; exact HT7.out.drew)) ?_
  clear hK K z0 z1 z2 z3 r0 r1 r2 r3 hW7
  have z0 := HP7.out.frozen 0
  have z1 := HP7.out.frozen 1
  have r0 := HP7.out.cell 0
  have r1 := HP7.out.cell 1
  simp at r0 r1
  refine Mix.wpL_op (by rfl) (fun K hK => ?_)
  go_simp
  refine hK _ _ (fun hlt => absurd hlt (by decide)) ?_
  clear hK K
  refine Mix.wpL_end ?_
  obtain ⟨W8, hW8⟩ : ∃ W8, W8 = (W7.setCell ⟨w.heap.size + 2, 0, none⟩ (.int .i64 0)).setCell ⟨w.heap.size + 2, 1, none⟩ (.int .i64 0) := ⟨_, rfl⟩
  have HP8 : Hid (Blk W8 (w.heap.size + 2) 85 #[.int .i64 0, .int .i64 0]) := by
    have hq := (HP7.out.set_ 0 (.int .i64 0)).set_ 1 (.int .i64 0)
    rw [← hW8] at hq
    simp at hq
    exact hq
  have HR8 : Hid (Blk W8 (w.heap.size + 1) 50 (insC op a b D n c')) := by
    rw [hW8]
    exact (HR7.out.far (p := ⟨w.heap.size + 2, 0, none⟩) (show w.heap.size + 1 ≠ w.heap.size + 2 by omega) _).far (p := ⟨w.heap.size + 2, 1, none⟩) (show w.heap.size + 1 ≠ w.heap.size + 2 by omega) _
  have HT8 : Hid (Step (fun q => q = w.heap.size + 1 ∨ q = w.heap.size + 2) W W8) := by
    rw [hW8]
    exact (HT7.out.setCell (p := ⟨w.heap.size + 2, 0, none⟩) (.inl (.inr rfl)) _).setCell (p := ⟨w.heap.size + 2, 1, none⟩) (.inl (.inr rfl)) _
  go_wp2_with fail
  rw [← hW8]
  have q0 := HR8.out.cell 0
  have q1 := HR8.out.cell 1
  have q2 := HR8.out.cell 2
  have q3 := HR8.out.cell 3
  have q4 := HP8.out.cell 0
  have q5 := HP8.out.cell 1
  simp [insC] at q0 q1 q2 q3 q4 q5
  refine bodyPost_ret (v := .tuple #[.agg (insC op a b D n c'), .agg #[.int .i64 0, .int .i64 0]]) (by simp [results, Try.results48, go_sem, q0, q1, q2, q3, q4, q5, insC]) rfl ?_
  refine ⟨D, c', rfl, v5, wb, HT5.out, HT1.out, HQ.out, ?_⟩
  have n5 := HS5.out
  refine ((HT6.out.mono fun k _ hk => ?_).trans ((HT8.out.mono fun k _ hk => ?_))).drew
  · exact ⟨by rcases hk with rfl | rfl <;> omega, by rcases hk with rfl | rfl <;> omega⟩
  · exact ⟨by rcases hk with rfl | rfl <;> omega, by rcases hk with rfl | rfl <;> omega⟩
end
end Go.Proofs.Ytfemeendkjcffaa
