/-
  instr: the law InstrPuts, its walk.
-/
import Derived.Test.YtfemeendkjcffaaPv
import Derived.Test.YtfemeendkjcffaaSaA
import Derived.Test.YtfemeendkjcffaaPa
import Derived.Test.YtfemeendkjcffaaInE
import Derived.Test.YtfemeendkjcffaaOpn
import Derived.OpenShut
set_option linter.unusedVariables false
set_option linter.unusedSimpArgs false
namespace Go.Proofs.Ytfemeendkjcffaa
open Go.RowKit

theorem put_m1 : putL 65 4294967295 0 [] = [65, 127] := by kernel_rfl
theorem rgt_m1 : rgtF 65 4294967295 0 0 = 0 := by kernel_rfl
set_option maxRecDepth 100000 in
set_option maxHeartbeats 1600000 in
theorem awake07 (w : World) : Calls Try.prog 53 #[] w fun e w' => e = .returned (.bool true) ∧ Step (fun _ => False) w w' := by
  have HP : Hid (∀ w, Calls Try.prog 55 #[.agg #[.int .u8 65, .int .u64 4294967295, .int .u64 0, .slice none 0 0]] w fun e w' => ∃ D c', e = .returned (.tuple #[.slice D 2 c', .int .i64 0]) ∧
      w'.ownsRow w.heap.size 5 1 (.slice D 2 c') 2 (u8s [65, 127]) ∧ Step (fun _ => False) w w') := fun w => by
    have := iput_all w 65 4294967295 0 0 none [] (fun _ => False) Reads.nil_ (by decide) (by decide) (by simp) rgt_m1
    rw [put_m1] at this
    exact this
  go_enter Try.func53, Try.ntmps53
  go_wp2_with fail
  refine (HP.out _).mono ?_
  rintro e w5 ⟨D, c, rfl, hown, hS⟩
  have hcv := conv_bytes (c := c) (Reads.of_own hown)
  rw [show str [65, 127] = (⟨#[65, 127]⟩ : ByteArray) from rfl] at hcv
  clear hown
  go_wp2_with fail
  go_ret
  exact ⟨rfl, hS⟩

set_option maxRecDepth 100000 in
set_option maxHeartbeats 1600000 in
theorem iputs_big1 (w : World) (op a b c op2 a2 b2 c2 cm : Nat) (A A2 B : Option Addr) (L L2 : List Nat) (ms : List UInt8) (g1 : (200 : Int) < L.length) :
    Calls Try.prog 9 #[.agg #[.int .u8 (op : Int), .int .u64 (a : Int), .int .u64 (b : Int), .slice A L.length c], .agg #[.int .u8 (op2 : Int), .int .u64 (a2 : Int), .int .u64 (b2 : Int), .slice A2 L2.length c2], .slice B ms.length cm] w fun e w' => e = .returned (.bool true) ∧ Step (fun _ => False) w w' := by
  have g1' : decide ((200 : Int) < (L.length : Int)) = true := decide_eq_true g1
  have HX0 := Lib.hid ((Blk.new w 50 #[.int .u8 (op : Int), .int .u64 (a : Int), .int .u64 (b : Int), .slice A L.length c]).alloc (.cells #[.int .u8 (op2 : Int), .int .u64 (a2 : Int), .int .u64 (b2 : Int), .slice A2 L2.length c2] 50))
  have HY0 : Hid (Blk ((w.alloc (.cells #[.int .u8 (op : Int), .int .u64 (a : Int), .int .u64 (b : Int), .slice A L.length c] 50)).alloc (.cells #[.int .u8 (op2 : Int), .int .u64 (a2 : Int), .int .u64 (b2 : Int), .slice A2 L2.length c2] 50)) (w.heap.size + 1) 50 #[.int .u8 (op2 : Int), .int .u64 (a2 : Int), .int .u64 (b2 : Int), .slice A2 L2.length c2]) := by
    have hq := Blk.new (w.alloc (.cells #[.int .u8 (op : Int), .int .u64 (a : Int), .int .u64 (b : Int), .slice A L.length c] 50)) 50 #[.int .u8 (op2 : Int), .int .u64 (a2 : Int), .int .u64 (b2 : Int), .slice A2 L2.length c2]
    rw [show (w.alloc (.cells #[.int .u8 (op : Int), .int .u64 (a : Int), .int .u64 (b : Int), .slice A L.length c] 50)).heap.size = w.heap.size + 1 by simp] at hq
    exact hq
  have HS0 : Hid (Step (fun _ => False) w ((w.alloc (.cells #[.int .u8 (op : Int), .int .u64 (a : Int), .int .u64 (b : Int), .slice A L.length c] 50)).alloc (.cells #[.int .u8 (op2 : Int), .int .u64 (a2 : Int), .int .u64 (b2 : Int), .slice A2 L2.length c2] 50))) := (Step.refl.alloc _).alloc _
  go_enter Try.func9, Try.ntmps9
  go_wp2_with fail
  refine (awake07 _).mono ?_
  rintro e w5 ⟨rfl, hS5⟩
  have HX5 := Lib.hid (HX0.out.step hS5 id)
  have HY5 := Lib.hid (HY0.out.step hS5 id)
  have HS5 := Lib.hid (HS0.out.trans hS5)
  clear hS5 HX0 HY0 HS0
  obtain ⟨X, hX⟩ : ∃ X, X = w.heap.size := ⟨_, rfl⟩
  rw [← hX] at HX5 HY5 ⊢
  have HXe := Lib.hid hX
  clear hX
  have x3 := HX5.out.cell 3
  have y3 := HY5.out.cell 3
  simp at x3 y3
  go_wp2_with fail
  go_ret
  exact ⟨rfl, HS5.out⟩

set_option maxRecDepth 100000 in
set_option maxHeartbeats 1600000 in
theorem iputs_big2 (w : World) (op a b c op2 a2 b2 c2 cm : Nat) (A A2 B : Option Addr) (L L2 : List Nat) (ms : List UInt8) (g1 : ¬ (200 : Int) < L.length) (g2 : (200 : Int) < L2.length) :
    Calls Try.prog 9 #[.agg #[.int .u8 (op : Int), .int .u64 (a : Int), .int .u64 (b : Int), .slice A L.length c], .agg #[.int .u8 (op2 : Int), .int .u64 (a2 : Int), .int .u64 (b2 : Int), .slice A2 L2.length c2], .slice B ms.length cm] w fun e w' => e = .returned (.bool true) ∧ Step (fun _ => False) w w' := by
  have g1' : decide ((200 : Int) < (L.length : Int)) = false := decide_eq_false g1
  have g2' : decide ((200 : Int) < (L2.length : Int)) = true := decide_eq_true g2
  have HX0 := Lib.hid ((Blk.new w 50 #[.int .u8 (op : Int), .int .u64 (a : Int), .int .u64 (b : Int), .slice A L.length c]).alloc (.cells #[.int .u8 (op2 : Int), .int .u64 (a2 : Int), .int .u64 (b2 : Int), .slice A2 L2.length c2] 50))
  have HY0 : Hid (Blk ((w.alloc (.cells #[.int .u8 (op : Int), .int .u64 (a : Int), .int .u64 (b : Int), .slice A L.length c] 50)).alloc (.cells #[.int .u8 (op2 : Int), .int .u64 (a2 : Int), .int .u64 (b2 : Int), .slice A2 L2.length c2] 50)) (w.heap.size + 1) 50 #[.int .u8 (op2 : Int), .int .u64 (a2 : Int), .int .u64 (b2 : Int), .slice A2 L2.length c2]) := by
    have hq := Blk.new (w.alloc (.cells #[.int .u8 (op : Int), .int .u64 (a : Int), .int .u64 (b : Int), .slice A L.length c] 50)) 50 #[.int .u8 (op2 : Int), .int .u64 (a2 : Int), .int .u64 (b2 : Int), .slice A2 L2.length c2]
    rw [show (w.alloc (.cells #[.int .u8 (op : Int), .int .u64 (a : Int), .int .u64 (b : Int), .slice A L.length c] 50)).heap.size = w.heap.size + 1 by simp] at hq
    exact hq
  have HS0 : Hid (Step (fun _ => False) w ((w.alloc (.cells #[.int .u8 (op : Int), .int .u64 (a : Int), .int .u64 (b : Int), .slice A L.length c] 50)).alloc (.cells #[.int .u8 (op2 : Int), .int .u64 (a2 : Int), .int .u64 (b2 : Int), .slice A2 L2.length c2] 50))) := (Step.refl.alloc _).alloc _
  go_enter Try.func9, Try.ntmps9
  go_wp2_with fail
  refine (awake07 _).mono ?_
  rintro e w5 ⟨rfl, hS5⟩
  have HX5 := Lib.hid (HX0.out.step hS5 id)
  have HY5 := Lib.hid (HY0.out.step hS5 id)
  have HS5 := Lib.hid (HS0.out.trans hS5)
  clear hS5 HX0 HY0 HS0
  obtain ⟨X, hX⟩ : ∃ X, X = w.heap.size := ⟨_, rfl⟩
  rw [← hX] at HX5 HY5 ⊢
  have HXe := Lib.hid hX
  clear hX
  have x3 := HX5.out.cell 3
  have y3 := HY5.out.cell 3
  simp at x3 y3
  go_wp2_with fail
  go_ret
  exact ⟨rfl, HS5.out⟩

set_option maxRecDepth 100000 in
set_option maxHeartbeats 1600000 in
theorem iputs_big3 (w : World) (op a b c op2 a2 b2 c2 cm : Nat) (A A2 B : Option Addr) (L L2 : List Nat) (ms : List UInt8) (g1 : ¬ (200 : Int) < L.length) (g2 : ¬ (200 : Int) < L2.length) (g3 : (100 : Int) < ms.length) :
    Calls Try.prog 9 #[.agg #[.int .u8 (op : Int), .int .u64 (a : Int), .int .u64 (b : Int), .slice A L.length c], .agg #[.int .u8 (op2 : Int), .int .u64 (a2 : Int), .int .u64 (b2 : Int), .slice A2 L2.length c2], .slice B ms.length cm] w fun e w' => e = .returned (.bool true) ∧ Step (fun _ => False) w w' := by
  have g1' : decide ((200 : Int) < (L.length : Int)) = false := decide_eq_false g1
  have g2' : decide ((200 : Int) < (L2.length : Int)) = false := decide_eq_false g2
  have g3' : decide ((100 : Int) < (ms.length : Int)) = true := decide_eq_true g3
  have HX0 := Lib.hid ((Blk.new w 50 #[.int .u8 (op : Int), .int .u64 (a : Int), .int .u64 (b : Int), .slice A L.length c]).alloc (.cells #[.int .u8 (op2 : Int), .int .u64 (a2 : Int), .int .u64 (b2 : Int), .slice A2 L2.length c2] 50))
  have HY0 : Hid (Blk ((w.alloc (.cells #[.int .u8 (op : Int), .int .u64 (a : Int), .int .u64 (b : Int), .slice A L.length c] 50)).alloc (.cells #[.int .u8 (op2 : Int), .int .u64 (a2 : Int), .int .u64 (b2 : Int), .slice A2 L2.length c2] 50)) (w.heap.size + 1) 50 #[.int .u8 (op2 : Int), .int .u64 (a2 : Int), .int .u64 (b2 : Int), .slice A2 L2.length c2]) := by
    have hq := Blk.new (w.alloc (.cells #[.int .u8 (op : Int), .int .u64 (a : Int), .int .u64 (b : Int), .slice A L.length c] 50)) 50 #[.int .u8 (op2 : Int), .int .u64 (a2 : Int), .int .u64 (b2 : Int), .slice A2 L2.length c2]
    rw [show (w.alloc (.cells #[.int .u8 (op : Int), .int .u64 (a : Int), .int .u64 (b : Int), .slice A L.length c] 50)).heap.size = w.heap.size + 1 by simp] at hq
    exact hq
  have HS0 : Hid (Step (fun _ => False) w ((w.alloc (.cells #[.int .u8 (op : Int), .int .u64 (a : Int), .int .u64 (b : Int), .slice A L.length c] 50)).alloc (.cells #[.int .u8 (op2 : Int), .int .u64 (a2 : Int), .int .u64 (b2 : Int), .slice A2 L2.length c2] 50))) := (Step.refl.alloc _).alloc _
  go_enter Try.func9, Try.ntmps9
  go_wp2_with fail
  refine (awake07 _).mono ?_
  rintro e w5 ⟨rfl, hS5⟩
  have HX5 := Lib.hid (HX0.out.step hS5 id)
  have HY5 := Lib.hid (HY0.out.step hS5 id)
  have HS5 := Lib.hid (HS0.out.trans hS5)
  clear hS5 HX0 HY0 HS0
  obtain ⟨X, hX⟩ : ∃ X, X = w.heap.size := ⟨_, rfl⟩
  rw [← hX] at HX5 HY5 ⊢
  have HXe := Lib.hid hX
  clear hX
  have x3 := HX5.out.cell 3
  have y3 := HY5.out.cell 3
  simp at x3 y3
  go_wp2_with fail
  go_ret
  exact ⟨rfl, HS5.out⟩

set_option maxRecDepth 100000 in
set_option maxHeartbeats 3200000 in
theorem iputs_err (w : World) (op a b c op2 a2 b2 c2 cm : Nat) (A A2 B : Option Addr) (L L2 : List Nat) (ms : List UInt8) (S : Nat → Prop) (h1 : Reads w S 1 A L.length (u32s L)) (h2 : Reads w S 1 A2 L2.length (u32s L2)) (h3 : Reads w S 1 B ms.length (u8s ms)) (hop : op < 256) (ha : a < 18446744073709551616) (hLb : ∀ x ∈ L, x < 4294967296) (l1 : L.length ≤ 200) (l2 : L2.length ≤ 200) (l3 : ms.length ≤ 100) (hz : ¬ rgtF op a b L.length = 0) :
    Calls Try.prog 9 #[.agg #[.int .u8 (op : Int), .int .u64 (a : Int), .int .u64 (b : Int), .slice A L.length c], .agg #[.int .u8 (op2 : Int), .int .u64 (a2 : Int), .int .u64 (b2 : Int), .slice A2 L2.length c2], .slice B ms.length cm] w fun e w' => e = .returned (.bool true) ∧ Step (fun _ => False) w w' := by
  have g1 : ¬ (200 : Int) < L.length := by omega
  have g2 : ¬ (200 : Int) < L2.length := by omega
  have g3 : ¬ (100 : Int) < ms.length := by omega
  have g1' : decide ((200 : Int) < (L.length : Int)) = false := decide_eq_false g1
  have g2' : decide ((200 : Int) < (L2.length : Int)) = false := decide_eq_false g2
  have g3' : decide ((100 : Int) < (ms.length : Int)) = false := decide_eq_false g3
  have HR : Hid (∀ w, Calls Try.prog 56 #[.agg #[.int .u8 (op : Int), .int .u64 (a : Int), .int .u64 (b : Int), .slice A L.length c]] w fun e w' => e = .returned (.int .i64 (rgtF op a b L.length : Nat)) ∧ Step (fun _ => False) w w') := fun w => right_walk w op a b L.length c A hop
  have HQ : Hid (∀ w, Calls Try.prog 54 #[.agg #[.int .u8 (op : Int), .int .u64 (a : Int), .int .u64 (b : Int), .slice A L.length c]] w fun e w' => e = .returned (.int .i64 (rgtF op a b L.length : Nat)) ∧ Step (fun _ => False) w w') := fun w => rright_walk w op a b L.length c A hop
  have HSi : Hid (∀ w', Step (fun _ => False) w w' → Calls Try.prog 57 #[.agg #[.int .u8 (op : Int), .int .u64 (a : Int), .int .u64 (b : Int), .slice A L.length c], .agg #[.int .u8 (op2 : Int), .int .u64 (a2 : Int), .int .u64 (b2 : Int), .slice A2 L2.length c2]] w' fun e w'' => e = .returned (.bool (sameF op a b L op2 a2 b2 L2)) ∧ Step (fun _ => False) w' w'') := fun w' ht =>
    isame_walk w' op a b c op2 a2 b2 c2 A A2 L L2 S S (h1.step ht (fun _ _ => id)) (h2.step ht (fun _ _ => id)) (by omega)
  have HSr : Hid (∀ w', Step (fun _ => False) w w' → Calls Try.prog 39 #[.agg #[.int .u8 (op : Int), .int .u64 (a : Int), .int .u64 (b : Int), .slice A L.length c], .agg #[.int .u8 (op2 : Int), .int .u64 (a2 : Int), .int .u64 (b2 : Int), .slice A2 L2.length c2]] w' fun e w'' => e = .returned (.bool (sameF op a b L op2 a2 b2 L2)) ∧ Step (fun _ => False) w' w'') := fun w' ht =>
    rsame_walk w' op a b c op2 a2 b2 c2 A A2 L L2 S S (h1.step ht (fun _ _ => id)) (h2.step ht (fun _ _ => id)) (by omega)
  obtain ⟨Rb, hRb⟩ : ∃ Rb, Rb = sameF op a b L op2 a2 b2 L2 := ⟨_, rfl⟩
  rw [← hRb] at HSi HSr
  have hbb : (Rb != Rb) = false := by simp
  clear hRb
  have HP : Hid (∀ w, Calls Try.prog 55 #[.agg #[.int .u8 (op : Int), .int .u64 (a : Int), .int .u64 (b : Int), .slice A L.length c]] w fun e w' => e = .returned (.tuple #[.slice none 0 0, .int .i64 (rgtF op a b L.length : Nat)]) ∧ Step (fun _ => False) w w') := fun w => iput_err w op a b L.length c A hop hz
  obtain ⟨r, hr⟩ : ∃ r : Int, r = (rgtF op a b L.length : Nat) := ⟨_, rfl⟩
  have hne : ¬ r = 0 := by omega
  have hnb : (r != 0) = true := bne_iff_ne.2 hne
  have hrr : (r != r) = false := by simp
  rw [← hr] at HR HQ HP
  clear hr hz h1 h2 h3
  have HX0 := Lib.hid ((Blk.new w 50 #[.int .u8 (op : Int), .int .u64 (a : Int), .int .u64 (b : Int), .slice A L.length c]).alloc (.cells #[.int .u8 (op2 : Int), .int .u64 (a2 : Int), .int .u64 (b2 : Int), .slice A2 L2.length c2] 50))
  have HY0 : Hid (Blk ((w.alloc (.cells #[.int .u8 (op : Int), .int .u64 (a : Int), .int .u64 (b : Int), .slice A L.length c] 50)).alloc (.cells #[.int .u8 (op2 : Int), .int .u64 (a2 : Int), .int .u64 (b2 : Int), .slice A2 L2.length c2] 50)) (w.heap.size + 1) 50 #[.int .u8 (op2 : Int), .int .u64 (a2 : Int), .int .u64 (b2 : Int), .slice A2 L2.length c2]) := by
    have hq := Blk.new (w.alloc (.cells #[.int .u8 (op : Int), .int .u64 (a : Int), .int .u64 (b : Int), .slice A L.length c] 50)) 50 #[.int .u8 (op2 : Int), .int .u64 (a2 : Int), .int .u64 (b2 : Int), .slice A2 L2.length c2]
    rw [show (w.alloc (.cells #[.int .u8 (op : Int), .int .u64 (a : Int), .int .u64 (b : Int), .slice A L.length c] 50)).heap.size = w.heap.size + 1 by simp] at hq
    exact hq
  have HS0 : Hid (Step (fun _ => False) w ((w.alloc (.cells #[.int .u8 (op : Int), .int .u64 (a : Int), .int .u64 (b : Int), .slice A L.length c] 50)).alloc (.cells #[.int .u8 (op2 : Int), .int .u64 (a2 : Int), .int .u64 (b2 : Int), .slice A2 L2.length c2] 50))) := (Step.refl.alloc _).alloc _
  go_enter Try.func9, Try.ntmps9
  go_wp2_with fail
  refine (awake07 _).mono ?_
  rintro e w5 ⟨rfl, hS5⟩
  have HX5 := Lib.hid (HX0.out.step hS5 id)
  have HY5 := Lib.hid (HY0.out.step hS5 id)
  have HS5 := Lib.hid (HS0.out.trans hS5)
  clear hS5 HX0 HY0 HS0
  obtain ⟨X, hX⟩ : ∃ X, X = w.heap.size := ⟨_, rfl⟩
  rw [← hX] at HX5 HY5 ⊢
  have HXe := Lib.hid hX
  clear hX
  have x3 := HX5.out.cell 3
  have y3 := HY5.out.cell 3
  simp at x3 y3
  have x0 := HX5.out.cell 0
  have x1 := HX5.out.cell 1
  have x2 := HX5.out.cell 2
  simp at x0 x1 x2
  go_wp2_with fail
  refine (HQ.out _).mono ?_
  rintro e w6 ⟨rfl, hS6⟩
  have HX6 := Lib.hid (HX5.out.step hS6 id)
  have HY6 := Lib.hid (HY5.out.step hS6 id)
  have HS6 := Lib.hid (HS5.out.trans hS6)
  clear hS6 x0 x1 x2 x3 y3 HX5 HY5 HS5
  have x0 := HX6.out.cell 0
  have x1 := HX6.out.cell 1
  have x2 := HX6.out.cell 2
  have x3 := HX6.out.cell 3
  simp at x0 x1 x2 x3
  go_wp2_with fail
  refine (HP.out _).mono ?_
  rintro e w7 ⟨rfl, hS7⟩
  have HX7 := Lib.hid (HX6.out.step hS7 id)
  have HY7 := Lib.hid (HY6.out.step hS7 id)
  have HS7 := Lib.hid (HS6.out.trans hS7)
  clear hS7 HX6 HY6 HS6
  clear x0 x1 x2 x3
  have x0 := HX7.out.cell 0
  have x1 := HX7.out.cell 1
  have x2 := HX7.out.cell 2
  have x3 := HX7.out.cell 3
  have y0 := HY7.out.cell 0
  have y1 := HY7.out.cell 1
  have y2 := HY7.out.cell 2
  have y3 := HY7.out.cell 3
  simp at x0 x1 x2 x3 y0 y1 y2 y3
  go_wp2_with fail
  have d0 := cls_cell (F := fun _ => False) (w0 := w7) x0 id
  have d1 := cls_cell (F := fun _ => False) (w0 := w7) x1 id
  have d2 := cls_cell (F := fun _ => False) (w0 := w7) x2 id
  have d3 := cls_cell (F := fun _ => False) (w0 := w7) x3 id
  have d4 := cls_cell (F := fun _ => False) (w0 := w7) y0 id
  have d5 := cls_cell (F := fun _ => False) (w0 := w7) y1 id
  have d6 := cls_cell (F := fun _ => False) (w0 := w7) y2 id
  have d7 := cls_cell (F := fun _ => False) (w0 := w7) y3 id
  clear x0 x1 x2 x3 y0 y1 y2 y3
  refine Mix.wp_region_mix [1, 12, 15] [1, 12, 15] (Step (fun _ => False) w7) (by kernel_rfl) (by kernel_rfl) Step.refl.drew (fun hcls => ?_)
  refine Mix.wpL_reads 1 (by rfl) ?_
  simp only [List.take_succ_cons, List.drop_succ_cons, List.take_zero, List.drop_zero]
  repeat (go_big_quiet_step (fail))
  refine wpQuiet_nil ?_
  refine Mix.wpL_op (by rfl) (fun K hK => ?_)
  go_simp
  refine (HR.out _).mono ?_
  rintro e wa ⟨rfl, hSa⟩
  have HSa := Lib.hid (Step.refl.drew.trans hSa)
  refine hK _ _ (fun hlt => Mix.cl HSa.out) ?_
  clear hK K hSa
  refine Mix.wpL_reads 10 (by rfl) ?_
  simp only [List.take_succ_cons, List.drop_succ_cons, List.take_zero, List.drop_zero]
  repeat (go_big_quiet_step (fail))
  refine wpQuiet_nil ?_
  refine Mix.wpL_op (by rfl) (fun K hK => ?_)
  go_simp
  refine (HSi.out _ (HS7.out.trans HSa.out)).mono ?_
  rintro e wb ⟨rfl, hSb⟩
  have HSb := Lib.hid (HSa.out.trans hSb)
  refine hK _ _ (fun hlt => Mix.cl HSb.out) ?_
  clear hK K hSb HSa
  refine Mix.wpL_reads 2 (by rfl) ?_
  simp only [List.take_succ_cons, List.drop_succ_cons, List.take_zero, List.drop_zero]
  repeat (go_big_quiet_step (fail))
  refine wpQuiet_nil ?_
  refine Mix.wpL_op (by rfl) (fun K hK => ?_)
  go_simp
  refine (HSr.out _ (HS7.out.trans HSb.out)).mono ?_
  rintro e wc ⟨rfl, hSc⟩
  have HSc := Lib.hid (HSb.out.trans hSc)
  refine hK _ _ (fun hlt => Mix.cl HSc.out) ?_
  clear hK K hSc HSb
  refine Mix.wpL_reads 2 (by rfl) ?_
  simp only [List.take_succ_cons, List.drop_succ_cons, List.take_zero, List.drop_zero]
  repeat (go_big_quiet_step (fail))
  refine wpQuiet_nil ?_
  refine Mix.wpL_end ?_
  clear d0 d1 d2 d3 d4 d5 d6 d7
  go_wp2_with fail
  go_ret
  exact ⟨rfl, HS7.out.trans HSc.out⟩
end Go.Proofs.Ytfemeendkjcffaa
