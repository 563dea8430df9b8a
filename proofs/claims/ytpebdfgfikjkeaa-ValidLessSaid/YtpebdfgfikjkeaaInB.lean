/-
  instr: the walk of Right, a way at a time.
-/
import Derived.Test.YtpebdfgfikjkeaaInA
set_option linter.unusedVariables false
set_option linter.unusedSimpArgs false
namespace Go.Proofs.Ytpebdfgfikjkeaa
open Go.RowKit

/-- What an instruction is, its second field said. -/
def infM (i : Inf) (m : Int) : Value := .agg #[.string (str i.name), .int .i64 m, .string (str i.par), .string (str i.res), .bool i.free]
theorem infM_of (i : Inf) : infV i = infM i (i.imm : Int) := rfl
theorem field_imm (i : Inf) (m : Int) : ∀ w : World, (Instr.field 117 (.agg #[.string (str i.name), .int .i64 m, .string (str i.par), .string (str i.res), .bool i.free]) 1).run Try.prog w = .ok (.int .i64 m) w := fun _ => by kernel_rfl

set_option maxRecDepth 100000 in
set_option maxHeartbeats 1600000 in
theorem many_no (w : World) (m : Int) (h : ¬ m = 3) : Calls Try.prog 67 #[.int .i64 m] w fun e w' => e = .returned (.int .i64 1) ∧ w' = w := by
  go_enter Try.func67, Try.ntmps67
  go_wp2_with fail
  go_ret
  exact ⟨rfl, rfl⟩

set_option maxRecDepth 100000 in
set_option maxHeartbeats 1600000 in
theorem right_l1 (w : World) (op : Int) (a : Int) (b : Int) (n : Nat) (c : Nat) (A : Option Addr) (i : Inf) (m : Int) (hn : 0 < n) (hm : ¬ m = 3)
    (HC : Hid (∀ w, Calls Try.prog 66 #[.int .u8 op] w fun e w' => e = .returned (.int .i64 0) ∧ Step (fun _ => False) w w'))
    (HO : Hid (∀ w, Calls Try.prog 47 #[.int .u8 op] w fun e w' => e = .returned (infM i m) ∧ Step (fun _ => False) w w')) :
    Calls Try.prog 46 #[.agg #[.int .u8 op, .int .u64 a, .int .u64 b, .slice A n c]] w fun e w' => e = .returned (.int .i64 1) ∧ Step (fun _ => False) w w' := by
  have hfd := field_imm i m
  have g0 : (0 : Int) < n := by omega
  have g1 : ¬ m = 3 := by omega
  have p1 : (m != 3) = true := bne_iff_ne.2 (by omega)
  have q1 : (m == 3) = false := beq_eq_false_iff_ne.2 (by omega)
  go_enter Try.func46, Try.ntmps46
  go_wp2_with fail
  refine (HC.out _).mono ?_
  rintro e w5 ⟨rfl, hS5⟩
  have HB5 := Lib.hid ((Blk.new w 40 #[.int .u8 op, .int .u64 a, .int .u64 b, .slice A n c]).step hS5 id)
  have HS5 := Lib.hid ((Step.refl.alloc _).trans hS5)
  clear hS5
  obtain ⟨X, hX⟩ : ∃ X, X = w.heap.size := ⟨_, rfl⟩
  rw [← hX] at HB5 ⊢
  clear hX
  have x0 := HB5.out.cell 0
  simp at x0
  go_wp2_with fail
  refine (HO.out _).mono ?_
  rintro e w6 ⟨rfl, hS6⟩
  have HB6 := Lib.hid (HB5.out.step hS6 id)
  have HS6 := Lib.hid (HS5.out.trans hS6)
  clear hS6 HS5 HB5 x0
  have y0 := HB6.out.cell 0
  have y1 := HB6.out.cell 1
  have y2 := HB6.out.cell 2
  have y3 := HB6.out.cell 3
  simp at y0 y1 y2 y3
  simp only [infM]
  go_wp2_with fail
  refine (many_no _ m (by omega)).mono ?_
  rintro e w7 ⟨rfl, hw7⟩
  obtain rfl : w6 = w7 := hw7.symm
  go_wp2_with fail
  go_ret
  exact ⟨rfl, HS6.out⟩

set_option maxRecDepth 100000 in
set_option maxHeartbeats 1600000 in
theorem right_l2 (w : World) (op : Int) (a : Int) (b : Int) (n : Nat) (c : Nat) (A : Option Addr) (i : Inf) (hn : 10000 < n)
    (HC : Hid (∀ w, Calls Try.prog 66 #[.int .u8 op] w fun e w' => e = .returned (.int .i64 0) ∧ Step (fun _ => False) w w'))
    (HO : Hid (∀ w, Calls Try.prog 47 #[.int .u8 op] w fun e w' => e = .returned (infM i 3) ∧ Step (fun _ => False) w w')) :
    Calls Try.prog 46 #[.agg #[.int .u8 op, .int .u64 a, .int .u64 b, .slice A n c]] w fun e w' => e = .returned (.int .i64 29) ∧ Step (fun _ => False) w w' := by
  have hfd := field_imm i 3
  have g0 : (0 : Int) < n := by omega
  have g1 : (10000 : Int) < n := by omega
  go_enter Try.func46, Try.ntmps46
  go_wp2_with fail
  refine (HC.out _).mono ?_
  rintro e w5 ⟨rfl, hS5⟩
  have HB5 := Lib.hid ((Blk.new w 40 #[.int .u8 op, .int .u64 a, .int .u64 b, .slice A n c]).step hS5 id)
  have HS5 := Lib.hid ((Step.refl.alloc _).trans hS5)
  clear hS5
  obtain ⟨X, hX⟩ : ∃ X, X = w.heap.size := ⟨_, rfl⟩
  rw [← hX] at HB5 ⊢
  clear hX
  have x0 := HB5.out.cell 0
  simp at x0
  go_wp2_with fail
  refine (HO.out _).mono ?_
  rintro e w6 ⟨rfl, hS6⟩
  have HB6 := Lib.hid (HB5.out.step hS6 id)
  have HS6 := Lib.hid (HS5.out.trans hS6)
  clear hS6 HS5 HB5 x0
  have y0 := HB6.out.cell 0
  have y1 := HB6.out.cell 1
  have y2 := HB6.out.cell 2
  have y3 := HB6.out.cell 3
  simp at y0 y1 y2 y3
  simp only [infM]
  go_wp2_with fail
  refine (many_walk _ 3).mono ?_
  rintro e w7 ⟨rfl, hw7⟩
  obtain rfl : w6 = w7 := hw7.symm
  go_wp2_with fail
  go_ret
  exact ⟨rfl, HS6.out⟩

set_option maxRecDepth 100000 in
set_option maxHeartbeats 1600000 in
theorem right_z1 (w : World) (op : Int) (a : Int) (b : Int) (c : Nat) (A : Option Addr) (i : Inf) (m : Int) (hb : ¬ b = 0)(hm : ¬ m = 8)
    (HC : Hid (∀ w, Calls Try.prog 66 #[.int .u8 op] w fun e w' => e = .returned (.int .i64 0) ∧ Step (fun _ => False) w w'))
    (HO : Hid (∀ w, Calls Try.prog 47 #[.int .u8 op] w fun e w' => e = .returned (infM i m) ∧ Step (fun _ => False) w w')) :
    Calls Try.prog 46 #[.agg #[.int .u8 op, .int .u64 a, .int .u64 b, .slice A 0 c]] w fun e w' => e = .returned (.int .i64 1) ∧ Step (fun _ => False) w w' := by
  have hfd := field_imm i m
  have g0 : ¬ b = 0 := by omega
  have g1 : ¬ m = 8 := by omega
  have p0 : (b != 0) = true := bne_iff_ne.2 (by omega)
  have q0 : (b == 0) = false := beq_eq_false_iff_ne.2 (by omega)
  have p1 : (m != 8) = true := bne_iff_ne.2 (by omega)
  have q1 : (m == 8) = false := beq_eq_false_iff_ne.2 (by omega)
  go_enter Try.func46, Try.ntmps46
  go_wp2_with fail
  refine (HC.out _).mono ?_
  rintro e w5 ⟨rfl, hS5⟩
  have HB5 := Lib.hid ((Blk.new w 40 #[.int .u8 op, .int .u64 a, .int .u64 b, .slice A 0 c]).step hS5 id)
  have HS5 := Lib.hid ((Step.refl.alloc _).trans hS5)
  clear hS5
  obtain ⟨X, hX⟩ : ∃ X, X = w.heap.size := ⟨_, rfl⟩
  rw [← hX] at HB5 ⊢
  clear hX
  have x0 := HB5.out.cell 0
  simp at x0
  go_wp2_with fail
  refine (HO.out _).mono ?_
  rintro e w6 ⟨rfl, hS6⟩
  have HB6 := Lib.hid (HB5.out.step hS6 id)
  have HS6 := Lib.hid (HS5.out.trans hS6)
  clear hS6 HS5 HB5 x0
  have y0 := HB6.out.cell 0
  have y1 := HB6.out.cell 1
  have y2 := HB6.out.cell 2
  have y3 := HB6.out.cell 3
  simp at y0 y1 y2 y3
  simp only [infM]
  go_wp2_with fail
  go_ret
  exact ⟨rfl, HS6.out⟩

set_option maxRecDepth 100000 in
set_option maxHeartbeats 1600000 in
theorem right_y1 (w : World) (op : Int) (a : Int) (b : Int) (n : Nat) (c : Nat) (A : Option Addr) (i : Inf) (hn : 0 < n ∧ n ≤ 10000)(hb : ¬ b = 0)
    (HC : Hid (∀ w, Calls Try.prog 66 #[.int .u8 op] w fun e w' => e = .returned (.int .i64 0) ∧ Step (fun _ => False) w w'))
    (HO : Hid (∀ w, Calls Try.prog 47 #[.int .u8 op] w fun e w' => e = .returned (infM i 3) ∧ Step (fun _ => False) w w')) :
    Calls Try.prog 46 #[.agg #[.int .u8 op, .int .u64 a, .int .u64 b, .slice A n c]] w fun e w' => e = .returned (.int .i64 1) ∧ Step (fun _ => False) w w' := by
  have hfd := field_imm i 3
  have g0 : (0 : Int) < n := by omega
  have g1 : ¬ (10000 : Int) < n := by omega
  have g2 : ¬ b = 0 := by omega
  have p2 : (b != 0) = true := bne_iff_ne.2 (by omega)
  have q2 : (b == 0) = false := beq_eq_false_iff_ne.2 (by omega)
  go_enter Try.func46, Try.ntmps46
  go_wp2_with fail
  refine (HC.out _).mono ?_
  rintro e w5 ⟨rfl, hS5⟩
  have HB5 := Lib.hid ((Blk.new w 40 #[.int .u8 op, .int .u64 a, .int .u64 b, .slice A n c]).step hS5 id)
  have HS5 := Lib.hid ((Step.refl.alloc _).trans hS5)
  clear hS5
  obtain ⟨X, hX⟩ : ∃ X, X = w.heap.size := ⟨_, rfl⟩
  rw [← hX] at HB5 ⊢
  clear hX
  have x0 := HB5.out.cell 0
  simp at x0
  go_wp2_with fail
  refine (HO.out _).mono ?_
  rintro e w6 ⟨rfl, hS6⟩
  have HB6 := Lib.hid (HB5.out.step hS6 id)
  have HS6 := Lib.hid (HS5.out.trans hS6)
  clear hS6 HS5 HB5 x0
  have y0 := HB6.out.cell 0
  have y1 := HB6.out.cell 1
  have y2 := HB6.out.cell 2
  have y3 := HB6.out.cell 3
  simp at y0 y1 y2 y3
  simp only [infM]
  go_wp2_with fail
  go_ret
  exact ⟨rfl, HS6.out⟩

set_option maxRecDepth 100000 in
set_option maxHeartbeats 1600000 in
theorem right_z2_0_t (w : World) (op : Int) (c : Nat) (A : Option Addr) (i : Inf) 
    (HC : Hid (∀ w, Calls Try.prog 66 #[.int .u8 op] w fun e w' => e = .returned (.int .i64 0) ∧ Step (fun _ => False) w w'))
    (HO : Hid (∀ w, Calls Try.prog 47 #[.int .u8 op] w fun e w' => e = .returned (infM i 0) ∧ Step (fun _ => False) w w')) :
    Calls Try.prog 46 #[.agg #[.int .u8 op, .int .u64 0, .int .u64 0, .slice A 0 c]] w fun e w' => e = .returned (.int .i64 0) ∧ Step (fun _ => False) w w' := by
  have hfd := field_imm i 0
  go_enter Try.func46, Try.ntmps46
  go_wp2_with fail
  refine (HC.out _).mono ?_
  rintro e w5 ⟨rfl, hS5⟩
  have HB5 := Lib.hid ((Blk.new w 40 #[.int .u8 op, .int .u64 0, .int .u64 0, .slice A 0 c]).step hS5 id)
  have HS5 := Lib.hid ((Step.refl.alloc _).trans hS5)
  clear hS5
  obtain ⟨X, hX⟩ : ∃ X, X = w.heap.size := ⟨_, rfl⟩
  rw [← hX] at HB5 ⊢
  clear hX
  have x0 := HB5.out.cell 0
  simp at x0
  go_wp2_with fail
  refine (HO.out _).mono ?_
  rintro e w6 ⟨rfl, hS6⟩
  have HB6 := Lib.hid (HB5.out.step hS6 id)
  have HS6 := Lib.hid (HS5.out.trans hS6)
  clear hS6 HS5 HB5 x0
  have y0 := HB6.out.cell 0
  have y1 := HB6.out.cell 1
  have y2 := HB6.out.cell 2
  have y3 := HB6.out.cell 3
  simp at y0 y1 y2 y3
  simp only [infM]
  go_wp2_with fail
  refine (unless_walk _ true).mono ?_
  rintro e w7 ⟨rfl, hw7⟩
  obtain rfl : w6 = w7 := hw7.symm
  go_wp2_with fail
  go_ret
  exact ⟨rfl, HS6.out⟩

set_option maxRecDepth 100000 in
set_option maxHeartbeats 1600000 in
theorem right_z2_0_f (w : World) (op : Int) (a : Int) (c : Nat) (A : Option Addr) (i : Inf) (ha : ¬ a = 0)
    (HC : Hid (∀ w, Calls Try.prog 66 #[.int .u8 op] w fun e w' => e = .returned (.int .i64 0) ∧ Step (fun _ => False) w w'))
    (HO : Hid (∀ w, Calls Try.prog 47 #[.int .u8 op] w fun e w' => e = .returned (infM i 0) ∧ Step (fun _ => False) w w')) :
    Calls Try.prog 46 #[.agg #[.int .u8 op, .int .u64 a, .int .u64 0, .slice A 0 c]] w fun e w' => e = .returned (.int .i64 1) ∧ Step (fun _ => False) w w' := by
  have hfd := field_imm i 0
  have g0 : ¬ a = 0 := by omega
  have p0 : (a != 0) = true := bne_iff_ne.2 (by omega)
  have q0 : (a == 0) = false := beq_eq_false_iff_ne.2 (by omega)
  go_enter Try.func46, Try.ntmps46
  go_wp2_with fail
  refine (HC.out _).mono ?_
  rintro e w5 ⟨rfl, hS5⟩
  have HB5 := Lib.hid ((Blk.new w 40 #[.int .u8 op, .int .u64 a, .int .u64 0, .slice A 0 c]).step hS5 id)
  have HS5 := Lib.hid ((Step.refl.alloc _).trans hS5)
  clear hS5
  obtain ⟨X, hX⟩ : ∃ X, X = w.heap.size := ⟨_, rfl⟩
  rw [← hX] at HB5 ⊢
  clear hX
  have x0 := HB5.out.cell 0
  simp at x0
  go_wp2_with fail
  refine (HO.out _).mono ?_
  rintro e w6 ⟨rfl, hS6⟩
  have HB6 := Lib.hid (HB5.out.step hS6 id)
  have HS6 := Lib.hid (HS5.out.trans hS6)
  clear hS6 HS5 HB5 x0
  have y0 := HB6.out.cell 0
  have y1 := HB6.out.cell 1
  have y2 := HB6.out.cell 2
  have y3 := HB6.out.cell 3
  simp at y0 y1 y2 y3
  simp only [infM]
  go_wp2_with fail
  refine (unless_walk _ false).mono ?_
  rintro e w7 ⟨rfl, hw7⟩
  obtain rfl : w6 = w7 := hw7.symm
  go_wp2_with fail
  go_ret
  exact ⟨rfl, HS6.out⟩

set_option maxRecDepth 100000 in
set_option maxHeartbeats 1600000 in
theorem right_z2_9_t (w : World) (op : Int) (c : Nat) (A : Option Addr) (i : Inf) 
    (HC : Hid (∀ w, Calls Try.prog 66 #[.int .u8 op] w fun e w' => e = .returned (.int .i64 0) ∧ Step (fun _ => False) w w'))
    (HO : Hid (∀ w, Calls Try.prog 47 #[.int .u8 op] w fun e w' => e = .returned (infM i 9) ∧ Step (fun _ => False) w w')) :
    Calls Try.prog 46 #[.agg #[.int .u8 op, .int .u64 0, .int .u64 0, .slice A 0 c]] w fun e w' => e = .returned (.int .i64 0) ∧ Step (fun _ => False) w w' := by
  have hfd := field_imm i 9
  go_enter Try.func46, Try.ntmps46
  go_wp2_with fail
  refine (HC.out _).mono ?_
  rintro e w5 ⟨rfl, hS5⟩
  have HB5 := Lib.hid ((Blk.new w 40 #[.int .u8 op, .int .u64 0, .int .u64 0, .slice A 0 c]).step hS5 id)
  have HS5 := Lib.hid ((Step.refl.alloc _).trans hS5)
  clear hS5
  obtain ⟨X, hX⟩ : ∃ X, X = w.heap.size := ⟨_, rfl⟩
  rw [← hX] at HB5 ⊢
  clear hX
  have x0 := HB5.out.cell 0
  simp at x0
  go_wp2_with fail
  refine (HO.out _).mono ?_
  rintro e w6 ⟨rfl, hS6⟩
  have HB6 := Lib.hid (HB5.out.step hS6 id)
  have HS6 := Lib.hid (HS5.out.trans hS6)
  clear hS6 HS5 HB5 x0
  have y0 := HB6.out.cell 0
  have y1 := HB6.out.cell 1
  have y2 := HB6.out.cell 2
  have y3 := HB6.out.cell 3
  simp at y0 y1 y2 y3
  simp only [infM]
  go_wp2_with fail
  refine (unless_walk _ true).mono ?_
  rintro e w7 ⟨rfl, hw7⟩
  obtain rfl : w6 = w7 := hw7.symm
  go_wp2_with fail
  go_ret
  exact ⟨rfl, HS6.out⟩

set_option maxRecDepth 100000 in
set_option maxHeartbeats 1600000 in
theorem right_z2_9_f (w : World) (op : Int) (a : Int) (c : Nat) (A : Option Addr) (i : Inf) (ha : ¬ a = 0)
    (HC : Hid (∀ w, Calls Try.prog 66 #[.int .u8 op] w fun e w' => e = .returned (.int .i64 0) ∧ Step (fun _ => False) w w'))
    (HO : Hid (∀ w, Calls Try.prog 47 #[.int .u8 op] w fun e w' => e = .returned (infM i 9) ∧ Step (fun _ => False) w w')) :
    Calls Try.prog 46 #[.agg #[.int .u8 op, .int .u64 a, .int .u64 0, .slice A 0 c]] w fun e w' => e = .returned (.int .i64 1) ∧ Step (fun _ => False) w w' := by
  have hfd := field_imm i 9
  have g0 : ¬ a = 0 := by omega
  have p0 : (a != 0) = true := bne_iff_ne.2 (by omega)
  have q0 : (a == 0) = false := beq_eq_false_iff_ne.2 (by omega)
  go_enter Try.func46, Try.ntmps46
  go_wp2_with fail
  refine (HC.out _).mono ?_
  rintro e w5 ⟨rfl, hS5⟩
  have HB5 := Lib.hid ((Blk.new w 40 #[.int .u8 op, .int .u64 a, .int .u64 0, .slice A 0 c]).step hS5 id)
  have HS5 := Lib.hid ((Step.refl.alloc _).trans hS5)
  clear hS5
  obtain ⟨X, hX⟩ : ∃ X, X = w.heap.size := ⟨_, rfl⟩
  rw [← hX] at HB5 ⊢
  clear hX
  have x0 := HB5.out.cell 0
  simp at x0
  go_wp2_with fail
  refine (HO.out _).mono ?_
  rintro e w6 ⟨rfl, hS6⟩
  have HB6 := Lib.hid (HB5.out.step hS6 id)
  have HS6 := Lib.hid (HS5.out.trans hS6)
  clear hS6 HS5 HB5 x0
  have y0 := HB6.out.cell 0
  have y1 := HB6.out.cell 1
  have y2 := HB6.out.cell 2
  have y3 := HB6.out.cell 3
  simp at y0 y1 y2 y3
  simp only [infM]
  go_wp2_with fail
  refine (unless_walk _ false).mono ?_
  rintro e w7 ⟨rfl, hw7⟩
  obtain rfl : w6 = w7 := hw7.symm
  go_wp2_with fail
  go_ret
  exact ⟨rfl, HS6.out⟩

set_option maxRecDepth 100000 in
set_option maxHeartbeats 1600000 in
theorem right_z3 (w : World) (op : Int) (c : Nat) (A : Option Addr) (i : Inf) (an : Nat) 
    (HC : Hid (∀ w, Calls Try.prog 66 #[.int .u8 op] w fun e w' => e = .returned (.int .i64 0) ∧ Step (fun _ => False) w w'))
    (HO : Hid (∀ w, Calls Try.prog 47 #[.int .u8 op] w fun e w' => e = .returned (infM i 1) ∧ Step (fun _ => False) w w')) :
    Calls Try.prog 46 #[.agg #[.int .u8 op, .int .u64 (an : Int), .int .u64 0, .slice A 0 c]] w fun e w' => e = .returned (.int .i64 (blkF an : Nat)) ∧ Step (fun _ => False) w w' := by
  have hfd := field_imm i 1
  go_enter Try.func46, Try.ntmps46
  go_wp2_with fail
  refine (HC.out _).mono ?_
  rintro e w5 ⟨rfl, hS5⟩
  have HB5 := Lib.hid ((Blk.new w 40 #[.int .u8 op, .int .u64 (an : Int), .int .u64 0, .slice A 0 c]).step hS5 id)
  have HS5 := Lib.hid ((Step.refl.alloc _).trans hS5)
  clear hS5
  obtain ⟨X, hX⟩ : ∃ X, X = w.heap.size := ⟨_, rfl⟩
  rw [← hX] at HB5 ⊢
  clear hX
  have x0 := HB5.out.cell 0
  simp at x0
  go_wp2_with fail
  refine (HO.out _).mono ?_
  rintro e w6 ⟨rfl, hS6⟩
  have HB6 := Lib.hid (HB5.out.step hS6 id)
  have HS6 := Lib.hid (HS5.out.trans hS6)
  clear hS6 HS5 HB5 x0
  have y0 := HB6.out.cell 0
  have y1 := HB6.out.cell 1
  have y2 := HB6.out.cell 2
  have y3 := HB6.out.cell 3
  simp at y0 y1 y2 y3
  simp only [infM]
  go_wp2_with fail
  refine (block_walk _ an).mono ?_
  rintro e w7 ⟨rfl, hw7⟩
  obtain rfl : w6 = w7 := hw7.symm
  go_wp2_with fail
  go_ret
  exact ⟨rfl, HS6.out⟩

set_option maxRecDepth 100000 in
set_option maxHeartbeats 1600000 in
theorem right_z4 (w : World) (op : Int) (a : Int) (c : Nat) (A : Option Addr) (i : Inf) 
    (HC : Hid (∀ w, Calls Try.prog 66 #[.int .u8 op] w fun e w' => e = .returned (.int .i64 0) ∧ Step (fun _ => False) w w'))
    (HO : Hid (∀ w, Calls Try.prog 47 #[.int .u8 op] w fun e w' => e = .returned (infM i 11) ∧ Step (fun _ => False) w w')) :
    Calls Try.prog 46 #[.agg #[.int .u8 op, .int .u64 a, .int .u64 0, .slice A 0 c]] w fun e w' => e = .returned (.int .i64 0) ∧ Step (fun _ => False) w w' := by
  have hfd := field_imm i 11
  go_enter Try.func46, Try.ntmps46
  go_wp2_with fail
  refine (HC.out _).mono ?_
  rintro e w5 ⟨rfl, hS5⟩
  have HB5 := Lib.hid ((Blk.new w 40 #[.int .u8 op, .int .u64 a, .int .u64 0, .slice A 0 c]).step hS5 id)
  have HS5 := Lib.hid ((Step.refl.alloc _).trans hS5)
  clear hS5
  obtain ⟨X, hX⟩ : ∃ X, X = w.heap.size := ⟨_, rfl⟩
  rw [← hX] at HB5 ⊢
  clear hX
  have x0 := HB5.out.cell 0
  simp at x0
  go_wp2_with fail
  refine (HO.out _).mono ?_
  rintro e w6 ⟨rfl, hS6⟩
  have HB6 := Lib.hid (HB5.out.step hS6 id)
  have HS6 := Lib.hid (HS5.out.trans hS6)
  clear hS6 HS5 HB5 x0
  have y0 := HB6.out.cell 0
  have y1 := HB6.out.cell 1
  have y2 := HB6.out.cell 2
  have y3 := HB6.out.cell 3
  simp at y0 y1 y2 y3
  simp only [infM]
  go_wp2_with fail
  go_ret
  exact ⟨rfl, HS6.out⟩

set_option maxRecDepth 100000 in
set_option maxHeartbeats 1600000 in
theorem right_w5_t (w : World) (op : Int) (a : Int) (c : Nat) (A : Option Addr) (i : Inf) (ha : a < 4294967296)
    (HC : Hid (∀ w, Calls Try.prog 66 #[.int .u8 op] w fun e w' => e = .returned (.int .i64 0) ∧ Step (fun _ => False) w w'))
    (HO : Hid (∀ w, Calls Try.prog 47 #[.int .u8 op] w fun e w' => e = .returned (infM i 3) ∧ Step (fun _ => False) w w')) :
    Calls Try.prog 46 #[.agg #[.int .u8 op, .int .u64 a, .int .u64 0, .slice A 0 c]] w fun e w' => e = .returned (.int .i64 0) ∧ Step (fun _ => False) w w' := by
  have hfd := field_imm i 3
  have g0 : a < 4294967296 := by omega
  have p0 : decide (a < 4294967296) = true := decide_eq_true (by omega)
  go_enter Try.func46, Try.ntmps46
  go_wp2_with fail
  refine (HC.out _).mono ?_
  rintro e w5 ⟨rfl, hS5⟩
  have HB5 := Lib.hid ((Blk.new w 40 #[.int .u8 op, .int .u64 a, .int .u64 0, .slice A 0 c]).step hS5 id)
  have HS5 := Lib.hid ((Step.refl.alloc _).trans hS5)
  clear hS5
  obtain ⟨X, hX⟩ : ∃ X, X = w.heap.size := ⟨_, rfl⟩
  rw [← hX] at HB5 ⊢
  clear hX
  have x0 := HB5.out.cell 0
  simp at x0
  go_wp2_with fail
  refine (HO.out _).mono ?_
  rintro e w6 ⟨rfl, hS6⟩
  have HB6 := Lib.hid (HB5.out.step hS6 id)
  have HS6 := Lib.hid (HS5.out.trans hS6)
  clear hS6 HS5 HB5 x0
  have y0 := HB6.out.cell 0
  have y1 := HB6.out.cell 1
  have y2 := HB6.out.cell 2
  have y3 := HB6.out.cell 3
  simp at y0 y1 y2 y3
  simp only [infM]
  go_wp2_with fail
  refine (unless_walk _ true).mono ?_
  rintro e w7 ⟨rfl, hw7⟩
  obtain rfl : w6 = w7 := hw7.symm
  go_wp2_with fail
  go_ret
  exact ⟨rfl, HS6.out⟩

set_option maxRecDepth 100000 in
set_option maxHeartbeats 1600000 in
theorem right_w5_f (w : World) (op : Int) (a : Int) (c : Nat) (A : Option Addr) (i : Inf) (ha : ¬ a < 4294967296)
    (HC : Hid (∀ w, Calls Try.prog 66 #[.int .u8 op] w fun e w' => e = .returned (.int .i64 0) ∧ Step (fun _ => False) w w'))
    (HO : Hid (∀ w, Calls Try.prog 47 #[.int .u8 op] w fun e w' => e = .returned (infM i 3) ∧ Step (fun _ => False) w w')) :
    Calls Try.prog 46 #[.agg #[.int .u8 op, .int .u64 a, .int .u64 0, .slice A 0 c]] w fun e w' => e = .returned (.int .i64 1) ∧ Step (fun _ => False) w w' := by
  have hfd := field_imm i 3
  have g0 : ¬ a < 4294967296 := by omega
  have p0 : decide (a < 4294967296) = false := decide_eq_false (by omega)
  go_enter Try.func46, Try.ntmps46
  go_wp2_with fail
  refine (HC.out _).mono ?_
  rintro e w5 ⟨rfl, hS5⟩
  have HB5 := Lib.hid ((Blk.new w 40 #[.int .u8 op, .int .u64 a, .int .u64 0, .slice A 0 c]).step hS5 id)
  have HS5 := Lib.hid ((Step.refl.alloc _).trans hS5)
  clear hS5
  obtain ⟨X, hX⟩ : ∃ X, X = w.heap.size := ⟨_, rfl⟩
  rw [← hX] at HB5 ⊢
  clear hX
  have x0 := HB5.out.cell 0
  simp at x0
  go_wp2_with fail
  refine (HO.out _).mono ?_
  rintro e w6 ⟨rfl, hS6⟩
  have HB6 := Lib.hid (HB5.out.step hS6 id)
  have HS6 := Lib.hid (HS5.out.trans hS6)
  clear hS6 HS5 HB5 x0
  have y0 := HB6.out.cell 0
  have y1 := HB6.out.cell 1
  have y2 := HB6.out.cell 2
  have y3 := HB6.out.cell 3
  simp at y0 y1 y2 y3
  simp only [infM]
  go_wp2_with fail
  refine (unless_walk _ false).mono ?_
  rintro e w7 ⟨rfl, hw7⟩
  obtain rfl : w6 = w7 := hw7.symm
  go_wp2_with fail
  go_ret
  exact ⟨rfl, HS6.out⟩

set_option maxRecDepth 100000 in
set_option maxHeartbeats 1600000 in
theorem right_z5_t (w : World) (op : Int) (a : Int) (c : Nat) (A : Option Addr) (i : Inf) (m : Int) (hm : ¬ m = 0 ∧ ¬ m = 9 ∧ ¬ m = 1 ∧ ¬ m = 11 ∧ ¬ m = 3)(ha : a < 4294967296)
    (HC : Hid (∀ w, Calls Try.prog 66 #[.int .u8 op] w fun e w' => e = .returned (.int .i64 0) ∧ Step (fun _ => False) w w'))
    (HO : Hid (∀ w, Calls Try.prog 47 #[.int .u8 op] w fun e w' => e = .returned (infM i m) ∧ Step (fun _ => False) w w')) :
    Calls Try.prog 46 #[.agg #[.int .u8 op, .int .u64 a, .int .u64 0, .slice A 0 c]] w fun e w' => e = .returned (.int .i64 0) ∧ Step (fun _ => False) w w' := by
  have hfd := field_imm i m
  have g0 : ¬ m = 0 := by omega
  have g1 : ¬ m = 9 := by omega
  have g2 : ¬ m = 1 := by omega
  have g3 : ¬ m = 11 := by omega
  have g4 : ¬ m = 3 := by omega
  have g5 : a < 4294967296 := by omega
  have p0 : (m != 0) = true := bne_iff_ne.2 (by omega)
  have q0 : (m == 0) = false := beq_eq_false_iff_ne.2 (by omega)
  have p1 : (m != 9) = true := bne_iff_ne.2 (by omega)
  have q1 : (m == 9) = false := beq_eq_false_iff_ne.2 (by omega)
  have p2 : (m != 1) = true := bne_iff_ne.2 (by omega)
  have q2 : (m == 1) = false := beq_eq_false_iff_ne.2 (by omega)
  have p3 : (m != 11) = true := bne_iff_ne.2 (by omega)
  have q3 : (m == 11) = false := beq_eq_false_iff_ne.2 (by omega)
  have p4 : (m != 3) = true := bne_iff_ne.2 (by omega)
  have q4 : (m == 3) = false := beq_eq_false_iff_ne.2 (by omega)
  have p5 : decide (a < 4294967296) = true := decide_eq_true (by omega)
  go_enter Try.func46, Try.ntmps46
  go_wp2_with fail
  refine (HC.out _).mono ?_
  rintro e w5 ⟨rfl, hS5⟩
  have HB5 := Lib.hid ((Blk.new w 40 #[.int .u8 op, .int .u64 a, .int .u64 0, .slice A 0 c]).step hS5 id)
  have HS5 := Lib.hid ((Step.refl.alloc _).trans hS5)
  clear hS5
  obtain ⟨X, hX⟩ : ∃ X, X = w.heap.size := ⟨_, rfl⟩
  rw [← hX] at HB5 ⊢
  clear hX
  have x0 := HB5.out.cell 0
  simp at x0
  go_wp2_with fail
  refine (HO.out _).mono ?_
  rintro e w6 ⟨rfl, hS6⟩
  have HB6 := Lib.hid (HB5.out.step hS6 id)
  have HS6 := Lib.hid (HS5.out.trans hS6)
  clear hS6 HS5 HB5 x0
  have y0 := HB6.out.cell 0
  have y1 := HB6.out.cell 1
  have y2 := HB6.out.cell 2
  have y3 := HB6.out.cell 3
  simp at y0 y1 y2 y3
  simp only [infM]
  go_wp2_with fail
  refine (unless_walk _ true).mono ?_
  rintro e w7 ⟨rfl, hw7⟩
  obtain rfl : w6 = w7 := hw7.symm
  go_wp2_with fail
  go_ret
  exact ⟨rfl, HS6.out⟩

set_option maxRecDepth 100000 in
set_option maxHeartbeats 1600000 in
theorem right_z5_f (w : World) (op : Int) (a : Int) (c : Nat) (A : Option Addr) (i : Inf) (m : Int) (hm : ¬ m = 0 ∧ ¬ m = 9 ∧ ¬ m = 1 ∧ ¬ m = 11 ∧ ¬ m = 3)(ha : ¬ a < 4294967296)
    (HC : Hid (∀ w, Calls Try.prog 66 #[.int .u8 op] w fun e w' => e = .returned (.int .i64 0) ∧ Step (fun _ => False) w w'))
    (HO : Hid (∀ w, Calls Try.prog 47 #[.int .u8 op] w fun e w' => e = .returned (infM i m) ∧ Step (fun _ => False) w w')) :
    Calls Try.prog 46 #[.agg #[.int .u8 op, .int .u64 a, .int .u64 0, .slice A 0 c]] w fun e w' => e = .returned (.int .i64 1) ∧ Step (fun _ => False) w w' := by
  have hfd := field_imm i m
  have g0 : ¬ m = 0 := by omega
  have g1 : ¬ m = 9 := by omega
  have g2 : ¬ m = 1 := by omega
  have g3 : ¬ m = 11 := by omega
  have g4 : ¬ m = 3 := by omega
  have g5 : ¬ a < 4294967296 := by omega
  have p0 : (m != 0) = true := bne_iff_ne.2 (by omega)
  have q0 : (m == 0) = false := beq_eq_false_iff_ne.2 (by omega)
  have p1 : (m != 9) = true := bne_iff_ne.2 (by omega)
  have q1 : (m == 9) = false := beq_eq_false_iff_ne.2 (by omega)
  have p2 : (m != 1) = true := bne_iff_ne.2 (by omega)
  have q2 : (m == 1) = false := beq_eq_false_iff_ne.2 (by omega)
  have p3 : (m != 11) = true := bne_iff_ne.2 (by omega)
  have q3 : (m == 11) = false := beq_eq_false_iff_ne.2 (by omega)
  have p4 : (m != 3) = true := bne_iff_ne.2 (by omega)
  have q4 : (m == 3) = false := beq_eq_false_iff_ne.2 (by omega)
  have p5 : decide (a < 4294967296) = false := decide_eq_false (by omega)
  go_enter Try.func46, Try.ntmps46
  go_wp2_with fail
  refine (HC.out _).mono ?_
  rintro e w5 ⟨rfl, hS5⟩
  have HB5 := Lib.hid ((Blk.new w 40 #[.int .u8 op, .int .u64 a, .int .u64 0, .slice A 0 c]).step hS5 id)
  have HS5 := Lib.hid ((Step.refl.alloc _).trans hS5)
  clear hS5
  obtain ⟨X, hX⟩ : ∃ X, X = w.heap.size := ⟨_, rfl⟩
  rw [← hX] at HB5 ⊢
  clear hX
  have x0 := HB5.out.cell 0
  simp at x0
  go_wp2_with fail
  refine (HO.out _).mono ?_
  rintro e w6 ⟨rfl, hS6⟩
  have HB6 := Lib.hid (HB5.out.step hS6 id)
  have HS6 := Lib.hid (HS5.out.trans hS6)
  clear hS6 HS5 HB5 x0
  have y0 := HB6.out.cell 0
  have y1 := HB6.out.cell 1
  have y2 := HB6.out.cell 2
  have y3 := HB6.out.cell 3
  simp at y0 y1 y2 y3
  simp only [infM]
  go_wp2_with fail
  refine (unless_walk _ false).mono ?_
  rintro e w7 ⟨rfl, hw7⟩
  obtain rfl : w6 = w7 := hw7.symm
  go_wp2_with fail
  go_ret
  exact ⟨rfl, HS6.out⟩

set_option maxRecDepth 100000 in
set_option maxHeartbeats 1600000 in
theorem right_y5_t (w : World) (op : Int) (a : Int) (n : Nat) (c : Nat) (A : Option Addr) (i : Inf) (hn : 0 < n ∧ n ≤ 10000)(ha : a < 4294967296)
    (HC : Hid (∀ w, Calls Try.prog 66 #[.int .u8 op] w fun e w' => e = .returned (.int .i64 0) ∧ Step (fun _ => False) w w'))
    (HO : Hid (∀ w, Calls Try.prog 47 #[.int .u8 op] w fun e w' => e = .returned (infM i 3) ∧ Step (fun _ => False) w w')) :
    Calls Try.prog 46 #[.agg #[.int .u8 op, .int .u64 a, .int .u64 0, .slice A n c]] w fun e w' => e = .returned (.int .i64 0) ∧ Step (fun _ => False) w w' := by
  have hfd := field_imm i 3
  have g0 : (0 : Int) < n := by omega
  have g1 : ¬ (10000 : Int) < n := by omega
  have g2 : a < 4294967296 := by omega
  have p2 : decide (a < 4294967296) = true := decide_eq_true (by omega)
  go_enter Try.func46, Try.ntmps46
  go_wp2_with fail
  refine (HC.out _).mono ?_
  rintro e w5 ⟨rfl, hS5⟩
  have HB5 := Lib.hid ((Blk.new w 40 #[.int .u8 op, .int .u64 a, .int .u64 0, .slice A n c]).step hS5 id)
  have HS5 := Lib.hid ((Step.refl.alloc _).trans hS5)
  clear hS5
  obtain ⟨X, hX⟩ : ∃ X, X = w.heap.size := ⟨_, rfl⟩
  rw [← hX] at HB5 ⊢
  clear hX
  have x0 := HB5.out.cell 0
  simp at x0
  go_wp2_with fail
  refine (HO.out _).mono ?_
  rintro e w6 ⟨rfl, hS6⟩
  have HB6 := Lib.hid (HB5.out.step hS6 id)
  have HS6 := Lib.hid (HS5.out.trans hS6)
  clear hS6 HS5 HB5 x0
  have y0 := HB6.out.cell 0
  have y1 := HB6.out.cell 1
  have y2 := HB6.out.cell 2
  have y3 := HB6.out.cell 3
  simp at y0 y1 y2 y3
  simp only [infM]
  go_wp2_with fail
  refine (unless_walk _ true).mono ?_
  rintro e w7 ⟨rfl, hw7⟩
  obtain rfl : w6 = w7 := hw7.symm
  go_wp2_with fail
  go_ret
  exact ⟨rfl, HS6.out⟩

set_option maxRecDepth 100000 in
set_option maxHeartbeats 1600000 in
theorem right_y5_f (w : World) (op : Int) (a : Int) (n : Nat) (c : Nat) (A : Option Addr) (i : Inf) (hn : 0 < n ∧ n ≤ 10000)(ha : ¬ a < 4294967296)
    (HC : Hid (∀ w, Calls Try.prog 66 #[.int .u8 op] w fun e w' => e = .returned (.int .i64 0) ∧ Step (fun _ => False) w w'))
    (HO : Hid (∀ w, Calls Try.prog 47 #[.int .u8 op] w fun e w' => e = .returned (infM i 3) ∧ Step (fun _ => False) w w')) :
    Calls Try.prog 46 #[.agg #[.int .u8 op, .int .u64 a, .int .u64 0, .slice A n c]] w fun e w' => e = .returned (.int .i64 1) ∧ Step (fun _ => False) w w' := by
  have hfd := field_imm i 3
  have g0 : (0 : Int) < n := by omega
  have g1 : ¬ (10000 : Int) < n := by omega
  have g2 : ¬ a < 4294967296 := by omega
  have p2 : decide (a < 4294967296) = false := decide_eq_false (by omega)
  go_enter Try.func46, Try.ntmps46
  go_wp2_with fail
  refine (HC.out _).mono ?_
  rintro e w5 ⟨rfl, hS5⟩
  have HB5 := Lib.hid ((Blk.new w 40 #[.int .u8 op, .int .u64 a, .int .u64 0, .slice A n c]).step hS5 id)
  have HS5 := Lib.hid ((Step.refl.alloc _).trans hS5)
  clear hS5
  obtain ⟨X, hX⟩ : ∃ X, X = w.heap.size := ⟨_, rfl⟩
  rw [← hX] at HB5 ⊢
  clear hX
  have x0 := HB5.out.cell 0
  simp at x0
  go_wp2_with fail
  refine (HO.out _).mono ?_
  rintro e w6 ⟨rfl, hS6⟩
  have HB6 := Lib.hid (HB5.out.step hS6 id)
  have HS6 := Lib.hid (HS5.out.trans hS6)
  clear hS6 HS5 HB5 x0
  have y0 := HB6.out.cell 0
  have y1 := HB6.out.cell 1
  have y2 := HB6.out.cell 2
  have y3 := HB6.out.cell 3
  simp at y0 y1 y2 y3
  simp only [infM]
  go_wp2_with fail
  refine (unless_walk _ false).mono ?_
  rintro e w7 ⟨rfl, hw7⟩
  obtain rfl : w6 = w7 := hw7.symm
  go_wp2_with fail
  go_ret
  exact ⟨rfl, HS6.out⟩

set_option maxRecDepth 100000 in
set_option maxHeartbeats 1600000 in
theorem right_z8_t (w : World) (op : Int) (a : Int) (b : Int) (c : Nat) (A : Option Addr) (i : Inf) (hb : ¬ b = 0 ∧ b < 4294967296)(ha : a < 4294967296)
    (HC : Hid (∀ w, Calls Try.prog 66 #[.int .u8 op] w fun e w' => e = .returned (.int .i64 0) ∧ Step (fun _ => False) w w'))
    (HO : Hid (∀ w, Calls Try.prog 47 #[.int .u8 op] w fun e w' => e = .returned (infM i 8) ∧ Step (fun _ => False) w w')) :
    Calls Try.prog 46 #[.agg #[.int .u8 op, .int .u64 a, .int .u64 b, .slice A 0 c]] w fun e w' => e = .returned (.int .i64 0) ∧ Step (fun _ => False) w w' := by
  have hfd := field_imm i 8
  have g0 : ¬ b = 0 := by omega
  have g1 : b < 4294967296 := by omega
  have g2 : a < 4294967296 := by omega
  have p0 : (b != 0) = true := bne_iff_ne.2 (by omega)
  have q0 : (b == 0) = false := beq_eq_false_iff_ne.2 (by omega)
  have p1 : decide (b < 4294967296) = true := decide_eq_true (by omega)
  have p2 : decide (a < 4294967296) = true := decide_eq_true (by omega)
  go_enter Try.func46, Try.ntmps46
  go_wp2_with fail
  refine (HC.out _).mono ?_
  rintro e w5 ⟨rfl, hS5⟩
  have HB5 := Lib.hid ((Blk.new w 40 #[.int .u8 op, .int .u64 a, .int .u64 b, .slice A 0 c]).step hS5 id)
  have HS5 := Lib.hid ((Step.refl.alloc _).trans hS5)
  clear hS5
  obtain ⟨X, hX⟩ : ∃ X, X = w.heap.size := ⟨_, rfl⟩
  rw [← hX] at HB5 ⊢
  clear hX
  have x0 := HB5.out.cell 0
  simp at x0
  go_wp2_with fail
  refine (HO.out _).mono ?_
  rintro e w6 ⟨rfl, hS6⟩
  have HB6 := Lib.hid (HB5.out.step hS6 id)
  have HS6 := Lib.hid (HS5.out.trans hS6)
  clear hS6 HS5 HB5 x0
  have y0 := HB6.out.cell 0
  have y1 := HB6.out.cell 1
  have y2 := HB6.out.cell 2
  have y3 := HB6.out.cell 3
  simp at y0 y1 y2 y3
  simp only [infM]
  go_wp2_with fail
  refine (unless_walk _ true).mono ?_
  rintro e w7 ⟨rfl, hw7⟩
  obtain rfl : w6 = w7 := hw7.symm
  go_wp2_with fail
  go_ret
  exact ⟨rfl, HS6.out⟩

set_option maxRecDepth 100000 in
set_option maxHeartbeats 1600000 in
theorem right_z8_f (w : World) (op : Int) (a : Int) (b : Int) (c : Nat) (A : Option Addr) (i : Inf) (hb : ¬ b = 0 ∧ b < 4294967296)(ha : ¬ a < 4294967296)
    (HC : Hid (∀ w, Calls Try.prog 66 #[.int .u8 op] w fun e w' => e = .returned (.int .i64 0) ∧ Step (fun _ => False) w w'))
    (HO : Hid (∀ w, Calls Try.prog 47 #[.int .u8 op] w fun e w' => e = .returned (infM i 8) ∧ Step (fun _ => False) w w')) :
    Calls Try.prog 46 #[.agg #[.int .u8 op, .int .u64 a, .int .u64 b, .slice A 0 c]] w fun e w' => e = .returned (.int .i64 1) ∧ Step (fun _ => False) w w' := by
  have hfd := field_imm i 8
  have g0 : ¬ b = 0 := by omega
  have g1 : b < 4294967296 := by omega
  have g2 : ¬ a < 4294967296 := by omega
  have p0 : (b != 0) = true := bne_iff_ne.2 (by omega)
  have q0 : (b == 0) = false := beq_eq_false_iff_ne.2 (by omega)
  have p1 : decide (b < 4294967296) = true := decide_eq_true (by omega)
  have p2 : decide (a < 4294967296) = false := decide_eq_false (by omega)
  go_enter Try.func46, Try.ntmps46
  go_wp2_with fail
  refine (HC.out _).mono ?_
  rintro e w5 ⟨rfl, hS5⟩
  have HB5 := Lib.hid ((Blk.new w 40 #[.int .u8 op, .int .u64 a, .int .u64 b, .slice A 0 c]).step hS5 id)
  have HS5 := Lib.hid ((Step.refl.alloc _).trans hS5)
  clear hS5
  obtain ⟨X, hX⟩ : ∃ X, X = w.heap.size := ⟨_, rfl⟩
  rw [← hX] at HB5 ⊢
  clear hX
  have x0 := HB5.out.cell 0
  simp at x0
  go_wp2_with fail
  refine (HO.out _).mono ?_
  rintro e w6 ⟨rfl, hS6⟩
  have HB6 := Lib.hid (HB5.out.step hS6 id)
  have HS6 := Lib.hid (HS5.out.trans hS6)
  clear hS6 HS5 HB5 x0
  have y0 := HB6.out.cell 0
  have y1 := HB6.out.cell 1
  have y2 := HB6.out.cell 2
  have y3 := HB6.out.cell 3
  simp at y0 y1 y2 y3
  simp only [infM]
  go_wp2_with fail
  refine (unless_walk _ false).mono ?_
  rintro e w7 ⟨rfl, hw7⟩
  obtain rfl : w6 = w7 := hw7.symm
  go_wp2_with fail
  go_ret
  exact ⟨rfl, HS6.out⟩

set_option maxRecDepth 100000 in
set_option maxHeartbeats 1600000 in
theorem right_z8h_t (w : World) (op : Int) (a : Int) (b : Int) (c : Nat) (A : Option Addr) (i : Inf) (hb : ¬ b < 4294967296)(ha : a < 4294967296)
    (HC : Hid (∀ w, Calls Try.prog 66 #[.int .u8 op] w fun e w' => e = .returned (.int .i64 0) ∧ Step (fun _ => False) w w'))
    (HO : Hid (∀ w, Calls Try.prog 47 #[.int .u8 op] w fun e w' => e = .returned (infM i 8) ∧ Step (fun _ => False) w w')) :
    Calls Try.prog 46 #[.agg #[.int .u8 op, .int .u64 a, .int .u64 b, .slice A 0 c]] w fun e w' => e = .returned (.int .i64 1) ∧ Step (fun _ => False) w w' := by
  have hfd := field_imm i 8
  have g0 : ¬ b = 0 := by omega
  have g1 : ¬ b < 4294967296 := by omega
  have g2 : a < 4294967296 := by omega
  have p0 : (b != 0) = true := bne_iff_ne.2 (by omega)
  have q0 : (b == 0) = false := beq_eq_false_iff_ne.2 (by omega)
  have p1 : decide (b < 4294967296) = false := decide_eq_false (by omega)
  have p2 : decide (a < 4294967296) = true := decide_eq_true (by omega)
  go_enter Try.func46, Try.ntmps46
  go_wp2_with fail
  refine (HC.out _).mono ?_
  rintro e w5 ⟨rfl, hS5⟩
  have HB5 := Lib.hid ((Blk.new w 40 #[.int .u8 op, .int .u64 a, .int .u64 b, .slice A 0 c]).step hS5 id)
  have HS5 := Lib.hid ((Step.refl.alloc _).trans hS5)
  clear hS5
  obtain ⟨X, hX⟩ : ∃ X, X = w.heap.size := ⟨_, rfl⟩
  rw [← hX] at HB5 ⊢
  clear hX
  have x0 := HB5.out.cell 0
  simp at x0
  go_wp2_with fail
  refine (HO.out _).mono ?_
  rintro e w6 ⟨rfl, hS6⟩
  have HB6 := Lib.hid (HB5.out.step hS6 id)
  have HS6 := Lib.hid (HS5.out.trans hS6)
  clear hS6 HS5 HB5 x0
  have y0 := HB6.out.cell 0
  have y1 := HB6.out.cell 1
  have y2 := HB6.out.cell 2
  have y3 := HB6.out.cell 3
  simp at y0 y1 y2 y3
  simp only [infM]
  go_wp2_with fail
  refine (unless_walk _ false).mono ?_
  rintro e w7 ⟨rfl, hw7⟩
  obtain rfl : w6 = w7 := hw7.symm
  go_wp2_with fail
  go_ret
  exact ⟨rfl, HS6.out⟩

set_option maxRecDepth 100000 in
set_option maxHeartbeats 1600000 in
theorem right_z8h_f (w : World) (op : Int) (a : Int) (b : Int) (c : Nat) (A : Option Addr) (i : Inf) (hb : ¬ b < 4294967296)(ha : ¬ a < 4294967296)
    (HC : Hid (∀ w, Calls Try.prog 66 #[.int .u8 op] w fun e w' => e = .returned (.int .i64 0) ∧ Step (fun _ => False) w w'))
    (HO : Hid (∀ w, Calls Try.prog 47 #[.int .u8 op] w fun e w' => e = .returned (infM i 8) ∧ Step (fun _ => False) w w')) :
    Calls Try.prog 46 #[.agg #[.int .u8 op, .int .u64 a, .int .u64 b, .slice A 0 c]] w fun e w' => e = .returned (.int .i64 1) ∧ Step (fun _ => False) w w' := by
  have hfd := field_imm i 8
  have g0 : ¬ b = 0 := by omega
  have g1 : ¬ b < 4294967296 := by omega
  have g2 : ¬ a < 4294967296 := by omega
  have p0 : (b != 0) = true := bne_iff_ne.2 (by omega)
  have q0 : (b == 0) = false := beq_eq_false_iff_ne.2 (by omega)
  have p1 : decide (b < 4294967296) = false := decide_eq_false (by omega)
  have p2 : decide (a < 4294967296) = false := decide_eq_false (by omega)
  go_enter Try.func46, Try.ntmps46
  go_wp2_with fail
  refine (HC.out _).mono ?_
  rintro e w5 ⟨rfl, hS5⟩
  have HB5 := Lib.hid ((Blk.new w 40 #[.int .u8 op, .int .u64 a, .int .u64 b, .slice A 0 c]).step hS5 id)
  have HS5 := Lib.hid ((Step.refl.alloc _).trans hS5)
  clear hS5
  obtain ⟨X, hX⟩ : ∃ X, X = w.heap.size := ⟨_, rfl⟩
  rw [← hX] at HB5 ⊢
  clear hX
  have x0 := HB5.out.cell 0
  simp at x0
  go_wp2_with fail
  refine (HO.out _).mono ?_
  rintro e w6 ⟨rfl, hS6⟩
  have HB6 := Lib.hid (HB5.out.step hS6 id)
  have HS6 := Lib.hid (HS5.out.trans hS6)
  clear hS6 HS5 HB5 x0
  have y0 := HB6.out.cell 0
  have y1 := HB6.out.cell 1
  have y2 := HB6.out.cell 2
  have y3 := HB6.out.cell 3
  simp at y0 y1 y2 y3
  simp only [infM]
  go_wp2_with fail
  refine (unless_walk _ false).mono ?_
  rintro e w7 ⟨rfl, hw7⟩
  obtain rfl : w6 = w7 := hw7.symm
  go_wp2_with fail
  go_ret
  exact ⟨rfl, HS6.out⟩
end Go.Proofs.Ytpebdfgfikjkeaa
