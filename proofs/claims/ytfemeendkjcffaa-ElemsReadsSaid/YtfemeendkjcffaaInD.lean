/-
  instr: the walk of the reference's Right, a way at a time.
-/
import Derived.Test.YtfemeendkjcffaaInC
set_option linter.unusedVariables false
set_option linter.unusedSimpArgs false
namespace Go.Proofs.Ytfemeendkjcffaa
open Go.RowKit

/-- A row of the reference, its third field said. -/
def rrM (r : Rr) (m : Int) : Value := .agg #[.int .i64 r.op, .string (str r.name), .int .i64 m, .string (str r.takes), .string (str r.has), .bool r.free]
theorem rrM_of (r : Rr) : rrV r = rrM r (r.imm : Int) := rfl

set_option maxRecDepth 100000 in
set_option maxHeartbeats 1600000 in
theorem rright_l1 (w : World) (op : Int) (a : Int) (b : Int) (n : Nat) (c : Nat) (A : Option Addr) (r : Rr) (m : Int) (hn : 0 < n) (hm : ¬ m = 3) (hop : 0 ≤ op ∧ op ≤ 255)
    (HC : Hid (∀ w, Calls Try.prog 27 #[.int .i64 op] w fun e w' => e = .returned (.int .i64 0) ∧ Step (fun _ => False) w w'))
    (HO : Hid (∀ w, Calls Try.prog 24 #[.int .i64 op] w fun e w' => e = .returned (.tuple #[rrM r m, .bool true]) ∧ Step (fun _ => False) w w')) :
    Calls Try.prog 54 #[.agg #[.int .u8 op, .int .u64 a, .int .u64 b, .slice A n c]] w fun e w' => e = .returned (.int .i64 1) ∧ Step (fun _ => False) w w' := by
  have hcv : IntKind.i64.wrap op = op := IntWalk.i64_in _ (by omega)
  have g0 : (0 : Int) < n := by omega
  have g1 : ¬ m = 3 := by omega
  have p1 : (m != 3) = true := bne_iff_ne.2 (by omega)
  have q1 : (m == 3) = false := beq_eq_false_iff_ne.2 (by omega)
  go_enter Try.func54, Try.ntmps54
  go_wp2_with fail
  refine (HC.out _).mono ?_
  rintro e w5 ⟨rfl, hS5⟩
  have HB5 := Lib.hid ((Blk.new w 50 #[.int .u8 op, .int .u64 a, .int .u64 b, .slice A n c]).step hS5 id)
  have HS5 := Lib.hid ((Step.refl.alloc _).trans hS5)
  clear hS5
  obtain ⟨X, hX⟩ : ∃ X, X = w.heap.size := ⟨_, rfl⟩
  rw [← hX] at HB5 ⊢
  clear hX
  have x0 := HB5.out.cell 0
  simp at x0
  go_wp2_with fail
  refine (HO.out _).mono ?_
  rintro e w6 ⟨rfl, hS6⟩
  have HB6 := Lib.hid (HB5.out.step hS6 id)
  have HS6 := Lib.hid (HS5.out.trans hS6)
  clear hS6 HS5 HB5 x0
  have hXl := HB6.out.lt
  have y0 := HB6.out.cell 0
  have y1 := HB6.out.cell 1
  have y2 := HB6.out.cell 2
  have y3 := HB6.out.cell 3
  simp at y0 y1 y2 y3
  simp only [rrM]
  go_wp2_with fail
  all_goals
    go_ret
    exact ⟨rfl, HS6.out.alloc _⟩

set_option maxRecDepth 100000 in
set_option maxHeartbeats 1600000 in
theorem rright_l2 (w : World) (op : Int) (a : Int) (b : Int) (n : Nat) (c : Nat) (A : Option Addr) (r : Rr) (hn : 10000 < n) (hop : 0 ≤ op ∧ op ≤ 255)
    (HC : Hid (∀ w, Calls Try.prog 27 #[.int .i64 op] w fun e w' => e = .returned (.int .i64 0) ∧ Step (fun _ => False) w w'))
    (HO : Hid (∀ w, Calls Try.prog 24 #[.int .i64 op] w fun e w' => e = .returned (.tuple #[rrM r 3, .bool true]) ∧ Step (fun _ => False) w w')) :
    Calls Try.prog 54 #[.agg #[.int .u8 op, .int .u64 a, .int .u64 b, .slice A n c]] w fun e w' => e = .returned (.int .i64 29) ∧ Step (fun _ => False) w w' := by
  have hcv : IntKind.i64.wrap op = op := IntWalk.i64_in _ (by omega)
  have g0 : (0 : Int) < n := by omega
  have g1 : (10000 : Int) < n := by omega
  go_enter Try.func54, Try.ntmps54
  go_wp2_with fail
  refine (HC.out _).mono ?_
  rintro e w5 ⟨rfl, hS5⟩
  have HB5 := Lib.hid ((Blk.new w 50 #[.int .u8 op, .int .u64 a, .int .u64 b, .slice A n c]).step hS5 id)
  have HS5 := Lib.hid ((Step.refl.alloc _).trans hS5)
  clear hS5
  obtain ⟨X, hX⟩ : ∃ X, X = w.heap.size := ⟨_, rfl⟩
  rw [← hX] at HB5 ⊢
  clear hX
  have x0 := HB5.out.cell 0
  simp at x0
  go_wp2_with fail
  refine (HO.out _).mono ?_
  rintro e w6 ⟨rfl, hS6⟩
  have HB6 := Lib.hid (HB5.out.step hS6 id)
  have HS6 := Lib.hid (HS5.out.trans hS6)
  clear hS6 HS5 HB5 x0
  have hXl := HB6.out.lt
  have y0 := HB6.out.cell 0
  have y1 := HB6.out.cell 1
  have y2 := HB6.out.cell 2
  have y3 := HB6.out.cell 3
  simp at y0 y1 y2 y3
  simp only [rrM]
  go_wp2_with fail
  all_goals
    go_ret
    exact ⟨rfl, HS6.out.alloc _⟩

set_option maxRecDepth 100000 in
set_option maxHeartbeats 1600000 in
theorem rright_z1 (w : World) (op : Int) (a : Int) (b : Int) (c : Nat) (A : Option Addr) (r : Rr) (m : Int) (hb : ¬ b = 0)(hm : ¬ m = 8) (hop : 0 ≤ op ∧ op ≤ 255)
    (HC : Hid (∀ w, Calls Try.prog 27 #[.int .i64 op] w fun e w' => e = .returned (.int .i64 0) ∧ Step (fun _ => False) w w'))
    (HO : Hid (∀ w, Calls Try.prog 24 #[.int .i64 op] w fun e w' => e = .returned (.tuple #[rrM r m, .bool true]) ∧ Step (fun _ => False) w w')) :
    Calls Try.prog 54 #[.agg #[.int .u8 op, .int .u64 a, .int .u64 b, .slice A 0 c]] w fun e w' => e = .returned (.int .i64 1) ∧ Step (fun _ => False) w w' := by
  have hcv : IntKind.i64.wrap op = op := IntWalk.i64_in _ (by omega)
  have g0 : ¬ b = 0 := by omega
  have g1 : ¬ m = 8 := by omega
  have p0 : (b != 0) = true := bne_iff_ne.2 (by omega)
  have q0 : (b == 0) = false := beq_eq_false_iff_ne.2 (by omega)
  have p1 : (m != 8) = true := bne_iff_ne.2 (by omega)
  have q1 : (m == 8) = false := beq_eq_false_iff_ne.2 (by omega)
  go_enter Try.func54, Try.ntmps54
  go_wp2_with fail
  refine (HC.out _).mono ?_
  rintro e w5 ⟨rfl, hS5⟩
  have HB5 := Lib.hid ((Blk.new w 50 #[.int .u8 op, .int .u64 a, .int .u64 b, .slice A 0 c]).step hS5 id)
  have HS5 := Lib.hid ((Step.refl.alloc _).trans hS5)
  clear hS5
  obtain ⟨X, hX⟩ : ∃ X, X = w.heap.size := ⟨_, rfl⟩
  rw [← hX] at HB5 ⊢
  clear hX
  have x0 := HB5.out.cell 0
  simp at x0
  go_wp2_with fail
  refine (HO.out _).mono ?_
  rintro e w6 ⟨rfl, hS6⟩
  have HB6 := Lib.hid (HB5.out.step hS6 id)
  have HS6 := Lib.hid (HS5.out.trans hS6)
  clear hS6 HS5 HB5 x0
  have hXl := HB6.out.lt
  have y0 := HB6.out.cell 0
  have y1 := HB6.out.cell 1
  have y2 := HB6.out.cell 2
  have y3 := HB6.out.cell 3
  simp at y0 y1 y2 y3
  simp only [rrM]
  go_wp2_with fail
  all_goals
    go_ret
    exact ⟨rfl, HS6.out.alloc _⟩

set_option maxRecDepth 100000 in
set_option maxHeartbeats 1600000 in
theorem rright_y1 (w : World) (op : Int) (a : Int) (b : Int) (n : Nat) (c : Nat) (A : Option Addr) (r : Rr) (hn : 0 < n ∧ n ≤ 10000)(hb : ¬ b = 0) (hop : 0 ≤ op ∧ op ≤ 255)
    (HC : Hid (∀ w, Calls Try.prog 27 #[.int .i64 op] w fun e w' => e = .returned (.int .i64 0) ∧ Step (fun _ => False) w w'))
    (HO : Hid (∀ w, Calls Try.prog 24 #[.int .i64 op] w fun e w' => e = .returned (.tuple #[rrM r 3, .bool true]) ∧ Step (fun _ => False) w w')) :
    Calls Try.prog 54 #[.agg #[.int .u8 op, .int .u64 a, .int .u64 b, .slice A n c]] w fun e w' => e = .returned (.int .i64 1) ∧ Step (fun _ => False) w w' := by
  have hcv : IntKind.i64.wrap op = op := IntWalk.i64_in _ (by omega)
  have g0 : (0 : Int) < n := by omega
  have g1 : ¬ (10000 : Int) < n := by omega
  have g2 : ¬ b = 0 := by omega
  have p2 : (b != 0) = true := bne_iff_ne.2 (by omega)
  have q2 : (b == 0) = false := beq_eq_false_iff_ne.2 (by omega)
  go_enter Try.func54, Try.ntmps54
  go_wp2_with fail
  refine (HC.out _).mono ?_
  rintro e w5 ⟨rfl, hS5⟩
  have HB5 := Lib.hid ((Blk.new w 50 #[.int .u8 op, .int .u64 a, .int .u64 b, .slice A n c]).step hS5 id)
  have HS5 := Lib.hid ((Step.refl.alloc _).trans hS5)
  clear hS5
  obtain ⟨X, hX⟩ : ∃ X, X = w.heap.size := ⟨_, rfl⟩
  rw [← hX] at HB5 ⊢
  clear hX
  have x0 := HB5.out.cell 0
  simp at x0
  go_wp2_with fail
  refine (HO.out _).mono ?_
  rintro e w6 ⟨rfl, hS6⟩
  have HB6 := Lib.hid (HB5.out.step hS6 id)
  have HS6 := Lib.hid (HS5.out.trans hS6)
  clear hS6 HS5 HB5 x0
  have hXl := HB6.out.lt
  have y0 := HB6.out.cell 0
  have y1 := HB6.out.cell 1
  have y2 := HB6.out.cell 2
  have y3 := HB6.out.cell 3
  simp at y0 y1 y2 y3
  simp only [rrM]
  go_wp2_with fail
  all_goals
    go_ret
    exact ⟨rfl, HS6.out.alloc _⟩

set_option maxRecDepth 100000 in
set_option maxHeartbeats 1600000 in
theorem rright_z2_0_t (w : World) (op : Int) (c : Nat) (A : Option Addr) (r : Rr)  (hop : 0 ≤ op ∧ op ≤ 255)
    (HC : Hid (∀ w, Calls Try.prog 27 #[.int .i64 op] w fun e w' => e = .returned (.int .i64 0) ∧ Step (fun _ => False) w w'))
    (HO : Hid (∀ w, Calls Try.prog 24 #[.int .i64 op] w fun e w' => e = .returned (.tuple #[rrM r 0, .bool true]) ∧ Step (fun _ => False) w w')) :
    Calls Try.prog 54 #[.agg #[.int .u8 op, .int .u64 0, .int .u64 0, .slice A 0 c]] w fun e w' => e = .returned (.int .i64 0) ∧ Step (fun _ => False) w w' := by
  have hcv : IntKind.i64.wrap op = op := IntWalk.i64_in _ (by omega)
  go_enter Try.func54, Try.ntmps54
  go_wp2_with fail
  refine (HC.out _).mono ?_
  rintro e w5 ⟨rfl, hS5⟩
  have HB5 := Lib.hid ((Blk.new w 50 #[.int .u8 op, .int .u64 0, .int .u64 0, .slice A 0 c]).step hS5 id)
  have HS5 := Lib.hid ((Step.refl.alloc _).trans hS5)
  clear hS5
  obtain ⟨X, hX⟩ : ∃ X, X = w.heap.size := ⟨_, rfl⟩
  rw [← hX] at HB5 ⊢
  clear hX
  have x0 := HB5.out.cell 0
  simp at x0
  go_wp2_with fail
  refine (HO.out _).mono ?_
  rintro e w6 ⟨rfl, hS6⟩
  have HB6 := Lib.hid (HB5.out.step hS6 id)
  have HS6 := Lib.hid (HS5.out.trans hS6)
  clear hS6 HS5 HB5 x0
  have hXl := HB6.out.lt
  have y0 := HB6.out.cell 0
  have y1 := HB6.out.cell 1
  have y2 := HB6.out.cell 2
  have y3 := HB6.out.cell 3
  simp at y0 y1 y2 y3
  simp only [rrM]
  go_wp2_with fail
  all_goals
    go_ret
    exact ⟨rfl, HS6.out.alloc _⟩

set_option maxRecDepth 100000 in
set_option maxHeartbeats 1600000 in
theorem rright_z2_0_f (w : World) (op : Int) (a : Int) (c : Nat) (A : Option Addr) (r : Rr) (ha : ¬ a = 0) (hop : 0 ≤ op ∧ op ≤ 255)
    (HC : Hid (∀ w, Calls Try.prog 27 #[.int .i64 op] w fun e w' => e = .returned (.int .i64 0) ∧ Step (fun _ => False) w w'))
    (HO : Hid (∀ w, Calls Try.prog 24 #[.int .i64 op] w fun e w' => e = .returned (.tuple #[rrM r 0, .bool true]) ∧ Step (fun _ => False) w w')) :
    Calls Try.prog 54 #[.agg #[.int .u8 op, .int .u64 a, .int .u64 0, .slice A 0 c]] w fun e w' => e = .returned (.int .i64 1) ∧ Step (fun _ => False) w w' := by
  have hcv : IntKind.i64.wrap op = op := IntWalk.i64_in _ (by omega)
  have g0 : ¬ a = 0 := by omega
  have p0 : (a != 0) = true := bne_iff_ne.2 (by omega)
  have q0 : (a == 0) = false := beq_eq_false_iff_ne.2 (by omega)
  go_enter Try.func54, Try.ntmps54
  go_wp2_with fail
  refine (HC.out _).mono ?_
  rintro e w5 ⟨rfl, hS5⟩
  have HB5 := Lib.hid ((Blk.new w 50 #[.int .u8 op, .int .u64 a, .int .u64 0, .slice A 0 c]).step hS5 id)
  have HS5 := Lib.hid ((Step.refl.alloc _).trans hS5)
  clear hS5
  obtain ⟨X, hX⟩ : ∃ X, X = w.heap.size := ⟨_, rfl⟩
  rw [← hX] at HB5 ⊢
  clear hX
  have x0 := HB5.out.cell 0
  simp at x0
  go_wp2_with fail
  refine (HO.out _).mono ?_
  rintro e w6 ⟨rfl, hS6⟩
  have HB6 := Lib.hid (HB5.out.step hS6 id)
  have HS6 := Lib.hid (HS5.out.trans hS6)
  clear hS6 HS5 HB5 x0
  have hXl := HB6.out.lt
  have y0 := HB6.out.cell 0
  have y1 := HB6.out.cell 1
  have y2 := HB6.out.cell 2
  have y3 := HB6.out.cell 3
  simp at y0 y1 y2 y3
  simp only [rrM]
  go_wp2_with fail
  all_goals
    go_ret
    exact ⟨rfl, HS6.out.alloc _⟩

set_option maxRecDepth 100000 in
set_option maxHeartbeats 1600000 in
theorem rright_z2_9_t (w : World) (op : Int) (c : Nat) (A : Option Addr) (r : Rr)  (hop : 0 ≤ op ∧ op ≤ 255)
    (HC : Hid (∀ w, Calls Try.prog 27 #[.int .i64 op] w fun e w' => e = .returned (.int .i64 0) ∧ Step (fun _ => False) w w'))
    (HO : Hid (∀ w, Calls Try.prog 24 #[.int .i64 op] w fun e w' => e = .returned (.tuple #[rrM r 9, .bool true]) ∧ Step (fun _ => False) w w')) :
    Calls Try.prog 54 #[.agg #[.int .u8 op, .int .u64 0, .int .u64 0, .slice A 0 c]] w fun e w' => e = .returned (.int .i64 0) ∧ Step (fun _ => False) w w' := by
  have hcv : IntKind.i64.wrap op = op := IntWalk.i64_in _ (by omega)
  go_enter Try.func54, Try.ntmps54
  go_wp2_with fail
  refine (HC.out _).mono ?_
  rintro e w5 ⟨rfl, hS5⟩
  have HB5 := Lib.hid ((Blk.new w 50 #[.int .u8 op, .int .u64 0, .int .u64 0, .slice A 0 c]).step hS5 id)
  have HS5 := Lib.hid ((Step.refl.alloc _).trans hS5)
  clear hS5
  obtain ⟨X, hX⟩ : ∃ X, X = w.heap.size := ⟨_, rfl⟩
  rw [← hX] at HB5 ⊢
  clear hX
  have x0 := HB5.out.cell 0
  simp at x0
  go_wp2_with fail
  refine (HO.out _).mono ?_
  rintro e w6 ⟨rfl, hS6⟩
  have HB6 := Lib.hid (HB5.out.step hS6 id)
  have HS6 := Lib.hid (HS5.out.trans hS6)
  clear hS6 HS5 HB5 x0
  have hXl := HB6.out.lt
  have y0 := HB6.out.cell 0
  have y1 := HB6.out.cell 1
  have y2 := HB6.out.cell 2
  have y3 := HB6.out.cell 3
  simp at y0 y1 y2 y3
  simp only [rrM]
  go_wp2_with fail
  all_goals
    go_ret
    exact ⟨rfl, HS6.out.alloc _⟩

set_option maxRecDepth 100000 in
set_option maxHeartbeats 1600000 in
theorem rright_z2_9_f (w : World) (op : Int) (a : Int) (c : Nat) (A : Option Addr) (r : Rr) (ha : ¬ a = 0) (hop : 0 ≤ op ∧ op ≤ 255)
    (HC : Hid (∀ w, Calls Try.prog 27 #[.int .i64 op] w fun e w' => e = .returned (.int .i64 0) ∧ Step (fun _ => False) w w'))
    (HO : Hid (∀ w, Calls Try.prog 24 #[.int .i64 op] w fun e w' => e = .returned (.tuple #[rrM r 9, .bool true]) ∧ Step (fun _ => False) w w')) :
    Calls Try.prog 54 #[.agg #[.int .u8 op, .int .u64 a, .int .u64 0, .slice A 0 c]] w fun e w' => e = .returned (.int .i64 1) ∧ Step (fun _ => False) w w' := by
  have hcv : IntKind.i64.wrap op = op := IntWalk.i64_in _ (by omega)
  have g0 : ¬ a = 0 := by omega
  have p0 : (a != 0) = true := bne_iff_ne.2 (by omega)
  have q0 : (a == 0) = false := beq_eq_false_iff_ne.2 (by omega)
  go_enter Try.func54, Try.ntmps54
  go_wp2_with fail
  refine (HC.out _).mono ?_
  rintro e w5 ⟨rfl, hS5⟩
  have HB5 := Lib.hid ((Blk.new w 50 #[.int .u8 op, .int .u64 a, .int .u64 0, .slice A 0 c]).step hS5 id)
  have HS5 := Lib.hid ((Step.refl.alloc _).trans hS5)
  clear hS5
  obtain ⟨X, hX⟩ : ∃ X, X = w.heap.size := ⟨_, rfl⟩
  rw [← hX] at HB5 ⊢
  clear hX
  have x0 := HB5.out.cell 0
  simp at x0
  go_wp2_with fail
  refine (HO.out _).mono ?_
  rintro e w6 ⟨rfl, hS6⟩
  have HB6 := Lib.hid (HB5.out.step hS6 id)
  have HS6 := Lib.hid (HS5.out.trans hS6)
  clear hS6 HS5 HB5 x0
  have hXl := HB6.out.lt
  have y0 := HB6.out.cell 0
  have y1 := HB6.out.cell 1
  have y2 := HB6.out.cell 2
  have y3 := HB6.out.cell 3
  simp at y0 y1 y2 y3
  simp only [rrM]
  go_wp2_with fail
  all_goals
    go_ret
    exact ⟨rfl, HS6.out.alloc _⟩

set_option maxRecDepth 100000 in
set_option maxHeartbeats 1600000 in
theorem rright_z3a (w : World) (op : Int) (c : Nat) (A : Option Addr) (r : Rr)  (hop : 0 ≤ op ∧ op ≤ 255)
    (HC : Hid (∀ w, Calls Try.prog 27 #[.int .i64 op] w fun e w' => e = .returned (.int .i64 0) ∧ Step (fun _ => False) w w'))
    (HO : Hid (∀ w, Calls Try.prog 24 #[.int .i64 op] w fun e w' => e = .returned (.tuple #[rrM r 1, .bool true]) ∧ Step (fun _ => False) w w')) :
    Calls Try.prog 54 #[.agg #[.int .u8 op, .int .u64 64, .int .u64 0, .slice A 0 c]] w fun e w' => e = .returned (.int .i64 0) ∧ Step (fun _ => False) w w' := by
  have hcv : IntKind.i64.wrap op = op := IntWalk.i64_in _ (by omega)
  go_enter Try.func54, Try.ntmps54
  go_wp2_with fail
  refine (HC.out _).mono ?_
  rintro e w5 ⟨rfl, hS5⟩
  have HB5 := Lib.hid ((Blk.new w 50 #[.int .u8 op, .int .u64 64, .int .u64 0, .slice A 0 c]).step hS5 id)
  have HS5 := Lib.hid ((Step.refl.alloc _).trans hS5)
  clear hS5
  obtain ⟨X, hX⟩ : ∃ X, X = w.heap.size := ⟨_, rfl⟩
  rw [← hX] at HB5 ⊢
  clear hX
  have x0 := HB5.out.cell 0
  simp at x0
  go_wp2_with fail
  refine (HO.out _).mono ?_
  rintro e w6 ⟨rfl, hS6⟩
  have HB6 := Lib.hid (HB5.out.step hS6 id)
  have HS6 := Lib.hid (HS5.out.trans hS6)
  clear hS6 HS5 HB5 x0
  have hXl := HB6.out.lt
  have y0 := HB6.out.cell 0
  have y1 := HB6.out.cell 1
  have y2 := HB6.out.cell 2
  have y3 := HB6.out.cell 3
  simp at y0 y1 y2 y3
  simp only [rrM]
  go_wp2_with fail
  all_goals
    go_ret
    exact ⟨rfl, HS6.out.alloc _⟩

set_option maxRecDepth 100000 in
set_option maxHeartbeats 1600000 in
theorem rright_z3b (w : World) (op : Int) (a : Int) (c : Nat) (A : Option Addr) (r : Rr) (ha : 255 < a) (hop : 0 ≤ op ∧ op ≤ 255)
    (HC : Hid (∀ w, Calls Try.prog 27 #[.int .i64 op] w fun e w' => e = .returned (.int .i64 0) ∧ Step (fun _ => False) w w'))
    (HO : Hid (∀ w, Calls Try.prog 24 #[.int .i64 op] w fun e w' => e = .returned (.tuple #[rrM r 1, .bool true]) ∧ Step (fun _ => False) w w')) :
    Calls Try.prog 54 #[.agg #[.int .u8 op, .int .u64 a, .int .u64 0, .slice A 0 c]] w fun e w' => e = .returned (.int .i64 7) ∧ Step (fun _ => False) w w' := by
  have hcv : IntKind.i64.wrap op = op := IntWalk.i64_in _ (by omega)
  have g0 : ¬ a = 64 := by omega
  have g1 : (256 : Int) ≤ a := by omega
  have g2 : min a 256 = 256 := by omega
  have p0 : (a != 64) = true := bne_iff_ne.2 (by omega)
  have q0 : (a == 64) = false := beq_eq_false_iff_ne.2 (by omega)
  go_enter Try.func54, Try.ntmps54
  go_wp2_with fail
  refine (HC.out _).mono ?_
  rintro e w5 ⟨rfl, hS5⟩
  have HB5 := Lib.hid ((Blk.new w 50 #[.int .u8 op, .int .u64 a, .int .u64 0, .slice A 0 c]).step hS5 id)
  have HS5 := Lib.hid ((Step.refl.alloc _).trans hS5)
  clear hS5
  obtain ⟨X, hX⟩ : ∃ X, X = w.heap.size := ⟨_, rfl⟩
  rw [← hX] at HB5 ⊢
  clear hX
  have x0 := HB5.out.cell 0
  simp at x0
  go_wp2_with fail
  refine (HO.out _).mono ?_
  rintro e w6 ⟨rfl, hS6⟩
  have HB6 := Lib.hid (HB5.out.step hS6 id)
  have HS6 := Lib.hid (HS5.out.trans hS6)
  clear hS6 HS5 HB5 x0
  have hXl := HB6.out.lt
  have y0 := HB6.out.cell 0
  have y1 := HB6.out.cell 1
  have y2 := HB6.out.cell 2
  have y3 := HB6.out.cell 3
  simp at y0 y1 y2 y3
  simp only [rrM]
  go_wp2_with fail
  all_goals
    refine (rvalue_walk _ 256 (by decide)).mono ?_
    rintro e w7 ⟨rfl, hw7⟩
    obtain rfl := hw7
    go_wp2_with fail
  all_goals
    go_ret
    exact ⟨rfl, HS6.out.alloc _⟩

set_option maxRecDepth 100000 in
set_option maxHeartbeats 1600000 in
theorem rright_z3c (w : World) (op : Int) (a : Int) (c : Nat) (A : Option Addr) (r : Rr) (h1 : 0 ≤ a ∧ a ≤ 255) (h2 : ¬ a = 64) (v : Int) (HV : Hid (∀ w, Calls Try.prog 148 #[.int .i64 a] w fun e w' => e = .returned (.int .i64 v) ∧ w' = w))  (hop : 0 ≤ op ∧ op ≤ 255)
    (HC : Hid (∀ w, Calls Try.prog 27 #[.int .i64 op] w fun e w' => e = .returned (.int .i64 0) ∧ Step (fun _ => False) w w'))
    (HO : Hid (∀ w, Calls Try.prog 24 #[.int .i64 op] w fun e w' => e = .returned (.tuple #[rrM r 1, .bool true]) ∧ Step (fun _ => False) w w')) :
    Calls Try.prog 54 #[.agg #[.int .u8 op, .int .u64 a, .int .u64 0, .slice A 0 c]] w fun e w' => e = .returned (.int .i64 v) ∧ Step (fun _ => False) w w' := by
  have hcv : IntKind.i64.wrap op = op := IntWalk.i64_in _ (by omega)
  have g0 : ¬ a = 64 := by omega
  have g1 : min a 256 = a := by omega
  have g2 : IntKind.i64.wrap a = a := IntWalk.i64_in _ (by omega)
  have p0 : (a != 64) = true := bne_iff_ne.2 (by omega)
  have q0 : (a == 64) = false := beq_eq_false_iff_ne.2 (by omega)
  go_enter Try.func54, Try.ntmps54
  go_wp2_with fail
  refine (HC.out _).mono ?_
  rintro e w5 ⟨rfl, hS5⟩
  have HB5 := Lib.hid ((Blk.new w 50 #[.int .u8 op, .int .u64 a, .int .u64 0, .slice A 0 c]).step hS5 id)
  have HS5 := Lib.hid ((Step.refl.alloc _).trans hS5)
  clear hS5
  obtain ⟨X, hX⟩ : ∃ X, X = w.heap.size := ⟨_, rfl⟩
  rw [← hX] at HB5 ⊢
  clear hX
  have x0 := HB5.out.cell 0
  simp at x0
  go_wp2_with fail
  refine (HO.out _).mono ?_
  rintro e w6 ⟨rfl, hS6⟩
  have HB6 := Lib.hid (HB5.out.step hS6 id)
  have HS6 := Lib.hid (HS5.out.trans hS6)
  clear hS6 HS5 HB5 x0
  have hXl := HB6.out.lt
  have y0 := HB6.out.cell 0
  have y1 := HB6.out.cell 1
  have y2 := HB6.out.cell 2
  have y3 := HB6.out.cell 3
  simp at y0 y1 y2 y3
  simp only [rrM]
  go_wp2_with fail
  all_goals
    refine (HV.out _).mono ?_
    rintro e w7 ⟨rfl, hw7⟩
    obtain rfl := hw7
    go_wp2_with fail
  all_goals
    go_ret
    exact ⟨rfl, HS6.out.alloc _⟩

set_option maxRecDepth 100000 in
set_option maxHeartbeats 1600000 in
theorem rright_z4 (w : World) (op : Int) (a : Int) (c : Nat) (A : Option Addr) (r : Rr)  (hop : 0 ≤ op ∧ op ≤ 255)
    (HC : Hid (∀ w, Calls Try.prog 27 #[.int .i64 op] w fun e w' => e = .returned (.int .i64 0) ∧ Step (fun _ => False) w w'))
    (HO : Hid (∀ w, Calls Try.prog 24 #[.int .i64 op] w fun e w' => e = .returned (.tuple #[rrM r 11, .bool true]) ∧ Step (fun _ => False) w w')) :
    Calls Try.prog 54 #[.agg #[.int .u8 op, .int .u64 a, .int .u64 0, .slice A 0 c]] w fun e w' => e = .returned (.int .i64 0) ∧ Step (fun _ => False) w w' := by
  have hcv : IntKind.i64.wrap op = op := IntWalk.i64_in _ (by omega)
  go_enter Try.func54, Try.ntmps54
  go_wp2_with fail
  refine (HC.out _).mono ?_
  rintro e w5 ⟨rfl, hS5⟩
  have HB5 := Lib.hid ((Blk.new w 50 #[.int .u8 op, .int .u64 a, .int .u64 0, .slice A 0 c]).step hS5 id)
  have HS5 := Lib.hid ((Step.refl.alloc _).trans hS5)
  clear hS5
  obtain ⟨X, hX⟩ : ∃ X, X = w.heap.size := ⟨_, rfl⟩
  rw [← hX] at HB5 ⊢
  clear hX
  have x0 := HB5.out.cell 0
  simp at x0
  go_wp2_with fail
  refine (HO.out _).mono ?_
  rintro e w6 ⟨rfl, hS6⟩
  have HB6 := Lib.hid (HB5.out.step hS6 id)
  have HS6 := Lib.hid (HS5.out.trans hS6)
  clear hS6 HS5 HB5 x0
  have hXl := HB6.out.lt
  have y0 := HB6.out.cell 0
  have y1 := HB6.out.cell 1
  have y2 := HB6.out.cell 2
  have y3 := HB6.out.cell 3
  simp at y0 y1 y2 y3
  simp only [rrM]
  go_wp2_with fail
  all_goals
    go_ret
    exact ⟨rfl, HS6.out.alloc _⟩

set_option maxRecDepth 100000 in
set_option maxHeartbeats 1600000 in
theorem rright_w5_t (w : World) (op : Int) (a : Int) (c : Nat) (A : Option Addr) (r : Rr) (ha : a < 4294967296) (hop : 0 ≤ op ∧ op ≤ 255)
    (HC : Hid (∀ w, Calls Try.prog 27 #[.int .i64 op] w fun e w' => e = .returned (.int .i64 0) ∧ Step (fun _ => False) w w'))
    (HO : Hid (∀ w, Calls Try.prog 24 #[.int .i64 op] w fun e w' => e = .returned (.tuple #[rrM r 3, .bool true]) ∧ Step (fun _ => False) w w')) :
    Calls Try.prog 54 #[.agg #[.int .u8 op, .int .u64 a, .int .u64 0, .slice A 0 c]] w fun e w' => e = .returned (.int .i64 0) ∧ Step (fun _ => False) w w' := by
  have hcv : IntKind.i64.wrap op = op := IntWalk.i64_in _ (by omega)
  have g0 : a < 4294967296 := by omega
  have p0 : decide (a < 4294967296) = true := decide_eq_true (by omega)
  go_enter Try.func54, Try.ntmps54
  go_wp2_with fail
  refine (HC.out _).mono ?_
  rintro e w5 ⟨rfl, hS5⟩
  have HB5 := Lib.hid ((Blk.new w 50 #[.int .u8 op, .int .u64 a, .int .u64 0, .slice A 0 c]).step hS5 id)
  have HS5 := Lib.hid ((Step.refl.alloc _).trans hS5)
  clear hS5
  obtain ⟨X, hX⟩ : ∃ X, X = w.heap.size := ⟨_, rfl⟩
  rw [← hX] at HB5 ⊢
  clear hX
  have x0 := HB5.out.cell 0
  simp at x0
  go_wp2_with fail
  refine (HO.out _).mono ?_
  rintro e w6 ⟨rfl, hS6⟩
  have HB6 := Lib.hid (HB5.out.step hS6 id)
  have HS6 := Lib.hid (HS5.out.trans hS6)
  clear hS6 HS5 HB5 x0
  have hXl := HB6.out.lt
  have y0 := HB6.out.cell 0
  have y1 := HB6.out.cell 1
  have y2 := HB6.out.cell 2
  have y3 := HB6.out.cell 3
  simp at y0 y1 y2 y3
  simp only [rrM]
  go_wp2_with fail
  all_goals
    go_ret
    exact ⟨rfl, HS6.out.alloc _⟩

set_option maxRecDepth 100000 in
set_option maxHeartbeats 1600000 in
theorem rright_w5_f (w : World) (op : Int) (a : Int) (c : Nat) (A : Option Addr) (r : Rr) (ha : ¬ a < 4294967296) (hop : 0 ≤ op ∧ op ≤ 255)
    (HC : Hid (∀ w, Calls Try.prog 27 #[.int .i64 op] w fun e w' => e = .returned (.int .i64 0) ∧ Step (fun _ => False) w w'))
    (HO : Hid (∀ w, Calls Try.prog 24 #[.int .i64 op] w fun e w' => e = .returned (.tuple #[rrM r 3, .bool true]) ∧ Step (fun _ => False) w w')) :
    Calls Try.prog 54 #[.agg #[.int .u8 op, .int .u64 a, .int .u64 0, .slice A 0 c]] w fun e w' => e = .returned (.int .i64 1) ∧ Step (fun _ => False) w w' := by
  have hcv : IntKind.i64.wrap op = op := IntWalk.i64_in _ (by omega)
  have g0 : ¬ a < 4294967296 := by omega
  have p0 : decide (a < 4294967296) = false := decide_eq_false (by omega)
  go_enter Try.func54, Try.ntmps54
  go_wp2_with fail
  refine (HC.out _).mono ?_
  rintro e w5 ⟨rfl, hS5⟩
  have HB5 := Lib.hid ((Blk.new w 50 #[.int .u8 op, .int .u64 a, .int .u64 0, .slice A 0 c]).step hS5 id)
  have HS5 := Lib.hid ((Step.refl.alloc _).trans hS5)
  clear hS5
  obtain ⟨X, hX⟩ : ∃ X, X = w.heap.size := ⟨_, rfl⟩
  rw [← hX] at HB5 ⊢
  clear hX
  have x0 := HB5.out.cell 0
  simp at x0
  go_wp2_with fail
  refine (HO.out _).mono ?_
  rintro e w6 ⟨rfl, hS6⟩
  have HB6 := Lib.hid (HB5.out.step hS6 id)
  have HS6 := Lib.hid (HS5.out.trans hS6)
  clear hS6 HS5 HB5 x0
  have hXl := HB6.out.lt
  have y0 := HB6.out.cell 0
  have y1 := HB6.out.cell 1
  have y2 := HB6.out.cell 2
  have y3 := HB6.out.cell 3
  simp at y0 y1 y2 y3
  simp only [rrM]
  go_wp2_with fail
  all_goals
    go_ret
    exact ⟨rfl, HS6.out.alloc _⟩

set_option maxRecDepth 100000 in
set_option maxHeartbeats 1600000 in
theorem rright_z5_t (w : World) (op : Int) (a : Int) (c : Nat) (A : Option Addr) (r : Rr) (m : Int) (hm : ¬ m = 0 ∧ ¬ m = 9 ∧ ¬ m = 1 ∧ ¬ m = 11 ∧ ¬ m = 3)(ha : a < 4294967296) (hop : 0 ≤ op ∧ op ≤ 255)
    (HC : Hid (∀ w, Calls Try.prog 27 #[.int .i64 op] w fun e w' => e = .returned (.int .i64 0) ∧ Step (fun _ => False) w w'))
    (HO : Hid (∀ w, Calls Try.prog 24 #[.int .i64 op] w fun e w' => e = .returned (.tuple #[rrM r m, .bool true]) ∧ Step (fun _ => False) w w')) :
    Calls Try.prog 54 #[.agg #[.int .u8 op, .int .u64 a, .int .u64 0, .slice A 0 c]] w fun e w' => e = .returned (.int .i64 0) ∧ Step (fun _ => False) w w' := by
  have hcv : IntKind.i64.wrap op = op := IntWalk.i64_in _ (by omega)
  have g0 : ¬ m = 0 := by omega
  have g1 : ¬ m = 9 := by omega
  have g2 : ¬ m = 1 := by omega
  have g3 : ¬ m = 11 := by omega
  have g4 : ¬ m = 3 := by omega
  have g5 : a < 4294967296 := by omega
  have p0 : (m != 0) = true := bne_iff_ne.2 (by omega)
  have q0 : (m == 0) = false := beq_eq_false_iff_ne.2 (by omega)
  have p1 : (m != 9) = true := bne_iff_ne.2 (by omega)
  have q1 : (m == 9) = false := beq_eq_false_iff_ne.2 (by omega)
  have p2 : (m != 1) = true := bne_iff_ne.2 (by omega)
  have q2 : (m == 1) = false := beq_eq_false_iff_ne.2 (by omega)
  have p3 : (m != 11) = true := bne_iff_ne.2 (by omega)
  have q3 : (m == 11) = false := beq_eq_false_iff_ne.2 (by omega)
  have p4 : (m != 3) = true := bne_iff_ne.2 (by omega)
  have q4 : (m == 3) = false := beq_eq_false_iff_ne.2 (by omega)
  have p5 : decide (a < 4294967296) = true := decide_eq_true (by omega)
  go_enter Try.func54, Try.ntmps54
  go_wp2_with fail
  refine (HC.out _).mono ?_
  rintro e w5 ⟨rfl, hS5⟩
  have HB5 := Lib.hid ((Blk.new w 50 #[.int .u8 op, .int .u64 a, .int .u64 0, .slice A 0 c]).step hS5 id)
  have HS5 := Lib.hid ((Step.refl.alloc _).trans hS5)
  clear hS5
  obtain ⟨X, hX⟩ : ∃ X, X = w.heap.size := ⟨_, rfl⟩
  rw [← hX] at HB5 ⊢
  clear hX
  have x0 := HB5.out.cell 0
  simp at x0
  go_wp2_with fail
  refine (HO.out _).mono ?_
  rintro e w6 ⟨rfl, hS6⟩
  have HB6 := Lib.hid (HB5.out.step hS6 id)
  have HS6 := Lib.hid (HS5.out.trans hS6)
  clear hS6 HS5 HB5 x0
  have hXl := HB6.out.lt
  have y0 := HB6.out.cell 0
  have y1 := HB6.out.cell 1
  have y2 := HB6.out.cell 2
  have y3 := HB6.out.cell 3
  simp at y0 y1 y2 y3
  simp only [rrM]
  go_wp2_with fail
  all_goals
    go_ret
    exact ⟨rfl, HS6.out.alloc _⟩

set_option maxRecDepth 100000 in
set_option maxHeartbeats 1600000 in
theorem rright_z5_f (w : World) (op : Int) (a : Int) (c : Nat) (A : Option Addr) (r : Rr) (m : Int) (hm : ¬ m = 0 ∧ ¬ m = 9 ∧ ¬ m = 1 ∧ ¬ m = 11 ∧ ¬ m = 3)(ha : ¬ a < 4294967296) (hop : 0 ≤ op ∧ op ≤ 255)
    (HC : Hid (∀ w, Calls Try.prog 27 #[.int .i64 op] w fun e w' => e = .returned (.int .i64 0) ∧ Step (fun _ => False) w w'))
    (HO : Hid (∀ w, Calls Try.prog 24 #[.int .i64 op] w fun e w' => e = .returned (.tuple #[rrM r m, .bool true]) ∧ Step (fun _ => False) w w')) :
    Calls Try.prog 54 #[.agg #[.int .u8 op, .int .u64 a, .int .u64 0, .slice A 0 c]] w fun e w' => e = .returned (.int .i64 1) ∧ Step (fun _ => False) w w' := by
  have hcv : IntKind.i64.wrap op = op := IntWalk.i64_in _ (by omega)
  have g0 : ¬ m = 0 := by omega
  have g1 : ¬ m = 9 := by omega
  have g2 : ¬ m = 1 := by omega
  have g3 : ¬ m = 11 := by omega
  have g4 : ¬ m = 3 := by omega
  have g5 : ¬ a < 4294967296 := by omega
  have p0 : (m != 0) = true := bne_iff_ne.2 (by omega)
  have q0 : (m == 0) = false := beq_eq_false_iff_ne.2 (by omega)
  have p1 : (m != 9) = true := bne_iff_ne.2 (by omega)
  have q1 : (m == 9) = false := beq_eq_false_iff_ne.2 (by omega)
  have p2 : (m != 1) = true := bne_iff_ne.2 (by omega)
  have q2 : (m == 1) = false := beq_eq_false_iff_ne.2 (by omega)
  have p3 : (m != 11) = true := bne_iff_ne.2 (by omega)
  have q3 : (m == 11) = false := beq_eq_false_iff_ne.2 (by omega)
  have p4 : (m != 3) = true := bne_iff_ne.2 (by omega)
  have q4 : (m == 3) = false := beq_eq_false_iff_ne.2 (by omega)
  have p5 : decide (a < 4294967296) = false := decide_eq_false (by omega)
  go_enter Try.func54, Try.ntmps54
  go_wp2_with fail
  refine (HC.out _).mono ?_
  rintro e w5 ⟨rfl, hS5⟩
  have HB5 := Lib.hid ((Blk.new w 50 #[.int .u8 op, .int .u64 a, .int .u64 0, .slice A 0 c]).step hS5 id)
  have HS5 := Lib.hid ((Step.refl.alloc _).trans hS5)
  clear hS5
  obtain ⟨X, hX⟩ : ∃ X, X = w.heap.size := ⟨_, rfl⟩
  rw [← hX] at HB5 ⊢
  clear hX
  have x0 := HB5.out.cell 0
  simp at x0
  go_wp2_with fail
  refine (HO.out _).mono ?_
  rintro e w6 ⟨rfl, hS6⟩
  have HB6 := Lib.hid (HB5.out.step hS6 id)
  have HS6 := Lib.hid (HS5.out.trans hS6)
  clear hS6 HS5 HB5 x0
  have hXl := HB6.out.lt
  have y0 := HB6.out.cell 0
  have y1 := HB6.out.cell 1
  have y2 := HB6.out.cell 2
  have y3 := HB6.out.cell 3
  simp at y0 y1 y2 y3
  simp only [rrM]
  go_wp2_with fail
  all_goals
    go_ret
    exact ⟨rfl, HS6.out.alloc _⟩

set_option maxRecDepth 100000 in
set_option maxHeartbeats 1600000 in
theorem rright_y5_t (w : World) (op : Int) (a : Int) (n : Nat) (c : Nat) (A : Option Addr) (r : Rr) (hn : 0 < n ∧ n ≤ 10000)(ha : a < 4294967296) (hop : 0 ≤ op ∧ op ≤ 255)
    (HC : Hid (∀ w, Calls Try.prog 27 #[.int .i64 op] w fun e w' => e = .returned (.int .i64 0) ∧ Step (fun _ => False) w w'))
    (HO : Hid (∀ w, Calls Try.prog 24 #[.int .i64 op] w fun e w' => e = .returned (.tuple #[rrM r 3, .bool true]) ∧ Step (fun _ => False) w w')) :
    Calls Try.prog 54 #[.agg #[.int .u8 op, .int .u64 a, .int .u64 0, .slice A n c]] w fun e w' => e = .returned (.int .i64 0) ∧ Step (fun _ => False) w w' := by
  have hcv : IntKind.i64.wrap op = op := IntWalk.i64_in _ (by omega)
  have g0 : (0 : Int) < n := by omega
  have g1 : ¬ (10000 : Int) < n := by omega
  have g2 : a < 4294967296 := by omega
  have p2 : decide (a < 4294967296) = true := decide_eq_true (by omega)
  go_enter Try.func54, Try.ntmps54
  go_wp2_with fail
  refine (HC.out _).mono ?_
  rintro e w5 ⟨rfl, hS5⟩
  have HB5 := Lib.hid ((Blk.new w 50 #[.int .u8 op, .int .u64 a, .int .u64 0, .slice A n c]).step hS5 id)
  have HS5 := Lib.hid ((Step.refl.alloc _).trans hS5)
  clear hS5
  obtain ⟨X, hX⟩ : ∃ X, X = w.heap.size := ⟨_, rfl⟩
  rw [← hX] at HB5 ⊢
  clear hX
  have x0 := HB5.out.cell 0
  simp at x0
  go_wp2_with fail
  refine (HO.out _).mono ?_
  rintro e w6 ⟨rfl, hS6⟩
  have HB6 := Lib.hid (HB5.out.step hS6 id)
  have HS6 := Lib.hid (HS5.out.trans hS6)
  clear hS6 HS5 HB5 x0
  have hXl := HB6.out.lt
  have y0 := HB6.out.cell 0
  have y1 := HB6.out.cell 1
  have y2 := HB6.out.cell 2
  have y3 := HB6.out.cell 3
  simp at y0 y1 y2 y3
  simp only [rrM]
  go_wp2_with fail
  all_goals
    go_ret
    exact ⟨rfl, HS6.out.alloc _⟩

set_option maxRecDepth 100000 in
set_option maxHeartbeats 1600000 in
theorem rright_y5_f (w : World) (op : Int) (a : Int) (n : Nat) (c : Nat) (A : Option Addr) (r : Rr) (hn : 0 < n ∧ n ≤ 10000)(ha : ¬ a < 4294967296) (hop : 0 ≤ op ∧ op ≤ 255)
    (HC : Hid (∀ w, Calls Try.prog 27 #[.int .i64 op] w fun e w' => e = .returned (.int .i64 0) ∧ Step (fun _ => False) w w'))
    (HO : Hid (∀ w, Calls Try.prog 24 #[.int .i64 op] w fun e w' => e = .returned (.tuple #[rrM r 3, .bool true]) ∧ Step (fun _ => False) w w')) :
    Calls Try.prog 54 #[.agg #[.int .u8 op, .int .u64 a, .int .u64 0, .slice A n c]] w fun e w' => e = .returned (.int .i64 1) ∧ Step (fun _ => False) w w' := by
  have hcv : IntKind.i64.wrap op = op := IntWalk.i64_in _ (by omega)
  have g0 : (0 : Int) < n := by omega
  have g1 : ¬ (10000 : Int) < n := by omega
  have g2 : ¬ a < 4294967296 := by omega
  have p2 : decide (a < 4294967296) = false := decide_eq_false (by omega)
  go_enter Try.func54, Try.ntmps54
  go_wp2_with fail
  refine (HC.out _).mono ?_
  rintro e w5 ⟨rfl, hS5⟩
  have HB5 := Lib.hid ((Blk.new w 50 #[.int .u8 op, .int .u64 a, .int .u64 0, .slice A n c]).step hS5 id)
  have HS5 := Lib.hid ((Step.refl.alloc _).trans hS5)
  clear hS5
  obtain ⟨X, hX⟩ : ∃ X, X = w.heap.size := ⟨_, rfl⟩
  rw [← hX] at HB5 ⊢
  clear hX
  have x0 := HB5.out.cell 0
  simp at x0
  go_wp2_with fail
  refine (HO.out _).mono ?_
  rintro e w6 ⟨rfl, hS6⟩
  have HB6 := Lib.hid (HB5.out.step hS6 id)
  have HS6 := Lib.hid (HS5.out.trans hS6)
  clear hS6 HS5 HB5 x0
  have hXl := HB6.out.lt
  have y0 := HB6.out.cell 0
  have y1 := HB6.out.cell 1
  have y2 := HB6.out.cell 2
  have y3 := HB6.out.cell 3
  simp at y0 y1 y2 y3
  simp only [rrM]
  go_wp2_with fail
  all_goals
    go_ret
    exact ⟨rfl, HS6.out.alloc _⟩

set_option maxRecDepth 100000 in
set_option maxHeartbeats 1600000 in
theorem rright_z8_t (w : World) (op : Int) (a : Int) (b : Int) (c : Nat) (A : Option Addr) (r : Rr) (hb : ¬ b = 0 ∧ b < 4294967296)(ha : a < 4294967296) (hop : 0 ≤ op ∧ op ≤ 255)
    (HC : Hid (∀ w, Calls Try.prog 27 #[.int .i64 op] w fun e w' => e = .returned (.int .i64 0) ∧ Step (fun _ => False) w w'))
    (HO : Hid (∀ w, Calls Try.prog 24 #[.int .i64 op] w fun e w' => e = .returned (.tuple #[rrM r 8, .bool true]) ∧ Step (fun _ => False) w w')) :
    Calls Try.prog 54 #[.agg #[.int .u8 op, .int .u64 a, .int .u64 b, .slice A 0 c]] w fun e w' => e = .returned (.int .i64 0) ∧ Step (fun _ => False) w w' := by
  have hcv : IntKind.i64.wrap op = op := IntWalk.i64_in _ (by omega)
  have g0 : ¬ b = 0 := by omega
  have g1 : b < 4294967296 := by omega
  have g2 : a < 4294967296 := by omega
  have p0 : (b != 0) = true := bne_iff_ne.2 (by omega)
  have q0 : (b == 0) = false := beq_eq_false_iff_ne.2 (by omega)
  have p1 : decide (b < 4294967296) = true := decide_eq_true (by omega)
  have p2 : decide (a < 4294967296) = true := decide_eq_true (by omega)
  go_enter Try.func54, Try.ntmps54
  go_wp2_with fail
  refine (HC.out _).mono ?_
  rintro e w5 ⟨rfl, hS5⟩
  have HB5 := Lib.hid ((Blk.new w 50 #[.int .u8 op, .int .u64 a, .int .u64 b, .slice A 0 c]).step hS5 id)
  have HS5 := Lib.hid ((Step.refl.alloc _).trans hS5)
  clear hS5
  obtain ⟨X, hX⟩ : ∃ X, X = w.heap.size := ⟨_, rfl⟩
  rw [← hX] at HB5 ⊢
  clear hX
  have x0 := HB5.out.cell 0
  simp at x0
  go_wp2_with fail
  refine (HO.out _).mono ?_
  rintro e w6 ⟨rfl, hS6⟩
  have HB6 := Lib.hid (HB5.out.step hS6 id)
  have HS6 := Lib.hid (HS5.out.trans hS6)
  clear hS6 HS5 HB5 x0
  have hXl := HB6.out.lt
  have y0 := HB6.out.cell 0
  have y1 := HB6.out.cell 1
  have y2 := HB6.out.cell 2
  have y3 := HB6.out.cell 3
  simp at y0 y1 y2 y3
  simp only [rrM]
  go_wp2_with fail
  all_goals
    go_ret
    exact ⟨rfl, HS6.out.alloc _⟩

set_option maxRecDepth 100000 in
set_option maxHeartbeats 1600000 in
theorem rright_z8_f (w : World) (op : Int) (a : Int) (b : Int) (c : Nat) (A : Option Addr) (r : Rr) (hb : ¬ b = 0 ∧ b < 4294967296)(ha : ¬ a < 4294967296) (hop : 0 ≤ op ∧ op ≤ 255)
    (HC : Hid (∀ w, Calls Try.prog 27 #[.int .i64 op] w fun e w' => e = .returned (.int .i64 0) ∧ Step (fun _ => False) w w'))
    (HO : Hid (∀ w, Calls Try.prog 24 #[.int .i64 op] w fun e w' => e = .returned (.tuple #[rrM r 8, .bool true]) ∧ Step (fun _ => False) w w')) :
    Calls Try.prog 54 #[.agg #[.int .u8 op, .int .u64 a, .int .u64 b, .slice A 0 c]] w fun e w' => e = .returned (.int .i64 1) ∧ Step (fun _ => False) w w' := by
  have hcv : IntKind.i64.wrap op = op := IntWalk.i64_in _ (by omega)
  have g0 : ¬ b = 0 := by omega
  have g1 : b < 4294967296 := by omega
  have g2 : ¬ a < 4294967296 := by omega
  have p0 : (b != 0) = true := bne_iff_ne.2 (by omega)
  have q0 : (b == 0) = false := beq_eq_false_iff_ne.2 (by omega)
  have p1 : decide (b < 4294967296) = true := decide_eq_true (by omega)
  have p2 : decide (a < 4294967296) = false := decide_eq_false (by omega)
  go_enter Try.func54, Try.ntmps54
  go_wp2_with fail
  refine (HC.out _).mono ?_
  rintro e w5 ⟨rfl, hS5⟩
  have HB5 := Lib.hid ((Blk.new w 50 #[.int .u8 op, .int .u64 a, .int .u64 b, .slice A 0 c]).step hS5 id)
  have HS5 := Lib.hid ((Step.refl.alloc _).trans hS5)
  clear hS5
  obtain ⟨X, hX⟩ : ∃ X, X = w.heap.size := ⟨_, rfl⟩
  rw [← hX] at HB5 ⊢
  clear hX
  have x0 := HB5.out.cell 0
  simp at x0
  go_wp2_with fail
  refine (HO.out _).mono ?_
  rintro e w6 ⟨rfl, hS6⟩
  have HB6 := Lib.hid (HB5.out.step hS6 id)
  have HS6 := Lib.hid (HS5.out.trans hS6)
  clear hS6 HS5 HB5 x0
  have hXl := HB6.out.lt
  have y0 := HB6.out.cell 0
  have y1 := HB6.out.cell 1
  have y2 := HB6.out.cell 2
  have y3 := HB6.out.cell 3
  simp at y0 y1 y2 y3
  simp only [rrM]
  go_wp2_with fail
  all_goals
    go_ret
    exact ⟨rfl, HS6.out.alloc _⟩

set_option maxRecDepth 100000 in
set_option maxHeartbeats 1600000 in
theorem rright_z8h_t (w : World) (op : Int) (a : Int) (b : Int) (c : Nat) (A : Option Addr) (r : Rr) (hb : ¬ b < 4294967296)(ha : a < 4294967296) (hop : 0 ≤ op ∧ op ≤ 255)
    (HC : Hid (∀ w, Calls Try.prog 27 #[.int .i64 op] w fun e w' => e = .returned (.int .i64 0) ∧ Step (fun _ => False) w w'))
    (HO : Hid (∀ w, Calls Try.prog 24 #[.int .i64 op] w fun e w' => e = .returned (.tuple #[rrM r 8, .bool true]) ∧ Step (fun _ => False) w w')) :
    Calls Try.prog 54 #[.agg #[.int .u8 op, .int .u64 a, .int .u64 b, .slice A 0 c]] w fun e w' => e = .returned (.int .i64 1) ∧ Step (fun _ => False) w w' := by
  have hcv : IntKind.i64.wrap op = op := IntWalk.i64_in _ (by omega)
  have g0 : ¬ b = 0 := by omega
  have g1 : ¬ b < 4294967296 := by omega
  have g2 : a < 4294967296 := by omega
  have p0 : (b != 0) = true := bne_iff_ne.2 (by omega)
  have q0 : (b == 0) = false := beq_eq_false_iff_ne.2 (by omega)
  have p1 : decide (b < 4294967296) = false := decide_eq_false (by omega)
  have p2 : decide (a < 4294967296) = true := decide_eq_true (by omega)
  go_enter Try.func54, Try.ntmps54
  go_wp2_with fail
  refine (HC.out _).mono ?_
  rintro e w5 ⟨rfl, hS5⟩
  have HB5 := Lib.hid ((Blk.new w 50 #[.int .u8 op, .int .u64 a, .int .u64 b, .slice A 0 c]).step hS5 id)
  have HS5 := Lib.hid ((Step.refl.alloc _).trans hS5)
  clear hS5
  obtain ⟨X, hX⟩ : ∃ X, X = w.heap.size := ⟨_, rfl⟩
  rw [← hX] at HB5 ⊢
  clear hX
  have x0 := HB5.out.cell 0
  simp at x0
  go_wp2_with fail
  refine (HO.out _).mono ?_
  rintro e w6 ⟨rfl, hS6⟩
  have HB6 := Lib.hid (HB5.out.step hS6 id)
  have HS6 := Lib.hid (HS5.out.trans hS6)
  clear hS6 HS5 HB5 x0
  have hXl := HB6.out.lt
  have y0 := HB6.out.cell 0
  have y1 := HB6.out.cell 1
  have y2 := HB6.out.cell 2
  have y3 := HB6.out.cell 3
  simp at y0 y1 y2 y3
  simp only [rrM]
  go_wp2_with fail
  all_goals
    go_ret
    exact ⟨rfl, HS6.out.alloc _⟩

set_option maxRecDepth 100000 in
set_option maxHeartbeats 1600000 in
theorem rright_z8h_f (w : World) (op : Int) (a : Int) (b : Int) (c : Nat) (A : Option Addr) (r : Rr) (hb : ¬ b < 4294967296)(ha : ¬ a < 4294967296) (hop : 0 ≤ op ∧ op ≤ 255)
    (HC : Hid (∀ w, Calls Try.prog 27 #[.int .i64 op] w fun e w' => e = .returned (.int .i64 0) ∧ Step (fun _ => False) w w'))
    (HO : Hid (∀ w, Calls Try.prog 24 #[.int .i64 op] w fun e w' => e = .returned (.tuple #[rrM r 8, .bool true]) ∧ Step (fun _ => False) w w')) :
    Calls Try.prog 54 #[.agg #[.int .u8 op, .int .u64 a, .int .u64 b, .slice A 0 c]] w fun e w' => e = .returned (.int .i64 1) ∧ Step (fun _ => False) w w' := by
  have hcv : IntKind.i64.wrap op = op := IntWalk.i64_in _ (by omega)
  have g0 : ¬ b = 0 := by omega
  have g1 : ¬ b < 4294967296 := by omega
  have g2 : ¬ a < 4294967296 := by omega
  have p0 : (b != 0) = true := bne_iff_ne.2 (by omega)
  have q0 : (b == 0) = false := beq_eq_false_iff_ne.2 (by omega)
  have p1 : decide (b < 4294967296) = false := decide_eq_false (by omega)
  have p2 : decide (a < 4294967296) = false := decide_eq_false (by omega)
  go_enter Try.func54, Try.ntmps54
  go_wp2_with fail
  refine (HC.out _).mono ?_
  rintro e w5 ⟨rfl, hS5⟩
  have HB5 := Lib.hid ((Blk.new w 50 #[.int .u8 op, .int .u64 a, .int .u64 b, .slice A 0 c]).step hS5 id)
  have HS5 := Lib.hid ((Step.refl.alloc _).trans hS5)
  clear hS5
  obtain ⟨X, hX⟩ : ∃ X, X = w.heap.size := ⟨_, rfl⟩
  rw [← hX] at HB5 ⊢
  clear hX
  have x0 := HB5.out.cell 0
  simp at x0
  go_wp2_with fail
  refine (HO.out _).mono ?_
  rintro e w6 ⟨rfl, hS6⟩
  have HB6 := Lib.hid (HB5.out.step hS6 id)
  have HS6 := Lib.hid (HS5.out.trans hS6)
  clear hS6 HS5 HB5 x0
  have hXl := HB6.out.lt
  have y0 := HB6.out.cell 0
  have y1 := HB6.out.cell 1
  have y2 := HB6.out.cell 2
  have y3 := HB6.out.cell 3
  simp at y0 y1 y2 y3
  simp only [rrM]
  go_wp2_with fail
  all_goals
    go_ret
    exact ⟨rfl, HS6.out.alloc _⟩

set_option maxRecDepth 100000 in
set_option maxHeartbeats 1600000 in
theorem rright_err (w : World) (op a b e : Int) (n c : Nat) (A : Option Addr) (he : ¬ e = 0) (hop : 0 ≤ op ∧ op ≤ 255)
    (HC : Hid (∀ w, Calls Try.prog 27 #[.int .i64 op] w fun x w' => x = .returned (.int .i64 e) ∧ Step (fun _ => False) w w')) :
    Calls Try.prog 54 #[.agg #[.int .u8 op, .int .u64 a, .int .u64 b, .slice A n c]] w fun x w' => x = .returned (.int .i64 e) ∧ Step (fun _ => False) w w' := by
  have p0 : (e != 0) = true := bne_iff_ne.2 he
  have hcv : IntKind.i64.wrap op = op := IntWalk.i64_in _ (by omega)
  go_enter Try.func54, Try.ntmps54
  go_wp2_with fail
  refine (HC.out _).mono ?_
  rintro e w5 ⟨rfl, hS5⟩
  have HS5 := Lib.hid ((Step.refl.alloc _).trans hS5)
  clear hS5
  go_wp2_with fail
  go_ret
  exact ⟨rfl, HS5.out⟩

theorem rright_walk (w : World) (op a b n c : Nat) (A : Option Addr) (h : op < 256) :
    Calls Try.prog 54 #[insV op a b A n c] w fun e w' => e = .returned (.int .i64 (rgtF op a b n : Nat)) ∧ Step (fun _ => False) w w' := by
  have hop : 0 ≤ (op : Int) ∧ (op : Int) ≤ 255 := by omega
  have hT := tell_at op h
  rw [tellB, Bool.and_eq_true] at hT
  have hck := eq_of_beq hT.1
  have hT := hT.2
  have HC : Hid (∀ w, Calls Try.prog 27 #[.int .i64 (op : Int)] w fun e w' => e = .returned (.int .i64 (chkF op : Nat)) ∧ Step (fun _ => False) w w') := fun w => by rw [hck]; exact rcheck_walk w op h
  have HO : Hid (∀ w, Calls Try.prog 24 #[.int .i64 (op : Int)] w fun e w' => e = .returned (.tuple #[rrM (ofR op).1 ((ofR op).1.imm : Int), .bool (ofR op).2]) ∧ Step (fun _ => False) w w') := fun w => ofref_walk w op hop
  rw [rgtF, insV]
  by_cases he : chkF op = 0
  · rw [if_pos he]
    rw [he] at HC
    have hok : (ofR op).2 = true := by
      rw [hck, chkR] at he
      cases hok : (ofR op).2 with
      | true => rfl
      | false => rw [hok] at he; revert he; cases fltF op <;> decide
    rw [hok, if_pos rfl] at hT
    simp only [Bool.and_eq_true, decide_eq_true_eq] at hT
    have him : (infF op).imm = (ofR op).1.imm := by rw [hT.1.1.1]
    rw [him]
    rw [hok] at HO
    obtain ⟨i, hi⟩ : ∃ i, i = (ofR op).1 := ⟨_, rfl⟩
    rw [← hi] at HO ⊢
    clear hi him hT hok hck
    obtain ⟨m, hm⟩ : ∃ m, m = i.imm := ⟨_, rfl⟩
    rw [← hm] at HO ⊢
    clear hm he
    by_cases h1 : (0 < n ∧ ¬ m = 3) ∨ 10000 < n
    · rw [immF, if_pos h1]
      by_cases h3 : m = 3
      · rw [if_pos h3]
        subst h3
        exact rright_l2 w op a b n c A i (by omega) hop HC HO
      · rw [if_neg h3]
        exact rright_l1 w op a b n c A i m (by omega) (by omega) hop HC HO
    rw [immF, if_neg h1]
    by_cases h2 : ¬ b = 0 ∧ ¬ m = 8
    · rw [if_pos h2]
      by_cases hn : n = 0
      · subst hn
        exact rright_z1 w op a b c A i m (by omega) (by omega) hop HC HO
      · obtain rfl : m = 3 := by omega
        exact rright_y1 w op a b n c A i (by omega) (by omega) hop HC HO
    rw [if_neg h2]
    by_cases h4 : m = 0 ∨ m = 9
    · rw [if_pos h4]
      obtain rfl : n = 0 := by omega
      obtain rfl : b = 0 := by omega
      by_cases ha : a = 0
      · rw [if_pos ha]
        subst ha
        rcases h4 with rfl | rfl
        · exact rright_z2_0_t w op c A i hop HC HO
        · exact rright_z2_9_t w op c A i hop HC HO
      · rw [if_neg ha]
        rcases h4 with rfl | rfl
        · exact rright_z2_0_f w op a c A i (by omega) hop HC HO
        · exact rright_z2_9_f w op a c A i (by omega) hop HC HO
    rw [if_neg h4]
    by_cases h5 : m = 1
    · rw [if_pos h5]
      subst h5
      obtain rfl : n = 0 := by omega
      obtain rfl : b = 0 := by omega
      by_cases ha : a = 64
      · subst ha
        exact rright_z3a w op c A i hop HC HO
      by_cases hb : 255 < a
      · rw [blkF, if_neg ha, if_pos hb]
        exact rright_z3b w op a c A i (by omega) hop HC HO
      · rw [blkF, if_neg ha, if_neg hb]
        exact rright_z3c w op a c A i (by omega) (by omega) (valF a : Nat) (fun w => rvalue_walk w a (by omega)) hop HC HO
    rw [if_neg h5]
    by_cases h6 : m = 11
    · rw [if_pos h6]
      subst h6
      obtain rfl : n = 0 := by omega
      obtain rfl : b = 0 := by omega
      exact rright_z4 w op a c A i hop HC HO
    rw [if_neg h6]
    by_cases hn : n = 0
    · subst hn
      by_cases hb : b = 0
      · subst hb
        by_cases h3 : m = 3
        · subst h3
          by_cases ha : a < 4294967296
          · rw [if_pos ⟨ha, by omega⟩]
            exact rright_w5_t w op a c A i (by omega) hop HC HO
          · rw [if_neg (by omega)]
            exact rright_w5_f w op a c A i (by omega) hop HC HO
        · by_cases ha : a < 4294967296
          · rw [if_pos ⟨ha, by omega⟩]
            exact rright_z5_t w op a c A i m (by omega) (by omega) hop HC HO
          · rw [if_neg (by omega)]
            exact rright_z5_f w op a c A i m (by omega) (by omega) hop HC HO
      · obtain rfl : m = 8 := by omega
        by_cases hb2 : b < 4294967296
        · by_cases ha : a < 4294967296
          · rw [if_pos ⟨ha, hb2⟩]
            exact rright_z8_t w op a b c A i (by omega) (by omega) hop HC HO
          · rw [if_neg (by omega)]
            exact rright_z8_f w op a b c A i (by omega) (by omega) hop HC HO
        · rw [if_neg (by omega)]
          by_cases ha : a < 4294967296
          · exact rright_z8h_t w op a b c A i (by omega) (by omega) hop HC HO
          · exact rright_z8h_f w op a b c A i (by omega) (by omega) hop HC HO
    · obtain rfl : m = 3 := by omega
      obtain rfl : b = 0 := by omega
      by_cases ha : a < 4294967296
      · rw [if_pos ⟨ha, by omega⟩]
        exact rright_y5_t w op a n c A i (by omega) (by omega) hop HC HO
      · rw [if_neg (by omega)]
        exact rright_y5_f w op a n c A i (by omega) (by omega) hop HC HO
  · rw [if_neg he]
    exact rright_err w op a b (chkF op : Nat) n c A (by omega) hop HC
end Go.Proofs.Ytfemeendkjcffaa
