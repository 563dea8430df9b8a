/-
  Pw: PwA, PwB.
-/
import Derived.Test.YtfemeendkjcffaaGe
import Derived.Test.YtfemeendkjcffaaPu
import Derived.Test.YtfemeendkjcffaaInD
set_option linter.unusedVariables false
set_option linter.unusedSimpArgs false
/-! instr: the reference's Put of all kinds. -/
namespace Go.Proofs.Ytfemeendkjcffaa
open Go.RowKit

theorem num_len (v : Nat) : (uintF v).length ≤ 10 := uintL_len 10 v
theorem labL_len : ∀ L : List Nat, (labL L).length ≤ 10 * L.length
  | [] => by simp [labL]
  | n :: L => by
    have := labL_len L
    have := num_len n
    rw [labL_cons, List.length_append, List.length_cons]
    omega

set_option maxRecDepth 100000 in
set_option maxHeartbeats 3200000 in
theorem rput_0 (w : World) (op n c : Nat) (A : Option Addr) (r : Rr) (hop : op < 256)
    (HO : Hid (∀ w, Calls Try.prog 24 #[.int .i64 (op : Int)] w fun e w' => e = .returned (.tuple #[rrM r 0, .bool true]) ∧ Step (fun _ => False) w w')) :
    Calls Try.prog 59 #[.agg #[.int .u8 (op : Int), .int .u64 0, .int .u64 0, .slice A n c]] w fun e w' => e = .returned (.string (str (UInt8.ofNat op :: []))) ∧ Step (fun _ => False) w w' := by
  have hcv : IntKind.i64.wrap (op : Int) = op := IntWalk.i64_in _ (by omega)
  have hsz : (str [UInt8.ofNat op]).size = 1 := rfl
  have HC : Hid (∀ (w : World) (g : Nat), w.heap.size = g → (convert 53 9 (.slice (some ⟨g, 0, none⟩) 1 1)).run Try.prog (w.alloc (.cells #[.int .u8 (op : Int)] 5)) = .ok (.string (str [UInt8.ofNat op])) (w.alloc (.cells #[.int .u8 (op : Int)] 5))) := fun w g hg => by
    subst hg
    refine conv_bytes (S := fun k => k = w.heap.size) ?_
    rw [byte_cell op hop]
    exact reads_new w #[.int .u8 (op : Int)] 5 1 1 rfl
  go_enter Try.func59, Try.ntmps59
  go_wp2_with fail
  refine (HO.out _).mono ?_
  rintro e w6 ⟨rfl, hS6⟩
  have HB6 := Lib.hid ((Blk.new w 50 #[.int .u8 (op : Int), .int .u64 0, .int .u64 0, .slice A n c]).step hS6 id)
  have HS6 := Lib.hid ((Step.refl.alloc _).trans hS6)
  clear hS6
  obtain ⟨X, hX⟩ : ∃ X, X = w.heap.size := ⟨_, rfl⟩
  rw [← hX] at HB6 ⊢
  clear hX
  have hXl := HB6.out.lt
  have y0 := HB6.out.cell 0
  have y1 := HB6.out.cell 1
  have y2 := HB6.out.cell 2
  have y3 := HB6.out.cell 3
  simp at y0 y1 y2 y3
  have HCv := HC.out (w6.alloc (.cells #[.int .i64 r.op, .string (str r.name), .int .i64 0, .string (str r.takes), .string (str r.has), .bool r.free] 24)) (w6.heap.size + 1) (by simp)
  simp only [rrM]
  go_wp2_with fail
  go_ret
  exact ⟨rfl, (HS6.out.alloc _).alloc _⟩

set_option maxRecDepth 100000 in
set_option maxHeartbeats 3200000 in
theorem rput_9 (w : World) (op n c : Nat) (A : Option Addr) (r : Rr) (hop : op < 256)
    (HO : Hid (∀ w, Calls Try.prog 24 #[.int .i64 (op : Int)] w fun e w' => e = .returned (.tuple #[rrM r 9, .bool true]) ∧ Step (fun _ => False) w w')) :
    Calls Try.prog 59 #[.agg #[.int .u8 (op : Int), .int .u64 0, .int .u64 0, .slice A n c]] w fun e w' => e = .returned (.string (str (UInt8.ofNat op :: [UInt8.ofNat 0]))) ∧ Step (fun _ => False) w w' := by
  have hcv : IntKind.i64.wrap (op : Int) = op := IntWalk.i64_in _ (by omega)
  have hsz : (str [UInt8.ofNat op]).size = 1 := rfl
  have HC : Hid (∀ (w : World) (g : Nat), w.heap.size = g → (convert 53 9 (.slice (some ⟨g, 0, none⟩) 1 1)).run Try.prog (w.alloc (.cells #[.int .u8 (op : Int)] 5)) = .ok (.string (str [UInt8.ofNat op])) (w.alloc (.cells #[.int .u8 (op : Int)] 5))) := fun w g hg => by
    subst hg
    refine conv_bytes (S := fun k => k = w.heap.size) ?_
    rw [byte_cell op hop]
    exact reads_new w #[.int .u8 (op : Int)] 5 1 1 rfl
  go_enter Try.func59, Try.ntmps59
  go_wp2_with fail
  refine (HO.out _).mono ?_
  rintro e w6 ⟨rfl, hS6⟩
  have HB6 := Lib.hid ((Blk.new w 50 #[.int .u8 (op : Int), .int .u64 0, .int .u64 0, .slice A n c]).step hS6 id)
  have HS6 := Lib.hid ((Step.refl.alloc _).trans hS6)
  clear hS6
  obtain ⟨X, hX⟩ : ∃ X, X = w.heap.size := ⟨_, rfl⟩
  rw [← hX] at HB6 ⊢
  clear hX
  have hXl := HB6.out.lt
  have y0 := HB6.out.cell 0
  have y1 := HB6.out.cell 1
  have y2 := HB6.out.cell 2
  have y3 := HB6.out.cell 3
  simp at y0 y1 y2 y3
  have HCv := HC.out (w6.alloc (.cells #[.int .i64 r.op, .string (str r.name), .int .i64 9, .string (str r.takes), .string (str r.has), .bool r.free] 24)) (w6.heap.size + 1) (by simp)
  simp only [rrM]
  have happ : str [UInt8.ofNat op] ++ (⟨#[0]⟩ : ByteArray) = str (UInt8.ofNat op :: [UInt8.ofNat 0]) := str_append _ _
  go_wp2_with fail
  go_ret
  exact ⟨rfl, (HS6.out.alloc _).alloc _⟩

set_option maxRecDepth 100000 in
set_option maxHeartbeats 3200000 in
theorem rput_1 (w : World) (op a n c : Nat) (A : Option Addr) (r : Rr) (hop : op < 256) (ha : a < 256)
    (HO : Hid (∀ w, Calls Try.prog 24 #[.int .i64 (op : Int)] w fun e w' => e = .returned (.tuple #[rrM r 1, .bool true]) ∧ Step (fun _ => False) w w')) :
    Calls Try.prog 59 #[.agg #[.int .u8 (op : Int), .int .u64 (a : Int), .int .u64 0, .slice A n c]] w fun e w' => e = .returned (.string (str (UInt8.ofNat op :: [UInt8.ofNat a]))) ∧ Step (fun _ => False) w w' := by
  have hcv : IntKind.i64.wrap (op : Int) = op := IntWalk.i64_in _ (by omega)
  have hsz : (str [UInt8.ofNat op]).size = 1 := rfl
  have HC : Hid (∀ (w : World) (g : Nat), w.heap.size = g → (convert 53 9 (.slice (some ⟨g, 0, none⟩) 1 1)).run Try.prog (w.alloc (.cells #[.int .u8 (op : Int)] 5)) = .ok (.string (str [UInt8.ofNat op])) (w.alloc (.cells #[.int .u8 (op : Int)] 5))) := fun w g hg => by
    subst hg
    refine conv_bytes (S := fun k => k = w.heap.size) ?_
    rw [byte_cell op hop]
    exact reads_new w #[.int .u8 (op : Int)] 5 1 1 rfl
  go_enter Try.func59, Try.ntmps59
  go_wp2_with fail
  refine (HO.out _).mono ?_
  rintro e w6 ⟨rfl, hS6⟩
  have HB6 := Lib.hid ((Blk.new w 50 #[.int .u8 (op : Int), .int .u64 (a : Int), .int .u64 0, .slice A n c]).step hS6 id)
  have HS6 := Lib.hid ((Step.refl.alloc _).trans hS6)
  clear hS6
  obtain ⟨X, hX⟩ : ∃ X, X = w.heap.size := ⟨_, rfl⟩
  rw [← hX] at HB6 ⊢
  clear hX
  have hXl := HB6.out.lt
  have y0 := HB6.out.cell 0
  have y1 := HB6.out.cell 1
  have y2 := HB6.out.cell 2
  have y3 := HB6.out.cell 3
  simp at y0 y1 y2 y3
  have HCv := HC.out (w6.alloc (.cells #[.int .i64 r.op, .string (str r.name), .int .i64 1, .string (str r.takes), .string (str r.has), .bool r.free] 24)) (w6.heap.size + 1) (by simp)
  simp only [rrM]
  have hwa := IntWalk.u8_in (a : Int) (by omega)
  have hs2 : (str [UInt8.ofNat a]).size = 1 := rfl
  have HD : (convert 53 9 (.slice (some ⟨w6.heap.size + 1 + 1, 0, none⟩) 1 1)).run Try.prog (((w6.alloc (.cells #[.int .i64 r.op, .string (str r.name), .int .i64 1, .string (str r.takes), .string (str r.has), .bool r.free] 24)).alloc (.cells #[.int .u8 (op : Int)] 5)).alloc (.cells #[.int .u8 (a : Int)] 5)) = .ok (.string (str [UInt8.ofNat a])) (((w6.alloc (.cells #[.int .i64 r.op, .string (str r.name), .int .i64 1, .string (str r.takes), .string (str r.has), .bool r.free] 24)).alloc (.cells #[.int .u8 (op : Int)] 5)).alloc (.cells #[.int .u8 (a : Int)] 5)) := by
    obtain ⟨v, hv⟩ : ∃ v, v = (w6.alloc (.cells #[.int .i64 r.op, .string (str r.name), .int .i64 1, .string (str r.takes), .string (str r.has), .bool r.free] 24)).alloc (.cells #[.int .u8 (op : Int)] 5) := ⟨_, rfl⟩
    have hvs : w6.heap.size + 1 + 1 = v.heap.size := by rw [hv]; simp
    rw [← hv, hvs]
    refine conv_bytes (S := fun k => k = v.heap.size) ?_
    rw [byte_cell a ha]
    exact reads_new v #[.int .u8 (a : Int)] 5 1 1 rfl
  have happ : str [UInt8.ofNat op] ++ str [UInt8.ofNat a] = str (UInt8.ofNat op :: [UInt8.ofNat a]) := str_append _ _
  go_wp2_with fail
  go_ret
  exact ⟨rfl, ((HS6.out.alloc _).alloc _).alloc _⟩

set_option maxRecDepth 100000 in
set_option maxHeartbeats 3200000 in
theorem rput_5 (w : World) (op a n c : Nat) (A : Option Addr) (r : Rr) (hop : op < 256) (ha : a < 4294967296)
    (HO : Hid (∀ w, Calls Try.prog 24 #[.int .i64 (op : Int)] w fun e w' => e = .returned (.tuple #[rrM r 5, .bool true]) ∧ Step (fun _ => False) w w')) :
    Calls Try.prog 59 #[.agg #[.int .u8 (op : Int), .int .u64 (a : Int), .int .u64 0, .slice A n c]] w fun e w' => e = .returned (.string (str (UInt8.ofNat op :: (uintF a ++ [UInt8.ofNat 0])))) ∧ Step (fun _ => False) w w' := by
  have hcv : IntKind.i64.wrap (op : Int) = op := IntWalk.i64_in _ (by omega)
  have hsz : (str [UInt8.ofNat op]).size = 1 := rfl
  have hl1 := num_len a
  obtain ⟨U, hU1⟩ : ∃ U, U = uintF a := ⟨_, rfl⟩
  have HN1 : Hid (∀ w, Calls Try.prog 155 #[.int .u64 (a : Int)] w fun e w' => e = .returned (.string (str U)) ∧ Step (fun _ => False) w w') := fun w => by rw [hU1]; exact num_walk w a (by omega)
  rw [← hU1] at hl1 ⊢
  clear hU1
  have hz1 := str_size U
  have HC : Hid (∀ (w : World) (g : Nat), w.heap.size = g → (convert 53 9 (.slice (some ⟨g, 0, none⟩) 1 1)).run Try.prog (w.alloc (.cells #[.int .u8 (op : Int)] 5)) = .ok (.string (str [UInt8.ofNat op])) (w.alloc (.cells #[.int .u8 (op : Int)] 5))) := fun w g hg => by
    subst hg
    refine conv_bytes (S := fun k => k = w.heap.size) ?_
    rw [byte_cell op hop]
    exact reads_new w #[.int .u8 (op : Int)] 5 1 1 rfl
  go_enter Try.func59, Try.ntmps59
  go_wp2_with fail
  refine (HO.out _).mono ?_
  rintro e w6 ⟨rfl, hS6⟩
  have HB6 := Lib.hid ((Blk.new w 50 #[.int .u8 (op : Int), .int .u64 (a : Int), .int .u64 0, .slice A n c]).step hS6 id)
  have HS6 := Lib.hid ((Step.refl.alloc _).trans hS6)
  clear hS6
  obtain ⟨X, hX⟩ : ∃ X, X = w.heap.size := ⟨_, rfl⟩
  rw [← hX] at HB6 ⊢
  clear hX
  have hXl := HB6.out.lt
  have y0 := HB6.out.cell 0
  have y1 := HB6.out.cell 1
  have y2 := HB6.out.cell 2
  have y3 := HB6.out.cell 3
  simp at y0 y1 y2 y3
  have HCv := HC.out (w6.alloc (.cells #[.int .i64 r.op, .string (str r.name), .int .i64 5, .string (str r.takes), .string (str r.has), .bool r.free] 24)) (w6.heap.size + 1) (by simp)
  simp only [rrM]
  go_wp2_with fail
  refine (HN1.out _).mono ?_
  rintro e w7 ⟨rfl, hS7⟩
  have HS7 := Lib.hid (((HS6.out.alloc _).alloc _).trans hS7)
  have happ : str [UInt8.ofNat op] ++ str U = str (UInt8.ofNat op :: U) := str_append _ _
  have hs2 := str_size (UInt8.ofNat op :: U)
  have happ2 : str (UInt8.ofNat op :: U) ++ (⟨#[0]⟩ : ByteArray) = str (UInt8.ofNat op :: (U ++ [UInt8.ofNat 0])) := str_append _ _
  clear hS7 HS6
  go_wp2_with fail
  go_ret
  exact ⟨rfl, HS7.out⟩

set_option maxRecDepth 100000 in
set_option maxHeartbeats 3200000 in
theorem rput_d (w : World) (op a n c : Nat) (A : Option Addr) (r : Rr) (hop : op < 256) (ha : a < 4294967296) (m : Int) (hm : ¬ m = 0 ∧ ¬ m = 1 ∧ ¬ m = 3 ∧ ¬ m = 5 ∧ ¬ m = 8 ∧ ¬ m = 9 ∧ ¬ m = 10 ∧ ¬ m = 11)
    (HO : Hid (∀ w, Calls Try.prog 24 #[.int .i64 (op : Int)] w fun e w' => e = .returned (.tuple #[rrM r m, .bool true]) ∧ Step (fun _ => False) w w')) :
    Calls Try.prog 59 #[.agg #[.int .u8 (op : Int), .int .u64 (a : Int), .int .u64 0, .slice A n c]] w fun e w' => e = .returned (.string (str (UInt8.ofNat op :: uintF a))) ∧ Step (fun _ => False) w w' := by
  have hcv : IntKind.i64.wrap (op : Int) = op := IntWalk.i64_in _ (by omega)
  have hsz : (str [UInt8.ofNat op]).size = 1 := rfl
  have hl1 := num_len a
  obtain ⟨U, hU1⟩ : ∃ U, U = uintF a := ⟨_, rfl⟩
  have HN1 : Hid (∀ w, Calls Try.prog 155 #[.int .u64 (a : Int)] w fun e w' => e = .returned (.string (str U)) ∧ Step (fun _ => False) w w') := fun w => by rw [hU1]; exact num_walk w a (by omega)
  rw [← hU1] at hl1 ⊢
  clear hU1
  have hz1 := str_size U
  have m0 : (m == 0) = false := by simp; omega
  have m1 : (m == 1) = false := by simp; omega
  have m3 : (m == 3) = false := by simp; omega
  have m5 : (m == 5) = false := by simp; omega
  have m8 : (m == 8) = false := by simp; omega
  have m9 : (m == 9) = false := by simp; omega
  have m10 : (m == 10) = false := by simp; omega
  have m11 : (m == 11) = false := by simp; omega
  have HC : Hid (∀ (w : World) (g : Nat), w.heap.size = g → (convert 53 9 (.slice (some ⟨g, 0, none⟩) 1 1)).run Try.prog (w.alloc (.cells #[.int .u8 (op : Int)] 5)) = .ok (.string (str [UInt8.ofNat op])) (w.alloc (.cells #[.int .u8 (op : Int)] 5))) := fun w g hg => by
    subst hg
    refine conv_bytes (S := fun k => k = w.heap.size) ?_
    rw [byte_cell op hop]
    exact reads_new w #[.int .u8 (op : Int)] 5 1 1 rfl
  go_enter Try.func59, Try.ntmps59
  go_wp2_with fail
  refine (HO.out _).mono ?_
  rintro e w6 ⟨rfl, hS6⟩
  have HB6 := Lib.hid ((Blk.new w 50 #[.int .u8 (op : Int), .int .u64 (a : Int), .int .u64 0, .slice A n c]).step hS6 id)
  have HS6 := Lib.hid ((Step.refl.alloc _).trans hS6)
  clear hS6
  obtain ⟨X, hX⟩ : ∃ X, X = w.heap.size := ⟨_, rfl⟩
  rw [← hX] at HB6 ⊢
  clear hX
  have hXl := HB6.out.lt
  have y0 := HB6.out.cell 0
  have y1 := HB6.out.cell 1
  have y2 := HB6.out.cell 2
  have y3 := HB6.out.cell 3
  simp at y0 y1 y2 y3
  have HCv := HC.out (w6.alloc (.cells #[.int .i64 r.op, .string (str r.name), .int .i64 m, .string (str r.takes), .string (str r.has), .bool r.free] 24)) (w6.heap.size + 1) (by simp)
  simp only [rrM]
  go_wp2_with fail
  refine (HN1.out _).mono ?_
  rintro e w7 ⟨rfl, hS7⟩
  have HS7 := Lib.hid (((HS6.out.alloc _).alloc _).trans hS7)
  have happ : str [UInt8.ofNat op] ++ str U = str (UInt8.ofNat op :: U) := str_append _ _
  clear hS7 HS6
  go_wp2_with fail
  go_ret
  exact ⟨rfl, HS7.out⟩

set_option maxRecDepth 100000 in
set_option maxHeartbeats 3200000 in
theorem rput_8 (w : World) (op a b n c : Nat) (A : Option Addr) (r : Rr) (hop : op < 256) (ha : a < 4294967296) (hb : b < 4294967296)
    (HO : Hid (∀ w, Calls Try.prog 24 #[.int .i64 (op : Int)] w fun e w' => e = .returned (.tuple #[rrM r 8, .bool true]) ∧ Step (fun _ => False) w w')) :
    Calls Try.prog 59 #[.agg #[.int .u8 (op : Int), .int .u64 (a : Int), .int .u64 (b : Int), .slice A n c]] w fun e w' => e = .returned (.string (str (UInt8.ofNat op :: (uintF a ++ uintF b)))) ∧ Step (fun _ => False) w w' := by
  have hcv : IntKind.i64.wrap (op : Int) = op := IntWalk.i64_in _ (by omega)
  have hsz : (str [UInt8.ofNat op]).size = 1 := rfl
  have hl1 := num_len a
  obtain ⟨U, hU1⟩ : ∃ U, U = uintF a := ⟨_, rfl⟩
  have HN1 : Hid (∀ w, Calls Try.prog 155 #[.int .u64 (a : Int)] w fun e w' => e = .returned (.string (str U)) ∧ Step (fun _ => False) w w') := fun w => by rw [hU1]; exact num_walk w a (by omega)
  rw [← hU1] at hl1 ⊢
  clear hU1
  have hz1 := str_size U
  have hl2 := num_len b
  obtain ⟨V, hU2⟩ : ∃ V, V = uintF b := ⟨_, rfl⟩
  have HN2 : Hid (∀ w, Calls Try.prog 155 #[.int .u64 (b : Int)] w fun e w' => e = .returned (.string (str V)) ∧ Step (fun _ => False) w w') := fun w => by rw [hU2]; exact num_walk w b (by omega)
  rw [← hU2] at hl2 ⊢
  clear hU2
  have hz2 := str_size V
  have HC : Hid (∀ (w : World) (g : Nat), w.heap.size = g → (convert 53 9 (.slice (some ⟨g, 0, none⟩) 1 1)).run Try.prog (w.alloc (.cells #[.int .u8 (op : Int)] 5)) = .ok (.string (str [UInt8.ofNat op])) (w.alloc (.cells #[.int .u8 (op : Int)] 5))) := fun w g hg => by
    subst hg
    refine conv_bytes (S := fun k => k = w.heap.size) ?_
    rw [byte_cell op hop]
    exact reads_new w #[.int .u8 (op : Int)] 5 1 1 rfl
  go_enter Try.func59, Try.ntmps59
  go_wp2_with fail
  refine (HO.out _).mono ?_
  rintro e w6 ⟨rfl, hS6⟩
  have HB6 := Lib.hid ((Blk.new w 50 #[.int .u8 (op : Int), .int .u64 (a : Int), .int .u64 (b : Int), .slice A n c]).step hS6 id)
  have HS6 := Lib.hid ((Step.refl.alloc _).trans hS6)
  clear hS6
  obtain ⟨X, hX⟩ : ∃ X, X = w.heap.size := ⟨_, rfl⟩
  rw [← hX] at HB6 ⊢
  clear hX
  have hXl := HB6.out.lt
  have y0 := HB6.out.cell 0
  have y1 := HB6.out.cell 1
  have y2 := HB6.out.cell 2
  have y3 := HB6.out.cell 3
  simp at y0 y1 y2 y3
  have HCv := HC.out (w6.alloc (.cells #[.int .i64 r.op, .string (str r.name), .int .i64 8, .string (str r.takes), .string (str r.has), .bool r.free] 24)) (w6.heap.size + 1) (by simp)
  simp only [rrM]
  have happ : str [UInt8.ofNat op] ++ str U = str (UInt8.ofNat op :: U) := str_append _ _
  have hs2 := str_size (UInt8.ofNat op :: U)
  have happ2 : str (UInt8.ofNat op :: U) ++ str V = str (UInt8.ofNat op :: (U ++ V)) := str_append _ _
  go_wp2_with fail
  have HB7 := Lib.hid ((HB6.out.alloc (.cells #[.int .i64 r.op, .string (str r.name), .int .i64 8, .string (str r.takes), .string (str r.has), .bool r.free] 24)).alloc (.cells #[.int .u8 (op : Int)] 5))
  have HS7 := Lib.hid ((HS6.out.alloc (.cells #[.int .i64 r.op, .string (str r.name), .int .i64 8, .string (str r.takes), .string (str r.has), .bool r.free] 24)).alloc (.cells #[.int .u8 (op : Int)] 5))
  obtain ⟨W, hW⟩ : ∃ W, W = (w6.alloc (.cells #[.int .i64 r.op, .string (str r.name), .int .i64 8, .string (str r.takes), .string (str r.has), .bool r.free] 24)).alloc (.cells #[.int .u8 (op : Int)] 5) := ⟨_, rfl⟩
  rw [← hW] at HB7 HS7 ⊢
  clear hW HS6 HB6 y0 y1 y2 y3 HCv
  have y1 := HB7.out.cell 1
  have y2 := HB7.out.cell 2
  simp at y1 y2
  have d1 := cls_cell (F := fun _ => False) (w0 := W) y1 id
  have d2 := cls_cell (F := fun _ => False) (w0 := W) y2 id
  clear y1 y2
  refine Mix.wp_region_mix [3, 7] [3, 7] (Step (fun _ => False) W) (by kernel_rfl) (by kernel_rfl) Step.refl.drew (fun hcls => ?_)
  refine Mix.wpL_reads 3 (by rfl) ?_
  simp only [List.take_succ_cons, List.drop_succ_cons, List.take_zero, List.drop_zero]
  repeat (go_big_quiet_step (fail))
  refine wpQuiet_nil ?_
  refine Mix.wpL_op (by rfl) (fun K hK => ?_)
  go_simp
  refine (HN1.out _).mono ?_
  rintro e w8 ⟨rfl, hS8⟩
  have HS8 := Lib.hid (Step.refl.drew.trans hS8)
  refine hK _ _ (fun hlt => Mix.cl HS8.out) ?_
  clear hK K hS8
  refine Mix.wpL_reads 3 (by rfl) ?_
  simp only [List.take_succ_cons, List.drop_succ_cons, List.take_zero, List.drop_zero]
  repeat (go_big_quiet_step (fail))
  refine wpQuiet_nil ?_
  refine Mix.wpL_op (by rfl) (fun K hK => ?_)
  go_simp
  refine (HN2.out _).mono ?_
  rintro e w9 ⟨rfl, hS9⟩
  have HS9 := Lib.hid (HS8.out.trans hS9)
  refine hK _ _ (fun hlt => Mix.cl HS9.out) ?_
  clear hK K hS9
  refine Mix.wpL_reads 2 (by rfl) ?_
  simp only [List.take_succ_cons, List.drop_succ_cons, List.take_zero, List.drop_zero]
  repeat (go_big_quiet_step (fail))
  refine wpQuiet_nil ?_
  refine Mix.wpL_end ?_
  go_wp2_with fail
  go_ret
  exact ⟨rfl, HS7.out.trans HS9.out⟩
end Go.Proofs.Ytfemeendkjcffaa
/-! instr: the reference's Put of labels; of any instruction that may be. -/
namespace Go.Proofs.Ytfemeendkjcffaa
open Go.RowKit

/-- What stands ahead of the label j. -/
def prefL (op : Nat) (L : List Nat) (j : Nat) : List UInt8 := UInt8.ofNat op :: (uintF L.length ++ labL (L.take j))
theorem prefL_zero (op : Nat) (L : List Nat) : prefL op L 0 = UInt8.ofNat op :: uintF L.length := by simp [prefL, labL]
theorem prefL_succ (op : Nat) (L : List Nat) (j : Nat) (h : j < L.length) : prefL op L (j + 1) = prefL op L j ++ uintF L[j] := by
  rw [prefL, labL_take L j h, prefL]
  simp
theorem prefL_all (op : Nat) (L : List Nat) : prefL op L L.length = UInt8.ofNat op :: (uintF L.length ++ labL L) := by rw [prefL, List.take_length]
theorem prefL_len (op : Nat) (L : List Nat) (j : Nat) (hj : j ≤ L.length) : (prefL op L j).length ≤ 11 + 10 * L.length := by
  have h1 := num_len L.length
  have h2 := labL_len (L.take j)
  rw [List.length_take] at h2
  rw [prefL, List.length_cons, List.length_append]
  omega

set_option maxRecDepth 100000 in
set_option maxHeartbeats 3200000 in
theorem rput_3 (w : World) (op a n c : Nat) (A : Option Addr) (r : Rr) (hop : op < 256) (ha : a < 4294967296) (L : List Nat) (hn : n = L.length) (hL : L.length ≤ 10000) (hLb : ∀ x ∈ L, x < 4294967296) (S : Nat → Prop) (hr : Reads w S 1 A n (u32s L))
    (HO : Hid (∀ w, Calls Try.prog 24 #[.int .i64 (op : Int)] w fun e w' => e = .returned (.tuple #[rrM r 3, .bool true]) ∧ Step (fun _ => False) w w')) :
    Calls Try.prog 59 #[.agg #[.int .u8 (op : Int), .int .u64 (a : Int), .int .u64 0, .slice A n c]] w fun e w' => e = .returned (.string (str (UInt8.ofNat op :: (uintF L.length ++ (labL L ++ uintF a))))) ∧ Step (fun _ => False) w w' := by
  have hcv : IntKind.i64.wrap (op : Int) = op := IntWalk.i64_in _ (by omega)
  have hsz : (str [UInt8.ofNat op]).size = 1 := rfl
  have hl1 := num_len n
  obtain ⟨U, hU1⟩ : ∃ U, U = uintF n := ⟨_, rfl⟩
  have HN1 : Hid (∀ w, Calls Try.prog 155 #[.int .u64 (n : Int)] w fun e w' => e = .returned (.string (str U)) ∧ Step (fun _ => False) w w') := fun w => by rw [hU1]; exact num_walk w n (by omega)
  rw [← hU1] at hl1
  have HU : Hid (uintF L.length = U) := by rw [Hid, hU1, hn]
  have hl2 := num_len a
  obtain ⟨V, hV2⟩ : ∃ V, V = uintF a := ⟨_, rfl⟩
  have HN2 : Hid (∀ w, Calls Try.prog 155 #[.int .u64 (a : Int)] w fun e w' => e = .returned (.string (str V)) ∧ Step (fun _ => False) w w') := fun w => by rw [hV2]; exact num_walk w a (by omega)
  rw [← hV2] at hl2
  have HV : Hid (uintF a = V) := hV2.symm
  obtain ⟨Z, hZ⟩ : ∃ Z, Z = UInt8.ofNat op :: (uintF L.length ++ (labL L ++ uintF a)) := ⟨_, rfl⟩
  have HZ : Hid (Z = UInt8.ofNat op :: (uintF L.length ++ (labL L ++ uintF a))) := hZ
  rw [← hZ]
  have hz1 := str_size U
  have hz4 := str_size V
  have HN : Hid (n = L.length) := hn
  have hnb : n ≤ 10000 := by omega
  have HR := Lib.hid hr
  clear hU1 hV2 hZ hn hr
  have HC : Hid (∀ (w : World) (g : Nat), w.heap.size = g → (convert 53 9 (.slice (some ⟨g, 0, none⟩) 1 1)).run Try.prog (w.alloc (.cells #[.int .u8 (op : Int)] 5)) = .ok (.string (str [UInt8.ofNat op])) (w.alloc (.cells #[.int .u8 (op : Int)] 5))) := fun w g hg => by
    subst hg
    refine conv_bytes (S := fun k => k = w.heap.size) ?_
    rw [byte_cell op hop]
    exact reads_new w #[.int .u8 (op : Int)] 5 1 1 rfl
  go_enter Try.func59, Try.ntmps59
  go_wp2_with fail
  refine (HO.out _).mono ?_
  rintro e w6 ⟨rfl, hS6⟩
  have HB6 := Lib.hid ((Blk.new w 50 #[.int .u8 (op : Int), .int .u64 (a : Int), .int .u64 0, .slice A n c]).step hS6 id)
  have HS6 := Lib.hid ((Step.refl.alloc _).trans hS6)
  clear hS6
  obtain ⟨X, hX⟩ : ∃ X, X = w.heap.size := ⟨_, rfl⟩
  rw [← hX] at HB6 ⊢
  clear hX
  have hXl := HB6.out.lt
  have y0 := HB6.out.cell 0
  have y1 := HB6.out.cell 1
  have y2 := HB6.out.cell 2
  have y3 := HB6.out.cell 3
  simp at y0 y1 y2 y3
  have HCv := HC.out (w6.alloc (.cells #[.int .i64 r.op, .string (str r.name), .int .i64 3, .string (str r.takes), .string (str r.has), .bool r.free] 24)) (w6.heap.size + 1) (by simp)
  simp only [rrM]
  have hwn := IntWalk.u64_in (n : Int) (by omega)
  go_wp2_with fail
  refine (HN1.out _).mono ?_
  rintro e w7 ⟨rfl, hS7⟩
  have HB7 := Lib.hid (((HB6.out.alloc (.cells #[.int .i64 r.op, .string (str r.name), .int .i64 3, .string (str r.takes), .string (str r.has), .bool r.free] 24)).alloc (.cells #[.int .u8 (op : Int)] 5)).step hS7 id)
  have HS7 := Lib.hid (((HS6.out.alloc _).alloc _).trans hS7)
  have happ : str [UInt8.ofNat op] ++ str U = str (prefL op L 0) := by rw [prefL_zero, HU.out]; exact str_append _ _
  clear hS7 HS6 HB6 y0 y1 y2 y3
  go_wp2_with fail
  go_loopw [5, 6] (fun sv iv wr => ∃ (j : Nat), j ≤ n ∧ sv = .string (str (prefL op L j)) ∧ iv = .int .i64 (j : Int) ∧ Hid (Step (fun _ => False) w wr) ∧ Hid (Blk wr X 50 #[.int .u8 (op : Int), .int .u64 (a : Int), .int .u64 0, .slice A n c])) (fun _ iv _ => n + 1 - (intOf iv).toNat)
  case atStart => exact ⟨0, by omega, rfl, rfl, HS7, HB7⟩
  case round =>
    obtain ⟨j, hj, rfl, rfl, HS, HB⟩ := hrel
    have x1 := HB.out.cell 1
    have x3 := HB.out.cell 3
    simp at x1 x3
    have hpl := prefL_len op L j (by rw [← HN.out]; exact hj)
    by_cases hlt : j < n
    · have g1 : (j : Int) < (n : Int) := by omega
      have hw1 := IntWalk.i64_in ((j : Int) + 1) (by omega)
      have hjl : j < L.length := by rw [← HN.out]; exact hlt
      obtain ⟨ad, u, rfl, _, hbl, hu, hc⟩ := (HR.out.step HS.out (fun _ _ => id)).at_ hlt
      rw [u32s_get L j hjl] at hu
      injection hu with hu
      subst hu
      have HP := Lib.hid (prefL_succ op L j hjl)
      have hxb := hLb L[j] (List.getElem_mem hjl)
      generalize L[j] = x at *
      have hlx := num_len x
      obtain ⟨V, hV⟩ : ∃ V, V = uintF x := ⟨_, rfl⟩
      have HNx : Hid (∀ w, Calls Try.prog 155 #[.int .u64 (x : Int)] w fun e w' => e = .returned (.string (str V)) ∧ Step (fun _ => False) w w') := fun w => by rw [hV]; exact num_walk w x (by omega)
      rw [← hV] at hlx HP
      clear hV
      have hz2 := str_size V
      have hz3 := str_size (prefL op L j)
      have hwx := IntWalk.u64_in (x : Int) (by omega)
      have hap2 : str (prefL op L j) ++ str V = str (prefL op L (j + 1)) := by rw [HP.out]; exact str_append _ _
      clear HP
      go_wp2_with fail
      refine (HNx.out _).mono ?_
      rintro e w8 ⟨rfl, hS8⟩
      go_wp2_with fail
      go_roundw
      case rel => exact ⟨j + 1, by omega, rfl, by rw [Int.natCast_add]; rfl, HS.out.trans hS8, HB.out.step hS8 id⟩
      case measure => simp [intOf]; omega
    · obtain rfl : j = n := by omega
      have hz3 := str_size (prefL op L j)
      have hap2 : str (prefL op L j) ++ str V = str Z := by
        rw [HZ.out, ← HV.out]
        have e : prefL op L j = UInt8.ofNat op :: (uintF L.length ++ labL L) := by rw [← prefL_all, HN.out]
        rw [e, str_append]
        simp
      go_wp2_with fail
      refine (HN2.out _).mono ?_
      rintro e w8 ⟨rfl, hS8⟩
      go_wp2_with fail
      go_ret
      exact ⟨rfl, HS.out.trans hS8⟩

theorem tabs_agree (op : Nat) (h : op < 256) (hc : chkF op = 0) : (ofR (op : Int)).2 = true ∧ (ofR (op : Int)).1.imm = (infF op).imm := by
  have key : ((List.range 256).all fun op => !(chkF op == 0) || ((ofR (op : Int)).2 && (ofR (op : Int)).1.imm == (infF op).imm)) = true := by kernel_rfl
  rw [List.all_eq_true] at key
  have := key op (List.mem_range.2 h)
  simp [hc] at this
  exact this
theorem rput_all (w : World) (op a b c : Nat) (A : Option Addr) (L : List Nat) (S : Nat → Prop) (hr : Reads w S 1 A L.length (u32s L)) (hop : op < 256) (ha : a < 18446744073709551616) (hLb : ∀ x ∈ L, x < 4294967296) (hz : rgtF op a b L.length = 0) :
    Calls Try.prog 59 #[.agg (insC (op : Int) (a : Int) (b : Int) A L.length c)] w fun e w' => e = .returned (.string (str (putL op a b L))) ∧ Step (fun _ => False) w w' := by
  obtain ⟨hck, hi⟩ := rgt_zero hz
  obtain ⟨hn, hb, h09, h1, hlt⟩ := immF_zero hi
  obtain ⟨t1, t2⟩ := tabs_agree op hop hck
  have HO : Hid (∀ w, Calls Try.prog 24 #[.int .i64 (op : Int)] w fun e w' => e = .returned (.tuple #[rrM (ofR (op : Int)).1 ((infF op).imm : Int), .bool true]) ∧ Step (fun _ => False) w w') := fun w => by
    have := ofref_walk w (op : Int) (by omega)
    rw [t1] at this
    rw [← t2]
    exact this
  rw [putL]
  generalize hm : (infF op).imm = m at *
  by_cases m3 : m = 3
  · subst m3
    obtain rfl : b = 0 := by omega
    have hT : putT 3 a 0 L = uintF L.length ++ (labL L ++ uintF a) := by simp [putT]
    rw [hT]
    exact rput_3 w op a L.length c A _ hop (hlt (by decide) (by decide) (by decide) (by decide)).1 L rfl (by omega) hLb S hr HO
  · obtain rfl : L = [] := by
      rcases hn with hn | hn
      · exact List.eq_nil_of_length_eq_zero hn
      · exact absurd hn.1 m3
    by_cases m0 : m = 0
    · subst m0
      obtain rfl : b = 0 := by omega
      obtain rfl : a = 0 := h09 (.inl rfl)
      exact rput_0 w op 0 c A _ hop HO
    by_cases m9 : m = 9
    · subst m9
      obtain rfl : b = 0 := by omega
      obtain rfl : a = 0 := h09 (.inr rfl)
      exact rput_9 w op 0 c A _ hop HO
    by_cases m1 : m = 1
    · subst m1
      obtain rfl : b = 0 := by omega
      have hbk := h1 rfl
      have ha2 : a < 256 := by
        rw [blkF] at hbk
        split at hbk
        · omega
        · split at hbk
          · cases hbk
          · omega
      exact rput_1 w op a 0 c A _ hop ha2 HO
    by_cases m11 : m = 11
    · subst m11
      obtain rfl : b = 0 := by omega
      have hT : putT 11 a 0 [] = intF (s64 a) := by simp [putT]
      rw [hT]
      exact rput_11 w op a 0 c A _ hop ha HO
    obtain ⟨ha2, hb2⟩ := hlt m0 m9 m1 m11
    by_cases m8 : m = 8
    · subst m8
      have hT : putT 8 a b [] = uintF a ++ uintF b := by simp [putT]
      rw [hT]
      exact rput_8 w op a b 0 c A _ hop ha2 hb2 HO
    obtain rfl : b = 0 := by omega
    by_cases m5 : m = 5
    · subst m5
      have hT : putT 5 a 0 [] = uintF a ++ [UInt8.ofNat 0] := by simp [putT]
      rw [hT]
      exact rput_5 w op a 0 c A _ hop ha2 HO
    by_cases m10 : m = 10
    · subst m10
      have hT : putT 10 a 0 [] = intF (s32 a) := by simp [putT]
      rw [hT]
      exact rput_10 w op a 0 c A _ hop ha2 HO
    have hT : putT m a 0 [] = uintF a := by simp [putT, m0, m1, m3, m5, m8, m9, m10, m11]
    rw [hT]
    exact rput_d w op a 0 c A _ hop ha2 (m : Int) (by omega) HO
end Go.Proofs.Ytfemeendkjcffaa
