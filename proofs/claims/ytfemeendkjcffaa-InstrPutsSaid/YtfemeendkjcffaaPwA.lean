/-
  instr: the reference's Put of all kinds.
-/
import Derived.Test.YtfemeendkjcffaaGeC
import Derived.Test.YtfemeendkjcffaaPuB
set_option linter.unusedVariables false
set_option linter.unusedSimpArgs false
namespace Go.Proofs.Ytfemeendkjcffaa
open Go.RowKit

theorem num_len (v : Nat) : (uintF v).length ≤ 10 := uintL_len 10 v
theorem labL_len : ∀ L : List Nat, (labL L).length ≤ 10 * L.length
  | [] => by simp [labL]
  | n :: L => by
    have := labL_len L
    have := num_len n
    rw [labL_cons, List.length_append, List.length_cons]
    omega

set_option maxRecDepth 100000 in
set_option maxHeartbeats 3200000 in
theorem rput_0 (w : World) (op n c : Nat) (A : Option Addr) (r : Rr) (hop : op < 256)
    (HO : Hid (∀ w, Calls Try.prog 24 #[.int .i64 (op : Int)] w fun e w' => e = .returned (.tuple #[rrM r 0, .bool true]) ∧ Step (fun _ => False) w w')) :
    Calls Try.prog 59 #[.agg #[.int .u8 (op : Int), .int .u64 0, .int .u64 0, .slice A n c]] w fun e w' => e = .returned (.string (str (UInt8.ofNat op :: []))) ∧ Step (fun _ => False) w w' := by
  have hcv : IntKind.i64.wrap (op : Int) = op := IntWalk.i64_in _ (by omega)
  have hsz : (str [UInt8.ofNat op]).size = 1 := rfl
  have HC : Hid (∀ (w : World) (g : Nat), w.heap.size = g → (convert 53 9 (.slice (some ⟨g, 0, none⟩) 1 1)).run Try.prog (w.alloc (.cells #[.int .u8 (op : Int)] 5)) = .ok (.string (str [UInt8.ofNat op])) (w.alloc (.cells #[.int .u8 (op : Int)] 5))) := fun w g hg => by
    subst hg
    refine conv_bytes (S := fun k => k = w.heap.size) ?_
    rw [byte_cell op hop]
    exact reads_new w #[.int .u8 (op : Int)] 5 1 1 rfl
  go_enter Try.func59, Try.ntmps59
  go_wp2_with fail
  refine (HO.out _).mono ?_
  rintro e w6 ⟨rfl, hS6⟩
  have HB6 := Lib.hid ((Blk.new w 50 #[.int .u8 (op : Int), .int .u64 0, .int .u64 0, .slice A n c]).step hS6 id)
  have HS6 := Lib.hid ((Step.refl.alloc _).trans hS6)
  clear hS6
  obtain ⟨X, hX⟩ : ∃ X, X = w.heap.size := ⟨_, rfl⟩
  rw [← hX] at HB6 ⊢
  clear hX
  have hXl := HB6.out.lt
  have y0 := HB6.out.cell 0
  have y1 := HB6.out.cell 1
  have y2 := HB6.out.cell 2
  have y3 := HB6.out.cell 3
  simp at y0 y1 y2 y3
  have HCv := HC.out (w6.alloc (.cells #[.int .i64 r.op, .string (str r.name), .int .i64 0, .string (str r.takes), .string (str r.has), .bool r.free] 24)) (w6.heap.size + 1) (by simp)
  simp only [rrM]
  go_wp2_with fail
  go_ret
  exact ⟨rfl, (HS6.out.alloc _).alloc _⟩

set_option maxRecDepth 100000 in
set_option maxHeartbeats 3200000 in
theorem rput_9 (w : World) (op n c : Nat) (A : Option Addr) (r : Rr) (hop : op < 256)
    (HO : Hid (∀ w, Calls Try.prog 24 #[.int .i64 (op : Int)] w fun e w' => e = .returned (.tuple #[rrM r 9, .bool true]) ∧ Step (fun _ => False) w w')) :
    Calls Try.prog 59 #[.agg #[.int .u8 (op : Int), .int .u64 0, .int .u64 0, .slice A n c]] w fun e w' => e = .returned (.string (str (UInt8.ofNat op :: [UInt8.ofNat 0]))) ∧ Step (fun _ => False) w w' := by
  have hcv : IntKind.i64.wrap (op : Int) = op := IntWalk.i64_in _ (by omega)
  have hsz : (str [UInt8.ofNat op]).size = 1 := rfl
  have HC : Hid (∀ (w : World) (g : Nat), w.heap.size = g → (convert 53 9 (.slice (some ⟨g, 0, none⟩) 1 1)).run Try.prog (w.alloc (.cells #[.int .u8 (op : Int)] 5)) = .ok (.string (str [UInt8.ofNat op])) (w.alloc (.cells #[.int .u8 (op : Int)] 5))) := fun w g hg => by
    subst hg
    refine conv_bytes (S := fun k => k = w.heap.size) ?_
    rw [byte_cell op hop]
    exact reads_new w #[.int .u8 (op : Int)] 5 1 1 rfl
  go_enter Try.func59, Try.ntmps59
  go_wp2_with fail
  refine (HO.out _).mono ?_
  rintro e w6 ⟨rfl, hS6⟩
  have HB6 := Lib.hid ((Blk.new w 50 #[.int .u8 (op : Int), .int .u64 0, .int .u64 0, .slice A n c]).step hS6 id)
  have HS6 := Lib.hid ((Step.refl.alloc _).trans hS6)
  clear hS6
  obtain ⟨X, hX⟩ : ∃ X, X = w.heap.size := ⟨_, rfl⟩
  rw [← hX] at HB6 ⊢
  clear hX
  have hXl := HB6.out.lt
  have y0 := HB6.out.cell 0
  have y1 := HB6.out.cell 1
  have y2 := HB6.out.cell 2
  have y3 := HB6.out.cell 3
  simp at y0 y1 y2 y3
  have HCv := HC.out (w6.alloc (.cells #[.int .i64 r.op, .string (str r.name), .int .i64 9, .string (str r.takes), .string (str r.has), .bool r.free] 24)) (w6.heap.size + 1) (by simp)
  simp only [rrM]
  have happ : str [UInt8.ofNat op] ++ (⟨#[0]⟩ : ByteArray) = str (UInt8.ofNat op :: [UInt8.ofNat 0]) := str_append _ _
  go_wp2_with fail
  go_ret
  exact ⟨rfl, (HS6.out.alloc _).alloc _⟩

set_option maxRecDepth 100000 in
set_option maxHeartbeats 3200000 in
theorem rput_1 (w : World) (op a n c : Nat) (A : Option Addr) (r : Rr) (hop : op < 256) (ha : a < 256)
    (HO : Hid (∀ w, Calls Try.prog 24 #[.int .i64 (op : Int)] w fun e w' => e = .returned (.tuple #[rrM r 1, .bool true]) ∧ Step (fun _ => False) w w')) :
    Calls Try.prog 59 #[.agg #[.int .u8 (op : Int), .int .u64 (a : Int), .int .u64 0, .slice A n c]] w fun e w' => e = .returned (.string (str (UInt8.ofNat op :: [UInt8.ofNat a]))) ∧ Step (fun _ => False) w w' := by
  have hcv : IntKind.i64.wrap (op : Int) = op := IntWalk.i64_in _ (by omega)
  have hsz : (str [UInt8.ofNat op]).size = 1 := rfl
  have HC : Hid (∀ (w : World) (g : Nat), w.heap.size = g → (convert 53 9 (.slice (some ⟨g, 0, none⟩) 1 1)).run Try.prog (w.alloc (.cells #[.int .u8 (op : Int)] 5)) = .ok (.string (str [UInt8.ofNat op])) (w.alloc (.cells #[.int .u8 (op : Int)] 5))) := fun w g hg => by
    subst hg
    refine conv_bytes (S := fun k => k = w.heap.size) ?_
    rw [byte_cell op hop]
    exact reads_new w #[.int .u8 (op : Int)] 5 1 1 rfl
  go_enter Try.func59, Try.ntmps59
  go_wp2_with fail
  refine (HO.out _).mono ?_
  rintro e w6 ⟨rfl, hS6⟩
  have HB6 := Lib.hid ((Blk.new w 50 #[.int .u8 (op : Int), .int .u64 (a : Int), .int .u64 0, .slice A n c]).step hS6 id)
  have HS6 := Lib.hid ((Step.refl.alloc _).trans hS6)
  clear hS6
  obtain ⟨X, hX⟩ : ∃ X, X = w.heap.size := ⟨_, rfl⟩
  rw [← hX] at HB6 ⊢
  clear hX
  have hXl := HB6.out.lt
  have y0 := HB6.out.cell 0
  have y1 := HB6.out.cell 1
  have y2 := HB6.out.cell 2
  have y3 := HB6.out.cell 3
  simp at y0 y1 y2 y3
  have HCv := HC.out (w6.alloc (.cells #[.int .i64 r.op, .string (str r.name), .int .i64 1, .string (str r.takes), .string (str r.has), .bool r.free] 24)) (w6.heap.size + 1) (by simp)
  simp only [rrM]
  have hwa := IntWalk.u8_in (a : Int) (by omega)
  have hs2 : (str [UInt8.ofNat a]).size = 1 := rfl
  have HD : (convert 53 9 (.slice (some ⟨w6.heap.size + 1 + 1, 0, none⟩) 1 1)).run Try.prog (((w6.alloc (.cells #[.int .i64 r.op, .string (str r.name), .int .i64 1, .string (str r.takes), .string (str r.has), .bool r.free] 24)).alloc (.cells #[.int .u8 (op : Int)] 5)).alloc (.cells #[.int .u8 (a : Int)] 5)) = .ok (.string (str [UInt8.ofNat a])) (((w6.alloc (.cells #[.int .i64 r.op, .string (str r.name), .int .i64 1, .string (str r.takes), .string (str r.has), .bool r.free] 24)).alloc (.cells #[.int .u8 (op : Int)] 5)).alloc (.cells #[.int .u8 (a : Int)] 5)) := by
    obtain ⟨v, hv⟩ : ∃ v, v = (w6.alloc (.cells #[.int .i64 r.op, .string (str r.name), .int .i64 1, .string (str r.takes), .string (str r.has), .bool r.free] 24)).alloc (.cells #[.int .u8 (op : Int)] 5) := ⟨_, rfl⟩
    have hvs : w6.heap.size + 1 + 1 = v.heap.size := by rw [hv]; simp
    rw [← hv, hvs]
    refine conv_bytes (S := fun k => k = v.heap.size) ?_
    rw [byte_cell a ha]
    exact reads_new v #[.int .u8 (a : Int)] 5 1 1 rfl
  have happ : str [UInt8.ofNat op] ++ str [UInt8.ofNat a] = str (UInt8.ofNat op :: [UInt8.ofNat a]) := str_append _ _
  go_wp2_with fail
  go_ret
  exact ⟨rfl, ((HS6.out.alloc _).alloc _).alloc _⟩

set_option maxRecDepth 100000 in
set_option maxHeartbeats 3200000 in
theorem rput_5 (w : World) (op a n c : Nat) (A : Option Addr) (r : Rr) (hop : op < 256) (ha : a < 4294967296)
    (HO : Hid (∀ w, Calls Try.prog 24 #[.int .i64 (op : Int)] w fun e w' => e = .returned (.tuple #[rrM r 5, .bool true]) ∧ Step (fun _ => False) w w')) :
    Calls Try.prog 59 #[.agg #[.int .u8 (op : Int), .int .u64 (a : Int), .int .u64 0, .slice A n c]] w fun e w' => e = .returned (.string (str (UInt8.ofNat op :: (uintF a ++ [UInt8.ofNat 0])))) ∧ Step (fun _ => False) w w' := by
  have hcv : IntKind.i64.wrap (op : Int) = op := IntWalk.i64_in _ (by omega)
  have hsz : (str [UInt8.ofNat op]).size = 1 := rfl
  have hl1 := num_len a
  obtain ⟨U, hU1⟩ : ∃ U, U = uintF a := ⟨_, rfl⟩
  have HN1 : Hid (∀ w, Calls Try.prog 155 #[.int .u64 (a : Int)] w fun e w' => e = .returned (.string (str U)) ∧ Step (fun _ => False) w w') := fun w => by rw [hU1]; exact num_walk w a (by omega)
  rw [← hU1] at hl1 ⊢
  clear hU1
  have hz1 := str_size U
  have HC : Hid (∀ (w : World) (g : Nat), w.heap.size = g → (convert 53 9 (.slice (some ⟨g, 0, none⟩) 1 1)).run Try.prog (w.alloc (.cells #[.int .u8 (op : Int)] 5)) = .ok (.string (str [UInt8.ofNat op])) (w.alloc (.cells #[.int .u8 (op : Int)] 5))) := fun w g hg => by
    subst hg
    refine conv_bytes (S := fun k => k = w.heap.size) ?_
    rw [byte_cell op hop]
    exact reads_new w #[.int .u8 (op : Int)] 5 1 1 rfl
  go_enter Try.func59, Try.ntmps59
  go_wp2_with fail
  refine (HO.out _).mono ?_
  rintro e w6 ⟨rfl, hS6⟩
  have HB6 := Lib.hid ((Blk.new w 50 #[.int .u8 (op : Int), .int .u64 (a : Int), .int .u64 0, .slice A n c]).step hS6 id)
  have HS6 := Lib.hid ((Step.refl.alloc _).trans hS6)
  clear hS6
  obtain ⟨X, hX⟩ : ∃ X, X = w.heap.size := ⟨_, rfl⟩
  rw [← hX] at HB6 ⊢
  clear hX
  have hXl := HB6.out.lt
  have y0 := HB6.out.cell 0
  have y1 := HB6.out.cell 1
  have y2 := HB6.out.cell 2
  have y3 := HB6.out.cell 3
  simp at y0 y1 y2 y3
  have HCv := HC.out (w6.alloc (.cells #[.int .i64 r.op, .string (str r.name), .int .i64 5, .string (str r.takes), .string (str r.has), .bool r.free] 24)) (w6.heap.size + 1) (by simp)
  simp only [rrM]
  go_wp2_with fail
  refine (HN1.out _).mono ?_
  rintro e w7 ⟨rfl, hS7⟩
  have HS7 := Lib.hid (((HS6.out.alloc _).alloc _).trans hS7)
  have happ : str [UInt8.ofNat op] ++ str U = str (UInt8.ofNat op :: U) := str_append _ _
  have hs2 := str_size (UInt8.ofNat op :: U)
  have happ2 : str (UInt8.ofNat op :: U) ++ (⟨#[0]⟩ : ByteArray) = str (UInt8.ofNat op :: (U ++ [UInt8.ofNat 0])) := str_append _ _
  clear hS7 HS6
  go_wp2_with fail
  go_ret
  exact ⟨rfl, HS7.out⟩

set_option maxRecDepth 100000 in
set_option maxHeartbeats 3200000 in
theorem rput_d (w : World) (op a n c : Nat) (A : Option Addr) (r : Rr) (hop : op < 256) (ha : a < 4294967296) (m : Int) (hm : ¬ m = 0 ∧ ¬ m = 1 ∧ ¬ m = 3 ∧ ¬ m = 5 ∧ ¬ m = 8 ∧ ¬ m = 9 ∧ ¬ m = 10 ∧ ¬ m = 11)
    (HO : Hid (∀ w, Calls Try.prog 24 #[.int .i64 (op : Int)] w fun e w' => e = .returned (.tuple #[rrM r m, .bool true]) ∧ Step (fun _ => False) w w')) :
    Calls Try.prog 59 #[.agg #[.int .u8 (op : Int), .int .u64 (a : Int), .int .u64 0, .slice A n c]] w fun e w' => e = .returned (.string (str (UInt8.ofNat op :: uintF a))) ∧ Step (fun _ => False) w w' := by
  have hcv : IntKind.i64.wrap (op : Int) = op := IntWalk.i64_in _ (by omega)
  have hsz : (str [UInt8.ofNat op]).size = 1 := rfl
  have hl1 := num_len a
  obtain ⟨U, hU1⟩ : ∃ U, U = uintF a := ⟨_, rfl⟩
  have HN1 : Hid (∀ w, Calls Try.prog 155 #[.int .u64 (a : Int)] w fun e w' => e = .returned (.string (str U)) ∧ Step (fun _ => False) w w') := fun w => by rw [hU1]; exact num_walk w a (by omega)
  rw [← hU1] at hl1 ⊢
  clear hU1
  have hz1 := str_size U
  have m0 : (m == 0) = false := by simp; omega
  have m1 : (m == 1) = false := by simp; omega
  have m3 : (m == 3) = false := by simp; omega
  have m5 : (m == 5) = false := by simp; omega
  have m8 : (m == 8) = false := by simp; omega
  have m9 : (m == 9) = false := by simp; omega
  have m10 : (m == 10) = false := by simp; omega
  have m11 : (m == 11) = false := by simp; omega
  have HC : Hid (∀ (w : World) (g : Nat), w.heap.size = g → (convert 53 9 (.slice (some ⟨g, 0, none⟩) 1 1)).run Try.prog (w.alloc (.cells #[.int .u8 (op : Int)] 5)) = .ok (.string (str [UInt8.ofNat op])) (w.alloc (.cells #[.int .u8 (op : Int)] 5))) := fun w g hg => by
    subst hg
    refine conv_bytes (S := fun k => k = w.heap.size) ?_
    rw [byte_cell op hop]
    exact reads_new w #[.int .u8 (op : Int)] 5 1 1 rfl
  go_enter Try.func59, Try.ntmps59
  go_wp2_with fail
  refine (HO.out _).mono ?_
  rintro e w6 ⟨rfl, hS6⟩
  have HB6 := Lib.hid ((Blk.new w 50 #[.int .u8 (op : Int), .int .u64 (a : Int), .int .u64 0, .slice A n c]).step hS6 id)
  have HS6 := Lib.hid ((Step.refl.alloc _).trans hS6)
  clear hS6
  obtain ⟨X, hX⟩ : ∃ X, X = w.heap.size := ⟨_, rfl⟩
  rw [← hX] at HB6 ⊢
  clear hX
  have hXl := HB6.out.lt
  have y0 := HB6.out.cell 0
  have y1 := HB6.out.cell 1
  have y2 := HB6.out.cell 2
  have y3 := HB6.out.cell 3
  simp at y0 y1 y2 y3
  have HCv := HC.out (w6.alloc (.cells #[.int .i64 r.op, .string (str r.name), .int .i64 m, .string (str r.takes), .string (str r.has), .bool r.free] 24)) (w6.heap.size + 1) (by simp)
  simp only [rrM]
  go_wp2_with fail
  refine (HN1.out _).mono ?_
  rintro e w7 ⟨rfl, hS7⟩
  have HS7 := Lib.hid (((HS6.out.alloc _).alloc _).trans hS7)
  have happ : str [UInt8.ofNat op] ++ str U = str (UInt8.ofNat op :: U) := str_append _ _
  clear hS7 HS6
  go_wp2_with fail
  go_ret
  exact ⟨rfl, HS7.out⟩

set_option maxRecDepth 100000 in
set_option maxHeartbeats 3200000 in
theorem rput_8 (w : World) (op a b n c : Nat) (A : Option Addr) (r : Rr) (hop : op < 256) (ha : a < 4294967296) (hb : b < 4294967296)
    (HO : Hid (∀ w, Calls Try.prog 24 #[.int .i64 (op : Int)] w fun e w' => e = .returned (.tuple #[rrM r 8, .bool true]) ∧ Step (fun _ => False) w w')) :
    Calls Try.prog 59 #[.agg #[.int .u8 (op : Int), .int .u64 (a : Int), .int .u64 (b : Int), .slice A n c]] w fun e w' => e = .returned (.string (str (UInt8.ofNat op :: (uintF a ++ uintF b)))) ∧ Step (fun _ => False) w w' := by
  have hcv : IntKind.i64.wrap (op : Int) = op := IntWalk.i64_in _ (by omega)
  have hsz : (str [UInt8.ofNat op]).size = 1 := rfl
  have hl1 := num_len a
  obtain ⟨U, hU1⟩ : ∃ U, U = uintF a := ⟨_, rfl⟩
  have HN1 : Hid (∀ w, Calls Try.prog 155 #[.int .u64 (a : Int)] w fun e w' => e = .returned (.string (str U)) ∧ Step (fun _ => False) w w') := fun w => by rw [hU1]; exact num_walk w a (by omega)
  rw [← hU1] at hl1 ⊢
  clear hU1
  have hz1 := str_size U
  have hl2 := num_len b
  obtain ⟨V, hU2⟩ : ∃ V, V = uintF b := ⟨_, rfl⟩
  have HN2 : Hid (∀ w, Calls Try.prog 155 #[.int .u64 (b : Int)] w fun e w' => e = .returned (.string (str V)) ∧ Step (fun _ => False) w w') := fun w => by rw [hU2]; exact num_walk w b (by omega)
  rw [← hU2] at hl2 ⊢
  clear hU2
  have hz2 := str_size V
  have HC : Hid (∀ (w : World) (g : Nat), w.heap.size = g → (convert 53 9 (.slice (some ⟨g, 0, none⟩) 1 1)).run Try.prog (w.alloc (.cells #[.int .u8 (op : Int)] 5)) = .ok (.string (str [UInt8.ofNat op])) (w.alloc (.cells #[.int .u8 (op : Int)] 5))) := fun w g hg => by
    subst hg
    refine conv_bytes (S := fun k => k = w.heap.size) ?_
    rw [byte_cell op hop]
    exact reads_new w #[.int .u8 (op : Int)] 5 1 1 rfl
  go_enter Try.func59, Try.ntmps59
  go_wp2_with fail
  refine (HO.out _).mono ?_
  rintro e w6 ⟨rfl, hS6⟩
  have HB6 := Lib.hid ((Blk.new w 50 #[.int .u8 (op : Int), .int .u64 (a : Int), .int .u64 (b : Int), .slice A n c]).step hS6 id)
  have HS6 := Lib.hid ((Step.refl.alloc _).trans hS6)
  clear hS6
  obtain ⟨X, hX⟩ : ∃ X, X = w.heap.size := ⟨_, rfl⟩
  rw [← hX] at HB6 ⊢
  clear hX
  have hXl := HB6.out.lt
  have y0 := HB6.out.cell 0
  have y1 := HB6.out.cell 1
  have y2 := HB6.out.cell 2
  have y3 := HB6.out.cell 3
  simp at y0 y1 y2 y3
  have HCv := HC.out (w6.alloc (.cells #[.int .i64 r.op, .string (str r.name), .int .i64 8, .string (str r.takes), .string (str r.has), .bool r.free] 24)) (w6.heap.size + 1) (by simp)
  simp only [rrM]
  have happ : str [UInt8.ofNat op] ++ str U = str (UInt8.ofNat op :: U) := str_append _ _
  have hs2 := str_size (UInt8.ofNat op :: U)
  have happ2 : str (UInt8.ofNat op :: U) ++ str V = str (UInt8.ofNat op :: (U ++ V)) := str_append _ _
  go_wp2_with fail
  have HB7 := Lib.hid ((HB6.out.alloc (.cells #[.int .i64 r.op, .string (str r.name), .int .i64 8, .string (str r.takes), .string (str r.has), .bool r.free] 24)).alloc (.cells #[.int .u8 (op : Int)] 5))
  have HS7 := Lib.hid ((HS6.out.alloc (.cells #[.int .i64 r.op, .string (str r.name), .int .i64 8, .string (str r.takes), .string (str r.has), .bool r.free] 24)).alloc (.cells #[.int .u8 (op : Int)] 5))
  obtain ⟨W, hW⟩ : ∃ W, W = (w6.alloc (.cells #[.int .i64 r.op, .string (str r.name), .int .i64 8, .string (str r.takes), .string (str r.has), .bool r.free] 24)).alloc (.cells #[.int .u8 (op : Int)] 5) := ⟨_, rfl⟩
  rw [← hW] at HB7 HS7 ⊢
  clear hW HS6 HB6 y0 y1 y2 y3 HCv
  have y1 := HB7.out.cell 1
  have y2 := HB7.out.cell 2
  simp at y1 y2
  have d1 := cls_cell (F := fun _ => False) (w0 := W) y1 id
  have d2 := cls_cell (F := fun _ => False) (w0 := W) y2 id
  clear y1 y2
  refine Mix.wp_region_mix [3, 7] [3, 7] (Step (fun _ => False) W) (by kernel_rfl) (by kernel_rfl) Step.refl.drew (fun hcls => ?_)
  refine Mix.wpL_reads 3 (by rfl) ?_
  simp only [List.take_succ_cons, List.drop_succ_cons, List.take_zero, List.drop_zero]
  repeat (go_big_quiet_step (fail))
  refine wpQuiet_nil ?_
  refine Mix.wpL_op (by rfl) (fun K hK => ?_)
  go_simp
  refine (HN1.out _).mono ?_
  rintro e w8 ⟨rfl, hS8⟩
  have HS8 := Lib.hid (Step.refl.drew.trans hS8)
  refine hK _ _ (fun hlt => Mix.cl HS8.out) ?_
  clear hK K hS8
  refine Mix.wpL_reads 3 (by rfl) ?_
  simp only [List.take_succ_cons, List.drop_succ_cons, List.take_zero, List.drop_zero]
  repeat (go_big_quiet_step (fail))
  refine wpQuiet_nil ?_
  refine Mix.wpL_op (by rfl) (fun K hK => ?_)
  go_simp
  refine (HN2.out _).mono ?_
  rintro e w9 ⟨rfl, hS9⟩
  have HS9 := Lib.hid (HS8.out.trans hS9)
  refine hK _ _ (fun hlt => Mix.cl HS9.out) ?_
  clear hK K hS9
  refine Mix.wpL_reads 2 (by rfl) ?_
  simp only [List.take_succ_cons, List.drop_succ_cons, List.take_zero, List.drop_zero]
  repeat (go_big_quiet_step (fail))
  refine wpQuiet_nil ?_
  refine Mix.wpL_end ?_
  go_wp2_with fail
  go_ret
  exact ⟨rfl, HS7.out.trans HS9.out⟩
end Go.Proofs.Ytfemeendkjcffaa
