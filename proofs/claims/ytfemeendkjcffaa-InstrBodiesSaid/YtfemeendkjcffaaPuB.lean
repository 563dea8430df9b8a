/-
  instr: the reference's Put of the instructions of constants.
-/
import Derived.Test.YtfemeendkjcffaaPuA
set_option linter.unusedVariables false
set_option linter.unusedSimpArgs false
namespace Go.Proofs.Ytfemeendkjcffaa
open Go.RowKit


set_option maxRecDepth 100000 in
set_option maxHeartbeats 1600000 in
theorem rput_7 (w : World) (op : Nat) (a n c : Nat) (A : Option Addr) (r : Rr) (hop : op < 256) (ha : a < 4294967296)
    (HO : Hid (∀ w, Calls Try.prog 24 #[.int .i64 (op : Int)] w fun e w' => e = .returned (.tuple #[rrM r 7, .bool true]) ∧ Step (fun _ => False) w w')) :
    Calls Try.prog 59 #[.agg #[.int .u8 (op : Int), .int .u64 (a : Int), .int .u64 0, .slice A n c]] w fun e w' => e = .returned (.string (str (UInt8.ofNat op :: uintF a))) ∧ Step (fun _ => False) w w' := by
  have hcv : IntKind.i64.wrap (op : Int) = op := IntWalk.i64_in _ (by omega)
  obtain ⟨T, hT⟩ : ∃ T, T = uintF a := ⟨_, rfl⟩
  have HN : Hid (∀ w, Calls Try.prog 155 #[.int .u64 (a : Int) ] w fun e w' => e = .returned (.string (str T)) ∧ Step (fun _ => False) w w') := fun w => by rw [hT]; exact num_walk w a (by omega)
  have hTl : T.length ≤ 10 := by rw [hT]; exact uintL_len 10 a
  rw [← hT]
  clear hT
  have hT1 := str_size T
  have hsz : (str [UInt8.ofNat op]).size = 1 := rfl
  have HC : Hid (∀ (w : World) (g : Nat), w.heap.size = g → (convert 53 9 (.slice (some ⟨g, 0, none⟩) 1 1)).run Try.prog (w.alloc (.cells #[.int .u8 (op : Int)] 5)) = .ok (.string (str [UInt8.ofNat op])) (w.alloc (.cells #[.int .u8 (op : Int)] 5))) := fun w g hg => by
    subst hg
    refine conv_bytes (S := fun k => k = w.heap.size) ?_
    rw [byte_cell op hop]
    exact reads_new w #[.int .u8 (op : Int)] 5 1 1 rfl
  go_enter Try.func59, Try.ntmps59
  go_wp2_with fail
  refine (HO.out _).mono ?_
  rintro e w6 ⟨rfl, hS6⟩
  have HB6 := Lib.hid ((Blk.new w 50 #[.int .u8 (op : Int), .int .u64 (a : Int), .int .u64 0, .slice A n c]).step hS6 id)
  have HS6 := Lib.hid ((Step.refl.alloc _).trans hS6)
  clear hS6
  obtain ⟨X, hX⟩ : ∃ X, X = w.heap.size := ⟨_, rfl⟩
  rw [← hX] at HB6 ⊢
  clear hX
  have hXl := HB6.out.lt
  have y0 := HB6.out.cell 0
  have y1 := HB6.out.cell 1
  simp at y0 y1
  have HCv := HC.out (w6.alloc (.cells #[.int .i64 r.op, .string (str r.name), .int .i64 7, .string (str r.takes), .string (str r.has), .bool r.free] 24)) (w6.heap.size + 1) (by simp)
  simp only [rrM]
  go_wp2_with fail
  refine (HN.out _).mono ?_
  rintro e w7 ⟨rfl, hS7⟩
  have HS7 := Lib.hid (((HS6.out.alloc _).alloc _).trans hS7)
  have happ : str [UInt8.ofNat op] ++ str T = str (UInt8.ofNat op :: T) := str_append _ _
  clear hS7 HS6
  go_wp2_with fail
  go_ret
  exact ⟨rfl, HS7.out⟩

set_option maxRecDepth 100000 in
set_option maxHeartbeats 1600000 in
theorem rput_10 (w : World) (op : Nat) (a n c : Nat) (A : Option Addr) (r : Rr) (hop : op < 256) (ha : a < 4294967296)
    (HO : Hid (∀ w, Calls Try.prog 24 #[.int .i64 (op : Int)] w fun e w' => e = .returned (.tuple #[rrM r 10, .bool true]) ∧ Step (fun _ => False) w w')) :
    Calls Try.prog 59 #[.agg #[.int .u8 (op : Int), .int .u64 (a : Int), .int .u64 0, .slice A n c]] w fun e w' => e = .returned (.string (str (UInt8.ofNat op :: intF (s32 a)))) ∧ Step (fun _ => False) w w' := by
  have hcv : IntKind.i64.wrap (op : Int) = op := IntWalk.i64_in _ (by omega)
  obtain ⟨T, hT⟩ : ∃ T, T = intF (s32 a) := ⟨_, rfl⟩
  have HN : Hid (∀ w, Calls Try.prog 156 #[.int .u64 (a : Int), .int .u64 32 ] w fun e w' => e = .returned (.string (str T)) ∧ Step (fun _ => False) w w') := fun w => by rw [hT]; exact signed32_walk w a ha
  have hTl : T.length ≤ 10 := by rw [hT]; exact intL_len 10 _
  rw [← hT]
  clear hT
  have hT1 := str_size T
  have hsz : (str [UInt8.ofNat op]).size = 1 := rfl
  have HC : Hid (∀ (w : World) (g : Nat), w.heap.size = g → (convert 53 9 (.slice (some ⟨g, 0, none⟩) 1 1)).run Try.prog (w.alloc (.cells #[.int .u8 (op : Int)] 5)) = .ok (.string (str [UInt8.ofNat op])) (w.alloc (.cells #[.int .u8 (op : Int)] 5))) := fun w g hg => by
    subst hg
    refine conv_bytes (S := fun k => k = w.heap.size) ?_
    rw [byte_cell op hop]
    exact reads_new w #[.int .u8 (op : Int)] 5 1 1 rfl
  go_enter Try.func59, Try.ntmps59
  go_wp2_with fail
  refine (HO.out _).mono ?_
  rintro e w6 ⟨rfl, hS6⟩
  have HB6 := Lib.hid ((Blk.new w 50 #[.int .u8 (op : Int), .int .u64 (a : Int), .int .u64 0, .slice A n c]).step hS6 id)
  have HS6 := Lib.hid ((Step.refl.alloc _).trans hS6)
  clear hS6
  obtain ⟨X, hX⟩ : ∃ X, X = w.heap.size := ⟨_, rfl⟩
  rw [← hX] at HB6 ⊢
  clear hX
  have hXl := HB6.out.lt
  have y0 := HB6.out.cell 0
  have y1 := HB6.out.cell 1
  simp at y0 y1
  have HCv := HC.out (w6.alloc (.cells #[.int .i64 r.op, .string (str r.name), .int .i64 10, .string (str r.takes), .string (str r.has), .bool r.free] 24)) (w6.heap.size + 1) (by simp)
  simp only [rrM]
  go_wp2_with fail
  refine (HN.out _).mono ?_
  rintro e w7 ⟨rfl, hS7⟩
  have HS7 := Lib.hid (((HS6.out.alloc _).alloc _).trans hS7)
  have happ : str [UInt8.ofNat op] ++ str T = str (UInt8.ofNat op :: T) := str_append _ _
  clear hS7 HS6
  go_wp2_with fail
  go_ret
  exact ⟨rfl, HS7.out⟩

set_option maxRecDepth 100000 in
set_option maxHeartbeats 1600000 in
theorem rput_11 (w : World) (op : Nat) (a n c : Nat) (A : Option Addr) (r : Rr) (hop : op < 256) (ha : a < 18446744073709551616)
    (HO : Hid (∀ w, Calls Try.prog 24 #[.int .i64 (op : Int)] w fun e w' => e = .returned (.tuple #[rrM r 11, .bool true]) ∧ Step (fun _ => False) w w')) :
    Calls Try.prog 59 #[.agg #[.int .u8 (op : Int), .int .u64 (a : Int), .int .u64 0, .slice A n c]] w fun e w' => e = .returned (.string (str (UInt8.ofNat op :: intF (s64 a)))) ∧ Step (fun _ => False) w w' := by
  have hcv : IntKind.i64.wrap (op : Int) = op := IntWalk.i64_in _ (by omega)
  obtain ⟨T, hT⟩ : ∃ T, T = intF (s64 a) := ⟨_, rfl⟩
  have HN : Hid (∀ w, Calls Try.prog 156 #[.int .u64 (a : Int), .int .u64 64 ] w fun e w' => e = .returned (.string (str T)) ∧ Step (fun _ => False) w w') := fun w => by rw [hT]; exact signed64_walk w a ha
  have hTl : T.length ≤ 10 := by rw [hT]; exact intL_len 10 _
  rw [← hT]
  clear hT
  have hT1 := str_size T
  have hsz : (str [UInt8.ofNat op]).size = 1 := rfl
  have HC : Hid (∀ (w : World) (g : Nat), w.heap.size = g → (convert 53 9 (.slice (some ⟨g, 0, none⟩) 1 1)).run Try.prog (w.alloc (.cells #[.int .u8 (op : Int)] 5)) = .ok (.string (str [UInt8.ofNat op])) (w.alloc (.cells #[.int .u8 (op : Int)] 5))) := fun w g hg => by
    subst hg
    refine conv_bytes (S := fun k => k = w.heap.size) ?_
    rw [byte_cell op hop]
    exact reads_new w #[.int .u8 (op : Int)] 5 1 1 rfl
  go_enter Try.func59, Try.ntmps59
  go_wp2_with fail
  refine (HO.out _).mono ?_
  rintro e w6 ⟨rfl, hS6⟩
  have HB6 := Lib.hid ((Blk.new w 50 #[.int .u8 (op : Int), .int .u64 (a : Int), .int .u64 0, .slice A n c]).step hS6 id)
  have HS6 := Lib.hid ((Step.refl.alloc _).trans hS6)
  clear hS6
  obtain ⟨X, hX⟩ : ∃ X, X = w.heap.size := ⟨_, rfl⟩
  rw [← hX] at HB6 ⊢
  clear hX
  have hXl := HB6.out.lt
  have y0 := HB6.out.cell 0
  have y1 := HB6.out.cell 1
  simp at y0 y1
  have HCv := HC.out (w6.alloc (.cells #[.int .i64 r.op, .string (str r.name), .int .i64 11, .string (str r.takes), .string (str r.has), .bool r.free] 24)) (w6.heap.size + 1) (by simp)
  simp only [rrM]
  go_wp2_with fail
  refine (HN.out _).mono ?_
  rintro e w7 ⟨rfl, hS7⟩
  have HS7 := Lib.hid (((HS6.out.alloc _).alloc _).trans hS7)
  have happ : str [UInt8.ofNat op] ++ str T = str (UInt8.ofNat op :: T) := str_append _ _
  clear hS7 HS6
  go_wp2_with fail
  go_ret
  exact ⟨rfl, HS7.out⟩
end Go.Proofs.Ytfemeendkjcffaa
