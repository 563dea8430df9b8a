/-
  Kwf: KvF, KvG, KvH, KvI, KvJ.
-/
import Derived.Test.YtpebdfgfikjkeaaKwc
import Derived.Test.YtpebdfgfikjkeaaKkc
import Derived.Test.YtpebdfgfikjkeaaInC
import Derived.Test.YtpebdfgfikjkeaaInE
import Derived.Test.YtpebdfgfikjkeaaKka
import Derived.Test.YtpebdfgfikjkeaaGrA
set_option linter.unusedVariables false
set_option linter.unusedSimpArgs false
/-! imports.Right. -/
namespace Go.Proofs.Ytpebdfgfikjkeaa
open Go.RowKit

set_option maxRecDepth 100000 in
set_option maxHeartbeats 1600000 in
theorem i_r_0mi (w : World) (s0 s1 : List UInt8) (k t mi ma g : Nat) (bo gm : Bool) (h0 : utfE s0 = 0) (h1 : utfE s1 = 0) (hz : ¬ (0 : Int) = (mi : Int)) (hz2 : ((mi : Int) != 0) = true) (hz3 : ((mi : Int) == 0) = false) :
    Calls Try.prog 56 #[.agg #[.string (str s0), .string (str s1), .int .u8 0, .int .u32 (t : Int), .int .u32 (mi : Int), .int .u32 (ma : Int), .bool bo, .int .u8 (g : Int), .bool gm]] w fun e w' => e = .returned (.int .i64 (1)) ∧ Step (fun _ => False) w w' := by
  have s1' : Step (fun _ => False) w (w.alloc (.cells #[.string (str s0), .string (str s1), .int .u8 0, .int .u32 (t : Int), .int .u32 (mi : Int), .int .u32 (ma : Int), .bool bo, .int .u8 (g : Int), .bool gm] 64)) := Step.refl.alloc _
  have b1 := Blk.new w 64 #[.string (str s0), .string (str s1), .int .u8 0, .int .u32 (t : Int), .int .u32 (mi : Int), .int .u32 (ma : Int), .bool bo, .int .u8 (g : Int), .bool gm]
  have S1 := Lib.hid s1'
  have B1 := Lib.hid b1
  have C0 := Lib.hid (fun W => u_check W s0)
  have C1 := Lib.hid (fun W => u_check W s1)
  rw [h0] at C0
  rw [h1] at C1
  clear s1' b1 h0 h1
  go_enter Try.func56, Try.ntmps56
  go_wp2_with fail
  refine (C0.out _).mono ?_
  rintro e w1 ⟨rfl, t1⟩
  replace B1 := Lib.hid (B1.out.step t1 id)
  replace S1 := Lib.hid (S1.out.trans t1)
  clear t1
  have m1 := (B1.out.cell 1).trans (show _ = some (Value.string (str s1)) from rfl)
  go_wp2_with fail
  refine (C1.out _).mono ?_
  rintro e w2 ⟨rfl, t2⟩
  replace B1 := Lib.hid (B1.out.step t2 id)
  replace S1 := Lib.hid (S1.out.trans t2)
  clear t2 m1
  have m0 := (B1.out.cell 0).trans (show _ = some (Value.string (str s0)) from rfl)
  have m1 := (B1.out.cell 1).trans (show _ = some (Value.string (str s1)) from rfl)
  have m2 := (B1.out.cell 2).trans (show _ = some (Value.int .u8 0) from rfl)
  have m3 := (B1.out.cell 3).trans (show _ = some (Value.int .u32 (t : Int)) from rfl)
  have m4 := (B1.out.cell 4).trans (show _ = some (Value.int .u32 (mi : Int)) from rfl)
  have m5 := (B1.out.cell 5).trans (show _ = some (Value.int .u32 (ma : Int)) from rfl)
  have m6 := (B1.out.cell 6).trans (show _ = some (Value.bool bo) from rfl)
  have m7 := (B1.out.cell 7).trans (show _ = some (Value.int .u8 (g : Int)) from rfl)
  have m8 := (B1.out.cell 8).trans (show _ = some (Value.bool gm) from rfl)
  have nb := B1.out.lt
  generalize w.heap.size = N at *
  have nN : N ≠ w2.heap.size := Nat.ne_of_lt nb
  go_wp2_with fail
  go_ret
  exact ⟨rfl, S1.out.alloc _⟩
set_option maxRecDepth 100000 in
set_option maxHeartbeats 1600000 in
theorem i_r_0ma (w : World) (s0 s1 : List UInt8) (k t mi ma g : Nat) (bo gm : Bool) (h0 : utfE s0 = 0) (h1 : utfE s1 = 0) (hz : ¬ (0 : Int) = (ma : Int)) (hz2 : ((ma : Int) != 0) = true) (hz3 : ((ma : Int) == 0) = false) :
    Calls Try.prog 56 #[.agg #[.string (str s0), .string (str s1), .int .u8 0, .int .u32 (t : Int), .int .u32 0, .int .u32 (ma : Int), .bool bo, .int .u8 (g : Int), .bool gm]] w fun e w' => e = .returned (.int .i64 (1)) ∧ Step (fun _ => False) w w' := by
  have s1' : Step (fun _ => False) w (w.alloc (.cells #[.string (str s0), .string (str s1), .int .u8 0, .int .u32 (t : Int), .int .u32 0, .int .u32 (ma : Int), .bool bo, .int .u8 (g : Int), .bool gm] 64)) := Step.refl.alloc _
  have b1 := Blk.new w 64 #[.string (str s0), .string (str s1), .int .u8 0, .int .u32 (t : Int), .int .u32 0, .int .u32 (ma : Int), .bool bo, .int .u8 (g : Int), .bool gm]
  have S1 := Lib.hid s1'
  have B1 := Lib.hid b1
  have C0 := Lib.hid (fun W => u_check W s0)
  have C1 := Lib.hid (fun W => u_check W s1)
  rw [h0] at C0
  rw [h1] at C1
  clear s1' b1 h0 h1
  go_enter Try.func56, Try.ntmps56
  go_wp2_with fail
  refine (C0.out _).mono ?_
  rintro e w1 ⟨rfl, t1⟩
  replace B1 := Lib.hid (B1.out.step t1 id)
  replace S1 := Lib.hid (S1.out.trans t1)
  clear t1
  have m1 := (B1.out.cell 1).trans (show _ = some (Value.string (str s1)) from rfl)
  go_wp2_with fail
  refine (C1.out _).mono ?_
  rintro e w2 ⟨rfl, t2⟩
  replace B1 := Lib.hid (B1.out.step t2 id)
  replace S1 := Lib.hid (S1.out.trans t2)
  clear t2 m1
  have m0 := (B1.out.cell 0).trans (show _ = some (Value.string (str s0)) from rfl)
  have m1 := (B1.out.cell 1).trans (show _ = some (Value.string (str s1)) from rfl)
  have m2 := (B1.out.cell 2).trans (show _ = some (Value.int .u8 0) from rfl)
  have m3 := (B1.out.cell 3).trans (show _ = some (Value.int .u32 (t : Int)) from rfl)
  have m4 := (B1.out.cell 4).trans (show _ = some (Value.int .u32 0) from rfl)
  have m5 := (B1.out.cell 5).trans (show _ = some (Value.int .u32 (ma : Int)) from rfl)
  have m6 := (B1.out.cell 6).trans (show _ = some (Value.bool bo) from rfl)
  have m7 := (B1.out.cell 7).trans (show _ = some (Value.int .u8 (g : Int)) from rfl)
  have m8 := (B1.out.cell 8).trans (show _ = some (Value.bool gm) from rfl)
  have nb := B1.out.lt
  generalize w.heap.size = N at *
  have nN : N ≠ w2.heap.size := Nat.ne_of_lt nb
  go_wp2_with fail
  go_ret
  exact ⟨rfl, S1.out.alloc _⟩
set_option maxRecDepth 100000 in
set_option maxHeartbeats 1600000 in
theorem i_r_0bo (w : World) (s0 s1 : List UInt8) (k t mi ma g : Nat) (bo gm : Bool) (h0 : utfE s0 = 0) (h1 : utfE s1 = 0) :
    Calls Try.prog 56 #[.agg #[.string (str s0), .string (str s1), .int .u8 0, .int .u32 (t : Int), .int .u32 0, .int .u32 0, .bool true, .int .u8 (g : Int), .bool gm]] w fun e w' => e = .returned (.int .i64 (1)) ∧ Step (fun _ => False) w w' := by
  have s1' : Step (fun _ => False) w (w.alloc (.cells #[.string (str s0), .string (str s1), .int .u8 0, .int .u32 (t : Int), .int .u32 0, .int .u32 0, .bool true, .int .u8 (g : Int), .bool gm] 64)) := Step.refl.alloc _
  have b1 := Blk.new w 64 #[.string (str s0), .string (str s1), .int .u8 0, .int .u32 (t : Int), .int .u32 0, .int .u32 0, .bool true, .int .u8 (g : Int), .bool gm]
  have S1 := Lib.hid s1'
  have B1 := Lib.hid b1
  have C0 := Lib.hid (fun W => u_check W s0)
  have C1 := Lib.hid (fun W => u_check W s1)
  rw [h0] at C0
  rw [h1] at C1
  clear s1' b1 h0 h1
  go_enter Try.func56, Try.ntmps56
  go_wp2_with fail
  refine (C0.out _).mono ?_
  rintro e w1 ⟨rfl, t1⟩
  replace B1 := Lib.hid (B1.out.step t1 id)
  replace S1 := Lib.hid (S1.out.trans t1)
  clear t1
  have m1 := (B1.out.cell 1).trans (show _ = some (Value.string (str s1)) from rfl)
  go_wp2_with fail
  refine (C1.out _).mono ?_
  rintro e w2 ⟨rfl, t2⟩
  replace B1 := Lib.hid (B1.out.step t2 id)
  replace S1 := Lib.hid (S1.out.trans t2)
  clear t2 m1
  have m0 := (B1.out.cell 0).trans (show _ = some (Value.string (str s0)) from rfl)
  have m1 := (B1.out.cell 1).trans (show _ = some (Value.string (str s1)) from rfl)
  have m2 := (B1.out.cell 2).trans (show _ = some (Value.int .u8 0) from rfl)
  have m3 := (B1.out.cell 3).trans (show _ = some (Value.int .u32 (t : Int)) from rfl)
  have m4 := (B1.out.cell 4).trans (show _ = some (Value.int .u32 0) from rfl)
  have m5 := (B1.out.cell 5).trans (show _ = some (Value.int .u32 0) from rfl)
  have m6 := (B1.out.cell 6).trans (show _ = some (Value.bool true) from rfl)
  have m7 := (B1.out.cell 7).trans (show _ = some (Value.int .u8 (g : Int)) from rfl)
  have m8 := (B1.out.cell 8).trans (show _ = some (Value.bool gm) from rfl)
  have nb := B1.out.lt
  generalize w.heap.size = N at *
  have nN : N ≠ w2.heap.size := Nat.ne_of_lt nb
  go_wp2_with fail
  go_ret
  exact ⟨rfl, S1.out.alloc _⟩
set_option maxRecDepth 100000 in
set_option maxHeartbeats 1600000 in
theorem i_r_0g (w : World) (s0 s1 : List UInt8) (k t mi ma g : Nat) (bo gm : Bool) (h0 : utfE s0 = 0) (h1 : utfE s1 = 0) (hz : ¬ (0 : Int) = (g : Int)) (hz2 : ((g : Int) != 0) = true) (hz3 : ((g : Int) == 0) = false) :
    Calls Try.prog 56 #[.agg #[.string (str s0), .string (str s1), .int .u8 0, .int .u32 (t : Int), .int .u32 0, .int .u32 0, .bool false, .int .u8 (g : Int), .bool gm]] w fun e w' => e = .returned (.int .i64 (1)) ∧ Step (fun _ => False) w w' := by
  have s1' : Step (fun _ => False) w (w.alloc (.cells #[.string (str s0), .string (str s1), .int .u8 0, .int .u32 (t : Int), .int .u32 0, .int .u32 0, .bool false, .int .u8 (g : Int), .bool gm] 64)) := Step.refl.alloc _
  have b1 := Blk.new w 64 #[.string (str s0), .string (str s1), .int .u8 0, .int .u32 (t : Int), .int .u32 0, .int .u32 0, .bool false, .int .u8 (g : Int), .bool gm]
  have S1 := Lib.hid s1'
  have B1 := Lib.hid b1
  have C0 := Lib.hid (fun W => u_check W s0)
  have C1 := Lib.hid (fun W => u_check W s1)
  rw [h0] at C0
  rw [h1] at C1
  clear s1' b1 h0 h1
  go_enter Try.func56, Try.ntmps56
  go_wp2_with fail
  refine (C0.out _).mono ?_
  rintro e w1 ⟨rfl, t1⟩
  replace B1 := Lib.hid (B1.out.step t1 id)
  replace S1 := Lib.hid (S1.out.trans t1)
  clear t1
  have m1 := (B1.out.cell 1).trans (show _ = some (Value.string (str s1)) from rfl)
  go_wp2_with fail
  refine (C1.out _).mono ?_
  rintro e w2 ⟨rfl, t2⟩
  replace B1 := Lib.hid (B1.out.step t2 id)
  replace S1 := Lib.hid (S1.out.trans t2)
  clear t2 m1
  have m0 := (B1.out.cell 0).trans (show _ = some (Value.string (str s0)) from rfl)
  have m1 := (B1.out.cell 1).trans (show _ = some (Value.string (str s1)) from rfl)
  have m2 := (B1.out.cell 2).trans (show _ = some (Value.int .u8 0) from rfl)
  have m3 := (B1.out.cell 3).trans (show _ = some (Value.int .u32 (t : Int)) from rfl)
  have m4 := (B1.out.cell 4).trans (show _ = some (Value.int .u32 0) from rfl)
  have m5 := (B1.out.cell 5).trans (show _ = some (Value.int .u32 0) from rfl)
  have m6 := (B1.out.cell 6).trans (show _ = some (Value.bool false) from rfl)
  have m7 := (B1.out.cell 7).trans (show _ = some (Value.int .u8 (g : Int)) from rfl)
  have m8 := (B1.out.cell 8).trans (show _ = some (Value.bool gm) from rfl)
  have nb := B1.out.lt
  generalize w.heap.size = N at *
  have nN : N ≠ w2.heap.size := Nat.ne_of_lt nb
  go_wp2_with fail
  go_ret
  exact ⟨rfl, S1.out.alloc _⟩
set_option maxRecDepth 100000 in
set_option maxHeartbeats 1600000 in
theorem i_r_0gm (w : World) (s0 s1 : List UInt8) (k t mi ma g : Nat) (bo gm : Bool) (h0 : utfE s0 = 0) (h1 : utfE s1 = 0) :
    Calls Try.prog 56 #[.agg #[.string (str s0), .string (str s1), .int .u8 0, .int .u32 (t : Int), .int .u32 0, .int .u32 0, .bool false, .int .u8 0, .bool true]] w fun e w' => e = .returned (.int .i64 (1)) ∧ Step (fun _ => False) w w' := by
  have s1' : Step (fun _ => False) w (w.alloc (.cells #[.string (str s0), .string (str s1), .int .u8 0, .int .u32 (t : Int), .int .u32 0, .int .u32 0, .bool false, .int .u8 0, .bool true] 64)) := Step.refl.alloc _
  have b1 := Blk.new w 64 #[.string (str s0), .string (str s1), .int .u8 0, .int .u32 (t : Int), .int .u32 0, .int .u32 0, .bool false, .int .u8 0, .bool true]
  have S1 := Lib.hid s1'
  have B1 := Lib.hid b1
  have C0 := Lib.hid (fun W => u_check W s0)
  have C1 := Lib.hid (fun W => u_check W s1)
  rw [h0] at C0
  rw [h1] at C1
  clear s1' b1 h0 h1
  go_enter Try.func56, Try.ntmps56
  go_wp2_with fail
  refine (C0.out _).mono ?_
  rintro e w1 ⟨rfl, t1⟩
  replace B1 := Lib.hid (B1.out.step t1 id)
  replace S1 := Lib.hid (S1.out.trans t1)
  clear t1
  have m1 := (B1.out.cell 1).trans (show _ = some (Value.string (str s1)) from rfl)
  go_wp2_with fail
  refine (C1.out _).mono ?_
  rintro e w2 ⟨rfl, t2⟩
  replace B1 := Lib.hid (B1.out.step t2 id)
  replace S1 := Lib.hid (S1.out.trans t2)
  clear t2 m1
  have m0 := (B1.out.cell 0).trans (show _ = some (Value.string (str s0)) from rfl)
  have m1 := (B1.out.cell 1).trans (show _ = some (Value.string (str s1)) from rfl)
  have m2 := (B1.out.cell 2).trans (show _ = some (Value.int .u8 0) from rfl)
  have m3 := (B1.out.cell 3).trans (show _ = some (Value.int .u32 (t : Int)) from rfl)
  have m4 := (B1.out.cell 4).trans (show _ = some (Value.int .u32 0) from rfl)
  have m5 := (B1.out.cell 5).trans (show _ = some (Value.int .u32 0) from rfl)
  have m6 := (B1.out.cell 6).trans (show _ = some (Value.bool false) from rfl)
  have m7 := (B1.out.cell 7).trans (show _ = some (Value.int .u8 0) from rfl)
  have m8 := (B1.out.cell 8).trans (show _ = some (Value.bool true) from rfl)
  have nb := B1.out.lt
  generalize w.heap.size = N at *
  have nN : N ≠ w2.heap.size := Nat.ne_of_lt nb
  go_wp2_with fail
  go_ret
  exact ⟨rfl, S1.out.alloc _⟩
set_option maxRecDepth 100000 in
set_option maxHeartbeats 1600000 in
theorem i_r_3t (w : World) (s0 s1 : List UInt8) (k t mi ma g : Nat) (bo gm : Bool) (h0 : utfE s0 = 0) (h1 : utfE s1 = 0) (hz : ¬ (0 : Int) = (t : Int)) (hz2 : ((t : Int) != 0) = true) (hz3 : ((t : Int) == 0) = false) :
    Calls Try.prog 56 #[.agg #[.string (str s0), .string (str s1), .int .u8 3, .int .u32 (t : Int), .int .u32 (mi : Int), .int .u32 (ma : Int), .bool bo, .int .u8 (g : Int), .bool gm]] w fun e w' => e = .returned (.int .i64 (1)) ∧ Step (fun _ => False) w w' := by
  have s1' : Step (fun _ => False) w (w.alloc (.cells #[.string (str s0), .string (str s1), .int .u8 3, .int .u32 (t : Int), .int .u32 (mi : Int), .int .u32 (ma : Int), .bool bo, .int .u8 (g : Int), .bool gm] 64)) := Step.refl.alloc _
  have b1 := Blk.new w 64 #[.string (str s0), .string (str s1), .int .u8 3, .int .u32 (t : Int), .int .u32 (mi : Int), .int .u32 (ma : Int), .bool bo, .int .u8 (g : Int), .bool gm]
  have S1 := Lib.hid s1'
  have B1 := Lib.hid b1
  have C0 := Lib.hid (fun W => u_check W s0)
  have C1 := Lib.hid (fun W => u_check W s1)
  rw [h0] at C0
  rw [h1] at C1
  clear s1' b1 h0 h1
  go_enter Try.func56, Try.ntmps56
  go_wp2_with fail
  refine (C0.out _).mono ?_
  rintro e w1 ⟨rfl, t1⟩
  replace B1 := Lib.hid (B1.out.step t1 id)
  replace S1 := Lib.hid (S1.out.trans t1)
  clear t1
  have m1 := (B1.out.cell 1).trans (show _ = some (Value.string (str s1)) from rfl)
  go_wp2_with fail
  refine (C1.out _).mono ?_
  rintro e w2 ⟨rfl, t2⟩
  replace B1 := Lib.hid (B1.out.step t2 id)
  replace S1 := Lib.hid (S1.out.trans t2)
  clear t2 m1
  have m0 := (B1.out.cell 0).trans (show _ = some (Value.string (str s0)) from rfl)
  have m1 := (B1.out.cell 1).trans (show _ = some (Value.string (str s1)) from rfl)
  have m2 := (B1.out.cell 2).trans (show _ = some (Value.int .u8 3) from rfl)
  have m3 := (B1.out.cell 3).trans (show _ = some (Value.int .u32 (t : Int)) from rfl)
  have m4 := (B1.out.cell 4).trans (show _ = some (Value.int .u32 (mi : Int)) from rfl)
  have m5 := (B1.out.cell 5).trans (show _ = some (Value.int .u32 (ma : Int)) from rfl)
  have m6 := (B1.out.cell 6).trans (show _ = some (Value.bool bo) from rfl)
  have m7 := (B1.out.cell 7).trans (show _ = some (Value.int .u8 (g : Int)) from rfl)
  have m8 := (B1.out.cell 8).trans (show _ = some (Value.bool gm) from rfl)
  have nb := B1.out.lt
  generalize w.heap.size = N at *
  have nN : N ≠ w2.heap.size := Nat.ne_of_lt nb
  go_wp2_with fail
  go_ret
  exact ⟨rfl, S1.out.alloc _⟩
set_option maxRecDepth 100000 in
set_option maxHeartbeats 1600000 in
theorem i_r_3mi (w : World) (s0 s1 : List UInt8) (k t mi ma g : Nat) (bo gm : Bool) (h0 : utfE s0 = 0) (h1 : utfE s1 = 0) (hz : ¬ (0 : Int) = (mi : Int)) (hz2 : ((mi : Int) != 0) = true) (hz3 : ((mi : Int) == 0) = false) :
    Calls Try.prog 56 #[.agg #[.string (str s0), .string (str s1), .int .u8 3, .int .u32 0, .int .u32 (mi : Int), .int .u32 (ma : Int), .bool bo, .int .u8 (g : Int), .bool gm]] w fun e w' => e = .returned (.int .i64 (1)) ∧ Step (fun _ => False) w w' := by
  have s1' : Step (fun _ => False) w (w.alloc (.cells #[.string (str s0), .string (str s1), .int .u8 3, .int .u32 0, .int .u32 (mi : Int), .int .u32 (ma : Int), .bool bo, .int .u8 (g : Int), .bool gm] 64)) := Step.refl.alloc _
  have b1 := Blk.new w 64 #[.string (str s0), .string (str s1), .int .u8 3, .int .u32 0, .int .u32 (mi : Int), .int .u32 (ma : Int), .bool bo, .int .u8 (g : Int), .bool gm]
  have S1 := Lib.hid s1'
  have B1 := Lib.hid b1
  have C0 := Lib.hid (fun W => u_check W s0)
  have C1 := Lib.hid (fun W => u_check W s1)
  rw [h0] at C0
  rw [h1] at C1
  clear s1' b1 h0 h1
  go_enter Try.func56, Try.ntmps56
  go_wp2_with fail
  refine (C0.out _).mono ?_
  rintro e w1 ⟨rfl, t1⟩
  replace B1 := Lib.hid (B1.out.step t1 id)
  replace S1 := Lib.hid (S1.out.trans t1)
  clear t1
  have m1 := (B1.out.cell 1).trans (show _ = some (Value.string (str s1)) from rfl)
  go_wp2_with fail
  refine (C1.out _).mono ?_
  rintro e w2 ⟨rfl, t2⟩
  replace B1 := Lib.hid (B1.out.step t2 id)
  replace S1 := Lib.hid (S1.out.trans t2)
  clear t2 m1
  have m0 := (B1.out.cell 0).trans (show _ = some (Value.string (str s0)) from rfl)
  have m1 := (B1.out.cell 1).trans (show _ = some (Value.string (str s1)) from rfl)
  have m2 := (B1.out.cell 2).trans (show _ = some (Value.int .u8 3) from rfl)
  have m3 := (B1.out.cell 3).trans (show _ = some (Value.int .u32 0) from rfl)
  have m4 := (B1.out.cell 4).trans (show _ = some (Value.int .u32 (mi : Int)) from rfl)
  have m5 := (B1.out.cell 5).trans (show _ = some (Value.int .u32 (ma : Int)) from rfl)
  have m6 := (B1.out.cell 6).trans (show _ = some (Value.bool bo) from rfl)
  have m7 := (B1.out.cell 7).trans (show _ = some (Value.int .u8 (g : Int)) from rfl)
  have m8 := (B1.out.cell 8).trans (show _ = some (Value.bool gm) from rfl)
  have nb := B1.out.lt
  generalize w.heap.size = N at *
  have nN : N ≠ w2.heap.size := Nat.ne_of_lt nb
  go_wp2_with fail
  go_ret
  exact ⟨rfl, S1.out.alloc _⟩
set_option maxRecDepth 100000 in
set_option maxHeartbeats 1600000 in
theorem i_r_3ma (w : World) (s0 s1 : List UInt8) (k t mi ma g : Nat) (bo gm : Bool) (h0 : utfE s0 = 0) (h1 : utfE s1 = 0) (hz : ¬ (0 : Int) = (ma : Int)) (hz2 : ((ma : Int) != 0) = true) (hz3 : ((ma : Int) == 0) = false) :
    Calls Try.prog 56 #[.agg #[.string (str s0), .string (str s1), .int .u8 3, .int .u32 0, .int .u32 0, .int .u32 (ma : Int), .bool bo, .int .u8 (g : Int), .bool gm]] w fun e w' => e = .returned (.int .i64 (1)) ∧ Step (fun _ => False) w w' := by
  have s1' : Step (fun _ => False) w (w.alloc (.cells #[.string (str s0), .string (str s1), .int .u8 3, .int .u32 0, .int .u32 0, .int .u32 (ma : Int), .bool bo, .int .u8 (g : Int), .bool gm] 64)) := Step.refl.alloc _
  have b1 := Blk.new w 64 #[.string (str s0), .string (str s1), .int .u8 3, .int .u32 0, .int .u32 0, .int .u32 (ma : Int), .bool bo, .int .u8 (g : Int), .bool gm]
  have S1 := Lib.hid s1'
  have B1 := Lib.hid b1
  have C0 := Lib.hid (fun W => u_check W s0)
  have C1 := Lib.hid (fun W => u_check W s1)
  rw [h0] at C0
  rw [h1] at C1
  clear s1' b1 h0 h1
  go_enter Try.func56, Try.ntmps56
  go_wp2_with fail
  refine (C0.out _).mono ?_
  rintro e w1 ⟨rfl, t1⟩
  replace B1 := Lib.hid (B1.out.step t1 id)
  replace S1 := Lib.hid (S1.out.trans t1)
  clear t1
  have m1 := (B1.out.cell 1).trans (show _ = some (Value.string (str s1)) from rfl)
  go_wp2_with fail
  refine (C1.out _).mono ?_
  rintro e w2 ⟨rfl, t2⟩
  replace B1 := Lib.hid (B1.out.step t2 id)
  replace S1 := Lib.hid (S1.out.trans t2)
  clear t2 m1
  have m0 := (B1.out.cell 0).trans (show _ = some (Value.string (str s0)) from rfl)
  have m1 := (B1.out.cell 1).trans (show _ = some (Value.string (str s1)) from rfl)
  have m2 := (B1.out.cell 2).trans (show _ = some (Value.int .u8 3) from rfl)
  have m3 := (B1.out.cell 3).trans (show _ = some (Value.int .u32 0) from rfl)
  have m4 := (B1.out.cell 4).trans (show _ = some (Value.int .u32 0) from rfl)
  have m5 := (B1.out.cell 5).trans (show _ = some (Value.int .u32 (ma : Int)) from rfl)
  have m6 := (B1.out.cell 6).trans (show _ = some (Value.bool bo) from rfl)
  have m7 := (B1.out.cell 7).trans (show _ = some (Value.int .u8 (g : Int)) from rfl)
  have m8 := (B1.out.cell 8).trans (show _ = some (Value.bool gm) from rfl)
  have nb := B1.out.lt
  generalize w.heap.size = N at *
  have nN : N ≠ w2.heap.size := Nat.ne_of_lt nb
  go_wp2_with fail
  go_ret
  exact ⟨rfl, S1.out.alloc _⟩
set_option maxRecDepth 100000 in
set_option maxHeartbeats 1600000 in
theorem i_r_3bo (w : World) (s0 s1 : List UInt8) (k t mi ma g : Nat) (bo gm : Bool) (h0 : utfE s0 = 0) (h1 : utfE s1 = 0) :
    Calls Try.prog 56 #[.agg #[.string (str s0), .string (str s1), .int .u8 3, .int .u32 0, .int .u32 0, .int .u32 0, .bool true, .int .u8 (g : Int), .bool gm]] w fun e w' => e = .returned (.int .i64 (1)) ∧ Step (fun _ => False) w w' := by
  have s1' : Step (fun _ => False) w (w.alloc (.cells #[.string (str s0), .string (str s1), .int .u8 3, .int .u32 0, .int .u32 0, .int .u32 0, .bool true, .int .u8 (g : Int), .bool gm] 64)) := Step.refl.alloc _
  have b1 := Blk.new w 64 #[.string (str s0), .string (str s1), .int .u8 3, .int .u32 0, .int .u32 0, .int .u32 0, .bool true, .int .u8 (g : Int), .bool gm]
  have S1 := Lib.hid s1'
  have B1 := Lib.hid b1
  have C0 := Lib.hid (fun W => u_check W s0)
  have C1 := Lib.hid (fun W => u_check W s1)
  rw [h0] at C0
  rw [h1] at C1
  clear s1' b1 h0 h1
  go_enter Try.func56, Try.ntmps56
  go_wp2_with fail
  refine (C0.out _).mono ?_
  rintro e w1 ⟨rfl, t1⟩
  replace B1 := Lib.hid (B1.out.step t1 id)
  replace S1 := Lib.hid (S1.out.trans t1)
  clear t1
  have m1 := (B1.out.cell 1).trans (show _ = some (Value.string (str s1)) from rfl)
  go_wp2_with fail
  refine (C1.out _).mono ?_
  rintro e w2 ⟨rfl, t2⟩
  replace B1 := Lib.hid (B1.out.step t2 id)
  replace S1 := Lib.hid (S1.out.trans t2)
  clear t2 m1
  have m0 := (B1.out.cell 0).trans (show _ = some (Value.string (str s0)) from rfl)
  have m1 := (B1.out.cell 1).trans (show _ = some (Value.string (str s1)) from rfl)
  have m2 := (B1.out.cell 2).trans (show _ = some (Value.int .u8 3) from rfl)
  have m3 := (B1.out.cell 3).trans (show _ = some (Value.int .u32 0) from rfl)
  have m4 := (B1.out.cell 4).trans (show _ = some (Value.int .u32 0) from rfl)
  have m5 := (B1.out.cell 5).trans (show _ = some (Value.int .u32 0) from rfl)
  have m6 := (B1.out.cell 6).trans (show _ = some (Value.bool true) from rfl)
  have m7 := (B1.out.cell 7).trans (show _ = some (Value.int .u8 (g : Int)) from rfl)
  have m8 := (B1.out.cell 8).trans (show _ = some (Value.bool gm) from rfl)
  have nb := B1.out.lt
  generalize w.heap.size = N at *
  have nN : N ≠ w2.heap.size := Nat.ne_of_lt nb
  go_wp2_with fail
  go_ret
  exact ⟨rfl, S1.out.alloc _⟩
set_option maxRecDepth 100000 in
set_option maxHeartbeats 1600000 in
theorem i_r_kt (w : World) (s0 s1 : List UInt8) (k t mi ma g : Nat) (bo gm : Bool) (h0 : utfE s0 = 0) (h1 : utfE s1 = 0) (hz : ¬ (0 : Int) = (t : Int)) (hz2 : ((t : Int) != 0) = true) (hz3 : ((t : Int) == 0) = false) (o0 : ((k : Int) == 0) = false) (o3 : ((k : Int) == 3) = false) (ok : ¬ (3 : Int) < (k : Int)) :
    Calls Try.prog 56 #[.agg #[.string (str s0), .string (str s1), .int .u8 (k : Int), .int .u32 (t : Int), .int .u32 (mi : Int), .int .u32 (ma : Int), .bool bo, .int .u8 (g : Int), .bool gm]] w fun e w' => e = .returned (.int .i64 (1)) ∧ Step (fun _ => False) w w' := by
  have s1' : Step (fun _ => False) w (w.alloc (.cells #[.string (str s0), .string (str s1), .int .u8 (k : Int), .int .u32 (t : Int), .int .u32 (mi : Int), .int .u32 (ma : Int), .bool bo, .int .u8 (g : Int), .bool gm] 64)) := Step.refl.alloc _
  have b1 := Blk.new w 64 #[.string (str s0), .string (str s1), .int .u8 (k : Int), .int .u32 (t : Int), .int .u32 (mi : Int), .int .u32 (ma : Int), .bool bo, .int .u8 (g : Int), .bool gm]
  have S1 := Lib.hid s1'
  have B1 := Lib.hid b1
  have C0 := Lib.hid (fun W => u_check W s0)
  have C1 := Lib.hid (fun W => u_check W s1)
  rw [h0] at C0
  rw [h1] at C1
  clear s1' b1 h0 h1
  go_enter Try.func56, Try.ntmps56
  go_wp2_with fail
  refine (C0.out _).mono ?_
  rintro e w1 ⟨rfl, t1⟩
  replace B1 := Lib.hid (B1.out.step t1 id)
  replace S1 := Lib.hid (S1.out.trans t1)
  clear t1
  have m1 := (B1.out.cell 1).trans (show _ = some (Value.string (str s1)) from rfl)
  go_wp2_with fail
  refine (C1.out _).mono ?_
  rintro e w2 ⟨rfl, t2⟩
  replace B1 := Lib.hid (B1.out.step t2 id)
  replace S1 := Lib.hid (S1.out.trans t2)
  clear t2 m1
  have m0 := (B1.out.cell 0).trans (show _ = some (Value.string (str s0)) from rfl)
  have m1 := (B1.out.cell 1).trans (show _ = some (Value.string (str s1)) from rfl)
  have m2 := (B1.out.cell 2).trans (show _ = some (Value.int .u8 (k : Int)) from rfl)
  have m3 := (B1.out.cell 3).trans (show _ = some (Value.int .u32 (t : Int)) from rfl)
  have m4 := (B1.out.cell 4).trans (show _ = some (Value.int .u32 (mi : Int)) from rfl)
  have m5 := (B1.out.cell 5).trans (show _ = some (Value.int .u32 (ma : Int)) from rfl)
  have m6 := (B1.out.cell 6).trans (show _ = some (Value.bool bo) from rfl)
  have m7 := (B1.out.cell 7).trans (show _ = some (Value.int .u8 (g : Int)) from rfl)
  have m8 := (B1.out.cell 8).trans (show _ = some (Value.bool gm) from rfl)
  have nb := B1.out.lt
  generalize w.heap.size = N at *
  have nN : N ≠ w2.heap.size := Nat.ne_of_lt nb
  go_wp2_with fail
  go_ret
  exact ⟨rfl, S1.out.alloc _⟩
set_option maxRecDepth 100000 in
set_option maxHeartbeats 1600000 in
theorem i_r_kg (w : World) (s0 s1 : List UInt8) (k t mi ma g : Nat) (bo gm : Bool) (h0 : utfE s0 = 0) (h1 : utfE s1 = 0) (hz : ¬ (0 : Int) = (g : Int)) (hz2 : ((g : Int) != 0) = true) (hz3 : ((g : Int) == 0) = false) (o0 : ((k : Int) == 0) = false) (o3 : ((k : Int) == 3) = false) (ok : ¬ (3 : Int) < (k : Int)) :
    Calls Try.prog 56 #[.agg #[.string (str s0), .string (str s1), .int .u8 (k : Int), .int .u32 0, .int .u32 (mi : Int), .int .u32 (ma : Int), .bool bo, .int .u8 (g : Int), .bool gm]] w fun e w' => e = .returned (.int .i64 (1)) ∧ Step (fun _ => False) w w' := by
  have s1' : Step (fun _ => False) w (w.alloc (.cells #[.string (str s0), .string (str s1), .int .u8 (k : Int), .int .u32 0, .int .u32 (mi : Int), .int .u32 (ma : Int), .bool bo, .int .u8 (g : Int), .bool gm] 64)) := Step.refl.alloc _
  have b1 := Blk.new w 64 #[.string (str s0), .string (str s1), .int .u8 (k : Int), .int .u32 0, .int .u32 (mi : Int), .int .u32 (ma : Int), .bool bo, .int .u8 (g : Int), .bool gm]
  have S1 := Lib.hid s1'
  have B1 := Lib.hid b1
  have C0 := Lib.hid (fun W => u_check W s0)
  have C1 := Lib.hid (fun W => u_check W s1)
  rw [h0] at C0
  rw [h1] at C1
  clear s1' b1 h0 h1
  go_enter Try.func56, Try.ntmps56
  go_wp2_with fail
  refine (C0.out _).mono ?_
  rintro e w1 ⟨rfl, t1⟩
  replace B1 := Lib.hid (B1.out.step t1 id)
  replace S1 := Lib.hid (S1.out.trans t1)
  clear t1
  have m1 := (B1.out.cell 1).trans (show _ = some (Value.string (str s1)) from rfl)
  go_wp2_with fail
  refine (C1.out _).mono ?_
  rintro e w2 ⟨rfl, t2⟩
  replace B1 := Lib.hid (B1.out.step t2 id)
  replace S1 := Lib.hid (S1.out.trans t2)
  clear t2 m1
  have m0 := (B1.out.cell 0).trans (show _ = some (Value.string (str s0)) from rfl)
  have m1 := (B1.out.cell 1).trans (show _ = some (Value.string (str s1)) from rfl)
  have m2 := (B1.out.cell 2).trans (show _ = some (Value.int .u8 (k : Int)) from rfl)
  have m3 := (B1.out.cell 3).trans (show _ = some (Value.int .u32 0) from rfl)
  have m4 := (B1.out.cell 4).trans (show _ = some (Value.int .u32 (mi : Int)) from rfl)
  have m5 := (B1.out.cell 5).trans (show _ = some (Value.int .u32 (ma : Int)) from rfl)
  have m6 := (B1.out.cell 6).trans (show _ = some (Value.bool bo) from rfl)
  have m7 := (B1.out.cell 7).trans (show _ = some (Value.int .u8 (g : Int)) from rfl)
  have m8 := (B1.out.cell 8).trans (show _ = some (Value.bool gm) from rfl)
  have nb := B1.out.lt
  generalize w.heap.size = N at *
  have nN : N ≠ w2.heap.size := Nat.ne_of_lt nb
  go_wp2_with fail
  go_ret
  exact ⟨rfl, S1.out.alloc _⟩
set_option maxRecDepth 100000 in
set_option maxHeartbeats 1600000 in
theorem i_r_kgm (w : World) (s0 s1 : List UInt8) (k t mi ma g : Nat) (bo gm : Bool) (h0 : utfE s0 = 0) (h1 : utfE s1 = 0) (o0 : ((k : Int) == 0) = false) (o3 : ((k : Int) == 3) = false) (ok : ¬ (3 : Int) < (k : Int)) :
    Calls Try.prog 56 #[.agg #[.string (str s0), .string (str s1), .int .u8 (k : Int), .int .u32 0, .int .u32 (mi : Int), .int .u32 (ma : Int), .bool bo, .int .u8 0, .bool true]] w fun e w' => e = .returned (.int .i64 (1)) ∧ Step (fun _ => False) w w' := by
  have s1' : Step (fun _ => False) w (w.alloc (.cells #[.string (str s0), .string (str s1), .int .u8 (k : Int), .int .u32 0, .int .u32 (mi : Int), .int .u32 (ma : Int), .bool bo, .int .u8 0, .bool true] 64)) := Step.refl.alloc _
  have b1 := Blk.new w 64 #[.string (str s0), .string (str s1), .int .u8 (k : Int), .int .u32 0, .int .u32 (mi : Int), .int .u32 (ma : Int), .bool bo, .int .u8 0, .bool true]
  have S1 := Lib.hid s1'
  have B1 := Lib.hid b1
  have C0 := Lib.hid (fun W => u_check W s0)
  have C1 := Lib.hid (fun W => u_check W s1)
  rw [h0] at C0
  rw [h1] at C1
  clear s1' b1 h0 h1
  go_enter Try.func56, Try.ntmps56
  go_wp2_with fail
  refine (C0.out _).mono ?_
  rintro e w1 ⟨rfl, t1⟩
  replace B1 := Lib.hid (B1.out.step t1 id)
  replace S1 := Lib.hid (S1.out.trans t1)
  clear t1
  have m1 := (B1.out.cell 1).trans (show _ = some (Value.string (str s1)) from rfl)
  go_wp2_with fail
  refine (C1.out _).mono ?_
  rintro e w2 ⟨rfl, t2⟩
  replace B1 := Lib.hid (B1.out.step t2 id)
  replace S1 := Lib.hid (S1.out.trans t2)
  clear t2 m1
  have m0 := (B1.out.cell 0).trans (show _ = some (Value.string (str s0)) from rfl)
  have m1 := (B1.out.cell 1).trans (show _ = some (Value.string (str s1)) from rfl)
  have m2 := (B1.out.cell 2).trans (show _ = some (Value.int .u8 (k : Int)) from rfl)
  have m3 := (B1.out.cell 3).trans (show _ = some (Value.int .u32 0) from rfl)
  have m4 := (B1.out.cell 4).trans (show _ = some (Value.int .u32 (mi : Int)) from rfl)
  have m5 := (B1.out.cell 5).trans (show _ = some (Value.int .u32 (ma : Int)) from rfl)
  have m6 := (B1.out.cell 6).trans (show _ = some (Value.bool bo) from rfl)
  have m7 := (B1.out.cell 7).trans (show _ = some (Value.int .u8 0) from rfl)
  have m8 := (B1.out.cell 8).trans (show _ = some (Value.bool true) from rfl)
  have nb := B1.out.lt
  generalize w.heap.size = N at *
  have nN : N ≠ w2.heap.size := Nat.ne_of_lt nb
  go_wp2_with fail
  go_ret
  exact ⟨rfl, S1.out.alloc _⟩
set_option maxRecDepth 100000 in
set_option maxHeartbeats 1600000 in
theorem i_r_0ok (w : World) (s0 s1 : List UInt8) (k t mi ma g : Nat) (bo gm : Bool) (h0 : utfE s0 = 0) (h1 : utfE s1 = 0) :
    Calls Try.prog 56 #[.agg #[.string (str s0), .string (str s1), .int .u8 0, .int .u32 (t : Int), .int .u32 0, .int .u32 0, .bool false, .int .u8 0, .bool false]] w fun e w' => e = .returned (.int .i64 (0)) ∧ Step (fun _ => False) w w' := by
  have s1' : Step (fun _ => False) w (w.alloc (.cells #[.string (str s0), .string (str s1), .int .u8 0, .int .u32 (t : Int), .int .u32 0, .int .u32 0, .bool false, .int .u8 0, .bool false] 64)) := Step.refl.alloc _
  have b1 := Blk.new w 64 #[.string (str s0), .string (str s1), .int .u8 0, .int .u32 (t : Int), .int .u32 0, .int .u32 0, .bool false, .int .u8 0, .bool false]
  have S1 := Lib.hid s1'
  have B1 := Lib.hid b1
  have C0 := Lib.hid (fun W => u_check W s0)
  have C1 := Lib.hid (fun W => u_check W s1)
  rw [h0] at C0
  rw [h1] at C1
  clear s1' b1 h0 h1
  go_enter Try.func56, Try.ntmps56
  go_wp2_with fail
  refine (C0.out _).mono ?_
  rintro e w1 ⟨rfl, t1⟩
  replace B1 := Lib.hid (B1.out.step t1 id)
  replace S1 := Lib.hid (S1.out.trans t1)
  clear t1
  have m1 := (B1.out.cell 1).trans (show _ = some (Value.string (str s1)) from rfl)
  go_wp2_with fail
  refine (C1.out _).mono ?_
  rintro e w2 ⟨rfl, t2⟩
  replace B1 := Lib.hid (B1.out.step t2 id)
  replace S1 := Lib.hid (S1.out.trans t2)
  clear t2 m1
  have m0 := (B1.out.cell 0).trans (show _ = some (Value.string (str s0)) from rfl)
  have m1 := (B1.out.cell 1).trans (show _ = some (Value.string (str s1)) from rfl)
  have m2 := (B1.out.cell 2).trans (show _ = some (Value.int .u8 0) from rfl)
  have m3 := (B1.out.cell 3).trans (show _ = some (Value.int .u32 (t : Int)) from rfl)
  have m4 := (B1.out.cell 4).trans (show _ = some (Value.int .u32 0) from rfl)
  have m5 := (B1.out.cell 5).trans (show _ = some (Value.int .u32 0) from rfl)
  have m6 := (B1.out.cell 6).trans (show _ = some (Value.bool false) from rfl)
  have m7 := (B1.out.cell 7).trans (show _ = some (Value.int .u8 0) from rfl)
  have m8 := (B1.out.cell 8).trans (show _ = some (Value.bool false) from rfl)
  have nb := B1.out.lt
  generalize w.heap.size = N at *
  have nN : N ≠ w2.heap.size := Nat.ne_of_lt nb
  go_wp2_with fail
  go_ret
  exact ⟨rfl, S1.out.alloc _⟩
set_option maxRecDepth 100000 in
set_option maxHeartbeats 1600000 in
theorem i_r_3ok (w : World) (s0 s1 : List UInt8) (k t mi ma g : Nat) (bo gm : Bool) (h0 : utfE s0 = 0) (h1 : utfE s1 = 0) (hg : g < 256) :
    Calls Try.prog 56 #[.agg #[.string (str s0), .string (str s1), .int .u8 3, .int .u32 0, .int .u32 0, .int .u32 0, .bool false, .int .u8 (g : Int), .bool gm]] w fun e w' => e = .returned (.int .i64 ((valF g : Nat))) ∧ Step (fun _ => False) w w' := by
  have s1' : Step (fun _ => False) w (w.alloc (.cells #[.string (str s0), .string (str s1), .int .u8 3, .int .u32 0, .int .u32 0, .int .u32 0, .bool false, .int .u8 (g : Int), .bool gm] 64)) := Step.refl.alloc _
  have b1 := Blk.new w 64 #[.string (str s0), .string (str s1), .int .u8 3, .int .u32 0, .int .u32 0, .int .u32 0, .bool false, .int .u8 (g : Int), .bool gm]
  have S1 := Lib.hid s1'
  have B1 := Lib.hid b1
  have C0 := Lib.hid (fun W => u_check W s0)
  have C1 := Lib.hid (fun W => u_check W s1)
  rw [h0] at C0
  rw [h1] at C1
  clear s1' b1 h0 h1
  go_enter Try.func56, Try.ntmps56
  go_wp2_with fail
  refine (C0.out _).mono ?_
  rintro e w1 ⟨rfl, t1⟩
  replace B1 := Lib.hid (B1.out.step t1 id)
  replace S1 := Lib.hid (S1.out.trans t1)
  clear t1
  have m1 := (B1.out.cell 1).trans (show _ = some (Value.string (str s1)) from rfl)
  go_wp2_with fail
  refine (C1.out _).mono ?_
  rintro e w2 ⟨rfl, t2⟩
  replace B1 := Lib.hid (B1.out.step t2 id)
  replace S1 := Lib.hid (S1.out.trans t2)
  clear t2 m1
  have m0 := (B1.out.cell 0).trans (show _ = some (Value.string (str s0)) from rfl)
  have m1 := (B1.out.cell 1).trans (show _ = some (Value.string (str s1)) from rfl)
  have m2 := (B1.out.cell 2).trans (show _ = some (Value.int .u8 3) from rfl)
  have m3 := (B1.out.cell 3).trans (show _ = some (Value.int .u32 0) from rfl)
  have m4 := (B1.out.cell 4).trans (show _ = some (Value.int .u32 0) from rfl)
  have m5 := (B1.out.cell 5).trans (show _ = some (Value.int .u32 0) from rfl)
  have m6 := (B1.out.cell 6).trans (show _ = some (Value.bool false) from rfl)
  have m7 := (B1.out.cell 7).trans (show _ = some (Value.int .u8 (g : Int)) from rfl)
  have m8 := (B1.out.cell 8).trans (show _ = some (Value.bool gm) from rfl)
  have nb := B1.out.lt
  generalize w.heap.size = N at *
  have nN : N ≠ w2.heap.size := Nat.ne_of_lt nb
  go_wp2_with fail
  refine (value_walk _ g hg).mono ?_
  rintro e w3 ⟨rfl, hw3⟩
  subst hw3
  go_wp2_with fail
  go_ret
  exact ⟨rfl, S1.out.alloc _⟩
set_option maxRecDepth 100000 in
set_option maxHeartbeats 1600000 in
theorem i_r_kbo (w : World) (s0 s1 : List UInt8) (k t mi ma g : Nat) (bo gm : Bool) (h0 : utfE s0 = 0) (h1 : utfE s1 = 0) (o0 : ((k : Int) == 0) = false) (o3 : ((k : Int) == 3) = false) (ok : ¬ (3 : Int) < (k : Int)) :
    Calls Try.prog 56 #[.agg #[.string (str s0), .string (str s1), .int .u8 (k : Int), .int .u32 0, .int .u32 (mi : Int), .int .u32 (ma : Int), .bool true, .int .u8 0, .bool false]] w fun e w' => e = .returned (.int .i64 (0)) ∧ Step (fun _ => False) w w' := by
  have s1' : Step (fun _ => False) w (w.alloc (.cells #[.string (str s0), .string (str s1), .int .u8 (k : Int), .int .u32 0, .int .u32 (mi : Int), .int .u32 (ma : Int), .bool true, .int .u8 0, .bool false] 64)) := Step.refl.alloc _
  have b1 := Blk.new w 64 #[.string (str s0), .string (str s1), .int .u8 (k : Int), .int .u32 0, .int .u32 (mi : Int), .int .u32 (ma : Int), .bool true, .int .u8 0, .bool false]
  have S1 := Lib.hid s1'
  have B1 := Lib.hid b1
  have C0 := Lib.hid (fun W => u_check W s0)
  have C1 := Lib.hid (fun W => u_check W s1)
  rw [h0] at C0
  rw [h1] at C1
  clear s1' b1 h0 h1
  go_enter Try.func56, Try.ntmps56
  go_wp2_with fail
  refine (C0.out _).mono ?_
  rintro e w1 ⟨rfl, t1⟩
  replace B1 := Lib.hid (B1.out.step t1 id)
  replace S1 := Lib.hid (S1.out.trans t1)
  clear t1
  have m1 := (B1.out.cell 1).trans (show _ = some (Value.string (str s1)) from rfl)
  go_wp2_with fail
  refine (C1.out _).mono ?_
  rintro e w2 ⟨rfl, t2⟩
  replace B1 := Lib.hid (B1.out.step t2 id)
  replace S1 := Lib.hid (S1.out.trans t2)
  clear t2 m1
  have m0 := (B1.out.cell 0).trans (show _ = some (Value.string (str s0)) from rfl)
  have m1 := (B1.out.cell 1).trans (show _ = some (Value.string (str s1)) from rfl)
  have m2 := (B1.out.cell 2).trans (show _ = some (Value.int .u8 (k : Int)) from rfl)
  have m3 := (B1.out.cell 3).trans (show _ = some (Value.int .u32 0) from rfl)
  have m4 := (B1.out.cell 4).trans (show _ = some (Value.int .u32 (mi : Int)) from rfl)
  have m5 := (B1.out.cell 5).trans (show _ = some (Value.int .u32 (ma : Int)) from rfl)
  have m6 := (B1.out.cell 6).trans (show _ = some (Value.bool true) from rfl)
  have m7 := (B1.out.cell 7).trans (show _ = some (Value.int .u8 0) from rfl)
  have m8 := (B1.out.cell 8).trans (show _ = some (Value.bool false) from rfl)
  have nb := B1.out.lt
  generalize w.heap.size = N at *
  have nN : N ≠ w2.heap.size := Nat.ne_of_lt nb
  go_wp2_with fail
  go_ret
  exact ⟨rfl, S1.out.alloc _⟩
set_option maxRecDepth 100000 in
set_option maxHeartbeats 1600000 in
theorem i_r_kma (w : World) (s0 s1 : List UInt8) (k t mi ma g : Nat) (bo gm : Bool) (h0 : utfE s0 = 0) (h1 : utfE s1 = 0) (hz : ¬ (0 : Int) = (ma : Int)) (hz2 : ((ma : Int) != 0) = true) (hz3 : ((ma : Int) == 0) = false) (o0 : ((k : Int) == 0) = false) (o3 : ((k : Int) == 3) = false) (ok : ¬ (3 : Int) < (k : Int)) :
    Calls Try.prog 56 #[.agg #[.string (str s0), .string (str s1), .int .u8 (k : Int), .int .u32 0, .int .u32 (mi : Int), .int .u32 (ma : Int), .bool false, .int .u8 0, .bool false]] w fun e w' => e = .returned (.int .i64 (1)) ∧ Step (fun _ => False) w w' := by
  have s1' : Step (fun _ => False) w (w.alloc (.cells #[.string (str s0), .string (str s1), .int .u8 (k : Int), .int .u32 0, .int .u32 (mi : Int), .int .u32 (ma : Int), .bool false, .int .u8 0, .bool false] 64)) := Step.refl.alloc _
  have b1 := Blk.new w 64 #[.string (str s0), .string (str s1), .int .u8 (k : Int), .int .u32 0, .int .u32 (mi : Int), .int .u32 (ma : Int), .bool false, .int .u8 0, .bool false]
  have S1 := Lib.hid s1'
  have B1 := Lib.hid b1
  have C0 := Lib.hid (fun W => u_check W s0)
  have C1 := Lib.hid (fun W => u_check W s1)
  rw [h0] at C0
  rw [h1] at C1
  clear s1' b1 h0 h1
  go_enter Try.func56, Try.ntmps56
  go_wp2_with fail
  refine (C0.out _).mono ?_
  rintro e w1 ⟨rfl, t1⟩
  replace B1 := Lib.hid (B1.out.step t1 id)
  replace S1 := Lib.hid (S1.out.trans t1)
  clear t1
  have m1 := (B1.out.cell 1).trans (show _ = some (Value.string (str s1)) from rfl)
  go_wp2_with fail
  refine (C1.out _).mono ?_
  rintro e w2 ⟨rfl, t2⟩
  replace B1 := Lib.hid (B1.out.step t2 id)
  replace S1 := Lib.hid (S1.out.trans t2)
  clear t2 m1
  have m0 := (B1.out.cell 0).trans (show _ = some (Value.string (str s0)) from rfl)
  have m1 := (B1.out.cell 1).trans (show _ = some (Value.string (str s1)) from rfl)
  have m2 := (B1.out.cell 2).trans (show _ = some (Value.int .u8 (k : Int)) from rfl)
  have m3 := (B1.out.cell 3).trans (show _ = some (Value.int .u32 0) from rfl)
  have m4 := (B1.out.cell 4).trans (show _ = some (Value.int .u32 (mi : Int)) from rfl)
  have m5 := (B1.out.cell 5).trans (show _ = some (Value.int .u32 (ma : Int)) from rfl)
  have m6 := (B1.out.cell 6).trans (show _ = some (Value.bool false) from rfl)
  have m7 := (B1.out.cell 7).trans (show _ = some (Value.int .u8 0) from rfl)
  have m8 := (B1.out.cell 8).trans (show _ = some (Value.bool false) from rfl)
  have nb := B1.out.lt
  generalize w.heap.size = N at *
  have nN : N ≠ w2.heap.size := Nat.ne_of_lt nb
  go_wp2_with fail
  go_ret
  exact ⟨rfl, S1.out.alloc _⟩
set_option maxRecDepth 100000 in
set_option maxHeartbeats 1600000 in
theorem i_r_kok (w : World) (s0 s1 : List UInt8) (k t mi ma g : Nat) (bo gm : Bool) (h0 : utfE s0 = 0) (h1 : utfE s1 = 0) (o0 : ((k : Int) == 0) = false) (o3 : ((k : Int) == 3) = false) (ok : ¬ (3 : Int) < (k : Int)) :
    Calls Try.prog 56 #[.agg #[.string (str s0), .string (str s1), .int .u8 (k : Int), .int .u32 0, .int .u32 (mi : Int), .int .u32 0, .bool false, .int .u8 0, .bool false]] w fun e w' => e = .returned (.int .i64 (0)) ∧ Step (fun _ => False) w w' := by
  have s1' : Step (fun _ => False) w (w.alloc (.cells #[.string (str s0), .string (str s1), .int .u8 (k : Int), .int .u32 0, .int .u32 (mi : Int), .int .u32 0, .bool false, .int .u8 0, .bool false] 64)) := Step.refl.alloc _
  have b1 := Blk.new w 64 #[.string (str s0), .string (str s1), .int .u8 (k : Int), .int .u32 0, .int .u32 (mi : Int), .int .u32 0, .bool false, .int .u8 0, .bool false]
  have S1 := Lib.hid s1'
  have B1 := Lib.hid b1
  have C0 := Lib.hid (fun W => u_check W s0)
  have C1 := Lib.hid (fun W => u_check W s1)
  rw [h0] at C0
  rw [h1] at C1
  clear s1' b1 h0 h1
  go_enter Try.func56, Try.ntmps56
  go_wp2_with fail
  refine (C0.out _).mono ?_
  rintro e w1 ⟨rfl, t1⟩
  replace B1 := Lib.hid (B1.out.step t1 id)
  replace S1 := Lib.hid (S1.out.trans t1)
  clear t1
  have m1 := (B1.out.cell 1).trans (show _ = some (Value.string (str s1)) from rfl)
  go_wp2_with fail
  refine (C1.out _).mono ?_
  rintro e w2 ⟨rfl, t2⟩
  replace B1 := Lib.hid (B1.out.step t2 id)
  replace S1 := Lib.hid (S1.out.trans t2)
  clear t2 m1
  have m0 := (B1.out.cell 0).trans (show _ = some (Value.string (str s0)) from rfl)
  have m1 := (B1.out.cell 1).trans (show _ = some (Value.string (str s1)) from rfl)
  have m2 := (B1.out.cell 2).trans (show _ = some (Value.int .u8 (k : Int)) from rfl)
  have m3 := (B1.out.cell 3).trans (show _ = some (Value.int .u32 0) from rfl)
  have m4 := (B1.out.cell 4).trans (show _ = some (Value.int .u32 (mi : Int)) from rfl)
  have m5 := (B1.out.cell 5).trans (show _ = some (Value.int .u32 0) from rfl)
  have m6 := (B1.out.cell 6).trans (show _ = some (Value.bool false) from rfl)
  have m7 := (B1.out.cell 7).trans (show _ = some (Value.int .u8 0) from rfl)
  have m8 := (B1.out.cell 8).trans (show _ = some (Value.bool false) from rfl)
  have nb := B1.out.lt
  generalize w.heap.size = N at *
  have nN : N ≠ w2.heap.size := Nat.ne_of_lt nb
  go_wp2_with fail
  go_ret
  exact ⟨rfl, S1.out.alloc _⟩
set_option maxRecDepth 100000 in
set_option maxHeartbeats 1600000 in
theorem i_r_s0 (w : World) (s0 s1 : List UInt8) (k t mi ma g : Nat) (bo gm : Bool) (h0 : ¬ utfE s0 = 0) :
    Calls Try.prog 56 #[.agg #[.string (str s0), .string (str s1), .int .u8 (k : Int), .int .u32 (t : Int), .int .u32 (mi : Int), .int .u32 (ma : Int), .bool bo, .int .u8 (g : Int), .bool gm]] w fun e w' => e = .returned (.int .i64 (utfE s0)) ∧ Step (fun _ => False) w w' := by
  have s1' : Step (fun _ => False) w (w.alloc (.cells #[.string (str s0), .string (str s1), .int .u8 (k : Int), .int .u32 (t : Int), .int .u32 (mi : Int), .int .u32 (ma : Int), .bool bo, .int .u8 (g : Int), .bool gm] 64)) := Step.refl.alloc _
  have b1 := Blk.new w 64 #[.string (str s0), .string (str s1), .int .u8 (k : Int), .int .u32 (t : Int), .int .u32 (mi : Int), .int .u32 (ma : Int), .bool bo, .int .u8 (g : Int), .bool gm]
  have S1 := Lib.hid s1'
  have B1 := Lib.hid b1
  have C0 := Lib.hid (fun W => u_check W s0)
  have C1 := Lib.hid (fun W => u_check W s1)
  generalize utfE s0 = r at *
  have e1 : (r != 0) = true := by simpa using h0
  clear s1' b1 h0
  go_enter Try.func56, Try.ntmps56
  go_wp2_with fail
  refine (C0.out _).mono ?_
  rintro e w1 ⟨rfl, t1⟩
  go_wp2_with fail
  go_ret
  exact ⟨rfl, S1.out.trans t1⟩
set_option maxRecDepth 100000 in
set_option maxHeartbeats 1600000 in
theorem i_r_s1 (w : World) (s0 s1 : List UInt8) (k t mi ma g : Nat) (bo gm : Bool) (h0 : utfE s0 = 0) (h1 : ¬ utfE s1 = 0) :
    Calls Try.prog 56 #[.agg #[.string (str s0), .string (str s1), .int .u8 (k : Int), .int .u32 (t : Int), .int .u32 (mi : Int), .int .u32 (ma : Int), .bool bo, .int .u8 (g : Int), .bool gm]] w fun e w' => e = .returned (.int .i64 (utfE s1)) ∧ Step (fun _ => False) w w' := by
  have s1' : Step (fun _ => False) w (w.alloc (.cells #[.string (str s0), .string (str s1), .int .u8 (k : Int), .int .u32 (t : Int), .int .u32 (mi : Int), .int .u32 (ma : Int), .bool bo, .int .u8 (g : Int), .bool gm] 64)) := Step.refl.alloc _
  have b1 := Blk.new w 64 #[.string (str s0), .string (str s1), .int .u8 (k : Int), .int .u32 (t : Int), .int .u32 (mi : Int), .int .u32 (ma : Int), .bool bo, .int .u8 (g : Int), .bool gm]
  have S1 := Lib.hid s1'
  have B1 := Lib.hid b1
  have C0 := Lib.hid (fun W => u_check W s0)
  have C1 := Lib.hid (fun W => u_check W s1)
  rw [h0] at C0
  generalize utfE s1 = r at *
  have e1 : (r != 0) = true := by simpa using h1
  clear s1' b1 h0 h1
  go_enter Try.func56, Try.ntmps56
  go_wp2_with fail
  refine (C0.out _).mono ?_
  rintro e w1 ⟨rfl, t1⟩
  replace B1 := Lib.hid (B1.out.step t1 id)
  replace S1 := Lib.hid (S1.out.trans t1)
  clear t1
  have m1 := (B1.out.cell 1).trans (show _ = some (Value.string (str s1)) from rfl)
  go_wp2_with fail
  refine (C1.out _).mono ?_
  rintro e w2 ⟨rfl, t2⟩
  go_wp2_with fail
  go_ret
  exact ⟨rfl, S1.out.trans t2⟩
set_option maxRecDepth 100000 in
set_option maxHeartbeats 1600000 in
theorem i_r_kind (w : World) (s0 s1 : List UInt8) (k t mi ma g : Nat) (bo gm : Bool) (h0 : utfE s0 = 0) (h1 : utfE s1 = 0) (hk : (3 : Int) < (k : Int)) :
    Calls Try.prog 56 #[.agg #[.string (str s0), .string (str s1), .int .u8 (k : Int), .int .u32 (t : Int), .int .u32 (mi : Int), .int .u32 (ma : Int), .bool bo, .int .u8 (g : Int), .bool gm]] w fun e w' => e = .returned (.int .i64 (43)) ∧ Step (fun _ => False) w w' := by
  have s1' : Step (fun _ => False) w (w.alloc (.cells #[.string (str s0), .string (str s1), .int .u8 (k : Int), .int .u32 (t : Int), .int .u32 (mi : Int), .int .u32 (ma : Int), .bool bo, .int .u8 (g : Int), .bool gm] 64)) := Step.refl.alloc _
  have b1 := Blk.new w 64 #[.string (str s0), .string (str s1), .int .u8 (k : Int), .int .u32 (t : Int), .int .u32 (mi : Int), .int .u32 (ma : Int), .bool bo, .int .u8 (g : Int), .bool gm]
  have S1 := Lib.hid s1'
  have B1 := Lib.hid b1
  have C0 := Lib.hid (fun W => u_check W s0)
  have C1 := Lib.hid (fun W => u_check W s1)
  rw [h0] at C0
  rw [h1] at C1
  clear s1' b1 h0 h1
  go_enter Try.func56, Try.ntmps56
  go_wp2_with fail
  refine (C0.out _).mono ?_
  rintro e w1 ⟨rfl, t1⟩
  replace B1 := Lib.hid (B1.out.step t1 id)
  replace S1 := Lib.hid (S1.out.trans t1)
  clear t1
  have m1 := (B1.out.cell 1).trans (show _ = some (Value.string (str s1)) from rfl)
  go_wp2_with fail
  refine (C1.out _).mono ?_
  rintro e w2 ⟨rfl, t2⟩
  have m2 := ((B1.out.step t2 id).cell 2).trans (show _ = some (Value.int .u8 (k : Int)) from rfl)
  go_wp2_with fail
  go_ret
  exact ⟨rfl, S1.out.trans t2⟩

end Go.Proofs.Ytpebdfgfikjkeaa
/-! imports.Right, joined. -/
namespace Go.Proofs.Ytpebdfgfikjkeaa
open Go.RowKit

/-- imports.Right. -/
def imR (x : Im) : Int :=
  if utfE x.s0 = 0 then (if utfE x.s1 = 0 then (if 3 < x.k then 43
    else if x.k = 0 then (if x.mi = 0 ∧ x.ma = 0 ∧ x.bo = false ∧ x.g = 0 ∧ x.gm = false then 0 else 1)
    else if x.k = 3 then (if x.t = 0 ∧ x.mi = 0 ∧ x.ma = 0 ∧ x.bo = false then (valF x.g : Nat) else 1)
    else if x.t = 0 ∧ x.g = 0 ∧ x.gm = false then (if x.bo = true then 0 else if x.ma = 0 then 0 else 1) else 1) else utfE x.s1) else utfE x.s0
theorem cast0 : ((0 : Nat) : Int) = 0 := rfl
theorem cast3 : ((3 : Nat) : Int) = 3 := rfl
theorem nz1 {n : Nat} (h : ¬ n = 0) : ¬ (0 : Int) = (n : Int) := by omega
theorem nz2 {n : Nat} (h : ¬ n = 0) : ((n : Int) != 0) = true := by simp; omega
theorem nz3 {n : Nat} (h : ¬ n = 0) : ((n : Int) == 0) = false := by simp; omega
set_option maxRecDepth 100000 in
theorem i_right (w : World) (s0 s1 : List UInt8) (k t mi ma g : Nat) (bo gm : Bool) (hg : g < 256) :
    Calls Try.prog 56 #[.agg #[.string (str s0), .string (str s1), .int .u8 (k : Int), .int .u32 (t : Int), .int .u32 (mi : Int), .int .u32 (ma : Int), .bool bo, .int .u8 (g : Int), .bool gm]] w fun e w' => e = .returned (.int .i64 (imR ⟨s0, s1, k, t, mi, ma, bo, g, gm⟩)) ∧ Step (fun _ => False) w w' := by
  unfold imR
  simp only
  by_cases h0 : utfE s0 = 0
  case neg => rw [if_neg h0]; ((try simp only [cast0, cast3]); exact i_r_s0 w s0 s1 k t mi ma g bo gm h0)
  rw [if_pos h0]
  by_cases h1 : utfE s1 = 0
  case neg => rw [if_neg h1]; ((try simp only [cast0, cast3]); exact i_r_s1 w s0 s1 k t mi ma g bo gm h0 h1)
  rw [if_pos h1]
  by_cases hk : 3 < k
  · rw [if_pos hk]; ((try simp only [cast0, cast3]); exact i_r_kind w s0 s1 k t mi ma g bo gm h0 h1 (by omega))
  rw [if_neg hk]
  by_cases k0 : k = 0
  · subst k0
    rw [if_pos rfl]
    by_cases a : mi = 0
    case neg => rw [if_neg (fun h => a h.1)]; ((try simp only [cast0, cast3]); exact i_r_0mi w s0 s1 0 t mi ma g bo gm h0 h1 (nz1 a) (nz2 a) (nz3 a))
    subst a
    by_cases a : ma = 0
    case neg => rw [if_neg (fun h => a h.2.1)]; ((try simp only [cast0, cast3]); exact i_r_0ma w s0 s1 0 t 0 ma g bo gm h0 h1 (nz1 a) (nz2 a) (nz3 a))
    subst a
    cases bo with
    | true => rw [if_neg (fun h => by cases h.2.2.1)]; ((try simp only [cast0, cast3]); exact i_r_0bo w s0 s1 0 t 0 0 g false gm h0 h1)
    | false =>
    by_cases a : g = 0
    case neg => rw [if_neg (fun h => a h.2.2.2.1)]; ((try simp only [cast0, cast3]); exact i_r_0g w s0 s1 0 t 0 0 g false gm h0 h1 (nz1 a) (nz2 a) (nz3 a))
    subst a
    cases gm with
    | true => rw [if_neg (fun h => by cases h.2.2.2.2)]; ((try simp only [cast0, cast3]); exact i_r_0gm w s0 s1 0 t 0 0 0 false false h0 h1)
    | false => rw [if_pos ⟨rfl, rfl, rfl, rfl, rfl⟩]; ((try simp only [cast0, cast3]); exact i_r_0ok w s0 s1 0 t 0 0 0 false false h0 h1)
  rw [if_neg k0]
  by_cases k3 : k = 3
  · subst k3
    rw [if_pos rfl]
    by_cases a : t = 0
    case neg => rw [if_neg (fun h => a h.1)]; ((try simp only [cast0, cast3]); exact i_r_3t w s0 s1 0 t mi ma g bo gm h0 h1 (nz1 a) (nz2 a) (nz3 a))
    subst a
    by_cases a : mi = 0
    case neg => rw [if_neg (fun h => a h.2.1)]; ((try simp only [cast0, cast3]); exact i_r_3mi w s0 s1 0 0 mi ma g bo gm h0 h1 (nz1 a) (nz2 a) (nz3 a))
    subst a
    by_cases a : ma = 0
    case neg => rw [if_neg (fun h => a h.2.2.1)]; ((try simp only [cast0, cast3]); exact i_r_3ma w s0 s1 0 0 0 ma g bo gm h0 h1 (nz1 a) (nz2 a) (nz3 a))
    subst a
    cases bo with
    | true => rw [if_neg (fun h => by cases h.2.2.2)]; ((try simp only [cast0, cast3]); exact i_r_3bo w s0 s1 0 0 0 0 g false gm h0 h1)
    | false => rw [if_pos ⟨rfl, rfl, rfl, rfl⟩]; ((try simp only [cast0, cast3]); exact i_r_3ok w s0 s1 0 0 0 0 g false gm h0 h1 hg)
  rw [if_neg k3]
  have o0 := int_ne k0
  have o3 := int_ne k3
  have ok : ¬ (3 : Int) < (k : Int) := by omega
  by_cases a : t = 0
  case neg => rw [if_neg (fun h => a h.1)]; ((try simp only [cast0, cast3]); exact i_r_kt w s0 s1 k t mi ma g bo gm h0 h1 (nz1 a) (nz2 a) (nz3 a) o0 o3 ok)
  subst a
  by_cases a : g = 0
  case neg => rw [if_neg (fun h => a h.2.1)]; ((try simp only [cast0, cast3]); exact i_r_kg w s0 s1 k 0 mi ma g bo gm h0 h1 (nz1 a) (nz2 a) (nz3 a) o0 o3 ok)
  subst a
  cases gm with
  | true => rw [if_neg (fun h => by cases h.2.2)]; ((try simp only [cast0, cast3]); exact i_r_kgm w s0 s1 k 0 mi ma 0 bo false h0 h1 o0 o3 ok)
  | false =>
  rw [if_pos ⟨rfl, rfl, rfl⟩]
  cases bo with
  | true => rw [if_pos rfl]; ((try simp only [cast0, cast3]); exact i_r_kbo w s0 s1 k 0 mi ma 0 false false h0 h1 o0 o3 ok)
  | false =>
  rw [if_neg (by decide)]
  by_cases a : ma = 0
  case neg => rw [if_neg a]; ((try simp only [cast0, cast3]); exact i_r_kma w s0 s1 k 0 mi ma 0 false false h0 h1 (nz1 a) (nz2 a) (nz3 a) o0 o3 ok)
  subst a
  rw [if_pos rfl]
  ((try simp only [cast0, cast3]); exact i_r_kok w s0 s1 k 0 mi 0 0 false false h0 h1 o0 o3 ok)
end Go.Proofs.Ytpebdfgfikjkeaa
/-! consts.Type, globals.Right; valid: fault, index, count, one, first. -/
namespace Go.Proofs.Ytpebdfgfikjkeaa
open Go.RowKit

theorem tab35 : chkF 35 = 0 ∧ (infF 35).imm = 7 ∧ (ofR 35).2 = true ∧ (ofR 35).1.imm = 7 := by refine ⟨?_, ?_, ?_, ?_⟩ <;> kernel_rfl
theorem tab65 : chkF 65 = 0 ∧ (infF 65).imm = 10 ∧ (ofR 65).2 = true ∧ (ofR 65).1.imm = 10 := by refine ⟨?_, ?_, ?_, ?_⟩ <;> kernel_rfl
theorem tab66 : chkF 66 = 0 ∧ (infF 66).imm = 11 ∧ (ofR 66).2 = true ∧ (ofR 66).1.imm = 11 := by refine ⟨?_, ?_, ?_, ?_⟩ <;> kernel_rfl
/-- Which may be constants. -/
def ConstOk (op a : Nat) : Prop := op = 35 ∧ a < 4294967296 ∨ op = 65 ∧ a < 4294967296 ∨ op = 66
theorem crt_zero {op a b n : Nat} (h : crtF op a b n = 0) : b = 0 ∧ n = 0 ∧ ConstOk op a := by
  rw [crtF] at h
  split at h
  · rename_i hr
    split at h
    · rename_i ho
      have key : ∀ m, m = 7 ∨ m = 10 → immF m a b n = 0 → b = 0 ∧ n = 0 ∧ a < 4294967296 := fun m hm h0 => by
        rw [immF] at h0
        split at h0
        · rw [if_neg (by omega)] at h0; cases h0
        split at h0
        · cases h0
        rw [if_neg (by omega), if_neg (by omega), if_neg (by omega)] at h0
        split at h0
        · omega
        · cases h0
      have key2 : immF 11 a b n = 0 → b = 0 ∧ n = 0 := fun h0 => by
        rw [immF] at h0
        split at h0
        · rw [if_neg (by omega)] at h0; cases h0
        split at h0
        · cases h0
        omega
      rcases ho with rfl | rfl | rfl
      · rw [rgtF, tab35.1, if_pos rfl, tab35.2.1] at hr
        obtain ⟨h1, h2, h3⟩ := key 7 (by omega) hr
        exact ⟨h1, h2, .inl ⟨rfl, h3⟩⟩
      · rw [rgtF, tab65.1, if_pos rfl, tab65.2.1] at hr
        obtain ⟨h1, h2, h3⟩ := key 10 (by omega) hr
        exact ⟨h1, h2, .inr (.inl ⟨rfl, h3⟩)⟩
      · rw [rgtF, tab66.1, if_pos rfl, tab66.2.1] at hr
        obtain ⟨h1, h2⟩ := key2 hr
        exact ⟨h1, h2, .inr (.inr rfl)⟩
    · cases h
  · rename_i hr; exact absurd h hr
theorem rgt_ok {op a : Nat} (h : ConstOk op a) : rgtF op a 0 0 = 0 := by
  rcases h with ⟨rfl, h⟩ | ⟨rfl, h⟩ | rfl
  · rw [rgtF, tab35.1, if_pos rfl, tab35.2.1, immF, if_neg (by omega), if_neg (by omega), if_neg (by omega), if_neg (by omega), if_neg (by omega), if_pos ⟨h, by decide⟩]
  · rw [rgtF, tab65.1, if_pos rfl, tab65.2.1, immF, if_neg (by omega), if_neg (by omega), if_neg (by omega), if_neg (by omega), if_neg (by omega), if_pos ⟨h, by decide⟩]
  · rw [rgtF, tab66.1, if_pos rfl, tab66.2.1, immF, if_neg (by omega), if_neg (by omega), if_neg (by omega), if_neg (by omega), if_pos rfl]
theorem crt_ok {op a : Nat} (h : ConstOk op a) : crtF op a 0 0 = 0 := by
  rw [crtF, rgt_ok h, if_pos rfl, if_pos]
  rcases h with ⟨rfl, h⟩ | ⟨rfl, h⟩ | rfl <;> simp
def ctF (op a : Nat) (l : List (Nat × Bool)) : Nat × Nat :=
  if op = 65 then (127, 0) else if op = 66 then (126, 0) else match l[a]? with
    | some g => if g.2 then (0, 24) else (g.1, 0)
    | none => (0, 24)
set_option maxRecDepth 100000 in
set_option maxHeartbeats 1600000 in
theorem ctype_err (w : World) (op a b n c m cc : Nat) (A B : Option Addr) (hop : op < 256) (h : ¬ crtF op a b n = 0) :
    Calls Try.prog 86 #[insV op a b A n c, .slice B m cc] w fun e w' => e = .returned (.tuple #[.int .u8 0, .int .i64 (crtF op a b n : Nat)]) ∧ Step (fun _ => False) w w' := by
  have HR : Hid (∀ w, Calls Try.prog 85 #[insV op a b A n c] w fun e w' => e = .returned (.int .i64 (crtF op a b n : Nat)) ∧ Step (fun _ => False) w w') := fun w => cright_walk w op a b n c A hop
  obtain ⟨r, hr⟩ : ∃ r : Int, r = (crtF op a b n : Nat) := ⟨_, rfl⟩
  have hne : ¬ r = 0 := by omega
  have hnb : (r != 0) = true := bne_iff_ne.2 hne
  rw [← hr] at HR ⊢
  simp only [insV] at HR ⊢
  clear hr h
  go_enter Try.func86, Try.ntmps86
  go_wp2_with fail
  refine (HR.out _).mono ?_
  rintro e w5 ⟨rfl, hS5⟩
  have HS5 := Lib.hid ((Step.refl.alloc _).trans hS5)
  clear hS5
  go_wp2_with fail
  go_ret2
  exact ⟨rfl, HS5.out⟩
set_option maxRecDepth 100000 in
set_option maxHeartbeats 1600000 in
theorem ctype_ok (w : World) (op a c cc : Nat) (A B : Option Addr) (l : List (Nat × Bool)) (S : Nat → Prop) (hok : ConstOk op a) (ha : a < 18446744073709551616) (hl : l.length ≤ 1000) (hr : Reads w S 2 B l.length (l.flatMap glC)) :
    Calls Try.prog 86 #[.agg #[.int .u8 (op : Int), .int .u64 (a : Int), .int .u64 0, .slice A 0 c], .slice B l.length cc] w fun e w' => e = .returned (.tuple #[.int .u8 ((ctF op a l).1 : Nat), .int .i64 ((ctF op a l).2 : Nat)]) ∧ Step (fun _ => False) w w' := by
  have hop : op < 256 := by rcases hok with ⟨rfl, h⟩ | ⟨rfl, h⟩ | rfl <;> decide
  have HR : Hid (∀ w, Calls Try.prog 85 #[.agg #[.int .u8 (op : Int), .int .u64 (a : Int), .int .u64 0, .slice A 0 c]] w fun e w' => e = .returned (.int .i64 0) ∧ Step (fun _ => False) w w') := fun w => by
    have := cright_walk w op a 0 0 c A hop
    rw [crt_ok hok] at this
    exact this
  have hwl := IntWalk.u64_in (l.length : Int) (by omega)
  rcases hok with ⟨rfl, h⟩ | ⟨rfl, h⟩ | rfl
  · rw [ctF, if_neg (by decide), if_neg (by decide)]
    by_cases hlt : a < l.length
    · rw [List.getElem?_eq_getElem hlt]
      have g2 : (a : Int) < (l.length : Int) := by omega
      have g1 : ¬ (l.length : Int) ≤ (a : Int) := by omega
      have g3 : decide ((l.length : Int) ≤ (a : Int)) = false := decide_eq_false g1
      obtain ⟨⟨t, mu⟩, hv⟩ : ∃ v, v = l[a] := ⟨_, rfl⟩
      obtain ⟨bb, off, rfl, _, hbl, hc⟩ := st_cells glC 2 (by decide) (fun _ => rfl) hr hlt
      rw [← hv] at hc ⊢
      have HD0 := Lib.hid (hc 0 _ rfl)
      have HD1 := Lib.hid (hc 1 _ rfl)
      clear hc hr hv
      cases mu <;>
      · go_enter Try.func86, Try.ntmps86
        go_wp2_with fail
        refine (HR.out _).mono ?_
        rintro e w5 ⟨rfl, hS5⟩
        have HB5 := Lib.hid ((Blk.new w 40 #[.int .u8 (((35 : Nat) : Int)), .int .u64 (a : Int), .int .u64 0, .slice A 0 c]).step hS5 id)
        have HS5 := Lib.hid ((Step.refl.alloc _).trans hS5)
        clear hS5
        obtain ⟨X, hX⟩ : ∃ X, X = w.heap.size := ⟨_, rfl⟩
        rw [← hX] at HB5 ⊢
        clear hX
        have x0 := HB5.out.cell 0
        have x1 := HB5.out.cell 1
        simp at x0 x1
        have c0 := (HS5.out.cell (p := ⟨bb, off + a * 2 + 0, none⟩) hbl id).trans HD0.out
        have c1 := (HS5.out.cell (p := ⟨bb, off + a * 2 + 1, none⟩) hbl id).trans HD1.out
        simp only [Nat.add_zero] at c0
        go_wp2_with fail
        go_ret2
        exact ⟨rfl, HS5.out⟩
    · rw [List.getElem?_eq_none (by omega)]
      have g1 : (l.length : Int) ≤ (a : Int) := by omega
      have g3 : decide ((l.length : Int) ≤ (a : Int)) = true := decide_eq_true g1
      clear hr
      go_enter Try.func86, Try.ntmps86
      go_wp2_with fail
      refine (HR.out _).mono ?_
      rintro e w5 ⟨rfl, hS5⟩
      have HB5 := Lib.hid ((Blk.new w 40 #[.int .u8 (((35 : Nat) : Int)), .int .u64 (a : Int), .int .u64 0, .slice A 0 c]).step hS5 id)
      have HS5 := Lib.hid ((Step.refl.alloc _).trans hS5)
      clear hS5
      obtain ⟨X, hX⟩ : ∃ X, X = w.heap.size := ⟨_, rfl⟩
      rw [← hX] at HB5 ⊢
      clear hX
      have x0 := HB5.out.cell 0
      have x1 := HB5.out.cell 1
      simp at x0 x1
      go_wp2_with fail
      go_ret2
      exact ⟨rfl, HS5.out⟩
  · rw [ctF, if_pos rfl]
    clear hr
    go_enter Try.func86, Try.ntmps86
    go_wp2_with fail
    refine (HR.out _).mono ?_
    rintro e w5 ⟨rfl, hS5⟩
    have HB5 := Lib.hid ((Blk.new w 40 #[.int .u8 (((65 : Nat) : Int)), .int .u64 (a : Int), .int .u64 0, .slice A 0 c]).step hS5 id)
    have HS5 := Lib.hid ((Step.refl.alloc _).trans hS5)
    clear hS5
    obtain ⟨X, hX⟩ : ∃ X, X = w.heap.size := ⟨_, rfl⟩
    rw [← hX] at HB5 ⊢
    clear hX
    have x0 := HB5.out.cell 0
    simp at x0
    go_wp2_with fail
    go_ret2
    exact ⟨rfl, HS5.out⟩
  · rw [ctF, if_neg (by decide), if_pos rfl]
    clear hr
    go_enter Try.func86, Try.ntmps86
    go_wp2_with fail
    refine (HR.out _).mono ?_
    rintro e w5 ⟨rfl, hS5⟩
    have HB5 := Lib.hid ((Blk.new w 40 #[.int .u8 (((66 : Nat) : Int)), .int .u64 (a : Int), .int .u64 0, .slice A 0 c]).step hS5 id)
    have HS5 := Lib.hid ((Step.refl.alloc _).trans hS5)
    clear hS5
    obtain ⟨X, hX⟩ : ∃ X, X = w.heap.size := ⟨_, rfl⟩
    rw [← hX] at HB5 ⊢
    clear hX
    have x0 := HB5.out.cell 0
    simp at x0
    go_wp2_with fail
    go_ret2
    exact ⟨rfl, HS5.out⟩

/-- consts.Type: the type, the error. -/
def ctE (taken : List (Nat × Bool)) (op a b n : Nat) : Nat × Nat := if crtF op a b n = 0 then ctF op a taken else (0, crtF op a b n)
theorem c_type (w : World) (op a b n c cc : Nat) (A B : Option Addr) (l : List (Nat × Bool)) (S : Nat → Prop) (hop : op < 256) (ha : a < 18446744073709551616) (hl : l.length ≤ 1000) (hr : Reads w S 2 B l.length (l.flatMap glC)) :
    Calls Try.prog 86 #[.agg #[.int .u8 (op : Int), .int .u64 (a : Int), .int .u64 (b : Int), .slice A n c], .slice B l.length cc] w fun e w' => e = .returned (.tuple #[.int .u8 ((ctE l op a b n).1 : Nat), .int .i64 ((ctE l op a b n).2 : Nat)]) ∧ Step (fun _ => False) w w' := by
  unfold ctE
  by_cases h : crtF op a b n = 0
  · rw [if_pos h]
    obtain ⟨rfl, rfl, hok⟩ := crt_zero h
    exact ctype_ok w op a c cc A B l S hok ha hl hr
  · rw [if_neg h]
    exact ctype_err w op a b n c l.length cc A B hop h

/-- globals.Right. -/
def glE (g op a b n : Nat) : Nat := if valF g = 0 then crtF op a b n else valF g
set_option maxRecDepth 100000 in
set_option maxHeartbeats 800000 in
theorem g_right (w : World) (g op a b n c : Nat) (gm : Bool) (A : Option Addr) (hg : g < 256) (hop : op < 256) :
    Calls Try.prog 57 #[.agg #[.int .u8 (g : Int), .bool gm, .int .u8 (op : Int), .int .u64 (a : Int), .int .u64 (b : Int), .slice A n c]] w fun e w' => e = .returned (.int .i64 (glE g op a b n : Nat)) ∧ Step (fun _ => False) w w' := by
  have HC := Lib.hid (fun W => cright_walk W op a b n c A hop)
  unfold insV at HC
  have HV := Lib.hid (fun W => value_walk W g hg)
  have hgl : glE g op a b n = if valF g = 0 then crtF op a b n else valF g := rfl
  have S1 : Hid (Step (fun _ => False) w (w.alloc (.cells #[.int .u8 (g : Int), .bool gm, .int .u8 (op : Int), .int .u64 (a : Int), .int .u64 (b : Int), .slice A n c] 83))) := Step.refl.alloc _
  generalize crtF op a b n = r2 at HC hgl
  generalize valF g = r at HV hgl
  by_cases h : r = 0
  · subst h
    have HG : Hid (glE g op a b n = r2) := hgl
    clear hgl
    go_enter Try.func57, Try.ntmps57
    go_wp2_with fail
    refine (HV.out _).mono ?_
    rintro e w1 ⟨rfl, hw⟩
    subst hw
    go_wp2_with fail
    refine (HC.out _).mono ?_
    rintro e w1 ⟨rfl, t1⟩
    go_wp2_with fail
    go_ret
    exact ⟨by rw [HG.out]; rfl, S1.out.trans t1⟩
  · rw [if_neg h] at hgl
    have HG := Lib.hid hgl
    have e1 : ((r : Int) != 0) = true := by simp; omega
    clear hgl h
    go_enter Try.func57, Try.ntmps57
    go_wp2_with fail
    refine (HV.out _).mono ?_
    rintro e w1 ⟨rfl, hw⟩
    subst hw
    go_wp2_with fail
    go_ret
    exact ⟨by rw [HG.out]; rfl, S1.out⟩
set_option maxRecDepth 100000 in
theorem v_count (w : World) (b : Bool) : Calls Try.prog 60 #[.bool b] w fun e w' => e = .returned (.int .i64 (if b = true then 1 else 0)) ∧ w = w' := by
  cases b
  all_goals
    go_enter Try.func60, Try.ntmps60
    go_wp2_with fail
    go_ret
    exact ⟨rfl, rfl⟩
def ixE (n m : Nat) (e : Int) : Int := if n < m then 0 else e
set_option maxRecDepth 100000 in
theorem v_index (w : World) (n m : Nat) (er : Int) (hn : n < 4294967296) (hm : m ≤ 100000) : Calls Try.prog 28 #[.int .u32 (n : Int), .int .i64 (m : Int), .int .i64 er] w fun e w' => e = .returned (.int .i64 (ixE n m er)) ∧ w = w' := by
  have h1 := IntWalk.u64_in (n : Int) (by omega)
  have h2 := IntWalk.u64_in (m : Int) (by omega)
  by_cases h : n < m
  · have g : (n : Int) < (m : Int) := by omega
    have HG : Hid (ixE n m er = 0) := if_pos h
    go_enter Try.func28, Try.ntmps28
    go_wp2_with fail
    go_ret
    exact ⟨by rw [HG.out]; rfl, rfl⟩
  · have g : ¬ (n : Int) < (m : Int) := by omega
    have HG : Hid (ixE n m er = er) := if_neg h
    go_enter Try.func28, Try.ntmps28
    go_wp2_with fail
    go_ret
    exact ⟨by rw [HG.out]; rfl, rfl⟩

/-- A fault: why, in which list, where. -/
structure Ft where
  why : Int
  list : Int
  at_ : Int
deriving DecidableEq
def Ft.val (f : Ft) : Value := .agg #[.int .i64 f.why, .int .i64 f.list, .int .i64 f.at_]
def Ft.no : Ft := ⟨0, 0, 0⟩
def faultF (e l a : Int) : Ft := if e = 0 then Ft.no else ⟨e, l, a⟩
set_option maxRecDepth 100000 in
theorem v_fault (w : World) (er l a : Int) : Calls Try.prog 36 #[.int .i64 er, .int .i64 l, .int .i64 a] w fun e w' => e = .returned (faultF er l a).val ∧ Step (fun _ => False) w w' := by
  by_cases h : er = 0
  · have e1 : (er == 0) = true := by simpa using h
    have HG : Hid (faultF er l a = Ft.no) := if_pos h
    clear h
    go_enter Try.func36, Try.ntmps36
    go_wp2_with fail
    refine bodyPost_ret (v := Ft.no.val) (by simp [results, Try.results36, go_sem, Ft.val, Ft.no]) rfl ⟨by rw [HG.out], Step.refl.alloc _⟩
  · have e1 : (er == 0) = false := by simpa using h
    have HG : Hid (faultF er l a = ⟨er, l, a⟩) := if_neg h
    clear h
    go_enter Try.func36, Try.ntmps36
    go_wp2_with fail
    refine bodyPost_ret (v := Ft.val ⟨er, l, a⟩) (by simp [results, Try.results36, go_sem, Ft.val]) rfl ⟨by rw [HG.out], Step.refl.alloc _⟩
def Ft.cells (f : Ft) : List Value := [.int .i64 f.why, .int .i64 f.list, .int .i64 f.at_]
theorem three_new {W : World} {N : Nat} {t : TypeId} {a b c x y z : Value} (h : Blk W N t #[a, b, c]) :
    Blk (((W.setCell ⟨N, 0, none⟩ x).setCell ⟨N, 1, none⟩ y).setCell ⟨N, 2, none⟩ z) N t #[x, y, z] := by
  have := ((h.set_ 0 x).set_ 1 y).set_ 2 z
  simpa using this
theorem three_step {F : Nat → Prop} {w W : World} {N : Nat} {x y z : Value} (h : Step F w W) (hN : F N ∨ w.heap.size ≤ N) :
    Step F w (((W.setCell ⟨N, 0, none⟩ x).setCell ⟨N, 1, none⟩ y).setCell ⟨N, 2, none⟩ z) :=
  ((h.setCell (p := ⟨N, 0, none⟩) hN x).setCell (p := ⟨N, 1, none⟩) hN y).setCell (p := ⟨N, 2, none⟩) hN z
def oneF (n l : Int) : Ft := if 1 < n then faultF 29 l (n - 1) else Ft.no
set_option maxRecDepth 100000 in
theorem v_one (w : World) (n l : Int) (hn : -1000 ≤ n ∧ n ≤ 1000000) : Calls Try.prog 31 #[.int .i64 n, .int .i64 l] w fun e w' => e = .returned (oneF n l).val ∧ Step (fun _ => False) w w' := by
  have hw := IntWalk.i64_in (n - 1) (by omega)
  by_cases h : 1 < n
  · have HG : Hid (oneF n l = ⟨29, l, n - 1⟩) := if_pos h
    have hF : faultF 29 l (n - 1) = ⟨29, l, n - 1⟩ := rfl
    go_enter Try.func31, Try.ntmps31
    go_wp2_with fail
    refine (v_fault _ 29 l (n - 1)).mono ?_
    rintro e w1 ⟨rfl, t1⟩
    rw [hF]
    unfold Ft.val
    have b1 := (Blk.new w 56 #[.int .i64 0, .int .i64 0, .int .i64 0]).step t1 id
    have m0 := b1.cell 0
    have m1 := b1.cell 1
    have m2 := b1.cell 2
    have mf := b1.frozen
    simp at m0 m1 m2
    go_wp2_with fail
    have bz := three_new (x := .int .i64 29) (y := .int .i64 l) (z := .int .i64 (n - 1)) b1
    have z0 := (bz.cell 0).trans (show _ = some (Value.int .i64 29) from rfl)
    have z1 := (bz.cell 1).trans (show _ = some (Value.int .i64 l) from rfl)
    have z2 := (bz.cell 2).trans (show _ = some (Value.int .i64 (n - 1)) from rfl)
    refine bodyPost_ret (v := Ft.val ⟨29, l, n - 1⟩) (by simp [results, Try.results31, go_sem, Ft.val, z0, z1, z2]) rfl ⟨by rw [HG.out], three_step ((Step.refl.alloc _).trans t1) (.inr (Nat.le_refl _))⟩
  · have HG : Hid (oneF n l = Ft.no) := if_neg h
    go_enter Try.func31, Try.ntmps31
    go_wp2_with fail
    refine bodyPost_ret (v := Ft.no.val) (by simp [results, Try.results31, go_sem, Ft.val, Ft.no]) rfl ⟨by rw [HG.out], Step.refl.alloc _⟩
end Go.Proofs.Ytpebdfgfikjkeaa
/-! valid: first, each. -/
namespace Go.Proofs.Ytpebdfgfikjkeaa
open Go.RowKit

def firstFt : List Ft → Ft
  | [] => Ft.no
  | f :: l => if f.why = 0 then firstFt l else f
theorem Ft.three (f : Ft) : f.cells.length = 3 := rfl
set_option maxRecDepth 100000 in
set_option maxHeartbeats 1600000 in
theorem v_first (w : World) (A : Option Addr) (n c : Nat) (fs : List Ft) (S : Nat → Prop) (HN : Hid (n = fs.length)) (hn : n ≤ 1000) (hr : Reads w S 3 A n (fs.flatMap Ft.cells)) :
    Calls Try.prog 22 #[.slice A n c] w fun e w' => e = .returned (firstFt fs).val ∧ Step (fun _ => False) w w' := by
  have s1 : Step (fun _ => False) w (w.alloc (.cells #[.int .i64 0, .int .i64 0, .int .i64 0] 56)) := Step.refl.alloc _
  have HR := Lib.hid (hr.step s1 (fun _ _ => id))
  have B0 := Lib.hid (Blk.new w 56 #[.int .i64 0, .int .i64 0, .int .i64 0])
  have S1 := Lib.hid s1
  have hlt0 : w.heap.size < (w.alloc (.cells #[.int .i64 0, .int .i64 0, .int .i64 0] 56)).heap.size := by simp
  have HNS : Hid (w.heap.size ≤ w.heap.size) := Nat.le_refl _
  clear hr s1
  go_enter Try.func22, Try.ntmps22
  go_wp2_with fail
  generalize hNN : w.heap.size = N at *
  replace HNS : Hid (w.heap.size ≤ N) := by rw [Hid, hNN]; exact Nat.le_refl _
  clear hNN
  generalize w.alloc (.cells #[.int .i64 0, .int .i64 0, .int .i64 0] 56) = V at *
  go_loopw [7] (fun iv wr => ∃ (j : Nat), j ≤ n ∧ iv = .int .i64 (j : Int) ∧ Hid (firstFt fs = firstFt (fs.drop j)) ∧ Hid (Step (fun _ => False) V wr)) (fun iv _ => n + 1 - (intOf iv).toNat)
  case atStart => exact ⟨0, by omega, rfl, rfl, Step.refl⟩
  case round =>
    obtain ⟨j, hj, rfl, HI, HS⟩ := hrel
    have hb := B0.out.step HS.out id
    have nN : N < wr.heap.size := hb.lt
    by_cases hlt : j < n
    · have q1 : (j : Int) < (n : Int) := by omega
      have i0 : (0 : Int) ≤ (j : Int) := by omega
      have hw2 := IntWalk.i64_in ((j : Int) + 1) (by omega)
      have hjl : j < fs.length := by rw [← HN.out]; exact hlt
      obtain ⟨bk, off, hA, _, hbl, hc⟩ := reads_row Ft.cells 3 (by decide) Ft.three (HR.out.step HS.out (fun _ _ => id)) (k := j) hjl
      subst hA
      have HD : Hid (fs.drop j = fs[j] :: fs.drop (j + 1)) := List.drop_eq_getElem_cons _
      obtain ⟨x, hxe⟩ : ∃ x, x = fs[j] := ⟨_, rfl⟩
      rw [← hxe] at hc HD
      clear hxe
      obtain ⟨y, li, at_⟩ := x
      have c0 := hc 0 _ rfl
      have c1 := hc 1 _ rfl
      have c2 := hc 2 _ rfl
      simp only [Nat.add_zero] at c0
      simp only at c0 c1 c2
      clear hc
      have HU : Hid (firstFt (⟨y, li, at_⟩ :: fs.drop (j + 1)) = if y = 0 then firstFt (fs.drop (j + 1)) else ⟨y, li, at_⟩) := rfl
      by_cases hy : y = 0
      · subst hy
        have HI2 : Hid (firstFt fs = firstFt (fs.drop (j + 1))) := by unfold Hid; rw [HI.out, HD.out, HU.out, if_pos rfl]
        have HS2 := Lib.hid (HS.out.alloc (.cells #[.int .i64 0, .int .i64 li, .int .i64 at_] 56))
        clear hb
        go_wp2_with fail
        go_roundw
        case rel => exact ⟨j + 1, by omega, by rw [Int.natCast_add]; rfl, HI2, HS2⟩
        case measure => simp [intOf]; omega
      · have e1 : (y != 0) = true := by simpa using hy
        have HI2 : Hid (firstFt fs = ⟨y, li, at_⟩) := by unfold Hid; rw [HI.out, HD.out, HU.out, if_neg hy]
        clear hy
        have m0 := hb.cell 0
        have m1 := hb.cell 1
        have m2 := hb.cell 2
        have mf := hb.frozen
        have nne : N ≠ wr.heap.size := Nat.ne_of_lt nN
        simp at m0 m1 m2
        have bz := (three_new (x := .int .i64 y) (y := .int .i64 li) (z := .int .i64 at_) hb).alloc (.cells #[.int .i64 y, .int .i64 li, .int .i64 at_] 56)
        have z0 := (bz.cell 0).trans (show _ = some (Value.int .i64 y) from rfl)
        have z1 := (bz.cell 1).trans (show _ = some (Value.int .i64 li) from rfl)
        have z2 := (bz.cell 2).trans (show _ = some (Value.int .i64 at_) from rfl)
        have HZ := Lib.hid ((three_step (F := fun _ => False) (x := .int .i64 y) (y := .int .i64 li) (z := .int .i64 at_) (S1.out.trans HS.out) (.inr HNS.out)).alloc (.cells #[.int .i64 y, .int .i64 li, .int .i64 at_] 56))
        clear bz hb
        go_wp2_with fail
        refine bodyPost_ret (v := Ft.val ⟨y, li, at_⟩) (by simp [results, Try.results22, go_sem, Ft.val, z0, z1, z2]) rfl ⟨by rw [HI2.out], HZ.out⟩
    · obtain rfl : j = n := by omega
      have HI2 : Hid (firstFt fs = Ft.no) := by unfold Hid; rw [HI.out, HN.out, List.drop_length]; rfl
      have m0 := hb.cell 0
      have m1 := hb.cell 1
      have m2 := hb.cell 2
      have mf := hb.frozen
      simp at m0 m1 m2
      have bz := three_new (x := .int .i64 0) (y := .int .i64 0) (z := .int .i64 0) hb
      have z0 := (bz.cell 0).trans (show _ = some (Value.int .i64 0) from rfl)
      have z1 := (bz.cell 1).trans (show _ = some (Value.int .i64 0) from rfl)
      have z2 := (bz.cell 2).trans (show _ = some (Value.int .i64 0) from rfl)
      have HZ := Lib.hid (three_step (F := fun _ => False) (x := .int .i64 0) (y := .int .i64 0) (z := .int .i64 0) (S1.out.trans HS.out) (.inr HNS.out))
      clear bz hb
      go_wp2_with fail
      refine bodyPost_ret (v := Ft.no.val) (by simp [results, Try.results22, go_sem, Ft.val, Ft.no, z0, z1, z2]) rfl ⟨by rw [HI2.out], HZ.out⟩

/-- The first that is wrong of k from i on. -/
def eachR (l : Int) (f : Nat → Int) : Nat → Nat → Ft
  | 0, _ => Ft.no
  | k + 1, i => if f i = 0 then eachR l f k (i + 1) else ⟨f i, l, (i : Int)⟩
def eachF (n : Nat) (l : Int) (f : Nat → Int) : Ft := eachR l f n 0

set_option maxRecDepth 100000 in
set_option maxHeartbeats 1600000 in
theorem v_each_cap (w : World) (n : Nat) (l : Int) (h : FuncId) (p : Addr) (f : Nat → Int) (hn : n ≤ 1000) (hcf : ∀ (i : Nat) (W : World), (callFunc h #[.int .i64 (i : Int), .pointer (some p)]).run Try.prog W = .ok (.enter h #[.int .i64 (i : Int), .pointer (some p)]) W) (hl : ∀ (i : Nat) (W : World), i < n → Step (fun _ => False) w W → Calls Try.prog h #[.int .i64 (i : Int), .pointer (some p)] W fun e w' => e = .returned (.int .i64 (f i)) ∧ Step (fun _ => False) W w') :
    Calls Try.prog 23 #[.int .i64 (n : Int), .int .i64 l, .func (.func h) #[] #[.pointer (some p)]] w fun e w' => e = .returned (eachF n l f).val ∧ Step (fun _ => False) w w' := by
  have s1 : Step (fun _ => False) w (w.alloc (.cells #[.int .i64 0, .int .i64 0, .int .i64 0] 56)) := Step.refl.alloc _
  have B0 := Lib.hid (Blk.new w 56 #[.int .i64 0, .int .i64 0, .int .i64 0])
  have S1 := Lib.hid s1
  have HNS : Hid (w.heap.size ≤ w.heap.size) := Nat.le_refl _
  have HL := Lib.hid hl
  clear s1 hl
  go_enter Try.func23, Try.ntmps23
  go_wp2_with fail
  generalize hNN : w.heap.size = N at *
  replace HNS : Hid (w.heap.size ≤ N) := by rw [Hid, hNN]; exact Nat.le_refl _
  clear hNN
  generalize w.alloc (.cells #[.int .i64 0, .int .i64 0, .int .i64 0] 56) = V at *
  go_loopw [10] (fun iv wr => ∃ (j k : Nat), j + k = n ∧ iv = .int .i64 (j : Int) ∧ Hid (eachF n l f = eachR l f k j) ∧ Hid (Step (fun _ => False) V wr)) (fun iv _ => n + 1 - (intOf iv).toNat)
  case atStart => exact ⟨0, n, by omega, rfl, rfl, Step.refl⟩
  case round =>
    obtain ⟨j, k, hj, rfl, HI, HS⟩ := hrel
    have hb := B0.out.step HS.out id
    by_cases hlt : j < n
    · have q1 : (j : Int) < (n : Int) := by omega
      have hw2 := IntWalk.i64_in ((j : Int) + 1) (by omega)
      obtain ⟨k, rfl⟩ : ∃ k', k = k' + 1 := ⟨k - 1, by omega⟩
      have HU : Hid (eachR l f (k + 1) j = if f j = 0 then eachR l f k (j + 1) else ⟨f j, l, (j : Int)⟩) := rfl
      have HC := Lib.hid (HL.out j wr hlt (S1.out.trans HS.out))
      generalize f j = y at HU HC
      by_cases hy : y = 0
      · subst hy
        have HI2 : Hid (eachF n l f = eachR l f k (j + 1)) := by unfold Hid; rw [HI.out, HU.out, if_pos rfl]
        clear hb
        go_wp2_with fail
        refine HC.out.mono ?_
        rintro e w1 ⟨rfl, t1⟩
        have HS2 := Lib.hid (HS.out.trans t1)
        clear t1
        go_wp2_with fail
        go_roundw
        case rel => exact ⟨j + 1, k, by omega, by rw [Int.natCast_add]; rfl, HI2, HS2⟩
        case measure => simp [intOf]; omega
      · have e1 : (y != 0) = true := by simpa using hy
        have HI2 : Hid (eachF n l f = ⟨y, l, (j : Int)⟩) := by unfold Hid; rw [HI.out, HU.out, if_neg hy]
        have hF : faultF y l (j : Int) = ⟨y, l, (j : Int)⟩ := if_neg hy
        have HF := Lib.hid hF
        clear hy hF
        go_wp2_with fail
        refine HC.out.mono ?_
        rintro e w1 ⟨rfl, t1⟩
        have hb1 := Lib.hid (hb.step t1 id)
        have HS1 := Lib.hid (HS.out.trans t1)
        clear hb t1
        go_wp2_with fail
        refine (v_fault _ y l (j : Int)).mono ?_
        rintro e w2 ⟨rfl, t2⟩
        rw [HF.out]
        unfold Ft.val
        have hb2 := hb1.out.step t2 id
        have m0 := hb2.cell 0
        have m1 := hb2.cell 1
        have m2 := hb2.cell 2
        have mf := hb2.frozen
        simp at m0 m1 m2
        have bz := three_new (x := .int .i64 y) (y := .int .i64 l) (z := .int .i64 (j : Int)) hb2
        have z0 := (bz.cell 0).trans (show _ = some (Value.int .i64 y) from rfl)
        have z1 := (bz.cell 1).trans (show _ = some (Value.int .i64 l) from rfl)
        have z2 := (bz.cell 2).trans (show _ = some (Value.int .i64 (j : Int)) from rfl)
        have HZ := Lib.hid (three_step (F := fun _ => False) (x := .int .i64 y) (y := .int .i64 l) (z := .int .i64 (j : Int)) ((S1.out.trans HS1.out).trans t2) (.inr HNS.out))
        clear bz hb2 t2 hb1
        go_wp2_with fail
        refine bodyPost_ret (v := Ft.val ⟨y, l, (j : Int)⟩) (by simp [results, Try.results23, go_sem, Ft.val, z0, z1, z2]) rfl ⟨by rw [HI2.out], HZ.out⟩
    · obtain rfl : j = n := by omega
      obtain rfl : k = 0 := by omega
      have HI2 : Hid (eachF j l f = Ft.no) := by unfold Hid; rw [HI.out]; rfl
      have m0 := hb.cell 0
      have m1 := hb.cell 1
      have m2 := hb.cell 2
      have mf := hb.frozen
      simp at m0 m1 m2
      have bz := three_new (x := .int .i64 0) (y := .int .i64 0) (z := .int .i64 0) hb
      have z0 := (bz.cell 0).trans (show _ = some (Value.int .i64 0) from rfl)
      have z1 := (bz.cell 1).trans (show _ = some (Value.int .i64 0) from rfl)
      have z2 := (bz.cell 2).trans (show _ = some (Value.int .i64 0) from rfl)
      have HZ := Lib.hid (three_step (F := fun _ => False) (x := .int .i64 0) (y := .int .i64 0) (z := .int .i64 0) (S1.out.trans HS.out) (.inr HNS.out))
      clear bz hb
      go_wp2_with fail
      refine bodyPost_ret (v := Ft.no.val) (by simp [results, Try.results23, go_sem, Ft.val, Ft.no, z0, z1, z2]) rfl ⟨by rw [HI2.out], HZ.out⟩

set_option maxRecDepth 100000 in
set_option maxHeartbeats 1600000 in
theorem v_each_met (w : World) (n : Nat) (l : Int) (h : FuncId) (p : Addr) (f : Nat → Int) (hn : n ≤ 1000) (hcf : ∀ (i : Nat) (W : World), (callFunc h #[.pointer (some p), .int .i64 (i : Int)]).run Try.prog W = .ok (.enter h #[.pointer (some p), .int .i64 (i : Int)]) W) (hl : ∀ (i : Nat) (W : World), i < n → Step (fun _ => False) w W → Calls Try.prog h #[.pointer (some p), .int .i64 (i : Int)] W fun e w' => e = .returned (.int .i64 (f i)) ∧ Step (fun _ => False) W w') :
    Calls Try.prog 23 #[.int .i64 (n : Int), .int .i64 l, .func (.func h) #[.pointer (some p)] #[]] w fun e w' => e = .returned (eachF n l f).val ∧ Step (fun _ => False) w w' := by
  have s1 : Step (fun _ => False) w (w.alloc (.cells #[.int .i64 0, .int .i64 0, .int .i64 0] 56)) := Step.refl.alloc _
  have B0 := Lib.hid (Blk.new w 56 #[.int .i64 0, .int .i64 0, .int .i64 0])
  have S1 := Lib.hid s1
  have HNS : Hid (w.heap.size ≤ w.heap.size) := Nat.le_refl _
  have HL := Lib.hid hl
  clear s1 hl
  go_enter Try.func23, Try.ntmps23
  go_wp2_with fail
  generalize hNN : w.heap.size = N at *
  replace HNS : Hid (w.heap.size ≤ N) := by rw [Hid, hNN]; exact Nat.le_refl _
  clear hNN
  generalize w.alloc (.cells #[.int .i64 0, .int .i64 0, .int .i64 0] 56) = V at *
  go_loopw [10] (fun iv wr => ∃ (j k : Nat), j + k = n ∧ iv = .int .i64 (j : Int) ∧ Hid (eachF n l f = eachR l f k j) ∧ Hid (Step (fun _ => False) V wr)) (fun iv _ => n + 1 - (intOf iv).toNat)
  case atStart => exact ⟨0, n, by omega, rfl, rfl, Step.refl⟩
  case round =>
    obtain ⟨j, k, hj, rfl, HI, HS⟩ := hrel
    have hb := B0.out.step HS.out id
    by_cases hlt : j < n
    · have q1 : (j : Int) < (n : Int) := by omega
      have hw2 := IntWalk.i64_in ((j : Int) + 1) (by omega)
      obtain ⟨k, rfl⟩ : ∃ k', k = k' + 1 := ⟨k - 1, by omega⟩
      have HU : Hid (eachR l f (k + 1) j = if f j = 0 then eachR l f k (j + 1) else ⟨f j, l, (j : Int)⟩) := rfl
      have HC := Lib.hid (HL.out j wr hlt (S1.out.trans HS.out))
      generalize f j = y at HU HC
      by_cases hy : y = 0
      · subst hy
        have HI2 : Hid (eachF n l f = eachR l f k (j + 1)) := by unfold Hid; rw [HI.out, HU.out, if_pos rfl]
        clear hb
        go_wp2_with fail
        refine HC.out.mono ?_
        rintro e w1 ⟨rfl, t1⟩
        have HS2 := Lib.hid (HS.out.trans t1)
        clear t1
        go_wp2_with fail
        go_roundw
        case rel => exact ⟨j + 1, k, by omega, by rw [Int.natCast_add]; rfl, HI2, HS2⟩
        case measure => simp [intOf]; omega
      · have e1 : (y != 0) = true := by simpa using hy
        have HI2 : Hid (eachF n l f = ⟨y, l, (j : Int)⟩) := by unfold Hid; rw [HI.out, HU.out, if_neg hy]
        have hF : faultF y l (j : Int) = ⟨y, l, (j : Int)⟩ := if_neg hy
        have HF := Lib.hid hF
        clear hy hF
        go_wp2_with fail
        refine HC.out.mono ?_
        rintro e w1 ⟨rfl, t1⟩
        have hb1 := Lib.hid (hb.step t1 id)
        have HS1 := Lib.hid (HS.out.trans t1)
        clear hb t1
        go_wp2_with fail
        refine (v_fault _ y l (j : Int)).mono ?_
        rintro e w2 ⟨rfl, t2⟩
        rw [HF.out]
        unfold Ft.val
        have hb2 := hb1.out.step t2 id
        have m0 := hb2.cell 0
        have m1 := hb2.cell 1
        have m2 := hb2.cell 2
        have mf := hb2.frozen
        simp at m0 m1 m2
        have bz := three_new (x := .int .i64 y) (y := .int .i64 l) (z := .int .i64 (j : Int)) hb2
        have z0 := (bz.cell 0).trans (show _ = some (Value.int .i64 y) from rfl)
        have z1 := (bz.cell 1).trans (show _ = some (Value.int .i64 l) from rfl)
        have z2 := (bz.cell 2).trans (show _ = some (Value.int .i64 (j : Int)) from rfl)
        have HZ := Lib.hid (three_step (F := fun _ => False) (x := .int .i64 y) (y := .int .i64 l) (z := .int .i64 (j : Int)) ((S1.out.trans HS1.out).trans t2) (.inr HNS.out))
        clear bz hb2 t2 hb1
        go_wp2_with fail
        refine bodyPost_ret (v := Ft.val ⟨y, l, (j : Int)⟩) (by simp [results, Try.results23, go_sem, Ft.val, z0, z1, z2]) rfl ⟨by rw [HI2.out], HZ.out⟩
    · obtain rfl : j = n := by omega
      obtain rfl : k = 0 := by omega
      have HI2 : Hid (eachF j l f = Ft.no) := by unfold Hid; rw [HI.out]; rfl
      have m0 := hb.cell 0
      have m1 := hb.cell 1
      have m2 := hb.cell 2
      have mf := hb.frozen
      simp at m0 m1 m2
      have bz := three_new (x := .int .i64 0) (y := .int .i64 0) (z := .int .i64 0) hb
      have z0 := (bz.cell 0).trans (show _ = some (Value.int .i64 0) from rfl)
      have z1 := (bz.cell 1).trans (show _ = some (Value.int .i64 0) from rfl)
      have z2 := (bz.cell 2).trans (show _ = some (Value.int .i64 0) from rfl)
      have HZ := Lib.hid (three_step (F := fun _ => False) (x := .int .i64 0) (y := .int .i64 0) (z := .int .i64 0) (S1.out.trans HS.out) (.inr HNS.out))
      clear bz hb
      go_wp2_with fail
      refine bodyPost_ret (v := Ft.no.val) (by simp [results, Try.results23, go_sem, Ft.val, Ft.no, z0, z1, z2]) rfl ⟨by rw [HI2.out], HZ.out⟩
end Go.Proofs.Ytpebdfgfikjkeaa
/-! exports.Twice. -/
namespace Go.Proofs.Ytpebdfgfikjkeaa
open Go.RowKit

def exs (l : List Ex) : List Value := l.flatMap Ex.cells
theorem Ex.three (x : Ex) : x.cells.length = 3 := rfl
/-- Is one of the names seen, or there twice? -/
def twF : List Ex → List (List UInt8) → Bool
  | [], _ => false
  | x :: l, seen => if x.n ∈ seen then true else twF l (x.n :: seen)
def BoolTwo (b : Bool) (e : Ending) : Prop := ∃ s : ByteArray, e = .returned (.tuple #[.string s, .bool b])
set_option maxRecDepth 100000 in
set_option maxHeartbeats 1600000 in
theorem e_twice (w : World) (A : Option Addr) (n c : Nat) (l : List Ex) (S : Nat → Prop) (HN : Hid (n = l.length)) (hn : n ≤ 1000) (hnm : ∀ x ∈ l, x.n.length ≤ 100000) (hr : Reads w S 3 A n (exs l)) :
    Calls Try.prog 35 #[.slice A n c] w fun e w' => BoolTwo (twF l []) e ∧ Step (fun _ => False) w w' := by
  have hmm := @run_makeMap Try.prog
  have s1 : Step (fun _ => False) w (w.alloc (.map #[] 0)) := Step.refl.alloc _
  have hm0 := MapIs.made Try.prog w 9
  have HR := Lib.hid hr
  have S1 := Lib.hid s1
  have HM0 := Lib.hid hm0
  have HNM := Lib.hid hnm
  have HNS : Hid (w.heap.size ≤ w.heap.size) := Nat.le_refl _
  clear hr s1 hm0 hnm
  go_enter Try.func35, Try.ntmps35
  go_wp2_with fail
  generalize hNN : w.heap.size = N at *
  replace HNS : Hid (w.heap.size ≤ N) := by rw [Hid, hNN]; exact Nat.le_refl _
  clear hNN
  generalize w.alloc (.map #[] 0) = V at *
  go_loopw [10] (fun iv wr => ∃ (j m : Nat) (f : List UInt8 → Option Value) (seen : List (List UInt8)), j ≤ n ∧ iv = .int .i64 (j : Int) ∧ m ≤ j ∧ Hid (MapIs Try.prog wr 9 N m f) ∧ Hid (∀ s, f s = if s ∈ seen then some (.bool true) else none) ∧ Hid (twF l [] = twF (l.drop j) seen) ∧ Hid (Step (fun _ => False) w wr)) (fun iv _ => n + 1 - (intOf iv).toNat)
  case atStart => exact ⟨0, 0, fun _ => none, [], by omega, rfl, Nat.le_refl _, HM0, fun _ => by simp, rfl, S1⟩
  case round =>
    obtain ⟨j, m, f, seen, hj, rfl, hm, HM, HF, HI, HS⟩ := hrel
    by_cases hlt : j < n
    · have q1 : (j : Int) < (n : Int) := by omega
      have i0 : (0 : Int) ≤ (j : Int) := by omega
      have hw2 := IntWalk.i64_in ((j : Int) + 1) (by omega)
      have hjl : j < l.length := by rw [← HN.out]; exact hlt
      obtain ⟨bk, off, hA, _, hbl, hc⟩ := reads_row Ex.cells 3 (by decide) Ex.three (HR.out.step HS.out (fun _ _ => id)) (k := j) hjl
      subst hA
      have HD : Hid (l.drop j = l[j] :: l.drop (j + 1)) := List.drop_eq_getElem_cons _
      have hxn := HNM.out l[j] (List.getElem_mem hjl)
      obtain ⟨x, hxe⟩ : ∃ x, x = l[j] := ⟨_, rfl⟩
      rw [← hxe] at hc HD hxn
      clear hxe
      obtain ⟨nm, k, ix⟩ := x
      have c0 := hc 0 _ rfl
      have c1 := hc 1 _ rfl
      have c2 := hc 2 _ rfl
      simp only [Nat.add_zero] at c0
      simp only at c0 c1 c2 hxn
      clear hc
      have HU : Hid (twF (⟨nm, k, ix⟩ :: l.drop (j + 1)) seen = if nm ∈ seen then true else twF (l.drop (j + 1)) (nm :: seen)) := rfl
      have hsA : Step (fun _ => False) wr (wr.alloc (.cells #[.string (str nm), .int .u8 (k : Int), .int .u32 (ix : Int)] 66)) := Step.refl.alloc _
      have HM2 := Lib.hid (HM.out.step hsA id)
      have hlk := HM2.out.look (t := 129) (e := 4) (z := .bool false) Try.underlying9 Try.underlying129 rfl nm (by unfold maxLen; omega)
      have hf := HF.out nm
      by_cases hmem : nm ∈ seen
      · rw [hf, if_pos hmem] at hlk
        have HI2 : Hid (twF l [] = true) := by unfold Hid; rw [HI.out, HD.out, HU.out, if_pos hmem]
        have HS2 := Lib.hid (HS.out.trans hsA)
        clear hf hmem hsA
        simp only [Option.getD_some] at hlk
        go_wp2_with fail
        go_ret2
        rw [HI2.out]
        exact ⟨⟨str nm, rfl⟩, HS2.out⟩
      · rw [hf, if_neg hmem] at hlk
        simp only [Option.getD_none] at hlk
        have HI2 : Hid (twF l [] = twF (l.drop (j + 1)) (nm :: seen)) := by unfold Hid; rw [HI.out, HD.out, HU.out, if_neg hmem]
        obtain ⟨w7, hrun, hM7, hS7⟩ := HM2.out.put (t := 129) (e := 4) Try.underlying9 Try.underlying129 (by unfold maxLen; omega) nm (by unfold maxLen; omega) (.bool true)
        have HM7 := Lib.hid hM7
        have HF7 : Hid (∀ s, putF f nm (.bool true) s = if s ∈ nm :: seen then some (.bool true) else none) := fun s => by
          unfold putF
          by_cases hs : s = nm
          · rw [if_pos hs, if_pos (by rw [hs]; exact List.mem_cons_self ..)]
          · rw [if_neg hs, HF.out s]
            by_cases h2 : s ∈ seen
            · rw [if_pos h2, if_pos (List.mem_cons_of_mem _ h2)]
            · rw [if_neg h2, if_neg (fun h => by rcases List.mem_cons.1 h with e | e; exact hs e; exact h2 e)]
        have HS7 : Hid (Step (fun _ => False) w w7) := (HS.out.trans hsA).trans' hS7 (fun k hk => .inr (by rw [hk]; exact HNS.out))
        clear hf hmem hsA hM7 hS7
        go_wp2_with fail
        go_roundw
        case rel => exact ⟨j + 1, m + 1, _, nm :: seen, by omega, by rw [Int.natCast_add]; rfl, by omega, HM7, HF7, HI2, HS7⟩
        case measure => simp [intOf]; omega
    · obtain rfl : j = n := by omega
      have HI2 : Hid (twF l [] = false) := by unfold Hid; rw [HI.out, HN.out, List.drop_length]; rfl
      go_wp2_with fail
      go_ret2
      rw [HI2.out]
      exact ⟨⟨_, rfl⟩, HS.out⟩
end Go.Proofs.Ytpebdfgfikjkeaa
