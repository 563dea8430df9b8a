/-
  Pu: PuA, PuB, PuC, PuD.
-/
import Derived.Test.YtfemeendkjcffaaLe
import Derived.Test.YtfemeendkjcffaaInE
set_option linter.unusedVariables false
set_option linter.unusedSimpArgs false
/-! instr: the reference's numbers as strings. -/
namespace Go.Proofs.Ytfemeendkjcffaa
open Go.RowKit

theorem conv_bytes {S : Nat → Prop} {A : Option Addr} {w : World} {n c : Nat} {l : List UInt8} (h : Reads w S 1 A n (u8s l)) : (convert 53 9 (.slice A n c)).run Try.prog w = .ok (.string (str l)) w :=
  run_conv_bytes w 53 9 5 Try.underlying53 Try.underlying5 Try.underlying9 h
/-- A number of 32 bits with its sign. -/
def s32 (a : Nat) : Int := if a < 2147483648 then a else (a : Int) - 4294967296
def s64 (a : Nat) : Int := if a < 9223372036854775808 then a else (a : Int) - 18446744073709551616

set_option maxRecDepth 100000 in
set_option maxHeartbeats 1600000 in
theorem num_walk (w : World) (v : Nat) (h : v < 18446744073709551616) : Calls Try.prog 155 #[.int .u64 (v : Int)] w fun e w' => e = .returned (.string (str (uintF v))) ∧ Step (fun _ => False) w w' := by
  go_enter Try.func155, Try.ntmps155
  go_wp2_with fail
  refine (ruint_walk _ v h).mono ?_
  rintro e w5 ⟨D, c, rfl, hown, hS⟩
  have hcv := conv_bytes (c := c) (Reads.of_own hown)
  clear hown
  go_wp2_with fail
  go_ret
  exact ⟨rfl, hS⟩

set_option maxRecDepth 100000 in
set_option maxHeartbeats 1600000 in
theorem signed32_walk (w : World) (a : Nat) (h : a < 4294967296) : Calls Try.prog 156 #[.int .u64 (a : Int), .int .u64 32] w fun e w' => e = .returned (.string (str (intF (s32 a)))) ∧ Step (fun _ => False) w w' := by
  have he : wrap64 ((a : Int) * 4294967296) / 4294967296 = s32 a := by
    unfold wrap64 s32
    split <;> omega
  have hv : -9223372036854775808 ≤ s32 a ∧ s32 a ≤ 9223372036854775807 := by unfold s32; split <;> omega
  obtain ⟨v, hv0⟩ : ∃ v, v = s32 a := ⟨_, rfl⟩
  rw [← hv0] at he hv ⊢
  clear hv0
  go_enter Try.func156, Try.ntmps156
  go_wp2_with fail
  refine (rint_walk _ v hv).mono ?_
  rintro e w5 ⟨D, c, rfl, hown, hS⟩
  have hcv := conv_bytes (c := c) (Reads.of_own hown)
  clear hown
  go_wp2_with fail
  go_ret
  exact ⟨rfl, hS⟩

set_option maxRecDepth 100000 in
set_option maxHeartbeats 1600000 in
theorem signed64_walk (w : World) (a : Nat) (h : a < 18446744073709551616) : Calls Try.prog 156 #[.int .u64 (a : Int), .int .u64 64] w fun e w' => e = .returned (.string (str (intF (s64 a)))) ∧ Step (fun _ => False) w w' := by
  have he : wrap64 (a : Int) = s64 a := by
    unfold wrap64 s64
    split <;> omega
  have hv : -9223372036854775808 ≤ s64 a ∧ s64 a ≤ 9223372036854775807 := by unfold s64; split <;> omega
  obtain ⟨v, hv0⟩ : ∃ v, v = s64 a := ⟨_, rfl⟩
  rw [← hv0] at he hv ⊢
  clear hv0
  go_enter Try.func156, Try.ntmps156
  go_wp2_with fail
  refine (rint_walk _ v hv).mono ?_
  rintro e w5 ⟨D, c, rfl, hown, hS⟩
  have hcv := conv_bytes (c := c) (Reads.of_own hown)
  clear hown
  go_wp2_with fail
  go_ret
  exact ⟨rfl, hS⟩
end Go.Proofs.Ytfemeendkjcffaa
/-! instr: the reference's Put of the instructions of constants. -/
namespace Go.Proofs.Ytfemeendkjcffaa
open Go.RowKit


set_option maxRecDepth 100000 in
set_option maxHeartbeats 1600000 in
theorem rput_7 (w : World) (op : Nat) (a n c : Nat) (A : Option Addr) (r : Rr) (hop : op < 256) (ha : a < 4294967296)
    (HO : Hid (∀ w, Calls Try.prog 24 #[.int .i64 (op : Int)] w fun e w' => e = .returned (.tuple #[rrM r 7, .bool true]) ∧ Step (fun _ => False) w w')) :
    Calls Try.prog 59 #[.agg #[.int .u8 (op : Int), .int .u64 (a : Int), .int .u64 0, .slice A n c]] w fun e w' => e = .returned (.string (str (UInt8.ofNat op :: uintF a))) ∧ Step (fun _ => False) w w' := by
  have hcv : IntKind.i64.wrap (op : Int) = op := IntWalk.i64_in _ (by omega)
  obtain ⟨T, hT⟩ : ∃ T, T = uintF a := ⟨_, rfl⟩
  have HN : Hid (∀ w, Calls Try.prog 155 #[.int .u64 (a : Int) ] w fun e w' => e = .returned (.string (str T)) ∧ Step (fun _ => False) w w') := fun w => by rw [hT]; exact num_walk w a (by omega)
  have hTl : T.length ≤ 10 := by rw [hT]; exact uintL_len 10 a
  rw [← hT]
  clear hT
  have hT1 := str_size T
  have hsz : (str [UInt8.ofNat op]).size = 1 := rfl
  have HC : Hid (∀ (w : World) (g : Nat), w.heap.size = g → (convert 53 9 (.slice (some ⟨g, 0, none⟩) 1 1)).run Try.prog (w.alloc (.cells #[.int .u8 (op : Int)] 5)) = .ok (.string (str [UInt8.ofNat op])) (w.alloc (.cells #[.int .u8 (op : Int)] 5))) := fun w g hg => by
    subst hg
    refine conv_bytes (S := fun k => k = w.heap.size) ?_
    rw [byte_cell op hop]
    exact reads_new w #[.int .u8 (op : Int)] 5 1 1 rfl
  go_enter Try.func59, Try.ntmps59
  go_wp2_with fail
  refine (HO.out _).mono ?_
  rintro e w6 ⟨rfl, hS6⟩
  have HB6 := Lib.hid ((Blk.new w 50 #[.int .u8 (op : Int), .int .u64 (a : Int), .int .u64 0, .slice A n c]).step hS6 id)
  have HS6 := Lib.hid ((Step.refl.alloc _).trans hS6)
  clear hS6
  obtain ⟨X, hX⟩ : ∃ X, X = w.heap.size := ⟨_, rfl⟩
  rw [← hX] at HB6 ⊢
  clear hX
  have hXl := HB6.out.lt
  have y0 := HB6.out.cell 0
  have y1 := HB6.out.cell 1
  simp at y0 y1
  have HCv := HC.out (w6.alloc (.cells #[.int .i64 r.op, .string (str r.name), .int .i64 7, .string (str r.takes), .string (str r.has), .bool r.free] 24)) (w6.heap.size + 1) (by simp)
  simp only [rrM]
  go_wp2_with fail
  refine (HN.out _).mono ?_
  rintro e w7 ⟨rfl, hS7⟩
  have HS7 := Lib.hid (((HS6.out.alloc _).alloc _).trans hS7)
  have happ : str [UInt8.ofNat op] ++ str T = str (UInt8.ofNat op :: T) := str_append _ _
  clear hS7 HS6
  go_wp2_with fail
  go_ret
  exact ⟨rfl, HS7.out⟩

set_option maxRecDepth 100000 in
set_option maxHeartbeats 1600000 in
theorem rput_10 (w : World) (op : Nat) (a n c : Nat) (A : Option Addr) (r : Rr) (hop : op < 256) (ha : a < 4294967296)
    (HO : Hid (∀ w, Calls Try.prog 24 #[.int .i64 (op : Int)] w fun e w' => e = .returned (.tuple #[rrM r 10, .bool true]) ∧ Step (fun _ => False) w w')) :
    Calls Try.prog 59 #[.agg #[.int .u8 (op : Int), .int .u64 (a : Int), .int .u64 0, .slice A n c]] w fun e w' => e = .returned (.string (str (UInt8.ofNat op :: intF (s32 a)))) ∧ Step (fun _ => False) w w' := by
  have hcv : IntKind.i64.wrap (op : Int) = op := IntWalk.i64_in _ (by omega)
  obtain ⟨T, hT⟩ : ∃ T, T = intF (s32 a) := ⟨_, rfl⟩
  have HN : Hid (∀ w, Calls Try.prog 156 #[.int .u64 (a : Int), .int .u64 32 ] w fun e w' => e = .returned (.string (str T)) ∧ Step (fun _ => False) w w') := fun w => by rw [hT]; exact signed32_walk w a ha
  have hTl : T.length ≤ 10 := by rw [hT]; exact intL_len 10 _
  rw [← hT]
  clear hT
  have hT1 := str_size T
  have hsz : (str [UInt8.ofNat op]).size = 1 := rfl
  have HC : Hid (∀ (w : World) (g : Nat), w.heap.size = g → (convert 53 9 (.slice (some ⟨g, 0, none⟩) 1 1)).run Try.prog (w.alloc (.cells #[.int .u8 (op : Int)] 5)) = .ok (.string (str [UInt8.ofNat op])) (w.alloc (.cells #[.int .u8 (op : Int)] 5))) := fun w g hg => by
    subst hg
    refine conv_bytes (S := fun k => k = w.heap.size) ?_
    rw [byte_cell op hop]
    exact reads_new w #[.int .u8 (op : Int)] 5 1 1 rfl
  go_enter Try.func59, Try.ntmps59
  go_wp2_with fail
  refine (HO.out _).mono ?_
  rintro e w6 ⟨rfl, hS6⟩
  have HB6 := Lib.hid ((Blk.new w 50 #[.int .u8 (op : Int), .int .u64 (a : Int), .int .u64 0, .slice A n c]).step hS6 id)
  have HS6 := Lib.hid ((Step.refl.alloc _).trans hS6)
  clear hS6
  obtain ⟨X, hX⟩ : ∃ X, X = w.heap.size := ⟨_, rfl⟩
  rw [← hX] at HB6 ⊢
  clear hX
  have hXl := HB6.out.lt
  have y0 := HB6.out.cell 0
  have y1 := HB6.out.cell 1
  simp at y0 y1
  have HCv := HC.out (w6.alloc (.cells #[.int .i64 r.op, .string (str r.name), .int .i64 10, .string (str r.takes), .string (str r.has), .bool r.free] 24)) (w6.heap.size + 1) (by simp)
  simp only [rrM]
  go_wp2_with fail
  refine (HN.out _).mono ?_
  rintro e w7 ⟨rfl, hS7⟩
  have HS7 := Lib.hid (((HS6.out.alloc _).alloc _).trans hS7)
  have happ : str [UInt8.ofNat op] ++ str T = str (UInt8.ofNat op :: T) := str_append _ _
  clear hS7 HS6
  go_wp2_with fail
  go_ret
  exact ⟨rfl, HS7.out⟩

set_option maxRecDepth 100000 in
set_option maxHeartbeats 1600000 in
theorem rput_11 (w : World) (op : Nat) (a n c : Nat) (A : Option Addr) (r : Rr) (hop : op < 256) (ha : a < 18446744073709551616)
    (HO : Hid (∀ w, Calls Try.prog 24 #[.int .i64 (op : Int)] w fun e w' => e = .returned (.tuple #[rrM r 11, .bool true]) ∧ Step (fun _ => False) w w')) :
    Calls Try.prog 59 #[.agg #[.int .u8 (op : Int), .int .u64 (a : Int), .int .u64 0, .slice A n c]] w fun e w' => e = .returned (.string (str (UInt8.ofNat op :: intF (s64 a)))) ∧ Step (fun _ => False) w w' := by
  have hcv : IntKind.i64.wrap (op : Int) = op := IntWalk.i64_in _ (by omega)
  obtain ⟨T, hT⟩ : ∃ T, T = intF (s64 a) := ⟨_, rfl⟩
  have HN : Hid (∀ w, Calls Try.prog 156 #[.int .u64 (a : Int), .int .u64 64 ] w fun e w' => e = .returned (.string (str T)) ∧ Step (fun _ => False) w w') := fun w => by rw [hT]; exact signed64_walk w a ha
  have hTl : T.length ≤ 10 := by rw [hT]; exact intL_len 10 _
  rw [← hT]
  clear hT
  have hT1 := str_size T
  have hsz : (str [UInt8.ofNat op]).size = 1 := rfl
  have HC : Hid (∀ (w : World) (g : Nat), w.heap.size = g → (convert 53 9 (.slice (some ⟨g, 0, none⟩) 1 1)).run Try.prog (w.alloc (.cells #[.int .u8 (op : Int)] 5)) = .ok (.string (str [UInt8.ofNat op])) (w.alloc (.cells #[.int .u8 (op : Int)] 5))) := fun w g hg => by
    subst hg
    refine conv_bytes (S := fun k => k = w.heap.size) ?_
    rw [byte_cell op hop]
    exact reads_new w #[.int .u8 (op : Int)] 5 1 1 rfl
  go_enter Try.func59, Try.ntmps59
  go_wp2_with fail
  refine (HO.out _).mono ?_
  rintro e w6 ⟨rfl, hS6⟩
  have HB6 := Lib.hid ((Blk.new w 50 #[.int .u8 (op : Int), .int .u64 (a : Int), .int .u64 0, .slice A n c]).step hS6 id)
  have HS6 := Lib.hid ((Step.refl.alloc _).trans hS6)
  clear hS6
  obtain ⟨X, hX⟩ : ∃ X, X = w.heap.size := ⟨_, rfl⟩
  rw [← hX] at HB6 ⊢
  clear hX
  have hXl := HB6.out.lt
  have y0 := HB6.out.cell 0
  have y1 := HB6.out.cell 1
  simp at y0 y1
  have HCv := HC.out (w6.alloc (.cells #[.int .i64 r.op, .string (str r.name), .int .i64 11, .string (str r.takes), .string (str r.has), .bool r.free] 24)) (w6.heap.size + 1) (by simp)
  simp only [rrM]
  go_wp2_with fail
  refine (HN.out _).mono ?_
  rintro e w7 ⟨rfl, hS7⟩
  have HS7 := Lib.hid (((HS6.out.alloc _).alloc _).trans hS7)
  have happ : str [UInt8.ofNat op] ++ str T = str (UInt8.ofNat op :: T) := str_append _ _
  clear hS7 HS6
  go_wp2_with fail
  go_ret
  exact ⟨rfl, HS7.out⟩
end Go.Proofs.Ytfemeendkjcffaa
/-! instr: Put of the instructions of constants. -/
namespace Go.Proofs.Ytfemeendkjcffaa
open Go.RowKit

theorem s32_wrap (a : Nat) (h : a < 4294967296) : wrap32 (a : Int) = s32 a := by
  unfold wrap32 s32
  split <;> omega
theorem s64_wrap (a : Nat) (h : a < 18446744073709551616) : wrap64 (a : Int) = s64 a := by
  unfold wrap64 s64
  split <;> omega

set_option maxRecDepth 100000 in
set_option maxHeartbeats 1600000 in
theorem iput_7 (w : World) (op : Nat) (a n c : Nat) (A : Option Addr) (i : Inf) (hop : op < 256) (ha : a < 4294967296)
    (HR : Hid (∀ w, Calls Try.prog 56 #[.agg #[.int .u8 (op : Int), .int .u64 (a : Int), .int .u64 0, .slice A n c]] w fun e w' => e = .returned (.int .i64 0) ∧ Step (fun _ => False) w w'))
    (HO : Hid (∀ w, Calls Try.prog 25 #[.int .u8 (op : Int)] w fun e w' => e = .returned (infM i 7) ∧ Step (fun _ => False) w w')) :
    Calls Try.prog 55 #[.agg #[.int .u8 (op : Int), .int .u64 (a : Int), .int .u64 0, .slice A n c]] w fun e w' => ∃ D c', e = .returned (.tuple #[.slice D (UInt8.ofNat op :: uintF a).length c', .int .i64 0]) ∧
      w'.ownsRow w.heap.size 5 1 (.slice D (UInt8.ofNat op :: uintF a).length c') (UInt8.ofNat op :: uintF a).length (u8s (UInt8.ofNat op :: uintF a)) ∧ Step (fun _ => False) w w' := by
  have hfd := field_imm i 7
  obtain ⟨T, hT⟩ : ∃ T, T = uintF a := ⟨_, rfl⟩
  have hTl : T.length ≤ 10 := by rw [hT]; exact uintL_len 10 a
  have HT := Lib.hid hT
  rw [← hT]
  clear hT
  go_enter Try.func55, Try.ntmps55
  go_wp2_with fail
  refine (HR.out _).mono ?_
  rintro e w5 ⟨rfl, hS5⟩
  have HB5 := Lib.hid ((Blk.new w 50 #[.int .u8 (op : Int), .int .u64 (a : Int), .int .u64 0, .slice A n c]).step hS5 id)
  have HS5 := Lib.hid ((Step.refl.alloc _).trans hS5)
  clear hS5
  obtain ⟨X, hX⟩ : ∃ X, X = w.heap.size := ⟨_, rfl⟩
  rw [← hX] at HB5 ⊢
  have hXl := HB5.out.lt
  have x0 := HB5.out.cell 0
  simp at x0
  have HG : Hid (X < w5.heap.size) := hXl
  clear hX
  go_wp2_with fail
  refine (HO.out _).mono ?_
  rintro e w6 ⟨rfl, hS6⟩
  have HB6 := Lib.hid ((HB5.out.alloc _).step hS6 id)
  have HO6 := Lib.hid (own_step (World.ownsRow_lit (base := w.heap.size) (e := 5) (size := 1) w5 #[Value.int .u8 (op : Int)] 1 HS5.out.size (by decide) rfl) hS6 (fun _ _ => id))
  have HS6 := Lib.hid ((HS5.out.alloc _).trans hS6)
  clear hS6 x0 HB5 HS5
  replace hXl := HB6.out.lt
  have y0 := HB6.out.cell 0
  have y1 := HB6.out.cell 1
  simp at y0 y1
  obtain ⟨G, hG⟩ : ∃ G, G = w5.heap.size := ⟨_, rfl⟩
  rw [← hG] at HO6 HG ⊢
  clear hG
  simp only [infM]
  go_wp2_with fail
  refine (uint_walk _ a (by omega)).mono ?_
  rintro e w7 ⟨D7, c7, rfl, hown7, hS7⟩
  rw [← HT.out] at hown7 ⊢
  have HO7 := Lib.hid (own_step HO6.out hS7 (fun _ _ => id))
  have HR7 := Lib.hid (Reads.of_own hown7)
  have HB7 := Lib.hid (HB6.out.step hS7 id)
  have HS7 := Lib.hid (HS6.out.trans hS7)
  clear hS7 HS6 HO6 hown7
  have hsz := HS7.out.size
  have hm : 1 + T.length ≤ maxLen := by unfold maxLen; omega
  have hone : ∀ u ∈ u8s T, u.oneCell' = true := u8s_one T
  go_wp2_with (at_builtin; refine wpList_append_src _ rfl _ _ (by rfl) E_u8 (by rfl) HO7.out (by rfl) HR7.out hone hm (by omega) hsz ?_; intro D' c' w8 hown8 hgrow hat; have v0 := (HB7.out.grown hgrow (fun hk => absurd (Option.some.inj (show some G = some X from hk)) (by have := HG.out; omega))).cell 0; simp at v0)
  have HS8 := Lib.hid (grow_step HS7.out hgrow HO7.out (Nat.le_refl _))
  have hcs : #[Value.int .u8 (op : Int)].toList ++ u8s T = u8s (UInt8.ofNat op :: T) := by rw [show UInt8.ofNat op :: T = [UInt8.ofNat op] ++ T from rfl, u8s_append, byte_cell op hop]
  have hln : 1 + T.length = (UInt8.ofNat op :: T).length := by simp; omega
  rw [hcs, hln] at hown8
  refine (HO.out _).mono ?_
  rintro e w9 ⟨rfl, hS9⟩
  have HO9 := Lib.hid (own_step hown8 hS9 (fun _ _ => id))
  have HS9 := Lib.hid (HS8.out.trans hS9)
  clear hS9 HS8 hown8
  simp only [infM]
  go_wp2_with fail
  go_ret2
  first
    | exact ⟨D', c', rfl, HO9.out, HS9.out⟩
    | (refine ⟨D', c', ?_, HO9.out, HS9.out⟩; show _ = Ending.returned (.tuple #[.slice D' (UInt8.ofNat op :: T).length c', .int .i64 0]); rw [← hln]; rfl)

set_option maxRecDepth 100000 in
set_option maxHeartbeats 1600000 in
theorem iput_10 (w : World) (op : Nat) (a n c : Nat) (A : Option Addr) (i : Inf) (hop : op < 256) (ha : a < 4294967296)
    (HR : Hid (∀ w, Calls Try.prog 56 #[.agg #[.int .u8 (op : Int), .int .u64 (a : Int), .int .u64 0, .slice A n c]] w fun e w' => e = .returned (.int .i64 0) ∧ Step (fun _ => False) w w'))
    (HO : Hid (∀ w, Calls Try.prog 25 #[.int .u8 (op : Int)] w fun e w' => e = .returned (infM i 10) ∧ Step (fun _ => False) w w')) :
    Calls Try.prog 55 #[.agg #[.int .u8 (op : Int), .int .u64 (a : Int), .int .u64 0, .slice A n c]] w fun e w' => ∃ D c', e = .returned (.tuple #[.slice D (UInt8.ofNat op :: intF (s32 a)).length c', .int .i64 0]) ∧
      w'.ownsRow w.heap.size 5 1 (.slice D (UInt8.ofNat op :: intF (s32 a)).length c') (UInt8.ofNat op :: intF (s32 a)).length (u8s (UInt8.ofNat op :: intF (s32 a))) ∧ Step (fun _ => False) w w' := by
  have hfd := field_imm i 10
  obtain ⟨T, hT⟩ : ∃ T, T = intF (s32 a) := ⟨_, rfl⟩
  have hTl : T.length ≤ 10 := by rw [hT]; exact intL_len 10 _
  have HT := Lib.hid hT
  rw [← hT]
  clear hT
  have hw := s32_wrap a ha
  have hvb : -9223372036854775808 ≤ s32 a ∧ s32 a ≤ 9223372036854775807 := by unfold s32; split <;> omega
  obtain ⟨v, hv⟩ : ∃ v, v = s32 a := ⟨_, rfl⟩
  rw [← hv] at hw HT hvb
  clear hv
  go_enter Try.func55, Try.ntmps55
  go_wp2_with fail
  refine (HR.out _).mono ?_
  rintro e w5 ⟨rfl, hS5⟩
  have HB5 := Lib.hid ((Blk.new w 50 #[.int .u8 (op : Int), .int .u64 (a : Int), .int .u64 0, .slice A n c]).step hS5 id)
  have HS5 := Lib.hid ((Step.refl.alloc _).trans hS5)
  clear hS5
  obtain ⟨X, hX⟩ : ∃ X, X = w.heap.size := ⟨_, rfl⟩
  rw [← hX] at HB5 ⊢
  have hXl := HB5.out.lt
  have x0 := HB5.out.cell 0
  simp at x0
  have HG : Hid (X < w5.heap.size) := hXl
  clear hX
  go_wp2_with fail
  refine (HO.out _).mono ?_
  rintro e w6 ⟨rfl, hS6⟩
  have HB6 := Lib.hid ((HB5.out.alloc _).step hS6 id)
  have HO6 := Lib.hid (own_step (World.ownsRow_lit (base := w.heap.size) (e := 5) (size := 1) w5 #[Value.int .u8 (op : Int)] 1 HS5.out.size (by decide) rfl) hS6 (fun _ _ => id))
  have HS6 := Lib.hid ((HS5.out.alloc _).trans hS6)
  clear hS6 x0 HB5 HS5
  replace hXl := HB6.out.lt
  have y0 := HB6.out.cell 0
  have y1 := HB6.out.cell 1
  simp at y0 y1
  obtain ⟨G, hG⟩ : ∃ G, G = w5.heap.size := ⟨_, rfl⟩
  rw [← hG] at HO6 HG ⊢
  clear hG
  simp only [infM]
  go_wp2_with fail
  refine (int_walk _ v hvb).mono ?_
  rintro e w7 ⟨D7, c7, rfl, hown7, hS7⟩
  rw [← HT.out] at hown7 ⊢
  have HO7 := Lib.hid (own_step HO6.out hS7 (fun _ _ => id))
  have HR7 := Lib.hid (Reads.of_own hown7)
  have HS7 := Lib.hid (HS6.out.trans hS7)
  clear hS7 HS6 HO6 hown7
  have hsz := HS7.out.size
  have hm : 1 + T.length ≤ maxLen := by unfold maxLen; omega
  have hone : ∀ u ∈ u8s T, u.oneCell' = true := u8s_one T
  go_wp2_with (at_builtin; refine wpList_append_src _ rfl _ _ (by rfl) E_u8 (by rfl) HO7.out (by rfl) HR7.out hone hm (by omega) hsz ?_; intro D' c' w8 hown8 hgrow hat)
  have HS8 := Lib.hid (grow_step HS7.out hgrow HO7.out (Nat.le_refl _))
  have hcs : #[Value.int .u8 (op : Int)].toList ++ u8s T = u8s (UInt8.ofNat op :: T) := by rw [show UInt8.ofNat op :: T = [UInt8.ofNat op] ++ T from rfl, u8s_append, byte_cell op hop]
  have hln : 1 + T.length = (UInt8.ofNat op :: T).length := by simp; omega
  rw [hcs, hln] at hown8
  go_ret2
  first
    | exact ⟨D', c', rfl, hown8, HS8.out⟩
    | (refine ⟨D', c', ?_, hown8, HS8.out⟩; show _ = Ending.returned (.tuple #[.slice D' (UInt8.ofNat op :: T).length c', .int .i64 0]); rw [← hln]; rfl)

set_option maxRecDepth 100000 in
set_option maxHeartbeats 1600000 in
theorem iput_11 (w : World) (op : Nat) (a n c : Nat) (A : Option Addr) (i : Inf) (hop : op < 256) (ha : a < 18446744073709551616)
    (HR : Hid (∀ w, Calls Try.prog 56 #[.agg #[.int .u8 (op : Int), .int .u64 (a : Int), .int .u64 0, .slice A n c]] w fun e w' => e = .returned (.int .i64 0) ∧ Step (fun _ => False) w w'))
    (HO : Hid (∀ w, Calls Try.prog 25 #[.int .u8 (op : Int)] w fun e w' => e = .returned (infM i 11) ∧ Step (fun _ => False) w w')) :
    Calls Try.prog 55 #[.agg #[.int .u8 (op : Int), .int .u64 (a : Int), .int .u64 0, .slice A n c]] w fun e w' => ∃ D c', e = .returned (.tuple #[.slice D (UInt8.ofNat op :: intF (s64 a)).length c', .int .i64 0]) ∧
      w'.ownsRow w.heap.size 5 1 (.slice D (UInt8.ofNat op :: intF (s64 a)).length c') (UInt8.ofNat op :: intF (s64 a)).length (u8s (UInt8.ofNat op :: intF (s64 a))) ∧ Step (fun _ => False) w w' := by
  have hfd := field_imm i 11
  obtain ⟨T, hT⟩ : ∃ T, T = intF (s64 a) := ⟨_, rfl⟩
  have hTl : T.length ≤ 10 := by rw [hT]; exact intL_len 10 _
  have HT := Lib.hid hT
  rw [← hT]
  clear hT
  have hw := s64_wrap a ha
  have hvb : -9223372036854775808 ≤ s64 a ∧ s64 a ≤ 9223372036854775807 := by unfold s64; split <;> omega
  obtain ⟨v, hv⟩ : ∃ v, v = s64 a := ⟨_, rfl⟩
  rw [← hv] at hw HT hvb
  clear hv
  go_enter Try.func55, Try.ntmps55
  go_wp2_with fail
  refine (HR.out _).mono ?_
  rintro e w5 ⟨rfl, hS5⟩
  have HB5 := Lib.hid ((Blk.new w 50 #[.int .u8 (op : Int), .int .u64 (a : Int), .int .u64 0, .slice A n c]).step hS5 id)
  have HS5 := Lib.hid ((Step.refl.alloc _).trans hS5)
  clear hS5
  obtain ⟨X, hX⟩ : ∃ X, X = w.heap.size := ⟨_, rfl⟩
  rw [← hX] at HB5 ⊢
  have hXl := HB5.out.lt
  have x0 := HB5.out.cell 0
  simp at x0
  have HG : Hid (X < w5.heap.size) := hXl
  clear hX
  go_wp2_with fail
  refine (HO.out _).mono ?_
  rintro e w6 ⟨rfl, hS6⟩
  have HB6 := Lib.hid ((HB5.out.alloc _).step hS6 id)
  have HO6 := Lib.hid (own_step (World.ownsRow_lit (base := w.heap.size) (e := 5) (size := 1) w5 #[Value.int .u8 (op : Int)] 1 HS5.out.size (by decide) rfl) hS6 (fun _ _ => id))
  have HS6 := Lib.hid ((HS5.out.alloc _).trans hS6)
  clear hS6 x0 HB5 HS5
  replace hXl := HB6.out.lt
  have y0 := HB6.out.cell 0
  have y1 := HB6.out.cell 1
  simp at y0 y1
  obtain ⟨G, hG⟩ : ∃ G, G = w5.heap.size := ⟨_, rfl⟩
  rw [← hG] at HO6 HG ⊢
  clear hG
  simp only [infM]
  go_wp2_with fail
  refine (int_walk _ v hvb).mono ?_
  rintro e w7 ⟨D7, c7, rfl, hown7, hS7⟩
  rw [← HT.out] at hown7 ⊢
  have HO7 := Lib.hid (own_step HO6.out hS7 (fun _ _ => id))
  have HR7 := Lib.hid (Reads.of_own hown7)
  have HS7 := Lib.hid (HS6.out.trans hS7)
  clear hS7 HS6 HO6 hown7
  have hsz := HS7.out.size
  have hm : 1 + T.length ≤ maxLen := by unfold maxLen; omega
  have hone : ∀ u ∈ u8s T, u.oneCell' = true := u8s_one T
  go_wp2_with (at_builtin; refine wpList_append_src _ rfl _ _ (by rfl) E_u8 (by rfl) HO7.out (by rfl) HR7.out hone hm (by omega) hsz ?_; intro D' c' w8 hown8 hgrow hat)
  have HS8 := Lib.hid (grow_step HS7.out hgrow HO7.out (Nat.le_refl _))
  have hcs : #[Value.int .u8 (op : Int)].toList ++ u8s T = u8s (UInt8.ofNat op :: T) := by rw [show UInt8.ofNat op :: T = [UInt8.ofNat op] ++ T from rfl, u8s_append, byte_cell op hop]
  have hln : 1 + T.length = (UInt8.ofNat op :: T).length := by simp; omega
  rw [hcs, hln] at hown8
  go_ret2
  first
    | exact ⟨D', c', rfl, hown8, HS8.out⟩
    | (refine ⟨D', c', ?_, hown8, HS8.out⟩; show _ = Ending.returned (.tuple #[.slice D' (UInt8.ofNat op :: T).length c', .int .i64 0]); rw [← hln]; rfl)
end Go.Proofs.Ytfemeendkjcffaa
/-! consts: Put, and the reference's. -/
namespace Go.Proofs.Ytfemeendkjcffaa
open Go.RowKit

theorem tab35 : chkF 35 = 0 ∧ (infF 35).imm = 7 ∧ (ofR 35).2 = true ∧ (ofR 35).1.imm = 7 := by refine ⟨?_, ?_, ?_, ?_⟩ <;> kernel_rfl
theorem tab65 : chkF 65 = 0 ∧ (infF 65).imm = 10 ∧ (ofR 65).2 = true ∧ (ofR 65).1.imm = 10 := by refine ⟨?_, ?_, ?_, ?_⟩ <;> kernel_rfl
theorem tab66 : chkF 66 = 0 ∧ (infF 66).imm = 11 ∧ (ofR 66).2 = true ∧ (ofR 66).1.imm = 11 := by refine ⟨?_, ?_, ?_, ?_⟩ <;> kernel_rfl
/-- Which may be constants. -/
def ConstOk (op a : Nat) : Prop := op = 35 ∧ a < 4294967296 ∨ op = 65 ∧ a < 4294967296 ∨ op = 66
theorem crt_zero {op a b n : Nat} (h : crtF op a b n = 0) : b = 0 ∧ n = 0 ∧ ConstOk op a := by
  rw [crtF] at h
  split at h
  · rename_i hr
    split at h
    · rename_i ho
      have key : ∀ m, m = 7 ∨ m = 10 → immF m a b n = 0 → b = 0 ∧ n = 0 ∧ a < 4294967296 := fun m hm h0 => by
        rw [immF] at h0
        split at h0
        · rw [if_neg (by omega)] at h0; cases h0
        split at h0
        · cases h0
        rw [if_neg (by omega), if_neg (by omega), if_neg (by omega)] at h0
        split at h0
        · omega
        · cases h0
      have key2 : immF 11 a b n = 0 → b = 0 ∧ n = 0 := fun h0 => by
        rw [immF] at h0
        split at h0
        · rw [if_neg (by omega)] at h0; cases h0
        split at h0
        · cases h0
        omega
      rcases ho with rfl | rfl | rfl
      · rw [rgtF, tab35.1, if_pos rfl, tab35.2.1] at hr
        obtain ⟨h1, h2, h3⟩ := key 7 (by omega) hr
        exact ⟨h1, h2, .inl ⟨rfl, h3⟩⟩
      · rw [rgtF, tab65.1, if_pos rfl, tab65.2.1] at hr
        obtain ⟨h1, h2, h3⟩ := key 10 (by omega) hr
        exact ⟨h1, h2, .inr (.inl ⟨rfl, h3⟩)⟩
      · rw [rgtF, tab66.1, if_pos rfl, tab66.2.1] at hr
        obtain ⟨h1, h2⟩ := key2 hr
        exact ⟨h1, h2, .inr (.inr rfl)⟩
    · cases h
  · rename_i hr; exact absurd h hr
theorem rgt_ok {op a : Nat} (h : ConstOk op a) : rgtF op a 0 0 = 0 := by
  rcases h with ⟨rfl, h⟩ | ⟨rfl, h⟩ | rfl
  · rw [rgtF, tab35.1, if_pos rfl, tab35.2.1, immF, if_neg (by omega), if_neg (by omega), if_neg (by omega), if_neg (by omega), if_neg (by omega), if_pos ⟨h, by decide⟩]
  · rw [rgtF, tab65.1, if_pos rfl, tab65.2.1, immF, if_neg (by omega), if_neg (by omega), if_neg (by omega), if_neg (by omega), if_neg (by omega), if_pos ⟨h, by decide⟩]
  · rw [rgtF, tab66.1, if_pos rfl, tab66.2.1, immF, if_neg (by omega), if_neg (by omega), if_neg (by omega), if_neg (by omega), if_pos rfl]
theorem crt_ok {op a : Nat} (h : ConstOk op a) : crtF op a 0 0 = 0 := by
  rw [crtF, rgt_ok h, if_pos rfl, if_pos]
  rcases h with ⟨rfl, h⟩ | ⟨rfl, h⟩ | rfl <;> simp
/-- The bytes behind the first one. -/
def cT (op a : Nat) : List UInt8 := if op = 35 then uintF a else if op = 65 then intF (s32 a) else intF (s64 a)
theorem cT_len (op a : Nat) : (cT op a).length ≤ 10 := by
  unfold cT
  split
  · exact uintL_len 10 a
  split
  · exact intL_len 10 _
  · exact intL_len 10 _

theorem iput_const (w : World) (op a c : Nat) (A : Option Addr) (h : ConstOk op a) (ha : a < 18446744073709551616) :
    Calls Try.prog 55 #[.agg #[.int .u8 (op : Int), .int .u64 (a : Int), .int .u64 0, .slice A 0 c]] w fun e w' => ∃ D c', e = .returned (.tuple #[.slice D (UInt8.ofNat op :: cT op a).length c', .int .i64 0]) ∧
      w'.ownsRow w.heap.size 5 1 (.slice D (UInt8.ofNat op :: cT op a).length c') (UInt8.ofNat op :: cT op a).length (u8s (UInt8.ofNat op :: cT op a)) ∧ Step (fun _ => False) w w' := by
  have hop : op < 256 := by rcases h with ⟨rfl, h⟩ | ⟨rfl, h⟩ | rfl <;> decide
  have HR : Hid (∀ w, Calls Try.prog 56 #[.agg #[.int .u8 (op : Int), .int .u64 (a : Int), .int .u64 0, .slice A 0 c]] w fun e w' => e = .returned (.int .i64 0) ∧ Step (fun _ => False) w w') := fun w => by
    have := right_walk w op a 0 0 c A hop
    rw [rgt_ok h] at this
    exact this
  have HO : Hid (∀ w, Calls Try.prog 25 #[.int .u8 (op : Int)] w fun e w' => e = .returned (infM (infF op) ((infF op).imm : Int)) ∧ Step (fun _ => False) w w') := fun w => of_walk w op hop
  rcases h with ⟨rfl, h⟩ | ⟨rfl, h⟩ | rfl
  · rw [tab35.2.1] at HO
    exact iput_7 w 35 a 0 c A (infF 35) hop h HR HO
  · rw [tab65.2.1] at HO
    exact iput_10 w 65 a 0 c A (infF 65) hop h HR HO
  · rw [tab66.2.1] at HO
    exact iput_11 w 66 a 0 c A (infF 66) hop ha HR HO

theorem rput_const (w : World) (op a c : Nat) (A : Option Addr) (h : ConstOk op a) (ha : a < 18446744073709551616) :
    Calls Try.prog 59 #[.agg #[.int .u8 (op : Int), .int .u64 (a : Int), .int .u64 0, .slice A 0 c]] w fun e w' => e = .returned (.string (str (UInt8.ofNat op :: cT op a))) ∧ Step (fun _ => False) w w' := by
  have hop : op < 256 := by rcases h with ⟨rfl, h⟩ | ⟨rfl, h⟩ | rfl <;> decide
  have HO : Hid (∀ w, Calls Try.prog 24 #[.int .i64 (op : Int)] w fun e w' => e = .returned (.tuple #[rrM (ofR op).1 ((ofR op).1.imm : Int), .bool (ofR op).2]) ∧ Step (fun _ => False) w w') := fun w => ofref_walk w op (by omega)
  rcases h with ⟨rfl, h⟩ | ⟨rfl, h⟩ | rfl
  · rw [show ofR ((35 : Nat) : Int) = ofR 35 from rfl, tab35.2.2.1, tab35.2.2.2] at HO
    exact rput_7 w 35 a 0 c A (ofR 35).1 hop h HO
  · rw [show ofR ((65 : Nat) : Int) = ofR 65 from rfl, tab65.2.2.1, tab65.2.2.2] at HO
    exact rput_10 w 65 a 0 c A (ofR 65).1 hop h HO
  · rw [show ofR ((66 : Nat) : Int) = ofR 66 from rfl, tab66.2.2.1, tab66.2.2.2] at HO
    exact rput_11 w 66 a 0 c A (ofR 66).1 hop ha HO

def cputL (op a : Nat) : List UInt8 := UInt8.ofNat op :: cT op a ++ [11]

set_option maxRecDepth 100000 in
set_option maxHeartbeats 1600000 in
theorem crput_walk (w : World) (op a c : Nat) (A : Option Addr) (h : ConstOk op a) (ha : a < 18446744073709551616) :
    Calls Try.prog 40 #[.agg #[.int .u8 (op : Int), .int .u64 (a : Int), .int .u64 0, .slice A 0 c]] w fun e w' => e = .returned (.string (str (cputL op a))) ∧ Step (fun _ => False) w w' := by
  have HP : Hid (∀ w, Calls Try.prog 59 #[.agg #[.int .u8 (op : Int), .int .u64 (a : Int), .int .u64 0, .slice A 0 c]] w fun e w' => e = .returned (.string (str (UInt8.ofNat op :: cT op a))) ∧ Step (fun _ => False) w w') := fun w => rput_const w op a c A h ha
  have hl : (UInt8.ofNat op :: cT op a).length ≤ 11 := by have := cT_len op a; simp; omega
  rw [show cputL op a = (UInt8.ofNat op :: cT op a) ++ [11] from rfl]
  obtain ⟨T, hT⟩ : ∃ T, T = UInt8.ofNat op :: cT op a := ⟨_, rfl⟩
  rw [← hT] at HP hl ⊢
  have hsz := str_size T
  have happ : str T ++ (⟨#[11]⟩ : ByteArray) = str (T ++ [11]) := str_append T [11]
  clear hT h ha
  go_enter Try.func40, Try.ntmps40
  go_wp2_with fail
  refine (HP.out _).mono ?_
  rintro e w5 ⟨rfl, hS5⟩
  have HS5 := Lib.hid ((Step.refl.alloc _).trans hS5)
  clear hS5
  go_wp2_with fail
  go_ret
  exact ⟨rfl, HS5.out⟩

set_option maxRecDepth 100000 in
set_option maxHeartbeats 1600000 in
theorem cput_ok (w : World) (op a c : Nat) (A : Option Addr) (h : ConstOk op a) (ha : a < 18446744073709551616) :
    Calls Try.prog 36 #[.agg #[.int .u8 (op : Int), .int .u64 (a : Int), .int .u64 0, .slice A 0 c]] w fun e w' => ∃ D c', e = .returned (.tuple #[.slice D (cputL op a).length c', .int .i64 0]) ∧
      w'.ownsRow w.heap.size 5 1 (.slice D (cputL op a).length c') (cputL op a).length (u8s (cputL op a)) ∧ Step (fun _ => False) w w' := by
  have hop : op < 256 := by rcases h with ⟨rfl, h⟩ | ⟨rfl, h⟩ | rfl <;> decide
  have HP : Hid (∀ w, Calls Try.prog 55 #[.agg #[.int .u8 (op : Int), .int .u64 (a : Int), .int .u64 0, .slice A 0 c]] w fun e w' => ∃ D c', e = .returned (.tuple #[.slice D (UInt8.ofNat op :: cT op a).length c', .int .i64 0]) ∧
      w'.ownsRow w.heap.size 5 1 (.slice D (UInt8.ofNat op :: cT op a).length c') (UInt8.ofNat op :: cT op a).length (u8s (UInt8.ofNat op :: cT op a)) ∧ Step (fun _ => False) w w') := fun w => iput_const w op a c A h ha
  have HR : Hid (∀ w, Calls Try.prog 38 #[.agg #[.int .u8 (op : Int), .int .u64 (a : Int), .int .u64 0, .slice A 0 c]] w fun e w' => e = .returned (.int .i64 0) ∧ Step (fun _ => False) w w') := fun w => by
    have := cright_walk w op a 0 0 c A hop
    rw [crt_ok h] at this
    exact this
  have hl : (UInt8.ofNat op :: cT op a).length ≤ 11 := by have := cT_len op a; simp; omega
  rw [show cputL op a = (UInt8.ofNat op :: cT op a) ++ [11] from rfl]
  obtain ⟨T, hT⟩ : ∃ T, T = UInt8.ofNat op :: cT op a := ⟨_, rfl⟩
  rw [← hT] at HP hl ⊢
  clear hT h ha
  go_enter Try.func36, Try.ntmps36
  go_wp2_with fail
  refine (HR.out _).mono ?_
  rintro e w5 ⟨rfl, hS5⟩
  have HB5 := Lib.hid ((Blk.new w 50 #[.int .u8 (op : Int), .int .u64 (a : Int), .int .u64 0, .slice A 0 c]).step hS5 id)
  have HS5 := Lib.hid ((Step.refl.alloc _).trans hS5)
  clear hS5
  obtain ⟨X, hX⟩ : ∃ X, X = w.heap.size := ⟨_, rfl⟩
  rw [← hX] at HB5 ⊢
  clear hX
  have x0 := HB5.out.cell 0
  have x1 := HB5.out.cell 1
  have x2 := HB5.out.cell 2
  have x3 := HB5.out.cell 3
  simp at x0 x1 x2 x3
  go_wp2_with fail
  refine (HP.out _).mono ?_
  rintro e w7 ⟨D7, c7, rfl, hown7, hS7⟩
  have HO7 := Lib.hid (own_base hown7 (fun k hk => Nat.le_trans HS5.out.size (own_ge hown7 k hk)))
  have HS7 := Lib.hid (HS5.out.trans hS7)
  clear hS7 HS5 hown7 x0 x1 x2 x3
  have hsz := HS7.out.size
  have hm : T.length + 1 ≤ maxLen := by unfold maxLen; omega
  have hone : ∀ u ∈ #[Value.int .u8 11].toList, u.oneCell' = true := by simp [Value.oneCell']
  go_wp2_with (at_builtin; refine wpList_append_src _ rfl _ _ (by rfl) E_u8 (by rfl) (HO7.out.alloc _) (by rfl) (reads_new _ #[Value.int .u8 11] 5 1 1 rfl) hone hm (by omega) (by simp; omega) ?_; intro D' c' w8 hown8 hgrow hat)
  have HS8 := Lib.hid (grow_step (HS7.out.alloc _) hgrow (HO7.out.alloc _) (Nat.le_refl _))
  have hcs : u8s T ++ #[Value.int .u8 11].toList = u8s (T ++ [11]) := by rw [u8s_append]; rfl
  have hln : T.length + 1 = (T ++ [11]).length := by simp
  rw [hcs] at hown8
  go_ret2
  exact ⟨D', c', rfl, hown8, HS8.out⟩

set_option maxRecDepth 100000 in
set_option maxHeartbeats 1600000 in
theorem cput_err (w : World) (op a b n c : Nat) (A : Option Addr) (hop : op < 256) (h : ¬ crtF op a b n = 0) :
    Calls Try.prog 36 #[insV op a b A n c] w fun e w' => e = .returned (.tuple #[.slice none 0 0, .int .i64 (crtF op a b n : Nat)]) ∧ Step (fun _ => False) w w' := by
  have HR : Hid (∀ w, Calls Try.prog 38 #[insV op a b A n c] w fun e w' => e = .returned (.int .i64 (crtF op a b n : Nat)) ∧ Step (fun _ => False) w w') := fun w => cright_walk w op a b n c A hop
  obtain ⟨r, hr⟩ : ∃ r : Int, r = (crtF op a b n : Nat) := ⟨_, rfl⟩
  have hne : ¬ r = 0 := by omega
  have hnb : (r != 0) = true := bne_iff_ne.2 hne
  rw [← hr] at HR ⊢
  simp only [insV] at HR ⊢
  clear hr h
  go_enter Try.func36, Try.ntmps36
  go_wp2_with fail
  refine (HR.out _).mono ?_
  rintro e w5 ⟨rfl, hS5⟩
  have HS5 := Lib.hid ((Step.refl.alloc _).trans hS5)
  clear hS5
  go_wp2_with fail
  go_ret2
  exact ⟨rfl, HS5.out⟩
end Go.Proofs.Ytfemeendkjcffaa
