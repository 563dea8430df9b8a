/-
  instr: Put of the instructions of constants.
-/
import Derived.Test.YtfemeendkjcffaaPuB
set_option linter.unusedVariables false
set_option linter.unusedSimpArgs false
namespace Go.Proofs.Ytfemeendkjcffaa
open Go.RowKit

theorem s32_wrap (a : Nat) (h : a < 4294967296) : wrap32 (a : Int) = s32 a := by
  unfold wrap32 s32
  split <;> omega
theorem s64_wrap (a : Nat) (h : a < 18446744073709551616) : wrap64 (a : Int) = s64 a := by
  unfold wrap64 s64
  split <;> omega

set_option maxRecDepth 100000 in
set_option maxHeartbeats 1600000 in
theorem iput_7 (w : World) (op : Nat) (a n c : Nat) (A : Option Addr) (i : Inf) (hop : op < 256) (ha : a < 4294967296)
    (HR : Hid (∀ w, Calls Try.prog 56 #[.agg #[.int .u8 (op : Int), .int .u64 (a : Int), .int .u64 0, .slice A n c]] w fun e w' => e = .returned (.int .i64 0) ∧ Step (fun _ => False) w w'))
    (HO : Hid (∀ w, Calls Try.prog 25 #[.int .u8 (op : Int)] w fun e w' => e = .returned (infM i 7) ∧ Step (fun _ => False) w w')) :
    Calls Try.prog 55 #[.agg #[.int .u8 (op : Int), .int .u64 (a : Int), .int .u64 0, .slice A n c]] w fun e w' => ∃ D c', e = .returned (.tuple #[.slice D (UInt8.ofNat op :: uintF a).length c', .int .i64 0]) ∧
      w'.ownsRow w.heap.size 5 1 (.slice D (UInt8.ofNat op :: uintF a).length c') (UInt8.ofNat op :: uintF a).length (u8s (UInt8.ofNat op :: uintF a)) ∧ Step (fun _ => False) w w' := by
  have hfd := field_imm i 7
  obtain ⟨T, hT⟩ : ∃ T, T = uintF a := ⟨_, rfl⟩
  have hTl : T.length ≤ 10 := by rw [hT]; exact uintL_len 10 a
  have HT := Lib.hid hT
  rw [← hT]
  clear hT
  go_enter Try.func55, Try.ntmps55
  go_wp2_with fail
  refine (HR.out _).mono ?_
  rintro e w5 ⟨rfl, hS5⟩
  have HB5 := Lib.hid ((Blk.new w 50 #[.int .u8 (op : Int), .int .u64 (a : Int), .int .u64 0, .slice A n c]).step hS5 id)
  have HS5 := Lib.hid ((Step.refl.alloc _).trans hS5)
  clear hS5
  obtain ⟨X, hX⟩ : ∃ X, X = w.heap.size := ⟨_, rfl⟩
  rw [← hX] at HB5 ⊢
  have hXl := HB5.out.lt
  have x0 := HB5.out.cell 0
  simp at x0
  have HG : Hid (X < w5.heap.size) := hXl
  clear hX
  go_wp2_with fail
  refine (HO.out _).mono ?_
  rintro e w6 ⟨rfl, hS6⟩
  have HB6 := Lib.hid ((HB5.out.alloc _).step hS6 id)
  have HO6 := Lib.hid (own_step (World.ownsRow_lit (base := w.heap.size) (e := 5) (size := 1) w5 #[Value.int .u8 (op : Int)] 1 HS5.out.size (by decide) rfl) hS6 (fun _ _ => id))
  have HS6 := Lib.hid ((HS5.out.alloc _).trans hS6)
  clear hS6 x0 HB5 HS5
  replace hXl := HB6.out.lt
  have y0 := HB6.out.cell 0
  have y1 := HB6.out.cell 1
  simp at y0 y1
  obtain ⟨G, hG⟩ : ∃ G, G = w5.heap.size := ⟨_, rfl⟩
  rw [← hG] at HO6 HG ⊢
  clear hG
  simp only [infM]
  go_wp2_with fail
  refine (uint_walk _ a (by omega)).mono ?_
  rintro e w7 ⟨D7, c7, rfl, hown7, hS7⟩
  rw [← HT.out] at hown7 ⊢
  have HO7 := Lib.hid (own_step HO6.out hS7 (fun _ _ => id))
  have HR7 := Lib.hid (Reads.of_own hown7)
  have HB7 := Lib.hid (HB6.out.step hS7 id)
  have HS7 := Lib.hid (HS6.out.trans hS7)
  clear hS7 HS6 HO6 hown7
  have hsz := HS7.out.size
  have hm : 1 + T.length ≤ maxLen := by unfold maxLen; omega
  have hone : ∀ u ∈ u8s T, u.oneCell' = true := u8s_one T
  go_wp2_with (at_builtin; refine wpList_append_src _ rfl _ _ (by rfl) E_u8 (by rfl) HO7.out (by rfl) HR7.out hone hm (by omega) hsz ?_; intro D' c' w8 hown8 hgrow hat; have v0 := (HB7.out.grown hgrow (fun hk => absurd (Option.some.inj (show some G = some X from hk)) (by have := HG.out; omega))).cell 0; simp at v0)
  have HS8 := Lib.hid (grow_step HS7.out hgrow HO7.out (Nat.le_refl _))
  have hcs : #[Value.int .u8 (op : Int)].toList ++ u8s T = u8s (UInt8.ofNat op :: T) := by rw [show UInt8.ofNat op :: T = [UInt8.ofNat op] ++ T from rfl, u8s_append, byte_cell op hop]
  have hln : 1 + T.length = (UInt8.ofNat op :: T).length := by simp; omega
  rw [hcs, hln] at hown8
  refine (HO.out _).mono ?_
  rintro e w9 ⟨rfl, hS9⟩
  have HO9 := Lib.hid (own_step hown8 hS9 (fun _ _ => id))
  have HS9 := Lib.hid (HS8.out.trans hS9)
  clear hS9 HS8 hown8
  simp only [infM]
  go_wp2_with fail
  go_ret2
  first
    | exact ⟨D', c', rfl, HO9.out, HS9.out⟩
    | (refine ⟨D', c', ?_, HO9.out, HS9.out⟩; show _ = Ending.returned (.tuple #[.slice D' (UInt8.ofNat op :: T).length c', .int .i64 0]); rw [← hln]; rfl)

set_option maxRecDepth 100000 in
set_option maxHeartbeats 1600000 in
theorem iput_10 (w : World) (op : Nat) (a n c : Nat) (A : Option Addr) (i : Inf) (hop : op < 256) (ha : a < 4294967296)
    (HR : Hid (∀ w, Calls Try.prog 56 #[.agg #[.int .u8 (op : Int), .int .u64 (a : Int), .int .u64 0, .slice A n c]] w fun e w' => e = .returned (.int .i64 0) ∧ Step (fun _ => False) w w'))
    (HO : Hid (∀ w, Calls Try.prog 25 #[.int .u8 (op : Int)] w fun e w' => e = .returned (infM i 10) ∧ Step (fun _ => False) w w')) :
    Calls Try.prog 55 #[.agg #[.int .u8 (op : Int), .int .u64 (a : Int), .int .u64 0, .slice A n c]] w fun e w' => ∃ D c', e = .returned (.tuple #[.slice D (UInt8.ofNat op :: intF (s32 a)).length c', .int .i64 0]) ∧
      w'.ownsRow w.heap.size 5 1 (.slice D (UInt8.ofNat op :: intF (s32 a)).length c') (UInt8.ofNat op :: intF (s32 a)).length (u8s (UInt8.ofNat op :: intF (s32 a))) ∧ Step (fun _ => False) w w' := by
  have hfd := field_imm i 10
  obtain ⟨T, hT⟩ : ∃ T, T = intF (s32 a) := ⟨_, rfl⟩
  have hTl : T.length ≤ 10 := by rw [hT]; exact intL_len 10 _
  have HT := Lib.hid hT
  rw [← hT]
  clear hT
  have hw := s32_wrap a ha
  have hvb : -9223372036854775808 ≤ s32 a ∧ s32 a ≤ 9223372036854775807 := by unfold s32; split <;> omega
  obtain ⟨v, hv⟩ : ∃ v, v = s32 a := ⟨_, rfl⟩
  rw [← hv] at hw HT hvb
  clear hv
  go_enter Try.func55, Try.ntmps55
  go_wp2_with fail
  refine (HR.out _).mono ?_
  rintro e w5 ⟨rfl, hS5⟩
  have HB5 := Lib.hid ((Blk.new w 50 #[.int .u8 (op : Int), .int .u64 (a : Int), .int .u64 0, .slice A n c]).step hS5 id)
  have HS5 := Lib.hid ((Step.refl.alloc _).trans hS5)
  clear hS5
  obtain ⟨X, hX⟩ : ∃ X, X = w.heap.size := ⟨_, rfl⟩
  rw [← hX] at HB5 ⊢
  have hXl := HB5.out.lt
  have x0 := HB5.out.cell 0
  simp at x0
  have HG : Hid (X < w5.heap.size) := hXl
  clear hX
  go_wp2_with fail
  refine (HO.out _).mono ?_
  rintro e w6 ⟨rfl, hS6⟩
  have HB6 := Lib.hid ((HB5.out.alloc _).step hS6 id)
  have HO6 := Lib.hid (own_step (World.ownsRow_lit (base := w.heap.size) (e := 5) (size := 1) w5 #[Value.int .u8 (op : Int)] 1 HS5.out.size (by decide) rfl) hS6 (fun _ _ => id))
  have HS6 := Lib.hid ((HS5.out.alloc _).trans hS6)
  clear hS6 x0 HB5 HS5
  replace hXl := HB6.out.lt
  have y0 := HB6.out.cell 0
  have y1 := HB6.out.cell 1
  simp at y0 y1
  obtain ⟨G, hG⟩ : ∃ G, G = w5.heap.size := ⟨_, rfl⟩
  rw [← hG] at HO6 HG ⊢
  clear hG
  simp only [infM]
  go_wp2_with fail
  refine (int_walk _ v hvb).mono ?_
  rintro e w7 ⟨D7, c7, rfl, hown7, hS7⟩
  rw [← HT.out] at hown7 ⊢
  have HO7 := Lib.hid (own_step HO6.out hS7 (fun _ _ => id))
  have HR7 := Lib.hid (Reads.of_own hown7)
  have HS7 := Lib.hid (HS6.out.trans hS7)
  clear hS7 HS6 HO6 hown7
  have hsz := HS7.out.size
  have hm : 1 + T.length ≤ maxLen := by unfold maxLen; omega
  have hone : ∀ u ∈ u8s T, u.oneCell' = true := u8s_one T
  go_wp2_with (at_builtin; refine wpList_append_src _ rfl _ _ (by rfl) E_u8 (by rfl) HO7.out (by rfl) HR7.out hone hm (by omega) hsz ?_; intro D' c' w8 hown8 hgrow hat)
  have HS8 := Lib.hid (grow_step HS7.out hgrow HO7.out (Nat.le_refl _))
  have hcs : #[Value.int .u8 (op : Int)].toList ++ u8s T = u8s (UInt8.ofNat op :: T) := by rw [show UInt8.ofNat op :: T = [UInt8.ofNat op] ++ T from rfl, u8s_append, byte_cell op hop]
  have hln : 1 + T.length = (UInt8.ofNat op :: T).length := by simp; omega
  rw [hcs, hln] at hown8
  go_ret2
  first
    | exact ⟨D', c', rfl, hown8, HS8.out⟩
    | (refine ⟨D', c', ?_, hown8, HS8.out⟩; show _ = Ending.returned (.tuple #[.slice D' (UInt8.ofNat op :: T).length c', .int .i64 0]); rw [← hln]; rfl)

set_option maxRecDepth 100000 in
set_option maxHeartbeats 1600000 in
theorem iput_11 (w : World) (op : Nat) (a n c : Nat) (A : Option Addr) (i : Inf) (hop : op < 256) (ha : a < 18446744073709551616)
    (HR : Hid (∀ w, Calls Try.prog 56 #[.agg #[.int .u8 (op : Int), .int .u64 (a : Int), .int .u64 0, .slice A n c]] w fun e w' => e = .returned (.int .i64 0) ∧ Step (fun _ => False) w w'))
    (HO : Hid (∀ w, Calls Try.prog 25 #[.int .u8 (op : Int)] w fun e w' => e = .returned (infM i 11) ∧ Step (fun _ => False) w w')) :
    Calls Try.prog 55 #[.agg #[.int .u8 (op : Int), .int .u64 (a : Int), .int .u64 0, .slice A n c]] w fun e w' => ∃ D c', e = .returned (.tuple #[.slice D (UInt8.ofNat op :: intF (s64 a)).length c', .int .i64 0]) ∧
      w'.ownsRow w.heap.size 5 1 (.slice D (UInt8.ofNat op :: intF (s64 a)).length c') (UInt8.ofNat op :: intF (s64 a)).length (u8s (UInt8.ofNat op :: intF (s64 a))) ∧ Step (fun _ => False) w w' := by
  have hfd := field_imm i 11
  obtain ⟨T, hT⟩ : ∃ T, T = intF (s64 a) := ⟨_, rfl⟩
  have hTl : T.length ≤ 10 := by rw [hT]; exact intL_len 10 _
  have HT := Lib.hid hT
  rw [← hT]
  clear hT
  have hw := s64_wrap a ha
  have hvb : -9223372036854775808 ≤ s64 a ∧ s64 a ≤ 9223372036854775807 := by unfold s64; split <;> omega
  obtain ⟨v, hv⟩ : ∃ v, v = s64 a := ⟨_, rfl⟩
  rw [← hv] at hw HT hvb
  clear hv
  go_enter Try.func55, Try.ntmps55
  go_wp2_with fail
  refine (HR.out _).mono ?_
  rintro e w5 ⟨rfl, hS5⟩
  have HB5 := Lib.hid ((Blk.new w 50 #[.int .u8 (op : Int), .int .u64 (a : Int), .int .u64 0, .slice A n c]).step hS5 id)
  have HS5 := Lib.hid ((Step.refl.alloc _).trans hS5)
  clear hS5
  obtain ⟨X, hX⟩ : ∃ X, X = w.heap.size := ⟨_, rfl⟩
  rw [← hX] at HB5 ⊢
  have hXl := HB5.out.lt
  have x0 := HB5.out.cell 0
  simp at x0
  have HG : Hid (X < w5.heap.size) := hXl
  clear hX
  go_wp2_with fail
  refine (HO.out _).mono ?_
  rintro e w6 ⟨rfl, hS6⟩
  have HB6 := Lib.hid ((HB5.out.alloc _).step hS6 id)
  have HO6 := Lib.hid (own_step (World.ownsRow_lit (base := w.heap.size) (e := 5) (size := 1) w5 #[Value.int .u8 (op : Int)] 1 HS5.out.size (by decide) rfl) hS6 (fun _ _ => id))
  have HS6 := Lib.hid ((HS5.out.alloc _).trans hS6)
  clear hS6 x0 HB5 HS5
  replace hXl := HB6.out.lt
  have y0 := HB6.out.cell 0
  have y1 := HB6.out.cell 1
  simp at y0 y1
  obtain ⟨G, hG⟩ : ∃ G, G = w5.heap.size := ⟨_, rfl⟩
  rw [← hG] at HO6 HG ⊢
  clear hG
  simp only [infM]
  go_wp2_with fail
  refine (int_walk _ v hvb).mono ?_
  rintro e w7 ⟨D7, c7, rfl, hown7, hS7⟩
  rw [← HT.out] at hown7 ⊢
  have HO7 := Lib.hid (own_step HO6.out hS7 (fun _ _ => id))
  have HR7 := Lib.hid (Reads.of_own hown7)
  have HS7 := Lib.hid (HS6.out.trans hS7)
  clear hS7 HS6 HO6 hown7
  have hsz := HS7.out.size
  have hm : 1 + T.length ≤ maxLen := by unfold maxLen; omega
  have hone : ∀ u ∈ u8s T, u.oneCell' = true := u8s_one T
  go_wp2_with (at_builtin; refine wpList_append_src _ rfl _ _ (by rfl) E_u8 (by rfl) HO7.out (by rfl) HR7.out hone hm (by omega) hsz ?_; intro D' c' w8 hown8 hgrow hat)
  have HS8 := Lib.hid (grow_step HS7.out hgrow HO7.out (Nat.le_refl _))
  have hcs : #[Value.int .u8 (op : Int)].toList ++ u8s T = u8s (UInt8.ofNat op :: T) := by rw [show UInt8.ofNat op :: T = [UInt8.ofNat op] ++ T from rfl, u8s_append, byte_cell op hop]
  have hln : 1 + T.length = (UInt8.ofNat op :: T).length := by simp; omega
  rw [hcs, hln] at hown8
  go_ret2
  first
    | exact ⟨D', c', rfl, hown8, HS8.out⟩
    | (refine ⟨D', c', ?_, hown8, HS8.out⟩; show _ = Ending.returned (.tuple #[.slice D' (UInt8.ofNat op :: T).length c', .int .i64 0]); rw [← hln]; rfl)
end Go.Proofs.Ytfemeendkjcffaa
