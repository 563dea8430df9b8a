/-
  ops: AccessOf.
-/
import Derived.Test.YtpebdfgfikjkeaaOpB
import Derived.Test.YtpebdfgfikjkeaaOpC
set_option linter.unusedVariables false
set_option linter.unusedSimpArgs false
namespace Go.Proofs.Ytpebdfgfikjkeaa
open Go.RowKit

/-- How many bytes, of which numbers, whether it writes, whether it has a sign; whether there is such. -/
structure Acc where
  bytes : Nat
  t : Nat
  writes : Bool
  signed : Bool
  ok : Bool
deriving DecidableEq
def Acc.no : Acc := ⟨0, 0, false, false, false⟩
def accV (a : Acc) : Value := .agg #[.int .i64 (a.bytes : Int), .int .u8 (a.t : Int), .bool a.writes, .bool a.signed]
def accT : List (Nat × Acc) := [(40, ⟨4, 127, false, false, true⟩), (41, ⟨8, 126, false, false, true⟩), (44, ⟨1, 127, false, true, true⟩), (45, ⟨1, 127, false, false, true⟩), (46, ⟨2, 127, false, true, true⟩), (47, ⟨2, 127, false, false, true⟩), (48, ⟨1, 126, false, true, true⟩), (49, ⟨1, 126, false, false, true⟩), (50, ⟨2, 126, false, true, true⟩), (51, ⟨2, 126, false, false, true⟩), (52, ⟨4, 126, false, true, true⟩), (53, ⟨4, 126, false, false, true⟩), (54, ⟨4, 127, true, false, true⟩), (55, ⟨8, 126, true, false, true⟩), (58, ⟨1, 127, true, false, true⟩), (59, ⟨2, 127, true, false, true⟩), (60, ⟨1, 126, true, false, true⟩), (61, ⟨2, 126, true, false, true⟩), (62, ⟨4, 126, true, false, true⟩)]
def accF (op : Nat) : Acc := (accT.lookup op).getD Acc.no

set_option maxRecDepth 100000 in
set_option maxHeartbeats 1600000 in
theorem access_no (w : World) (op : Nat) (h : op < 256) (h8 : ¬ (memF op).imm = 8) : Calls Try.prog 83 #[.int .u8 op] w fun e w' => e = .returned (.tuple #[accV Acc.no, .bool false]) ∧ Step (fun _ => False) w w' := by
  have HM : Hid (∀ w, Calls Try.prog 71 #[.int .u8 op] w fun e w' => e = .returned (infV (memF op)) ∧ Step (fun _ => False) w w') := fun w => memory_walk w op h
  obtain ⟨i, hi⟩ : ∃ i, i = memF op := ⟨_, rfl⟩
  rw [← hi] at HM h8
  have hne : ¬ (i.imm : Int) = 8 := by omega
  have hneb : ((i.imm : Int) != 8) = true := bne_iff_ne.2 hne
  clear hi h8
  go_enter Try.func83, Try.ntmps83
  go_wp2_with fail
  refine (HM.out _).mono ?_
  rintro e w5 ⟨rfl, hS5⟩
  have HB := Lib.hid ((Blk.new w 148 #[.int .i64 0, .int .u8 0, .bool false, .bool false]).step hS5 id)
  have HS5 := Lib.hid ((Step.refl.alloc _).trans hS5)
  clear hS5
  simp only [infV]
  obtain ⟨N, hN⟩ : ∃ N, N = w.heap.size := ⟨_, rfl⟩
  have HN : Hid (w.heap.size ≤ N) := Nat.le_of_eq hN.symm
  rw [← hN] at HB ⊢
  clear hN
  have hz := ((HB.out.alloc (.cells #[.string (str i.name), .int .i64 (i.imm : Int), .string (str i.par), .string (str i.res), .bool i.free] 117))).row #[.int .i64 0, .int .u8 0, .bool false, .bool false]
  have z0 := hz.cell 0
  have z1 := hz.cell 1
  have z2 := hz.cell 2
  have z3 := hz.cell 3
  simp at z0 z1 z2 z3
  clear hz
  go_wp2_with first
    | (refine wpList_store_rowTo rfl 148 _ _ rfl rfl N #[.int .i64 0, .int .u8 0, .bool false, .bool false] rfl rfl 148 _ (HB.out.alloc _) rfl rfl (by simp [Value.oneCell']) ?_)
  exact bodyPost_ret (v := .tuple #[accV Acc.no, .bool false]) (by simp [results, Try.results83, go_sem, accV, Acc.no, z0, z1, z2, z3]) rfl ⟨rfl, (HS5.out.alloc _).setRow (.inr HN.out) _⟩

set_option maxRecDepth 100000 in
set_option maxHeartbeats 1600000 in
theorem access_40 (w : World) : Calls Try.prog 83 #[.int .u8 40] w fun e w' => e = .returned (.tuple #[accV (accF 40), .bool true]) ∧ Step (fun _ => False) w w' := by
  have HM : Hid (∀ w, Calls Try.prog 71 #[.int .u8 40] w fun e w' => e = .returned (.agg #[.string ⟨#[105, 51, 50, 46, 108, 111, 97, 100]⟩, .int .i64 8, .string ⟨#[127]⟩, .string ⟨#[127]⟩, .bool false]) ∧ Step (fun _ => False) w w') := fun w => by
    have := memory_walk w 40 (by decide)
    rw [show infV (memF 40) = .agg #[.string ⟨#[105, 51, 50, 46, 108, 111, 97, 100]⟩, .int .i64 8, .string ⟨#[127]⟩, .string ⟨#[127]⟩, .bool false] by kernel_rfl] at this
    exact this
  go_enter Try.func83, Try.ntmps83
  go_wp2_with fail
  refine (HM.out _).mono ?_
  rintro e w5 ⟨rfl, hS5⟩
  have HB := Lib.hid ((Blk.new w 148 #[.int .i64 0, .int .u8 0, .bool false, .bool false]).step hS5 id)
  have HS5 := Lib.hid ((Step.refl.alloc _).trans hS5)
  clear hS5
  obtain ⟨N, hN⟩ : ∃ N, N = w.heap.size := ⟨_, rfl⟩
  have HN : Hid (w.heap.size ≤ N) := Nat.le_of_eq hN.symm
  rw [← hN] at HB ⊢
  clear hN
  have hz := (((HB.out.alloc (.cells #[.string ⟨#[105, 51, 50, 46, 108, 111, 97, 100]⟩, .int .i64 8, .string ⟨#[127]⟩, .string ⟨#[127]⟩, .bool false] 117))).alloc (.cells #[.int .i64 4, .int .u8 127, .bool false, .bool false] 148)).row #[.int .i64 4, .int .u8 127, .bool false, .bool false]
  have z0 := hz.cell 0
  have z1 := hz.cell 1
  have z2 := hz.cell 2
  have z3 := hz.cell 3
  simp at z0 z1 z2 z3
  clear hz
  go_wp2_with first
    | (refine wpList_store_rowTo rfl 148 _ _ rfl rfl N #[.int .i64 4, .int .u8 127, .bool false, .bool false] rfl rfl 148 _ ((HB.out.alloc _).alloc _) rfl rfl (by simp [Value.oneCell']) ?_)
  exact bodyPost_ret (v := .tuple #[accV (accF 40), .bool true]) (by simp [results, Try.results83, go_sem, z0, z1, z2, z3]; rfl) rfl ⟨rfl, ((HS5.out.alloc _).alloc _).setRow (.inr HN.out) _⟩

set_option maxRecDepth 100000 in
set_option maxHeartbeats 1600000 in
theorem access_41 (w : World) : Calls Try.prog 83 #[.int .u8 41] w fun e w' => e = .returned (.tuple #[accV (accF 41), .bool true]) ∧ Step (fun _ => False) w w' := by
  have HM : Hid (∀ w, Calls Try.prog 71 #[.int .u8 41] w fun e w' => e = .returned (.agg #[.string ⟨#[105, 54, 52, 46, 108, 111, 97, 100]⟩, .int .i64 8, .string ⟨#[127]⟩, .string ⟨#[126]⟩, .bool false]) ∧ Step (fun _ => False) w w') := fun w => by
    have := memory_walk w 41 (by decide)
    rw [show infV (memF 41) = .agg #[.string ⟨#[105, 54, 52, 46, 108, 111, 97, 100]⟩, .int .i64 8, .string ⟨#[127]⟩, .string ⟨#[126]⟩, .bool false] by kernel_rfl] at this
    exact this
  go_enter Try.func83, Try.ntmps83
  go_wp2_with fail
  refine (HM.out _).mono ?_
  rintro e w5 ⟨rfl, hS5⟩
  have HB := Lib.hid ((Blk.new w 148 #[.int .i64 0, .int .u8 0, .bool false, .bool false]).step hS5 id)
  have HS5 := Lib.hid ((Step.refl.alloc _).trans hS5)
  clear hS5
  obtain ⟨N, hN⟩ : ∃ N, N = w.heap.size := ⟨_, rfl⟩
  have HN : Hid (w.heap.size ≤ N) := Nat.le_of_eq hN.symm
  rw [← hN] at HB ⊢
  clear hN
  have hz := (((HB.out.alloc (.cells #[.string ⟨#[105, 54, 52, 46, 108, 111, 97, 100]⟩, .int .i64 8, .string ⟨#[127]⟩, .string ⟨#[126]⟩, .bool false] 117))).alloc (.cells #[.int .i64 8, .int .u8 126, .bool false, .bool false] 148)).row #[.int .i64 8, .int .u8 126, .bool false, .bool false]
  have z0 := hz.cell 0
  have z1 := hz.cell 1
  have z2 := hz.cell 2
  have z3 := hz.cell 3
  simp at z0 z1 z2 z3
  clear hz
  go_wp2_with first
    | (refine wpList_store_rowTo rfl 148 _ _ rfl rfl N #[.int .i64 8, .int .u8 126, .bool false, .bool false] rfl rfl 148 _ ((HB.out.alloc _).alloc _) rfl rfl (by simp [Value.oneCell']) ?_)
  exact bodyPost_ret (v := .tuple #[accV (accF 41), .bool true]) (by simp [results, Try.results83, go_sem, z0, z1, z2, z3]; rfl) rfl ⟨rfl, ((HS5.out.alloc _).alloc _).setRow (.inr HN.out) _⟩

set_option maxRecDepth 100000 in
set_option maxHeartbeats 1600000 in
theorem access_44 (w : World) : Calls Try.prog 83 #[.int .u8 44] w fun e w' => e = .returned (.tuple #[accV (accF 44), .bool true]) ∧ Step (fun _ => False) w w' := by
  have HM : Hid (∀ w, Calls Try.prog 71 #[.int .u8 44] w fun e w' => e = .returned (.agg #[.string ⟨#[105, 51, 50, 46, 108, 111, 97, 100, 56, 95, 115]⟩, .int .i64 8, .string ⟨#[127]⟩, .string ⟨#[127]⟩, .bool false]) ∧ Step (fun _ => False) w w') := fun w => by
    have := memory_walk w 44 (by decide)
    rw [show infV (memF 44) = .agg #[.string ⟨#[105, 51, 50, 46, 108, 111, 97, 100, 56, 95, 115]⟩, .int .i64 8, .string ⟨#[127]⟩, .string ⟨#[127]⟩, .bool false] by kernel_rfl] at this
    exact this
  go_enter Try.func83, Try.ntmps83
  go_wp2_with fail
  refine (HM.out _).mono ?_
  rintro e w5 ⟨rfl, hS5⟩
  have HB := Lib.hid ((Blk.new w 148 #[.int .i64 0, .int .u8 0, .bool false, .bool false]).step hS5 id)
  have HS5 := Lib.hid ((Step.refl.alloc _).trans hS5)
  clear hS5
  obtain ⟨N, hN⟩ : ∃ N, N = w.heap.size := ⟨_, rfl⟩
  have HN : Hid (w.heap.size ≤ N) := Nat.le_of_eq hN.symm
  rw [← hN] at HB ⊢
  clear hN
  have hz := (((HB.out.alloc (.cells #[.string ⟨#[105, 51, 50, 46, 108, 111, 97, 100, 56, 95, 115]⟩, .int .i64 8, .string ⟨#[127]⟩, .string ⟨#[127]⟩, .bool false] 117))).alloc (.cells #[.int .i64 1, .int .u8 127, .bool false, .bool true] 148)).row #[.int .i64 1, .int .u8 127, .bool false, .bool true]
  have z0 := hz.cell 0
  have z1 := hz.cell 1
  have z2 := hz.cell 2
  have z3 := hz.cell 3
  simp at z0 z1 z2 z3
  clear hz
  go_wp2_with first
    | (refine wpList_store_rowTo rfl 148 _ _ rfl rfl N #[.int .i64 1, .int .u8 127, .bool false, .bool true] rfl rfl 148 _ ((HB.out.alloc _).alloc _) rfl rfl (by simp [Value.oneCell']) ?_)
  exact bodyPost_ret (v := .tuple #[accV (accF 44), .bool true]) (by simp [results, Try.results83, go_sem, z0, z1, z2, z3]; rfl) rfl ⟨rfl, ((HS5.out.alloc _).alloc _).setRow (.inr HN.out) _⟩

set_option maxRecDepth 100000 in
set_option maxHeartbeats 1600000 in
theorem access_45 (w : World) : Calls Try.prog 83 #[.int .u8 45] w fun e w' => e = .returned (.tuple #[accV (accF 45), .bool true]) ∧ Step (fun _ => False) w w' := by
  have HM : Hid (∀ w, Calls Try.prog 71 #[.int .u8 45] w fun e w' => e = .returned (.agg #[.string ⟨#[105, 51, 50, 46, 108, 111, 97, 100, 56, 95, 117]⟩, .int .i64 8, .string ⟨#[127]⟩, .string ⟨#[127]⟩, .bool false]) ∧ Step (fun _ => False) w w') := fun w => by
    have := memory_walk w 45 (by decide)
    rw [show infV (memF 45) = .agg #[.string ⟨#[105, 51, 50, 46, 108, 111, 97, 100, 56, 95, 117]⟩, .int .i64 8, .string ⟨#[127]⟩, .string ⟨#[127]⟩, .bool false] by kernel_rfl] at this
    exact this
  go_enter Try.func83, Try.ntmps83
  go_wp2_with fail
  refine (HM.out _).mono ?_
  rintro e w5 ⟨rfl, hS5⟩
  have HB := Lib.hid ((Blk.new w 148 #[.int .i64 0, .int .u8 0, .bool false, .bool false]).step hS5 id)
  have HS5 := Lib.hid ((Step.refl.alloc _).trans hS5)
  clear hS5
  obtain ⟨N, hN⟩ : ∃ N, N = w.heap.size := ⟨_, rfl⟩
  have HN : Hid (w.heap.size ≤ N) := Nat.le_of_eq hN.symm
  rw [← hN] at HB ⊢
  clear hN
  have hz := (((HB.out.alloc (.cells #[.string ⟨#[105, 51, 50, 46, 108, 111, 97, 100, 56, 95, 117]⟩, .int .i64 8, .string ⟨#[127]⟩, .string ⟨#[127]⟩, .bool false] 117))).alloc (.cells #[.int .i64 1, .int .u8 127, .bool false, .bool false] 148)).row #[.int .i64 1, .int .u8 127, .bool false, .bool false]
  have z0 := hz.cell 0
  have z1 := hz.cell 1
  have z2 := hz.cell 2
  have z3 := hz.cell 3
  simp at z0 z1 z2 z3
  clear hz
  go_wp2_with first
    | (refine wpList_store_rowTo rfl 148 _ _ rfl rfl N #[.int .i64 1, .int .u8 127, .bool false, .bool false] rfl rfl 148 _ ((HB.out.alloc _).alloc _) rfl rfl (by simp [Value.oneCell']) ?_)
  exact bodyPost_ret (v := .tuple #[accV (accF 45), .bool true]) (by simp [results, Try.results83, go_sem, z0, z1, z2, z3]; rfl) rfl ⟨rfl, ((HS5.out.alloc _).alloc _).setRow (.inr HN.out) _⟩

set_option maxRecDepth 100000 in
set_option maxHeartbeats 1600000 in
theorem access_46 (w : World) : Calls Try.prog 83 #[.int .u8 46] w fun e w' => e = .returned (.tuple #[accV (accF 46), .bool true]) ∧ Step (fun _ => False) w w' := by
  have HM : Hid (∀ w, Calls Try.prog 71 #[.int .u8 46] w fun e w' => e = .returned (.agg #[.string ⟨#[105, 51, 50, 46, 108, 111, 97, 100, 49, 54, 95, 115]⟩, .int .i64 8, .string ⟨#[127]⟩, .string ⟨#[127]⟩, .bool false]) ∧ Step (fun _ => False) w w') := fun w => by
    have := memory_walk w 46 (by decide)
    rw [show infV (memF 46) = .agg #[.string ⟨#[105, 51, 50, 46, 108, 111, 97, 100, 49, 54, 95, 115]⟩, .int .i64 8, .string ⟨#[127]⟩, .string ⟨#[127]⟩, .bool false] by kernel_rfl] at this
    exact this
  go_enter Try.func83, Try.ntmps83
  go_wp2_with fail
  refine (HM.out _).mono ?_
  rintro e w5 ⟨rfl, hS5⟩
  have HB := Lib.hid ((Blk.new w 148 #[.int .i64 0, .int .u8 0, .bool false, .bool false]).step hS5 id)
  have HS5 := Lib.hid ((Step.refl.alloc _).trans hS5)
  clear hS5
  obtain ⟨N, hN⟩ : ∃ N, N = w.heap.size := ⟨_, rfl⟩
  have HN : Hid (w.heap.size ≤ N) := Nat.le_of_eq hN.symm
  rw [← hN] at HB ⊢
  clear hN
  have hz := (((HB.out.alloc (.cells #[.string ⟨#[105, 51, 50, 46, 108, 111, 97, 100, 49, 54, 95, 115]⟩, .int .i64 8, .string ⟨#[127]⟩, .string ⟨#[127]⟩, .bool false] 117))).alloc (.cells #[.int .i64 2, .int .u8 127, .bool false, .bool true] 148)).row #[.int .i64 2, .int .u8 127, .bool false, .bool true]
  have z0 := hz.cell 0
  have z1 := hz.cell 1
  have z2 := hz.cell 2
  have z3 := hz.cell 3
  simp at z0 z1 z2 z3
  clear hz
  go_wp2_with first
    | (refine wpList_store_rowTo rfl 148 _ _ rfl rfl N #[.int .i64 2, .int .u8 127, .bool false, .bool true] rfl rfl 148 _ ((HB.out.alloc _).alloc _) rfl rfl (by simp [Value.oneCell']) ?_)
  exact bodyPost_ret (v := .tuple #[accV (accF 46), .bool true]) (by simp [results, Try.results83, go_sem, z0, z1, z2, z3]; rfl) rfl ⟨rfl, ((HS5.out.alloc _).alloc _).setRow (.inr HN.out) _⟩

set_option maxRecDepth 100000 in
set_option maxHeartbeats 1600000 in
theorem access_47 (w : World) : Calls Try.prog 83 #[.int .u8 47] w fun e w' => e = .returned (.tuple #[accV (accF 47), .bool true]) ∧ Step (fun _ => False) w w' := by
  have HM : Hid (∀ w, Calls Try.prog 71 #[.int .u8 47] w fun e w' => e = .returned (.agg #[.string ⟨#[105, 51, 50, 46, 108, 111, 97, 100, 49, 54, 95, 117]⟩, .int .i64 8, .string ⟨#[127]⟩, .string ⟨#[127]⟩, .bool false]) ∧ Step (fun _ => False) w w') := fun w => by
    have := memory_walk w 47 (by decide)
    rw [show infV (memF 47) = .agg #[.string ⟨#[105, 51, 50, 46, 108, 111, 97, 100, 49, 54, 95, 117]⟩, .int .i64 8, .string ⟨#[127]⟩, .string ⟨#[127]⟩, .bool false] by kernel_rfl] at this
    exact this
  go_enter Try.func83, Try.ntmps83
  go_wp2_with fail
  refine (HM.out _).mono ?_
  rintro e w5 ⟨rfl, hS5⟩
  have HB := Lib.hid ((Blk.new w 148 #[.int .i64 0, .int .u8 0, .bool false, .bool false]).step hS5 id)
  have HS5 := Lib.hid ((Step.refl.alloc _).trans hS5)
  clear hS5
  obtain ⟨N, hN⟩ : ∃ N, N = w.heap.size := ⟨_, rfl⟩
  have HN : Hid (w.heap.size ≤ N) := Nat.le_of_eq hN.symm
  rw [← hN] at HB ⊢
  clear hN
  have hz := (((HB.out.alloc (.cells #[.string ⟨#[105, 51, 50, 46, 108, 111, 97, 100, 49, 54, 95, 117]⟩, .int .i64 8, .string ⟨#[127]⟩, .string ⟨#[127]⟩, .bool false] 117))).alloc (.cells #[.int .i64 2, .int .u8 127, .bool false, .bool false] 148)).row #[.int .i64 2, .int .u8 127, .bool false, .bool false]
  have z0 := hz.cell 0
  have z1 := hz.cell 1
  have z2 := hz.cell 2
  have z3 := hz.cell 3
  simp at z0 z1 z2 z3
  clear hz
  go_wp2_with first
    | (refine wpList_store_rowTo rfl 148 _ _ rfl rfl N #[.int .i64 2, .int .u8 127, .bool false, .bool false] rfl rfl 148 _ ((HB.out.alloc _).alloc _) rfl rfl (by simp [Value.oneCell']) ?_)
  exact bodyPost_ret (v := .tuple #[accV (accF 47), .bool true]) (by simp [results, Try.results83, go_sem, z0, z1, z2, z3]; rfl) rfl ⟨rfl, ((HS5.out.alloc _).alloc _).setRow (.inr HN.out) _⟩

set_option maxRecDepth 100000 in
set_option maxHeartbeats 1600000 in
theorem access_48 (w : World) : Calls Try.prog 83 #[.int .u8 48] w fun e w' => e = .returned (.tuple #[accV (accF 48), .bool true]) ∧ Step (fun _ => False) w w' := by
  have HM : Hid (∀ w, Calls Try.prog 71 #[.int .u8 48] w fun e w' => e = .returned (.agg #[.string ⟨#[105, 54, 52, 46, 108, 111, 97, 100, 56, 95, 115]⟩, .int .i64 8, .string ⟨#[127]⟩, .string ⟨#[126]⟩, .bool false]) ∧ Step (fun _ => False) w w') := fun w => by
    have := memory_walk w 48 (by decide)
    rw [show infV (memF 48) = .agg #[.string ⟨#[105, 54, 52, 46, 108, 111, 97, 100, 56, 95, 115]⟩, .int .i64 8, .string ⟨#[127]⟩, .string ⟨#[126]⟩, .bool false] by kernel_rfl] at this
    exact this
  go_enter Try.func83, Try.ntmps83
  go_wp2_with fail
  refine (HM.out _).mono ?_
  rintro e w5 ⟨rfl, hS5⟩
  have HB := Lib.hid ((Blk.new w 148 #[.int .i64 0, .int .u8 0, .bool false, .bool false]).step hS5 id)
  have HS5 := Lib.hid ((Step.refl.alloc _).trans hS5)
  clear hS5
  obtain ⟨N, hN⟩ : ∃ N, N = w.heap.size := ⟨_, rfl⟩
  have HN : Hid (w.heap.size ≤ N) := Nat.le_of_eq hN.symm
  rw [← hN] at HB ⊢
  clear hN
  have hz := (((HB.out.alloc (.cells #[.string ⟨#[105, 54, 52, 46, 108, 111, 97, 100, 56, 95, 115]⟩, .int .i64 8, .string ⟨#[127]⟩, .string ⟨#[126]⟩, .bool false] 117))).alloc (.cells #[.int .i64 1, .int .u8 126, .bool false, .bool true] 148)).row #[.int .i64 1, .int .u8 126, .bool false, .bool true]
  have z0 := hz.cell 0
  have z1 := hz.cell 1
  have z2 := hz.cell 2
  have z3 := hz.cell 3
  simp at z0 z1 z2 z3
  clear hz
  go_wp2_with first
    | (refine wpList_store_rowTo rfl 148 _ _ rfl rfl N #[.int .i64 1, .int .u8 126, .bool false, .bool true] rfl rfl 148 _ ((HB.out.alloc _).alloc _) rfl rfl (by simp [Value.oneCell']) ?_)
  exact bodyPost_ret (v := .tuple #[accV (accF 48), .bool true]) (by simp [results, Try.results83, go_sem, z0, z1, z2, z3]; rfl) rfl ⟨rfl, ((HS5.out.alloc _).alloc _).setRow (.inr HN.out) _⟩

set_option maxRecDepth 100000 in
set_option maxHeartbeats 1600000 in
theorem access_49 (w : World) : Calls Try.prog 83 #[.int .u8 49] w fun e w' => e = .returned (.tuple #[accV (accF 49), .bool true]) ∧ Step (fun _ => False) w w' := by
  have HM : Hid (∀ w, Calls Try.prog 71 #[.int .u8 49] w fun e w' => e = .returned (.agg #[.string ⟨#[105, 54, 52, 46, 108, 111, 97, 100, 56, 95, 117]⟩, .int .i64 8, .string ⟨#[127]⟩, .string ⟨#[126]⟩, .bool false]) ∧ Step (fun _ => False) w w') := fun w => by
    have := memory_walk w 49 (by decide)
    rw [show infV (memF 49) = .agg #[.string ⟨#[105, 54, 52, 46, 108, 111, 97, 100, 56, 95, 117]⟩, .int .i64 8, .string ⟨#[127]⟩, .string ⟨#[126]⟩, .bool false] by kernel_rfl] at this
    exact this
  go_enter Try.func83, Try.ntmps83
  go_wp2_with fail
  refine (HM.out _).mono ?_
  rintro e w5 ⟨rfl, hS5⟩
  have HB := Lib.hid ((Blk.new w 148 #[.int .i64 0, .int .u8 0, .bool false, .bool false]).step hS5 id)
  have HS5 := Lib.hid ((Step.refl.alloc _).trans hS5)
  clear hS5
  obtain ⟨N, hN⟩ : ∃ N, N = w.heap.size := ⟨_, rfl⟩
  have HN : Hid (w.heap.size ≤ N) := Nat.le_of_eq hN.symm
  rw [← hN] at HB ⊢
  clear hN
  have hz := (((HB.out.alloc (.cells #[.string ⟨#[105, 54, 52, 46, 108, 111, 97, 100, 56, 95, 117]⟩, .int .i64 8, .string ⟨#[127]⟩, .string ⟨#[126]⟩, .bool false] 117))).alloc (.cells #[.int .i64 1, .int .u8 126, .bool false, .bool false] 148)).row #[.int .i64 1, .int .u8 126, .bool false, .bool false]
  have z0 := hz.cell 0
  have z1 := hz.cell 1
  have z2 := hz.cell 2
  have z3 := hz.cell 3
  simp at z0 z1 z2 z3
  clear hz
  go_wp2_with first
    | (refine wpList_store_rowTo rfl 148 _ _ rfl rfl N #[.int .i64 1, .int .u8 126, .bool false, .bool false] rfl rfl 148 _ ((HB.out.alloc _).alloc _) rfl rfl (by simp [Value.oneCell']) ?_)
  exact bodyPost_ret (v := .tuple #[accV (accF 49), .bool true]) (by simp [results, Try.results83, go_sem, z0, z1, z2, z3]; rfl) rfl ⟨rfl, ((HS5.out.alloc _).alloc _).setRow (.inr HN.out) _⟩

set_option maxRecDepth 100000 in
set_option maxHeartbeats 1600000 in
theorem access_50 (w : World) : Calls Try.prog 83 #[.int .u8 50] w fun e w' => e = .returned (.tuple #[accV (accF 50), .bool true]) ∧ Step (fun _ => False) w w' := by
  have HM : Hid (∀ w, Calls Try.prog 71 #[.int .u8 50] w fun e w' => e = .returned (.agg #[.string ⟨#[105, 54, 52, 46, 108, 111, 97, 100, 49, 54, 95, 115]⟩, .int .i64 8, .string ⟨#[127]⟩, .string ⟨#[126]⟩, .bool false]) ∧ Step (fun _ => False) w w') := fun w => by
    have := memory_walk w 50 (by decide)
    rw [show infV (memF 50) = .agg #[.string ⟨#[105, 54, 52, 46, 108, 111, 97, 100, 49, 54, 95, 115]⟩, .int .i64 8, .string ⟨#[127]⟩, .string ⟨#[126]⟩, .bool false] by kernel_rfl] at this
    exact this
  go_enter Try.func83, Try.ntmps83
  go_wp2_with fail
  refine (HM.out _).mono ?_
  rintro e w5 ⟨rfl, hS5⟩
  have HB := Lib.hid ((Blk.new w 148 #[.int .i64 0, .int .u8 0, .bool false, .bool false]).step hS5 id)
  have HS5 := Lib.hid ((Step.refl.alloc _).trans hS5)
  clear hS5
  obtain ⟨N, hN⟩ : ∃ N, N = w.heap.size := ⟨_, rfl⟩
  have HN : Hid (w.heap.size ≤ N) := Nat.le_of_eq hN.symm
  rw [← hN] at HB ⊢
  clear hN
  have hz := (((HB.out.alloc (.cells #[.string ⟨#[105, 54, 52, 46, 108, 111, 97, 100, 49, 54, 95, 115]⟩, .int .i64 8, .string ⟨#[127]⟩, .string ⟨#[126]⟩, .bool false] 117))).alloc (.cells #[.int .i64 2, .int .u8 126, .bool false, .bool true] 148)).row #[.int .i64 2, .int .u8 126, .bool false, .bool true]
  have z0 := hz.cell 0
  have z1 := hz.cell 1
  have z2 := hz.cell 2
  have z3 := hz.cell 3
  simp at z0 z1 z2 z3
  clear hz
  go_wp2_with first
    | (refine wpList_store_rowTo rfl 148 _ _ rfl rfl N #[.int .i64 2, .int .u8 126, .bool false, .bool true] rfl rfl 148 _ ((HB.out.alloc _).alloc _) rfl rfl (by simp [Value.oneCell']) ?_)
  exact bodyPost_ret (v := .tuple #[accV (accF 50), .bool true]) (by simp [results, Try.results83, go_sem, z0, z1, z2, z3]; rfl) rfl ⟨rfl, ((HS5.out.alloc _).alloc _).setRow (.inr HN.out) _⟩

set_option maxRecDepth 100000 in
set_option maxHeartbeats 1600000 in
theorem access_51 (w : World) : Calls Try.prog 83 #[.int .u8 51] w fun e w' => e = .returned (.tuple #[accV (accF 51), .bool true]) ∧ Step (fun _ => False) w w' := by
  have HM : Hid (∀ w, Calls Try.prog 71 #[.int .u8 51] w fun e w' => e = .returned (.agg #[.string ⟨#[105, 54, 52, 46, 108, 111, 97, 100, 49, 54, 95, 117]⟩, .int .i64 8, .string ⟨#[127]⟩, .string ⟨#[126]⟩, .bool false]) ∧ Step (fun _ => False) w w') := fun w => by
    have := memory_walk w 51 (by decide)
    rw [show infV (memF 51) = .agg #[.string ⟨#[105, 54, 52, 46, 108, 111, 97, 100, 49, 54, 95, 117]⟩, .int .i64 8, .string ⟨#[127]⟩, .string ⟨#[126]⟩, .bool false] by kernel_rfl] at this
    exact this
  go_enter Try.func83, Try.ntmps83
  go_wp2_with fail
  refine (HM.out _).mono ?_
  rintro e w5 ⟨rfl, hS5⟩
  have HB := Lib.hid ((Blk.new w 148 #[.int .i64 0, .int .u8 0, .bool false, .bool false]).step hS5 id)
  have HS5 := Lib.hid ((Step.refl.alloc _).trans hS5)
  clear hS5
  obtain ⟨N, hN⟩ : ∃ N, N = w.heap.size := ⟨_, rfl⟩
  have HN : Hid (w.heap.size ≤ N) := Nat.le_of_eq hN.symm
  rw [← hN] at HB ⊢
  clear hN
  have hz := (((HB.out.alloc (.cells #[.string ⟨#[105, 54, 52, 46, 108, 111, 97, 100, 49, 54, 95, 117]⟩, .int .i64 8, .string ⟨#[127]⟩, .string ⟨#[126]⟩, .bool false] 117))).alloc (.cells #[.int .i64 2, .int .u8 126, .bool false, .bool false] 148)).row #[.int .i64 2, .int .u8 126, .bool false, .bool false]
  have z0 := hz.cell 0
  have z1 := hz.cell 1
  have z2 := hz.cell 2
  have z3 := hz.cell 3
  simp at z0 z1 z2 z3
  clear hz
  go_wp2_with first
    | (refine wpList_store_rowTo rfl 148 _ _ rfl rfl N #[.int .i64 2, .int .u8 126, .bool false, .bool false] rfl rfl 148 _ ((HB.out.alloc _).alloc _) rfl rfl (by simp [Value.oneCell']) ?_)
  exact bodyPost_ret (v := .tuple #[accV (accF 51), .bool true]) (by simp [results, Try.results83, go_sem, z0, z1, z2, z3]; rfl) rfl ⟨rfl, ((HS5.out.alloc _).alloc _).setRow (.inr HN.out) _⟩

set_option maxRecDepth 100000 in
set_option maxHeartbeats 1600000 in
theorem access_52 (w : World) : Calls Try.prog 83 #[.int .u8 52] w fun e w' => e = .returned (.tuple #[accV (accF 52), .bool true]) ∧ Step (fun _ => False) w w' := by
  have HM : Hid (∀ w, Calls Try.prog 71 #[.int .u8 52] w fun e w' => e = .returned (.agg #[.string ⟨#[105, 54, 52, 46, 108, 111, 97, 100, 51, 50, 95, 115]⟩, .int .i64 8, .string ⟨#[127]⟩, .string ⟨#[126]⟩, .bool false]) ∧ Step (fun _ => False) w w') := fun w => by
    have := memory_walk w 52 (by decide)
    rw [show infV (memF 52) = .agg #[.string ⟨#[105, 54, 52, 46, 108, 111, 97, 100, 51, 50, 95, 115]⟩, .int .i64 8, .string ⟨#[127]⟩, .string ⟨#[126]⟩, .bool false] by kernel_rfl] at this
    exact this
  go_enter Try.func83, Try.ntmps83
  go_wp2_with fail
  refine (HM.out _).mono ?_
  rintro e w5 ⟨rfl, hS5⟩
  have HB := Lib.hid ((Blk.new w 148 #[.int .i64 0, .int .u8 0, .bool false, .bool false]).step hS5 id)
  have HS5 := Lib.hid ((Step.refl.alloc _).trans hS5)
  clear hS5
  obtain ⟨N, hN⟩ : ∃ N, N = w.heap.size := ⟨_, rfl⟩
  have HN : Hid (w.heap.size ≤ N) := Nat.le_of_eq hN.symm
  rw [← hN] at HB ⊢
  clear hN
  have hz := (((HB.out.alloc (.cells #[.string ⟨#[105, 54, 52, 46, 108, 111, 97, 100, 51, 50, 95, 115]⟩, .int .i64 8, .string ⟨#[127]⟩, .string ⟨#[126]⟩, .bool false] 117))).alloc (.cells #[.int .i64 4, .int .u8 126, .bool false, .bool true] 148)).row #[.int .i64 4, .int .u8 126, .bool false, .bool true]
  have z0 := hz.cell 0
  have z1 := hz.cell 1
  have z2 := hz.cell 2
  have z3 := hz.cell 3
  simp at z0 z1 z2 z3
  clear hz
  go_wp2_with first
    | (refine wpList_store_rowTo rfl 148 _ _ rfl rfl N #[.int .i64 4, .int .u8 126, .bool false, .bool true] rfl rfl 148 _ ((HB.out.alloc _).alloc _) rfl rfl (by simp [Value.oneCell']) ?_)
  exact bodyPost_ret (v := .tuple #[accV (accF 52), .bool true]) (by simp [results, Try.results83, go_sem, z0, z1, z2, z3]; rfl) rfl ⟨rfl, ((HS5.out.alloc _).alloc _).setRow (.inr HN.out) _⟩

set_option maxRecDepth 100000 in
set_option maxHeartbeats 1600000 in
theorem access_53 (w : World) : Calls Try.prog 83 #[.int .u8 53] w fun e w' => e = .returned (.tuple #[accV (accF 53), .bool true]) ∧ Step (fun _ => False) w w' := by
  have HM : Hid (∀ w, Calls Try.prog 71 #[.int .u8 53] w fun e w' => e = .returned (.agg #[.string ⟨#[105, 54, 52, 46, 108, 111, 97, 100, 51, 50, 95, 117]⟩, .int .i64 8, .string ⟨#[127]⟩, .string ⟨#[126]⟩, .bool false]) ∧ Step (fun _ => False) w w') := fun w => by
    have := memory_walk w 53 (by decide)
    rw [show infV (memF 53) = .agg #[.string ⟨#[105, 54, 52, 46, 108, 111, 97, 100, 51, 50, 95, 117]⟩, .int .i64 8, .string ⟨#[127]⟩, .string ⟨#[126]⟩, .bool false] by kernel_rfl] at this
    exact this
  go_enter Try.func83, Try.ntmps83
  go_wp2_with fail
  refine (HM.out _).mono ?_
  rintro e w5 ⟨rfl, hS5⟩
  have HB := Lib.hid ((Blk.new w 148 #[.int .i64 0, .int .u8 0, .bool false, .bool false]).step hS5 id)
  have HS5 := Lib.hid ((Step.refl.alloc _).trans hS5)
  clear hS5
  obtain ⟨N, hN⟩ : ∃ N, N = w.heap.size := ⟨_, rfl⟩
  have HN : Hid (w.heap.size ≤ N) := Nat.le_of_eq hN.symm
  rw [← hN] at HB ⊢
  clear hN
  have hz := (((HB.out.alloc (.cells #[.string ⟨#[105, 54, 52, 46, 108, 111, 97, 100, 51, 50, 95, 117]⟩, .int .i64 8, .string ⟨#[127]⟩, .string ⟨#[126]⟩, .bool false] 117))).alloc (.cells #[.int .i64 4, .int .u8 126, .bool false, .bool false] 148)).row #[.int .i64 4, .int .u8 126, .bool false, .bool false]
  have z0 := hz.cell 0
  have z1 := hz.cell 1
  have z2 := hz.cell 2
  have z3 := hz.cell 3
  simp at z0 z1 z2 z3
  clear hz
  go_wp2_with first
    | (refine wpList_store_rowTo rfl 148 _ _ rfl rfl N #[.int .i64 4, .int .u8 126, .bool false, .bool false] rfl rfl 148 _ ((HB.out.alloc _).alloc _) rfl rfl (by simp [Value.oneCell']) ?_)
  exact bodyPost_ret (v := .tuple #[accV (accF 53), .bool true]) (by simp [results, Try.results83, go_sem, z0, z1, z2, z3]; rfl) rfl ⟨rfl, ((HS5.out.alloc _).alloc _).setRow (.inr HN.out) _⟩

set_option maxRecDepth 100000 in
set_option maxHeartbeats 1600000 in
theorem access_54 (w : World) : Calls Try.prog 83 #[.int .u8 54] w fun e w' => e = .returned (.tuple #[accV (accF 54), .bool true]) ∧ Step (fun _ => False) w w' := by
  have HM : Hid (∀ w, Calls Try.prog 71 #[.int .u8 54] w fun e w' => e = .returned (.agg #[.string ⟨#[105, 51, 50, 46, 115, 116, 111, 114, 101]⟩, .int .i64 8, .string ⟨#[127, 127]⟩, .string ⟨#[]⟩, .bool false]) ∧ Step (fun _ => False) w w') := fun w => by
    have := memory_walk w 54 (by decide)
    rw [show infV (memF 54) = .agg #[.string ⟨#[105, 51, 50, 46, 115, 116, 111, 114, 101]⟩, .int .i64 8, .string ⟨#[127, 127]⟩, .string ⟨#[]⟩, .bool false] by kernel_rfl] at this
    exact this
  go_enter Try.func83, Try.ntmps83
  go_wp2_with fail
  refine (HM.out _).mono ?_
  rintro e w5 ⟨rfl, hS5⟩
  have HB := Lib.hid ((Blk.new w 148 #[.int .i64 0, .int .u8 0, .bool false, .bool false]).step hS5 id)
  have HS5 := Lib.hid ((Step.refl.alloc _).trans hS5)
  clear hS5
  obtain ⟨N, hN⟩ : ∃ N, N = w.heap.size := ⟨_, rfl⟩
  have HN : Hid (w.heap.size ≤ N) := Nat.le_of_eq hN.symm
  rw [← hN] at HB ⊢
  clear hN
  have hz := (((HB.out.alloc (.cells #[.string ⟨#[105, 51, 50, 46, 115, 116, 111, 114, 101]⟩, .int .i64 8, .string ⟨#[127, 127]⟩, .string ⟨#[]⟩, .bool false] 117))).alloc (.cells #[.int .i64 4, .int .u8 127, .bool true, .bool false] 148)).row #[.int .i64 4, .int .u8 127, .bool true, .bool false]
  have z0 := hz.cell 0
  have z1 := hz.cell 1
  have z2 := hz.cell 2
  have z3 := hz.cell 3
  simp at z0 z1 z2 z3
  clear hz
  go_wp2_with first
    | (refine wpList_store_rowTo rfl 148 _ _ rfl rfl N #[.int .i64 4, .int .u8 127, .bool true, .bool false] rfl rfl 148 _ ((HB.out.alloc _).alloc _) rfl rfl (by simp [Value.oneCell']) ?_)
  exact bodyPost_ret (v := .tuple #[accV (accF 54), .bool true]) (by simp [results, Try.results83, go_sem, z0, z1, z2, z3]; rfl) rfl ⟨rfl, ((HS5.out.alloc _).alloc _).setRow (.inr HN.out) _⟩

set_option maxRecDepth 100000 in
set_option maxHeartbeats 1600000 in
theorem access_55 (w : World) : Calls Try.prog 83 #[.int .u8 55] w fun e w' => e = .returned (.tuple #[accV (accF 55), .bool true]) ∧ Step (fun _ => False) w w' := by
  have HM : Hid (∀ w, Calls Try.prog 71 #[.int .u8 55] w fun e w' => e = .returned (.agg #[.string ⟨#[105, 54, 52, 46, 115, 116, 111, 114, 101]⟩, .int .i64 8, .string ⟨#[127, 126]⟩, .string ⟨#[]⟩, .bool false]) ∧ Step (fun _ => False) w w') := fun w => by
    have := memory_walk w 55 (by decide)
    rw [show infV (memF 55) = .agg #[.string ⟨#[105, 54, 52, 46, 115, 116, 111, 114, 101]⟩, .int .i64 8, .string ⟨#[127, 126]⟩, .string ⟨#[]⟩, .bool false] by kernel_rfl] at this
    exact this
  go_enter Try.func83, Try.ntmps83
  go_wp2_with fail
  refine (HM.out _).mono ?_
  rintro e w5 ⟨rfl, hS5⟩
  have HB := Lib.hid ((Blk.new w 148 #[.int .i64 0, .int .u8 0, .bool false, .bool false]).step hS5 id)
  have HS5 := Lib.hid ((Step.refl.alloc _).trans hS5)
  clear hS5
  obtain ⟨N, hN⟩ : ∃ N, N = w.heap.size := ⟨_, rfl⟩
  have HN : Hid (w.heap.size ≤ N) := Nat.le_of_eq hN.symm
  rw [← hN] at HB ⊢
  clear hN
  have hz := (((HB.out.alloc (.cells #[.string ⟨#[105, 54, 52, 46, 115, 116, 111, 114, 101]⟩, .int .i64 8, .string ⟨#[127, 126]⟩, .string ⟨#[]⟩, .bool false] 117))).alloc (.cells #[.int .i64 8, .int .u8 126, .bool true, .bool false] 148)).row #[.int .i64 8, .int .u8 126, .bool true, .bool false]
  have z0 := hz.cell 0
  have z1 := hz.cell 1
  have z2 := hz.cell 2
  have z3 := hz.cell 3
  simp at z0 z1 z2 z3
  clear hz
  go_wp2_with first
    | (refine wpList_store_rowTo rfl 148 _ _ rfl rfl N #[.int .i64 8, .int .u8 126, .bool true, .bool false] rfl rfl 148 _ ((HB.out.alloc _).alloc _) rfl rfl (by simp [Value.oneCell']) ?_)
  exact bodyPost_ret (v := .tuple #[accV (accF 55), .bool true]) (by simp [results, Try.results83, go_sem, z0, z1, z2, z3]; rfl) rfl ⟨rfl, ((HS5.out.alloc _).alloc _).setRow (.inr HN.out) _⟩

set_option maxRecDepth 100000 in
set_option maxHeartbeats 1600000 in
theorem access_58 (w : World) : Calls Try.prog 83 #[.int .u8 58] w fun e w' => e = .returned (.tuple #[accV (accF 58), .bool true]) ∧ Step (fun _ => False) w w' := by
  have HM : Hid (∀ w, Calls Try.prog 71 #[.int .u8 58] w fun e w' => e = .returned (.agg #[.string ⟨#[105, 51, 50, 46, 115, 116, 111, 114, 101, 56]⟩, .int .i64 8, .string ⟨#[127, 127]⟩, .string ⟨#[]⟩, .bool false]) ∧ Step (fun _ => False) w w') := fun w => by
    have := memory_walk w 58 (by decide)
    rw [show infV (memF 58) = .agg #[.string ⟨#[105, 51, 50, 46, 115, 116, 111, 114, 101, 56]⟩, .int .i64 8, .string ⟨#[127, 127]⟩, .string ⟨#[]⟩, .bool false] by kernel_rfl] at this
    exact this
  go_enter Try.func83, Try.ntmps83
  go_wp2_with fail
  refine (HM.out _).mono ?_
  rintro e w5 ⟨rfl, hS5⟩
  have HB := Lib.hid ((Blk.new w 148 #[.int .i64 0, .int .u8 0, .bool false, .bool false]).step hS5 id)
  have HS5 := Lib.hid ((Step.refl.alloc _).trans hS5)
  clear hS5
  obtain ⟨N, hN⟩ : ∃ N, N = w.heap.size := ⟨_, rfl⟩
  have HN : Hid (w.heap.size ≤ N) := Nat.le_of_eq hN.symm
  rw [← hN] at HB ⊢
  clear hN
  have hz := (((HB.out.alloc (.cells #[.string ⟨#[105, 51, 50, 46, 115, 116, 111, 114, 101, 56]⟩, .int .i64 8, .string ⟨#[127, 127]⟩, .string ⟨#[]⟩, .bool false] 117))).alloc (.cells #[.int .i64 1, .int .u8 127, .bool true, .bool false] 148)).row #[.int .i64 1, .int .u8 127, .bool true, .bool false]
  have z0 := hz.cell 0
  have z1 := hz.cell 1
  have z2 := hz.cell 2
  have z3 := hz.cell 3
  simp at z0 z1 z2 z3
  clear hz
  go_wp2_with first
    | (refine wpList_store_rowTo rfl 148 _ _ rfl rfl N #[.int .i64 1, .int .u8 127, .bool true, .bool false] rfl rfl 148 _ ((HB.out.alloc _).alloc _) rfl rfl (by simp [Value.oneCell']) ?_)
  exact bodyPost_ret (v := .tuple #[accV (accF 58), .bool true]) (by simp [results, Try.results83, go_sem, z0, z1, z2, z3]; rfl) rfl ⟨rfl, ((HS5.out.alloc _).alloc _).setRow (.inr HN.out) _⟩

set_option maxRecDepth 100000 in
set_option maxHeartbeats 1600000 in
theorem access_59 (w : World) : Calls Try.prog 83 #[.int .u8 59] w fun e w' => e = .returned (.tuple #[accV (accF 59), .bool true]) ∧ Step (fun _ => False) w w' := by
  have HM : Hid (∀ w, Calls Try.prog 71 #[.int .u8 59] w fun e w' => e = .returned (.agg #[.string ⟨#[105, 51, 50, 46, 115, 116, 111, 114, 101, 49, 54]⟩, .int .i64 8, .string ⟨#[127, 127]⟩, .string ⟨#[]⟩, .bool false]) ∧ Step (fun _ => False) w w') := fun w => by
    have := memory_walk w 59 (by decide)
    rw [show infV (memF 59) = .agg #[.string ⟨#[105, 51, 50, 46, 115, 116, 111, 114, 101, 49, 54]⟩, .int .i64 8, .string ⟨#[127, 127]⟩, .string ⟨#[]⟩, .bool false] by kernel_rfl] at this
    exact this
  go_enter Try.func83, Try.ntmps83
  go_wp2_with fail
  refine (HM.out _).mono ?_
  rintro e w5 ⟨rfl, hS5⟩
  have HB := Lib.hid ((Blk.new w 148 #[.int .i64 0, .int .u8 0, .bool false, .bool false]).step hS5 id)
  have HS5 := Lib.hid ((Step.refl.alloc _).trans hS5)
  clear hS5
  obtain ⟨N, hN⟩ : ∃ N, N = w.heap.size := ⟨_, rfl⟩
  have HN : Hid (w.heap.size ≤ N) := Nat.le_of_eq hN.symm
  rw [← hN] at HB ⊢
  clear hN
  have hz := (((HB.out.alloc (.cells #[.string ⟨#[105, 51, 50, 46, 115, 116, 111, 114, 101, 49, 54]⟩, .int .i64 8, .string ⟨#[127, 127]⟩, .string ⟨#[]⟩, .bool false] 117))).alloc (.cells #[.int .i64 2, .int .u8 127, .bool true, .bool false] 148)).row #[.int .i64 2, .int .u8 127, .bool true, .bool false]
  have z0 := hz.cell 0
  have z1 := hz.cell 1
  have z2 := hz.cell 2
  have z3 := hz.cell 3
  simp at z0 z1 z2 z3
  clear hz
  go_wp2_with first
    | (refine wpList_store_rowTo rfl 148 _ _ rfl rfl N #[.int .i64 2, .int .u8 127, .bool true, .bool false] rfl rfl 148 _ ((HB.out.alloc _).alloc _) rfl rfl (by simp [Value.oneCell']) ?_)
  exact bodyPost_ret (v := .tuple #[accV (accF 59), .bool true]) (by simp [results, Try.results83, go_sem, z0, z1, z2, z3]; rfl) rfl ⟨rfl, ((HS5.out.alloc _).alloc _).setRow (.inr HN.out) _⟩

set_option maxRecDepth 100000 in
set_option maxHeartbeats 1600000 in
theorem access_60 (w : World) : Calls Try.prog 83 #[.int .u8 60] w fun e w' => e = .returned (.tuple #[accV (accF 60), .bool true]) ∧ Step (fun _ => False) w w' := by
  have HM : Hid (∀ w, Calls Try.prog 71 #[.int .u8 60] w fun e w' => e = .returned (.agg #[.string ⟨#[105, 54, 52, 46, 115, 116, 111, 114, 101, 56]⟩, .int .i64 8, .string ⟨#[127, 126]⟩, .string ⟨#[]⟩, .bool false]) ∧ Step (fun _ => False) w w') := fun w => by
    have := memory_walk w 60 (by decide)
    rw [show infV (memF 60) = .agg #[.string ⟨#[105, 54, 52, 46, 115, 116, 111, 114, 101, 56]⟩, .int .i64 8, .string ⟨#[127, 126]⟩, .string ⟨#[]⟩, .bool false] by kernel_rfl] at this
    exact this
  go_enter Try.func83, Try.ntmps83
  go_wp2_with fail
  refine (HM.out _).mono ?_
  rintro e w5 ⟨rfl, hS5⟩
  have HB := Lib.hid ((Blk.new w 148 #[.int .i64 0, .int .u8 0, .bool false, .bool false]).step hS5 id)
  have HS5 := Lib.hid ((Step.refl.alloc _).trans hS5)
  clear hS5
  obtain ⟨N, hN⟩ : ∃ N, N = w.heap.size := ⟨_, rfl⟩
  have HN : Hid (w.heap.size ≤ N) := Nat.le_of_eq hN.symm
  rw [← hN] at HB ⊢
  clear hN
  have hz := (((HB.out.alloc (.cells #[.string ⟨#[105, 54, 52, 46, 115, 116, 111, 114, 101, 56]⟩, .int .i64 8, .string ⟨#[127, 126]⟩, .string ⟨#[]⟩, .bool false] 117))).alloc (.cells #[.int .i64 1, .int .u8 126, .bool true, .bool false] 148)).row #[.int .i64 1, .int .u8 126, .bool true, .bool false]
  have z0 := hz.cell 0
  have z1 := hz.cell 1
  have z2 := hz.cell 2
  have z3 := hz.cell 3
  simp at z0 z1 z2 z3
  clear hz
  go_wp2_with first
    | (refine wpList_store_rowTo rfl 148 _ _ rfl rfl N #[.int .i64 1, .int .u8 126, .bool true, .bool false] rfl rfl 148 _ ((HB.out.alloc _).alloc _) rfl rfl (by simp [Value.oneCell']) ?_)
  exact bodyPost_ret (v := .tuple #[accV (accF 60), .bool true]) (by simp [results, Try.results83, go_sem, z0, z1, z2, z3]; rfl) rfl ⟨rfl, ((HS5.out.alloc _).alloc _).setRow (.inr HN.out) _⟩

set_option maxRecDepth 100000 in
set_option maxHeartbeats 1600000 in
theorem access_61 (w : World) : Calls Try.prog 83 #[.int .u8 61] w fun e w' => e = .returned (.tuple #[accV (accF 61), .bool true]) ∧ Step (fun _ => False) w w' := by
  have HM : Hid (∀ w, Calls Try.prog 71 #[.int .u8 61] w fun e w' => e = .returned (.agg #[.string ⟨#[105, 54, 52, 46, 115, 116, 111, 114, 101, 49, 54]⟩, .int .i64 8, .string ⟨#[127, 126]⟩, .string ⟨#[]⟩, .bool false]) ∧ Step (fun _ => False) w w') := fun w => by
    have := memory_walk w 61 (by decide)
    rw [show infV (memF 61) = .agg #[.string ⟨#[105, 54, 52, 46, 115, 116, 111, 114, 101, 49, 54]⟩, .int .i64 8, .string ⟨#[127, 126]⟩, .string ⟨#[]⟩, .bool false] by kernel_rfl] at this
    exact this
  go_enter Try.func83, Try.ntmps83
  go_wp2_with fail
  refine (HM.out _).mono ?_
  rintro e w5 ⟨rfl, hS5⟩
  have HB := Lib.hid ((Blk.new w 148 #[.int .i64 0, .int .u8 0, .bool false, .bool false]).step hS5 id)
  have HS5 := Lib.hid ((Step.refl.alloc _).trans hS5)
  clear hS5
  obtain ⟨N, hN⟩ : ∃ N, N = w.heap.size := ⟨_, rfl⟩
  have HN : Hid (w.heap.size ≤ N) := Nat.le_of_eq hN.symm
  rw [← hN] at HB ⊢
  clear hN
  have hz := (((HB.out.alloc (.cells #[.string ⟨#[105, 54, 52, 46, 115, 116, 111, 114, 101, 49, 54]⟩, .int .i64 8, .string ⟨#[127, 126]⟩, .string ⟨#[]⟩, .bool false] 117))).alloc (.cells #[.int .i64 2, .int .u8 126, .bool true, .bool false] 148)).row #[.int .i64 2, .int .u8 126, .bool true, .bool false]
  have z0 := hz.cell 0
  have z1 := hz.cell 1
  have z2 := hz.cell 2
  have z3 := hz.cell 3
  simp at z0 z1 z2 z3
  clear hz
  go_wp2_with first
    | (refine wpList_store_rowTo rfl 148 _ _ rfl rfl N #[.int .i64 2, .int .u8 126, .bool true, .bool false] rfl rfl 148 _ ((HB.out.alloc _).alloc _) rfl rfl (by simp [Value.oneCell']) ?_)
  exact bodyPost_ret (v := .tuple #[accV (accF 61), .bool true]) (by simp [results, Try.results83, go_sem, z0, z1, z2, z3]; rfl) rfl ⟨rfl, ((HS5.out.alloc _).alloc _).setRow (.inr HN.out) _⟩

set_option maxRecDepth 100000 in
set_option maxHeartbeats 1600000 in
theorem access_62 (w : World) : Calls Try.prog 83 #[.int .u8 62] w fun e w' => e = .returned (.tuple #[accV (accF 62), .bool true]) ∧ Step (fun _ => False) w w' := by
  have HM : Hid (∀ w, Calls Try.prog 71 #[.int .u8 62] w fun e w' => e = .returned (.agg #[.string ⟨#[105, 54, 52, 46, 115, 116, 111, 114, 101, 51, 50]⟩, .int .i64 8, .string ⟨#[127, 126]⟩, .string ⟨#[]⟩, .bool false]) ∧ Step (fun _ => False) w w') := fun w => by
    have := memory_walk w 62 (by decide)
    rw [show infV (memF 62) = .agg #[.string ⟨#[105, 54, 52, 46, 115, 116, 111, 114, 101, 51, 50]⟩, .int .i64 8, .string ⟨#[127, 126]⟩, .string ⟨#[]⟩, .bool false] by kernel_rfl] at this
    exact this
  go_enter Try.func83, Try.ntmps83
  go_wp2_with fail
  refine (HM.out _).mono ?_
  rintro e w5 ⟨rfl, hS5⟩
  have HB := Lib.hid ((Blk.new w 148 #[.int .i64 0, .int .u8 0, .bool false, .bool false]).step hS5 id)
  have HS5 := Lib.hid ((Step.refl.alloc _).trans hS5)
  clear hS5
  obtain ⟨N, hN⟩ : ∃ N, N = w.heap.size := ⟨_, rfl⟩
  have HN : Hid (w.heap.size ≤ N) := Nat.le_of_eq hN.symm
  rw [← hN] at HB ⊢
  clear hN
  have hz := (((HB.out.alloc (.cells #[.string ⟨#[105, 54, 52, 46, 115, 116, 111, 114, 101, 51, 50]⟩, .int .i64 8, .string ⟨#[127, 126]⟩, .string ⟨#[]⟩, .bool false] 117))).alloc (.cells #[.int .i64 4, .int .u8 126, .bool true, .bool false] 148)).row #[.int .i64 4, .int .u8 126, .bool true, .bool false]
  have z0 := hz.cell 0
  have z1 := hz.cell 1
  have z2 := hz.cell 2
  have z3 := hz.cell 3
  simp at z0 z1 z2 z3
  clear hz
  go_wp2_with first
    | (refine wpList_store_rowTo rfl 148 _ _ rfl rfl N #[.int .i64 4, .int .u8 126, .bool true, .bool false] rfl rfl 148 _ ((HB.out.alloc _).alloc _) rfl rfl (by simp [Value.oneCell']) ?_)
  exact bodyPost_ret (v := .tuple #[accV (accF 62), .bool true]) (by simp [results, Try.results83, go_sem, z0, z1, z2, z3]; rfl) rfl ⟨rfl, ((HS5.out.alloc _).alloc _).setRow (.inr HN.out) _⟩

theorem acc_split (op : Nat) (h : op < 256) : (¬ (memF op).imm = 8 ∧ accF op = Acc.no) ∨ (op = 40 ∨ op = 41 ∨ op = 44 ∨ op = 45 ∨ op = 46 ∨ op = 47 ∨ op = 48 ∨ op = 49 ∨ op = 50 ∨ op = 51 ∨ op = 52 ∨ op = 53 ∨ op = 54 ∨ op = 55 ∨ op = 58 ∨ op = 59 ∨ op = 60 ∨ op = 61 ∨ op = 62) := by
  have : ∀ op : Fin 256, (¬ (memF op.1).imm = 8 ∧ accF op.1 = Acc.no) ∨ (op.1 = 40 ∨ op.1 = 41 ∨ op.1 = 44 ∨ op.1 = 45 ∨ op.1 = 46 ∨ op.1 = 47 ∨ op.1 = 48 ∨ op.1 = 49 ∨ op.1 = 50 ∨ op.1 = 51 ∨ op.1 = 52 ∨ op.1 = 53 ∨ op.1 = 54 ∨ op.1 = 55 ∨ op.1 = 58 ∨ op.1 = 59 ∨ op.1 = 60 ∨ op.1 = 61 ∨ op.1 = 62) := by decide +kernel
  exact this ⟨op, h⟩

theorem access_walk (w : World) (op : Nat) (h : op < 256) : Calls Try.prog 83 #[.int .u8 op] w fun e w' => e = .returned (.tuple #[accV (accF op), .bool (accF op).ok]) ∧ Step (fun _ => False) w w' := by
  rcases acc_split op h with ⟨h8, ha⟩ | h8
  · rw [ha]
    exact access_no w op h h8
  · rcases h8 with rfl | rfl | rfl | rfl | rfl | rfl | rfl | rfl | rfl | rfl | rfl | rfl | rfl | rfl | rfl | rfl | rfl | rfl | rfl
    · exact access_40 w
    · exact access_41 w
    · exact access_44 w
    · exact access_45 w
    · exact access_46 w
    · exact access_47 w
    · exact access_48 w
    · exact access_49 w
    · exact access_50 w
    · exact access_51 w
    · exact access_52 w
    · exact access_53 w
    · exact access_54 w
    · exact access_55 w
    · exact access_58 w
    · exact access_59 w
    · exact access_60 w
    · exact access_61 w
    · exact access_62 w
end Go.Proofs.Ytpebdfgfikjkeaa
