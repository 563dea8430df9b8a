/-
  instr, bodies: the body that is an end alone.
-/
import Derived.Test.YtfemeendkjcffaaPu
import Derived.Test.YtfemeendkjcffaaBoA
set_option linter.unusedVariables false
set_option linter.unusedSimpArgs false
namespace Go.Proofs.Ytfemeendkjcffaa
open Go.RowKit

theorem E_ins : ElemTy Try.prog 96 50 4 48 := elem_of Try.underlying96 (z := .agg #[.int .u8 0, .int .u64 0, .int .u64 0, .slice none 0 0]) (by kernel_rfl) rfl (by decide)

set_option maxRecDepth 100000 in
set_option maxHeartbeats 1600000 in
theorem iput_0 (w : World) (op : Nat) (c : Nat) (A : Option Addr) (i : Inf) (hop : op < 256)
    (HR : Hid (∀ w, Calls Try.prog 56 #[.agg #[.int .u8 (op : Int), .int .u64 0, .int .u64 0, .slice A 0 c]] w fun e w' => e = .returned (.int .i64 0) ∧ Step (fun _ => False) w w'))
    (HO : Hid (∀ w, Calls Try.prog 25 #[.int .u8 (op : Int)] w fun e w' => e = .returned (infM i 0) ∧ Step (fun _ => False) w w')) :
    Calls Try.prog 55 #[.agg #[.int .u8 (op : Int), .int .u64 0, .int .u64 0, .slice A 0 c]] w fun e w' => ∃ D c', e = .returned (.tuple #[.slice D 1 c', .int .i64 0]) ∧
      w'.ownsRow w.heap.size 5 1 (.slice D 1 c') 1 (u8s [UInt8.ofNat op]) ∧ Step (fun _ => False) w w' := by
  have hfd := field_imm i 0
  go_enter Try.func55, Try.ntmps55
  go_wp2_with fail
  refine (HR.out _).mono ?_
  rintro e w5 ⟨rfl, hS5⟩
  have HB5 := Lib.hid ((Blk.new w 50 #[.int .u8 (op : Int), .int .u64 0, .int .u64 0, .slice A 0 c]).step hS5 id)
  have HS5 := Lib.hid ((Step.refl.alloc _).trans hS5)
  clear hS5
  obtain ⟨X, hX⟩ : ∃ X, X = w.heap.size := ⟨_, rfl⟩
  rw [← hX] at HB5 ⊢
  have hXl := HB5.out.lt
  have x0 := HB5.out.cell 0
  simp at x0
  clear hX
  go_wp2_with fail
  refine (HO.out _).mono ?_
  rintro e w6 ⟨rfl, hS6⟩
  have HO6 := Lib.hid (own_step (World.ownsRow_lit (base := w.heap.size) (e := 5) (size := 1) w5 #[Value.int .u8 (op : Int)] 1 HS5.out.size (by decide) rfl) hS6 (fun _ _ => id))
  have HS6 := Lib.hid ((HS5.out.alloc _).trans hS6)
  clear hS6 x0 HB5
  simp only [infM]
  go_wp2_with fail
  go_ret2
  have hO := HO6.out
  rw [← byte_cell op hop] at hO
  exact ⟨_, _, rfl, hO, HS6.out⟩

set_option maxRecDepth 100000 in
set_option maxHeartbeats 1600000 in
theorem ended_walk (w : World) (b : Bool) : Calls Try.prog 158 #[.bool b] w fun e w' => e = .returned (.int .i64 (if b then 0 else 30 : Nat)) ∧ w' = w := by
  cases b <;>
  · go_enter Try.func158, Try.ntmps158
    go_wp2_with fail
    go_ret
    exact ⟨rfl, rfl⟩

set_option maxRecDepth 100000 in
set_option maxHeartbeats 1600000 in
theorem shape_end (w : World) (bb off : Nat) (c : Nat) (S : Nat → Prop) (hr : Reads w S 4 (some ⟨bb, off, none⟩) 1 [.int .u8 11, .int .u64 0, .int .u64 0, .slice none 0 0]) :
    Calls Try.prog 62 #[.slice (some ⟨bb, off, none⟩) 1 c] w fun e w' => e = .returned (.int .i64 0) ∧ Step (fun _ => False) w w' := by
  have HP : Hid (∀ w, Calls Try.prog 28 #[.int .u8 11] w fun e w' => e = .returned (.bool false) ∧ w' = w) := fun w => opens_walk w 11 (by decide)
  obtain ⟨a, ha, _, hbl, hc⟩ := hr.2 (by decide)
  injection ha with ha
  subst ha
  replace hc : ∀ (j : Nat) (u : Value), [Value.int .u8 11, .int .u64 0, .int .u64 0, .slice none 0 0][j]? = some u → w.cell? ⟨bb, off + j, none⟩ = some u := fun j u h => by have := hc j u h; rwa [Addr.add_lit] at this
  have hsl := slice_hn (P := Try.prog) E_u8 (some ⟨w.heap.size, 0, none⟩) 1 1 .i64 0 0 rfl (by decide)
  go_enter Try.func62, Try.ntmps62
  go_wp2_with fail
  go_loopw [3, 12] (fun ov iv wr => ov = .slice (some ⟨w.heap.size, 0, none⟩) 1 1 ∧ iv = .int .i64 0 ∧ Hid (Step (fun _ => False) w wr)) (fun _ iv _ => 1 - (intOf iv).toNat)
  case atStart => exact ⟨rfl, rfl, Step.refl.alloc _⟩
  case round =>
    obtain ⟨rfl, rfl, HS⟩ := hrel
    have c0 := (HS.out.cell (p := ⟨bb, off + 0, none⟩) hbl id).trans (hc 0 _ rfl)
    have c1 := (HS.out.cell (p := ⟨bb, off + 1, none⟩) hbl id).trans (hc 1 _ rfl)
    have c2 := (HS.out.cell (p := ⟨bb, off + 2, none⟩) hbl id).trans (hc 2 _ rfl)
    have c3 := (HS.out.cell (p := ⟨bb, off + 3, none⟩) hbl id).trans (hc 3 _ rfl)
    simp only [Nat.add_zero] at c0
    go_wp2_with fail
    refine (HP.out _).mono ?_
    rintro e w5 ⟨rfl, rfl⟩
    go_wp2_with fail
    refine (ended_walk _ true).mono ?_
    rintro e w6 ⟨rfl, rfl⟩
    go_wp2_with fail
    go_ret
    exact ⟨rfl, HS.out.alloc _⟩
end Go.Proofs.Ytfemeendkjcffaa
