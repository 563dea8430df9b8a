/-
  bodies: the page's example.
-/
import Derived.Test.YtfemeendkjcffaaBoC
set_option linter.unusedVariables false
set_option linter.unusedSimpArgs false
namespace Go.Proofs.Ytfemeendkjcffaa
open Go.RowKit

set_option maxRecDepth 100000 in
set_option maxHeartbeats 1600000 in
theorem putbody_end (w : World) (bb off : Nat) (c : Nat) (S : Nat → Prop) (hr : Reads w S 4 (some ⟨bb, off, none⟩) 1 [.int .u8 11, .int .u64 0, .int .u64 0, .slice none 0 0]) :
    Calls Try.prog 61 #[.slice (some ⟨bb, off, none⟩) 1 c] w fun e w' => ∃ D c', e = .returned (.tuple #[.slice D 1 c', .int .i64 0]) ∧
      w'.ownsRow w.heap.size 5 1 (.slice D 1 c') 1 (u8s [11]) ∧ Step (fun _ => False) w w' := by
  have HSh : Hid (∀ w', Step (fun _ => False) w w' → Calls Try.prog 62 #[.slice (some ⟨bb, off, none⟩) 1 c] w' fun e w'' => e = .returned (.int .i64 0) ∧ Step (fun _ => False) w' w'') := fun w' hs => shape_end w' bb off c S (hr.step hs (fun _ _ => id))
  have HP : Hid (∀ w, Calls Try.prog 55 #[.agg #[.int .u8 11, .int .u64 0, .int .u64 0, .slice none 0 0]] w fun e w' => ∃ D c', e = .returned (.tuple #[.slice D 1 c', .int .i64 0]) ∧
      w'.ownsRow w.heap.size 5 1 (.slice D 1 c') 1 (u8s [11]) ∧ Step (fun _ => False) w w') := fun w => by
    have HR : Hid (∀ w, Calls Try.prog 56 #[.agg #[.int .u8 ((11 : Nat) : Int), .int .u64 0, .int .u64 0, .slice none 0 0]] w fun e w' => e = .returned (.int .i64 0) ∧ Step (fun _ => False) w w') := fun w => by
      have := right_walk w 11 0 0 0 0 none (by decide)
      rw [show rgtF 11 0 0 0 = 0 by kernel_rfl] at this
      exact this
    have HO : Hid (∀ w, Calls Try.prog 25 #[.int .u8 ((11 : Nat) : Int)] w fun e w' => e = .returned (infM (infF 11) 0) ∧ Step (fun _ => False) w w') := fun w => by
      have := of_walk w 11 (by decide)
      rw [infM_of, show (infF 11).imm = 0 by kernel_rfl] at this
      exact this
    exact iput_0 w 11 0 none (infF 11) (by decide) HR HO
  obtain ⟨a, ha, _, hbl, hc⟩ := hr.2 (by decide)
  injection ha with ha
  subst ha
  replace hc : ∀ (j : Nat) (u : Value), [Value.int .u8 11, .int .u64 0, .int .u64 0, .slice none 0 0][j]? = some u → w.cell? ⟨bb, off + j, none⟩ = some u := fun j u h => by have := hc j u h; rwa [Addr.add_lit] at this
  go_enter Try.func61, Try.ntmps61
  go_wp2_with fail
  refine (HSh.out _ Step.refl).mono ?_
  rintro e w5 ⟨rfl, hS5⟩
  have HS5 := Lib.hid hS5
  clear hS5
  go_wp2_with fail
  go_loopw [5, 17] (fun ov iv wr => ∃ (k : Nat) (D : Option Addr) (c' : Nat), k ≤ 1 ∧ ov = .slice D k c' ∧ iv = .int .i64 (k : Int) ∧ Hid (Step (fun _ => False) w wr) ∧ Hid (wr.ownsRow w.heap.size 5 1 (.slice D k c') k (u8s (List.replicate k 11)))) (fun _ iv _ => 2 - (intOf iv).toNat)
  case atStart => exact ⟨0, none, 0, by omega, rfl, rfl, HS5, World.ownsRow_nil _ _ _ _⟩
  case round =>
    obtain ⟨k, D, c', hk, rfl, rfl, HS, HO⟩ := hrel
    by_cases h0 : k = 0
    · subst h0
      have c0 := (HS.out.cell (p := ⟨bb, off + 0, none⟩) hbl id).trans (hc 0 _ rfl)
      have c1 := (HS.out.cell (p := ⟨bb, off + 1, none⟩) hbl id).trans (hc 1 _ rfl)
      have c2 := (HS.out.cell (p := ⟨bb, off + 2, none⟩) hbl id).trans (hc 2 _ rfl)
      have c3 := (HS.out.cell (p := ⟨bb, off + 3, none⟩) hbl id).trans (hc 3 _ rfl)
      simp only [Nat.add_zero] at c0
      go_wp2_with fail
      refine (HP.out _).mono ?_
      rintro e w6 ⟨D6, c6, rfl, hown6, hS6⟩
      have HO6 := Lib.hid (own_step (HO.out.alloc _) hS6 (fun _ _ => id))
      have HR6 := Lib.hid (Reads.of_own hown6)
      have HS6 := Lib.hid ((HS.out.alloc _).trans hS6)
      clear hS6 hown6
      have hone : ∀ u ∈ u8s [11], u.oneCell' = true := u8s_one _
      have hsz := HS6.out.size
      go_wp2_with (at_builtin; refine wpList_append_src _ rfl _ _ (by rfl) E_u8 (by rfl) HO6.out (by rfl) HR6.out hone (by decide) (by omega) hsz ?_; intro D' c' w8 hown8 hgrow hat)
      have HS8 := Lib.hid (grow_step HS6.out hgrow HO6.out (Nat.le_refl _))
      exact ⟨⟨1, D', c', by omega, rfl, rfl, HS8, hown8⟩, by decide⟩
    · obtain rfl : k = 1 := by omega
      go_wp2_with fail
      go_ret2
      exact ⟨D, c', rfl, HO.out, HS.out⟩

set_option maxRecDepth 100000 in
set_option maxHeartbeats 1600000 in
theorem bright_end (w : World) (bb off : Nat) (c : Nat) (S : Nat → Prop) (hr : Reads w S 4 (some ⟨bb, off, none⟩) 1 [.int .u8 11, .int .u64 0, .int .u64 0, .slice none 0 0]) :
    Calls Try.prog 122 #[.agg #[.slice none 0 0, .slice (some ⟨bb, off, none⟩) 1 c]] w fun e w' => e = .returned (.int .i64 0) ∧ Step (fun _ => False) w w' := by
  have HC : Hid (∀ w, Calls Try.prog 66 #[.slice none 0 0] w fun e w' => e = .returned (.tuple #[.int .i64 0, .int .i64 0]) ∧ Step (fun _ => False) w w') := fun w => count_walk w none 0 [] (fun _ => False) Reads.nil_ (by simp) (by decide)
  have HSh : Hid (∀ w', Step (fun _ => False) w w' → Calls Try.prog 62 #[.slice (some ⟨bb, off, none⟩) 1 c] w' fun e w'' => e = .returned (.int .i64 0) ∧ Step (fun _ => False) w' w'') := fun w' hs => shape_end w' bb off c S (hr.step hs (fun _ _ => id))
  go_enter Try.func122, Try.ntmps122
  go_wp2_with fail
  refine (HC.out _).mono ?_
  rintro e w5 ⟨rfl, hS5⟩
  have HB5 := Lib.hid ((Blk.new w 176 #[.slice none 0 0, .slice (some ⟨bb, off, none⟩) 1 c]).step hS5 id)
  have HS5 := Lib.hid ((Step.refl.alloc _).trans hS5)
  clear hS5
  obtain ⟨X, hX⟩ : ∃ X, X = w.heap.size := ⟨_, rfl⟩
  rw [← hX] at HB5 ⊢
  clear hX
  have x0 := HB5.out.cell 0
  have x1 := HB5.out.cell 1
  simp at x0 x1
  go_wp2_with fail
  go_loopw [24] (fun iv wr => iv = .int .i64 0 ∧ wr = w5) (fun iv _ => 1 - (intOf iv).toNat)
  case atStart => exact ⟨rfl, rfl⟩
  case round =>
    obtain ⟨rfl, rfl⟩ := hrel
    go_wp2_with fail
    refine (HSh.out _ HS5.out).mono ?_
    rintro e w6 ⟨rfl, hS6⟩
    go_wp2_with fail
    go_ret
    exact ⟨rfl, HS5.out.trans hS6⟩

set_option maxRecDepth 100000 in
set_option maxHeartbeats 1600000 in
theorem bput_end (w : World) (bb off : Nat) (c : Nat) (S : Nat → Prop) (hr : Reads w S 4 (some ⟨bb, off, none⟩) 1 [.int .u8 11, .int .u64 0, .int .u64 0, .slice none 0 0]) :
    Calls Try.prog 121 #[.agg #[.slice none 0 0, .slice (some ⟨bb, off, none⟩) 1 c]] w fun e w' => ∃ D c', e = .returned (.tuple #[.slice D 3 c', .int .i64 0]) ∧
      w'.ownsRow w.heap.size 5 1 (.slice D 3 c') 3 (u8s [2, 0, 11]) ∧ Step (fun _ => False) w w' := by
  have HR : Hid (∀ w', Step (fun _ => False) w w' → Calls Try.prog 122 #[.agg #[.slice none 0 0, .slice (some ⟨bb, off, none⟩) 1 c]] w' fun e w'' => e = .returned (.int .i64 0) ∧ Step (fun _ => False) w' w'') := fun w' hs => bright_end w' bb off c S (hr.step hs (fun _ _ => id))
  have HP : Hid (∀ w', Step (fun _ => False) w w' → Calls Try.prog 61 #[.slice (some ⟨bb, off, none⟩) 1 c] w' fun e w'' => ∃ D c', e = .returned (.tuple #[.slice D 1 c', .int .i64 0]) ∧
      w''.ownsRow w'.heap.size 5 1 (.slice D 1 c') 1 (u8s [11]) ∧ Step (fun _ => False) w' w'') := fun w' hs => putbody_end w' bb off c S (hr.step hs (fun _ _ => id))
  have HU : Hid (∀ w, Calls Try.prog 149 #[.int .u64 0] w fun e w' => ∃ D c, e = .returned (.slice D 1 c) ∧ w'.ownsRow w.heap.size 5 1 (.slice D 1 c) 1 (u8s [0]) ∧ Step (fun _ => False) w w') := fun w => uint_walk w 0 (by decide)
  have HV : Hid (∀ w, Calls Try.prog 149 #[.int .u64 2] w fun e w' => ∃ D c, e = .returned (.slice D 1 c) ∧ w'.ownsRow w.heap.size 5 1 (.slice D 1 c) 1 (u8s [2]) ∧ Step (fun _ => False) w w') := fun w => uint_walk w 2 (by decide)
  go_enter Try.func121, Try.ntmps121
  go_wp2_with fail
  refine (HR.out _ (Step.refl.alloc _)).mono ?_
  rintro e w5 ⟨rfl, hS5⟩
  have HB5 := Lib.hid ((Blk.new w 176 #[.slice none 0 0, .slice (some ⟨bb, off, none⟩) 1 c]).step hS5 id)
  have HS5 := Lib.hid ((Step.refl.alloc _).trans hS5)
  clear hS5
  obtain ⟨X, hX⟩ : ∃ X, X = w.heap.size := ⟨_, rfl⟩
  rw [← hX] at HB5 ⊢
  clear hX
  have x0 := HB5.out.cell 0
  have x1 := HB5.out.cell 1
  simp at x0 x1
  go_wp2_with fail
  refine (HP.out _ HS5.out).mono ?_
  rintro e w6 ⟨D6, c6, rfl, hown6, hS6⟩
  have HO6 := Lib.hid (own_base hown6 (base' := w.heap.size) (fun k hk => Nat.le_trans HS5.out.size (own_ge hown6 k hk)))
  have HB6 := Lib.hid (HB5.out.step hS6 id)
  have HS6 := Lib.hid (HS5.out.trans hS6)
  clear hS6 hown6 x0 x1
  have x0 := HB6.out.cell 0
  have x1 := HB6.out.cell 1
  simp at x0 x1
  go_wp2_with fail
  refine (HU.out _).mono ?_
  rintro e w7 ⟨D7, c7, rfl, hown7, hS7⟩
  have HO7 := Lib.hid (own_step HO6.out hS7 (fun _ _ => id))
  have HP7 := Lib.hid (own_base hown7 (base' := w.heap.size) (fun k hk => Nat.le_trans HS6.out.size (own_ge hown7 k hk)))
  have HB7 := Lib.hid (HB6.out.step hS7 id)
  have HS7 := Lib.hid (HS6.out.trans hS7)
  clear hS7 hown7 x0 x1
  have x0 := HB7.out.cell 0
  have x1 := HB7.out.cell 1
  simp at x0 x1
  go_wp2_with fail
  go_loopw [7, 32] (fun ov iv wr => ov = .slice D7 1 c7 ∧ iv = .int .i64 0 ∧ wr = w7) (fun _ iv _ => 1 - (intOf iv).toNat)
  case atStart => exact ⟨rfl, rfl, rfl⟩
  case round =>
    obtain ⟨rfl, rfl, rfl⟩ := hrel
    have HR7 := Lib.hid (Reads.of_own HO7.out)
    have hone : ∀ u ∈ u8s [11], u.oneCell' = true := u8s_one _
    have hsz := HS7.out.size
    go_wp2_with (at_builtin; refine wpList_append_src _ rfl _ _ (by rfl) E_u8 (by rfl) HP7.out (by rfl) HR7.out hone (by decide) (by omega) hsz ?_; intro D8 c8 w8 hown8 hgrow8 hat8)
    have HS8 := Lib.hid (grow_step HS7.out hgrow8 HP7.out (Nat.le_refl _))
    rw [← u8s_append] at hown8
    clear hgrow8 hat8
    refine (HV.out _).mono ?_
    rintro e w9 ⟨D9, c9, rfl, hown9, hS9⟩
    have HO9 := Lib.hid (own_step hown8 hS9 (fun _ _ => id))
    have HR9 := Lib.hid (Reads.of_own HO9.out)
    have HP9 := Lib.hid (own_base hown9 (base' := w.heap.size) (fun k hk => Nat.le_trans HS8.out.size (own_ge hown9 k hk)))
    have HS9 := Lib.hid (HS8.out.trans hS9)
    have hone2 : ∀ u ∈ u8s ([0] ++ [11]), u.oneCell' = true := u8s_one _
    have hsz9 := HS9.out.size
    clear hown8 hown9 hS9
    go_wp2_with (at_builtin; refine wpList_append_src _ rfl _ _ (by rfl) E_u8 (by rfl) HP9.out (by rfl) HR9.out hone2 (by decide) (by omega) hsz9 ?_; intro D10 c10 w10 hown10 hgrow10 hat10)
    have HS10 := Lib.hid (grow_step HS9.out hgrow10 HP9.out (Nat.le_refl _))
    go_ret2
    exact ⟨D10, c10, rfl, hown10, HS10.out⟩

set_option maxRecDepth 100000 in
set_option maxHeartbeats 1600000 in
theorem awake14 (w : World) : Calls Try.prog 65 #[] w fun e w' => e = .returned (.bool true) ∧ Step (fun _ => False) w w' := by
  have hrd := reads_new (w := w) #[.int .u8 11, .int .u64 0, .int .u64 0, .slice none 0 0] 50 4 1 rfl
  go_enter Try.func65, Try.ntmps65
  go_wp2_with fail
  refine (bput_end _ _ _ _ _ hrd).mono ?_
  rintro e w5 ⟨D, c, rfl, hown, hS⟩
  have hcv := conv_bytes (c := c) (Reads.of_own hown)
  rw [show str [2, 0, 11] = (⟨#[2, 0, 11]⟩ : ByteArray) from rfl] at hcv
  have HS := Lib.hid ((Step.refl.alloc _).trans hS)
  clear hown hS hrd
  go_wp2_with fail
  go_ret
  exact ⟨rfl, HS.out⟩
end Go.Proofs.Ytfemeendkjcffaa
