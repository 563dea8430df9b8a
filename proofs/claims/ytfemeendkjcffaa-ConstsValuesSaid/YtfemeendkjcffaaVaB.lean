/-
  consts: the reference's Value.
-/
import Derived.Test.YtfemeendkjcffaaVaA
set_option linter.unusedVariables false
set_option linter.unusedSimpArgs false
namespace Go.Proofs.Ytfemeendkjcffaa
open Go.RowKit

set_option maxRecDepth 100000 in
set_option maxHeartbeats 1600000 in
theorem rvalue8_err (w : World) (op a b n c m cc : Nat) (A B : Option Addr) (hop : op < 256) (h : ¬ crtF op a b n = 0) :
    Calls Try.prog 44 #[insV op a b A n c, .slice B m cc] w fun e w' => e = .returned (.tuple #[valV (0, 0), .int .i64 (crtF op a b n : Nat)]) ∧ Step (fun _ => False) w w' := by
  have HR : Hid (∀ w, Calls Try.prog 35 #[insV op a b A n c] w fun e w' => e = .returned (.int .i64 (crtF op a b n : Nat)) ∧ Step (fun _ => False) w w') := fun w => crright_walk w op a b n c A hop
  obtain ⟨r, hr⟩ : ∃ r : Int, r = (crtF op a b n : Nat) := ⟨_, rfl⟩
  have hne : ¬ r = 0 := by omega
  have hnb : (r != 0) = true := bne_iff_ne.2 hne
  rw [← hr] at HR ⊢
  simp only [insV] at HR ⊢
  clear hr h
  · skip
    go_enter Try.func44, Try.ntmps44
    go_wp2_with fail
    refine (HR.out _).mono ?_
    rintro e w5 ⟨rfl, hS5⟩
    have HB5 := Lib.hid (((Blk.new w 50 #[.int .u8 (op : Int), .int .u64 (a : Int), .int .u64 (b : Int), .slice A n c]).alloc (.cells (valA (0, 0)) 63)).step hS5 id)
    have HV5 := Lib.hid ((Blk.new (w.alloc (.cells #[.int .u8 (op : Int), .int .u64 (a : Int), .int .u64 (b : Int), .slice A n c] 50)) 63 (valA (0, 0))).step hS5 id)
    have HS5 := Lib.hid (((Step.refl.alloc _).alloc _).trans hS5)
    clear hS5
    rw [show (w.alloc (.cells #[.int .u8 (op : Int), .int .u64 (a : Int), .int .u64 (b : Int), .slice A n c] 50)).heap.size = w.heap.size + 1 by simp] at HV5
    obtain ⟨X, hX⟩ : ∃ X, X = w.heap.size := ⟨_, rfl⟩
    rw [← hX] at HB5 HV5 ⊢
    have HX : Hid (w.heap.size ≤ X + 1) := by rw [hX]; exact Nat.le_succ _
    clear hX
    have x0 := HB5.out.cell 0
    have x1 := HB5.out.cell 1
    simp at x0 x1
    have hz := HV5.out.row (valA (0, 0))
    have z0 := hz.cell 0
    have z1 := hz.cell 1
    simp [valA] at z0 z1
    clear hz
    go_wp2_with first
      | (refine wpList_store_rowTo rfl 63 _ _ rfl rfl (X + 1) (valA (0, 0)) rfl rfl 63 _ HV5.out rfl rfl (valA_one _) ?_)
    exact bodyPost_ret (v := .tuple #[valV (0, 0), .int .i64 r]) (by simp [results, Try.results44, go_sem, valV, valA, z0, z1]) rfl ⟨rfl, HS5.out.setRow (.inr HX.out) _⟩

set_option maxRecDepth 100000 in
set_option maxHeartbeats 1600000 in
theorem rvalue8_ok (w : World) (op a c cc : Nat) (A B : Option Addr) (l : List (Nat × Nat)) (S : Nat → Prop) (hok : ConstOk op a) (ha : a < 18446744073709551616) (hl : l.length ≤ 1000) (hr : Reads w S 2 B l.length (l.flatMap valC)) :
    Calls Try.prog 44 #[.agg #[.int .u8 (op : Int), .int .u64 (a : Int), .int .u64 0, .slice A 0 c], .slice B l.length cc] w fun e w' => e = .returned (.tuple #[valV (cvF op a l).1, .int .i64 ((cvF op a l).2 : Nat)]) ∧ Step (fun _ => False) w w' := by
  have hop : op < 256 := by rcases hok with ⟨rfl, h⟩ | ⟨rfl, h⟩ | rfl <;> decide
  have HR : Hid (∀ w, Calls Try.prog 35 #[.agg #[.int .u8 (op : Int), .int .u64 (a : Int), .int .u64 0, .slice A 0 c]] w fun e w' => e = .returned (.int .i64 0) ∧ Step (fun _ => False) w w') := fun w => by
    have := crright_walk w op a 0 0 c A hop
    rw [crt_ok hok] at this
    exact this
  have hwl := IntWalk.u64_in (l.length : Int) (by omega)
  rcases hok with ⟨rfl, h⟩ | ⟨rfl, h⟩ | rfl
  · rw [cvF, if_neg (by decide), if_neg (by decide)]
    by_cases hlt : a < l.length
    · rw [List.getElem?_eq_getElem hlt]
      have g1 : ¬ (l.length : Int) ≤ (a : Int) := by omega
      have g2 : (a : Int) < (l.length : Int) := by omega
      have HRd := Lib.hid hr
      obtain ⟨v, hv⟩ : ∃ v, v = l[a] := ⟨_, rfl⟩
      obtain ⟨bb, off, rfl, _, hbl, hc⟩ := st_cells valC 2 (by decide) (fun _ => rfl) hr hlt
      rw [← hv] at hc ⊢
      have d0 := hc 0 _ rfl
      have d1 := hc 1 _ rfl
      simp only [Nat.add_zero] at d0 d1
      have HD0 := Lib.hid d0
      have HD1 := Lib.hid d1
      clear hc hr hv d0 d1
      go_enter Try.func44, Try.ntmps44
      go_wp2_with fail
      refine (HR.out _).mono ?_
      rintro e w5 ⟨rfl, hS5⟩
      have HB5 := Lib.hid (((Blk.new w 50 #[.int .u8 (((35 : Nat) : Int)), .int .u64 (a : Int), .int .u64 0, .slice A 0 c]).alloc (.cells (valA (0, 0)) 63)).step hS5 id)
      have HV5 := Lib.hid ((Blk.new (w.alloc (.cells #[.int .u8 (((35 : Nat) : Int)), .int .u64 (a : Int), .int .u64 0, .slice A 0 c] 50)) 63 (valA (0, 0))).step hS5 id)
      have HS5 := Lib.hid (((Step.refl.alloc _).alloc _).trans hS5)
      clear hS5
      rw [show (w.alloc (.cells #[.int .u8 (((35 : Nat) : Int)), .int .u64 (a : Int), .int .u64 0, .slice A 0 c] 50)).heap.size = w.heap.size + 1 by simp] at HV5
      obtain ⟨X, hX⟩ : ∃ X, X = w.heap.size := ⟨_, rfl⟩
      rw [← hX] at HB5 HV5 ⊢
      have HX : Hid (w.heap.size ≤ X + 1) := by rw [hX]; exact Nat.le_succ _
      clear hX
      have x0 := HB5.out.cell 0
      have x1 := HB5.out.cell 1
      simp at x0 x1
      have hz := HV5.out.row (valA v)
      have z0 := hz.cell 0
      have z1 := hz.cell 1
      simp [valA] at z0 z1
      clear hz
      have c0 : w5.cell? ⟨bb, off + a * 2, none⟩ = some (.int .u8 (v.1 : Int)) := (HS5.out.cell (p := ⟨bb, off + a * 2, none⟩) hbl id).trans HD0.out
      have c1 : w5.cell? ⟨bb, off + a * 2 + 1, none⟩ = some (.int .u64 (v.2 : Int)) := (HS5.out.cell (p := ⟨bb, off + a * 2 + 1, none⟩) hbl id).trans HD1.out
      go_wp2_with first
        | (refine wpList_store_rowTo rfl 63 _ _ rfl rfl (X + 1) (valA v) rfl rfl 63 _ HV5.out rfl rfl (valA_one _) ?_)
      exact bodyPost_ret (v := .tuple #[valV v, .int .i64 0]) (by simp [results, Try.results44, go_sem, valV, valA, z0, z1]) rfl ⟨rfl, HS5.out.setRow (.inr HX.out) _⟩
    · rw [List.getElem?_eq_none (by omega)]
      have g1 : (l.length : Int) ≤ (a : Int) := by omega
      clear hr
      go_enter Try.func44, Try.ntmps44
      go_wp2_with fail
      refine (HR.out _).mono ?_
      rintro e w5 ⟨rfl, hS5⟩
      have HB5 := Lib.hid (((Blk.new w 50 #[.int .u8 (((35 : Nat) : Int)), .int .u64 (a : Int), .int .u64 0, .slice A 0 c]).alloc (.cells (valA (0, 0)) 63)).step hS5 id)
      have HV5 := Lib.hid ((Blk.new (w.alloc (.cells #[.int .u8 (((35 : Nat) : Int)), .int .u64 (a : Int), .int .u64 0, .slice A 0 c] 50)) 63 (valA (0, 0))).step hS5 id)
      have HS5 := Lib.hid (((Step.refl.alloc _).alloc _).trans hS5)
      clear hS5
      rw [show (w.alloc (.cells #[.int .u8 (((35 : Nat) : Int)), .int .u64 (a : Int), .int .u64 0, .slice A 0 c] 50)).heap.size = w.heap.size + 1 by simp] at HV5
      obtain ⟨X, hX⟩ : ∃ X, X = w.heap.size := ⟨_, rfl⟩
      rw [← hX] at HB5 HV5 ⊢
      have HX : Hid (w.heap.size ≤ X + 1) := by rw [hX]; exact Nat.le_succ _
      clear hX
      have x0 := HB5.out.cell 0
      have x1 := HB5.out.cell 1
      simp at x0 x1
      have hz := HV5.out.row (valA (0, 0))
      have z0 := hz.cell 0
      have z1 := hz.cell 1
      simp [valA] at z0 z1
      clear hz
      go_wp2_with first
        | (refine wpList_store_rowTo rfl 63 _ _ rfl rfl (X + 1) (valA (0, 0)) rfl rfl 63 _ HV5.out rfl rfl (valA_one _) ?_)
      exact bodyPost_ret (v := .tuple #[valV (0, 0), .int .i64 24]) (by simp [results, Try.results44, go_sem, valV, valA, z0, z1]) rfl ⟨rfl, HS5.out.setRow (.inr HX.out) _⟩
  · rw [cvF, if_pos rfl]
    have hw32 := IntWalk.u32_in (a : Int) (by omega)
    have hw64 := IntWalk.u64_in (a : Int) (by omega)
    clear hr
    go_enter Try.func44, Try.ntmps44
    go_wp2_with fail
    refine (HR.out _).mono ?_
    rintro e w5 ⟨rfl, hS5⟩
    have HB5 := Lib.hid (((Blk.new w 50 #[.int .u8 (((65 : Nat) : Int)), .int .u64 (a : Int), .int .u64 0, .slice A 0 c]).alloc (.cells (valA (0, 0)) 63)).step hS5 id)
    have HV5 := Lib.hid ((Blk.new (w.alloc (.cells #[.int .u8 (((65 : Nat) : Int)), .int .u64 (a : Int), .int .u64 0, .slice A 0 c] 50)) 63 (valA (0, 0))).step hS5 id)
    have HS5 := Lib.hid (((Step.refl.alloc _).alloc _).trans hS5)
    clear hS5
    rw [show (w.alloc (.cells #[.int .u8 (((65 : Nat) : Int)), .int .u64 (a : Int), .int .u64 0, .slice A 0 c] 50)).heap.size = w.heap.size + 1 by simp] at HV5
    obtain ⟨X, hX⟩ : ∃ X, X = w.heap.size := ⟨_, rfl⟩
    rw [← hX] at HB5 HV5 ⊢
    have HX : Hid (w.heap.size ≤ X + 1) := by rw [hX]; exact Nat.le_succ _
    clear hX
    have x0 := HB5.out.cell 0
    have x1 := HB5.out.cell 1
    simp at x0 x1
    have hz := HV5.out.row (valA (127, a))
    have z0 := hz.cell 0
    have z1 := hz.cell 1
    simp [valA] at z0 z1
    clear hz
    go_wp2_with first
      | (refine wpList_store_rowTo rfl 63 _ _ rfl rfl (X + 1) (valA (127, a)) rfl rfl 63 _ HV5.out rfl rfl (valA_one _) ?_)
    exact bodyPost_ret (v := .tuple #[valV (127, a), .int .i64 0]) (by simp [results, Try.results44, go_sem, valV, valA, z0, z1]) rfl ⟨rfl, HS5.out.setRow (.inr HX.out) _⟩
  · rw [cvF, if_neg (by decide), if_pos rfl]
    clear hr
    go_enter Try.func44, Try.ntmps44
    go_wp2_with fail
    refine (HR.out _).mono ?_
    rintro e w5 ⟨rfl, hS5⟩
    have HB5 := Lib.hid (((Blk.new w 50 #[.int .u8 (((66 : Nat) : Int)), .int .u64 (a : Int), .int .u64 0, .slice A 0 c]).alloc (.cells (valA (0, 0)) 63)).step hS5 id)
    have HV5 := Lib.hid ((Blk.new (w.alloc (.cells #[.int .u8 (((66 : Nat) : Int)), .int .u64 (a : Int), .int .u64 0, .slice A 0 c] 50)) 63 (valA (0, 0))).step hS5 id)
    have HS5 := Lib.hid (((Step.refl.alloc _).alloc _).trans hS5)
    clear hS5
    rw [show (w.alloc (.cells #[.int .u8 (((66 : Nat) : Int)), .int .u64 (a : Int), .int .u64 0, .slice A 0 c] 50)).heap.size = w.heap.size + 1 by simp] at HV5
    obtain ⟨X, hX⟩ : ∃ X, X = w.heap.size := ⟨_, rfl⟩
    rw [← hX] at HB5 HV5 ⊢
    have HX : Hid (w.heap.size ≤ X + 1) := by rw [hX]; exact Nat.le_succ _
    clear hX
    have x0 := HB5.out.cell 0
    have x1 := HB5.out.cell 1
    simp at x0 x1
    have hz := HV5.out.row (valA (126, a))
    have z0 := hz.cell 0
    have z1 := hz.cell 1
    simp [valA] at z0 z1
    clear hz
    go_wp2_with first
      | (refine wpList_store_rowTo rfl 63 _ _ rfl rfl (X + 1) (valA (126, a)) rfl rfl 63 _ HV5.out rfl rfl (valA_one _) ?_)
    exact bodyPost_ret (v := .tuple #[valV (126, a), .int .i64 0]) (by simp [results, Try.results44, go_sem, valV, valA, z0, z1]) rfl ⟨rfl, HS5.out.setRow (.inr HX.out) _⟩
end Go.Proofs.Ytfemeendkjcffaa
