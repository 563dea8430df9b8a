/-
  datas: the law DatasPuts, its walk.
-/
import Derived.Test.YtfemeendkjcffaaDaD
set_option linter.unusedVariables false
set_option linter.unusedSimpArgs false
namespace Go.Proofs.Ytfemeendkjcffaa
open Go.RowKit

set_option maxRecDepth 100000 in
set_option maxHeartbeats 1600000 in
theorem dputs_big1 (w : World) (op a b n c : Nat) (A : Option Addr) (ds : List UInt8) (h1 : (200 : Int) < ds.length) :
    Calls Try.prog 18 #[.agg (datX op a b A n c (str ds))] w fun e w' => e = .returned (.bool true) ∧ Step (fun _ => False) w w' := by
  have hsz := str_size ds
  have g1' : decide ((200 : Int) < (ds.length : Int)) = true := decide_eq_true h1
  have HX0 := Lib.hid (Blk.new w 156 (datX op a b A n c (str ds)))
  have HS0 := Lib.hid ((Step.refl (F := fun _ => False)).alloc (w := w) (.cells (datX op a b A n c (str ds)) 156))
  go_enter Try.func18, Try.ntmps18
  go_wp2_with fail
  refine (awake15 _).mono ?_
  rintro e w5 ⟨rfl, hS5⟩
  have HX5 := Lib.hid (HX0.out.step hS5 id)
  have HS5 := Lib.hid (HS0.out.trans hS5)
  clear hS5 HX0 HS0
  obtain ⟨X, hX⟩ : ∃ X, X = w.heap.size := ⟨_, rfl⟩
  rw [← hX] at HX5 ⊢
  have HXe := Lib.hid hX
  clear hX
  have x0 := HX5.out.cell 0
  have x1 := HX5.out.cell 1
  have x2 := HX5.out.cell 2
  have x3 := HX5.out.cell 3
  have x4 := HX5.out.cell 4
  simp [datX] at x0 x1 x2 x3 x4
  go_wp2_with fail
  go_ret
  exact ⟨rfl, HS5.out⟩

set_option maxRecDepth 100000 in
set_option maxHeartbeats 1600000 in
theorem dputs_big2 (w : World) (op a b n c : Nat) (A : Option Addr) (ds : List UInt8) (h1 : ¬ (200 : Int) < ds.length) (h2 : (100 : Int) < n) :
    Calls Try.prog 18 #[.agg (datX op a b A n c (str ds))] w fun e w' => e = .returned (.bool true) ∧ Step (fun _ => False) w w' := by
  have hsz := str_size ds
  have g1' : decide ((200 : Int) < (ds.length : Int)) = false := decide_eq_false h1
  have g2' : decide ((100 : Int) < (n : Int)) = true := decide_eq_true h2
  have HX0 := Lib.hid (Blk.new w 156 (datX op a b A n c (str ds)))
  have HS0 := Lib.hid ((Step.refl (F := fun _ => False)).alloc (w := w) (.cells (datX op a b A n c (str ds)) 156))
  go_enter Try.func18, Try.ntmps18
  go_wp2_with fail
  refine (awake15 _).mono ?_
  rintro e w5 ⟨rfl, hS5⟩
  have HX5 := Lib.hid (HX0.out.step hS5 id)
  have HS5 := Lib.hid (HS0.out.trans hS5)
  clear hS5 HX0 HS0
  obtain ⟨X, hX⟩ : ∃ X, X = w.heap.size := ⟨_, rfl⟩
  rw [← hX] at HX5 ⊢
  have HXe := Lib.hid hX
  clear hX
  have x0 := HX5.out.cell 0
  have x1 := HX5.out.cell 1
  have x2 := HX5.out.cell 2
  have x3 := HX5.out.cell 3
  have x4 := HX5.out.cell 4
  simp [datX] at x0 x1 x2 x3 x4
  go_wp2_with fail
  go_ret
  exact ⟨rfl, HS5.out⟩

set_option maxRecDepth 100000 in
set_option maxHeartbeats 3200000 in
theorem dputs_err (w : World) (op a b n c : Nat) (A : Option Addr) (ds : List UInt8) (hop : op < 256) (l1 : ds.length ≤ 200) (l2 : n ≤ 100) (hz : ¬ crtF op a b n = 0) :
    Calls Try.prog 18 #[.agg (datX op a b A n c (str ds))] w fun e w' => e = .returned (.bool true) ∧ Step (fun _ => False) w w' := by
  have hsz := str_size ds
  have g1 : ¬ (200 : Int) < ds.length := by omega
  have g2 : ¬ (100 : Int) < n := by omega
  have g1' : decide ((200 : Int) < (ds.length : Int)) = false := decide_eq_false g1
  have g2' : decide ((100 : Int) < (n : Int)) = false := decide_eq_false g2
  have HR : Hid (∀ w, Calls Try.prog 106 #[.agg (datX op a b A n c (str ds))] w fun e w' => e = .returned (.int .i64 (crtF op a b n : Nat)) ∧ Step (fun _ => False) w w') := fun w => dright_walk w op a b n c A hop ds (by omega)
  have HQ : Hid (∀ w, Calls Try.prog 104 #[.agg (datX op a b A n c (str ds))] w fun e w' => e = .returned (.int .i64 (crtF op a b n : Nat)) ∧ Step (fun _ => False) w w') := fun w => drright_walk w op a b n c A hop (str ds)
  have HP : Hid (∀ w, Calls Try.prog 105 #[.agg (datX op a b A n c (str ds))] w fun e w' => e = .returned (.tuple #[.slice none 0 0, .int .i64 (crtF op a b n : Nat)]) ∧ Step (fun _ => False) w w') := fun w => dput_err w op a b n c A hop ds (by omega) hz
  obtain ⟨r, hr⟩ : ∃ r : Int, r = (crtF op a b n : Nat) := ⟨_, rfl⟩
  have hne : ¬ r = 0 := by omega
  have hnb : (r != 0) = true := bne_iff_ne.2 hne
  have hrr : (r != r) = false := by simp
  rw [← hr] at HR HQ HP
  clear hr hz
  have HX0 := Lib.hid (Blk.new w 156 (datX op a b A n c (str ds)))
  have HS0 := Lib.hid ((Step.refl (F := fun _ => False)).alloc (w := w) (.cells (datX op a b A n c (str ds)) 156))
  go_enter Try.func18, Try.ntmps18
  go_wp2_with fail
  refine (awake15 _).mono ?_
  rintro e w5 ⟨rfl, hS5⟩
  have HX5 := Lib.hid (HX0.out.step hS5 id)
  have HS5 := Lib.hid (HS0.out.trans hS5)
  clear hS5 HX0 HS0
  obtain ⟨X, hX⟩ : ∃ X, X = w.heap.size := ⟨_, rfl⟩
  rw [← hX] at HX5 ⊢
  have HXe := Lib.hid hX
  clear hX
  have x0 := HX5.out.cell 0
  have x1 := HX5.out.cell 1
  have x2 := HX5.out.cell 2
  have x3 := HX5.out.cell 3
  have x4 := HX5.out.cell 4
  simp [datX] at x0 x1 x2 x3 x4
  go_wp2_with fail
  refine (HQ.out _).mono ?_
  rintro e w6 ⟨rfl, hS6⟩
  have HX6 := Lib.hid (HX5.out.step hS6 id)
  have HS6 := Lib.hid (HS5.out.trans hS6)
  clear hS6 HX5 HS5
  clear x0 x1 x2 x3 x4
  have x0 := HX6.out.cell 0
  have x1 := HX6.out.cell 1
  have x2 := HX6.out.cell 2
  have x3 := HX6.out.cell 3
  have x4 := HX6.out.cell 4
  simp [datX] at x0 x1 x2 x3 x4
  go_wp2_with fail
  refine (HP.out _).mono ?_
  rintro e w7 ⟨rfl, hS7⟩
  have HX7 := Lib.hid (HX6.out.step hS7 id)
  have HS7 := Lib.hid (HS6.out.trans hS7)
  clear hS7 HX6 HS6
  clear x0 x1 x2 x3 x4
  have x0 := HX7.out.cell 0
  have x1 := HX7.out.cell 1
  have x2 := HX7.out.cell 2
  have x3 := HX7.out.cell 3
  have x4 := HX7.out.cell 4
  simp [datX] at x0 x1 x2 x3 x4
  go_wp2_with fail
  refine (HR.out _).mono ?_
  rintro e w8 ⟨rfl, hS8⟩
  go_wp2_with fail
  go_ret
  exact ⟨rfl, HS7.out.trans hS8⟩
end Go.Proofs.Ytfemeendkjcffaa
