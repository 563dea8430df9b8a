/-
  consts: Type; the constant of a value; Cut.
-/
import Derived.Test.YtfemeendkjcffaaVaB
set_option linter.unusedVariables false
set_option linter.unusedSimpArgs false
namespace Go.Proofs.Ytfemeendkjcffaa
open Go.RowKit

/-- A global's type: of its value, whether it may change. -/
def gtC (g : Nat × Bool) : List Value := [.int .u8 (g.1 : Int), .bool g.2]
def ctF (op a : Nat) (l : List (Nat × Bool)) : Nat × Nat :=
  if op = 65 then (127, 0) else if op = 66 then (126, 0) else match l[a]? with
    | some g => if g.2 then (0, 24) else (g.1, 0)
    | none => (0, 24)

set_option maxRecDepth 100000 in
set_option maxHeartbeats 1600000 in
theorem ctype_err (w : World) (op a b n c m cc : Nat) (A B : Option Addr) (hop : op < 256) (h : ¬ crtF op a b n = 0) :
    Calls Try.prog 41 #[insV op a b A n c, .slice B m cc] w fun e w' => e = .returned (.tuple #[.int .u8 0, .int .i64 (crtF op a b n : Nat)]) ∧ Step (fun _ => False) w w' := by
  have HR : Hid (∀ w, Calls Try.prog 38 #[insV op a b A n c] w fun e w' => e = .returned (.int .i64 (crtF op a b n : Nat)) ∧ Step (fun _ => False) w w') := fun w => cright_walk w op a b n c A hop
  obtain ⟨r, hr⟩ : ∃ r : Int, r = (crtF op a b n : Nat) := ⟨_, rfl⟩
  have hne : ¬ r = 0 := by omega
  have hnb : (r != 0) = true := bne_iff_ne.2 hne
  rw [← hr] at HR ⊢
  simp only [insV] at HR ⊢
  clear hr h
  go_enter Try.func41, Try.ntmps41
  go_wp2_with fail
  refine (HR.out _).mono ?_
  rintro e w5 ⟨rfl, hS5⟩
  have HS5 := Lib.hid ((Step.refl.alloc _).trans hS5)
  clear hS5
  go_wp2_with fail
  go_ret2
  exact ⟨rfl, HS5.out⟩

set_option maxRecDepth 100000 in
set_option maxHeartbeats 1600000 in
theorem ctype_ok (w : World) (op a c cc : Nat) (A B : Option Addr) (l : List (Nat × Bool)) (S : Nat → Prop) (hok : ConstOk op a) (ha : a < 18446744073709551616) (hl : l.length ≤ 1000) (hr : Reads w S 2 B l.length (l.flatMap gtC)) :
    Calls Try.prog 41 #[.agg #[.int .u8 (op : Int), .int .u64 (a : Int), .int .u64 0, .slice A 0 c], .slice B l.length cc] w fun e w' => e = .returned (.tuple #[.int .u8 ((ctF op a l).1 : Nat), .int .i64 ((ctF op a l).2 : Nat)]) ∧ Step (fun _ => False) w w' := by
  have hop : op < 256 := by rcases hok with ⟨rfl, h⟩ | ⟨rfl, h⟩ | rfl <;> decide
  have HR : Hid (∀ w, Calls Try.prog 38 #[.agg #[.int .u8 (op : Int), .int .u64 (a : Int), .int .u64 0, .slice A 0 c]] w fun e w' => e = .returned (.int .i64 0) ∧ Step (fun _ => False) w w') := fun w => by
    have := cright_walk w op a 0 0 c A hop
    rw [crt_ok hok] at this
    exact this
  have hwl := IntWalk.u64_in (l.length : Int) (by omega)
  rcases hok with ⟨rfl, h⟩ | ⟨rfl, h⟩ | rfl
  · rw [ctF, if_neg (by decide), if_neg (by decide)]
    by_cases hlt : a < l.length
    · rw [List.getElem?_eq_getElem hlt]
      have g2 : (a : Int) < (l.length : Int) := by omega
      have g1 : ¬ (l.length : Int) ≤ (a : Int) := by omega
      have g3 : decide ((l.length : Int) ≤ (a : Int)) = false := decide_eq_false g1
      obtain ⟨⟨t, mu⟩, hv⟩ : ∃ v, v = l[a] := ⟨_, rfl⟩
      obtain ⟨bb, off, rfl, _, hbl, hc⟩ := st_cells gtC 2 (by decide) (fun _ => rfl) hr hlt
      rw [← hv] at hc ⊢
      have HD0 := Lib.hid (hc 0 _ rfl)
      have HD1 := Lib.hid (hc 1 _ rfl)
      clear hc hr hv
      cases mu <;>
      · go_enter Try.func41, Try.ntmps41
        go_wp2_with fail
        refine (HR.out _).mono ?_
        rintro e w5 ⟨rfl, hS5⟩
        have HB5 := Lib.hid ((Blk.new w 50 #[.int .u8 (((35 : Nat) : Int)), .int .u64 (a : Int), .int .u64 0, .slice A 0 c]).step hS5 id)
        have HS5 := Lib.hid ((Step.refl.alloc _).trans hS5)
        clear hS5
        obtain ⟨X, hX⟩ : ∃ X, X = w.heap.size := ⟨_, rfl⟩
        rw [← hX] at HB5 ⊢
        clear hX
        have x0 := HB5.out.cell 0
        have x1 := HB5.out.cell 1
        simp at x0 x1
        have c0 := (HS5.out.cell (p := ⟨bb, off + a * 2 + 0, none⟩) hbl id).trans HD0.out
        have c1 := (HS5.out.cell (p := ⟨bb, off + a * 2 + 1, none⟩) hbl id).trans HD1.out
        simp only [Nat.add_zero] at c0
        go_wp2_with fail
        go_ret2
        exact ⟨rfl, HS5.out⟩
    · rw [List.getElem?_eq_none (by omega)]
      have g1 : (l.length : Int) ≤ (a : Int) := by omega
      have g3 : decide ((l.length : Int) ≤ (a : Int)) = true := decide_eq_true g1
      clear hr
      go_enter Try.func41, Try.ntmps41
      go_wp2_with fail
      refine (HR.out _).mono ?_
      rintro e w5 ⟨rfl, hS5⟩
      have HB5 := Lib.hid ((Blk.new w 50 #[.int .u8 (((35 : Nat) : Int)), .int .u64 (a : Int), .int .u64 0, .slice A 0 c]).step hS5 id)
      have HS5 := Lib.hid ((Step.refl.alloc _).trans hS5)
      clear hS5
      obtain ⟨X, hX⟩ : ∃ X, X = w.heap.size := ⟨_, rfl⟩
      rw [← hX] at HB5 ⊢
      clear hX
      have x0 := HB5.out.cell 0
      have x1 := HB5.out.cell 1
      simp at x0 x1
      go_wp2_with fail
      go_ret2
      exact ⟨rfl, HS5.out⟩
  · rw [ctF, if_pos rfl]
    clear hr
    go_enter Try.func41, Try.ntmps41
    go_wp2_with fail
    refine (HR.out _).mono ?_
    rintro e w5 ⟨rfl, hS5⟩
    have HB5 := Lib.hid ((Blk.new w 50 #[.int .u8 (((65 : Nat) : Int)), .int .u64 (a : Int), .int .u64 0, .slice A 0 c]).step hS5 id)
    have HS5 := Lib.hid ((Step.refl.alloc _).trans hS5)
    clear hS5
    obtain ⟨X, hX⟩ : ∃ X, X = w.heap.size := ⟨_, rfl⟩
    rw [← hX] at HB5 ⊢
    clear hX
    have x0 := HB5.out.cell 0
    simp at x0
    go_wp2_with fail
    go_ret2
    exact ⟨rfl, HS5.out⟩
  · rw [ctF, if_neg (by decide), if_pos rfl]
    clear hr
    go_enter Try.func41, Try.ntmps41
    go_wp2_with fail
    refine (HR.out _).mono ?_
    rintro e w5 ⟨rfl, hS5⟩
    have HB5 := Lib.hid ((Blk.new w 50 #[.int .u8 (((66 : Nat) : Int)), .int .u64 (a : Int), .int .u64 0, .slice A 0 c]).step hS5 id)
    have HS5 := Lib.hid ((Step.refl.alloc _).trans hS5)
    clear hS5
    obtain ⟨X, hX⟩ : ∃ X, X = w.heap.size := ⟨_, rfl⟩
    rw [← hX] at HB5 ⊢
    clear hX
    have x0 := HB5.out.cell 0
    simp at x0
    go_wp2_with fail
    go_ret2
    exact ⟨rfl, HS5.out⟩
end Go.Proofs.Ytfemeendkjcffaa
