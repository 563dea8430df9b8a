/-
  ops: the page's example; the law OpsTell.
-/
import Derived.Test.YtfemeendkjcffaaOpI
import Derived.Laws.StructEq
set_option linter.unusedVariables false
set_option linter.unusedSimpArgs false
namespace Go.Proofs.Ytfemeendkjcffaa
open Go.RowKit

theorem inf_106 : infF 106 = ⟨[105, 51, 50, 46, 97, 100, 100], 0, [127, 127], [127], false⟩ := by kernel_rfl
theorem chk_106 : chkF 106 = 0 := by kernel_rfl

set_option maxRecDepth 100000 in
set_option maxHeartbeats 1600000 in
theorem awake06 (w : World) : Calls Try.prog 23 #[] w fun e w' => e = .returned (.bool true) ∧ Step (fun _ => False) w w' := by
  have HO : Hid (∀ w, Calls Try.prog 25 #[.int .u8 106] w fun e w' => e = .returned (.agg #[.string ⟨#[105, 51, 50, 46, 97, 100, 100]⟩, .int .i64 0, .string ⟨#[127, 127]⟩, .string ⟨#[127]⟩, .bool false]) ∧ Step (fun _ => False) w w') := fun w => by
    have := of_walk w 106 (by decide)
    rw [inf_106] at this
    exact this
  have HC : Hid (∀ w, Calls Try.prog 26 #[.int .u8 106] w fun e w' => e = .returned (.int .i64 0) ∧ Step (fun _ => False) w w') := fun w => by
    have := check_walk w 106 (by decide)
    rw [chk_106] at this
    exact this
  go_enter Try.func23, Try.ntmps23
  go_wp2_with fail
  refine (HO.out _).mono ?_
  rintro e w5 ⟨rfl, hS5⟩
  have HS5 := Lib.hid hS5
  clear hS5
  go_wp2_with fail
  refine (HC.out _).mono ?_
  rintro e w6 ⟨rfl, hS6⟩
  have HS6 := Lib.hid (HS5.out.trans hS6)
  clear hS6
  go_wp2_with fail
  go_ret
  exact ⟨rfl, HS6.out⟩

set_option maxRecDepth 100000 in
set_option maxHeartbeats 1600000 in
theorem tell_walk (w : World) (op : Nat) (h : op < 256) : Calls Try.prog 3 #[.int .u8 op] w fun e w' => e = .returned (.bool true) ∧ Step (fun _ => False) w w' := by
  have HR : Hid (∀ w, Calls Try.prog 24 #[.int .i64 (op : Int)] w fun e w' => e = .returned (.tuple #[rrV (ofR op).1, .bool (ofR op).2]) ∧ Step (fun _ => False) w w') := fun w => ofref_walk w op (by omega)
  have HO : Hid (∀ w, Calls Try.prog 25 #[.int .u8 op] w fun e w' => e = .returned (infV (infF op)) ∧ Step (fun _ => False) w w') := fun w => of_walk w op h
  have HC : Hid (∀ w, Calls Try.prog 26 #[.int .u8 op] w fun e w' => e = .returned (.int .i64 (chkF op : Nat)) ∧ Step (fun _ => False) w w') := fun w => check_walk w op h
  have HD : Hid (∀ w, Calls Try.prog 27 #[.int .i64 (op : Int)] w fun e w' => e = .returned (.int .i64 (chkR op : Nat)) ∧ Step (fun _ => False) w w') := fun w => rcheck_walk w op h
  have HP : Hid (∀ w, Calls Try.prog 28 #[.int .u8 op] w fun e w' => e = .returned (.bool (decide (2 ≤ op) && decide (op ≤ 4))) ∧ w' = w) := fun w => opens_walk w op h
  have HT : Hid (∀ (s : List UInt8) (w : World), s.length ≤ 1000 → Calls Try.prog 29 #[.string (str s)] w fun e w' => e = .returned (.string (str (typF s))) ∧ w' = w) := fun s w hs => types_walk w s hs
  have ht := tell_at op h
  rw [tellB, Bool.and_eq_true] at ht
  obtain ⟨ht1, ht2⟩ := ht
  rw [← eq_of_beq ht1] at HD
  obtain ⟨c, hc⟩ : ∃ c : Int, c = (chkF op : Nat) := ⟨_, rfl⟩
  rw [← hc] at HC HD
  obtain ⟨⟨rr, ok⟩, hok⟩ : ∃ p, p = ofR op := ⟨_, rfl⟩
  rw [← hok] at HR ht2
  obtain ⟨i, hi⟩ : ∃ i, i = infF op := ⟨_, rfl⟩
  rw [← hi] at HO ht2
  have hcast : IntKind.i64.wrap (op : Int) = (op : Int) := IntWalk.i64_in _ (by omega)
  obtain ⟨b, hb⟩ : ∃ b, b = (decide (2 ≤ op) && decide (op ≤ 4)) := ⟨_, rfl⟩
  rw [← hb] at HP
  have hcase : ((op : Int) < 2 ∧ b = false) ∨ (2 ≤ (op : Int) ∧ (op : Int) ≤ 4 ∧ b = true) ∨ (2 ≤ (op : Int) ∧ 4 < (op : Int) ∧ b = false) := by
    rw [hb, Bool.and_eq_true, Bool.and_eq_false_iff, decide_eq_false_iff_not, decide_eq_false_iff_not, decide_eq_true_eq, decide_eq_true_eq]
    omega
  clear hc hok hi ht1 hb
  cases ok
  · have hi : i = Inf.no := of_decide_eq_true ht2
    subst hi
    clear ht2
    go_enter Try.func3, Try.ntmps3
    go_wp2_with fail
    refine (awake06 _).mono ?_
    rintro e w5 ⟨rfl, hS5⟩
    have HS5 := Lib.hid hS5
    clear hS5
    go_wp2_with fail
    refine (HR.out _).mono ?_
    rintro e w6 ⟨rfl, hS6⟩
    have HS6 := Lib.hid (HS5.out.trans hS6)
    clear hS6 HS5
    simp only [rrV]
    go_wp2_with fail
    refine (HO.out _).mono ?_
    rintro e w7 ⟨rfl, hS7⟩
    have HB : Hid (Blk w7 w6.heap.size 24 #[.int .i64 rr.op, .string (str rr.name), .int .i64 (rr.imm : Int), .string (str rr.takes), .string (str rr.has), .bool rr.free]) := (Blk.new w6 _ _).step hS7 id
    have HS7 := Lib.hid ((HS6.out.alloc _).trans hS7)
    clear hS7 HS6
    obtain ⟨X, hX⟩ : ∃ X, X = w6.heap.size := ⟨_, rfl⟩
    rw [← hX] at HB ⊢
    clear hX
    simp only [infV, Inf.no, show str [] = ⟨#[]⟩ from rfl]
    go_wp2_with fail
    refine (HC.out _).mono ?_
    rintro e w8 ⟨rfl, hS8⟩
    have HB8 : Hid (Blk w8 X 24 _) := (HB.out.alloc _).step hS8 id
    have HI8 : Hid (Blk w8 w7.heap.size 29 _) := (Blk.new w7 _ _).step hS8 id
    have HS8 := Lib.hid ((HS7.out.alloc _).trans hS8)
    clear hS8 HS7 HB
    obtain ⟨Y, hY⟩ : ∃ Y, Y = w7.heap.size := ⟨_, rfl⟩
    rw [← hY] at HI8 ⊢
    clear hY
    go_wp2_with fail
    refine (HD.out _).mono ?_
    rintro e w9 ⟨rfl, hS9⟩
    have HB9 : Hid (Blk w9 X 24 _) := HB8.out.step hS9 id
    have HI9 : Hid (Blk w9 Y 29 _) := HI8.out.step hS9 id
    have HS9 := Lib.hid (HS8.out.trans hS9)
    clear hS9 HS8 HB8 HI8
    have y0 := HI9.out.cell 0
    have y1 := HI9.out.cell 1
    have y2 := HI9.out.cell 2
    have y3 := HI9.out.cell 3
    have y4 := HI9.out.cell 4
    simp at y0 y1 y2 y3 y4
    have hYl := HI9.out.lt
    rcases hcase with ⟨g1, rfl⟩ | ⟨g1, g2, rfl⟩ | ⟨g1, g2, rfl⟩ <;>
    · go_wp2_with fail
      refine (HP.out _).mono ?_
      rintro e w10 ⟨rfl, hw10⟩
      obtain rfl : w9 = w10 := hw10.symm
      go_wp2_with fail
      go_ret
      exact ⟨rfl, HS9.out⟩
  · rw [if_pos rfl] at ht2
    simp only [Bool.and_eq_true, decide_eq_true_eq] at ht2
    obtain ⟨⟨⟨hi, l1⟩, l2⟩, l3⟩ := ht2
    subst hi
    go_enter Try.func3, Try.ntmps3
    go_wp2_with fail
    refine (awake06 _).mono ?_
    rintro e w5 ⟨rfl, hS5⟩
    have HS5 := Lib.hid hS5
    clear hS5
    go_wp2_with fail
    refine (HR.out _).mono ?_
    rintro e w6 ⟨rfl, hS6⟩
    have HS6 := Lib.hid (HS5.out.trans hS6)
    clear hS6 HS5
    simp only [rrV]
    go_wp2_with fail
    refine (HO.out _).mono ?_
    rintro e w7 ⟨rfl, hS7⟩
    have HB : Hid (Blk w7 w6.heap.size 24 #[.int .i64 rr.op, .string (str rr.name), .int .i64 (rr.imm : Int), .string (str rr.takes), .string (str rr.has), .bool rr.free]) := (Blk.new w6 _ _).step hS7 id
    have HS7 := Lib.hid ((HS6.out.alloc _).trans hS7)
    clear hS7 HS6
    obtain ⟨X, hX⟩ : ∃ X, X = w6.heap.size := ⟨_, rfl⟩
    rw [← hX] at HB ⊢
    clear hX
    simp only [infV]
    go_wp2_with fail
    refine (HC.out _).mono ?_
    rintro e w8 ⟨rfl, hS8⟩
    have HB8 : Hid (Blk w8 X 24 _) := (HB.out.alloc _).step hS8 id
    have HI8 : Hid (Blk w8 w7.heap.size 29 _) := (Blk.new w7 _ _).step hS8 id
    have HS8 := Lib.hid ((HS7.out.alloc _).trans hS8)
    clear hS8 HS7 HB
    obtain ⟨Y, hY⟩ : ∃ Y, Y = w7.heap.size := ⟨_, rfl⟩
    rw [← hY] at HI8 ⊢
    clear hY
    go_wp2_with fail
    refine (HD.out _).mono ?_
    rintro e w9 ⟨rfl, hS9⟩
    have HB9 : Hid (Blk w9 X 24 _) := HB8.out.step hS9 id
    have HI9 : Hid (Blk w9 Y 29 _) := HI8.out.step hS9 id
    have HS9 := Lib.hid (HS8.out.trans hS9)
    clear hS9 HS8 HB8 HI8
    have y0 := HI9.out.cell 0
    have y1 := HI9.out.cell 1
    have y2 := HI9.out.cell 2
    have y3 := HI9.out.cell 3
    have y4 := HI9.out.cell 4
    simp at y0 y1 y2 y3 y4
    have hYl := HI9.out.lt
    have x1 := HB9.out.cell 1
    have x2 := HB9.out.cell 2
    have x3 := HB9.out.cell 3
    have x4 := HB9.out.cell 4
    have x5 := HB9.out.cell 5
    simp at x1 x2 x3 x4 x5
    have hXl := HB9.out.lt
    rcases hcase with ⟨g1, rfl⟩ | ⟨g1, g2, rfl⟩ | ⟨g1, g2, rfl⟩ <;>
    · go_wp2_with fail
      refine (HP.out _).mono ?_
      rintro e w10 ⟨rfl, hw10⟩
      obtain rfl : w9 = w10 := hw10.symm
      go_wp2_with fail
      go_quiet ((go_at_call 29; exact Calls.quiet_of_same (HT.out _ _ (by assumption))))
      go_wp2_with fail
      go_ret
      exact ⟨rfl, HS9.out.drewN nq⟩
theorem tell_done (W : World) (op : Nat) (h : op < 256) : Calls Try.prog 3 #[.int .u8 op] W fun e W' => e = .returned (.bool true) ∧ Below W.heap.size W W' :=
  (tell_walk W op h).mono fun _ _ hh => ⟨hh.1, hh.2.below W.heap.size (fun _ _ hf => hf.elim) (Nat.le_refl _)⟩
end Go.Proofs.Ytfemeendkjcffaa
