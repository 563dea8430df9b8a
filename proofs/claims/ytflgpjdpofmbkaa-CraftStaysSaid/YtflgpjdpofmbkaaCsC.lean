/-
  craft: slices.Clone of every kind; Module.
-/
import Derived.Test.YtflgpjdpofmbkaaCsB
import Derived.Test.YtflgpjdpofmbkaaMxp
import Derived.WalkSpells
import Derived.Great.Walk
set_option linter.unusedVariables false
set_option linter.unusedSimpArgs false
namespace Go.Proofs.Ytflgpjdpofmbkaa
open Go.RowKit

set_option maxRecDepth 100000 in
set_option maxHeartbeats 3200000 in
theorem clone_fts (w : World) (A : Option Addr) (n c : Nat) (S : Nat → Prop) (xs : List Value) (h : Reads w S 2 A n xs) (hn : n ≤ 100000) (h1 : ∀ u ∈ xs, u.oneCell' = true) :
    Calls Try.prog 13 #[.slice A n c] w fun e w' => ∃ D' c', e = .returned (.slice D' n c') ∧ w'.ownsRow w.heap.size 46 2 (.slice D' n c') n xs ∧ Step (fun _ => False) w w' := by
  have q34 : ∀ (w : World) (a : Option Addr) (n c n' c' : Nat), (binOp .eql 27 (.slice a n c) (.slice none n' c')).run Try.prog w = .ok (.bool a.isNone) w := fun w a n c n' c' => Lib.run_eql_slice_nil w _ _ a n c n' c' Try.underlying27
  cases A with
  | none =>
    have h0 : n = 0 ∧ xs = [] := by
      have hn0 : n = 0 := Nat.eq_zero_of_not_pos fun hp => by
        obtain ⟨ad, e, _⟩ := h.2 hp
        cases e
      subst hn0
      exact ⟨rfl, List.eq_nil_of_length_eq_zero (by simpa using h.1)⟩
    obtain ⟨rfl, rfl⟩ := h0
    clear h
    go_enter Try.func13, Try.ntmps13
    go_wp2_with fail
    go_ret
    exact ⟨none, 0, rfl, World.ownsRow_nil _ _ _ _, Step.refl⟩
  | some ad =>
    have hrd := h.step (Step.refl.alloc (F := fun _ => False) (.cells #[] 46)) (fun _ _ => id)
    have hfr := own_fresh (w := w) (e := 46) (base := w.heap.size) 2 (Nat.le_refl _)
    have hm : 0 + n ≤ maxLen := by unfold maxLen; omega
    have hsz : w.heap.size ≤ (w.alloc (.cells #[] 46)).heap.size := by simp
    clear h
    go_enter Try.func13, Try.ntmps13
    go_wp2_with (at_builtin; refine wpList_append_src _ rfl _ _ (by rfl) E_fts (by rfl) hfr (by rfl) hrd h1 hm (by omega) hsz ?_; intro D3 c3 w3 hown hgrow hat)
    go_ret
    rw [Nat.zero_add, List.nil_append] at hown
    exact ⟨D3, c3, rfl, hown, grow_step (Step.refl.alloc _) hgrow hfr (Nat.le_refl _)⟩

set_option maxRecDepth 100000 in
set_option maxHeartbeats 3200000 in
theorem clone_ims (w : World) (A : Option Addr) (n c : Nat) (S : Nat → Prop) (xs : List Value) (h : Reads w S 9 A n xs) (hn : n ≤ 100000) (h1 : ∀ u ∈ xs, u.oneCell' = true) :
    Calls Try.prog 14 #[.slice A n c] w fun e w' => ∃ D' c', e = .returned (.slice D' n c') ∧ w'.ownsRow w.heap.size 67 9 (.slice D' n c') n xs ∧ Step (fun _ => False) w w' := by
  have q34 : ∀ (w : World) (a : Option Addr) (n c n' c' : Nat), (binOp .eql 28 (.slice a n c) (.slice none n' c')).run Try.prog w = .ok (.bool a.isNone) w := fun w a n c n' c' => Lib.run_eql_slice_nil w _ _ a n c n' c' Try.underlying28
  cases A with
  | none =>
    have h0 : n = 0 ∧ xs = [] := by
      have hn0 : n = 0 := Nat.eq_zero_of_not_pos fun hp => by
        obtain ⟨ad, e, _⟩ := h.2 hp
        cases e
      subst hn0
      exact ⟨rfl, List.eq_nil_of_length_eq_zero (by simpa using h.1)⟩
    obtain ⟨rfl, rfl⟩ := h0
    clear h
    go_enter Try.func14, Try.ntmps14
    go_wp2_with fail
    go_ret
    exact ⟨none, 0, rfl, World.ownsRow_nil _ _ _ _, Step.refl⟩
  | some ad =>
    have hrd := h.step (Step.refl.alloc (F := fun _ => False) (.cells #[] 67)) (fun _ _ => id)
    have hfr := own_fresh (w := w) (e := 67) (base := w.heap.size) 9 (Nat.le_refl _)
    have hm : 0 + n ≤ maxLen := by unfold maxLen; omega
    have hsz : w.heap.size ≤ (w.alloc (.cells #[] 67)).heap.size := by simp
    clear h
    go_enter Try.func14, Try.ntmps14
    go_wp2_with (at_builtin; refine wpList_append_src _ rfl _ _ (by rfl) E_ims (by rfl) hfr (by rfl) hrd h1 hm (by omega) hsz ?_; intro D3 c3 w3 hown hgrow hat)
    go_ret
    rw [Nat.zero_add, List.nil_append] at hown
    exact ⟨D3, c3, rfl, hown, grow_step (Step.refl.alloc _) hgrow hfr (Nat.le_refl _)⟩

set_option maxRecDepth 100000 in
set_option maxHeartbeats 3200000 in
theorem clone_u32s (w : World) (A : Option Addr) (n c : Nat) (S : Nat → Prop) (xs : List Value) (h : Reads w S 1 A n xs) (hn : n ≤ 100000) (h1 : ∀ u ∈ xs, u.oneCell' = true) :
    Calls Try.prog 15 #[.slice A n c] w fun e w' => ∃ D' c', e = .returned (.slice D' n c') ∧ w'.ownsRow w.heap.size 36 1 (.slice D' n c') n xs ∧ Step (fun _ => False) w w' := by
  have q34 : ∀ (w : World) (a : Option Addr) (n c n' c' : Nat), (binOp .eql 29 (.slice a n c) (.slice none n' c')).run Try.prog w = .ok (.bool a.isNone) w := fun w a n c n' c' => Lib.run_eql_slice_nil w _ _ a n c n' c' Try.underlying29
  cases A with
  | none =>
    have h0 : n = 0 ∧ xs = [] := by
      have hn0 : n = 0 := Nat.eq_zero_of_not_pos fun hp => by
        obtain ⟨ad, e, _⟩ := h.2 hp
        cases e
      subst hn0
      exact ⟨rfl, List.eq_nil_of_length_eq_zero (by simpa using h.1)⟩
    obtain ⟨rfl, rfl⟩ := h0
    clear h
    go_enter Try.func15, Try.ntmps15
    go_wp2_with fail
    go_ret
    exact ⟨none, 0, rfl, World.ownsRow_nil _ _ _ _, Step.refl⟩
  | some ad =>
    have hrd := h.step (Step.refl.alloc (F := fun _ => False) (.cells #[] 36)) (fun _ _ => id)
    have hfr := own_fresh (w := w) (e := 36) (base := w.heap.size) 1 (Nat.le_refl _)
    have hm : 0 + n ≤ maxLen := by unfold maxLen; omega
    have hsz : w.heap.size ≤ (w.alloc (.cells #[] 36)).heap.size := by simp
    clear h
    go_enter Try.func15, Try.ntmps15
    go_wp2_with (at_builtin; refine wpList_append_src _ rfl _ _ (by rfl) E_u32s (by rfl) hfr (by rfl) hrd h1 hm (by omega) hsz ?_; intro D3 c3 w3 hown hgrow hat)
    go_ret
    rw [Nat.zero_add, List.nil_append] at hown
    exact ⟨D3, c3, rfl, hown, grow_step (Step.refl.alloc _) hgrow hfr (Nat.le_refl _)⟩

set_option maxRecDepth 100000 in
set_option maxHeartbeats 3200000 in
theorem clone_gls (w : World) (A : Option Addr) (n c : Nat) (S : Nat → Prop) (xs : List Value) (h : Reads w S 6 A n xs) (hn : n ≤ 100000) (h1 : ∀ u ∈ xs, u.oneCell' = true) :
    Calls Try.prog 16 #[.slice A n c] w fun e w' => ∃ D' c', e = .returned (.slice D' n c') ∧ w'.ownsRow w.heap.size 73 6 (.slice D' n c') n xs ∧ Step (fun _ => False) w w' := by
  have q34 : ∀ (w : World) (a : Option Addr) (n c n' c' : Nat), (binOp .eql 31 (.slice a n c) (.slice none n' c')).run Try.prog w = .ok (.bool a.isNone) w := fun w a n c n' c' => Lib.run_eql_slice_nil w _ _ a n c n' c' Try.underlying31
  cases A with
  | none =>
    have h0 : n = 0 ∧ xs = [] := by
      have hn0 : n = 0 := Nat.eq_zero_of_not_pos fun hp => by
        obtain ⟨ad, e, _⟩ := h.2 hp
        cases e
      subst hn0
      exact ⟨rfl, List.eq_nil_of_length_eq_zero (by simpa using h.1)⟩
    obtain ⟨rfl, rfl⟩ := h0
    clear h
    go_enter Try.func16, Try.ntmps16
    go_wp2_with fail
    go_ret
    exact ⟨none, 0, rfl, World.ownsRow_nil _ _ _ _, Step.refl⟩
  | some ad =>
    have hrd := h.step (Step.refl.alloc (F := fun _ => False) (.cells #[] 73)) (fun _ _ => id)
    have hfr := own_fresh (w := w) (e := 73) (base := w.heap.size) 6 (Nat.le_refl _)
    have hm : 0 + n ≤ maxLen := by unfold maxLen; omega
    have hsz : w.heap.size ≤ (w.alloc (.cells #[] 73)).heap.size := by simp
    clear h
    go_enter Try.func16, Try.ntmps16
    go_wp2_with (at_builtin; refine wpList_append_src _ rfl _ _ (by rfl) E_gls (by rfl) hfr (by rfl) hrd h1 hm (by omega) hsz ?_; intro D3 c3 w3 hown hgrow hat)
    go_ret
    rw [Nat.zero_add, List.nil_append] at hown
    exact ⟨D3, c3, rfl, hown, grow_step (Step.refl.alloc _) hgrow hfr (Nat.le_refl _)⟩

set_option maxRecDepth 100000 in
set_option maxHeartbeats 3200000 in
theorem clone_exs (w : World) (A : Option Addr) (n c : Nat) (S : Nat → Prop) (xs : List Value) (h : Reads w S 3 A n xs) (hn : n ≤ 100000) (h1 : ∀ u ∈ xs, u.oneCell' = true) :
    Calls Try.prog 17 #[.slice A n c] w fun e w' => ∃ D' c', e = .returned (.slice D' n c') ∧ w'.ownsRow w.heap.size 76 3 (.slice D' n c') n xs ∧ Step (fun _ => False) w w' := by
  have q34 : ∀ (w : World) (a : Option Addr) (n c n' c' : Nat), (binOp .eql 32 (.slice a n c) (.slice none n' c')).run Try.prog w = .ok (.bool a.isNone) w := fun w a n c n' c' => Lib.run_eql_slice_nil w _ _ a n c n' c' Try.underlying32
  cases A with
  | none =>
    have h0 : n = 0 ∧ xs = [] := by
      have hn0 : n = 0 := Nat.eq_zero_of_not_pos fun hp => by
        obtain ⟨ad, e, _⟩ := h.2 hp
        cases e
      subst hn0
      exact ⟨rfl, List.eq_nil_of_length_eq_zero (by simpa using h.1)⟩
    obtain ⟨rfl, rfl⟩ := h0
    clear h
    go_enter Try.func17, Try.ntmps17
    go_wp2_with fail
    go_ret
    exact ⟨none, 0, rfl, World.ownsRow_nil _ _ _ _, Step.refl⟩
  | some ad =>
    have hrd := h.step (Step.refl.alloc (F := fun _ => False) (.cells #[] 76)) (fun _ _ => id)
    have hfr := own_fresh (w := w) (e := 76) (base := w.heap.size) 3 (Nat.le_refl _)
    have hm : 0 + n ≤ maxLen := by unfold maxLen; omega
    have hsz : w.heap.size ≤ (w.alloc (.cells #[] 76)).heap.size := by simp
    clear h
    go_enter Try.func17, Try.ntmps17
    go_wp2_with (at_builtin; refine wpList_append_src _ rfl _ _ (by rfl) E_exs (by rfl) hfr (by rfl) hrd h1 hm (by omega) hsz ?_; intro D3 c3 w3 hown hgrow hat)
    go_ret
    rw [Nat.zero_add, List.nil_append] at hown
    exact ⟨D3, c3, rfl, hown, grow_step (Step.refl.alloc _) hgrow hfr (Nat.le_refl _)⟩

set_option maxRecDepth 100000 in
set_option maxHeartbeats 3200000 in
theorem clone_elsL (w : World) (A : Option Addr) (n c : Nat) (S : Nat → Prop) (xs : List Value) (h : Reads w S 5 A n xs) (hn : n ≤ 100000) (h1 : ∀ u ∈ xs, u.oneCell' = true) :
    Calls Try.prog 18 #[.slice A n c] w fun e w' => ∃ D' c', e = .returned (.slice D' n c') ∧ w'.ownsRow w.heap.size 79 5 (.slice D' n c') n xs ∧ Step (fun _ => False) w w' := by
  have q34 : ∀ (w : World) (a : Option Addr) (n c n' c' : Nat), (binOp .eql 33 (.slice a n c) (.slice none n' c')).run Try.prog w = .ok (.bool a.isNone) w := fun w a n c n' c' => Lib.run_eql_slice_nil w _ _ a n c n' c' Try.underlying33
  cases A with
  | none =>
    have h0 : n = 0 ∧ xs = [] := by
      have hn0 : n = 0 := Nat.eq_zero_of_not_pos fun hp => by
        obtain ⟨ad, e, _⟩ := h.2 hp
        cases e
      subst hn0
      exact ⟨rfl, List.eq_nil_of_length_eq_zero (by simpa using h.1)⟩
    obtain ⟨rfl, rfl⟩ := h0
    clear h
    go_enter Try.func18, Try.ntmps18
    go_wp2_with fail
    go_ret
    exact ⟨none, 0, rfl, World.ownsRow_nil _ _ _ _, Step.refl⟩
  | some ad =>
    have hrd := h.step (Step.refl.alloc (F := fun _ => False) (.cells #[] 79)) (fun _ _ => id)
    have hfr := own_fresh (w := w) (e := 79) (base := w.heap.size) 5 (Nat.le_refl _)
    have hm : 0 + n ≤ maxLen := by unfold maxLen; omega
    have hsz : w.heap.size ≤ (w.alloc (.cells #[] 79)).heap.size := by simp
    clear h
    go_enter Try.func18, Try.ntmps18
    go_wp2_with (at_builtin; refine wpList_append_src _ rfl _ _ (by rfl) E_elsL (by rfl) hfr (by rfl) hrd h1 hm (by omega) hsz ?_; intro D3 c3 w3 hown hgrow hat)
    go_ret
    rw [Nat.zero_add, List.nil_append] at hown
    exact ⟨D3, c3, rfl, hown, grow_step (Step.refl.alloc _) hgrow hfr (Nat.le_refl _)⟩

set_option maxRecDepth 100000 in
set_option maxHeartbeats 3200000 in
theorem clone_cdsL (w : World) (A : Option Addr) (n c : Nat) (S : Nat → Prop) (xs : List Value) (h : Reads w S 2 A n xs) (hn : n ≤ 100000) (h1 : ∀ u ∈ xs, u.oneCell' = true) :
    Calls Try.prog 19 #[.slice A n c] w fun e w' => ∃ D' c', e = .returned (.slice D' n c') ∧ w'.ownsRow w.heap.size 83 2 (.slice D' n c') n xs ∧ Step (fun _ => False) w w' := by
  have q34 : ∀ (w : World) (a : Option Addr) (n c n' c' : Nat), (binOp .eql 34 (.slice a n c) (.slice none n' c')).run Try.prog w = .ok (.bool a.isNone) w := fun w a n c n' c' => Lib.run_eql_slice_nil w _ _ a n c n' c' Try.underlying34
  cases A with
  | none =>
    have h0 : n = 0 ∧ xs = [] := by
      have hn0 : n = 0 := Nat.eq_zero_of_not_pos fun hp => by
        obtain ⟨ad, e, _⟩ := h.2 hp
        cases e
      subst hn0
      exact ⟨rfl, List.eq_nil_of_length_eq_zero (by simpa using h.1)⟩
    obtain ⟨rfl, rfl⟩ := h0
    clear h
    go_enter Try.func19, Try.ntmps19
    go_wp2_with fail
    go_ret
    exact ⟨none, 0, rfl, World.ownsRow_nil _ _ _ _, Step.refl⟩
  | some ad =>
    have hrd := h.step (Step.refl.alloc (F := fun _ => False) (.cells #[] 83)) (fun _ _ => id)
    have hfr := own_fresh (w := w) (e := 83) (base := w.heap.size) 2 (Nat.le_refl _)
    have hm : 0 + n ≤ maxLen := by unfold maxLen; omega
    have hsz : w.heap.size ≤ (w.alloc (.cells #[] 83)).heap.size := by simp
    clear h
    go_enter Try.func19, Try.ntmps19
    go_wp2_with (at_builtin; refine wpList_append_src _ rfl _ _ (by rfl) E_cdsL (by rfl) hfr (by rfl) hrd h1 hm (by omega) hsz ?_; intro D3 c3 w3 hown hgrow hat)
    go_ret
    rw [Nat.zero_add, List.nil_append] at hown
    exact ⟨D3, c3, rfl, hown, grow_step (Step.refl.alloc _) hgrow hfr (Nat.le_refl _)⟩

set_option maxRecDepth 100000 in
set_option maxHeartbeats 3200000 in
theorem clone_das (w : World) (A : Option Addr) (n c : Nat) (S : Nat → Prop) (xs : List Value) (h : Reads w S 5 A n xs) (hn : n ≤ 100000) (h1 : ∀ u ∈ xs, u.oneCell' = true) :
    Calls Try.prog 20 #[.slice A n c] w fun e w' => ∃ D' c', e = .returned (.slice D' n c') ∧ w'.ownsRow w.heap.size 86 5 (.slice D' n c') n xs ∧ Step (fun _ => False) w w' := by
  have q34 : ∀ (w : World) (a : Option Addr) (n c n' c' : Nat), (binOp .eql 35 (.slice a n c) (.slice none n' c')).run Try.prog w = .ok (.bool a.isNone) w := fun w a n c n' c' => Lib.run_eql_slice_nil w _ _ a n c n' c' Try.underlying35
  cases A with
  | none =>
    have h0 : n = 0 ∧ xs = [] := by
      have hn0 : n = 0 := Nat.eq_zero_of_not_pos fun hp => by
        obtain ⟨ad, e, _⟩ := h.2 hp
        cases e
      subst hn0
      exact ⟨rfl, List.eq_nil_of_length_eq_zero (by simpa using h.1)⟩
    obtain ⟨rfl, rfl⟩ := h0
    clear h
    go_enter Try.func20, Try.ntmps20
    go_wp2_with fail
    go_ret
    exact ⟨none, 0, rfl, World.ownsRow_nil _ _ _ _, Step.refl⟩
  | some ad =>
    have hrd := h.step (Step.refl.alloc (F := fun _ => False) (.cells #[] 86)) (fun _ _ => id)
    have hfr := own_fresh (w := w) (e := 86) (base := w.heap.size) 5 (Nat.le_refl _)
    have hm : 0 + n ≤ maxLen := by unfold maxLen; omega
    have hsz : w.heap.size ≤ (w.alloc (.cells #[] 86)).heap.size := by simp
    clear h
    go_enter Try.func20, Try.ntmps20
    go_wp2_with (at_builtin; refine wpList_append_src _ rfl _ _ (by rfl) E_das (by rfl) hfr (by rfl) hrd h1 hm (by omega) hsz ?_; intro D3 c3 w3 hown hgrow hat)
    go_ret
    rw [Nat.zero_add, List.nil_append] at hown
    exact ⟨D3, c3, rfl, hown, grow_step (Step.refl.alloc _) hgrow hfr (Nat.le_refl _)⟩

set_option maxRecDepth 100000 in
set_option maxHeartbeats 3200000 in
theorem clone_strs (w : World) (A : Option Addr) (n c : Nat) (S : Nat → Prop) (xs : List Value) (h : Reads w S 1 A n xs) (hn : n ≤ 100000) (h1 : ∀ u ∈ xs, u.oneCell' = true) :
    Calls Try.prog 21 #[.slice A n c] w fun e w' => ∃ D' c', e = .returned (.slice D' n c') ∧ w'.ownsRow w.heap.size 9 1 (.slice D' n c') n xs ∧ Step (fun _ => False) w w' := by
  have q34 : ∀ (w : World) (a : Option Addr) (n c n' c' : Nat), (binOp .eql 37 (.slice a n c) (.slice none n' c')).run Try.prog w = .ok (.bool a.isNone) w := fun w a n c n' c' => Lib.run_eql_slice_nil w _ _ a n c n' c' Try.underlying37
  cases A with
  | none =>
    have h0 : n = 0 ∧ xs = [] := by
      have hn0 : n = 0 := Nat.eq_zero_of_not_pos fun hp => by
        obtain ⟨ad, e, _⟩ := h.2 hp
        cases e
      subst hn0
      exact ⟨rfl, List.eq_nil_of_length_eq_zero (by simpa using h.1)⟩
    obtain ⟨rfl, rfl⟩ := h0
    clear h
    go_enter Try.func21, Try.ntmps21
    go_wp2_with fail
    go_ret
    exact ⟨none, 0, rfl, World.ownsRow_nil _ _ _ _, Step.refl⟩
  | some ad =>
    have hrd := h.step (Step.refl.alloc (F := fun _ => False) (.cells #[] 9)) (fun _ _ => id)
    have hfr := own_fresh (w := w) (e := 9) (base := w.heap.size) 1 (Nat.le_refl _)
    have hm : 0 + n ≤ maxLen := by unfold maxLen; omega
    have hsz : w.heap.size ≤ (w.alloc (.cells #[] 9)).heap.size := by simp
    clear h
    go_enter Try.func21, Try.ntmps21
    go_wp2_with (at_builtin; refine wpList_append_src _ rfl _ _ (by rfl) E_strs (by rfl) hfr (by rfl) hrd h1 hm (by omega) hsz ?_; intro D3 c3 w3 hown hgrow hat)
    go_ret
    rw [Nat.zero_add, List.nil_append] at hown
    exact ⟨D3, c3, rfl, hown, grow_step (Step.refl.alloc _) hgrow hfr (Nat.le_refl _)⟩

set_option maxRecDepth 100000 in
set_option maxHeartbeats 3200000 in
theorem clone_igs (w : World) (A : Option Addr) (n c : Nat) (S : Nat → Prop) (xs : List Value) (h : Reads w S 4 A n xs) (hn : n ≤ 100000) (h1 : ∀ u ∈ xs, u.oneCell' = true) :
    Calls Try.prog 35 #[.slice A n c] w fun e w' => ∃ D' c', e = .returned (.slice D' n c') ∧ w'.ownsRow w.heap.size 59 4 (.slice D' n c') n xs ∧ Step (fun _ => False) w w' := by
  have q34 : ∀ (w : World) (a : Option Addr) (n c n' c' : Nat), (binOp .eql 47 (.slice a n c) (.slice none n' c')).run Try.prog w = .ok (.bool a.isNone) w := fun w a n c n' c' => Lib.run_eql_slice_nil w _ _ a n c n' c' Try.underlying47
  cases A with
  | none =>
    have h0 : n = 0 ∧ xs = [] := by
      have hn0 : n = 0 := Nat.eq_zero_of_not_pos fun hp => by
        obtain ⟨ad, e, _⟩ := h.2 hp
        cases e
      subst hn0
      exact ⟨rfl, List.eq_nil_of_length_eq_zero (by simpa using h.1)⟩
    obtain ⟨rfl, rfl⟩ := h0
    clear h
    go_enter Try.func35, Try.ntmps35
    go_wp2_with fail
    go_ret
    exact ⟨none, 0, rfl, World.ownsRow_nil _ _ _ _, Step.refl⟩
  | some ad =>
    have hrd := h.step (Step.refl.alloc (F := fun _ => False) (.cells #[] 59)) (fun _ _ => id)
    have hfr := own_fresh (w := w) (e := 59) (base := w.heap.size) 4 (Nat.le_refl _)
    have hm : 0 + n ≤ maxLen := by unfold maxLen; omega
    have hsz : w.heap.size ≤ (w.alloc (.cells #[] 59)).heap.size := by simp
    clear h
    go_enter Try.func35, Try.ntmps35
    go_wp2_with (at_builtin; refine wpList_append_src _ rfl _ _ (by rfl) E_igs (by rfl) hfr (by rfl) hrd h1 hm (by omega) hsz ?_; intro D3 c3 w3 hown hgrow hat)
    go_ret
    rw [Nat.zero_add, List.nil_append] at hown
    exact ⟨D3, c3, rfl, hown, grow_step (Step.refl.alloc _) hgrow hfr (Nat.le_refl _)⟩

/-- The rows of a module, read. -/
structure Rf (w : World) (S : Nat → Prop) (a : Ad) (s : Mo) : Prop where
  r0 : Reads w S 2 a.A0 s.ts.length (fts s.ts)
  r1 : Reads w S 9 a.A1 s.is.length (ims s.is)
  r2 : Reads w S 1 a.A2 s.fs.length (u32s s.fs)
  r5 : Reads w S 6 a.A5 s.gs.length (gls s.gs)
  r6 : Reads w S 3 a.A6 s.es.length (exs s.es)
  r8 : Reads w S 5 a.A8 s.els.length (elsL s.els)
  r9 : Reads w S 2 a.A9 s.cs.length (cdsL s.cs)
  r10 : Reads w S 5 a.A10 s.ds.length (das s.ds)
  r16 : Reads w S 1 a.A16 s.nd.length (strs s.nd)
theorem Rf.step {w w' : World} {S F : Nat → Prop} {a : Ad} {s : Mo} (h : Rf w S a s) (hs : Step F w w') (hd : ∀ k, S k → ¬ F k) : Rf w' S a s := ⟨h.r0.step hs hd, h.r1.step hs hd, h.r2.step hs hd, h.r5.step hs hd, h.r6.step hs hd, h.r8.step hs hd, h.r9.step hs hd, h.r10.step hs hd, h.r16.step hs hd⟩
theorem Rf.mono {w : World} {S S' : Nat → Prop} {a : Ad} {s : Mo} (h : Rf w S a s) (hS : ∀ k, k < w.heap.size → S k → S' k) : Rf w S' a s := ⟨h.r0.mono hS, h.r1.mono hS, h.r2.mono hS, h.r5.mono hS, h.r6.mono hS, h.r8.mono hS, h.r9.mono hS, h.r10.mono hS, h.r16.mono hS⟩
/-- No list is longer than so. -/
def Mo.small (s : Mo) (n : Nat) : Prop := s.ts.length ≤ n ∧ s.is.length ≤ n ∧ s.fs.length ≤ n ∧ s.gs.length ≤ n ∧ s.es.length ≤ n ∧ s.els.length ≤ n ∧ s.cs.length ≤ n ∧ s.ds.length ≤ n ∧ s.nd.length ≤ n
theorem Blk.row {w : World} {g : Nat} {t : TypeId} {cs : Array Value} (h : Blk w g t cs) (cs' : Array Value) : Blk (w.setRow g cs') g t cs' := setRow_heap w g cs cs' t (0, 0) h
theorem Step.setRow {F : Nat → Prop} {w w' : World} (h : Step F w w') {g : Nat} (hg : F g ∨ w.heap.size ≤ g) (cs : Array Value) : Step F w (w'.setRow g cs) :=
  ⟨h.os, h.tape, h.output, by simpa using h.size, fun k hk hn => (setRow_other w' g k cs (by rintro rfl; rcases hg with h1 | h1; exact hn h1; omega)).trans (h.block k hk hn)⟩
theorem own_new {w w' : World} {base size n c : Nat} {e : TypeId} {D : Option Addr} {xs : List Value} (h : w'.ownsRow base e size (.slice D n c) n xs) (hb : w.heap.size ≤ base) : Reads w' (fun k => w.heap.size ≤ k) size D n xs :=
  (Reads.of_own h).mono fun k _ hk => Nat.le_trans hb (own_ge h k hk)
end Go.Proofs.Ytflgpjdpofmbkaa
