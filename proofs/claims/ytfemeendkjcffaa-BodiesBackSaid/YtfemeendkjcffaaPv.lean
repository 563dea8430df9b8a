/-
  Pv: PwC, PwD.
-/
import Derived.Test.YtfemeendkjcffaaPw
import Derived.Test.YtfemeendkjcffaaPu
import Derived.Test.YtfemeendkjcffaaBoC
set_option linter.unusedVariables false
set_option linter.unusedSimpArgs false
/-! instr: Put of all kinds. -/
namespace Go.Proofs.Ytfemeendkjcffaa
open Go.RowKit


set_option maxRecDepth 100000 in
set_option maxHeartbeats 3200000 in
theorem iput_d (w : World) (op a n c : Nat) (A : Option Addr) (i : Inf) (hop : op < 256) (ha : a < 4294967296) (m : Int) (hm : ¬ m = 0 ∧ ¬ m = 1 ∧ ¬ m = 3 ∧ ¬ m = 5 ∧ ¬ m = 8 ∧ ¬ m = 10 ∧ ¬ m = 11)
    (HR : Hid (∀ w, Calls Try.prog 56 #[.agg #[.int .u8 (op : Int), .int .u64 (a : Int), .int .u64 0, .slice A n c]] w fun e w' => e = .returned (.int .i64 0) ∧ Step (fun _ => False) w w'))
    (HO : Hid (∀ w, Calls Try.prog 25 #[.int .u8 (op : Int)] w fun e w' => e = .returned (infM i m) ∧ Step (fun _ => False) w w')) :
    Calls Try.prog 55 #[.agg #[.int .u8 (op : Int), .int .u64 (a : Int), .int .u64 0, .slice A n c]] w fun e w' => ∃ D c', e = .returned (.tuple #[.slice D (UInt8.ofNat op :: uintF a).length c', .int .i64 0]) ∧
      w'.ownsRow w.heap.size 5 1 (.slice D (UInt8.ofNat op :: uintF a).length c') (UInt8.ofNat op :: uintF a).length (u8s (UInt8.ofNat op :: uintF a)) ∧ Step (fun _ => False) w w' := by
  have hfd := field_imm i m
  have hlU := num_len a
  obtain ⟨U, hU⟩ : ∃ U, U = uintF a := ⟨_, rfl⟩
  rw [← hU] at hlU
  have HU : Hid (uintF a = U) := hU.symm
  clear hU
  have m0 : (m == 0) = false := by simp; omega
  have m1 : (m == 1) = false := by simp; omega
  have m3 : (m == 3) = false := by simp; omega
  have m5 : (m == 5) = false := by simp; omega
  have m8 : (m == 8) = false := by simp; omega
  have m10 : (m == 10) = false := by simp; omega
  have m11 : (m == 11) = false := by simp; omega
  obtain ⟨Z, hZ⟩ : ∃ Z, Z = UInt8.ofNat op :: uintF a := ⟨_, rfl⟩
  rw [← hZ]
  have HZ := Lib.hid hZ
  clear hZ
  go_enter Try.func55, Try.ntmps55
  go_wp2_with fail
  refine (HR.out _).mono ?_
  rintro e w5 ⟨rfl, hS5⟩
  have HB5 := Lib.hid ((Blk.new w 50 #[.int .u8 (op : Int), .int .u64 (a : Int), .int .u64 0, .slice A n c]).step hS5 id)
  have HS5 := Lib.hid ((Step.refl.alloc _).trans hS5)
  clear hS5
  obtain ⟨X, hX⟩ : ∃ X, X = w.heap.size := ⟨_, rfl⟩
  rw [← hX] at HB5 ⊢
  have hXl := HB5.out.lt
  have x0 := HB5.out.cell 0
  simp at x0
  clear hX
  go_wp2_with fail
  refine (HO.out _).mono ?_
  rintro e w6 ⟨rfl, hS6⟩
  have HB6 := Lib.hid ((HB5.out.alloc _).step hS6 id)
  have HO6 : Hid (w6.ownsRow w.heap.size 5 1 (.slice (some ⟨w5.heap.size, 0, none⟩) 1 1) 1 (u8s [UInt8.ofNat op])) := by
    rw [byte_cell op hop]
    exact own_step (World.ownsRow_lit (base := w.heap.size) (e := 5) (size := 1) w5 #[Value.int .u8 (op : Int)] 1 HS5.out.size (by decide) rfl) hS6 (fun _ _ => id)
  have HS6 := Lib.hid ((HS5.out.alloc _).trans hS6)
  clear hS6 x0 HB5 hXl
  have hXl := HB6.out.lt
  obtain ⟨D6, hD6⟩ : ∃ D6 : Option Addr, D6 = some ⟨w5.heap.size, 0, none⟩ := ⟨_, rfl⟩
  rw [← hD6] at HO6 ⊢
  clear hD6 HS5
  simp only [infM]
  replace hXl := HB6.out.lt
  have y0 := HB6.out.cell 0
  have y1 := HB6.out.cell 1
  have y2 := HB6.out.cell 2
  have y3 := HB6.out.cell 3
  simp at y0 y1 y2 y3
  go_wp2_with fail
  refine (uint_walk _ a (by omega)).mono ?_
  rintro e w7a ⟨D7a, c7a, rfl, hown, hS⟩
  rw [HU.out] at hown ⊢
  have HO7a := Lib.hid (own_step HO6.out hS (fun _ _ => id))
  have HR7a := Lib.hid (Reads.of_own hown)
  have HB7a := Lib.hid (HB6.out.step hS id)
  have HS7a := Lib.hid (HS6.out.trans hS)
  clear hS hown
  have hone7 : ∀ u ∈ u8s U, u.oneCell' = true := u8s_one U
  have hm7 : 1 + U.length ≤ maxLen := by unfold maxLen; omega
  have hsz7 := HS7a.out.size
  have hne7 : blkOf D6 ≠ some X := by rw [← ownBlock_slice D6 (1) (1)]; exact own_tag HO7a.out HB7a.out (by decide)
  go_wp2_with (at_builtin; refine wpList_append_src _ rfl _ _ (by rfl) E_u8 (by rfl) (HO7a.out) (by rfl) HR7a.out hone7 hm7 (by omega) (by first | exact hsz7 | (simp; omega)) ?_; intro D7 c7 w7 hown hgrow hat; have v0 := ((HB7a.out).grown hgrow hne7).cell 0; simp at v0)
  have HS7 := Lib.hid (grow_step (HS7a.out) hgrow (HO7a.out) (Nat.le_refl _))
  have HB7 := Lib.hid ((HB7a.out).grown hgrow hne7)
  have HO7 := Lib.hid hown
  clear hown hgrow hat hm7 hone7 hsz7
  refine (HO.out _).mono ?_
  rintro e w8 ⟨rfl, hS⟩
  have HO8 := Lib.hid (own_step HO7.out hS (fun _ _ => id))
  have HB8 := Lib.hid (HB7.out.step hS id)
  have HS8 := Lib.hid (HS7.out.trans hS)
  clear hS
  simp only [infM]
  go_wp2_with fail
  have hcs : u8s [UInt8.ofNat op] ++ u8s U = u8s Z := by rw [HZ.out, HU.out]; simp [u8s]
  have hln : 1 + U.length = Z.length := by rw [HZ.out, HU.out]; simp; try omega
  have hO := HO8.out
  rw [hcs] at hO
  refine bodyPost_ret (v := .tuple #[.slice D7 (1 + U.length) c7, .int .i64 0]) (by simp [results, Try.results55, go_sem]) rfl ?_
  rw [hln] at hO ⊢
  exact ⟨D7, c7, rfl, hO, HS8.out⟩

set_option maxRecDepth 100000 in
set_option maxHeartbeats 3200000 in
theorem iput_5 (w : World) (op a n c : Nat) (A : Option Addr) (i : Inf) (hop : op < 256) (ha : a < 4294967296)
    (HR : Hid (∀ w, Calls Try.prog 56 #[.agg #[.int .u8 (op : Int), .int .u64 (a : Int), .int .u64 0, .slice A n c]] w fun e w' => e = .returned (.int .i64 0) ∧ Step (fun _ => False) w w'))
    (HO : Hid (∀ w, Calls Try.prog 25 #[.int .u8 (op : Int)] w fun e w' => e = .returned (infM i 5) ∧ Step (fun _ => False) w w')) :
    Calls Try.prog 55 #[.agg #[.int .u8 (op : Int), .int .u64 (a : Int), .int .u64 0, .slice A n c]] w fun e w' => ∃ D c', e = .returned (.tuple #[.slice D (UInt8.ofNat op :: (uintF a ++ [UInt8.ofNat 0])).length c', .int .i64 0]) ∧
      w'.ownsRow w.heap.size 5 1 (.slice D (UInt8.ofNat op :: (uintF a ++ [UInt8.ofNat 0])).length c') (UInt8.ofNat op :: (uintF a ++ [UInt8.ofNat 0])).length (u8s (UInt8.ofNat op :: (uintF a ++ [UInt8.ofNat 0]))) ∧ Step (fun _ => False) w w' := by
  have hfd := field_imm i 5
  have hlU := num_len a
  obtain ⟨U, hU⟩ : ∃ U, U = uintF a := ⟨_, rfl⟩
  rw [← hU] at hlU
  have HU : Hid (uintF a = U) := hU.symm
  clear hU
  obtain ⟨Z, hZ⟩ : ∃ Z, Z = UInt8.ofNat op :: (uintF a ++ [UInt8.ofNat 0]) := ⟨_, rfl⟩
  rw [← hZ]
  have HZ := Lib.hid hZ
  clear hZ
  go_enter Try.func55, Try.ntmps55
  go_wp2_with fail
  refine (HR.out _).mono ?_
  rintro e w5 ⟨rfl, hS5⟩
  have HB5 := Lib.hid ((Blk.new w 50 #[.int .u8 (op : Int), .int .u64 (a : Int), .int .u64 0, .slice A n c]).step hS5 id)
  have HS5 := Lib.hid ((Step.refl.alloc _).trans hS5)
  clear hS5
  obtain ⟨X, hX⟩ : ∃ X, X = w.heap.size := ⟨_, rfl⟩
  rw [← hX] at HB5 ⊢
  have hXl := HB5.out.lt
  have x0 := HB5.out.cell 0
  simp at x0
  clear hX
  go_wp2_with fail
  refine (HO.out _).mono ?_
  rintro e w6 ⟨rfl, hS6⟩
  have HB6 := Lib.hid ((HB5.out.alloc _).step hS6 id)
  have HO6 : Hid (w6.ownsRow w.heap.size 5 1 (.slice (some ⟨w5.heap.size, 0, none⟩) 1 1) 1 (u8s [UInt8.ofNat op])) := by
    rw [byte_cell op hop]
    exact own_step (World.ownsRow_lit (base := w.heap.size) (e := 5) (size := 1) w5 #[Value.int .u8 (op : Int)] 1 HS5.out.size (by decide) rfl) hS6 (fun _ _ => id)
  have HS6 := Lib.hid ((HS5.out.alloc _).trans hS6)
  clear hS6 x0 HB5 hXl
  have hXl := HB6.out.lt
  obtain ⟨D6, hD6⟩ : ∃ D6 : Option Addr, D6 = some ⟨w5.heap.size, 0, none⟩ := ⟨_, rfl⟩
  rw [← hD6] at HO6 ⊢
  clear hD6 HS5
  simp only [infM]
  replace hXl := HB6.out.lt
  have y0 := HB6.out.cell 0
  have y1 := HB6.out.cell 1
  have y2 := HB6.out.cell 2
  have y3 := HB6.out.cell 3
  simp at y0 y1 y2 y3
  go_wp2_with fail
  refine (uint_walk _ a (by omega)).mono ?_
  rintro e w7a ⟨D7a, c7a, rfl, hown, hS⟩
  rw [HU.out] at hown ⊢
  have HO7a := Lib.hid (own_step HO6.out hS (fun _ _ => id))
  have HR7a := Lib.hid (Reads.of_own hown)
  have HB7a := Lib.hid (HB6.out.step hS id)
  have HS7a := Lib.hid (HS6.out.trans hS)
  clear hS hown
  have hone7 : ∀ u ∈ u8s U, u.oneCell' = true := u8s_one U
  have hm7 : 1 + U.length ≤ maxLen := by unfold maxLen; omega
  have hsz7 := HS7a.out.size
  have hne7 : blkOf D6 ≠ some X := by rw [← ownBlock_slice D6 (1) (1)]; exact own_tag HO7a.out HB7a.out (by decide)
  go_wp2_with (at_builtin; refine wpList_append_src _ rfl _ _ (by rfl) E_u8 (by rfl) (HO7a.out) (by rfl) HR7a.out hone7 hm7 (by omega) (by first | exact hsz7 | (simp; omega)) ?_; intro D7 c7 w7 hown hgrow hat; have v0 := ((HB7a.out).grown hgrow hne7).cell 0; simp at v0)
  have HS7 := Lib.hid (grow_step (HS7a.out) hgrow (HO7a.out) (Nat.le_refl _))
  have HB7 := Lib.hid ((HB7a.out).grown hgrow hne7)
  have HO7 := Lib.hid hown
  clear hown hgrow hat hm7 hone7 hsz7
  refine (HO.out _).mono ?_
  rintro e w8 ⟨rfl, hS⟩
  have HO8 := Lib.hid (own_step HO7.out hS (fun _ _ => id))
  have HB8 := Lib.hid (HB7.out.step hS id)
  have HS8 := Lib.hid (HS7.out.trans hS)
  clear hS
  simp only [infM]
  have hone9 : ∀ u ∈ #[Value.int .u8 0].toList, u.oneCell' = true := (by simp [Value.oneCell'])
  have hm9 : 1 + U.length + 1 ≤ maxLen := by unfold maxLen; omega
  have hsz9 := HS8.out.size
  have hne9 : blkOf D7 ≠ some X := by rw [← ownBlock_slice D7 (1 + U.length) (c7)]; exact own_tag HO8.out HB8.out (by decide)
  go_wp2_with (at_builtin; refine wpList_append_src _ rfl _ _ (by rfl) E_u8 (by rfl) (HO8.out.alloc (.cells #[.int .u8 0] 5)) (by rfl) (reads_new w8 #[Value.int .u8 0] 5 1 1 rfl) hone9 hm9 (by omega) (by first | exact hsz9 | (simp; omega)) ?_; intro D9 c9 w9 hown hgrow hat)
  have HS9 := Lib.hid (grow_step (HS8.out.alloc (.cells #[.int .u8 0] 5)) hgrow (HO8.out.alloc (.cells #[.int .u8 0] 5)) (Nat.le_refl _))
  have HB9 := Lib.hid ((HB8.out.alloc (.cells #[.int .u8 0] 5)).grown hgrow hne9)
  have HO9 := Lib.hid hown
  clear hown hgrow hat hm9 hone9 hsz9
  go_wp2_with fail
  have hcs : u8s [UInt8.ofNat op] ++ u8s U ++ #[Value.int .u8 0].toList = u8s Z := by rw [HZ.out, HU.out]; simp [u8s]
  have hln : 1 + U.length + 1 = Z.length := by rw [HZ.out, HU.out]; simp; try omega
  have hO := HO9.out
  rw [hcs] at hO
  refine bodyPost_ret (v := .tuple #[.slice D9 (1 + U.length + 1) c9, .int .i64 0]) (by simp [results, Try.results55, go_sem]) rfl ?_
  rw [hln] at hO ⊢
  exact ⟨D9, c9, rfl, hO, HS9.out⟩

set_option maxRecDepth 100000 in
set_option maxHeartbeats 3200000 in
theorem iput_8 (w : World) (op a b n c : Nat) (A : Option Addr) (i : Inf) (hop : op < 256) (ha : a < 4294967296) (hb : b < 4294967296)
    (HR : Hid (∀ w, Calls Try.prog 56 #[.agg #[.int .u8 (op : Int), .int .u64 (a : Int), .int .u64 (b : Int), .slice A n c]] w fun e w' => e = .returned (.int .i64 0) ∧ Step (fun _ => False) w w'))
    (HO : Hid (∀ w, Calls Try.prog 25 #[.int .u8 (op : Int)] w fun e w' => e = .returned (infM i 8) ∧ Step (fun _ => False) w w')) :
    Calls Try.prog 55 #[.agg #[.int .u8 (op : Int), .int .u64 (a : Int), .int .u64 (b : Int), .slice A n c]] w fun e w' => ∃ D c', e = .returned (.tuple #[.slice D (UInt8.ofNat op :: (uintF a ++ uintF b)).length c', .int .i64 0]) ∧
      w'.ownsRow w.heap.size 5 1 (.slice D (UInt8.ofNat op :: (uintF a ++ uintF b)).length c') (UInt8.ofNat op :: (uintF a ++ uintF b)).length (u8s (UInt8.ofNat op :: (uintF a ++ uintF b))) ∧ Step (fun _ => False) w w' := by
  have hfd := field_imm i 8
  have hlU := num_len a
  obtain ⟨U, hU⟩ : ∃ U, U = uintF a := ⟨_, rfl⟩
  rw [← hU] at hlU
  have HU : Hid (uintF a = U) := hU.symm
  clear hU
  have hlV := num_len b
  obtain ⟨V, hV⟩ : ∃ V, V = uintF b := ⟨_, rfl⟩
  rw [← hV] at hlV
  have HV : Hid (uintF b = V) := hV.symm
  clear hV
  obtain ⟨Z, hZ⟩ : ∃ Z, Z = UInt8.ofNat op :: (uintF a ++ uintF b) := ⟨_, rfl⟩
  rw [← hZ]
  have HZ := Lib.hid hZ
  clear hZ
  go_enter Try.func55, Try.ntmps55
  go_wp2_with fail
  refine (HR.out _).mono ?_
  rintro e w5 ⟨rfl, hS5⟩
  have HB5 := Lib.hid ((Blk.new w 50 #[.int .u8 (op : Int), .int .u64 (a : Int), .int .u64 (b : Int), .slice A n c]).step hS5 id)
  have HS5 := Lib.hid ((Step.refl.alloc _).trans hS5)
  clear hS5
  obtain ⟨X, hX⟩ : ∃ X, X = w.heap.size := ⟨_, rfl⟩
  rw [← hX] at HB5 ⊢
  have hXl := HB5.out.lt
  have x0 := HB5.out.cell 0
  simp at x0
  clear hX
  go_wp2_with fail
  refine (HO.out _).mono ?_
  rintro e w6 ⟨rfl, hS6⟩
  have HB6 := Lib.hid ((HB5.out.alloc _).step hS6 id)
  have HO6 : Hid (w6.ownsRow w.heap.size 5 1 (.slice (some ⟨w5.heap.size, 0, none⟩) 1 1) 1 (u8s [UInt8.ofNat op])) := by
    rw [byte_cell op hop]
    exact own_step (World.ownsRow_lit (base := w.heap.size) (e := 5) (size := 1) w5 #[Value.int .u8 (op : Int)] 1 HS5.out.size (by decide) rfl) hS6 (fun _ _ => id)
  have HS6 := Lib.hid ((HS5.out.alloc _).trans hS6)
  clear hS6 x0 HB5 hXl
  have hXl := HB6.out.lt
  obtain ⟨D6, hD6⟩ : ∃ D6 : Option Addr, D6 = some ⟨w5.heap.size, 0, none⟩ := ⟨_, rfl⟩
  rw [← hD6] at HO6 ⊢
  clear hD6 HS5
  simp only [infM]
  replace hXl := HB6.out.lt
  have y0 := HB6.out.cell 0
  have y1 := HB6.out.cell 1
  have y2 := HB6.out.cell 2
  have y3 := HB6.out.cell 3
  simp at y0 y1 y2 y3
  go_wp2_with fail
  refine (uint_walk _ a (by omega)).mono ?_
  rintro e w7a ⟨D7a, c7a, rfl, hown, hS⟩
  rw [HU.out] at hown ⊢
  have HO7a := Lib.hid (own_step HO6.out hS (fun _ _ => id))
  have HR7a := Lib.hid (Reads.of_own hown)
  have HB7a := Lib.hid (HB6.out.step hS id)
  have HS7a := Lib.hid (HS6.out.trans hS)
  clear hS hown
  have hone7 : ∀ u ∈ u8s U, u.oneCell' = true := u8s_one U
  have hm7 : 1 + U.length ≤ maxLen := by unfold maxLen; omega
  have hsz7 := HS7a.out.size
  have hne7 : blkOf D6 ≠ some X := by rw [← ownBlock_slice D6 (1) (1)]; exact own_tag HO7a.out HB7a.out (by decide)
  go_wp2_with (at_builtin; refine wpList_append_src _ rfl _ _ (by rfl) E_u8 (by rfl) (HO7a.out) (by rfl) HR7a.out hone7 hm7 (by omega) (by first | exact hsz7 | (simp; omega)) ?_; intro D7 c7 w7 hown hgrow hat; have v0 := ((HB7a.out).grown hgrow hne7).cell 0; simp at v0)
  have HS7 := Lib.hid (grow_step (HS7a.out) hgrow (HO7a.out) (Nat.le_refl _))
  have HB7 := Lib.hid ((HB7a.out).grown hgrow hne7)
  have HO7 := Lib.hid hown
  clear hown hgrow hat hm7 hone7 hsz7
  refine (HO.out _).mono ?_
  rintro e w8 ⟨rfl, hS⟩
  have HO8 := Lib.hid (own_step HO7.out hS (fun _ _ => id))
  have HB8 := Lib.hid (HB7.out.step hS id)
  have HS8 := Lib.hid (HS7.out.trans hS)
  clear hS
  simp only [infM]
  replace hXl := HB8.out.lt
  have y0 := HB8.out.cell 0
  have y1 := HB8.out.cell 1
  have y2 := HB8.out.cell 2
  have y3 := HB8.out.cell 3
  simp at y0 y1 y2 y3
  go_wp2_with fail
  refine (uint_walk _ b (by omega)).mono ?_
  rintro e w9a ⟨D9a, c9a, rfl, hown, hS⟩
  rw [HV.out] at hown ⊢
  have HO9a := Lib.hid (own_step HO8.out hS (fun _ _ => id))
  have HR9a := Lib.hid (Reads.of_own hown)
  have HB9a := Lib.hid (HB8.out.step hS id)
  have HS9a := Lib.hid (HS8.out.trans hS)
  clear hS hown
  have hone9 : ∀ u ∈ u8s V, u.oneCell' = true := u8s_one V
  have hm9 : 1 + U.length + V.length ≤ maxLen := by unfold maxLen; omega
  have hsz9 := HS9a.out.size
  have hne9 : blkOf D7 ≠ some X := by rw [← ownBlock_slice D7 (1 + U.length) (c7)]; exact own_tag HO9a.out HB9a.out (by decide)
  go_wp2_with (at_builtin; refine wpList_append_src _ rfl _ _ (by rfl) E_u8 (by rfl) (HO9a.out) (by rfl) HR9a.out hone9 hm9 (by omega) (by first | exact hsz9 | (simp; omega)) ?_; intro D9 c9 w9 hown hgrow hat)
  have HS9 := Lib.hid (grow_step (HS9a.out) hgrow (HO9a.out) (Nat.le_refl _))
  have HB9 := Lib.hid ((HB9a.out).grown hgrow hne9)
  have HO9 := Lib.hid hown
  clear hown hgrow hat hm9 hone9 hsz9
  go_wp2_with fail
  have hcs : u8s [UInt8.ofNat op] ++ u8s U ++ u8s V = u8s Z := by rw [HZ.out, HU.out, HV.out]; simp [u8s]
  have hln : 1 + U.length + V.length = Z.length := by rw [HZ.out, HU.out, HV.out]; simp; try omega
  have hO := HO9.out
  rw [hcs] at hO
  refine bodyPost_ret (v := .tuple #[.slice D9 (1 + U.length + V.length) c9, .int .i64 0]) (by simp [results, Try.results55, go_sem]) rfl ?_
  rw [hln] at hO ⊢
  exact ⟨D9, c9, rfl, hO, HS9.out⟩

set_option maxRecDepth 100000 in
set_option maxHeartbeats 3200000 in
theorem iput_1 (w : World) (op a n c : Nat) (A : Option Addr) (i : Inf) (hop : op < 256) (ha : a < 256)
    (HR : Hid (∀ w, Calls Try.prog 56 #[.agg #[.int .u8 (op : Int), .int .u64 (a : Int), .int .u64 0, .slice A n c]] w fun e w' => e = .returned (.int .i64 0) ∧ Step (fun _ => False) w w'))
    (HO : Hid (∀ w, Calls Try.prog 25 #[.int .u8 (op : Int)] w fun e w' => e = .returned (infM i 1) ∧ Step (fun _ => False) w w')) :
    Calls Try.prog 55 #[.agg #[.int .u8 (op : Int), .int .u64 (a : Int), .int .u64 0, .slice A n c]] w fun e w' => ∃ D c', e = .returned (.tuple #[.slice D (UInt8.ofNat op :: [UInt8.ofNat a]).length c', .int .i64 0]) ∧
      w'.ownsRow w.heap.size 5 1 (.slice D (UInt8.ofNat op :: [UInt8.ofNat a]).length c') (UInt8.ofNat op :: [UInt8.ofNat a]).length (u8s (UInt8.ofNat op :: [UInt8.ofNat a])) ∧ Step (fun _ => False) w w' := by
  have hfd := field_imm i 1
  obtain ⟨Z, hZ⟩ : ∃ Z, Z = UInt8.ofNat op :: [UInt8.ofNat a] := ⟨_, rfl⟩
  rw [← hZ]
  have HZ := Lib.hid hZ
  clear hZ
  go_enter Try.func55, Try.ntmps55
  go_wp2_with fail
  refine (HR.out _).mono ?_
  rintro e w5 ⟨rfl, hS5⟩
  have HB5 := Lib.hid ((Blk.new w 50 #[.int .u8 (op : Int), .int .u64 (a : Int), .int .u64 0, .slice A n c]).step hS5 id)
  have HS5 := Lib.hid ((Step.refl.alloc _).trans hS5)
  clear hS5
  obtain ⟨X, hX⟩ : ∃ X, X = w.heap.size := ⟨_, rfl⟩
  rw [← hX] at HB5 ⊢
  have hXl := HB5.out.lt
  have x0 := HB5.out.cell 0
  simp at x0
  clear hX
  go_wp2_with fail
  refine (HO.out _).mono ?_
  rintro e w6 ⟨rfl, hS6⟩
  have HB6 := Lib.hid ((HB5.out.alloc _).step hS6 id)
  have HO6 : Hid (w6.ownsRow w.heap.size 5 1 (.slice (some ⟨w5.heap.size, 0, none⟩) 1 1) 1 (u8s [UInt8.ofNat op])) := by
    rw [byte_cell op hop]
    exact own_step (World.ownsRow_lit (base := w.heap.size) (e := 5) (size := 1) w5 #[Value.int .u8 (op : Int)] 1 HS5.out.size (by decide) rfl) hS6 (fun _ _ => id)
  have HS6 := Lib.hid ((HS5.out.alloc _).trans hS6)
  clear hS6 x0 HB5 hXl
  have hXl := HB6.out.lt
  obtain ⟨D6, hD6⟩ : ∃ D6 : Option Addr, D6 = some ⟨w5.heap.size, 0, none⟩ := ⟨_, rfl⟩
  rw [← hD6] at HO6 ⊢
  clear hD6 HS5
  simp only [infM]
  have hwa := IntWalk.u8_in (a : Int) (by omega)
  replace hXl := HB6.out.lt
  have y0 := HB6.out.cell 0
  have y1 := HB6.out.cell 1
  have y2 := HB6.out.cell 2
  have y3 := HB6.out.cell 3
  simp at y0 y1 y2 y3
  have hone7 : ∀ u ∈ #[Value.int .u8 (a : Int)].toList, u.oneCell' = true := (by simp [Value.oneCell'])
  have hm7 : 1 + 1 ≤ maxLen := by unfold maxLen; omega
  have hsz7 := HS6.out.size
  have hne7 : blkOf D6 ≠ some X := by rw [← ownBlock_slice D6 (1) (1)]; exact own_tag HO6.out HB6.out (by decide)
  go_wp2_with (at_builtin; refine wpList_append_src _ rfl _ _ (by rfl) E_u8 (by rfl) (HO6.out.alloc (.cells #[.int .u8 (a : Int)] 5)) (by rfl) (reads_new w6 #[Value.int .u8 (a : Int)] 5 1 1 rfl) hone7 hm7 (by omega) (by first | exact hsz7 | (simp; omega)) ?_; intro D7 c7 w7 hown hgrow hat)
  have HS7 := Lib.hid (grow_step (HS6.out.alloc (.cells #[.int .u8 (a : Int)] 5)) hgrow (HO6.out.alloc (.cells #[.int .u8 (a : Int)] 5)) (Nat.le_refl _))
  have HB7 := Lib.hid ((HB6.out.alloc (.cells #[.int .u8 (a : Int)] 5)).grown hgrow hne7)
  have HO7 := Lib.hid hown
  clear hown hgrow hat hm7 hone7 hsz7
  go_wp2_with fail
  have hcs : u8s [UInt8.ofNat op] ++ #[Value.int .u8 (a : Int)].toList = u8s Z := by rw [HZ.out]; simp [u8s]; omega
  have hln : 1 + 1 = Z.length := by rw [HZ.out]; simp; try omega
  have hO := HO7.out
  rw [hcs] at hO
  refine bodyPost_ret (v := .tuple #[.slice D7 (1 + 1) c7, .int .i64 0]) (by simp [results, Try.results55, go_sem]) rfl ?_
  rw [hln] at hO ⊢
  exact ⟨D7, c7, rfl, hO, HS7.out⟩
end Go.Proofs.Ytfemeendkjcffaa
/-! instr: Put of labels; of any instruction. -/
namespace Go.Proofs.Ytfemeendkjcffaa
open Go.RowKit

set_option maxRecDepth 100000 in
set_option maxHeartbeats 3200000 in
theorem iput_3 (w : World) (op a n c : Nat) (A : Option Addr) (i : Inf) (hop : op < 256) (ha : a < 4294967296) (L : List Nat) (hn : n = L.length) (hL : L.length ≤ 10000) (hLb : ∀ x ∈ L, x < 4294967296) (S : Nat → Prop) (hr : Reads w S 1 A n (u32s L))
    (HR : Hid (∀ w, Calls Try.prog 56 #[.agg #[.int .u8 (op : Int), .int .u64 (a : Int), .int .u64 0, .slice A n c]] w fun e w' => e = .returned (.int .i64 0) ∧ Step (fun _ => False) w w'))
    (HO : Hid (∀ w, Calls Try.prog 25 #[.int .u8 (op : Int)] w fun e w' => e = .returned (infM i 3) ∧ Step (fun _ => False) w w')) :
    Calls Try.prog 55 #[.agg #[.int .u8 (op : Int), .int .u64 (a : Int), .int .u64 0, .slice A n c]] w fun e w' => ∃ D c', e = .returned (.tuple #[.slice D (UInt8.ofNat op :: (uintF L.length ++ (labL L ++ uintF a))).length c', .int .i64 0]) ∧
      w'.ownsRow w.heap.size 5 1 (.slice D (UInt8.ofNat op :: (uintF L.length ++ (labL L ++ uintF a))).length c') (UInt8.ofNat op :: (uintF L.length ++ (labL L ++ uintF a))).length (u8s (UInt8.ofNat op :: (uintF L.length ++ (labL L ++ uintF a)))) ∧ Step (fun _ => False) w w' := by
  have hfd := field_imm i 3
  have hlU := num_len n
  obtain ⟨U, hU⟩ : ∃ U, U = uintF n := ⟨_, rfl⟩
  rw [← hU] at hlU
  have HU : Hid (uintF n = U) := hU.symm
  clear hU
  have hlV0 := num_len a
  obtain ⟨V0, hV0⟩ : ∃ V0, V0 = uintF a := ⟨_, rfl⟩
  rw [← hV0] at hlV0
  have HV0 : Hid (uintF a = V0) := hV0.symm
  clear hV0
  have HN : Hid (n = L.length) := hn
  have hnb : n ≤ 10000 := by omega
  have HR2 := Lib.hid hr
  have hwn := IntWalk.u64_in (n : Int) (by omega)
  clear hn hr
  obtain ⟨Z, hZ⟩ : ∃ Z, Z = UInt8.ofNat op :: (uintF L.length ++ (labL L ++ uintF a)) := ⟨_, rfl⟩
  rw [← hZ]
  have HZ := Lib.hid hZ
  clear hZ
  go_enter Try.func55, Try.ntmps55
  go_wp2_with fail
  refine (HR.out _).mono ?_
  rintro e w5 ⟨rfl, hS5⟩
  have HB5 := Lib.hid ((Blk.new w 50 #[.int .u8 (op : Int), .int .u64 (a : Int), .int .u64 0, .slice A n c]).step hS5 id)
  have HS5 := Lib.hid ((Step.refl.alloc _).trans hS5)
  clear hS5
  obtain ⟨X, hX⟩ : ∃ X, X = w.heap.size := ⟨_, rfl⟩
  rw [← hX] at HB5 ⊢
  have hXl := HB5.out.lt
  have x0 := HB5.out.cell 0
  simp at x0
  clear hX
  go_wp2_with fail
  refine (HO.out _).mono ?_
  rintro e w6 ⟨rfl, hS6⟩
  have HB6 := Lib.hid ((HB5.out.alloc _).step hS6 id)
  have HO6 : Hid (w6.ownsRow w.heap.size 5 1 (.slice (some ⟨w5.heap.size, 0, none⟩) 1 1) 1 (u8s [UInt8.ofNat op])) := by
    rw [byte_cell op hop]
    exact own_step (World.ownsRow_lit (base := w.heap.size) (e := 5) (size := 1) w5 #[Value.int .u8 (op : Int)] 1 HS5.out.size (by decide) rfl) hS6 (fun _ _ => id)
  have HS6 := Lib.hid ((HS5.out.alloc _).trans hS6)
  clear hS6 x0 HB5 hXl
  have hXl := HB6.out.lt
  obtain ⟨D6, hD6⟩ : ∃ D6 : Option Addr, D6 = some ⟨w5.heap.size, 0, none⟩ := ⟨_, rfl⟩
  rw [← hD6] at HO6 ⊢
  clear hD6 HS5
  simp only [infM]
  replace hXl := HB6.out.lt
  have y0 := HB6.out.cell 0
  have y1 := HB6.out.cell 1
  have y2 := HB6.out.cell 2
  have y3 := HB6.out.cell 3
  simp at y0 y1 y2 y3
  go_wp2_with fail
  refine (uint_walk _ n (by omega)).mono ?_
  rintro e w7a ⟨D7a, c7a, rfl, hown, hS⟩
  rw [HU.out] at hown ⊢
  have HO7a := Lib.hid (own_step HO6.out hS (fun _ _ => id))
  have HR7a := Lib.hid (Reads.of_own hown)
  have HB7a := Lib.hid (HB6.out.step hS id)
  have HS7a := Lib.hid (HS6.out.trans hS)
  clear hS hown
  have hone7 : ∀ u ∈ u8s U, u.oneCell' = true := u8s_one U
  have hm7 : 1 + U.length ≤ maxLen := by unfold maxLen; omega
  have hsz7 := HS7a.out.size
  have hne7 : blkOf D6 ≠ some X := by rw [← ownBlock_slice D6 (1) (1)]; exact own_tag HO7a.out HB7a.out (by decide)
  go_wp2_with (at_builtin; refine wpList_append_src _ rfl _ _ (by rfl) E_u8 (by rfl) (HO7a.out) (by rfl) HR7a.out hone7 hm7 (by omega) (by first | exact hsz7 | (simp; omega)) ?_; intro D7 c7 w7 hown hgrow hat; have v3 := ((HB7a.out).grown hgrow hne7).cell 3; simp at v3)
  have HS7 := Lib.hid (grow_step (HS7a.out) hgrow (HO7a.out) (Nat.le_refl _))
  have HB7 := Lib.hid ((HB7a.out).grown hgrow hne7)
  have HO7 := Lib.hid hown
  clear hown hgrow hat hm7 hone7 hsz7
  have hc0 : u8s [UInt8.ofNat op] ++ u8s U = u8s (prefL op L 0) := by rw [prefL_zero, ← HN.out, HU.out]; simp [u8s]
  have hn0 : 1 + U.length = (prefL op L 0).length := by rw [prefL_zero, ← HN.out, HU.out]; simp; omega
  have hO7 := HO7.out
  rw [hc0, hn0] at hO7
  rw [hn0]
  have HO7' := Lib.hid hO7
  clear HO7 hO7 hc0 hn0 y0 y1 y2 y3
  go_loopw [5, 43] (fun ov iv wr => ∃ (j c2 : Nat) (D2 : Option Addr), j ≤ n ∧ ov = .slice D2 (prefL op L j).length c2 ∧ iv = .int .i64 (j : Int) ∧ Hid (Step (fun _ => False) w wr) ∧ Hid (Blk wr X 50 #[.int .u8 (op : Int), .int .u64 (a : Int), .int .u64 0, .slice A n c]) ∧
    Hid (wr.ownsRow w.heap.size 5 1 (.slice D2 (prefL op L j).length c2) (prefL op L j).length (u8s (prefL op L j)))) (fun _ iv _ => n + 1 - (intOf iv).toNat)
  case atStart => exact ⟨0, c7, D7, by omega, rfl, rfl, HS7, HB7, HO7'⟩
  case round =>
    obtain ⟨j, c2, D2, hj, rfl, rfl, HS, HB, HOj⟩ := hrel
    have x3 := HB.out.cell 3
    simp at x3
    have hpl := prefL_len op L j (by rw [← HN.out]; exact hj)
    by_cases hlt : j < n
    · have g1 : (j : Int) < (n : Int) := by omega
      have hw1 := IntWalk.i64_in ((j : Int) + 1) (by omega)
      have hjl : j < L.length := by rw [← HN.out]; exact hlt
      obtain ⟨ad, u, rfl, _, hbl, hu, hc⟩ := (HR2.out.step HS.out (fun _ _ => id)).at_ hlt
      rw [u32s_get L j hjl] at hu
      injection hu with hu
      subst hu
      have HP := Lib.hid (prefL_succ op L j hjl)
      have hxb := hLb L[j] (List.getElem_mem hjl)
      generalize L[j] = x at *
      have hlx := num_len x
      obtain ⟨V, hV⟩ : ∃ V, V = uintF x := ⟨_, rfl⟩
      rw [← hV] at hlx HP
      have HV := Lib.hid hV.symm
      clear hV
      have hwx := IntWalk.u64_in (x : Int) (by omega)
      go_wp2_with fail
      refine (uint_walk _ x (by omega)).mono ?_
      rintro e w8a ⟨D8a, c8a, rfl, hown, hS⟩
      rw [HV.out] at hown ⊢
      have HO8a := Lib.hid (own_step HOj.out hS (fun _ _ => id))
      have HR8a := Lib.hid (Reads.of_own hown)
      have HB8a := Lib.hid (HB.out.step hS id)
      have HS8a := Lib.hid (HS.out.trans hS)
      clear hS hown
      have hone : ∀ u ∈ u8s V, u.oneCell' = true := u8s_one V
      have hm : (prefL op L j).length + V.length ≤ maxLen := by unfold maxLen; omega
      have hsz := HS8a.out.size
      have hne : blkOf D2 ≠ some X := by rw [← ownBlock_slice D2 (prefL op L j).length c2]; exact own_tag HO8a.out HB8a.out (by decide)
      go_wp2_with (at_builtin; refine wpList_append_src _ rfl _ _ (by rfl) E_u8 (by rfl) HO8a.out (by rfl) HR8a.out hone hm (by omega) hsz ?_; intro D9 c9 w9 hown hgrow hat)
      have HS9 := Lib.hid (grow_step HS8a.out hgrow HO8a.out (Nat.le_refl _))
      have HB9 := Lib.hid (HB8a.out.grown hgrow hne)
      have hcs : u8s (prefL op L j) ++ u8s V = u8s (prefL op L (j + 1)) := by rw [HP.out, u8s_append]
      have hln : (prefL op L j).length + V.length = (prefL op L (j + 1)).length := by rw [HP.out, List.length_append]
      rw [hcs, hln] at hown
      rw [hln]
      go_roundw
      case rel => exact ⟨j + 1, c9, D9, by omega, rfl, by rw [Int.natCast_add]; rfl, HS9, HB9, hown⟩
      case measure => simp [intOf]; omega
    · obtain rfl : j = n := by omega
      obtain ⟨P, hP⟩ : ∃ P, P = prefL op L j := ⟨_, rfl⟩
      have HP : Hid (P = UInt8.ofNat op :: (uintF L.length ++ labL L)) := by rw [Hid, hP, ← prefL_all, HN.out]
      rw [← hP] at HOj hpl ⊢
      have HO10 := HOj
      have HB10 := HB
      have HS10 := HS
      clear hP
      replace hXl := HB10.out.lt
      have y0 := HB10.out.cell 0
      have y1 := HB10.out.cell 1
      have y2 := HB10.out.cell 2
      have y3 := HB10.out.cell 3
      simp at y0 y1 y2 y3
      go_wp2_with fail
      refine (uint_walk _ a (by omega)).mono ?_
      rintro e w11a ⟨D11a, c11a, rfl, hown, hS⟩
      rw [HV0.out] at hown ⊢
      have HO11a := Lib.hid (own_step HO10.out hS (fun _ _ => id))
      have HR11a := Lib.hid (Reads.of_own hown)
      have HB11a := Lib.hid (HB10.out.step hS id)
      have HS11a := Lib.hid (HS10.out.trans hS)
      clear hS hown
      have hone11 : ∀ u ∈ u8s V0, u.oneCell' = true := u8s_one V0
      have hm11 : P.length + V0.length ≤ maxLen := by unfold maxLen; omega
      have hsz11 := HS11a.out.size
      have hne11 : blkOf D2 ≠ some X := by rw [← ownBlock_slice D2 (P.length) (c2)]; exact own_tag HO11a.out HB11a.out (by decide)
      go_wp2_with (at_builtin; refine wpList_append_src _ rfl _ _ (by rfl) E_u8 (by rfl) (HO11a.out) (by rfl) HR11a.out hone11 hm11 (by omega) (by first | exact hsz11 | (simp; omega)) ?_; intro D11 c11 w11 hown hgrow hat; have v0 := ((HB11a.out).grown hgrow hne11).cell 0; simp at v0)
      have HS11 := Lib.hid (grow_step (HS11a.out) hgrow (HO11a.out) (Nat.le_refl _))
      have HB11 := Lib.hid ((HB11a.out).grown hgrow hne11)
      have HO11 := Lib.hid hown
      clear hown hgrow hat hm11 hone11 hsz11
      refine (HO.out _).mono ?_
      rintro e w12 ⟨rfl, hS⟩
      have HO12 := Lib.hid (own_step HO11.out hS (fun _ _ => id))
      have HB12 := Lib.hid (HB11.out.step hS id)
      have HS12 := Lib.hid (HS11.out.trans hS)
      clear hS
      simp only [infM]
      go_wp2_with fail
      have hcs : u8s P ++ u8s V0 = u8s Z := by rw [HZ.out, HP.out, HV0.out]; simp [u8s]
      have hln : P.length + V0.length = Z.length := by rw [HZ.out, HP.out, HV0.out]; simp; try omega
      have hO := HO12.out
      rw [hcs] at hO
      refine bodyPost_ret (v := .tuple #[.slice D11 (P.length + V0.length) c11, .int .i64 0]) (by simp [results, Try.results55, go_sem]) rfl ?_
      rw [hln] at hO ⊢
      exact ⟨D11, c11, rfl, hO, HS12.out⟩

set_option maxRecDepth 100000 in
set_option maxHeartbeats 1600000 in
theorem iput_err (w : World) (op a b n c : Nat) (A : Option Addr) (hop : op < 256) (h : ¬ rgtF op a b n = 0) :
    Calls Try.prog 55 #[.agg (insC (op : Int) (a : Int) (b : Int) A n c)] w fun e w' => e = .returned (.tuple #[.slice none 0 0, .int .i64 (rgtF op a b n : Nat)]) ∧ Step (fun _ => False) w w' := by
  have HR : Hid (∀ w, Calls Try.prog 56 #[insV op a b A n c] w fun e w' => e = .returned (.int .i64 (rgtF op a b n : Nat)) ∧ Step (fun _ => False) w w') := fun w => right_walk w op a b n c A hop
  obtain ⟨r, hr⟩ : ∃ r : Int, r = (rgtF op a b n : Nat) := ⟨_, rfl⟩
  have hne : ¬ r = 0 := by omega
  have hnb : (r != 0) = true := bne_iff_ne.2 hne
  rw [← hr] at HR ⊢
  simp only [insV] at HR
  simp only [insC]
  clear hr h
  go_enter Try.func55, Try.ntmps55
  go_wp2_with fail
  refine (HR.out _).mono ?_
  rintro e w5 ⟨rfl, hS5⟩
  have HS5 := Lib.hid ((Step.refl.alloc _).trans hS5)
  clear hS5
  go_wp2_with fail
  go_ret2
  exact ⟨rfl, HS5.out⟩

theorem iput_all (w : World) (op a b c : Nat) (A : Option Addr) (L : List Nat) (S : Nat → Prop) (hr : Reads w S 1 A L.length (u32s L)) (hop : op < 256) (ha : a < 18446744073709551616) (hLb : ∀ x ∈ L, x < 4294967296) (hz : rgtF op a b L.length = 0) :
    Calls Try.prog 55 #[.agg (insC (op : Int) (a : Int) (b : Int) A L.length c)] w fun e w' => ∃ D c', e = .returned (.tuple #[.slice D (putL op a b L).length c', .int .i64 0]) ∧
      w'.ownsRow w.heap.size 5 1 (.slice D (putL op a b L).length c') (putL op a b L).length (u8s (putL op a b L)) ∧ Step (fun _ => False) w w' := by
  obtain ⟨hck, hi⟩ := rgt_zero hz
  obtain ⟨hn, hb, h09, h1, hlt⟩ := immF_zero hi
  have HR : Hid (∀ w, Calls Try.prog 56 #[.agg #[.int .u8 (op : Int), .int .u64 (a : Int), .int .u64 (b : Int), .slice A L.length c]] w fun e w' => e = .returned (.int .i64 0) ∧ Step (fun _ => False) w w') := fun w => by
    have := right_walk w op a b L.length c A hop
    rw [hz] at this
    exact this
  have HO : Hid (∀ w, Calls Try.prog 25 #[.int .u8 (op : Int)] w fun e w' => e = .returned (infM (infF op) ((infF op).imm : Int)) ∧ Step (fun _ => False) w w') := fun w => of_walk w op hop
  rw [putL]
  generalize hm : (infF op).imm = m at *
  by_cases m3 : m = 3
  · subst m3
    obtain rfl : b = 0 := by omega
    have hT : putT 3 a 0 L = uintF L.length ++ (labL L ++ uintF a) := by simp [putT]
    rw [hT]
    exact iput_3 w op a L.length c A _ hop (hlt (by decide) (by decide) (by decide) (by decide)).1 L rfl (by omega) hLb S hr HR HO
  · obtain rfl : L = [] := by
      rcases hn with hn | hn
      · exact List.eq_nil_of_length_eq_zero hn
      · exact absurd hn.1 m3
    by_cases m0 : m = 0
    · subst m0
      obtain rfl : b = 0 := by omega
      obtain rfl : a = 0 := h09 (.inl rfl)
      exact iput_0 w op c A _ hop HR HO
    by_cases m1 : m = 1
    · subst m1
      obtain rfl : b = 0 := by omega
      have hbk := h1 rfl
      have ha2 : a < 256 := by
        rw [blkF] at hbk
        split at hbk
        · omega
        · split at hbk
          · cases hbk
          · omega
      exact iput_1 w op a 0 c A _ hop ha2 HR HO
    by_cases m11 : m = 11
    · subst m11
      obtain rfl : b = 0 := by omega
      have hT : putT 11 a 0 [] = intF (s64 a) := by simp [putT]
      rw [hT]
      exact iput_11 w op a 0 c A _ hop ha HR HO
    by_cases m9 : m = 9
    · subst m9
      obtain rfl : b = 0 := by omega
      obtain rfl : a = 0 := h09 (.inr rfl)
      have hT : putT 9 0 0 [] = uintF 0 := by kernel_rfl
      rw [hT]
      exact iput_d w op 0 0 c A _ hop (by decide) 9 (by decide) HR HO
    obtain ⟨ha2, hb2⟩ := hlt m0 m9 m1 m11
    by_cases m8 : m = 8
    · subst m8
      have hT : putT 8 a b [] = uintF a ++ uintF b := by simp [putT]
      rw [hT]
      exact iput_8 w op a b 0 c A _ hop ha2 hb2 HR HO
    obtain rfl : b = 0 := by omega
    by_cases m5 : m = 5
    · subst m5
      have hT : putT 5 a 0 [] = uintF a ++ [UInt8.ofNat 0] := by simp [putT]
      rw [hT]
      exact iput_5 w op a 0 c A _ hop ha2 HR HO
    by_cases m10 : m = 10
    · subst m10
      have hT : putT 10 a 0 [] = intF (s32 a) := by simp [putT]
      rw [hT]
      exact iput_10 w op a 0 c A _ hop ha2 HR HO
    have hT : putT m a 0 [] = uintF a := by simp [putT, m0, m1, m3, m5, m8, m9, m10, m11]
    rw [hT]
    exact iput_d w op a 0 c A _ hop ha2 (m : Int) (by omega) HR HO
end Go.Proofs.Ytfemeendkjcffaa
