/-
  instr: Put of all kinds.
-/
import Derived.Test.YtfemeendkjcffaaPwB
import Derived.Test.YtfemeendkjcffaaPuD
import Derived.Test.YtfemeendkjcffaaBoC
set_option linter.unusedVariables false
set_option linter.unusedSimpArgs false
namespace Go.Proofs.Ytfemeendkjcffaa
open Go.RowKit


set_option maxRecDepth 100000 in
set_option maxHeartbeats 3200000 in
theorem iput_d (w : World) (op a n c : Nat) (A : Option Addr) (i : Inf) (hop : op < 256) (ha : a < 4294967296) (m : Int) (hm : ¬ m = 0 ∧ ¬ m = 1 ∧ ¬ m = 3 ∧ ¬ m = 5 ∧ ¬ m = 8 ∧ ¬ m = 10 ∧ ¬ m = 11)
    (HR : Hid (∀ w, Calls Try.prog 56 #[.agg #[.int .u8 (op : Int), .int .u64 (a : Int), .int .u64 0, .slice A n c]] w fun e w' => e = .returned (.int .i64 0) ∧ Step (fun _ => False) w w'))
    (HO : Hid (∀ w, Calls Try.prog 25 #[.int .u8 (op : Int)] w fun e w' => e = .returned (infM i m) ∧ Step (fun _ => False) w w')) :
    Calls Try.prog 55 #[.agg #[.int .u8 (op : Int), .int .u64 (a : Int), .int .u64 0, .slice A n c]] w fun e w' => ∃ D c', e = .returned (.tuple #[.slice D (UInt8.ofNat op :: uintF a).length c', .int .i64 0]) ∧
      w'.ownsRow w.heap.size 5 1 (.slice D (UInt8.ofNat op :: uintF a).length c') (UInt8.ofNat op :: uintF a).length (u8s (UInt8.ofNat op :: uintF a)) ∧ Step (fun _ => False) w w' := by
  have hfd := field_imm i m
  have hlU := num_len a
  obtain ⟨U, hU⟩ : ∃ U, U = uintF a := ⟨_, rfl⟩
  rw [← hU] at hlU
  have HU : Hid (uintF a = U) := hU.symm
  clear hU
  have m0 : (m == 0) = false := by simp; omega
  have m1 : (m == 1) = false := by simp; omega
  have m3 : (m == 3) = false := by simp; omega
  have m5 : (m == 5) = false := by simp; omega
  have m8 : (m == 8) = false := by simp; omega
  have m10 : (m == 10) = false := by simp; omega
  have m11 : (m == 11) = false := by simp; omega
  obtain ⟨Z, hZ⟩ : ∃ Z, Z = UInt8.ofNat op :: uintF a := ⟨_, rfl⟩
  rw [← hZ]
  have HZ := Lib.hid hZ
  clear hZ
  go_enter Try.func55, Try.ntmps55
  go_wp2_with fail
  refine (HR.out _).mono ?_
  rintro e w5 ⟨rfl, hS5⟩
  have HB5 := Lib.hid ((Blk.new w 50 #[.int .u8 (op : Int), .int .u64 (a : Int), .int .u64 0, .slice A n c]).step hS5 id)
  have HS5 := Lib.hid ((Step.refl.alloc _).trans hS5)
  clear hS5
  obtain ⟨X, hX⟩ : ∃ X, X = w.heap.size := ⟨_, rfl⟩
  rw [← hX] at HB5 ⊢
  have hXl := HB5.out.lt
  have x0 := HB5.out.cell 0
  simp at x0
  clear hX
  go_wp2_with fail
  refine (HO.out _).mono ?_
  rintro e w6 ⟨rfl, hS6⟩
  have HB6 := Lib.hid ((HB5.out.alloc _).step hS6 id)
  have HO6 : Hid (w6.ownsRow w.heap.size 5 1 (.slice (some ⟨w5.heap.size, 0, none⟩) 1 1) 1 (u8s [UInt8.ofNat op])) := by
    rw [byte_cell op hop]
    exact own_step (World.ownsRow_lit (base := w.heap.size) (e := 5) (size := 1) w5 #[Value.int .u8 (op : Int)] 1 HS5.out.size (by decide) rfl) hS6 (fun _ _ => id)
  have HS6 := Lib.hid ((HS5.out.alloc _).trans hS6)
  clear hS6 x0 HB5 hXl
  have hXl := HB6.out.lt
  obtain ⟨D6, hD6⟩ : ∃ D6 : Option Addr, D6 = some ⟨w5.heap.size, 0, none⟩ := ⟨_, rfl⟩
  rw [← hD6] at HO6 ⊢
  clear hD6 HS5
  simp only [infM]
  replace hXl := HB6.out.lt
  have y0 := HB6.out.cell 0
  have y1 := HB6.out.cell 1
  have y2 := HB6.out.cell 2
  have y3 := HB6.out.cell 3
  simp at y0 y1 y2 y3
  go_wp2_with fail
  refine (uint_walk _ a (by omega)).mono ?_
  rintro e w7a ⟨D7a, c7a, rfl, hown, hS⟩
  rw [HU.out] at hown ⊢
  have HO7a := Lib.hid (own_step HO6.out hS (fun _ _ => id))
  have HR7a := Lib.hid (Reads.of_own hown)
  have HB7a := Lib.hid (HB6.out.step hS id)
  have HS7a := Lib.hid (HS6.out.trans hS)
  clear hS hown
  have hone7 : ∀ u ∈ u8s U, u.oneCell' = true := u8s_one U
  have hm7 : 1 + U.length ≤ maxLen := by unfold maxLen; omega
  have hsz7 := HS7a.out.size
  have hne7 : blkOf D6 ≠ some X := by rw [← ownBlock_slice D6 (1) (1)]; exact own_tag HO7a.out HB7a.out (by decide)
  go_wp2_with (at_builtin; refine wpList_append_src _ rfl _ _ (by rfl) E_u8 (by rfl) (HO7a.out) (by rfl) HR7a.out hone7 hm7 (by omega) (by first | exact hsz7 | (simp; omega)) ?_; intro D7 c7 w7 hown hgrow hat; have v0 := ((HB7a.out).grown hgrow hne7).cell 0; simp at v0)
  have HS7 := Lib.hid (grow_step (HS7a.out) hgrow (HO7a.out) (Nat.le_refl _))
  have HB7 := Lib.hid ((HB7a.out).grown hgrow hne7)
  have HO7 := Lib.hid hown
  clear hown hgrow hat hm7 hone7 hsz7
  refine (HO.out _).mono ?_
  rintro e w8 ⟨rfl, hS⟩
  have HO8 := Lib.hid (own_step HO7.out hS (fun _ _ => id))
  have HB8 := Lib.hid (HB7.out.step hS id)
  have HS8 := Lib.hid (HS7.out.trans hS)
  clear hS
  simp only [infM]
  go_wp2_with fail
  have hcs : u8s [UInt8.ofNat op] ++ u8s U = u8s Z := by rw [HZ.out, HU.out]; simp [u8s]
  have hln : 1 + U.length = Z.length := by rw [HZ.out, HU.out]; simp; try omega
  have hO := HO8.out
  rw [hcs] at hO
  refine bodyPost_ret (v := .tuple #[.slice D7 (1 + U.length) c7, .int .i64 0]) (by simp [results, Try.results55, go_sem]) rfl ?_
  rw [hln] at hO ⊢
  exact ⟨D7, c7, rfl, hO, HS8.out⟩

set_option maxRecDepth 100000 in
set_option maxHeartbeats 3200000 in
theorem iput_5 (w : World) (op a n c : Nat) (A : Option Addr) (i : Inf) (hop : op < 256) (ha : a < 4294967296)
    (HR : Hid (∀ w, Calls Try.prog 56 #[.agg #[.int .u8 (op : Int), .int .u64 (a : Int), .int .u64 0, .slice A n c]] w fun e w' => e = .returned (.int .i64 0) ∧ Step (fun _ => False) w w'))
    (HO : Hid (∀ w, Calls Try.prog 25 #[.int .u8 (op : Int)] w fun e w' => e = .returned (infM i 5) ∧ Step (fun _ => False) w w')) :
    Calls Try.prog 55 #[.agg #[.int .u8 (op : Int), .int .u64 (a : Int), .int .u64 0, .slice A n c]] w fun e w' => ∃ D c', e = .returned (.tuple #[.slice D (UInt8.ofNat op :: (uintF a ++ [UInt8.ofNat 0])).length c', .int .i64 0]) ∧
      w'.ownsRow w.heap.size 5 1 (.slice D (UInt8.ofNat op :: (uintF a ++ [UInt8.ofNat 0])).length c') (UInt8.ofNat op :: (uintF a ++ [UInt8.ofNat 0])).length (u8s (UInt8.ofNat op :: (uintF a ++ [UInt8.ofNat 0]))) ∧ Step (fun _ => False) w w' := by
  have hfd := field_imm i 5
  have hlU := num_len a
  obtain ⟨U, hU⟩ : ∃ U, U = uintF a := ⟨_, rfl⟩
  rw [← hU] at hlU
  have HU : Hid (uintF a = U) := hU.symm
  clear hU
  obtain ⟨Z, hZ⟩ : ∃ Z, Z = UInt8.ofNat op :: (uintF a ++ [UInt8.ofNat 0]) := ⟨_, rfl⟩
  rw [← hZ]
  have HZ := Lib.hid hZ
  clear hZ
  go_enter Try.func55, Try.ntmps55
  go_wp2_with fail
  refine (HR.out _).mono ?_
  rintro e w5 ⟨rfl, hS5⟩
  have HB5 := Lib.hid ((Blk.new w 50 #[.int .u8 (op : Int), .int .u64 (a : Int), .int .u64 0, .slice A n c]).step hS5 id)
  have HS5 := Lib.hid ((Step.refl.alloc _).trans hS5)
  clear hS5
  obtain ⟨X, hX⟩ : ∃ X, X = w.heap.size := ⟨_, rfl⟩
  rw [← hX] at HB5 ⊢
  have hXl := HB5.out.lt
  have x0 := HB5.out.cell 0
  simp at x0
  clear hX
  go_wp2_with fail
  refine (HO.out _).mono ?_
  rintro e w6 ⟨rfl, hS6⟩
  have HB6 := Lib.hid ((HB5.out.alloc _).step hS6 id)
  have HO6 : Hid (w6.ownsRow w.heap.size 5 1 (.slice (some ⟨w5.heap.size, 0, none⟩) 1 1) 1 (u8s [UInt8.ofNat op])) := by
    rw [byte_cell op hop]
    exact own_step (World.ownsRow_lit (base := w.heap.size) (e := 5) (size := 1) w5 #[Value.int .u8 (op : Int)] 1 HS5.out.size (by decide) rfl) hS6 (fun _ _ => id)
  have HS6 := Lib.hid ((HS5.out.alloc _).trans hS6)
  clear hS6 x0 HB5 hXl
  have hXl := HB6.out.lt
  obtain ⟨D6, hD6⟩ : ∃ D6 : Option Addr, D6 = some ⟨w5.heap.size, 0, none⟩ := ⟨_, rfl⟩
  rw [← hD6] at HO6 ⊢
  clear hD6 HS5
  simp only [infM]
  replace hXl := HB6.out.lt
  have y0 := HB6.out.cell 0
  have y1 := HB6.out.cell 1
  have y2 := HB6.out.cell 2
  have y3 := HB6.out.cell 3
  simp at y0 y1 y2 y3
  go_wp2_with fail
  refine (uint_walk _ a (by omega)).mono ?_
  rintro e w7a ⟨D7a, c7a, rfl, hown, hS⟩
  rw [HU.out] at hown ⊢
  have HO7a := Lib.hid (own_step HO6.out hS (fun _ _ => id))
  have HR7a := Lib.hid (Reads.of_own hown)
  have HB7a := Lib.hid (HB6.out.step hS id)
  have HS7a := Lib.hid (HS6.out.trans hS)
  clear hS hown
  have hone7 : ∀ u ∈ u8s U, u.oneCell' = true := u8s_one U
  have hm7 : 1 + U.length ≤ maxLen := by unfold maxLen; omega
  have hsz7 := HS7a.out.size
  have hne7 : blkOf D6 ≠ some X := by rw [← ownBlock_slice D6 (1) (1)]; exact own_tag HO7a.out HB7a.out (by decide)
  go_wp2_with (at_builtin; refine wpList_append_src _ rfl _ _ (by rfl) E_u8 (by rfl) (HO7a.out) (by rfl) HR7a.out hone7 hm7 (by omega) (by first | exact hsz7 | (simp; omega)) ?_; intro D7 c7 w7 hown hgrow hat; have v0 := ((HB7a.out).grown hgrow hne7).cell 0; simp at v0)
  have HS7 := Lib.hid (grow_step (HS7a.out) hgrow (HO7a.out) (Nat.le_refl _))
  have HB7 := Lib.hid ((HB7a.out).grown hgrow hne7)
  have HO7 := Lib.hid hown
  clear hown hgrow hat hm7 hone7 hsz7
  refine (HO.out _).mono ?_
  rintro e w8 ⟨rfl, hS⟩
  have HO8 := Lib.hid (own_step HO7.out hS (fun _ _ => id))
  have HB8 := Lib.hid (HB7.out.step hS id)
  have HS8 := Lib.hid (HS7.out.trans hS)
  clear hS
  simp only [infM]
  have hone9 : ∀ u ∈ #[Value.int .u8 0].toList, u.oneCell' = true := (by simp [Value.oneCell'])
  have hm9 : 1 + U.length + 1 ≤ maxLen := by unfold maxLen; omega
  have hsz9 := HS8.out.size
  have hne9 : blkOf D7 ≠ some X := by rw [← ownBlock_slice D7 (1 + U.length) (c7)]; exact own_tag HO8.out HB8.out (by decide)
  go_wp2_with (at_builtin; refine wpList_append_src _ rfl _ _ (by rfl) E_u8 (by rfl) (HO8.out.alloc (.cells #[.int .u8 0] 5)) (by rfl) (reads_new w8 #[Value.int .u8 0] 5 1 1 rfl) hone9 hm9 (by omega) (by first | exact hsz9 | (simp; omega)) ?_; intro D9 c9 w9 hown hgrow hat)
  have HS9 := Lib.hid (grow_step (HS8.out.alloc (.cells #[.int .u8 0] 5)) hgrow (HO8.out.alloc (.cells #[.int .u8 0] 5)) (Nat.le_refl _))
  have HB9 := Lib.hid ((HB8.out.alloc (.cells #[.int .u8 0] 5)).grown hgrow hne9)
  have HO9 := Lib.hid hown
  clear hown hgrow hat hm9 hone9 hsz9
  go_wp2_with fail
  have hcs : u8s [UInt8.ofNat op] ++ u8s U ++ #[Value.int .u8 0].toList = u8s Z := by rw [HZ.out, HU.out]; simp [u8s]
  have hln : 1 + U.length + 1 = Z.length := by rw [HZ.out, HU.out]; simp; try omega
  have hO := HO9.out
  rw [hcs] at hO
  refine bodyPost_ret (v := .tuple #[.slice D9 (1 + U.length + 1) c9, .int .i64 0]) (by simp [results, Try.results55, go_sem]) rfl ?_
  rw [hln] at hO ⊢
  exact ⟨D9, c9, rfl, hO, HS9.out⟩

set_option maxRecDepth 100000 in
set_option maxHeartbeats 3200000 in
theorem iput_8 (w : World) (op a b n c : Nat) (A : Option Addr) (i : Inf) (hop : op < 256) (ha : a < 4294967296) (hb : b < 4294967296)
    (HR : Hid (∀ w, Calls Try.prog 56 #[.agg #[.int .u8 (op : Int), .int .u64 (a : Int), .int .u64 (b : Int), .slice A n c]] w fun e w' => e = .returned (.int .i64 0) ∧ Step (fun _ => False) w w'))
    (HO : Hid (∀ w, Calls Try.prog 25 #[.int .u8 (op : Int)] w fun e w' => e = .returned (infM i 8) ∧ Step (fun _ => False) w w')) :
    Calls Try.prog 55 #[.agg #[.int .u8 (op : Int), .int .u64 (a : Int), .int .u64 (b : Int), .slice A n c]] w fun e w' => ∃ D c', e = .returned (.tuple #[.slice D (UInt8.ofNat op :: (uintF a ++ uintF b)).length c', .int .i64 0]) ∧
      w'.ownsRow w.heap.size 5 1 (.slice D (UInt8.ofNat op :: (uintF a ++ uintF b)).length c') (UInt8.ofNat op :: (uintF a ++ uintF b)).length (u8s (UInt8.ofNat op :: (uintF a ++ uintF b))) ∧ Step (fun _ => False) w w' := by
  have hfd := field_imm i 8
  have hlU := num_len a
  obtain ⟨U, hU⟩ : ∃ U, U = uintF a := ⟨_, rfl⟩
  rw [← hU] at hlU
  have HU : Hid (uintF a = U) := hU.symm
  clear hU
  have hlV := num_len b
  obtain ⟨V, hV⟩ : ∃ V, V = uintF b := ⟨_, rfl⟩
  rw [← hV] at hlV
  have HV : Hid (uintF b = V) := hV.symm
  clear hV
  obtain ⟨Z, hZ⟩ : ∃ Z, Z = UInt8.ofNat op :: (uintF a ++ uintF b) := ⟨_, rfl⟩
  rw [← hZ]
  have HZ := Lib.hid hZ
  clear hZ
  go_enter Try.func55, Try.ntmps55
  go_wp2_with fail
  refine (HR.out _).mono ?_
  rintro e w5 ⟨rfl, hS5⟩
  have HB5 := Lib.hid ((Blk.new w 50 #[.int .u8 (op : Int), .int .u64 (a : Int), .int .u64 (b : Int), .slice A n c]).step hS5 id)
  have HS5 := Lib.hid ((Step.refl.alloc _).trans hS5)
  clear hS5
  obtain ⟨X, hX⟩ : ∃ X, X = w.heap.size := ⟨_, rfl⟩
  rw [← hX] at HB5 ⊢
  have hXl := HB5.out.lt
  have x0 := HB5.out.cell 0
  simp at x0
  clear hX
  go_wp2_with fail
  refine (HO.out _).mono ?_
  rintro e w6 ⟨rfl, hS6⟩
  have HB6 := Lib.hid ((HB5.out.alloc _).step hS6 id)
  have HO6 : Hid (w6.ownsRow w.heap.size 5 1 (.slice (some ⟨w5.heap.size, 0, none⟩) 1 1) 1 (u8s [UInt8.ofNat op])) := by
    rw [byte_cell op hop]
    exact own_step (World.ownsRow_lit (base := w.heap.size) (e := 5) (size := 1) w5 #[Value.int .u8 (op : Int)] 1 HS5.out.size (by decide) rfl) hS6 (fun _ _ => id)
  have HS6 := Lib.hid ((HS5.out.alloc _).trans hS6)
  clear hS6 x0 HB5 hXl
  have hXl := HB6.out.lt
  obtain ⟨D6, hD6⟩ : ∃ D6 : Option Addr, D6 = some ⟨w5.heap.size, 0, none⟩ := ⟨_, rfl⟩
  rw [← hD6] at HO6 ⊢
  clear hD6 HS5
  simp only [infM]
  replace hXl := HB6.out.lt
  have y0 := HB6.out.cell 0
  have y1 := HB6.out.cell 1
  have y2 := HB6.out.cell 2
  have y3 := HB6.out.cell 3
  simp at y0 y1 y2 y3
  go_wp2_with fail
  refine (uint_walk _ a (by omega)).mono ?_
  rintro e w7a ⟨D7a, c7a, rfl, hown, hS⟩
  rw [HU.out] at hown ⊢
  have HO7a := Lib.hid (own_step HO6.out hS (fun _ _ => id))
  have HR7a := Lib.hid (Reads.of_own hown)
  have HB7a := Lib.hid (HB6.out.step hS id)
  have HS7a := Lib.hid (HS6.out.trans hS)
  clear hS hown
  have hone7 : ∀ u ∈ u8s U, u.oneCell' = true := u8s_one U
  have hm7 : 1 + U.length ≤ maxLen := by unfold maxLen; omega
  have hsz7 := HS7a.out.size
  have hne7 : blkOf D6 ≠ some X := by rw [← ownBlock_slice D6 (1) (1)]; exact own_tag HO7a.out HB7a.out (by decide)
  go_wp2_with (at_builtin; refine wpList_append_src _ rfl _ _ (by rfl) E_u8 (by rfl) (HO7a.out) (by rfl) HR7a.out hone7 hm7 (by omega) (by first | exact hsz7 | (simp; omega)) ?_; intro D7 c7 w7 hown hgrow hat; have v0 := ((HB7a.out).grown hgrow hne7).cell 0; simp at v0)
  have HS7 := Lib.hid (grow_step (HS7a.out) hgrow (HO7a.out) (Nat.le_refl _))
  have HB7 := Lib.hid ((HB7a.out).grown hgrow hne7)
  have HO7 := Lib.hid hown
  clear hown hgrow hat hm7 hone7 hsz7
  refine (HO.out _).mono ?_
  rintro e w8 ⟨rfl, hS⟩
  have HO8 := Lib.hid (own_step HO7.out hS (fun _ _ => id))
  have HB8 := Lib.hid (HB7.out.step hS id)
  have HS8 := Lib.hid (HS7.out.trans hS)
  clear hS
  simp only [infM]
  replace hXl := HB8.out.lt
  have y0 := HB8.out.cell 0
  have y1 := HB8.out.cell 1
  have y2 := HB8.out.cell 2
  have y3 := HB8.out.cell 3
  simp at y0 y1 y2 y3
  go_wp2_with fail
  refine (uint_walk _ b (by omega)).mono ?_
  rintro e w9a ⟨D9a, c9a, rfl, hown, hS⟩
  rw [HV.out] at hown ⊢
  have HO9a := Lib.hid (own_step HO8.out hS (fun _ _ => id))
  have HR9a := Lib.hid (Reads.of_own hown)
  have HB9a := Lib.hid (HB8.out.step hS id)
  have HS9a := Lib.hid (HS8.out.trans hS)
  clear hS hown
  have hone9 : ∀ u ∈ u8s V, u.oneCell' = true := u8s_one V
  have hm9 : 1 + U.length + V.length ≤ maxLen := by unfold maxLen; omega
  have hsz9 := HS9a.out.size
  have hne9 : blkOf D7 ≠ some X := by rw [← ownBlock_slice D7 (1 + U.length) (c7)]; exact own_tag HO9a.out HB9a.out (by decide)
  go_wp2_with (at_builtin; refine wpList_append_src _ rfl _ _ (by rfl) E_u8 (by rfl) (HO9a.out) (by rfl) HR9a.out hone9 hm9 (by omega) (by first | exact hsz9 | (simp; omega)) ?_; intro D9 c9 w9 hown hgrow hat)
  have HS9 := Lib.hid (grow_step (HS9a.out) hgrow (HO9a.out) (Nat.le_refl _))
  have HB9 := Lib.hid ((HB9a.out).grown hgrow hne9)
  have HO9 := Lib.hid hown
  clear hown hgrow hat hm9 hone9 hsz9
  go_wp2_with fail
  have hcs : u8s [UInt8.ofNat op] ++ u8s U ++ u8s V = u8s Z := by rw [HZ.out, HU.out, HV.out]; simp [u8s]
  have hln : 1 + U.length + V.length = Z.length := by rw [HZ.out, HU.out, HV.out]; simp; try omega
  have hO := HO9.out
  rw [hcs] at hO
  refine bodyPost_ret (v := .tuple #[.slice D9 (1 + U.length + V.length) c9, .int .i64 0]) (by simp [results, Try.results55, go_sem]) rfl ?_
  rw [hln] at hO ⊢
  exact ⟨D9, c9, rfl, hO, HS9.out⟩

set_option maxRecDepth 100000 in
set_option maxHeartbeats 3200000 in
theorem iput_1 (w : World) (op a n c : Nat) (A : Option Addr) (i : Inf) (hop : op < 256) (ha : a < 256)
    (HR : Hid (∀ w, Calls Try.prog 56 #[.agg #[.int .u8 (op : Int), .int .u64 (a : Int), .int .u64 0, .slice A n c]] w fun e w' => e = .returned (.int .i64 0) ∧ Step (fun _ => False) w w'))
    (HO : Hid (∀ w, Calls Try.prog 25 #[.int .u8 (op : Int)] w fun e w' => e = .returned (infM i 1) ∧ Step (fun _ => False) w w')) :
    Calls Try.prog 55 #[.agg #[.int .u8 (op : Int), .int .u64 (a : Int), .int .u64 0, .slice A n c]] w fun e w' => ∃ D c', e = .returned (.tuple #[.slice D (UInt8.ofNat op :: [UInt8.ofNat a]).length c', .int .i64 0]) ∧
      w'.ownsRow w.heap.size 5 1 (.slice D (UInt8.ofNat op :: [UInt8.ofNat a]).length c') (UInt8.ofNat op :: [UInt8.ofNat a]).length (u8s (UInt8.ofNat op :: [UInt8.ofNat a])) ∧ Step (fun _ => False) w w' := by
  have hfd := field_imm i 1
  obtain ⟨Z, hZ⟩ : ∃ Z, Z = UInt8.ofNat op :: [UInt8.ofNat a] := ⟨_, rfl⟩
  rw [← hZ]
  have HZ := Lib.hid hZ
  clear hZ
  go_enter Try.func55, Try.ntmps55
  go_wp2_with fail
  refine (HR.out _).mono ?_
  rintro e w5 ⟨rfl, hS5⟩
  have HB5 := Lib.hid ((Blk.new w 50 #[.int .u8 (op : Int), .int .u64 (a : Int), .int .u64 0, .slice A n c]).step hS5 id)
  have HS5 := Lib.hid ((Step.refl.alloc _).trans hS5)
  clear hS5
  obtain ⟨X, hX⟩ : ∃ X, X = w.heap.size := ⟨_, rfl⟩
  rw [← hX] at HB5 ⊢
  have hXl := HB5.out.lt
  have x0 := HB5.out.cell 0
  simp at x0
  clear hX
  go_wp2_with fail
  refine (HO.out _).mono ?_
  rintro e w6 ⟨rfl, hS6⟩
  have HB6 := Lib.hid ((HB5.out.alloc _).step hS6 id)
  have HO6 : Hid (w6.ownsRow w.heap.size 5 1 (.slice (some ⟨w5.heap.size, 0, none⟩) 1 1) 1 (u8s [UInt8.ofNat op])) := by
    rw [byte_cell op hop]
    exact own_step (World.ownsRow_lit (base := w.heap.size) (e := 5) (size := 1) w5 #[Value.int .u8 (op : Int)] 1 HS5.out.size (by decide) rfl) hS6 (fun _ _ => id)
  have HS6 := Lib.hid ((HS5.out.alloc _).trans hS6)
  clear hS6 x0 HB5 hXl
  have hXl := HB6.out.lt
  obtain ⟨D6, hD6⟩ : ∃ D6 : Option Addr, D6 = some ⟨w5.heap.size, 0, none⟩ := ⟨_, rfl⟩
  rw [← hD6] at HO6 ⊢
  clear hD6 HS5
  simp only [infM]
  have hwa := IntWalk.u8_in (a : Int) (by omega)
  replace hXl := HB6.out.lt
  have y0 := HB6.out.cell 0
  have y1 := HB6.out.cell 1
  have y2 := HB6.out.cell 2
  have y3 := HB6.out.cell 3
  simp at y0 y1 y2 y3
  have hone7 : ∀ u ∈ #[Value.int .u8 (a : Int)].toList, u.oneCell' = true := (by simp [Value.oneCell'])
  have hm7 : 1 + 1 ≤ maxLen := by unfold maxLen; omega
  have hsz7 := HS6.out.size
  have hne7 : blkOf D6 ≠ some X := by rw [← ownBlock_slice D6 (1) (1)]; exact own_tag HO6.out HB6.out (by decide)
  go_wp2_with (at_builtin; refine wpList_append_src _ rfl _ _ (by rfl) E_u8 (by rfl) (HO6.out.alloc (.cells #[.int .u8 (a : Int)] 5)) (by rfl) (reads_new w6 #[Value.int .u8 (a : Int)] 5 1 1 rfl) hone7 hm7 (by omega) (by first | exact hsz7 | (simp; omega)) ?_; intro D7 c7 w7 hown hgrow hat)
  have HS7 := Lib.hid (grow_step (HS6.out.alloc (.cells #[.int .u8 (a : Int)] 5)) hgrow (HO6.out.alloc (.cells #[.int .u8 (a : Int)] 5)) (Nat.le_refl _))
  have HB7 := Lib.hid ((HB6.out.alloc (.cells #[.int .u8 (a : Int)] 5)).grown hgrow hne7)
  have HO7 := Lib.hid hown
  clear hown hgrow hat hm7 hone7 hsz7
  go_wp2_with fail
  have hcs : u8s [UInt8.ofNat op] ++ #[Value.int .u8 (a : Int)].toList = u8s Z := by rw [HZ.out]; simp [u8s]; omega
  have hln : 1 + 1 = Z.length := by rw [HZ.out]; simp; try omega
  have hO := HO7.out
  rw [hcs] at hO
  refine bodyPost_ret (v := .tuple #[.slice D7 (1 + 1) c7, .int .i64 0]) (by simp [results, Try.results55, go_sem]) rfl ?_
  rw [hln] at hO ⊢
  exact ⟨D7, c7, rfl, hO, HS7.out⟩
end Go.Proofs.Ytfemeendkjcffaa
