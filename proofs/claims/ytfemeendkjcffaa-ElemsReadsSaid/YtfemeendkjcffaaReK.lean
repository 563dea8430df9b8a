/-
  creelref07.Get: what is given up ahead of the kinds (printed by gen_rek.py).
-/
import Derived.Test.YtfemeendkjcffaaReI
set_option linter.unusedVariables false
set_option linter.unusedSimpArgs false
namespace Go.Proofs.Ytfemeendkjcffaa
open Go.RowKit

set_option maxRecDepth 100000 in
set_option maxHeartbeats 3200000 in
theorem rg_er (w : World) (X : Nat) (S : Nat → Prop) (D : Option Addr) (c : Nat) (bs : List UInt8) (s : Rst) (h : Rf w X S D c bs s) (op k1 Y a1 : Nat) (hby : rbyF bs s = (op, ⟨k1, Y, a1⟩)) (hY : ¬ Y = 0) :
    Calls Try.prog 145 #[.pointer (some ⟨X, 0, none⟩)] w (GetQ X S D c bs w (0, 0, 0, []) ⟨k1, Y, a1⟩) := by
  have hYb : ((Y : Int) == 0) = false := by simp; omega
  have HBY : Hid (∀ w', Rf w' X S D c bs s → Calls Try.prog 147 #[.pointer (some ⟨X, 0, none⟩)] w' (Rg X S D c bs w' (.int .i64 (op : Int)) ⟨k1, Y, a1⟩)) := fun w' h' => by
    have h1 := rbyte_walk w' X S D c bs s h'
    rw [hby] at h1
    exact h1
  have hop : op < 256 := by have := rbyF_lt bs s; rw [hby] at this; exact this
  clear hby
  have hxl := h.lt
  have hlow := h.low
  have x1 := h.c1
  have HH := Lib.hid h
  clear h
  have hw8 : IntKind.u8.wrap (op : Int) = (op : Int) := by rw [IntKind.wrap_u8]; omega
  have hw64 : IntKind.i64.wrap (op : Int) = (op : Int) := IntWalk.i64_in _ (by omega)
  clear hop
  go_enter Try.func145, Try.ntmps145
  go_wp2_with fail
  refine (HBY.out _ (HH.out.alloc _)).mono ?_
  rintro e w6 ⟨rfl, hs6, ht6⟩
  have hsz := (((Step.refl (F := fun i => i = X)).alloc (w := w) (.cells #[.int .u8 (0 : Int), .int .u64 (0 : Int), .int .u64 (0 : Int), .slice none 0 0] 50)).trans ht6).size
  obtain ⟨R, hR⟩ : ∃ R, R = w.heap.size := ⟨_, rfl⟩
  have hRX : R ≠ X := by omega
  have hRw : w.heap.size ≤ R := by omega
  have hRS : ∀ j, S j → j ≠ R := fun j hj => by have := hlow j hj; omega
  have HB6 := Lib.hid (((Blk.new w 50 #[.int .u8 (0 : Int), .int .u64 (0 : Int), .int .u64 (0 : Int), .slice none 0 0]).step ht6 (by rw [← hR]; exact hRX)).alloc (.cells #[.int .u8 (op : Int), .int .u64 (0 : Int), .int .u64 (0 : Int), .slice none 0 0] 50))
  have hRI := ((Blk.new w 50 #[.int .u8 (0 : Int), .int .u64 (0 : Int), .int .u64 (0 : Int), .slice none 0 0]).step ht6 (by rw [← hR]; exact hRX)).lt
  rw [← hR] at hRI
  have HI6 := Lib.hid (Blk.new w6 50 #[.int .u8 (op : Int), .int .u64 (0 : Int), .int .u64 (0 : Int), .slice none 0 0])
  have HS6 := Lib.hid (hs6.alloc (.cells #[.int .u8 (op : Int), .int .u64 (0 : Int), .int .u64 (0 : Int), .slice none 0 0] 50))
  have HT6 := Lib.hid ((((Step.refl (F := fun i => i = X)).alloc (w := w) (.cells #[.int .u8 (0 : Int), .int .u64 (0 : Int), .int .u64 (0 : Int), .slice none 0 0] 50)).trans ht6).alloc (.cells #[.int .u8 (op : Int), .int .u64 (0 : Int), .int .u64 (0 : Int), .slice none 0 0] 50))
  have hXI : X < w6.heap.size := by omega
  have hIw : w.heap.size ≤ w6.heap.size := by omega
  have x2 := hs6.c2
  simp only at x2
  rw [← hR] at HB6 ⊢
  clear hs6 ht6 hR hxl HH x1 hsz
  obtain ⟨I, hI⟩ : ∃ I, I = w6.heap.size := ⟨_, rfl⟩
  have hIS : ∀ j, S j → j ≠ I := fun j hj => by have := hlow j hj; omega
  have hIX : I ≠ X := by omega
  have hRI2 : R ≠ I := by omega
  rw [← hI] at HI6 hIw
  clear hY
  have hone : (#[.int .u8 (0 : Int), .int .u64 (0 : Int), .int .u64 (0 : Int), .slice none 0 0] : Array Value).all (·.oneCell') = true := by simp [Value.oneCell']
  have hbl := HB6.out
  go_wp2_with (refine wpList_store_rowTo rfl 50 _ _ rfl rfl R #[.int .u8 (0 : Int), .int .u64 (0 : Int), .int .u64 (0 : Int), .slice none 0 0] rfl rfl 50 _ hbl rfl rfl hone ?_)
  have r0 := (hbl.row #[.int .u8 (0 : Int), .int .u64 (0 : Int), .int .u64 (0 : Int), .slice none 0 0]).cell 0
  have r1 := (hbl.row #[.int .u8 (0 : Int), .int .u64 (0 : Int), .int .u64 (0 : Int), .slice none 0 0]).cell 1
  have r2 := (hbl.row #[.int .u8 (0 : Int), .int .u64 (0 : Int), .int .u64 (0 : Int), .slice none 0 0]).cell 2
  have r3 := (hbl.row #[.int .u8 (0 : Int), .int .u64 (0 : Int), .int .u64 (0 : Int), .slice none 0 0]).cell 3
  simp at r0 r1 r2 r3
  have hSF := HS6.out.step (Step.setRow (F := fun j => j = R) Step.refl (g := R) (.inl rfl) #[.int .u8 (0 : Int), .int .u64 (0 : Int), .int .u64 (0 : Int), .slice none 0 0]) (Ne.symm hRX) hRS
  have hTF := HT6.out.setRow (g := R) (.inr hRw) #[.int .u8 (0 : Int), .int .u64 (0 : Int), .int .u64 (0 : Int), .slice none 0 0]
  refine bodyPost_ret (v := .agg #[.int .u8 (0 : Int), .int .u64 (0 : Int), .int .u64 (0 : Int), .slice none 0 0]) (by simp [results, Try.results145, go_sem, r0, r1, r2, r3]) rfl ?_
  exact ⟨none, 0, rfl, World.ownsRow_nil _ _ _ _, hSF, hTF⟩

set_option maxRecDepth 100000 in
set_option maxHeartbeats 3200000 in
theorem rg_ck (w : World) (X : Nat) (S : Nat → Prop) (D : Option Addr) (c : Nat) (bs : List UInt8) (s : Rst) (h : Rf w X S D c bs s) (op k1 a1 : Nat) (hby : rbyF bs s = (op, ⟨k1, 0, a1⟩)) (y : Nat) (hy : ¬ y = 0)
    (HC : Hid (∀ w, Calls Try.prog 27 #[.int .i64 (op : Int)] w fun e w' => e = .returned (.int .i64 (y : Int)) ∧ Step (fun _ => False) w w')) :
    Calls Try.prog 145 #[.pointer (some ⟨X, 0, none⟩)] w (GetQ X S D c bs w (0, 0, 0, []) ⟨k1, y, s.k⟩) := by
  have hyb : ((y : Int) == 0) = false := by simp; omega
  clear hy
  have HBY : Hid (∀ w', Rf w' X S D c bs s → Calls Try.prog 147 #[.pointer (some ⟨X, 0, none⟩)] w' (Rg X S D c bs w' (.int .i64 (op : Int)) ⟨k1, 0, a1⟩)) := fun w' h' => by
    have h1 := rbyte_walk w' X S D c bs s h'
    rw [hby] at h1
    exact h1
  have hop : op < 256 := by have := rbyF_lt bs s; rw [hby] at this; exact this
  clear hby
  have hxl := h.lt
  have hlow := h.low
  have x1 := h.c1
  have HH := Lib.hid h
  clear h
  have hw8 : IntKind.u8.wrap (op : Int) = (op : Int) := by rw [IntKind.wrap_u8]; omega
  have hw64 : IntKind.i64.wrap (op : Int) = (op : Int) := IntWalk.i64_in _ (by omega)
  clear hop
  go_enter Try.func145, Try.ntmps145
  go_wp2_with fail
  refine (HBY.out _ (HH.out.alloc _)).mono ?_
  rintro e w6 ⟨rfl, hs6, ht6⟩
  have hsz := (((Step.refl (F := fun i => i = X)).alloc (w := w) (.cells #[.int .u8 (0 : Int), .int .u64 (0 : Int), .int .u64 (0 : Int), .slice none 0 0] 50)).trans ht6).size
  obtain ⟨R, hR⟩ : ∃ R, R = w.heap.size := ⟨_, rfl⟩
  have hRX : R ≠ X := by omega
  have hRw : w.heap.size ≤ R := by omega
  have hRS : ∀ j, S j → j ≠ R := fun j hj => by have := hlow j hj; omega
  have HB6 := Lib.hid (((Blk.new w 50 #[.int .u8 (0 : Int), .int .u64 (0 : Int), .int .u64 (0 : Int), .slice none 0 0]).step ht6 (by rw [← hR]; exact hRX)).alloc (.cells #[.int .u8 (op : Int), .int .u64 (0 : Int), .int .u64 (0 : Int), .slice none 0 0] 50))
  have hRI := ((Blk.new w 50 #[.int .u8 (0 : Int), .int .u64 (0 : Int), .int .u64 (0 : Int), .slice none 0 0]).step ht6 (by rw [← hR]; exact hRX)).lt
  rw [← hR] at hRI
  have HI6 := Lib.hid (Blk.new w6 50 #[.int .u8 (op : Int), .int .u64 (0 : Int), .int .u64 (0 : Int), .slice none 0 0])
  have HS6 := Lib.hid (hs6.alloc (.cells #[.int .u8 (op : Int), .int .u64 (0 : Int), .int .u64 (0 : Int), .slice none 0 0] 50))
  have HT6 := Lib.hid ((((Step.refl (F := fun i => i = X)).alloc (w := w) (.cells #[.int .u8 (0 : Int), .int .u64 (0 : Int), .int .u64 (0 : Int), .slice none 0 0] 50)).trans ht6).alloc (.cells #[.int .u8 (op : Int), .int .u64 (0 : Int), .int .u64 (0 : Int), .slice none 0 0] 50))
  have hXI : X < w6.heap.size := by omega
  have hIw : w.heap.size ≤ w6.heap.size := by omega
  have x2 := hs6.c2
  simp only at x2
  rw [← hR] at HB6 ⊢
  clear hs6 ht6 hR hxl HH x1 hsz
  obtain ⟨I, hI⟩ : ∃ I, I = w6.heap.size := ⟨_, rfl⟩
  have hIS : ∀ j, S j → j ≠ I := fun j hj => by have := hlow j hj; omega
  have hIX : I ≠ X := by omega
  have hRI2 : R ≠ I := by omega
  rw [← hI] at HI6 hIw
  go_wp2_with fail
  rw [← hI]
  obtain ⟨W, hW⟩ : ∃ W, W = w6.alloc (.cells #[.int .u8 (op : Int), .int .u64 (0 : Int), .int .u64 (0 : Int), .slice none 0 0] 50) := ⟨_, rfl⟩
  rw [← hW] at HB6 HI6 HS6 HT6
  rw [show w6.alloc (.cells #[.int .u8 (op : Int), .int .u64 0, .int .u64 0, .slice none 0 0] 50) = W from hW.symm]
  clear hW hI x2
  refine (HC.out _).mono ?_
  rintro e w7 ⟨rfl, ht7⟩
  have HB7 := Lib.hid (HB6.out.step ht7 id)
  have HI7 := Lib.hid (HI6.out.step ht7 id)
  have HS7 := Lib.hid (HS6.out.quiet ht7)
  have HT7 := Lib.hid (HT6.out.trans' ht7 (fun _ h => h.elim))
  clear ht7 HB6 HI6 HS6 HT6
  have x0 := HI7.out.cell 0
  simp at x0
  go_wp2_with fail
  refine (HC.out _).mono ?_
  rintro e w8 ⟨rfl, ht8⟩
  have HB8 := Lib.hid (HB7.out.step ht8 id)
  have HI8 := Lib.hid (HI7.out.step ht8 id)
  have HS8 := Lib.hid (HS7.out.quiet ht8)
  have HT8 := Lib.hid (HT7.out.trans' ht8 (fun _ h => h.elim))
  clear ht8 HB7 HI7 HS7 HT7 HC x0
  go_wp2_with fail
  refine (rfail_walk _ X S D c bs _ HS8.out y s.k).mono ?_
  rintro e w9 ⟨rfl, hs, ht⟩
  have HB9 := Lib.hid (HB8.out.step ht hRX)
  have HS9 : Hid (Rf w9 X S D c bs ⟨k1, y, s.k⟩) := hs
  have HT9 := Lib.hid (HT8.out.trans ht)
  clear hs ht HB8 HS8 HT8
  have x2 := HS9.out.c2
  simp only at x2
  have hone : (#[.int .u8 (0 : Int), .int .u64 (0 : Int), .int .u64 (0 : Int), .slice none 0 0] : Array Value).all (·.oneCell') = true := by simp [Value.oneCell']
  have hbl := HB9.out
  go_wp2_with (refine wpList_store_rowTo rfl 50 _ _ rfl rfl R #[.int .u8 (0 : Int), .int .u64 (0 : Int), .int .u64 (0 : Int), .slice none 0 0] rfl rfl 50 _ hbl rfl rfl hone ?_)
  have r0 := (hbl.row #[.int .u8 (0 : Int), .int .u64 (0 : Int), .int .u64 (0 : Int), .slice none 0 0]).cell 0
  have r1 := (hbl.row #[.int .u8 (0 : Int), .int .u64 (0 : Int), .int .u64 (0 : Int), .slice none 0 0]).cell 1
  have r2 := (hbl.row #[.int .u8 (0 : Int), .int .u64 (0 : Int), .int .u64 (0 : Int), .slice none 0 0]).cell 2
  have r3 := (hbl.row #[.int .u8 (0 : Int), .int .u64 (0 : Int), .int .u64 (0 : Int), .slice none 0 0]).cell 3
  simp at r0 r1 r2 r3
  have hSF := HS9.out.step (Step.setRow (F := fun j => j = R) Step.refl (g := R) (.inl rfl) #[.int .u8 (0 : Int), .int .u64 (0 : Int), .int .u64 (0 : Int), .slice none 0 0]) (Ne.symm hRX) hRS
  have hTF := HT9.out.setRow (g := R) (.inr hRw) #[.int .u8 (0 : Int), .int .u64 (0 : Int), .int .u64 (0 : Int), .slice none 0 0]
  refine bodyPost_ret (v := .agg #[.int .u8 (0 : Int), .int .u64 (0 : Int), .int .u64 (0 : Int), .slice none 0 0]) (by simp [results, Try.results145, go_sem, r0, r1, r2, r3]) rfl ?_
  exact ⟨none, 0, rfl, World.ownsRow_nil _ _ _ _, hSF, hTF⟩
end Go.Proofs.Ytfemeendkjcffaa
