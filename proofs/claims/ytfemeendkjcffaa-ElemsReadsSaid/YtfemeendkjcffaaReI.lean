/-
  creelref07: nought, Get: the kinds (printed by gen_rei.py).
-/
import Derived.Test.YtfemeendkjcffaaReH
import Derived.Test.YtfemeendkjcffaaInD
import Derived.Test.YtfemeendkjcffaaReC
set_option linter.unusedVariables false
set_option linter.unusedSimpArgs false
namespace Go.Proofs.Ytfemeendkjcffaa
open Go.RowKit

def rnoF (bs : List UInt8) (s : Rst) : Rst := if (rbyF bs s).1 = 0 then (rbyF bs s).2 else failS 10 s.k (rbyF bs s).2
/-- What comes back: nothing where something is wrong. -/
def finX (x : Nat × Nat × Nat × List Nat) (y : Nat) : Nat × Nat × Nat × List Nat := if y = 0 then x else (0, 0, 0, [])
def GetQ (X : Nat) (S : Nat → Prop) (D : Option Addr) (c : Nat) (bs : List UInt8) (w : World) (x : Nat × Nat × Nat × List Nat) (s : Rst) (e : Ending) (w' : World) : Prop :=
  ∃ D' c', e = .returned (.agg (insC (x.1 : Int) (x.2.1 : Int) (x.2.2.1 : Int) D' x.2.2.2.length c')) ∧ w'.ownsRow w.heap.size 51 1 (.slice D' x.2.2.2.length c') x.2.2.2.length (u32s x.2.2.2) ∧ Rf w' X S D c bs s ∧ Step (fun i => i = X) w w'

set_option maxRecDepth 100000 in
set_option maxHeartbeats 1600000 in
theorem rnought_walk (w : World) (X : Nat) (S : Nat → Prop) (D : Option Addr) (c : Nat) (bs : List UInt8) (s : Rst) (h : Rf w X S D c bs s) :
    Calls Try.prog 193 #[.pointer (some ⟨X, 0, none⟩)] w (Rg X S D c bs w (.tuple #[]) (rnoF bs s)) := by
  have HN := Lib.hid (rbyte_walk w X S D c bs s h)
  have x1 := h.c1
  rw [rnoF]
  clear h
  generalize rbyF bs s = r at HN ⊢
  obtain ⟨v, s1⟩ := r
  obtain ⟨k, y0, a0⟩ := s
  simp only at HN x1 ⊢
  by_cases hv : v = 0
  · subst hv
    rw [if_pos rfl]
    go_enter Try.func193, Try.ntmps193
    go_wp2_with fail
    refine HN.out.mono ?_
    rintro e w5 ⟨rfl, hS5, hT5⟩
    go_wp2_with fail
    go_end0
    exact ⟨rfl, hS5, hT5⟩
  · rw [if_neg hv]
    have hv' : ((v : Int) == 0) = false := by simp; omega
    clear hv
    go_enter Try.func193, Try.ntmps193
    go_wp2_with fail
    refine HN.out.mono ?_
    rintro e w5 ⟨rfl, hS5, hT5⟩
    go_wp2_with fail
    refine (rfail_walk _ X S D c bs s1 hS5 10 k).mono ?_
    rintro e w6 ⟨rfl, hS6, hT6⟩
    go_wp2_with fail
    go_end0
    exact ⟨rfl, hS6, hT5.trans hT6⟩

set_option maxRecDepth 100000 in
set_option maxHeartbeats 3200000 in
theorem rg_0 (w : World) (X : Nat) (S : Nat → Prop) (D : Option Addr) (c : Nat) (bs : List UInt8) (s : Rst) (h : Rf w X S D c bs s) (op k1 a1 : Nat) (i : Rr) (hby : rbyF bs s = (op, ⟨k1, 0, a1⟩)) 
    (HC : Hid (∀ w, Calls Try.prog 27 #[.int .i64 (op : Int)] w fun e w' => e = .returned (.int .i64 0) ∧ Step (fun _ => False) w w'))
    (HO : Hid (∀ w, Calls Try.prog 24 #[.int .i64 (op : Int)] w fun e w' => e = .returned (.tuple #[rrM i 0, .bool true]) ∧ Step (fun _ => False) w w')) :
    Calls Try.prog 145 #[.pointer (some ⟨X, 0, none⟩)] w (GetQ X S D c bs w (finX (op, 0, 0, []) (⟨k1, 0, a1⟩ : Rst).y) (⟨k1, 0, a1⟩ : Rst)) := by
  have HBY : Hid (∀ w', Rf w' X S D c bs s → Calls Try.prog 147 #[.pointer (some ⟨X, 0, none⟩)] w' (Rg X S D c bs w' (.int .i64 (op : Int)) ⟨k1, 0, a1⟩)) := fun w' h' => by
    have h1 := rbyte_walk w' X S D c bs s h'
    rw [hby] at h1
    exact h1
  have hop : op < 256 := by have := rbyF_lt bs s; rw [hby] at this; exact this
  clear hby
  have hxl := h.lt
  have hlow := h.low
  have x1 := h.c1
  have HH := Lib.hid h
  clear h
  have hw8 : IntKind.u8.wrap (op : Int) = (op : Int) := by rw [IntKind.wrap_u8]; omega
  have hw64 : IntKind.i64.wrap (op : Int) = (op : Int) := IntWalk.i64_in _ (by omega)
  clear hop
  go_enter Try.func145, Try.ntmps145
  go_wp2_with fail
  refine (HBY.out _ (HH.out.alloc _)).mono ?_
  rintro e w6 ⟨rfl, hs6, ht6⟩
  have hsz := (((Step.refl (F := fun i => i = X)).alloc (w := w) (.cells #[.int .u8 (0 : Int), .int .u64 (0 : Int), .int .u64 (0 : Int), .slice none 0 0] 50)).trans ht6).size
  obtain ⟨R, hR⟩ : ∃ R, R = w.heap.size := ⟨_, rfl⟩
  have hRX : R ≠ X := by omega
  have hRw : w.heap.size ≤ R := by omega
  have hRS : ∀ j, S j → j ≠ R := fun j hj => by have := hlow j hj; omega
  have HB6 := Lib.hid (((Blk.new w 50 #[.int .u8 (0 : Int), .int .u64 (0 : Int), .int .u64 (0 : Int), .slice none 0 0]).step ht6 (by rw [← hR]; exact hRX)).alloc (.cells #[.int .u8 (op : Int), .int .u64 (0 : Int), .int .u64 (0 : Int), .slice none 0 0] 50))
  have hRI := ((Blk.new w 50 #[.int .u8 (0 : Int), .int .u64 (0 : Int), .int .u64 (0 : Int), .slice none 0 0]).step ht6 (by rw [← hR]; exact hRX)).lt
  rw [← hR] at hRI
  have HI6 := Lib.hid (Blk.new w6 50 #[.int .u8 (op : Int), .int .u64 (0 : Int), .int .u64 (0 : Int), .slice none 0 0])
  have HS6 := Lib.hid (hs6.alloc (.cells #[.int .u8 (op : Int), .int .u64 (0 : Int), .int .u64 (0 : Int), .slice none 0 0] 50))
  have HT6 := Lib.hid ((((Step.refl (F := fun i => i = X)).alloc (w := w) (.cells #[.int .u8 (0 : Int), .int .u64 (0 : Int), .int .u64 (0 : Int), .slice none 0 0] 50)).trans ht6).alloc (.cells #[.int .u8 (op : Int), .int .u64 (0 : Int), .int .u64 (0 : Int), .slice none 0 0] 50))
  have hXI : X < w6.heap.size := by omega
  have hIw : w.heap.size ≤ w6.heap.size := by omega
  have x2 := hs6.c2
  simp only at x2
  rw [← hR] at HB6 ⊢
  clear hs6 ht6 hR hxl HH x1 hsz
  obtain ⟨I, hI⟩ : ∃ I, I = w6.heap.size := ⟨_, rfl⟩
  have hIS : ∀ j, S j → j ≠ I := fun j hj => by have := hlow j hj; omega
  have hIX : I ≠ X := by omega
  have hRI2 : R ≠ I := by omega
  rw [← hI] at HI6 hIw
  go_wp2_with fail
  rw [← hI]
  obtain ⟨W, hW⟩ : ∃ W, W = w6.alloc (.cells #[.int .u8 (op : Int), .int .u64 (0 : Int), .int .u64 (0 : Int), .slice none 0 0] 50) := ⟨_, rfl⟩
  rw [← hW] at HB6 HI6 HS6 HT6
  rw [show w6.alloc (.cells #[.int .u8 (op : Int), .int .u64 0, .int .u64 0, .slice none 0 0] 50) = W from hW.symm]
  clear hW hI x2
  refine (HC.out _).mono ?_
  rintro e w7 ⟨rfl, ht7⟩
  have HB7 := Lib.hid (HB6.out.step ht7 id)
  have HI7 := Lib.hid (HI6.out.step ht7 id)
  have HS7 := Lib.hid (HS6.out.quiet ht7)
  have HT7 := Lib.hid (HT6.out.trans' ht7 (fun _ h => h.elim))
  clear ht7 HB6 HI6 HS6 HT6 HC
  have x0 := HI7.out.cell 0
  have x2 := HS7.out.c2
  simp at x0
  simp only at x2
  go_wp2_with fail
  refine (HO.out _).mono ?_
  rintro e w8 ⟨rfl, ht8⟩
  have hI8 := (HI7.out.step ht8 id).lt
  have hX8 := (HS7.out.quiet ht8).lt
  have hR8 := (HB7.out.step ht8 id).lt
  have xx0 := (HI7.out.step ht8 id).cell 0
  have xx1 := (HI7.out.step ht8 id).cell 1
  have xx2 := (HI7.out.step ht8 id).cell 2
  have xx3 := (HI7.out.step ht8 id).cell 3
  have x1 := (HS7.out.quiet ht8).c1
  have x2 := (HS7.out.quiet ht8).c2
  simp at xx0 xx1 xx2 xx3
  simp only at x1 x2
  have HB9 := Lib.hid ((HB7.out.step ht8 id).alloc (.cells #[.int .i64 i.op, .string (str i.name), .int .i64 0, .string (str i.takes), .string (str i.has), .bool i.free] 24))
  have HI9 := Lib.hid ((HI7.out.step ht8 id).alloc (.cells #[.int .i64 i.op, .string (str i.name), .int .i64 0, .string (str i.takes), .string (str i.has), .bool i.free] 24))
  have HS9 := Lib.hid ((HS7.out.quiet ht8).alloc (.cells #[.int .i64 i.op, .string (str i.name), .int .i64 0, .string (str i.takes), .string (str i.has), .bool i.free] 24))
  have HT9 := Lib.hid ((HT7.out.trans' ht8 (fun _ h => h.elim)).alloc (.cells #[.int .i64 i.op, .string (str i.name), .int .i64 0, .string (str i.takes), .string (str i.has), .bool i.free] 24))
  clear ht8 HB7 HI7 HS7 HT7 HO x0
  simp only [rrM]
  have x2 := HS9.out.c2
  simp only at x2
  have y0 := HI9.out.cell 0
  have y1 := HI9.out.cell 1
  have y2' := HI9.out.cell 2
  have y3 := HI9.out.cell 3
  simp at y0 y1 y2' y3
  have hone : (#[.int .u8 (op : Int), .int .u64 (0 : Int), .int .u64 (0 : Int), .slice none 0 0] : Array Value).all (·.oneCell') = true := by simp [Value.oneCell']
  have hbl := HB9.out
  go_wp2_with (refine wpList_store_rowTo rfl 50 _ _ rfl rfl R #[.int .u8 (op : Int), .int .u64 (0 : Int), .int .u64 (0 : Int), .slice none 0 0] rfl rfl 50 _ hbl rfl rfl hone ?_)
  have r0 := (hbl.row #[.int .u8 (op : Int), .int .u64 (0 : Int), .int .u64 (0 : Int), .slice none 0 0]).cell 0
  have r1 := (hbl.row #[.int .u8 (op : Int), .int .u64 (0 : Int), .int .u64 (0 : Int), .slice none 0 0]).cell 1
  have r2 := (hbl.row #[.int .u8 (op : Int), .int .u64 (0 : Int), .int .u64 (0 : Int), .slice none 0 0]).cell 2
  have r3 := (hbl.row #[.int .u8 (op : Int), .int .u64 (0 : Int), .int .u64 (0 : Int), .slice none 0 0]).cell 3
  simp at r0 r1 r2 r3
  have hSF := HS9.out.step (Step.setRow (F := fun j => j = R) Step.refl (g := R) (.inl rfl) #[.int .u8 (op : Int), .int .u64 (0 : Int), .int .u64 (0 : Int), .slice none 0 0]) (Ne.symm hRX) hRS
  have hTF := HT9.out.setRow (g := R) (.inr hRw) #[.int .u8 (op : Int), .int .u64 (0 : Int), .int .u64 (0 : Int), .slice none 0 0]
  refine bodyPost_ret (v := .agg #[.int .u8 (op : Int), .int .u64 (0 : Int), .int .u64 (0 : Int), .slice none 0 0]) (by simp [results, Try.results145, go_sem, r0, r1, r2, r3]) rfl ?_
  rw [finX, if_pos rfl]
  exact ⟨none, 0, rfl, World.ownsRow_nil _ _ _ _, hSF, hTF⟩

set_option maxRecDepth 100000 in
set_option maxHeartbeats 3200000 in
theorem rg_7 (w : World) (X : Nat) (S : Nat → Prop) (D : Option Addr) (c : Nat) (bs : List UInt8) (s : Rst) (h : Rf w X S D c bs s) (op k1 a1 : Nat) (i : Rr) (hby : rbyF bs s = (op, ⟨k1, 0, a1⟩)) (m : Nat) (hm : ¬ m = 0 ∧ ¬ m = 1 ∧ ¬ m = 3 ∧ ¬ m = 5 ∧ ¬ m = 8 ∧ ¬ m = 9 ∧ ¬ m = 10 ∧ ¬ m = 11) (a : Nat) (s2 : Rst) (ha : a < 4294967296) (HK : Hid (∀ w', Rf w' X S D c bs ⟨k1, 0, a1⟩ → Calls Try.prog 192 #[.pointer (some ⟨X, 0, none⟩)] w' (Rg X S D c bs w' (.int .u32 (a : Int)) s2)))
    (HC : Hid (∀ w, Calls Try.prog 27 #[.int .i64 (op : Int)] w fun e w' => e = .returned (.int .i64 0) ∧ Step (fun _ => False) w w'))
    (HO : Hid (∀ w, Calls Try.prog 24 #[.int .i64 (op : Int)] w fun e w' => e = .returned (.tuple #[rrM i (m : Int), .bool true]) ∧ Step (fun _ => False) w w')) :
    Calls Try.prog 145 #[.pointer (some ⟨X, 0, none⟩)] w (GetQ X S D c bs w (finX (op, a, 0, []) s2.y) s2) := by
  have HBY : Hid (∀ w', Rf w' X S D c bs s → Calls Try.prog 147 #[.pointer (some ⟨X, 0, none⟩)] w' (Rg X S D c bs w' (.int .i64 (op : Int)) ⟨k1, 0, a1⟩)) := fun w' h' => by
    have h1 := rbyte_walk w' X S D c bs s h'
    rw [hby] at h1
    exact h1
  have hop : op < 256 := by have := rbyF_lt bs s; rw [hby] at this; exact this
  clear hby
  have hxl := h.lt
  have hlow := h.low
  have x1 := h.c1
  have HH := Lib.hid h
  clear h
  have hw8 : IntKind.u8.wrap (op : Int) = (op : Int) := by rw [IntKind.wrap_u8]; omega
  have hw64 : IntKind.i64.wrap (op : Int) = (op : Int) := IntWalk.i64_in _ (by omega)
  clear hop
  go_enter Try.func145, Try.ntmps145
  go_wp2_with fail
  refine (HBY.out _ (HH.out.alloc _)).mono ?_
  rintro e w6 ⟨rfl, hs6, ht6⟩
  have hsz := (((Step.refl (F := fun i => i = X)).alloc (w := w) (.cells #[.int .u8 (0 : Int), .int .u64 (0 : Int), .int .u64 (0 : Int), .slice none 0 0] 50)).trans ht6).size
  obtain ⟨R, hR⟩ : ∃ R, R = w.heap.size := ⟨_, rfl⟩
  have hRX : R ≠ X := by omega
  have hRw : w.heap.size ≤ R := by omega
  have hRS : ∀ j, S j → j ≠ R := fun j hj => by have := hlow j hj; omega
  have HB6 := Lib.hid (((Blk.new w 50 #[.int .u8 (0 : Int), .int .u64 (0 : Int), .int .u64 (0 : Int), .slice none 0 0]).step ht6 (by rw [← hR]; exact hRX)).alloc (.cells #[.int .u8 (op : Int), .int .u64 (0 : Int), .int .u64 (0 : Int), .slice none 0 0] 50))
  have hRI := ((Blk.new w 50 #[.int .u8 (0 : Int), .int .u64 (0 : Int), .int .u64 (0 : Int), .slice none 0 0]).step ht6 (by rw [← hR]; exact hRX)).lt
  rw [← hR] at hRI
  have HI6 := Lib.hid (Blk.new w6 50 #[.int .u8 (op : Int), .int .u64 (0 : Int), .int .u64 (0 : Int), .slice none 0 0])
  have HS6 := Lib.hid (hs6.alloc (.cells #[.int .u8 (op : Int), .int .u64 (0 : Int), .int .u64 (0 : Int), .slice none 0 0] 50))
  have HT6 := Lib.hid ((((Step.refl (F := fun i => i = X)).alloc (w := w) (.cells #[.int .u8 (0 : Int), .int .u64 (0 : Int), .int .u64 (0 : Int), .slice none 0 0] 50)).trans ht6).alloc (.cells #[.int .u8 (op : Int), .int .u64 (0 : Int), .int .u64 (0 : Int), .slice none 0 0] 50))
  have hXI : X < w6.heap.size := by omega
  have hIw : w.heap.size ≤ w6.heap.size := by omega
  have x2 := hs6.c2
  simp only at x2
  rw [← hR] at HB6 ⊢
  clear hs6 ht6 hR hxl HH x1 hsz
  obtain ⟨I, hI⟩ : ∃ I, I = w6.heap.size := ⟨_, rfl⟩
  have hIS : ∀ j, S j → j ≠ I := fun j hj => by have := hlow j hj; omega
  have hIX : I ≠ X := by omega
  have hRI2 : R ≠ I := by omega
  rw [← hI] at HI6 hIw
  go_wp2_with fail
  rw [← hI]
  obtain ⟨W, hW⟩ : ∃ W, W = w6.alloc (.cells #[.int .u8 (op : Int), .int .u64 (0 : Int), .int .u64 (0 : Int), .slice none 0 0] 50) := ⟨_, rfl⟩
  rw [← hW] at HB6 HI6 HS6 HT6
  rw [show w6.alloc (.cells #[.int .u8 (op : Int), .int .u64 0, .int .u64 0, .slice none 0 0] 50) = W from hW.symm]
  clear hW hI x2
  refine (HC.out _).mono ?_
  rintro e w7 ⟨rfl, ht7⟩
  have HB7 := Lib.hid (HB6.out.step ht7 id)
  have HI7 := Lib.hid (HI6.out.step ht7 id)
  have HS7 := Lib.hid (HS6.out.quiet ht7)
  have HT7 := Lib.hid (HT6.out.trans' ht7 (fun _ h => h.elim))
  clear ht7 HB6 HI6 HS6 HT6 HC
  have x0 := HI7.out.cell 0
  have x2 := HS7.out.c2
  simp at x0
  simp only at x2
  go_wp2_with fail
  refine (HO.out _).mono ?_
  rintro e w8 ⟨rfl, ht8⟩
  have hI8 := (HI7.out.step ht8 id).lt
  have hX8 := (HS7.out.quiet ht8).lt
  have hR8 := (HB7.out.step ht8 id).lt
  have xx0 := (HI7.out.step ht8 id).cell 0
  have xx1 := (HI7.out.step ht8 id).cell 1
  have xx2 := (HI7.out.step ht8 id).cell 2
  have xx3 := (HI7.out.step ht8 id).cell 3
  have x1 := (HS7.out.quiet ht8).c1
  have x2 := (HS7.out.quiet ht8).c2
  simp at xx0 xx1 xx2 xx3
  simp only at x1 x2
  have HB9 := Lib.hid ((HB7.out.step ht8 id).alloc (.cells #[.int .i64 i.op, .string (str i.name), .int .i64 (m : Int), .string (str i.takes), .string (str i.has), .bool i.free] 24))
  have HI9 := Lib.hid ((HI7.out.step ht8 id).alloc (.cells #[.int .i64 i.op, .string (str i.name), .int .i64 (m : Int), .string (str i.takes), .string (str i.has), .bool i.free] 24))
  have HS9 := Lib.hid ((HS7.out.quiet ht8).alloc (.cells #[.int .i64 i.op, .string (str i.name), .int .i64 (m : Int), .string (str i.takes), .string (str i.has), .bool i.free] 24))
  have HT9 := Lib.hid ((HT7.out.trans' ht8 (fun _ h => h.elim)).alloc (.cells #[.int .i64 i.op, .string (str i.name), .int .i64 (m : Int), .string (str i.takes), .string (str i.has), .bool i.free] 24))
  clear ht8 HB7 HI7 HS7 HT7 HO x0
  simp only [rrM]
  have n0 : ((m : Int) == 0) = false := by simp; omega
  have n1 : ((m : Int) == 1) = false := by simp; omega
  have n3 : ((m : Int) == 3) = false := by simp; omega
  have n5 : ((m : Int) == 5) = false := by simp; omega
  have n8 : ((m : Int) == 8) = false := by simp; omega
  have n9 : ((m : Int) == 9) = false := by simp; omega
  have n10 : ((m : Int) == 10) = false := by simp; omega
  have n11 : ((m : Int) == 11) = false := by simp; omega
  clear hm
  have hu := IntWalk.u64_in (a : Int) (by omega)
  go_wp2_with fail
  refine ((HK.out _) HS9.out).mono ?_
  rintro e w10 ⟨rfl, hs, ht⟩
  have HB10 := Lib.hid (HB9.out.step ht hRX)
  have HI10 := Lib.hid (HI9.out.step ht hIX)
  have HS10 := Lib.hid hs
  have HT10 := Lib.hid (HT9.out.trans ht)
  clear hs ht HB9 HI9 HS9 HT9
  have zz10 := HI10.out.frozen 1
  have cc10 := HI10.out.cell 1
  simp at cc10
  have HI11 : Hid (Blk (w10.setCell ⟨I, 1, none⟩ (.int .u64 (a : Int))) I 50 #[.int .u8 (op : Int), .int .u64 (a : Int), .int .u64 (0 : Int), .slice none 0 0]) := by
    have hq := HI10.out.set_ 1 (.int .u64 (a : Int))
    simp at hq
    exact hq
  have HB11 := Lib.hid (HB10.out.far (p := ⟨I, 1, none⟩) hRI2 (.int .u64 (a : Int)))
  have hst10 : Step (fun j => j = I) w10 (w10.setCell ⟨I, 1, none⟩ (.int .u64 (a : Int))) := (Step.refl (F := fun j => j = I)).setCell (p := ⟨I, 1, none⟩) (.inl rfl) _
  have HS11 := Lib.hid (HS10.out.step hst10 (Ne.symm hIX) hIS)
  have HT11 := Lib.hid (HT10.out.setCell (p := ⟨I, 1, none⟩) (.inr hIw) (.int .u64 (a : Int)))
  clear HI10 HB10 HS10 HT10 hst10
  obtain ⟨k2, y2, a2⟩ := s2
  simp only
  have x2 := HS11.out.c2
  simp only at x2
  by_cases hy : y2 = 0
  · subst hy
    have y0 := HI11.out.cell 0
    have y1 := HI11.out.cell 1
    have y2' := HI11.out.cell 2
    have y3 := HI11.out.cell 3
    simp at y0 y1 y2' y3
    have hone : (#[.int .u8 (op : Int), .int .u64 (a : Int), .int .u64 (0 : Int), .slice none 0 0] : Array Value).all (·.oneCell') = true := by simp [Value.oneCell']
    have hbl := HB11.out
    go_wp2_with (refine wpList_store_rowTo rfl 50 _ _ rfl rfl R #[.int .u8 (op : Int), .int .u64 (a : Int), .int .u64 (0 : Int), .slice none 0 0] rfl rfl 50 _ hbl rfl rfl hone ?_)
    have r0 := (hbl.row #[.int .u8 (op : Int), .int .u64 (a : Int), .int .u64 (0 : Int), .slice none 0 0]).cell 0
    have r1 := (hbl.row #[.int .u8 (op : Int), .int .u64 (a : Int), .int .u64 (0 : Int), .slice none 0 0]).cell 1
    have r2 := (hbl.row #[.int .u8 (op : Int), .int .u64 (a : Int), .int .u64 (0 : Int), .slice none 0 0]).cell 2
    have r3 := (hbl.row #[.int .u8 (op : Int), .int .u64 (a : Int), .int .u64 (0 : Int), .slice none 0 0]).cell 3
    simp at r0 r1 r2 r3
    have hSF := HS11.out.step (Step.setRow (F := fun j => j = R) Step.refl (g := R) (.inl rfl) #[.int .u8 (op : Int), .int .u64 (a : Int), .int .u64 (0 : Int), .slice none 0 0]) (Ne.symm hRX) hRS
    have hTF := HT11.out.setRow (g := R) (.inr hRw) #[.int .u8 (op : Int), .int .u64 (a : Int), .int .u64 (0 : Int), .slice none 0 0]
    refine bodyPost_ret (v := .agg #[.int .u8 (op : Int), .int .u64 (a : Int), .int .u64 (0 : Int), .slice none 0 0]) (by simp [results, Try.results145, go_sem, r0, r1, r2, r3]) rfl ?_
    rw [finX, if_pos rfl]
    exact ⟨none, 0, rfl, World.ownsRow_nil _ _ _ _, hSF, hTF⟩
  · have hy0 : ((y2 : Int) == 0) = false := by simp; omega
    have hone : (#[.int .u8 (0 : Int), .int .u64 (0 : Int), .int .u64 (0 : Int), .slice none 0 0] : Array Value).all (·.oneCell') = true := by simp [Value.oneCell']
    have hbl := HB11.out
    go_wp2_with (refine wpList_store_rowTo rfl 50 _ _ rfl rfl R #[.int .u8 (0 : Int), .int .u64 (0 : Int), .int .u64 (0 : Int), .slice none 0 0] rfl rfl 50 _ hbl rfl rfl hone ?_)
    have r0 := (hbl.row #[.int .u8 (0 : Int), .int .u64 (0 : Int), .int .u64 (0 : Int), .slice none 0 0]).cell 0
    have r1 := (hbl.row #[.int .u8 (0 : Int), .int .u64 (0 : Int), .int .u64 (0 : Int), .slice none 0 0]).cell 1
    have r2 := (hbl.row #[.int .u8 (0 : Int), .int .u64 (0 : Int), .int .u64 (0 : Int), .slice none 0 0]).cell 2
    have r3 := (hbl.row #[.int .u8 (0 : Int), .int .u64 (0 : Int), .int .u64 (0 : Int), .slice none 0 0]).cell 3
    simp at r0 r1 r2 r3
    have hSF := HS11.out.step (Step.setRow (F := fun j => j = R) Step.refl (g := R) (.inl rfl) #[.int .u8 (0 : Int), .int .u64 (0 : Int), .int .u64 (0 : Int), .slice none 0 0]) (Ne.symm hRX) hRS
    have hTF := HT11.out.setRow (g := R) (.inr hRw) #[.int .u8 (0 : Int), .int .u64 (0 : Int), .int .u64 (0 : Int), .slice none 0 0]
    refine bodyPost_ret (v := .agg #[.int .u8 (0 : Int), .int .u64 (0 : Int), .int .u64 (0 : Int), .slice none 0 0]) (by simp [results, Try.results145, go_sem, r0, r1, r2, r3]) rfl ?_
    rw [finX, if_neg hy]
    exact ⟨none, 0, rfl, World.ownsRow_nil _ _ _ _, hSF, hTF⟩

set_option maxRecDepth 100000 in
set_option maxHeartbeats 3200000 in
theorem rg_1a (w : World) (X : Nat) (S : Nat → Prop) (D : Option Addr) (c : Nat) (bs : List UInt8) (s : Rst) (h : Rf w X S D c bs s) (op k1 a1 : Nat) (i : Rr) (hby : rbyF bs s = (op, ⟨k1, 0, a1⟩)) (a : Nat) (s2 : Rst) (ha : a = 64) (HK : Hid (∀ w', Rf w' X S D c bs ⟨k1, 0, a1⟩ → Calls Try.prog 147 #[.pointer (some ⟨X, 0, none⟩)] w' (Rg X S D c bs w' (.int .i64 (a : Int)) s2)))
    (HC : Hid (∀ w, Calls Try.prog 27 #[.int .i64 (op : Int)] w fun e w' => e = .returned (.int .i64 0) ∧ Step (fun _ => False) w w'))
    (HO : Hid (∀ w, Calls Try.prog 24 #[.int .i64 (op : Int)] w fun e w' => e = .returned (.tuple #[rrM i 1, .bool true]) ∧ Step (fun _ => False) w w')) :
    Calls Try.prog 145 #[.pointer (some ⟨X, 0, none⟩)] w (GetQ X S D c bs w (finX (op, a, 0, []) s2.y) s2) := by
  have HBY : Hid (∀ w', Rf w' X S D c bs s → Calls Try.prog 147 #[.pointer (some ⟨X, 0, none⟩)] w' (Rg X S D c bs w' (.int .i64 (op : Int)) ⟨k1, 0, a1⟩)) := fun w' h' => by
    have h1 := rbyte_walk w' X S D c bs s h'
    rw [hby] at h1
    exact h1
  have hop : op < 256 := by have := rbyF_lt bs s; rw [hby] at this; exact this
  clear hby
  have hxl := h.lt
  have hlow := h.low
  have x1 := h.c1
  have HH := Lib.hid h
  clear h
  have hw8 : IntKind.u8.wrap (op : Int) = (op : Int) := by rw [IntKind.wrap_u8]; omega
  have hw64 : IntKind.i64.wrap (op : Int) = (op : Int) := IntWalk.i64_in _ (by omega)
  clear hop
  go_enter Try.func145, Try.ntmps145
  go_wp2_with fail
  refine (HBY.out _ (HH.out.alloc _)).mono ?_
  rintro e w6 ⟨rfl, hs6, ht6⟩
  have hsz := (((Step.refl (F := fun i => i = X)).alloc (w := w) (.cells #[.int .u8 (0 : Int), .int .u64 (0 : Int), .int .u64 (0 : Int), .slice none 0 0] 50)).trans ht6).size
  obtain ⟨R, hR⟩ : ∃ R, R = w.heap.size := ⟨_, rfl⟩
  have hRX : R ≠ X := by omega
  have hRw : w.heap.size ≤ R := by omega
  have hRS : ∀ j, S j → j ≠ R := fun j hj => by have := hlow j hj; omega
  have HB6 := Lib.hid (((Blk.new w 50 #[.int .u8 (0 : Int), .int .u64 (0 : Int), .int .u64 (0 : Int), .slice none 0 0]).step ht6 (by rw [← hR]; exact hRX)).alloc (.cells #[.int .u8 (op : Int), .int .u64 (0 : Int), .int .u64 (0 : Int), .slice none 0 0] 50))
  have hRI := ((Blk.new w 50 #[.int .u8 (0 : Int), .int .u64 (0 : Int), .int .u64 (0 : Int), .slice none 0 0]).step ht6 (by rw [← hR]; exact hRX)).lt
  rw [← hR] at hRI
  have HI6 := Lib.hid (Blk.new w6 50 #[.int .u8 (op : Int), .int .u64 (0 : Int), .int .u64 (0 : Int), .slice none 0 0])
  have HS6 := Lib.hid (hs6.alloc (.cells #[.int .u8 (op : Int), .int .u64 (0 : Int), .int .u64 (0 : Int), .slice none 0 0] 50))
  have HT6 := Lib.hid ((((Step.refl (F := fun i => i = X)).alloc (w := w) (.cells #[.int .u8 (0 : Int), .int .u64 (0 : Int), .int .u64 (0 : Int), .slice none 0 0] 50)).trans ht6).alloc (.cells #[.int .u8 (op : Int), .int .u64 (0 : Int), .int .u64 (0 : Int), .slice none 0 0] 50))
  have hXI : X < w6.heap.size := by omega
  have hIw : w.heap.size ≤ w6.heap.size := by omega
  have x2 := hs6.c2
  simp only at x2
  rw [← hR] at HB6 ⊢
  clear hs6 ht6 hR hxl HH x1 hsz
  obtain ⟨I, hI⟩ : ∃ I, I = w6.heap.size := ⟨_, rfl⟩
  have hIS : ∀ j, S j → j ≠ I := fun j hj => by have := hlow j hj; omega
  have hIX : I ≠ X := by omega
  have hRI2 : R ≠ I := by omega
  rw [← hI] at HI6 hIw
  go_wp2_with fail
  rw [← hI]
  obtain ⟨W, hW⟩ : ∃ W, W = w6.alloc (.cells #[.int .u8 (op : Int), .int .u64 (0 : Int), .int .u64 (0 : Int), .slice none 0 0] 50) := ⟨_, rfl⟩
  rw [← hW] at HB6 HI6 HS6 HT6
  rw [show w6.alloc (.cells #[.int .u8 (op : Int), .int .u64 0, .int .u64 0, .slice none 0 0] 50) = W from hW.symm]
  clear hW hI x2
  refine (HC.out _).mono ?_
  rintro e w7 ⟨rfl, ht7⟩
  have HB7 := Lib.hid (HB6.out.step ht7 id)
  have HI7 := Lib.hid (HI6.out.step ht7 id)
  have HS7 := Lib.hid (HS6.out.quiet ht7)
  have HT7 := Lib.hid (HT6.out.trans' ht7 (fun _ h => h.elim))
  clear ht7 HB6 HI6 HS6 HT6 HC
  have x0 := HI7.out.cell 0
  have x2 := HS7.out.c2
  simp at x0
  simp only at x2
  go_wp2_with fail
  refine (HO.out _).mono ?_
  rintro e w8 ⟨rfl, ht8⟩
  have hI8 := (HI7.out.step ht8 id).lt
  have hX8 := (HS7.out.quiet ht8).lt
  have hR8 := (HB7.out.step ht8 id).lt
  have xx0 := (HI7.out.step ht8 id).cell 0
  have xx1 := (HI7.out.step ht8 id).cell 1
  have xx2 := (HI7.out.step ht8 id).cell 2
  have xx3 := (HI7.out.step ht8 id).cell 3
  have x1 := (HS7.out.quiet ht8).c1
  have x2 := (HS7.out.quiet ht8).c2
  simp at xx0 xx1 xx2 xx3
  simp only at x1 x2
  have HB9 := Lib.hid ((HB7.out.step ht8 id).alloc (.cells #[.int .i64 i.op, .string (str i.name), .int .i64 1, .string (str i.takes), .string (str i.has), .bool i.free] 24))
  have HI9 := Lib.hid ((HI7.out.step ht8 id).alloc (.cells #[.int .i64 i.op, .string (str i.name), .int .i64 1, .string (str i.takes), .string (str i.has), .bool i.free] 24))
  have HS9 := Lib.hid ((HS7.out.quiet ht8).alloc (.cells #[.int .i64 i.op, .string (str i.name), .int .i64 1, .string (str i.takes), .string (str i.has), .bool i.free] 24))
  have HT9 := Lib.hid ((HT7.out.trans' ht8 (fun _ h => h.elim)).alloc (.cells #[.int .i64 i.op, .string (str i.name), .int .i64 1, .string (str i.takes), .string (str i.has), .bool i.free] 24))
  clear ht8 HB7 HI7 HS7 HT7 HO x0
  simp only [rrM]
  have ga : ((a : Int) == 64) = true := by simp; omega
  have gb : ((a : Int) != 64) = false := by simp; omega
  have hu := IntWalk.u64_in (a : Int) (by omega)
  clear ha
  go_wp2_with fail
  refine ((HK.out _) HS9.out).mono ?_
  rintro e w10 ⟨rfl, hs, ht⟩
  have HB10 := Lib.hid (HB9.out.step ht hRX)
  have HI10 := Lib.hid (HI9.out.step ht hIX)
  have HS10 := Lib.hid hs
  have HT10 := Lib.hid (HT9.out.trans ht)
  clear hs ht HB9 HI9 HS9 HT9
  have zz10 := HI10.out.frozen 1
  have cc10 := HI10.out.cell 1
  simp at cc10
  have HI11 : Hid (Blk (w10.setCell ⟨I, 1, none⟩ (.int .u64 (a : Int))) I 50 #[.int .u8 (op : Int), .int .u64 (a : Int), .int .u64 (0 : Int), .slice none 0 0]) := by
    have hq := HI10.out.set_ 1 (.int .u64 (a : Int))
    simp at hq
    exact hq
  have HB11 := Lib.hid (HB10.out.far (p := ⟨I, 1, none⟩) hRI2 (.int .u64 (a : Int)))
  have hst10 : Step (fun j => j = I) w10 (w10.setCell ⟨I, 1, none⟩ (.int .u64 (a : Int))) := (Step.refl (F := fun j => j = I)).setCell (p := ⟨I, 1, none⟩) (.inl rfl) _
  have HS11 := Lib.hid (HS10.out.step hst10 (Ne.symm hIX) hIS)
  have HT11 := Lib.hid (HT10.out.setCell (p := ⟨I, 1, none⟩) (.inr hIw) (.int .u64 (a : Int)))
  clear HI10 HB10 HS10 HT10 hst10
  have v1 := HI11.out.cell 1
  simp at v1
  obtain ⟨k2, y2, a2⟩ := s2
  simp only
  have x2 := HS11.out.c2
  simp only at x2
  by_cases hy : y2 = 0
  · subst hy
    have y0 := HI11.out.cell 0
    have y1 := HI11.out.cell 1
    have y2' := HI11.out.cell 2
    have y3 := HI11.out.cell 3
    simp at y0 y1 y2' y3
    have hone : (#[.int .u8 (op : Int), .int .u64 (a : Int), .int .u64 (0 : Int), .slice none 0 0] : Array Value).all (·.oneCell') = true := by simp [Value.oneCell']
    have hbl := HB11.out
    go_wp2_with (refine wpList_store_rowTo rfl 50 _ _ rfl rfl R #[.int .u8 (op : Int), .int .u64 (a : Int), .int .u64 (0 : Int), .slice none 0 0] rfl rfl 50 _ hbl rfl rfl hone ?_)
    have r0 := (hbl.row #[.int .u8 (op : Int), .int .u64 (a : Int), .int .u64 (0 : Int), .slice none 0 0]).cell 0
    have r1 := (hbl.row #[.int .u8 (op : Int), .int .u64 (a : Int), .int .u64 (0 : Int), .slice none 0 0]).cell 1
    have r2 := (hbl.row #[.int .u8 (op : Int), .int .u64 (a : Int), .int .u64 (0 : Int), .slice none 0 0]).cell 2
    have r3 := (hbl.row #[.int .u8 (op : Int), .int .u64 (a : Int), .int .u64 (0 : Int), .slice none 0 0]).cell 3
    simp at r0 r1 r2 r3
    have hSF := HS11.out.step (Step.setRow (F := fun j => j = R) Step.refl (g := R) (.inl rfl) #[.int .u8 (op : Int), .int .u64 (a : Int), .int .u64 (0 : Int), .slice none 0 0]) (Ne.symm hRX) hRS
    have hTF := HT11.out.setRow (g := R) (.inr hRw) #[.int .u8 (op : Int), .int .u64 (a : Int), .int .u64 (0 : Int), .slice none 0 0]
    refine bodyPost_ret (v := .agg #[.int .u8 (op : Int), .int .u64 (a : Int), .int .u64 (0 : Int), .slice none 0 0]) (by simp [results, Try.results145, go_sem, r0, r1, r2, r3]) rfl ?_
    rw [finX, if_pos rfl]
    exact ⟨none, 0, rfl, World.ownsRow_nil _ _ _ _, hSF, hTF⟩
  · have hy0 : ((y2 : Int) == 0) = false := by simp; omega
    have hone : (#[.int .u8 (0 : Int), .int .u64 (0 : Int), .int .u64 (0 : Int), .slice none 0 0] : Array Value).all (·.oneCell') = true := by simp [Value.oneCell']
    have hbl := HB11.out
    go_wp2_with (refine wpList_store_rowTo rfl 50 _ _ rfl rfl R #[.int .u8 (0 : Int), .int .u64 (0 : Int), .int .u64 (0 : Int), .slice none 0 0] rfl rfl 50 _ hbl rfl rfl hone ?_)
    have r0 := (hbl.row #[.int .u8 (0 : Int), .int .u64 (0 : Int), .int .u64 (0 : Int), .slice none 0 0]).cell 0
    have r1 := (hbl.row #[.int .u8 (0 : Int), .int .u64 (0 : Int), .int .u64 (0 : Int), .slice none 0 0]).cell 1
    have r2 := (hbl.row #[.int .u8 (0 : Int), .int .u64 (0 : Int), .int .u64 (0 : Int), .slice none 0 0]).cell 2
    have r3 := (hbl.row #[.int .u8 (0 : Int), .int .u64 (0 : Int), .int .u64 (0 : Int), .slice none 0 0]).cell 3
    simp at r0 r1 r2 r3
    have hSF := HS11.out.step (Step.setRow (F := fun j => j = R) Step.refl (g := R) (.inl rfl) #[.int .u8 (0 : Int), .int .u64 (0 : Int), .int .u64 (0 : Int), .slice none 0 0]) (Ne.symm hRX) hRS
    have hTF := HT11.out.setRow (g := R) (.inr hRw) #[.int .u8 (0 : Int), .int .u64 (0 : Int), .int .u64 (0 : Int), .slice none 0 0]
    refine bodyPost_ret (v := .agg #[.int .u8 (0 : Int), .int .u64 (0 : Int), .int .u64 (0 : Int), .slice none 0 0]) (by simp [results, Try.results145, go_sem, r0, r1, r2, r3]) rfl ?_
    rw [finX, if_neg hy]
    exact ⟨none, 0, rfl, World.ownsRow_nil _ _ _ _, hSF, hTF⟩

set_option maxRecDepth 100000 in
set_option maxHeartbeats 3200000 in
theorem rg_1b (w : World) (X : Nat) (S : Nat → Prop) (D : Option Addr) (c : Nat) (bs : List UInt8) (s : Rst) (h : Rf w X S D c bs s) (op k1 a1 : Nat) (i : Rr) (hby : rbyF bs s = (op, ⟨k1, 0, a1⟩)) (a : Nat) (s2 : Rst) (ha : a < 256 ∧ ¬ a = 64) (v : Nat) (hv : v = 0) (HK : Hid (∀ w', Rf w' X S D c bs ⟨k1, 0, a1⟩ → Calls Try.prog 147 #[.pointer (some ⟨X, 0, none⟩)] w' (Rg X S D c bs w' (.int .i64 (a : Int)) s2))) (HV : Hid (∀ w, Calls Try.prog 148 #[.int .i64 (a : Int)] w fun e w' => e = .returned (.int .i64 (v : Int)) ∧ w' = w))
    (HC : Hid (∀ w, Calls Try.prog 27 #[.int .i64 (op : Int)] w fun e w' => e = .returned (.int .i64 0) ∧ Step (fun _ => False) w w'))
    (HO : Hid (∀ w, Calls Try.prog 24 #[.int .i64 (op : Int)] w fun e w' => e = .returned (.tuple #[rrM i 1, .bool true]) ∧ Step (fun _ => False) w w')) :
    Calls Try.prog 145 #[.pointer (some ⟨X, 0, none⟩)] w (GetQ X S D c bs w (finX (op, a, 0, []) s2.y) s2) := by
  have HBY : Hid (∀ w', Rf w' X S D c bs s → Calls Try.prog 147 #[.pointer (some ⟨X, 0, none⟩)] w' (Rg X S D c bs w' (.int .i64 (op : Int)) ⟨k1, 0, a1⟩)) := fun w' h' => by
    have h1 := rbyte_walk w' X S D c bs s h'
    rw [hby] at h1
    exact h1
  have hop : op < 256 := by have := rbyF_lt bs s; rw [hby] at this; exact this
  clear hby
  have hxl := h.lt
  have hlow := h.low
  have x1 := h.c1
  have HH := Lib.hid h
  clear h
  have hw8 : IntKind.u8.wrap (op : Int) = (op : Int) := by rw [IntKind.wrap_u8]; omega
  have hw64 : IntKind.i64.wrap (op : Int) = (op : Int) := IntWalk.i64_in _ (by omega)
  clear hop
  go_enter Try.func145, Try.ntmps145
  go_wp2_with fail
  refine (HBY.out _ (HH.out.alloc _)).mono ?_
  rintro e w6 ⟨rfl, hs6, ht6⟩
  have hsz := (((Step.refl (F := fun i => i = X)).alloc (w := w) (.cells #[.int .u8 (0 : Int), .int .u64 (0 : Int), .int .u64 (0 : Int), .slice none 0 0] 50)).trans ht6).size
  obtain ⟨R, hR⟩ : ∃ R, R = w.heap.size := ⟨_, rfl⟩
  have hRX : R ≠ X := by omega
  have hRw : w.heap.size ≤ R := by omega
  have hRS : ∀ j, S j → j ≠ R := fun j hj => by have := hlow j hj; omega
  have HB6 := Lib.hid (((Blk.new w 50 #[.int .u8 (0 : Int), .int .u64 (0 : Int), .int .u64 (0 : Int), .slice none 0 0]).step ht6 (by rw [← hR]; exact hRX)).alloc (.cells #[.int .u8 (op : Int), .int .u64 (0 : Int), .int .u64 (0 : Int), .slice none 0 0] 50))
  have hRI := ((Blk.new w 50 #[.int .u8 (0 : Int), .int .u64 (0 : Int), .int .u64 (0 : Int), .slice none 0 0]).step ht6 (by rw [← hR]; exact hRX)).lt
  rw [← hR] at hRI
  have HI6 := Lib.hid (Blk.new w6 50 #[.int .u8 (op : Int), .int .u64 (0 : Int), .int .u64 (0 : Int), .slice none 0 0])
  have HS6 := Lib.hid (hs6.alloc (.cells #[.int .u8 (op : Int), .int .u64 (0 : Int), .int .u64 (0 : Int), .slice none 0 0] 50))
  have HT6 := Lib.hid ((((Step.refl (F := fun i => i = X)).alloc (w := w) (.cells #[.int .u8 (0 : Int), .int .u64 (0 : Int), .int .u64 (0 : Int), .slice none 0 0] 50)).trans ht6).alloc (.cells #[.int .u8 (op : Int), .int .u64 (0 : Int), .int .u64 (0 : Int), .slice none 0 0] 50))
  have hXI : X < w6.heap.size := by omega
  have hIw : w.heap.size ≤ w6.heap.size := by omega
  have x2 := hs6.c2
  simp only at x2
  rw [← hR] at HB6 ⊢
  clear hs6 ht6 hR hxl HH x1 hsz
  obtain ⟨I, hI⟩ : ∃ I, I = w6.heap.size := ⟨_, rfl⟩
  have hIS : ∀ j, S j → j ≠ I := fun j hj => by have := hlow j hj; omega
  have hIX : I ≠ X := by omega
  have hRI2 : R ≠ I := by omega
  rw [← hI] at HI6 hIw
  go_wp2_with fail
  rw [← hI]
  obtain ⟨W, hW⟩ : ∃ W, W = w6.alloc (.cells #[.int .u8 (op : Int), .int .u64 (0 : Int), .int .u64 (0 : Int), .slice none 0 0] 50) := ⟨_, rfl⟩
  rw [← hW] at HB6 HI6 HS6 HT6
  rw [show w6.alloc (.cells #[.int .u8 (op : Int), .int .u64 0, .int .u64 0, .slice none 0 0] 50) = W from hW.symm]
  clear hW hI x2
  refine (HC.out _).mono ?_
  rintro e w7 ⟨rfl, ht7⟩
  have HB7 := Lib.hid (HB6.out.step ht7 id)
  have HI7 := Lib.hid (HI6.out.step ht7 id)
  have HS7 := Lib.hid (HS6.out.quiet ht7)
  have HT7 := Lib.hid (HT6.out.trans' ht7 (fun _ h => h.elim))
  clear ht7 HB6 HI6 HS6 HT6 HC
  have x0 := HI7.out.cell 0
  have x2 := HS7.out.c2
  simp at x0
  simp only at x2
  go_wp2_with fail
  refine (HO.out _).mono ?_
  rintro e w8 ⟨rfl, ht8⟩
  have hI8 := (HI7.out.step ht8 id).lt
  have hX8 := (HS7.out.quiet ht8).lt
  have hR8 := (HB7.out.step ht8 id).lt
  have xx0 := (HI7.out.step ht8 id).cell 0
  have xx1 := (HI7.out.step ht8 id).cell 1
  have xx2 := (HI7.out.step ht8 id).cell 2
  have xx3 := (HI7.out.step ht8 id).cell 3
  have x1 := (HS7.out.quiet ht8).c1
  have x2 := (HS7.out.quiet ht8).c2
  simp at xx0 xx1 xx2 xx3
  simp only at x1 x2
  have HB9 := Lib.hid ((HB7.out.step ht8 id).alloc (.cells #[.int .i64 i.op, .string (str i.name), .int .i64 1, .string (str i.takes), .string (str i.has), .bool i.free] 24))
  have HI9 := Lib.hid ((HI7.out.step ht8 id).alloc (.cells #[.int .i64 i.op, .string (str i.name), .int .i64 1, .string (str i.takes), .string (str i.has), .bool i.free] 24))
  have HS9 := Lib.hid ((HS7.out.quiet ht8).alloc (.cells #[.int .i64 i.op, .string (str i.name), .int .i64 1, .string (str i.takes), .string (str i.has), .bool i.free] 24))
  have HT9 := Lib.hid ((HT7.out.trans' ht8 (fun _ h => h.elim)).alloc (.cells #[.int .i64 i.op, .string (str i.name), .int .i64 1, .string (str i.takes), .string (str i.has), .bool i.free] 24))
  clear ht8 HB7 HI7 HS7 HT7 HO x0
  simp only [rrM]
  have ga : ((a : Int) == 64) = false := by simp; omega
  have gb : ((a : Int) != 64) = true := by simp; omega
  have hi64 := IntWalk.i64_in (a : Int) (by omega)
  subst hv
  have hu := IntWalk.u64_in (a : Int) (by omega)
  clear ha
  go_wp2_with fail
  refine ((HK.out _) HS9.out).mono ?_
  rintro e w10 ⟨rfl, hs, ht⟩
  have HB10 := Lib.hid (HB9.out.step ht hRX)
  have HI10 := Lib.hid (HI9.out.step ht hIX)
  have HS10 := Lib.hid hs
  have HT10 := Lib.hid (HT9.out.trans ht)
  clear hs ht HB9 HI9 HS9 HT9
  have zz10 := HI10.out.frozen 1
  have cc10 := HI10.out.cell 1
  simp at cc10
  have HI11 : Hid (Blk (w10.setCell ⟨I, 1, none⟩ (.int .u64 (a : Int))) I 50 #[.int .u8 (op : Int), .int .u64 (a : Int), .int .u64 (0 : Int), .slice none 0 0]) := by
    have hq := HI10.out.set_ 1 (.int .u64 (a : Int))
    simp at hq
    exact hq
  have HB11 := Lib.hid (HB10.out.far (p := ⟨I, 1, none⟩) hRI2 (.int .u64 (a : Int)))
  have hst10 : Step (fun j => j = I) w10 (w10.setCell ⟨I, 1, none⟩ (.int .u64 (a : Int))) := (Step.refl (F := fun j => j = I)).setCell (p := ⟨I, 1, none⟩) (.inl rfl) _
  have HS11 := Lib.hid (HS10.out.step hst10 (Ne.symm hIX) hIS)
  have HT11 := Lib.hid (HT10.out.setCell (p := ⟨I, 1, none⟩) (.inr hIw) (.int .u64 (a : Int)))
  clear HI10 HB10 HS10 HT10 hst10
  have v1 := HI11.out.cell 1
  simp at v1
  go_wp2_with fail
  refine (HV.out _).mono ?_
  rintro e wS ⟨rfl, hwS⟩
  subst wS
  obtain ⟨k2, y2, a2⟩ := s2
  simp only
  have x2 := HS11.out.c2
  simp only at x2
  by_cases hy : y2 = 0
  · subst hy
    have y0 := HI11.out.cell 0
    have y1 := HI11.out.cell 1
    have y2' := HI11.out.cell 2
    have y3 := HI11.out.cell 3
    simp at y0 y1 y2' y3
    have hone : (#[.int .u8 (op : Int), .int .u64 (a : Int), .int .u64 (0 : Int), .slice none 0 0] : Array Value).all (·.oneCell') = true := by simp [Value.oneCell']
    have hbl := HB11.out
    go_wp2_with (refine wpList_store_rowTo rfl 50 _ _ rfl rfl R #[.int .u8 (op : Int), .int .u64 (a : Int), .int .u64 (0 : Int), .slice none 0 0] rfl rfl 50 _ hbl rfl rfl hone ?_)
    have r0 := (hbl.row #[.int .u8 (op : Int), .int .u64 (a : Int), .int .u64 (0 : Int), .slice none 0 0]).cell 0
    have r1 := (hbl.row #[.int .u8 (op : Int), .int .u64 (a : Int), .int .u64 (0 : Int), .slice none 0 0]).cell 1
    have r2 := (hbl.row #[.int .u8 (op : Int), .int .u64 (a : Int), .int .u64 (0 : Int), .slice none 0 0]).cell 2
    have r3 := (hbl.row #[.int .u8 (op : Int), .int .u64 (a : Int), .int .u64 (0 : Int), .slice none 0 0]).cell 3
    simp at r0 r1 r2 r3
    have hSF := HS11.out.step (Step.setRow (F := fun j => j = R) Step.refl (g := R) (.inl rfl) #[.int .u8 (op : Int), .int .u64 (a : Int), .int .u64 (0 : Int), .slice none 0 0]) (Ne.symm hRX) hRS
    have hTF := HT11.out.setRow (g := R) (.inr hRw) #[.int .u8 (op : Int), .int .u64 (a : Int), .int .u64 (0 : Int), .slice none 0 0]
    refine bodyPost_ret (v := .agg #[.int .u8 (op : Int), .int .u64 (a : Int), .int .u64 (0 : Int), .slice none 0 0]) (by simp [results, Try.results145, go_sem, r0, r1, r2, r3]) rfl ?_
    rw [finX, if_pos rfl]
    exact ⟨none, 0, rfl, World.ownsRow_nil _ _ _ _, hSF, hTF⟩
  · have hy0 : ((y2 : Int) == 0) = false := by simp; omega
    have hone : (#[.int .u8 (0 : Int), .int .u64 (0 : Int), .int .u64 (0 : Int), .slice none 0 0] : Array Value).all (·.oneCell') = true := by simp [Value.oneCell']
    have hbl := HB11.out
    go_wp2_with (refine wpList_store_rowTo rfl 50 _ _ rfl rfl R #[.int .u8 (0 : Int), .int .u64 (0 : Int), .int .u64 (0 : Int), .slice none 0 0] rfl rfl 50 _ hbl rfl rfl hone ?_)
    have r0 := (hbl.row #[.int .u8 (0 : Int), .int .u64 (0 : Int), .int .u64 (0 : Int), .slice none 0 0]).cell 0
    have r1 := (hbl.row #[.int .u8 (0 : Int), .int .u64 (0 : Int), .int .u64 (0 : Int), .slice none 0 0]).cell 1
    have r2 := (hbl.row #[.int .u8 (0 : Int), .int .u64 (0 : Int), .int .u64 (0 : Int), .slice none 0 0]).cell 2
    have r3 := (hbl.row #[.int .u8 (0 : Int), .int .u64 (0 : Int), .int .u64 (0 : Int), .slice none 0 0]).cell 3
    simp at r0 r1 r2 r3
    have hSF := HS11.out.step (Step.setRow (F := fun j => j = R) Step.refl (g := R) (.inl rfl) #[.int .u8 (0 : Int), .int .u64 (0 : Int), .int .u64 (0 : Int), .slice none 0 0]) (Ne.symm hRX) hRS
    have hTF := HT11.out.setRow (g := R) (.inr hRw) #[.int .u8 (0 : Int), .int .u64 (0 : Int), .int .u64 (0 : Int), .slice none 0 0]
    refine bodyPost_ret (v := .agg #[.int .u8 (0 : Int), .int .u64 (0 : Int), .int .u64 (0 : Int), .slice none 0 0]) (by simp [results, Try.results145, go_sem, r0, r1, r2, r3]) rfl ?_
    rw [finX, if_neg hy]
    exact ⟨none, 0, rfl, World.ownsRow_nil _ _ _ _, hSF, hTF⟩

set_option maxRecDepth 100000 in
set_option maxHeartbeats 3200000 in
theorem rg_1c (w : World) (X : Nat) (S : Nat → Prop) (D : Option Addr) (c : Nat) (bs : List UInt8) (s : Rst) (h : Rf w X S D c bs s) (op k1 a1 : Nat) (i : Rr) (hby : rbyF bs s = (op, ⟨k1, 0, a1⟩)) (a : Nat) (s2 : Rst) (ha : a < 256 ∧ ¬ a = 64) (v : Nat) (hv : ¬ v = 0) (HK : Hid (∀ w', Rf w' X S D c bs ⟨k1, 0, a1⟩ → Calls Try.prog 147 #[.pointer (some ⟨X, 0, none⟩)] w' (Rg X S D c bs w' (.int .i64 (a : Int)) s2))) (HV : Hid (∀ w, Calls Try.prog 148 #[.int .i64 (a : Int)] w fun e w' => e = .returned (.int .i64 (v : Int)) ∧ w' = w)) (s3 : Rst) (HF : Hid (∀ w', Rf w' X S D c bs s2 → Calls Try.prog 146 #[.pointer (some ⟨X, 0, none⟩), .int .i64 (v : Int), .int .i64 (k1 : Int)] w' (Rg X S D c bs w' (.tuple #[]) s3)))
    (HC : Hid (∀ w, Calls Try.prog 27 #[.int .i64 (op : Int)] w fun e w' => e = .returned (.int .i64 0) ∧ Step (fun _ => False) w w'))
    (HO : Hid (∀ w, Calls Try.prog 24 #[.int .i64 (op : Int)] w fun e w' => e = .returned (.tuple #[rrM i 1, .bool true]) ∧ Step (fun _ => False) w w')) :
    Calls Try.prog 145 #[.pointer (some ⟨X, 0, none⟩)] w (GetQ X S D c bs w (finX (op, a, 0, []) s3.y) s3) := by
  have HBY : Hid (∀ w', Rf w' X S D c bs s → Calls Try.prog 147 #[.pointer (some ⟨X, 0, none⟩)] w' (Rg X S D c bs w' (.int .i64 (op : Int)) ⟨k1, 0, a1⟩)) := fun w' h' => by
    have h1 := rbyte_walk w' X S D c bs s h'
    rw [hby] at h1
    exact h1
  have hop : op < 256 := by have := rbyF_lt bs s; rw [hby] at this; exact this
  clear hby
  have hxl := h.lt
  have hlow := h.low
  have x1 := h.c1
  have HH := Lib.hid h
  clear h
  have hw8 : IntKind.u8.wrap (op : Int) = (op : Int) := by rw [IntKind.wrap_u8]; omega
  have hw64 : IntKind.i64.wrap (op : Int) = (op : Int) := IntWalk.i64_in _ (by omega)
  clear hop
  go_enter Try.func145, Try.ntmps145
  go_wp2_with fail
  refine (HBY.out _ (HH.out.alloc _)).mono ?_
  rintro e w6 ⟨rfl, hs6, ht6⟩
  have hsz := (((Step.refl (F := fun i => i = X)).alloc (w := w) (.cells #[.int .u8 (0 : Int), .int .u64 (0 : Int), .int .u64 (0 : Int), .slice none 0 0] 50)).trans ht6).size
  obtain ⟨R, hR⟩ : ∃ R, R = w.heap.size := ⟨_, rfl⟩
  have hRX : R ≠ X := by omega
  have hRw : w.heap.size ≤ R := by omega
  have hRS : ∀ j, S j → j ≠ R := fun j hj => by have := hlow j hj; omega
  have HB6 := Lib.hid (((Blk.new w 50 #[.int .u8 (0 : Int), .int .u64 (0 : Int), .int .u64 (0 : Int), .slice none 0 0]).step ht6 (by rw [← hR]; exact hRX)).alloc (.cells #[.int .u8 (op : Int), .int .u64 (0 : Int), .int .u64 (0 : Int), .slice none 0 0] 50))
  have hRI := ((Blk.new w 50 #[.int .u8 (0 : Int), .int .u64 (0 : Int), .int .u64 (0 : Int), .slice none 0 0]).step ht6 (by rw [← hR]; exact hRX)).lt
  rw [← hR] at hRI
  have HI6 := Lib.hid (Blk.new w6 50 #[.int .u8 (op : Int), .int .u64 (0 : Int), .int .u64 (0 : Int), .slice none 0 0])
  have HS6 := Lib.hid (hs6.alloc (.cells #[.int .u8 (op : Int), .int .u64 (0 : Int), .int .u64 (0 : Int), .slice none 0 0] 50))
  have HT6 := Lib.hid ((((Step.refl (F := fun i => i = X)).alloc (w := w) (.cells #[.int .u8 (0 : Int), .int .u64 (0 : Int), .int .u64 (0 : Int), .slice none 0 0] 50)).trans ht6).alloc (.cells #[.int .u8 (op : Int), .int .u64 (0 : Int), .int .u64 (0 : Int), .slice none 0 0] 50))
  have hXI : X < w6.heap.size := by omega
  have hIw : w.heap.size ≤ w6.heap.size := by omega
  have x2 := hs6.c2
  simp only at x2
  rw [← hR] at HB6 ⊢
  clear hs6 ht6 hR hxl HH x1 hsz
  obtain ⟨I, hI⟩ : ∃ I, I = w6.heap.size := ⟨_, rfl⟩
  have hIS : ∀ j, S j → j ≠ I := fun j hj => by have := hlow j hj; omega
  have hIX : I ≠ X := by omega
  have hRI2 : R ≠ I := by omega
  rw [← hI] at HI6 hIw
  go_wp2_with fail
  rw [← hI]
  obtain ⟨W, hW⟩ : ∃ W, W = w6.alloc (.cells #[.int .u8 (op : Int), .int .u64 (0 : Int), .int .u64 (0 : Int), .slice none 0 0] 50) := ⟨_, rfl⟩
  rw [← hW] at HB6 HI6 HS6 HT6
  rw [show w6.alloc (.cells #[.int .u8 (op : Int), .int .u64 0, .int .u64 0, .slice none 0 0] 50) = W from hW.symm]
  clear hW hI x2
  refine (HC.out _).mono ?_
  rintro e w7 ⟨rfl, ht7⟩
  have HB7 := Lib.hid (HB6.out.step ht7 id)
  have HI7 := Lib.hid (HI6.out.step ht7 id)
  have HS7 := Lib.hid (HS6.out.quiet ht7)
  have HT7 := Lib.hid (HT6.out.trans' ht7 (fun _ h => h.elim))
  clear ht7 HB6 HI6 HS6 HT6 HC
  have x0 := HI7.out.cell 0
  have x2 := HS7.out.c2
  simp at x0
  simp only at x2
  go_wp2_with fail
  refine (HO.out _).mono ?_
  rintro e w8 ⟨rfl, ht8⟩
  have hI8 := (HI7.out.step ht8 id).lt
  have hX8 := (HS7.out.quiet ht8).lt
  have hR8 := (HB7.out.step ht8 id).lt
  have xx0 := (HI7.out.step ht8 id).cell 0
  have xx1 := (HI7.out.step ht8 id).cell 1
  have xx2 := (HI7.out.step ht8 id).cell 2
  have xx3 := (HI7.out.step ht8 id).cell 3
  have x1 := (HS7.out.quiet ht8).c1
  have x2 := (HS7.out.quiet ht8).c2
  simp at xx0 xx1 xx2 xx3
  simp only at x1 x2
  have HB9 := Lib.hid ((HB7.out.step ht8 id).alloc (.cells #[.int .i64 i.op, .string (str i.name), .int .i64 1, .string (str i.takes), .string (str i.has), .bool i.free] 24))
  have HI9 := Lib.hid ((HI7.out.step ht8 id).alloc (.cells #[.int .i64 i.op, .string (str i.name), .int .i64 1, .string (str i.takes), .string (str i.has), .bool i.free] 24))
  have HS9 := Lib.hid ((HS7.out.quiet ht8).alloc (.cells #[.int .i64 i.op, .string (str i.name), .int .i64 1, .string (str i.takes), .string (str i.has), .bool i.free] 24))
  have HT9 := Lib.hid ((HT7.out.trans' ht8 (fun _ h => h.elim)).alloc (.cells #[.int .i64 i.op, .string (str i.name), .int .i64 1, .string (str i.takes), .string (str i.has), .bool i.free] 24))
  clear ht8 HB7 HI7 HS7 HT7 HO x0
  simp only [rrM]
  have ga : ((a : Int) == 64) = false := by simp; omega
  have gb : ((a : Int) != 64) = true := by simp; omega
  have hi64 := IntWalk.i64_in (a : Int) (by omega)
  have gv : ((v : Int) == 0) = false := by simp; omega
  clear hv
  have hu := IntWalk.u64_in (a : Int) (by omega)
  clear ha
  go_wp2_with fail
  refine ((HK.out _) HS9.out).mono ?_
  rintro e w10 ⟨rfl, hs, ht⟩
  have HB10 := Lib.hid (HB9.out.step ht hRX)
  have HI10 := Lib.hid (HI9.out.step ht hIX)
  have HS10 := Lib.hid hs
  have HT10 := Lib.hid (HT9.out.trans ht)
  clear hs ht HB9 HI9 HS9 HT9
  have zz10 := HI10.out.frozen 1
  have cc10 := HI10.out.cell 1
  simp at cc10
  have HI11 : Hid (Blk (w10.setCell ⟨I, 1, none⟩ (.int .u64 (a : Int))) I 50 #[.int .u8 (op : Int), .int .u64 (a : Int), .int .u64 (0 : Int), .slice none 0 0]) := by
    have hq := HI10.out.set_ 1 (.int .u64 (a : Int))
    simp at hq
    exact hq
  have HB11 := Lib.hid (HB10.out.far (p := ⟨I, 1, none⟩) hRI2 (.int .u64 (a : Int)))
  have hst10 : Step (fun j => j = I) w10 (w10.setCell ⟨I, 1, none⟩ (.int .u64 (a : Int))) := (Step.refl (F := fun j => j = I)).setCell (p := ⟨I, 1, none⟩) (.inl rfl) _
  have HS11 := Lib.hid (HS10.out.step hst10 (Ne.symm hIX) hIS)
  have HT11 := Lib.hid (HT10.out.setCell (p := ⟨I, 1, none⟩) (.inr hIw) (.int .u64 (a : Int)))
  clear HI10 HB10 HS10 HT10 hst10
  have v1 := HI11.out.cell 1
  simp at v1
  go_wp2_with fail
  refine (HV.out _).mono ?_
  rintro e wS ⟨rfl, hwS⟩
  subst wS
  go_wp2_with fail
  refine (HV.out _).mono ?_
  rintro e wS ⟨rfl, hwS⟩
  subst wS
  go_wp2_with fail
  refine ((HF.out _) HS11.out).mono ?_
  rintro e w12 ⟨rfl, hs, ht⟩
  have HB12 := Lib.hid (HB11.out.step ht hRX)
  have HI12 := Lib.hid (HI11.out.step ht hIX)
  have HS12 := Lib.hid hs
  have HT12 := Lib.hid (HT11.out.trans ht)
  clear hs ht HB11 HI11 HS11 HT11
  obtain ⟨k2, y2, a2⟩ := s3
  simp only
  have x2 := HS12.out.c2
  simp only at x2
  by_cases hy : y2 = 0
  · subst hy
    have y0 := HI12.out.cell 0
    have y1 := HI12.out.cell 1
    have y2' := HI12.out.cell 2
    have y3 := HI12.out.cell 3
    simp at y0 y1 y2' y3
    have hone : (#[.int .u8 (op : Int), .int .u64 (a : Int), .int .u64 (0 : Int), .slice none 0 0] : Array Value).all (·.oneCell') = true := by simp [Value.oneCell']
    have hbl := HB12.out
    go_wp2_with (refine wpList_store_rowTo rfl 50 _ _ rfl rfl R #[.int .u8 (op : Int), .int .u64 (a : Int), .int .u64 (0 : Int), .slice none 0 0] rfl rfl 50 _ hbl rfl rfl hone ?_)
    have r0 := (hbl.row #[.int .u8 (op : Int), .int .u64 (a : Int), .int .u64 (0 : Int), .slice none 0 0]).cell 0
    have r1 := (hbl.row #[.int .u8 (op : Int), .int .u64 (a : Int), .int .u64 (0 : Int), .slice none 0 0]).cell 1
    have r2 := (hbl.row #[.int .u8 (op : Int), .int .u64 (a : Int), .int .u64 (0 : Int), .slice none 0 0]).cell 2
    have r3 := (hbl.row #[.int .u8 (op : Int), .int .u64 (a : Int), .int .u64 (0 : Int), .slice none 0 0]).cell 3
    simp at r0 r1 r2 r3
    have hSF := HS12.out.step (Step.setRow (F := fun j => j = R) Step.refl (g := R) (.inl rfl) #[.int .u8 (op : Int), .int .u64 (a : Int), .int .u64 (0 : Int), .slice none 0 0]) (Ne.symm hRX) hRS
    have hTF := HT12.out.setRow (g := R) (.inr hRw) #[.int .u8 (op : Int), .int .u64 (a : Int), .int .u64 (0 : Int), .slice none 0 0]
    refine bodyPost_ret (v := .agg #[.int .u8 (op : Int), .int .u64 (a : Int), .int .u64 (0 : Int), .slice none 0 0]) (by simp [results, Try.results145, go_sem, r0, r1, r2, r3]) rfl ?_
    rw [finX, if_pos rfl]
    exact ⟨none, 0, rfl, World.ownsRow_nil _ _ _ _, hSF, hTF⟩
  · have hy0 : ((y2 : Int) == 0) = false := by simp; omega
    have hone : (#[.int .u8 (0 : Int), .int .u64 (0 : Int), .int .u64 (0 : Int), .slice none 0 0] : Array Value).all (·.oneCell') = true := by simp [Value.oneCell']
    have hbl := HB12.out
    go_wp2_with (refine wpList_store_rowTo rfl 50 _ _ rfl rfl R #[.int .u8 (0 : Int), .int .u64 (0 : Int), .int .u64 (0 : Int), .slice none 0 0] rfl rfl 50 _ hbl rfl rfl hone ?_)
    have r0 := (hbl.row #[.int .u8 (0 : Int), .int .u64 (0 : Int), .int .u64 (0 : Int), .slice none 0 0]).cell 0
    have r1 := (hbl.row #[.int .u8 (0 : Int), .int .u64 (0 : Int), .int .u64 (0 : Int), .slice none 0 0]).cell 1
    have r2 := (hbl.row #[.int .u8 (0 : Int), .int .u64 (0 : Int), .int .u64 (0 : Int), .slice none 0 0]).cell 2
    have r3 := (hbl.row #[.int .u8 (0 : Int), .int .u64 (0 : Int), .int .u64 (0 : Int), .slice none 0 0]).cell 3
    simp at r0 r1 r2 r3
    have hSF := HS12.out.step (Step.setRow (F := fun j => j = R) Step.refl (g := R) (.inl rfl) #[.int .u8 (0 : Int), .int .u64 (0 : Int), .int .u64 (0 : Int), .slice none 0 0]) (Ne.symm hRX) hRS
    have hTF := HT12.out.setRow (g := R) (.inr hRw) #[.int .u8 (0 : Int), .int .u64 (0 : Int), .int .u64 (0 : Int), .slice none 0 0]
    refine bodyPost_ret (v := .agg #[.int .u8 (0 : Int), .int .u64 (0 : Int), .int .u64 (0 : Int), .slice none 0 0]) (by simp [results, Try.results145, go_sem, r0, r1, r2, r3]) rfl ?_
    rw [finX, if_neg hy]
    exact ⟨none, 0, rfl, World.ownsRow_nil _ _ _ _, hSF, hTF⟩

set_option maxRecDepth 100000 in
set_option maxHeartbeats 3200000 in
theorem rg_5 (w : World) (X : Nat) (S : Nat → Prop) (D : Option Addr) (c : Nat) (bs : List UInt8) (s : Rst) (h : Rf w X S D c bs s) (op k1 a1 : Nat) (i : Rr) (hby : rbyF bs s = (op, ⟨k1, 0, a1⟩)) (a : Nat) (s2 s3 : Rst) (ha : a < 4294967296) (HK : Hid (∀ w', Rf w' X S D c bs ⟨k1, 0, a1⟩ → Calls Try.prog 192 #[.pointer (some ⟨X, 0, none⟩)] w' (Rg X S D c bs w' (.int .u32 (a : Int)) s2))) (HK2 : Hid (∀ w', Rf w' X S D c bs s2 → Calls Try.prog 193 #[.pointer (some ⟨X, 0, none⟩)] w' (Rg X S D c bs w' (.tuple #[]) s3)))
    (HC : Hid (∀ w, Calls Try.prog 27 #[.int .i64 (op : Int)] w fun e w' => e = .returned (.int .i64 0) ∧ Step (fun _ => False) w w'))
    (HO : Hid (∀ w, Calls Try.prog 24 #[.int .i64 (op : Int)] w fun e w' => e = .returned (.tuple #[rrM i 5, .bool true]) ∧ Step (fun _ => False) w w')) :
    Calls Try.prog 145 #[.pointer (some ⟨X, 0, none⟩)] w (GetQ X S D c bs w (finX (op, a, 0, []) s3.y) s3) := by
  have HBY : Hid (∀ w', Rf w' X S D c bs s → Calls Try.prog 147 #[.pointer (some ⟨X, 0, none⟩)] w' (Rg X S D c bs w' (.int .i64 (op : Int)) ⟨k1, 0, a1⟩)) := fun w' h' => by
    have h1 := rbyte_walk w' X S D c bs s h'
    rw [hby] at h1
    exact h1
  have hop : op < 256 := by have := rbyF_lt bs s; rw [hby] at this; exact this
  clear hby
  have hxl := h.lt
  have hlow := h.low
  have x1 := h.c1
  have HH := Lib.hid h
  clear h
  have hw8 : IntKind.u8.wrap (op : Int) = (op : Int) := by rw [IntKind.wrap_u8]; omega
  have hw64 : IntKind.i64.wrap (op : Int) = (op : Int) := IntWalk.i64_in _ (by omega)
  clear hop
  go_enter Try.func145, Try.ntmps145
  go_wp2_with fail
  refine (HBY.out _ (HH.out.alloc _)).mono ?_
  rintro e w6 ⟨rfl, hs6, ht6⟩
  have hsz := (((Step.refl (F := fun i => i = X)).alloc (w := w) (.cells #[.int .u8 (0 : Int), .int .u64 (0 : Int), .int .u64 (0 : Int), .slice none 0 0] 50)).trans ht6).size
  obtain ⟨R, hR⟩ : ∃ R, R = w.heap.size := ⟨_, rfl⟩
  have hRX : R ≠ X := by omega
  have hRw : w.heap.size ≤ R := by omega
  have hRS : ∀ j, S j → j ≠ R := fun j hj => by have := hlow j hj; omega
  have HB6 := Lib.hid (((Blk.new w 50 #[.int .u8 (0 : Int), .int .u64 (0 : Int), .int .u64 (0 : Int), .slice none 0 0]).step ht6 (by rw [← hR]; exact hRX)).alloc (.cells #[.int .u8 (op : Int), .int .u64 (0 : Int), .int .u64 (0 : Int), .slice none 0 0] 50))
  have hRI := ((Blk.new w 50 #[.int .u8 (0 : Int), .int .u64 (0 : Int), .int .u64 (0 : Int), .slice none 0 0]).step ht6 (by rw [← hR]; exact hRX)).lt
  rw [← hR] at hRI
  have HI6 := Lib.hid (Blk.new w6 50 #[.int .u8 (op : Int), .int .u64 (0 : Int), .int .u64 (0 : Int), .slice none 0 0])
  have HS6 := Lib.hid (hs6.alloc (.cells #[.int .u8 (op : Int), .int .u64 (0 : Int), .int .u64 (0 : Int), .slice none 0 0] 50))
  have HT6 := Lib.hid ((((Step.refl (F := fun i => i = X)).alloc (w := w) (.cells #[.int .u8 (0 : Int), .int .u64 (0 : Int), .int .u64 (0 : Int), .slice none 0 0] 50)).trans ht6).alloc (.cells #[.int .u8 (op : Int), .int .u64 (0 : Int), .int .u64 (0 : Int), .slice none 0 0] 50))
  have hXI : X < w6.heap.size := by omega
  have hIw : w.heap.size ≤ w6.heap.size := by omega
  have x2 := hs6.c2
  simp only at x2
  rw [← hR] at HB6 ⊢
  clear hs6 ht6 hR hxl HH x1 hsz
  obtain ⟨I, hI⟩ : ∃ I, I = w6.heap.size := ⟨_, rfl⟩
  have hIS : ∀ j, S j → j ≠ I := fun j hj => by have := hlow j hj; omega
  have hIX : I ≠ X := by omega
  have hRI2 : R ≠ I := by omega
  rw [← hI] at HI6 hIw
  go_wp2_with fail
  rw [← hI]
  obtain ⟨W, hW⟩ : ∃ W, W = w6.alloc (.cells #[.int .u8 (op : Int), .int .u64 (0 : Int), .int .u64 (0 : Int), .slice none 0 0] 50) := ⟨_, rfl⟩
  rw [← hW] at HB6 HI6 HS6 HT6
  rw [show w6.alloc (.cells #[.int .u8 (op : Int), .int .u64 0, .int .u64 0, .slice none 0 0] 50) = W from hW.symm]
  clear hW hI x2
  refine (HC.out _).mono ?_
  rintro e w7 ⟨rfl, ht7⟩
  have HB7 := Lib.hid (HB6.out.step ht7 id)
  have HI7 := Lib.hid (HI6.out.step ht7 id)
  have HS7 := Lib.hid (HS6.out.quiet ht7)
  have HT7 := Lib.hid (HT6.out.trans' ht7 (fun _ h => h.elim))
  clear ht7 HB6 HI6 HS6 HT6 HC
  have x0 := HI7.out.cell 0
  have x2 := HS7.out.c2
  simp at x0
  simp only at x2
  go_wp2_with fail
  refine (HO.out _).mono ?_
  rintro e w8 ⟨rfl, ht8⟩
  have hI8 := (HI7.out.step ht8 id).lt
  have hX8 := (HS7.out.quiet ht8).lt
  have hR8 := (HB7.out.step ht8 id).lt
  have xx0 := (HI7.out.step ht8 id).cell 0
  have xx1 := (HI7.out.step ht8 id).cell 1
  have xx2 := (HI7.out.step ht8 id).cell 2
  have xx3 := (HI7.out.step ht8 id).cell 3
  have x1 := (HS7.out.quiet ht8).c1
  have x2 := (HS7.out.quiet ht8).c2
  simp at xx0 xx1 xx2 xx3
  simp only at x1 x2
  have HB9 := Lib.hid ((HB7.out.step ht8 id).alloc (.cells #[.int .i64 i.op, .string (str i.name), .int .i64 5, .string (str i.takes), .string (str i.has), .bool i.free] 24))
  have HI9 := Lib.hid ((HI7.out.step ht8 id).alloc (.cells #[.int .i64 i.op, .string (str i.name), .int .i64 5, .string (str i.takes), .string (str i.has), .bool i.free] 24))
  have HS9 := Lib.hid ((HS7.out.quiet ht8).alloc (.cells #[.int .i64 i.op, .string (str i.name), .int .i64 5, .string (str i.takes), .string (str i.has), .bool i.free] 24))
  have HT9 := Lib.hid ((HT7.out.trans' ht8 (fun _ h => h.elim)).alloc (.cells #[.int .i64 i.op, .string (str i.name), .int .i64 5, .string (str i.takes), .string (str i.has), .bool i.free] 24))
  clear ht8 HB7 HI7 HS7 HT7 HO x0
  simp only [rrM]
  have hu := IntWalk.u64_in (a : Int) (by omega)
  go_wp2_with fail
  refine ((HK.out _) HS9.out).mono ?_
  rintro e w10 ⟨rfl, hs, ht⟩
  have HB10 := Lib.hid (HB9.out.step ht hRX)
  have HI10 := Lib.hid (HI9.out.step ht hIX)
  have HS10 := Lib.hid hs
  have HT10 := Lib.hid (HT9.out.trans ht)
  clear hs ht HB9 HI9 HS9 HT9
  have zz10 := HI10.out.frozen 1
  have cc10 := HI10.out.cell 1
  simp at cc10
  have HI11 : Hid (Blk (w10.setCell ⟨I, 1, none⟩ (.int .u64 (a : Int))) I 50 #[.int .u8 (op : Int), .int .u64 (a : Int), .int .u64 (0 : Int), .slice none 0 0]) := by
    have hq := HI10.out.set_ 1 (.int .u64 (a : Int))
    simp at hq
    exact hq
  have HB11 := Lib.hid (HB10.out.far (p := ⟨I, 1, none⟩) hRI2 (.int .u64 (a : Int)))
  have hst10 : Step (fun j => j = I) w10 (w10.setCell ⟨I, 1, none⟩ (.int .u64 (a : Int))) := (Step.refl (F := fun j => j = I)).setCell (p := ⟨I, 1, none⟩) (.inl rfl) _
  have HS11 := Lib.hid (HS10.out.step hst10 (Ne.symm hIX) hIS)
  have HT11 := Lib.hid (HT10.out.setCell (p := ⟨I, 1, none⟩) (.inr hIw) (.int .u64 (a : Int)))
  clear HI10 HB10 HS10 HT10 hst10
  go_wp2_with fail
  refine ((HK2.out _) HS11.out).mono ?_
  rintro e w12 ⟨rfl, hs, ht⟩
  have HB12 := Lib.hid (HB11.out.step ht hRX)
  have HI12 := Lib.hid (HI11.out.step ht hIX)
  have HS12 := Lib.hid hs
  have HT12 := Lib.hid (HT11.out.trans ht)
  clear hs ht HB11 HI11 HS11 HT11
  obtain ⟨k2, y2, a2⟩ := s3
  simp only
  have x2 := HS12.out.c2
  simp only at x2
  by_cases hy : y2 = 0
  · subst hy
    have y0 := HI12.out.cell 0
    have y1 := HI12.out.cell 1
    have y2' := HI12.out.cell 2
    have y3 := HI12.out.cell 3
    simp at y0 y1 y2' y3
    have hone : (#[.int .u8 (op : Int), .int .u64 (a : Int), .int .u64 (0 : Int), .slice none 0 0] : Array Value).all (·.oneCell') = true := by simp [Value.oneCell']
    have hbl := HB12.out
    go_wp2_with (refine wpList_store_rowTo rfl 50 _ _ rfl rfl R #[.int .u8 (op : Int), .int .u64 (a : Int), .int .u64 (0 : Int), .slice none 0 0] rfl rfl 50 _ hbl rfl rfl hone ?_)
    have r0 := (hbl.row #[.int .u8 (op : Int), .int .u64 (a : Int), .int .u64 (0 : Int), .slice none 0 0]).cell 0
    have r1 := (hbl.row #[.int .u8 (op : Int), .int .u64 (a : Int), .int .u64 (0 : Int), .slice none 0 0]).cell 1
    have r2 := (hbl.row #[.int .u8 (op : Int), .int .u64 (a : Int), .int .u64 (0 : Int), .slice none 0 0]).cell 2
    have r3 := (hbl.row #[.int .u8 (op : Int), .int .u64 (a : Int), .int .u64 (0 : Int), .slice none 0 0]).cell 3
    simp at r0 r1 r2 r3
    have hSF := HS12.out.step (Step.setRow (F := fun j => j = R) Step.refl (g := R) (.inl rfl) #[.int .u8 (op : Int), .int .u64 (a : Int), .int .u64 (0 : Int), .slice none 0 0]) (Ne.symm hRX) hRS
    have hTF := HT12.out.setRow (g := R) (.inr hRw) #[.int .u8 (op : Int), .int .u64 (a : Int), .int .u64 (0 : Int), .slice none 0 0]
    refine bodyPost_ret (v := .agg #[.int .u8 (op : Int), .int .u64 (a : Int), .int .u64 (0 : Int), .slice none 0 0]) (by simp [results, Try.results145, go_sem, r0, r1, r2, r3]) rfl ?_
    rw [finX, if_pos rfl]
    exact ⟨none, 0, rfl, World.ownsRow_nil _ _ _ _, hSF, hTF⟩
  · have hy0 : ((y2 : Int) == 0) = false := by simp; omega
    have hone : (#[.int .u8 (0 : Int), .int .u64 (0 : Int), .int .u64 (0 : Int), .slice none 0 0] : Array Value).all (·.oneCell') = true := by simp [Value.oneCell']
    have hbl := HB12.out
    go_wp2_with (refine wpList_store_rowTo rfl 50 _ _ rfl rfl R #[.int .u8 (0 : Int), .int .u64 (0 : Int), .int .u64 (0 : Int), .slice none 0 0] rfl rfl 50 _ hbl rfl rfl hone ?_)
    have r0 := (hbl.row #[.int .u8 (0 : Int), .int .u64 (0 : Int), .int .u64 (0 : Int), .slice none 0 0]).cell 0
    have r1 := (hbl.row #[.int .u8 (0 : Int), .int .u64 (0 : Int), .int .u64 (0 : Int), .slice none 0 0]).cell 1
    have r2 := (hbl.row #[.int .u8 (0 : Int), .int .u64 (0 : Int), .int .u64 (0 : Int), .slice none 0 0]).cell 2
    have r3 := (hbl.row #[.int .u8 (0 : Int), .int .u64 (0 : Int), .int .u64 (0 : Int), .slice none 0 0]).cell 3
    simp at r0 r1 r2 r3
    have hSF := HS12.out.step (Step.setRow (F := fun j => j = R) Step.refl (g := R) (.inl rfl) #[.int .u8 (0 : Int), .int .u64 (0 : Int), .int .u64 (0 : Int), .slice none 0 0]) (Ne.symm hRX) hRS
    have hTF := HT12.out.setRow (g := R) (.inr hRw) #[.int .u8 (0 : Int), .int .u64 (0 : Int), .int .u64 (0 : Int), .slice none 0 0]
    refine bodyPost_ret (v := .agg #[.int .u8 (0 : Int), .int .u64 (0 : Int), .int .u64 (0 : Int), .slice none 0 0]) (by simp [results, Try.results145, go_sem, r0, r1, r2, r3]) rfl ?_
    rw [finX, if_neg hy]
    exact ⟨none, 0, rfl, World.ownsRow_nil _ _ _ _, hSF, hTF⟩

set_option maxRecDepth 100000 in
set_option maxHeartbeats 3200000 in
theorem rg_8 (w : World) (X : Nat) (S : Nat → Prop) (D : Option Addr) (c : Nat) (bs : List UInt8) (s : Rst) (h : Rf w X S D c bs s) (op k1 a1 : Nat) (i : Rr) (hby : rbyF bs s = (op, ⟨k1, 0, a1⟩)) (a b : Nat) (s2 s3 : Rst) (ha : a < 4294967296) (hb : b < 4294967296) (HK : Hid (∀ w', Rf w' X S D c bs ⟨k1, 0, a1⟩ → Calls Try.prog 192 #[.pointer (some ⟨X, 0, none⟩)] w' (Rg X S D c bs w' (.int .u32 (a : Int)) s2))) (HK2 : Hid (∀ w', Rf w' X S D c bs s2 → Calls Try.prog 192 #[.pointer (some ⟨X, 0, none⟩)] w' (Rg X S D c bs w' (.int .u32 (b : Int)) s3)))
    (HC : Hid (∀ w, Calls Try.prog 27 #[.int .i64 (op : Int)] w fun e w' => e = .returned (.int .i64 0) ∧ Step (fun _ => False) w w'))
    (HO : Hid (∀ w, Calls Try.prog 24 #[.int .i64 (op : Int)] w fun e w' => e = .returned (.tuple #[rrM i 8, .bool true]) ∧ Step (fun _ => False) w w')) :
    Calls Try.prog 145 #[.pointer (some ⟨X, 0, none⟩)] w (GetQ X S D c bs w (finX (op, a, b, []) s3.y) s3) := by
  have HBY : Hid (∀ w', Rf w' X S D c bs s → Calls Try.prog 147 #[.pointer (some ⟨X, 0, none⟩)] w' (Rg X S D c bs w' (.int .i64 (op : Int)) ⟨k1, 0, a1⟩)) := fun w' h' => by
    have h1 := rbyte_walk w' X S D c bs s h'
    rw [hby] at h1
    exact h1
  have hop : op < 256 := by have := rbyF_lt bs s; rw [hby] at this; exact this
  clear hby
  have hxl := h.lt
  have hlow := h.low
  have x1 := h.c1
  have HH := Lib.hid h
  clear h
  have hw8 : IntKind.u8.wrap (op : Int) = (op : Int) := by rw [IntKind.wrap_u8]; omega
  have hw64 : IntKind.i64.wrap (op : Int) = (op : Int) := IntWalk.i64_in _ (by omega)
  clear hop
  go_enter Try.func145, Try.ntmps145
  go_wp2_with fail
  refine (HBY.out _ (HH.out.alloc _)).mono ?_
  rintro e w6 ⟨rfl, hs6, ht6⟩
  have hsz := (((Step.refl (F := fun i => i = X)).alloc (w := w) (.cells #[.int .u8 (0 : Int), .int .u64 (0 : Int), .int .u64 (0 : Int), .slice none 0 0] 50)).trans ht6).size
  obtain ⟨R, hR⟩ : ∃ R, R = w.heap.size := ⟨_, rfl⟩
  have hRX : R ≠ X := by omega
  have hRw : w.heap.size ≤ R := by omega
  have hRS : ∀ j, S j → j ≠ R := fun j hj => by have := hlow j hj; omega
  have HB6 := Lib.hid (((Blk.new w 50 #[.int .u8 (0 : Int), .int .u64 (0 : Int), .int .u64 (0 : Int), .slice none 0 0]).step ht6 (by rw [← hR]; exact hRX)).alloc (.cells #[.int .u8 (op : Int), .int .u64 (0 : Int), .int .u64 (0 : Int), .slice none 0 0] 50))
  have hRI := ((Blk.new w 50 #[.int .u8 (0 : Int), .int .u64 (0 : Int), .int .u64 (0 : Int), .slice none 0 0]).step ht6 (by rw [← hR]; exact hRX)).lt
  rw [← hR] at hRI
  have HI6 := Lib.hid (Blk.new w6 50 #[.int .u8 (op : Int), .int .u64 (0 : Int), .int .u64 (0 : Int), .slice none 0 0])
  have HS6 := Lib.hid (hs6.alloc (.cells #[.int .u8 (op : Int), .int .u64 (0 : Int), .int .u64 (0 : Int), .slice none 0 0] 50))
  have HT6 := Lib.hid ((((Step.refl (F := fun i => i = X)).alloc (w := w) (.cells #[.int .u8 (0 : Int), .int .u64 (0 : Int), .int .u64 (0 : Int), .slice none 0 0] 50)).trans ht6).alloc (.cells #[.int .u8 (op : Int), .int .u64 (0 : Int), .int .u64 (0 : Int), .slice none 0 0] 50))
  have hXI : X < w6.heap.size := by omega
  have hIw : w.heap.size ≤ w6.heap.size := by omega
  have x2 := hs6.c2
  simp only at x2
  rw [← hR] at HB6 ⊢
  clear hs6 ht6 hR hxl HH x1 hsz
  obtain ⟨I, hI⟩ : ∃ I, I = w6.heap.size := ⟨_, rfl⟩
  have hIS : ∀ j, S j → j ≠ I := fun j hj => by have := hlow j hj; omega
  have hIX : I ≠ X := by omega
  have hRI2 : R ≠ I := by omega
  rw [← hI] at HI6 hIw
  go_wp2_with fail
  rw [← hI]
  obtain ⟨W, hW⟩ : ∃ W, W = w6.alloc (.cells #[.int .u8 (op : Int), .int .u64 (0 : Int), .int .u64 (0 : Int), .slice none 0 0] 50) := ⟨_, rfl⟩
  rw [← hW] at HB6 HI6 HS6 HT6
  rw [show w6.alloc (.cells #[.int .u8 (op : Int), .int .u64 0, .int .u64 0, .slice none 0 0] 50) = W from hW.symm]
  clear hW hI x2
  refine (HC.out _).mono ?_
  rintro e w7 ⟨rfl, ht7⟩
  have HB7 := Lib.hid (HB6.out.step ht7 id)
  have HI7 := Lib.hid (HI6.out.step ht7 id)
  have HS7 := Lib.hid (HS6.out.quiet ht7)
  have HT7 := Lib.hid (HT6.out.trans' ht7 (fun _ h => h.elim))
  clear ht7 HB6 HI6 HS6 HT6 HC
  have x0 := HI7.out.cell 0
  have x2 := HS7.out.c2
  simp at x0
  simp only at x2
  go_wp2_with fail
  refine (HO.out _).mono ?_
  rintro e w8 ⟨rfl, ht8⟩
  have hI8 := (HI7.out.step ht8 id).lt
  have hX8 := (HS7.out.quiet ht8).lt
  have hR8 := (HB7.out.step ht8 id).lt
  have xx0 := (HI7.out.step ht8 id).cell 0
  have xx1 := (HI7.out.step ht8 id).cell 1
  have xx2 := (HI7.out.step ht8 id).cell 2
  have xx3 := (HI7.out.step ht8 id).cell 3
  have x1 := (HS7.out.quiet ht8).c1
  have x2 := (HS7.out.quiet ht8).c2
  simp at xx0 xx1 xx2 xx3
  simp only at x1 x2
  have HB9 := Lib.hid ((HB7.out.step ht8 id).alloc (.cells #[.int .i64 i.op, .string (str i.name), .int .i64 8, .string (str i.takes), .string (str i.has), .bool i.free] 24))
  have HI9 := Lib.hid ((HI7.out.step ht8 id).alloc (.cells #[.int .i64 i.op, .string (str i.name), .int .i64 8, .string (str i.takes), .string (str i.has), .bool i.free] 24))
  have HS9 := Lib.hid ((HS7.out.quiet ht8).alloc (.cells #[.int .i64 i.op, .string (str i.name), .int .i64 8, .string (str i.takes), .string (str i.has), .bool i.free] 24))
  have HT9 := Lib.hid ((HT7.out.trans' ht8 (fun _ h => h.elim)).alloc (.cells #[.int .i64 i.op, .string (str i.name), .int .i64 8, .string (str i.takes), .string (str i.has), .bool i.free] 24))
  clear ht8 HB7 HI7 HS7 HT7 HO x0
  simp only [rrM]
  have hu := IntWalk.u64_in (a : Int) (by omega)
  have hub := IntWalk.u64_in (b : Int) (by omega)
  go_wp2_with fail
  refine ((HK.out _) HS9.out).mono ?_
  rintro e w10 ⟨rfl, hs, ht⟩
  have HB10 := Lib.hid (HB9.out.step ht hRX)
  have HI10 := Lib.hid (HI9.out.step ht hIX)
  have HS10 := Lib.hid hs
  have HT10 := Lib.hid (HT9.out.trans ht)
  clear hs ht HB9 HI9 HS9 HT9
  have zz10 := HI10.out.frozen 1
  have cc10 := HI10.out.cell 1
  simp at cc10
  have HI11 : Hid (Blk (w10.setCell ⟨I, 1, none⟩ (.int .u64 (a : Int))) I 50 #[.int .u8 (op : Int), .int .u64 (a : Int), .int .u64 (0 : Int), .slice none 0 0]) := by
    have hq := HI10.out.set_ 1 (.int .u64 (a : Int))
    simp at hq
    exact hq
  have HB11 := Lib.hid (HB10.out.far (p := ⟨I, 1, none⟩) hRI2 (.int .u64 (a : Int)))
  have hst10 : Step (fun j => j = I) w10 (w10.setCell ⟨I, 1, none⟩ (.int .u64 (a : Int))) := (Step.refl (F := fun j => j = I)).setCell (p := ⟨I, 1, none⟩) (.inl rfl) _
  have HS11 := Lib.hid (HS10.out.step hst10 (Ne.symm hIX) hIS)
  have HT11 := Lib.hid (HT10.out.setCell (p := ⟨I, 1, none⟩) (.inr hIw) (.int .u64 (a : Int)))
  clear HI10 HB10 HS10 HT10 hst10
  go_wp2_with fail
  refine ((HK2.out _) HS11.out).mono ?_
  rintro e w12 ⟨rfl, hs, ht⟩
  have HB12 := Lib.hid (HB11.out.step ht hRX)
  have HI12 := Lib.hid (HI11.out.step ht hIX)
  have HS12 := Lib.hid hs
  have HT12 := Lib.hid (HT11.out.trans ht)
  clear hs ht HB11 HI11 HS11 HT11
  have zz12 := HI12.out.frozen 2
  have cc12 := HI12.out.cell 2
  simp at cc12
  have HI13 : Hid (Blk (w12.setCell ⟨I, 2, none⟩ (.int .u64 (b : Int))) I 50 #[.int .u8 (op : Int), .int .u64 (a : Int), .int .u64 (b : Int), .slice none 0 0]) := by
    have hq := HI12.out.set_ 2 (.int .u64 (b : Int))
    simp at hq
    exact hq
  have HB13 := Lib.hid (HB12.out.far (p := ⟨I, 2, none⟩) hRI2 (.int .u64 (b : Int)))
  have hst12 : Step (fun j => j = I) w12 (w12.setCell ⟨I, 2, none⟩ (.int .u64 (b : Int))) := (Step.refl (F := fun j => j = I)).setCell (p := ⟨I, 2, none⟩) (.inl rfl) _
  have HS13 := Lib.hid (HS12.out.step hst12 (Ne.symm hIX) hIS)
  have HT13 := Lib.hid (HT12.out.setCell (p := ⟨I, 2, none⟩) (.inr hIw) (.int .u64 (b : Int)))
  clear HI12 HB12 HS12 HT12 hst12
  obtain ⟨k2, y2, a2⟩ := s3
  simp only
  have x2 := HS13.out.c2
  simp only at x2
  by_cases hy : y2 = 0
  · subst hy
    have y0 := HI13.out.cell 0
    have y1 := HI13.out.cell 1
    have y2' := HI13.out.cell 2
    have y3 := HI13.out.cell 3
    simp at y0 y1 y2' y3
    have hone : (#[.int .u8 (op : Int), .int .u64 (a : Int), .int .u64 (b : Int), .slice none 0 0] : Array Value).all (·.oneCell') = true := by simp [Value.oneCell']
    have hbl := HB13.out
    go_wp2_with (refine wpList_store_rowTo rfl 50 _ _ rfl rfl R #[.int .u8 (op : Int), .int .u64 (a : Int), .int .u64 (b : Int), .slice none 0 0] rfl rfl 50 _ hbl rfl rfl hone ?_)
    have r0 := (hbl.row #[.int .u8 (op : Int), .int .u64 (a : Int), .int .u64 (b : Int), .slice none 0 0]).cell 0
    have r1 := (hbl.row #[.int .u8 (op : Int), .int .u64 (a : Int), .int .u64 (b : Int), .slice none 0 0]).cell 1
    have r2 := (hbl.row #[.int .u8 (op : Int), .int .u64 (a : Int), .int .u64 (b : Int), .slice none 0 0]).cell 2
    have r3 := (hbl.row #[.int .u8 (op : Int), .int .u64 (a : Int), .int .u64 (b : Int), .slice none 0 0]).cell 3
    simp at r0 r1 r2 r3
    have hSF := HS13.out.step (Step.setRow (F := fun j => j = R) Step.refl (g := R) (.inl rfl) #[.int .u8 (op : Int), .int .u64 (a : Int), .int .u64 (b : Int), .slice none 0 0]) (Ne.symm hRX) hRS
    have hTF := HT13.out.setRow (g := R) (.inr hRw) #[.int .u8 (op : Int), .int .u64 (a : Int), .int .u64 (b : Int), .slice none 0 0]
    refine bodyPost_ret (v := .agg #[.int .u8 (op : Int), .int .u64 (a : Int), .int .u64 (b : Int), .slice none 0 0]) (by simp [results, Try.results145, go_sem, r0, r1, r2, r3]) rfl ?_
    rw [finX, if_pos rfl]
    exact ⟨none, 0, rfl, World.ownsRow_nil _ _ _ _, hSF, hTF⟩
  · have hy0 : ((y2 : Int) == 0) = false := by simp; omega
    have hone : (#[.int .u8 (0 : Int), .int .u64 (0 : Int), .int .u64 (0 : Int), .slice none 0 0] : Array Value).all (·.oneCell') = true := by simp [Value.oneCell']
    have hbl := HB13.out
    go_wp2_with (refine wpList_store_rowTo rfl 50 _ _ rfl rfl R #[.int .u8 (0 : Int), .int .u64 (0 : Int), .int .u64 (0 : Int), .slice none 0 0] rfl rfl 50 _ hbl rfl rfl hone ?_)
    have r0 := (hbl.row #[.int .u8 (0 : Int), .int .u64 (0 : Int), .int .u64 (0 : Int), .slice none 0 0]).cell 0
    have r1 := (hbl.row #[.int .u8 (0 : Int), .int .u64 (0 : Int), .int .u64 (0 : Int), .slice none 0 0]).cell 1
    have r2 := (hbl.row #[.int .u8 (0 : Int), .int .u64 (0 : Int), .int .u64 (0 : Int), .slice none 0 0]).cell 2
    have r3 := (hbl.row #[.int .u8 (0 : Int), .int .u64 (0 : Int), .int .u64 (0 : Int), .slice none 0 0]).cell 3
    simp at r0 r1 r2 r3
    have hSF := HS13.out.step (Step.setRow (F := fun j => j = R) Step.refl (g := R) (.inl rfl) #[.int .u8 (0 : Int), .int .u64 (0 : Int), .int .u64 (0 : Int), .slice none 0 0]) (Ne.symm hRX) hRS
    have hTF := HT13.out.setRow (g := R) (.inr hRw) #[.int .u8 (0 : Int), .int .u64 (0 : Int), .int .u64 (0 : Int), .slice none 0 0]
    refine bodyPost_ret (v := .agg #[.int .u8 (0 : Int), .int .u64 (0 : Int), .int .u64 (0 : Int), .slice none 0 0]) (by simp [results, Try.results145, go_sem, r0, r1, r2, r3]) rfl ?_
    rw [finX, if_neg hy]
    exact ⟨none, 0, rfl, World.ownsRow_nil _ _ _ _, hSF, hTF⟩

set_option maxRecDepth 100000 in
set_option maxHeartbeats 3200000 in
theorem rg_9 (w : World) (X : Nat) (S : Nat → Prop) (D : Option Addr) (c : Nat) (bs : List UInt8) (s : Rst) (h : Rf w X S D c bs s) (op k1 a1 : Nat) (i : Rr) (hby : rbyF bs s = (op, ⟨k1, 0, a1⟩)) (s2 : Rst) (HK : Hid (∀ w', Rf w' X S D c bs ⟨k1, 0, a1⟩ → Calls Try.prog 193 #[.pointer (some ⟨X, 0, none⟩)] w' (Rg X S D c bs w' (.tuple #[]) s2)))
    (HC : Hid (∀ w, Calls Try.prog 27 #[.int .i64 (op : Int)] w fun e w' => e = .returned (.int .i64 0) ∧ Step (fun _ => False) w w'))
    (HO : Hid (∀ w, Calls Try.prog 24 #[.int .i64 (op : Int)] w fun e w' => e = .returned (.tuple #[rrM i 9, .bool true]) ∧ Step (fun _ => False) w w')) :
    Calls Try.prog 145 #[.pointer (some ⟨X, 0, none⟩)] w (GetQ X S D c bs w (finX (op, 0, 0, []) s2.y) s2) := by
  have HBY : Hid (∀ w', Rf w' X S D c bs s → Calls Try.prog 147 #[.pointer (some ⟨X, 0, none⟩)] w' (Rg X S D c bs w' (.int .i64 (op : Int)) ⟨k1, 0, a1⟩)) := fun w' h' => by
    have h1 := rbyte_walk w' X S D c bs s h'
    rw [hby] at h1
    exact h1
  have hop : op < 256 := by have := rbyF_lt bs s; rw [hby] at this; exact this
  clear hby
  have hxl := h.lt
  have hlow := h.low
  have x1 := h.c1
  have HH := Lib.hid h
  clear h
  have hw8 : IntKind.u8.wrap (op : Int) = (op : Int) := by rw [IntKind.wrap_u8]; omega
  have hw64 : IntKind.i64.wrap (op : Int) = (op : Int) := IntWalk.i64_in _ (by omega)
  clear hop
  go_enter Try.func145, Try.ntmps145
  go_wp2_with fail
  refine (HBY.out _ (HH.out.alloc _)).mono ?_
  rintro e w6 ⟨rfl, hs6, ht6⟩
  have hsz := (((Step.refl (F := fun i => i = X)).alloc (w := w) (.cells #[.int .u8 (0 : Int), .int .u64 (0 : Int), .int .u64 (0 : Int), .slice none 0 0] 50)).trans ht6).size
  obtain ⟨R, hR⟩ : ∃ R, R = w.heap.size := ⟨_, rfl⟩
  have hRX : R ≠ X := by omega
  have hRw : w.heap.size ≤ R := by omega
  have hRS : ∀ j, S j → j ≠ R := fun j hj => by have := hlow j hj; omega
  have HB6 := Lib.hid (((Blk.new w 50 #[.int .u8 (0 : Int), .int .u64 (0 : Int), .int .u64 (0 : Int), .slice none 0 0]).step ht6 (by rw [← hR]; exact hRX)).alloc (.cells #[.int .u8 (op : Int), .int .u64 (0 : Int), .int .u64 (0 : Int), .slice none 0 0] 50))
  have hRI := ((Blk.new w 50 #[.int .u8 (0 : Int), .int .u64 (0 : Int), .int .u64 (0 : Int), .slice none 0 0]).step ht6 (by rw [← hR]; exact hRX)).lt
  rw [← hR] at hRI
  have HI6 := Lib.hid (Blk.new w6 50 #[.int .u8 (op : Int), .int .u64 (0 : Int), .int .u64 (0 : Int), .slice none 0 0])
  have HS6 := Lib.hid (hs6.alloc (.cells #[.int .u8 (op : Int), .int .u64 (0 : Int), .int .u64 (0 : Int), .slice none 0 0] 50))
  have HT6 := Lib.hid ((((Step.refl (F := fun i => i = X)).alloc (w := w) (.cells #[.int .u8 (0 : Int), .int .u64 (0 : Int), .int .u64 (0 : Int), .slice none 0 0] 50)).trans ht6).alloc (.cells #[.int .u8 (op : Int), .int .u64 (0 : Int), .int .u64 (0 : Int), .slice none 0 0] 50))
  have hXI : X < w6.heap.size := by omega
  have hIw : w.heap.size ≤ w6.heap.size := by omega
  have x2 := hs6.c2
  simp only at x2
  rw [← hR] at HB6 ⊢
  clear hs6 ht6 hR hxl HH x1 hsz
  obtain ⟨I, hI⟩ : ∃ I, I = w6.heap.size := ⟨_, rfl⟩
  have hIS : ∀ j, S j → j ≠ I := fun j hj => by have := hlow j hj; omega
  have hIX : I ≠ X := by omega
  have hRI2 : R ≠ I := by omega
  rw [← hI] at HI6 hIw
  go_wp2_with fail
  rw [← hI]
  obtain ⟨W, hW⟩ : ∃ W, W = w6.alloc (.cells #[.int .u8 (op : Int), .int .u64 (0 : Int), .int .u64 (0 : Int), .slice none 0 0] 50) := ⟨_, rfl⟩
  rw [← hW] at HB6 HI6 HS6 HT6
  rw [show w6.alloc (.cells #[.int .u8 (op : Int), .int .u64 0, .int .u64 0, .slice none 0 0] 50) = W from hW.symm]
  clear hW hI x2
  refine (HC.out _).mono ?_
  rintro e w7 ⟨rfl, ht7⟩
  have HB7 := Lib.hid (HB6.out.step ht7 id)
  have HI7 := Lib.hid (HI6.out.step ht7 id)
  have HS7 := Lib.hid (HS6.out.quiet ht7)
  have HT7 := Lib.hid (HT6.out.trans' ht7 (fun _ h => h.elim))
  clear ht7 HB6 HI6 HS6 HT6 HC
  have x0 := HI7.out.cell 0
  have x2 := HS7.out.c2
  simp at x0
  simp only at x2
  go_wp2_with fail
  refine (HO.out _).mono ?_
  rintro e w8 ⟨rfl, ht8⟩
  have hI8 := (HI7.out.step ht8 id).lt
  have hX8 := (HS7.out.quiet ht8).lt
  have hR8 := (HB7.out.step ht8 id).lt
  have xx0 := (HI7.out.step ht8 id).cell 0
  have xx1 := (HI7.out.step ht8 id).cell 1
  have xx2 := (HI7.out.step ht8 id).cell 2
  have xx3 := (HI7.out.step ht8 id).cell 3
  have x1 := (HS7.out.quiet ht8).c1
  have x2 := (HS7.out.quiet ht8).c2
  simp at xx0 xx1 xx2 xx3
  simp only at x1 x2
  have HB9 := Lib.hid ((HB7.out.step ht8 id).alloc (.cells #[.int .i64 i.op, .string (str i.name), .int .i64 9, .string (str i.takes), .string (str i.has), .bool i.free] 24))
  have HI9 := Lib.hid ((HI7.out.step ht8 id).alloc (.cells #[.int .i64 i.op, .string (str i.name), .int .i64 9, .string (str i.takes), .string (str i.has), .bool i.free] 24))
  have HS9 := Lib.hid ((HS7.out.quiet ht8).alloc (.cells #[.int .i64 i.op, .string (str i.name), .int .i64 9, .string (str i.takes), .string (str i.has), .bool i.free] 24))
  have HT9 := Lib.hid ((HT7.out.trans' ht8 (fun _ h => h.elim)).alloc (.cells #[.int .i64 i.op, .string (str i.name), .int .i64 9, .string (str i.takes), .string (str i.has), .bool i.free] 24))
  clear ht8 HB7 HI7 HS7 HT7 HO x0
  simp only [rrM]
  go_wp2_with fail
  refine ((HK.out _) HS9.out).mono ?_
  rintro e w10 ⟨rfl, hs, ht⟩
  have HB10 := Lib.hid (HB9.out.step ht hRX)
  have HI10 := Lib.hid (HI9.out.step ht hIX)
  have HS10 := Lib.hid hs
  have HT10 := Lib.hid (HT9.out.trans ht)
  clear hs ht HB9 HI9 HS9 HT9
  obtain ⟨k2, y2, a2⟩ := s2
  simp only
  have x2 := HS10.out.c2
  simp only at x2
  by_cases hy : y2 = 0
  · subst hy
    have y0 := HI10.out.cell 0
    have y1 := HI10.out.cell 1
    have y2' := HI10.out.cell 2
    have y3 := HI10.out.cell 3
    simp at y0 y1 y2' y3
    have hone : (#[.int .u8 (op : Int), .int .u64 (0 : Int), .int .u64 (0 : Int), .slice none 0 0] : Array Value).all (·.oneCell') = true := by simp [Value.oneCell']
    have hbl := HB10.out
    go_wp2_with (refine wpList_store_rowTo rfl 50 _ _ rfl rfl R #[.int .u8 (op : Int), .int .u64 (0 : Int), .int .u64 (0 : Int), .slice none 0 0] rfl rfl 50 _ hbl rfl rfl hone ?_)
    have r0 := (hbl.row #[.int .u8 (op : Int), .int .u64 (0 : Int), .int .u64 (0 : Int), .slice none 0 0]).cell 0
    have r1 := (hbl.row #[.int .u8 (op : Int), .int .u64 (0 : Int), .int .u64 (0 : Int), .slice none 0 0]).cell 1
    have r2 := (hbl.row #[.int .u8 (op : Int), .int .u64 (0 : Int), .int .u64 (0 : Int), .slice none 0 0]).cell 2
    have r3 := (hbl.row #[.int .u8 (op : Int), .int .u64 (0 : Int), .int .u64 (0 : Int), .slice none 0 0]).cell 3
    simp at r0 r1 r2 r3
    have hSF := HS10.out.step (Step.setRow (F := fun j => j = R) Step.refl (g := R) (.inl rfl) #[.int .u8 (op : Int), .int .u64 (0 : Int), .int .u64 (0 : Int), .slice none 0 0]) (Ne.symm hRX) hRS
    have hTF := HT10.out.setRow (g := R) (.inr hRw) #[.int .u8 (op : Int), .int .u64 (0 : Int), .int .u64 (0 : Int), .slice none 0 0]
    refine bodyPost_ret (v := .agg #[.int .u8 (op : Int), .int .u64 (0 : Int), .int .u64 (0 : Int), .slice none 0 0]) (by simp [results, Try.results145, go_sem, r0, r1, r2, r3]) rfl ?_
    rw [finX, if_pos rfl]
    exact ⟨none, 0, rfl, World.ownsRow_nil _ _ _ _, hSF, hTF⟩
  · have hy0 : ((y2 : Int) == 0) = false := by simp; omega
    have hone : (#[.int .u8 (0 : Int), .int .u64 (0 : Int), .int .u64 (0 : Int), .slice none 0 0] : Array Value).all (·.oneCell') = true := by simp [Value.oneCell']
    have hbl := HB10.out
    go_wp2_with (refine wpList_store_rowTo rfl 50 _ _ rfl rfl R #[.int .u8 (0 : Int), .int .u64 (0 : Int), .int .u64 (0 : Int), .slice none 0 0] rfl rfl 50 _ hbl rfl rfl hone ?_)
    have r0 := (hbl.row #[.int .u8 (0 : Int), .int .u64 (0 : Int), .int .u64 (0 : Int), .slice none 0 0]).cell 0
    have r1 := (hbl.row #[.int .u8 (0 : Int), .int .u64 (0 : Int), .int .u64 (0 : Int), .slice none 0 0]).cell 1
    have r2 := (hbl.row #[.int .u8 (0 : Int), .int .u64 (0 : Int), .int .u64 (0 : Int), .slice none 0 0]).cell 2
    have r3 := (hbl.row #[.int .u8 (0 : Int), .int .u64 (0 : Int), .int .u64 (0 : Int), .slice none 0 0]).cell 3
    simp at r0 r1 r2 r3
    have hSF := HS10.out.step (Step.setRow (F := fun j => j = R) Step.refl (g := R) (.inl rfl) #[.int .u8 (0 : Int), .int .u64 (0 : Int), .int .u64 (0 : Int), .slice none 0 0]) (Ne.symm hRX) hRS
    have hTF := HT10.out.setRow (g := R) (.inr hRw) #[.int .u8 (0 : Int), .int .u64 (0 : Int), .int .u64 (0 : Int), .slice none 0 0]
    refine bodyPost_ret (v := .agg #[.int .u8 (0 : Int), .int .u64 (0 : Int), .int .u64 (0 : Int), .slice none 0 0]) (by simp [results, Try.results145, go_sem, r0, r1, r2, r3]) rfl ?_
    rw [finX, if_neg hy]
    exact ⟨none, 0, rfl, World.ownsRow_nil _ _ _ _, hSF, hTF⟩

set_option maxRecDepth 100000 in
set_option maxHeartbeats 3200000 in
theorem rg_10 (w : World) (X : Nat) (S : Nat → Prop) (D : Option Addr) (c : Nat) (bs : List UInt8) (s : Rst) (h : Rf w X S D c bs s) (op k1 a1 : Nat) (i : Rr) (hby : rbyF bs s = (op, ⟨k1, 0, a1⟩)) (v a : Nat) (s2 : Rst) (ha : a = v % 4294967296) (HK : Hid (∀ w', Rf w' X S D c bs ⟨k1, 0, a1⟩ → Calls Try.prog 194 #[.pointer (some ⟨X, 0, none⟩), .int .i64 32, .bool true] w' (Rg X S D c bs w' (.int .u64 (v : Int)) s2)))
    (HC : Hid (∀ w, Calls Try.prog 27 #[.int .i64 (op : Int)] w fun e w' => e = .returned (.int .i64 0) ∧ Step (fun _ => False) w w'))
    (HO : Hid (∀ w, Calls Try.prog 24 #[.int .i64 (op : Int)] w fun e w' => e = .returned (.tuple #[rrM i 10, .bool true]) ∧ Step (fun _ => False) w w')) :
    Calls Try.prog 145 #[.pointer (some ⟨X, 0, none⟩)] w (GetQ X S D c bs w (finX (op, a, 0, []) s2.y) s2) := by
  have HBY : Hid (∀ w', Rf w' X S D c bs s → Calls Try.prog 147 #[.pointer (some ⟨X, 0, none⟩)] w' (Rg X S D c bs w' (.int .i64 (op : Int)) ⟨k1, 0, a1⟩)) := fun w' h' => by
    have h1 := rbyte_walk w' X S D c bs s h'
    rw [hby] at h1
    exact h1
  have hop : op < 256 := by have := rbyF_lt bs s; rw [hby] at this; exact this
  clear hby
  have hxl := h.lt
  have hlow := h.low
  have x1 := h.c1
  have HH := Lib.hid h
  clear h
  have hw8 : IntKind.u8.wrap (op : Int) = (op : Int) := by rw [IntKind.wrap_u8]; omega
  have hw64 : IntKind.i64.wrap (op : Int) = (op : Int) := IntWalk.i64_in _ (by omega)
  clear hop
  go_enter Try.func145, Try.ntmps145
  go_wp2_with fail
  refine (HBY.out _ (HH.out.alloc _)).mono ?_
  rintro e w6 ⟨rfl, hs6, ht6⟩
  have hsz := (((Step.refl (F := fun i => i = X)).alloc (w := w) (.cells #[.int .u8 (0 : Int), .int .u64 (0 : Int), .int .u64 (0 : Int), .slice none 0 0] 50)).trans ht6).size
  obtain ⟨R, hR⟩ : ∃ R, R = w.heap.size := ⟨_, rfl⟩
  have hRX : R ≠ X := by omega
  have hRw : w.heap.size ≤ R := by omega
  have hRS : ∀ j, S j → j ≠ R := fun j hj => by have := hlow j hj; omega
  have HB6 := Lib.hid (((Blk.new w 50 #[.int .u8 (0 : Int), .int .u64 (0 : Int), .int .u64 (0 : Int), .slice none 0 0]).step ht6 (by rw [← hR]; exact hRX)).alloc (.cells #[.int .u8 (op : Int), .int .u64 (0 : Int), .int .u64 (0 : Int), .slice none 0 0] 50))
  have hRI := ((Blk.new w 50 #[.int .u8 (0 : Int), .int .u64 (0 : Int), .int .u64 (0 : Int), .slice none 0 0]).step ht6 (by rw [← hR]; exact hRX)).lt
  rw [← hR] at hRI
  have HI6 := Lib.hid (Blk.new w6 50 #[.int .u8 (op : Int), .int .u64 (0 : Int), .int .u64 (0 : Int), .slice none 0 0])
  have HS6 := Lib.hid (hs6.alloc (.cells #[.int .u8 (op : Int), .int .u64 (0 : Int), .int .u64 (0 : Int), .slice none 0 0] 50))
  have HT6 := Lib.hid ((((Step.refl (F := fun i => i = X)).alloc (w := w) (.cells #[.int .u8 (0 : Int), .int .u64 (0 : Int), .int .u64 (0 : Int), .slice none 0 0] 50)).trans ht6).alloc (.cells #[.int .u8 (op : Int), .int .u64 (0 : Int), .int .u64 (0 : Int), .slice none 0 0] 50))
  have hXI : X < w6.heap.size := by omega
  have hIw : w.heap.size ≤ w6.heap.size := by omega
  have x2 := hs6.c2
  simp only at x2
  rw [← hR] at HB6 ⊢
  clear hs6 ht6 hR hxl HH x1 hsz
  obtain ⟨I, hI⟩ : ∃ I, I = w6.heap.size := ⟨_, rfl⟩
  have hIS : ∀ j, S j → j ≠ I := fun j hj => by have := hlow j hj; omega
  have hIX : I ≠ X := by omega
  have hRI2 : R ≠ I := by omega
  rw [← hI] at HI6 hIw
  go_wp2_with fail
  rw [← hI]
  obtain ⟨W, hW⟩ : ∃ W, W = w6.alloc (.cells #[.int .u8 (op : Int), .int .u64 (0 : Int), .int .u64 (0 : Int), .slice none 0 0] 50) := ⟨_, rfl⟩
  rw [← hW] at HB6 HI6 HS6 HT6
  rw [show w6.alloc (.cells #[.int .u8 (op : Int), .int .u64 0, .int .u64 0, .slice none 0 0] 50) = W from hW.symm]
  clear hW hI x2
  refine (HC.out _).mono ?_
  rintro e w7 ⟨rfl, ht7⟩
  have HB7 := Lib.hid (HB6.out.step ht7 id)
  have HI7 := Lib.hid (HI6.out.step ht7 id)
  have HS7 := Lib.hid (HS6.out.quiet ht7)
  have HT7 := Lib.hid (HT6.out.trans' ht7 (fun _ h => h.elim))
  clear ht7 HB6 HI6 HS6 HT6 HC
  have x0 := HI7.out.cell 0
  have x2 := HS7.out.c2
  simp at x0
  simp only at x2
  go_wp2_with fail
  refine (HO.out _).mono ?_
  rintro e w8 ⟨rfl, ht8⟩
  have hI8 := (HI7.out.step ht8 id).lt
  have hX8 := (HS7.out.quiet ht8).lt
  have hR8 := (HB7.out.step ht8 id).lt
  have xx0 := (HI7.out.step ht8 id).cell 0
  have xx1 := (HI7.out.step ht8 id).cell 1
  have xx2 := (HI7.out.step ht8 id).cell 2
  have xx3 := (HI7.out.step ht8 id).cell 3
  have x1 := (HS7.out.quiet ht8).c1
  have x2 := (HS7.out.quiet ht8).c2
  simp at xx0 xx1 xx2 xx3
  simp only at x1 x2
  have HB9 := Lib.hid ((HB7.out.step ht8 id).alloc (.cells #[.int .i64 i.op, .string (str i.name), .int .i64 10, .string (str i.takes), .string (str i.has), .bool i.free] 24))
  have HI9 := Lib.hid ((HI7.out.step ht8 id).alloc (.cells #[.int .i64 i.op, .string (str i.name), .int .i64 10, .string (str i.takes), .string (str i.has), .bool i.free] 24))
  have HS9 := Lib.hid ((HS7.out.quiet ht8).alloc (.cells #[.int .i64 i.op, .string (str i.name), .int .i64 10, .string (str i.takes), .string (str i.has), .bool i.free] 24))
  have HT9 := Lib.hid ((HT7.out.trans' ht8 (fun _ h => h.elim)).alloc (.cells #[.int .i64 i.op, .string (str i.name), .int .i64 10, .string (str i.takes), .string (str i.has), .bool i.free] 24))
  clear ht8 HB7 HI7 HS7 HT7 HO x0
  simp only [rrM]
  have hm : (v : Int).tmod 4294967296 = (a : Int) := by rw [Int.tmod_eq_emod_of_nonneg (Int.natCast_nonneg _)]; omega
  have hu := IntWalk.u64_in (a : Int) (by omega)
  clear ha
  go_wp2_with fail
  refine ((HK.out _) HS9.out).mono ?_
  rintro e w10 ⟨rfl, hs, ht⟩
  have HB10 := Lib.hid (HB9.out.step ht hRX)
  have HI10 := Lib.hid (HI9.out.step ht hIX)
  have HS10 := Lib.hid hs
  have HT10 := Lib.hid (HT9.out.trans ht)
  clear hs ht HB9 HI9 HS9 HT9
  have zz10 := HI10.out.frozen 1
  have cc10 := HI10.out.cell 1
  simp at cc10
  have HI11 : Hid (Blk (w10.setCell ⟨I, 1, none⟩ (.int .u64 (a : Int))) I 50 #[.int .u8 (op : Int), .int .u64 (a : Int), .int .u64 (0 : Int), .slice none 0 0]) := by
    have hq := HI10.out.set_ 1 (.int .u64 (a : Int))
    simp at hq
    exact hq
  have HB11 := Lib.hid (HB10.out.far (p := ⟨I, 1, none⟩) hRI2 (.int .u64 (a : Int)))
  have hst10 : Step (fun j => j = I) w10 (w10.setCell ⟨I, 1, none⟩ (.int .u64 (a : Int))) := (Step.refl (F := fun j => j = I)).setCell (p := ⟨I, 1, none⟩) (.inl rfl) _
  have HS11 := Lib.hid (HS10.out.step hst10 (Ne.symm hIX) hIS)
  have HT11 := Lib.hid (HT10.out.setCell (p := ⟨I, 1, none⟩) (.inr hIw) (.int .u64 (a : Int)))
  clear HI10 HB10 HS10 HT10 hst10
  obtain ⟨k2, y2, a2⟩ := s2
  simp only
  have x2 := HS11.out.c2
  simp only at x2
  by_cases hy : y2 = 0
  · subst hy
    have y0 := HI11.out.cell 0
    have y1 := HI11.out.cell 1
    have y2' := HI11.out.cell 2
    have y3 := HI11.out.cell 3
    simp at y0 y1 y2' y3
    have hone : (#[.int .u8 (op : Int), .int .u64 (a : Int), .int .u64 (0 : Int), .slice none 0 0] : Array Value).all (·.oneCell') = true := by simp [Value.oneCell']
    have hbl := HB11.out
    go_wp2_with (refine wpList_store_rowTo rfl 50 _ _ rfl rfl R #[.int .u8 (op : Int), .int .u64 (a : Int), .int .u64 (0 : Int), .slice none 0 0] rfl rfl 50 _ hbl rfl rfl hone ?_)
    have r0 := (hbl.row #[.int .u8 (op : Int), .int .u64 (a : Int), .int .u64 (0 : Int), .slice none 0 0]).cell 0
    have r1 := (hbl.row #[.int .u8 (op : Int), .int .u64 (a : Int), .int .u64 (0 : Int), .slice none 0 0]).cell 1
    have r2 := (hbl.row #[.int .u8 (op : Int), .int .u64 (a : Int), .int .u64 (0 : Int), .slice none 0 0]).cell 2
    have r3 := (hbl.row #[.int .u8 (op : Int), .int .u64 (a : Int), .int .u64 (0 : Int), .slice none 0 0]).cell 3
    simp at r0 r1 r2 r3
    have hSF := HS11.out.step (Step.setRow (F := fun j => j = R) Step.refl (g := R) (.inl rfl) #[.int .u8 (op : Int), .int .u64 (a : Int), .int .u64 (0 : Int), .slice none 0 0]) (Ne.symm hRX) hRS
    have hTF := HT11.out.setRow (g := R) (.inr hRw) #[.int .u8 (op : Int), .int .u64 (a : Int), .int .u64 (0 : Int), .slice none 0 0]
    refine bodyPost_ret (v := .agg #[.int .u8 (op : Int), .int .u64 (a : Int), .int .u64 (0 : Int), .slice none 0 0]) (by simp [results, Try.results145, go_sem, r0, r1, r2, r3]) rfl ?_
    rw [finX, if_pos rfl]
    exact ⟨none, 0, rfl, World.ownsRow_nil _ _ _ _, hSF, hTF⟩
  · have hy0 : ((y2 : Int) == 0) = false := by simp; omega
    have hone : (#[.int .u8 (0 : Int), .int .u64 (0 : Int), .int .u64 (0 : Int), .slice none 0 0] : Array Value).all (·.oneCell') = true := by simp [Value.oneCell']
    have hbl := HB11.out
    go_wp2_with (refine wpList_store_rowTo rfl 50 _ _ rfl rfl R #[.int .u8 (0 : Int), .int .u64 (0 : Int), .int .u64 (0 : Int), .slice none 0 0] rfl rfl 50 _ hbl rfl rfl hone ?_)
    have r0 := (hbl.row #[.int .u8 (0 : Int), .int .u64 (0 : Int), .int .u64 (0 : Int), .slice none 0 0]).cell 0
    have r1 := (hbl.row #[.int .u8 (0 : Int), .int .u64 (0 : Int), .int .u64 (0 : Int), .slice none 0 0]).cell 1
    have r2 := (hbl.row #[.int .u8 (0 : Int), .int .u64 (0 : Int), .int .u64 (0 : Int), .slice none 0 0]).cell 2
    have r3 := (hbl.row #[.int .u8 (0 : Int), .int .u64 (0 : Int), .int .u64 (0 : Int), .slice none 0 0]).cell 3
    simp at r0 r1 r2 r3
    have hSF := HS11.out.step (Step.setRow (F := fun j => j = R) Step.refl (g := R) (.inl rfl) #[.int .u8 (0 : Int), .int .u64 (0 : Int), .int .u64 (0 : Int), .slice none 0 0]) (Ne.symm hRX) hRS
    have hTF := HT11.out.setRow (g := R) (.inr hRw) #[.int .u8 (0 : Int), .int .u64 (0 : Int), .int .u64 (0 : Int), .slice none 0 0]
    refine bodyPost_ret (v := .agg #[.int .u8 (0 : Int), .int .u64 (0 : Int), .int .u64 (0 : Int), .slice none 0 0]) (by simp [results, Try.results145, go_sem, r0, r1, r2, r3]) rfl ?_
    rw [finX, if_neg hy]
    exact ⟨none, 0, rfl, World.ownsRow_nil _ _ _ _, hSF, hTF⟩

set_option maxRecDepth 100000 in
set_option maxHeartbeats 3200000 in
theorem rg_11 (w : World) (X : Nat) (S : Nat → Prop) (D : Option Addr) (c : Nat) (bs : List UInt8) (s : Rst) (h : Rf w X S D c bs s) (op k1 a1 : Nat) (i : Rr) (hby : rbyF bs s = (op, ⟨k1, 0, a1⟩)) (a : Nat) (s2 : Rst) (HK : Hid (∀ w', Rf w' X S D c bs ⟨k1, 0, a1⟩ → Calls Try.prog 194 #[.pointer (some ⟨X, 0, none⟩), .int .i64 64, .bool true] w' (Rg X S D c bs w' (.int .u64 (a : Int)) s2)))
    (HC : Hid (∀ w, Calls Try.prog 27 #[.int .i64 (op : Int)] w fun e w' => e = .returned (.int .i64 0) ∧ Step (fun _ => False) w w'))
    (HO : Hid (∀ w, Calls Try.prog 24 #[.int .i64 (op : Int)] w fun e w' => e = .returned (.tuple #[rrM i 11, .bool true]) ∧ Step (fun _ => False) w w')) :
    Calls Try.prog 145 #[.pointer (some ⟨X, 0, none⟩)] w (GetQ X S D c bs w (finX (op, a, 0, []) s2.y) s2) := by
  have HBY : Hid (∀ w', Rf w' X S D c bs s → Calls Try.prog 147 #[.pointer (some ⟨X, 0, none⟩)] w' (Rg X S D c bs w' (.int .i64 (op : Int)) ⟨k1, 0, a1⟩)) := fun w' h' => by
    have h1 := rbyte_walk w' X S D c bs s h'
    rw [hby] at h1
    exact h1
  have hop : op < 256 := by have := rbyF_lt bs s; rw [hby] at this; exact this
  clear hby
  have hxl := h.lt
  have hlow := h.low
  have x1 := h.c1
  have HH := Lib.hid h
  clear h
  have hw8 : IntKind.u8.wrap (op : Int) = (op : Int) := by rw [IntKind.wrap_u8]; omega
  have hw64 : IntKind.i64.wrap (op : Int) = (op : Int) := IntWalk.i64_in _ (by omega)
  clear hop
  go_enter Try.func145, Try.ntmps145
  go_wp2_with fail
  refine (HBY.out _ (HH.out.alloc _)).mono ?_
  rintro e w6 ⟨rfl, hs6, ht6⟩
  have hsz := (((Step.refl (F := fun i => i = X)).alloc (w := w) (.cells #[.int .u8 (0 : Int), .int .u64 (0 : Int), .int .u64 (0 : Int), .slice none 0 0] 50)).trans ht6).size
  obtain ⟨R, hR⟩ : ∃ R, R = w.heap.size := ⟨_, rfl⟩
  have hRX : R ≠ X := by omega
  have hRw : w.heap.size ≤ R := by omega
  have hRS : ∀ j, S j → j ≠ R := fun j hj => by have := hlow j hj; omega
  have HB6 := Lib.hid (((Blk.new w 50 #[.int .u8 (0 : Int), .int .u64 (0 : Int), .int .u64 (0 : Int), .slice none 0 0]).step ht6 (by rw [← hR]; exact hRX)).alloc (.cells #[.int .u8 (op : Int), .int .u64 (0 : Int), .int .u64 (0 : Int), .slice none 0 0] 50))
  have hRI := ((Blk.new w 50 #[.int .u8 (0 : Int), .int .u64 (0 : Int), .int .u64 (0 : Int), .slice none 0 0]).step ht6 (by rw [← hR]; exact hRX)).lt
  rw [← hR] at hRI
  have HI6 := Lib.hid (Blk.new w6 50 #[.int .u8 (op : Int), .int .u64 (0 : Int), .int .u64 (0 : Int), .slice none 0 0])
  have HS6 := Lib.hid (hs6.alloc (.cells #[.int .u8 (op : Int), .int .u64 (0 : Int), .int .u64 (0 : Int), .slice none 0 0] 50))
  have HT6 := Lib.hid ((((Step.refl (F := fun i => i = X)).alloc (w := w) (.cells #[.int .u8 (0 : Int), .int .u64 (0 : Int), .int .u64 (0 : Int), .slice none 0 0] 50)).trans ht6).alloc (.cells #[.int .u8 (op : Int), .int .u64 (0 : Int), .int .u64 (0 : Int), .slice none 0 0] 50))
  have hXI : X < w6.heap.size := by omega
  have hIw : w.heap.size ≤ w6.heap.size := by omega
  have x2 := hs6.c2
  simp only at x2
  rw [← hR] at HB6 ⊢
  clear hs6 ht6 hR hxl HH x1 hsz
  obtain ⟨I, hI⟩ : ∃ I, I = w6.heap.size := ⟨_, rfl⟩
  have hIS : ∀ j, S j → j ≠ I := fun j hj => by have := hlow j hj; omega
  have hIX : I ≠ X := by omega
  have hRI2 : R ≠ I := by omega
  rw [← hI] at HI6 hIw
  go_wp2_with fail
  rw [← hI]
  obtain ⟨W, hW⟩ : ∃ W, W = w6.alloc (.cells #[.int .u8 (op : Int), .int .u64 (0 : Int), .int .u64 (0 : Int), .slice none 0 0] 50) := ⟨_, rfl⟩
  rw [← hW] at HB6 HI6 HS6 HT6
  rw [show w6.alloc (.cells #[.int .u8 (op : Int), .int .u64 0, .int .u64 0, .slice none 0 0] 50) = W from hW.symm]
  clear hW hI x2
  refine (HC.out _).mono ?_
  rintro e w7 ⟨rfl, ht7⟩
  have HB7 := Lib.hid (HB6.out.step ht7 id)
  have HI7 := Lib.hid (HI6.out.step ht7 id)
  have HS7 := Lib.hid (HS6.out.quiet ht7)
  have HT7 := Lib.hid (HT6.out.trans' ht7 (fun _ h => h.elim))
  clear ht7 HB6 HI6 HS6 HT6 HC
  have x0 := HI7.out.cell 0
  have x2 := HS7.out.c2
  simp at x0
  simp only at x2
  go_wp2_with fail
  refine (HO.out _).mono ?_
  rintro e w8 ⟨rfl, ht8⟩
  have hI8 := (HI7.out.step ht8 id).lt
  have hX8 := (HS7.out.quiet ht8).lt
  have hR8 := (HB7.out.step ht8 id).lt
  have xx0 := (HI7.out.step ht8 id).cell 0
  have xx1 := (HI7.out.step ht8 id).cell 1
  have xx2 := (HI7.out.step ht8 id).cell 2
  have xx3 := (HI7.out.step ht8 id).cell 3
  have x1 := (HS7.out.quiet ht8).c1
  have x2 := (HS7.out.quiet ht8).c2
  simp at xx0 xx1 xx2 xx3
  simp only at x1 x2
  have HB9 := Lib.hid ((HB7.out.step ht8 id).alloc (.cells #[.int .i64 i.op, .string (str i.name), .int .i64 11, .string (str i.takes), .string (str i.has), .bool i.free] 24))
  have HI9 := Lib.hid ((HI7.out.step ht8 id).alloc (.cells #[.int .i64 i.op, .string (str i.name), .int .i64 11, .string (str i.takes), .string (str i.has), .bool i.free] 24))
  have HS9 := Lib.hid ((HS7.out.quiet ht8).alloc (.cells #[.int .i64 i.op, .string (str i.name), .int .i64 11, .string (str i.takes), .string (str i.has), .bool i.free] 24))
  have HT9 := Lib.hid ((HT7.out.trans' ht8 (fun _ h => h.elim)).alloc (.cells #[.int .i64 i.op, .string (str i.name), .int .i64 11, .string (str i.takes), .string (str i.has), .bool i.free] 24))
  clear ht8 HB7 HI7 HS7 HT7 HO x0
  simp only [rrM]
  go_wp2_with fail
  refine ((HK.out _) HS9.out).mono ?_
  rintro e w10 ⟨rfl, hs, ht⟩
  have HB10 := Lib.hid (HB9.out.step ht hRX)
  have HI10 := Lib.hid (HI9.out.step ht hIX)
  have HS10 := Lib.hid hs
  have HT10 := Lib.hid (HT9.out.trans ht)
  clear hs ht HB9 HI9 HS9 HT9
  have zz10 := HI10.out.frozen 1
  have cc10 := HI10.out.cell 1
  simp at cc10
  have HI11 : Hid (Blk (w10.setCell ⟨I, 1, none⟩ (.int .u64 (a : Int))) I 50 #[.int .u8 (op : Int), .int .u64 (a : Int), .int .u64 (0 : Int), .slice none 0 0]) := by
    have hq := HI10.out.set_ 1 (.int .u64 (a : Int))
    simp at hq
    exact hq
  have HB11 := Lib.hid (HB10.out.far (p := ⟨I, 1, none⟩) hRI2 (.int .u64 (a : Int)))
  have hst10 : Step (fun j => j = I) w10 (w10.setCell ⟨I, 1, none⟩ (.int .u64 (a : Int))) := (Step.refl (F := fun j => j = I)).setCell (p := ⟨I, 1, none⟩) (.inl rfl) _
  have HS11 := Lib.hid (HS10.out.step hst10 (Ne.symm hIX) hIS)
  have HT11 := Lib.hid (HT10.out.setCell (p := ⟨I, 1, none⟩) (.inr hIw) (.int .u64 (a : Int)))
  clear HI10 HB10 HS10 HT10 hst10
  obtain ⟨k2, y2, a2⟩ := s2
  simp only
  have x2 := HS11.out.c2
  simp only at x2
  by_cases hy : y2 = 0
  · subst hy
    have y0 := HI11.out.cell 0
    have y1 := HI11.out.cell 1
    have y2' := HI11.out.cell 2
    have y3 := HI11.out.cell 3
    simp at y0 y1 y2' y3
    have hone : (#[.int .u8 (op : Int), .int .u64 (a : Int), .int .u64 (0 : Int), .slice none 0 0] : Array Value).all (·.oneCell') = true := by simp [Value.oneCell']
    have hbl := HB11.out
    go_wp2_with (refine wpList_store_rowTo rfl 50 _ _ rfl rfl R #[.int .u8 (op : Int), .int .u64 (a : Int), .int .u64 (0 : Int), .slice none 0 0] rfl rfl 50 _ hbl rfl rfl hone ?_)
    have r0 := (hbl.row #[.int .u8 (op : Int), .int .u64 (a : Int), .int .u64 (0 : Int), .slice none 0 0]).cell 0
    have r1 := (hbl.row #[.int .u8 (op : Int), .int .u64 (a : Int), .int .u64 (0 : Int), .slice none 0 0]).cell 1
    have r2 := (hbl.row #[.int .u8 (op : Int), .int .u64 (a : Int), .int .u64 (0 : Int), .slice none 0 0]).cell 2
    have r3 := (hbl.row #[.int .u8 (op : Int), .int .u64 (a : Int), .int .u64 (0 : Int), .slice none 0 0]).cell 3
    simp at r0 r1 r2 r3
    have hSF := HS11.out.step (Step.setRow (F := fun j => j = R) Step.refl (g := R) (.inl rfl) #[.int .u8 (op : Int), .int .u64 (a : Int), .int .u64 (0 : Int), .slice none 0 0]) (Ne.symm hRX) hRS
    have hTF := HT11.out.setRow (g := R) (.inr hRw) #[.int .u8 (op : Int), .int .u64 (a : Int), .int .u64 (0 : Int), .slice none 0 0]
    refine bodyPost_ret (v := .agg #[.int .u8 (op : Int), .int .u64 (a : Int), .int .u64 (0 : Int), .slice none 0 0]) (by simp [results, Try.results145, go_sem, r0, r1, r2, r3]) rfl ?_
    rw [finX, if_pos rfl]
    exact ⟨none, 0, rfl, World.ownsRow_nil _ _ _ _, hSF, hTF⟩
  · have hy0 : ((y2 : Int) == 0) = false := by simp; omega
    have hone : (#[.int .u8 (0 : Int), .int .u64 (0 : Int), .int .u64 (0 : Int), .slice none 0 0] : Array Value).all (·.oneCell') = true := by simp [Value.oneCell']
    have hbl := HB11.out
    go_wp2_with (refine wpList_store_rowTo rfl 50 _ _ rfl rfl R #[.int .u8 (0 : Int), .int .u64 (0 : Int), .int .u64 (0 : Int), .slice none 0 0] rfl rfl 50 _ hbl rfl rfl hone ?_)
    have r0 := (hbl.row #[.int .u8 (0 : Int), .int .u64 (0 : Int), .int .u64 (0 : Int), .slice none 0 0]).cell 0
    have r1 := (hbl.row #[.int .u8 (0 : Int), .int .u64 (0 : Int), .int .u64 (0 : Int), .slice none 0 0]).cell 1
    have r2 := (hbl.row #[.int .u8 (0 : Int), .int .u64 (0 : Int), .int .u64 (0 : Int), .slice none 0 0]).cell 2
    have r3 := (hbl.row #[.int .u8 (0 : Int), .int .u64 (0 : Int), .int .u64 (0 : Int), .slice none 0 0]).cell 3
    simp at r0 r1 r2 r3
    have hSF := HS11.out.step (Step.setRow (F := fun j => j = R) Step.refl (g := R) (.inl rfl) #[.int .u8 (0 : Int), .int .u64 (0 : Int), .int .u64 (0 : Int), .slice none 0 0]) (Ne.symm hRX) hRS
    have hTF := HT11.out.setRow (g := R) (.inr hRw) #[.int .u8 (0 : Int), .int .u64 (0 : Int), .int .u64 (0 : Int), .slice none 0 0]
    refine bodyPost_ret (v := .agg #[.int .u8 (0 : Int), .int .u64 (0 : Int), .int .u64 (0 : Int), .slice none 0 0]) (by simp [results, Try.results145, go_sem, r0, r1, r2, r3]) rfl ?_
    rw [finX, if_neg hy]
    exact ⟨none, 0, rfl, World.ownsRow_nil _ _ _ _, hSF, hTF⟩
end Go.Proofs.Ytfemeendkjcffaa
