/-
  Ge: GeA, GeB, GeC.
-/
import Derived.Test.YtfemeendkjcffaaSc
import Derived.Test.YtfemeendkjcffaaRd
import Derived.Test.YtfemeendkjcffaaInC
import Derived.Test.YtfemeendkjcffaaMix
import Derived.Test.YtfemeendkjcffaaRes
import Derived.Test.YtfemeendkjcffaaAb
import Derived.Great.Walk
set_option linter.unusedVariables false
set_option linter.unusedSimpArgs false
/-! instr: Get of what may be. -/
namespace Go.Proofs.Ytfemeendkjcffaa
open Go.RowKit

theorem drop_cons {bs : List UInt8} {k : Nat} {b : UInt8} {t : List UInt8} (h : bs.drop k = b :: t) : ∃ hk : k < bs.length, bs[k] = b ∧ bs.drop (k + 1) = t := by
  have hk : k < bs.length := by
    rcases Nat.lt_or_ge k bs.length with h1 | h1
    · exact h1
    · rw [List.drop_eq_nil_of_le h1] at h; cases h
  rw [List.drop_eq_getElem_cons hk] at h
  injection h with h1 h2
  exact ⟨hk, h1, h2⟩
theorem drop_app {bs : List UInt8} {k : Nat} {l t : List UInt8} (h : bs.drop k = l ++ t) : bs.drop (k + l.length) = t := by
  rw [← List.drop_drop, h]
  exact List.drop_left
theorem u8_nat (n : Nat) (h : n < 256) : ((UInt8.ofNat n).toNat : Int) = (n : Int) := by
  simp; omega
theorem byte_at {w : World} {X : Nat} {S : Nat → Prop} {D : Option Addr} {c : Nat} {bs : List UInt8} {k : Nat} (h : Scn w X S D c bs k) {b : Nat} {t : List UInt8} (hb : b < 256) (hd : bs.drop k = UInt8.ofNat b :: t) :
    Calls Try.prog 144 #[.pointer (some ⟨X, 0, none⟩)] w fun e w' => e = .returned (.int .u8 (b : Int)) ∧ Scn w' X S D c bs (k + 1) ∧ Step (fun i => i = X) w w' := by
  obtain ⟨hk, h1, h2⟩ := drop_cons hd
  have := byte_ok w X S D c bs k h hk
  rw [h1, u8_nat b hb] at this
  exact this
theorem index_at {w : World} {X : Nat} {S : Nat → Prop} {D : Option Addr} {c : Nat} {bs : List UInt8} {k : Nat} (h : Scn w X S D c bs k) {v : Nat} {t : List UInt8} (hv : v < 4294967296) (hd : bs.drop k = uintF v ++ t) :
    Calls Try.prog 175 #[.pointer (some ⟨X, 0, none⟩)] w fun e w' => e = .returned (.int .u32 (v : Int)) ∧ Scn w' X S D c bs (k + (uintF v).length) ∧ Step (fun i => i = X) w w' :=
  index_ok w X S D c bs k h v _ (by rw [hd]; exact (rdU_back v t hv).1) hv

/-- Get, up to the kind: what is known behind ops.Of. -/
def insA (op a b : Int) (v : Value) : Array Value := #[.int .u8 op, .int .u64 a, .int .u64 b, v]

set_option maxRecDepth 100000 in
set_option maxHeartbeats 3200000 in
theorem get_0 (w : World) (X : Nat) (S : Nat → Prop) (D : Option Addr) (c : Nat) (bs : List UInt8) (k : Nat) (h : Scn w X S D c bs k) (op : Nat) (i : Inf) (rest : List UInt8) (hop : op < 256) (hck : chkF op = 0) (hd : bs.drop k = UInt8.ofNat op :: rest)
    (HO : Hid (∀ w, Calls Try.prog 25 #[.int .u8 (op : Int)] w fun e w' => e = .returned (infM i 0) ∧ Step (fun _ => False) w w')) :
    Calls Try.prog 142 #[.pointer (some ⟨X, 0, none⟩)] w fun e w' => e = .returned (.agg #[.int .u8 (op : Int), .int .u64 0, .int .u64 0, .slice none 0 0]) ∧ Scn w' X S D c bs (k + 1) ∧ Step (fun i => i = X) w w' := by
  have HC : Hid (∀ w, Calls Try.prog 26 #[.int .u8 (op : Int)] w fun e w' => e = .returned (.int .i64 0) ∧ Step (fun _ => False) w w') := fun w => by
    have := check_walk w op hop
    rw [hck] at this
    exact this
  have hxl := h.lt
  have HH := Lib.hid h
  have hlow := h.low
  clear h
  have hone0 : (insA 0 0 0 (.slice none 0 0)).all (·.oneCell') = true := by simp [insA, Value.oneCell']
  go_enter Try.func142, Try.ntmps142
  go_wp2_with fail
  refine (at_walk _ X S D c bs k (HH.out.alloc _)).mono ?_
  rintro e w5 ⟨rfl, hw5⟩
  have HB5 := Lib.hid (Blk.new w 50 (insA 0 0 0 (.slice none 0 0)))
  have HS5 := Lib.hid (HH.out.alloc (.cells (insA 0 0 0 (.slice none 0 0)) 50))
  have HT5 := Lib.hid ((Step.refl (F := fun i => i = X)).alloc (w := w) (.cells (insA 0 0 0 (.slice none 0 0)) 50))
  rw [show w.alloc (.cells (insA 0 0 0 (.slice none 0 0)) 50) = w5 from hw5.symm] at HB5 HS5 HT5
  obtain ⟨R, hR⟩ : ∃ R, R = w.heap.size := ⟨_, rfl⟩
  have hRX : R ≠ X := by omega
  have hRw : w.heap.size ≤ R := by omega
  have hRS : ∀ j, S j → j ≠ R := fun j hj => by have := hlow j hj; omega
  rw [← hR] at HB5 ⊢
  clear hR hxl hw5 HH
  go_wp2_with fail
  refine (byte_at HS5.out hop hd).mono ?_
  rintro e w6 ⟨rfl, hs6, ht6⟩
  obtain ⟨_, _, hd1⟩ := drop_cons hd
  have HB6 := Lib.hid ((HB5.out.step ht6 hRX).alloc (.cells (insA op 0 0 (.slice none 0 0)) 50))
  have HI6 := Lib.hid (Blk.new w6 50 (insA op 0 0 (.slice none 0 0)))
  have HS6 := Lib.hid (hs6.alloc (.cells (insA op 0 0 (.slice none 0 0)) 50))
  have HT6 := Lib.hid ((HT5.out.trans ht6).alloc (.cells (insA op 0 0 (.slice none 0 0)) 50))
  have hRI : R < w6.heap.size := by have := HB5.out.lt; have := ht6.size; omega
  have hXI : X < w6.heap.size := by have := HS5.out.lt; have := ht6.size; omega
  have hIw : w.heap.size ≤ w6.heap.size := (HT5.out.trans ht6).size
  clear hs6 ht6 HB5 HS5 HT5 hd
  obtain ⟨I, hI⟩ : ∃ I, I = w6.heap.size := ⟨_, rfl⟩
  obtain ⟨W, hW⟩ : ∃ W, W = w6.alloc (.cells (insA op 0 0 (.slice none 0 0)) 50) := ⟨_, rfl⟩
  rw [← hI] at HI6 hRI hXI hIw
  have hIS : ∀ j, S j → j ≠ I := fun j hj => by have := hlow j hj; omega
  have hIX : I ≠ X := by omega
  have hRI2 : R ≠ I := by omega
  rw [← hW] at HB6 HI6 HS6 HT6
  have x0 := HI6.out.cell 0
  simp [insA] at x0
  rw [hW] at x0
  rw [hI] at x0
  go_wp2_with fail
  rw [show w6.alloc (.cells #[.int .u8 (op : Int), .int .u64 0, .int .u64 0, .slice none 0 0] 50) = W from hW.symm]
  rw [← hI]
  clear x0 hW hI
  refine (HC.out _).mono ?_
  rintro e w7 ⟨rfl, ht7⟩
  have HB7 := Lib.hid (HB6.out.step ht7 id)
  have HI7 := Lib.hid (HI6.out.step ht7 id)
  have HS7 := Lib.hid (HS6.out.quiet ht7)
  have HT7 := Lib.hid (HT6.out.trans' ht7 (fun _ h => h.elim))
  clear ht7 HB6 HI6 HS6 HT6 HC
  have x0 := HI7.out.cell 0
  simp [insA] at x0
  go_wp2_with fail
  refine (aunless_ok _ _ _).mono ?_
  rintro e w8 ⟨rfl, hw8⟩
  obtain rfl : w7 = w8 := hw8.symm
  go_wp2_with fail
  refine (at_walk _ X S D c bs (k + 1) HS7.out).mono ?_
  rintro e w8 ⟨rfl, hw8⟩
  obtain rfl : w7 = w8 := hw8.symm
  go_wp2_with fail
  refine (HO.out _).mono ?_
  rintro e w8 ⟨rfl, ht8⟩
  have HB8 := Lib.hid (HB7.out.step ht8 id)
  have HI8 := Lib.hid (HI7.out.step ht8 id)
  have HS8 := Lib.hid (HS7.out.quiet ht8)
  have HT8 := Lib.hid (HT7.out.trans' ht8 (fun _ h => h.elim))
  clear ht8 HB7 HI7 HS7 HT7 HO x0
  have hfd := field_imm i 0
  simp only [infM]
  have y0 := HI8.out.cell 0
  have y1 := HI8.out.cell 1
  have y2 := HI8.out.cell 2
  have y3 := HI8.out.cell 3
  simp [insA] at y0 y1 y2 y3
  have hone : (#[.int .u8 (op : Int), .int .u64 0, .int .u64 0, .slice none 0 0] : Array Value).all (·.oneCell') = true := by simp [Value.oneCell']
  have hbl := HB8.out
  go_wp2_with (refine wpList_store_rowTo rfl 50 _ _ rfl rfl R #[.int .u8 (op : Int), .int .u64 0, .int .u64 0, .slice none 0 0] rfl rfl 50 _ hbl rfl rfl hone ?_)
  have r0 := (hbl.row #[.int .u8 (op : Int), .int .u64 0, .int .u64 0, .slice none 0 0]).cell 0
  have r1 := (hbl.row #[.int .u8 (op : Int), .int .u64 0, .int .u64 0, .slice none 0 0]).cell 1
  have r2 := (hbl.row #[.int .u8 (op : Int), .int .u64 0, .int .u64 0, .slice none 0 0]).cell 2
  have r3 := (hbl.row #[.int .u8 (op : Int), .int .u64 0, .int .u64 0, .slice none 0 0]).cell 3
  simp at r0 r1 r2 r3
  have hSF := HS8.out.step (Step.setRow (F := fun j => j = R) Step.refl (g := R) (.inl rfl) #[.int .u8 (op : Int), .int .u64 0, .int .u64 0, .slice none 0 0]) (Ne.symm hRX) hRS
  have hTF := HT8.out.setRow (g := R) (.inr hRw) #[.int .u8 (op : Int), .int .u64 0, .int .u64 0, .slice none 0 0]
  exact bodyPost_ret (v := .agg #[.int .u8 (op : Int), .int .u64 0, .int .u64 0, .slice none 0 0]) (by simp [results, Try.results142, go_sem, r0, r1, r2, r3]) rfl ⟨rfl, hSF, hTF⟩

set_option maxRecDepth 100000 in
set_option maxHeartbeats 3200000 in
theorem get_d (w : World) (X : Nat) (S : Nat → Prop) (D : Option Addr) (c : Nat) (bs : List UInt8) (k : Nat) (h : Scn w X S D c bs k) (op a : Nat) (i : Inf) (rest : List UInt8) (hop : op < 256) (hck : chkF op = 0) (ha : a < 4294967296) (m : Int) (hm : ¬ m = 0 ∧ ¬ m = 1 ∧ ¬ m = 3 ∧ ¬ m = 5 ∧ ¬ m = 8 ∧ ¬ m = 9 ∧ ¬ m = 10 ∧ ¬ m = 11) (hd : bs.drop k = UInt8.ofNat op :: uintF a ++ rest)
    (HO : Hid (∀ w, Calls Try.prog 25 #[.int .u8 (op : Int)] w fun e w' => e = .returned (infM i m) ∧ Step (fun _ => False) w w')) :
    Calls Try.prog 142 #[.pointer (some ⟨X, 0, none⟩)] w fun e w' => e = .returned (.agg #[.int .u8 (op : Int), .int .u64 (a : Int), .int .u64 0, .slice none 0 0]) ∧ Scn w' X S D c bs (k + 1 + (uintF a).length) ∧ Step (fun i => i = X) w w' := by
  have HC : Hid (∀ w, Calls Try.prog 26 #[.int .u8 (op : Int)] w fun e w' => e = .returned (.int .i64 0) ∧ Step (fun _ => False) w w') := fun w => by
    have := check_walk w op hop
    rw [hck] at this
    exact this
  have hxl := h.lt
  have HH := Lib.hid h
  have hlow := h.low
  clear h
  have hone0 : (insA 0 0 0 (.slice none 0 0)).all (·.oneCell') = true := by simp [insA, Value.oneCell']
  go_enter Try.func142, Try.ntmps142
  go_wp2_with fail
  refine (at_walk _ X S D c bs k (HH.out.alloc _)).mono ?_
  rintro e w5 ⟨rfl, hw5⟩
  have HB5 := Lib.hid (Blk.new w 50 (insA 0 0 0 (.slice none 0 0)))
  have HS5 := Lib.hid (HH.out.alloc (.cells (insA 0 0 0 (.slice none 0 0)) 50))
  have HT5 := Lib.hid ((Step.refl (F := fun i => i = X)).alloc (w := w) (.cells (insA 0 0 0 (.slice none 0 0)) 50))
  rw [show w.alloc (.cells (insA 0 0 0 (.slice none 0 0)) 50) = w5 from hw5.symm] at HB5 HS5 HT5
  obtain ⟨R, hR⟩ : ∃ R, R = w.heap.size := ⟨_, rfl⟩
  have hRX : R ≠ X := by omega
  have hRw : w.heap.size ≤ R := by omega
  have hRS : ∀ j, S j → j ≠ R := fun j hj => by have := hlow j hj; omega
  rw [← hR] at HB5 ⊢
  clear hR hxl hw5 HH
  go_wp2_with fail
  refine (byte_at HS5.out hop hd).mono ?_
  rintro e w6 ⟨rfl, hs6, ht6⟩
  obtain ⟨_, _, hd1⟩ := drop_cons hd
  have HB6 := Lib.hid ((HB5.out.step ht6 hRX).alloc (.cells (insA op 0 0 (.slice none 0 0)) 50))
  have HI6 := Lib.hid (Blk.new w6 50 (insA op 0 0 (.slice none 0 0)))
  have HS6 := Lib.hid (hs6.alloc (.cells (insA op 0 0 (.slice none 0 0)) 50))
  have HT6 := Lib.hid ((HT5.out.trans ht6).alloc (.cells (insA op 0 0 (.slice none 0 0)) 50))
  have hRI : R < w6.heap.size := by have := HB5.out.lt; have := ht6.size; omega
  have hXI : X < w6.heap.size := by have := HS5.out.lt; have := ht6.size; omega
  have hIw : w.heap.size ≤ w6.heap.size := (HT5.out.trans ht6).size
  clear hs6 ht6 HB5 HS5 HT5 hd
  obtain ⟨I, hI⟩ : ∃ I, I = w6.heap.size := ⟨_, rfl⟩
  obtain ⟨W, hW⟩ : ∃ W, W = w6.alloc (.cells (insA op 0 0 (.slice none 0 0)) 50) := ⟨_, rfl⟩
  rw [← hI] at HI6 hRI hXI hIw
  have hIS : ∀ j, S j → j ≠ I := fun j hj => by have := hlow j hj; omega
  have hIX : I ≠ X := by omega
  have hRI2 : R ≠ I := by omega
  rw [← hW] at HB6 HI6 HS6 HT6
  have x0 := HI6.out.cell 0
  simp [insA] at x0
  rw [hW] at x0
  rw [hI] at x0
  go_wp2_with fail
  rw [show w6.alloc (.cells #[.int .u8 (op : Int), .int .u64 0, .int .u64 0, .slice none 0 0] 50) = W from hW.symm]
  rw [← hI]
  clear x0 hW hI
  refine (HC.out _).mono ?_
  rintro e w7 ⟨rfl, ht7⟩
  have HB7 := Lib.hid (HB6.out.step ht7 id)
  have HI7 := Lib.hid (HI6.out.step ht7 id)
  have HS7 := Lib.hid (HS6.out.quiet ht7)
  have HT7 := Lib.hid (HT6.out.trans' ht7 (fun _ h => h.elim))
  clear ht7 HB6 HI6 HS6 HT6 HC
  have x0 := HI7.out.cell 0
  simp [insA] at x0
  go_wp2_with fail
  refine (aunless_ok _ _ _).mono ?_
  rintro e w8 ⟨rfl, hw8⟩
  obtain rfl : w7 = w8 := hw8.symm
  go_wp2_with fail
  refine (at_walk _ X S D c bs (k + 1) HS7.out).mono ?_
  rintro e w8 ⟨rfl, hw8⟩
  obtain rfl : w7 = w8 := hw8.symm
  go_wp2_with fail
  refine (HO.out _).mono ?_
  rintro e w8 ⟨rfl, ht8⟩
  have HB8 := Lib.hid (HB7.out.step ht8 id)
  have HI8 := Lib.hid (HI7.out.step ht8 id)
  have HS8 := Lib.hid (HS7.out.quiet ht8)
  have HT8 := Lib.hid (HT7.out.trans' ht8 (fun _ h => h.elim))
  clear ht8 HB7 HI7 HS7 HT7 HO x0
  have hfd := field_imm i m
  simp only [infM]
  have m0 : (m == 0) = false := by simp; omega
  have m1 : (m == 1) = false := by simp; omega
  have m3 : (m == 3) = false := by simp; omega
  have m5 : (m == 5) = false := by simp; omega
  have m8 : (m == 8) = false := by simp; omega
  have m9 : (m == 9) = false := by simp; omega
  have m10 : (m == 10) = false := by simp; omega
  have m11 : (m == 11) = false := by simp; omega
  have hu := IntWalk.u64_in (a : Int) (by omega)
  go_wp2_with fail
  refine (index_at HS8.out ha hd1).mono ?_
  rintro e w9 ⟨rfl, hs, ht⟩
  have HB9 := Lib.hid (HB8.out.step ht hRX)
  have HI9 := Lib.hid (HI8.out.step ht hIX)
  have HS9 := Lib.hid hs
  have HT9 := Lib.hid (HT8.out.trans ht)
  clear hs ht HB8 HI8 HS8 HT8
  have zz10 := HI9.out.frozen 1
  have cc10 := HI9.out.cell 1
  simp [insA] at cc10
  have HI10 : Hid (Blk (w9.setCell ⟨I, 1, none⟩ (.int .u64 (a : Int))) I 50 #[.int .u8 (op : Int), .int .u64 (a : Int), .int .u64 0, .slice none 0 0]) := by
    have hq := HI9.out.set_ 1 ((.int .u64 (a : Int)))
    simp [insA] at hq
    exact hq
  have HB10 := Lib.hid (HB9.out.far (p := ⟨I, 1, none⟩) hRI2 ((.int .u64 (a : Int))))
  have hst10 : Step (fun j => j = I) w9 (w9.setCell ⟨I, 1, none⟩ (.int .u64 (a : Int))) := (Step.refl (F := fun j => j = I)).setCell (p := ⟨I, 1, none⟩) (.inl rfl) _
  have HS10 := Lib.hid (HS9.out.step hst10 (Ne.symm hIX) hIS)
  have HT10 := Lib.hid (HT9.out.setCell (p := ⟨I, 1, none⟩) (.inr hIw) ((.int .u64 (a : Int))))
  have y0 := HI10.out.cell 0
  have y1 := HI10.out.cell 1
  have y2 := HI10.out.cell 2
  have y3 := HI10.out.cell 3
  simp [insA] at y0 y1 y2 y3
  have hone : (#[.int .u8 (op : Int), .int .u64 (a : Int), .int .u64 0, .slice none 0 0] : Array Value).all (·.oneCell') = true := by simp [Value.oneCell']
  have hbl := HB10.out
  go_wp2_with (refine wpList_store_rowTo rfl 50 _ _ rfl rfl R #[.int .u8 (op : Int), .int .u64 (a : Int), .int .u64 0, .slice none 0 0] rfl rfl 50 _ hbl rfl rfl hone ?_)
  have r0 := (hbl.row #[.int .u8 (op : Int), .int .u64 (a : Int), .int .u64 0, .slice none 0 0]).cell 0
  have r1 := (hbl.row #[.int .u8 (op : Int), .int .u64 (a : Int), .int .u64 0, .slice none 0 0]).cell 1
  have r2 := (hbl.row #[.int .u8 (op : Int), .int .u64 (a : Int), .int .u64 0, .slice none 0 0]).cell 2
  have r3 := (hbl.row #[.int .u8 (op : Int), .int .u64 (a : Int), .int .u64 0, .slice none 0 0]).cell 3
  simp at r0 r1 r2 r3
  have hSF := HS10.out.step (Step.setRow (F := fun j => j = R) Step.refl (g := R) (.inl rfl) #[.int .u8 (op : Int), .int .u64 (a : Int), .int .u64 0, .slice none 0 0]) (Ne.symm hRX) hRS
  have hTF := HT10.out.setRow (g := R) (.inr hRw) #[.int .u8 (op : Int), .int .u64 (a : Int), .int .u64 0, .slice none 0 0]
  exact bodyPost_ret (v := .agg #[.int .u8 (op : Int), .int .u64 (a : Int), .int .u64 0, .slice none 0 0]) (by simp [results, Try.results142, go_sem, r0, r1, r2, r3]) rfl ⟨rfl, hSF, hTF⟩

set_option maxRecDepth 100000 in
set_option maxHeartbeats 3200000 in
theorem get_9 (w : World) (X : Nat) (S : Nat → Prop) (D : Option Addr) (c : Nat) (bs : List UInt8) (k : Nat) (h : Scn w X S D c bs k) (op : Nat) (i : Inf) (rest : List UInt8) (hop : op < 256) (hck : chkF op = 0) (hd : bs.drop k = UInt8.ofNat op :: UInt8.ofNat 0 :: rest)
    (HO : Hid (∀ w, Calls Try.prog 25 #[.int .u8 (op : Int)] w fun e w' => e = .returned (infM i 9) ∧ Step (fun _ => False) w w')) :
    Calls Try.prog 142 #[.pointer (some ⟨X, 0, none⟩)] w fun e w' => e = .returned (.agg #[.int .u8 (op : Int), .int .u64 0, .int .u64 0, .slice none 0 0]) ∧ Scn w' X S D c bs (k + 1 + 1) ∧ Step (fun i => i = X) w w' := by
  have HC : Hid (∀ w, Calls Try.prog 26 #[.int .u8 (op : Int)] w fun e w' => e = .returned (.int .i64 0) ∧ Step (fun _ => False) w w') := fun w => by
    have := check_walk w op hop
    rw [hck] at this
    exact this
  have hxl := h.lt
  have HH := Lib.hid h
  have hlow := h.low
  clear h
  have hone0 : (insA 0 0 0 (.slice none 0 0)).all (·.oneCell') = true := by simp [insA, Value.oneCell']
  go_enter Try.func142, Try.ntmps142
  go_wp2_with fail
  refine (at_walk _ X S D c bs k (HH.out.alloc _)).mono ?_
  rintro e w5 ⟨rfl, hw5⟩
  have HB5 := Lib.hid (Blk.new w 50 (insA 0 0 0 (.slice none 0 0)))
  have HS5 := Lib.hid (HH.out.alloc (.cells (insA 0 0 0 (.slice none 0 0)) 50))
  have HT5 := Lib.hid ((Step.refl (F := fun i => i = X)).alloc (w := w) (.cells (insA 0 0 0 (.slice none 0 0)) 50))
  rw [show w.alloc (.cells (insA 0 0 0 (.slice none 0 0)) 50) = w5 from hw5.symm] at HB5 HS5 HT5
  obtain ⟨R, hR⟩ : ∃ R, R = w.heap.size := ⟨_, rfl⟩
  have hRX : R ≠ X := by omega
  have hRw : w.heap.size ≤ R := by omega
  have hRS : ∀ j, S j → j ≠ R := fun j hj => by have := hlow j hj; omega
  rw [← hR] at HB5 ⊢
  clear hR hxl hw5 HH
  go_wp2_with fail
  refine (byte_at HS5.out hop hd).mono ?_
  rintro e w6 ⟨rfl, hs6, ht6⟩
  obtain ⟨_, _, hd1⟩ := drop_cons hd
  have HB6 := Lib.hid ((HB5.out.step ht6 hRX).alloc (.cells (insA op 0 0 (.slice none 0 0)) 50))
  have HI6 := Lib.hid (Blk.new w6 50 (insA op 0 0 (.slice none 0 0)))
  have HS6 := Lib.hid (hs6.alloc (.cells (insA op 0 0 (.slice none 0 0)) 50))
  have HT6 := Lib.hid ((HT5.out.trans ht6).alloc (.cells (insA op 0 0 (.slice none 0 0)) 50))
  have hRI : R < w6.heap.size := by have := HB5.out.lt; have := ht6.size; omega
  have hXI : X < w6.heap.size := by have := HS5.out.lt; have := ht6.size; omega
  have hIw : w.heap.size ≤ w6.heap.size := (HT5.out.trans ht6).size
  clear hs6 ht6 HB5 HS5 HT5 hd
  obtain ⟨I, hI⟩ : ∃ I, I = w6.heap.size := ⟨_, rfl⟩
  obtain ⟨W, hW⟩ : ∃ W, W = w6.alloc (.cells (insA op 0 0 (.slice none 0 0)) 50) := ⟨_, rfl⟩
  rw [← hI] at HI6 hRI hXI hIw
  have hIS : ∀ j, S j → j ≠ I := fun j hj => by have := hlow j hj; omega
  have hIX : I ≠ X := by omega
  have hRI2 : R ≠ I := by omega
  rw [← hW] at HB6 HI6 HS6 HT6
  have x0 := HI6.out.cell 0
  simp [insA] at x0
  rw [hW] at x0
  rw [hI] at x0
  go_wp2_with fail
  rw [show w6.alloc (.cells #[.int .u8 (op : Int), .int .u64 0, .int .u64 0, .slice none 0 0] 50) = W from hW.symm]
  rw [← hI]
  clear x0 hW hI
  refine (HC.out _).mono ?_
  rintro e w7 ⟨rfl, ht7⟩
  have HB7 := Lib.hid (HB6.out.step ht7 id)
  have HI7 := Lib.hid (HI6.out.step ht7 id)
  have HS7 := Lib.hid (HS6.out.quiet ht7)
  have HT7 := Lib.hid (HT6.out.trans' ht7 (fun _ h => h.elim))
  clear ht7 HB6 HI6 HS6 HT6 HC
  have x0 := HI7.out.cell 0
  simp [insA] at x0
  go_wp2_with fail
  refine (aunless_ok _ _ _).mono ?_
  rintro e w8 ⟨rfl, hw8⟩
  obtain rfl : w7 = w8 := hw8.symm
  go_wp2_with fail
  refine (at_walk _ X S D c bs (k + 1) HS7.out).mono ?_
  rintro e w8 ⟨rfl, hw8⟩
  obtain rfl : w7 = w8 := hw8.symm
  go_wp2_with fail
  refine (HO.out _).mono ?_
  rintro e w8 ⟨rfl, ht8⟩
  have HB8 := Lib.hid (HB7.out.step ht8 id)
  have HI8 := Lib.hid (HI7.out.step ht8 id)
  have HS8 := Lib.hid (HS7.out.quiet ht8)
  have HT8 := Lib.hid (HT7.out.trans' ht8 (fun _ h => h.elim))
  clear ht8 HB7 HI7 HS7 HT7 HO x0
  have hfd := field_imm i 9
  simp only [infM]
  go_wp2_with fail
  refine (byte_at (b := 0) HS8.out (by decide) hd1).mono ?_
  rintro e w9 ⟨rfl, hs, ht⟩
  have HB9 := Lib.hid (HB8.out.step ht hRX)
  have HI9 := Lib.hid (HI8.out.step ht hIX)
  have HS9 := Lib.hid hs
  have HT9 := Lib.hid (HT8.out.trans ht)
  clear hs ht HB8 HI8 HS8 HT8
  go_wp2_with fail
  refine (aunless_ok _ _ _).mono ?_
  rintro e wS ⟨rfl, rfl⟩
  have y0 := HI9.out.cell 0
  have y1 := HI9.out.cell 1
  have y2 := HI9.out.cell 2
  have y3 := HI9.out.cell 3
  simp [insA] at y0 y1 y2 y3
  have hone : (#[.int .u8 (op : Int), .int .u64 0, .int .u64 0, .slice none 0 0] : Array Value).all (·.oneCell') = true := by simp [Value.oneCell']
  have hbl := HB9.out
  go_wp2_with (refine wpList_store_rowTo rfl 50 _ _ rfl rfl R #[.int .u8 (op : Int), .int .u64 0, .int .u64 0, .slice none 0 0] rfl rfl 50 _ hbl rfl rfl hone ?_)
  have r0 := (hbl.row #[.int .u8 (op : Int), .int .u64 0, .int .u64 0, .slice none 0 0]).cell 0
  have r1 := (hbl.row #[.int .u8 (op : Int), .int .u64 0, .int .u64 0, .slice none 0 0]).cell 1
  have r2 := (hbl.row #[.int .u8 (op : Int), .int .u64 0, .int .u64 0, .slice none 0 0]).cell 2
  have r3 := (hbl.row #[.int .u8 (op : Int), .int .u64 0, .int .u64 0, .slice none 0 0]).cell 3
  simp at r0 r1 r2 r3
  have hSF := HS9.out.step (Step.setRow (F := fun j => j = R) Step.refl (g := R) (.inl rfl) #[.int .u8 (op : Int), .int .u64 0, .int .u64 0, .slice none 0 0]) (Ne.symm hRX) hRS
  have hTF := HT9.out.setRow (g := R) (.inr hRw) #[.int .u8 (op : Int), .int .u64 0, .int .u64 0, .slice none 0 0]
  exact bodyPost_ret (v := .agg #[.int .u8 (op : Int), .int .u64 0, .int .u64 0, .slice none 0 0]) (by simp [results, Try.results142, go_sem, r0, r1, r2, r3]) rfl ⟨rfl, hSF, hTF⟩

set_option maxRecDepth 100000 in
set_option maxHeartbeats 3200000 in
theorem get_1 (w : World) (X : Nat) (S : Nat → Prop) (D : Option Addr) (c : Nat) (bs : List UInt8) (k : Nat) (h : Scn w X S D c bs k) (op a : Nat) (i : Inf) (rest : List UInt8) (hop : op < 256) (hck : chkF op = 0) (ha : a < 256) (hbk : blkF a = 0) (hd : bs.drop k = UInt8.ofNat op :: UInt8.ofNat a :: rest)
    (HO : Hid (∀ w, Calls Try.prog 25 #[.int .u8 (op : Int)] w fun e w' => e = .returned (infM i 1) ∧ Step (fun _ => False) w w')) :
    Calls Try.prog 142 #[.pointer (some ⟨X, 0, none⟩)] w fun e w' => e = .returned (.agg #[.int .u8 (op : Int), .int .u64 (a : Int), .int .u64 0, .slice none 0 0]) ∧ Scn w' X S D c bs (k + 1 + 1) ∧ Step (fun i => i = X) w w' := by
  have HC : Hid (∀ w, Calls Try.prog 26 #[.int .u8 (op : Int)] w fun e w' => e = .returned (.int .i64 0) ∧ Step (fun _ => False) w w') := fun w => by
    have := check_walk w op hop
    rw [hck] at this
    exact this
  have hxl := h.lt
  have HH := Lib.hid h
  have hlow := h.low
  clear h
  have hone0 : (insA 0 0 0 (.slice none 0 0)).all (·.oneCell') = true := by simp [insA, Value.oneCell']
  go_enter Try.func142, Try.ntmps142
  go_wp2_with fail
  refine (at_walk _ X S D c bs k (HH.out.alloc _)).mono ?_
  rintro e w5 ⟨rfl, hw5⟩
  have HB5 := Lib.hid (Blk.new w 50 (insA 0 0 0 (.slice none 0 0)))
  have HS5 := Lib.hid (HH.out.alloc (.cells (insA 0 0 0 (.slice none 0 0)) 50))
  have HT5 := Lib.hid ((Step.refl (F := fun i => i = X)).alloc (w := w) (.cells (insA 0 0 0 (.slice none 0 0)) 50))
  rw [show w.alloc (.cells (insA 0 0 0 (.slice none 0 0)) 50) = w5 from hw5.symm] at HB5 HS5 HT5
  obtain ⟨R, hR⟩ : ∃ R, R = w.heap.size := ⟨_, rfl⟩
  have hRX : R ≠ X := by omega
  have hRw : w.heap.size ≤ R := by omega
  have hRS : ∀ j, S j → j ≠ R := fun j hj => by have := hlow j hj; omega
  rw [← hR] at HB5 ⊢
  clear hR hxl hw5 HH
  go_wp2_with fail
  refine (byte_at HS5.out hop hd).mono ?_
  rintro e w6 ⟨rfl, hs6, ht6⟩
  obtain ⟨_, _, hd1⟩ := drop_cons hd
  have HB6 := Lib.hid ((HB5.out.step ht6 hRX).alloc (.cells (insA op 0 0 (.slice none 0 0)) 50))
  have HI6 := Lib.hid (Blk.new w6 50 (insA op 0 0 (.slice none 0 0)))
  have HS6 := Lib.hid (hs6.alloc (.cells (insA op 0 0 (.slice none 0 0)) 50))
  have HT6 := Lib.hid ((HT5.out.trans ht6).alloc (.cells (insA op 0 0 (.slice none 0 0)) 50))
  have hRI : R < w6.heap.size := by have := HB5.out.lt; have := ht6.size; omega
  have hXI : X < w6.heap.size := by have := HS5.out.lt; have := ht6.size; omega
  have hIw : w.heap.size ≤ w6.heap.size := (HT5.out.trans ht6).size
  clear hs6 ht6 HB5 HS5 HT5 hd
  obtain ⟨I, hI⟩ : ∃ I, I = w6.heap.size := ⟨_, rfl⟩
  obtain ⟨W, hW⟩ : ∃ W, W = w6.alloc (.cells (insA op 0 0 (.slice none 0 0)) 50) := ⟨_, rfl⟩
  rw [← hI] at HI6 hRI hXI hIw
  have hIS : ∀ j, S j → j ≠ I := fun j hj => by have := hlow j hj; omega
  have hIX : I ≠ X := by omega
  have hRI2 : R ≠ I := by omega
  rw [← hW] at HB6 HI6 HS6 HT6
  have x0 := HI6.out.cell 0
  simp [insA] at x0
  rw [hW] at x0
  rw [hI] at x0
  go_wp2_with fail
  rw [show w6.alloc (.cells #[.int .u8 (op : Int), .int .u64 0, .int .u64 0, .slice none 0 0] 50) = W from hW.symm]
  rw [← hI]
  clear x0 hW hI
  refine (HC.out _).mono ?_
  rintro e w7 ⟨rfl, ht7⟩
  have HB7 := Lib.hid (HB6.out.step ht7 id)
  have HI7 := Lib.hid (HI6.out.step ht7 id)
  have HS7 := Lib.hid (HS6.out.quiet ht7)
  have HT7 := Lib.hid (HT6.out.trans' ht7 (fun _ h => h.elim))
  clear ht7 HB6 HI6 HS6 HT6 HC
  have x0 := HI7.out.cell 0
  simp [insA] at x0
  go_wp2_with fail
  refine (aunless_ok _ _ _).mono ?_
  rintro e w8 ⟨rfl, hw8⟩
  obtain rfl : w7 = w8 := hw8.symm
  go_wp2_with fail
  refine (at_walk _ X S D c bs (k + 1) HS7.out).mono ?_
  rintro e w8 ⟨rfl, hw8⟩
  obtain rfl : w7 = w8 := hw8.symm
  go_wp2_with fail
  refine (HO.out _).mono ?_
  rintro e w8 ⟨rfl, ht8⟩
  have HB8 := Lib.hid (HB7.out.step ht8 id)
  have HI8 := Lib.hid (HI7.out.step ht8 id)
  have HS8 := Lib.hid (HS7.out.quiet ht8)
  have HT8 := Lib.hid (HT7.out.trans' ht8 (fun _ h => h.elim))
  clear ht8 HB7 HI7 HS7 HT7 HO x0
  have hfd := field_imm i 1
  simp only [infM]
  have hu := IntWalk.u64_in (a : Int) (by omega)
  have HBK : Hid (∀ w, Calls Try.prog 153 #[.int .u64 (a : Int)] w fun e w' => e = .returned (.int .i64 0) ∧ w' = w) := fun w => by
    have := block_walk w a
    rw [hbk] at this
    exact this
  go_wp2_with fail
  refine (byte_at HS8.out ha hd1).mono ?_
  rintro e w9 ⟨rfl, hs, ht⟩
  have HB9 := Lib.hid (HB8.out.step ht hRX)
  have HI9 := Lib.hid (HI8.out.step ht hIX)
  have HS9 := Lib.hid hs
  have HT9 := Lib.hid (HT8.out.trans ht)
  clear hs ht HB8 HI8 HS8 HT8
  have zz10 := HI9.out.frozen 1
  have cc10 := HI9.out.cell 1
  simp [insA] at cc10
  have HI10 : Hid (Blk (w9.setCell ⟨I, 1, none⟩ (.int .u64 (a : Int))) I 50 #[.int .u8 (op : Int), .int .u64 (a : Int), .int .u64 0, .slice none 0 0]) := by
    have hq := HI9.out.set_ 1 ((.int .u64 (a : Int)))
    simp [insA] at hq
    exact hq
  have HB10 := Lib.hid (HB9.out.far (p := ⟨I, 1, none⟩) hRI2 ((.int .u64 (a : Int))))
  have hst10 : Step (fun j => j = I) w9 (w9.setCell ⟨I, 1, none⟩ (.int .u64 (a : Int))) := (Step.refl (F := fun j => j = I)).setCell (p := ⟨I, 1, none⟩) (.inl rfl) _
  have HS10 := Lib.hid (HS9.out.step hst10 (Ne.symm hIX) hIS)
  have HT10 := Lib.hid (HT9.out.setCell (p := ⟨I, 1, none⟩) (.inr hIw) ((.int .u64 (a : Int))))
  have y0 := HI10.out.cell 0
  have y1 := HI10.out.cell 1
  have y2 := HI10.out.cell 2
  have y3 := HI10.out.cell 3
  simp [insA] at y0 y1 y2 y3
  go_wp2_with fail
  refine (HBK.out _).mono ?_
  rintro e wS ⟨rfl, rfl⟩
  go_wp2_with fail
  refine (aunless_ok _ _ _).mono ?_
  rintro e wS ⟨rfl, rfl⟩
  have y0 := HI10.out.cell 0
  have y1 := HI10.out.cell 1
  have y2 := HI10.out.cell 2
  have y3 := HI10.out.cell 3
  simp [insA] at y0 y1 y2 y3
  have hone : (#[.int .u8 (op : Int), .int .u64 (a : Int), .int .u64 0, .slice none 0 0] : Array Value).all (·.oneCell') = true := by simp [Value.oneCell']
  have hbl := HB10.out
  go_wp2_with (refine wpList_store_rowTo rfl 50 _ _ rfl rfl R #[.int .u8 (op : Int), .int .u64 (a : Int), .int .u64 0, .slice none 0 0] rfl rfl 50 _ hbl rfl rfl hone ?_)
  have r0 := (hbl.row #[.int .u8 (op : Int), .int .u64 (a : Int), .int .u64 0, .slice none 0 0]).cell 0
  have r1 := (hbl.row #[.int .u8 (op : Int), .int .u64 (a : Int), .int .u64 0, .slice none 0 0]).cell 1
  have r2 := (hbl.row #[.int .u8 (op : Int), .int .u64 (a : Int), .int .u64 0, .slice none 0 0]).cell 2
  have r3 := (hbl.row #[.int .u8 (op : Int), .int .u64 (a : Int), .int .u64 0, .slice none 0 0]).cell 3
  simp at r0 r1 r2 r3
  have hSF := HS10.out.step (Step.setRow (F := fun j => j = R) Step.refl (g := R) (.inl rfl) #[.int .u8 (op : Int), .int .u64 (a : Int), .int .u64 0, .slice none 0 0]) (Ne.symm hRX) hRS
  have hTF := HT10.out.setRow (g := R) (.inr hRw) #[.int .u8 (op : Int), .int .u64 (a : Int), .int .u64 0, .slice none 0 0]
  exact bodyPost_ret (v := .agg #[.int .u8 (op : Int), .int .u64 (a : Int), .int .u64 0, .slice none 0 0]) (by simp [results, Try.results142, go_sem, r0, r1, r2, r3]) rfl ⟨rfl, hSF, hTF⟩

set_option maxRecDepth 100000 in
set_option maxHeartbeats 3200000 in
theorem get_5 (w : World) (X : Nat) (S : Nat → Prop) (D : Option Addr) (c : Nat) (bs : List UInt8) (k : Nat) (h : Scn w X S D c bs k) (op a : Nat) (i : Inf) (rest : List UInt8) (hop : op < 256) (hck : chkF op = 0) (ha : a < 4294967296) (hd : bs.drop k = UInt8.ofNat op :: uintF a ++ UInt8.ofNat 0 :: rest)
    (HO : Hid (∀ w, Calls Try.prog 25 #[.int .u8 (op : Int)] w fun e w' => e = .returned (infM i 5) ∧ Step (fun _ => False) w w')) :
    Calls Try.prog 142 #[.pointer (some ⟨X, 0, none⟩)] w fun e w' => e = .returned (.agg #[.int .u8 (op : Int), .int .u64 (a : Int), .int .u64 0, .slice none 0 0]) ∧ Scn w' X S D c bs (k + 1 + (uintF a).length + 1) ∧ Step (fun i => i = X) w w' := by
  have HC : Hid (∀ w, Calls Try.prog 26 #[.int .u8 (op : Int)] w fun e w' => e = .returned (.int .i64 0) ∧ Step (fun _ => False) w w') := fun w => by
    have := check_walk w op hop
    rw [hck] at this
    exact this
  have hxl := h.lt
  have HH := Lib.hid h
  have hlow := h.low
  clear h
  have hone0 : (insA 0 0 0 (.slice none 0 0)).all (·.oneCell') = true := by simp [insA, Value.oneCell']
  go_enter Try.func142, Try.ntmps142
  go_wp2_with fail
  refine (at_walk _ X S D c bs k (HH.out.alloc _)).mono ?_
  rintro e w5 ⟨rfl, hw5⟩
  have HB5 := Lib.hid (Blk.new w 50 (insA 0 0 0 (.slice none 0 0)))
  have HS5 := Lib.hid (HH.out.alloc (.cells (insA 0 0 0 (.slice none 0 0)) 50))
  have HT5 := Lib.hid ((Step.refl (F := fun i => i = X)).alloc (w := w) (.cells (insA 0 0 0 (.slice none 0 0)) 50))
  rw [show w.alloc (.cells (insA 0 0 0 (.slice none 0 0)) 50) = w5 from hw5.symm] at HB5 HS5 HT5
  obtain ⟨R, hR⟩ : ∃ R, R = w.heap.size := ⟨_, rfl⟩
  have hRX : R ≠ X := by omega
  have hRw : w.heap.size ≤ R := by omega
  have hRS : ∀ j, S j → j ≠ R := fun j hj => by have := hlow j hj; omega
  rw [← hR] at HB5 ⊢
  clear hR hxl hw5 HH
  go_wp2_with fail
  refine (byte_at HS5.out hop hd).mono ?_
  rintro e w6 ⟨rfl, hs6, ht6⟩
  obtain ⟨_, _, hd1⟩ := drop_cons hd
  have HB6 := Lib.hid ((HB5.out.step ht6 hRX).alloc (.cells (insA op 0 0 (.slice none 0 0)) 50))
  have HI6 := Lib.hid (Blk.new w6 50 (insA op 0 0 (.slice none 0 0)))
  have HS6 := Lib.hid (hs6.alloc (.cells (insA op 0 0 (.slice none 0 0)) 50))
  have HT6 := Lib.hid ((HT5.out.trans ht6).alloc (.cells (insA op 0 0 (.slice none 0 0)) 50))
  have hRI : R < w6.heap.size := by have := HB5.out.lt; have := ht6.size; omega
  have hXI : X < w6.heap.size := by have := HS5.out.lt; have := ht6.size; omega
  have hIw : w.heap.size ≤ w6.heap.size := (HT5.out.trans ht6).size
  clear hs6 ht6 HB5 HS5 HT5 hd
  obtain ⟨I, hI⟩ : ∃ I, I = w6.heap.size := ⟨_, rfl⟩
  obtain ⟨W, hW⟩ : ∃ W, W = w6.alloc (.cells (insA op 0 0 (.slice none 0 0)) 50) := ⟨_, rfl⟩
  rw [← hI] at HI6 hRI hXI hIw
  have hIS : ∀ j, S j → j ≠ I := fun j hj => by have := hlow j hj; omega
  have hIX : I ≠ X := by omega
  have hRI2 : R ≠ I := by omega
  rw [← hW] at HB6 HI6 HS6 HT6
  have x0 := HI6.out.cell 0
  simp [insA] at x0
  rw [hW] at x0
  rw [hI] at x0
  go_wp2_with fail
  rw [show w6.alloc (.cells #[.int .u8 (op : Int), .int .u64 0, .int .u64 0, .slice none 0 0] 50) = W from hW.symm]
  rw [← hI]
  clear x0 hW hI
  refine (HC.out _).mono ?_
  rintro e w7 ⟨rfl, ht7⟩
  have HB7 := Lib.hid (HB6.out.step ht7 id)
  have HI7 := Lib.hid (HI6.out.step ht7 id)
  have HS7 := Lib.hid (HS6.out.quiet ht7)
  have HT7 := Lib.hid (HT6.out.trans' ht7 (fun _ h => h.elim))
  clear ht7 HB6 HI6 HS6 HT6 HC
  have x0 := HI7.out.cell 0
  simp [insA] at x0
  go_wp2_with fail
  refine (aunless_ok _ _ _).mono ?_
  rintro e w8 ⟨rfl, hw8⟩
  obtain rfl : w7 = w8 := hw8.symm
  go_wp2_with fail
  refine (at_walk _ X S D c bs (k + 1) HS7.out).mono ?_
  rintro e w8 ⟨rfl, hw8⟩
  obtain rfl : w7 = w8 := hw8.symm
  go_wp2_with fail
  refine (HO.out _).mono ?_
  rintro e w8 ⟨rfl, ht8⟩
  have HB8 := Lib.hid (HB7.out.step ht8 id)
  have HI8 := Lib.hid (HI7.out.step ht8 id)
  have HS8 := Lib.hid (HS7.out.quiet ht8)
  have HT8 := Lib.hid (HT7.out.trans' ht8 (fun _ h => h.elim))
  clear ht8 HB7 HI7 HS7 HT7 HO x0
  have hfd := field_imm i 5
  simp only [infM]
  have hu := IntWalk.u64_in (a : Int) (by omega)
  have hd2 := drop_app hd1
  go_wp2_with fail
  refine (index_at HS8.out ha hd1).mono ?_
  rintro e w9 ⟨rfl, hs, ht⟩
  have HB9 := Lib.hid (HB8.out.step ht hRX)
  have HI9 := Lib.hid (HI8.out.step ht hIX)
  have HS9 := Lib.hid hs
  have HT9 := Lib.hid (HT8.out.trans ht)
  clear hs ht HB8 HI8 HS8 HT8
  have zz10 := HI9.out.frozen 1
  have cc10 := HI9.out.cell 1
  simp [insA] at cc10
  have HI10 : Hid (Blk (w9.setCell ⟨I, 1, none⟩ (.int .u64 (a : Int))) I 50 #[.int .u8 (op : Int), .int .u64 (a : Int), .int .u64 0, .slice none 0 0]) := by
    have hq := HI9.out.set_ 1 ((.int .u64 (a : Int)))
    simp [insA] at hq
    exact hq
  have HB10 := Lib.hid (HB9.out.far (p := ⟨I, 1, none⟩) hRI2 ((.int .u64 (a : Int))))
  have hst10 : Step (fun j => j = I) w9 (w9.setCell ⟨I, 1, none⟩ (.int .u64 (a : Int))) := (Step.refl (F := fun j => j = I)).setCell (p := ⟨I, 1, none⟩) (.inl rfl) _
  have HS10 := Lib.hid (HS9.out.step hst10 (Ne.symm hIX) hIS)
  have HT10 := Lib.hid (HT9.out.setCell (p := ⟨I, 1, none⟩) (.inr hIw) ((.int .u64 (a : Int))))
  go_wp2_with fail
  refine (at_walk _ X S D c bs _ HS10.out).mono ?_
  rintro e wS ⟨rfl, rfl⟩
  go_wp2_with fail
  refine (byte_at (b := 0) HS10.out (by decide) hd2).mono ?_
  rintro e w11 ⟨rfl, hs, ht⟩
  have HB11 := Lib.hid (HB10.out.step ht hRX)
  have HI11 := Lib.hid (HI10.out.step ht hIX)
  have HS11 := Lib.hid hs
  have HT11 := Lib.hid (HT10.out.trans ht)
  clear hs ht HB10 HI10 HS10 HT10
  go_wp2_with fail
  refine (aunless_ok _ _ _).mono ?_
  rintro e wS ⟨rfl, rfl⟩
  have y0 := HI11.out.cell 0
  have y1 := HI11.out.cell 1
  have y2 := HI11.out.cell 2
  have y3 := HI11.out.cell 3
  simp [insA] at y0 y1 y2 y3
  have hone : (#[.int .u8 (op : Int), .int .u64 (a : Int), .int .u64 0, .slice none 0 0] : Array Value).all (·.oneCell') = true := by simp [Value.oneCell']
  have hbl := HB11.out
  go_wp2_with (refine wpList_store_rowTo rfl 50 _ _ rfl rfl R #[.int .u8 (op : Int), .int .u64 (a : Int), .int .u64 0, .slice none 0 0] rfl rfl 50 _ hbl rfl rfl hone ?_)
  have r0 := (hbl.row #[.int .u8 (op : Int), .int .u64 (a : Int), .int .u64 0, .slice none 0 0]).cell 0
  have r1 := (hbl.row #[.int .u8 (op : Int), .int .u64 (a : Int), .int .u64 0, .slice none 0 0]).cell 1
  have r2 := (hbl.row #[.int .u8 (op : Int), .int .u64 (a : Int), .int .u64 0, .slice none 0 0]).cell 2
  have r3 := (hbl.row #[.int .u8 (op : Int), .int .u64 (a : Int), .int .u64 0, .slice none 0 0]).cell 3
  simp at r0 r1 r2 r3
  have hSF := HS11.out.step (Step.setRow (F := fun j => j = R) Step.refl (g := R) (.inl rfl) #[.int .u8 (op : Int), .int .u64 (a : Int), .int .u64 0, .slice none 0 0]) (Ne.symm hRX) hRS
  have hTF := HT11.out.setRow (g := R) (.inr hRw) #[.int .u8 (op : Int), .int .u64 (a : Int), .int .u64 0, .slice none 0 0]
  exact bodyPost_ret (v := .agg #[.int .u8 (op : Int), .int .u64 (a : Int), .int .u64 0, .slice none 0 0]) (by simp [results, Try.results142, go_sem, r0, r1, r2, r3]) rfl ⟨rfl, hSF, hTF⟩

set_option maxRecDepth 100000 in
set_option maxHeartbeats 3200000 in
theorem get_8 (w : World) (X : Nat) (S : Nat → Prop) (D : Option Addr) (c : Nat) (bs : List UInt8) (k : Nat) (h : Scn w X S D c bs k) (op a b : Nat) (i : Inf) (rest : List UInt8) (hop : op < 256) (hck : chkF op = 0) (ha : a < 4294967296) (hb : b < 4294967296) (hd : bs.drop k = UInt8.ofNat op :: uintF a ++ (uintF b ++ rest))
    (HO : Hid (∀ w, Calls Try.prog 25 #[.int .u8 (op : Int)] w fun e w' => e = .returned (infM i 8) ∧ Step (fun _ => False) w w')) :
    Calls Try.prog 142 #[.pointer (some ⟨X, 0, none⟩)] w fun e w' => e = .returned (.agg #[.int .u8 (op : Int), .int .u64 (a : Int), .int .u64 (b : Int), .slice none 0 0]) ∧ Scn w' X S D c bs (k + 1 + (uintF a).length + (uintF b).length) ∧ Step (fun i => i = X) w w' := by
  have HC : Hid (∀ w, Calls Try.prog 26 #[.int .u8 (op : Int)] w fun e w' => e = .returned (.int .i64 0) ∧ Step (fun _ => False) w w') := fun w => by
    have := check_walk w op hop
    rw [hck] at this
    exact this
  have hxl := h.lt
  have HH := Lib.hid h
  have hlow := h.low
  clear h
  have hone0 : (insA 0 0 0 (.slice none 0 0)).all (·.oneCell') = true := by simp [insA, Value.oneCell']
  go_enter Try.func142, Try.ntmps142
  go_wp2_with fail
  refine (at_walk _ X S D c bs k (HH.out.alloc _)).mono ?_
  rintro e w5 ⟨rfl, hw5⟩
  have HB5 := Lib.hid (Blk.new w 50 (insA 0 0 0 (.slice none 0 0)))
  have HS5 := Lib.hid (HH.out.alloc (.cells (insA 0 0 0 (.slice none 0 0)) 50))
  have HT5 := Lib.hid ((Step.refl (F := fun i => i = X)).alloc (w := w) (.cells (insA 0 0 0 (.slice none 0 0)) 50))
  rw [show w.alloc (.cells (insA 0 0 0 (.slice none 0 0)) 50) = w5 from hw5.symm] at HB5 HS5 HT5
  obtain ⟨R, hR⟩ : ∃ R, R = w.heap.size := ⟨_, rfl⟩
  have hRX : R ≠ X := by omega
  have hRw : w.heap.size ≤ R := by omega
  have hRS : ∀ j, S j → j ≠ R := fun j hj => by have := hlow j hj; omega
  rw [← hR] at HB5 ⊢
  clear hR hxl hw5 HH
  go_wp2_with fail
  refine (byte_at HS5.out hop hd).mono ?_
  rintro e w6 ⟨rfl, hs6, ht6⟩
  obtain ⟨_, _, hd1⟩ := drop_cons hd
  have HB6 := Lib.hid ((HB5.out.step ht6 hRX).alloc (.cells (insA op 0 0 (.slice none 0 0)) 50))
  have HI6 := Lib.hid (Blk.new w6 50 (insA op 0 0 (.slice none 0 0)))
  have HS6 := Lib.hid (hs6.alloc (.cells (insA op 0 0 (.slice none 0 0)) 50))
  have HT6 := Lib.hid ((HT5.out.trans ht6).alloc (.cells (insA op 0 0 (.slice none 0 0)) 50))
  have hRI : R < w6.heap.size := by have := HB5.out.lt; have := ht6.size; omega
  have hXI : X < w6.heap.size := by have := HS5.out.lt; have := ht6.size; omega
  have hIw : w.heap.size ≤ w6.heap.size := (HT5.out.trans ht6).size
  clear hs6 ht6 HB5 HS5 HT5 hd
  obtain ⟨I, hI⟩ : ∃ I, I = w6.heap.size := ⟨_, rfl⟩
  obtain ⟨W, hW⟩ : ∃ W, W = w6.alloc (.cells (insA op 0 0 (.slice none 0 0)) 50) := ⟨_, rfl⟩
  rw [← hI] at HI6 hRI hXI hIw
  have hIS : ∀ j, S j → j ≠ I := fun j hj => by have := hlow j hj; omega
  have hIX : I ≠ X := by omega
  have hRI2 : R ≠ I := by omega
  rw [← hW] at HB6 HI6 HS6 HT6
  have x0 := HI6.out.cell 0
  simp [insA] at x0
  rw [hW] at x0
  rw [hI] at x0
  go_wp2_with fail
  rw [show w6.alloc (.cells #[.int .u8 (op : Int), .int .u64 0, .int .u64 0, .slice none 0 0] 50) = W from hW.symm]
  rw [← hI]
  clear x0 hW hI
  refine (HC.out _).mono ?_
  rintro e w7 ⟨rfl, ht7⟩
  have HB7 := Lib.hid (HB6.out.step ht7 id)
  have HI7 := Lib.hid (HI6.out.step ht7 id)
  have HS7 := Lib.hid (HS6.out.quiet ht7)
  have HT7 := Lib.hid (HT6.out.trans' ht7 (fun _ h => h.elim))
  clear ht7 HB6 HI6 HS6 HT6 HC
  have x0 := HI7.out.cell 0
  simp [insA] at x0
  go_wp2_with fail
  refine (aunless_ok _ _ _).mono ?_
  rintro e w8 ⟨rfl, hw8⟩
  obtain rfl : w7 = w8 := hw8.symm
  go_wp2_with fail
  refine (at_walk _ X S D c bs (k + 1) HS7.out).mono ?_
  rintro e w8 ⟨rfl, hw8⟩
  obtain rfl : w7 = w8 := hw8.symm
  go_wp2_with fail
  refine (HO.out _).mono ?_
  rintro e w8 ⟨rfl, ht8⟩
  have HB8 := Lib.hid (HB7.out.step ht8 id)
  have HI8 := Lib.hid (HI7.out.step ht8 id)
  have HS8 := Lib.hid (HS7.out.quiet ht8)
  have HT8 := Lib.hid (HT7.out.trans' ht8 (fun _ h => h.elim))
  clear ht8 HB7 HI7 HS7 HT7 HO x0
  have hfd := field_imm i 8
  simp only [infM]
  have hu := IntWalk.u64_in (a : Int) (by omega)
  have hu2 := IntWalk.u64_in (b : Int) (by omega)
  have hd2 := drop_app hd1
  go_wp2_with fail
  refine (index_at HS8.out ha hd1).mono ?_
  rintro e w9 ⟨rfl, hs, ht⟩
  have HB9 := Lib.hid (HB8.out.step ht hRX)
  have HI9 := Lib.hid (HI8.out.step ht hIX)
  have HS9 := Lib.hid hs
  have HT9 := Lib.hid (HT8.out.trans ht)
  clear hs ht HB8 HI8 HS8 HT8
  go_wp2_with fail
  refine (index_at HS9.out hb hd2).mono ?_
  rintro e w10 ⟨rfl, hs, ht⟩
  have HB10 := Lib.hid (HB9.out.step ht hRX)
  have HI10 := Lib.hid (HI9.out.step ht hIX)
  have HS10 := Lib.hid hs
  have HT10 := Lib.hid (HT9.out.trans ht)
  clear hs ht HB9 HI9 HS9 HT9
  have zz11 := HI10.out.frozen 1
  have cc11 := HI10.out.cell 1
  simp [insA] at cc11
  have HI11 : Hid (Blk (w10.setCell ⟨I, 1, none⟩ (.int .u64 (a : Int))) I 50 #[.int .u8 (op : Int), .int .u64 (a : Int), .int .u64 0, .slice none 0 0]) := by
    have hq := HI10.out.set_ 1 ((.int .u64 (a : Int)))
    simp [insA] at hq
    exact hq
  have HB11 := Lib.hid (HB10.out.far (p := ⟨I, 1, none⟩) hRI2 ((.int .u64 (a : Int))))
  have hst11 : Step (fun j => j = I) w10 (w10.setCell ⟨I, 1, none⟩ (.int .u64 (a : Int))) := (Step.refl (F := fun j => j = I)).setCell (p := ⟨I, 1, none⟩) (.inl rfl) _
  have HS11 := Lib.hid (HS10.out.step hst11 (Ne.symm hIX) hIS)
  have HT11 := Lib.hid (HT10.out.setCell (p := ⟨I, 1, none⟩) (.inr hIw) ((.int .u64 (a : Int))))
  have zz12 := HI11.out.frozen 2
  have cc12 := HI11.out.cell 2
  simp at cc12
  have HI12 : Hid (Blk ((w10.setCell ⟨I, 1, none⟩ (.int .u64 (a : Int))).setCell ⟨I, 2, none⟩ (.int .u64 (b : Int))) I 50 #[.int .u8 (op : Int), .int .u64 (a : Int), .int .u64 (b : Int), .slice none 0 0]) := by
    have hq := HI11.out.set_ 2 (.int .u64 (b : Int))
    simp at hq
    exact hq
  have HB12 := Lib.hid (HB11.out.far (p := ⟨I, 2, none⟩) hRI2 (.int .u64 (b : Int)))
  have hst12 : Step (fun j => j = I) (w10.setCell ⟨I, 1, none⟩ (.int .u64 (a : Int))) ((w10.setCell ⟨I, 1, none⟩ (.int .u64 (a : Int))).setCell ⟨I, 2, none⟩ (.int .u64 (b : Int))) := (Step.refl (F := fun j => j = I)).setCell (p := ⟨I, 2, none⟩) (.inl rfl) _
  have HS12 := Lib.hid (HS11.out.step hst12 (Ne.symm hIX) hIS)
  have HT12 := Lib.hid (HT11.out.setCell (p := ⟨I, 2, none⟩) (.inr hIw) (.int .u64 (b : Int)))
  have y0 := HI12.out.cell 0
  have y1 := HI12.out.cell 1
  have y2 := HI12.out.cell 2
  have y3 := HI12.out.cell 3
  simp [insA] at y0 y1 y2 y3
  have hone : (#[.int .u8 (op : Int), .int .u64 (a : Int), .int .u64 (b : Int), .slice none 0 0] : Array Value).all (·.oneCell') = true := by simp [Value.oneCell']
  have hbl := HB12.out
  go_wp2_with (refine wpList_store_rowTo rfl 50 _ _ rfl rfl R #[.int .u8 (op : Int), .int .u64 (a : Int), .int .u64 (b : Int), .slice none 0 0] rfl rfl 50 _ hbl rfl rfl hone ?_)
  have r0 := (hbl.row #[.int .u8 (op : Int), .int .u64 (a : Int), .int .u64 (b : Int), .slice none 0 0]).cell 0
  have r1 := (hbl.row #[.int .u8 (op : Int), .int .u64 (a : Int), .int .u64 (b : Int), .slice none 0 0]).cell 1
  have r2 := (hbl.row #[.int .u8 (op : Int), .int .u64 (a : Int), .int .u64 (b : Int), .slice none 0 0]).cell 2
  have r3 := (hbl.row #[.int .u8 (op : Int), .int .u64 (a : Int), .int .u64 (b : Int), .slice none 0 0]).cell 3
  simp at r0 r1 r2 r3
  have hSF := HS12.out.step (Step.setRow (F := fun j => j = R) Step.refl (g := R) (.inl rfl) #[.int .u8 (op : Int), .int .u64 (a : Int), .int .u64 (b : Int), .slice none 0 0]) (Ne.symm hRX) hRS
  have hTF := HT12.out.setRow (g := R) (.inr hRw) #[.int .u8 (op : Int), .int .u64 (a : Int), .int .u64 (b : Int), .slice none 0 0]
  exact bodyPost_ret (v := .agg #[.int .u8 (op : Int), .int .u64 (a : Int), .int .u64 (b : Int), .slice none 0 0]) (by simp [results, Try.results142, go_sem, r0, r1, r2, r3]) rfl ⟨rfl, hSF, hTF⟩

theorem s32_in (a : Nat) (h : a < 4294967296) : (-2147483648 ≤ s32 a ∧ s32 a ≤ 2147483647) ∧ IntKind.u32.wrap (s32 a) = (a : Int) := by
  rw [IntKind.wrap_u32', s32]
  split <;> omega
theorem s64_in (a : Nat) (h : a < 18446744073709551616) : (-9223372036854775808 ≤ s64 a ∧ s64 a ≤ 9223372036854775807) ∧ IntKind.u64.wrap (s64 a) = (a : Int) := by
  rw [IntKind.wrap_u64, s64]
  split <;> omega

set_option maxRecDepth 100000 in
set_option maxHeartbeats 3200000 in
theorem get_10 (w : World) (X : Nat) (S : Nat → Prop) (D : Option Addr) (c : Nat) (bs : List UInt8) (k : Nat) (h : Scn w X S D c bs k) (op a : Nat) (i : Inf) (rest : List UInt8) (hop : op < 256) (hck : chkF op = 0) (ha : a < 4294967296) (v : Int) (hs1 : -2147483648 ≤ v ∧ v ≤ 2147483647) (hs2 : IntKind.u32.wrap v = (a : Int)) (hd : bs.drop k = UInt8.ofNat op :: intF v ++ rest)
    (HO : Hid (∀ w, Calls Try.prog 25 #[.int .u8 (op : Int)] w fun e w' => e = .returned (infM i 10) ∧ Step (fun _ => False) w w')) :
    Calls Try.prog 142 #[.pointer (some ⟨X, 0, none⟩)] w fun e w' => e = .returned (.agg #[.int .u8 (op : Int), .int .u64 (a : Int), .int .u64 0, .slice none 0 0]) ∧ Scn w' X S D c bs (k + 1 + (intF v).length) ∧ Step (fun i => i = X) w w' := by
  have HC : Hid (∀ w, Calls Try.prog 26 #[.int .u8 (op : Int)] w fun e w' => e = .returned (.int .i64 0) ∧ Step (fun _ => False) w w') := fun w => by
    have := check_walk w op hop
    rw [hck] at this
    exact this
  have hxl := h.lt
  have HH := Lib.hid h
  have hlow := h.low
  clear h
  have hone0 : (insA 0 0 0 (.slice none 0 0)).all (·.oneCell') = true := by simp [insA, Value.oneCell']
  go_enter Try.func142, Try.ntmps142
  go_wp2_with fail
  refine (at_walk _ X S D c bs k (HH.out.alloc _)).mono ?_
  rintro e w5 ⟨rfl, hw5⟩
  have HB5 := Lib.hid (Blk.new w 50 (insA 0 0 0 (.slice none 0 0)))
  have HS5 := Lib.hid (HH.out.alloc (.cells (insA 0 0 0 (.slice none 0 0)) 50))
  have HT5 := Lib.hid ((Step.refl (F := fun i => i = X)).alloc (w := w) (.cells (insA 0 0 0 (.slice none 0 0)) 50))
  rw [show w.alloc (.cells (insA 0 0 0 (.slice none 0 0)) 50) = w5 from hw5.symm] at HB5 HS5 HT5
  obtain ⟨R, hR⟩ : ∃ R, R = w.heap.size := ⟨_, rfl⟩
  have hRX : R ≠ X := by omega
  have hRw : w.heap.size ≤ R := by omega
  have hRS : ∀ j, S j → j ≠ R := fun j hj => by have := hlow j hj; omega
  rw [← hR] at HB5 ⊢
  clear hR hxl hw5 HH
  go_wp2_with fail
  refine (byte_at HS5.out hop hd).mono ?_
  rintro e w6 ⟨rfl, hs6, ht6⟩
  obtain ⟨_, _, hd1⟩ := drop_cons hd
  have HB6 := Lib.hid ((HB5.out.step ht6 hRX).alloc (.cells (insA op 0 0 (.slice none 0 0)) 50))
  have HI6 := Lib.hid (Blk.new w6 50 (insA op 0 0 (.slice none 0 0)))
  have HS6 := Lib.hid (hs6.alloc (.cells (insA op 0 0 (.slice none 0 0)) 50))
  have HT6 := Lib.hid ((HT5.out.trans ht6).alloc (.cells (insA op 0 0 (.slice none 0 0)) 50))
  have hRI : R < w6.heap.size := by have := HB5.out.lt; have := ht6.size; omega
  have hXI : X < w6.heap.size := by have := HS5.out.lt; have := ht6.size; omega
  have hIw : w.heap.size ≤ w6.heap.size := (HT5.out.trans ht6).size
  clear hs6 ht6 HB5 HS5 HT5 hd
  obtain ⟨I, hI⟩ : ∃ I, I = w6.heap.size := ⟨_, rfl⟩
  obtain ⟨W, hW⟩ : ∃ W, W = w6.alloc (.cells (insA op 0 0 (.slice none 0 0)) 50) := ⟨_, rfl⟩
  rw [← hI] at HI6 hRI hXI hIw
  have hIS : ∀ j, S j → j ≠ I := fun j hj => by have := hlow j hj; omega
  have hIX : I ≠ X := by omega
  have hRI2 : R ≠ I := by omega
  rw [← hW] at HB6 HI6 HS6 HT6
  have x0 := HI6.out.cell 0
  simp [insA] at x0
  rw [hW] at x0
  rw [hI] at x0
  go_wp2_with fail
  rw [show w6.alloc (.cells #[.int .u8 (op : Int), .int .u64 0, .int .u64 0, .slice none 0 0] 50) = W from hW.symm]
  rw [← hI]
  clear x0 hW hI
  refine (HC.out _).mono ?_
  rintro e w7 ⟨rfl, ht7⟩
  have HB7 := Lib.hid (HB6.out.step ht7 id)
  have HI7 := Lib.hid (HI6.out.step ht7 id)
  have HS7 := Lib.hid (HS6.out.quiet ht7)
  have HT7 := Lib.hid (HT6.out.trans' ht7 (fun _ h => h.elim))
  clear ht7 HB6 HI6 HS6 HT6 HC
  have x0 := HI7.out.cell 0
  simp [insA] at x0
  go_wp2_with fail
  refine (aunless_ok _ _ _).mono ?_
  rintro e w8 ⟨rfl, hw8⟩
  obtain rfl : w7 = w8 := hw8.symm
  go_wp2_with fail
  refine (at_walk _ X S D c bs (k + 1) HS7.out).mono ?_
  rintro e w8 ⟨rfl, hw8⟩
  obtain rfl : w7 = w8 := hw8.symm
  go_wp2_with fail
  refine (HO.out _).mono ?_
  rintro e w8 ⟨rfl, ht8⟩
  have HB8 := Lib.hid (HB7.out.step ht8 id)
  have HI8 := Lib.hid (HI7.out.step ht8 id)
  have HS8 := Lib.hid (HS7.out.quiet ht8)
  have HT8 := Lib.hid (HT7.out.trans' ht8 (fun _ h => h.elim))
  clear ht8 HB7 HI7 HS7 HT7 HO x0
  have hfd := field_imm i 10
  simp only [infM]
  have hrd : Hid (rdS 5 8 15 (bs.drop (k + 1)) = (v, (intF v).length, 0)) := by rw [Hid, hd1]; exact (rdS_back32 v rest hs1).1
  have hu := IntWalk.u64_in (a : Int) (by omega)
  clear hs1 hd1
  go_wp2_with fail
  refine (int32_ok _ X S D c bs _ HS8.out v _ hrd.out).mono ?_
  rintro e w9 ⟨rfl, hs, ht⟩
  have HB9 := Lib.hid (HB8.out.step ht hRX)
  have HI9 := Lib.hid (HI8.out.step ht hIX)
  have HS9 := Lib.hid hs
  have HT9 := Lib.hid (HT8.out.trans ht)
  clear hs ht HB8 HI8 HS8 HT8
  have zz10 := HI9.out.frozen 1
  have cc10 := HI9.out.cell 1
  simp [insA] at cc10
  have HI10 : Hid (Blk (w9.setCell ⟨I, 1, none⟩ (.int .u64 (a : Int))) I 50 #[.int .u8 (op : Int), .int .u64 (a : Int), .int .u64 0, .slice none 0 0]) := by
    have hq := HI9.out.set_ 1 ((.int .u64 (a : Int)))
    simp [insA] at hq
    exact hq
  have HB10 := Lib.hid (HB9.out.far (p := ⟨I, 1, none⟩) hRI2 ((.int .u64 (a : Int))))
  have hst10 : Step (fun j => j = I) w9 (w9.setCell ⟨I, 1, none⟩ (.int .u64 (a : Int))) := (Step.refl (F := fun j => j = I)).setCell (p := ⟨I, 1, none⟩) (.inl rfl) _
  have HS10 := Lib.hid (HS9.out.step hst10 (Ne.symm hIX) hIS)
  have HT10 := Lib.hid (HT9.out.setCell (p := ⟨I, 1, none⟩) (.inr hIw) ((.int .u64 (a : Int))))
  have y0 := HI10.out.cell 0
  have y1 := HI10.out.cell 1
  have y2 := HI10.out.cell 2
  have y3 := HI10.out.cell 3
  simp [insA] at y0 y1 y2 y3
  have hone : (#[.int .u8 (op : Int), .int .u64 (a : Int), .int .u64 0, .slice none 0 0] : Array Value).all (·.oneCell') = true := by simp [Value.oneCell']
  have hbl := HB10.out
  go_wp2_with (refine wpList_store_rowTo rfl 50 _ _ rfl rfl R #[.int .u8 (op : Int), .int .u64 (a : Int), .int .u64 0, .slice none 0 0] rfl rfl 50 _ hbl rfl rfl hone ?_)
  have r0 := (hbl.row #[.int .u8 (op : Int), .int .u64 (a : Int), .int .u64 0, .slice none 0 0]).cell 0
  have r1 := (hbl.row #[.int .u8 (op : Int), .int .u64 (a : Int), .int .u64 0, .slice none 0 0]).cell 1
  have r2 := (hbl.row #[.int .u8 (op : Int), .int .u64 (a : Int), .int .u64 0, .slice none 0 0]).cell 2
  have r3 := (hbl.row #[.int .u8 (op : Int), .int .u64 (a : Int), .int .u64 0, .slice none 0 0]).cell 3
  simp at r0 r1 r2 r3
  have hSF := HS10.out.step (Step.setRow (F := fun j => j = R) Step.refl (g := R) (.inl rfl) #[.int .u8 (op : Int), .int .u64 (a : Int), .int .u64 0, .slice none 0 0]) (Ne.symm hRX) hRS
  have hTF := HT10.out.setRow (g := R) (.inr hRw) #[.int .u8 (op : Int), .int .u64 (a : Int), .int .u64 0, .slice none 0 0]
  exact bodyPost_ret (v := .agg #[.int .u8 (op : Int), .int .u64 (a : Int), .int .u64 0, .slice none 0 0]) (by simp [results, Try.results142, go_sem, r0, r1, r2, r3]) rfl ⟨rfl, hSF, hTF⟩

set_option maxRecDepth 100000 in
set_option maxHeartbeats 3200000 in
theorem get_11 (w : World) (X : Nat) (S : Nat → Prop) (D : Option Addr) (c : Nat) (bs : List UInt8) (k : Nat) (h : Scn w X S D c bs k) (op a : Nat) (i : Inf) (rest : List UInt8) (hop : op < 256) (hck : chkF op = 0) (ha : a < 18446744073709551616) (v : Int) (hs1 : -9223372036854775808 ≤ v ∧ v ≤ 9223372036854775807) (hs2 : IntKind.u64.wrap v = (a : Int)) (hd : bs.drop k = UInt8.ofNat op :: intF v ++ rest)
    (HO : Hid (∀ w, Calls Try.prog 25 #[.int .u8 (op : Int)] w fun e w' => e = .returned (infM i 11) ∧ Step (fun _ => False) w w')) :
    Calls Try.prog 142 #[.pointer (some ⟨X, 0, none⟩)] w fun e w' => e = .returned (.agg #[.int .u8 (op : Int), .int .u64 (a : Int), .int .u64 0, .slice none 0 0]) ∧ Scn w' X S D c bs (k + 1 + (intF v).length) ∧ Step (fun i => i = X) w w' := by
  have HC : Hid (∀ w, Calls Try.prog 26 #[.int .u8 (op : Int)] w fun e w' => e = .returned (.int .i64 0) ∧ Step (fun _ => False) w w') := fun w => by
    have := check_walk w op hop
    rw [hck] at this
    exact this
  have hxl := h.lt
  have HH := Lib.hid h
  have hlow := h.low
  clear h
  have hone0 : (insA 0 0 0 (.slice none 0 0)).all (·.oneCell') = true := by simp [insA, Value.oneCell']
  go_enter Try.func142, Try.ntmps142
  go_wp2_with fail
  refine (at_walk _ X S D c bs k (HH.out.alloc _)).mono ?_
  rintro e w5 ⟨rfl, hw5⟩
  have HB5 := Lib.hid (Blk.new w 50 (insA 0 0 0 (.slice none 0 0)))
  have HS5 := Lib.hid (HH.out.alloc (.cells (insA 0 0 0 (.slice none 0 0)) 50))
  have HT5 := Lib.hid ((Step.refl (F := fun i => i = X)).alloc (w := w) (.cells (insA 0 0 0 (.slice none 0 0)) 50))
  rw [show w.alloc (.cells (insA 0 0 0 (.slice none 0 0)) 50) = w5 from hw5.symm] at HB5 HS5 HT5
  obtain ⟨R, hR⟩ : ∃ R, R = w.heap.size := ⟨_, rfl⟩
  have hRX : R ≠ X := by omega
  have hRw : w.heap.size ≤ R := by omega
  have hRS : ∀ j, S j → j ≠ R := fun j hj => by have := hlow j hj; omega
  rw [← hR] at HB5 ⊢
  clear hR hxl hw5 HH
  go_wp2_with fail
  refine (byte_at HS5.out hop hd).mono ?_
  rintro e w6 ⟨rfl, hs6, ht6⟩
  obtain ⟨_, _, hd1⟩ := drop_cons hd
  have HB6 := Lib.hid ((HB5.out.step ht6 hRX).alloc (.cells (insA op 0 0 (.slice none 0 0)) 50))
  have HI6 := Lib.hid (Blk.new w6 50 (insA op 0 0 (.slice none 0 0)))
  have HS6 := Lib.hid (hs6.alloc (.cells (insA op 0 0 (.slice none 0 0)) 50))
  have HT6 := Lib.hid ((HT5.out.trans ht6).alloc (.cells (insA op 0 0 (.slice none 0 0)) 50))
  have hRI : R < w6.heap.size := by have := HB5.out.lt; have := ht6.size; omega
  have hXI : X < w6.heap.size := by have := HS5.out.lt; have := ht6.size; omega
  have hIw : w.heap.size ≤ w6.heap.size := (HT5.out.trans ht6).size
  clear hs6 ht6 HB5 HS5 HT5 hd
  obtain ⟨I, hI⟩ : ∃ I, I = w6.heap.size := ⟨_, rfl⟩
  obtain ⟨W, hW⟩ : ∃ W, W = w6.alloc (.cells (insA op 0 0 (.slice none 0 0)) 50) := ⟨_, rfl⟩
  rw [← hI] at HI6 hRI hXI hIw
  have hIS : ∀ j, S j → j ≠ I := fun j hj => by have := hlow j hj; omega
  have hIX : I ≠ X := by omega
  have hRI2 : R ≠ I := by omega
  rw [← hW] at HB6 HI6 HS6 HT6
  have x0 := HI6.out.cell 0
  simp [insA] at x0
  rw [hW] at x0
  rw [hI] at x0
  go_wp2_with fail
  rw [show w6.alloc (.cells #[.int .u8 (op : Int), .int .u64 0, .int .u64 0, .slice none 0 0] 50) = W from hW.symm]
  rw [← hI]
  clear x0 hW hI
  refine (HC.out _).mono ?_
  rintro e w7 ⟨rfl, ht7⟩
  have HB7 := Lib.hid (HB6.out.step ht7 id)
  have HI7 := Lib.hid (HI6.out.step ht7 id)
  have HS7 := Lib.hid (HS6.out.quiet ht7)
  have HT7 := Lib.hid (HT6.out.trans' ht7 (fun _ h => h.elim))
  clear ht7 HB6 HI6 HS6 HT6 HC
  have x0 := HI7.out.cell 0
  simp [insA] at x0
  go_wp2_with fail
  refine (aunless_ok _ _ _).mono ?_
  rintro e w8 ⟨rfl, hw8⟩
  obtain rfl : w7 = w8 := hw8.symm
  go_wp2_with fail
  refine (at_walk _ X S D c bs (k + 1) HS7.out).mono ?_
  rintro e w8 ⟨rfl, hw8⟩
  obtain rfl : w7 = w8 := hw8.symm
  go_wp2_with fail
  refine (HO.out _).mono ?_
  rintro e w8 ⟨rfl, ht8⟩
  have HB8 := Lib.hid (HB7.out.step ht8 id)
  have HI8 := Lib.hid (HI7.out.step ht8 id)
  have HS8 := Lib.hid (HS7.out.quiet ht8)
  have HT8 := Lib.hid (HT7.out.trans' ht8 (fun _ h => h.elim))
  clear ht8 HB7 HI7 HS7 HT7 HO x0
  have hfd := field_imm i 11
  simp only [infM]
  have hrd : Hid (rdS 10 1 127 (bs.drop (k + 1)) = (v, (intF v).length, 0)) := by rw [Hid, hd1]; exact (rdS_back64 v rest hs1).1
  have hu := IntWalk.u64_in (a : Int) (by omega)
  clear hs1 hd1
  go_wp2_with fail
  refine (int64_ok _ X S D c bs _ HS8.out v _ hrd.out).mono ?_
  rintro e w9 ⟨rfl, hs, ht⟩
  have HB9 := Lib.hid (HB8.out.step ht hRX)
  have HI9 := Lib.hid (HI8.out.step ht hIX)
  have HS9 := Lib.hid hs
  have HT9 := Lib.hid (HT8.out.trans ht)
  clear hs ht HB8 HI8 HS8 HT8
  have zz10 := HI9.out.frozen 1
  have cc10 := HI9.out.cell 1
  simp [insA] at cc10
  have HI10 : Hid (Blk (w9.setCell ⟨I, 1, none⟩ (.int .u64 (a : Int))) I 50 #[.int .u8 (op : Int), .int .u64 (a : Int), .int .u64 0, .slice none 0 0]) := by
    have hq := HI9.out.set_ 1 ((.int .u64 (a : Int)))
    simp [insA] at hq
    exact hq
  have HB10 := Lib.hid (HB9.out.far (p := ⟨I, 1, none⟩) hRI2 ((.int .u64 (a : Int))))
  have hst10 : Step (fun j => j = I) w9 (w9.setCell ⟨I, 1, none⟩ (.int .u64 (a : Int))) := (Step.refl (F := fun j => j = I)).setCell (p := ⟨I, 1, none⟩) (.inl rfl) _
  have HS10 := Lib.hid (HS9.out.step hst10 (Ne.symm hIX) hIS)
  have HT10 := Lib.hid (HT9.out.setCell (p := ⟨I, 1, none⟩) (.inr hIw) ((.int .u64 (a : Int))))
  have y0 := HI10.out.cell 0
  have y1 := HI10.out.cell 1
  have y2 := HI10.out.cell 2
  have y3 := HI10.out.cell 3
  simp [insA] at y0 y1 y2 y3
  have hone : (#[.int .u8 (op : Int), .int .u64 (a : Int), .int .u64 0, .slice none 0 0] : Array Value).all (·.oneCell') = true := by simp [Value.oneCell']
  have hbl := HB10.out
  go_wp2_with (refine wpList_store_rowTo rfl 50 _ _ rfl rfl R #[.int .u8 (op : Int), .int .u64 (a : Int), .int .u64 0, .slice none 0 0] rfl rfl 50 _ hbl rfl rfl hone ?_)
  have r0 := (hbl.row #[.int .u8 (op : Int), .int .u64 (a : Int), .int .u64 0, .slice none 0 0]).cell 0
  have r1 := (hbl.row #[.int .u8 (op : Int), .int .u64 (a : Int), .int .u64 0, .slice none 0 0]).cell 1
  have r2 := (hbl.row #[.int .u8 (op : Int), .int .u64 (a : Int), .int .u64 0, .slice none 0 0]).cell 2
  have r3 := (hbl.row #[.int .u8 (op : Int), .int .u64 (a : Int), .int .u64 0, .slice none 0 0]).cell 3
  simp at r0 r1 r2 r3
  have hSF := HS10.out.step (Step.setRow (F := fun j => j = R) Step.refl (g := R) (.inl rfl) #[.int .u8 (op : Int), .int .u64 (a : Int), .int .u64 0, .slice none 0 0]) (Ne.symm hRX) hRS
  have hTF := HT10.out.setRow (g := R) (.inr hRw) #[.int .u8 (op : Int), .int .u64 (a : Int), .int .u64 0, .slice none 0 0]
  exact bodyPost_ret (v := .agg #[.int .u8 (op : Int), .int .u64 (a : Int), .int .u64 0, .slice none 0 0]) (by simp [results, Try.results142, go_sem, r0, r1, r2, r3]) rfl ⟨rfl, hSF, hTF⟩
end Go.Proofs.Ytfemeendkjcffaa
/-! instr: Get of an instruction with labels. -/
namespace Go.Proofs.Ytfemeendkjcffaa
open Go.RowKit

theorem E_u32 : ElemTy Try.prog 48 51 1 4 := elem_of Try.underlying48 (z := .int .u32 0) (by kernel_rfl) rfl (by decide)
def u32s (L : List Nat) : List Value := L.map fun n : Nat => .int .u32 (n : Int)
theorem u32s_length (L : List Nat) : (u32s L).length = L.length := by simp [u32s]
theorem u32s_one (L : List Nat) : ∀ u ∈ u32s L, u.oneCell' = true := by
  intro u hu
  obtain ⟨n, _, rfl⟩ := List.mem_map.1 hu
  rfl
theorem u32s_append (L M : List Nat) : u32s (L ++ M) = u32s L ++ u32s M := by simp [u32s]
theorem u32s_get (L : List Nat) (k : Nat) (h : k < L.length) : (u32s L)[k]? = some (.int .u32 (L[k] : Int)) := by simp [u32s, h]
/-- Labels as bytes. -/
def labL (L : List Nat) : List UInt8 := L.flatMap uintF
theorem labL_cons (n : Nat) (L : List Nat) : labL (n :: L) = uintF n ++ labL L := by simp [labL]
theorem labL_take (L : List Nat) (j : Nat) (h : j < L.length) : labL (L.take (j + 1)) = labL (L.take j) ++ uintF L[j] := by
  rw [List.take_succ_eq_append_getElem h, labL, List.flatMap_append]
  simp [labL]
theorem labL_drop (L : List Nat) (j : Nat) (h : j < L.length) : labL (L.drop j) = uintF L[j] ++ labL (L.drop (j + 1)) := by
  rw [List.drop_eq_getElem_cons h, labL_cons]

set_option maxRecDepth 100000 in
set_option maxHeartbeats 3200000 in
theorem get_3 (w : World) (X : Nat) (S : Nat → Prop) (D : Option Addr) (c : Nat) (bs : List UInt8) (k : Nat) (h : Scn w X S D c bs k) (op a : Nat) (i : Inf) (rest : List UInt8) (hop : op < 256) (hck : chkF op = 0) (ha : a < 4294967296) (L : List Nat) (hL : L.length ≤ 10000) (hLb : ∀ x ∈ L, x < 4294967296) (hd : bs.drop k = UInt8.ofNat op :: uintF L.length ++ (labL L ++ (uintF a ++ rest)))
    (HO : Hid (∀ w, Calls Try.prog 25 #[.int .u8 (op : Int)] w fun e w' => e = .returned (infM i 3) ∧ Step (fun _ => False) w w')) :
    Calls Try.prog 142 #[.pointer (some ⟨X, 0, none⟩)] w fun e w' => ∃ D' c', e = .returned (.agg #[.int .u8 (op : Int), .int .u64 (a : Int), .int .u64 0, .slice D' L.length c']) ∧ w'.ownsRow w.heap.size 51 1 (.slice D' L.length c') L.length (u32s L) ∧ Scn w' X S D c bs (k + 1 + (uintF L.length).length + (labL L).length + (uintF a).length) ∧ Step (fun i => i = X) w w' := by
  have HC : Hid (∀ w, Calls Try.prog 26 #[.int .u8 (op : Int)] w fun e w' => e = .returned (.int .i64 0) ∧ Step (fun _ => False) w w') := fun w => by
    have := check_walk w op hop
    rw [hck] at this
    exact this
  have hxl := h.lt
  have HH := Lib.hid h
  have hlow := h.low
  clear h
  have hone0 : (insA 0 0 0 (.slice none 0 0)).all (·.oneCell') = true := by simp [insA, Value.oneCell']
  go_enter Try.func142, Try.ntmps142
  go_wp2_with fail
  refine (at_walk _ X S D c bs k (HH.out.alloc _)).mono ?_
  rintro e w5 ⟨rfl, hw5⟩
  have HB5 := Lib.hid (Blk.new w 50 (insA 0 0 0 (.slice none 0 0)))
  have HS5 := Lib.hid (HH.out.alloc (.cells (insA 0 0 0 (.slice none 0 0)) 50))
  have HT5 := Lib.hid ((Step.refl (F := fun i => i = X)).alloc (w := w) (.cells (insA 0 0 0 (.slice none 0 0)) 50))
  rw [show w.alloc (.cells (insA 0 0 0 (.slice none 0 0)) 50) = w5 from hw5.symm] at HB5 HS5 HT5
  obtain ⟨R, hR⟩ : ∃ R, R = w.heap.size := ⟨_, rfl⟩
  have hRX : R ≠ X := by omega
  have hRw : w.heap.size ≤ R := by omega
  have hRS : ∀ j, S j → j ≠ R := fun j hj => by have := hlow j hj; omega
  rw [← hR] at HB5 ⊢
  clear hR hxl hw5 HH
  go_wp2_with fail
  refine (byte_at HS5.out hop hd).mono ?_
  rintro e w6 ⟨rfl, hs6, ht6⟩
  obtain ⟨_, _, hd1⟩ := drop_cons hd
  have HB6 := Lib.hid ((HB5.out.step ht6 hRX).alloc (.cells (insA op 0 0 (.slice none 0 0)) 50))
  have HI6 := Lib.hid (Blk.new w6 50 (insA op 0 0 (.slice none 0 0)))
  have HS6 := Lib.hid (hs6.alloc (.cells (insA op 0 0 (.slice none 0 0)) 50))
  have HT6 := Lib.hid ((HT5.out.trans ht6).alloc (.cells (insA op 0 0 (.slice none 0 0)) 50))
  have hRI : R < w6.heap.size := by have := HB5.out.lt; have := ht6.size; omega
  have hXI : X < w6.heap.size := by have := HS5.out.lt; have := ht6.size; omega
  have hIw : w.heap.size ≤ w6.heap.size := (HT5.out.trans ht6).size
  clear hs6 ht6 HB5 HS5 HT5 hd
  obtain ⟨I, hI⟩ : ∃ I, I = w6.heap.size := ⟨_, rfl⟩
  obtain ⟨W, hW⟩ : ∃ W, W = w6.alloc (.cells (insA op 0 0 (.slice none 0 0)) 50) := ⟨_, rfl⟩
  rw [← hI] at HI6 hRI hXI hIw
  have hIS : ∀ j, S j → j ≠ I := fun j hj => by have := hlow j hj; omega
  have hIX : I ≠ X := by omega
  have hRI2 : R ≠ I := by omega
  rw [← hW] at HB6 HI6 HS6 HT6
  have x0 := HI6.out.cell 0
  simp [insA] at x0
  rw [hW] at x0
  rw [hI] at x0
  go_wp2_with fail
  rw [show w6.alloc (.cells #[.int .u8 (op : Int), .int .u64 0, .int .u64 0, .slice none 0 0] 50) = W from hW.symm]
  rw [← hI]
  clear x0 hW hI
  refine (HC.out _).mono ?_
  rintro e w7 ⟨rfl, ht7⟩
  have HB7 := Lib.hid (HB6.out.step ht7 id)
  have HI7 := Lib.hid (HI6.out.step ht7 id)
  have HS7 := Lib.hid (HS6.out.quiet ht7)
  have HT7 := Lib.hid (HT6.out.trans' ht7 (fun _ h => h.elim))
  clear ht7 HB6 HI6 HS6 HT6 HC
  have x0 := HI7.out.cell 0
  simp [insA] at x0
  go_wp2_with fail
  refine (aunless_ok _ _ _).mono ?_
  rintro e w8 ⟨rfl, hw8⟩
  obtain rfl : w7 = w8 := hw8.symm
  go_wp2_with fail
  refine (at_walk _ X S D c bs (k + 1) HS7.out).mono ?_
  rintro e w8 ⟨rfl, hw8⟩
  obtain rfl : w7 = w8 := hw8.symm
  go_wp2_with fail
  refine (HO.out _).mono ?_
  rintro e w8 ⟨rfl, ht8⟩
  have HB8 := Lib.hid (HB7.out.step ht8 id)
  have HI8 := Lib.hid (HI7.out.step ht8 id)
  have HS8 := Lib.hid (HS7.out.quiet ht8)
  have HT8 := Lib.hid (HT7.out.trans' ht8 (fun _ h => h.elim))
  clear ht8 HB7 HI7 HS7 HT7 HO x0
  have hfd := field_imm i 3
  simp only [infM]
  have hu := IntWalk.u64_in (a : Int) (by omega)
  have hd2 := drop_app hd1
  have hrd : Hid (rdU (bs.drop (k + 1)) = (L.length, (uintF L.length).length, 0)) := by rw [Hid, hd1]; exact (rdU_back L.length _ (by omega)).1
  obtain ⟨n, hn⟩ : ∃ n, n = L.length := ⟨_, rfl⟩
  rw [← hn] at hrd hL hd2
  have HN := Lib.hid hn
  clear hd1 hn
  go_wp2_with fail
  refine (count_ok _ X S D c bs _ HS8.out n _ hrd.out hL).mono ?_
  rintro e w9 ⟨rfl, hs, ht⟩
  have HB9 := Lib.hid (HB8.out.step ht hRX)
  have HI9 := Lib.hid (HI8.out.step ht hIX)
  have HS9 := Lib.hid hs
  have HT9 := Lib.hid (HT8.out.trans ht)
  clear hs ht HB8 HI8 HS8 HT8
  clear hrd
  have HO9 : Hid (w9.ownsRow w.heap.size 51 1 (.slice none 0 0) 0 (u32s (L.take 0))) := World.ownsRow_nil _ _ _ _
  have HI9' : Hid (Blk w9 I 50 #[.int .u8 (op : Int), .int .u64 0, .int .u64 0, .slice none 0 0]) := HI9
  have HK9 : Hid (Scn w9 X S D c bs (k + 1 + (uintF n).length + (labL (L.take 0)).length)) := HS9
  clear HI9 HS9
  go_wp2_with fail
  go_loopw [50] (fun iv wr => ∃ (j c2 : Nat) (D2 : Option Addr), j ≤ n ∧ iv = .int .i64 (j : Int) ∧ Hid (Blk wr R 50 (insA 0 0 0 (.slice none 0 0))) ∧ Hid (Blk wr I 50 #[.int .u8 (op : Int), .int .u64 0, .int .u64 0, .slice D2 j c2]) ∧
    Hid (wr.ownsRow w.heap.size 51 1 (.slice D2 j c2) j (u32s (L.take j))) ∧ Hid (Scn wr X S D c bs (k + 1 + (uintF n).length + (labL (L.take j)).length)) ∧ Hid (Step (fun i => i = X) w wr)) (fun iv _ => n + 1 - (intOf iv).toNat)
  case atStart => exact ⟨0, 0, none, by omega, rfl, HB9, HI9', HO9, HK9, HT9⟩
  case round =>
    obtain ⟨j, c2, D2, hj, rfl, HBj, HIj, HOj, HKj, HTj⟩ := hrel
    clear HO9 HI9' HK9
    by_cases hlt : j < n
    · have g1 : (j : Int) < (n : Int) := by omega
      have hw1 := IntWalk.i64_in ((j : Int) + 1) (by omega)
      have hjl : j < L.length := by rw [← HN.out]; exact hlt
      have hdj : bs.drop (k + 1 + (uintF n).length + (labL (L.take j)).length) = uintF L[j] ++ (labL (L.drop (j + 1)) ++ (uintF a ++ rest)) := by
        rw [← List.append_assoc (uintF L[j]), ← labL_drop L j hjl]
        refine drop_app ?_
        rw [hd2, show labL L = labL (L.take j) ++ labL (L.drop j) by rw [labL, labL, labL, ← List.flatMap_append, List.take_append_drop], List.append_assoc]
      have HP : Hid (labL (L.take (j + 1)) = labL (L.take j) ++ uintF L[j]) := labL_take L j hjl
      have HU : Hid (u32s (L.take (j + 1)) = u32s (L.take j) ++ [.int .u32 (L[j] : Int)]) := by
        rw [Hid, List.take_succ_eq_append_getElem hjl, u32s_append]
        rfl
      have hxb := hLb L[j] (List.getElem_mem hjl)
      generalize L[j] = x at *
      obtain ⟨kj, hkj⟩ : ∃ kj, kj = k + 1 + (uintF n).length + (labL (L.take j)).length := ⟨_, rfl⟩
      have HK2 : Hid (k + 1 + (uintF n).length + (labL (L.take (j + 1))).length = kj + (uintF x).length) := by
        rw [Hid, HP.out, List.length_append, hkj]; omega
      rw [← hkj] at HKj hdj
      clear hkj HP
      have i3 := HIj.out.cell 3
      simp at i3
      have hDI : blkOf D2 ≠ some I := by rw [← ownBlock_slice D2 j c2]; exact own_tag HOj.out HIj.out (by decide)
      have hDX : blkOf D2 ≠ some X := by rw [← ownBlock_slice D2 j c2]; exact own_tag HOj.out HKj.out.blk (by decide)
      have hDR : blkOf D2 ≠ some R := by rw [← ownBlock_slice D2 j c2]; exact own_tag HOj.out HBj.out (by decide)
      have hDge : ∀ q, blkOf D2 = some q → w.heap.size ≤ q := fun q hq => own_ge HOj.out q (by rw [ownBlock_slice]; exact hq)
      obtain ⟨F, hF⟩ : ∃ F : Nat → Prop, F = fun q => q = X ∨ blkOf D2 = some q := ⟨_, rfl⟩
      have HFI : ¬ F I := by rw [hF]; intro h; exact h.elim hIX hDI
      have d3 := cls_cell (F := F) (w0 := wr) i3 HFI
      have hIl := HIj.out.lt
      have HF := Lib.hid hF
      clear i3 hF
      go_wp2_with fail
      refine Mix.wp_region_mix [3, 4, 5, 7] [3, 4, 5] (Step F wr) (by kernel_rfl) (by kernel_rfl) Step.refl.drew (fun hcls => ?_)
      refine Mix.wpL_reads 3 (by rfl) ?_
      simp only [List.take_succ_cons, List.drop_succ_cons, List.take_zero, List.drop_zero]
      repeat (go_big_quiet_step (fail))
      refine wpQuiet_nil ?_
      refine Mix.wpL_op (by rfl) (fun K hK => ?_)
      go_simp
      refine (index_at (HKj.out.quiet Step.refl.drew) hxb hdj).mono ?_
      rintro e wa ⟨rfl, hsa, hta⟩
      have HTa : Hid (Step F wr wa) := Lib.hid ((Step.refl.drew).trans (hta.mono fun q _ hq => by rw [HF.out]; exact .inl hq))
      refine hK _ _ (fun hlt => Mix.cl HTa.out) ?_
      clear hK K
      refine Mix.wpL_op (by rfl) (fun K hK => ?_)
      go_simp
      refine hK _ _ (fun hlt => Mix.cl (HTa.out.alloc _)) ?_
      clear hK K
      have hOa : (wa.alloc (.cells #[.int .u32 (x : Int)] 51)).ownsRow w.heap.size 51 1 (.slice D2 j c2) j (u32s (L.take j)) :=
        (own_step (own_drew HOj.out) hta (fun q hq e => hDX (by rw [← ownBlock_slice D2 j c2, hq, e]))).alloc _
      have HIa := Lib.hid ((HIj.out.drew.step hta hIX).alloc (.cells #[.int .u32 (x : Int)] 51))
      have HBa := Lib.hid ((HBj.out.drew.step hta hRX).alloc (.cells #[.int .u32 (x : Int)] 51))
      have HKa := Lib.hid (hsa.alloc (.cells #[.int .u32 (x : Int)] 51))
      have HTw := Lib.hid (((HTj.out.drew).trans hta).alloc (.cells #[.int .u32 (x : Int)] 51))
      have HTa2 := Lib.hid (HTa.out.alloc (.cells #[.int .u32 (x : Int)] 51))
      have hsz2 := HTw.out.size
      have hsza : wr.heap.size ≤ wa.heap.size := hta.size
      have hszb : (wa.alloc (.cells #[.int .u32 (x : Int)] 51)).heap.size = wa.heap.size + 1 := by simp
      clear hsa hta HTa
      have hone : ∀ u ∈ #[Value.int .u32 (x : Int)].toList, u.oneCell' = true := by simp [Value.oneCell']
      have hm : j + 1 ≤ maxLen := by unfold maxLen; omega
      refine Mix.wpL_op (by rfl) (fun K hK => ?_)
      refine step_append_src _ (by rfl) _ _ (by rfl) E_u32 (by rfl) hOa (by rfl) (reads_new _ #[Value.int .u32 (x : Int)] 51 1 1 rfl) hone hm (by omega) hsz2 ?_
      intro D3 c3 w3 hown3 hgrow3 hat3
      have HI3 := Lib.hid (HIa.out.grown hgrow3 hDI)
      have HB3 := Lib.hid (HBa.out.grown hgrow3 hDR)
      have HK3 := Lib.hid (HKa.out.step (F := fun q => blkOf D2 = some q) (Step.refl.grown hgrow3 (fun q hq => .inl hq)) hDX (fun q hq hd => by have := hlow q hq; have := hDge q hd; omega))
      have HT3 := Lib.hid (HTw.out.grown hgrow3 (fun q hq => .inr (hDge q hq)))
      have HTF := Lib.hid (HTa2.out.grown hgrow3 (fun q hq => .inl (by rw [HF.out]; exact .inr hq)))
      refine hK _ _ (fun hlt => Mix.cl HTF.out) ?_
      clear hK K hgrow3 HTa2 HTw HKa HBa HIa hOa
      simp only [Act.put, List.setIfInBounds_toArray, List.set_cons_succ, List.set_cons_zero]
      refine Mix.wpL_reads 1 (by rfl) ?_
      simp only [List.take_succ_cons, List.drop_succ_cons, List.take_zero, List.drop_zero]
      repeat (go_big_quiet_step (fail))
      refine wpQuiet_nil ?_
      have zz := HI3.out.frozen 3
      have cc := HI3.out.cell 3
      simp at cc
      have hHat : blkOf D3 = some I → False := fun e => by
        rcases hat3 with h3 | h3
        · exact hDI (h3 ▸ e)
        · rw [h3, hszb] at e
          injection e with e
          omega
      have HI4 : Hid (Blk (w3.setCell ⟨I, 3, none⟩ (.slice D3 (j + 1) c3)) I 50 #[.int .u8 (op : Int), .int .u64 0, .int .u64 0, .slice D3 (j + 1) c3]) := by
        have hq := HI3.out.set_ 3 (.slice D3 (j + 1) c3)
        simp at hq
        exact hq
      have HB4 := Lib.hid (HB3.out.far (p := ⟨I, 3, none⟩) hRI2 (.slice D3 (j + 1) c3))
      have hst4 : Step (fun j => j = I) w3 (w3.setCell ⟨I, 3, none⟩ (.slice D3 (j + 1) c3)) := (Step.refl (F := fun j => j = I)).setCell (p := ⟨I, 3, none⟩) (.inl rfl) _
      have HK4 := Lib.hid (HK3.out.step hst4 (Ne.symm hIX) hIS)
      have HT4 := Lib.hid (HT3.out.setCell (p := ⟨I, 3, none⟩) (.inr hIw) (.slice D3 (j + 1) c3))
      have HO4 := Lib.hid (own_set hown3 (p := ⟨I, 3, none⟩) (by rw [ownBlock_slice]; exact fun e => hHat e) (.slice D3 (j + 1) c3))
      refine Mix.wpL_op (by rfl) (fun K hK => ?_)
      go_simp
      refine hK _ _ (fun hlt => absurd hlt (by decide)) ?_
      clear hK K
      refine Mix.wpL_end ?_
      have hus : u32s (L.take j) ++ #[Value.int .u32 (x : Int)].toList = u32s (L.take (j + 1)) := by rw [HU.out]
      rw [hus] at HO4
      rw [← HK2.out] at HK4
      go_wp2_with fail
      go_roundw
      case rel => exact ⟨j + 1, c3, D3, by omega, by rw [Int.natCast_add]; rfl, HB4, HI4, HO4, HK4, HT4⟩
      case measure => simp [intOf]; omega
    · obtain rfl : j = n := by omega
      have hLt : L.take j = L := by rw [HN.out]; exact List.take_length
      rw [hLt] at HOj HKj
      have hd3 : bs.drop (k + 1 + (uintF j).length + (labL L).length) = uintF a ++ rest := drop_app hd2
      have HIx := HIj
      have HBx := HBj
      have HSx := HKj
      have HTx := HTj
      have hOx : ∀ w', Step (fun i => i = X) wr w' → w'.ownsRow w.heap.size 51 1 (.slice D2 j c2) j (u32s L) := fun w' ht => own_step HOj.out ht (fun q hq e => by
        have h1 := own_tag HOj.out HKj.out.blk (by decide)
        exact h1 (e ▸ hq))
      have HOX := Lib.hid hOx
      have hDI : blkOf D2 ≠ some I := by rw [← ownBlock_slice D2 j c2]; exact own_tag HOj.out HIj.out (by decide)
      have hDR : blkOf D2 ≠ some R := by rw [← ownBlock_slice D2 j c2]; exact own_tag HOj.out HBj.out (by decide)
      clear HIj HBj HKj HTj hOx HOj hd2
      go_wp2_with fail
      refine (index_at HSx.out ha hd3).mono ?_
      rintro e w11 ⟨rfl, hs, ht⟩
      have HB11 := Lib.hid (HBx.out.step ht hRX)
      have HI11 := Lib.hid (HIx.out.step ht hIX)
      have HS11 := Lib.hid hs
      have HT11 := Lib.hid (HTx.out.trans ht)
      have HO11 := Lib.hid (HOX.out _ ht)
      clear hs ht HBx HIx HSx HTx
      have zz12 := HI11.out.frozen 1
      have cc12 := HI11.out.cell 1
      simp [insA] at cc12
      have HI12 : Hid (Blk (w11.setCell ⟨I, 1, none⟩ (.int .u64 (a : Int))) I 50 #[.int .u8 (op : Int), .int .u64 (a : Int), .int .u64 0, .slice D2 j c2]) := by
        have hq := HI11.out.set_ 1 ((.int .u64 (a : Int)))
        simp [insA] at hq
        exact hq
      have HB12 := Lib.hid (HB11.out.far (p := ⟨I, 1, none⟩) hRI2 ((.int .u64 (a : Int))))
      have hst12 : Step (fun j => j = I) w11 (w11.setCell ⟨I, 1, none⟩ (.int .u64 (a : Int))) := (Step.refl (F := fun j => j = I)).setCell (p := ⟨I, 1, none⟩) (.inl rfl) _
      have HS12 := Lib.hid (HS11.out.step hst12 (Ne.symm hIX) hIS)
      have HT12 := Lib.hid (HT11.out.setCell (p := ⟨I, 1, none⟩) (.inr hIw) ((.int .u64 (a : Int))))
      have HO12 := Lib.hid (own_set HO11.out (p := ⟨I, 1, none⟩) (by rw [ownBlock_slice]; exact hDI) (.int .u64 (a : Int)))
      have y0 := HI12.out.cell 0
      have y1 := HI12.out.cell 1
      have y2 := HI12.out.cell 2
      have y3 := HI12.out.cell 3
      simp [insA] at y0 y1 y2 y3
      have hone : (#[.int .u8 (op : Int), .int .u64 (a : Int), .int .u64 0, .slice D2 j c2] : Array Value).all (·.oneCell') = true := by simp [Value.oneCell']
      have hbl := HB12.out
      go_wp2_with (refine wpList_store_rowTo rfl 50 _ _ rfl rfl R #[.int .u8 (op : Int), .int .u64 (a : Int), .int .u64 0, .slice D2 j c2] rfl rfl 50 _ hbl rfl rfl hone ?_)
      have r0 := (hbl.row #[.int .u8 (op : Int), .int .u64 (a : Int), .int .u64 0, .slice D2 j c2]).cell 0
      have r1 := (hbl.row #[.int .u8 (op : Int), .int .u64 (a : Int), .int .u64 0, .slice D2 j c2]).cell 1
      have r2 := (hbl.row #[.int .u8 (op : Int), .int .u64 (a : Int), .int .u64 0, .slice D2 j c2]).cell 2
      have r3 := (hbl.row #[.int .u8 (op : Int), .int .u64 (a : Int), .int .u64 0, .slice D2 j c2]).cell 3
      simp at r0 r1 r2 r3
      have hSF := HS12.out.step (Step.setRow (F := fun j => j = R) Step.refl (g := R) (.inl rfl) #[.int .u8 (op : Int), .int .u64 (a : Int), .int .u64 0, .slice D2 j c2]) (Ne.symm hRX) hRS
      have hTF := HT12.out.setRow (g := R) (.inr hRw) #[.int .u8 (op : Int), .int .u64 (a : Int), .int .u64 0, .slice D2 j c2]
      have hst13 : Step (fun j => j = R) (w11.setCell ⟨I, 1, none⟩ (.int .u64 (a : Int))) ((w11.setCell ⟨I, 1, none⟩ (.int .u64 (a : Int))).setRow R #[.int .u8 (op : Int), .int .u64 (a : Int), .int .u64 0, .slice D2 j c2]) := Step.setRow (F := fun j => j = R) Step.refl (g := R) (.inl rfl) _
      have hOF := own_step HO12.out hst13 (fun q hq e => hDR (by rw [← ownBlock_slice D2 j c2, hq, e]))
      refine bodyPost_ret (v := .agg #[.int .u8 (op : Int), .int .u64 (a : Int), .int .u64 0, .slice D2 j c2]) (by simp [results, Try.results142, go_sem, r0, r1, r2, r3]) rfl ?_
      have hOF' := hOF
      have hSF' := hSF
      have hTF' := hTF
      rw [HN.out] at hOF' hSF' hTF'
      rw [show (Value.slice D2 j c2) = .slice D2 L.length c2 by rw [HN.out]]
      exact ⟨D2, c2, rfl, hOF', hSF', hTF'⟩
end Go.Proofs.Ytfemeendkjcffaa
/-! instr: the bytes of an instruction; Get of any that may be. -/
namespace Go.Proofs.Ytfemeendkjcffaa
open Go.RowKit

/-- The bytes of an instruction. -/
def putT (m a b : Nat) (L : List Nat) : List UInt8 :=
  if m = 0 then [] else if m = 1 then [UInt8.ofNat a] else if m = 3 then uintF L.length ++ (labL L ++ uintF a) else if m = 5 then uintF a ++ [UInt8.ofNat 0] else if m = 8 then uintF a ++ uintF b else if m = 9 then [UInt8.ofNat 0] else if m = 10 then intF (s32 a) else if m = 11 then intF (s64 a) else uintF a
def putL (op a b : Nat) (L : List Nat) : List UInt8 := UInt8.ofNat op :: putT (infF op).imm a b L

theorem s32_inn (a : Nat) (h : a < 4294967296) : (-2147483648 ≤ s32 a ∧ s32 a ≤ 2147483647) ∧ IntKind.u32.wrap (s32 a) = (a : Int) := by
  rw [IntKind.wrap_u32', s32]
  split <;> omega
theorem s64_inn (a : Nat) (h : a < 18446744073709551616) : (-9223372036854775808 ≤ s64 a ∧ s64 a ≤ 9223372036854775807) ∧ IntKind.u64.wrap (s64 a) = (a : Int) := by
  rw [IntKind.wrap_u64, s64]
  split <;> omega

/-- What an instruction that may be is. -/
theorem rgt_zero {op a b n : Nat} (h : rgtF op a b n = 0) : chkF op = 0 ∧ immF (infF op).imm a b n = 0 := by
  rw [rgtF] at h
  split at h
  · rename_i hc
    exact ⟨hc, h⟩
  · rename_i hc
    exact absurd h hc

theorem immF_zero {m a b n : Nat} (h : immF m a b n = 0) : (n = 0 ∨ m = 3 ∧ n ≤ 10000) ∧ (b = 0 ∨ m = 8) ∧ (m = 0 ∨ m = 9 → a = 0) ∧ (m = 1 → blkF a = 0) ∧ (¬ m = 0 → ¬ m = 9 → ¬ m = 1 → ¬ m = 11 → a < 4294967296 ∧ b < 4294967296) := by
  rw [immF] at h
  split at h
  · rename_i h1
    split at h <;> cases h
  rename_i h1
  split at h
  · cases h
  rename_i h2
  have hn : n = 0 ∨ m = 3 ∧ n ≤ 10000 := by
    rcases Nat.eq_zero_or_pos n with h3 | h3
    · exact .inl h3
    · by_cases hm : m = 3
      · exact .inr ⟨hm, by omega⟩
      · exact absurd (.inl ⟨h3, hm⟩) h1
  have hb : b = 0 ∨ m = 8 := by
    by_cases hb : b = 0
    · exact .inl hb
    · by_cases hm : m = 8
      · exact .inr hm
      · exact absurd ⟨hb, hm⟩ h2
  refine ⟨hn, hb, ?_, ?_, ?_⟩
  · intro hm
    rw [if_pos hm] at h
    split at h
    · assumption
    · cases h
  · intro hm
    rw [if_neg (by omega), if_pos hm] at h
    exact h
  · intro m0 m9 m1 m11
    rw [if_neg (by omega), if_neg m1, if_neg m11] at h
    split at h
    · assumption
    · cases h

def GetTo (X : Nat) (S : Nat → Prop) (D : Option Addr) (c : Nat) (bs : List UInt8) (k : Nat) (L : List Nat) (D' : Option Addr) (c' : Nat) (w w' : World) : Prop :=
  w'.ownsRow w.heap.size 51 1 (.slice D' L.length c') L.length (u32s L) ∧ Scn w' X S D c bs k

theorem get_all (w : World) (X : Nat) (S : Nat → Prop) (D : Option Addr) (c : Nat) (bs : List UInt8) (k : Nat) (h : Scn w X S D c bs k) (op a b : Nat) (L : List Nat) (rest : List UInt8) (hop : op < 256) (ha : a < 18446744073709551616) (hLb : ∀ x ∈ L, x < 4294967296)
    (hz : rgtF op a b L.length = 0) (hd : bs.drop k = putL op a b L ++ rest) :
    Calls Try.prog 142 #[.pointer (some ⟨X, 0, none⟩)] w fun e w' => ∃ D' c', e = .returned (.agg (insC (op : Int) (a : Int) (b : Int) D' L.length c')) ∧ Step (fun i => i = X) w w' ∧ GetTo X S D c bs (k + (putL op a b L).length) L D' c' w w' := by
  obtain ⟨hck, hi⟩ := rgt_zero hz
  obtain ⟨hn, hb, h09, h1, hlt⟩ := immF_zero hi
  have HO : Hid (∀ w, Calls Try.prog 25 #[.int .u8 (op : Int)] w fun e w' => e = .returned (infM (infF op) ((infF op).imm : Int)) ∧ Step (fun _ => False) w w') := fun w => of_walk w op hop
  have key : ∀ k2, k2 = k + (putL op a b L).length → (L = [] → (∀ e w', (e = .returned (.agg #[.int .u8 (op : Int), .int .u64 (a : Int), .int .u64 (b : Int), .slice none 0 0]) ∧ Scn w' X S D c bs k2 ∧ Step (fun i => i = X) w w') →
      ∃ D' c', e = Ending.returned (.agg (insC (op : Int) (a : Int) (b : Int) D' L.length c')) ∧ Step (fun i => i = X) w w' ∧ GetTo X S D c bs (k + (putL op a b L).length) L D' c' w w')) := by
    rintro k2 rfl rfl e w' ⟨rfl, hs, ht⟩
    exact ⟨none, 0, rfl, ht, World.ownsRow_nil _ _ _ _, hs⟩
  have hlen : (putL op a b L).length = 1 + (putT (infF op).imm a b L).length := by rw [putL, List.length_cons]; omega
  rw [putL, List.cons_append] at hd
  rw [hlen] at key ⊢
  generalize hm : (infF op).imm = m at *
  by_cases m3 : m = 3
  · subst m3
    obtain rfl : b = 0 := by omega
    have hL : L.length ≤ 10000 := by omega
    have ha2 := (hlt (by decide) (by decide) (by decide) (by decide)).1
    have hT : putT 3 a 0 L = uintF L.length ++ (labL L ++ uintF a) := by simp [putT]
    rw [hT] at hd ⊢
    refine (get_3 w X S D c bs k h op a (infF op) rest hop hck ha2 L hL hLb (by rw [hd]; simp) HO).mono ?_
    rintro e w' ⟨D', c', rfl, hown, hs, ht⟩
    refine ⟨D', c', rfl, ht, hown, ?_⟩
    rw [show k + (1 + (uintF L.length ++ (labL L ++ uintF a)).length) = k + 1 + (uintF L.length).length + (labL L).length + (uintF a).length by simp; omega]
    exact hs
  · obtain rfl : L = [] := by
      rcases hn with hn | hn
      · exact List.eq_nil_of_length_eq_zero hn
      · exact absurd hn.1 m3
    by_cases m0 : m = 0
    · subst m0
      obtain rfl : b = 0 := by omega
      obtain rfl : a = 0 := h09 (.inl rfl)
      have hT : putT 0 0 0 [] = [] := by simp [putT]
      rw [hT] at hd key ⊢
      exact (get_0 w X S D c bs k h op (infF op) rest hop hck (by rw [hd]; simp) HO).mono (key _ (by first | (simp; done) | (simp; omega)) rfl)
    by_cases m9 : m = 9
    · subst m9
      obtain rfl : b = 0 := by omega
      obtain rfl : a = 0 := h09 (.inr rfl)
      have hT : putT 9 0 0 [] = [UInt8.ofNat 0] := by simp [putT]
      rw [hT] at hd key ⊢
      exact (get_9 w X S D c bs k h op (infF op) rest hop hck (by rw [hd]; simp) HO).mono (key _ (by first | (simp; done) | (simp; omega)) rfl)
    by_cases m1 : m = 1
    · subst m1
      obtain rfl : b = 0 := by omega
      have hbk := h1 rfl
      have ha2 : a < 256 := by
        rw [blkF] at hbk
        split at hbk
        · omega
        · split at hbk
          · cases hbk
          · omega
      have hT : putT 1 a 0 [] = [UInt8.ofNat a] := by simp [putT]
      rw [hT] at hd key ⊢
      exact (get_1 w X S D c bs k h op a (infF op) rest hop hck ha2 hbk (by rw [hd]; simp) HO).mono (key _ (by first | (simp; done) | (simp; omega)) rfl)
    by_cases m11 : m = 11
    · subst m11
      obtain rfl : b = 0 := by omega
      obtain ⟨h2, h3⟩ := s64_inn a ha
      have hT : putT 11 a 0 [] = intF (s64 a) := by simp [putT]
      rw [hT] at hd key ⊢
      exact (get_11 w X S D c bs k h op a (infF op) rest hop hck ha (s64 a) h2 h3 hd HO).mono (key _ (by omega) rfl)
    obtain ⟨ha2, hb2⟩ := hlt m0 m9 m1 m11
    by_cases m8 : m = 8
    · subst m8
      have hT : putT 8 a b [] = uintF a ++ uintF b := by simp [putT]
      rw [hT] at hd key ⊢
      exact (get_8 w X S D c bs k h op a b (infF op) rest hop hck ha2 hb2 (by rw [hd]; simp) HO).mono (key _ (by first | (simp; done) | (simp; omega)) rfl)
    obtain rfl : b = 0 := by omega
    by_cases m5 : m = 5
    · subst m5
      have hT : putT 5 a 0 [] = uintF a ++ [UInt8.ofNat 0] := by simp [putT]
      rw [hT] at hd key ⊢
      exact (get_5 w X S D c bs k h op a (infF op) rest hop hck ha2 (by rw [hd]; simp) HO).mono (key _ (by first | (simp; done) | (simp; omega)) rfl)
    by_cases m10 : m = 10
    · subst m10
      obtain ⟨h2, h3⟩ := s32_inn a ha2
      have hT : putT 10 a 0 [] = intF (s32 a) := by simp [putT]
      rw [hT] at hd key ⊢
      exact (get_10 w X S D c bs k h op a (infF op) rest hop hck ha2 (s32 a) h2 h3 hd HO).mono (key _ (by omega) rfl)
    have hT : putT m a 0 [] = uintF a := by simp [putT, m0, m1, m3, m5, m8, m9, m10, m11]
    rw [hT] at hd key ⊢
    exact (get_d w X S D c bs k h op a (infF op) rest hop hck ha2 (m : Int) (by omega) hd HO).mono (key _ (by omega) rfl)
end Go.Proofs.Ytfemeendkjcffaa
