/-
  instr: Get of what may be.
-/
import Derived.Test.YtfemeendkjcffaaScB
import Derived.Test.YtfemeendkjcffaaRdD
import Derived.Test.YtfemeendkjcffaaInC
import Derived.Great.Walk
set_option linter.unusedVariables false
set_option linter.unusedSimpArgs false
namespace Go.Proofs.Ytfemeendkjcffaa
open Go.RowKit

theorem drop_cons {bs : List UInt8} {k : Nat} {b : UInt8} {t : List UInt8} (h : bs.drop k = b :: t) : ∃ hk : k < bs.length, bs[k] = b ∧ bs.drop (k + 1) = t := by
  have hk : k < bs.length := by
    rcases Nat.lt_or_ge k bs.length with h1 | h1
    · exact h1
    · rw [List.drop_eq_nil_of_le h1] at h; cases h
  rw [List.drop_eq_getElem_cons hk] at h
  injection h with h1 h2
  exact ⟨hk, h1, h2⟩
theorem drop_app {bs : List UInt8} {k : Nat} {l t : List UInt8} (h : bs.drop k = l ++ t) : bs.drop (k + l.length) = t := by
  rw [← List.drop_drop, h]
  exact List.drop_left
theorem u8_nat (n : Nat) (h : n < 256) : ((UInt8.ofNat n).toNat : Int) = (n : Int) := by
  simp; omega
theorem byte_at {w : World} {X : Nat} {S : Nat → Prop} {D : Option Addr} {c : Nat} {bs : List UInt8} {k : Nat} (h : Scn w X S D c bs k) {b : Nat} {t : List UInt8} (hb : b < 256) (hd : bs.drop k = UInt8.ofNat b :: t) :
    Calls Try.prog 144 #[.pointer (some ⟨X, 0, none⟩)] w fun e w' => e = .returned (.int .u8 (b : Int)) ∧ Scn w' X S D c bs (k + 1) ∧ Step (fun i => i = X) w w' := by
  obtain ⟨hk, h1, h2⟩ := drop_cons hd
  have := byte_ok w X S D c bs k h hk
  rw [h1, u8_nat b hb] at this
  exact this
theorem index_at {w : World} {X : Nat} {S : Nat → Prop} {D : Option Addr} {c : Nat} {bs : List UInt8} {k : Nat} (h : Scn w X S D c bs k) {v : Nat} {t : List UInt8} (hv : v < 4294967296) (hd : bs.drop k = uintF v ++ t) :
    Calls Try.prog 175 #[.pointer (some ⟨X, 0, none⟩)] w fun e w' => e = .returned (.int .u32 (v : Int)) ∧ Scn w' X S D c bs (k + (uintF v).length) ∧ Step (fun i => i = X) w w' :=
  index_ok w X S D c bs k h v _ (by rw [hd]; exact (rdU_back v t hv).1) hv

/-- Get, up to the kind: what is known behind ops.Of. -/
def insA (op a b : Int) (v : Value) : Array Value := #[.int .u8 op, .int .u64 a, .int .u64 b, v]

set_option maxRecDepth 100000 in
set_option maxHeartbeats 3200000 in
theorem get_0 (w : World) (X : Nat) (S : Nat → Prop) (D : Option Addr) (c : Nat) (bs : List UInt8) (k : Nat) (h : Scn w X S D c bs k) (op : Nat) (i : Inf) (rest : List UInt8) (hop : op < 256) (hck : chkF op = 0) (hd : bs.drop k = UInt8.ofNat op :: rest)
    (HO : Hid (∀ w, Calls Try.prog 25 #[.int .u8 (op : Int)] w fun e w' => e = .returned (infM i 0) ∧ Step (fun _ => False) w w')) :
    Calls Try.prog 142 #[.pointer (some ⟨X, 0, none⟩)] w fun e w' => e = .returned (.agg #[.int .u8 (op : Int), .int .u64 0, .int .u64 0, .slice none 0 0]) ∧ Scn w' X S D c bs (k + 1) ∧ Step (fun i => i = X) w w' := by
  have HC : Hid (∀ w, Calls Try.prog 26 #[.int .u8 (op : Int)] w fun e w' => e = .returned (.int .i64 0) ∧ Step (fun _ => False) w w') := fun w => by
    have := check_walk w op hop
    rw [hck] at this
    exact this
  have hxl := h.lt
  have HH := Lib.hid h
  have hlow := h.low
  clear h
  have hone0 : (insA 0 0 0 (.slice none 0 0)).all (·.oneCell') = true := by simp [insA, Value.oneCell']
  go_enter Try.func142, Try.ntmps142
  go_wp2_with fail
  refine (at_walk _ X S D c bs k (HH.out.alloc _)).mono ?_
  rintro e w5 ⟨rfl, hw5⟩
  have HB5 := Lib.hid (Blk.new w 50 (insA 0 0 0 (.slice none 0 0)))
  have HS5 := Lib.hid (HH.out.alloc (.cells (insA 0 0 0 (.slice none 0 0)) 50))
  have HT5 := Lib.hid ((Step.refl (F := fun i => i = X)).alloc (w := w) (.cells (insA 0 0 0 (.slice none 0 0)) 50))
  rw [show w.alloc (.cells (insA 0 0 0 (.slice none 0 0)) 50) = w5 from hw5.symm] at HB5 HS5 HT5
  obtain ⟨R, hR⟩ : ∃ R, R = w.heap.size := ⟨_, rfl⟩
  have hRX : R ≠ X := by omega
  have hRw : w.heap.size ≤ R := by omega
  have hRS : ∀ j, S j → j ≠ R := fun j hj => by have := hlow j hj; omega
  rw [← hR] at HB5 ⊢
  clear hR hxl hw5 HH
  go_wp2_with fail
  refine (byte_at HS5.out hop hd).mono ?_
  rintro e w6 ⟨rfl, hs6, ht6⟩
  obtain ⟨_, _, hd1⟩ := drop_cons hd
  have HB6 := Lib.hid ((HB5.out.step ht6 hRX).alloc (.cells (insA op 0 0 (.slice none 0 0)) 50))
  have HI6 := Lib.hid (Blk.new w6 50 (insA op 0 0 (.slice none 0 0)))
  have HS6 := Lib.hid (hs6.alloc (.cells (insA op 0 0 (.slice none 0 0)) 50))
  have HT6 := Lib.hid ((HT5.out.trans ht6).alloc (.cells (insA op 0 0 (.slice none 0 0)) 50))
  have hRI : R < w6.heap.size := by have := HB5.out.lt; have := ht6.size; omega
  have hXI : X < w6.heap.size := by have := HS5.out.lt; have := ht6.size; omega
  have hIw : w.heap.size ≤ w6.heap.size := (HT5.out.trans ht6).size
  clear hs6 ht6 HB5 HS5 HT5 hd
  obtain ⟨I, hI⟩ : ∃ I, I = w6.heap.size := ⟨_, rfl⟩
  obtain ⟨W, hW⟩ : ∃ W, W = w6.alloc (.cells (insA op 0 0 (.slice none 0 0)) 50) := ⟨_, rfl⟩
  rw [← hI] at HI6 hRI hXI hIw
  have hIS : ∀ j, S j → j ≠ I := fun j hj => by have := hlow j hj; omega
  have hIX : I ≠ X := by omega
  have hRI2 : R ≠ I := by omega
  rw [← hW] at HB6 HI6 HS6 HT6
  have x0 := HI6.out.cell 0
  simp [insA] at x0
  rw [hW] at x0
  rw [hI] at x0
  go_wp2_with fail
  rw [show w6.alloc (.cells #[.int .u8 (op : Int), .int .u64 0, .int .u64 0, .slice none 0 0] 50) = W from hW.symm]
  rw [← hI]
  clear x0 hW hI
  refine (HC.out _).mono ?_
  rintro e w7 ⟨rfl, ht7⟩
  have HB7 := Lib.hid (HB6.out.step ht7 id)
  have HI7 := Lib.hid (HI6.out.step ht7 id)
  have HS7 := Lib.hid (HS6.out.quiet ht7)
  have HT7 := Lib.hid (HT6.out.trans' ht7 (fun _ h => h.elim))
  clear ht7 HB6 HI6 HS6 HT6 HC
  have x0 := HI7.out.cell 0
  simp [insA] at x0
  go_wp2_with fail
  refine (aunless_ok _ _ _).mono ?_
  rintro e w8 ⟨rfl, hw8⟩
  obtain rfl : w7 = w8 := hw8.symm
  go_wp2_with fail
  refine (at_walk _ X S D c bs (k + 1) HS7.out).mono ?_
  rintro e w8 ⟨rfl, hw8⟩
  obtain rfl : w7 = w8 := hw8.symm
  go_wp2_with fail
  refine (HO.out _).mono ?_
  rintro e w8 ⟨rfl, ht8⟩
  have HB8 := Lib.hid (HB7.out.step ht8 id)
  have HI8 := Lib.hid (HI7.out.step ht8 id)
  have HS8 := Lib.hid (HS7.out.quiet ht8)
  have HT8 := Lib.hid (HT7.out.trans' ht8 (fun _ h => h.elim))
  clear ht8 HB7 HI7 HS7 HT7 HO x0
  have hfd := field_imm i 0
  simp only [infM]
  have y0 := HI8.out.cell 0
  have y1 := HI8.out.cell 1
  have y2 := HI8.out.cell 2
  have y3 := HI8.out.cell 3
  simp [insA] at y0 y1 y2 y3
  have hone : (#[.int .u8 (op : Int), .int .u64 0, .int .u64 0, .slice none 0 0] : Array Value).all (·.oneCell') = true := by simp [Value.oneCell']
  have hbl := HB8.out
  go_wp2_with (refine wpList_store_rowTo rfl 50 _ _ rfl rfl R #[.int .u8 (op : Int), .int .u64 0, .int .u64 0, .slice none 0 0] rfl rfl 50 _ hbl rfl rfl hone ?_)
  have r0 := (hbl.row #[.int .u8 (op : Int), .int .u64 0, .int .u64 0, .slice none 0 0]).cell 0
  have r1 := (hbl.row #[.int .u8 (op : Int), .int .u64 0, .int .u64 0, .slice none 0 0]).cell 1
  have r2 := (hbl.row #[.int .u8 (op : Int), .int .u64 0, .int .u64 0, .slice none 0 0]).cell 2
  have r3 := (hbl.row #[.int .u8 (op : Int), .int .u64 0, .int .u64 0, .slice none 0 0]).cell 3
  simp at r0 r1 r2 r3
  have hSF := HS8.out.step (Step.setRow (F := fun j => j = R) Step.refl (g := R) (.inl rfl) #[.int .u8 (op : Int), .int .u64 0, .int .u64 0, .slice none 0 0]) (Ne.symm hRX) hRS
  have hTF := HT8.out.setRow (g := R) (.inr hRw) #[.int .u8 (op : Int), .int .u64 0, .int .u64 0, .slice none 0 0]
  exact bodyPost_ret (v := .agg #[.int .u8 (op : Int), .int .u64 0, .int .u64 0, .slice none 0 0]) (by simp [results, Try.results142, go_sem, r0, r1, r2, r3]) rfl ⟨rfl, hSF, hTF⟩

set_option maxRecDepth 100000 in
set_option maxHeartbeats 3200000 in
theorem get_d (w : World) (X : Nat) (S : Nat → Prop) (D : Option Addr) (c : Nat) (bs : List UInt8) (k : Nat) (h : Scn w X S D c bs k) (op a : Nat) (i : Inf) (rest : List UInt8) (hop : op < 256) (hck : chkF op = 0) (ha : a < 4294967296) (m : Int) (hm : ¬ m = 0 ∧ ¬ m = 1 ∧ ¬ m = 3 ∧ ¬ m = 5 ∧ ¬ m = 8 ∧ ¬ m = 9 ∧ ¬ m = 10 ∧ ¬ m = 11) (hd : bs.drop k = UInt8.ofNat op :: uintF a ++ rest)
    (HO : Hid (∀ w, Calls Try.prog 25 #[.int .u8 (op : Int)] w fun e w' => e = .returned (infM i m) ∧ Step (fun _ => False) w w')) :
    Calls Try.prog 142 #[.pointer (some ⟨X, 0, none⟩)] w fun e w' => e = .returned (.agg #[.int .u8 (op : Int), .int .u64 (a : Int), .int .u64 0, .slice none 0 0]) ∧ Scn w' X S D c bs (k + 1 + (uintF a).length) ∧ Step (fun i => i = X) w w' := by
  have HC : Hid (∀ w, Calls Try.prog 26 #[.int .u8 (op : Int)] w fun e w' => e = .returned (.int .i64 0) ∧ Step (fun _ => False) w w') := fun w => by
    have := check_walk w op hop
    rw [hck] at this
    exact this
  have hxl := h.lt
  have HH := Lib.hid h
  have hlow := h.low
  clear h
  have hone0 : (insA 0 0 0 (.slice none 0 0)).all (·.oneCell') = true := by simp [insA, Value.oneCell']
  go_enter Try.func142, Try.ntmps142
  go_wp2_with fail
  refine (at_walk _ X S D c bs k (HH.out.alloc _)).mono ?_
  rintro e w5 ⟨rfl, hw5⟩
  have HB5 := Lib.hid (Blk.new w 50 (insA 0 0 0 (.slice none 0 0)))
  have HS5 := Lib.hid (HH.out.alloc (.cells (insA 0 0 0 (.slice none 0 0)) 50))
  have HT5 := Lib.hid ((Step.refl (F := fun i => i = X)).alloc (w := w) (.cells (insA 0 0 0 (.slice none 0 0)) 50))
  rw [show w.alloc (.cells (insA 0 0 0 (.slice none 0 0)) 50) = w5 from hw5.symm] at HB5 HS5 HT5
  obtain ⟨R, hR⟩ : ∃ R, R = w.heap.size := ⟨_, rfl⟩
  have hRX : R ≠ X := by omega
  have hRw : w.heap.size ≤ R := by omega
  have hRS : ∀ j, S j → j ≠ R := fun j hj => by have := hlow j hj; omega
  rw [← hR] at HB5 ⊢
  clear hR hxl hw5 HH
  go_wp2_with fail
  refine (byte_at HS5.out hop hd).mono ?_
  rintro e w6 ⟨rfl, hs6, ht6⟩
  obtain ⟨_, _, hd1⟩ := drop_cons hd
  have HB6 := Lib.hid ((HB5.out.step ht6 hRX).alloc (.cells (insA op 0 0 (.slice none 0 0)) 50))
  have HI6 := Lib.hid (Blk.new w6 50 (insA op 0 0 (.slice none 0 0)))
  have HS6 := Lib.hid (hs6.alloc (.cells (insA op 0 0 (.slice none 0 0)) 50))
  have HT6 := Lib.hid ((HT5.out.trans ht6).alloc (.cells (insA op 0 0 (.slice none 0 0)) 50))
  have hRI : R < w6.heap.size := by have := HB5.out.lt; have := ht6.size; omega
  have hXI : X < w6.heap.size := by have := HS5.out.lt; have := ht6.size; omega
  have hIw : w.heap.size ≤ w6.heap.size := (HT5.out.trans ht6).size
  clear hs6 ht6 HB5 HS5 HT5 hd
  obtain ⟨I, hI⟩ : ∃ I, I = w6.heap.size := ⟨_, rfl⟩
  obtain ⟨W, hW⟩ : ∃ W, W = w6.alloc (.cells (insA op 0 0 (.slice none 0 0)) 50) := ⟨_, rfl⟩
  rw [← hI] at HI6 hRI hXI hIw
  have hIS : ∀ j, S j → j ≠ I := fun j hj => by have := hlow j hj; omega
  have hIX : I ≠ X := by omega
  have hRI2 : R ≠ I := by omega
  rw [← hW] at HB6 HI6 HS6 HT6
  have x0 := HI6.out.cell 0
  simp [insA] at x0
  rw [hW] at x0
  rw [hI] at x0
  go_wp2_with fail
  rw [show w6.alloc (.cells #[.int .u8 (op : Int), .int .u64 0, .int .u64 0, .slice none 0 0] 50) = W from hW.symm]
  rw [← hI]
  clear x0 hW hI
  refine (HC.out _).mono ?_
  rintro e w7 ⟨rfl, ht7⟩
  have HB7 := Lib.hid (HB6.out.step ht7 id)
  have HI7 := Lib.hid (HI6.out.step ht7 id)
  have HS7 := Lib.hid (HS6.out.quiet ht7)
  have HT7 := Lib.hid (HT6.out.trans' ht7 (fun _ h => h.elim))
  clear ht7 HB6 HI6 HS6 HT6 HC
  have x0 := HI7.out.cell 0
  simp [insA] at x0
  go_wp2_with fail
  refine (aunless_ok _ _ _).mono ?_
  rintro e w8 ⟨rfl, hw8⟩
  obtain rfl : w7 = w8 := hw8.symm
  go_wp2_with fail
  refine (at_walk _ X S D c bs (k + 1) HS7.out).mono ?_
  rintro e w8 ⟨rfl, hw8⟩
  obtain rfl : w7 = w8 := hw8.symm
  go_wp2_with fail
  refine (HO.out _).mono ?_
  rintro e w8 ⟨rfl, ht8⟩
  have HB8 := Lib.hid (HB7.out.step ht8 id)
  have HI8 := Lib.hid (HI7.out.step ht8 id)
  have HS8 := Lib.hid (HS7.out.quiet ht8)
  have HT8 := Lib.hid (HT7.out.trans' ht8 (fun _ h => h.elim))
  clear ht8 HB7 HI7 HS7 HT7 HO x0
  have hfd := field_imm i m
  simp only [infM]
  have m0 : (m == 0) = false := by simp; omega
  have m1 : (m == 1) = false := by simp; omega
  have m3 : (m == 3) = false := by simp; omega
  have m5 : (m == 5) = false := by simp; omega
  have m8 : (m == 8) = false := by simp; omega
  have m9 : (m == 9) = false := by simp; omega
  have m10 : (m == 10) = false := by simp; omega
  have m11 : (m == 11) = false := by simp; omega
  have hu := IntWalk.u64_in (a : Int) (by omega)
  go_wp2_with fail
  refine (index_at HS8.out ha hd1).mono ?_
  rintro e w9 ⟨rfl, hs, ht⟩
  have HB9 := Lib.hid (HB8.out.step ht hRX)
  have HI9 := Lib.hid (HI8.out.step ht hIX)
  have HS9 := Lib.hid hs
  have HT9 := Lib.hid (HT8.out.trans ht)
  clear hs ht HB8 HI8 HS8 HT8
  have zz10 := HI9.out.frozen 1
  have cc10 := HI9.out.cell 1
  simp [insA] at cc10
  have HI10 : Hid (Blk (w9.setCell ⟨I, 1, none⟩ (.int .u64 (a : Int))) I 50 #[.int .u8 (op : Int), .int .u64 (a : Int), .int .u64 0, .slice none 0 0]) := by
    have hq := HI9.out.set_ 1 ((.int .u64 (a : Int)))
    simp [insA] at hq
    exact hq
  have HB10 := Lib.hid (HB9.out.far (p := ⟨I, 1, none⟩) hRI2 ((.int .u64 (a : Int))))
  have hst10 : Step (fun j => j = I) w9 (w9.setCell ⟨I, 1, none⟩ (.int .u64 (a : Int))) := (Step.refl (F := fun j => j = I)).setCell (p := ⟨I, 1, none⟩) (.inl rfl) _
  have HS10 := Lib.hid (HS9.out.step hst10 (Ne.symm hIX) hIS)
  have HT10 := Lib.hid (HT9.out.setCell (p := ⟨I, 1, none⟩) (.inr hIw) ((.int .u64 (a : Int))))
  have y0 := HI10.out.cell 0
  have y1 := HI10.out.cell 1
  have y2 := HI10.out.cell 2
  have y3 := HI10.out.cell 3
  simp [insA] at y0 y1 y2 y3
  have hone : (#[.int .u8 (op : Int), .int .u64 (a : Int), .int .u64 0, .slice none 0 0] : Array Value).all (·.oneCell') = true := by simp [Value.oneCell']
  have hbl := HB10.out
  go_wp2_with (refine wpList_store_rowTo rfl 50 _ _ rfl rfl R #[.int .u8 (op : Int), .int .u64 (a : Int), .int .u64 0, .slice none 0 0] rfl rfl 50 _ hbl rfl rfl hone ?_)
  have r0 := (hbl.row #[.int .u8 (op : Int), .int .u64 (a : Int), .int .u64 0, .slice none 0 0]).cell 0
  have r1 := (hbl.row #[.int .u8 (op : Int), .int .u64 (a : Int), .int .u64 0, .slice none 0 0]).cell 1
  have r2 := (hbl.row #[.int .u8 (op : Int), .int .u64 (a : Int), .int .u64 0, .slice none 0 0]).cell 2
  have r3 := (hbl.row #[.int .u8 (op : Int), .int .u64 (a : Int), .int .u64 0, .slice none 0 0]).cell 3
  simp at r0 r1 r2 r3
  have hSF := HS10.out.step (Step.setRow (F := fun j => j = R) Step.refl (g := R) (.inl rfl) #[.int .u8 (op : Int), .int .u64 (a : Int), .int .u64 0, .slice none 0 0]) (Ne.symm hRX) hRS
  have hTF := HT10.out.setRow (g := R) (.inr hRw) #[.int .u8 (op : Int), .int .u64 (a : Int), .int .u64 0, .slice none 0 0]
  exact bodyPost_ret (v := .agg #[.int .u8 (op : Int), .int .u64 (a : Int), .int .u64 0, .slice none 0 0]) (by simp [results, Try.results142, go_sem, r0, r1, r2, r3]) rfl ⟨rfl, hSF, hTF⟩

set_option maxRecDepth 100000 in
set_option maxHeartbeats 3200000 in
theorem get_9 (w : World) (X : Nat) (S : Nat → Prop) (D : Option Addr) (c : Nat) (bs : List UInt8) (k : Nat) (h : Scn w X S D c bs k) (op : Nat) (i : Inf) (rest : List UInt8) (hop : op < 256) (hck : chkF op = 0) (hd : bs.drop k = UInt8.ofNat op :: UInt8.ofNat 0 :: rest)
    (HO : Hid (∀ w, Calls Try.prog 25 #[.int .u8 (op : Int)] w fun e w' => e = .returned (infM i 9) ∧ Step (fun _ => False) w w')) :
    Calls Try.prog 142 #[.pointer (some ⟨X, 0, none⟩)] w fun e w' => e = .returned (.agg #[.int .u8 (op : Int), .int .u64 0, .int .u64 0, .slice none 0 0]) ∧ Scn w' X S D c bs (k + 1 + 1) ∧ Step (fun i => i = X) w w' := by
  have HC : Hid (∀ w, Calls Try.prog 26 #[.int .u8 (op : Int)] w fun e w' => e = .returned (.int .i64 0) ∧ Step (fun _ => False) w w') := fun w => by
    have := check_walk w op hop
    rw [hck] at this
    exact this
  have hxl := h.lt
  have HH := Lib.hid h
  have hlow := h.low
  clear h
  have hone0 : (insA 0 0 0 (.slice none 0 0)).all (·.oneCell') = true := by simp [insA, Value.oneCell']
  go_enter Try.func142, Try.ntmps142
  go_wp2_with fail
  refine (at_walk _ X S D c bs k (HH.out.alloc _)).mono ?_
  rintro e w5 ⟨rfl, hw5⟩
  have HB5 := Lib.hid (Blk.new w 50 (insA 0 0 0 (.slice none 0 0)))
  have HS5 := Lib.hid (HH.out.alloc (.cells (insA 0 0 0 (.slice none 0 0)) 50))
  have HT5 := Lib.hid ((Step.refl (F := fun i => i = X)).alloc (w := w) (.cells (insA 0 0 0 (.slice none 0 0)) 50))
  rw [show w.alloc (.cells (insA 0 0 0 (.slice none 0 0)) 50) = w5 from hw5.symm] at HB5 HS5 HT5
  obtain ⟨R, hR⟩ : ∃ R, R = w.heap.size := ⟨_, rfl⟩
  have hRX : R ≠ X := by omega
  have hRw : w.heap.size ≤ R := by omega
  have hRS : ∀ j, S j → j ≠ R := fun j hj => by have := hlow j hj; omega
  rw [← hR] at HB5 ⊢
  clear hR hxl hw5 HH
  go_wp2_with fail
  refine (byte_at HS5.out hop hd).mono ?_
  rintro e w6 ⟨rfl, hs6, ht6⟩
  obtain ⟨_, _, hd1⟩ := drop_cons hd
  have HB6 := Lib.hid ((HB5.out.step ht6 hRX).alloc (.cells (insA op 0 0 (.slice none 0 0)) 50))
  have HI6 := Lib.hid (Blk.new w6 50 (insA op 0 0 (.slice none 0 0)))
  have HS6 := Lib.hid (hs6.alloc (.cells (insA op 0 0 (.slice none 0 0)) 50))
  have HT6 := Lib.hid ((HT5.out.trans ht6).alloc (.cells (insA op 0 0 (.slice none 0 0)) 50))
  have hRI : R < w6.heap.size := by have := HB5.out.lt; have := ht6.size; omega
  have hXI : X < w6.heap.size := by have := HS5.out.lt; have := ht6.size; omega
  have hIw : w.heap.size ≤ w6.heap.size := (HT5.out.trans ht6).size
  clear hs6 ht6 HB5 HS5 HT5 hd
  obtain ⟨I, hI⟩ : ∃ I, I = w6.heap.size := ⟨_, rfl⟩
  obtain ⟨W, hW⟩ : ∃ W, W = w6.alloc (.cells (insA op 0 0 (.slice none 0 0)) 50) := ⟨_, rfl⟩
  rw [← hI] at HI6 hRI hXI hIw
  have hIS : ∀ j, S j → j ≠ I := fun j hj => by have := hlow j hj; omega
  have hIX : I ≠ X := by omega
  have hRI2 : R ≠ I := by omega
  rw [← hW] at HB6 HI6 HS6 HT6
  have x0 := HI6.out.cell 0
  simp [insA] at x0
  rw [hW] at x0
  rw [hI] at x0
  go_wp2_with fail
  rw [show w6.alloc (.cells #[.int .u8 (op : Int), .int .u64 0, .int .u64 0, .slice none 0 0] 50) = W from hW.symm]
  rw [← hI]
  clear x0 hW hI
  refine (HC.out _).mono ?_
  rintro e w7 ⟨rfl, ht7⟩
  have HB7 := Lib.hid (HB6.out.step ht7 id)
  have HI7 := Lib.hid (HI6.out.step ht7 id)
  have HS7 := Lib.hid (HS6.out.quiet ht7)
  have HT7 := Lib.hid (HT6.out.trans' ht7 (fun _ h => h.elim))
  clear ht7 HB6 HI6 HS6 HT6 HC
  have x0 := HI7.out.cell 0
  simp [insA] at x0
  go_wp2_with fail
  refine (aunless_ok _ _ _).mono ?_
  rintro e w8 ⟨rfl, hw8⟩
  obtain rfl : w7 = w8 := hw8.symm
  go_wp2_with fail
  refine (at_walk _ X S D c bs (k + 1) HS7.out).mono ?_
  rintro e w8 ⟨rfl, hw8⟩
  obtain rfl : w7 = w8 := hw8.symm
  go_wp2_with fail
  refine (HO.out _).mono ?_
  rintro e w8 ⟨rfl, ht8⟩
  have HB8 := Lib.hid (HB7.out.step ht8 id)
  have HI8 := Lib.hid (HI7.out.step ht8 id)
  have HS8 := Lib.hid (HS7.out.quiet ht8)
  have HT8 := Lib.hid (HT7.out.trans' ht8 (fun _ h => h.elim))
  clear ht8 HB7 HI7 HS7 HT7 HO x0
  have hfd := field_imm i 9
  simp only [infM]
  go_wp2_with fail
  refine (byte_at (b := 0) HS8.out (by decide) hd1).mono ?_
  rintro e w9 ⟨rfl, hs, ht⟩
  have HB9 := Lib.hid (HB8.out.step ht hRX)
  have HI9 := Lib.hid (HI8.out.step ht hIX)
  have HS9 := Lib.hid hs
  have HT9 := Lib.hid (HT8.out.trans ht)
  clear hs ht HB8 HI8 HS8 HT8
  go_wp2_with fail
  refine (aunless_ok _ _ _).mono ?_
  rintro e wS ⟨rfl, rfl⟩
  have y0 := HI9.out.cell 0
  have y1 := HI9.out.cell 1
  have y2 := HI9.out.cell 2
  have y3 := HI9.out.cell 3
  simp [insA] at y0 y1 y2 y3
  have hone : (#[.int .u8 (op : Int), .int .u64 0, .int .u64 0, .slice none 0 0] : Array Value).all (·.oneCell') = true := by simp [Value.oneCell']
  have hbl := HB9.out
  go_wp2_with (refine wpList_store_rowTo rfl 50 _ _ rfl rfl R #[.int .u8 (op : Int), .int .u64 0, .int .u64 0, .slice none 0 0] rfl rfl 50 _ hbl rfl rfl hone ?_)
  have r0 := (hbl.row #[.int .u8 (op : Int), .int .u64 0, .int .u64 0, .slice none 0 0]).cell 0
  have r1 := (hbl.row #[.int .u8 (op : Int), .int .u64 0, .int .u64 0, .slice none 0 0]).cell 1
  have r2 := (hbl.row #[.int .u8 (op : Int), .int .u64 0, .int .u64 0, .slice none 0 0]).cell 2
  have r3 := (hbl.row #[.int .u8 (op : Int), .int .u64 0, .int .u64 0, .slice none 0 0]).cell 3
  simp at r0 r1 r2 r3
  have hSF := HS9.out.step (Step.setRow (F := fun j => j = R) Step.refl (g := R) (.inl rfl) #[.int .u8 (op : Int), .int .u64 0, .int .u64 0, .slice none 0 0]) (Ne.symm hRX) hRS
  have hTF := HT9.out.setRow (g := R) (.inr hRw) #[.int .u8 (op : Int), .int .u64 0, .int .u64 0, .slice none 0 0]
  exact bodyPost_ret (v := .agg #[.int .u8 (op : Int), .int .u64 0, .int .u64 0, .slice none 0 0]) (by simp [results, Try.results142, go_sem, r0, r1, r2, r3]) rfl ⟨rfl, hSF, hTF⟩

set_option maxRecDepth 100000 in
set_option maxHeartbeats 3200000 in
theorem get_1 (w : World) (X : Nat) (S : Nat → Prop) (D : Option Addr) (c : Nat) (bs : List UInt8) (k : Nat) (h : Scn w X S D c bs k) (op a : Nat) (i : Inf) (rest : List UInt8) (hop : op < 256) (hck : chkF op = 0) (ha : a < 256) (hbk : blkF a = 0) (hd : bs.drop k = UInt8.ofNat op :: UInt8.ofNat a :: rest)
    (HO : Hid (∀ w, Calls Try.prog 25 #[.int .u8 (op : Int)] w fun e w' => e = .returned (infM i 1) ∧ Step (fun _ => False) w w')) :
    Calls Try.prog 142 #[.pointer (some ⟨X, 0, none⟩)] w fun e w' => e = .returned (.agg #[.int .u8 (op : Int), .int .u64 (a : Int), .int .u64 0, .slice none 0 0]) ∧ Scn w' X S D c bs (k + 1 + 1) ∧ Step (fun i => i = X) w w' := by
  have HC : Hid (∀ w, Calls Try.prog 26 #[.int .u8 (op : Int)] w fun e w' => e = .returned (.int .i64 0) ∧ Step (fun _ => False) w w') := fun w => by
    have := check_walk w op hop
    rw [hck] at this
    exact this
  have hxl := h.lt
  have HH := Lib.hid h
  have hlow := h.low
  clear h
  have hone0 : (insA 0 0 0 (.slice none 0 0)).all (·.oneCell') = true := by simp [insA, Value.oneCell']
  go_enter Try.func142, Try.ntmps142
  go_wp2_with fail
  refine (at_walk _ X S D c bs k (HH.out.alloc _)).mono ?_
  rintro e w5 ⟨rfl, hw5⟩
  have HB5 := Lib.hid (Blk.new w 50 (insA 0 0 0 (.slice none 0 0)))
  have HS5 := Lib.hid (HH.out.alloc (.cells (insA 0 0 0 (.slice none 0 0)) 50))
  have HT5 := Lib.hid ((Step.refl (F := fun i => i = X)).alloc (w := w) (.cells (insA 0 0 0 (.slice none 0 0)) 50))
  rw [show w.alloc (.cells (insA 0 0 0 (.slice none 0 0)) 50) = w5 from hw5.symm] at HB5 HS5 HT5
  obtain ⟨R, hR⟩ : ∃ R, R = w.heap.size := ⟨_, rfl⟩
  have hRX : R ≠ X := by omega
  have hRw : w.heap.size ≤ R := by omega
  have hRS : ∀ j, S j → j ≠ R := fun j hj => by have := hlow j hj; omega
  rw [← hR] at HB5 ⊢
  clear hR hxl hw5 HH
  go_wp2_with fail
  refine (byte_at HS5.out hop hd).mono ?_
  rintro e w6 ⟨rfl, hs6, ht6⟩
  obtain ⟨_, _, hd1⟩ := drop_cons hd
  have HB6 := Lib.hid ((HB5.out.step ht6 hRX).alloc (.cells (insA op 0 0 (.slice none 0 0)) 50))
  have HI6 := Lib.hid (Blk.new w6 50 (insA op 0 0 (.slice none 0 0)))
  have HS6 := Lib.hid (hs6.alloc (.cells (insA op 0 0 (.slice none 0 0)) 50))
  have HT6 := Lib.hid ((HT5.out.trans ht6).alloc (.cells (insA op 0 0 (.slice none 0 0)) 50))
  have hRI : R < w6.heap.size := by have := HB5.out.lt; have := ht6.size; omega
  have hXI : X < w6.heap.size := by have := HS5.out.lt; have := ht6.size; omega
  have hIw : w.heap.size ≤ w6.heap.size := (HT5.out.trans ht6).size
  clear hs6 ht6 HB5 HS5 HT5 hd
  obtain ⟨I, hI⟩ : ∃ I, I = w6.heap.size := ⟨_, rfl⟩
  obtain ⟨W, hW⟩ : ∃ W, W = w6.alloc (.cells (insA op 0 0 (.slice none 0 0)) 50) := ⟨_, rfl⟩
  rw [← hI] at HI6 hRI hXI hIw
  have hIS : ∀ j, S j → j ≠ I := fun j hj => by have := hlow j hj; omega
  have hIX : I ≠ X := by omega
  have hRI2 : R ≠ I := by omega
  rw [← hW] at HB6 HI6 HS6 HT6
  have x0 := HI6.out.cell 0
  simp [insA] at x0
  rw [hW] at x0
  rw [hI] at x0
  go_wp2_with fail
  rw [show w6.alloc (.cells #[.int .u8 (op : Int), .int .u64 0, .int .u64 0, .slice none 0 0] 50) = W from hW.symm]
  rw [← hI]
  clear x0 hW hI
  refine (HC.out _).mono ?_
  rintro e w7 ⟨rfl, ht7⟩
  have HB7 := Lib.hid (HB6.out.step ht7 id)
  have HI7 := Lib.hid (HI6.out.step ht7 id)
  have HS7 := Lib.hid (HS6.out.quiet ht7)
  have HT7 := Lib.hid (HT6.out.trans' ht7 (fun _ h => h.elim))
  clear ht7 HB6 HI6 HS6 HT6 HC
  have x0 := HI7.out.cell 0
  simp [insA] at x0
  go_wp2_with fail
  refine (aunless_ok _ _ _).mono ?_
  rintro e w8 ⟨rfl, hw8⟩
  obtain rfl : w7 = w8 := hw8.symm
  go_wp2_with fail
  refine (at_walk _ X S D c bs (k + 1) HS7.out).mono ?_
  rintro e w8 ⟨rfl, hw8⟩
  obtain rfl : w7 = w8 := hw8.symm
  go_wp2_with fail
  refine (HO.out _).mono ?_
  rintro e w8 ⟨rfl, ht8⟩
  have HB8 := Lib.hid (HB7.out.step ht8 id)
  have HI8 := Lib.hid (HI7.out.step ht8 id)
  have HS8 := Lib.hid (HS7.out.quiet ht8)
  have HT8 := Lib.hid (HT7.out.trans' ht8 (fun _ h => h.elim))
  clear ht8 HB7 HI7 HS7 HT7 HO x0
  have hfd := field_imm i 1
  simp only [infM]
  have hu := IntWalk.u64_in (a : Int) (by omega)
  have HBK : Hid (∀ w, Calls Try.prog 153 #[.int .u64 (a : Int)] w fun e w' => e = .returned (.int .i64 0) ∧ w' = w) := fun w => by
    have := block_walk w a
    rw [hbk] at this
    exact this
  go_wp2_with fail
  refine (byte_at HS8.out ha hd1).mono ?_
  rintro e w9 ⟨rfl, hs, ht⟩
  have HB9 := Lib.hid (HB8.out.step ht hRX)
  have HI9 := Lib.hid (HI8.out.step ht hIX)
  have HS9 := Lib.hid hs
  have HT9 := Lib.hid (HT8.out.trans ht)
  clear hs ht HB8 HI8 HS8 HT8
  have zz10 := HI9.out.frozen 1
  have cc10 := HI9.out.cell 1
  simp [insA] at cc10
  have HI10 : Hid (Blk (w9.setCell ⟨I, 1, none⟩ (.int .u64 (a : Int))) I 50 #[.int .u8 (op : Int), .int .u64 (a : Int), .int .u64 0, .slice none 0 0]) := by
    have hq := HI9.out.set_ 1 ((.int .u64 (a : Int)))
    simp [insA] at hq
    exact hq
  have HB10 := Lib.hid (HB9.out.far (p := ⟨I, 1, none⟩) hRI2 ((.int .u64 (a : Int))))
  have hst10 : Step (fun j => j = I) w9 (w9.setCell ⟨I, 1, none⟩ (.int .u64 (a : Int))) := (Step.refl (F := fun j => j = I)).setCell (p := ⟨I, 1, none⟩) (.inl rfl) _
  have HS10 := Lib.hid (HS9.out.step hst10 (Ne.symm hIX) hIS)
  have HT10 := Lib.hid (HT9.out.setCell (p := ⟨I, 1, none⟩) (.inr hIw) ((.int .u64 (a : Int))))
  have y0 := HI10.out.cell 0
  have y1 := HI10.out.cell 1
  have y2 := HI10.out.cell 2
  have y3 := HI10.out.cell 3
  simp [insA] at y0 y1 y2 y3
  go_wp2_with fail
  refine (HBK.out _).mono ?_
  rintro e wS ⟨rfl, rfl⟩
  go_wp2_with fail
  refine (aunless_ok _ _ _).mono ?_
  rintro e wS ⟨rfl, rfl⟩
  have y0 := HI10.out.cell 0
  have y1 := HI10.out.cell 1
  have y2 := HI10.out.cell 2
  have y3 := HI10.out.cell 3
  simp [insA] at y0 y1 y2 y3
  have hone : (#[.int .u8 (op : Int), .int .u64 (a : Int), .int .u64 0, .slice none 0 0] : Array Value).all (·.oneCell') = true := by simp [Value.oneCell']
  have hbl := HB10.out
  go_wp2_with (refine wpList_store_rowTo rfl 50 _ _ rfl rfl R #[.int .u8 (op : Int), .int .u64 (a : Int), .int .u64 0, .slice none 0 0] rfl rfl 50 _ hbl rfl rfl hone ?_)
  have r0 := (hbl.row #[.int .u8 (op : Int), .int .u64 (a : Int), .int .u64 0, .slice none 0 0]).cell 0
  have r1 := (hbl.row #[.int .u8 (op : Int), .int .u64 (a : Int), .int .u64 0, .slice none 0 0]).cell 1
  have r2 := (hbl.row #[.int .u8 (op : Int), .int .u64 (a : Int), .int .u64 0, .slice none 0 0]).cell 2
  have r3 := (hbl.row #[.int .u8 (op : Int), .int .u64 (a : Int), .int .u64 0, .slice none 0 0]).cell 3
  simp at r0 r1 r2 r3
  have hSF := HS10.out.step (Step.setRow (F := fun j => j = R) Step.refl (g := R) (.inl rfl) #[.int .u8 (op : Int), .int .u64 (a : Int), .int .u64 0, .slice none 0 0]) (Ne.symm hRX) hRS
  have hTF := HT10.out.setRow (g := R) (.inr hRw) #[.int .u8 (op : Int), .int .u64 (a : Int), .int .u64 0, .slice none 0 0]
  exact bodyPost_ret (v := .agg #[.int .u8 (op : Int), .int .u64 (a : Int), .int .u64 0, .slice none 0 0]) (by simp [results, Try.results142, go_sem, r0, r1, r2, r3]) rfl ⟨rfl, hSF, hTF⟩

set_option maxRecDepth 100000 in
set_option maxHeartbeats 3200000 in
theorem get_5 (w : World) (X : Nat) (S : Nat → Prop) (D : Option Addr) (c : Nat) (bs : List UInt8) (k : Nat) (h : Scn w X S D c bs k) (op a : Nat) (i : Inf) (rest : List UInt8) (hop : op < 256) (hck : chkF op = 0) (ha : a < 4294967296) (hd : bs.drop k = UInt8.ofNat op :: uintF a ++ UInt8.ofNat 0 :: rest)
    (HO : Hid (∀ w, Calls Try.prog 25 #[.int .u8 (op : Int)] w fun e w' => e = .returned (infM i 5) ∧ Step (fun _ => False) w w')) :
    Calls Try.prog 142 #[.pointer (some ⟨X, 0, none⟩)] w fun e w' => e = .returned (.agg #[.int .u8 (op : Int), .int .u64 (a : Int), .int .u64 0, .slice none 0 0]) ∧ Scn w' X S D c bs (k + 1 + (uintF a).length + 1) ∧ Step (fun i => i = X) w w' := by
  have HC : Hid (∀ w, Calls Try.prog 26 #[.int .u8 (op : Int)] w fun e w' => e = .returned (.int .i64 0) ∧ Step (fun _ => False) w w') := fun w => by
    have := check_walk w op hop
    rw [hck] at this
    exact this
  have hxl := h.lt
  have HH := Lib.hid h
  have hlow := h.low
  clear h
  have hone0 : (insA 0 0 0 (.slice none 0 0)).all (·.oneCell') = true := by simp [insA, Value.oneCell']
  go_enter Try.func142, Try.ntmps142
  go_wp2_with fail
  refine (at_walk _ X S D c bs k (HH.out.alloc _)).mono ?_
  rintro e w5 ⟨rfl, hw5⟩
  have HB5 := Lib.hid (Blk.new w 50 (insA 0 0 0 (.slice none 0 0)))
  have HS5 := Lib.hid (HH.out.alloc (.cells (insA 0 0 0 (.slice none 0 0)) 50))
  have HT5 := Lib.hid ((Step.refl (F := fun i => i = X)).alloc (w := w) (.cells (insA 0 0 0 (.slice none 0 0)) 50))
  rw [show w.alloc (.cells (insA 0 0 0 (.slice none 0 0)) 50) = w5 from hw5.symm] at HB5 HS5 HT5
  obtain ⟨R, hR⟩ : ∃ R, R = w.heap.size := ⟨_, rfl⟩
  have hRX : R ≠ X := by omega
  have hRw : w.heap.size ≤ R := by omega
  have hRS : ∀ j, S j → j ≠ R := fun j hj => by have := hlow j hj; omega
  rw [← hR] at HB5 ⊢
  clear hR hxl hw5 HH
  go_wp2_with fail
  refine (byte_at HS5.out hop hd).mono ?_
  rintro e w6 ⟨rfl, hs6, ht6⟩
  obtain ⟨_, _, hd1⟩ := drop_cons hd
  have HB6 := Lib.hid ((HB5.out.step ht6 hRX).alloc (.cells (insA op 0 0 (.slice none 0 0)) 50))
  have HI6 := Lib.hid (Blk.new w6 50 (insA op 0 0 (.slice none 0 0)))
  have HS6 := Lib.hid (hs6.alloc (.cells (insA op 0 0 (.slice none 0 0)) 50))
  have HT6 := Lib.hid ((HT5.out.trans ht6).alloc (.cells (insA op 0 0 (.slice none 0 0)) 50))
  have hRI : R < w6.heap.size := by have := HB5.out.lt; have := ht6.size; omega
  have hXI : X < w6.heap.size := by have := HS5.out.lt; have := ht6.size; omega
  have hIw : w.heap.size ≤ w6.heap.size := (HT5.out.trans ht6).size
  clear hs6 ht6 HB5 HS5 HT5 hd
  obtain ⟨I, hI⟩ : ∃ I, I = w6.heap.size := ⟨_, rfl⟩
  obtain ⟨W, hW⟩ : ∃ W, W = w6.alloc (.cells (insA op 0 0 (.slice none 0 0)) 50) := ⟨_, rfl⟩
  rw [← hI] at HI6 hRI hXI hIw
  have hIS : ∀ j, S j → j ≠ I := fun j hj => by have := hlow j hj; omega
  have hIX : I ≠ X := by omega
  have hRI2 : R ≠ I := by omega
  rw [← hW] at HB6 HI6 HS6 HT6
  have x0 := HI6.out.cell 0
  simp [insA] at x0
  rw [hW] at x0
  rw [hI] at x0
  go_wp2_with fail
  rw [show w6.alloc (.cells #[.int .u8 (op : Int), .int .u64 0, .int .u64 0, .slice none 0 0] 50) = W from hW.symm]
  rw [← hI]
  clear x0 hW hI
  refine (HC.out _).mono ?_
  rintro e w7 ⟨rfl, ht7⟩
  have HB7 := Lib.hid (HB6.out.step ht7 id)
  have HI7 := Lib.hid (HI6.out.step ht7 id)
  have HS7 := Lib.hid (HS6.out.quiet ht7)
  have HT7 := Lib.hid (HT6.out.trans' ht7 (fun _ h => h.elim))
  clear ht7 HB6 HI6 HS6 HT6 HC
  have x0 := HI7.out.cell 0
  simp [insA] at x0
  go_wp2_with fail
  refine (aunless_ok _ _ _).mono ?_
  rintro e w8 ⟨rfl, hw8⟩
  obtain rfl : w7 = w8 := hw8.symm
  go_wp2_with fail
  refine (at_walk _ X S D c bs (k + 1) HS7.out).mono ?_
  rintro e w8 ⟨rfl, hw8⟩
  obtain rfl : w7 = w8 := hw8.symm
  go_wp2_with fail
  refine (HO.out _).mono ?_
  rintro e w8 ⟨rfl, ht8⟩
  have HB8 := Lib.hid (HB7.out.step ht8 id)
  have HI8 := Lib.hid (HI7.out.step ht8 id)
  have HS8 := Lib.hid (HS7.out.quiet ht8)
  have HT8 := Lib.hid (HT7.out.trans' ht8 (fun _ h => h.elim))
  clear ht8 HB7 HI7 HS7 HT7 HO x0
  have hfd := field_imm i 5
  simp only [infM]
  have hu := IntWalk.u64_in (a : Int) (by omega)
  have hd2 := drop_app hd1
  go_wp2_with fail
  refine (index_at HS8.out ha hd1).mono ?_
  rintro e w9 ⟨rfl, hs, ht⟩
  have HB9 := Lib.hid (HB8.out.step ht hRX)
  have HI9 := Lib.hid (HI8.out.step ht hIX)
  have HS9 := Lib.hid hs
  have HT9 := Lib.hid (HT8.out.trans ht)
  clear hs ht HB8 HI8 HS8 HT8
  have zz10 := HI9.out.frozen 1
  have cc10 := HI9.out.cell 1
  simp [insA] at cc10
  have HI10 : Hid (Blk (w9.setCell ⟨I, 1, none⟩ (.int .u64 (a : Int))) I 50 #[.int .u8 (op : Int), .int .u64 (a : Int), .int .u64 0, .slice none 0 0]) := by
    have hq := HI9.out.set_ 1 ((.int .u64 (a : Int)))
    simp [insA] at hq
    exact hq
  have HB10 := Lib.hid (HB9.out.far (p := ⟨I, 1, none⟩) hRI2 ((.int .u64 (a : Int))))
  have hst10 : Step (fun j => j = I) w9 (w9.setCell ⟨I, 1, none⟩ (.int .u64 (a : Int))) := (Step.refl (F := fun j => j = I)).setCell (p := ⟨I, 1, none⟩) (.inl rfl) _
  have HS10 := Lib.hid (HS9.out.step hst10 (Ne.symm hIX) hIS)
  have HT10 := Lib.hid (HT9.out.setCell (p := ⟨I, 1, none⟩) (.inr hIw) ((.int .u64 (a : Int))))
  go_wp2_with fail
  refine (at_walk _ X S D c bs _ HS10.out).mono ?_
  rintro e wS ⟨rfl, rfl⟩
  go_wp2_with fail
  refine (byte_at (b := 0) HS10.out (by decide) hd2).mono ?_
  rintro e w11 ⟨rfl, hs, ht⟩
  have HB11 := Lib.hid (HB10.out.step ht hRX)
  have HI11 := Lib.hid (HI10.out.step ht hIX)
  have HS11 := Lib.hid hs
  have HT11 := Lib.hid (HT10.out.trans ht)
  clear hs ht HB10 HI10 HS10 HT10
  go_wp2_with fail
  refine (aunless_ok _ _ _).mono ?_
  rintro e wS ⟨rfl, rfl⟩
  have y0 := HI11.out.cell 0
  have y1 := HI11.out.cell 1
  have y2 := HI11.out.cell 2
  have y3 := HI11.out.cell 3
  simp [insA] at y0 y1 y2 y3
  have hone : (#[.int .u8 (op : Int), .int .u64 (a : Int), .int .u64 0, .slice none 0 0] : Array Value).all (·.oneCell') = true := by simp [Value.oneCell']
  have hbl := HB11.out
  go_wp2_with (refine wpList_store_rowTo rfl 50 _ _ rfl rfl R #[.int .u8 (op : Int), .int .u64 (a : Int), .int .u64 0, .slice none 0 0] rfl rfl 50 _ hbl rfl rfl hone ?_)
  have r0 := (hbl.row #[.int .u8 (op : Int), .int .u64 (a : Int), .int .u64 0, .slice none 0 0]).cell 0
  have r1 := (hbl.row #[.int .u8 (op : Int), .int .u64 (a : Int), .int .u64 0, .slice none 0 0]).cell 1
  have r2 := (hbl.row #[.int .u8 (op : Int), .int .u64 (a : Int), .int .u64 0, .slice none 0 0]).cell 2
  have r3 := (hbl.row #[.int .u8 (op : Int), .int .u64 (a : Int), .int .u64 0, .slice none 0 0]).cell 3
  simp at r0 r1 r2 r3
  have hSF := HS11.out.step (Step.setRow (F := fun j => j = R) Step.refl (g := R) (.inl rfl) #[.int .u8 (op : Int), .int .u64 (a : Int), .int .u64 0, .slice none 0 0]) (Ne.symm hRX) hRS
  have hTF := HT11.out.setRow (g := R) (.inr hRw) #[.int .u8 (op : Int), .int .u64 (a : Int), .int .u64 0, .slice none 0 0]
  exact bodyPost_ret (v := .agg #[.int .u8 (op : Int), .int .u64 (a : Int), .int .u64 0, .slice none 0 0]) (by simp [results, Try.results142, go_sem, r0, r1, r2, r3]) rfl ⟨rfl, hSF, hTF⟩

set_option maxRecDepth 100000 in
set_option maxHeartbeats 3200000 in
theorem get_8 (w : World) (X : Nat) (S : Nat → Prop) (D : Option Addr) (c : Nat) (bs : List UInt8) (k : Nat) (h : Scn w X S D c bs k) (op a b : Nat) (i : Inf) (rest : List UInt8) (hop : op < 256) (hck : chkF op = 0) (ha : a < 4294967296) (hb : b < 4294967296) (hd : bs.drop k = UInt8.ofNat op :: uintF a ++ (uintF b ++ rest))
    (HO : Hid (∀ w, Calls Try.prog 25 #[.int .u8 (op : Int)] w fun e w' => e = .returned (infM i 8) ∧ Step (fun _ => False) w w')) :
    Calls Try.prog 142 #[.pointer (some ⟨X, 0, none⟩)] w fun e w' => e = .returned (.agg #[.int .u8 (op : Int), .int .u64 (a : Int), .int .u64 (b : Int), .slice none 0 0]) ∧ Scn w' X S D c bs (k + 1 + (uintF a).length + (uintF b).length) ∧ Step (fun i => i = X) w w' := by
  have HC : Hid (∀ w, Calls Try.prog 26 #[.int .u8 (op : Int)] w fun e w' => e = .returned (.int .i64 0) ∧ Step (fun _ => False) w w') := fun w => by
    have := check_walk w op hop
    rw [hck] at this
    exact this
  have hxl := h.lt
  have HH := Lib.hid h
  have hlow := h.low
  clear h
  have hone0 : (insA 0 0 0 (.slice none 0 0)).all (·.oneCell') = true := by simp [insA, Value.oneCell']
  go_enter Try.func142, Try.ntmps142
  go_wp2_with fail
  refine (at_walk _ X S D c bs k (HH.out.alloc _)).mono ?_
  rintro e w5 ⟨rfl, hw5⟩
  have HB5 := Lib.hid (Blk.new w 50 (insA 0 0 0 (.slice none 0 0)))
  have HS5 := Lib.hid (HH.out.alloc (.cells (insA 0 0 0 (.slice none 0 0)) 50))
  have HT5 := Lib.hid ((Step.refl (F := fun i => i = X)).alloc (w := w) (.cells (insA 0 0 0 (.slice none 0 0)) 50))
  rw [show w.alloc (.cells (insA 0 0 0 (.slice none 0 0)) 50) = w5 from hw5.symm] at HB5 HS5 HT5
  obtain ⟨R, hR⟩ : ∃ R, R = w.heap.size := ⟨_, rfl⟩
  have hRX : R ≠ X := by omega
  have hRw : w.heap.size ≤ R := by omega
  have hRS : ∀ j, S j → j ≠ R := fun j hj => by have := hlow j hj; omega
  rw [← hR] at HB5 ⊢
  clear hR hxl hw5 HH
  go_wp2_with fail
  refine (byte_at HS5.out hop hd).mono ?_
  rintro e w6 ⟨rfl, hs6, ht6⟩
  obtain ⟨_, _, hd1⟩ := drop_cons hd
  have HB6 := Lib.hid ((HB5.out.step ht6 hRX).alloc (.cells (insA op 0 0 (.slice none 0 0)) 50))
  have HI6 := Lib.hid (Blk.new w6 50 (insA op 0 0 (.slice none 0 0)))
  have HS6 := Lib.hid (hs6.alloc (.cells (insA op 0 0 (.slice none 0 0)) 50))
  have HT6 := Lib.hid ((HT5.out.trans ht6).alloc (.cells (insA op 0 0 (.slice none 0 0)) 50))
  have hRI : R < w6.heap.size := by have := HB5.out.lt; have := ht6.size; omega
  have hXI : X < w6.heap.size := by have := HS5.out.lt; have := ht6.size; omega
  have hIw : w.heap.size ≤ w6.heap.size := (HT5.out.trans ht6).size
  clear hs6 ht6 HB5 HS5 HT5 hd
  obtain ⟨I, hI⟩ : ∃ I, I = w6.heap.size := ⟨_, rfl⟩
  obtain ⟨W, hW⟩ : ∃ W, W = w6.alloc (.cells (insA op 0 0 (.slice none 0 0)) 50) := ⟨_, rfl⟩
  rw [← hI] at HI6 hRI hXI hIw
  have hIS : ∀ j, S j → j ≠ I := fun j hj => by have := hlow j hj; omega
  have hIX : I ≠ X := by omega
  have hRI2 : R ≠ I := by omega
  rw [← hW] at HB6 HI6 HS6 HT6
  have x0 := HI6.out.cell 0
  simp [insA] at x0
  rw [hW] at x0
  rw [hI] at x0
  go_wp2_with fail
  rw [show w6.alloc (.cells #[.int .u8 (op : Int), .int .u64 0, .int .u64 0, .slice none 0 0] 50) = W from hW.symm]
  rw [← hI]
  clear x0 hW hI
  refine (HC.out _).mono ?_
  rintro e w7 ⟨rfl, ht7⟩
  have HB7 := Lib.hid (HB6.out.step ht7 id)
  have HI7 := Lib.hid (HI6.out.step ht7 id)
  have HS7 := Lib.hid (HS6.out.quiet ht7)
  have HT7 := Lib.hid (HT6.out.trans' ht7 (fun _ h => h.elim))
  clear ht7 HB6 HI6 HS6 HT6 HC
  have x0 := HI7.out.cell 0
  simp [insA] at x0
  go_wp2_with fail
  refine (aunless_ok _ _ _).mono ?_
  rintro e w8 ⟨rfl, hw8⟩
  obtain rfl : w7 = w8 := hw8.symm
  go_wp2_with fail
  refine (at_walk _ X S D c bs (k + 1) HS7.out).mono ?_
  rintro e w8 ⟨rfl, hw8⟩
  obtain rfl : w7 = w8 := hw8.symm
  go_wp2_with fail
  refine (HO.out _).mono ?_
  rintro e w8 ⟨rfl, ht8⟩
  have HB8 := Lib.hid (HB7.out.step ht8 id)
  have HI8 := Lib.hid (HI7.out.step ht8 id)
  have HS8 := Lib.hid (HS7.out.quiet ht8)
  have HT8 := Lib.hid (HT7.out.trans' ht8 (fun _ h => h.elim))
  clear ht8 HB7 HI7 HS7 HT7 HO x0
  have hfd := field_imm i 8
  simp only [infM]
  have hu := IntWalk.u64_in (a : Int) (by omega)
  have hu2 := IntWalk.u64_in (b : Int) (by omega)
  have hd2 := drop_app hd1
  go_wp2_with fail
  refine (index_at HS8.out ha hd1).mono ?_
  rintro e w9 ⟨rfl, hs, ht⟩
  have HB9 := Lib.hid (HB8.out.step ht hRX)
  have HI9 := Lib.hid (HI8.out.step ht hIX)
  have HS9 := Lib.hid hs
  have HT9 := Lib.hid (HT8.out.trans ht)
  clear hs ht HB8 HI8 HS8 HT8
  go_wp2_with fail
  refine (index_at HS9.out hb hd2).mono ?_
  rintro e w10 ⟨rfl, hs, ht⟩
  have HB10 := Lib.hid (HB9.out.step ht hRX)
  have HI10 := Lib.hid (HI9.out.step ht hIX)
  have HS10 := Lib.hid hs
  have HT10 := Lib.hid (HT9.out.trans ht)
  clear hs ht HB9 HI9 HS9 HT9
  have zz11 := HI10.out.frozen 1
  have cc11 := HI10.out.cell 1
  simp [insA] at cc11
  have HI11 : Hid (Blk (w10.setCell ⟨I, 1, none⟩ (.int .u64 (a : Int))) I 50 #[.int .u8 (op : Int), .int .u64 (a : Int), .int .u64 0, .slice none 0 0]) := by
    have hq := HI10.out.set_ 1 ((.int .u64 (a : Int)))
    simp [insA] at hq
    exact hq
  have HB11 := Lib.hid (HB10.out.far (p := ⟨I, 1, none⟩) hRI2 ((.int .u64 (a : Int))))
  have hst11 : Step (fun j => j = I) w10 (w10.setCell ⟨I, 1, none⟩ (.int .u64 (a : Int))) := (Step.refl (F := fun j => j = I)).setCell (p := ⟨I, 1, none⟩) (.inl rfl) _
  have HS11 := Lib.hid (HS10.out.step hst11 (Ne.symm hIX) hIS)
  have HT11 := Lib.hid (HT10.out.setCell (p := ⟨I, 1, none⟩) (.inr hIw) ((.int .u64 (a : Int))))
  have zz12 := HI11.out.frozen 2
  have cc12 := HI11.out.cell 2
  simp at cc12
  have HI12 : Hid (Blk ((w10.setCell ⟨I, 1, none⟩ (.int .u64 (a : Int))).setCell ⟨I, 2, none⟩ (.int .u64 (b : Int))) I 50 #[.int .u8 (op : Int), .int .u64 (a : Int), .int .u64 (b : Int), .slice none 0 0]) := by
    have hq := HI11.out.set_ 2 (.int .u64 (b : Int))
    simp at hq
    exact hq
  have HB12 := Lib.hid (HB11.out.far (p := ⟨I, 2, none⟩) hRI2 (.int .u64 (b : Int)))
  have hst12 : Step (fun j => j = I) (w10.setCell ⟨I, 1, none⟩ (.int .u64 (a : Int))) ((w10.setCell ⟨I, 1, none⟩ (.int .u64 (a : Int))).setCell ⟨I, 2, none⟩ (.int .u64 (b : Int))) := (Step.refl (F := fun j => j = I)).setCell (p := ⟨I, 2, none⟩) (.inl rfl) _
  have HS12 := Lib.hid (HS11.out.step hst12 (Ne.symm hIX) hIS)
  have HT12 := Lib.hid (HT11.out.setCell (p := ⟨I, 2, none⟩) (.inr hIw) (.int .u64 (b : Int)))
  have y0 := HI12.out.cell 0
  have y1 := HI12.out.cell 1
  have y2 := HI12.out.cell 2
  have y3 := HI12.out.cell 3
  simp [insA] at y0 y1 y2 y3
  have hone : (#[.int .u8 (op : Int), .int .u64 (a : Int), .int .u64 (b : Int), .slice none 0 0] : Array Value).all (·.oneCell') = true := by simp [Value.oneCell']
  have hbl := HB12.out
  go_wp2_with (refine wpList_store_rowTo rfl 50 _ _ rfl rfl R #[.int .u8 (op : Int), .int .u64 (a : Int), .int .u64 (b : Int), .slice none 0 0] rfl rfl 50 _ hbl rfl rfl hone ?_)
  have r0 := (hbl.row #[.int .u8 (op : Int), .int .u64 (a : Int), .int .u64 (b : Int), .slice none 0 0]).cell 0
  have r1 := (hbl.row #[.int .u8 (op : Int), .int .u64 (a : Int), .int .u64 (b : Int), .slice none 0 0]).cell 1
  have r2 := (hbl.row #[.int .u8 (op : Int), .int .u64 (a : Int), .int .u64 (b : Int), .slice none 0 0]).cell 2
  have r3 := (hbl.row #[.int .u8 (op : Int), .int .u64 (a : Int), .int .u64 (b : Int), .slice none 0 0]).cell 3
  simp at r0 r1 r2 r3
  have hSF := HS12.out.step (Step.setRow (F := fun j => j = R) Step.refl (g := R) (.inl rfl) #[.int .u8 (op : Int), .int .u64 (a : Int), .int .u64 (b : Int), .slice none 0 0]) (Ne.symm hRX) hRS
  have hTF := HT12.out.setRow (g := R) (.inr hRw) #[.int .u8 (op : Int), .int .u64 (a : Int), .int .u64 (b : Int), .slice none 0 0]
  exact bodyPost_ret (v := .agg #[.int .u8 (op : Int), .int .u64 (a : Int), .int .u64 (b : Int), .slice none 0 0]) (by simp [results, Try.results142, go_sem, r0, r1, r2, r3]) rfl ⟨rfl, hSF, hTF⟩

theorem s32_in (a : Nat) (h : a < 4294967296) : (-2147483648 ≤ s32 a ∧ s32 a ≤ 2147483647) ∧ IntKind.u32.wrap (s32 a) = (a : Int) := by
  rw [IntKind.wrap_u32', s32]
  split <;> omega
theorem s64_in (a : Nat) (h : a < 18446744073709551616) : (-9223372036854775808 ≤ s64 a ∧ s64 a ≤ 9223372036854775807) ∧ IntKind.u64.wrap (s64 a) = (a : Int) := by
  rw [IntKind.wrap_u64, s64]
  split <;> omega

set_option maxRecDepth 100000 in
set_option maxHeartbeats 3200000 in
theorem get_10 (w : World) (X : Nat) (S : Nat → Prop) (D : Option Addr) (c : Nat) (bs : List UInt8) (k : Nat) (h : Scn w X S D c bs k) (op a : Nat) (i : Inf) (rest : List UInt8) (hop : op < 256) (hck : chkF op = 0) (ha : a < 4294967296) (v : Int) (hs1 : -2147483648 ≤ v ∧ v ≤ 2147483647) (hs2 : IntKind.u32.wrap v = (a : Int)) (hd : bs.drop k = UInt8.ofNat op :: intF v ++ rest)
    (HO : Hid (∀ w, Calls Try.prog 25 #[.int .u8 (op : Int)] w fun e w' => e = .returned (infM i 10) ∧ Step (fun _ => False) w w')) :
    Calls Try.prog 142 #[.pointer (some ⟨X, 0, none⟩)] w fun e w' => e = .returned (.agg #[.int .u8 (op : Int), .int .u64 (a : Int), .int .u64 0, .slice none 0 0]) ∧ Scn w' X S D c bs (k + 1 + (intF v).length) ∧ Step (fun i => i = X) w w' := by
  have HC : Hid (∀ w, Calls Try.prog 26 #[.int .u8 (op : Int)] w fun e w' => e = .returned (.int .i64 0) ∧ Step (fun _ => False) w w') := fun w => by
    have := check_walk w op hop
    rw [hck] at this
    exact this
  have hxl := h.lt
  have HH := Lib.hid h
  have hlow := h.low
  clear h
  have hone0 : (insA 0 0 0 (.slice none 0 0)).all (·.oneCell') = true := by simp [insA, Value.oneCell']
  go_enter Try.func142, Try.ntmps142
  go_wp2_with fail
  refine (at_walk _ X S D c bs k (HH.out.alloc _)).mono ?_
  rintro e w5 ⟨rfl, hw5⟩
  have HB5 := Lib.hid (Blk.new w 50 (insA 0 0 0 (.slice none 0 0)))
  have HS5 := Lib.hid (HH.out.alloc (.cells (insA 0 0 0 (.slice none 0 0)) 50))
  have HT5 := Lib.hid ((Step.refl (F := fun i => i = X)).alloc (w := w) (.cells (insA 0 0 0 (.slice none 0 0)) 50))
  rw [show w.alloc (.cells (insA 0 0 0 (.slice none 0 0)) 50) = w5 from hw5.symm] at HB5 HS5 HT5
  obtain ⟨R, hR⟩ : ∃ R, R = w.heap.size := ⟨_, rfl⟩
  have hRX : R ≠ X := by omega
  have hRw : w.heap.size ≤ R := by omega
  have hRS : ∀ j, S j → j ≠ R := fun j hj => by have := hlow j hj; omega
  rw [← hR] at HB5 ⊢
  clear hR hxl hw5 HH
  go_wp2_with fail
  refine (byte_at HS5.out hop hd).mono ?_
  rintro e w6 ⟨rfl, hs6, ht6⟩
  obtain ⟨_, _, hd1⟩ := drop_cons hd
  have HB6 := Lib.hid ((HB5.out.step ht6 hRX).alloc (.cells (insA op 0 0 (.slice none 0 0)) 50))
  have HI6 := Lib.hid (Blk.new w6 50 (insA op 0 0 (.slice none 0 0)))
  have HS6 := Lib.hid (hs6.alloc (.cells (insA op 0 0 (.slice none 0 0)) 50))
  have HT6 := Lib.hid ((HT5.out.trans ht6).alloc (.cells (insA op 0 0 (.slice none 0 0)) 50))
  have hRI : R < w6.heap.size := by have := HB5.out.lt; have := ht6.size; omega
  have hXI : X < w6.heap.size := by have := HS5.out.lt; have := ht6.size; omega
  have hIw : w.heap.size ≤ w6.heap.size := (HT5.out.trans ht6).size
  clear hs6 ht6 HB5 HS5 HT5 hd
  obtain ⟨I, hI⟩ : ∃ I, I = w6.heap.size := ⟨_, rfl⟩
  obtain ⟨W, hW⟩ : ∃ W, W = w6.alloc (.cells (insA op 0 0 (.slice none 0 0)) 50) := ⟨_, rfl⟩
  rw [← hI] at HI6 hRI hXI hIw
  have hIS : ∀ j, S j → j ≠ I := fun j hj => by have := hlow j hj; omega
  have hIX : I ≠ X := by omega
  have hRI2 : R ≠ I := by omega
  rw [← hW] at HB6 HI6 HS6 HT6
  have x0 := HI6.out.cell 0
  simp [insA] at x0
  rw [hW] at x0
  rw [hI] at x0
  go_wp2_with fail
  rw [show w6.alloc (.cells #[.int .u8 (op : Int), .int .u64 0, .int .u64 0, .slice none 0 0] 50) = W from hW.symm]
  rw [← hI]
  clear x0 hW hI
  refine (HC.out _).mono ?_
  rintro e w7 ⟨rfl, ht7⟩
  have HB7 := Lib.hid (HB6.out.step ht7 id)
  have HI7 := Lib.hid (HI6.out.step ht7 id)
  have HS7 := Lib.hid (HS6.out.quiet ht7)
  have HT7 := Lib.hid (HT6.out.trans' ht7 (fun _ h => h.elim))
  clear ht7 HB6 HI6 HS6 HT6 HC
  have x0 := HI7.out.cell 0
  simp [insA] at x0
  go_wp2_with fail
  refine (aunless_ok _ _ _).mono ?_
  rintro e w8 ⟨rfl, hw8⟩
  obtain rfl : w7 = w8 := hw8.symm
  go_wp2_with fail
  refine (at_walk _ X S D c bs (k + 1) HS7.out).mono ?_
  rintro e w8 ⟨rfl, hw8⟩
  obtain rfl : w7 = w8 := hw8.symm
  go_wp2_with fail
  refine (HO.out _).mono ?_
  rintro e w8 ⟨rfl, ht8⟩
  have HB8 := Lib.hid (HB7.out.step ht8 id)
  have HI8 := Lib.hid (HI7.out.step ht8 id)
  have HS8 := Lib.hid (HS7.out.quiet ht8)
  have HT8 := Lib.hid (HT7.out.trans' ht8 (fun _ h => h.elim))
  clear ht8 HB7 HI7 HS7 HT7 HO x0
  have hfd := field_imm i 10
  simp only [infM]
  have hrd : Hid (rdS 5 8 15 (bs.drop (k + 1)) = (v, (intF v).length, 0)) := by rw [Hid, hd1]; exact (rdS_back32 v rest hs1).1
  have hu := IntWalk.u64_in (a : Int) (by omega)
  clear hs1 hd1
  go_wp2_with fail
  refine (int32_ok _ X S D c bs _ HS8.out v _ hrd.out).mono ?_
  rintro e w9 ⟨rfl, hs, ht⟩
  have HB9 := Lib.hid (HB8.out.step ht hRX)
  have HI9 := Lib.hid (HI8.out.step ht hIX)
  have HS9 := Lib.hid hs
  have HT9 := Lib.hid (HT8.out.trans ht)
  clear hs ht HB8 HI8 HS8 HT8
  have zz10 := HI9.out.frozen 1
  have cc10 := HI9.out.cell 1
  simp [insA] at cc10
  have HI10 : Hid (Blk (w9.setCell ⟨I, 1, none⟩ (.int .u64 (a : Int))) I 50 #[.int .u8 (op : Int), .int .u64 (a : Int), .int .u64 0, .slice none 0 0]) := by
    have hq := HI9.out.set_ 1 ((.int .u64 (a : Int)))
    simp [insA] at hq
    exact hq
  have HB10 := Lib.hid (HB9.out.far (p := ⟨I, 1, none⟩) hRI2 ((.int .u64 (a : Int))))
  have hst10 : Step (fun j => j = I) w9 (w9.setCell ⟨I, 1, none⟩ (.int .u64 (a : Int))) := (Step.refl (F := fun j => j = I)).setCell (p := ⟨I, 1, none⟩) (.inl rfl) _
  have HS10 := Lib.hid (HS9.out.step hst10 (Ne.symm hIX) hIS)
  have HT10 := Lib.hid (HT9.out.setCell (p := ⟨I, 1, none⟩) (.inr hIw) ((.int .u64 (a : Int))))
  have y0 := HI10.out.cell 0
  have y1 := HI10.out.cell 1
  have y2 := HI10.out.cell 2
  have y3 := HI10.out.cell 3
  simp [insA] at y0 y1 y2 y3
  have hone : (#[.int .u8 (op : Int), .int .u64 (a : Int), .int .u64 0, .slice none 0 0] : Array Value).all (·.oneCell') = true := by simp [Value.oneCell']
  have hbl := HB10.out
  go_wp2_with (refine wpList_store_rowTo rfl 50 _ _ rfl rfl R #[.int .u8 (op : Int), .int .u64 (a : Int), .int .u64 0, .slice none 0 0] rfl rfl 50 _ hbl rfl rfl hone ?_)
  have r0 := (hbl.row #[.int .u8 (op : Int), .int .u64 (a : Int), .int .u64 0, .slice none 0 0]).cell 0
  have r1 := (hbl.row #[.int .u8 (op : Int), .int .u64 (a : Int), .int .u64 0, .slice none 0 0]).cell 1
  have r2 := (hbl.row #[.int .u8 (op : Int), .int .u64 (a : Int), .int .u64 0, .slice none 0 0]).cell 2
  have r3 := (hbl.row #[.int .u8 (op : Int), .int .u64 (a : Int), .int .u64 0, .slice none 0 0]).cell 3
  simp at r0 r1 r2 r3
  have hSF := HS10.out.step (Step.setRow (F := fun j => j = R) Step.refl (g := R) (.inl rfl) #[.int .u8 (op : Int), .int .u64 (a : Int), .int .u64 0, .slice none 0 0]) (Ne.symm hRX) hRS
  have hTF := HT10.out.setRow (g := R) (.inr hRw) #[.int .u8 (op : Int), .int .u64 (a : Int), .int .u64 0, .slice none 0 0]
  exact bodyPost_ret (v := .agg #[.int .u8 (op : Int), .int .u64 (a : Int), .int .u64 0, .slice none 0 0]) (by simp [results, Try.results142, go_sem, r0, r1, r2, r3]) rfl ⟨rfl, hSF, hTF⟩

set_option maxRecDepth 100000 in
set_option maxHeartbeats 3200000 in
theorem get_11 (w : World) (X : Nat) (S : Nat → Prop) (D : Option Addr) (c : Nat) (bs : List UInt8) (k : Nat) (h : Scn w X S D c bs k) (op a : Nat) (i : Inf) (rest : List UInt8) (hop : op < 256) (hck : chkF op = 0) (ha : a < 18446744073709551616) (v : Int) (hs1 : -9223372036854775808 ≤ v ∧ v ≤ 9223372036854775807) (hs2 : IntKind.u64.wrap v = (a : Int)) (hd : bs.drop k = UInt8.ofNat op :: intF v ++ rest)
    (HO : Hid (∀ w, Calls Try.prog 25 #[.int .u8 (op : Int)] w fun e w' => e = .returned (infM i 11) ∧ Step (fun _ => False) w w')) :
    Calls Try.prog 142 #[.pointer (some ⟨X, 0, none⟩)] w fun e w' => e = .returned (.agg #[.int .u8 (op : Int), .int .u64 (a : Int), .int .u64 0, .slice none 0 0]) ∧ Scn w' X S D c bs (k + 1 + (intF v).length) ∧ Step (fun i => i = X) w w' := by
  have HC : Hid (∀ w, Calls Try.prog 26 #[.int .u8 (op : Int)] w fun e w' => e = .returned (.int .i64 0) ∧ Step (fun _ => False) w w') := fun w => by
    have := check_walk w op hop
    rw [hck] at this
    exact this
  have hxl := h.lt
  have HH := Lib.hid h
  have hlow := h.low
  clear h
  have hone0 : (insA 0 0 0 (.slice none 0 0)).all (·.oneCell') = true := by simp [insA, Value.oneCell']
  go_enter Try.func142, Try.ntmps142
  go_wp2_with fail
  refine (at_walk _ X S D c bs k (HH.out.alloc _)).mono ?_
  rintro e w5 ⟨rfl, hw5⟩
  have HB5 := Lib.hid (Blk.new w 50 (insA 0 0 0 (.slice none 0 0)))
  have HS5 := Lib.hid (HH.out.alloc (.cells (insA 0 0 0 (.slice none 0 0)) 50))
  have HT5 := Lib.hid ((Step.refl (F := fun i => i = X)).alloc (w := w) (.cells (insA 0 0 0 (.slice none 0 0)) 50))
  rw [show w.alloc (.cells (insA 0 0 0 (.slice none 0 0)) 50) = w5 from hw5.symm] at HB5 HS5 HT5
  obtain ⟨R, hR⟩ : ∃ R, R = w.heap.size := ⟨_, rfl⟩
  have hRX : R ≠ X := by omega
  have hRw : w.heap.size ≤ R := by omega
  have hRS : ∀ j, S j → j ≠ R := fun j hj => by have := hlow j hj; omega
  rw [← hR] at HB5 ⊢
  clear hR hxl hw5 HH
  go_wp2_with fail
  refine (byte_at HS5.out hop hd).mono ?_
  rintro e w6 ⟨rfl, hs6, ht6⟩
  obtain ⟨_, _, hd1⟩ := drop_cons hd
  have HB6 := Lib.hid ((HB5.out.step ht6 hRX).alloc (.cells (insA op 0 0 (.slice none 0 0)) 50))
  have HI6 := Lib.hid (Blk.new w6 50 (insA op 0 0 (.slice none 0 0)))
  have HS6 := Lib.hid (hs6.alloc (.cells (insA op 0 0 (.slice none 0 0)) 50))
  have HT6 := Lib.hid ((HT5.out.trans ht6).alloc (.cells (insA op 0 0 (.slice none 0 0)) 50))
  have hRI : R < w6.heap.size := by have := HB5.out.lt; have := ht6.size; omega
  have hXI : X < w6.heap.size := by have := HS5.out.lt; have := ht6.size; omega
  have hIw : w.heap.size ≤ w6.heap.size := (HT5.out.trans ht6).size
  clear hs6 ht6 HB5 HS5 HT5 hd
  obtain ⟨I, hI⟩ : ∃ I, I = w6.heap.size := ⟨_, rfl⟩
  obtain ⟨W, hW⟩ : ∃ W, W = w6.alloc (.cells (insA op 0 0 (.slice none 0 0)) 50) := ⟨_, rfl⟩
  rw [← hI] at HI6 hRI hXI hIw
  have hIS : ∀ j, S j → j ≠ I := fun j hj => by have := hlow j hj; omega
  have hIX : I ≠ X := by omega
  have hRI2 : R ≠ I := by omega
  rw [← hW] at HB6 HI6 HS6 HT6
  have x0 := HI6.out.cell 0
  simp [insA] at x0
  rw [hW] at x0
  rw [hI] at x0
  go_wp2_with fail
  rw [show w6.alloc (.cells #[.int .u8 (op : Int), .int .u64 0, .int .u64 0, .slice none 0 0] 50) = W from hW.symm]
  rw [← hI]
  clear x0 hW hI
  refine (HC.out _).mono ?_
  rintro e w7 ⟨rfl, ht7⟩
  have HB7 := Lib.hid (HB6.out.step ht7 id)
  have HI7 := Lib.hid (HI6.out.step ht7 id)
  have HS7 := Lib.hid (HS6.out.quiet ht7)
  have HT7 := Lib.hid (HT6.out.trans' ht7 (fun _ h => h.elim))
  clear ht7 HB6 HI6 HS6 HT6 HC
  have x0 := HI7.out.cell 0
  simp [insA] at x0
  go_wp2_with fail
  refine (aunless_ok _ _ _).mono ?_
  rintro e w8 ⟨rfl, hw8⟩
  obtain rfl : w7 = w8 := hw8.symm
  go_wp2_with fail
  refine (at_walk _ X S D c bs (k + 1) HS7.out).mono ?_
  rintro e w8 ⟨rfl, hw8⟩
  obtain rfl : w7 = w8 := hw8.symm
  go_wp2_with fail
  refine (HO.out _).mono ?_
  rintro e w8 ⟨rfl, ht8⟩
  have HB8 := Lib.hid (HB7.out.step ht8 id)
  have HI8 := Lib.hid (HI7.out.step ht8 id)
  have HS8 := Lib.hid (HS7.out.quiet ht8)
  have HT8 := Lib.hid (HT7.out.trans' ht8 (fun _ h => h.elim))
  clear ht8 HB7 HI7 HS7 HT7 HO x0
  have hfd := field_imm i 11
  simp only [infM]
  have hrd : Hid (rdS 10 1 127 (bs.drop (k + 1)) = (v, (intF v).length, 0)) := by rw [Hid, hd1]; exact (rdS_back64 v rest hs1).1
  have hu := IntWalk.u64_in (a : Int) (by omega)
  clear hs1 hd1
  go_wp2_with fail
  refine (int64_ok _ X S D c bs _ HS8.out v _ hrd.out).mono ?_
  rintro e w9 ⟨rfl, hs, ht⟩
  have HB9 := Lib.hid (HB8.out.step ht hRX)
  have HI9 := Lib.hid (HI8.out.step ht hIX)
  have HS9 := Lib.hid hs
  have HT9 := Lib.hid (HT8.out.trans ht)
  clear hs ht HB8 HI8 HS8 HT8
  have zz10 := HI9.out.frozen 1
  have cc10 := HI9.out.cell 1
  simp [insA] at cc10
  have HI10 : Hid (Blk (w9.setCell ⟨I, 1, none⟩ (.int .u64 (a : Int))) I 50 #[.int .u8 (op : Int), .int .u64 (a : Int), .int .u64 0, .slice none 0 0]) := by
    have hq := HI9.out.set_ 1 ((.int .u64 (a : Int)))
    simp [insA] at hq
    exact hq
  have HB10 := Lib.hid (HB9.out.far (p := ⟨I, 1, none⟩) hRI2 ((.int .u64 (a : Int))))
  have hst10 : Step (fun j => j = I) w9 (w9.setCell ⟨I, 1, none⟩ (.int .u64 (a : Int))) := (Step.refl (F := fun j => j = I)).setCell (p := ⟨I, 1, none⟩) (.inl rfl) _
  have HS10 := Lib.hid (HS9.out.step hst10 (Ne.symm hIX) hIS)
  have HT10 := Lib.hid (HT9.out.setCell (p := ⟨I, 1, none⟩) (.inr hIw) ((.int .u64 (a : Int))))
  have y0 := HI10.out.cell 0
  have y1 := HI10.out.cell 1
  have y2 := HI10.out.cell 2
  have y3 := HI10.out.cell 3
  simp [insA] at y0 y1 y2 y3
  have hone : (#[.int .u8 (op : Int), .int .u64 (a : Int), .int .u64 0, .slice none 0 0] : Array Value).all (·.oneCell') = true := by simp [Value.oneCell']
  have hbl := HB10.out
  go_wp2_with (refine wpList_store_rowTo rfl 50 _ _ rfl rfl R #[.int .u8 (op : Int), .int .u64 (a : Int), .int .u64 0, .slice none 0 0] rfl rfl 50 _ hbl rfl rfl hone ?_)
  have r0 := (hbl.row #[.int .u8 (op : Int), .int .u64 (a : Int), .int .u64 0, .slice none 0 0]).cell 0
  have r1 := (hbl.row #[.int .u8 (op : Int), .int .u64 (a : Int), .int .u64 0, .slice none 0 0]).cell 1
  have r2 := (hbl.row #[.int .u8 (op : Int), .int .u64 (a : Int), .int .u64 0, .slice none 0 0]).cell 2
  have r3 := (hbl.row #[.int .u8 (op : Int), .int .u64 (a : Int), .int .u64 0, .slice none 0 0]).cell 3
  simp at r0 r1 r2 r3
  have hSF := HS10.out.step (Step.setRow (F := fun j => j = R) Step.refl (g := R) (.inl rfl) #[.int .u8 (op : Int), .int .u64 (a : Int), .int .u64 0, .slice none 0 0]) (Ne.symm hRX) hRS
  have hTF := HT10.out.setRow (g := R) (.inr hRw) #[.int .u8 (op : Int), .int .u64 (a : Int), .int .u64 0, .slice none 0 0]
  exact bodyPost_ret (v := .agg #[.int .u8 (op : Int), .int .u64 (a : Int), .int .u64 0, .slice none 0 0]) (by simp [results, Try.results142, go_sem, r0, r1, r2, r3]) rfl ⟨rfl, hSF, hTF⟩
end Go.Proofs.Ytfemeendkjcffaa
