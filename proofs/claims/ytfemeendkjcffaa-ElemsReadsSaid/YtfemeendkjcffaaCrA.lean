/-
  consts.Read of what may be; scan.Bytes.
-/
import Derived.Test.YtfemeendkjcffaaPa
import Derived.Test.YtfemeendkjcffaaPu
set_option linter.unusedVariables false
set_option linter.unusedSimpArgs false
namespace Go.Proofs.Ytfemeendkjcffaa
open Go.RowKit

theorem const_get (w : World) (X : Nat) (S : Nat → Prop) (D : Option Addr) (c : Nat) (bs : List UInt8) (k : Nat) (h : Scn w X S D c bs k) (op a : Nat) (rest : List UInt8) (hok : ConstOk op a) (ha : a < 18446744073709551616) (hd : bs.drop k = UInt8.ofNat op :: (cT op a ++ rest)) :
    Calls Try.prog 142 #[.pointer (some ⟨X, 0, none⟩)] w fun e w' => e = .returned (.agg #[.int .u8 (op : Int), .int .u64 (a : Int), .int .u64 0, .slice none 0 0]) ∧ Scn w' X S D c bs (k + 1 + (cT op a).length) ∧ Step (fun i => i = X) w w' := by
  have hop : op < 256 := by rcases hok with ⟨rfl, h⟩ | ⟨rfl, h⟩ | rfl <;> decide
  have HO : Hid (∀ w, Calls Try.prog 25 #[.int .u8 (op : Int)] w fun e w' => e = .returned (infM (infF op) ((infF op).imm : Int)) ∧ Step (fun _ => False) w w') := fun w => of_walk w op hop
  rcases hok with ⟨rfl, h4⟩ | ⟨rfl, h4⟩ | rfl
  · rw [tab35.2.1] at HO
    have hT : cT 35 a = uintF a := by rw [cT, if_pos rfl]
    rw [hT] at hd ⊢
    exact get_d w X S D c bs k h 35 a (infF 35) rest hop tab35.1 h4 7 (by decide) hd HO
  · rw [tab65.2.1] at HO
    have hT : cT 65 a = intF (s32 a) := by rw [cT, if_neg (by decide), if_pos rfl]
    rw [hT] at hd ⊢
    obtain ⟨h2, h3⟩ := s32_inn a h4
    exact get_10 w X S D c bs k h 65 a (infF 65) rest hop tab65.1 h4 (s32 a) h2 h3 hd HO
  · rw [tab66.2.1] at HO
    have hT : cT 66 a = intF (s64 a) := by rw [cT, if_neg (by decide), if_neg (by decide)]
    rw [hT] at hd ⊢
    obtain ⟨h2, h3⟩ := s64_inn a ha
    exact get_11 w X S D c bs k h 66 a (infF 66) rest hop tab66.1 ha (s64 a) h2 h3 hd HO

set_option maxRecDepth 100000 in
set_option maxHeartbeats 3200000 in
theorem cread_ok (w : World) (X : Nat) (S : Nat → Prop) (D : Option Addr) (c : Nat) (bs : List UInt8) (k : Nat) (h : Scn w X S D c bs k) (op a : Nat) (rest : List UInt8) (hok : ConstOk op a) (ha : a < 18446744073709551616) (hd : bs.drop k = cputL op a ++ rest) :
    Calls Try.prog 50 #[.pointer (some ⟨X, 0, none⟩)] w fun e w' => e = .returned (.agg (insC (op : Int) (a : Int) 0 none 0 0)) ∧ Scn w' X S D c bs (k + (cputL op a).length) ∧ Step (fun i => i = X) w w' := by
  have hop : op < 256 := by rcases hok with ⟨rfl, h⟩ | ⟨rfl, h⟩ | rfl <;> decide
  have hd0 : bs.drop k = UInt8.ofNat op :: (cT op a ++ (UInt8.ofNat 11 :: rest)) := by rw [hd, cputL]; simp
  have hlen : k + (cputL op a).length = k + 1 + (cT op a).length + 1 := by rw [cputL]; simp; omega
  have hd1 : bs.drop (k + 1 + (cT op a).length) = UInt8.ofNat 11 :: rest := drop_app (drop_cons hd0).2.2
  have HR : Hid (∀ w, Calls Try.prog 38 #[.agg #[.int .u8 (op : Int), .int .u64 (a : Int), .int .u64 0, .slice none 0 0]] w fun e w' => e = .returned (.int .i64 0) ∧ Step (fun _ => False) w w') := fun w => by
    have := cright_walk w op a 0 0 0 none hop
    rw [crt_ok hok] at this
    exact this
  have hxl := h.lt
  have hlow := h.low
  have HH := Lib.hid h
  have HG := Lib.hid (fun w' (h' : Scn w' X S D c bs k) => const_get w' X S D c bs k h' op a _ hok ha hd0)
  obtain ⟨k2, hk2⟩ : ∃ k2, k2 = k + 1 + (cT op a).length := ⟨_, rfl⟩
  rw [hlen]
  rw [← hk2] at hd1 HG ⊢
  clear h hd hd0 hlen hk2
  go_enter Try.func50, Try.ntmps50
  go_wp2_with fail
  refine (at_walk _ X S D c bs k (HH.out.alloc _)).mono ?_
  rintro e w5 ⟨rfl, hw5⟩
  have HB5 := Lib.hid (Blk.new w 50 (insC 0 0 0 none 0 0))
  have HS5 := Lib.hid (HH.out.alloc (.cells (insC 0 0 0 none 0 0) 50))
  have HT5 := Lib.hid ((Step.refl (F := fun i => i = X)).alloc (w := w) (.cells (insC 0 0 0 none 0 0) 50))
  rw [show w.alloc (.cells (insC 0 0 0 none 0 0) 50) = w5 from hw5.symm] at HB5 HS5 HT5
  obtain ⟨R, hR⟩ : ∃ R, R = w.heap.size := ⟨_, rfl⟩
  have hRX : R ≠ X := by omega
  have hRw : w.heap.size ≤ R := by omega
  have hRS : ∀ j, S j → j ≠ R := fun j hj => by have := hlow j hj; omega
  rw [← hR] at HB5 ⊢
  clear hR hxl hw5 HH
  go_wp2_with fail
  refine (HG.out _ HS5.out).mono ?_
  rintro e w6 ⟨rfl, hs6, ht6⟩
  have HB6 := Lib.hid ((HB5.out.step ht6 hRX).alloc (.cells (insC (op : Int) (a : Int) 0 none 0 0) 50))
  have HI6 := Lib.hid (Blk.new w6 50 (insC (op : Int) (a : Int) 0 none 0 0))
  have HS6 := Lib.hid (hs6.alloc (.cells (insC (op : Int) (a : Int) 0 none 0 0) 50))
  have HT6 := Lib.hid ((HT5.out.trans ht6).alloc (.cells (insC (op : Int) (a : Int) 0 none 0 0) 50))
  have hRI : R < w6.heap.size := by have := HB5.out.lt; have := ht6.size; omega
  have hXI : X < w6.heap.size := by have := HS5.out.lt; have := ht6.size; omega
  have hIw : w.heap.size ≤ w6.heap.size := (HT5.out.trans ht6).size
  clear hs6 ht6 HB5 HS5 HT5 HG
  go_wp2_with fail
  have hW2 : w6.alloc (.cells #[.int .u8 (op : Int), .int .u64 (a : Int), .int .u64 0, .slice none 0 0] 50) = w6.alloc (.cells (insC (op : Int) (a : Int) 0 none 0 0) 50) := rfl
  rw [hW2]
  obtain ⟨I, hI⟩ : ∃ I, I = w6.heap.size := ⟨_, rfl⟩
  obtain ⟨W, hW⟩ : ∃ W, W = w6.alloc (.cells (insC (op : Int) (a : Int) 0 none 0 0) 50) := ⟨_, rfl⟩
  rw [← hI] at HI6 hRI hXI hIw ⊢
  rw [← hW] at HB6 HI6 HS6 HT6 ⊢
  have hIS : ∀ j, S j → j ≠ I := fun j hj => by have := hlow j hj; omega
  have hIX : I ≠ X := by omega
  clear hW hI hW2
  refine (HR.out _).mono ?_
  rintro e w7 ⟨rfl, ht7⟩
  have HB7 := Lib.hid (HB6.out.step ht7 id)
  have HI7 := Lib.hid (HI6.out.step ht7 id)
  have HS7 := Lib.hid (HS6.out.quiet ht7)
  have HT7 := Lib.hid (HT6.out.trans' ht7 (fun _ h => h.elim))
  clear ht7 HB6 HI6 HS6 HT6 HR
  go_wp2_with fail
  refine (aunless_ok _ _ _).mono ?_
  rintro e wS ⟨rfl, rfl⟩
  go_wp2_with fail
  refine (at_walk _ X S D c bs k2 HS7.out).mono ?_
  rintro e wS ⟨rfl, rfl⟩
  go_wp2_with fail
  refine (byte_at (b := 11) HS7.out (by decide) hd1).mono ?_
  rintro e w9 ⟨rfl, hs, ht⟩
  have HB9 := Lib.hid (HB7.out.step ht hRX)
  have HI9 := Lib.hid (HI7.out.step ht hIX)
  have HS9 := Lib.hid hs
  have HT9 := Lib.hid (HT7.out.trans ht)
  clear hs ht HB7 HI7 HS7 HT7
  go_wp2_with fail
  refine (aunless_ok _ _ _).mono ?_
  rintro e wS ⟨rfl, rfl⟩
  have y0 := HI9.out.cell 0
  have y1 := HI9.out.cell 1
  have y2 := HI9.out.cell 2
  have y3 := HI9.out.cell 3
  simp [insC] at y0 y1 y2 y3
  have hone := insC_one (op : Int) (a : Int) 0 none 0 0
  have hbl := HB9.out
  go_wp2_with (refine wpList_store_rowTo rfl 50 _ _ rfl rfl R (insC (op : Int) (a : Int) 0 none 0 0) rfl rfl 50 _ hbl rfl rfl hone ?_)
  have r0 := (hbl.row (insC (op : Int) (a : Int) 0 none 0 0)).cell 0
  have r1 := (hbl.row (insC (op : Int) (a : Int) 0 none 0 0)).cell 1
  have r2 := (hbl.row (insC (op : Int) (a : Int) 0 none 0 0)).cell 2
  have r3 := (hbl.row (insC (op : Int) (a : Int) 0 none 0 0)).cell 3
  simp [insC] at r0 r1 r2 r3
  have hSF := HS9.out.step (Step.setRow (F := fun j => j = R) Step.refl (g := R) (.inl rfl) (insC (op : Int) (a : Int) 0 none 0 0)) (Ne.symm hRX) hRS
  have hTF := HT9.out.setRow (g := R) (.inr hRw) (insC (op : Int) (a : Int) 0 none 0 0)
  exact bodyPost_ret (v := .agg (insC (op : Int) (a : Int) 0 none 0 0)) (by simp [results, Try.results50, go_sem, insC, r0, r1, r2, r3]) rfl ⟨rfl, hSF, hTF⟩
end Go.Proofs.Ytfemeendkjcffaa
