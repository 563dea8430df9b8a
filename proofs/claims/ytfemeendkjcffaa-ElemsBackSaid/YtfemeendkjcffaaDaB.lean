/-
  datas: Get of what may be.
-/
import Derived.Test.YtfemeendkjcffaaDaA
set_option linter.unusedVariables false
set_option linter.unusedSimpArgs false
namespace Go.Proofs.Ytfemeendkjcffaa
open Go.RowKit

/-- The cells of a row of bytes. -/
def datC (op a : Int) (s : ByteArray) : Array Value := #[.int .u8 op, .int .u64 a, .int .u64 0, .slice none 0 0, .string s]
theorem datC_one (op a : Int) (s : ByteArray) : (datC op a s).all (·.oneCell') = true := by simp [datC, Value.oneCell']
def dputL (op a : Nat) (ds : List UInt8) : List UInt8 := UInt8.ofNat 0 :: (cputL op a ++ (uintF ds.length ++ ds))

set_option maxRecDepth 100000 in
set_option maxHeartbeats 6400000 in
theorem dget_ok (w : World) (X : Nat) (S : Nat → Prop) (D : Option Addr) (c : Nat) (bs : List UInt8) (k : Nat) (h : Scn w X S D c bs k) (op a : Nat) (ds rest : List UInt8) (hok : ConstOk op a) (ha : a < 18446744073709551616) (hl : ds.length ≤ 1000) (hd : bs.drop k = dputL op a ds ++ rest) :
    Calls Try.prog 109 #[.pointer (some ⟨X, 0, none⟩)] w fun e w' => e = .returned (.agg (datC (op : Int) (a : Int) (str ds))) ∧ Scn w' X S D c bs (k + (dputL op a ds).length) ∧ Step (fun i => i = X) w w' := by
  have hop : op < 256 := by rcases hok with ⟨rfl, h⟩ | ⟨rfl, h⟩ | rfl <;> decide
  have hd0 : bs.drop k = UInt8.ofNat 0 :: (cputL op a ++ (uintF ds.length ++ (ds ++ rest))) := by rw [hd, dputL]; simp
  have hd1 := (drop_cons hd0).2.2
  have hd2 := drop_app hd1
  have hd3 := drop_app hd2
  have hlen : k + (dputL op a ds).length = k + 1 + (cputL op a).length + (uintF ds.length).length + ds.length := by rw [dputL]; simp; omega
  have hbl : k + 1 + (cputL op a).length + (uintF ds.length).length + ds.length ≤ bs.length := by
    have h4 := congrArg List.length hd3
    rw [List.length_drop, List.length_append] at h4
    by_cases h5 : ds.length = 0
    · have h6 := congrArg List.length hd2
      rw [List.length_drop, List.length_append] at h6
      have h7 := (rdU_back ds.length (ds ++ rest) (by omega)).2.1
      omega
    · omega
  have HGe := Lib.hid (fun w' (h' : Scn w' X S D c bs (k + 1)) => cread_ok w' X S D c bs (k + 1) h' op a _ hok ha hd1)
  have HBy := Lib.hid (fun w' (h' : Scn w' X S D c bs (k + 1 + (cputL op a).length + (uintF ds.length).length)) => bytes_ok w' X S D c bs _ ds.length h' hbl ds (by rw [hd3, List.take_left]))
  have HIx := Lib.hid (fun w' (h' : Scn w' X S D c bs (k + 1 + (cputL op a).length)) => index_at h' (v := ds.length) (by omega) hd2)
  obtain ⟨k2, hk2⟩ : ∃ k2, k2 = k + 1 + (cputL op a).length := ⟨_, rfl⟩
  rw [hlen]
  rw [← hk2] at HGe HBy HIx hbl ⊢
  obtain ⟨k3, hk3⟩ : ∃ k3, k3 = k2 + (uintF ds.length).length := ⟨_, rfl⟩
  rw [← hk3] at HBy HIx hbl ⊢
  have hxl := h.lt
  have hlow := h.low
  have hsh := h.short
  have HH := Lib.hid h
  obtain ⟨n, hn⟩ : ∃ n, n = ds.length := ⟨_, rfl⟩
  rw [← hn] at HBy HIx hbl hl ⊢
  have HN := Lib.hid hn
  have hwn := IntWalk.u64_in (n : Int) (by omega)
  have hwn2 := IntWalk.i64_in (n : Int) (by omega)
  clear h hd hd1 hd2 hd3 hlen hk2 hk3 hn
  go_enter Try.func109, Try.ntmps109
  go_wp2_with fail
  refine (at_walk _ X S D c bs k (HH.out.alloc _)).mono ?_
  rintro e w5 ⟨rfl, hw5⟩
  have HB5 := Lib.hid (Blk.new w 156 (datC 0 0 ⟨#[]⟩))
  have HS5 := Lib.hid (HH.out.alloc (.cells (datC 0 0 ⟨#[]⟩) 156))
  have HT5 := Lib.hid ((Step.refl (F := fun i => i = X)).alloc (w := w) (.cells (datC 0 0 ⟨#[]⟩) 156))
  rw [show w.alloc (.cells (datC 0 0 ⟨#[]⟩) 156) = w5 from hw5.symm] at HB5 HS5 HT5
  obtain ⟨R, hR⟩ : ∃ R, R = w.heap.size := ⟨_, rfl⟩
  have hRX : R ≠ X := by omega
  have hRw : w.heap.size ≤ R := by omega
  have hRS : ∀ j, S j → j ≠ R := fun j hj => by have := hlow j hj; omega
  rw [← hR] at HB5 ⊢
  clear hR hxl hw5 HH
  go_wp2_with fail
  refine (byte_at (b := 0) HS5.out (by decide) hd0).mono ?_
  rintro e w6 ⟨rfl, hs, ht⟩
  have HB6 := Lib.hid (HB5.out.step ht hRX)
  have HS6 := Lib.hid hs
  have HT6 := Lib.hid (HT5.out.trans ht)
  clear hs ht HB5 HS5 HT5 hd0
  go_wp2_with fail
  refine (aunless_ok _ _ _).mono ?_
  rintro e wS ⟨rfl, rfl⟩
  go_wp2_with fail
  refine (HGe.out _ HS6.out).mono ?_
  rintro e w7 ⟨rfl, hs7, ht7⟩
  have HB7 := Lib.hid ((HB6.out.step ht7 hRX).alloc (.cells (datC (op : Int) (a : Int) ⟨#[]⟩) 156))
  have HI7 := Lib.hid (Blk.new w7 156 (datC (op : Int) (a : Int) ⟨#[]⟩))
  have HS7 := Lib.hid (hs7.alloc (.cells (datC (op : Int) (a : Int) ⟨#[]⟩) 156))
  have HT7 := Lib.hid ((HT6.out.trans ht7).alloc (.cells (datC (op : Int) (a : Int) ⟨#[]⟩) 156))
  have hRI : R < w7.heap.size := by have := HB6.out.lt; have := ht7.size; omega
  have hXI : X < w7.heap.size := by have := HS6.out.lt; have := ht7.size; omega
  have hIw : w.heap.size ≤ w7.heap.size := (HT6.out.trans ht7).size
  clear hs7 ht7 HB6 HS6 HT6 HGe
  simp only [insC]
  go_wp2_with fail
  have hW2 : w7.alloc (.cells #[.int .u8 (op : Int), .int .u64 (a : Int), .int .u64 0, .slice none 0 0, .string ⟨#[]⟩] 156) = w7.alloc (.cells (datC (op : Int) (a : Int) ⟨#[]⟩) 156) := rfl
  rw [hW2]
  obtain ⟨I, hI⟩ : ∃ I, I = w7.heap.size := ⟨_, rfl⟩
  obtain ⟨W, hW⟩ : ∃ W, W = w7.alloc (.cells (datC (op : Int) (a : Int) ⟨#[]⟩) 156) := ⟨_, rfl⟩
  rw [← hI] at HI7 hRI hXI hIw ⊢
  rw [← hW] at HB7 HI7 HS7 HT7 ⊢
  have hIS : ∀ j, S j → j ≠ I := fun j hj => by have := hlow j hj; omega
  have hIX : I ≠ X := by omega
  have hRI2 : R ≠ I := by omega
  clear hW hI hW2
  refine (HIx.out _ HS7.out).mono ?_
  rintro e w8 ⟨rfl, hs, ht⟩
  have HB8 := Lib.hid (HB7.out.step ht hRX)
  have HI8 := Lib.hid (HI7.out.step ht hIX)
  have HS8 := Lib.hid hs
  have HT8 := Lib.hid (HT7.out.trans ht)
  clear hs ht HB7 HI7 HS7 HT7 HIx
  go_wp2_with fail
  refine (left_walk _ X S D c bs k3 HS8.out).mono ?_
  rintro e w9 ⟨rfl, q, rfl⟩
  have HB9 := Lib.hid (HB8.out.drewN q)
  have HI9 := Lib.hid (HI8.out.drewN q)
  have HS9 := Lib.hid (HS8.out.quiet (Step.refl.drewN q))
  have HT9 := Lib.hid (HT8.out.drewN q)
  obtain ⟨V, hV⟩ : ∃ V, V = w8.drewN q := ⟨_, rfl⟩
  rw [← hV] at HB9 HI9 HS9 HT9 ⊢
  clear hV HB8 HI8 HS8 HT8
  have hwl := IntWalk.u64_in ((bs.length : Int) - (k3 : Int)) (by omega)
  have g1 : (n : Int) ≤ (bs.length : Int) - (k3 : Int) := by omega
  have g1' : decide ((n : Int) ≤ (bs.length : Int) - (k3 : Int)) = true := decide_eq_true g1
  go_wp2_with fail
  refine (at_walk _ X S D c bs k3 HS9.out).mono ?_
  rintro e wS ⟨rfl, rfl⟩
  go_wp2_with fail
  refine (aunless_ok _ _ _).mono ?_
  rintro e wS ⟨rfl, rfl⟩
  go_wp2_with fail
  refine (HBy.out _ HS9.out).mono ?_
  rintro e w10 ⟨D', c', rfl, hown, hs, ht⟩
  have HB10 := Lib.hid (HB9.out.step ht hRX)
  have HI10 := Lib.hid (HI9.out.step ht hIX)
  have HS10 := Lib.hid hs
  have HT10 := Lib.hid (HT9.out.trans ht)
  have hcv := conv_bytes (c := c') (Reads.of_own hown)
  clear hs ht hown HB9 HI9 HS9 HT9 HBy
  obtain ⟨s, hs⟩ : ∃ s, s = str ds := ⟨_, rfl⟩
  rw [← hs] at hcv
  have HSt := Lib.hid hs
  clear hs
  have zz := HI10.out.frozen 4
  have cc := HI10.out.cell 4
  simp [datC] at cc
  have HI11 : Hid (Blk (w10.setCell ⟨I, 4, none⟩ (.string s)) I 156 (datC (op : Int) (a : Int) s)) := by
    have hq := HI10.out.set_ 4 (.string s)
    simp [datC] at hq
    exact hq
  have HB11 := Lib.hid (HB10.out.far (p := ⟨I, 4, none⟩) hRI2 (.string s))
  have hst11 : Step (fun j => j = I) w10 (w10.setCell ⟨I, 4, none⟩ (.string s)) := (Step.refl (F := fun j => j = I)).setCell (p := ⟨I, 4, none⟩) (.inl rfl) _
  have HS11 := Lib.hid (HS10.out.step hst11 (Ne.symm hIX) hIS)
  have HT11 := Lib.hid (HT10.out.setCell (p := ⟨I, 4, none⟩) (.inr hIw) (.string s))
  have y0 := HI11.out.cell 0
  have y1 := HI11.out.cell 1
  have y2 := HI11.out.cell 2
  have y3 := HI11.out.cell 3
  have y4 := HI11.out.cell 4
  simp [datC] at y0 y1 y2 y3 y4
  have hone := datC_one (op : Int) (a : Int) s
  have hbl := HB11.out
  go_wp2_with (refine wpList_store_rowTo rfl 156 _ _ rfl rfl R (datC (op : Int) (a : Int) s) rfl rfl 156 _ hbl rfl rfl hone ?_)
  have r0 := (hbl.row (datC (op : Int) (a : Int) s)).cell 0
  have r1 := (hbl.row (datC (op : Int) (a : Int) s)).cell 1
  have r2 := (hbl.row (datC (op : Int) (a : Int) s)).cell 2
  have r3 := (hbl.row (datC (op : Int) (a : Int) s)).cell 3
  have r4 := (hbl.row (datC (op : Int) (a : Int) s)).cell 4
  simp [datC] at r0 r1 r2 r3 r4
  have hSF := HS11.out.step (Step.setRow (F := fun j => j = R) Step.refl (g := R) (.inl rfl) (datC (op : Int) (a : Int) s)) (Ne.symm hRX) hRS
  have hTF := HT11.out.setRow (g := R) (.inr hRw) (datC (op : Int) (a : Int) s)
  exact bodyPost_ret (v := .agg (datC (op : Int) (a : Int) s)) (by simp [results, Try.results109, go_sem, datC, r0, r1, r2, r3, r4]) rfl ⟨by rw [HSt.out], hSF, hTF⟩
end Go.Proofs.Ytfemeendkjcffaa
