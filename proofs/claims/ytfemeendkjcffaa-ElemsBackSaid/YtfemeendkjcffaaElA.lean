/-
  elems: Get of what may be.
-/
import Derived.Test.YtfemeendkjcffaaCrA
import Derived.Test.YtfemeendkjcffaaMix
import Derived.Test.YtfemeendkjcffaaRes
set_option linter.unusedVariables false
set_option linter.unusedSimpArgs false
namespace Go.Proofs.Ytfemeendkjcffaa
open Go.RowKit

/-- The cells of a table's row. -/
def elmC (op a : Int) (f : Value) : Array Value := #[.int .u8 op, .int .u64 a, .int .u64 0, .slice none 0 0, f]
theorem elmC_one (op a : Int) (D : Option Addr) (n c : Nat) : (elmC op a (.slice D n c)).all (·.oneCell') = true := by simp [elmC, Value.oneCell']
def eputL (op a : Nat) (L : List Nat) : List UInt8 := UInt8.ofNat 0 :: (cputL op a ++ (uintF L.length ++ labL L))

set_option maxRecDepth 100000 in
set_option maxHeartbeats 6400000 in
theorem eget_ok (w : World) (X : Nat) (S : Nat → Prop) (D : Option Addr) (c : Nat) (bs : List UInt8) (k : Nat) (h : Scn w X S D c bs k) (op a : Nat) (L : List Nat) (rest : List UInt8) (hok : ConstOk op a) (ha : a < 18446744073709551616) (hL : L.length ≤ 10000) (hLb : ∀ x ∈ L, x < 4294967296) (hd : bs.drop k = eputL op a L ++ rest) :
    Calls Try.prog 93 #[.pointer (some ⟨X, 0, none⟩)] w fun e w' => ∃ D' c', e = .returned (.agg (elmC (op : Int) (a : Int) (.slice D' L.length c'))) ∧ w'.ownsRow w.heap.size 51 1 (.slice D' L.length c') L.length (u32s L) ∧ Scn w' X S D c bs (k + (eputL op a L).length) ∧ Step (fun i => i = X) w w' := by
  have hop : op < 256 := by rcases hok with ⟨rfl, h⟩ | ⟨rfl, h⟩ | rfl <;> decide
  have hd0 : bs.drop k = UInt8.ofNat 0 :: (cputL op a ++ (uintF L.length ++ (labL L ++ rest))) := by rw [hd, eputL]; simp
  have hd1 := (drop_cons hd0).2.2
  have hd2 := drop_app hd1
  have hd3 := drop_app hd2
  have hlen : k + (eputL op a L).length = k + 1 + (cputL op a).length + (uintF L.length).length + (labL L).length := by rw [eputL]; simp; omega
  have hrd : Hid (rdU (bs.drop (k + 1 + (cputL op a).length)) = (L.length, (uintF L.length).length, 0)) := by rw [Hid, hd2]; exact (rdU_back L.length _ (by omega)).1
  have HGe := Lib.hid (fun w' (h' : Scn w' X S D c bs (k + 1)) => cread_ok w' X S D c bs (k + 1) h' op a _ hok ha hd1)
  obtain ⟨k2, hk2⟩ : ∃ k2, k2 = k + 1 + (cputL op a).length := ⟨_, rfl⟩
  rw [hlen]
  rw [← hk2] at HGe hrd hd3 ⊢
  obtain ⟨n, hn⟩ : ∃ n, n = L.length := ⟨_, rfl⟩
  rw [← hn] at hrd hL hd3 ⊢
  have hxl := h.lt
  have hlow := h.low
  have HH := Lib.hid h
  have HN := Lib.hid hn
  clear h hd hd1 hd2 hlen hk2 hn
  go_enter Try.func93, Try.ntmps93
  go_wp2_with fail
  refine (at_walk _ X S D c bs k (HH.out.alloc _)).mono ?_
  rintro e w5 ⟨rfl, hw5⟩
  have HB5 := Lib.hid (Blk.new w 136 (elmC 0 0 (.slice none 0 0)))
  have HS5 := Lib.hid (HH.out.alloc (.cells (elmC 0 0 (.slice none 0 0)) 136))
  have HT5 := Lib.hid ((Step.refl (F := fun i => i = X)).alloc (w := w) (.cells (elmC 0 0 (.slice none 0 0)) 136))
  rw [show w.alloc (.cells (elmC 0 0 (.slice none 0 0)) 136) = w5 from hw5.symm] at HB5 HS5 HT5
  obtain ⟨R, hR⟩ : ∃ R, R = w.heap.size := ⟨_, rfl⟩
  have hRX : R ≠ X := by omega
  have hRw : w.heap.size ≤ R := by omega
  have hRS : ∀ j, S j → j ≠ R := fun j hj => by have := hlow j hj; omega
  rw [← hR] at HB5 ⊢
  clear hxl hw5 HH hR
  go_wp2_with fail
  refine (byte_at (b := 0) HS5.out (by decide) hd0).mono ?_
  rintro e w6 ⟨rfl, hs, ht⟩
  have HB6 := Lib.hid (HB5.out.step ht hRX)
  have HS6 := Lib.hid hs
  have HT6 := Lib.hid (HT5.out.trans ht)
  clear hs ht HB5 HS5 HT5 hd0
  go_wp2_with fail
  refine (aunless_ok _ _ _).mono ?_
  rintro e wS ⟨rfl, rfl⟩
  go_wp2_with fail
  refine (HGe.out _ HS6.out).mono ?_
  rintro e w7 ⟨rfl, hs7, ht7⟩
  have HB7 := Lib.hid ((HB6.out.step ht7 hRX).alloc (.cells (elmC (op : Int) (a : Int) (.slice none 0 0)) 136))
  have HI7 := Lib.hid (Blk.new w7 136 (elmC (op : Int) (a : Int) (.slice none 0 0)))
  have HS7 := Lib.hid (hs7.alloc (.cells (elmC (op : Int) (a : Int) (.slice none 0 0)) 136))
  have HT7 := Lib.hid ((HT6.out.trans ht7).alloc (.cells (elmC (op : Int) (a : Int) (.slice none 0 0)) 136))
  have hRI : R < w7.heap.size := by have := HB6.out.lt; have := ht7.size; omega
  have hXI : X < w7.heap.size := by have := HS6.out.lt; have := ht7.size; omega
  have hIw : w.heap.size ≤ w7.heap.size := (HT6.out.trans ht7).size
  clear hs7 ht7 HB6 HS6 HT6 HGe
  simp only [insC]
  go_wp2_with fail
  have hW2 : w7.alloc (.cells #[.int .u8 (op : Int), .int .u64 (a : Int), .int .u64 0, .slice none 0 0, .slice none 0 0] 136) = w7.alloc (.cells (elmC (op : Int) (a : Int) (.slice none 0 0)) 136) := rfl
  rw [hW2]
  obtain ⟨I, hI⟩ : ∃ I, I = w7.heap.size := ⟨_, rfl⟩
  obtain ⟨W, hW⟩ : ∃ W, W = w7.alloc (.cells (elmC (op : Int) (a : Int) (.slice none 0 0)) 136) := ⟨_, rfl⟩
  rw [← hI] at HI7 hRI hXI hIw ⊢
  rw [← hW] at HB7 HI7 HS7 HT7 ⊢
  have hIS : ∀ j, S j → j ≠ I := fun j hj => by have := hlow j hj; omega
  have hIX : I ≠ X := by omega
  have hRI2 : R ≠ I := by omega
  clear hW hI hW2
  refine (count_ok _ X S D c bs k2 HS7.out n _ hrd.out hL).mono ?_
  rintro e w9 ⟨rfl, hs, ht⟩
  have HB9 := Lib.hid (HB7.out.step ht hRX)
  have HI9 : Hid (Blk w9 I 136 #[.int .u8 (op : Int), .int .u64 (a : Int), .int .u64 0, .slice none 0 0, .slice none 0 0]) := HI7.out.step ht hIX
  have HT9 := Lib.hid (HT7.out.trans ht)
  have HO9 : Hid (w9.ownsRow w.heap.size 51 1 (.slice none 0 0) 0 (u32s (L.take 0))) := World.ownsRow_nil _ _ _ _
  have HK9 : Hid (Scn w9 X S D c bs (k2 + (uintF n).length + (labL (L.take 0)).length)) := hs
  clear hs ht HB7 HI7 HS7 HT7 hrd
  go_wp2_with fail
  go_loopw [17] (fun iv wr => ∃ (j c2 : Nat) (D2 : Option Addr), j ≤ n ∧ iv = .int .i64 (j : Int) ∧ Hid (Blk wr R 136 (elmC 0 0 (.slice none 0 0))) ∧ Hid (Blk wr I 136 #[.int .u8 (op : Int), .int .u64 (a : Int), .int .u64 0, .slice none 0 0, .slice D2 j c2]) ∧
    Hid (wr.ownsRow w.heap.size 51 1 (.slice D2 j c2) j (u32s (L.take j))) ∧ Hid (Scn wr X S D c bs (k2 + (uintF n).length + (labL (L.take j)).length)) ∧ Hid (Step (fun i => i = X) w wr)) (fun iv _ => n + 1 - (intOf iv).toNat)
  case atStart => exact ⟨0, 0, none, by omega, rfl, HB9, HI9, HO9, HK9, HT9⟩
  case round =>
    obtain ⟨j, c2, D2, hj, rfl, HBj, HIj, HOj, HKj, HTj⟩ := hrel
    clear HO9 HI9 HK9
    by_cases hlt : j < n
    · have g1 : (j : Int) < (n : Int) := by omega
      have hw1 := IntWalk.i64_in ((j : Int) + 1) (by omega)
      have hjl : j < L.length := by rw [← HN.out]; exact hlt
      have hdj : bs.drop (k2 + (uintF n).length + (labL (L.take j)).length) = uintF L[j] ++ (labL (L.drop (j + 1)) ++ rest) := by
        rw [← List.append_assoc (uintF L[j]), ← labL_drop L j hjl]
        refine drop_app ?_
        rw [hd3, show labL L = labL (L.take j) ++ labL (L.drop j) by rw [labL, labL, labL, ← List.flatMap_append, List.take_append_drop], List.append_assoc]
      have HP : Hid (labL (L.take (j + 1)) = labL (L.take j) ++ uintF L[j]) := labL_take L j hjl
      have HU : Hid (u32s (L.take (j + 1)) = u32s (L.take j) ++ [.int .u32 (L[j] : Int)]) := by
        rw [Hid, List.take_succ_eq_append_getElem hjl, u32s_append]
        rfl
      have hxb := hLb L[j] (List.getElem_mem hjl)
      generalize L[j] = x at *
      obtain ⟨kj, hkj⟩ : ∃ kj, kj = k2 + (uintF n).length + (labL (L.take j)).length := ⟨_, rfl⟩
      have HK2 : Hid (k2 + (uintF n).length + (labL (L.take (j + 1))).length = kj + (uintF x).length) := by
        rw [Hid, HP.out, List.length_append, hkj]; omega
      rw [← hkj] at HKj hdj
      clear hkj HP
      have i4 := HIj.out.cell 4
      simp at i4
      have hDI : blkOf D2 ≠ some I := by rw [← ownBlock_slice D2 j c2]; exact own_tag HOj.out HIj.out (by decide)
      have hDX : blkOf D2 ≠ some X := by rw [← ownBlock_slice D2 j c2]; exact own_tag HOj.out HKj.out.blk (by decide)
      have hDR : blkOf D2 ≠ some R := by rw [← ownBlock_slice D2 j c2]; exact own_tag HOj.out HBj.out (by decide)
      have hDge : ∀ q, blkOf D2 = some q → w.heap.size ≤ q := fun q hq => own_ge HOj.out q (by rw [ownBlock_slice]; exact hq)
      obtain ⟨F, hF⟩ : ∃ F : Nat → Prop, F = fun q => q = X ∨ blkOf D2 = some q := ⟨_, rfl⟩
      have hFI : ¬ F I := by rw [hF]; intro h; exact h.elim hIX hDI
      have d4 := cls_cell (F := F) (w0 := wr) i4 hFI
      have hIl := HIj.out.lt
      have HF := Lib.hid hF
      clear i4 hF
      go_wp2_with fail
      refine Mix.wp_region_mix [3, 4, 5, 7] [3, 4, 5] (Step F wr) (by kernel_rfl) (by kernel_rfl) Step.refl.drew (fun hcls => ?_)
      refine Mix.wpL_reads 3 (by rfl) ?_
      simp only [List.take_succ_cons, List.drop_succ_cons, List.take_zero, List.drop_zero]
      repeat (go_big_quiet_step (fail))
      refine wpQuiet_nil ?_
      refine Mix.wpL_op (by rfl) (fun K hK => ?_)
      go_simp
      refine (index_at (HKj.out.quiet Step.refl.drew) hxb hdj).mono ?_
      rintro e wa ⟨rfl, hsa, hta⟩
      have HTa : Hid (Step F wr wa) := Lib.hid ((Step.refl.drew).trans (hta.mono fun q _ hq => by rw [HF.out]; exact .inl hq))
      refine hK _ _ (fun hlt => Mix.cl HTa.out) ?_
      clear hK K
      refine Mix.wpL_op (by rfl) (fun K hK => ?_)
      go_simp
      refine hK _ _ (fun hlt => Mix.cl (HTa.out.alloc _)) ?_
      clear hK K
      have hOa : (wa.alloc (.cells #[.int .u32 (x : Int)] 51)).ownsRow w.heap.size 51 1 (.slice D2 j c2) j (u32s (L.take j)) :=
        (own_step (own_drew HOj.out) hta (fun q hq e => hDX (by rw [← ownBlock_slice D2 j c2, hq, e]))).alloc _
      have HIa := Lib.hid ((HIj.out.drew.step hta hIX).alloc (.cells #[.int .u32 (x : Int)] 51))
      have HBa := Lib.hid ((HBj.out.drew.step hta hRX).alloc (.cells #[.int .u32 (x : Int)] 51))
      have HKa := Lib.hid (hsa.alloc (.cells #[.int .u32 (x : Int)] 51))
      have HTw := Lib.hid (((HTj.out.drew).trans hta).alloc (.cells #[.int .u32 (x : Int)] 51))
      have HTa2 := Lib.hid (HTa.out.alloc (.cells #[.int .u32 (x : Int)] 51))
      have hsz2 := HTw.out.size
      have hsza : wr.heap.size ≤ wa.heap.size := hta.size
      have hszb : (wa.alloc (.cells #[.int .u32 (x : Int)] 51)).heap.size = wa.heap.size + 1 := by simp
      clear hsa hta HTa
      have hone : ∀ u ∈ #[Value.int .u32 (x : Int)].toList, u.oneCell' = true := by simp [Value.oneCell']
      have hm : j + 1 ≤ maxLen := by unfold maxLen; omega
      refine Mix.wpL_op (by rfl) (fun K hK => ?_)
      refine step_append_src _ (by rfl) _ _ (by rfl) E_u32 (by rfl) hOa (by rfl) (reads_new _ #[Value.int .u32 (x : Int)] 51 1 1 rfl) hone hm (by omega) hsz2 ?_
      intro D3 c3 w3 hown3 hgrow3 hat3
      have HI3 := Lib.hid (HIa.out.grown hgrow3 hDI)
      have HB3 := Lib.hid (HBa.out.grown hgrow3 hDR)
      have HK3 := Lib.hid (HKa.out.step (F := fun q => blkOf D2 = some q) (Step.refl.grown hgrow3 (fun q hq => .inl hq)) hDX (fun q hq hd => by have := hlow q hq; have := hDge q hd; omega))
      have HT3 := Lib.hid (HTw.out.grown hgrow3 (fun q hq => .inr (hDge q hq)))
      have HTF := Lib.hid (HTa2.out.grown hgrow3 (fun q hq => .inl (by rw [HF.out]; exact .inr hq)))
      refine hK _ _ (fun hlt => Mix.cl HTF.out) ?_
      clear hK K hgrow3 HTa2 HTw HKa HBa HIa hOa
      simp only [Act.put, List.setIfInBounds_toArray, List.set_cons_succ, List.set_cons_zero]
      refine Mix.wpL_reads 1 (by rfl) ?_
      simp only [List.take_succ_cons, List.drop_succ_cons, List.take_zero, List.drop_zero]
      repeat (go_big_quiet_step (fail))
      refine wpQuiet_nil ?_
      have zz := HI3.out.frozen 4
      have cc := HI3.out.cell 4
      simp at cc
      have hHat : blkOf D3 = some I → False := fun e => by
        rcases hat3 with h3 | h3
        · exact hDI (h3 ▸ e)
        · rw [h3, hszb] at e
          injection e with e
          omega
      have HI4 : Hid (Blk (w3.setCell ⟨I, 4, none⟩ (.slice D3 (j + 1) c3)) I 136 #[.int .u8 (op : Int), .int .u64 (a : Int), .int .u64 0, .slice none 0 0, .slice D3 (j + 1) c3]) := by
        have hq := HI3.out.set_ 4 (.slice D3 (j + 1) c3)
        simp at hq
        exact hq
      have HB4 := Lib.hid (HB3.out.far (p := ⟨I, 4, none⟩) hRI2 (.slice D3 (j + 1) c3))
      have hst4 : Step (fun j => j = I) w3 (w3.setCell ⟨I, 4, none⟩ (.slice D3 (j + 1) c3)) := (Step.refl (F := fun j => j = I)).setCell (p := ⟨I, 4, none⟩) (.inl rfl) _
      have HK4 := Lib.hid (HK3.out.step hst4 (Ne.symm hIX) hIS)
      have HT4 := Lib.hid (HT3.out.setCell (p := ⟨I, 4, none⟩) (.inr hIw) (.slice D3 (j + 1) c3))
      have HO4 := Lib.hid (own_set hown3 (p := ⟨I, 4, none⟩) (by rw [ownBlock_slice]; exact fun e => hHat e) (.slice D3 (j + 1) c3))
      refine Mix.wpL_op (by rfl) (fun K hK => ?_)
      go_simp
      refine hK _ _ (fun hlt => absurd hlt (by decide)) ?_
      clear hK K
      refine Mix.wpL_end ?_
      have hus : u32s (L.take j) ++ #[Value.int .u32 (x : Int)].toList = u32s (L.take (j + 1)) := by rw [HU.out]
      rw [hus] at HO4
      rw [← HK2.out] at HK4
      go_wp2_with fail
      go_roundw
      case rel => exact ⟨j + 1, c3, D3, by omega, by rw [Int.natCast_add]; rfl, HB4, HI4, HO4, HK4, HT4⟩
      case measure => simp [intOf]; omega
    · obtain rfl : j = n := by omega
      have hLt : L.take j = L := by rw [HN.out]; exact List.take_length
      rw [hLt] at HOj HKj
      have hDI : blkOf D2 ≠ some I := by rw [← ownBlock_slice D2 j c2]; exact own_tag HOj.out HIj.out (by decide)
      have hDR : blkOf D2 ≠ some R := by rw [← ownBlock_slice D2 j c2]; exact own_tag HOj.out HBj.out (by decide)
      have y0 := HIj.out.cell 0
      have y1 := HIj.out.cell 1
      have y2 := HIj.out.cell 2
      have y3 := HIj.out.cell 3
      have y4 := HIj.out.cell 4
      simp at y0 y1 y2 y3 y4
      have hone := elmC_one (op : Int) (a : Int) D2 j c2
      have hbl := HBj.out
      go_wp2_with (refine wpList_store_rowTo rfl 136 _ _ rfl rfl R (elmC (op : Int) (a : Int) (.slice D2 j c2)) rfl rfl 136 _ hbl rfl rfl hone ?_)
      have r0 := (hbl.row (elmC (op : Int) (a : Int) (.slice D2 j c2))).cell 0
      have r1 := (hbl.row (elmC (op : Int) (a : Int) (.slice D2 j c2))).cell 1
      have r2 := (hbl.row (elmC (op : Int) (a : Int) (.slice D2 j c2))).cell 2
      have r3 := (hbl.row (elmC (op : Int) (a : Int) (.slice D2 j c2))).cell 3
      have r4 := (hbl.row (elmC (op : Int) (a : Int) (.slice D2 j c2))).cell 4
      simp [elmC] at r0 r1 r2 r3 r4
      have hst13 : Step (fun q => q = R) wr (wr.setRow R (elmC (op : Int) (a : Int) (.slice D2 j c2))) := Step.setRow (F := fun j => j = R) Step.refl (g := R) (.inl rfl) (elmC (op : Int) (a : Int) (.slice D2 j c2))
      have hSF := HKj.out.step hst13 (Ne.symm hRX) hRS
      have hTF := HTj.out.setRow (g := R) (.inr hRw) (elmC (op : Int) (a : Int) (.slice D2 j c2))
      have hOF := own_step HOj.out hst13 (fun q hq e => hDR (by rw [← ownBlock_slice D2 j c2, hq, e]))
      refine bodyPost_ret (v := .agg (elmC (op : Int) (a : Int) (.slice D2 j c2))) (by simp [results, Try.results93, go_sem, elmC, r0, r1, r2, r3, r4]) rfl ?_
      exact ⟨D2, c2, rfl, hOF, hSF, hTF⟩
end Go.Proofs.Ytfemeendkjcffaa
