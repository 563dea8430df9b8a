/-
  El: ElA, ElB, ElC.
-/
import Derived.Test.YtfemeendkjcffaaCrA
import Derived.Test.YtfemeendkjcffaaMix
import Derived.Test.YtfemeendkjcffaaRes
import Derived.Test.YtfemeendkjcffaaSaA
import Derived.Test.YtfemeendkjcffaaPw
import Derived.Test.YtfemeendkjcffaaDa
set_option linter.unusedVariables false
set_option linter.unusedSimpArgs false
/-! elems: Get of what may be. -/
namespace Go.Proofs.Ytfemeendkjcffaa
open Go.RowKit

/-- The cells of a table's row. -/
def elmC (op a : Int) (f : Value) : Array Value := #[.int .u8 op, .int .u64 a, .int .u64 0, .slice none 0 0, f]
theorem elmC_one (op a : Int) (D : Option Addr) (n c : Nat) : (elmC op a (.slice D n c)).all (·.oneCell') = true := by simp [elmC, Value.oneCell']
def eputL (op a : Nat) (L : List Nat) : List UInt8 := UInt8.ofNat 0 :: (cputL op a ++ (uintF L.length ++ labL L))

set_option maxRecDepth 100000 in
set_option maxHeartbeats 6400000 in
theorem eget_ok (w : World) (X : Nat) (S : Nat → Prop) (D : Option Addr) (c : Nat) (bs : List UInt8) (k : Nat) (h : Scn w X S D c bs k) (op a : Nat) (L : List Nat) (rest : List UInt8) (hok : ConstOk op a) (ha : a < 18446744073709551616) (hL : L.length ≤ 10000) (hLb : ∀ x ∈ L, x < 4294967296) (hd : bs.drop k = eputL op a L ++ rest) :
    Calls Try.prog 93 #[.pointer (some ⟨X, 0, none⟩)] w fun e w' => ∃ D' c', e = .returned (.agg (elmC (op : Int) (a : Int) (.slice D' L.length c'))) ∧ w'.ownsRow w.heap.size 51 1 (.slice D' L.length c') L.length (u32s L) ∧ Scn w' X S D c bs (k + (eputL op a L).length) ∧ Step (fun i => i = X) w w' := by
  have hop : op < 256 := by rcases hok with ⟨rfl, h⟩ | ⟨rfl, h⟩ | rfl <;> decide
  have hd0 : bs.drop k = UInt8.ofNat 0 :: (cputL op a ++ (uintF L.length ++ (labL L ++ rest))) := by rw [hd, eputL]; simp
  have hd1 := (drop_cons hd0).2.2
  have hd2 := drop_app hd1
  have hd3 := drop_app hd2
  have hlen : k + (eputL op a L).length = k + 1 + (cputL op a).length + (uintF L.length).length + (labL L).length := by rw [eputL]; simp; omega
  have hrd : Hid (rdU (bs.drop (k + 1 + (cputL op a).length)) = (L.length, (uintF L.length).length, 0)) := by rw [Hid, hd2]; exact (rdU_back L.length _ (by omega)).1
  have HGe := Lib.hid (fun w' (h' : Scn w' X S D c bs (k + 1)) => cread_ok w' X S D c bs (k + 1) h' op a _ hok ha hd1)
  obtain ⟨k2, hk2⟩ : ∃ k2, k2 = k + 1 + (cputL op a).length := ⟨_, rfl⟩
  rw [hlen]
  rw [← hk2] at HGe hrd hd3 ⊢
  obtain ⟨n, hn⟩ : ∃ n, n = L.length := ⟨_, rfl⟩
  rw [← hn] at hrd hL hd3 ⊢
  have hxl := h.lt
  have hlow := h.low
  have HH := Lib.hid h
  have HN := Lib.hid hn
  clear h hd hd1 hd2 hlen hk2 hn
  go_enter Try.func93, Try.ntmps93
  go_wp2_with fail
  refine (at_walk _ X S D c bs k (HH.out.alloc _)).mono ?_
  rintro e w5 ⟨rfl, hw5⟩
  have HB5 := Lib.hid (Blk.new w 136 (elmC 0 0 (.slice none 0 0)))
  have HS5 := Lib.hid (HH.out.alloc (.cells (elmC 0 0 (.slice none 0 0)) 136))
  have HT5 := Lib.hid ((Step.refl (F := fun i => i = X)).alloc (w := w) (.cells (elmC 0 0 (.slice none 0 0)) 136))
  rw [show w.alloc (.cells (elmC 0 0 (.slice none 0 0)) 136) = w5 from hw5.symm] at HB5 HS5 HT5
  obtain ⟨R, hR⟩ : ∃ R, R = w.heap.size := ⟨_, rfl⟩
  have hRX : R ≠ X := by omega
  have hRw : w.heap.size ≤ R := by omega
  have hRS : ∀ j, S j → j ≠ R := fun j hj => by have := hlow j hj; omega
  rw [← hR] at HB5 ⊢
  clear hxl hw5 HH hR
  go_wp2_with fail
  refine (byte_at (b := 0) HS5.out (by decide) hd0).mono ?_
  rintro e w6 ⟨rfl, hs, ht⟩
  have HB6 := Lib.hid (HB5.out.step ht hRX)
  have HS6 := Lib.hid hs
  have HT6 := Lib.hid (HT5.out.trans ht)
  clear hs ht HB5 HS5 HT5 hd0
  go_wp2_with fail
  refine (aunless_ok _ _ _).mono ?_
  rintro e wS ⟨rfl, rfl⟩
  go_wp2_with fail
  refine (HGe.out _ HS6.out).mono ?_
  rintro e w7 ⟨rfl, hs7, ht7⟩
  have HB7 := Lib.hid ((HB6.out.step ht7 hRX).alloc (.cells (elmC (op : Int) (a : Int) (.slice none 0 0)) 136))
  have HI7 := Lib.hid (Blk.new w7 136 (elmC (op : Int) (a : Int) (.slice none 0 0)))
  have HS7 := Lib.hid (hs7.alloc (.cells (elmC (op : Int) (a : Int) (.slice none 0 0)) 136))
  have HT7 := Lib.hid ((HT6.out.trans ht7).alloc (.cells (elmC (op : Int) (a : Int) (.slice none 0 0)) 136))
  have hRI : R < w7.heap.size := by have := HB6.out.lt; have := ht7.size; omega
  have hXI : X < w7.heap.size := by have := HS6.out.lt; have := ht7.size; omega
  have hIw : w.heap.size ≤ w7.heap.size := (HT6.out.trans ht7).size
  clear hs7 ht7 HB6 HS6 HT6 HGe
  simp only [insC]
  go_wp2_with fail
  have hW2 : w7.alloc (.cells #[.int .u8 (op : Int), .int .u64 (a : Int), .int .u64 0, .slice none 0 0, .slice none 0 0] 136) = w7.alloc (.cells (elmC (op : Int) (a : Int) (.slice none 0 0)) 136) := rfl
  rw [hW2]
  obtain ⟨I, hI⟩ : ∃ I, I = w7.heap.size := ⟨_, rfl⟩
  obtain ⟨W, hW⟩ : ∃ W, W = w7.alloc (.cells (elmC (op : Int) (a : Int) (.slice none 0 0)) 136) := ⟨_, rfl⟩
  rw [← hI] at HI7 hRI hXI hIw ⊢
  rw [← hW] at HB7 HI7 HS7 HT7 ⊢
  have hIS : ∀ j, S j → j ≠ I := fun j hj => by have := hlow j hj; omega
  have hIX : I ≠ X := by omega
  have hRI2 : R ≠ I := by omega
  clear hW hI hW2
  refine (count_ok _ X S D c bs k2 HS7.out n _ hrd.out hL).mono ?_
  rintro e w9 ⟨rfl, hs, ht⟩
  have HB9 := Lib.hid (HB7.out.step ht hRX)
  have HI9 : Hid (Blk w9 I 136 #[.int .u8 (op : Int), .int .u64 (a : Int), .int .u64 0, .slice none 0 0, .slice none 0 0]) := HI7.out.step ht hIX
  have HT9 := Lib.hid (HT7.out.trans ht)
  have HO9 : Hid (w9.ownsRow w.heap.size 51 1 (.slice none 0 0) 0 (u32s (L.take 0))) := World.ownsRow_nil _ _ _ _
  have HK9 : Hid (Scn w9 X S D c bs (k2 + (uintF n).length + (labL (L.take 0)).length)) := hs
  clear hs ht HB7 HI7 HS7 HT7 hrd
  go_wp2_with fail
  go_loopw [17] (fun iv wr => ∃ (j c2 : Nat) (D2 : Option Addr), j ≤ n ∧ iv = .int .i64 (j : Int) ∧ Hid (Blk wr R 136 (elmC 0 0 (.slice none 0 0))) ∧ Hid (Blk wr I 136 #[.int .u8 (op : Int), .int .u64 (a : Int), .int .u64 0, .slice none 0 0, .slice D2 j c2]) ∧
    Hid (wr.ownsRow w.heap.size 51 1 (.slice D2 j c2) j (u32s (L.take j))) ∧ Hid (Scn wr X S D c bs (k2 + (uintF n).length + (labL (L.take j)).length)) ∧ Hid (Step (fun i => i = X) w wr)) (fun iv _ => n + 1 - (intOf iv).toNat)
  case atStart => exact ⟨0, 0, none, by omega, rfl, HB9, HI9, HO9, HK9, HT9⟩
  case round =>
    obtain ⟨j, c2, D2, hj, rfl, HBj, HIj, HOj, HKj, HTj⟩ := hrel
    clear HO9 HI9 HK9
    by_cases hlt : j < n
    · have g1 : (j : Int) < (n : Int) := by omega
      have hw1 := IntWalk.i64_in ((j : Int) + 1) (by omega)
      have hjl : j < L.length := by rw [← HN.out]; exact hlt
      have hdj : bs.drop (k2 + (uintF n).length + (labL (L.take j)).length) = uintF L[j] ++ (labL (L.drop (j + 1)) ++ rest) := by
        rw [← List.append_assoc (uintF L[j]), ← labL_drop L j hjl]
        refine drop_app ?_
        rw [hd3, show labL L = labL (L.take j) ++ labL (L.drop j) by rw [labL, labL, labL, ← List.flatMap_append, List.take_append_drop], List.append_assoc]
      have HP : Hid (labL (L.take (j + 1)) = labL (L.take j) ++ uintF L[j]) := labL_take L j hjl
      have HU : Hid (u32s (L.take (j + 1)) = u32s (L.take j) ++ [.int .u32 (L[j] : Int)]) := by
        rw [Hid, List.take_succ_eq_append_getElem hjl, u32s_append]
        rfl
      have hxb := hLb L[j] (List.getElem_mem hjl)
      generalize L[j] = x at *
      obtain ⟨kj, hkj⟩ : ∃ kj, kj = k2 + (uintF n).length + (labL (L.take j)).length := ⟨_, rfl⟩
      have HK2 : Hid (k2 + (uintF n).length + (labL (L.take (j + 1))).length = kj + (uintF x).length) := by
        rw [Hid, HP.out, List.length_append, hkj]; omega
      rw [← hkj] at HKj hdj
      clear hkj HP
      have i4 := HIj.out.cell 4
      simp at i4
      have hDI : blkOf D2 ≠ some I := by rw [← ownBlock_slice D2 j c2]; exact own_tag HOj.out HIj.out (by decide)
      have hDX : blkOf D2 ≠ some X := by rw [← ownBlock_slice D2 j c2]; exact own_tag HOj.out HKj.out.blk (by decide)
      have hDR : blkOf D2 ≠ some R := by rw [← ownBlock_slice D2 j c2]; exact own_tag HOj.out HBj.out (by decide)
      have hDge : ∀ q, blkOf D2 = some q → w.heap.size ≤ q := fun q hq => own_ge HOj.out q (by rw [ownBlock_slice]; exact hq)
      obtain ⟨F, hF⟩ : ∃ F : Nat → Prop, F = fun q => q = X ∨ blkOf D2 = some q := ⟨_, rfl⟩
      have hFI : ¬ F I := by rw [hF]; intro h; exact h.elim hIX hDI
      have d4 := cls_cell (F := F) (w0 := wr) i4 hFI
      have hIl := HIj.out.lt
      have HF := Lib.hid hF
      clear i4 hF
      go_wp2_with fail
      refine Mix.wp_region_mix [3, 4, 5, 7] [3, 4, 5] (Step F wr) (by kernel_rfl) (by kernel_rfl) Step.refl.drew (fun hcls => ?_)
      refine Mix.wpL_reads 3 (by rfl) ?_
      simp only [List.take_succ_cons, List.drop_succ_cons, List.take_zero, List.drop_zero]
      repeat (go_big_quiet_step (fail))
      refine wpQuiet_nil ?_
      refine Mix.wpL_op (by rfl) (fun K hK => ?_)
      go_simp
      refine (index_at (HKj.out.quiet Step.refl.drew) hxb hdj).mono ?_
      rintro e wa ⟨rfl, hsa, hta⟩
      have HTa : Hid (Step F wr wa) := Lib.hid ((Step.refl.drew).trans (hta.mono fun q _ hq => by rw [HF.out]; exact .inl hq))
      refine hK _ _ (fun hlt => Mix.cl HTa.out) ?_
      clear hK K
      refine Mix.wpL_op (by rfl) (fun K hK => ?_)
      go_simp
      refine hK _ _ (fun hlt => Mix.cl (HTa.out.alloc _)) ?_
      clear hK K
      have hOa : (wa.alloc (.cells #[.int .u32 (x : Int)] 51)).ownsRow w.heap.size 51 1 (.slice D2 j c2) j (u32s (L.take j)) :=
        (own_step (own_drew HOj.out) hta (fun q hq e => hDX (by rw [← ownBlock_slice D2 j c2, hq, e]))).alloc _
      have HIa := Lib.hid ((HIj.out.drew.step hta hIX).alloc (.cells #[.int .u32 (x : Int)] 51))
      have HBa := Lib.hid ((HBj.out.drew.step hta hRX).alloc (.cells #[.int .u32 (x : Int)] 51))
      have HKa := Lib.hid (hsa.alloc (.cells #[.int .u32 (x : Int)] 51))
      have HTw := Lib.hid (((HTj.out.drew).trans hta).alloc (.cells #[.int .u32 (x : Int)] 51))
      have HTa2 := Lib.hid (HTa.out.alloc (.cells #[.int .u32 (x : Int)] 51))
      have hsz2 := HTw.out.size
      have hsza : wr.heap.size ≤ wa.heap.size := hta.size
      have hszb : (wa.alloc (.cells #[.int .u32 (x : Int)] 51)).heap.size = wa.heap.size + 1 := by simp
      clear hsa hta HTa
      have hone : ∀ u ∈ #[Value.int .u32 (x : Int)].toList, u.oneCell' = true := by simp [Value.oneCell']
      have hm : j + 1 ≤ maxLen := by unfold maxLen; omega
      refine Mix.wpL_op (by rfl) (fun K hK => ?_)
      refine step_append_src _ (by rfl) _ _ (by rfl) E_u32 (by rfl) hOa (by rfl) (reads_new _ #[Value.int .u32 (x : Int)] 51 1 1 rfl) hone hm (by omega) hsz2 ?_
      intro D3 c3 w3 hown3 hgrow3 hat3
      have HI3 := Lib.hid (HIa.out.grown hgrow3 hDI)
      have HB3 := Lib.hid (HBa.out.grown hgrow3 hDR)
      have HK3 := Lib.hid (HKa.out.step (F := fun q => blkOf D2 = some q) (Step.refl.grown hgrow3 (fun q hq => .inl hq)) hDX (fun q hq hd => by have := hlow q hq; have := hDge q hd; omega))
      have HT3 := Lib.hid (HTw.out.grown hgrow3 (fun q hq => .inr (hDge q hq)))
      have HTF := Lib.hid (HTa2.out.grown hgrow3 (fun q hq => .inl (by rw [HF.out]; exact .inr hq)))
      refine hK _ _ (fun hlt => Mix.cl HTF.out) ?_
      clear hK K hgrow3 HTa2 HTw HKa HBa HIa hOa
      simp only [Act.put, List.setIfInBounds_toArray, List.set_cons_succ, List.set_cons_zero]
      refine Mix.wpL_reads 1 (by rfl) ?_
      simp only [List.take_succ_cons, List.drop_succ_cons, List.take_zero, List.drop_zero]
      repeat (go_big_quiet_step (fail))
      refine wpQuiet_nil ?_
      have zz := HI3.out.frozen 4
      have cc := HI3.out.cell 4
      simp at cc
      have hHat : blkOf D3 = some I → False := fun e => by
        rcases hat3 with h3 | h3
        · exact hDI (h3 ▸ e)
        · rw [h3, hszb] at e
          injection e with e
          omega
      have HI4 : Hid (Blk (w3.setCell ⟨I, 4, none⟩ (.slice D3 (j + 1) c3)) I 136 #[.int .u8 (op : Int), .int .u64 (a : Int), .int .u64 0, .slice none 0 0, .slice D3 (j + 1) c3]) := by
        have hq := HI3.out.set_ 4 (.slice D3 (j + 1) c3)
        simp at hq
        exact hq
      have HB4 := Lib.hid (HB3.out.far (p := ⟨I, 4, none⟩) hRI2 (.slice D3 (j + 1) c3))
      have hst4 : Step (fun j => j = I) w3 (w3.setCell ⟨I, 4, none⟩ (.slice D3 (j + 1) c3)) := (Step.refl (F := fun j => j = I)).setCell (p := ⟨I, 4, none⟩) (.inl rfl) _
      have HK4 := Lib.hid (HK3.out.step hst4 (Ne.symm hIX) hIS)
      have HT4 := Lib.hid (HT3.out.setCell (p := ⟨I, 4, none⟩) (.inr hIw) (.slice D3 (j + 1) c3))
      have HO4 := Lib.hid (own_set hown3 (p := ⟨I, 4, none⟩) (by rw [ownBlock_slice]; exact fun e => hHat e) (.slice D3 (j + 1) c3))
      refine Mix.wpL_op (by rfl) (fun K hK => ?_)
      go_simp
      refine hK _ _ (fun hlt => absurd hlt (by decide)) ?_
      clear hK K
      refine Mix.wpL_end ?_
      have hus : u32s (L.take j) ++ #[Value.int .u32 (x : Int)].toList = u32s (L.take (j + 1)) := by rw [HU.out]
      rw [hus] at HO4
      rw [← HK2.out] at HK4
      go_wp2_with fail
      go_roundw
      case rel => exact ⟨j + 1, c3, D3, by omega, by rw [Int.natCast_add]; rfl, HB4, HI4, HO4, HK4, HT4⟩
      case measure => simp [intOf]; omega
    · obtain rfl : j = n := by omega
      have hLt : L.take j = L := by rw [HN.out]; exact List.take_length
      rw [hLt] at HOj HKj
      have hDI : blkOf D2 ≠ some I := by rw [← ownBlock_slice D2 j c2]; exact own_tag HOj.out HIj.out (by decide)
      have hDR : blkOf D2 ≠ some R := by rw [← ownBlock_slice D2 j c2]; exact own_tag HOj.out HBj.out (by decide)
      have y0 := HIj.out.cell 0
      have y1 := HIj.out.cell 1
      have y2 := HIj.out.cell 2
      have y3 := HIj.out.cell 3
      have y4 := HIj.out.cell 4
      simp at y0 y1 y2 y3 y4
      have hone := elmC_one (op : Int) (a : Int) D2 j c2
      have hbl := HBj.out
      go_wp2_with (refine wpList_store_rowTo rfl 136 _ _ rfl rfl R (elmC (op : Int) (a : Int) (.slice D2 j c2)) rfl rfl 136 _ hbl rfl rfl hone ?_)
      have r0 := (hbl.row (elmC (op : Int) (a : Int) (.slice D2 j c2))).cell 0
      have r1 := (hbl.row (elmC (op : Int) (a : Int) (.slice D2 j c2))).cell 1
      have r2 := (hbl.row (elmC (op : Int) (a : Int) (.slice D2 j c2))).cell 2
      have r3 := (hbl.row (elmC (op : Int) (a : Int) (.slice D2 j c2))).cell 3
      have r4 := (hbl.row (elmC (op : Int) (a : Int) (.slice D2 j c2))).cell 4
      simp [elmC] at r0 r1 r2 r3 r4
      have hst13 : Step (fun q => q = R) wr (wr.setRow R (elmC (op : Int) (a : Int) (.slice D2 j c2))) := Step.setRow (F := fun j => j = R) Step.refl (g := R) (.inl rfl) (elmC (op : Int) (a : Int) (.slice D2 j c2))
      have hSF := HKj.out.step hst13 (Ne.symm hRX) hRS
      have hTF := HTj.out.setRow (g := R) (.inr hRw) (elmC (op : Int) (a : Int) (.slice D2 j c2))
      have hOF := own_step HOj.out hst13 (fun q hq e => hDR (by rw [← ownBlock_slice D2 j c2, hq, e]))
      refine bodyPost_ret (v := .agg (elmC (op : Int) (a : Int) (.slice D2 j c2))) (by simp [results, Try.results93, go_sem, elmC, r0, r1, r2, r3, r4]) rfl ?_
      exact ⟨D2, c2, rfl, hOF, hSF, hTF⟩
end Go.Proofs.Ytfemeendkjcffaa
/-! elems: Right, Put. -/
namespace Go.Proofs.Ytfemeendkjcffaa
open Go.RowKit

/-- A table's row as the law gets it. -/
def elmX (op a b : Nat) (A : Option Addr) (n c : Nat) (f : Value) : Array Value := #[.int .u8 (op : Int), .int .u64 (a : Int), .int .u64 (b : Int), .slice A n c, f]
/-- Bytes, then labels. -/
def preE (T : List UInt8) (L : List Nat) (j : Nat) : List UInt8 := T ++ labL (L.take j)
theorem preE_zero (T : List UInt8) (L : List Nat) : preE T L 0 = T := by simp [preE, labL]
theorem preE_succ (T : List UInt8) (L : List Nat) (j : Nat) (h : j < L.length) : preE T L (j + 1) = preE T L j ++ uintF L[j] := by
  rw [preE, labL_take L j h, preE]
  simp
theorem preE_all (T : List UInt8) (L : List Nat) : preE T L L.length = T ++ labL L := by rw [preE, List.take_length]
theorem preE_len (T : List UInt8) (L : List Nat) (j : Nat) (hj : j ≤ L.length) : (preE T L j).length ≤ T.length + 10 * L.length := by
  have h2 := labL_len (L.take j)
  rw [List.length_take] at h2
  rw [preE, List.length_append]
  omega

section
variable (w : World) (op a b n c m fc : Nat) (A FA : Option Addr) (hop : op < 256) (hm : m ≤ 1000)
include hop hm

set_option maxRecDepth 100000 in
set_option maxHeartbeats 1600000 in
theorem eright_walk :
    Calls Try.prog 90 #[.agg (elmX op a b A n c (.slice FA m fc))] w fun e w' => e = .returned (.int .i64 (crtF op a b n : Nat)) ∧ Step (fun _ => False) w w' := by
  have HR : Hid (∀ w, Calls Try.prog 38 #[.agg #[.int .u8 (op : Int), .int .u64 (a : Int), .int .u64 (b : Int), .slice A n c]] w fun e w' => e = .returned (.int .i64 (crtF op a b n : Nat)) ∧ Step (fun _ => False) w w') := fun w => cright_walk w op a b n c A hop
  have g1 : ¬ (10000 : Int) < (m : Int) := by omega
  simp only [elmX]
  go_enter Try.func90, Try.ntmps90
  go_wp2_with fail
  refine (HR.out _).mono ?_
  rintro e w5 ⟨rfl, hS5⟩
  go_wp2_with fail
  go_ret
  exact ⟨rfl, (Step.refl.alloc _).trans hS5⟩

set_option maxRecDepth 100000 in
set_option maxHeartbeats 1600000 in
theorem erright_walk :
    Calls Try.prog 88 #[.agg (elmX op a b A n c (.slice FA m fc))] w fun e w' => e = .returned (.int .i64 (crtF op a b n : Nat)) ∧ Step (fun _ => False) w w' := by
  have HR : Hid (∀ w, Calls Try.prog 35 #[.agg #[.int .u8 (op : Int), .int .u64 (a : Int), .int .u64 (b : Int), .slice A n c]] w fun e w' => e = .returned (.int .i64 (crtF op a b n : Nat)) ∧ Step (fun _ => False) w w') := fun w => crright_walk w op a b n c A hop
  have g1 : ¬ (10000 : Int) < (m : Int) := by omega
  simp only [elmX]
  go_enter Try.func88, Try.ntmps88
  go_wp2_with fail
  refine (HR.out _).mono ?_
  rintro e w5 ⟨rfl, hS5⟩
  go_wp2_with fail
  go_ret
  exact ⟨rfl, (Step.refl.alloc _).trans hS5⟩

set_option maxRecDepth 100000 in
set_option maxHeartbeats 1600000 in
theorem eput_err (h : ¬ crtF op a b n = 0) :
    Calls Try.prog 89 #[.agg (elmX op a b A n c (.slice FA m fc))] w fun e w' => e = .returned (.tuple #[.slice none 0 0, .int .i64 (crtF op a b n : Nat)]) ∧ Step (fun _ => False) w w' := by
  have HR : Hid (∀ w, Calls Try.prog 90 #[.agg (elmX op a b A n c (.slice FA m fc))] w fun e w' => e = .returned (.int .i64 (crtF op a b n : Nat)) ∧ Step (fun _ => False) w w') := fun w => eright_walk w op a b n c m fc A FA hop hm
  obtain ⟨r, hr⟩ : ∃ r : Int, r = (crtF op a b n : Nat) := ⟨_, rfl⟩
  have hne : ¬ r = 0 := by omega
  have hnb : (r != 0) = true := bne_iff_ne.2 hne
  rw [← hr] at HR ⊢
  simp only [elmX] at HR ⊢
  clear hr h
  go_enter Try.func89, Try.ntmps89
  go_wp2_with fail
  refine (HR.out _).mono ?_
  rintro e w5 ⟨rfl, hS5⟩
  have HS5 := Lib.hid ((Step.refl.alloc _).trans hS5)
  clear hS5
  go_wp2_with fail
  go_ret2
  exact ⟨rfl, HS5.out⟩
end

set_option maxRecDepth 100000 in
set_option maxHeartbeats 6400000 in
theorem eput_ok (w : World) (op a c n fc : Nat) (A FA : Option Addr) (L : List Nat) (S : Nat → Prop) (hok : ConstOk op a) (ha : a < 18446744073709551616) (HN : Hid (n = L.length)) (hnb : n ≤ 1000) (hLb : ∀ x ∈ L, x < 4294967296) (hr : Reads w S 1 FA n (u32s L)) :
    Calls Try.prog 89 #[.agg (elmX op a 0 A 0 c (.slice FA n fc))] w fun e w' => ∃ D c', e = .returned (.tuple #[.slice D (eputL op a L).length c', .int .i64 0]) ∧
      w'.ownsRow w.heap.size 5 1 (.slice D (eputL op a L).length c') (eputL op a L).length (u8s (eputL op a L)) ∧ Step (fun _ => False) w w' := by
  have hop : op < 256 := by rcases hok with ⟨rfl, h⟩ | ⟨rfl, h⟩ | rfl <;> decide
  have HR : Hid (∀ w, Calls Try.prog 90 #[.agg (elmX op a 0 A 0 c (.slice FA n fc))] w fun e w' => e = .returned (.int .i64 0) ∧ Step (fun _ => False) w w') := fun w => by
    have := eright_walk w op a 0 0 c n fc A FA hop hnb
    rw [crt_ok hok] at this
    exact this
  have HP : Hid (∀ w, Calls Try.prog 36 #[.agg #[.int .u8 (op : Int), .int .u64 (a : Int), .int .u64 0, .slice A 0 c]] w fun e w' => ∃ D c', e = .returned (.tuple #[.slice D (cputL op a).length c', .int .i64 0]) ∧
      w'.ownsRow w.heap.size 5 1 (.slice D (cputL op a).length c') (cputL op a).length (u8s (cputL op a)) ∧ Step (fun _ => False) w w') := fun w => cput_ok w op a c A hok ha
  have hl1 : (cputL op a).length ≤ 12 := by have := cT_len op a; rw [cputL]; simp; omega
  obtain ⟨V, hV⟩ : ∃ V, V = cputL op a := ⟨_, rfl⟩
  have hlU := num_len n
  obtain ⟨U, hU⟩ : ∃ U, U = uintF n := ⟨_, rfl⟩
  obtain ⟨Z, hZ⟩ : ∃ Z, Z = eputL op a L := ⟨_, rfl⟩
  obtain ⟨T, hT⟩ : ∃ T, T = UInt8.ofNat 0 :: (V ++ U) := ⟨_, rfl⟩
  have HZ : Hid (Z = T ++ labL L) := by rw [Hid, hZ, eputL, hT, hV, hU, HN.out]; simp
  rw [← hV] at HP hl1
  rw [← hU] at hlU
  rw [← hZ]
  have HT := Lib.hid hT
  have hlT : T.length ≤ 23 := by rw [hT, List.length_cons, List.length_append]; omega
  have HU : Hid (uintF n = U) := hU.symm
  have HR2 := Lib.hid hr
  have hwn := IntWalk.u64_in (n : Int) (by omega)
  clear hV hU hZ hT hr
  simp only [elmX] at HR ⊢
  go_enter Try.func89, Try.ntmps89
  go_wp2_with fail
  refine (HR.out _).mono ?_
  rintro e w5 ⟨rfl, hS5⟩
  have HB5 := Lib.hid ((Blk.new w 136 #[.int .u8 (op : Int), .int .u64 (a : Int), .int .u64 0, .slice A 0 c, .slice FA n fc]).step hS5 id)
  have HS5 := Lib.hid ((Step.refl.alloc _).trans hS5)
  clear hS5
  obtain ⟨X, hX⟩ : ∃ X, X = w.heap.size := ⟨_, rfl⟩
  rw [← hX] at HB5 ⊢
  clear hX
  have x0 := HB5.out.cell 0
  have x1 := HB5.out.cell 1
  have x2 := HB5.out.cell 2
  have x3 := HB5.out.cell 3
  simp at x0 x1 x2 x3
  go_wp2_with fail
  refine (HP.out _).mono ?_
  rintro e w6 ⟨D6, c6, rfl, hown, hS⟩
  have HV6 := Lib.hid (Reads.of_own hown)
  have HB6 := Lib.hid (HB5.out.step hS id)
  have HS6 := Lib.hid (HS5.out.trans hS)
  clear hown hS HB5 x0 x1 x2 x3
  have HO6 : Hid ((w6.alloc (.cells #[Value.int .u8 0] 5)).ownsRow w.heap.size 5 1 (.slice (some ⟨w6.heap.size, 0, none⟩) 1 1) 1 #[Value.int .u8 0].toList) :=
    World.ownsRow_lit (base := w.heap.size) (e := 5) (size := 1) w6 #[Value.int .u8 0] 1 HS6.out.size (by decide) rfl
  have hrd := (HV6.out).step (Step.refl.alloc (F := fun _ => False) (w := w6) (.cells #[Value.int .u8 0] 5)) (fun _ _ => id)
  have hone := u8s_one V
  have hm : 1 + V.length ≤ maxLen := by unfold maxLen; omega
  have hsz := HS6.out.size
  have hXl := HB6.out.lt
  have hne : blkOf (some ⟨w6.heap.size, 0, none⟩) ≠ some X := by intro h; injection h with h; simp at h; omega
  go_wp2_with (at_builtin; refine wpList_append_src _ rfl _ _ (by rfl) E_u8 (by rfl) HO6.out (by rfl) hrd hone hm (by omega) (by simp; omega) ?_; intro D7 c7 w7 hown hgrow hat; have v4 := ((HB6.out.alloc (.cells #[Value.int .u8 0] 5)).grown hgrow hne).cell 4; simp at v4)
  have HS7 := Lib.hid (grow_step (HS6.out.alloc _) hgrow HO6.out (Nat.le_refl _))
  have HB7 := Lib.hid ((HB6.out.alloc (.cells #[Value.int .u8 0] 5)).grown hgrow hne)
  have HO7 := Lib.hid hown
  clear hown hgrow hat hm hone hsz hne hrd v4 HO6 HS6 HB6 HV6
  replace hXl := HB7.out.lt
  refine (uint_walk _ n (by omega)).mono ?_
  rintro e w8a ⟨D8a, c8a, rfl, hown, hS⟩
  rw [HU.out] at hown ⊢
  have HO8a := Lib.hid (own_step HO7.out hS (fun _ _ => id))
  have HR8a := Lib.hid (Reads.of_own hown)
  have HB8a := Lib.hid (HB7.out.step hS id)
  have HS8a := Lib.hid (HS7.out.trans hS)
  clear hS hown
  have hone8 : ∀ u ∈ u8s U, u.oneCell' = true := u8s_one U
  have hm8 : 1 + V.length + U.length ≤ maxLen := by unfold maxLen; omega
  have hsz8 := HS8a.out.size
  have hne8 : blkOf D7 ≠ some X := by rw [← ownBlock_slice D7 (1 + V.length) (c7)]; exact own_tag HO8a.out HB8a.out (by decide)
  go_wp2_with (at_builtin; refine wpList_append_src _ rfl _ _ (by rfl) E_u8 (by rfl) (HO8a.out) (by rfl) HR8a.out hone8 hm8 (by omega) (by first | exact hsz8 | (simp; omega)) ?_; intro D8 c8 w8 hown hgrow hat; have v4 := ((HB8a.out).grown hgrow hne8).cell 4; simp at v4)
  have HS8 := Lib.hid (grow_step (HS8a.out) hgrow (HO8a.out) (Nat.le_refl _))
  have HB8 := Lib.hid ((HB8a.out).grown hgrow hne8)
  have HO8 := Lib.hid hown
  clear hown hgrow hat hm8 hone8 hsz8
  have hc0 : #[Value.int .u8 0].toList ++ u8s V ++ u8s U = u8s (preE T L 0) := by rw [preE_zero, HT.out]; simp [u8s]
  have hn0 : 1 + V.length + U.length = (preE T L 0).length := by rw [preE_zero, HT.out]; simp; omega
  have hO8 := HO8.out
  rw [hc0, hn0] at hO8
  rw [hn0]
  have HO8' := Lib.hid hO8
  clear HO8 hO8 hc0 hn0
  go_loopw [7, 34] (fun ov iv wr => ∃ (j c2 : Nat) (D2 : Option Addr), j ≤ n ∧ ov = .slice D2 (preE T L j).length c2 ∧ iv = .int .i64 (j : Int) ∧ Hid (Step (fun _ => False) w wr) ∧ Hid (Blk wr X 136 #[.int .u8 (op : Int), .int .u64 (a : Int), .int .u64 0, .slice A 0 c, .slice FA n fc]) ∧
    Hid (wr.ownsRow w.heap.size 5 1 (.slice D2 (preE T L j).length c2) (preE T L j).length (u8s (preE T L j)))) (fun _ iv _ => n + 1 - (intOf iv).toNat)
  case atStart => exact ⟨0, c8, D8, by omega, rfl, rfl, HS8, HB8, HO8'⟩
  case round =>
    obtain ⟨j, c2, D2, hj, rfl, rfl, HS, HB, HOj⟩ := hrel
    have hpl := preE_len T L j (by rw [← HN.out]; exact hj)
    by_cases hlt : j < n
    · have g1 : (j : Int) < (n : Int) := by omega
      have hw1 := IntWalk.i64_in ((j : Int) + 1) (by omega)
      have hjl : j < L.length := by rw [← HN.out]; exact hlt
      obtain ⟨ad, u, rfl, _, hbl, hu, hc⟩ := (HR2.out.step HS.out (fun _ _ => id)).at_ hlt
      rw [u32s_get L j hjl] at hu
      injection hu with hu
      subst hu
      have HP := Lib.hid (preE_succ T L j hjl)
      have hxb := hLb L[j] (List.getElem_mem hjl)
      have hLl : L.length ≤ 1000 := by rw [← HN.out]; exact hnb
      generalize L[j] = x at *
      have hlx := num_len x
      obtain ⟨V, hV⟩ : ∃ V, V = uintF x := ⟨_, rfl⟩
      rw [← hV] at hlx HP
      have HV := Lib.hid hV.symm
      clear hV
      have hwx := IntWalk.u64_in (x : Int) (by omega)
      go_wp2_with fail
      refine (uint_walk _ x (by omega)).mono ?_
      rintro e w8a ⟨D8a, c8a, rfl, hown, hS⟩
      rw [HV.out] at hown ⊢
      have HO8a := Lib.hid (own_step HOj.out hS (fun _ _ => id))
      have HR8a := Lib.hid (Reads.of_own hown)
      have HB8a := Lib.hid (HB.out.step hS id)
      have HS8a := Lib.hid (HS.out.trans hS)
      clear hS hown
      have hone : ∀ u ∈ u8s V, u.oneCell' = true := u8s_one V
      have hm : (preE T L j).length + V.length ≤ maxLen := by unfold maxLen; omega
      have hsz := HS8a.out.size
      have hne : blkOf D2 ≠ some X := by rw [← ownBlock_slice D2 (preE T L j).length c2]; exact own_tag HO8a.out HB8a.out (by decide)
      go_wp2_with (at_builtin; refine wpList_append_src _ rfl _ _ (by rfl) E_u8 (by rfl) HO8a.out (by rfl) HR8a.out hone hm (by omega) hsz ?_; intro D9 c9 w9 hown hgrow hat)
      have HS9 := Lib.hid (grow_step HS8a.out hgrow HO8a.out (Nat.le_refl _))
      have HB9 := Lib.hid (HB8a.out.grown hgrow hne)
      have hcs : u8s (preE T L j) ++ u8s V = u8s (preE T L (j + 1)) := by rw [HP.out, u8s_append]
      have hln : (preE T L j).length + V.length = (preE T L (j + 1)).length := by rw [HP.out, List.length_append]
      rw [hcs, hln] at hown
      rw [hln]
      go_roundw
      case rel => exact ⟨j + 1, c9, D9, by omega, rfl, by rw [Int.natCast_add]; rfl, HS9, HB9, hown⟩
      case measure => simp [intOf]; omega
    · obtain rfl : j = n := by omega
      have HP : Hid (preE T L j = Z) := by rw [Hid, HZ.out, ← preE_all, HN.out]
      have hO := HOj.out
      rw [HP.out] at hO ⊢
      go_wp2_with fail
      refine bodyPost_ret (v := .tuple #[.slice D2 Z.length c2, .int .i64 0]) (by simp [results, Try.results89, go_sem]) rfl ?_
      exact ⟨D2, c2, rfl, hO, HS.out⟩
end Go.Proofs.Ytfemeendkjcffaa
/-! abort: Value of a table's row, where nothing is given up; the law's closure; the reference's Put, Same; the page's example. -/
namespace Go.Proofs.Ytfemeendkjcffaa
open Go.RowKit

section
variable (h : FuncId) (caps : Array Value) (w : World) (F : Nat → Prop) (Q : Option Addr → Nat → World → World → Prop) (op a : Int) (n : Nat) (hcf : ∀ w : World, (callFunc h caps).run Try.prog w = .ok (.enter h caps) w)
include hcf

set_option maxRecDepth 100000 in
set_option maxHeartbeats 1600000 in
theorem eclo_ok (fb vb : Nat) (H : Calls Try.prog h caps w fun e w' => ∃ Dz : Option Addr, ∃ cz : Nat, e = .returned (.agg (elmC op a (.slice Dz n cz))) ∧ Step F w w' ∧ Q Dz cz w w') (hf : Blk w fb 143 #[.func (.func h) #[] caps]) (hv : Blk w vb 136 (elmC 0 0 (.slice none 0 0))) (hFv : ¬ F vb) :
    Calls Try.prog 174 #[.pointer (some ⟨fb, 0, none⟩), .pointer (some ⟨vb, 0, none⟩)] w fun e w' => e = .returned (.tuple #[]) ∧ ∃ Dz : Option Addr, ∃ cz : Nat, ∃ w1, Step F w w1 ∧ Q Dz cz w w1 ∧ Blk w' vb 136 (elmC op a (.slice Dz n cz)) ∧ Step (fun k => k = vb) w1 w' := by
  have c0 := hf.cell 0
  simp at c0
  have HH := Lib.hid H
  have HV := Lib.hid hv
  clear H hf hv
  go_enter Try.func174, Try.ntmps174
  go_wp2_with fail
  refine HH.out.mono ?_
  rintro e w1 ⟨Dz, cz, rfl, hs, hq⟩
  have HB := HV.out.step hs hFv
  have hone : (elmC op a (.slice Dz n cz)).all (·.oneCell') = true := (by simp [elmC, Value.oneCell'])
  go_wp2_with (refine wpList_store_rowTo rfl 136 _ _ rfl rfl vb (elmC op a (.slice Dz n cz)) rfl rfl 136 _ HB rfl rfl hone ?_)
  go_end0
  exact ⟨rfl, Dz, cz, w1, hs, hq, HB.row _, Step.setRow (F := fun k => k = vb) Step.refl (g := vb) (.inl rfl) _⟩

set_option maxRecDepth 100000 in
set_option maxHeartbeats 3200000 in
theorem evalue_ok (hF : ∀ k, F k → k < w.heap.size) (H : ∀ w', Step (fun _ => False) w w' → Calls Try.prog h caps w' fun e w'' => ∃ Dz : Option Addr, ∃ cz : Nat, e = .returned (.agg (elmC op a (.slice Dz n cz))) ∧ Step F w' w'' ∧ Q Dz cz w' w'') :
    Calls Try.prog 91 #[.func (.func h) #[] caps] w fun e w' => ∃ Dz : Option Addr, ∃ cz : Nat, e = .returned (.tuple #[.agg (elmC op a (.slice Dz n cz)), .agg #[.int .i64 0, .int .i64 0]]) ∧
      ∃ wa wb, Step (fun _ => False) w wa ∧ Step F wa wb ∧ Q Dz cz wa wb ∧ Step (fun k => w.heap.size ≤ k ∧ k < wa.heap.size) wb w' := by
  have hmf : ∀ (fn : Fn) (first cap : Array Value) (w : World), (Instr.makeFunc fn first cap).run Try.prog w = .ok (.func fn first cap) w := fun _ _ _ _ => rfl
  have HH := Lib.hid H
  clear H
  obtain ⟨v1, hv1⟩ : ∃ v1, v1 = w.alloc (.cells #[.func (.func h) #[] caps] 143) := ⟨_, rfl⟩
  obtain ⟨v2, hv2⟩ : ∃ v2, v2 = v1.alloc (.cells (elmC 0 0 (.slice none 0 0)) 136) := ⟨_, rfl⟩
  obtain ⟨v3, hv3⟩ : ∃ v3, v3 = v2.alloc (.cells #[.int .i64 0, .int .i64 0] 85) := ⟨_, rfl⟩
  obtain ⟨v4, hv4⟩ : ∃ v4, v4 = v3.alloc (.cells (elmC 0 0 (.slice none 0 0)) 136) := ⟨_, rfl⟩
  obtain ⟨v5, hv5⟩ : ∃ v5, v5 = v4.alloc (.cells #[.int .i64 0, .int .i64 0] 85) := ⟨_, rfl⟩
  have s1 : v1.heap.size = w.heap.size + 1 := by rw [hv1]; simp
  have s2 : v2.heap.size = w.heap.size + 2 := by rw [hv2]; simp [s1]
  have s3 : v3.heap.size = w.heap.size + 3 := by rw [hv3]; simp [s2]
  have s4 : v4.heap.size = w.heap.size + 4 := by rw [hv4]; simp [s3]
  have s5 : v5.heap.size = w.heap.size + 5 := by rw [hv5]; simp [s4]
  have t5 : Step (fun _ => False) w v5 := by
    rw [hv5, hv4, hv3, hv2, hv1]
    exact ((((Step.refl.alloc _).alloc _).alloc _).alloc _).alloc _
  have b1 : Blk v4 w.heap.size 143 #[.func (.func h) #[] caps] := by
    rw [hv4, hv3, hv2, hv1]
    exact (((Blk.new w _ _).alloc _).alloc _).alloc _
  have b2 : Blk v4 (w.heap.size + 1) 136 (elmC 0 0 (.slice none 0 0)) := by
    have := ((Blk.new v1 136 (elmC 0 0 (.slice none 0 0))).alloc (.cells #[.int .i64 0, .int .i64 0] 85)).alloc (.cells (elmC 0 0 (.slice none 0 0)) 136)
    rw [← hv2, ← hv3, ← hv4, s1] at this
    exact this
  have b3 : Blk v4 (w.heap.size + 2) 85 #[.int .i64 0, .int .i64 0] := by
    have := (Blk.new v2 85 #[.int .i64 0, .int .i64 0]).alloc (.cells (elmC 0 0 (.slice none 0 0)) 136)
    rw [← hv3, ← hv4, s2] at this
    exact this
  have b4 : Blk v4 (w.heap.size + 3) 136 (elmC 0 0 (.slice none 0 0)) := by
    have := Blk.new v3 136 (elmC 0 0 (.slice none 0 0))
    rw [← hv4, s3] at this
    exact this
  have HO := Lib.hid (out_ok 174 #[.pointer (some ⟨w.heap.size, 0, none⟩), .pointer (some ⟨w.heap.size + 3, 0, none⟩)] v4 (fun k => F k ∨ k = w.heap.size + 3)
    (fun wz => ∃ Dz : Option Addr, ∃ cz : Nat, ∃ w1, Step F v5 w1 ∧ Q Dz cz v5 w1 ∧ Blk wz (w.heap.size + 3) 136 (elmC op a (.slice Dz n cz)) ∧ Step (fun k => k = w.heap.size + 3) w1 wz)
    (by rw [s4]; intro hk; rcases hk with hk | hk; · have := hF _ hk; omega
        · omega) (fun _ => rfl)
    (by
      rw [← hv5]
      refine (eclo_ok h caps v5 F Q op a n hcf w.heap.size (w.heap.size + 3) (HH.out _ t5) (by rw [hv5]; exact b1.alloc _) (by rw [hv5]; exact b4.alloc _) (fun hk => by have := hF _ hk; omega)).mono ?_
      rintro e wz ⟨rfl, Dz, cz, w1, h1, h2, h3, h4⟩
      exact ⟨rfl, (h1.mono fun _ _ hk => .inl hk).trans (h4.mono fun _ _ hk => .inr hk), Dz, cz, w1, h1, h2, h3, h4⟩))
  rw [← hv5, s4] at HO
  have HB2 := Lib.hid b2
  have HB3 := Lib.hid b3
  have HE : Hid (v4 = (((w.alloc (.cells #[.func (.func h) #[] caps] 143)).alloc (.cells (elmC 0 0 (.slice none 0 0)) 136)).alloc (.cells #[.int .i64 0, .int .i64 0] 85)).alloc (.cells (elmC 0 0 (.slice none 0 0)) 136)) := by rw [Hid, hv4, hv3, hv2, hv1]
  have HT5 := Lib.hid t5
  have HF := Lib.hid hF
  have HS5 := Lib.hid s5
  have HV5 := Lib.hid hv5
  clear b1 b2 b3 b4 t5 s1 s2 s3 s4 s5 hv1 hv2 hv3 hv4 hv5 HH hF
  go_enter Try.func91, Try.ntmps91
  go_wp2_with fail
  have HO2 := HO.out
  rw [HE.out] at HO2
  refine HO2.mono ?_
  rintro e w6 ⟨rfl, w1, h1, ⟨Dz, cz, wb, g1, g2, g3, g4⟩, h5⟩
  clear HO2 HO
  have HQ := Lib.hid g2
  have HT1 := Lib.hid g1
  have HT2 : Hid (Step (fun k => k = w.heap.size + 3 ∨ k = w.heap.size + 4) wb w6) := (g4.mono fun _ _ hk => .inl hk).trans (h5.mono fun _ _ hk => .inr hk)
  have hns : v5.heap.size ≤ w6.heap.size := Nat.le_trans h1.size h5.size
  have n5 := HS5.out
  have HV6 := Lib.hid ((g3.step h5 (by omega)).alloc (.cells #[.int .i64 0, .int .i64 0] 85))
  have HR6 : Hid (Blk (w6.alloc (.cells #[.int .i64 0, .int .i64 0] 85)) (w.heap.size + 1) 136 (elmC 0 0 (.slice none 0 0))) := by
    have h6 := HB2.out.alloc (.cells #[.int .i64 0, .int .i64 0] 85)
    rw [← HV5.out] at h6
    exact ((h6.step h1 (fun hk => by rcases hk with hk | hk; · have := HF.out _ hk; omega
                                     · omega)).step h5 (by omega)).alloc _
  have HP6 : Hid (Blk (w6.alloc (.cells #[.int .i64 0, .int .i64 0] 85)) (w.heap.size + 2) 85 #[.int .i64 0, .int .i64 0]) := by
    have h6 := HB3.out.alloc (.cells #[.int .i64 0, .int .i64 0] 85)
    rw [← HV5.out] at h6
    exact ((h6.step h1 (fun hk => by rcases hk with hk | hk; · have := HF.out _ hk; omega
                                     · omega)).step h5 (by omega)).alloc _
  have HN6 := Lib.hid (Blk.new w6 85 #[.int .i64 0, .int .i64 0])
  have HT6 := Lib.hid (HT2.out.alloc (.cells #[.int .i64 0, .int .i64 0] 85))
  obtain ⟨W, hW⟩ : ∃ W, W = w6.alloc (.cells #[.int .i64 0, .int .i64 0] 85) := ⟨_, rfl⟩
  obtain ⟨sN, hsN⟩ : ∃ sN, sN = w6.heap.size := ⟨_, rfl⟩
  rw [← hW] at HV6 HR6 HP6 HN6 HT6
  rw [← hsN] at HN6
  have y0 := HN6.out.cell 0
  simp at y0
  rw [hW] at y0
  rw [hsN] at y0
  clear h1 h5 g1 g2 g3 g4 HB2 HB3 HE HT2
  go_wp2_with fail
  rw [← hW, ← hsN]
  have hs6 : w.heap.size + 5 ≤ sN := by omega
  clear y0 hW hsN hns n5
  have y0 := HN6.out.cell 0
  have y1 := HN6.out.cell 1
  have x0 := HV6.out.cell 0
  have x1 := HV6.out.cell 1
  have x2 := HV6.out.cell 2
  have x3 := HV6.out.cell 3
  have x4 := HV6.out.cell 4
  simp [elmC] at x0 x1 x2 x3 x4 y0 y1
  obtain ⟨F2, hF2⟩ : ∃ F2 : Nat → Prop, F2 = fun q => q = w.heap.size + 1 ∨ q = w.heap.size + 2 := ⟨_, rfl⟩
  have hFv : ¬ F2 (w.heap.size + 3) := by rw [hF2]; omega
  have hFs : ¬ F2 sN := by rw [hF2]; omega
  have HF2 := Lib.hid hF2
  clear hF2
  have d0 := cls_cell (F := F2) (w0 := W) x0 hFv
  have d1 := cls_cell (F := F2) (w0 := W) x1 hFv
  have d2 := cls_cell (F := F2) (w0 := W) x2 hFv
  have d3 := cls_cell (F := F2) (w0 := W) x3 hFv
  have d4 := cls_cell (F := F2) (w0 := W) x4 hFv
  have e4 := cls_cell (F := F2) (w0 := W) y0 hFs
  have e5 := cls_cell (F := F2) (w0 := W) y1 hFs
  clear x0 x1 x2 x3 x4 y0 y1
  refine Mix.wp_region_mix [2, 3] [2] (Step F2 W) (by kernel_rfl) (by kernel_rfl) Step.refl.drew (fun hcls => ?_)
  refine Mix.wpL_reads 2 (by rfl) ?_
  simp only [List.take_succ_cons, List.drop_succ_cons, List.take_zero, List.drop_zero]
  repeat (go_big_quiet_step (fail))
  refine wpQuiet_nil ?_
  have z0 := HR6.out.frozen 0
  have z1 := HR6.out.frozen 1
  have z2 := HR6.out.frozen 2
  have z3 := HR6.out.frozen 3
  have z4 := HR6.out.frozen 4
  have r0 := HR6.out.cell 0
  have r1 := HR6.out.cell 1
  have r2 := HR6.out.cell 2
  have r3 := HR6.out.cell 3
  have r4 := HR6.out.cell 4
  simp [elmC] at r0 r1 r2 r3 r4
  refine Mix.wpL_op (by rfl) (fun K hK => ?_)
  go_simp
  obtain ⟨W7, hW7⟩ : ∃ W7, W7 = (((((W.setCell ⟨w.heap.size + 1, 0, none⟩ (.int .u8 op)).setCell ⟨w.heap.size + 1, 1, none⟩ (.int .u64 a)).setCell ⟨w.heap.size + 1, 2, none⟩ (.int .u64 0)).setCell ⟨w.heap.size + 1, 3, none⟩ (.slice none 0 0)).setCell ⟨w.heap.size + 1, 4, none⟩ (.slice Dz n cz)) := ⟨_, rfl⟩
  have HR7 : Hid (Blk W7 (w.heap.size + 1) 136 (elmC op a (.slice Dz n cz))) := by
    have hq := (((((HR6.out.set_ 0 (.int .u8 op)).set_ 1 (.int .u64 a)).set_ 2 (.int .u64 0)).set_ 3 (.slice none 0 0)).set_ 4 (.slice Dz n cz))
    rw [← hW7] at hq
    simp [elmC] at hq
    exact hq
  have HP7 : Hid (Blk W7 (w.heap.size + 2) 85 #[.int .i64 0, .int .i64 0]) := by
    rw [hW7]
    exact (((((HP6.out.far (p := ⟨w.heap.size + 1, 0, none⟩) (show w.heap.size + 2 ≠ w.heap.size + 1 by omega) _).far (p := ⟨w.heap.size + 1, 1, none⟩) (show w.heap.size + 2 ≠ w.heap.size + 1 by omega) _).far (p := ⟨w.heap.size + 1, 2, none⟩) (show w.heap.size + 2 ≠ w.heap.size + 1 by omega) _).far (p := ⟨w.heap.size + 1, 3, none⟩) (show w.heap.size + 2 ≠ w.heap.size + 1 by omega) _).far (p := ⟨w.heap.size + 1, 4, none⟩) (show w.heap.size + 2 ≠ w.heap.size + 1 by omega) _)
  have HT7 : Hid (Step (fun q => q = w.heap.size + 1 ∨ q = w.heap.size + 2) W W7) := by
    rw [hW7]
    exact (((((Step.refl.setCell (p := ⟨w.heap.size + 1, 0, none⟩) (.inl (.inl rfl)) _).setCell (p := ⟨w.heap.size + 1, 1, none⟩) (.inl (.inl rfl)) _).setCell (p := ⟨w.heap.size + 1, 2, none⟩) (.inl (.inl rfl)) _).setCell (p := ⟨w.heap.size + 1, 3, none⟩) (.inl (.inl rfl)) _).setCell (p := ⟨w.heap.size + 1, 4, none⟩) (.inl (.inl rfl)) _)
  rw [← hW7]
  refine hK _ _ (fun hlt => Mix.cl (by rw [HF2.out]; exact HT7.out.drew)) ?_
  clear hK K z0 r0 z1 r1 z2 r2 z3 r3 z4 r4 hW7
  have z0 := HP7.out.frozen 0
  have z1 := HP7.out.frozen 1
  have r0 := HP7.out.cell 0
  have r1 := HP7.out.cell 1
  simp at r0 r1
  refine Mix.wpL_op (by rfl) (fun K hK => ?_)
  go_simp
  refine hK _ _ (fun hlt => absurd hlt (by decide)) ?_
  clear hK K
  refine Mix.wpL_end ?_
  obtain ⟨W8, hW8⟩ : ∃ W8, W8 = (W7.setCell ⟨w.heap.size + 2, 0, none⟩ (.int .i64 0)).setCell ⟨w.heap.size + 2, 1, none⟩ (.int .i64 0) := ⟨_, rfl⟩
  have HP8 : Hid (Blk W8 (w.heap.size + 2) 85 #[.int .i64 0, .int .i64 0]) := by
    have hq := (HP7.out.set_ 0 (.int .i64 0)).set_ 1 (.int .i64 0)
    rw [← hW8] at hq
    simp at hq
    exact hq
  have HR8 : Hid (Blk W8 (w.heap.size + 1) 136 (elmC op a (.slice Dz n cz))) := by
    rw [hW8]
    exact (HR7.out.far (p := ⟨w.heap.size + 2, 0, none⟩) (show w.heap.size + 1 ≠ w.heap.size + 2 by omega) _).far (p := ⟨w.heap.size + 2, 1, none⟩) (show w.heap.size + 1 ≠ w.heap.size + 2 by omega) _
  have HT8 : Hid (Step (fun q => q = w.heap.size + 1 ∨ q = w.heap.size + 2) W W8) := by
    rw [hW8]
    exact (HT7.out.setCell (p := ⟨w.heap.size + 2, 0, none⟩) (.inl (.inr rfl)) _).setCell (p := ⟨w.heap.size + 2, 1, none⟩) (.inl (.inr rfl)) _
  go_wp2_with fail
  rw [← hW8]
  have q0 := HR8.out.cell 0
  have q1 := HR8.out.cell 1
  have q2 := HR8.out.cell 2
  have q3 := HR8.out.cell 3
  have q4 := HR8.out.cell 4
  have p4 := HP8.out.cell 0
  have p5 := HP8.out.cell 1
  simp [elmC] at q0 q1 q2 q3 q4 p4 p5
  refine bodyPost_ret (v := .tuple #[.agg (elmC op a (.slice Dz n cz)), .agg #[.int .i64 0, .int .i64 0]]) (by simp [results, Try.results91, go_sem, q0, q1, q2, q3, q4, p4, p5, elmC]) rfl ?_
  refine ⟨Dz, cz, rfl, v5, wb, HT5.out, HT1.out, HQ.out, ?_⟩
  have n5 := HS5.out
  refine ((HT6.out.mono fun k _ hk => ?_).trans ((HT8.out.mono fun k _ hk => ?_))).drew
  · exact ⟨by rcases hk with rfl | rfl <;> omega, by rcases hk with rfl | rfl <;> omega⟩
  · exact ⟨by rcases hk with rfl | rfl <;> omega, by rcases hk with rfl | rfl <;> omega⟩
end

set_option maxRecDepth 100000 in
set_option maxHeartbeats 1600000 in
theorem eclosure_ok (w : World) (X sb : Nat) (S : Nat → Prop) (D : Option Addr) (c : Nat) (bs : List UInt8) (k : Nat) (h : Scn w X S D c bs k) (op a : Nat) (L : List Nat) (rest : List UInt8) (hok : ConstOk op a) (ha : a < 18446744073709551616) (hL : L.length ≤ 10000) (hLb : ∀ x ∈ L, x < 4294967296) (hd : bs.drop k = eputL op a L ++ rest) (hsb : Blk w sb 79 #[.pointer (some ⟨X, 0, none⟩)]) :
    Calls Try.prog 92 #[.pointer (some ⟨sb, 0, none⟩)] w fun e w' => ∃ D' c', e = .returned (.agg (elmC (op : Int) (a : Int) (.slice D' L.length c'))) ∧ Step (fun i => i = X) w w' ∧ w'.ownsRow w.heap.size 51 1 (.slice D' L.length c') L.length (u32s L) ∧ Scn w' X S D c bs (k + (eputL op a L).length) := by
  have HG := Lib.hid (eget_ok (w.alloc (.cells (elmC 0 0 (.slice none 0 0)) 136)) X S D c bs k (h.alloc _) op a L rest hok ha hL hLb hd)
  have s0 := hsb.cell 0
  have hsbl := hsb.lt
  simp at s0
  have hX := h.lt
  have HB := Lib.hid (Blk.new w 136 (elmC 0 0 (.slice none 0 0)))
  have hlow := h.low
  have hT0 : Hid (Step (fun i => i = X) w (w.alloc (.cells (elmC 0 0 (.slice none 0 0)) 136))) := Step.refl.alloc _
  clear hsb h hd
  obtain ⟨n, hn⟩ : ∃ n, n = L.length := ⟨_, rfl⟩
  rw [← hn] at HG ⊢
  clear hn
  go_enter Try.func92, Try.ntmps92
  go_wp2_with fail
  refine HG.out.mono ?_
  rintro e w1 ⟨D', c', rfl, hown, hs, ht⟩
  have hB1 := HB.out.step ht (show w.heap.size ≠ X by omega)
  have hne : ∀ q, Value.ownBlock (.slice D' n c') = some q → q ≠ w.heap.size := fun q hq e => by
    have h := own_ge hown q hq
    simp at h
    omega
  have hown2 := own_base hown (base' := w.heap.size) (fun q hq => by have h := own_ge hown q hq; simp at h; omega)
  have hone := elmC_one (op : Int) (a : Int) D' n c'
  go_wp2_with (refine wpList_store_rowTo rfl 136 _ _ rfl rfl w.heap.size (elmC (op : Int) (a : Int) (.slice D' n c')) rfl rfl 136 _ hB1 rfl rfl hone ?_)
  have hB2 := hB1.row (elmC (op : Int) (a : Int) (.slice D' n c'))
  have r0 := hB2.cell 0
  have r1 := hB2.cell 1
  have r2 := hB2.cell 2
  have r3 := hB2.cell 3
  have r4 := hB2.cell 4
  simp [elmC] at r0 r1 r2 r3 r4
  have hst : Step (fun i => i = w.heap.size) w1 (w1.setRow w.heap.size (elmC (op : Int) (a : Int) (.slice D' n c'))) := Step.setRow (F := fun k => k = w.heap.size) Step.refl (g := w.heap.size) (.inl rfl) _
  refine bodyPost_ret (v := .agg (elmC (op : Int) (a : Int) (.slice D' n c'))) (by simp [results, Try.results92, go_sem, elmC, r0, r1, r2, r3, r4]) rfl ?_
  exact ⟨D', c', rfl, (hT0.out.trans ht).setRow (.inr (Nat.le_refl _)) _, own_step hown2 hst (fun q hq e => hne q hq e), hs.step hst (by omega) (fun j hj e => by have := hlow j hj; omega)⟩

set_option maxRecDepth 100000 in
set_option maxHeartbeats 3200000 in
theorem erput_walk (w : World) (op a c n fc : Nat) (A FA : Option Addr) (L : List Nat) (S : Nat → Prop) (hok : ConstOk op a) (ha : a < 18446744073709551616) (HN : Hid (n = L.length)) (hnb : n ≤ 1000) (hLb : ∀ x ∈ L, x < 4294967296) (hr : Reads w S 1 FA n (u32s L)) :
    Calls Try.prog 94 #[.agg (elmX op a 0 A 0 c (.slice FA n fc))] w fun e w' => e = .returned (.string (str (eputL op a L))) ∧ Step (fun _ => False) w w' := by
  have HP : Hid (∀ w, Calls Try.prog 40 #[.agg #[.int .u8 (op : Int), .int .u64 (a : Int), .int .u64 0, .slice A 0 c]] w fun e w' => e = .returned (.string (str (cputL op a))) ∧ Step (fun _ => False) w w') := fun w => crput_walk w op a c A hok ha
  have HC : Hid (∀ w, Calls Try.prog 173 #[.int .i64 (n : Int)] w fun e w' => e = .returned (.string (str (uintF n))) ∧ Step (fun _ => False) w w') := fun w => rcount4_walk w n (by omega)
  have hl1 : (cputL op a).length ≤ 12 := by have := cT_len op a; rw [cputL]; simp; omega
  have hl2 := num_len n
  obtain ⟨T1, hT1⟩ : ∃ T1, T1 = cputL op a := ⟨_, rfl⟩
  obtain ⟨U, hU⟩ : ∃ U, U = uintF n := ⟨_, rfl⟩
  obtain ⟨Z, hZ⟩ : ∃ Z, Z = eputL op a L := ⟨_, rfl⟩
  obtain ⟨T2, hT2⟩ : ∃ T2, T2 = UInt8.ofNat 0 :: T1 := ⟨_, rfl⟩
  obtain ⟨T, hT⟩ : ∃ T, T = T2 ++ U := ⟨_, rfl⟩
  have HZ : Hid (Z = T ++ labL L) := by rw [Hid, hZ, eputL, hT, hT2, hT1, hU, HN.out]; simp
  rw [← hT1] at HP hl1
  rw [← hU] at HC hl2
  rw [← hZ]
  have hl3 : T2.length ≤ 13 := by rw [hT2]; simp; omega
  have hlT : T.length ≤ 23 := by rw [hT, List.length_append]; omega
  have hs1 := str_size T1
  have hs2 := str_size U
  have hs3 := str_size T2
  have hs4 := str_size T
  have ha1 : (⟨#[0]⟩ : ByteArray) ++ str T1 = str T2 := by rw [hT2]; exact str_append [0] T1
  have ha2 : str T2 ++ str U = str T := by rw [hT]; exact str_append _ _
  have HR := Lib.hid hr
  clear hT1 hU hZ hT2 hT hr
  have HX0 := Lib.hid (Blk.new w 136 (elmX op a 0 A 0 c (.slice FA n fc)))
  have HS0 := Lib.hid ((Step.refl (F := fun _ => False)).alloc (w := w) (.cells (elmX op a 0 A 0 c (.slice FA n fc)) 136))
  go_enter Try.func94, Try.ntmps94
  go_wp2_with fail
  obtain ⟨V, hV⟩ : ∃ V, V = w.alloc (.cells (elmX op a 0 A 0 c (.slice FA n fc)) 136) := ⟨_, rfl⟩
  obtain ⟨X, hX⟩ : ∃ X, X = w.heap.size := ⟨_, rfl⟩
  rw [← hV] at HX0 HS0 ⊢
  rw [← hX] at HX0 ⊢
  clear hV hX
  have x0 := HX0.out.cell 0
  have x1 := HX0.out.cell 1
  have x2 := HX0.out.cell 2
  have x3 := HX0.out.cell 3
  have x4 := HX0.out.cell 4
  simp [elmX] at x0 x1 x2 x3 x4
  have d0 := cls_cell (F := fun _ => False) (w0 := V) x0 id
  have d1 := cls_cell (F := fun _ => False) (w0 := V) x1 id
  have d2 := cls_cell (F := fun _ => False) (w0 := V) x2 id
  have d3 := cls_cell (F := fun _ => False) (w0 := V) x3 id
  have d4 := cls_cell (F := fun _ => False) (w0 := V) x4 id
  clear x0 x1 x2 x3 x4
  refine Mix.wp_region_mix [2, 7] [2, 7] (Step (fun _ => False) V) (by kernel_rfl) (by kernel_rfl) Step.refl.drew (fun hcls => ?_)
  refine Mix.wpL_reads 2 (by rfl) ?_
  simp only [List.take_succ_cons, List.drop_succ_cons, List.take_zero, List.drop_zero]
  repeat (go_big_quiet_step (fail))
  refine wpQuiet_nil ?_
  refine Mix.wpL_op (by rfl) (fun K hK => ?_)
  go_simp
  refine (HP.out _).mono ?_
  rintro e wa ⟨rfl, hSa⟩
  have HSa := Lib.hid (Step.refl.drew.trans hSa)
  refine hK _ _ (fun hlt => Mix.cl HSa.out) ?_
  clear hK K hSa
  refine Mix.wpL_reads 4 (by rfl) ?_
  simp only [List.take_succ_cons, List.drop_succ_cons, List.take_zero, List.drop_zero]
  repeat (go_big_quiet_step (fail))
  refine wpQuiet_nil ?_
  refine Mix.wpL_op (by rfl) (fun K hK => ?_)
  go_simp
  refine (HC.out _).mono ?_
  rintro e wb ⟨rfl, hSb⟩
  have HSb := Lib.hid (HSa.out.trans hSb)
  refine hK _ _ (fun hlt => Mix.cl HSb.out) ?_
  clear hK K hSb HSa
  refine Mix.wpL_reads 2 (by rfl) ?_
  simp only [List.take_succ_cons, List.drop_succ_cons, List.take_zero, List.drop_zero]
  repeat (go_big_quiet_step (fail))
  refine wpQuiet_nil ?_
  refine Mix.wpL_end ?_
  have HSc : Hid (Step (fun _ => False) w wb) := HS0.out.trans HSb.out
  have HXc : Hid (Blk wb X 136 #[.int .u8 (op : Int), .int .u64 (a : Int), .int .u64 0, .slice A 0 c, .slice FA n fc]) := HX0.out.step HSb.out id
  rw [show str T = str (preE T L 0) by rw [preE_zero]]
  clear d0 d1 d2 d3 d4 hcls HX0 HS0 HSb ha1 ha2 hs4
  go_wp2_with fail
  go_loopw [3, 4] (fun sv iv wr => ∃ (j : Nat), j ≤ n ∧ sv = .string (str (preE T L j)) ∧ iv = .int .i64 (j : Int) ∧ Hid (Step (fun _ => False) w wr) ∧ Hid (Blk wr X 136 #[.int .u8 (op : Int), .int .u64 (a : Int), .int .u64 0, .slice A 0 c, .slice FA n fc])) (fun _ iv _ => n + 1 - (intOf iv).toNat)
  case atStart => exact ⟨0, by omega, rfl, rfl, HSc, HXc⟩
  case round =>
    obtain ⟨j, hj, rfl, rfl, HS, HB⟩ := hrel
    have x4 := HB.out.cell 4
    simp at x4
    have hpl := preE_len T L j (by rw [← HN.out]; exact hj)
    have hLl : L.length ≤ 1000 := by rw [← HN.out]; exact hnb
    by_cases hlt : j < n
    · have g1 : (j : Int) < (n : Int) := by omega
      have hw1 := IntWalk.i64_in ((j : Int) + 1) (by omega)
      have hjl : j < L.length := by rw [← HN.out]; exact hlt
      obtain ⟨ad, u, rfl, _, hbl, hu, hc⟩ := (HR.out.step HS.out (fun _ _ => id)).at_ hlt
      rw [u32s_get L j hjl] at hu
      injection hu with hu
      subst hu
      have HP := Lib.hid (preE_succ T L j hjl)
      have hxb := hLb L[j] (List.getElem_mem hjl)
      generalize L[j] = x at *
      have hlx := num_len x
      obtain ⟨V, hV⟩ : ∃ V, V = uintF x := ⟨_, rfl⟩
      have HNx : Hid (∀ w, Calls Try.prog 173 #[.int .i64 (x : Int)] w fun e w' => e = .returned (.string (str V)) ∧ Step (fun _ => False) w w') := fun w => by rw [hV]; exact rcount4_walk w x (by omega)
      rw [← hV] at hlx HP
      clear hV
      have hz2 := str_size V
      have hz3 := str_size (preE T L j)
      have hwx := IntWalk.i64_in (x : Int) (by omega)
      have hap2 : str (preE T L j) ++ str V = str (preE T L (j + 1)) := by rw [HP.out]; exact str_append _ _
      clear HP
      go_wp2_with fail
      refine (HNx.out _).mono ?_
      rintro e w8 ⟨rfl, hS8⟩
      go_wp2_with fail
      go_roundw
      case rel => exact ⟨j + 1, by omega, rfl, by rw [Int.natCast_add]; rfl, HS.out.trans hS8, HB.out.step hS8 id⟩
      case measure => simp [intOf]; omega
    · obtain rfl : j = n := by omega
      have HP : Hid (preE T L j = Z) := by rw [Hid, HZ.out, ← preE_all, HN.out]
      rw [HP.out]
      go_wp2_with fail
      go_ret
      exact ⟨rfl, HS.out⟩

set_option maxRecDepth 100000 in
set_option maxHeartbeats 3200000 in
theorem ersame_walk (w : World) (op a c1 c2 n f1 f2 : Nat) (A1 A2 F1 F2 : Option Addr) (L : List Nat) (S1 S2 : Nat → Prop) (hn : n = L.length) (hnb : n ≤ 10000) (h1 : Reads w S1 1 F1 n (u32s L)) (h2 : Reads w S2 1 F2 n (u32s L)) :
    Calls Try.prog 95 #[.agg (elmX op a 0 A1 0 c1 (.slice F1 n f1)), .agg (elmX op a 0 A2 0 c2 (.slice F2 n f2))] w fun e w' => e = .returned (.bool true) ∧ Step (fun _ => False) w w' := by
  have HSm : Hid (∀ w, Calls Try.prog 39 #[.agg #[.int .u8 (op : Int), .int .u64 (a : Int), .int .u64 0, .slice A1 0 c1], .agg #[.int .u8 (op : Int), .int .u64 (a : Int), .int .u64 0, .slice A2 0 c2]] w fun e w' => e = .returned (.bool true) ∧ Step (fun _ => False) w w') := fun w => by
    have := rsame_walk w op a 0 c1 op a 0 c2 A1 A2 [] [] (fun _ => False) (fun _ => False) ⟨by simp [u32s], fun h => absurd h (by decide)⟩ ⟨by simp [u32s], fun h => absurd h (by decide)⟩ (by decide)
    rw [same_yes] at this
    exact this
  have n4 : ((n : Int) != (n : Int)) = false := by simp
  have H1 := Lib.hid h1
  have H2 := Lib.hid h2
  have HN := Lib.hid hn
  simp only [elmX]
  have HB1 := Lib.hid ((Blk.new w 136 #[.int .u8 (op : Int), .int .u64 (a : Int), .int .u64 0, .slice A1 0 c1, .slice F1 n f1]).alloc (.cells #[.int .u8 (op : Int), .int .u64 (a : Int), .int .u64 0, .slice A2 0 c2, .slice F2 n f2] 136))
  have HB2 : Hid (Blk ((w.alloc (.cells #[.int .u8 (op : Int), .int .u64 (a : Int), .int .u64 0, .slice A1 0 c1, .slice F1 n f1] 136)).alloc (.cells #[.int .u8 (op : Int), .int .u64 (a : Int), .int .u64 0, .slice A2 0 c2, .slice F2 n f2] 136)) (w.heap.size + 1) 136 #[.int .u8 (op : Int), .int .u64 (a : Int), .int .u64 0, .slice A2 0 c2, .slice F2 n f2]) := by
    have hq := Blk.new (w.alloc (.cells #[.int .u8 (op : Int), .int .u64 (a : Int), .int .u64 0, .slice A1 0 c1, .slice F1 n f1] 136)) 136 #[.int .u8 (op : Int), .int .u64 (a : Int), .int .u64 0, .slice A2 0 c2, .slice F2 n f2]
    rw [show (w.alloc (.cells #[.int .u8 (op : Int), .int .u64 (a : Int), .int .u64 0, .slice A1 0 c1, .slice F1 n f1] 136)).heap.size = w.heap.size + 1 by simp] at hq
    exact hq
  have HS : Hid (Step (fun _ => False) w ((w.alloc (.cells #[.int .u8 (op : Int), .int .u64 (a : Int), .int .u64 0, .slice A1 0 c1, .slice F1 n f1] 136)).alloc (.cells #[.int .u8 (op : Int), .int .u64 (a : Int), .int .u64 0, .slice A2 0 c2, .slice F2 n f2] 136))) := (Step.refl.alloc _).alloc _
  clear hn h1 h2
  go_enter Try.func95, Try.ntmps95
  go_wp2_with fail
  refine (HSm.out _).mono ?_
  rintro e w5 ⟨rfl, hS5⟩
  have HBa := Lib.hid (HB1.out.step hS5 id)
  have HBb := Lib.hid (HB2.out.step hS5 id)
  have HSa := Lib.hid (HS.out.trans hS5)
  clear hS5 HB1 HB2 HS
  go_wp2_with fail
  go_loopw [5] (fun iv wr => ∃ (j : Nat), j ≤ n ∧ iv = .int .i64 (j : Int) ∧ Hid (Step (fun _ => False) w wr) ∧ Hid (Blk wr w.heap.size 136 #[.int .u8 (op : Int), .int .u64 (a : Int), .int .u64 0, .slice A1 0 c1, .slice F1 n f1]) ∧ Hid (Blk wr (w.heap.size + 1) 136 #[.int .u8 (op : Int), .int .u64 (a : Int), .int .u64 0, .slice A2 0 c2, .slice F2 n f2])) (fun iv _ => n + 1 - (intOf iv).toNat)
  case atStart => exact ⟨0, by omega, rfl, HSa, HBa, HBb⟩
  case round =>
    obtain ⟨j, hj, rfl, HSj, HBj, HCj⟩ := hrel
    have y4 := HBj.out.cell 4
    have z4 := HCj.out.cell 4
    simp at y4 z4
    by_cases hlt : j < n
    · have g1 : (j : Int) < (n : Int) := by omega
      have hw1 := IntWalk.i64_in ((j : Int) + 1) (by omega)
      have hj1 : j < L.length := by rw [← HN.out]; exact hlt
      obtain ⟨ad, u, rfl, _, hbl, hu, hc⟩ := (H1.out.step HSj.out (fun _ _ => id)).at_ hlt
      rw [u32s_get L j hj1] at hu
      injection hu with hu
      subst hu
      obtain ⟨ad2, u, rfl, _, hbl2, hu, hc2⟩ := (H2.out.step HSj.out (fun _ _ => id)).at_ hlt
      rw [u32s_get L j hj1] at hu
      injection hu with hu
      subst hu
      generalize L[j] = x at *
      have n5 : ((x : Int) != (x : Int)) = false := by simp
      go_wp2_with fail
      go_quiet (fail)
      go_wp2_with fail
      go_roundw
      case rel => exact ⟨j + 1, by omega, by rw [Int.natCast_add]; rfl, HSj.out.drewN _, HBj.out.drewN _, HCj.out.drewN _⟩
      case measure => simp [intOf]; omega
    · obtain rfl : j = n := by omega
      go_wp2_with fail
      go_ret
      exact ⟨rfl, HSj.out⟩

theorem eput_12 : eputL 65 5 [1, 2] = [0, 65, 5, 11, 2, 1, 2] := by kernel_rfl
set_option maxRecDepth 100000 in
set_option maxHeartbeats 1600000 in
theorem awake13 (w : World) : Calls Try.prog 87 #[] w fun e w' => e = .returned (.bool true) ∧ Step (fun _ => False) w w' := by
  have HP : Hid (Calls Try.prog 89 #[.agg #[.int .u8 65, .int .u64 5, .int .u64 0, .slice none 0 0, .slice (some ⟨w.heap.size, 0, none⟩) 2 2]] (w.alloc (.cells #[.int .u32 1, .int .u32 2] 51)) fun e w' => ∃ D c, e = .returned (.tuple #[.slice D 7 c, .int .i64 0]) ∧
      w'.ownsRow (w.alloc (.cells #[.int .u32 1, .int .u32 2] 51)).heap.size 5 1 (.slice D 7 c) 7 (u8s [0, 65, 5, 11, 2, 1, 2]) ∧ Step (fun _ => False) (w.alloc (.cells #[.int .u32 1, .int .u32 2] 51)) w') := by
    have := eput_ok (w.alloc (.cells #[.int .u32 1, .int .u32 2] 51)) 65 5 0 2 2 none (some ⟨w.heap.size, 0, none⟩) [1, 2] _ (.inr (.inl ⟨rfl, by decide⟩)) (by decide) rfl (by decide) (by decide) (reads_new w #[.int .u32 1, .int .u32 2] 51 1 2 rfl)
    rw [eput_12] at this
    exact this
  go_enter Try.func87, Try.ntmps87
  go_wp2_with fail
  refine HP.out.mono ?_
  rintro e w5 ⟨D, c, rfl, hown, hS⟩
  have hcv := conv_bytes (c := c) (Reads.of_own hown)
  rw [show str [0, 65, 5, 11, 2, 1, 2] = (⟨#[0, 65, 5, 11, 2, 1, 2]⟩ : ByteArray) from rfl] at hcv
  clear hown
  go_wp2_with fail
  go_ret
  exact ⟨rfl, (Step.refl.alloc _).trans hS⟩
end Go.Proofs.Ytfemeendkjcffaa
