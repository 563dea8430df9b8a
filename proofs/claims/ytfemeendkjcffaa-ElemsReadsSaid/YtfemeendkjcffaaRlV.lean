/-
  The reference: creelref13.Get, GetAll of any bytes (printed by gen_rl.py).
-/
import Derived.Test.YtfemeendkjcffaaRlG
import Derived.Test.YtfemeendkjcffaaRga
set_option linter.unusedVariables false
set_option linter.unusedSimpArgs false
namespace Go.Proofs.Ytfemeendkjcffaa
open Go.RowKit

def relmF (bs : List UInt8) (s : Rst) : El × Rst :=
  (⟨(rcgF bs (rnoF bs s)).1.1, (rcgF bs (rnoF bs s)).1.2.1, (rcgF bs (rnoF bs s)).1.2.2.1, (rcgF bs (rnoF bs s)).1.2.2.2, 0, (rlabF bs (rcntF bs (rcgF bs (rnoF bs s)).2).1 (rcntF bs (rcgF bs (rnoF bs s)).2).2).1.length, 0, none, none,
    (rlabF bs (rcntF bs (rcgF bs (rnoF bs s)).2).1 (rcntF bs (rcgF bs (rnoF bs s)).2).2).1⟩, (rlabF bs (rcntF bs (rcgF bs (rnoF bs s)).2).1 (rcntF bs (rcgF bs (rnoF bs s)).2).2).2)
def RelQ (X : Nat) (S : Nat → Prop) (D : Option Addr) (c : Nat) (bs : List UInt8) (w : World) (q : El × Rst) (e : Ending) (w' : World) : Prop :=
  ∃ x' : El, x'.sh = q.1 ∧ e = .returned (.agg (elmX x'.op x'.a x'.b x'.A x'.n x'.c (.slice x'.FA x'.m x'.fc))) ∧ w'.ownsRow w.heap.size 51 1 (.slice x'.FA x'.m x'.fc) x'.m (u32s x'.L) ∧ Rf w' X S D c bs q.2 ∧ Step (fun i => i = X) w w'

set_option maxRecDepth 100000 in
set_option maxHeartbeats 12800000 in
theorem reget_walk (w : World) (X : Nat) (S : Nat → Prop) (D : Option Addr) (c : Nat) (bs : List UInt8) (s : Rst) (h : Rf w X S D c bs s) :
    Calls Try.prog 177 #[.pointer (some ⟨X, 0, none⟩)] w (RelQ X S D c bs w (relmF bs s)) := by
  have HN : Hid (∀ w', Rf w' X S D c bs s → Calls Try.prog 147 #[.pointer (some ⟨X, 0, none⟩)] w' (Rg X S D c bs w' (.int .i64 ((rbyF bs s).1 : Int)) (rbyF bs s).2)) := fun w' h' => rbyte_walk w' X S D c bs s h'
  have HM : Hid (∀ w', Rf w' X S D c bs (rnoF bs s) → Calls Try.prog 51 #[.pointer (some ⟨X, 0, none⟩)] w' (CgQ X S D c bs w' (rcgF bs (rnoF bs s)))) := fun w' h' => rcget_walk w' X S D c bs _ h'
  have HI : Hid (∀ w', Rf w' X S D c bs (rcgF bs (rnoF bs s)).2 → Calls Try.prog 170 #[.pointer (some ⟨X, 0, none⟩)] w' (Rg X S D c bs w' (.int .i64 ((rcntF bs (rcgF bs (rnoF bs s)).2).1 : Int)) (rcntF bs (rcgF bs (rnoF bs s)).2).2)) := fun w' h' => rcount_walk w' X S D c bs _ h'
  have hil := rcntF_le bs (rcgF bs (rnoF bs s)).2
  rw [relmF]
  generalize rcntF bs (rcgF bs (rnoF bs s)).2 = pi at HI hil ⊢
  generalize rcgF bs (rnoF bs s) = pg at HM HI ⊢
  have hno : rnoF bs s = if (rbyF bs s).1 = 0 then (rbyF bs s).2 else failS 10 s.k (rbyF bs s).2 := rfl
  rw [hno] at HM
  clear hno
  have hbl := rbyF_lt bs s
  generalize rbyF bs s = pb at HN HM hbl
  obtain ⟨z, s1⟩ := pb
  obtain ⟨⟨op, a, b, m⟩, s2⟩ := pg
  obtain ⟨n, s3⟩ := pi
  simp only [CgQ] at HN HM HI hil hbl ⊢
  have hxl := h.lt
  have hlow := h.low
  have x1 := h.c1
  have HH := Lib.hid h
  clear h
  have HB0 := Lib.hid (Blk.new w 136 (elmC 0 0 (.slice none 0 0)))
  have HT0 := Lib.hid ((Step.refl (F := fun i => i = X)).alloc (w := w) (.cells (elmC 0 0 (.slice none 0 0)) 136))
  obtain ⟨R, hR⟩ : ∃ R, R = w.heap.size := ⟨_, rfl⟩
  have hRX : R ≠ X := by omega
  have hRw : w.heap.size ≤ R := by omega
  have hRS : ∀ j, S j → j ≠ R := fun j hj => by have := hlow j hj; omega
  rw [← hR] at HB0
  obtain ⟨k, y0, a0⟩ := s
  simp only at x1 HM
  obtain ⟨G, hG⟩ : ∃ G, G = rlabF bs n s3 := ⟨_, rfl⟩
  rw [← hG]
  have HR9 : Hid (G = preQ [] (rlabF bs (n - 0) s3)) := by rw [Hid, hG, Nat.sub_zero]; rfl
  clear hG
  by_cases hz : z = 0
  · rw [if_pos hz] at HM
    subst hz
    go_enter Try.func177, Try.ntmps177
    go_wp2_with fail
    refine (HN.out _ (HH.out.alloc _)).mono ?_
    rintro e w5 ⟨rfl, hs5, ht5⟩
    have HB6 := Lib.hid (HB0.out.step ht5 hRX)
    have HS6 := Lib.hid hs5
    have HT6 := Lib.hid (HT0.out.trans ht5)
    rw [← hR]
    clear hs5 ht5 HB0 HT0 hR HH HN x1
    go_wp2_with fail
    refine (HM.out _ HS6.out).mono ?_
    rintro e w7 ⟨DI, cI, rfl, hs7, ht7⟩
    have HB7 := Lib.hid ((HB6.out.step ht7 hRX).alloc (.cells (elmX op a b DI m cI (.slice none 0 0)) 136))
    have HI7 := Lib.hid (Blk.new w7 136 (elmX op a b DI m cI (.slice none 0 0)))
    have HS7 := Lib.hid (hs7.alloc (.cells (elmX op a b DI m cI (.slice none 0 0)) 136))
    have HT7 := Lib.hid ((HT6.out.trans ht7).alloc (.cells (elmX op a b DI m cI (.slice none 0 0)) 136))
    have hRI : R < w7.heap.size := by have := HB6.out.lt; have := ht7.size; omega
    have hXI : X < w7.heap.size := by have := HS6.out.lt; have := ht7.size; omega
    have hIw : w.heap.size ≤ w7.heap.size := (HT6.out.trans ht7).size
    clear hs7 ht7 HB6 HS6 HT6 HM
    simp only [insC]
    go_wp2_with fail
    have hW2 : w7.alloc (.cells #[.int .u8 (op : Int), .int .u64 (a : Int), .int .u64 (b : Int), .slice DI m cI, .slice none 0 0] 136) = w7.alloc (.cells (elmX op a b DI m cI (.slice none 0 0)) 136) := rfl
    rw [hW2]
    obtain ⟨I, hI⟩ : ∃ I, I = w7.heap.size := ⟨_, rfl⟩
    obtain ⟨W, hW⟩ : ∃ W, W = w7.alloc (.cells (elmX op a b DI m cI (.slice none 0 0)) 136) := ⟨_, rfl⟩
    rw [← hI] at HI7 hRI hXI hIw ⊢
    rw [← hW] at HB7 HI7 HS7 HT7 ⊢
    have hIS : ∀ j, S j → j ≠ I := fun j hj => by have := hlow j hj; omega
    have hIX : I ≠ X := by omega
    have hRI2 : R ≠ I := by omega
    clear hW hI hW2
    refine (HI.out _ HS7.out).mono ?_
    rintro e w9 ⟨rfl, hs, ht⟩
    have HB9 := Lib.hid (HB7.out.step ht hRX)
    have HI9 : Hid (Blk w9 I 136 #[.int .u8 (op : Int), .int .u64 (a : Int), .int .u64 (b : Int), .slice DI m cI, .slice none 0 0]) := HI7.out.step ht hIX
    have HS9 := Lib.hid hs
    have HT9 := Lib.hid (HT7.out.trans ht)
    clear hs ht HB7 HI7 HS7 HT7 HI
    have HO9 : Hid (w9.ownsRow w.heap.size 51 1 (.slice none 0 0) 0 (u32s [])) := World.ownsRow_nil _ _ _ _
    have hw9 := HT9.out.size
    go_wp2_with fail
    go_loopw [6] (fun iv wr => ∃ (j c2 : Nat) (D2 : Option Addr) (L : List Nat) (sj : Rst), j ≤ n ∧ L.length = j ∧ iv = .int .i64 (j : Int) ∧ Hid (Blk wr R 136 (elmC 0 0 (.slice none 0 0))) ∧ Hid (Blk wr I 136 #[.int .u8 (op : Int), .int .u64 (a : Int), .int .u64 (b : Int), .slice DI m cI, .slice D2 j c2]) ∧
      Hid (wr.ownsRow w.heap.size 51 1 (.slice D2 j c2) j (u32s L)) ∧ Hid (Rf wr X S D c bs sj) ∧ Hid (Step (fun i => i = X) w wr) ∧ Hid (G = preQ L (rlabF bs (n - j) sj))) (fun iv _ => n + 1 - (intOf iv).toNat)
    case atStart => exact ⟨0, 0, none, [], s3, by omega, rfl, rfl, HB9, HI9, HO9, HS9, HT9, HR9⟩
    case round =>
      obtain ⟨j, c2, D2, L, sj, hj, hLj, rfl, HBj, HIj, HOj, HKj, HTj, HRj⟩ := hrel
      have HLj := Lib.hid hLj
      clear HO9 HI9 HS9 HR9 hLj HB9 HT9
      have x2 := HKj.out.c2
      by_cases hlt : j < n
      · have g1 : (j : Int) < (n : Int) := by omega
        by_cases hy : sj.y = 0
        · have hw1 := IntWalk.i64_in ((j : Int) + 1) (by omega)
          rw [hy] at x2
          have hxb := ridxF_lt bs sj
          have HR2 : Hid (G = preQ (L ++ [(ridxF bs sj).1]) (rlabF bs (n - (j + 1)) (ridxF bs sj).2)) := by
            rw [Hid, HRj.out, show n - j = (n - (j + 1)) + 1 by omega, rlabF, if_pos hy]
            simp [preQ]
          have HX : Hid (∀ w', Rf w' X S D c bs sj → Calls Try.prog 192 #[.pointer (some ⟨X, 0, none⟩)] w' (Rg X S D c bs w' (.int .u32 ((ridxF bs sj).1 : Int)) (ridxF bs sj).2)) := fun w' h' => rindex_walk w' X S D c bs sj h'
          clear hy HRj
          generalize ridxF bs sj = pj at HX HR2 hxb
          obtain ⟨x, s5⟩ := pj
          simp only at HX HR2 hxb
          have i4 := HIj.out.cell 4
          simp at i4
          have hDI : blkOf D2 ≠ some I := by rw [← ownBlock_slice D2 j c2]; exact own_tag HOj.out HIj.out (by decide)
          have hDX : blkOf D2 ≠ some X := by rw [← ownBlock_slice D2 j c2]; exact own_tag HOj.out HKj.out.blk (by decide)
          have hDR : blkOf D2 ≠ some R := by rw [← ownBlock_slice D2 j c2]; exact own_tag HOj.out HBj.out (by decide)
          have hDge : ∀ q, blkOf D2 = some q → w.heap.size ≤ q := fun q hq => own_ge HOj.out q (by rw [ownBlock_slice]; exact hq)
          obtain ⟨F, hF⟩ : ∃ F : Nat → Prop, F = fun q => q = X ∨ blkOf D2 = some q := ⟨_, rfl⟩
          have hFI : ¬ F I := by rw [hF]; intro h; exact h.elim hIX hDI
          have d4 := cls_cell (F := F) (w0 := wr) i4 hFI
          have hIl := HIj.out.lt
          have HF := Lib.hid hF
          clear i4 hF
          go_wp2_with fail
          clear x2
          refine Mix.wp_region_mix [3, 4, 5, 7] [3, 4, 5] (Step F wr) (by kernel_rfl) (by kernel_rfl) Step.refl.drew (fun hcls => ?_)
          refine Mix.wpL_reads 3 (by rfl) ?_
          simp only [List.take_succ_cons, List.drop_succ_cons, List.take_zero, List.drop_zero]
          repeat (go_big_quiet_step (fail))
          refine wpQuiet_nil ?_
          refine Mix.wpL_op (by rfl) (fun K hK => ?_)
          go_simp
          refine (HX.out _ (HKj.out.quiet Step.refl.drew)).mono ?_
          rintro e wa ⟨rfl, hsa, hta⟩
          have HTa : Hid (Step F wr wa) := Lib.hid ((Step.refl.drew).trans (hta.mono fun q _ hq => by rw [HF.out]; exact .inl hq))
          refine hK _ _ (fun hlt => Mix.cl HTa.out) ?_
          clear hK K
          refine Mix.wpL_op (by rfl) (fun K hK => ?_)
          go_simp
          refine hK _ _ (fun hlt => Mix.cl (HTa.out.alloc _)) ?_
          clear hK K
          have hOa : (wa.alloc (.cells #[.int .u32 (x : Int)] 51)).ownsRow w.heap.size 51 1 (.slice D2 j c2) j (u32s L) :=
            (own_step (own_drew HOj.out) hta (fun q hq e => hDX (by rw [← ownBlock_slice D2 j c2, hq, e]))).alloc _
          have HIa := Lib.hid ((HIj.out.drew.step hta hIX).alloc (.cells #[.int .u32 (x : Int)] 51))
          have HBa := Lib.hid ((HBj.out.drew.step hta hRX).alloc (.cells #[.int .u32 (x : Int)] 51))
          have HKa := Lib.hid (hsa.alloc (.cells #[.int .u32 (x : Int)] 51))
          have HTw := Lib.hid (((HTj.out.drew).trans hta).alloc (.cells #[.int .u32 (x : Int)] 51))
          have HTa2 := Lib.hid (HTa.out.alloc (.cells #[.int .u32 (x : Int)] 51))
          have hsz2 := HTw.out.size
          have hsza : wr.heap.size ≤ wa.heap.size := hta.size
          have hszb : (wa.alloc (.cells #[.int .u32 (x : Int)] 51)).heap.size = wa.heap.size + 1 := by simp
          clear hsa hta HTa
          have hone : ∀ u ∈ #[Value.int .u32 (x : Int)].toList, u.oneCell' = true := by simp [Value.oneCell']
          have hm : j + 1 ≤ maxLen := by unfold maxLen; omega
          refine Mix.wpL_op (by rfl) (fun K hK => ?_)
          refine step_append_src _ (by rfl) _ _ (by rfl) E_u32 (by rfl) hOa (by rfl) (reads_new _ #[Value.int .u32 (x : Int)] 51 1 1 rfl) hone hm (by omega) hsz2 ?_
          intro D3 c3 w3 hown3 hgrow3 hat3
          have HI3 := Lib.hid (HIa.out.grown hgrow3 hDI)
          have HB3 := Lib.hid (HBa.out.grown hgrow3 hDR)
          have HK3 := Lib.hid (HKa.out.step (F := fun q => blkOf D2 = some q) (Step.refl.grown hgrow3 (fun q hq => .inl hq)) hDX (fun q hq hd => by have := hlow q hq; have := hDge q hd; omega))
          have HT3 := Lib.hid (HTw.out.grown hgrow3 (fun q hq => .inr (hDge q hq)))
          have HTF := Lib.hid (HTa2.out.grown hgrow3 (fun q hq => .inl (by rw [HF.out]; exact .inr hq)))
          refine hK _ _ (fun hlt => Mix.cl HTF.out) ?_
          clear hK K hgrow3 HTa2 HTw HKa HBa HIa hOa
          simp only [Act.put, List.setIfInBounds_toArray, List.set_cons_succ, List.set_cons_zero]
          refine Mix.wpL_reads 1 (by rfl) ?_
          simp only [List.take_succ_cons, List.drop_succ_cons, List.take_zero, List.drop_zero]
          repeat (go_big_quiet_step (fail))
          refine wpQuiet_nil ?_
          have zz := HI3.out.frozen 4
          have cc := HI3.out.cell 4
          simp at cc
          have hHat : blkOf D3 = some I → False := fun e => by
            rcases hat3 with h3 | h3
            · exact hDI (h3 ▸ e)
            · rw [h3, hszb] at e
              injection e with e
              omega
          have HI4 : Hid (Blk (w3.setCell ⟨I, 4, none⟩ (.slice D3 (j + 1) c3)) I 136 #[.int .u8 (op : Int), .int .u64 (a : Int), .int .u64 (b : Int), .slice DI m cI, .slice D3 (j + 1) c3]) := by
            have hq := HI3.out.set_ 4 (.slice D3 (j + 1) c3)
            simp at hq
            exact hq
          have HB4 := Lib.hid (HB3.out.far (p := ⟨I, 4, none⟩) hRI2 (.slice D3 (j + 1) c3))
          have hst4 : Step (fun j => j = I) w3 (w3.setCell ⟨I, 4, none⟩ (.slice D3 (j + 1) c3)) := (Step.refl (F := fun j => j = I)).setCell (p := ⟨I, 4, none⟩) (.inl rfl) _
          have HK4 := Lib.hid (HK3.out.step hst4 (Ne.symm hIX) hIS)
          have HT4 := Lib.hid (HT3.out.setCell (p := ⟨I, 4, none⟩) (.inr hIw) (.slice D3 (j + 1) c3))
          have HO4 := Lib.hid (own_set hown3 (p := ⟨I, 4, none⟩) (by rw [ownBlock_slice]; exact fun e => hHat e) (.slice D3 (j + 1) c3))
          refine Mix.wpL_op (by rfl) (fun K hK => ?_)
          go_simp
          refine hK _ _ (fun hlt => absurd hlt (by decide)) ?_
          clear hK K
          refine Mix.wpL_end ?_
          have hus : u32s L ++ #[Value.int .u32 (x : Int)].toList = u32s (L ++ [x]) := by rw [u32s_append]; rfl
          rw [hus] at HO4
          have HLj2 : Hid ((L ++ [x]).length = j + 1) := by rw [Hid, List.length_append, HLj.out]; rfl
          go_wp2_with fail
          go_roundw
          case rel => exact ⟨j + 1, c3, D3, L ++ [x], s5, by omega, HLj2.out, by rw [Int.natCast_add]; rfl, HB4, HI4, HO4, HK4, HT4, HR2⟩
          case measure => simp [intOf]; omega
        · have hy' : ((sj.y : Int) == 0) = false := by simp; omega
          have HRf : Hid (G = (L, sj)) := by
            rw [Hid, HRj.out, rlab_stop _ _ _ hy, preQ, List.append_nil]
          have hDI : blkOf D2 ≠ some I := by rw [← ownBlock_slice D2 j c2]; exact own_tag HOj.out HIj.out (by decide)
          have hDR : blkOf D2 ≠ some R := by rw [← ownBlock_slice D2 j c2]; exact own_tag HOj.out HBj.out (by decide)
          have y0 := HIj.out.cell 0
          have y1 := HIj.out.cell 1
          have y2 := HIj.out.cell 2
          have y3 := HIj.out.cell 3
          have y4 := HIj.out.cell 4
          simp at y0 y1 y2 y3 y4
          have hone : (elmX op a b DI m cI (.slice D2 j c2)).all (·.oneCell') = true := by simp [elmX, Value.oneCell']
          have hbl := HBj.out
          go_wp2_with (refine wpList_store_rowTo rfl 136 _ _ rfl rfl R (elmX op a b DI m cI (.slice D2 j c2)) rfl rfl 136 _ hbl rfl rfl hone ?_)
          have r0 := (hbl.row (elmX op a b DI m cI (.slice D2 j c2))).cell 0
          have r1 := (hbl.row (elmX op a b DI m cI (.slice D2 j c2))).cell 1
          have r2 := (hbl.row (elmX op a b DI m cI (.slice D2 j c2))).cell 2
          have r3 := (hbl.row (elmX op a b DI m cI (.slice D2 j c2))).cell 3
          have r4 := (hbl.row (elmX op a b DI m cI (.slice D2 j c2))).cell 4
          simp [elmX] at r0 r1 r2 r3 r4
          have hst13 : Step (fun q => q = R) wr (wr.setRow R (elmX op a b DI m cI (.slice D2 j c2))) := Step.setRow (F := fun j => j = R) Step.refl (g := R) (.inl rfl) (elmX op a b DI m cI (.slice D2 j c2))
          have hSF := HKj.out.step hst13 (Ne.symm hRX) hRS
          have hTF := HTj.out.setRow (g := R) (.inr hRw) (elmX op a b DI m cI (.slice D2 j c2))
          have hOF := own_step HOj.out hst13 (fun q hq e => hDR (by rw [← ownBlock_slice D2 j c2, hq, e]))
          refine bodyPost_ret (v := .agg (elmX op a b DI m cI (.slice D2 j c2))) (by simp [results, Try.results177, go_sem, elmX, r0, r1, r2, r3, r4]) rfl ?_
          rw [HRf.out, HLj.out]
          exact ⟨⟨op, a, b, m, cI, j, c2, DI, D2, L⟩, rfl, rfl, hOF, hSF, hTF⟩
      · obtain rfl : j = n := by omega
        rw [Nat.sub_self] at HRj
        have HRf : Hid (G = (L, sj)) := by
          rw [Hid, HRj.out, rlabF, preQ, List.append_nil]
        have hDI : blkOf D2 ≠ some I := by rw [← ownBlock_slice D2 j c2]; exact own_tag HOj.out HIj.out (by decide)
        have hDR : blkOf D2 ≠ some R := by rw [← ownBlock_slice D2 j c2]; exact own_tag HOj.out HBj.out (by decide)
        have y0 := HIj.out.cell 0
        have y1 := HIj.out.cell 1
        have y2 := HIj.out.cell 2
        have y3 := HIj.out.cell 3
        have y4 := HIj.out.cell 4
        simp at y0 y1 y2 y3 y4
        have hone : (elmX op a b DI m cI (.slice D2 j c2)).all (·.oneCell') = true := by simp [elmX, Value.oneCell']
        have hbl := HBj.out
        go_wp2_with (refine wpList_store_rowTo rfl 136 _ _ rfl rfl R (elmX op a b DI m cI (.slice D2 j c2)) rfl rfl 136 _ hbl rfl rfl hone ?_)
        have r0 := (hbl.row (elmX op a b DI m cI (.slice D2 j c2))).cell 0
        have r1 := (hbl.row (elmX op a b DI m cI (.slice D2 j c2))).cell 1
        have r2 := (hbl.row (elmX op a b DI m cI (.slice D2 j c2))).cell 2
        have r3 := (hbl.row (elmX op a b DI m cI (.slice D2 j c2))).cell 3
        have r4 := (hbl.row (elmX op a b DI m cI (.slice D2 j c2))).cell 4
        simp [elmX] at r0 r1 r2 r3 r4
        have hst13 : Step (fun q => q = R) wr (wr.setRow R (elmX op a b DI m cI (.slice D2 j c2))) := Step.setRow (F := fun j => j = R) Step.refl (g := R) (.inl rfl) (elmX op a b DI m cI (.slice D2 j c2))
        have hSF := HKj.out.step hst13 (Ne.symm hRX) hRS
        have hTF := HTj.out.setRow (g := R) (.inr hRw) (elmX op a b DI m cI (.slice D2 j c2))
        have hOF := own_step HOj.out hst13 (fun q hq e => hDR (by rw [← ownBlock_slice D2 j c2, hq, e]))
        refine bodyPost_ret (v := .agg (elmX op a b DI m cI (.slice D2 j c2))) (by simp [results, Try.results177, go_sem, elmX, r0, r1, r2, r3, r4]) rfl ?_
        rw [HRf.out, HLj.out]
        exact ⟨⟨op, a, b, m, cI, j, c2, DI, D2, L⟩, rfl, rfl, hOF, hSF, hTF⟩
  · rw [if_neg hz] at HM
    have hzb : ((z : Int) != 0) = true := bne_iff_ne.2 (by omega)
    clear hz
    go_enter Try.func177, Try.ntmps177
    go_wp2_with fail
    refine (HN.out _ (HH.out.alloc _)).mono ?_
    rintro e w5 ⟨rfl, hs5, ht5⟩
    have HB5 := Lib.hid (HB0.out.step ht5 hRX)
    have HS5 := Lib.hid hs5
    have HT5 := Lib.hid (HT0.out.trans ht5)
    rw [← hR]
    clear hs5 ht5 HB0 HT0 hR HH HN x1
    go_wp2_with fail
    refine (rfail_walk _ X S D c bs _ HS5.out 10 k).mono ?_
    rintro e w6 ⟨rfl, hs, ht⟩
    have HB6 := Lib.hid (HB5.out.step ht hRX)
    have HS6 := Lib.hid hs
    have HT6 := Lib.hid (HT5.out.trans ht)
    clear hs ht HB5 HS5 HT5
    go_wp2_with fail
    refine (HM.out _ HS6.out).mono ?_
    rintro e w7 ⟨DI, cI, rfl, hs7, ht7⟩
    have HB7 := Lib.hid ((HB6.out.step ht7 hRX).alloc (.cells (elmX op a b DI m cI (.slice none 0 0)) 136))
    have HI7 := Lib.hid (Blk.new w7 136 (elmX op a b DI m cI (.slice none 0 0)))
    have HS7 := Lib.hid (hs7.alloc (.cells (elmX op a b DI m cI (.slice none 0 0)) 136))
    have HT7 := Lib.hid ((HT6.out.trans ht7).alloc (.cells (elmX op a b DI m cI (.slice none 0 0)) 136))
    have hRI : R < w7.heap.size := by have := HB6.out.lt; have := ht7.size; omega
    have hXI : X < w7.heap.size := by have := HS6.out.lt; have := ht7.size; omega
    have hIw : w.heap.size ≤ w7.heap.size := (HT6.out.trans ht7).size
    clear hs7 ht7 HB6 HS6 HT6 HM
    simp only [insC]
    go_wp2_with fail
    have hW2 : w7.alloc (.cells #[.int .u8 (op : Int), .int .u64 (a : Int), .int .u64 (b : Int), .slice DI m cI, .slice none 0 0] 136) = w7.alloc (.cells (elmX op a b DI m cI (.slice none 0 0)) 136) := rfl
    rw [hW2]
    obtain ⟨I, hI⟩ : ∃ I, I = w7.heap.size := ⟨_, rfl⟩
    obtain ⟨W, hW⟩ : ∃ W, W = w7.alloc (.cells (elmX op a b DI m cI (.slice none 0 0)) 136) := ⟨_, rfl⟩
    rw [← hI] at HI7 hRI hXI hIw ⊢
    rw [← hW] at HB7 HI7 HS7 HT7 ⊢
    have hIS : ∀ j, S j → j ≠ I := fun j hj => by have := hlow j hj; omega
    have hIX : I ≠ X := by omega
    have hRI2 : R ≠ I := by omega
    clear hW hI hW2
    refine (HI.out _ HS7.out).mono ?_
    rintro e w9 ⟨rfl, hs, ht⟩
    have HB9 := Lib.hid (HB7.out.step ht hRX)
    have HI9 : Hid (Blk w9 I 136 #[.int .u8 (op : Int), .int .u64 (a : Int), .int .u64 (b : Int), .slice DI m cI, .slice none 0 0]) := HI7.out.step ht hIX
    have HS9 := Lib.hid hs
    have HT9 := Lib.hid (HT7.out.trans ht)
    clear hs ht HB7 HI7 HS7 HT7 HI
    have HO9 : Hid (w9.ownsRow w.heap.size 51 1 (.slice none 0 0) 0 (u32s [])) := World.ownsRow_nil _ _ _ _
    have hw9 := HT9.out.size
    go_wp2_with fail
    go_loopw [6] (fun iv wr => ∃ (j c2 : Nat) (D2 : Option Addr) (L : List Nat) (sj : Rst), j ≤ n ∧ L.length = j ∧ iv = .int .i64 (j : Int) ∧ Hid (Blk wr R 136 (elmC 0 0 (.slice none 0 0))) ∧ Hid (Blk wr I 136 #[.int .u8 (op : Int), .int .u64 (a : Int), .int .u64 (b : Int), .slice DI m cI, .slice D2 j c2]) ∧
      Hid (wr.ownsRow w.heap.size 51 1 (.slice D2 j c2) j (u32s L)) ∧ Hid (Rf wr X S D c bs sj) ∧ Hid (Step (fun i => i = X) w wr) ∧ Hid (G = preQ L (rlabF bs (n - j) sj))) (fun iv _ => n + 1 - (intOf iv).toNat)
    case atStart => exact ⟨0, 0, none, [], s3, by omega, rfl, rfl, HB9, HI9, HO9, HS9, HT9, HR9⟩
    case round =>
      obtain ⟨j, c2, D2, L, sj, hj, hLj, rfl, HBj, HIj, HOj, HKj, HTj, HRj⟩ := hrel
      have HLj := Lib.hid hLj
      clear HO9 HI9 HS9 HR9 hLj HB9 HT9
      have x2 := HKj.out.c2
      by_cases hlt : j < n
      · have g1 : (j : Int) < (n : Int) := by omega
        by_cases hy : sj.y = 0
        · have hw1 := IntWalk.i64_in ((j : Int) + 1) (by omega)
          rw [hy] at x2
          have hxb := ridxF_lt bs sj
          have HR2 : Hid (G = preQ (L ++ [(ridxF bs sj).1]) (rlabF bs (n - (j + 1)) (ridxF bs sj).2)) := by
            rw [Hid, HRj.out, show n - j = (n - (j + 1)) + 1 by omega, rlabF, if_pos hy]
            simp [preQ]
          have HX : Hid (∀ w', Rf w' X S D c bs sj → Calls Try.prog 192 #[.pointer (some ⟨X, 0, none⟩)] w' (Rg X S D c bs w' (.int .u32 ((ridxF bs sj).1 : Int)) (ridxF bs sj).2)) := fun w' h' => rindex_walk w' X S D c bs sj h'
          clear hy HRj
          generalize ridxF bs sj = pj at HX HR2 hxb
          obtain ⟨x, s5⟩ := pj
          simp only at HX HR2 hxb
          have i4 := HIj.out.cell 4
          simp at i4
          have hDI : blkOf D2 ≠ some I := by rw [← ownBlock_slice D2 j c2]; exact own_tag HOj.out HIj.out (by decide)
          have hDX : blkOf D2 ≠ some X := by rw [← ownBlock_slice D2 j c2]; exact own_tag HOj.out HKj.out.blk (by decide)
          have hDR : blkOf D2 ≠ some R := by rw [← ownBlock_slice D2 j c2]; exact own_tag HOj.out HBj.out (by decide)
          have hDge : ∀ q, blkOf D2 = some q → w.heap.size ≤ q := fun q hq => own_ge HOj.out q (by rw [ownBlock_slice]; exact hq)
          obtain ⟨F, hF⟩ : ∃ F : Nat → Prop, F = fun q => q = X ∨ blkOf D2 = some q := ⟨_, rfl⟩
          have hFI : ¬ F I := by rw [hF]; intro h; exact h.elim hIX hDI
          have d4 := cls_cell (F := F) (w0 := wr) i4 hFI
          have hIl := HIj.out.lt
          have HF := Lib.hid hF
          clear i4 hF
          go_wp2_with fail
          clear x2
          refine Mix.wp_region_mix [3, 4, 5, 7] [3, 4, 5] (Step F wr) (by kernel_rfl) (by kernel_rfl) Step.refl.drew (fun hcls => ?_)
          refine Mix.wpL_reads 3 (by rfl) ?_
          simp only [List.take_succ_cons, List.drop_succ_cons, List.take_zero, List.drop_zero]
          repeat (go_big_quiet_step (fail))
          refine wpQuiet_nil ?_
          refine Mix.wpL_op (by rfl) (fun K hK => ?_)
          go_simp
          refine (HX.out _ (HKj.out.quiet Step.refl.drew)).mono ?_
          rintro e wa ⟨rfl, hsa, hta⟩
          have HTa : Hid (Step F wr wa) := Lib.hid ((Step.refl.drew).trans (hta.mono fun q _ hq => by rw [HF.out]; exact .inl hq))
          refine hK _ _ (fun hlt => Mix.cl HTa.out) ?_
          clear hK K
          refine Mix.wpL_op (by rfl) (fun K hK => ?_)
          go_simp
          refine hK _ _ (fun hlt => Mix.cl (HTa.out.alloc _)) ?_
          clear hK K
          have hOa : (wa.alloc (.cells #[.int .u32 (x : Int)] 51)).ownsRow w.heap.size 51 1 (.slice D2 j c2) j (u32s L) :=
            (own_step (own_drew HOj.out) hta (fun q hq e => hDX (by rw [← ownBlock_slice D2 j c2, hq, e]))).alloc _
          have HIa := Lib.hid ((HIj.out.drew.step hta hIX).alloc (.cells #[.int .u32 (x : Int)] 51))
          have HBa := Lib.hid ((HBj.out.drew.step hta hRX).alloc (.cells #[.int .u32 (x : Int)] 51))
          have HKa := Lib.hid (hsa.alloc (.cells #[.int .u32 (x : Int)] 51))
          have HTw := Lib.hid (((HTj.out.drew).trans hta).alloc (.cells #[.int .u32 (x : Int)] 51))
          have HTa2 := Lib.hid (HTa.out.alloc (.cells #[.int .u32 (x : Int)] 51))
          have hsz2 := HTw.out.size
          have hsza : wr.heap.size ≤ wa.heap.size := hta.size
          have hszb : (wa.alloc (.cells #[.int .u32 (x : Int)] 51)).heap.size = wa.heap.size + 1 := by simp
          clear hsa hta HTa
          have hone : ∀ u ∈ #[Value.int .u32 (x : Int)].toList, u.oneCell' = true := by simp [Value.oneCell']
          have hm : j + 1 ≤ maxLen := by unfold maxLen; omega
          refine Mix.wpL_op (by rfl) (fun K hK => ?_)
          refine step_append_src _ (by rfl) _ _ (by rfl) E_u32 (by rfl) hOa (by rfl) (reads_new _ #[Value.int .u32 (x : Int)] 51 1 1 rfl) hone hm (by omega) hsz2 ?_
          intro D3 c3 w3 hown3 hgrow3 hat3
          have HI3 := Lib.hid (HIa.out.grown hgrow3 hDI)
          have HB3 := Lib.hid (HBa.out.grown hgrow3 hDR)
          have HK3 := Lib.hid (HKa.out.step (F := fun q => blkOf D2 = some q) (Step.refl.grown hgrow3 (fun q hq => .inl hq)) hDX (fun q hq hd => by have := hlow q hq; have := hDge q hd; omega))
          have HT3 := Lib.hid (HTw.out.grown hgrow3 (fun q hq => .inr (hDge q hq)))
          have HTF := Lib.hid (HTa2.out.grown hgrow3 (fun q hq => .inl (by rw [HF.out]; exact .inr hq)))
          refine hK _ _ (fun hlt => Mix.cl HTF.out) ?_
          clear hK K hgrow3 HTa2 HTw HKa HBa HIa hOa
          simp only [Act.put, List.setIfInBounds_toArray, List.set_cons_succ, List.set_cons_zero]
          refine Mix.wpL_reads 1 (by rfl) ?_
          simp only [List.take_succ_cons, List.drop_succ_cons, List.take_zero, List.drop_zero]
          repeat (go_big_quiet_step (fail))
          refine wpQuiet_nil ?_
          have zz := HI3.out.frozen 4
          have cc := HI3.out.cell 4
          simp at cc
          have hHat : blkOf D3 = some I → False := fun e => by
            rcases hat3 with h3 | h3
            · exact hDI (h3 ▸ e)
            · rw [h3, hszb] at e
              injection e with e
              omega
          have HI4 : Hid (Blk (w3.setCell ⟨I, 4, none⟩ (.slice D3 (j + 1) c3)) I 136 #[.int .u8 (op : Int), .int .u64 (a : Int), .int .u64 (b : Int), .slice DI m cI, .slice D3 (j + 1) c3]) := by
            have hq := HI3.out.set_ 4 (.slice D3 (j + 1) c3)
            simp at hq
            exact hq
          have HB4 := Lib.hid (HB3.out.far (p := ⟨I, 4, none⟩) hRI2 (.slice D3 (j + 1) c3))
          have hst4 : Step (fun j => j = I) w3 (w3.setCell ⟨I, 4, none⟩ (.slice D3 (j + 1) c3)) := (Step.refl (F := fun j => j = I)).setCell (p := ⟨I, 4, none⟩) (.inl rfl) _
          have HK4 := Lib.hid (HK3.out.step hst4 (Ne.symm hIX) hIS)
          have HT4 := Lib.hid (HT3.out.setCell (p := ⟨I, 4, none⟩) (.inr hIw) (.slice D3 (j + 1) c3))
          have HO4 := Lib.hid (own_set hown3 (p := ⟨I, 4, none⟩) (by rw [ownBlock_slice]; exact fun e => hHat e) (.slice D3 (j + 1) c3))
          refine Mix.wpL_op (by rfl) (fun K hK => ?_)
          go_simp
          refine hK _ _ (fun hlt => absurd hlt (by decide)) ?_
          clear hK K
          refine Mix.wpL_end ?_
          have hus : u32s L ++ #[Value.int .u32 (x : Int)].toList = u32s (L ++ [x]) := by rw [u32s_append]; rfl
          rw [hus] at HO4
          have HLj2 : Hid ((L ++ [x]).length = j + 1) := by rw [Hid, List.length_append, HLj.out]; rfl
          go_wp2_with fail
          go_roundw
          case rel => exact ⟨j + 1, c3, D3, L ++ [x], s5, by omega, HLj2.out, by rw [Int.natCast_add]; rfl, HB4, HI4, HO4, HK4, HT4, HR2⟩
          case measure => simp [intOf]; omega
        · have hy' : ((sj.y : Int) == 0) = false := by simp; omega
          have HRf : Hid (G = (L, sj)) := by
            rw [Hid, HRj.out, rlab_stop _ _ _ hy, preQ, List.append_nil]
          have hDI : blkOf D2 ≠ some I := by rw [← ownBlock_slice D2 j c2]; exact own_tag HOj.out HIj.out (by decide)
          have hDR : blkOf D2 ≠ some R := by rw [← ownBlock_slice D2 j c2]; exact own_tag HOj.out HBj.out (by decide)
          have y0 := HIj.out.cell 0
          have y1 := HIj.out.cell 1
          have y2 := HIj.out.cell 2
          have y3 := HIj.out.cell 3
          have y4 := HIj.out.cell 4
          simp at y0 y1 y2 y3 y4
          have hone : (elmX op a b DI m cI (.slice D2 j c2)).all (·.oneCell') = true := by simp [elmX, Value.oneCell']
          have hbl := HBj.out
          go_wp2_with (refine wpList_store_rowTo rfl 136 _ _ rfl rfl R (elmX op a b DI m cI (.slice D2 j c2)) rfl rfl 136 _ hbl rfl rfl hone ?_)
          have r0 := (hbl.row (elmX op a b DI m cI (.slice D2 j c2))).cell 0
          have r1 := (hbl.row (elmX op a b DI m cI (.slice D2 j c2))).cell 1
          have r2 := (hbl.row (elmX op a b DI m cI (.slice D2 j c2))).cell 2
          have r3 := (hbl.row (elmX op a b DI m cI (.slice D2 j c2))).cell 3
          have r4 := (hbl.row (elmX op a b DI m cI (.slice D2 j c2))).cell 4
          simp [elmX] at r0 r1 r2 r3 r4
          have hst13 : Step (fun q => q = R) wr (wr.setRow R (elmX op a b DI m cI (.slice D2 j c2))) := Step.setRow (F := fun j => j = R) Step.refl (g := R) (.inl rfl) (elmX op a b DI m cI (.slice D2 j c2))
          have hSF := HKj.out.step hst13 (Ne.symm hRX) hRS
          have hTF := HTj.out.setRow (g := R) (.inr hRw) (elmX op a b DI m cI (.slice D2 j c2))
          have hOF := own_step HOj.out hst13 (fun q hq e => hDR (by rw [← ownBlock_slice D2 j c2, hq, e]))
          refine bodyPost_ret (v := .agg (elmX op a b DI m cI (.slice D2 j c2))) (by simp [results, Try.results177, go_sem, elmX, r0, r1, r2, r3, r4]) rfl ?_
          rw [HRf.out, HLj.out]
          exact ⟨⟨op, a, b, m, cI, j, c2, DI, D2, L⟩, rfl, rfl, hOF, hSF, hTF⟩
      · obtain rfl : j = n := by omega
        rw [Nat.sub_self] at HRj
        have HRf : Hid (G = (L, sj)) := by
          rw [Hid, HRj.out, rlabF, preQ, List.append_nil]
        have hDI : blkOf D2 ≠ some I := by rw [← ownBlock_slice D2 j c2]; exact own_tag HOj.out HIj.out (by decide)
        have hDR : blkOf D2 ≠ some R := by rw [← ownBlock_slice D2 j c2]; exact own_tag HOj.out HBj.out (by decide)
        have y0 := HIj.out.cell 0
        have y1 := HIj.out.cell 1
        have y2 := HIj.out.cell 2
        have y3 := HIj.out.cell 3
        have y4 := HIj.out.cell 4
        simp at y0 y1 y2 y3 y4
        have hone : (elmX op a b DI m cI (.slice D2 j c2)).all (·.oneCell') = true := by simp [elmX, Value.oneCell']
        have hbl := HBj.out
        go_wp2_with (refine wpList_store_rowTo rfl 136 _ _ rfl rfl R (elmX op a b DI m cI (.slice D2 j c2)) rfl rfl 136 _ hbl rfl rfl hone ?_)
        have r0 := (hbl.row (elmX op a b DI m cI (.slice D2 j c2))).cell 0
        have r1 := (hbl.row (elmX op a b DI m cI (.slice D2 j c2))).cell 1
        have r2 := (hbl.row (elmX op a b DI m cI (.slice D2 j c2))).cell 2
        have r3 := (hbl.row (elmX op a b DI m cI (.slice D2 j c2))).cell 3
        have r4 := (hbl.row (elmX op a b DI m cI (.slice D2 j c2))).cell 4
        simp [elmX] at r0 r1 r2 r3 r4
        have hst13 : Step (fun q => q = R) wr (wr.setRow R (elmX op a b DI m cI (.slice D2 j c2))) := Step.setRow (F := fun j => j = R) Step.refl (g := R) (.inl rfl) (elmX op a b DI m cI (.slice D2 j c2))
        have hSF := HKj.out.step hst13 (Ne.symm hRX) hRS
        have hTF := HTj.out.setRow (g := R) (.inr hRw) (elmX op a b DI m cI (.slice D2 j c2))
        have hOF := own_step HOj.out hst13 (fun q hq e => hDR (by rw [← ownBlock_slice D2 j c2, hq, e]))
        refine bodyPost_ret (v := .agg (elmX op a b DI m cI (.slice D2 j c2))) (by simp [results, Try.results177, go_sem, elmX, r0, r1, r2, r3, r4]) rfl ?_
        rw [HRf.out, HLj.out]
        exact ⟨⟨op, a, b, m, cI, j, c2, DI, D2, L⟩, rfl, rfl, hOF, hSF, hTF⟩

def ResQ (X : Nat) (S : Nat → Prop) (D : Option Addr) (c : Nat) (bs : List UInt8) (w : World) (q : List El × Rst) (e : Ending) (w' : World) : Prop :=
  ∃ (l' : List El) (D' : Option Addr) (c' : Nat), l'.map El.sh = q.1 ∧ e = .returned (.slice D' l'.length c') ∧ w'.ownsRow w.heap.size 136 5 (.slice D' l'.length c') l'.length (els l') ∧ (∀ x ∈ l', w'.ownsRow w.heap.size 51 1 (.slice x.FA x.m x.fc) x.m (u32s x.L)) ∧ Rf w' X S D c bs q.2 ∧ Step (fun i => i = X) w w'

set_option maxRecDepth 100000 in
set_option maxHeartbeats 6400000 in
theorem regall_walk (w : World) (X : Nat) (S : Nat → Prop) (D : Option Addr) (c : Nat) (bs : List UInt8) (s : Rst) (h : Rf w X S D c bs s) :
    Calls Try.prog 99 #[.pointer (some ⟨X, 0, none⟩)] w (ResQ X S D c bs w (rallF (relmF bs) bs s)) := by
  have hxl := h.lt
  have hlow := h.low
  have HH := Lib.hid (rcount_walk w X S D c bs s h)
  have hnl := rcntF_le bs s
  clear h
  rw [rallF]
  generalize rcntF bs s = p at HH hnl ⊢
  obtain ⟨n, s1⟩ := p
  simp only at HH hnl ⊢
  obtain ⟨G, hG⟩ : ∃ G, G = stN (relmF bs) n s1 := ⟨_, rfl⟩
  rw [← hG]
  obtain ⟨L, s2⟩ := G
  simp only
  obtain ⟨Z, hZ⟩ : ∃ Z, Z = rendS bs s2 := ⟨_, rfl⟩
  rw [← hZ]
  have HZ := Lib.hid hZ
  obtain ⟨LL, hLL⟩ : ∃ LL, LL = (if Z.y = 0 then L else []) := ⟨_, rfl⟩
  rw [← hLL]
  have HLL := Lib.hid hLL
  clear hLL
  have HR9 : Hid ((L, s2) = (([] : List El).map El.sh ++ (stN (relmF bs) (n - 0) s1).1, (stN (relmF bs) (n - 0) s1).2)) := by rw [Hid, hG, Nat.sub_zero]; rfl
  clear hG hZ
  go_enter Try.func99, Try.ntmps99
  go_wp2_with fail
  refine HH.out.mono ?_
  rintro e w9 ⟨rfl, hs, ht⟩
  have HT9 := Lib.hid ht
  have HO9 : Hid (w9.ownsRow w.heap.size 136 5 (.slice none 0 0) 0 (els [])) := World.ownsRow_nil _ _ _ _
  have HK9 := Lib.hid hs
  clear hs ht HH
  go_wp2_with fail
  go_loopw [4, 5] (fun ov iv wr => ∃ (j c2 : Nat) (D2 : Option Addr) (sj : Rst) (lj : List El), j ≤ n ∧ ov = .slice D2 j c2 ∧ iv = .int .i64 (j : Int) ∧ Hid (lj.length = j) ∧ Hid ((L, s2) = (lj.map El.sh ++ (stN (relmF bs) (n - j) sj).1, (stN (relmF bs) (n - j) sj).2)) ∧
    Hid (wr.ownsRow w.heap.size 136 5 (.slice D2 j c2) j (els lj)) ∧ Hid (∀ x ∈ lj, wr.ownsRow w.heap.size 51 1 (.slice x.FA x.m x.fc) x.m (u32s x.L)) ∧ Hid (Rf wr X S D c bs sj) ∧ Hid (Step (fun i => i = X) w wr)) (fun _ iv _ => n + 1 - (intOf iv).toNat)
  case atStart => exact ⟨0, 0, none, s1, [], by omega, rfl, rfl, rfl, HR9, HO9, (fun x hx => by cases hx), HK9, HT9⟩
  case round =>
    obtain ⟨j, c2, D2, sj, lj, hj, rfl, rfl, HLj, HRj, HOj, HJj, HKj, HTj⟩ := hrel
    clear HO9 HK9 HR9 HT9
    have x2 := HKj.out.c2
    by_cases hlt : j < n
    · have g1 : (j : Int) < (n : Int) := by omega
      by_cases hy : sj.y = 0
      · have hw1 := IntWalk.i64_in ((j : Int) + 1) (by omega)
        rw [hy] at x2
        have HR2 : Hid ((L, s2) = ((lj.map El.sh ++ [(relmF bs sj).1]) ++ (stN (relmF bs) (n - (j + 1)) (relmF bs sj).2).1, (stN (relmF bs) (n - (j + 1)) (relmF bs sj).2).2)) := by
          rw [Hid, HRj.out, show n - j = (n - (j + 1)) + 1 by omega]
          exact stN_go _ _ _ hy _
        have HN := Lib.hid (reget_walk _ X S D c bs sj HKj.out)
        clear hy HRj
        generalize relmF bs sj = p at HN HR2
        obtain ⟨x, s3⟩ := p
        simp only [RelQ] at HN HR2
        have hDX : blkOf D2 ≠ some X := by rw [← ownBlock_slice D2 j c2]; exact own_tag HOj.out HKj.out.blk (by decide)
        have hDge : ∀ q, blkOf D2 = some q → w.heap.size ≤ q := fun q hq => own_ge HOj.out q (by rw [ownBlock_slice]; exact hq)
        go_wp2_with fail
        refine HN.out.mono ?_
        rintro e wa ⟨⟨op, a, b, m, cc, fm, fc, B, FA, L⟩, hsh, rfl, hin, hsa, hta⟩
        have hin2 := own_base hin (base' := w.heap.size) (fun q hq => Nat.le_trans HTj.out.size (own_ge hin q hq))
        have HJa : Hid (∀ x ∈ lj, wa.ownsRow w.heap.size 51 1 (.slice x.FA x.m x.fc) x.m (u32s x.L)) := fun x hx => own_step (HJj.out x hx) hta (fun q hq e => own_tag (HJj.out x hx) HKj.out.blk (by decide) (e ▸ hq))
        have HNa := Lib.hid hin2
        clear hin hin2
        simp only [elmX]
        rw [← show El.sh (⟨op, a, b, m, cc, fm, fc, B, FA, L⟩ : El) = x from hsh, show lj.map El.sh ++ [El.sh (⟨op, a, b, m, cc, fm, fc, B, FA, L⟩ : El)] = (lj ++ [(⟨op, a, b, m, cc, fm, fc, B, FA, L⟩ : El)]).map El.sh by rw [List.map_append]; rfl] at HR2
        have hOa : Hid ((wa.alloc (.cells #[.int .u8 (op : Int), .int .u64 (a : Int), .int .u64 (b : Int), .slice B m cc, .slice FA fm fc] 136)).ownsRow w.heap.size 136 5 (.slice D2 j c2) j (els lj)) :=
          (own_step HOj.out hta (fun q hq e => hDX (by rw [← ownBlock_slice D2 j c2, hq, e]))).alloc _
        have HKa := Lib.hid (hsa.alloc (.cells #[.int .u8 (op : Int), .int .u64 (a : Int), .int .u64 (b : Int), .slice B m cc, .slice FA fm fc] 136))
        have HTa := Lib.hid ((HTj.out.trans hta).alloc (.cells #[.int .u8 (op : Int), .int .u64 (a : Int), .int .u64 (b : Int), .slice B m cc, .slice FA fm fc] 136))
        have hrn := reads_new wa #[Value.int .u8 (op : Int), .int .u64 (a : Int), .int .u64 (b : Int), .slice B m cc, .slice FA fm fc] 136 5 1 rfl
        have hone : ∀ u ∈ #[Value.int .u8 (op : Int), .int .u64 (a : Int), .int .u64 (b : Int), .slice B m cc, .slice FA fm fc].toList, u.oneCell' = true := by simp [Value.oneCell']
        have hm : j + 1 ≤ maxLen := by unfold maxLen; omega
        have hsz := HTa.out.size
        clear hsa hta hsh HN x2
        go_wp2_with (at_builtin; refine wpList_append_src _ rfl _ _ (by rfl) E_el (by rfl) hOa.out (by rfl) hrn hone hm (by omega) hsz ?_; intro D3 c3 w3 hown hgrow hat)
        have hkeep : ∀ (D : Option Addr) (n c : Nat) (xs : List Value), (wa.alloc (.cells #[.int .u8 (op : Int), .int .u64 (a : Int), .int .u64 (b : Int), .slice B m cc, .slice FA fm fc] 136)).ownsRow w.heap.size 51 1 (.slice D n c) n xs → w3.ownsRow w.heap.size 51 1 (.slice D n c) n xs := fun D n c xs h => own_apart h hgrow (fun q hq e => own_tag2 h hOa.out (by decide) q hq (by rw [ownBlock_slice]; exact e))
        have HJ4 : Hid (∀ x ∈ (lj ++ [(⟨op, a, b, m, cc, fm, fc, B, FA, L⟩ : El)]), w3.ownsRow w.heap.size 51 1 (.slice x.FA x.m x.fc) x.m (u32s x.L)) := fun x hx => by
          rcases List.mem_append.1 hx with hx | hx
          · exact hkeep _ _ _ _ ((HJa.out x hx).alloc _)
          · rw [List.mem_singleton] at hx
            subst hx
            exact hkeep _ _ _ _ (HNa.out.alloc _)
        have HK3 := Lib.hid (HKa.out.step (F := fun q => blkOf D2 = some q) (Step.refl.grown hgrow (fun q hq => .inl hq)) hDX (fun q hq hd => by have := hlow q hq; have := hDge q hd; omega))
        have HT3 := Lib.hid (HTa.out.grown hgrow (fun q hq => .inr (hDge q hq)))
        have hus : els lj ++ #[Value.int .u8 (op : Int), .int .u64 (a : Int), .int .u64 (b : Int), .slice B m cc, .slice FA fm fc].toList = els (lj ++ [(⟨op, a, b, m, cc, fm, fc, B, FA, L⟩ : El)]) := by rw [els_append]; rfl
        rw [hus] at hown
        have HL3 : Hid ((lj ++ [(⟨op, a, b, m, cc, fm, fc, B, FA, L⟩ : El)]).length = j + 1) := by rw [Hid, List.length_append, HLj.out]; rfl
        go_roundw
        case rel => exact ⟨j + 1, c3, D3, s3, _, by omega, rfl, by rw [Int.natCast_add]; rfl, HL3, HR2, hown, HJ4, HK3, HT3⟩
        case measure => simp [intOf]; omega
      · have hy' : ((sj.y : Int) == 0) = false := by simp; omega
        have HRL : Hid (L = lj.map El.sh ∧ Z = rendS bs sj) := by
          have h5 := HRj.out
          rw [stN_stop _ _ _ hy, List.append_nil] at h5
          exact ⟨(Prod.mk.inj h5).1, by rw [HZ.out, (Prod.mk.inj h5).2]⟩
        go_wp2_with fail
        refine (rend_walk _ X S D c bs sj HKj.out).mono ?_
        rw [← HRL.out.2]
        rintro e wz ⟨rfl, hsz, htz⟩
        have hDX : blkOf D2 ≠ some X := by rw [← ownBlock_slice D2 j c2]; exact own_tag HOj.out HKj.out.blk (by decide)
        have hIz : ∀ x ∈ lj, wz.ownsRow w.heap.size 51 1 (.slice x.FA x.m x.fc) x.m (u32s x.L) := fun x hx => own_step (HJj.out x hx) htz (fun q hq e => own_tag (HJj.out x hx) HKj.out.blk (by decide) (e ▸ hq))
        have hOz := own_step HOj.out htz (fun q hq e => hDX (by rw [← ownBlock_slice D2 j c2, hq, e]))
        have HRl := Lib.hid HRL.out.1
        clear HRL HRj HZ
        obtain ⟨k3, y3, a3⟩ := Z
        have x2 := hsz.c2
        simp only at x2
        by_cases hy3 : y3 = 0
        · have e4 : LL = lj.map El.sh := by rw [HLL.out, if_pos hy3, HRl.out]
          subst hy3
          go_wp2_with fail
          go_ret
          rw [← HLj.out] at hOz ⊢
          exact ⟨lj, D2, c2, e4.symm, rfl, hOz, hIz, hsz, HTj.out.trans htz⟩
        · have hy4 : ((y3 : Int) != 0) = true := bne_iff_ne.2 (by omega)
          have e4 : LL = [] := by rw [HLL.out, if_neg hy3]
          clear hy3
          go_wp2_with fail
          go_ret
          exact ⟨[], none, 0, e4.symm, rfl, World.ownsRow_nil _ _ _ _, (fun x hx => by cases hx), hsz, HTj.out.trans htz⟩
    · obtain rfl : j = n := by omega
      rw [Nat.sub_self] at HRj
      have HRL : Hid (L = lj.map El.sh ∧ Z = rendS bs sj) := by
        have h5 := HRj.out
        rw [stN_zero, List.append_nil] at h5
        exact ⟨(Prod.mk.inj h5).1, by rw [HZ.out, (Prod.mk.inj h5).2]⟩
      go_wp2_with fail
      refine (rend_walk _ X S D c bs sj HKj.out).mono ?_
      rw [← HRL.out.2]
      rintro e wz ⟨rfl, hsz, htz⟩
      have hDX : blkOf D2 ≠ some X := by rw [← ownBlock_slice D2 j c2]; exact own_tag HOj.out HKj.out.blk (by decide)
      have hIz : ∀ x ∈ lj, wz.ownsRow w.heap.size 51 1 (.slice x.FA x.m x.fc) x.m (u32s x.L) := fun x hx => own_step (HJj.out x hx) htz (fun q hq e => own_tag (HJj.out x hx) HKj.out.blk (by decide) (e ▸ hq))
      have hOz := own_step HOj.out htz (fun q hq e => hDX (by rw [← ownBlock_slice D2 j c2, hq, e]))
      have HRl := Lib.hid HRL.out.1
      clear HRL HRj HZ
      clear x2
      obtain ⟨k3, y3, a3⟩ := Z
      have x2 := hsz.c2
      simp only at x2
      by_cases hy3 : y3 = 0
      · have e4 : LL = lj.map El.sh := by rw [HLL.out, if_pos hy3, HRl.out]
        subst hy3
        go_wp2_with fail
        go_ret
        rw [← HLj.out] at hOz ⊢
        exact ⟨lj, D2, c2, e4.symm, rfl, hOz, hIz, hsz, HTj.out.trans htz⟩
      · have hy4 : ((y3 : Int) != 0) = true := bne_iff_ne.2 (by omega)
        have e4 : LL = [] := by rw [HLL.out, if_neg hy3]
        clear hy3
        go_wp2_with fail
        go_ret
        exact ⟨[], none, 0, e4.symm, rfl, World.ownsRow_nil _ _ _ _, (fun x hx => by cases hx), hsz, HTj.out.trans htz⟩
end Go.Proofs.Ytfemeendkjcffaa
