/-
  creelref07.Get: the kind with labels (printed by gen_rej.py).
-/
import Derived.Test.YtfemeendkjcffaaReI
import Derived.Test.YtfemeendkjcffaaReD
set_option linter.unusedVariables false
set_option linter.unusedSimpArgs false
namespace Go.Proofs.Ytfemeendkjcffaa
open Go.RowKit

def rlabF (bs : List UInt8) : Nat → Rst → List Nat × Rst
  | 0, s => ([], s)
  | n + 1, s => if s.y = 0 then ((ridxF bs s).1 :: (rlabF bs n (ridxF bs s).2).1, (rlabF bs n (ridxF bs s).2).2) else ([], s)
theorem rlab_stop (bs : List UInt8) (n : Nat) (s : Rst) (h : ¬ s.y = 0) : rlabF bs n s = ([], s) := by
  cases n with
  | zero => rfl
  | succ n => rw [rlabF, if_neg h]
def preQ (L : List Nat) (q : List Nat × Rst) : List Nat × Rst := (L ++ q.1, q.2)

set_option maxRecDepth 100000 in
set_option maxHeartbeats 3200000 in
theorem rg_3 (w : World) (X : Nat) (S : Nat → Prop) (D : Option Addr) (c : Nat) (bs : List UInt8) (s : Rst) (h : Rf w X S D c bs s) (op k1 a1 : Nat) (i : Rr) (hby : rbyF bs s = (op, ⟨k1, 0, a1⟩)) (n : Nat) (s2 : Rst) (hn : n ≤ 10000) (HK : Hid (∀ w', Rf w' X S D c bs ⟨k1, 0, a1⟩ → Calls Try.prog 170 #[.pointer (some ⟨X, 0, none⟩)] w' (Rg X S D c bs w' (.int .i64 (n : Int)) s2))) (RR : (Nat × Nat × Nat × List Nat) × Rst) (hRR : RR = (finX (op, (ridxF bs (rlabF bs n s2).2).1, 0, (rlabF bs n s2).1) (ridxF bs (rlabF bs n s2).2).2.y, (ridxF bs (rlabF bs n s2).2).2))
    (HC : Hid (∀ w, Calls Try.prog 27 #[.int .i64 (op : Int)] w fun e w' => e = .returned (.int .i64 0) ∧ Step (fun _ => False) w w'))
    (HO : Hid (∀ w, Calls Try.prog 24 #[.int .i64 (op : Int)] w fun e w' => e = .returned (.tuple #[rrM i 3, .bool true]) ∧ Step (fun _ => False) w w')) :
    Calls Try.prog 145 #[.pointer (some ⟨X, 0, none⟩)] w (GetQ X S D c bs w RR.1 RR.2) := by
  have HBY : Hid (∀ w', Rf w' X S D c bs s → Calls Try.prog 147 #[.pointer (some ⟨X, 0, none⟩)] w' (Rg X S D c bs w' (.int .i64 (op : Int)) ⟨k1, 0, a1⟩)) := fun w' h' => by
    have h1 := rbyte_walk w' X S D c bs s h'
    rw [hby] at h1
    exact h1
  have hop : op < 256 := by have := rbyF_lt bs s; rw [hby] at this; exact this
  clear hby
  have hxl := h.lt
  have hlow := h.low
  have x1 := h.c1
  have HH := Lib.hid h
  clear h
  have hw8 : IntKind.u8.wrap (op : Int) = (op : Int) := by rw [IntKind.wrap_u8]; omega
  have hw64 : IntKind.i64.wrap (op : Int) = (op : Int) := IntWalk.i64_in _ (by omega)
  clear hop
  go_enter Try.func145, Try.ntmps145
  go_wp2_with fail
  refine (HBY.out _ (HH.out.alloc _)).mono ?_
  rintro e w6 ⟨rfl, hs6, ht6⟩
  have hsz := (((Step.refl (F := fun i => i = X)).alloc (w := w) (.cells #[.int .u8 (0 : Int), .int .u64 (0 : Int), .int .u64 (0 : Int), .slice none 0 0] 50)).trans ht6).size
  obtain ⟨R, hR⟩ : ∃ R, R = w.heap.size := ⟨_, rfl⟩
  have hRX : R ≠ X := by omega
  have hRw : w.heap.size ≤ R := by omega
  have hRS : ∀ j, S j → j ≠ R := fun j hj => by have := hlow j hj; omega
  have HB6 := Lib.hid (((Blk.new w 50 #[.int .u8 (0 : Int), .int .u64 (0 : Int), .int .u64 (0 : Int), .slice none 0 0]).step ht6 (by rw [← hR]; exact hRX)).alloc (.cells #[.int .u8 (op : Int), .int .u64 (0 : Int), .int .u64 (0 : Int), .slice none 0 0] 50))
  have hRI := ((Blk.new w 50 #[.int .u8 (0 : Int), .int .u64 (0 : Int), .int .u64 (0 : Int), .slice none 0 0]).step ht6 (by rw [← hR]; exact hRX)).lt
  rw [← hR] at hRI
  have HI6 := Lib.hid (Blk.new w6 50 #[.int .u8 (op : Int), .int .u64 (0 : Int), .int .u64 (0 : Int), .slice none 0 0])
  have HS6 := Lib.hid (hs6.alloc (.cells #[.int .u8 (op : Int), .int .u64 (0 : Int), .int .u64 (0 : Int), .slice none 0 0] 50))
  have HT6 := Lib.hid ((((Step.refl (F := fun i => i = X)).alloc (w := w) (.cells #[.int .u8 (0 : Int), .int .u64 (0 : Int), .int .u64 (0 : Int), .slice none 0 0] 50)).trans ht6).alloc (.cells #[.int .u8 (op : Int), .int .u64 (0 : Int), .int .u64 (0 : Int), .slice none 0 0] 50))
  have hXI : X < w6.heap.size := by omega
  have hIw : w.heap.size ≤ w6.heap.size := by omega
  have x2 := hs6.c2
  simp only at x2
  rw [← hR] at HB6 ⊢
  clear hs6 ht6 hR hxl HH x1 hsz
  obtain ⟨I, hI⟩ : ∃ I, I = w6.heap.size := ⟨_, rfl⟩
  have hIS : ∀ j, S j → j ≠ I := fun j hj => by have := hlow j hj; omega
  have hIX : I ≠ X := by omega
  have hRI2 : R ≠ I := by omega
  rw [← hI] at HI6 hIw
  go_wp2_with fail
  rw [← hI]
  obtain ⟨W, hW⟩ : ∃ W, W = w6.alloc (.cells #[.int .u8 (op : Int), .int .u64 (0 : Int), .int .u64 (0 : Int), .slice none 0 0] 50) := ⟨_, rfl⟩
  rw [← hW] at HB6 HI6 HS6 HT6
  rw [show w6.alloc (.cells #[.int .u8 (op : Int), .int .u64 0, .int .u64 0, .slice none 0 0] 50) = W from hW.symm]
  clear hW hI x2
  refine (HC.out _).mono ?_
  rintro e w7 ⟨rfl, ht7⟩
  have HB7 := Lib.hid (HB6.out.step ht7 id)
  have HI7 := Lib.hid (HI6.out.step ht7 id)
  have HS7 := Lib.hid (HS6.out.quiet ht7)
  have HT7 := Lib.hid (HT6.out.trans' ht7 (fun _ h => h.elim))
  clear ht7 HB6 HI6 HS6 HT6 HC
  have x0 := HI7.out.cell 0
  have x2 := HS7.out.c2
  simp at x0
  simp only at x2
  go_wp2_with fail
  refine (HO.out _).mono ?_
  rintro e w8 ⟨rfl, ht8⟩
  have hI8 := (HI7.out.step ht8 id).lt
  have hX8 := (HS7.out.quiet ht8).lt
  have hR8 := (HB7.out.step ht8 id).lt
  have xx0 := (HI7.out.step ht8 id).cell 0
  have xx1 := (HI7.out.step ht8 id).cell 1
  have xx2 := (HI7.out.step ht8 id).cell 2
  have xx3 := (HI7.out.step ht8 id).cell 3
  have x1 := (HS7.out.quiet ht8).c1
  have x2 := (HS7.out.quiet ht8).c2
  simp at xx0 xx1 xx2 xx3
  simp only at x1 x2
  have HB9 := Lib.hid ((HB7.out.step ht8 id).alloc (.cells #[.int .i64 i.op, .string (str i.name), .int .i64 3, .string (str i.takes), .string (str i.has), .bool i.free] 24))
  have HI9 := Lib.hid ((HI7.out.step ht8 id).alloc (.cells #[.int .i64 i.op, .string (str i.name), .int .i64 3, .string (str i.takes), .string (str i.has), .bool i.free] 24))
  have HS9 := Lib.hid ((HS7.out.quiet ht8).alloc (.cells #[.int .i64 i.op, .string (str i.name), .int .i64 3, .string (str i.takes), .string (str i.has), .bool i.free] 24))
  have HT9 := Lib.hid ((HT7.out.trans' ht8 (fun _ h => h.elim)).alloc (.cells #[.int .i64 i.op, .string (str i.name), .int .i64 3, .string (str i.takes), .string (str i.has), .bool i.free] 24))
  clear ht8 HB7 HI7 HS7 HT7 HO x0
  simp only [rrM]
  have HRR := Lib.hid hRR
  clear hRR
  go_wp2_with fail
  refine (HK.out _ HS9.out).mono ?_
  rintro e w10 ⟨rfl, hs, ht⟩
  have HB10 := Lib.hid (HB9.out.step ht hRX)
  have HI10 : Hid (Blk w10 I 50 #[.int .u8 (op : Int), .int .u64 (0 : Int), .int .u64 (0 : Int), .slice none 0 0]) := HI9.out.step ht hIX
  have HS10 := Lib.hid hs
  have HT10 := Lib.hid (HT9.out.trans ht)
  clear hs ht HB9 HI9 HS9 HT9 x1 x2 xx0 xx1 xx2 xx3
  have HO10 : Hid (w10.ownsRow w.heap.size 51 1 (.slice none 0 0) 0 (u32s [])) := World.ownsRow_nil _ _ _ _
  have HL10 : Hid (rlabF bs n s2 = preQ [] (rlabF bs (n - 0) s2)) := by rw [Hid, Nat.sub_zero]; rfl
  go_wp2_with fail
  go_loopw [8] (fun iv wr => ∃ (j c2 : Nat) (D2 : Option Addr) (L : List Nat) (sj : Rst), j ≤ n ∧ L.length = j ∧ iv = .int .i64 (j : Int) ∧ Hid (Blk wr R 50 #[.int .u8 (0 : Int), .int .u64 (0 : Int), .int .u64 (0 : Int), .slice none 0 0]) ∧ Hid (Blk wr I 50 #[.int .u8 (op : Int), .int .u64 (0 : Int), .int .u64 (0 : Int), .slice D2 j c2]) ∧
    Hid (wr.ownsRow w.heap.size 51 1 (.slice D2 j c2) j (u32s L)) ∧ Hid (Rf wr X S D c bs sj) ∧ Hid (Step (fun i => i = X) w wr) ∧ Hid (rlabF bs n s2 = preQ L (rlabF bs (n - j) sj))) (fun iv _ => n + 1 - (intOf iv).toNat)
  case atStart => exact ⟨0, 0, none, [], s2, by omega, rfl, rfl, HB10, HI10, HO10, HS10, HT10, HL10⟩
  case round =>
    obtain ⟨j, c2, D2, L, ⟨p, yj, aj⟩, hj, hLj, rfl, HBj, HIj, HOj, HKj, HTj, HLb⟩ := hrel
    have HLj := Lib.hid hLj
    clear HO10 HI10 HS10 HL10 hLj HB10 HT10
    have x2 := HKj.out.c2
    simp only at x2
    by_cases hlt : j < n
    · have g1 : (j : Int) < (n : Int) := by omega
      have g1' : decide ((j : Int) < (n : Int)) = true := decide_eq_true g1
      by_cases hyj : yj = 0
      · subst hyj
        have hw1 := IntWalk.i64_in ((j : Int) + 1) (by omega)
        have HNj : Hid (n - j = n - (j + 1) + 1) := by rw [Hid]; omega
        have HLs : Hid (rlabF bs (n - j) ⟨p, 0, aj⟩ = ((ridxF bs ⟨p, 0, aj⟩).1 :: (rlabF bs (n - (j + 1)) (ridxF bs ⟨p, 0, aj⟩).2).1, (rlabF bs (n - (j + 1)) (ridxF bs ⟨p, 0, aj⟩).2).2)) := by rw [Hid, HNj.out]; rfl
        have i3 := HIj.out.cell 3
        simp at i3
        have hDI : blkOf D2 ≠ some I := by rw [← ownBlock_slice D2 j c2]; exact own_tag HOj.out HIj.out (by decide)
        have hDX : blkOf D2 ≠ some X := by rw [← ownBlock_slice D2 j c2]; exact own_tag HOj.out HKj.out.blk (by decide)
        have hDR : blkOf D2 ≠ some R := by rw [← ownBlock_slice D2 j c2]; exact own_tag HOj.out HBj.out (by decide)
        have hDge : ∀ q, blkOf D2 = some q → w.heap.size ≤ q := fun q hq => own_ge HOj.out q (by rw [ownBlock_slice]; exact hq)
        obtain ⟨F, hF⟩ : ∃ F : Nat → Prop, F = fun q => q = X ∨ blkOf D2 = some q := ⟨_, rfl⟩
        have HFI : ¬ F I := by rw [hF]; intro h; exact h.elim hIX hDI
        have d3 := cls_cell (F := F) (w0 := wr) i3 HFI
        have hIl := HIj.out.lt
        have HF := Lib.hid hF
        clear i3 hF
        go_wp2_with fail
        refine Mix.wp_region_mix [3, 4, 5, 7] [3, 4, 5] (Step F wr) (by kernel_rfl) (by kernel_rfl) Step.refl.drew (fun hcls => ?_)
        refine Mix.wpL_reads 3 (by rfl) ?_
        simp only [List.take_succ_cons, List.drop_succ_cons, List.take_zero, List.drop_zero]
        repeat (go_big_quiet_step (fail))
        refine wpQuiet_nil ?_
        refine Mix.wpL_op (by rfl) (fun K hK => ?_)
        go_simp
        refine (rindex_walk _ X S D c bs _ (HKj.out.quiet Step.refl.drew)).mono ?_
        rintro e wa ⟨rfl, hsa, hta⟩
        generalize ridxF bs ⟨p, 0, aj⟩ = r at HLs hsa ⊢
        obtain ⟨x, sn⟩ := r
        simp only at HLs hsa ⊢
        have HTa : Hid (Step F wr wa) := Lib.hid ((Step.refl.drew).trans (hta.mono fun q _ hq => by rw [HF.out]; exact .inl hq))
        refine hK _ _ (fun hlt => Mix.cl HTa.out) ?_
        clear hK K
        refine Mix.wpL_op (by rfl) (fun K hK => ?_)
        go_simp
        refine hK _ _ (fun hlt => Mix.cl (HTa.out.alloc _)) ?_
        clear hK K
        have hOa : (wa.alloc (.cells #[.int .u32 (x : Int)] 51)).ownsRow w.heap.size 51 1 (.slice D2 j c2) j (u32s L) :=
          (own_step (own_drew HOj.out) hta (fun q hq e => hDX (by rw [← ownBlock_slice D2 j c2, hq, e]))).alloc _
        have HIa := Lib.hid ((HIj.out.drew.step hta hIX).alloc (.cells #[.int .u32 (x : Int)] 51))
        have HBa := Lib.hid ((HBj.out.drew.step hta hRX).alloc (.cells #[.int .u32 (x : Int)] 51))
        have HKa := Lib.hid (hsa.alloc (.cells #[.int .u32 (x : Int)] 51))
        have HTw := Lib.hid (((HTj.out.drew).trans hta).alloc (.cells #[.int .u32 (x : Int)] 51))
        have HTa2 := Lib.hid (HTa.out.alloc (.cells #[.int .u32 (x : Int)] 51))
        have hsz2 := HTw.out.size
        have hsza : wr.heap.size ≤ wa.heap.size := hta.size
        have hszb : (wa.alloc (.cells #[.int .u32 (x : Int)] 51)).heap.size = wa.heap.size + 1 := by simp
        clear hsa hta HTa
        have hone : ∀ u ∈ #[Value.int .u32 (x : Int)].toList, u.oneCell' = true := by simp [Value.oneCell']
        have hm : j + 1 ≤ maxLen := by unfold maxLen; omega
        refine Mix.wpL_op (by rfl) (fun K hK => ?_)
        refine step_append_src _ (by rfl) _ _ (by rfl) E_u32 (by rfl) hOa (by rfl) (reads_new _ #[Value.int .u32 (x : Int)] 51 1 1 rfl) hone hm (by omega) hsz2 ?_
        intro D3 c3 w3 hown3 hgrow3 hat3
        have HI3 := Lib.hid (HIa.out.grown hgrow3 hDI)
        have HB3 := Lib.hid (HBa.out.grown hgrow3 hDR)
        have HK3 := Lib.hid (HKa.out.step (F := fun q => blkOf D2 = some q) (Step.refl.grown hgrow3 (fun q hq => .inl hq)) hDX (fun q hq hd => by have := hlow q hq; have := hDge q hd; omega))
        have HT3 := Lib.hid (HTw.out.grown hgrow3 (fun q hq => .inr (hDge q hq)))
        have HTF := Lib.hid (HTa2.out.grown hgrow3 (fun q hq => .inl (by rw [HF.out]; exact .inr hq)))
        refine hK _ _ (fun hlt => Mix.cl HTF.out) ?_
        clear hK K hgrow3 HTa2 HTw HKa HBa HIa hOa
        simp only [Act.put, List.setIfInBounds_toArray, List.set_cons_succ, List.set_cons_zero]
        refine Mix.wpL_reads 1 (by rfl) ?_
        simp only [List.take_succ_cons, List.drop_succ_cons, List.take_zero, List.drop_zero]
        repeat (go_big_quiet_step (fail))
        refine wpQuiet_nil ?_
        have zz := HI3.out.frozen 3
        have cc := HI3.out.cell 3
        simp at cc
        have hHat : blkOf D3 = some I → False := fun e => by
          rcases hat3 with h3 | h3
          · exact hDI (h3 ▸ e)
          · rw [h3, hszb] at e
            injection e with e
            omega
        have HI4 : Hid (Blk (w3.setCell ⟨I, 3, none⟩ (.slice D3 (j + 1) c3)) I 50 #[.int .u8 (op : Int), .int .u64 (0 : Int), .int .u64 (0 : Int), .slice D3 (j + 1) c3]) := by
          have hq := HI3.out.set_ 3 (.slice D3 (j + 1) c3)
          simp at hq
          exact hq
        have HB4 := Lib.hid (HB3.out.far (p := ⟨I, 3, none⟩) hRI2 (.slice D3 (j + 1) c3))
        have hst4 : Step (fun j => j = I) w3 (w3.setCell ⟨I, 3, none⟩ (.slice D3 (j + 1) c3)) := (Step.refl (F := fun j => j = I)).setCell (p := ⟨I, 3, none⟩) (.inl rfl) _
        have HK4 := Lib.hid (HK3.out.step hst4 (Ne.symm hIX) hIS)
        have HT4 := Lib.hid (HT3.out.setCell (p := ⟨I, 3, none⟩) (.inr hIw) (.slice D3 (j + 1) c3))
        have HO4 := Lib.hid (own_set hown3 (p := ⟨I, 3, none⟩) (by rw [ownBlock_slice]; exact fun e => hHat e) (.slice D3 (j + 1) c3))
        refine Mix.wpL_op (by rfl) (fun K hK => ?_)
        go_simp
        refine hK _ _ (fun hlt => absurd hlt (by decide)) ?_
        clear hK K
        refine Mix.wpL_end ?_
        have hus : u32s L ++ #[Value.int .u32 (x : Int)].toList = u32s (L ++ [x]) := by rw [u32s_append]; rfl
        rw [hus] at HO4
        have HLb2 : Hid (rlabF bs n s2 = preQ (L ++ [x]) (rlabF bs (n - (j + 1)) sn)) := by
          rw [Hid, HLb.out, HLs.out]
          simp [preQ]
        have HLj2 : Hid ((L ++ [x]).length = j + 1) := by rw [Hid, List.length_append, HLj.out]; rfl
        go_wp2_with fail
        go_roundw
        case rel => exact ⟨j + 1, c3, D3, L ++ [x], sn, by omega, HLj2.out, by rw [Int.natCast_add]; rfl, HB4, HI4, HO4, HK4, HT4, HLb2⟩
        case measure => simp [intOf]; omega
      · have hyj' : ((yj : Int) == 0) = false := by simp; omega
        have HLd : Hid (rlabF bs n s2 = (L, ⟨p, yj, aj⟩)) := by
          rw [Hid, HLb.out, rlab_stop _ _ _ hyj, preQ, List.append_nil]
        have HIx := HIj
        have HBx := HBj
        have HSx := HKj
        have HTx := HTj
        have hOx : ∀ w', Step (fun i => i = X) wr w' → w'.ownsRow w.heap.size 51 1 (.slice D2 j c2) j (u32s L) := fun w' ht => own_step HOj.out ht (fun q hq e => by
          have h1 := own_tag HOj.out HKj.out.blk (by decide)
          exact h1 (e ▸ hq))
        have HOX := Lib.hid hOx
        have hDI : blkOf D2 ≠ some I := by rw [← ownBlock_slice D2 j c2]; exact own_tag HOj.out HIj.out (by decide)
        have hDR : blkOf D2 ≠ some R := by rw [← ownBlock_slice D2 j c2]; exact own_tag HOj.out HBj.out (by decide)
        clear HIj HBj HKj HTj hOx HOj HLb
        go_wp2_with fail
        refine (rindex_walk _ X S D c bs _ HSx.out).mono ?_
        rintro e w11 ⟨rfl, hs, ht⟩
        have HB11 := Lib.hid (HBx.out.step ht hRX)
        have HI11 := Lib.hid (HIx.out.step ht hIX)
        have HS11 := Lib.hid hs
        have HT11 := Lib.hid (HTx.out.trans ht)
        have HO11 := Lib.hid (HOX.out _ ht)
        clear hs ht HBx HIx HSx HTx
        have hal := ridxF_lt bs ⟨p, yj, aj⟩
        have HZ : Hid (RR = (finX (op, (ridxF bs ⟨p, yj, aj⟩).1, 0, L) (ridxF bs ⟨p, yj, aj⟩).2.y, (ridxF bs ⟨p, yj, aj⟩).2)) := by rw [Hid, HRR.out, HLd.out]
        generalize ridxF bs ⟨p, yj, aj⟩ = r at HZ HS11 hal ⊢
        obtain ⟨a, k2, y2, a2⟩ := r
        simp only at HZ HS11 hal ⊢
        have hu := IntWalk.u64_in (a : Int) (by omega)
        have zz12 := HI11.out.frozen 1
        have cc12 := HI11.out.cell 1
        simp at cc12
        have HI12 : Hid (Blk (w11.setCell ⟨I, 1, none⟩ (.int .u64 (a : Int))) I 50 #[.int .u8 (op : Int), .int .u64 (a : Int), .int .u64 (0 : Int), .slice D2 j c2]) := by
          have hq := HI11.out.set_ 1 ((.int .u64 (a : Int)))
          simp at hq
          exact hq
        have HB12 := Lib.hid (HB11.out.far (p := ⟨I, 1, none⟩) hRI2 ((.int .u64 (a : Int))))
        have hst12 : Step (fun j => j = I) w11 (w11.setCell ⟨I, 1, none⟩ (.int .u64 (a : Int))) := (Step.refl (F := fun j => j = I)).setCell (p := ⟨I, 1, none⟩) (.inl rfl) _
        have HS12 := Lib.hid (HS11.out.step hst12 (Ne.symm hIX) hIS)
        have HT12 := Lib.hid (HT11.out.setCell (p := ⟨I, 1, none⟩) (.inr hIw) ((.int .u64 (a : Int))))
        have HO12 := Lib.hid (own_set HO11.out (p := ⟨I, 1, none⟩) (by rw [ownBlock_slice]; exact hDI) (.int .u64 (a : Int)))
        clear HI11 HB11 HS11 HT11 HO11
        have x2 := HS12.out.c2
        simp only at x2
        by_cases hy : y2 = 0
        · subst hy
          have y0 := HI12.out.cell 0
          have y1 := HI12.out.cell 1
          have y2' := HI12.out.cell 2
          have y3 := HI12.out.cell 3
          simp at y0 y1 y2' y3
          have hone : (#[.int .u8 (op : Int), .int .u64 (a : Int), .int .u64 (0 : Int), .slice D2 j c2] : Array Value).all (·.oneCell') = true := by simp [Value.oneCell']
          have hbl := HB12.out
          go_wp2_with (refine wpList_store_rowTo rfl 50 _ _ rfl rfl R #[.int .u8 (op : Int), .int .u64 (a : Int), .int .u64 (0 : Int), .slice D2 j c2] rfl rfl 50 _ hbl rfl rfl hone ?_)
          have r0 := (hbl.row #[.int .u8 (op : Int), .int .u64 (a : Int), .int .u64 (0 : Int), .slice D2 j c2]).cell 0
          have r1 := (hbl.row #[.int .u8 (op : Int), .int .u64 (a : Int), .int .u64 (0 : Int), .slice D2 j c2]).cell 1
          have r2 := (hbl.row #[.int .u8 (op : Int), .int .u64 (a : Int), .int .u64 (0 : Int), .slice D2 j c2]).cell 2
          have r3 := (hbl.row #[.int .u8 (op : Int), .int .u64 (a : Int), .int .u64 (0 : Int), .slice D2 j c2]).cell 3
          simp at r0 r1 r2 r3
          have hSF := HS12.out.step (Step.setRow (F := fun j => j = R) Step.refl (g := R) (.inl rfl) #[.int .u8 (op : Int), .int .u64 (a : Int), .int .u64 (0 : Int), .slice D2 j c2]) (Ne.symm hRX) hRS
          have hTF := HT12.out.setRow (g := R) (.inr hRw) #[.int .u8 (op : Int), .int .u64 (a : Int), .int .u64 (0 : Int), .slice D2 j c2]
          refine bodyPost_ret (v := .agg #[.int .u8 (op : Int), .int .u64 (a : Int), .int .u64 (0 : Int), .slice D2 j c2]) (by simp [results, Try.results145, go_sem, r0, r1, r2, r3]) rfl ?_
          have hst13 : Step (fun j => j = R) (w11.setCell ⟨I, 1, none⟩ (.int .u64 (a : Int))) ((w11.setCell ⟨I, 1, none⟩ (.int .u64 (a : Int))).setRow R #[.int .u8 (op : Int), .int .u64 (a : Int), .int .u64 (0 : Int), .slice D2 j c2]) := Step.setRow (F := fun j => j = R) Step.refl (g := R) (.inl rfl) _
          have hOF := own_step HO12.out hst13 (fun q hq e => hDR (by rw [← ownBlock_slice D2 j c2, hq, e]))
          have hLj := HLj.out
          rw [HZ.out, finX, if_pos rfl]
          subst hLj
          exact ⟨D2, c2, rfl, hOF, hSF, hTF⟩
        · have hy0 : ((y2 : Int) == 0) = false := by simp; omega
          have hone : (#[.int .u8 (0 : Int), .int .u64 (0 : Int), .int .u64 (0 : Int), .slice none 0 0] : Array Value).all (·.oneCell') = true := by simp [Value.oneCell']
          have hbl := HB12.out
          go_wp2_with (refine wpList_store_rowTo rfl 50 _ _ rfl rfl R #[.int .u8 (0 : Int), .int .u64 (0 : Int), .int .u64 (0 : Int), .slice none 0 0] rfl rfl 50 _ hbl rfl rfl hone ?_)
          have r0 := (hbl.row #[.int .u8 (0 : Int), .int .u64 (0 : Int), .int .u64 (0 : Int), .slice none 0 0]).cell 0
          have r1 := (hbl.row #[.int .u8 (0 : Int), .int .u64 (0 : Int), .int .u64 (0 : Int), .slice none 0 0]).cell 1
          have r2 := (hbl.row #[.int .u8 (0 : Int), .int .u64 (0 : Int), .int .u64 (0 : Int), .slice none 0 0]).cell 2
          have r3 := (hbl.row #[.int .u8 (0 : Int), .int .u64 (0 : Int), .int .u64 (0 : Int), .slice none 0 0]).cell 3
          simp at r0 r1 r2 r3
          have hSF := HS12.out.step (Step.setRow (F := fun j => j = R) Step.refl (g := R) (.inl rfl) #[.int .u8 (0 : Int), .int .u64 (0 : Int), .int .u64 (0 : Int), .slice none 0 0]) (Ne.symm hRX) hRS
          have hTF := HT12.out.setRow (g := R) (.inr hRw) #[.int .u8 (0 : Int), .int .u64 (0 : Int), .int .u64 (0 : Int), .slice none 0 0]
          refine bodyPost_ret (v := .agg #[.int .u8 (0 : Int), .int .u64 (0 : Int), .int .u64 (0 : Int), .slice none 0 0]) (by simp [results, Try.results145, go_sem, r0, r1, r2, r3]) rfl ?_
          rw [HZ.out, finX, if_neg hy]
          exact ⟨none, 0, rfl, World.ownsRow_nil _ _ _ _, hSF, hTF⟩
    · obtain rfl : j = n := by omega
      have HLd : Hid (rlabF bs j s2 = (L, ⟨p, yj, aj⟩)) := by
        rw [Hid, HLb.out, Nat.sub_self, rlabF, preQ, List.append_nil]
      have HIx := HIj
      have HBx := HBj
      have HSx := HKj
      have HTx := HTj
      have hOx : ∀ w', Step (fun i => i = X) wr w' → w'.ownsRow w.heap.size 51 1 (.slice D2 j c2) j (u32s L) := fun w' ht => own_step HOj.out ht (fun q hq e => by
        have h1 := own_tag HOj.out HKj.out.blk (by decide)
        exact h1 (e ▸ hq))
      have HOX := Lib.hid hOx
      have hDI : blkOf D2 ≠ some I := by rw [← ownBlock_slice D2 j c2]; exact own_tag HOj.out HIj.out (by decide)
      have hDR : blkOf D2 ≠ some R := by rw [← ownBlock_slice D2 j c2]; exact own_tag HOj.out HBj.out (by decide)
      clear HIj HBj HKj HTj hOx HOj HLb
      go_wp2_with fail
      refine (rindex_walk _ X S D c bs _ HSx.out).mono ?_
      rintro e w11 ⟨rfl, hs, ht⟩
      have HB11 := Lib.hid (HBx.out.step ht hRX)
      have HI11 := Lib.hid (HIx.out.step ht hIX)
      have HS11 := Lib.hid hs
      have HT11 := Lib.hid (HTx.out.trans ht)
      have HO11 := Lib.hid (HOX.out _ ht)
      clear hs ht HBx HIx HSx HTx
      have hal := ridxF_lt bs ⟨p, yj, aj⟩
      have HZ : Hid (RR = (finX (op, (ridxF bs ⟨p, yj, aj⟩).1, 0, L) (ridxF bs ⟨p, yj, aj⟩).2.y, (ridxF bs ⟨p, yj, aj⟩).2)) := by rw [Hid, HRR.out, HLd.out]
      generalize ridxF bs ⟨p, yj, aj⟩ = r at HZ HS11 hal ⊢
      obtain ⟨a, k2, y2, a2⟩ := r
      simp only at HZ HS11 hal ⊢
      have hu := IntWalk.u64_in (a : Int) (by omega)
      have zz12 := HI11.out.frozen 1
      have cc12 := HI11.out.cell 1
      simp at cc12
      have HI12 : Hid (Blk (w11.setCell ⟨I, 1, none⟩ (.int .u64 (a : Int))) I 50 #[.int .u8 (op : Int), .int .u64 (a : Int), .int .u64 (0 : Int), .slice D2 j c2]) := by
        have hq := HI11.out.set_ 1 ((.int .u64 (a : Int)))
        simp at hq
        exact hq
      have HB12 := Lib.hid (HB11.out.far (p := ⟨I, 1, none⟩) hRI2 ((.int .u64 (a : Int))))
      have hst12 : Step (fun j => j = I) w11 (w11.setCell ⟨I, 1, none⟩ (.int .u64 (a : Int))) := (Step.refl (F := fun j => j = I)).setCell (p := ⟨I, 1, none⟩) (.inl rfl) _
      have HS12 := Lib.hid (HS11.out.step hst12 (Ne.symm hIX) hIS)
      have HT12 := Lib.hid (HT11.out.setCell (p := ⟨I, 1, none⟩) (.inr hIw) ((.int .u64 (a : Int))))
      have HO12 := Lib.hid (own_set HO11.out (p := ⟨I, 1, none⟩) (by rw [ownBlock_slice]; exact hDI) (.int .u64 (a : Int)))
      clear HI11 HB11 HS11 HT11 HO11
      have x2 := HS12.out.c2
      simp only at x2
      by_cases hy : y2 = 0
      · subst hy
        have y0 := HI12.out.cell 0
        have y1 := HI12.out.cell 1
        have y2' := HI12.out.cell 2
        have y3 := HI12.out.cell 3
        simp at y0 y1 y2' y3
        have hone : (#[.int .u8 (op : Int), .int .u64 (a : Int), .int .u64 (0 : Int), .slice D2 j c2] : Array Value).all (·.oneCell') = true := by simp [Value.oneCell']
        have hbl := HB12.out
        go_wp2_with (refine wpList_store_rowTo rfl 50 _ _ rfl rfl R #[.int .u8 (op : Int), .int .u64 (a : Int), .int .u64 (0 : Int), .slice D2 j c2] rfl rfl 50 _ hbl rfl rfl hone ?_)
        have r0 := (hbl.row #[.int .u8 (op : Int), .int .u64 (a : Int), .int .u64 (0 : Int), .slice D2 j c2]).cell 0
        have r1 := (hbl.row #[.int .u8 (op : Int), .int .u64 (a : Int), .int .u64 (0 : Int), .slice D2 j c2]).cell 1
        have r2 := (hbl.row #[.int .u8 (op : Int), .int .u64 (a : Int), .int .u64 (0 : Int), .slice D2 j c2]).cell 2
        have r3 := (hbl.row #[.int .u8 (op : Int), .int .u64 (a : Int), .int .u64 (0 : Int), .slice D2 j c2]).cell 3
        simp at r0 r1 r2 r3
        have hSF := HS12.out.step (Step.setRow (F := fun j => j = R) Step.refl (g := R) (.inl rfl) #[.int .u8 (op : Int), .int .u64 (a : Int), .int .u64 (0 : Int), .slice D2 j c2]) (Ne.symm hRX) hRS
        have hTF := HT12.out.setRow (g := R) (.inr hRw) #[.int .u8 (op : Int), .int .u64 (a : Int), .int .u64 (0 : Int), .slice D2 j c2]
        refine bodyPost_ret (v := .agg #[.int .u8 (op : Int), .int .u64 (a : Int), .int .u64 (0 : Int), .slice D2 j c2]) (by simp [results, Try.results145, go_sem, r0, r1, r2, r3]) rfl ?_
        have hst13 : Step (fun j => j = R) (w11.setCell ⟨I, 1, none⟩ (.int .u64 (a : Int))) ((w11.setCell ⟨I, 1, none⟩ (.int .u64 (a : Int))).setRow R #[.int .u8 (op : Int), .int .u64 (a : Int), .int .u64 (0 : Int), .slice D2 j c2]) := Step.setRow (F := fun j => j = R) Step.refl (g := R) (.inl rfl) _
        have hOF := own_step HO12.out hst13 (fun q hq e => hDR (by rw [← ownBlock_slice D2 j c2, hq, e]))
        have hLj := HLj.out
        rw [HZ.out, finX, if_pos rfl]
        subst hLj
        exact ⟨D2, c2, rfl, hOF, hSF, hTF⟩
      · have hy0 : ((y2 : Int) == 0) = false := by simp; omega
        have hone : (#[.int .u8 (0 : Int), .int .u64 (0 : Int), .int .u64 (0 : Int), .slice none 0 0] : Array Value).all (·.oneCell') = true := by simp [Value.oneCell']
        have hbl := HB12.out
        go_wp2_with (refine wpList_store_rowTo rfl 50 _ _ rfl rfl R #[.int .u8 (0 : Int), .int .u64 (0 : Int), .int .u64 (0 : Int), .slice none 0 0] rfl rfl 50 _ hbl rfl rfl hone ?_)
        have r0 := (hbl.row #[.int .u8 (0 : Int), .int .u64 (0 : Int), .int .u64 (0 : Int), .slice none 0 0]).cell 0
        have r1 := (hbl.row #[.int .u8 (0 : Int), .int .u64 (0 : Int), .int .u64 (0 : Int), .slice none 0 0]).cell 1
        have r2 := (hbl.row #[.int .u8 (0 : Int), .int .u64 (0 : Int), .int .u64 (0 : Int), .slice none 0 0]).cell 2
        have r3 := (hbl.row #[.int .u8 (0 : Int), .int .u64 (0 : Int), .int .u64 (0 : Int), .slice none 0 0]).cell 3
        simp at r0 r1 r2 r3
        have hSF := HS12.out.step (Step.setRow (F := fun j => j = R) Step.refl (g := R) (.inl rfl) #[.int .u8 (0 : Int), .int .u64 (0 : Int), .int .u64 (0 : Int), .slice none 0 0]) (Ne.symm hRX) hRS
        have hTF := HT12.out.setRow (g := R) (.inr hRw) #[.int .u8 (0 : Int), .int .u64 (0 : Int), .int .u64 (0 : Int), .slice none 0 0]
        refine bodyPost_ret (v := .agg #[.int .u8 (0 : Int), .int .u64 (0 : Int), .int .u64 (0 : Int), .slice none 0 0]) (by simp [results, Try.results145, go_sem, r0, r1, r2, r3]) rfl ?_
        rw [HZ.out, finX, if_neg hy]
        exact ⟨none, 0, rfl, World.ownsRow_nil _ _ _ _, hSF, hTF⟩
end Go.Proofs.Ytfemeendkjcffaa
