/-
  instr: Get of any bytes: labels; all kinds joined.
-/
import Derived.Test.YtfemeendkjcffaaReC
set_option linter.unusedVariables false
set_option linter.unusedSimpArgs false
namespace Go.Proofs.Ytfemeendkjcffaa
open Go.RowKit

set_option maxRecDepth 100000 in
set_option maxHeartbeats 3200000 in
theorem gany_by (w : World) (X : Nat) (S : Nat → Prop) (D : Option Addr) (c : Nat) (bs : List UInt8) (k : Nat) (h : Scn w X S D c bs k) (y a : Nat) (hby : byF bs k = .er y a) :
    Calls Try.prog 142 #[.pointer (some ⟨X, 0, none⟩)] w fun e w' => e = .panicked (stopP (y : Int) (a : Int)) ∧ Step (fun i => i = X) w w' := by
  have hxl := h.lt
  have HH := Lib.hid h
  have hlow := h.low
  clear h
  have hone0 : (insA 0 0 0 (.slice none 0 0)).all (·.oneCell') = true := by simp [insA, Value.oneCell']
  go_enter Try.func142, Try.ntmps142
  go_wp2_with fail
  refine (at_walk _ X S D c bs k (HH.out.alloc _)).mono ?_
  rintro e w5 ⟨rfl, hw5⟩
  have HB5 := Lib.hid (Blk.new w 50 (insA 0 0 0 (.slice none 0 0)))
  have HS5 := Lib.hid (HH.out.alloc (.cells (insA 0 0 0 (.slice none 0 0)) 50))
  have HT5 := Lib.hid ((Step.refl (F := fun i => i = X)).alloc (w := w) (.cells (insA 0 0 0 (.slice none 0 0)) 50))
  rw [show w.alloc (.cells (insA 0 0 0 (.slice none 0 0)) 50) = w5 from hw5.symm] at HB5 HS5 HT5
  obtain ⟨R, hR⟩ : ∃ R, R = w.heap.size := ⟨_, rfl⟩
  have hRX : R ≠ X := by omega
  have hRw : w.heap.size ≤ R := by omega
  have hRS : ∀ j, S j → j ≠ R := fun j hj => by have := hlow j hj; omega
  rw [← hR] at HB5 ⊢
  clear hR hxl hw5 HH
  go_wp2_with fail
  refine (byte_any _ X S D c bs k HS5.out).mono ?_
  intro e w6 hp
  rw [hby] at hp
  obtain ⟨rfl, ht⟩ := hp
  exact ⟨rfl, rfl, HT5.out.trans ht⟩

set_option maxRecDepth 100000 in
set_option maxHeartbeats 3200000 in
theorem gany_ck (w : World) (X : Nat) (S : Nat → Prop) (D : Option Addr) (c : Nat) (bs : List UInt8) (k : Nat) (h : Scn w X S D c bs k) (op k1 : Nat) (hby : byF bs k = .ok op k1) (y : Nat) (hck : chkF op = y) (hy : ¬ y = 0) :
    Calls Try.prog 142 #[.pointer (some ⟨X, 0, none⟩)] w fun e w' => e = .panicked (stopP (y : Int) (k : Int)) ∧ Step (fun i => i = X) w w' := by
  have hyb : ((y : Int) == 0) = false := by simp; omega
  have HBY : Hid (∀ w', Scn w' X S D c bs k → Calls Try.prog 144 #[.pointer (some ⟨X, 0, none⟩)] w' fun e w'' => e = .returned (.int .u8 (op : Int)) ∧ Scn w'' X S D c bs k1 ∧ Step (fun i => i = X) w' w'') := fun w' h' => by
    have h1 := byte_any w' X S D c bs k h'
    rw [hby] at h1
    exact h1
  have hop := byF_lt hby
  clear hby
  have HC : Hid (∀ w, Calls Try.prog 26 #[.int .u8 (op : Int)] w fun e w' => e = .returned (.int .i64 (y : Int)) ∧ Step (fun _ => False) w w') := fun w => by
    have := check_walk w op hop
    rw [hck] at this
    exact this
  have hxl := h.lt
  have HH := Lib.hid h
  have hlow := h.low
  clear h
  have hone0 : (insA 0 0 0 (.slice none 0 0)).all (·.oneCell') = true := by simp [insA, Value.oneCell']
  go_enter Try.func142, Try.ntmps142
  go_wp2_with fail
  refine (at_walk _ X S D c bs k (HH.out.alloc _)).mono ?_
  rintro e w5 ⟨rfl, hw5⟩
  have HB5 := Lib.hid (Blk.new w 50 (insA 0 0 0 (.slice none 0 0)))
  have HS5 := Lib.hid (HH.out.alloc (.cells (insA 0 0 0 (.slice none 0 0)) 50))
  have HT5 := Lib.hid ((Step.refl (F := fun i => i = X)).alloc (w := w) (.cells (insA 0 0 0 (.slice none 0 0)) 50))
  rw [show w.alloc (.cells (insA 0 0 0 (.slice none 0 0)) 50) = w5 from hw5.symm] at HB5 HS5 HT5
  obtain ⟨R, hR⟩ : ∃ R, R = w.heap.size := ⟨_, rfl⟩
  have hRX : R ≠ X := by omega
  have hRw : w.heap.size ≤ R := by omega
  have hRS : ∀ j, S j → j ≠ R := fun j hj => by have := hlow j hj; omega
  rw [← hR] at HB5 ⊢
  clear hR hxl hw5 HH
  go_wp2_with fail
  refine (HBY.out _ HS5.out).mono ?_
  rintro e w6 ⟨rfl, hs6, ht6⟩
  have HB6 := Lib.hid ((HB5.out.step ht6 hRX).alloc (.cells (insA op 0 0 (.slice none 0 0)) 50))
  have HI6 := Lib.hid (Blk.new w6 50 (insA op 0 0 (.slice none 0 0)))
  have HS6 := Lib.hid (hs6.alloc (.cells (insA op 0 0 (.slice none 0 0)) 50))
  have HT6 := Lib.hid ((HT5.out.trans ht6).alloc (.cells (insA op 0 0 (.slice none 0 0)) 50))
  have hRI : R < w6.heap.size := by have := HB5.out.lt; have := ht6.size; omega
  have hXI : X < w6.heap.size := by have := HS5.out.lt; have := ht6.size; omega
  have hIw : w.heap.size ≤ w6.heap.size := (HT5.out.trans ht6).size
  clear hs6 ht6 HB5 HS5 HT5
  obtain ⟨I, hI⟩ : ∃ I, I = w6.heap.size := ⟨_, rfl⟩
  obtain ⟨W, hW⟩ : ∃ W, W = w6.alloc (.cells (insA op 0 0 (.slice none 0 0)) 50) := ⟨_, rfl⟩
  rw [← hI] at HI6 hRI hXI hIw
  have hIS : ∀ j, S j → j ≠ I := fun j hj => by have := hlow j hj; omega
  have hIX : I ≠ X := by omega
  have hRI2 : R ≠ I := by omega
  rw [← hW] at HB6 HI6 HS6 HT6
  have x0 := HI6.out.cell 0
  simp [insA] at x0
  rw [hW] at x0
  rw [hI] at x0
  go_wp2_with fail
  rw [show w6.alloc (.cells #[.int .u8 (op : Int), .int .u64 0, .int .u64 0, .slice none 0 0] 50) = W from hW.symm]
  rw [← hI]
  clear x0 hW hI
  refine (HC.out _).mono ?_
  rintro e w7 ⟨rfl, ht7⟩
  have HB7 := Lib.hid (HB6.out.step ht7 id)
  have HI7 := Lib.hid (HI6.out.step ht7 id)
  have HS7 := Lib.hid (HS6.out.quiet ht7)
  have HT7 := Lib.hid (HT6.out.trans' ht7 (fun _ h => h.elim))
  clear ht7 HB6 HI6 HS6 HT6 HC
  have x0 := HI7.out.cell 0
  simp [insA] at x0
  go_wp2_with fail
  refine (unless_err _ _ _).mono ?_
  rintro e wS ⟨rfl, hS⟩
  exact ⟨rfl, rfl, HT7.out.trans' hS (fun _ hf => hf.elim)⟩

set_option maxRecDepth 100000 in
set_option maxHeartbeats 3200000 in
theorem gany_3 (w : World) (X : Nat) (S : Nat → Prop) (D : Option Addr) (c : Nat) (bs : List UInt8) (k : Nat) (h : Scn w X S D c bs k) (op k1 : Nat) (i : Inf) (hby : byF bs k = .ok op k1) (hck : chkF op = 0) (RR : Rs (Nat × Nat × Nat × List Nat)) (HRR : Hid (RR = match cntF bs k1 with | .er y a => .er y a | .ok n k2 => match labsF bs n k2 with | .er y a => .er y a | .ok L k3 => match idxF bs k3 with | .er y a => .er y a | .ok a k4 => .ok (op, a, 0, L) k4))
    (HO : Hid (∀ w, Calls Try.prog 25 #[.int .u8 (op : Int)] w fun e w' => e = .returned (infM i 3) ∧ Step (fun _ => False) w w')) :
    Calls Try.prog 142 #[.pointer (some ⟨X, 0, none⟩)] w (GetR X S D c bs w RR) := by
  have HBY : Hid (∀ w', Scn w' X S D c bs k → Calls Try.prog 144 #[.pointer (some ⟨X, 0, none⟩)] w' fun e w'' => e = .returned (.int .u8 (op : Int)) ∧ Scn w'' X S D c bs k1 ∧ Step (fun i => i = X) w' w'') := fun w' h' => by
    have h1 := byte_any w' X S D c bs k h'
    rw [hby] at h1
    exact h1
  have hop := byF_lt hby
  clear hby
  have HC : Hid (∀ w, Calls Try.prog 26 #[.int .u8 (op : Int)] w fun e w' => e = .returned (.int .i64 0) ∧ Step (fun _ => False) w w') := fun w => by
    have := check_walk w op hop
    rw [hck] at this
    exact this
  have hxl := h.lt
  have HH := Lib.hid h
  have hlow := h.low
  clear h
  have hone0 : (insA 0 0 0 (.slice none 0 0)).all (·.oneCell') = true := by simp [insA, Value.oneCell']
  go_enter Try.func142, Try.ntmps142
  go_wp2_with fail
  refine (at_walk _ X S D c bs k (HH.out.alloc _)).mono ?_
  rintro e w5 ⟨rfl, hw5⟩
  have HB5 := Lib.hid (Blk.new w 50 (insA 0 0 0 (.slice none 0 0)))
  have HS5 := Lib.hid (HH.out.alloc (.cells (insA 0 0 0 (.slice none 0 0)) 50))
  have HT5 := Lib.hid ((Step.refl (F := fun i => i = X)).alloc (w := w) (.cells (insA 0 0 0 (.slice none 0 0)) 50))
  rw [show w.alloc (.cells (insA 0 0 0 (.slice none 0 0)) 50) = w5 from hw5.symm] at HB5 HS5 HT5
  obtain ⟨R, hR⟩ : ∃ R, R = w.heap.size := ⟨_, rfl⟩
  have hRX : R ≠ X := by omega
  have hRw : w.heap.size ≤ R := by omega
  have hRS : ∀ j, S j → j ≠ R := fun j hj => by have := hlow j hj; omega
  rw [← hR] at HB5 ⊢
  clear hR hxl hw5 HH
  go_wp2_with fail
  refine (HBY.out _ HS5.out).mono ?_
  rintro e w6 ⟨rfl, hs6, ht6⟩
  have HB6 := Lib.hid ((HB5.out.step ht6 hRX).alloc (.cells (insA op 0 0 (.slice none 0 0)) 50))
  have HI6 := Lib.hid (Blk.new w6 50 (insA op 0 0 (.slice none 0 0)))
  have HS6 := Lib.hid (hs6.alloc (.cells (insA op 0 0 (.slice none 0 0)) 50))
  have HT6 := Lib.hid ((HT5.out.trans ht6).alloc (.cells (insA op 0 0 (.slice none 0 0)) 50))
  have hRI : R < w6.heap.size := by have := HB5.out.lt; have := ht6.size; omega
  have hXI : X < w6.heap.size := by have := HS5.out.lt; have := ht6.size; omega
  have hIw : w.heap.size ≤ w6.heap.size := (HT5.out.trans ht6).size
  clear hs6 ht6 HB5 HS5 HT5
  obtain ⟨I, hI⟩ : ∃ I, I = w6.heap.size := ⟨_, rfl⟩
  obtain ⟨W, hW⟩ : ∃ W, W = w6.alloc (.cells (insA op 0 0 (.slice none 0 0)) 50) := ⟨_, rfl⟩
  rw [← hI] at HI6 hRI hXI hIw
  have hIS : ∀ j, S j → j ≠ I := fun j hj => by have := hlow j hj; omega
  have hIX : I ≠ X := by omega
  have hRI2 : R ≠ I := by omega
  rw [← hW] at HB6 HI6 HS6 HT6
  have x0 := HI6.out.cell 0
  simp [insA] at x0
  rw [hW] at x0
  rw [hI] at x0
  go_wp2_with fail
  rw [show w6.alloc (.cells #[.int .u8 (op : Int), .int .u64 0, .int .u64 0, .slice none 0 0] 50) = W from hW.symm]
  rw [← hI]
  clear x0 hW hI
  refine (HC.out _).mono ?_
  rintro e w7 ⟨rfl, ht7⟩
  have HB7 := Lib.hid (HB6.out.step ht7 id)
  have HI7 := Lib.hid (HI6.out.step ht7 id)
  have HS7 := Lib.hid (HS6.out.quiet ht7)
  have HT7 := Lib.hid (HT6.out.trans' ht7 (fun _ h => h.elim))
  clear ht7 HB6 HI6 HS6 HT6 HC
  have x0 := HI7.out.cell 0
  simp [insA] at x0
  go_wp2_with fail
  refine (aunless_ok _ _ _).mono ?_
  rintro e w8 ⟨rfl, hw8⟩
  obtain rfl : w7 = w8 := hw8.symm
  go_wp2_with fail
  refine (at_walk _ X S D c bs k1 HS7.out).mono ?_
  rintro e w8 ⟨rfl, hw8⟩
  obtain rfl : w7 = w8 := hw8.symm
  go_wp2_with fail
  refine (HO.out _).mono ?_
  rintro e w8 ⟨rfl, ht8⟩
  have HB8 := Lib.hid (HB7.out.step ht8 id)
  have HI8 := Lib.hid (HI7.out.step ht8 id)
  have HS8 := Lib.hid (HS7.out.quiet ht8)
  have HT8 := Lib.hid (HT7.out.trans' ht8 (fun _ h => h.elim))
  clear ht8 HB7 HI7 HS7 HT7 HO x0
  have hfd := field_imm i 3
  simp only [infM]
  go_wp2_with fail
  refine (count_any _ X S D c bs k1 HS8.out).mono ?_
  intro e w9 hp
  cases hr : cntF bs k1 with
  | er y a =>
    have HE9 := Lib.hid hr
    rw [hr] at hp
    clear hr
    obtain ⟨rfl, ht⟩ := hp
    refine ⟨rfl, ?_⟩
    rw [show RR = Rs.er y a from (by rw [HRR.out]; simp only [HE9.out])]
    exact ⟨rfl, HT8.out.trans ht⟩
  | ok n p9 =>
    have HE9 := Lib.hid hr
    have hlt9 := cntF_le hr
    rw [hr] at hp
    clear hr
    obtain ⟨rfl, hs, ht⟩ := hp
    have HB9 := Lib.hid (HB8.out.step ht hRX)
    have HI9 := Lib.hid (HI8.out.step ht hIX)
    have HS9 := Lib.hid hs
    have HT9 := Lib.hid (HT8.out.trans ht)
    clear hs ht HB8 HI8 HS8 HT8
    have HO9 : Hid (w9.ownsRow w.heap.size 51 1 (.slice none 0 0) 0 (u32s [])) := World.ownsRow_nil _ _ _ _
    have HI9' : Hid (Blk w9 I 50 #[.int .u8 (op : Int), .int .u64 0, .int .u64 0, .slice none 0 0]) := HI9
    have HL9 : Hid (labsF bs n p9 = preL [] (labsF bs (n - 0) p9)) := by rw [Hid, Nat.sub_zero]; cases labsF bs n p9 <;> rfl
    have hw9 := HT9.out.size
    clear HI9
    go_wp2_with fail
    go_loopw [50] (fun iv wr => ∃ (j c2 : Nat) (D2 : Option Addr) (L : List Nat) (p : Nat), j ≤ n ∧ L.length = j ∧ iv = .int .i64 (j : Int) ∧ Hid (Blk wr R 50 (insA 0 0 0 (.slice none 0 0))) ∧ Hid (Blk wr I 50 #[.int .u8 (op : Int), .int .u64 0, .int .u64 0, .slice D2 j c2]) ∧
      Hid (wr.ownsRow w.heap.size 51 1 (.slice D2 j c2) j (u32s L)) ∧ Hid (Scn wr X S D c bs p) ∧ Hid (Step (fun i => i = X) w wr) ∧ Hid (labsF bs n p9 = preL L (labsF bs (n - j) p))) (fun iv _ => n + 1 - (intOf iv).toNat)
    case atStart => exact ⟨0, 0, none, [], p9, by omega, rfl, rfl, HB9, HI9', HO9, HS9, HT9, HL9⟩
    case round =>
      obtain ⟨j, c2, D2, L, p, hj, hLj, rfl, HBj, HIj, HOj, HKj, HTj, HLb⟩ := hrel
      have HLj := Lib.hid hLj
      clear HO9 HI9' HS9 HL9 hLj HB9 HT9
      by_cases hlt : j < n
      · have g1 : (j : Int) < (n : Int) := by omega
        have hw1 := IntWalk.i64_in ((j : Int) + 1) (by omega)
        have i3 := HIj.out.cell 3
        simp at i3
        have hDI : blkOf D2 ≠ some I := by rw [← ownBlock_slice D2 j c2]; exact own_tag HOj.out HIj.out (by decide)
        have hDX : blkOf D2 ≠ some X := by rw [← ownBlock_slice D2 j c2]; exact own_tag HOj.out HKj.out.blk (by decide)
        have hDR : blkOf D2 ≠ some R := by rw [← ownBlock_slice D2 j c2]; exact own_tag HOj.out HBj.out (by decide)
        have hDge : ∀ q, blkOf D2 = some q → w.heap.size ≤ q := fun q hq => own_ge HOj.out q (by rw [ownBlock_slice]; exact hq)
        obtain ⟨F, hF⟩ : ∃ F : Nat → Prop, F = fun q => q = X ∨ blkOf D2 = some q := ⟨_, rfl⟩
        have HFI : ¬ F I := by rw [hF]; intro h; exact h.elim hIX hDI
        have d3 := cls_cell (F := F) (w0 := wr) i3 HFI
        have hIl := HIj.out.lt
        have HF := Lib.hid hF
        have HNj : Hid (n - j = n - (j + 1) + 1) := by rw [Hid]; omega
        have HLs : Hid (labsF bs (n - j) p = match idxF bs p with | .er y a => .er y a | .ok v k' => match labsF bs (n - (j + 1)) k' with | .er y a => .er y a | .ok L k2 => .ok (v :: L) k2) := by rw [Hid, HNj.out]; rfl
        clear i3 hF
        go_wp2_with fail
        cases hr : idxF bs p with
        | er y a =>
          have HX := Lib.hid hr
          clear hr
          refine Mix.wp_region_die [3, 4, 5, 7] [3, 4, 5] [0, 1, 2] 3 (Step F wr) (by kernel_rfl) (by kernel_rfl) (by rfl) Step.refl.drew (fun c a d v w h => by cases d <;> exact h) (fun hcls => ?_)
          refine Mix.wpM_reads [0, 1, 2] [] (by kernel_rfl) ?_
          simp only [List.flatMap_cons, List.flatMap_nil, List.getElem?_cons_succ, List.getElem?_cons_zero, Option.toList_some, List.cons_append, List.nil_append]
          repeat (go_big_quiet_step (fail))
          refine wpQuiet_nil ?_
          refine Mix.wpM_die ⟨by rfl, ?_⟩
          go_simp
          refine (index_any _ X S D c bs p (HKj.out.quiet Step.refl.drew)).mono ?_
          intro e wa hp
          rw [HX.out] at hp
          obtain ⟨rfl, hta⟩ := hp
          refine ⟨rfl, ?_⟩
          rw [show RR = Rs.er y a from (by rw [HRR.out]; simp only [HE9.out, HLb.out, HLs.out, HX.out, preL])]
          exact ⟨rfl, (HTj.out.drew).trans hta⟩
        | ok x q =>
          have HX := Lib.hid hr
          have hxb := idxF_lt hr
          clear hr
          refine Mix.wp_region_mix [3, 4, 5, 7] [3, 4, 5] (Step F wr) (by kernel_rfl) (by kernel_rfl) Step.refl.drew (fun hcls => ?_)
          refine Mix.wpL_reads 3 (by rfl) ?_
          simp only [List.take_succ_cons, List.drop_succ_cons, List.take_zero, List.drop_zero]
          repeat (go_big_quiet_step (fail))
          refine wpQuiet_nil ?_
          refine Mix.wpL_op (by rfl) (fun K hK => ?_)
          go_simp
          refine (index_any _ X S D c bs p (HKj.out.quiet Step.refl.drew)).mono ?_
          intro e wa hp
          rw [HX.out] at hp
          obtain ⟨rfl, hsa, hta⟩ := hp
          have HTa : Hid (Step F wr wa) := Lib.hid ((Step.refl.drew).trans (hta.mono fun q _ hq => by rw [HF.out]; exact .inl hq))
          refine hK _ _ (fun hlt => Mix.cl HTa.out) ?_
          clear hK K
          refine Mix.wpL_op (by rfl) (fun K hK => ?_)
          go_simp
          refine hK _ _ (fun hlt => Mix.cl (HTa.out.alloc _)) ?_
          clear hK K
          have hOa : (wa.alloc (.cells #[.int .u32 (x : Int)] 51)).ownsRow w.heap.size 51 1 (.slice D2 j c2) j (u32s L) :=
            (own_step (own_drew HOj.out) hta (fun q hq e => hDX (by rw [← ownBlock_slice D2 j c2, hq, e]))).alloc _
          have HIa := Lib.hid ((HIj.out.drew.step hta hIX).alloc (.cells #[.int .u32 (x : Int)] 51))
          have HBa := Lib.hid ((HBj.out.drew.step hta hRX).alloc (.cells #[.int .u32 (x : Int)] 51))
          have HKa := Lib.hid (hsa.alloc (.cells #[.int .u32 (x : Int)] 51))
          have HTw := Lib.hid (((HTj.out.drew).trans hta).alloc (.cells #[.int .u32 (x : Int)] 51))
          have HTa2 := Lib.hid (HTa.out.alloc (.cells #[.int .u32 (x : Int)] 51))
          have hsz2 := HTw.out.size
          have hsza : wr.heap.size ≤ wa.heap.size := hta.size
          have hszb : (wa.alloc (.cells #[.int .u32 (x : Int)] 51)).heap.size = wa.heap.size + 1 := by simp
          clear hsa hta HTa
          have hone : ∀ u ∈ #[Value.int .u32 (x : Int)].toList, u.oneCell' = true := by simp [Value.oneCell']
          have hm : j + 1 ≤ maxLen := by unfold maxLen; omega
          refine Mix.wpL_op (by rfl) (fun K hK => ?_)
          refine step_append_src _ (by rfl) _ _ (by rfl) E_u32 (by rfl) hOa (by rfl) (reads_new _ #[Value.int .u32 (x : Int)] 51 1 1 rfl) hone hm (by omega) hsz2 ?_
          intro D3 c3 w3 hown3 hgrow3 hat3
          have HI3 := Lib.hid (HIa.out.grown hgrow3 hDI)
          have HB3 := Lib.hid (HBa.out.grown hgrow3 hDR)
          have HK3 := Lib.hid (HKa.out.step (F := fun q => blkOf D2 = some q) (Step.refl.grown hgrow3 (fun q hq => .inl hq)) hDX (fun q hq hd => by have := hlow q hq; have := hDge q hd; omega))
          have HT3 := Lib.hid (HTw.out.grown hgrow3 (fun q hq => .inr (hDge q hq)))
          have HTF := Lib.hid (HTa2.out.grown hgrow3 (fun q hq => .inl (by rw [HF.out]; exact .inr hq)))
          refine hK _ _ (fun hlt => Mix.cl HTF.out) ?_
          clear hK K hgrow3 HTa2 HTw HKa HBa HIa hOa
          simp only [Act.put, List.setIfInBounds_toArray, List.set_cons_succ, List.set_cons_zero]
          refine Mix.wpL_reads 1 (by rfl) ?_
          simp only [List.take_succ_cons, List.drop_succ_cons, List.take_zero, List.drop_zero]
          repeat (go_big_quiet_step (fail))
          refine wpQuiet_nil ?_
          have zz := HI3.out.frozen 3
          have cc := HI3.out.cell 3
          simp at cc
          have hHat : blkOf D3 = some I → False := fun e => by
            rcases hat3 with h3 | h3
            · exact hDI (h3 ▸ e)
            · rw [h3, hszb] at e
              injection e with e
              omega
          have HI4 : Hid (Blk (w3.setCell ⟨I, 3, none⟩ (.slice D3 (j + 1) c3)) I 50 #[.int .u8 (op : Int), .int .u64 0, .int .u64 0, .slice D3 (j + 1) c3]) := by
            have hq := HI3.out.set_ 3 (.slice D3 (j + 1) c3)
            simp at hq
            exact hq
          have HB4 := Lib.hid (HB3.out.far (p := ⟨I, 3, none⟩) hRI2 (.slice D3 (j + 1) c3))
          have hst4 : Step (fun j => j = I) w3 (w3.setCell ⟨I, 3, none⟩ (.slice D3 (j + 1) c3)) := (Step.refl (F := fun j => j = I)).setCell (p := ⟨I, 3, none⟩) (.inl rfl) _
          have HK4 := Lib.hid (HK3.out.step hst4 (Ne.symm hIX) hIS)
          have HT4 := Lib.hid (HT3.out.setCell (p := ⟨I, 3, none⟩) (.inr hIw) (.slice D3 (j + 1) c3))
          have HO4 := Lib.hid (own_set hown3 (p := ⟨I, 3, none⟩) (by rw [ownBlock_slice]; exact fun e => hHat e) (.slice D3 (j + 1) c3))
          refine Mix.wpL_op (by rfl) (fun K hK => ?_)
          go_simp
          refine hK _ _ (fun hlt => absurd hlt (by decide)) ?_
          clear hK K
          refine Mix.wpL_end ?_
          have hus : u32s L ++ #[Value.int .u32 (x : Int)].toList = u32s (L ++ [x]) := by rw [u32s_append]; rfl
          rw [hus] at HO4
          have HLb2 : Hid (labsF bs n p9 = preL (L ++ [x]) (labsF bs (n - (j + 1)) q)) := by
            rw [Hid, HLb.out, HLs.out, HX.out]
            simp only
            cases labsF bs (n - (j + 1)) q <;> simp [preL]
          have HLj2 : Hid ((L ++ [x]).length = j + 1) := by rw [Hid, List.length_append, HLj.out]; rfl
          go_wp2_with fail
          go_roundw
          case rel => exact ⟨j + 1, c3, D3, L ++ [x], q, by omega, HLj2.out, by rw [Int.natCast_add]; rfl, HB4, HI4, HO4, HK4, HT4, HLb2⟩
          case measure => simp [intOf]; omega
      · obtain rfl : j = n := by omega
        have HLd : Hid (labsF bs j p9 = .ok L p) := by
          rw [Hid, HLb.out, Nat.sub_self]
          show Rs.ok (L ++ []) p = _
          rw [List.append_nil]
        have HIx := HIj
        have HBx := HBj
        have HSx := HKj
        have HTx := HTj
        have hOx : ∀ w', Step (fun i => i = X) wr w' → w'.ownsRow w.heap.size 51 1 (.slice D2 j c2) j (u32s L) := fun w' ht => own_step HOj.out ht (fun q hq e => by
          have h1 := own_tag HOj.out HKj.out.blk (by decide)
          exact h1 (e ▸ hq))
        have HOX := Lib.hid hOx
        have hDI : blkOf D2 ≠ some I := by rw [← ownBlock_slice D2 j c2]; exact own_tag HOj.out HIj.out (by decide)
        have hDR : blkOf D2 ≠ some R := by rw [← ownBlock_slice D2 j c2]; exact own_tag HOj.out HBj.out (by decide)
        clear HIj HBj HKj HTj hOx HOj HLb
        go_wp2_with fail
        refine (index_any _ X S D c bs p HSx.out).mono ?_
        intro e w11 hp
        cases hr : idxF bs p with
        | er y a =>
          have HX := Lib.hid hr
          rw [hr] at hp
          clear hr
          obtain ⟨rfl, ht⟩ := hp
          refine ⟨rfl, ?_⟩
          rw [show RR = Rs.er y a from (by rw [HRR.out]; simp only [HE9.out, HLd.out, HX.out])]
          exact ⟨rfl, HTx.out.trans ht⟩
        | ok a q =>
          have HX := Lib.hid hr
          have hal := idxF_lt hr
          rw [hr] at hp
          clear hr
          obtain ⟨rfl, hs, ht⟩ := hp
          have hu := IntWalk.u64_in (a : Int) (by omega)
          have HB11 := Lib.hid (HBx.out.step ht hRX)
          have HI11 := Lib.hid (HIx.out.step ht hIX)
          have HS11 := Lib.hid hs
          have HT11 := Lib.hid (HTx.out.trans ht)
          have HO11 := Lib.hid (HOX.out _ ht)
          clear hs ht HBx HIx HSx HTx
          have zz12 := HI11.out.frozen 1
          have cc12 := HI11.out.cell 1
          simp [insA] at cc12
          have HI12 : Hid (Blk (w11.setCell ⟨I, 1, none⟩ (.int .u64 (a : Int))) I 50 #[.int .u8 (op : Int), .int .u64 (a : Int), .int .u64 0, .slice D2 j c2]) := by
            have hq := HI11.out.set_ 1 ((.int .u64 (a : Int)))
            simp [insA] at hq
            exact hq
          have HB12 := Lib.hid (HB11.out.far (p := ⟨I, 1, none⟩) hRI2 ((.int .u64 (a : Int))))
          have hst12 : Step (fun j => j = I) w11 (w11.setCell ⟨I, 1, none⟩ (.int .u64 (a : Int))) := (Step.refl (F := fun j => j = I)).setCell (p := ⟨I, 1, none⟩) (.inl rfl) _
          have HS12 := Lib.hid (HS11.out.step hst12 (Ne.symm hIX) hIS)
          have HT12 := Lib.hid (HT11.out.setCell (p := ⟨I, 1, none⟩) (.inr hIw) ((.int .u64 (a : Int))))
          have HO12 := Lib.hid (own_set HO11.out (p := ⟨I, 1, none⟩) (by rw [ownBlock_slice]; exact hDI) (.int .u64 (a : Int)))
          have y0 := HI12.out.cell 0
          have y1 := HI12.out.cell 1
          have y2 := HI12.out.cell 2
          have y3 := HI12.out.cell 3
          simp [insA] at y0 y1 y2 y3
          have hone : (#[.int .u8 (op : Int), .int .u64 (a : Int), .int .u64 0, .slice D2 j c2] : Array Value).all (·.oneCell') = true := by simp [Value.oneCell']
          have hbl := HB12.out
          go_wp2_with (refine wpList_store_rowTo rfl 50 _ _ rfl rfl R #[.int .u8 (op : Int), .int .u64 (a : Int), .int .u64 0, .slice D2 j c2] rfl rfl 50 _ hbl rfl rfl hone ?_)
          have r0 := (hbl.row #[.int .u8 (op : Int), .int .u64 (a : Int), .int .u64 0, .slice D2 j c2]).cell 0
          have r1 := (hbl.row #[.int .u8 (op : Int), .int .u64 (a : Int), .int .u64 0, .slice D2 j c2]).cell 1
          have r2 := (hbl.row #[.int .u8 (op : Int), .int .u64 (a : Int), .int .u64 0, .slice D2 j c2]).cell 2
          have r3 := (hbl.row #[.int .u8 (op : Int), .int .u64 (a : Int), .int .u64 0, .slice D2 j c2]).cell 3
          simp at r0 r1 r2 r3
          have hSF := HS12.out.step (Step.setRow (F := fun j => j = R) Step.refl (g := R) (.inl rfl) #[.int .u8 (op : Int), .int .u64 (a : Int), .int .u64 0, .slice D2 j c2]) (Ne.symm hRX) hRS
          have hTF := HT12.out.setRow (g := R) (.inr hRw) #[.int .u8 (op : Int), .int .u64 (a : Int), .int .u64 0, .slice D2 j c2]
          have hst13 : Step (fun j => j = R) (w11.setCell ⟨I, 1, none⟩ (.int .u64 (a : Int))) ((w11.setCell ⟨I, 1, none⟩ (.int .u64 (a : Int))).setRow R #[.int .u8 (op : Int), .int .u64 (a : Int), .int .u64 0, .slice D2 j c2]) := Step.setRow (F := fun j => j = R) Step.refl (g := R) (.inl rfl) _
          have hOF := own_step HO12.out hst13 (fun q hq e => hDR (by rw [← ownBlock_slice D2 j c2, hq, e]))
          refine bodyPost_ret (v := .agg #[.int .u8 (op : Int), .int .u64 (a : Int), .int .u64 0, .slice D2 j c2]) (by simp [results, Try.results142, go_sem, r0, r1, r2, r3]) rfl ?_
          rw [show RR = Rs.ok (op, a, 0, L) q from (by rw [HRR.out]; simp only [HE9.out, HLd.out, HX.out])]
          have hLj := HLj.out
          subst hLj
          exact ⟨D2, c2, rfl, hOF, hSF, hTF⟩

theorem get_any (w : World) (X : Nat) (S : Nat → Prop) (D : Option Addr) (c : Nat) (bs : List UInt8) (k : Nat) (h : Scn w X S D c bs k) : Calls Try.prog 142 #[.pointer (some ⟨X, 0, none⟩)] w (GetR X S D c bs w (getF bs k)) := by
  cases hby : byF bs k with
  | er y a =>
    have e1 : getF bs k = .er y a := by rw [getF, hby]
    rw [e1]
    exact gany_by w X S D c bs k h y a hby
  | ok op k1 =>
    have hop := byF_lt hby
    by_cases hck : chkF op = 0
    · have e1 : getF bs k = getT bs op (infF op).imm k1 := by rw [getF, hby]; simp only [if_pos hck]
      rw [e1]
      have HO : Hid (∀ w, Calls Try.prog 25 #[.int .u8 (op : Int)] w fun e w' => e = .returned (infM (infF op) ((infF op).imm : Int)) ∧ Step (fun _ => False) w w') := fun w => of_walk w op hop
      generalize (infF op).imm = m at HO
      by_cases h0 : m = 0
      · subst h0; exact gany_0 w X S D c bs k h op k1 _ hby hck _ rfl HO
      by_cases h1 : m = 1
      · subst h1; exact gany_1 w X S D c bs k h op k1 _ hby hck _ rfl HO
      by_cases h3 : m = 3
      · subst h3; exact gany_3 w X S D c bs k h op k1 _ hby hck _ rfl HO
      by_cases h5 : m = 5
      · subst h5; exact gany_5 w X S D c bs k h op k1 _ hby hck _ rfl HO
      by_cases h8 : m = 8
      · subst h8; exact gany_8 w X S D c bs k h op k1 _ hby hck _ rfl HO
      by_cases h9 : m = 9
      · subst h9; exact gany_9 w X S D c bs k h op k1 _ hby hck _ rfl HO
      by_cases h10 : m = 10
      · subst h10; exact gany_10 w X S D c bs k h op k1 _ hby hck _ rfl HO
      by_cases h11 : m = 11
      · subst h11; exact gany_11 w X S D c bs k h op k1 _ hby hck _ rfl HO
      · have e2 : getT bs op m k1 = match idxF bs k1 with | .er y a => .er y a | .ok a k2 => .ok (op, a, 0, []) k2 := by
          rw [getT, if_neg h0, if_neg h1, if_neg h3, if_neg h5, if_neg h8, if_neg h9, if_neg h10, if_neg h11]
          cases idxF bs k1 <;> rfl
        rw [e2]
        exact gany_d w X S D c bs k h op k1 _ hby hck (m : Int) ⟨by omega, by omega, by omega, by omega, by omega, by omega, by omega, by omega⟩ _ rfl HO
    · have e1 : getF bs k = .er (chkF op) k := by rw [getF, hby]; simp only [if_neg hck]
      rw [e1]
      exact gany_ck w X S D c bs k h op k1 hby _ rfl hck
end Go.Proofs.Ytfemeendkjcffaa
