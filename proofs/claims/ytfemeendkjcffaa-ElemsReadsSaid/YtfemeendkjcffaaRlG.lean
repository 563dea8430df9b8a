/-
  RlG: RlT, RlU.
-/
import Derived.Test.YtfemeendkjcffaaReE
import Derived.Test.YtfemeendkjcffaaEbA
import Derived.Test.YtfemeendkjcffaaRga
import Derived.Test.YtfemeendkjcffaaEbb
set_option linter.unusedVariables false
set_option linter.unusedSimpArgs false
/-! elems: Get of any bytes (printed by gen_rl.py). -/
namespace Go.Proofs.Ytfemeendkjcffaa
open Go.RowKit

def El.sh (x : El) : El := ⟨x.op, x.a, x.b, x.n, 0, x.m, 0, none, none, x.L⟩
/-- One row of functions, as the program reads it. -/
def elmF (bs : List UInt8) (k : Nat) : Rs El := match byF bs k with
  | .er y a => .er y a
  | .ok z k1 => if z = 0 then (match creF bs k1 with
    | .er y a => .er y a
    | .ok x k2 => match cntF bs k2 with
      | .er y a => .er y a
      | .ok n k3 => match labsF bs n k3 with
        | .er y a => .er y a
        | .ok L k4 => .ok ⟨x.1, x.2, 0, 0, 0, L.length, 0, none, none, L⟩ k4) else .er 10 k
def ElmR (X : Nat) (S : Nat → Prop) (D : Option Addr) (c : Nat) (bs : List UInt8) (w : World) (r : Rs El) (e : Ending) (w' : World) : Prop :=
  match r with
  | .ok x k => ∃ x' : El, x'.sh = x ∧ e = .returned (.agg (elmX x'.op x'.a x'.b x'.A x'.n x'.c (.slice x'.FA x'.m x'.fc))) ∧ w'.ownsRow w.heap.size 51 1 (.slice x'.FA x'.m x'.fc) x'.m (u32s x'.L) ∧ Scn w' X S D c bs k ∧ Step (fun i => i = X) w w'
  | .er y a => e = .panicked (stopP (y : Int) (a : Int)) ∧ Step (fun i => i = X) w w'
theorem labsF_len (bs : List UInt8) : ∀ (n k : Nat) (L : List Nat) (k' : Nat), labsF bs n k = .ok L k' → L.length = n
  | 0, k, L, k', h => by
    rw [labsF] at h
    injection h with h1 h2
    subst h1
    rfl
  | n + 1, k, L, k', h => by
    rw [labsF] at h
    cases hx : idxF bs k with
    | er y a => rw [hx] at h; cases h
    | ok v k1 =>
      rw [hx] at h
      dsimp only at h
      cases hm : labsF bs n k1 with
      | er y a => rw [hm] at h; cases h
      | ok m k2 =>
        rw [hm] at h
        injection h with h1 h2
        subst h1
        rw [List.length_cons, labsF_len bs n k1 m k2 hm]
theorem elmF_zero {bs : List UInt8} (k : Nat) (x : El) (k' : Nat) (h : elmF bs k = .ok x k') : (x.b = 0 ∧ x.n = 0) ∧ x.m = x.L.length ∧ x.m ≤ 10000 := by
  rw [elmF] at h
  split at h
  · cases h
  · split at h
    · split at h
      · cases h
      · split at h
        · cases h
        · rename_i n k3 hc
          split at h
          · cases h
          · rename_i L k4 hL
            injection h with h1 h2
            subst h1
            have h3 := cntF_le hc
            have h4 := labsF_len bs _ _ _ _ hL
            exact ⟨⟨rfl, rfl⟩, rfl, by show L.length ≤ 10000; omega⟩
    · cases h

set_option maxRecDepth 100000 in
set_option maxHeartbeats 6400000 in
theorem eget_any (w : World) (X : Nat) (S : Nat → Prop) (D : Option Addr) (c : Nat) (bs : List UInt8) (k : Nat) (h : Scn w X S D c bs k) :
    Calls Try.prog 93 #[.pointer (some ⟨X, 0, none⟩)] w (ElmR X S D c bs w (elmF bs k)) := by
  have hxl := h.lt
  have hlow := h.low
  have hsh := h.short
  have HH := Lib.hid h
  obtain ⟨RR, hRR⟩ : ∃ RR, RR = elmF bs k := ⟨_, rfl⟩
  rw [← hRR]
  have HRR := Lib.hid hRR
  clear h hRR
  go_enter Try.func93, Try.ntmps93
  go_wp2_with fail
  refine (at_walk _ X S D c bs k (HH.out.alloc _)).mono ?_
  rintro e w5 ⟨rfl, hw5⟩
  have HB5 := Lib.hid (Blk.new w 136 (elmC 0 0 (.slice none 0 0)))
  have HS5 := Lib.hid (HH.out.alloc (.cells (elmC 0 0 (.slice none 0 0)) 136))
  have HT5 := Lib.hid ((Step.refl (F := fun i => i = X)).alloc (w := w) (.cells (elmC 0 0 (.slice none 0 0)) 136))
  rw [show w.alloc (.cells (elmC 0 0 (.slice none 0 0)) 136) = w5 from hw5.symm] at HB5 HS5 HT5
  obtain ⟨R, hR⟩ : ∃ R, R = w.heap.size := ⟨_, rfl⟩
  have hRX : R ≠ X := by omega
  have hRw : w.heap.size ≤ R := by omega
  have hRS : ∀ j, S j → j ≠ R := fun j hj => by have := hlow j hj; omega
  rw [← hR] at HB5 ⊢
  clear hR hxl hw5 HH
  go_wp2_with fail
  refine (byte_any _ X S D c bs k HS5.out).mono ?_
  intro e w6 hp
  cases hr : byF bs k with
  | er y a =>
    have HE := Lib.hid hr
    rw [hr] at hp
    clear hr
    obtain ⟨rfl, ht⟩ := hp
    refine ⟨rfl, ?_⟩
    rw [show RR = Rs.er y a from (by rw [HRR.out, elmF]; simp only [HE.out])]
    exact ⟨rfl, HT5.out.trans ht⟩
  | ok z k1 =>
  have HE := Lib.hid hr
  rw [hr] at hp
  clear hr
  obtain ⟨rfl, hs, ht⟩ := hp
  have HB6 := Lib.hid (HB5.out.step ht hRX)
  have HS6 := Lib.hid hs
  have HT6 := Lib.hid (HT5.out.trans ht)
  clear hs ht HB5 HS5 HT5
  by_cases hz : z = 0
  rotate_left
  · have hzb : ((z : Int) == 0) = false := by simp; omega
    go_wp2_with fail
    refine (unless_err _ _ _).mono ?_
    rintro e wS ⟨rfl, hS⟩
    refine ⟨rfl, ?_⟩
    rw [show RR = Rs.er 10 k from (by rw [HRR.out, elmF]; simp only [HE.out, if_neg hz])]
    exact ⟨rfl, HT6.out.trans' hS (fun _ hf => hf.elim)⟩
  subst hz
  have HR1 : Hid (RR = match creF bs k1 with | .er y a => .er y a | .ok x k2 => match cntF bs k2 with | .er y a => .er y a | .ok n k3 => match labsF bs n k3 with | .er y a => .er y a | .ok L k4 => .ok ⟨x.1, x.2, 0, 0, 0, L.length, 0, none, none, L⟩ k4) := by
    rw [Hid, HRR.out, elmF]
    simp only [HE.out]
    rfl
  clear HRR HE
  go_wp2_with fail
  refine (aunless_ok _ _ _).mono ?_
  rintro e wS ⟨rfl, hwS⟩
  subst wS
  go_wp2_with fail
  refine (cread_any _ X S D c bs k1 HS6.out).mono ?_
  intro e w7 hp
  cases hr : creF bs k1 with
  | er y a =>
    have HE := Lib.hid hr
    rw [hr] at hp
    clear hr
    obtain ⟨rfl, ht⟩ := hp
    refine ⟨rfl, ?_⟩
    rw [show RR = Rs.er y a from (by rw [HR1.out]; simp only [HE.out])]
    exact ⟨rfl, HT6.out.trans ht⟩
  | ok x k2 =>
  have HE := Lib.hid hr
  rw [hr] at hp
  clear hr
  obtain ⟨op, a⟩ := x
  obtain ⟨DI, cI, rfl, hs7, ht7⟩ := hp
  have HR2 : Hid (RR = match cntF bs k2 with | .er y a => .er y a | .ok n k3 => match labsF bs n k3 with | .er y a => .er y a | .ok L k4 => .ok ⟨op, a, 0, 0, 0, L.length, 0, none, none, L⟩ k4) := by
    rw [Hid, HR1.out]
    simp only [HE.out]
  have HB7 := Lib.hid ((HB6.out.step ht7 hRX).alloc (.cells (elmX op a 0 DI 0 cI (.slice none 0 0)) 136))
  have HI7 := Lib.hid (Blk.new w7 136 (elmX op a 0 DI 0 cI (.slice none 0 0)))
  have HS7 := Lib.hid (hs7.alloc (.cells (elmX op a 0 DI 0 cI (.slice none 0 0)) 136))
  have HT7 := Lib.hid ((HT6.out.trans ht7).alloc (.cells (elmX op a 0 DI 0 cI (.slice none 0 0)) 136))
  have hRI : R < w7.heap.size := by have := HB6.out.lt; have := ht7.size; omega
  have hXI : X < w7.heap.size := by have := HS6.out.lt; have := ht7.size; omega
  have hIw : w.heap.size ≤ w7.heap.size := (HT6.out.trans ht7).size
  clear hs7 ht7 HB6 HS6 HT6 HR1 HE
  simp only [insC]
  go_wp2_with fail
  have hW2 : w7.alloc (.cells #[.int .u8 (op : Int), .int .u64 (a : Int), .int .u64 0, .slice DI 0 cI, .slice none 0 0] 136) = w7.alloc (.cells (elmX op a 0 DI 0 cI (.slice none 0 0)) 136) := rfl
  rw [hW2]
  obtain ⟨I, hI⟩ : ∃ I, I = w7.heap.size := ⟨_, rfl⟩
  obtain ⟨W, hW⟩ : ∃ W, W = w7.alloc (.cells (elmX op a 0 DI 0 cI (.slice none 0 0)) 136) := ⟨_, rfl⟩
  rw [← hI] at HI7 hRI hXI hIw ⊢
  rw [← hW] at HB7 HI7 HS7 HT7 ⊢
  have hIS : ∀ j, S j → j ≠ I := fun j hj => by have := hlow j hj; omega
  have hIX : I ≠ X := by omega
  have hRI2 : R ≠ I := by omega
  clear hW hI hW2
  refine (count_any _ X S D c bs k2 HS7.out).mono ?_
  intro e w9 hp
  cases hr : cntF bs k2 with
  | er y a2 =>
    have HE := Lib.hid hr
    rw [hr] at hp
    clear hr
    obtain ⟨rfl, ht⟩ := hp
    refine ⟨rfl, ?_⟩
    rw [show RR = Rs.er y a2 from (by rw [HR2.out]; simp only [HE.out])]
    exact ⟨rfl, HT7.out.trans ht⟩
  | ok n k3 =>
    have HE := Lib.hid hr
    have hlt9 := cntF_le hr
    rw [hr] at hp
    clear hr
    obtain ⟨rfl, hs, ht⟩ := hp
    have HR4 : Hid (RR = match labsF bs n k3 with | .er y a => .er y a | .ok L k4 => .ok ⟨op, a, 0, 0, 0, L.length, 0, none, none, L⟩ k4) := by
      rw [Hid, HR2.out]
      simp only [HE.out]
    have HB9 := Lib.hid (HB7.out.step ht hRX)
    have HI9 : Hid (Blk w9 I 136 #[.int .u8 (op : Int), .int .u64 (a : Int), .int .u64 0, .slice DI 0 cI, .slice none 0 0]) := HI7.out.step ht hIX
    have HS9 := Lib.hid hs
    have HT9 := Lib.hid (HT7.out.trans ht)
    clear hs ht HB7 HI7 HS7 HT7 HR2 HE
    have HO9 : Hid (w9.ownsRow w.heap.size 51 1 (.slice none 0 0) 0 (u32s [])) := World.ownsRow_nil _ _ _ _
    have HL9 : Hid (labsF bs n k3 = preL [] (labsF bs (n - 0) k3)) := by rw [Hid, Nat.sub_zero]; cases labsF bs n k3 <;> rfl
    have hw9 := HT9.out.size
    go_wp2_with fail
    go_loopw [17] (fun iv wr => ∃ (j c2 : Nat) (D2 : Option Addr) (L : List Nat) (p : Nat), j ≤ n ∧ L.length = j ∧ iv = .int .i64 (j : Int) ∧ Hid (Blk wr R 136 (elmC 0 0 (.slice none 0 0))) ∧ Hid (Blk wr I 136 #[.int .u8 (op : Int), .int .u64 (a : Int), .int .u64 0, .slice DI 0 cI, .slice D2 j c2]) ∧
      Hid (wr.ownsRow w.heap.size 51 1 (.slice D2 j c2) j (u32s L)) ∧ Hid (Scn wr X S D c bs p) ∧ Hid (Step (fun i => i = X) w wr) ∧ Hid (labsF bs n k3 = preL L (labsF bs (n - j) p))) (fun iv _ => n + 1 - (intOf iv).toNat)
    case atStart => exact ⟨0, 0, none, [], k3, by omega, rfl, rfl, HB9, HI9, HO9, HS9, HT9, HL9⟩
    case round =>
      obtain ⟨j, c2, D2, L, p, hj, hLj, rfl, HBj, HIj, HOj, HKj, HTj, HLb⟩ := hrel
      have HLj := Lib.hid hLj
      clear HO9 HI9 HS9 HL9 hLj HB9 HT9
      by_cases hlt : j < n
      · have g1 : (j : Int) < (n : Int) := by omega
        have hw1 := IntWalk.i64_in ((j : Int) + 1) (by omega)
        have i3 := HIj.out.cell 4
        simp at i3
        have hDI : blkOf D2 ≠ some I := by rw [← ownBlock_slice D2 j c2]; exact own_tag HOj.out HIj.out (by decide)
        have hDX : blkOf D2 ≠ some X := by rw [← ownBlock_slice D2 j c2]; exact own_tag HOj.out HKj.out.blk (by decide)
        have hDR : blkOf D2 ≠ some R := by rw [← ownBlock_slice D2 j c2]; exact own_tag HOj.out HBj.out (by decide)
        have hDge : ∀ q, blkOf D2 = some q → w.heap.size ≤ q := fun q hq => own_ge HOj.out q (by rw [ownBlock_slice]; exact hq)
        obtain ⟨F, hF⟩ : ∃ F : Nat → Prop, F = fun q => q = X ∨ blkOf D2 = some q := ⟨_, rfl⟩
        have HFI : ¬ F I := by rw [hF]; intro h; exact h.elim hIX hDI
        have d3 := cls_cell (F := F) (w0 := wr) i3 HFI
        have hIl := HIj.out.lt
        have HF := Lib.hid hF
        have HNj : Hid (n - j = n - (j + 1) + 1) := by rw [Hid]; omega
        have HLs : Hid (labsF bs (n - j) p = match idxF bs p with | .er y a => .er y a | .ok v k' => match labsF bs (n - (j + 1)) k' with | .er y a => .er y a | .ok L k2 => .ok (v :: L) k2) := by rw [Hid, HNj.out]; rfl
        clear i3 hF
        go_wp2_with fail
        cases hr : idxF bs p with
        | er y a2 =>
          have HX := Lib.hid hr
          clear hr
          refine Mix.wp_region_die [3, 4, 5, 7] [3, 4, 5] [0, 1, 2] 3 (Step F wr) (by kernel_rfl) (by kernel_rfl) (by rfl) Step.refl.drew (fun c a d v w h => by cases d <;> exact h) (fun hcls => ?_)
          refine Mix.wpM_reads [0, 1, 2] [] (by kernel_rfl) ?_
          simp only [List.flatMap_cons, List.flatMap_nil, List.getElem?_cons_succ, List.getElem?_cons_zero, Option.toList_some, List.cons_append, List.nil_append]
          repeat (go_big_quiet_step (fail))
          refine wpQuiet_nil ?_
          refine Mix.wpM_die ⟨by rfl, ?_⟩
          go_simp
          refine (index_any _ X S D c bs p (HKj.out.quiet Step.refl.drew)).mono ?_
          intro e wa hp
          rw [HX.out] at hp
          obtain ⟨rfl, hta⟩ := hp
          refine ⟨rfl, ?_⟩
          rw [show RR = Rs.er y a2 from (by rw [HR4.out]; simp only [HLb.out, HLs.out, HX.out, preL])]
          exact ⟨rfl, (HTj.out.drew).trans hta⟩
        | ok x q =>
          have HX := Lib.hid hr
          have hxb := idxF_lt hr
          clear hr
          refine Mix.wp_region_mix [3, 4, 5, 7] [3, 4, 5] (Step F wr) (by kernel_rfl) (by kernel_rfl) Step.refl.drew (fun hcls => ?_)
          refine Mix.wpL_reads 3 (by rfl) ?_
          simp only [List.take_succ_cons, List.drop_succ_cons, List.take_zero, List.drop_zero]
          repeat (go_big_quiet_step (fail))
          refine wpQuiet_nil ?_
          refine Mix.wpL_op (by rfl) (fun K hK => ?_)
          go_simp
          refine (index_any _ X S D c bs p (HKj.out.quiet Step.refl.drew)).mono ?_
          intro e wa hp
          rw [HX.out] at hp
          obtain ⟨rfl, hsa, hta⟩ := hp
          have HTa : Hid (Step F wr wa) := Lib.hid ((Step.refl.drew).trans (hta.mono fun q _ hq => by rw [HF.out]; exact .inl hq))
          refine hK _ _ (fun hlt => Mix.cl HTa.out) ?_
          clear hK K
          refine Mix.wpL_op (by rfl) (fun K hK => ?_)
          go_simp
          refine hK _ _ (fun hlt => Mix.cl (HTa.out.alloc _)) ?_
          clear hK K
          have hOa : (wa.alloc (.cells #[.int .u32 (x : Int)] 51)).ownsRow w.heap.size 51 1 (.slice D2 j c2) j (u32s L) :=
            (own_step (own_drew HOj.out) hta (fun q hq e => hDX (by rw [← ownBlock_slice D2 j c2, hq, e]))).alloc _
          have HIa := Lib.hid ((HIj.out.drew.step hta hIX).alloc (.cells #[.int .u32 (x : Int)] 51))
          have HBa := Lib.hid ((HBj.out.drew.step hta hRX).alloc (.cells #[.int .u32 (x : Int)] 51))
          have HKa := Lib.hid (hsa.alloc (.cells #[.int .u32 (x : Int)] 51))
          have HTw := Lib.hid (((HTj.out.drew).trans hta).alloc (.cells #[.int .u32 (x : Int)] 51))
          have HTa2 := Lib.hid (HTa.out.alloc (.cells #[.int .u32 (x : Int)] 51))
          have hsz2 := HTw.out.size
          have hsza : wr.heap.size ≤ wa.heap.size := hta.size
          have hszb : (wa.alloc (.cells #[.int .u32 (x : Int)] 51)).heap.size = wa.heap.size + 1 := by simp
          clear hsa hta HTa
          have hone : ∀ u ∈ #[Value.int .u32 (x : Int)].toList, u.oneCell' = true := by simp [Value.oneCell']
          have hm : j + 1 ≤ maxLen := by unfold maxLen; omega
          refine Mix.wpL_op (by rfl) (fun K hK => ?_)
          refine step_append_src _ (by rfl) _ _ (by rfl) E_u32 (by rfl) hOa (by rfl) (reads_new _ #[Value.int .u32 (x : Int)] 51 1 1 rfl) hone hm (by omega) hsz2 ?_
          intro D3 c3 w3 hown3 hgrow3 hat3
          have HI3 := Lib.hid (HIa.out.grown hgrow3 hDI)
          have HB3 := Lib.hid (HBa.out.grown hgrow3 hDR)
          have HK3 := Lib.hid (HKa.out.step (F := fun q => blkOf D2 = some q) (Step.refl.grown hgrow3 (fun q hq => .inl hq)) hDX (fun q hq hd => by have := hlow q hq; have := hDge q hd; omega))
          have HT3 := Lib.hid (HTw.out.grown hgrow3 (fun q hq => .inr (hDge q hq)))
          have HTF := Lib.hid (HTa2.out.grown hgrow3 (fun q hq => .inl (by rw [HF.out]; exact .inr hq)))
          refine hK _ _ (fun hlt => Mix.cl HTF.out) ?_
          clear hK K hgrow3 HTa2 HTw HKa HBa HIa hOa
          simp only [Act.put, List.setIfInBounds_toArray, List.set_cons_succ, List.set_cons_zero]
          refine Mix.wpL_reads 1 (by rfl) ?_
          simp only [List.take_succ_cons, List.drop_succ_cons, List.take_zero, List.drop_zero]
          repeat (go_big_quiet_step (fail))
          refine wpQuiet_nil ?_
          have zz := HI3.out.frozen 4
          have cc := HI3.out.cell 4
          simp at cc
          have hHat : blkOf D3 = some I → False := fun e => by
            rcases hat3 with h3 | h3
            · exact hDI (h3 ▸ e)
            · rw [h3, hszb] at e
              injection e with e
              omega
          have HI4 : Hid (Blk (w3.setCell ⟨I, 4, none⟩ (.slice D3 (j + 1) c3)) I 136 #[.int .u8 (op : Int), .int .u64 (a : Int), .int .u64 0, .slice DI 0 cI, .slice D3 (j + 1) c3]) := by
            have hq := HI3.out.set_ 4 (.slice D3 (j + 1) c3)
            simp at hq
            exact hq
          have HB4 := Lib.hid (HB3.out.far (p := ⟨I, 4, none⟩) hRI2 (.slice D3 (j + 1) c3))
          have hst4 : Step (fun j => j = I) w3 (w3.setCell ⟨I, 4, none⟩ (.slice D3 (j + 1) c3)) := (Step.refl (F := fun j => j = I)).setCell (p := ⟨I, 4, none⟩) (.inl rfl) _
          have HK4 := Lib.hid (HK3.out.step hst4 (Ne.symm hIX) hIS)
          have HT4 := Lib.hid (HT3.out.setCell (p := ⟨I, 4, none⟩) (.inr hIw) (.slice D3 (j + 1) c3))
          have HO4 := Lib.hid (own_set hown3 (p := ⟨I, 4, none⟩) (by rw [ownBlock_slice]; exact fun e => hHat e) (.slice D3 (j + 1) c3))
          refine Mix.wpL_op (by rfl) (fun K hK => ?_)
          go_simp
          refine hK _ _ (fun hlt => absurd hlt (by decide)) ?_
          clear hK K
          refine Mix.wpL_end ?_
          have hus : u32s L ++ #[Value.int .u32 (x : Int)].toList = u32s (L ++ [x]) := by rw [u32s_append]; rfl
          rw [hus] at HO4
          have HLb2 : Hid (labsF bs n k3 = preL (L ++ [x]) (labsF bs (n - (j + 1)) q)) := by
            rw [Hid, HLb.out, HLs.out, HX.out]
            simp only
            cases labsF bs (n - (j + 1)) q <;> simp [preL]
          have HLj2 : Hid ((L ++ [x]).length = j + 1) := by rw [Hid, List.length_append, HLj.out]; rfl
          go_wp2_with fail
          go_roundw
          case rel => exact ⟨j + 1, c3, D3, L ++ [x], q, by omega, HLj2.out, by rw [Int.natCast_add]; rfl, HB4, HI4, HO4, HK4, HT4, HLb2⟩
          case measure => simp [intOf]; omega
      · obtain rfl : j = n := by omega
        have HRf : Hid (RR = .ok ⟨op, a, 0, 0, 0, L.length, 0, none, none, L⟩ p) := by
          rw [Hid, HR4.out, HLb.out, Nat.sub_self]
          show Rs.ok (⟨op, a, 0, 0, 0, (L ++ []).length, 0, none, none, L ++ []⟩ : El) p = _
          rw [List.append_nil]
        have hDI : blkOf D2 ≠ some I := by rw [← ownBlock_slice D2 j c2]; exact own_tag HOj.out HIj.out (by decide)
        have hDR : blkOf D2 ≠ some R := by rw [← ownBlock_slice D2 j c2]; exact own_tag HOj.out HBj.out (by decide)
        have y0 := HIj.out.cell 0
        have y1 := HIj.out.cell 1
        have y2 := HIj.out.cell 2
        have y3 := HIj.out.cell 3
        have y4 := HIj.out.cell 4
        simp at y0 y1 y2 y3 y4
        have hone : (elmX op a 0 DI 0 cI (.slice D2 j c2)).all (·.oneCell') = true := by simp [elmX, Value.oneCell']
        have hbl := HBj.out
        go_wp2_with (refine wpList_store_rowTo rfl 136 _ _ rfl rfl R (elmX op a 0 DI 0 cI (.slice D2 j c2)) rfl rfl 136 _ hbl rfl rfl hone ?_)
        have r0 := (hbl.row (elmX op a 0 DI 0 cI (.slice D2 j c2))).cell 0
        have r1 := (hbl.row (elmX op a 0 DI 0 cI (.slice D2 j c2))).cell 1
        have r2 := (hbl.row (elmX op a 0 DI 0 cI (.slice D2 j c2))).cell 2
        have r3 := (hbl.row (elmX op a 0 DI 0 cI (.slice D2 j c2))).cell 3
        have r4 := (hbl.row (elmX op a 0 DI 0 cI (.slice D2 j c2))).cell 4
        simp [elmX] at r0 r1 r2 r3 r4
        have hst13 : Step (fun q => q = R) wr (wr.setRow R (elmX op a 0 DI 0 cI (.slice D2 j c2))) := Step.setRow (F := fun j => j = R) Step.refl (g := R) (.inl rfl) (elmX op a 0 DI 0 cI (.slice D2 j c2))
        have hSF := HKj.out.step hst13 (Ne.symm hRX) hRS
        have hTF := HTj.out.setRow (g := R) (.inr hRw) (elmX op a 0 DI 0 cI (.slice D2 j c2))
        have hOF := own_step HOj.out hst13 (fun q hq e => hDR (by rw [← ownBlock_slice D2 j c2, hq, e]))
        refine bodyPost_ret (v := .agg (elmX op a 0 DI 0 cI (.slice D2 j c2))) (by simp [results, Try.results93, go_sem, elmX, r0, r1, r2, r3, r4]) rfl ?_
        rw [HRf.out, HLj.out]
        exact ⟨⟨op, a, 0, 0, cI, j, c2, DI, D2, L⟩, rfl, rfl, hOF, hSF, hTF⟩
end Go.Proofs.Ytfemeendkjcffaa
/-! elems: GetAll of any bytes. -/
namespace Go.Proofs.Ytfemeendkjcffaa
open Go.RowKit

def ElsR (X : Nat) (w : World) (r : Rs (List El)) (e : Ending) (w' : World) : Prop :=
  match r with
  | .ok l _ => ∃ (l' : List El) (D' : Option Addr) (c' : Nat), l'.map El.sh = l ∧ e = .returned (.slice D' l'.length c') ∧ w'.ownsRow w.heap.size 136 5 (.slice D' l'.length c') l'.length (els l') ∧ (∀ x ∈ l', w'.ownsRow w.heap.size 51 1 (.slice x.FA x.m x.fc) x.m (u32s x.L)) ∧ Step (fun i => i = X) w w'
  | .er y a => e = .panicked (stopP (y : Int) (a : Int)) ∧ Step (fun i => i = X) w w'

set_option maxRecDepth 100000 in
set_option maxHeartbeats 6400000 in
theorem egall_any (w : World) (X : Nat) (S : Nat → Prop) (D : Option Addr) (c : Nat) (bs : List UInt8) (k : Nat) (h : Scn w X S D c bs k) :
    Calls Try.prog 98 #[.pointer (some ⟨X, 0, none⟩)] w (ElsR X w (allF (elmF bs) bs k)) := by
  have hxl := h.lt
  have hlow := h.low
  have HH := Lib.hid h
  obtain ⟨RR, hRR⟩ : ∃ RR, RR = allF (elmF bs) bs k := ⟨_, rfl⟩
  rw [← hRR]
  have HRR := Lib.hid hRR
  clear h hRR
  go_enter Try.func98, Try.ntmps98
  go_wp2_with fail
  refine (count_any _ X S D c bs k HH.out).mono ?_
  intro e w9 hp
  cases hr : cntF bs k with
  | er y a =>
    have HE := Lib.hid hr
    rw [hr] at hp
    clear hr
    obtain ⟨rfl, ht⟩ := hp
    refine ⟨rfl, ?_⟩
    rw [show RR = Rs.er y a from (by rw [HRR.out, allF]; simp only [HE.out])]
    exact ⟨rfl, ht⟩
  | ok n k1 =>
    have HE := Lib.hid hr
    have hnl := cntF_lt hr
    rw [hr] at hp
    clear hr
    obtain ⟨rfl, hs, ht⟩ := hp
    have HT9 := Lib.hid ht
    have HO9 : Hid (w9.ownsRow w.heap.size 136 5 (.slice none 0 0) 0 (els [])) := World.ownsRow_nil _ _ _ _
    have HK9 := Lib.hid hs
    have HR9 : Hid (RR = finG bs (preR (([] : List El).map El.sh) (readN (elmF bs) (n - 0) k1))) := by
      rw [Hid, HRR.out, allF]
      simp only [HE.out]
      rw [List.map_nil, preR_nil, Nat.sub_zero]
    clear hs ht HH HE HRR
    go_wp2_with fail
    go_loopw [3, 6] (fun ov iv wr => ∃ (j c2 : Nat) (D2 : Option Addr) (kj : Nat) (lj : List El), j ≤ n ∧ ov = .slice D2 j c2 ∧ iv = .int .i64 (j : Int) ∧ Hid (lj.length = j) ∧ Hid (RR = finG bs (preR (lj.map El.sh) (readN (elmF bs) (n - j) kj))) ∧
      Hid (wr.ownsRow w.heap.size 136 5 (.slice D2 j c2) j (els lj)) ∧ Hid (∀ x ∈ lj, wr.ownsRow w.heap.size 51 1 (.slice x.FA x.m x.fc) x.m (u32s x.L)) ∧ Hid (Scn wr X S D c bs kj) ∧ Hid (Step (fun i => i = X) w wr)) (fun _ iv _ => n + 1 - (intOf iv).toNat)
    case atStart => exact ⟨0, 0, none, k1, [], by omega, rfl, rfl, rfl, HR9, HO9, (fun x hx => by cases hx), HK9, HT9⟩
    case round =>
      obtain ⟨j, c2, D2, kj, lj, hj, rfl, rfl, HLj, HRj, HOj, HJj, HKj, HTj⟩ := hrel
      clear HO9 HK9 HR9
      by_cases hlt : j < n
      · have g1 : (j : Int) < (n : Int) := by omega
        have hw1 := IntWalk.i64_in ((j : Int) + 1) (by omega)
        have hDX : blkOf D2 ≠ some X := by rw [← ownBlock_slice D2 j c2]; exact own_tag HOj.out HKj.out.blk (by decide)
        have hDge : ∀ q, blkOf D2 = some q → w.heap.size ≤ q := fun q hq => own_ge HOj.out q (by rw [ownBlock_slice]; exact hq)
        have hnj : n - j = (n - (j + 1)) + 1 := by omega
        rw [hnj] at HRj
        clear hnj
        go_wp2_with fail
        refine (eget_any _ X S D c bs kj HKj.out).mono ?_
        intro e wa hp
        cases hr : elmF bs kj with
        | er y a =>
          have HE := Lib.hid hr
          rw [hr] at hp
          clear hr
          obtain ⟨rfl, hta⟩ := hp
          refine ⟨rfl, ?_⟩
          rw [show RR = Rs.er y a from (by rw [HRj.out, readN_er HE.out]; rfl)]
          exact ⟨rfl, HTj.out.trans hta⟩
        | ok x k2 =>
          have HE := Lib.hid hr
          rw [hr] at hp
          clear hr
          obtain ⟨⟨op, a, b, m, cc, fm, fc, B, FA, L⟩, hsh, rfl, hin, hsa, hta⟩ := hp
          have hin2 := own_base hin (base' := w.heap.size) (fun q hq => Nat.le_trans HTj.out.size (own_ge hin q hq))
          have HJa : Hid (∀ x ∈ lj, wa.ownsRow w.heap.size 51 1 (.slice x.FA x.m x.fc) x.m (u32s x.L)) := fun x hx => own_step (HJj.out x hx) hta (fun q hq e => own_tag (HJj.out x hx) HKj.out.blk (by decide) (e ▸ hq))
          have HNa := Lib.hid hin2
          clear hin hin2
          simp only [elmX]
          have HR2 : Hid (RR = finG bs (preR ((lj ++ [(⟨op, a, b, m, cc, fm, fc, B, FA, L⟩ : El)]).map El.sh) (readN (elmF bs) (n - (j + 1)) k2))) := by
            rw [Hid, HRj.out, readN_ok HE.out, List.map_append, List.map_cons, List.map_nil, hsh]
          have hOa : Hid ((wa.alloc (.cells #[.int .u8 (op : Int), .int .u64 (a : Int), .int .u64 (b : Int), .slice B m cc, .slice FA fm fc] 136)).ownsRow w.heap.size 136 5 (.slice D2 j c2) j (els lj)) :=
            (own_step HOj.out hta (fun q hq e => hDX (by rw [← ownBlock_slice D2 j c2, hq, e]))).alloc _
          have HKa := Lib.hid (hsa.alloc (.cells #[.int .u8 (op : Int), .int .u64 (a : Int), .int .u64 (b : Int), .slice B m cc, .slice FA fm fc] 136))
          have HTa := Lib.hid ((HTj.out.trans hta).alloc (.cells #[.int .u8 (op : Int), .int .u64 (a : Int), .int .u64 (b : Int), .slice B m cc, .slice FA fm fc] 136))
          have hrn := reads_new wa #[Value.int .u8 (op : Int), .int .u64 (a : Int), .int .u64 (b : Int), .slice B m cc, .slice FA fm fc] 136 5 1 rfl
          have hone : ∀ u ∈ #[Value.int .u8 (op : Int), .int .u64 (a : Int), .int .u64 (b : Int), .slice B m cc, .slice FA fm fc].toList, u.oneCell' = true := by simp [Value.oneCell']
          have hm : j + 1 ≤ maxLen := by unfold maxLen; omega
          have hsz := HTa.out.size
          clear hsa hta hsh HE HRj
          go_wp2_with (at_builtin; refine wpList_append_src _ rfl _ _ (by rfl) E_el (by rfl) hOa.out (by rfl) hrn hone hm (by omega) hsz ?_; intro D3 c3 w3 hown hgrow hat)
          have hkeep : ∀ (D : Option Addr) (n c : Nat) (xs : List Value), (wa.alloc (.cells #[.int .u8 (op : Int), .int .u64 (a : Int), .int .u64 (b : Int), .slice B m cc, .slice FA fm fc] 136)).ownsRow w.heap.size 51 1 (.slice D n c) n xs → w3.ownsRow w.heap.size 51 1 (.slice D n c) n xs := fun D n c xs h => own_apart h hgrow (fun q hq e => own_tag2 h hOa.out (by decide) q hq (by rw [ownBlock_slice]; exact e))
          have HJ4 : Hid (∀ x ∈ (lj ++ [(⟨op, a, b, m, cc, fm, fc, B, FA, L⟩ : El)]), w3.ownsRow w.heap.size 51 1 (.slice x.FA x.m x.fc) x.m (u32s x.L)) := fun x hx => by
            rcases List.mem_append.1 hx with hx | hx
            · exact hkeep _ _ _ _ ((HJa.out x hx).alloc _)
            · rw [List.mem_singleton] at hx
              subst hx
              exact hkeep _ _ _ _ (HNa.out.alloc _)
          have HK3 := Lib.hid (HKa.out.step (F := fun q => blkOf D2 = some q) (Step.refl.grown hgrow (fun q hq => .inl hq)) hDX (fun q hq hd => by have := hlow q hq; have := hDge q hd; omega))
          have HT3 := Lib.hid (HTa.out.grown hgrow (fun q hq => .inr (hDge q hq)))
          have hus : els lj ++ #[Value.int .u8 (op : Int), .int .u64 (a : Int), .int .u64 (b : Int), .slice B m cc, .slice FA fm fc].toList = els (lj ++ [(⟨op, a, b, m, cc, fm, fc, B, FA, L⟩ : El)]) := by rw [els_append]; rfl
          rw [hus] at hown
          have HL3 : Hid ((lj ++ [(⟨op, a, b, m, cc, fm, fc, B, FA, L⟩ : El)]).length = j + 1) := by rw [Hid, List.length_append, HLj.out]; rfl
          go_roundw
          case rel => exact ⟨j + 1, c3, D3, k2, _, by omega, rfl, by rw [Int.natCast_add]; rfl, HL3, HR2, hown, HJ4, HK3, HT3⟩
          case measure => simp [intOf]; omega
      · obtain rfl : j = n := by omega
        rw [Nat.sub_self, readN_zero] at HRj
        go_wp2_with fail
        refine (end_any _ X S D c bs kj HKj.out).mono ?_
        rw [endG_eq HKj.out.le]
        intro e wz hp
        cases hr : endG bs kj with
        | er y a =>
          have HE := Lib.hid hr
          rw [hr] at hp
          clear hr
          obtain ⟨rfl, hta⟩ := hp
          refine ⟨rfl, ?_⟩
          rw [show RR = Rs.er y a from (by rw [HRj.out, preR, finG]; simp only [HE.out])]
          exact ⟨rfl, HTj.out.trans hta⟩
        | ok u k3 =>
          have HE := Lib.hid hr
          rw [hr] at hp
          clear hr
          obtain ⟨rfl, hsa, hta⟩ := hp
          have HR3 : Hid (RR = .ok (lj.map El.sh) k3) := by
            rw [Hid, HRj.out, preR, finG, List.append_nil]
            simp only [HE.out]
          clear HRj HE
          go_wp2_with fail
          go_ret
          rw [HR3.out]
          have hOz := own_step HOj.out hta (fun q hq e => own_tag HOj.out HKj.out.blk (by decide) (by rw [hq, e]))
          have hIz : ∀ x ∈ lj, wz.ownsRow w.heap.size 51 1 (.slice x.FA x.m x.fc) x.m (u32s x.L) := fun x hx => own_step (HJj.out x hx) hta (fun q hq e => own_tag (HJj.out x hx) HKj.out.blk (by decide) (e ▸ hq))
          rw [← HLj.out] at hOz ⊢
          exact ⟨lj, D2, c2, rfl, rfl, hOz, hIz, HTj.out.trans hta⟩
end Go.Proofs.Ytfemeendkjcffaa
