/-
  Da: DaA, DaB, DaC, DaD.
-/
import Derived.Test.YtfemeendkjcffaaCrA
import Derived.Test.YtfemeendkjcffaaSaA
import Derived.Test.YtfemeendkjcffaaPw
set_option linter.unusedVariables false
set_option linter.unusedSimpArgs false
/-! scan.Bytes of what is there. -/
namespace Go.Proofs.Ytfemeendkjcffaa
open Go.RowKit

set_option maxRecDepth 100000 in
set_option maxHeartbeats 3200000 in
theorem bytes_ok (w : World) (X : Nat) (S : Nat → Prop) (D : Option Addr) (c : Nat) (bs : List UInt8) (k n : Nat) (h : Scn w X S D c bs k) (hn : k + n ≤ bs.length) (G : List UInt8) (hG : G = (bs.drop k).take n) :
    Calls Try.prog 179 #[.pointer (some ⟨X, 0, none⟩), .int .i64 (n : Int)] w fun e w' => ∃ D' c', e = .returned (.slice D' n c') ∧ w'.ownsRow w.heap.size 5 1 (.slice D' n c') n (u8s G) ∧ Scn w' X S D c bs (k + n) ∧ Step (fun i => i = X) w w' := by
  have HS := Lib.hid h
  have x1 := h.c1
  have hsh := h.short
  have hcap := h.cap
  have HL : Hid (∀ q, Calls Try.prog 79 #[.pointer (some ⟨X, 0, none⟩)] (w.drewN q) fun e w' => e = .returned (.int .i64 ((bs.length : Int) - (k : Int))) ∧ ∃ q', w' = (w.drewN q).drewN q') := fun q => left_walk _ X S D c bs k (HS.out.quiet (Step.refl.drewN q))
  have g0 : (0 : Int) ≤ (n : Int) := by omega
  have g0' : decide ((0 : Int) ≤ (n : Int)) = true := decide_eq_true g0
  have g1 : (n : Int) ≤ (bs.length : Int) - (k : Int) := by omega
  have g1' : decide ((n : Int) ≤ (bs.length : Int) - (k : Int)) = true := decide_eq_true g1
  have hw := IntWalk.i64_in ((k : Int) + (n : Int)) (by omega)
  clear h
  go_enter Try.func179, Try.ntmps179
  go_wp2_with fail
  refine (aunless_ok _ _ _).mono ?_
  rintro e wS ⟨rfl, hwS⟩
  obtain rfl : w = wS := hwS.symm
  go_wp2_with fail
  go_quiet (first | (go_at_call 79; exact Calls.quiet_of (HL.out _)) | (go_at_call 143; exact Calls.quiet_of_same (aunless_ok _ _ _)))
  have HS1 := Lib.hid (HS.out.quiet (Step.refl.drewN nq))
  have hT1 : Step (fun i => i = X) w (w.drewN nq) := Step.refl.drewN nq
  obtain ⟨W, hW⟩ : ∃ W, W = w.drewN nq := ⟨_, rfl⟩
  rw [← hW] at HS1 hT1 ⊢
  have HT1 := Lib.hid hT1
  clear hT1 hW HL HS x1
  have x1 := HS1.out.c1
  have z1 := HS1.out.nz 1
  have HS2 := Lib.hid (HS1.out.set_ (k' := k + n) (by omega))
  have HT2 := Lib.hid (HT1.out.setCell (p := ⟨X, 1, none⟩) (.inl rfl) (.int .i64 ((k + n : Nat) : Int)))
  have e1 : ((k + n : Nat) : Int) = (k : Int) + (n : Int) := by omega
  rw [e1] at HS2 HT2
  go_wp2_with fail
  obtain ⟨V, hV⟩ : ∃ V, V = W.setCell ⟨X, 1, none⟩ (.int .i64 ((k : Int) + (n : Int))) := ⟨_, rfl⟩
  rw [← hV] at HS2 HT2 ⊢
  clear hV x1 z1 HS1 HT1
  have y0 := HS2.out.c0
  have y1 := HS2.out.c1
  rw [e1] at y1
  have d0 := cls_cell (F := fun _ => False) (w0 := V) y0 id
  have d1 := cls_cell (F := fun _ => False) (w0 := V) y1 id
  have hw2 : IntKind.i64.wrap ((k : Int) + (n : Int) - (n : Int)) = (k : Int) := by rw [IntKind.wrap_i64]; omega
  have hw3 : (k : Int) + (n : Int) - (n : Int) = (k : Int) := by omega
  have hsl := slice_lhn (P := Try.prog) E_u8 D bs.length c .i64 .i64 (k : Int) ((k : Int) + (n : Int)) k (k + n) n (c - k) rfl (by omega) (by omega) (by omega) (by omega) rfl
  have hrt : Reads V S 1 (cutA D c k 1) n (u8s G) := by
    have h4 := (HS2.out.rd.cut (k := k) (by omega) hcap).take (k := n) (by omega)
    rw [Nat.mul_one, Nat.mul_one, ← u8s_drop, ← u8s_take, ← hG] at h4
    unfold cutA
    rw [Nat.mul_one]
    exact h4
  have HRt := Lib.hid hrt
  obtain ⟨A, hA⟩ : ∃ A, A = cutA D c k 1 := ⟨_, rfl⟩
  rw [← hA] at hsl HRt
  clear hA hrt y0 y1 hG
  refine Mix.wp_region_mix [0, 16] [0, 16] (Step (fun _ => False) V) (by kernel_rfl) (by kernel_rfl) Step.refl.drew (fun hcls => ?_)
  refine Mix.wpL_op (by rfl) (fun K hK => ?_)
  go_simp
  refine hK _ _ (fun hlt => Mix.cl (by first | exact (Step.refl.alloc _).drew | exact (Step.refl.drew).alloc _)) ?_
  clear hK K
  refine Mix.wpL_reads 15 (by rfl) ?_
  simp only [List.take_succ_cons, List.drop_succ_cons, List.take_zero, List.drop_zero]
  repeat (go_big_quiet_step (fail))
  refine wpQuiet_nil ?_
  have hfr := own_drew (own_fresh (w := V) (e := 5) (base := V.heap.size) 1 (Nat.le_refl _))
  have hrd := (HRt.out.step (Step.refl.alloc (F := fun _ => False) (w := V) (.cells #[] 5)) (fun _ _ => id)).drew
  have hone := u8s_one G
  have hm : 0 + n ≤ maxLen := by unfold maxLen; omega
  refine Mix.wpL_op (by rfl) (fun K hK => ?_)
  refine step_append_src _ (by rfl) _ _ (by rfl) E_u8 (by rfl) hfr (by rfl) hrd hone hm (by omega) (by simp) ?_
  intro D9 c9 w9 hown hgrow hat
  rw [Nat.zero_add, List.nil_append] at hown
  have HO9 := Lib.hid hown
  have HG9 : Hid (Step (fun _ => False) V w9) := grow_step (Step.drew (Step.refl.alloc _)) hgrow hfr (Nat.le_refl _)
  refine hK _ _ (fun hlt => Mix.cl HG9.out) ?_
  clear hK K hgrow hown hfr hrd
  simp only [Act.put, List.setIfInBounds_toArray, List.set_cons_succ, List.set_cons_zero]
  refine Mix.wpL_reads 1 (by rfl) ?_
  simp only [List.take_succ_cons, List.drop_succ_cons, List.take_zero, List.drop_zero]
  repeat (go_big_quiet_step (fail))
  refine wpQuiet_nil ?_
  refine Mix.wpL_end ?_
  go_wp2_with fail
  refine bodyPost_ret (v := .slice D9 n c9) (by simp [results, Try.results179, go_sem]) rfl ?_
  refine ⟨D9, c9, rfl, own_base HO9.out (fun q hq => Nat.le_trans HT2.out.size (own_ge HO9.out q hq)), HS2.out.quiet HG9.out, HT2.out.trans' HG9.out (fun _ h => h.elim)⟩
end Go.Proofs.Ytfemeendkjcffaa
/-! datas: Get of what may be. -/
namespace Go.Proofs.Ytfemeendkjcffaa
open Go.RowKit

/-- The cells of a row of bytes. -/
def datC (op a : Int) (s : ByteArray) : Array Value := #[.int .u8 op, .int .u64 a, .int .u64 0, .slice none 0 0, .string s]
theorem datC_one (op a : Int) (s : ByteArray) : (datC op a s).all (·.oneCell') = true := by simp [datC, Value.oneCell']
def dputL (op a : Nat) (ds : List UInt8) : List UInt8 := UInt8.ofNat 0 :: (cputL op a ++ (uintF ds.length ++ ds))

set_option maxRecDepth 100000 in
set_option maxHeartbeats 6400000 in
theorem dget_ok (w : World) (X : Nat) (S : Nat → Prop) (D : Option Addr) (c : Nat) (bs : List UInt8) (k : Nat) (h : Scn w X S D c bs k) (op a : Nat) (ds rest : List UInt8) (hok : ConstOk op a) (ha : a < 18446744073709551616) (hl : ds.length ≤ 1000) (hd : bs.drop k = dputL op a ds ++ rest) :
    Calls Try.prog 109 #[.pointer (some ⟨X, 0, none⟩)] w fun e w' => e = .returned (.agg (datC (op : Int) (a : Int) (str ds))) ∧ Scn w' X S D c bs (k + (dputL op a ds).length) ∧ Step (fun i => i = X) w w' := by
  have hop : op < 256 := by rcases hok with ⟨rfl, h⟩ | ⟨rfl, h⟩ | rfl <;> decide
  have hd0 : bs.drop k = UInt8.ofNat 0 :: (cputL op a ++ (uintF ds.length ++ (ds ++ rest))) := by rw [hd, dputL]; simp
  have hd1 := (drop_cons hd0).2.2
  have hd2 := drop_app hd1
  have hd3 := drop_app hd2
  have hlen : k + (dputL op a ds).length = k + 1 + (cputL op a).length + (uintF ds.length).length + ds.length := by rw [dputL]; simp; omega
  have hbl : k + 1 + (cputL op a).length + (uintF ds.length).length + ds.length ≤ bs.length := by
    have h4 := congrArg List.length hd3
    rw [List.length_drop, List.length_append] at h4
    by_cases h5 : ds.length = 0
    · have h6 := congrArg List.length hd2
      rw [List.length_drop, List.length_append] at h6
      have h7 := (rdU_back ds.length (ds ++ rest) (by omega)).2.1
      omega
    · omega
  have HGe := Lib.hid (fun w' (h' : Scn w' X S D c bs (k + 1)) => cread_ok w' X S D c bs (k + 1) h' op a _ hok ha hd1)
  have HBy := Lib.hid (fun w' (h' : Scn w' X S D c bs (k + 1 + (cputL op a).length + (uintF ds.length).length)) => bytes_ok w' X S D c bs _ ds.length h' hbl ds (by rw [hd3, List.take_left]))
  have HIx := Lib.hid (fun w' (h' : Scn w' X S D c bs (k + 1 + (cputL op a).length)) => index_at h' (v := ds.length) (by omega) hd2)
  obtain ⟨k2, hk2⟩ : ∃ k2, k2 = k + 1 + (cputL op a).length := ⟨_, rfl⟩
  rw [hlen]
  rw [← hk2] at HGe HBy HIx hbl ⊢
  obtain ⟨k3, hk3⟩ : ∃ k3, k3 = k2 + (uintF ds.length).length := ⟨_, rfl⟩
  rw [← hk3] at HBy HIx hbl ⊢
  have hxl := h.lt
  have hlow := h.low
  have hsh := h.short
  have HH := Lib.hid h
  obtain ⟨n, hn⟩ : ∃ n, n = ds.length := ⟨_, rfl⟩
  rw [← hn] at HBy HIx hbl hl ⊢
  have HN := Lib.hid hn
  have hwn := IntWalk.u64_in (n : Int) (by omega)
  have hwn2 := IntWalk.i64_in (n : Int) (by omega)
  clear h hd hd1 hd2 hd3 hlen hk2 hk3 hn
  go_enter Try.func109, Try.ntmps109
  go_wp2_with fail
  refine (at_walk _ X S D c bs k (HH.out.alloc _)).mono ?_
  rintro e w5 ⟨rfl, hw5⟩
  have HB5 := Lib.hid (Blk.new w 156 (datC 0 0 ⟨#[]⟩))
  have HS5 := Lib.hid (HH.out.alloc (.cells (datC 0 0 ⟨#[]⟩) 156))
  have HT5 := Lib.hid ((Step.refl (F := fun i => i = X)).alloc (w := w) (.cells (datC 0 0 ⟨#[]⟩) 156))
  rw [show w.alloc (.cells (datC 0 0 ⟨#[]⟩) 156) = w5 from hw5.symm] at HB5 HS5 HT5
  obtain ⟨R, hR⟩ : ∃ R, R = w.heap.size := ⟨_, rfl⟩
  have hRX : R ≠ X := by omega
  have hRw : w.heap.size ≤ R := by omega
  have hRS : ∀ j, S j → j ≠ R := fun j hj => by have := hlow j hj; omega
  rw [← hR] at HB5 ⊢
  clear hR hxl hw5 HH
  go_wp2_with fail
  refine (byte_at (b := 0) HS5.out (by decide) hd0).mono ?_
  rintro e w6 ⟨rfl, hs, ht⟩
  have HB6 := Lib.hid (HB5.out.step ht hRX)
  have HS6 := Lib.hid hs
  have HT6 := Lib.hid (HT5.out.trans ht)
  clear hs ht HB5 HS5 HT5 hd0
  go_wp2_with fail
  refine (aunless_ok _ _ _).mono ?_
  rintro e wS ⟨rfl, rfl⟩
  go_wp2_with fail
  refine (HGe.out _ HS6.out).mono ?_
  rintro e w7 ⟨rfl, hs7, ht7⟩
  have HB7 := Lib.hid ((HB6.out.step ht7 hRX).alloc (.cells (datC (op : Int) (a : Int) ⟨#[]⟩) 156))
  have HI7 := Lib.hid (Blk.new w7 156 (datC (op : Int) (a : Int) ⟨#[]⟩))
  have HS7 := Lib.hid (hs7.alloc (.cells (datC (op : Int) (a : Int) ⟨#[]⟩) 156))
  have HT7 := Lib.hid ((HT6.out.trans ht7).alloc (.cells (datC (op : Int) (a : Int) ⟨#[]⟩) 156))
  have hRI : R < w7.heap.size := by have := HB6.out.lt; have := ht7.size; omega
  have hXI : X < w7.heap.size := by have := HS6.out.lt; have := ht7.size; omega
  have hIw : w.heap.size ≤ w7.heap.size := (HT6.out.trans ht7).size
  clear hs7 ht7 HB6 HS6 HT6 HGe
  simp only [insC]
  go_wp2_with fail
  have hW2 : w7.alloc (.cells #[.int .u8 (op : Int), .int .u64 (a : Int), .int .u64 0, .slice none 0 0, .string ⟨#[]⟩] 156) = w7.alloc (.cells (datC (op : Int) (a : Int) ⟨#[]⟩) 156) := rfl
  rw [hW2]
  obtain ⟨I, hI⟩ : ∃ I, I = w7.heap.size := ⟨_, rfl⟩
  obtain ⟨W, hW⟩ : ∃ W, W = w7.alloc (.cells (datC (op : Int) (a : Int) ⟨#[]⟩) 156) := ⟨_, rfl⟩
  rw [← hI] at HI7 hRI hXI hIw ⊢
  rw [← hW] at HB7 HI7 HS7 HT7 ⊢
  have hIS : ∀ j, S j → j ≠ I := fun j hj => by have := hlow j hj; omega
  have hIX : I ≠ X := by omega
  have hRI2 : R ≠ I := by omega
  clear hW hI hW2
  refine (HIx.out _ HS7.out).mono ?_
  rintro e w8 ⟨rfl, hs, ht⟩
  have HB8 := Lib.hid (HB7.out.step ht hRX)
  have HI8 := Lib.hid (HI7.out.step ht hIX)
  have HS8 := Lib.hid hs
  have HT8 := Lib.hid (HT7.out.trans ht)
  clear hs ht HB7 HI7 HS7 HT7 HIx
  go_wp2_with fail
  refine (left_walk _ X S D c bs k3 HS8.out).mono ?_
  rintro e w9 ⟨rfl, q, rfl⟩
  have HB9 := Lib.hid (HB8.out.drewN q)
  have HI9 := Lib.hid (HI8.out.drewN q)
  have HS9 := Lib.hid (HS8.out.quiet (Step.refl.drewN q))
  have HT9 := Lib.hid (HT8.out.drewN q)
  obtain ⟨V, hV⟩ : ∃ V, V = w8.drewN q := ⟨_, rfl⟩
  rw [← hV] at HB9 HI9 HS9 HT9 ⊢
  clear hV HB8 HI8 HS8 HT8
  have hwl := IntWalk.u64_in ((bs.length : Int) - (k3 : Int)) (by omega)
  have g1 : (n : Int) ≤ (bs.length : Int) - (k3 : Int) := by omega
  have g1' : decide ((n : Int) ≤ (bs.length : Int) - (k3 : Int)) = true := decide_eq_true g1
  go_wp2_with fail
  refine (at_walk _ X S D c bs k3 HS9.out).mono ?_
  rintro e wS ⟨rfl, rfl⟩
  go_wp2_with fail
  refine (aunless_ok _ _ _).mono ?_
  rintro e wS ⟨rfl, rfl⟩
  go_wp2_with fail
  refine (HBy.out _ HS9.out).mono ?_
  rintro e w10 ⟨D', c', rfl, hown, hs, ht⟩
  have HB10 := Lib.hid (HB9.out.step ht hRX)
  have HI10 := Lib.hid (HI9.out.step ht hIX)
  have HS10 := Lib.hid hs
  have HT10 := Lib.hid (HT9.out.trans ht)
  have hcv := conv_bytes (c := c') (Reads.of_own hown)
  clear hs ht hown HB9 HI9 HS9 HT9 HBy
  obtain ⟨s, hs⟩ : ∃ s, s = str ds := ⟨_, rfl⟩
  rw [← hs] at hcv
  have HSt := Lib.hid hs
  clear hs
  have zz := HI10.out.frozen 4
  have cc := HI10.out.cell 4
  simp [datC] at cc
  have HI11 : Hid (Blk (w10.setCell ⟨I, 4, none⟩ (.string s)) I 156 (datC (op : Int) (a : Int) s)) := by
    have hq := HI10.out.set_ 4 (.string s)
    simp [datC] at hq
    exact hq
  have HB11 := Lib.hid (HB10.out.far (p := ⟨I, 4, none⟩) hRI2 (.string s))
  have hst11 : Step (fun j => j = I) w10 (w10.setCell ⟨I, 4, none⟩ (.string s)) := (Step.refl (F := fun j => j = I)).setCell (p := ⟨I, 4, none⟩) (.inl rfl) _
  have HS11 := Lib.hid (HS10.out.step hst11 (Ne.symm hIX) hIS)
  have HT11 := Lib.hid (HT10.out.setCell (p := ⟨I, 4, none⟩) (.inr hIw) (.string s))
  have y0 := HI11.out.cell 0
  have y1 := HI11.out.cell 1
  have y2 := HI11.out.cell 2
  have y3 := HI11.out.cell 3
  have y4 := HI11.out.cell 4
  simp [datC] at y0 y1 y2 y3 y4
  have hone := datC_one (op : Int) (a : Int) s
  have hbl := HB11.out
  go_wp2_with (refine wpList_store_rowTo rfl 156 _ _ rfl rfl R (datC (op : Int) (a : Int) s) rfl rfl 156 _ hbl rfl rfl hone ?_)
  have r0 := (hbl.row (datC (op : Int) (a : Int) s)).cell 0
  have r1 := (hbl.row (datC (op : Int) (a : Int) s)).cell 1
  have r2 := (hbl.row (datC (op : Int) (a : Int) s)).cell 2
  have r3 := (hbl.row (datC (op : Int) (a : Int) s)).cell 3
  have r4 := (hbl.row (datC (op : Int) (a : Int) s)).cell 4
  simp [datC] at r0 r1 r2 r3 r4
  have hSF := HS11.out.step (Step.setRow (F := fun j => j = R) Step.refl (g := R) (.inl rfl) (datC (op : Int) (a : Int) s)) (Ne.symm hRX) hRS
  have hTF := HT11.out.setRow (g := R) (.inr hRw) (datC (op : Int) (a : Int) s)
  exact bodyPost_ret (v := .agg (datC (op : Int) (a : Int) s)) (by simp [results, Try.results109, go_sem, datC, r0, r1, r2, r3, r4]) rfl ⟨by rw [HSt.out], hSF, hTF⟩
end Go.Proofs.Ytfemeendkjcffaa
/-! abort: Value of a row of bytes, where nothing is given up. -/
namespace Go.Proofs.Ytfemeendkjcffaa
open Go.RowKit

section
variable (h : FuncId) (caps : Array Value) (w : World) (F : Nat → Prop) (Q : World → World → Prop) (op a : Int) (s : ByteArray) (hcf : ∀ w : World, (callFunc h caps).run Try.prog w = .ok (.enter h caps) w)
include hcf

set_option maxRecDepth 100000 in
set_option maxHeartbeats 1600000 in
theorem dclo_ok (fb vb : Nat) (H : Calls Try.prog h caps w fun e w' => e = .returned (.agg (datC op a s)) ∧ Step F w w' ∧ Q w w') (hf : Blk w fb 163 #[.func (.func h) #[] caps]) (hv : Blk w vb 156 (datC 0 0 ⟨#[]⟩)) (hFv : ¬ F vb) :
    Calls Try.prog 178 #[.pointer (some ⟨fb, 0, none⟩), .pointer (some ⟨vb, 0, none⟩)] w fun e w' => e = .returned (.tuple #[]) ∧ ∃ w1, Step F w w1 ∧ Q w w1 ∧ Blk w' vb 156 (datC op a s) ∧ Step (fun k => k = vb) w1 w' := by
  have c0 := hf.cell 0
  simp at c0
  have HH := Lib.hid H
  have HV := Lib.hid hv
  clear H hf hv
  go_enter Try.func178, Try.ntmps178
  go_wp2_with fail
  refine HH.out.mono ?_
  rintro e w1 ⟨rfl, hs, hq⟩
  have HB := HV.out.step hs hFv
  have hone : (datC op a s).all (·.oneCell') = true := (by simp [datC, Value.oneCell'])
  go_wp2_with (refine wpList_store_rowTo rfl 156 _ _ rfl rfl vb (datC op a s) rfl rfl 156 _ HB rfl rfl hone ?_)
  go_end0
  exact ⟨rfl, w1, hs, hq, HB.row _, Step.setRow (F := fun k => k = vb) Step.refl (g := vb) (.inl rfl) _⟩

set_option maxRecDepth 100000 in
set_option maxHeartbeats 3200000 in
theorem dvalue_ok (hF : ∀ k, F k → k < w.heap.size) (H : ∀ w', Step (fun _ => False) w w' → Calls Try.prog h caps w' fun e w'' => e = .returned (.agg (datC op a s)) ∧ Step F w' w'' ∧ Q w' w'') :
    Calls Try.prog 107 #[.func (.func h) #[] caps] w fun e w' => e = .returned (.tuple #[.agg (datC op a s), .agg #[.int .i64 0, .int .i64 0]]) ∧
      ∃ wa wb, Step (fun _ => False) w wa ∧ Step F wa wb ∧ Q wa wb ∧ Step (fun k => w.heap.size ≤ k ∧ k < wa.heap.size) wb w' := by
  have hmf : ∀ (fn : Fn) (first cap : Array Value) (w : World), (Instr.makeFunc fn first cap).run Try.prog w = .ok (.func fn first cap) w := fun _ _ _ _ => rfl
  have HH := Lib.hid H
  clear H
  obtain ⟨v1, hv1⟩ : ∃ v1, v1 = w.alloc (.cells #[.func (.func h) #[] caps] 163) := ⟨_, rfl⟩
  obtain ⟨v2, hv2⟩ : ∃ v2, v2 = v1.alloc (.cells (datC 0 0 ⟨#[]⟩) 156) := ⟨_, rfl⟩
  obtain ⟨v3, hv3⟩ : ∃ v3, v3 = v2.alloc (.cells #[.int .i64 0, .int .i64 0] 85) := ⟨_, rfl⟩
  obtain ⟨v4, hv4⟩ : ∃ v4, v4 = v3.alloc (.cells (datC 0 0 ⟨#[]⟩) 156) := ⟨_, rfl⟩
  obtain ⟨v5, hv5⟩ : ∃ v5, v5 = v4.alloc (.cells #[.int .i64 0, .int .i64 0] 85) := ⟨_, rfl⟩
  have s1 : v1.heap.size = w.heap.size + 1 := by rw [hv1]; simp
  have s2 : v2.heap.size = w.heap.size + 2 := by rw [hv2]; simp [s1]
  have s3 : v3.heap.size = w.heap.size + 3 := by rw [hv3]; simp [s2]
  have s4 : v4.heap.size = w.heap.size + 4 := by rw [hv4]; simp [s3]
  have s5 : v5.heap.size = w.heap.size + 5 := by rw [hv5]; simp [s4]
  have t5 : Step (fun _ => False) w v5 := by
    rw [hv5, hv4, hv3, hv2, hv1]
    exact ((((Step.refl.alloc _).alloc _).alloc _).alloc _).alloc _
  have b1 : Blk v4 w.heap.size 163 #[.func (.func h) #[] caps] := by
    rw [hv4, hv3, hv2, hv1]
    exact (((Blk.new w _ _).alloc _).alloc _).alloc _
  have b2 : Blk v4 (w.heap.size + 1) 156 (datC 0 0 ⟨#[]⟩) := by
    have := ((Blk.new v1 156 (datC 0 0 ⟨#[]⟩)).alloc (.cells #[.int .i64 0, .int .i64 0] 85)).alloc (.cells (datC 0 0 ⟨#[]⟩) 156)
    rw [← hv2, ← hv3, ← hv4, s1] at this
    exact this
  have b3 : Blk v4 (w.heap.size + 2) 85 #[.int .i64 0, .int .i64 0] := by
    have := (Blk.new v2 85 #[.int .i64 0, .int .i64 0]).alloc (.cells (datC 0 0 ⟨#[]⟩) 156)
    rw [← hv3, ← hv4, s2] at this
    exact this
  have b4 : Blk v4 (w.heap.size + 3) 156 (datC 0 0 ⟨#[]⟩) := by
    have := Blk.new v3 156 (datC 0 0 ⟨#[]⟩)
    rw [← hv4, s3] at this
    exact this
  have HO := Lib.hid (out_ok 178 #[.pointer (some ⟨w.heap.size, 0, none⟩), .pointer (some ⟨w.heap.size + 3, 0, none⟩)] v4 (fun k => F k ∨ k = w.heap.size + 3)
    (fun wz => ∃ w1, Step F v5 w1 ∧ Q v5 w1 ∧ Blk wz (w.heap.size + 3) 156 (datC op a s) ∧ Step (fun k => k = w.heap.size + 3) w1 wz)
    (by rw [s4]; intro hk; rcases hk with hk | hk; · have := hF _ hk; omega
        · omega) (fun _ => rfl)
    (by
      rw [← hv5]
      refine (dclo_ok h caps v5 F Q op a s hcf w.heap.size (w.heap.size + 3) (HH.out _ t5) (by rw [hv5]; exact b1.alloc _) (by rw [hv5]; exact b4.alloc _) (fun hk => by have := hF _ hk; omega)).mono ?_
      rintro e wz ⟨rfl, w1, h1, h2, h3, h4⟩
      exact ⟨rfl, (h1.mono fun _ _ hk => .inl hk).trans (h4.mono fun _ _ hk => .inr hk), w1, h1, h2, h3, h4⟩))
  rw [← hv5, s4] at HO
  have HB2 := Lib.hid b2
  have HB3 := Lib.hid b3
  have HE : Hid (v4 = (((w.alloc (.cells #[.func (.func h) #[] caps] 163)).alloc (.cells (datC 0 0 ⟨#[]⟩) 156)).alloc (.cells #[.int .i64 0, .int .i64 0] 85)).alloc (.cells (datC 0 0 ⟨#[]⟩) 156)) := by rw [Hid, hv4, hv3, hv2, hv1]
  have HT5 := Lib.hid t5
  have HF := Lib.hid hF
  have HS5 := Lib.hid s5
  have HV5 := Lib.hid hv5
  clear b1 b2 b3 b4 t5 s1 s2 s3 s4 s5 hv1 hv2 hv3 hv4 hv5 HH hF
  go_enter Try.func107, Try.ntmps107
  go_wp2_with fail
  have HO2 := HO.out
  rw [HE.out] at HO2
  refine HO2.mono ?_
  rintro e w6 ⟨rfl, w1, h1, ⟨wb, g1, g2, g3, g4⟩, h5⟩
  clear HO2 HO
  have HQ := Lib.hid g2
  have HT1 := Lib.hid g1
  have HT2 : Hid (Step (fun k => k = w.heap.size + 3 ∨ k = w.heap.size + 4) wb w6) := (g4.mono fun _ _ hk => .inl hk).trans (h5.mono fun _ _ hk => .inr hk)
  have hns : v5.heap.size ≤ w6.heap.size := Nat.le_trans h1.size h5.size
  have n5 := HS5.out
  have HV6 := Lib.hid ((g3.step h5 (by omega)).alloc (.cells #[.int .i64 0, .int .i64 0] 85))
  have HR6 : Hid (Blk (w6.alloc (.cells #[.int .i64 0, .int .i64 0] 85)) (w.heap.size + 1) 156 (datC 0 0 ⟨#[]⟩)) := by
    have h6 := HB2.out.alloc (.cells #[.int .i64 0, .int .i64 0] 85)
    rw [← HV5.out] at h6
    exact ((h6.step h1 (fun hk => by rcases hk with hk | hk; · have := HF.out _ hk; omega
                                     · omega)).step h5 (by omega)).alloc _
  have HP6 : Hid (Blk (w6.alloc (.cells #[.int .i64 0, .int .i64 0] 85)) (w.heap.size + 2) 85 #[.int .i64 0, .int .i64 0]) := by
    have h6 := HB3.out.alloc (.cells #[.int .i64 0, .int .i64 0] 85)
    rw [← HV5.out] at h6
    exact ((h6.step h1 (fun hk => by rcases hk with hk | hk; · have := HF.out _ hk; omega
                                     · omega)).step h5 (by omega)).alloc _
  have HN6 := Lib.hid (Blk.new w6 85 #[.int .i64 0, .int .i64 0])
  have HT6 := Lib.hid (HT2.out.alloc (.cells #[.int .i64 0, .int .i64 0] 85))
  obtain ⟨W, hW⟩ : ∃ W, W = w6.alloc (.cells #[.int .i64 0, .int .i64 0] 85) := ⟨_, rfl⟩
  obtain ⟨sN, hsN⟩ : ∃ sN, sN = w6.heap.size := ⟨_, rfl⟩
  rw [← hW] at HV6 HR6 HP6 HN6 HT6
  rw [← hsN] at HN6
  have y0 := HN6.out.cell 0
  simp at y0
  rw [hW] at y0
  rw [hsN] at y0
  clear h1 h5 g1 g2 g3 g4 HB2 HB3 HE HT2
  go_wp2_with fail
  rw [← hW, ← hsN]
  have hs6 : w.heap.size + 5 ≤ sN := by omega
  clear y0 hW hsN hns n5
  have y0 := HN6.out.cell 0
  have y1 := HN6.out.cell 1
  have x0 := HV6.out.cell 0
  have x1 := HV6.out.cell 1
  have x2 := HV6.out.cell 2
  have x3 := HV6.out.cell 3
  have x4 := HV6.out.cell 4
  simp [datC] at x0 x1 x2 x3 x4 y0 y1
  obtain ⟨F2, hF2⟩ : ∃ F2 : Nat → Prop, F2 = fun q => q = w.heap.size + 1 ∨ q = w.heap.size + 2 := ⟨_, rfl⟩
  have hFv : ¬ F2 (w.heap.size + 3) := by rw [hF2]; omega
  have hFs : ¬ F2 sN := by rw [hF2]; omega
  have HF2 := Lib.hid hF2
  clear hF2
  have d0 := cls_cell (F := F2) (w0 := W) x0 hFv
  have d1 := cls_cell (F := F2) (w0 := W) x1 hFv
  have d2 := cls_cell (F := F2) (w0 := W) x2 hFv
  have d3 := cls_cell (F := F2) (w0 := W) x3 hFv
  have d4 := cls_cell (F := F2) (w0 := W) x4 hFv
  have e4 := cls_cell (F := F2) (w0 := W) y0 hFs
  have e5 := cls_cell (F := F2) (w0 := W) y1 hFs
  clear x0 x1 x2 x3 x4 y0 y1
  refine Mix.wp_region_mix [2, 3] [2] (Step F2 W) (by kernel_rfl) (by kernel_rfl) Step.refl.drew (fun hcls => ?_)
  refine Mix.wpL_reads 2 (by rfl) ?_
  simp only [List.take_succ_cons, List.drop_succ_cons, List.take_zero, List.drop_zero]
  repeat (go_big_quiet_step (fail))
  refine wpQuiet_nil ?_
  have z0 := HR6.out.frozen 0
  have z1 := HR6.out.frozen 1
  have z2 := HR6.out.frozen 2
  have z3 := HR6.out.frozen 3
  have z4 := HR6.out.frozen 4
  have r0 := HR6.out.cell 0
  have r1 := HR6.out.cell 1
  have r2 := HR6.out.cell 2
  have r3 := HR6.out.cell 3
  have r4 := HR6.out.cell 4
  simp [datC] at r0 r1 r2 r3 r4
  refine Mix.wpL_op (by rfl) (fun K hK => ?_)
  go_simp
  obtain ⟨W7, hW7⟩ : ∃ W7, W7 = (((((W.setCell ⟨w.heap.size + 1, 0, none⟩ (.int .u8 op)).setCell ⟨w.heap.size + 1, 1, none⟩ (.int .u64 a)).setCell ⟨w.heap.size + 1, 2, none⟩ (.int .u64 0)).setCell ⟨w.heap.size + 1, 3, none⟩ (.slice none 0 0)).setCell ⟨w.heap.size + 1, 4, none⟩ (.string s)) := ⟨_, rfl⟩
  have HR7 : Hid (Blk W7 (w.heap.size + 1) 156 (datC op a s)) := by
    have hq := (((((HR6.out.set_ 0 (.int .u8 op)).set_ 1 (.int .u64 a)).set_ 2 (.int .u64 0)).set_ 3 (.slice none 0 0)).set_ 4 (.string s))
    rw [← hW7] at hq
    simp [datC] at hq
    exact hq
  have HP7 : Hid (Blk W7 (w.heap.size + 2) 85 #[.int .i64 0, .int .i64 0]) := by
    rw [hW7]
    exact (((((HP6.out.far (p := ⟨w.heap.size + 1, 0, none⟩) (show w.heap.size + 2 ≠ w.heap.size + 1 by omega) _).far (p := ⟨w.heap.size + 1, 1, none⟩) (show w.heap.size + 2 ≠ w.heap.size + 1 by omega) _).far (p := ⟨w.heap.size + 1, 2, none⟩) (show w.heap.size + 2 ≠ w.heap.size + 1 by omega) _).far (p := ⟨w.heap.size + 1, 3, none⟩) (show w.heap.size + 2 ≠ w.heap.size + 1 by omega) _).far (p := ⟨w.heap.size + 1, 4, none⟩) (show w.heap.size + 2 ≠ w.heap.size + 1 by omega) _)
  have HT7 : Hid (Step (fun q => q = w.heap.size + 1 ∨ q = w.heap.size + 2) W W7) := by
    rw [hW7]
    exact (((((Step.refl.setCell (p := ⟨w.heap.size + 1, 0, none⟩) (.inl (.inl rfl)) _).setCell (p := ⟨w.heap.size + 1, 1, none⟩) (.inl (.inl rfl)) _).setCell (p := ⟨w.heap.size + 1, 2, none⟩) (.inl (.inl rfl)) _).setCell (p := ⟨w.heap.size + 1, 3, none⟩) (.inl (.inl rfl)) _).setCell (p := ⟨w.heap.size + 1, 4, none⟩) (.inl (.inl rfl)) _)
  rw [← hW7]
  refine hK _ _ (fun hlt => Mix.cl (by rw [HF2.out]; exact HT7.out.drew)) ?_
  clear hK K z0 r0 z1 r1 z2 r2 z3 r3 z4 r4 hW7
  have z0 := HP7.out.frozen 0
  have z1 := HP7.out.frozen 1
  have r0 := HP7.out.cell 0
  have r1 := HP7.out.cell 1
  simp at r0 r1
  refine Mix.wpL_op (by rfl) (fun K hK => ?_)
  go_simp
  refine hK _ _ (fun hlt => absurd hlt (by decide)) ?_
  clear hK K
  refine Mix.wpL_end ?_
  obtain ⟨W8, hW8⟩ : ∃ W8, W8 = (W7.setCell ⟨w.heap.size + 2, 0, none⟩ (.int .i64 0)).setCell ⟨w.heap.size + 2, 1, none⟩ (.int .i64 0) := ⟨_, rfl⟩
  have HP8 : Hid (Blk W8 (w.heap.size + 2) 85 #[.int .i64 0, .int .i64 0]) := by
    have hq := (HP7.out.set_ 0 (.int .i64 0)).set_ 1 (.int .i64 0)
    rw [← hW8] at hq
    simp at hq
    exact hq
  have HR8 : Hid (Blk W8 (w.heap.size + 1) 156 (datC op a s)) := by
    rw [hW8]
    exact (HR7.out.far (p := ⟨w.heap.size + 2, 0, none⟩) (show w.heap.size + 1 ≠ w.heap.size + 2 by omega) _).far (p := ⟨w.heap.size + 2, 1, none⟩) (show w.heap.size + 1 ≠ w.heap.size + 2 by omega) _
  have HT8 : Hid (Step (fun q => q = w.heap.size + 1 ∨ q = w.heap.size + 2) W W8) := by
    rw [hW8]
    exact (HT7.out.setCell (p := ⟨w.heap.size + 2, 0, none⟩) (.inl (.inr rfl)) _).setCell (p := ⟨w.heap.size + 2, 1, none⟩) (.inl (.inr rfl)) _
  go_wp2_with fail
  rw [← hW8]
  have q0 := HR8.out.cell 0
  have q1 := HR8.out.cell 1
  have q2 := HR8.out.cell 2
  have q3 := HR8.out.cell 3
  have q4 := HR8.out.cell 4
  have p4 := HP8.out.cell 0
  have p5 := HP8.out.cell 1
  simp [datC] at q0 q1 q2 q3 q4 p4 p5
  refine bodyPost_ret (v := .tuple #[.agg (datC op a s), .agg #[.int .i64 0, .int .i64 0]]) (by simp [results, Try.results107, go_sem, q0, q1, q2, q3, q4, p4, p5, datC]) rfl ?_
  refine ⟨rfl, v5, wb, HT5.out, HT1.out, HQ.out, ?_⟩
  have n5 := HS5.out
  refine ((HT6.out.mono fun k _ hk => ?_).trans ((HT8.out.mono fun k _ hk => ?_))).drew
  · exact ⟨by rcases hk with rfl | rfl <;> omega, by rcases hk with rfl | rfl <;> omega⟩
  · exact ⟨by rcases hk with rfl | rfl <;> omega, by rcases hk with rfl | rfl <;> omega⟩
end
end Go.Proofs.Ytfemeendkjcffaa
/-! datas: the law's closure; Right, the reference's Right, Put, Same. -/
namespace Go.Proofs.Ytfemeendkjcffaa
open Go.RowKit

set_option maxRecDepth 100000 in
set_option maxHeartbeats 1600000 in
theorem dclosure_ok (w : World) (X sb : Nat) (S : Nat → Prop) (D : Option Addr) (c : Nat) (bs : List UInt8) (k : Nat) (h : Scn w X S D c bs k) (op a : Nat) (ds rest : List UInt8) (hok : ConstOk op a) (ha : a < 18446744073709551616) (hl : ds.length ≤ 1000) (hd : bs.drop k = dputL op a ds ++ rest) (hsb : Blk w sb 79 #[.pointer (some ⟨X, 0, none⟩)]) :
    Calls Try.prog 108 #[.pointer (some ⟨sb, 0, none⟩)] w fun e w' => e = .returned (.agg (datC (op : Int) (a : Int) (str ds))) ∧ Step (fun i => i = X) w w' ∧ Scn w' X S D c bs (k + (dputL op a ds).length) := by
  have HG := Lib.hid (dget_ok (w.alloc (.cells (datC 0 0 ⟨#[]⟩) 156)) X S D c bs k (h.alloc _) op a ds rest hok ha hl hd)
  have s0 := hsb.cell 0
  have hsbl := hsb.lt
  simp at s0
  have hX := h.lt
  have HB := Lib.hid (Blk.new w 156 (datC 0 0 ⟨#[]⟩))
  have hlow := h.low
  have hT0 : Hid (Step (fun i => i = X) w (w.alloc (.cells (datC 0 0 ⟨#[]⟩) 156))) := Step.refl.alloc _
  clear hsb h hd
  obtain ⟨s, hs⟩ : ∃ s, s = str ds := ⟨_, rfl⟩
  rw [← hs] at HG ⊢
  clear hs
  go_enter Try.func108, Try.ntmps108
  go_wp2_with fail
  refine HG.out.mono ?_
  rintro e w1 ⟨rfl, hs, ht⟩
  have hB1 := HB.out.step ht (show w.heap.size ≠ X by omega)
  have hone := datC_one (op : Int) (a : Int) s
  go_wp2_with (refine wpList_store_rowTo rfl 156 _ _ rfl rfl w.heap.size (datC (op : Int) (a : Int) s) rfl rfl 156 _ hB1 rfl rfl hone ?_)
  have hB2 := hB1.row (datC (op : Int) (a : Int) s)
  have r0 := hB2.cell 0
  have r1 := hB2.cell 1
  have r2 := hB2.cell 2
  have r3 := hB2.cell 3
  have r4 := hB2.cell 4
  simp [datC] at r0 r1 r2 r3 r4
  have hst : Step (fun i => i = w.heap.size) w1 (w1.setRow w.heap.size (datC (op : Int) (a : Int) s)) := Step.setRow (F := fun k => k = w.heap.size) Step.refl (g := w.heap.size) (.inl rfl) _
  refine bodyPost_ret (v := .agg (datC (op : Int) (a : Int) s)) (by simp [results, Try.results108, go_sem, datC, r0, r1, r2, r3, r4]) rfl ?_
  exact ⟨rfl, (hT0.out.trans ht).setRow (.inr (Nat.le_refl _)) _, hs.step hst (by omega) (fun j hj e => by have := hlow j hj; omega)⟩

/-- A row of bytes as the law gets it. -/
def datX (op a b : Nat) (A : Option Addr) (n c : Nat) (s : ByteArray) : Array Value := #[.int .u8 (op : Int), .int .u64 (a : Int), .int .u64 (b : Int), .slice A n c, .string s]

section
variable (w : World) (op a b n c : Nat) (A : Option Addr) (hop : op < 256)
include hop
set_option maxRecDepth 100000 in
set_option maxHeartbeats 1600000 in
theorem dright_walk (ds : List UInt8) (hl : ds.length ≤ 1000) :
    Calls Try.prog 106 #[.agg (datX op a b A n c (str ds))] w fun e w' => e = .returned (.int .i64 (crtF op a b n : Nat)) ∧ Step (fun _ => False) w w' := by
  have HR : Hid (∀ w, Calls Try.prog 38 #[.agg #[.int .u8 (op : Int), .int .u64 (a : Int), .int .u64 (b : Int), .slice A n c]] w fun e w' => e = .returned (.int .i64 (crtF op a b n : Nat)) ∧ Step (fun _ => False) w w') := fun w => cright_walk w op a b n c A hop
  have hsz := str_size ds
  have g1 : ¬ (4194304 : Int) < (ds.length : Int) := by omega
  simp only [datX]
  go_enter Try.func106, Try.ntmps106
  go_wp2_with fail
  refine (HR.out _).mono ?_
  rintro e w5 ⟨rfl, hS5⟩
  go_wp2_with fail
  go_ret
  exact ⟨rfl, (Step.refl.alloc _).trans hS5⟩
set_option maxRecDepth 100000 in
set_option maxHeartbeats 1600000 in
theorem drright_walk (s : ByteArray) :
    Calls Try.prog 104 #[.agg (datX op a b A n c s)] w fun e w' => e = .returned (.int .i64 (crtF op a b n : Nat)) ∧ Step (fun _ => False) w w' := by
  have HR : Hid (∀ w, Calls Try.prog 35 #[.agg #[.int .u8 (op : Int), .int .u64 (a : Int), .int .u64 (b : Int), .slice A n c]] w fun e w' => e = .returned (.int .i64 (crtF op a b n : Nat)) ∧ Step (fun _ => False) w w') := fun w => crright_walk w op a b n c A hop
  simp only [datX]
  go_enter Try.func104, Try.ntmps104
  go_wp2_with fail
  refine (HR.out _).mono ?_
  rintro e w5 ⟨rfl, hS5⟩
  go_wp2_with fail
  go_ret
  exact ⟨rfl, (Step.refl.alloc _).trans hS5⟩
set_option maxRecDepth 100000 in
set_option maxHeartbeats 1600000 in
theorem dput_err (ds : List UInt8) (hl : ds.length ≤ 1000) (h : ¬ crtF op a b n = 0) :
    Calls Try.prog 105 #[.agg (datX op a b A n c (str ds))] w fun e w' => e = .returned (.tuple #[.slice none 0 0, .int .i64 (crtF op a b n : Nat)]) ∧ Step (fun _ => False) w w' := by
  have HR : Hid (∀ w, Calls Try.prog 106 #[.agg (datX op a b A n c (str ds))] w fun e w' => e = .returned (.int .i64 (crtF op a b n : Nat)) ∧ Step (fun _ => False) w w') := fun w => dright_walk w op a b n c A hop ds hl
  obtain ⟨r, hr⟩ : ∃ r : Int, r = (crtF op a b n : Nat) := ⟨_, rfl⟩
  have hne : ¬ r = 0 := by omega
  have hnb : (r != 0) = true := bne_iff_ne.2 hne
  rw [← hr] at HR ⊢
  simp only [datX] at HR ⊢
  clear hr h
  go_enter Try.func105, Try.ntmps105
  go_wp2_with fail
  refine (HR.out _).mono ?_
  rintro e w5 ⟨rfl, hS5⟩
  have HS5 := Lib.hid ((Step.refl.alloc _).trans hS5)
  clear hS5
  go_wp2_with fail
  go_ret2
  exact ⟨rfl, HS5.out⟩
end

set_option maxRecDepth 100000 in
set_option maxHeartbeats 1600000 in
theorem rcount4_walk (w : World) (v : Nat) (h : v < 9223372036854775808) : Calls Try.prog 173 #[.int .i64 (v : Int)] w fun e w' => e = .returned (.string (str (uintF v))) ∧ Step (fun _ => False) w w' := by
  have hw := IntWalk.u64_in (v : Int) (by omega)
  go_enter Try.func173, Try.ntmps173
  go_wp2_with fail
  refine (ruint_walk _ v (by omega)).mono ?_
  rintro e w5 ⟨D, c, rfl, hown, hS⟩
  have hcv := conv_bytes (c := c) (Reads.of_own hown)
  clear hown
  go_wp2_with fail
  go_ret
  exact ⟨rfl, hS⟩

set_option maxRecDepth 100000 in
set_option maxHeartbeats 3200000 in
theorem drput_walk (w : World) (op a c : Nat) (A : Option Addr) (ds : List UInt8) (hok : ConstOk op a) (ha : a < 18446744073709551616) (hl : ds.length ≤ 1000) :
    Calls Try.prog 110 #[.agg (datX op a 0 A 0 c (str ds))] w fun e w' => e = .returned (.string (str (dputL op a ds))) ∧ Step (fun _ => False) w w' := by
  have HP : Hid (∀ w, Calls Try.prog 40 #[.agg #[.int .u8 (op : Int), .int .u64 (a : Int), .int .u64 0, .slice A 0 c]] w fun e w' => e = .returned (.string (str (cputL op a))) ∧ Step (fun _ => False) w w') := fun w => crput_walk w op a c A hok ha
  have HC : Hid (∀ w, Calls Try.prog 173 #[.int .i64 (ds.length : Int)] w fun e w' => e = .returned (.string (str (uintF ds.length))) ∧ Step (fun _ => False) w w') := fun w => rcount4_walk w ds.length (by omega)
  have hl1 : (cputL op a).length ≤ 12 := by have := cT_len op a; rw [cputL]; simp; omega
  have hl2 := num_len ds.length
  obtain ⟨T, hT⟩ : ∃ T, T = cputL op a := ⟨_, rfl⟩
  obtain ⟨U, hU⟩ : ∃ U, U = uintF ds.length := ⟨_, rfl⟩
  have hZ : dputL op a ds = UInt8.ofNat 0 :: (T ++ (U ++ ds)) := by rw [dputL, hT, hU]
  rw [← hT] at HP hl1
  rw [← hU] at HC hl2
  obtain ⟨T1, hT1⟩ : ∃ T1, T1 = UInt8.ofNat 0 :: T := ⟨_, rfl⟩
  obtain ⟨T2, hT2⟩ : ∃ T2, T2 = T1 ++ U := ⟨_, rfl⟩
  obtain ⟨Z, hZ2⟩ : ∃ Z, Z = T2 ++ ds := ⟨_, rfl⟩
  rw [hZ, show UInt8.ofNat 0 :: (T ++ (U ++ ds)) = Z by rw [hZ2, hT2, hT1]; simp]
  have hl3 : T1.length ≤ 13 := by rw [hT1]; simp; omega
  have hl4 : T2.length ≤ 23 := by rw [hT2, List.length_append]; omega
  have hs0 := str_size ds
  have hs1 := str_size T
  have hs2 := str_size U
  have hs3 := str_size T1
  have hs4 := str_size T2
  have ha1 : (⟨#[0]⟩ : ByteArray) ++ str T = str T1 := by rw [hT1]; exact str_append [0] T
  have ha2 : str T1 ++ str U = str T2 := by rw [hT2]; exact str_append _ _
  have ha3 : str T2 ++ str ds = str Z := by rw [hZ2]; exact str_append _ _
  obtain ⟨n, hn⟩ : ∃ n, n = ds.length := ⟨_, rfl⟩
  rw [← hn] at hs0 HC hl
  clear hT hU hZ hn hT1 hT2 hZ2
  have HX0 := Lib.hid (Blk.new w 156 (datX op a 0 A 0 c (str ds)))
  have HS0 := Lib.hid ((Step.refl (F := fun _ => False)).alloc (w := w) (.cells (datX op a 0 A 0 c (str ds)) 156))
  obtain ⟨sd, hsd⟩ : ∃ sd, sd = str ds := ⟨_, rfl⟩
  rw [← hsd] at hs0 ha3 HX0 HS0 ⊢
  clear hsd
  go_enter Try.func110, Try.ntmps110
  go_wp2_with fail
  obtain ⟨V, hV⟩ : ∃ V, V = w.alloc (.cells (datX op a 0 A 0 c sd) 156) := ⟨_, rfl⟩
  obtain ⟨X, hX⟩ : ∃ X, X = w.heap.size := ⟨_, rfl⟩
  rw [← hV] at HX0 HS0 ⊢
  rw [← hX] at HX0 ⊢
  clear hV hX
  have x0 := HX0.out.cell 0
  have x1 := HX0.out.cell 1
  have x2 := HX0.out.cell 2
  have x3 := HX0.out.cell 3
  have x4 := HX0.out.cell 4
  simp [datX] at x0 x1 x2 x3 x4
  have d0 := cls_cell (F := fun _ => False) (w0 := V) x0 id
  have d1 := cls_cell (F := fun _ => False) (w0 := V) x1 id
  have d2 := cls_cell (F := fun _ => False) (w0 := V) x2 id
  have d3 := cls_cell (F := fun _ => False) (w0 := V) x3 id
  have d4 := cls_cell (F := fun _ => False) (w0 := V) x4 id
  clear x0 x1 x2 x3 x4
  refine Mix.wp_region_mix [2, 7] [2, 7] (Step (fun _ => False) V) (by kernel_rfl) (by kernel_rfl) Step.refl.drew (fun hcls => ?_)
  refine Mix.wpL_reads 2 (by rfl) ?_
  simp only [List.take_succ_cons, List.drop_succ_cons, List.take_zero, List.drop_zero]
  repeat (go_big_quiet_step (fail))
  refine wpQuiet_nil ?_
  refine Mix.wpL_op (by rfl) (fun K hK => ?_)
  go_simp
  refine (HP.out _).mono ?_
  rintro e wa ⟨rfl, hSa⟩
  have HSa := Lib.hid (Step.refl.drew.trans hSa)
  refine hK _ _ (fun hlt => Mix.cl HSa.out) ?_
  clear hK K hSa
  refine Mix.wpL_reads 4 (by rfl) ?_
  simp only [List.take_succ_cons, List.drop_succ_cons, List.take_zero, List.drop_zero]
  repeat (go_big_quiet_step (fail))
  refine wpQuiet_nil ?_
  refine Mix.wpL_op (by rfl) (fun K hK => ?_)
  go_simp
  refine (HC.out _).mono ?_
  rintro e wb ⟨rfl, hSb⟩
  have HSb := Lib.hid (HSa.out.trans hSb)
  refine hK _ _ (fun hlt => Mix.cl HSb.out) ?_
  clear hK K hSb HSa
  refine Mix.wpL_reads 5 (by rfl) ?_
  simp only [List.take_succ_cons, List.drop_succ_cons, List.take_zero, List.drop_zero]
  repeat (go_big_quiet_step (fail))
  refine wpQuiet_nil ?_
  refine Mix.wpL_end ?_
  go_wp2_with fail
  go_ret
  exact ⟨rfl, HS0.out.trans HSb.out⟩

set_option maxRecDepth 100000 in
set_option maxHeartbeats 3200000 in
theorem drsame_walk (w : World) (op a c1 c2 : Nat) (A1 A2 : Option Addr) (s : ByteArray) :
    Calls Try.prog 111 #[.agg (datX op a 0 A1 0 c1 s), .agg (datX op a 0 A2 0 c2 s)] w fun e w' => e = .returned (.bool true) ∧ Step (fun _ => False) w w' := by
  have HSm : Hid (∀ w, Calls Try.prog 39 #[.agg #[.int .u8 (op : Int), .int .u64 (a : Int), .int .u64 0, .slice A1 0 c1], .agg #[.int .u8 (op : Int), .int .u64 (a : Int), .int .u64 0, .slice A2 0 c2]] w fun e w' => e = .returned (.bool true) ∧ Step (fun _ => False) w w') := fun w => by
    have := rsame_walk w op a 0 c1 op a 0 c2 A1 A2 [] [] (fun _ => False) (fun _ => False) ⟨by simp [u32s], fun h => absurd h (by decide)⟩ ⟨by simp [u32s], fun h => absurd h (by decide)⟩ (by decide)
    rw [same_yes] at this
    exact this
  have hE : (s.toList == s.toList) = true := beq_self_eq_true _
  simp only [datX]
  go_enter Try.func111, Try.ntmps111
  go_wp2_with fail
  refine (HSm.out _).mono ?_
  rintro e w5 ⟨rfl, hS5⟩
  go_wp2_with fail
  go_ret
  exact ⟨rfl, ((Step.refl.alloc _).alloc _).trans hS5⟩

set_option maxRecDepth 100000 in
set_option maxHeartbeats 6400000 in
theorem dput_ok (w : World) (op a c : Nat) (A : Option Addr) (ds : List UInt8) (hok : ConstOk op a) (ha : a < 18446744073709551616) (hl : ds.length ≤ 1000) :
    Calls Try.prog 105 #[.agg (datX op a 0 A 0 c (str ds))] w fun e w' => ∃ D c', e = .returned (.tuple #[.slice D (dputL op a ds).length c', .int .i64 0]) ∧
      w'.ownsRow w.heap.size 5 1 (.slice D (dputL op a ds).length c') (dputL op a ds).length (u8s (dputL op a ds)) ∧ Step (fun _ => False) w w' := by
  have hop : op < 256 := by rcases hok with ⟨rfl, h⟩ | ⟨rfl, h⟩ | rfl <;> decide
  have HR : Hid (∀ w, Calls Try.prog 106 #[.agg (datX op a 0 A 0 c (str ds))] w fun e w' => e = .returned (.int .i64 0) ∧ Step (fun _ => False) w w') := fun w => by
    have := dright_walk w op a 0 0 c A hop ds hl
    rw [crt_ok hok] at this
    exact this
  have HP : Hid (∀ w, Calls Try.prog 36 #[.agg #[.int .u8 (op : Int), .int .u64 (a : Int), .int .u64 0, .slice A 0 c]] w fun e w' => ∃ D c', e = .returned (.tuple #[.slice D (cputL op a).length c', .int .i64 0]) ∧
      w'.ownsRow w.heap.size 5 1 (.slice D (cputL op a).length c') (cputL op a).length (u8s (cputL op a)) ∧ Step (fun _ => False) w w') := fun w => cput_ok w op a c A hok ha
  have HU : Hid (∀ w, Calls Try.prog 149 #[.int .u64 (ds.length : Int)] w fun e w' => ∃ D c, e = .returned (.slice D (uintF ds.length).length c) ∧ w'.ownsRow w.heap.size 5 1 (.slice D (uintF ds.length).length c) (uintF ds.length).length (u8s (uintF ds.length)) ∧ Step (fun _ => False) w w') := fun w => uint_walk w ds.length (by omega)
  have hl1 : (cputL op a).length ≤ 12 := by have := cT_len op a; rw [cputL]; simp; omega
  have hl2 := num_len ds.length
  obtain ⟨T, hT⟩ : ∃ T, T = cputL op a := ⟨_, rfl⟩
  obtain ⟨U, hU⟩ : ∃ U, U = uintF ds.length := ⟨_, rfl⟩
  obtain ⟨Z, hZ⟩ : ∃ Z, Z = dputL op a ds := ⟨_, rfl⟩
  have HZ : Hid (Z = UInt8.ofNat 0 :: (T ++ (U ++ ds))) := by rw [Hid, hZ, dputL, hT, hU]
  rw [← hT] at HP hl1
  rw [← hU] at HU hl2
  rw [← hZ]
  have hs0 := str_size ds
  have hwn := IntWalk.u64_in (ds.length : Int) (by omega)
  clear hT hU hZ
  simp only [datX] at HR ⊢
  obtain ⟨sd, hsd⟩ : ∃ sd, sd = str ds := ⟨_, rfl⟩
  rw [← hsd] at hs0 HR ⊢
  have HSd := Lib.hid hsd
  clear hsd
  go_enter Try.func105, Try.ntmps105
  go_wp2_with fail
  refine (HR.out _).mono ?_
  rintro e w5 ⟨rfl, hS5⟩
  have HX5 := Lib.hid ((Blk.new w 156 #[.int .u8 (op : Int), .int .u64 (a : Int), .int .u64 0, .slice A 0 c, .string sd]).step hS5 id)
  have HS5 := Lib.hid ((Step.refl.alloc _).trans hS5)
  clear hS5
  obtain ⟨X, hX⟩ : ∃ X, X = w.heap.size := ⟨_, rfl⟩
  rw [← hX] at HX5 ⊢
  clear hX
  have x0 := HX5.out.cell 0
  have x1 := HX5.out.cell 1
  have x2 := HX5.out.cell 2
  have x3 := HX5.out.cell 3
  simp at x0 x1 x2 x3
  go_wp2_with fail
  refine (HP.out _).mono ?_
  rintro e w6 ⟨D6, c6, rfl, hown, hS⟩
  have HO6 := Lib.hid hown
  have HX6 := Lib.hid (HX5.out.step hS id)
  have HS6 := Lib.hid (HS5.out.trans hS)
  have hw6 := hS.size
  clear hown hS HX5 x0 x1 x2 x3
  go_wp2_with fail
  have x4 := HX6.out.cell 4
  simp at x4
  have d4 := cls_cell (F := fun _ => False) (w0 := w6) x4 id
  clear x4
  have hXl := HX6.out.lt
  refine Mix.wp_region_mix [0, 2, 7, 8] [0, 2, 7, 8] (Step (fun _ => False) w6) (by kernel_rfl) (by kernel_rfl) Step.refl.drew (fun hcls => ?_)
  refine Mix.wpL_op (by rfl) (fun K hK => ?_)
  go_simp
  refine hK _ _ (fun hlt => Mix.cl (by first | exact (Step.refl.alloc _).drew | exact (Step.refl.drew).alloc _)) ?_
  clear hK K
  refine Mix.wpL_reads 1 (by rfl) ?_
  simp only [List.take_succ_cons, List.drop_succ_cons, List.take_zero, List.drop_zero]
  repeat (go_big_quiet_step (fail))
  refine wpQuiet_nil ?_
  have hlit := own_drew (World.ownsRow_lit (base := w6.heap.size) (e := 5) (size := 1) w6 #[Value.int .u8 0] 1 (Nat.le_refl _) (by decide) rfl)
  have hrd := ((Reads.of_own HO6.out).step (Step.refl.alloc (F := fun _ => False) (w := w6) (.cells #[Value.int .u8 0] 5)) (fun _ _ => id)).drew
  have hone := u8s_one T
  have hm : 1 + T.length ≤ maxLen := by unfold maxLen; omega
  refine Mix.wpL_op (by rfl) (fun K hK => ?_)
  refine step_append_src _ (by rfl) _ _ (by rfl) E_u8 (by rfl) hlit (by rfl) hrd hone hm (by omega) (by simp) ?_
  intro D7 c7 w7 hown hgrow hat
  have HO7 := Lib.hid hown
  have HT7 : Hid (Step (fun _ => False) w6 w7) := grow_step (Step.drew (Step.refl.alloc _)) hgrow hlit (Nat.le_refl _)
  refine hK _ _ (fun hlt => Mix.cl HT7.out) ?_
  clear hK K hgrow hown hat hlit hrd hone hm
  simp only [Act.put, List.setIfInBounds_toArray, List.set_cons_succ, List.set_cons_zero]
  refine Mix.wpL_reads 4 (by rfl) ?_
  simp only [List.take_succ_cons, List.drop_succ_cons, List.take_zero, List.drop_zero]
  repeat (go_big_quiet_step (fail))
  refine wpQuiet_nil ?_
  refine Mix.wpL_op (by rfl) (fun K hK => ?_)
  go_simp
  refine (HU.out _).mono ?_
  rintro e w8 ⟨D8, c8, rfl, hown, hS⟩
  have HR8 := Lib.hid (Reads.of_own hown)
  have HO8 := Lib.hid (own_step HO7.out hS (fun _ _ => id))
  have HT8 := Lib.hid (HT7.out.trans hS)
  refine hK _ _ (fun hlt => Mix.cl HT8.out) ?_
  clear hK K hown hS HO7 HT7
  have hone := u8s_one U
  have hm : 1 + T.length + U.length ≤ maxLen := by unfold maxLen; omega
  have hsz := HT8.out.size
  refine Mix.wpL_op (by rfl) (fun K hK => ?_)
  refine step_append_src _ (by rfl) _ _ (by rfl) E_u8 (by rfl) HO8.out (by rfl) HR8.out hone hm (by omega) hsz ?_
  intro D9 c9 w9 hown hgrow hat
  have HO9 := Lib.hid hown
  have HT9 : Hid (Step (fun _ => False) w6 w9) := grow_step HT8.out hgrow HO8.out (Nat.le_refl _)
  refine hK _ _ (fun hlt => Mix.cl HT9.out) ?_
  clear hK K hgrow hown hat hone hm hsz HO8 HT8 HR8
  simp only [Act.put, List.setIfInBounds_toArray, List.set_cons_succ, List.set_cons_zero]
  refine Mix.wpL_reads 1 (by rfl) ?_
  simp only [List.take_succ_cons, List.drop_succ_cons, List.take_zero, List.drop_zero]
  repeat (go_big_quiet_step (fail))
  refine wpQuiet_nil ?_
  refine Mix.wpL_end ?_
  have HX9 := Lib.hid (HX6.out.step HT9.out id)
  have HS9 := Lib.hid (HS6.out.trans HT9.out)
  have hsd := HSd.out
  subst hsd
  clear d4 hcls
  have x4 := HX9.out.cell 4
  simp at x4
  have hO := own_base HO9.out (base' := w.heap.size) (fun q hq => Nat.le_trans HS6.out.size (own_ge HO9.out q hq))
  have hsz9 := HS9.out.size
  go_wp2_with (at_builtin; refine wpList_append_str _ rfl _ _ (by rfl) Try.underlying9 Try.underlying53 (by kernel_rfl) (by rfl) hO (by rfl) rfl (by unfold maxLen; omega) (by omega) hsz9 ?_; intro D10 c10 w10 hown hgrow hat)
  have HS10 := Lib.hid (grow_step HS9.out hgrow hO (Nat.le_refl _))
  have hcs : #[Value.int .u8 0].toList ++ u8s T ++ u8s U ++ u8s ds = u8s Z := by rw [HZ.out]; simp [u8s]
  have hln : 1 + T.length + U.length + ds.length = Z.length := by rw [HZ.out]; simp; omega
  rw [hcs] at hown
  refine bodyPost_ret (v := .tuple #[.slice D10 (1 + T.length + U.length + ds.length) c10, .int .i64 0]) (by simp [results, Try.results105, go_sem]) rfl ?_
  rw [hln] at hown ⊢
  exact ⟨D10, c10, rfl, hown, HS10.out⟩

theorem dput_ab : dputL 65 5 [97, 98] = [0, 65, 5, 11, 2, 97, 98] := by kernel_rfl
set_option maxRecDepth 100000 in
set_option maxHeartbeats 1600000 in
theorem awake15 (w : World) : Calls Try.prog 103 #[] w fun e w' => e = .returned (.bool true) ∧ Step (fun _ => False) w w' := by
  have HP : Hid (∀ w, Calls Try.prog 105 #[.agg #[.int .u8 65, .int .u64 5, .int .u64 0, .slice none 0 0, .string ⟨#[97, 98]⟩]] w fun e w' => ∃ D c', e = .returned (.tuple #[.slice D 7 c', .int .i64 0]) ∧
      w'.ownsRow w.heap.size 5 1 (.slice D 7 c') 7 (u8s [0, 65, 5, 11, 2, 97, 98]) ∧ Step (fun _ => False) w w') := fun w => by
    have := dput_ok w 65 5 0 none [97, 98] (.inr (.inl ⟨rfl, by decide⟩)) (by decide) (by decide)
    rw [dput_ab] at this
    exact this
  go_enter Try.func103, Try.ntmps103
  go_wp2_with fail
  refine (HP.out _).mono ?_
  rintro e w5 ⟨D, c, rfl, hown, hS⟩
  have hcv := conv_bytes (c := c) (Reads.of_own hown)
  rw [show str [0, 65, 5, 11, 2, 97, 98] = (⟨#[0, 65, 5, 11, 2, 97, 98]⟩ : ByteArray) from rfl] at hcv
  clear hown
  go_wp2_with fail
  go_ret
  exact ⟨rfl, hS⟩
end Go.Proofs.Ytfemeendkjcffaa
