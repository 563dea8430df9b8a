/-
  creelref08.Get of any bytes (printed by gen_rem.py).
-/
import Derived.Test.YtfemeendkjcffaaReL
import Derived.Test.YtfemeendkjcffaaReE
set_option linter.unusedVariables false
set_option linter.unusedSimpArgs false
namespace Go.Proofs.Ytfemeendkjcffaa
open Go.RowKit

/-- .. from behind the instruction's test on. -/
def tailQ (bs : List UInt8) (x : Nat × Nat × Nat × Nat) (s1 : Rst) : (Nat × Nat × Nat × Nat) × Rst :=
  (if (if (rbyF bs s1).1 = 11 then (rbyF bs s1).2 else failS 12 s1.k (rbyF bs s1).2).y = 0 then x else (0, 0, 0, 0), if (rbyF bs s1).1 = 11 then (rbyF bs s1).2 else failS 12 s1.k (rbyF bs s1).2)
def rcgC (x : Nat × Nat × Nat × List Nat) : Nat := crtF x.1 x.2.1 x.2.2.1 x.2.2.2.length
def rcgF (bs : List UInt8) (s : Rst) : (Nat × Nat × Nat × Nat) × Rst :=
  tailQ bs ((rgetF bs s).1.1, (rgetF bs s).1.2.1, (rgetF bs s).1.2.2.1, (rgetF bs s).1.2.2.2.length)
    (if (rgetF bs s).2.y = 0 ∧ ¬ rcgC (rgetF bs s).1 = 0 then failS (rcgC (rgetF bs s).1) s.k (rgetF bs s).2 else (rgetF bs s).2)
def CgQ (X : Nat) (S : Nat → Prop) (D : Option Addr) (c : Nat) (bs : List UInt8) (w : World) (q : (Nat × Nat × Nat × Nat) × Rst) (e : Ending) (w' : World) : Prop :=
  ∃ D' c', e = .returned (.agg (insC (q.1.1 : Int) (q.1.2.1 : Int) (q.1.2.2.1 : Int) D' q.1.2.2.2 c')) ∧ Rf w' X S D c bs q.2 ∧ Step (fun i => i = X) w w'
theorem rgetT_op (bs : List UInt8) (op m : Nat) (s : Rst) : (rgetT bs op m s).1.1 = op := by
  rw [rgetT]
  repeat' split
  all_goals rfl
theorem rgetF_lt (bs : List UInt8) (s : Rst) : (rgetF bs s).1.1 < 256 := by
  rw [rgetF]
  split
  · split
    · dsimp only
      rw [finX]
      split
      · rw [rgetT_op]
        exact rbyF_lt bs s
      · exact Nat.zero_lt_succ _
    · exact Nat.zero_lt_succ _
  · exact Nat.zero_lt_succ _

set_option maxRecDepth 100000 in
set_option maxHeartbeats 3200000 in
theorem rcget_walk (w : World) (X : Nat) (S : Nat → Prop) (D : Option Addr) (c : Nat) (bs : List UInt8) (s : Rst) (h : Rf w X S D c bs s) :
    Calls Try.prog 51 #[.pointer (some ⟨X, 0, none⟩)] w (CgQ X S D c bs w (rcgF bs s)) := by
  obtain ⟨RR, hRR⟩ : ∃ RR, RR = rcgF bs s := ⟨_, rfl⟩
  rw [← hRR]
  have HG : Hid (∀ w', Rf w' X S D c bs s → Calls Try.prog 145 #[.pointer (some ⟨X, 0, none⟩)] w' (GetQ X S D c bs w' (rgetF bs s).1 (rgetF bs s).2)) := fun w' h' => rget_walk w' X S D c bs s h'
  have hop := rgetF_lt bs s
  have HQ0 : Hid (RR = tailQ bs ((rgetF bs s).1.1, (rgetF bs s).1.2.1, (rgetF bs s).1.2.2.1, (rgetF bs s).1.2.2.2.length)
    (if (rgetF bs s).2.y = 0 ∧ ¬ rcgC (rgetF bs s).1 = 0 then failS (rcgC (rgetF bs s).1) s.k (rgetF bs s).2 else (rgetF bs s).2)) := hRR
  clear hRR
  generalize rgetF bs s = g at HG hop HQ0
  obtain ⟨⟨op, a, b, L⟩, k1, y1, a1⟩ := g
  simp only at HG hop
  replace HQ0 : Hid (RR = tailQ bs (op, a, b, L.length) (if y1 = 0 ∧ ¬ crtF op a b L.length = 0 then failS (crtF op a b L.length) s.k ⟨k1, y1, a1⟩ else ⟨k1, y1, a1⟩)) := HQ0
  have hxl := h.lt
  have hlow := h.low
  have x1 := h.c1
  have HH := Lib.hid h
  clear h
  go_enter Try.func51, Try.ntmps51
  go_wp2_with fail
  refine (HG.out _ (HH.out.alloc _)).mono ?_
  rintro e w6 ⟨DI, cI, rfl, _, hs6, ht6⟩
  have hsz := (((Step.refl (F := fun i => i = X)).alloc (w := w) (.cells (insC 0 0 0 none 0 0) 50)).trans ht6).size
  obtain ⟨R, hR⟩ : ∃ R, R = w.heap.size := ⟨_, rfl⟩
  have hRX : R ≠ X := by omega
  have hRw : w.heap.size ≤ R := by omega
  have hRS : ∀ j, S j → j ≠ R := fun j hj => by have := hlow j hj; omega
  simp only at hs6 ⊢
  obtain ⟨n, hn⟩ : ∃ n, n = L.length := ⟨_, rfl⟩
  rw [← hn] at HQ0 ⊢
  clear hn
  have HB6 := Lib.hid (((Blk.new w 50 (insC 0 0 0 none 0 0)).step ht6 (by rw [← hR]; exact hRX)).alloc (.cells (insC (op : Int) (a : Int) (b : Int) DI n cI) 50))
  have hRI := ((Blk.new w 50 (insC 0 0 0 none 0 0)).step ht6 (by rw [← hR]; exact hRX)).lt
  rw [← hR] at hRI
  have HI6 := Lib.hid (Blk.new w6 50 (insC (op : Int) (a : Int) (b : Int) DI n cI))
  have HS6 := Lib.hid (hs6.alloc (.cells (insC (op : Int) (a : Int) (b : Int) DI n cI) 50))
  have HT6 := Lib.hid ((((Step.refl (F := fun i => i = X)).alloc (w := w) (.cells (insC 0 0 0 none 0 0) 50)).trans ht6).alloc (.cells (insC (op : Int) (a : Int) (b : Int) DI n cI) 50))
  have hXI : X < w6.heap.size := by omega
  have hIw : w.heap.size ≤ w6.heap.size := by omega
  have x2 := hs6.c2
  have x1 := hs6.c1
  simp only at x1 x2
  rw [← hR] at HB6 ⊢
  clear hs6 ht6 hR hxl HH hsz
  have hIX : w6.heap.size ≠ X := by omega
  simp only [insC]
  by_cases hy1 : y1 = 0
  rotate_left
  · have HQ : Hid (RR = tailQ bs (op, a, b, n) ⟨k1, y1, a1⟩) := by rw [Hid, HQ0.out, if_neg (fun hh => hy1 hh.1)]
    clear HQ0
    have hyb : ((y1 : Int) == 0) = false := by simp; omega
    have HB7 := HB6
    have HI7 := HI6
    have HS7 := HS6
    have HT7 := HT6
    clear HB6 HI6 HS6 HT6
    have x1 := HS7.out.c1
    simp only at x1
    go_wp2_with fail
    refine (rbyte_walk _ X S D c bs _ HS7.out).mono ?_
    rintro e w9 ⟨rfl, hs, ht⟩
    have HB9 := Lib.hid (HB7.out.step ht hRX)
    have HI9 := Lib.hid (HI7.out.step ht hIX)
    have HS9 := Lib.hid hs
    have HT9 := Lib.hid (HT7.out.trans ht)
    clear hs ht HB7 HI7 HS7 HT7 x1
    have hvl := rbyF_lt bs ⟨k1, y1, a1⟩
    rw [tailQ] at HQ
    generalize rbyF bs ⟨k1, y1, a1⟩ = r at HQ HS9 hvl ⊢
    obtain ⟨v, s2⟩ := r
    simp only at HQ HS9 hvl ⊢
    by_cases h11 : v = 11
    · subst h11
      obtain ⟨k2, y2, a2⟩ := s2
      have HZ : Hid (RR = (if y2 = 0 then (op, a, b, n) else (0, 0, 0, 0), ⟨k2, y2, a2⟩)) := by rw [Hid, HQ.out, if_pos rfl]
      clear HQ
      have x2 := HS9.out.c2
      simp only at x2
      by_cases hy : y2 = 0
      · subst hy
        have y0 := HI9.out.cell 0
        have y1 := HI9.out.cell 1
        have y2' := HI9.out.cell 2
        have y3 := HI9.out.cell 3
        simp [insC] at y0 y1 y2' y3
        have hone := insC_one  (op : Int) (a : Int) (b : Int) DI n cI
        have hbl := HB9.out
        go_wp2_with (refine wpList_store_rowTo rfl 50 _ _ rfl rfl R (insC (op : Int) (a : Int) (b : Int) DI n cI) rfl rfl 50 _ hbl rfl rfl hone ?_)
        have r0 := (hbl.row (insC (op : Int) (a : Int) (b : Int) DI n cI)).cell 0
        have r1 := (hbl.row (insC (op : Int) (a : Int) (b : Int) DI n cI)).cell 1
        have r2 := (hbl.row (insC (op : Int) (a : Int) (b : Int) DI n cI)).cell 2
        have r3 := (hbl.row (insC (op : Int) (a : Int) (b : Int) DI n cI)).cell 3
        simp [insC] at r0 r1 r2 r3
        have hSF := HS9.out.step (Step.setRow (F := fun j => j = R) Step.refl (g := R) (.inl rfl) (insC (op : Int) (a : Int) (b : Int) DI n cI)) (Ne.symm hRX) hRS
        have hTF := HT9.out.setRow (g := R) (.inr hRw) (insC (op : Int) (a : Int) (b : Int) DI n cI)
        refine bodyPost_ret (v := .agg (insC (op : Int) (a : Int) (b : Int) DI n cI)) (by simp [results, Try.results51, go_sem, insC, r0, r1, r2, r3]) rfl ?_
        rw [HZ.out]
        first | rw [if_pos rfl] | rw [if_pos trivial]
        exact ⟨DI, cI, rfl, hSF, hTF⟩
      · have hy0 : ((y2 : Int) == 0) = false := by simp; omega
        have hone := insC_one  0 0 0 none 0 0
        have hbl := HB9.out
        go_wp2_with (refine wpList_store_rowTo rfl 50 _ _ rfl rfl R (insC 0 0 0 none 0 0) rfl rfl 50 _ hbl rfl rfl hone ?_)
        have r0 := (hbl.row (insC 0 0 0 none 0 0)).cell 0
        have r1 := (hbl.row (insC 0 0 0 none 0 0)).cell 1
        have r2 := (hbl.row (insC 0 0 0 none 0 0)).cell 2
        have r3 := (hbl.row (insC 0 0 0 none 0 0)).cell 3
        simp [insC] at r0 r1 r2 r3
        have hSF := HS9.out.step (Step.setRow (F := fun j => j = R) Step.refl (g := R) (.inl rfl) (insC 0 0 0 none 0 0)) (Ne.symm hRX) hRS
        have hTF := HT9.out.setRow (g := R) (.inr hRw) (insC 0 0 0 none 0 0)
        refine bodyPost_ret (v := .agg (insC 0 0 0 none 0 0)) (by simp [results, Try.results51, go_sem, insC, r0, r1, r2, r3]) rfl ?_
        rw [HZ.out, if_neg hy]
        exact ⟨none, 0, rfl, hSF, hTF⟩
    · have h11b : ((v : Int) == 11) = false := by simp; omega
      rw [if_neg h11] at HQ
      clear h11
      go_wp2_with fail
      refine (rfail_walk _ X S D c bs _ HS9.out 12 k1).mono ?_
      rintro e w10 ⟨rfl, hs, ht⟩
      have HB10 := Lib.hid (HB9.out.step ht hRX)
      have HI10 := Lib.hid (HI9.out.step ht hIX)
      have HS10 := Lib.hid hs
      have HT10 := Lib.hid (HT9.out.trans ht)
      clear hs ht HB9 HI9 HS9 HT9
      generalize failS 12 k1 s2 = s3 at HQ HS10 ⊢
      obtain ⟨k2, y2, a2⟩ := s3
      have HZ : Hid (RR = (if y2 = 0 then (op, a, b, n) else (0, 0, 0, 0), ⟨k2, y2, a2⟩)) := HQ
      clear HQ
      have x2 := HS10.out.c2
      simp only at x2
      by_cases hy : y2 = 0
      · subst hy
        have y0 := HI10.out.cell 0
        have y1 := HI10.out.cell 1
        have y2' := HI10.out.cell 2
        have y3 := HI10.out.cell 3
        simp [insC] at y0 y1 y2' y3
        have hone := insC_one  (op : Int) (a : Int) (b : Int) DI n cI
        have hbl := HB10.out
        go_wp2_with (refine wpList_store_rowTo rfl 50 _ _ rfl rfl R (insC (op : Int) (a : Int) (b : Int) DI n cI) rfl rfl 50 _ hbl rfl rfl hone ?_)
        have r0 := (hbl.row (insC (op : Int) (a : Int) (b : Int) DI n cI)).cell 0
        have r1 := (hbl.row (insC (op : Int) (a : Int) (b : Int) DI n cI)).cell 1
        have r2 := (hbl.row (insC (op : Int) (a : Int) (b : Int) DI n cI)).cell 2
        have r3 := (hbl.row (insC (op : Int) (a : Int) (b : Int) DI n cI)).cell 3
        simp [insC] at r0 r1 r2 r3
        have hSF := HS10.out.step (Step.setRow (F := fun j => j = R) Step.refl (g := R) (.inl rfl) (insC (op : Int) (a : Int) (b : Int) DI n cI)) (Ne.symm hRX) hRS
        have hTF := HT10.out.setRow (g := R) (.inr hRw) (insC (op : Int) (a : Int) (b : Int) DI n cI)
        refine bodyPost_ret (v := .agg (insC (op : Int) (a : Int) (b : Int) DI n cI)) (by simp [results, Try.results51, go_sem, insC, r0, r1, r2, r3]) rfl ?_
        rw [HZ.out]
        first | rw [if_pos rfl] | rw [if_pos trivial]
        exact ⟨DI, cI, rfl, hSF, hTF⟩
      · have hy0 : ((y2 : Int) == 0) = false := by simp; omega
        have hone := insC_one  0 0 0 none 0 0
        have hbl := HB10.out
        go_wp2_with (refine wpList_store_rowTo rfl 50 _ _ rfl rfl R (insC 0 0 0 none 0 0) rfl rfl 50 _ hbl rfl rfl hone ?_)
        have r0 := (hbl.row (insC 0 0 0 none 0 0)).cell 0
        have r1 := (hbl.row (insC 0 0 0 none 0 0)).cell 1
        have r2 := (hbl.row (insC 0 0 0 none 0 0)).cell 2
        have r3 := (hbl.row (insC 0 0 0 none 0 0)).cell 3
        simp [insC] at r0 r1 r2 r3
        have hSF := HS10.out.step (Step.setRow (F := fun j => j = R) Step.refl (g := R) (.inl rfl) (insC 0 0 0 none 0 0)) (Ne.symm hRX) hRS
        have hTF := HT10.out.setRow (g := R) (.inr hRw) (insC 0 0 0 none 0 0)
        refine bodyPost_ret (v := .agg (insC 0 0 0 none 0 0)) (by simp [results, Try.results51, go_sem, insC, r0, r1, r2, r3]) rfl ?_
        rw [HZ.out, if_neg hy]
        exact ⟨none, 0, rfl, hSF, hTF⟩
  subst hy1
  have HR := Lib.hid (fun w => crright_walk w op a b n cI DI hop)
  simp only [insV] at HR
  obtain ⟨r, hr'⟩ : ∃ r, r = crtF op a b n := ⟨_, rfl⟩
  rw [← hr'] at HR HQ0
  clear hr'
  go_wp2_with fail
  have hW2 : w6.alloc (.cells #[.int .u8 (op : Int), .int .u64 (a : Int), .int .u64 (b : Int), .slice DI n cI] 50) = w6.alloc (.cells (insC (op : Int) (a : Int) (b : Int) DI n cI) 50) := rfl
  rw [hW2]
  obtain ⟨I, hI⟩ : ∃ I, I = w6.heap.size := ⟨_, rfl⟩
  obtain ⟨W, hW⟩ : ∃ W, W = w6.alloc (.cells (insC (op : Int) (a : Int) (b : Int) DI n cI) 50) := ⟨_, rfl⟩
  rw [← hI] at HI6 hRI hXI hIw hIX ⊢
  rw [← hW] at HB6 HI6 HS6 HT6 ⊢
  clear hW hI hW2 x1 x2
  refine (HR.out _).mono ?_
  rintro e w7 ⟨rfl, ht7⟩
  have HB7 := Lib.hid (HB6.out.step ht7 id)
  have HI7 := Lib.hid (HI6.out.step ht7 id)
  have HS7 := Lib.hid (HS6.out.quiet ht7)
  have HT7 := Lib.hid (HT6.out.trans' ht7 (fun _ h => h.elim))
  clear ht7 HB6 HI6 HS6 HT6
  obtain ⟨y1, hy1⟩ : ∃ y1 : Nat, y1 = 0 := ⟨_, rfl⟩
  by_cases hz : r = 0
  · have HQ : Hid (RR = tailQ bs (op, a, b, n) ⟨k1, 0, a1⟩) := by rw [Hid, HQ0.out, if_neg (fun hh => hh.2 hz)]
    subst hz
    clear HQ0 HR hy1
    have x1 := HS7.out.c1
    simp only at x1
    go_wp2_with fail
    refine (rbyte_walk _ X S D c bs _ HS7.out).mono ?_
    rintro e w9 ⟨rfl, hs, ht⟩
    have HB9 := Lib.hid (HB7.out.step ht hRX)
    have HI9 := Lib.hid (HI7.out.step ht hIX)
    have HS9 := Lib.hid hs
    have HT9 := Lib.hid (HT7.out.trans ht)
    clear hs ht HB7 HI7 HS7 HT7 x1
    have hvl := rbyF_lt bs ⟨k1, 0, a1⟩
    rw [tailQ] at HQ
    generalize rbyF bs ⟨k1, 0, a1⟩ = r at HQ HS9 hvl ⊢
    obtain ⟨v, s2⟩ := r
    simp only at HQ HS9 hvl ⊢
    by_cases h11 : v = 11
    · subst h11
      obtain ⟨k2, y2, a2⟩ := s2
      have HZ : Hid (RR = (if y2 = 0 then (op, a, b, n) else (0, 0, 0, 0), ⟨k2, y2, a2⟩)) := by rw [Hid, HQ.out, if_pos rfl]
      clear HQ
      have x2 := HS9.out.c2
      simp only at x2
      by_cases hy : y2 = 0
      · subst hy
        have y0 := HI9.out.cell 0
        have y1 := HI9.out.cell 1
        have y2' := HI9.out.cell 2
        have y3 := HI9.out.cell 3
        simp [insC] at y0 y1 y2' y3
        have hone := insC_one  (op : Int) (a : Int) (b : Int) DI n cI
        have hbl := HB9.out
        go_wp2_with (refine wpList_store_rowTo rfl 50 _ _ rfl rfl R (insC (op : Int) (a : Int) (b : Int) DI n cI) rfl rfl 50 _ hbl rfl rfl hone ?_)
        have r0 := (hbl.row (insC (op : Int) (a : Int) (b : Int) DI n cI)).cell 0
        have r1 := (hbl.row (insC (op : Int) (a : Int) (b : Int) DI n cI)).cell 1
        have r2 := (hbl.row (insC (op : Int) (a : Int) (b : Int) DI n cI)).cell 2
        have r3 := (hbl.row (insC (op : Int) (a : Int) (b : Int) DI n cI)).cell 3
        simp [insC] at r0 r1 r2 r3
        have hSF := HS9.out.step (Step.setRow (F := fun j => j = R) Step.refl (g := R) (.inl rfl) (insC (op : Int) (a : Int) (b : Int) DI n cI)) (Ne.symm hRX) hRS
        have hTF := HT9.out.setRow (g := R) (.inr hRw) (insC (op : Int) (a : Int) (b : Int) DI n cI)
        refine bodyPost_ret (v := .agg (insC (op : Int) (a : Int) (b : Int) DI n cI)) (by simp [results, Try.results51, go_sem, insC, r0, r1, r2, r3]) rfl ?_
        rw [HZ.out]
        first | rw [if_pos rfl] | rw [if_pos trivial]
        exact ⟨DI, cI, rfl, hSF, hTF⟩
      · have hy0 : ((y2 : Int) == 0) = false := by simp; omega
        have hone := insC_one  0 0 0 none 0 0
        have hbl := HB9.out
        go_wp2_with (refine wpList_store_rowTo rfl 50 _ _ rfl rfl R (insC 0 0 0 none 0 0) rfl rfl 50 _ hbl rfl rfl hone ?_)
        have r0 := (hbl.row (insC 0 0 0 none 0 0)).cell 0
        have r1 := (hbl.row (insC 0 0 0 none 0 0)).cell 1
        have r2 := (hbl.row (insC 0 0 0 none 0 0)).cell 2
        have r3 := (hbl.row (insC 0 0 0 none 0 0)).cell 3
        simp [insC] at r0 r1 r2 r3
        have hSF := HS9.out.step (Step.setRow (F := fun j => j = R) Step.refl (g := R) (.inl rfl) (insC 0 0 0 none 0 0)) (Ne.symm hRX) hRS
        have hTF := HT9.out.setRow (g := R) (.inr hRw) (insC 0 0 0 none 0 0)
        refine bodyPost_ret (v := .agg (insC 0 0 0 none 0 0)) (by simp [results, Try.results51, go_sem, insC, r0, r1, r2, r3]) rfl ?_
        rw [HZ.out, if_neg hy]
        exact ⟨none, 0, rfl, hSF, hTF⟩
    · have h11b : ((v : Int) == 11) = false := by simp; omega
      rw [if_neg h11] at HQ
      clear h11
      go_wp2_with fail
      refine (rfail_walk _ X S D c bs _ HS9.out 12 k1).mono ?_
      rintro e w10 ⟨rfl, hs, ht⟩
      have HB10 := Lib.hid (HB9.out.step ht hRX)
      have HI10 := Lib.hid (HI9.out.step ht hIX)
      have HS10 := Lib.hid hs
      have HT10 := Lib.hid (HT9.out.trans ht)
      clear hs ht HB9 HI9 HS9 HT9
      generalize failS 12 k1 s2 = s3 at HQ HS10 ⊢
      obtain ⟨k2, y2, a2⟩ := s3
      have HZ : Hid (RR = (if y2 = 0 then (op, a, b, n) else (0, 0, 0, 0), ⟨k2, y2, a2⟩)) := HQ
      clear HQ
      have x2 := HS10.out.c2
      simp only at x2
      by_cases hy : y2 = 0
      · subst hy
        have y0 := HI10.out.cell 0
        have y1 := HI10.out.cell 1
        have y2' := HI10.out.cell 2
        have y3 := HI10.out.cell 3
        simp [insC] at y0 y1 y2' y3
        have hone := insC_one  (op : Int) (a : Int) (b : Int) DI n cI
        have hbl := HB10.out
        go_wp2_with (refine wpList_store_rowTo rfl 50 _ _ rfl rfl R (insC (op : Int) (a : Int) (b : Int) DI n cI) rfl rfl 50 _ hbl rfl rfl hone ?_)
        have r0 := (hbl.row (insC (op : Int) (a : Int) (b : Int) DI n cI)).cell 0
        have r1 := (hbl.row (insC (op : Int) (a : Int) (b : Int) DI n cI)).cell 1
        have r2 := (hbl.row (insC (op : Int) (a : Int) (b : Int) DI n cI)).cell 2
        have r3 := (hbl.row (insC (op : Int) (a : Int) (b : Int) DI n cI)).cell 3
        simp [insC] at r0 r1 r2 r3
        have hSF := HS10.out.step (Step.setRow (F := fun j => j = R) Step.refl (g := R) (.inl rfl) (insC (op : Int) (a : Int) (b : Int) DI n cI)) (Ne.symm hRX) hRS
        have hTF := HT10.out.setRow (g := R) (.inr hRw) (insC (op : Int) (a : Int) (b : Int) DI n cI)
        refine bodyPost_ret (v := .agg (insC (op : Int) (a : Int) (b : Int) DI n cI)) (by simp [results, Try.results51, go_sem, insC, r0, r1, r2, r3]) rfl ?_
        rw [HZ.out]
        first | rw [if_pos rfl] | rw [if_pos trivial]
        exact ⟨DI, cI, rfl, hSF, hTF⟩
      · have hy0 : ((y2 : Int) == 0) = false := by simp; omega
        have hone := insC_one  0 0 0 none 0 0
        have hbl := HB10.out
        go_wp2_with (refine wpList_store_rowTo rfl 50 _ _ rfl rfl R (insC 0 0 0 none 0 0) rfl rfl 50 _ hbl rfl rfl hone ?_)
        have r0 := (hbl.row (insC 0 0 0 none 0 0)).cell 0
        have r1 := (hbl.row (insC 0 0 0 none 0 0)).cell 1
        have r2 := (hbl.row (insC 0 0 0 none 0 0)).cell 2
        have r3 := (hbl.row (insC 0 0 0 none 0 0)).cell 3
        simp [insC] at r0 r1 r2 r3
        have hSF := HS10.out.step (Step.setRow (F := fun j => j = R) Step.refl (g := R) (.inl rfl) (insC 0 0 0 none 0 0)) (Ne.symm hRX) hRS
        have hTF := HT10.out.setRow (g := R) (.inr hRw) (insC 0 0 0 none 0 0)
        refine bodyPost_ret (v := .agg (insC 0 0 0 none 0 0)) (by simp [results, Try.results51, go_sem, insC, r0, r1, r2, r3]) rfl ?_
        rw [HZ.out, if_neg hy]
        exact ⟨none, 0, rfl, hSF, hTF⟩
  · have HQ : Hid (RR = tailQ bs (op, a, b, n) ⟨k1, r, s.k⟩) := by rw [Hid, HQ0.out, if_pos ⟨by trivial, hz⟩]; rfl
    have hzb : ((r : Int) == 0) = false := by simp; omega
    clear hz HQ0 hy1
    have y0 := HI7.out.cell 0
    have y1 := HI7.out.cell 1
    have y2 := HI7.out.cell 2
    have y3 := HI7.out.cell 3
    simp [insC] at y0 y1 y2 y3
    go_wp2_with fail
    refine (HR.out _).mono ?_
    rintro e w8 ⟨rfl, ht8⟩
    have HB8 := Lib.hid (HB7.out.step ht8 id)
    have HI8 := Lib.hid (HI7.out.step ht8 id)
    have HS8 := Lib.hid (HS7.out.quiet ht8)
    have HT8 := Lib.hid (HT7.out.trans' ht8 (fun _ h => h.elim))
    clear ht8 HB7 HI7 HS7 HT7 HR y0 y1 y2 y3
    go_wp2_with fail
    refine (rfail_walk _ X S D c bs _ HS8.out r s.k).mono ?_
    rintro e w7 ⟨rfl, hs, ht⟩
    have HB7 := Lib.hid (HB8.out.step ht hRX)
    have HI7 := Lib.hid (HI8.out.step ht hIX)
    have HS7 : Hid (Rf w7 X S D c bs ⟨k1, r, s.k⟩) := hs
    have HT7 := Lib.hid (HT8.out.trans ht)
    clear hs ht HB8 HI8 HS8 HT8
    have x1 := HS7.out.c1
    simp only at x1
    go_wp2_with fail
    refine (rbyte_walk _ X S D c bs _ HS7.out).mono ?_
    rintro e w9 ⟨rfl, hs, ht⟩
    have HB9 := Lib.hid (HB7.out.step ht hRX)
    have HI9 := Lib.hid (HI7.out.step ht hIX)
    have HS9 := Lib.hid hs
    have HT9 := Lib.hid (HT7.out.trans ht)
    clear hs ht HB7 HI7 HS7 HT7 x1
    have hvl := rbyF_lt bs ⟨k1, r, s.k⟩
    rw [tailQ] at HQ
    generalize rbyF bs ⟨k1, r, s.k⟩ = r at HQ HS9 hvl ⊢
    obtain ⟨v, s2⟩ := r
    simp only at HQ HS9 hvl ⊢
    by_cases h11 : v = 11
    · subst h11
      obtain ⟨k2, y2, a2⟩ := s2
      have HZ : Hid (RR = (if y2 = 0 then (op, a, b, n) else (0, 0, 0, 0), ⟨k2, y2, a2⟩)) := by rw [Hid, HQ.out, if_pos rfl]
      clear HQ
      have x2 := HS9.out.c2
      simp only at x2
      by_cases hy : y2 = 0
      · subst hy
        have y0 := HI9.out.cell 0
        have y1 := HI9.out.cell 1
        have y2' := HI9.out.cell 2
        have y3 := HI9.out.cell 3
        simp [insC] at y0 y1 y2' y3
        have hone := insC_one  (op : Int) (a : Int) (b : Int) DI n cI
        have hbl := HB9.out
        go_wp2_with (refine wpList_store_rowTo rfl 50 _ _ rfl rfl R (insC (op : Int) (a : Int) (b : Int) DI n cI) rfl rfl 50 _ hbl rfl rfl hone ?_)
        have r0 := (hbl.row (insC (op : Int) (a : Int) (b : Int) DI n cI)).cell 0
        have r1 := (hbl.row (insC (op : Int) (a : Int) (b : Int) DI n cI)).cell 1
        have r2 := (hbl.row (insC (op : Int) (a : Int) (b : Int) DI n cI)).cell 2
        have r3 := (hbl.row (insC (op : Int) (a : Int) (b : Int) DI n cI)).cell 3
        simp [insC] at r0 r1 r2 r3
        have hSF := HS9.out.step (Step.setRow (F := fun j => j = R) Step.refl (g := R) (.inl rfl) (insC (op : Int) (a : Int) (b : Int) DI n cI)) (Ne.symm hRX) hRS
        have hTF := HT9.out.setRow (g := R) (.inr hRw) (insC (op : Int) (a : Int) (b : Int) DI n cI)
        refine bodyPost_ret (v := .agg (insC (op : Int) (a : Int) (b : Int) DI n cI)) (by simp [results, Try.results51, go_sem, insC, r0, r1, r2, r3]) rfl ?_
        rw [HZ.out]
        first | rw [if_pos rfl] | rw [if_pos trivial]
        exact ⟨DI, cI, rfl, hSF, hTF⟩
      · have hy0 : ((y2 : Int) == 0) = false := by simp; omega
        have hone := insC_one  0 0 0 none 0 0
        have hbl := HB9.out
        go_wp2_with (refine wpList_store_rowTo rfl 50 _ _ rfl rfl R (insC 0 0 0 none 0 0) rfl rfl 50 _ hbl rfl rfl hone ?_)
        have r0 := (hbl.row (insC 0 0 0 none 0 0)).cell 0
        have r1 := (hbl.row (insC 0 0 0 none 0 0)).cell 1
        have r2 := (hbl.row (insC 0 0 0 none 0 0)).cell 2
        have r3 := (hbl.row (insC 0 0 0 none 0 0)).cell 3
        simp [insC] at r0 r1 r2 r3
        have hSF := HS9.out.step (Step.setRow (F := fun j => j = R) Step.refl (g := R) (.inl rfl) (insC 0 0 0 none 0 0)) (Ne.symm hRX) hRS
        have hTF := HT9.out.setRow (g := R) (.inr hRw) (insC 0 0 0 none 0 0)
        refine bodyPost_ret (v := .agg (insC 0 0 0 none 0 0)) (by simp [results, Try.results51, go_sem, insC, r0, r1, r2, r3]) rfl ?_
        rw [HZ.out, if_neg hy]
        exact ⟨none, 0, rfl, hSF, hTF⟩
    · have h11b : ((v : Int) == 11) = false := by simp; omega
      rw [if_neg h11] at HQ
      clear h11
      go_wp2_with fail
      refine (rfail_walk _ X S D c bs _ HS9.out 12 k1).mono ?_
      rintro e w10 ⟨rfl, hs, ht⟩
      have HB10 := Lib.hid (HB9.out.step ht hRX)
      have HI10 := Lib.hid (HI9.out.step ht hIX)
      have HS10 := Lib.hid hs
      have HT10 := Lib.hid (HT9.out.trans ht)
      clear hs ht HB9 HI9 HS9 HT9
      generalize failS 12 k1 s2 = s3 at HQ HS10 ⊢
      obtain ⟨k2, y2, a2⟩ := s3
      have HZ : Hid (RR = (if y2 = 0 then (op, a, b, n) else (0, 0, 0, 0), ⟨k2, y2, a2⟩)) := HQ
      clear HQ
      have x2 := HS10.out.c2
      simp only at x2
      by_cases hy : y2 = 0
      · subst hy
        have y0 := HI10.out.cell 0
        have y1 := HI10.out.cell 1
        have y2' := HI10.out.cell 2
        have y3 := HI10.out.cell 3
        simp [insC] at y0 y1 y2' y3
        have hone := insC_one  (op : Int) (a : Int) (b : Int) DI n cI
        have hbl := HB10.out
        go_wp2_with (refine wpList_store_rowTo rfl 50 _ _ rfl rfl R (insC (op : Int) (a : Int) (b : Int) DI n cI) rfl rfl 50 _ hbl rfl rfl hone ?_)
        have r0 := (hbl.row (insC (op : Int) (a : Int) (b : Int) DI n cI)).cell 0
        have r1 := (hbl.row (insC (op : Int) (a : Int) (b : Int) DI n cI)).cell 1
        have r2 := (hbl.row (insC (op : Int) (a : Int) (b : Int) DI n cI)).cell 2
        have r3 := (hbl.row (insC (op : Int) (a : Int) (b : Int) DI n cI)).cell 3
        simp [insC] at r0 r1 r2 r3
        have hSF := HS10.out.step (Step.setRow (F := fun j => j = R) Step.refl (g := R) (.inl rfl) (insC (op : Int) (a : Int) (b : Int) DI n cI)) (Ne.symm hRX) hRS
        have hTF := HT10.out.setRow (g := R) (.inr hRw) (insC (op : Int) (a : Int) (b : Int) DI n cI)
        refine bodyPost_ret (v := .agg (insC (op : Int) (a : Int) (b : Int) DI n cI)) (by simp [results, Try.results51, go_sem, insC, r0, r1, r2, r3]) rfl ?_
        rw [HZ.out]
        first | rw [if_pos rfl] | rw [if_pos trivial]
        exact ⟨DI, cI, rfl, hSF, hTF⟩
      · have hy0 : ((y2 : Int) == 0) = false := by simp; omega
        have hone := insC_one  0 0 0 none 0 0
        have hbl := HB10.out
        go_wp2_with (refine wpList_store_rowTo rfl 50 _ _ rfl rfl R (insC 0 0 0 none 0 0) rfl rfl 50 _ hbl rfl rfl hone ?_)
        have r0 := (hbl.row (insC 0 0 0 none 0 0)).cell 0
        have r1 := (hbl.row (insC 0 0 0 none 0 0)).cell 1
        have r2 := (hbl.row (insC 0 0 0 none 0 0)).cell 2
        have r3 := (hbl.row (insC 0 0 0 none 0 0)).cell 3
        simp [insC] at r0 r1 r2 r3
        have hSF := HS10.out.step (Step.setRow (F := fun j => j = R) Step.refl (g := R) (.inl rfl) (insC 0 0 0 none 0 0)) (Ne.symm hRX) hRS
        have hTF := HT10.out.setRow (g := R) (.inr hRw) (insC 0 0 0 none 0 0)
        refine bodyPost_ret (v := .agg (insC 0 0 0 none 0 0)) (by simp [results, Try.results51, go_sem, insC, r0, r1, r2, r3]) rfl ?_
        rw [HZ.out, if_neg hy]
        exact ⟨none, 0, rfl, hSF, hTF⟩
end Go.Proofs.Ytfemeendkjcffaa
