/-
  The reference: Bytes; creelref15.Get, GetAll of any bytes.
-/
import Derived.Test.YtfemeendkjcffaaRdG
import Derived.Test.YtfemeendkjcffaaRga
set_option linter.unusedVariables false
set_option linter.unusedSimpArgs false
namespace Go.Proofs.Ytfemeendkjcffaa
open Go.RowKit

def rbytF (bs : List UInt8) (n : Nat) (s : Rst) : List UInt8 × Rst := if s.y = 0 then (if n ≤ bs.length - s.k then ((bs.drop s.k).take n, { s with k := s.k + n }) else ([], failS 2 s.k s)) else ([], s)
def rdatF (bs : List UInt8) (s : Rst) : Dl × Rst :=
  (⟨(rcgF bs (rnoF bs s)).1.1, (rcgF bs (rnoF bs s)).1.2.1, (rcgF bs (rnoF bs s)).1.2.2.1, (rcgF bs (rnoF bs s)).1.2.2.2, 0, none, (rbytF bs (ridxF bs (rcgF bs (rnoF bs s)).2).1 (ridxF bs (rcgF bs (rnoF bs s)).2).2).1⟩, (rbytF bs (ridxF bs (rcgF bs (rnoF bs s)).2).1 (ridxF bs (rcgF bs (rnoF bs s)).2).2).2)

set_option maxRecDepth 100000 in
set_option maxHeartbeats 3200000 in
theorem rbytes_walk (w : World) (X : Nat) (S : Nat → Prop) (D : Option Addr) (c : Nat) (bs : List UInt8) (hcap : bs.length ≤ c) (s : Rst) (h : Rf w X S D c bs s) (n : Nat) (hn : n < 4294967296) :
    Calls Try.prog 202 #[.pointer (some ⟨X, 0, none⟩), .int .i64 (n : Int)] w (Rg X S D c bs w (.string (str (rbytF bs n s).1)) (rbytF bs n s).2) := by
  have HS := Lib.hid h
  have x0 := h.c0
  have x1 := h.c1
  have x2 := h.c2
  have hle := h.le
  have hsh := h.short
  have hs0 : (⟨#[]⟩ : ByteArray) = str [] := rfl
  clear h
  obtain ⟨k, y0, a0⟩ := s
  simp only at x1 x2 hle
  by_cases hy : y0 = 0
  · subst hy
    have n0 : ¬ (n : Int) < 0 := by omega
    have n0' : decide ((n : Int) < 0) = false := decide_eq_false n0
    have hw0 := IntWalk.i64_in ((bs.length : Int) - (k : Int)) (by omega)
    by_cases hn2 : n ≤ bs.length - k
    · have e1 : rbytF bs n ⟨k, 0, a0⟩ = ((bs.drop k).take n, ⟨k + n, 0, a0⟩) := by rw [rbytF, if_pos rfl, if_pos hn2]
      rw [e1]
      clear e1
      obtain ⟨G, hG⟩ : ∃ G, G = (bs.drop k).take n := ⟨_, rfl⟩
      rw [← hG]
      have g1 : ¬ (bs.length : Int) - (k : Int) < (n : Int) := by omega
      have g1' : decide ((bs.length : Int) - (k : Int) < (n : Int)) = false := decide_eq_false g1
      have hw := IntWalk.i64_in ((k : Int) + (n : Int)) (by omega)
      go_enter Try.func202, Try.ntmps202
      go_wp2_with fail
      go_quiet (fail)
      have HS1 := Lib.hid (HS.out.quiet (Step.refl.drewN nq))
      have hT1 : Step (fun i => i = X) w (w.drewN nq) := Step.refl.drewN nq
      obtain ⟨W, hW⟩ : ∃ W, W = w.drewN nq := ⟨_, rfl⟩
      rw [← hW] at HS1 hT1 ⊢
      have HT1 := Lib.hid hT1
      clear hT1 hW HS x0 x1 x2
      have x1 := HS1.out.c1
      have z1 := HS1.out.nz 1
      simp only at x1
      have HS2 := Lib.hid (HS1.out.setK (k' := k + n) (by omega))
      have HT2 := Lib.hid (HT1.out.setCell (p := ⟨X, 1, none⟩) (.inl rfl) (.int .i64 ((k + n : Nat) : Int)))
      have e1 : ((k + n : Nat) : Int) = (k : Int) + (n : Int) := by omega
      rw [e1] at HS2 HT2
      go_wp2_with fail
      obtain ⟨V, hV⟩ : ∃ V, V = W.setCell ⟨X, 1, none⟩ (.int .i64 ((k : Int) + (n : Int))) := ⟨_, rfl⟩
      rw [← hV] at HS2 HT2 ⊢
      clear hV x1 z1 HS1 HT1
      have y0 := HS2.out.c0
      have y1 := HS2.out.c1
      simp only at y1
      rw [e1] at y1
      have hw2 : IntKind.i64.wrap ((k : Int) + (n : Int) - (n : Int)) = (k : Int) := by rw [IntKind.wrap_i64]; omega
      have hw3 : (k : Int) + (n : Int) - (n : Int) = (k : Int) := by omega
      have hsl := slice_lhn (P := Try.prog) E_u8 D bs.length c .i64 .i64 (k : Int) ((k : Int) + (n : Int)) k (k + n) n (c - k) rfl (by omega) (by omega) (by omega) (by omega) rfl
      have hrt : Reads V S 1 (cutA D c k 1) n (u8s G) := by
        have h4 := (HS2.out.rd.cut (k := k) (by omega) hcap).take (k := n) (by omega)
        rw [Nat.mul_one, Nat.mul_one, ← u8s_drop, ← u8s_take, ← hG] at h4
        unfold cutA
        rw [Nat.mul_one]
        exact h4
      have hcv : ∀ q, (convert 53 9 (.slice (cutA D c k 1) n (c - k))).run Try.prog (V.drewN q) = .ok (.string (str G)) (V.drewN q) := fun q => conv_bytes (hrt.step (Step.refl.drewN q (F := fun _ => False)) (fun _ _ => id))
      clear hG hrt
      go_quiet (fail)
      go_wp2_with fail
      go_ret
      exact ⟨rfl, HS2.out.quiet (Step.refl.drewN _), HT2.out.drewN _⟩
    · have e1 : rbytF bs n ⟨k, 0, a0⟩ = ([], failS 2 k ⟨k, 0, a0⟩) := by rw [rbytF, if_pos rfl, if_neg hn2]
      rw [e1, ← hs0]
      clear e1
      have g1 : (bs.length : Int) - (k : Int) < (n : Int) := by omega
      have g1' : decide ((bs.length : Int) - (k : Int) < (n : Int)) = true := decide_eq_true g1
      go_enter Try.func202, Try.ntmps202
      go_wp2_with fail
      go_quiet (fail)
      have HS1 := Lib.hid (HS.out.quiet (Step.refl.drewN nq))
      have hT1 : Step (fun i => i = X) w (w.drewN nq) := Step.refl.drewN nq
      obtain ⟨W, hW⟩ : ∃ W, W = w.drewN nq := ⟨_, rfl⟩
      rw [← hW] at HS1 hT1 ⊢
      have HT1 := Lib.hid hT1
      clear hT1 hW HS x0 x1 x2
      have x1 := HS1.out.c1
      simp only at x1
      go_wp2_with fail
      refine (rfail_walk _ X S D c bs _ HS1.out 2 k).mono ?_
      rintro e w5 ⟨rfl, hS5, hT5⟩
      go_wp2_with fail
      go_ret
      exact ⟨rfl, hS5, HT1.out.trans hT5⟩
  · have hy' : ((y0 : Int) != 0) = true := bne_iff_ne.2 (by omega)
    have e1 : rbytF bs n ⟨k, y0, a0⟩ = ([], ⟨k, y0, a0⟩) := by rw [rbytF, if_neg hy]
    rw [e1, ← hs0]
    clear hy e1
    go_enter Try.func202, Try.ntmps202
    go_wp2_with fail
    go_ret
    exact ⟨rfl, HS.out, Step.refl⟩

def RdlQ (X : Nat) (S : Nat → Prop) (D : Option Addr) (c : Nat) (bs : List UInt8) (w : World) (q : Dl × Rst) (e : Ending) (w' : World) : Prop :=
  ∃ x' : Dl, x'.sh = q.1 ∧ e = .returned (.agg (datX x'.op x'.a x'.b x'.A x'.n x'.c (str x'.ds))) ∧ Rf w' X S D c bs q.2 ∧ Step (fun i => i = X) w w'

set_option maxRecDepth 100000 in
set_option maxHeartbeats 6400000 in
theorem rdget_walk (w : World) (X : Nat) (S : Nat → Prop) (D : Option Addr) (c : Nat) (bs : List UInt8) (hcap : bs.length ≤ c) (s : Rst) (h : Rf w X S D c bs s) :
    Calls Try.prog 181 #[.pointer (some ⟨X, 0, none⟩)] w (RdlQ X S D c bs w (rdatF bs s)) := by
  have HN : Hid (∀ w', Rf w' X S D c bs s → Calls Try.prog 147 #[.pointer (some ⟨X, 0, none⟩)] w' (Rg X S D c bs w' (.int .i64 ((rbyF bs s).1 : Int)) (rbyF bs s).2)) := fun w' h' => rbyte_walk w' X S D c bs s h'
  have HM : Hid (∀ w', Rf w' X S D c bs (rnoF bs s) → Calls Try.prog 51 #[.pointer (some ⟨X, 0, none⟩)] w' (CgQ X S D c bs w' (rcgF bs (rnoF bs s)))) := fun w' h' => rcget_walk w' X S D c bs _ h'
  have HI : Hid (∀ w', Rf w' X S D c bs (rcgF bs (rnoF bs s)).2 → Calls Try.prog 192 #[.pointer (some ⟨X, 0, none⟩)] w' (Rg X S D c bs w' (.int .u32 ((ridxF bs (rcgF bs (rnoF bs s)).2).1 : Int)) (ridxF bs (rcgF bs (rnoF bs s)).2).2)) := fun w' h' => rindex_walk w' X S D c bs _ h'
  have hil := ridxF_lt bs (rcgF bs (rnoF bs s)).2
  have HBy : Hid (∀ w', Rf w' X S D c bs (ridxF bs (rcgF bs (rnoF bs s)).2).2 → Calls Try.prog 202 #[.pointer (some ⟨X, 0, none⟩), .int .i64 ((ridxF bs (rcgF bs (rnoF bs s)).2).1 : Int)] w' (Rg X S D c bs w' (.string (str (rbytF bs (ridxF bs (rcgF bs (rnoF bs s)).2).1 (ridxF bs (rcgF bs (rnoF bs s)).2).2).1)) (rbytF bs (ridxF bs (rcgF bs (rnoF bs s)).2).1 (ridxF bs (rcgF bs (rnoF bs s)).2).2).2)) := fun w' h' => rbytes_walk w' X S D c bs hcap _ h' _ hil
  rw [rdatF]
  generalize rbytF bs (ridxF bs (rcgF bs (rnoF bs s)).2).1 (ridxF bs (rcgF bs (rnoF bs s)).2).2 = pd at HBy ⊢
  generalize ridxF bs (rcgF bs (rnoF bs s)).2 = pi at HI HBy hil ⊢
  generalize rcgF bs (rnoF bs s) = pg at HM HI ⊢
  have hno : rnoF bs s = if (rbyF bs s).1 = 0 then (rbyF bs s).2 else failS 10 s.k (rbyF bs s).2 := rfl
  rw [hno] at HM
  clear hno
  have hbl := rbyF_lt bs s
  generalize rbyF bs s = pb at HN HM hbl
  obtain ⟨z, s1⟩ := pb
  obtain ⟨⟨op, a, b, n⟩, s2⟩ := pg
  obtain ⟨ni, s3⟩ := pi
  obtain ⟨ds, s4⟩ := pd
  simp only [CgQ] at HN HM HI HBy hil hbl ⊢
  have hwn2 := IntWalk.i64_in (ni : Int) (by omega)
  have hxl := h.lt
  have hlow := h.low
  have x1 := h.c1
  have HH := Lib.hid h
  clear h
  have HB0 := Lib.hid (Blk.new w 156 (datC 0 0 ⟨#[]⟩))
  have HT0 := Lib.hid ((Step.refl (F := fun i => i = X)).alloc (w := w) (.cells (datC 0 0 ⟨#[]⟩) 156))
  obtain ⟨R, hR⟩ : ∃ R, R = w.heap.size := ⟨_, rfl⟩
  have hRX : R ≠ X := by omega
  have hRw : w.heap.size ≤ R := by omega
  have hRS : ∀ j, S j → j ≠ R := fun j hj => by have := hlow j hj; omega
  rw [← hR] at HB0
  obtain ⟨k, y0, a0⟩ := s
  simp only at x1 HM
  by_cases hz : z = 0
  · rw [if_pos hz] at HM
    subst hz
    go_enter Try.func181, Try.ntmps181
    go_wp2_with fail
    refine (HN.out _ (HH.out.alloc _)).mono ?_
    rintro e w5 ⟨rfl, hs5, ht5⟩
    have HB6 := Lib.hid (HB0.out.step ht5 hRX)
    have HS6 := Lib.hid hs5
    have HT6 := Lib.hid (HT0.out.trans ht5)
    rw [← hR]
    clear hs5 ht5 HB0 HT0 hR HH HN x1
    go_wp2_with fail
    refine (HM.out _ HS6.out).mono ?_
    rintro e w7 ⟨DI, cI, rfl, hs7, ht7⟩
    have HB7 := Lib.hid ((HB6.out.step ht7 hRX).alloc (.cells (datX op a b DI n cI ⟨#[]⟩) 156))
    have HI7 := Lib.hid (Blk.new w7 156 (datX op a b DI n cI ⟨#[]⟩))
    have HS7 := Lib.hid (hs7.alloc (.cells (datX op a b DI n cI ⟨#[]⟩) 156))
    have HT7 := Lib.hid ((HT6.out.trans ht7).alloc (.cells (datX op a b DI n cI ⟨#[]⟩) 156))
    have hRI : R < w7.heap.size := by have := HB6.out.lt; have := ht7.size; omega
    have hXI : X < w7.heap.size := by have := HS6.out.lt; have := ht7.size; omega
    have hIw : w.heap.size ≤ w7.heap.size := (HT6.out.trans ht7).size
    clear hs7 ht7 HB6 HS6 HT6 HM
    simp only [insC]
    go_wp2_with fail
    have hW2 : w7.alloc (.cells #[.int .u8 (op : Int), .int .u64 (a : Int), .int .u64 (b : Int), .slice DI n cI, .string ⟨#[]⟩] 156) = w7.alloc (.cells (datX op a b DI n cI ⟨#[]⟩) 156) := rfl
    rw [hW2]
    obtain ⟨I, hI⟩ : ∃ I, I = w7.heap.size := ⟨_, rfl⟩
    obtain ⟨W, hW⟩ : ∃ W, W = w7.alloc (.cells (datX op a b DI n cI ⟨#[]⟩) 156) := ⟨_, rfl⟩
    rw [← hI] at HI7 hRI hXI hIw ⊢
    rw [← hW] at HB7 HI7 HS7 HT7 ⊢
    have hIS : ∀ j, S j → j ≠ I := fun j hj => by have := hlow j hj; omega
    have hIX : I ≠ X := by omega
    have hRI2 : R ≠ I := by omega
    clear hW hI hW2
    refine (HI.out _ HS7.out).mono ?_
    rintro e w8 ⟨rfl, hs, ht⟩
    have HB8 := Lib.hid (HB7.out.step ht hRX)
    have HI8 := Lib.hid (HI7.out.step ht hIX)
    have HS8 := Lib.hid hs
    have HT8 := Lib.hid (HT7.out.trans ht)
    clear hs ht HB7 HI7 HS7 HT7 HI
    go_wp2_with fail
    refine (HBy.out _ HS8.out).mono ?_
    rintro e w10 ⟨rfl, hs, ht⟩
    have HB10 := Lib.hid (HB8.out.step ht hRX)
    have HI10 := Lib.hid (HI8.out.step ht hIX)
    have HS10 := Lib.hid hs
    have HT10 := Lib.hid (HT8.out.trans ht)
    clear hs ht HB8 HI8 HS8 HT8 HBy
    obtain ⟨sd, hsd⟩ : ∃ sd, sd = str ds := ⟨_, rfl⟩
    rw [← hsd]
    have HSt := Lib.hid hsd
    clear hsd
    have zz := HI10.out.frozen 4
    have cc := HI10.out.cell 4
    simp [datX] at cc
    have HI11 : Hid (Blk (w10.setCell ⟨I, 4, none⟩ (.string sd)) I 156 (datX op a b DI n cI sd)) := by
      have hq := HI10.out.set_ 4 (.string sd)
      simp [datX] at hq
      exact hq
    have HB11 := Lib.hid (HB10.out.far (p := ⟨I, 4, none⟩) hRI2 (.string sd))
    have hst11 : Step (fun j => j = I) w10 (w10.setCell ⟨I, 4, none⟩ (.string sd)) := (Step.refl (F := fun j => j = I)).setCell (p := ⟨I, 4, none⟩) (.inl rfl) _
    have HS11 := Lib.hid (HS10.out.step hst11 (Ne.symm hIX) hIS)
    have HT11 := Lib.hid (HT10.out.setCell (p := ⟨I, 4, none⟩) (.inr hIw) (.string sd))
    have y0 := HI11.out.cell 0
    have y1 := HI11.out.cell 1
    have y2 := HI11.out.cell 2
    have y3 := HI11.out.cell 3
    have y4 := HI11.out.cell 4
    simp [datX] at y0 y1 y2 y3 y4
    have hone : (datX op a b DI n cI sd).all (·.oneCell') = true := by simp [datX, Value.oneCell']
    have hbl := HB11.out
    go_wp2_with (refine wpList_store_rowTo rfl 156 _ _ rfl rfl R (datX op a b DI n cI sd) rfl rfl 156 _ hbl rfl rfl hone ?_)
    have r0 := (hbl.row (datX op a b DI n cI sd)).cell 0
    have r1 := (hbl.row (datX op a b DI n cI sd)).cell 1
    have r2 := (hbl.row (datX op a b DI n cI sd)).cell 2
    have r3 := (hbl.row (datX op a b DI n cI sd)).cell 3
    have r4 := (hbl.row (datX op a b DI n cI sd)).cell 4
    simp [datX] at r0 r1 r2 r3 r4
    have hSF := HS11.out.step (Step.setRow (F := fun j => j = R) Step.refl (g := R) (.inl rfl) (datX op a b DI n cI sd)) (Ne.symm hRX) hRS
    have hTF := HT11.out.setRow (g := R) (.inr hRw) (datX op a b DI n cI sd)
    refine bodyPost_ret (v := .agg (datX op a b DI n cI sd)) (by simp [results, Try.results181, go_sem, datX, r0, r1, r2, r3, r4]) rfl ?_
    exact ⟨⟨op, a, b, n, cI, DI, ds⟩, rfl, by rw [HSt.out], hSF, hTF⟩
  · rw [if_neg hz] at HM
    have hzb : ((z : Int) != 0) = true := bne_iff_ne.2 (by omega)
    clear hz
    go_enter Try.func181, Try.ntmps181
    go_wp2_with fail
    refine (HN.out _ (HH.out.alloc _)).mono ?_
    rintro e w5 ⟨rfl, hs5, ht5⟩
    have HB5 := Lib.hid (HB0.out.step ht5 hRX)
    have HS5 := Lib.hid hs5
    have HT5 := Lib.hid (HT0.out.trans ht5)
    rw [← hR]
    clear hs5 ht5 HB0 HT0 hR HH HN x1
    go_wp2_with fail
    refine (rfail_walk _ X S D c bs _ HS5.out 10 k).mono ?_
    rintro e w6 ⟨rfl, hs, ht⟩
    have HB6 := Lib.hid (HB5.out.step ht hRX)
    have HS6 := Lib.hid hs
    have HT6 := Lib.hid (HT5.out.trans ht)
    clear hs ht HB5 HS5 HT5
    go_wp2_with fail
    refine (HM.out _ HS6.out).mono ?_
    rintro e w7 ⟨DI, cI, rfl, hs7, ht7⟩
    have HB7 := Lib.hid ((HB6.out.step ht7 hRX).alloc (.cells (datX op a b DI n cI ⟨#[]⟩) 156))
    have HI7 := Lib.hid (Blk.new w7 156 (datX op a b DI n cI ⟨#[]⟩))
    have HS7 := Lib.hid (hs7.alloc (.cells (datX op a b DI n cI ⟨#[]⟩) 156))
    have HT7 := Lib.hid ((HT6.out.trans ht7).alloc (.cells (datX op a b DI n cI ⟨#[]⟩) 156))
    have hRI : R < w7.heap.size := by have := HB6.out.lt; have := ht7.size; omega
    have hXI : X < w7.heap.size := by have := HS6.out.lt; have := ht7.size; omega
    have hIw : w.heap.size ≤ w7.heap.size := (HT6.out.trans ht7).size
    clear hs7 ht7 HB6 HS6 HT6 HM
    simp only [insC]
    go_wp2_with fail
    have hW2 : w7.alloc (.cells #[.int .u8 (op : Int), .int .u64 (a : Int), .int .u64 (b : Int), .slice DI n cI, .string ⟨#[]⟩] 156) = w7.alloc (.cells (datX op a b DI n cI ⟨#[]⟩) 156) := rfl
    rw [hW2]
    obtain ⟨I, hI⟩ : ∃ I, I = w7.heap.size := ⟨_, rfl⟩
    obtain ⟨W, hW⟩ : ∃ W, W = w7.alloc (.cells (datX op a b DI n cI ⟨#[]⟩) 156) := ⟨_, rfl⟩
    rw [← hI] at HI7 hRI hXI hIw ⊢
    rw [← hW] at HB7 HI7 HS7 HT7 ⊢
    have hIS : ∀ j, S j → j ≠ I := fun j hj => by have := hlow j hj; omega
    have hIX : I ≠ X := by omega
    have hRI2 : R ≠ I := by omega
    clear hW hI hW2
    refine (HI.out _ HS7.out).mono ?_
    rintro e w8 ⟨rfl, hs, ht⟩
    have HB8 := Lib.hid (HB7.out.step ht hRX)
    have HI8 := Lib.hid (HI7.out.step ht hIX)
    have HS8 := Lib.hid hs
    have HT8 := Lib.hid (HT7.out.trans ht)
    clear hs ht HB7 HI7 HS7 HT7 HI
    go_wp2_with fail
    refine (HBy.out _ HS8.out).mono ?_
    rintro e w10 ⟨rfl, hs, ht⟩
    have HB10 := Lib.hid (HB8.out.step ht hRX)
    have HI10 := Lib.hid (HI8.out.step ht hIX)
    have HS10 := Lib.hid hs
    have HT10 := Lib.hid (HT8.out.trans ht)
    clear hs ht HB8 HI8 HS8 HT8 HBy
    obtain ⟨sd, hsd⟩ : ∃ sd, sd = str ds := ⟨_, rfl⟩
    rw [← hsd]
    have HSt := Lib.hid hsd
    clear hsd
    have zz := HI10.out.frozen 4
    have cc := HI10.out.cell 4
    simp [datX] at cc
    have HI11 : Hid (Blk (w10.setCell ⟨I, 4, none⟩ (.string sd)) I 156 (datX op a b DI n cI sd)) := by
      have hq := HI10.out.set_ 4 (.string sd)
      simp [datX] at hq
      exact hq
    have HB11 := Lib.hid (HB10.out.far (p := ⟨I, 4, none⟩) hRI2 (.string sd))
    have hst11 : Step (fun j => j = I) w10 (w10.setCell ⟨I, 4, none⟩ (.string sd)) := (Step.refl (F := fun j => j = I)).setCell (p := ⟨I, 4, none⟩) (.inl rfl) _
    have HS11 := Lib.hid (HS10.out.step hst11 (Ne.symm hIX) hIS)
    have HT11 := Lib.hid (HT10.out.setCell (p := ⟨I, 4, none⟩) (.inr hIw) (.string sd))
    have y0 := HI11.out.cell 0
    have y1 := HI11.out.cell 1
    have y2 := HI11.out.cell 2
    have y3 := HI11.out.cell 3
    have y4 := HI11.out.cell 4
    simp [datX] at y0 y1 y2 y3 y4
    have hone : (datX op a b DI n cI sd).all (·.oneCell') = true := by simp [datX, Value.oneCell']
    have hbl := HB11.out
    go_wp2_with (refine wpList_store_rowTo rfl 156 _ _ rfl rfl R (datX op a b DI n cI sd) rfl rfl 156 _ hbl rfl rfl hone ?_)
    have r0 := (hbl.row (datX op a b DI n cI sd)).cell 0
    have r1 := (hbl.row (datX op a b DI n cI sd)).cell 1
    have r2 := (hbl.row (datX op a b DI n cI sd)).cell 2
    have r3 := (hbl.row (datX op a b DI n cI sd)).cell 3
    have r4 := (hbl.row (datX op a b DI n cI sd)).cell 4
    simp [datX] at r0 r1 r2 r3 r4
    have hSF := HS11.out.step (Step.setRow (F := fun j => j = R) Step.refl (g := R) (.inl rfl) (datX op a b DI n cI sd)) (Ne.symm hRX) hRS
    have hTF := HT11.out.setRow (g := R) (.inr hRw) (datX op a b DI n cI sd)
    refine bodyPost_ret (v := .agg (datX op a b DI n cI sd)) (by simp [results, Try.results181, go_sem, datX, r0, r1, r2, r3, r4]) rfl ?_
    exact ⟨⟨op, a, b, n, cI, DI, ds⟩, rfl, by rw [HSt.out], hSF, hTF⟩

def RdsQ (X : Nat) (S : Nat → Prop) (D : Option Addr) (c : Nat) (bs : List UInt8) (w : World) (q : List Dl × Rst) (e : Ending) (w' : World) : Prop :=
  ∃ (l' : List Dl) (D' : Option Addr) (c' : Nat), l'.map Dl.sh = q.1 ∧ e = .returned (.slice D' l'.length c') ∧ w'.ownsRow w.heap.size 156 5 (.slice D' l'.length c') l'.length (dls l') ∧ Rf w' X S D c bs q.2 ∧ Step (fun i => i = X) w w'

set_option maxRecDepth 100000 in
set_option maxHeartbeats 6400000 in
theorem rdgall_walk (w : World) (X : Nat) (S : Nat → Prop) (D : Option Addr) (c : Nat) (bs : List UInt8) (hcap : bs.length ≤ c) (s : Rst) (h : Rf w X S D c bs s) :
    Calls Try.prog 115 #[.pointer (some ⟨X, 0, none⟩)] w (RdsQ X S D c bs w (rallF (rdatF bs) bs s)) := by
  have hxl := h.lt
  have hlow := h.low
  have HH := Lib.hid (rcount_walk w X S D c bs s h)
  have hnl := rcntF_le bs s
  clear h
  rw [rallF]
  generalize rcntF bs s = p at HH hnl ⊢
  obtain ⟨n, s1⟩ := p
  simp only at HH hnl ⊢
  obtain ⟨G, hG⟩ : ∃ G, G = stN (rdatF bs) n s1 := ⟨_, rfl⟩
  rw [← hG]
  obtain ⟨L, s2⟩ := G
  simp only
  obtain ⟨Z, hZ⟩ : ∃ Z, Z = rendS bs s2 := ⟨_, rfl⟩
  rw [← hZ]
  have HZ := Lib.hid hZ
  obtain ⟨LL, hLL⟩ : ∃ LL, LL = (if Z.y = 0 then L else []) := ⟨_, rfl⟩
  rw [← hLL]
  have HLL := Lib.hid hLL
  clear hLL
  have HR9 : Hid ((L, s2) = (([] : List Dl).map Dl.sh ++ (stN (rdatF bs) (n - 0) s1).1, (stN (rdatF bs) (n - 0) s1).2)) := by rw [Hid, hG, Nat.sub_zero]; rfl
  clear hG hZ
  go_enter Try.func115, Try.ntmps115
  go_wp2_with fail
  refine HH.out.mono ?_
  rintro e w9 ⟨rfl, hs, ht⟩
  have HT9 := Lib.hid ht
  have HO9 : Hid (w9.ownsRow w.heap.size 156 5 (.slice none 0 0) 0 (dls [])) := World.ownsRow_nil _ _ _ _
  have HK9 := Lib.hid hs
  clear hs ht HH
  go_wp2_with fail
  go_loopw [4, 5] (fun ov iv wr => ∃ (j c2 : Nat) (D2 : Option Addr) (sj : Rst) (lj : List Dl), j ≤ n ∧ ov = .slice D2 j c2 ∧ iv = .int .i64 (j : Int) ∧ Hid (lj.length = j) ∧ Hid ((L, s2) = (lj.map Dl.sh ++ (stN (rdatF bs) (n - j) sj).1, (stN (rdatF bs) (n - j) sj).2)) ∧
    Hid (wr.ownsRow w.heap.size 156 5 (.slice D2 j c2) j (dls lj)) ∧ Hid (Rf wr X S D c bs sj) ∧ Hid (Step (fun i => i = X) w wr)) (fun _ iv _ => n + 1 - (intOf iv).toNat)
  case atStart => exact ⟨0, 0, none, s1, [], by omega, rfl, rfl, rfl, HR9, HO9, HK9, HT9⟩
  case round =>
    obtain ⟨j, c2, D2, sj, lj, hj, rfl, rfl, HLj, HRj, HOj, HKj, HTj⟩ := hrel
    clear HO9 HK9 HR9 HT9
    have x2 := HKj.out.c2
    by_cases hlt : j < n
    · have g1 : (j : Int) < (n : Int) := by omega
      by_cases hy : sj.y = 0
      · have hw1 := IntWalk.i64_in ((j : Int) + 1) (by omega)
        rw [hy] at x2
        have HR2 : Hid ((L, s2) = ((lj.map Dl.sh ++ [(rdatF bs sj).1]) ++ (stN (rdatF bs) (n - (j + 1)) (rdatF bs sj).2).1, (stN (rdatF bs) (n - (j + 1)) (rdatF bs sj).2).2)) := by
          rw [Hid, HRj.out, show n - j = (n - (j + 1)) + 1 by omega]
          exact stN_go _ _ _ hy _
        have HN := Lib.hid (rdget_walk _ X S D c bs hcap sj HKj.out)
        clear hy HRj
        generalize rdatF bs sj = p at HN HR2
        obtain ⟨x, s3⟩ := p
        simp only [RdlQ] at HN HR2
        have hDX : blkOf D2 ≠ some X := by rw [← ownBlock_slice D2 j c2]; exact own_tag HOj.out HKj.out.blk (by decide)
        have hDge : ∀ q, blkOf D2 = some q → w.heap.size ≤ q := fun q hq => own_ge HOj.out q (by rw [ownBlock_slice]; exact hq)
        go_wp2_with fail
        refine HN.out.mono ?_
        rintro e wa ⟨⟨op, a, b, m, cc, B, ds⟩, hsh, rfl, hsa, hta⟩
        simp only [datX]
        rw [← show Dl.sh (⟨op, a, b, m, cc, B, ds⟩ : Dl) = x from hsh, show lj.map Dl.sh ++ [Dl.sh (⟨op, a, b, m, cc, B, ds⟩ : Dl)] = (lj ++ [(⟨op, a, b, m, cc, B, ds⟩ : Dl)]).map Dl.sh by rw [List.map_append]; rfl] at HR2
        have hOa : Hid ((wa.alloc (.cells #[.int .u8 (op : Int), .int .u64 (a : Int), .int .u64 (b : Int), .slice B m cc, .string (str ds)] 156)).ownsRow w.heap.size 156 5 (.slice D2 j c2) j (dls lj)) :=
          (own_step HOj.out hta (fun q hq e => hDX (by rw [← ownBlock_slice D2 j c2, hq, e]))).alloc _
        have HKa := Lib.hid (hsa.alloc (.cells #[.int .u8 (op : Int), .int .u64 (a : Int), .int .u64 (b : Int), .slice B m cc, .string (str ds)] 156))
        have HTa := Lib.hid ((HTj.out.trans hta).alloc (.cells #[.int .u8 (op : Int), .int .u64 (a : Int), .int .u64 (b : Int), .slice B m cc, .string (str ds)] 156))
        have hrn := reads_new wa #[Value.int .u8 (op : Int), .int .u64 (a : Int), .int .u64 (b : Int), .slice B m cc, .string (str ds)] 156 5 1 rfl
        have hone : ∀ u ∈ #[Value.int .u8 (op : Int), .int .u64 (a : Int), .int .u64 (b : Int), .slice B m cc, .string (str ds)].toList, u.oneCell' = true := by simp [Value.oneCell']
        have hm : j + 1 ≤ maxLen := by unfold maxLen; omega
        have hsz := HTa.out.size
        clear hsa hta hsh HN x2
        go_wp2_with (at_builtin; refine wpList_append_src _ rfl _ _ (by rfl) E_da (by rfl) hOa.out (by rfl) hrn hone hm (by omega) hsz ?_; intro D3 c3 w3 hown hgrow hat)
        have HK3 := Lib.hid (HKa.out.step (F := fun q => blkOf D2 = some q) (Step.refl.grown hgrow (fun q hq => .inl hq)) hDX (fun q hq hd => by have := hlow q hq; have := hDge q hd; omega))
        have HT3 := Lib.hid (HTa.out.grown hgrow (fun q hq => .inr (hDge q hq)))
        have hus : dls lj ++ #[Value.int .u8 (op : Int), .int .u64 (a : Int), .int .u64 (b : Int), .slice B m cc, .string (str ds)].toList = dls (lj ++ [(⟨op, a, b, m, cc, B, ds⟩ : Dl)]) := by rw [dls_append]; rfl
        rw [hus] at hown
        have HL3 : Hid ((lj ++ [(⟨op, a, b, m, cc, B, ds⟩ : Dl)]).length = j + 1) := by rw [Hid, List.length_append, HLj.out]; rfl
        go_roundw
        case rel => exact ⟨j + 1, c3, D3, s3, _, by omega, rfl, by rw [Int.natCast_add]; rfl, HL3, HR2, hown, HK3, HT3⟩
        case measure => simp [intOf]; omega
      · have hy' : ((sj.y : Int) == 0) = false := by simp; omega
        have HRL : Hid (L = lj.map Dl.sh ∧ Z = rendS bs sj) := by
          have h5 := HRj.out
          rw [stN_stop _ _ _ hy, List.append_nil] at h5
          exact ⟨(Prod.mk.inj h5).1, by rw [HZ.out, (Prod.mk.inj h5).2]⟩
        go_wp2_with fail
        refine (rend_walk _ X S D c bs sj HKj.out).mono ?_
        rw [← HRL.out.2]
        rintro e wz ⟨rfl, hsz, htz⟩
        have hDX : blkOf D2 ≠ some X := by rw [← ownBlock_slice D2 j c2]; exact own_tag HOj.out HKj.out.blk (by decide)
        have hOz := own_step HOj.out htz (fun q hq e => hDX (by rw [← ownBlock_slice D2 j c2, hq, e]))
        have HRl := Lib.hid HRL.out.1
        clear HRL HRj HZ
        obtain ⟨k3, y3, a3⟩ := Z
        have x2 := hsz.c2
        simp only at x2
        by_cases hy3 : y3 = 0
        · have e4 : LL = lj.map Dl.sh := by rw [HLL.out, if_pos hy3, HRl.out]
          subst hy3
          go_wp2_with fail
          go_ret
          rw [← HLj.out] at hOz ⊢
          exact ⟨lj, D2, c2, e4.symm, rfl, hOz, hsz, HTj.out.trans htz⟩
        · have hy4 : ((y3 : Int) != 0) = true := bne_iff_ne.2 (by omega)
          have e4 : LL = [] := by rw [HLL.out, if_neg hy3]
          clear hy3
          go_wp2_with fail
          go_ret
          exact ⟨[], none, 0, e4.symm, rfl, World.ownsRow_nil _ _ _ _, hsz, HTj.out.trans htz⟩
    · obtain rfl : j = n := by omega
      rw [Nat.sub_self] at HRj
      have HRL : Hid (L = lj.map Dl.sh ∧ Z = rendS bs sj) := by
        have h5 := HRj.out
        rw [stN_zero, List.append_nil] at h5
        exact ⟨(Prod.mk.inj h5).1, by rw [HZ.out, (Prod.mk.inj h5).2]⟩
      go_wp2_with fail
      refine (rend_walk _ X S D c bs sj HKj.out).mono ?_
      rw [← HRL.out.2]
      rintro e wz ⟨rfl, hsz, htz⟩
      have hDX : blkOf D2 ≠ some X := by rw [← ownBlock_slice D2 j c2]; exact own_tag HOj.out HKj.out.blk (by decide)
      have hOz := own_step HOj.out htz (fun q hq e => hDX (by rw [← ownBlock_slice D2 j c2, hq, e]))
      have HRl := Lib.hid HRL.out.1
      clear HRL HRj HZ
      clear x2
      obtain ⟨k3, y3, a3⟩ := Z
      have x2 := hsz.c2
      simp only at x2
      by_cases hy3 : y3 = 0
      · have e4 : LL = lj.map Dl.sh := by rw [HLL.out, if_pos hy3, HRl.out]
        subst hy3
        go_wp2_with fail
        go_ret
        rw [← HLj.out] at hOz ⊢
        exact ⟨lj, D2, c2, e4.symm, rfl, hOz, hsz, HTj.out.trans htz⟩
      · have hy4 : ((y3 : Int) != 0) = true := bne_iff_ne.2 (by omega)
        have e4 : LL = [] := by rw [HLL.out, if_neg hy3]
        clear hy3
        go_wp2_with fail
        go_ret
        exact ⟨[], none, 0, e4.symm, rfl, World.ownsRow_nil _ _ _ _, hsz, HTj.out.trans htz⟩
end Go.Proofs.Ytfemeendkjcffaa
