/-
  RdG: RdT, RdU.
-/
import Derived.Test.YtfemeendkjcffaaReE
import Derived.Test.YtfemeendkjcffaaDbA
import Derived.Test.YtfemeendkjcffaaRga
set_option linter.unusedVariables false
set_option linter.unusedSimpArgs false
/-! datas: Get of any bytes. -/
namespace Go.Proofs.Ytfemeendkjcffaa
open Go.RowKit

def Dl.sh (x : Dl) : Dl := ⟨x.op, x.a, x.b, x.n, 0, none, x.ds⟩
/-- One row of bytes, as the program reads it. -/
def datF (bs : List UInt8) (k : Nat) : Rs Dl := match byF bs k with
  | .er y a => .er y a
  | .ok z k1 => if z = 0 then (match creF bs k1 with
    | .er y a => .er y a
    | .ok x k2 => match idxF bs k2 with
      | .er y a => .er y a
      | .ok n k3 => if n ≤ bs.length - k3 then .ok ⟨x.1, x.2, 0, 0, 0, none, (bs.drop k3).take n⟩ (k3 + n) else .er 2 k3) else .er 10 k
def DatR (X : Nat) (S : Nat → Prop) (D : Option Addr) (c : Nat) (bs : List UInt8) (w : World) (r : Rs Dl) (e : Ending) (w' : World) : Prop :=
  match r with
  | .ok x k => ∃ x' : Dl, x'.sh = x ∧ e = .returned (.agg (datX x'.op x'.a x'.b x'.A x'.n x'.c (str x'.ds))) ∧ Scn w' X S D c bs k ∧ Step (fun i => i = X) w w'
  | .er y a => e = .panicked (stopP (y : Int) (a : Int)) ∧ Step (fun i => i = X) w w'
theorem datF_zero {bs : List UInt8} (k : Nat) (x : Dl) (k' : Nat) (h : datF bs k = .ok x k') : x.b = 0 ∧ x.n = 0 := by
  rw [datF] at h
  split at h
  · cases h
  · split at h
    · split at h
      · cases h
      · split at h
        · cases h
        · split at h
          · injection h with h1 h2
            subst h1
            exact ⟨rfl, rfl⟩
          · cases h
    · cases h

set_option maxRecDepth 100000 in
set_option maxHeartbeats 6400000 in
theorem dget_any (w : World) (X : Nat) (S : Nat → Prop) (D : Option Addr) (c : Nat) (bs : List UInt8) (k : Nat) (h : Scn w X S D c bs k) :
    Calls Try.prog 109 #[.pointer (some ⟨X, 0, none⟩)] w (DatR X S D c bs w (datF bs k)) := by
  have hxl := h.lt
  have hlow := h.low
  have hsh := h.short
  have HH := Lib.hid h
  obtain ⟨RR, hRR⟩ : ∃ RR, RR = datF bs k := ⟨_, rfl⟩
  rw [← hRR]
  have HRR := Lib.hid hRR
  clear h hRR
  go_enter Try.func109, Try.ntmps109
  go_wp2_with fail
  refine (at_walk _ X S D c bs k (HH.out.alloc _)).mono ?_
  rintro e w5 ⟨rfl, hw5⟩
  have HB5 := Lib.hid (Blk.new w 156 (datC 0 0 ⟨#[]⟩))
  have HS5 := Lib.hid (HH.out.alloc (.cells (datC 0 0 ⟨#[]⟩) 156))
  have HT5 := Lib.hid ((Step.refl (F := fun i => i = X)).alloc (w := w) (.cells (datC 0 0 ⟨#[]⟩) 156))
  rw [show w.alloc (.cells (datC 0 0 ⟨#[]⟩) 156) = w5 from hw5.symm] at HB5 HS5 HT5
  obtain ⟨R, hR⟩ : ∃ R, R = w.heap.size := ⟨_, rfl⟩
  have hRX : R ≠ X := by omega
  have hRw : w.heap.size ≤ R := by omega
  have hRS : ∀ j, S j → j ≠ R := fun j hj => by have := hlow j hj; omega
  rw [← hR] at HB5 ⊢
  clear hR hxl hw5 HH
  go_wp2_with fail
  refine (byte_any _ X S D c bs k HS5.out).mono ?_
  intro e w6 hp
  cases hr : byF bs k with
  | er y a =>
    have HE := Lib.hid hr
    rw [hr] at hp
    clear hr
    obtain ⟨rfl, ht⟩ := hp
    refine ⟨rfl, ?_⟩
    rw [show RR = Rs.er y a from (by rw [HRR.out, datF]; simp only [HE.out])]
    exact ⟨rfl, HT5.out.trans ht⟩
  | ok z k1 =>
  have HE := Lib.hid hr
  rw [hr] at hp
  clear hr
  obtain ⟨rfl, hs, ht⟩ := hp
  have HB6 := Lib.hid (HB5.out.step ht hRX)
  have HS6 := Lib.hid hs
  have HT6 := Lib.hid (HT5.out.trans ht)
  clear hs ht HB5 HS5 HT5
  by_cases hz : z = 0
  rotate_left
  · have hzb : ((z : Int) == 0) = false := by simp; omega
    go_wp2_with fail
    refine (unless_err _ _ _).mono ?_
    rintro e wS ⟨rfl, hS⟩
    refine ⟨rfl, ?_⟩
    rw [show RR = Rs.er 10 k from (by rw [HRR.out, datF]; simp only [HE.out, if_neg hz])]
    exact ⟨rfl, HT6.out.trans' hS (fun _ hf => hf.elim)⟩
  subst hz
  have HR1 : Hid (RR = match creF bs k1 with | .er y a => .er y a | .ok x k2 => match idxF bs k2 with | .er y a => .er y a | .ok n k3 => if n ≤ bs.length - k3 then .ok ⟨x.1, x.2, 0, 0, 0, none, (bs.drop k3).take n⟩ (k3 + n) else .er 2 k3) := by
    rw [Hid, HRR.out, datF]
    simp only [HE.out]
    rfl
  clear HRR HE
  go_wp2_with fail
  refine (aunless_ok _ _ _).mono ?_
  rintro e wS ⟨rfl, hwS⟩
  subst wS
  go_wp2_with fail
  refine (cread_any _ X S D c bs k1 HS6.out).mono ?_
  intro e w7 hp
  cases hr : creF bs k1 with
  | er y a =>
    have HE := Lib.hid hr
    rw [hr] at hp
    clear hr
    obtain ⟨rfl, ht⟩ := hp
    refine ⟨rfl, ?_⟩
    rw [show RR = Rs.er y a from (by rw [HR1.out]; simp only [HE.out])]
    exact ⟨rfl, HT6.out.trans ht⟩
  | ok x k2 =>
  have HE := Lib.hid hr
  rw [hr] at hp
  clear hr
  obtain ⟨op, a⟩ := x
  obtain ⟨DI, cI, rfl, hs7, ht7⟩ := hp
  have HR2 : Hid (RR = match idxF bs k2 with | .er y a => .er y a | .ok n k3 => if n ≤ bs.length - k3 then .ok ⟨op, a, 0, 0, 0, none, (bs.drop k3).take n⟩ (k3 + n) else .er 2 k3) := by
    rw [Hid, HR1.out]
    simp only [HE.out]
  have HB7 := Lib.hid ((HB6.out.step ht7 hRX).alloc (.cells (datX op a 0 DI 0 cI ⟨#[]⟩) 156))
  have HI7 := Lib.hid (Blk.new w7 156 (datX op a 0 DI 0 cI ⟨#[]⟩))
  have HS7 := Lib.hid (hs7.alloc (.cells (datX op a 0 DI 0 cI ⟨#[]⟩) 156))
  have HT7 := Lib.hid ((HT6.out.trans ht7).alloc (.cells (datX op a 0 DI 0 cI ⟨#[]⟩) 156))
  have hRI : R < w7.heap.size := by have := HB6.out.lt; have := ht7.size; omega
  have hXI : X < w7.heap.size := by have := HS6.out.lt; have := ht7.size; omega
  have hIw : w.heap.size ≤ w7.heap.size := (HT6.out.trans ht7).size
  clear hs7 ht7 HB6 HS6 HT6 HR1 HE
  simp only [insC]
  go_wp2_with fail
  have hW2 : w7.alloc (.cells #[.int .u8 (op : Int), .int .u64 (a : Int), .int .u64 0, .slice DI 0 cI, .string ⟨#[]⟩] 156) = w7.alloc (.cells (datX op a 0 DI 0 cI ⟨#[]⟩) 156) := rfl
  rw [hW2]
  obtain ⟨I, hI⟩ : ∃ I, I = w7.heap.size := ⟨_, rfl⟩
  obtain ⟨W, hW⟩ : ∃ W, W = w7.alloc (.cells (datX op a 0 DI 0 cI ⟨#[]⟩) 156) := ⟨_, rfl⟩
  rw [← hI] at HI7 hRI hXI hIw ⊢
  rw [← hW] at HB7 HI7 HS7 HT7 ⊢
  have hIS : ∀ j, S j → j ≠ I := fun j hj => by have := hlow j hj; omega
  have hIX : I ≠ X := by omega
  have hRI2 : R ≠ I := by omega
  clear hW hI hW2
  refine (index_any _ X S D c bs k2 HS7.out).mono ?_
  intro e w8 hp
  cases hr : idxF bs k2 with
  | er y a =>
    have HE := Lib.hid hr
    rw [hr] at hp
    clear hr
    obtain ⟨rfl, ht⟩ := hp
    refine ⟨rfl, ?_⟩
    rw [show RR = Rs.er y a from (by rw [HR2.out]; simp only [HE.out])]
    exact ⟨rfl, HT7.out.trans ht⟩
  | ok n k3 =>
  have HE := Lib.hid hr
  have hnl := idxF_lt hr
  rw [hr] at hp
  clear hr
  obtain ⟨rfl, hs, ht⟩ := hp
  have HR3 : Hid (RR = if n ≤ bs.length - k3 then .ok ⟨op, a, 0, 0, 0, none, (bs.drop k3).take n⟩ (k3 + n) else .er 2 k3) := by
    rw [Hid, HR2.out]
    simp only [HE.out]
  have HB8 := Lib.hid (HB7.out.step ht hRX)
  have HI8 := Lib.hid (HI7.out.step ht hIX)
  have HS8 := Lib.hid hs
  have HT8 := Lib.hid (HT7.out.trans ht)
  have hk3 := hs.le
  clear hs ht HB7 HI7 HS7 HT7 HR2 HE
  have hwn := IntWalk.u64_in (n : Int) (by omega)
  have hwn2 := IntWalk.i64_in (n : Int) (by omega)
  go_wp2_with fail
  refine (left_walk _ X S D c bs k3 HS8.out).mono ?_
  rintro e w9 ⟨rfl, q, rfl⟩
  have HB9 := Lib.hid (HB8.out.drewN q)
  have HI9 := Lib.hid (HI8.out.drewN q)
  have HS9 := Lib.hid (HS8.out.quiet (Step.refl.drewN q))
  have HT9 := Lib.hid (HT8.out.drewN q)
  obtain ⟨V, hV⟩ : ∃ V, V = w8.drewN q := ⟨_, rfl⟩
  rw [← hV] at HB9 HI9 HS9 HT9 ⊢
  clear hV HB8 HI8 HS8 HT8
  have hwl := IntWalk.u64_in ((bs.length : Int) - (k3 : Int)) (by omega)
  by_cases hn : n ≤ bs.length - k3
  rotate_left
  · have g1' : decide ((n : Int) ≤ (bs.length : Int) - (k3 : Int)) = false := decide_eq_false (by omega)
    go_wp2_with fail
    refine (at_walk _ X S D c bs k3 HS9.out).mono ?_
    rintro e wS ⟨rfl, hwS⟩
    subst wS
    go_wp2_with fail
    refine (unless_err _ _ _).mono ?_
    rintro e wS ⟨rfl, hS⟩
    refine ⟨rfl, ?_⟩
    rw [HR3.out, if_neg hn]
    exact ⟨rfl, HT9.out.trans' hS (fun _ hf => hf.elim)⟩
  have HR4 : Hid (RR = .ok ⟨op, a, 0, 0, 0, none, (bs.drop k3).take n⟩ (k3 + n)) := by rw [Hid, HR3.out, if_pos hn]
  have g1 : (n : Int) ≤ (bs.length : Int) - (k3 : Int) := by omega
  have g1' : decide ((n : Int) ≤ (bs.length : Int) - (k3 : Int)) = true := decide_eq_true g1
  have HBy := Lib.hid (fun w' (h' : Scn w' X S D c bs k3) => bytes_ok w' X S D c bs k3 n h' (by omega) ((bs.drop k3).take n) rfl)
  obtain ⟨ds, hds⟩ : ∃ ds, ds = (bs.drop k3).take n := ⟨_, rfl⟩
  rw [← hds] at HBy HR4
  clear HR3 hds
  go_wp2_with fail
  refine (at_walk _ X S D c bs k3 HS9.out).mono ?_
  rintro e wS ⟨rfl, hwS⟩
  subst wS
  go_wp2_with fail
  refine (aunless_ok _ _ _).mono ?_
  rintro e wS ⟨rfl, hwS⟩
  subst wS
  go_wp2_with fail
  refine (HBy.out _ HS9.out).mono ?_
  rintro e w10 ⟨D', c', rfl, hown, hs, ht⟩
  have HB10 := Lib.hid (HB9.out.step ht hRX)
  have HI10 := Lib.hid (HI9.out.step ht hIX)
  have HS10 := Lib.hid hs
  have HT10 := Lib.hid (HT9.out.trans ht)
  have hcv := conv_bytes (c := c') (Reads.of_own hown)
  clear hs ht hown HB9 HI9 HS9 HT9 HBy
  obtain ⟨s, hs⟩ : ∃ s, s = str ds := ⟨_, rfl⟩
  rw [← hs] at hcv
  have HSt := Lib.hid hs
  clear hs
  have zz := HI10.out.frozen 4
  have cc := HI10.out.cell 4
  simp [datX] at cc
  have HI11 : Hid (Blk (w10.setCell ⟨I, 4, none⟩ (.string s)) I 156 (datX op a 0 DI 0 cI s)) := by
    have hq := HI10.out.set_ 4 (.string s)
    simp [datX] at hq
    exact hq
  have HB11 := Lib.hid (HB10.out.far (p := ⟨I, 4, none⟩) hRI2 (.string s))
  have hst11 : Step (fun j => j = I) w10 (w10.setCell ⟨I, 4, none⟩ (.string s)) := (Step.refl (F := fun j => j = I)).setCell (p := ⟨I, 4, none⟩) (.inl rfl) _
  have HS11 := Lib.hid (HS10.out.step hst11 (Ne.symm hIX) hIS)
  have HT11 := Lib.hid (HT10.out.setCell (p := ⟨I, 4, none⟩) (.inr hIw) (.string s))
  have y0 := HI11.out.cell 0
  have y1 := HI11.out.cell 1
  have y2 := HI11.out.cell 2
  have y3 := HI11.out.cell 3
  have y4 := HI11.out.cell 4
  simp [datX] at y0 y1 y2 y3 y4
  have hone : (datX op a 0 DI 0 cI s).all (·.oneCell') = true := by simp [datX, Value.oneCell']
  have hbl := HB11.out
  go_wp2_with (refine wpList_store_rowTo rfl 156 _ _ rfl rfl R (datX op a 0 DI 0 cI s) rfl rfl 156 _ hbl rfl rfl hone ?_)
  have r0 := (hbl.row (datX op a 0 DI 0 cI s)).cell 0
  have r1 := (hbl.row (datX op a 0 DI 0 cI s)).cell 1
  have r2 := (hbl.row (datX op a 0 DI 0 cI s)).cell 2
  have r3 := (hbl.row (datX op a 0 DI 0 cI s)).cell 3
  have r4 := (hbl.row (datX op a 0 DI 0 cI s)).cell 4
  simp [datX] at r0 r1 r2 r3 r4
  have hSF := HS11.out.step (Step.setRow (F := fun j => j = R) Step.refl (g := R) (.inl rfl) (datX op a 0 DI 0 cI s)) (Ne.symm hRX) hRS
  have hTF := HT11.out.setRow (g := R) (.inr hRw) (datX op a 0 DI 0 cI s)
  refine bodyPost_ret (v := .agg (datX op a 0 DI 0 cI s)) (by simp [results, Try.results109, go_sem, datX, r0, r1, r2, r3, r4]) rfl ?_
  rw [HR4.out, HSt.out]
  exact ⟨⟨op, a, 0, 0, cI, DI, ds⟩, rfl, rfl, by rw [HSt.out] at hSF; exact hSF, by rw [HSt.out] at hTF; exact hTF⟩
end Go.Proofs.Ytfemeendkjcffaa
/-! datas: GetAll of any bytes. -/
namespace Go.Proofs.Ytfemeendkjcffaa
open Go.RowKit

def DlsR (X : Nat) (w : World) (r : Rs (List Dl)) (e : Ending) (w' : World) : Prop :=
  match r with
  | .ok l _ => ∃ (l' : List Dl) (D' : Option Addr) (c' : Nat), l'.map Dl.sh = l ∧ e = .returned (.slice D' l'.length c') ∧ w'.ownsRow w.heap.size 156 5 (.slice D' l'.length c') l'.length (dls l') ∧ Step (fun i => i = X) w w'
  | .er y a => e = .panicked (stopP (y : Int) (a : Int)) ∧ Step (fun i => i = X) w w'

set_option maxRecDepth 100000 in
set_option maxHeartbeats 6400000 in
theorem dgall_any (w : World) (X : Nat) (S : Nat → Prop) (D : Option Addr) (c : Nat) (bs : List UInt8) (k : Nat) (h : Scn w X S D c bs k) :
    Calls Try.prog 114 #[.pointer (some ⟨X, 0, none⟩)] w (DlsR X w (allF (datF bs) bs k)) := by
  have hxl := h.lt
  have hlow := h.low
  have HH := Lib.hid h
  obtain ⟨RR, hRR⟩ : ∃ RR, RR = allF (datF bs) bs k := ⟨_, rfl⟩
  rw [← hRR]
  have HRR := Lib.hid hRR
  clear h hRR
  go_enter Try.func114, Try.ntmps114
  go_wp2_with fail
  refine (count_any _ X S D c bs k HH.out).mono ?_
  intro e w9 hp
  cases hr : cntF bs k with
  | er y a =>
    have HE := Lib.hid hr
    rw [hr] at hp
    clear hr
    obtain ⟨rfl, ht⟩ := hp
    refine ⟨rfl, ?_⟩
    rw [show RR = Rs.er y a from (by rw [HRR.out, allF]; simp only [HE.out])]
    exact ⟨rfl, ht⟩
  | ok n k1 =>
    have HE := Lib.hid hr
    have hnl := cntF_lt hr
    rw [hr] at hp
    clear hr
    obtain ⟨rfl, hs, ht⟩ := hp
    have HT9 := Lib.hid ht
    have HO9 : Hid (w9.ownsRow w.heap.size 156 5 (.slice none 0 0) 0 (dls [])) := World.ownsRow_nil _ _ _ _
    have HK9 := Lib.hid hs
    have HR9 : Hid (RR = finG bs (preR (([] : List Dl).map Dl.sh) (readN (datF bs) (n - 0) k1))) := by
      rw [Hid, HRR.out, allF]
      simp only [HE.out]
      rw [List.map_nil, preR_nil, Nat.sub_zero]
    clear hs ht HH HE HRR
    go_wp2_with fail
    go_loopw [3, 6] (fun ov iv wr => ∃ (j c2 : Nat) (D2 : Option Addr) (kj : Nat) (lj : List Dl), j ≤ n ∧ ov = .slice D2 j c2 ∧ iv = .int .i64 (j : Int) ∧ Hid (lj.length = j) ∧ Hid (RR = finG bs (preR (lj.map Dl.sh) (readN (datF bs) (n - j) kj))) ∧
      Hid (wr.ownsRow w.heap.size 156 5 (.slice D2 j c2) j (dls lj)) ∧ Hid (Scn wr X S D c bs kj) ∧ Hid (Step (fun i => i = X) w wr)) (fun _ iv _ => n + 1 - (intOf iv).toNat)
    case atStart => exact ⟨0, 0, none, k1, [], by omega, rfl, rfl, rfl, HR9, HO9, HK9, HT9⟩
    case round =>
      obtain ⟨j, c2, D2, kj, lj, hj, rfl, rfl, HLj, HRj, HOj, HKj, HTj⟩ := hrel
      clear HO9 HK9 HR9
      by_cases hlt : j < n
      · have g1 : (j : Int) < (n : Int) := by omega
        have hw1 := IntWalk.i64_in ((j : Int) + 1) (by omega)
        have hDX : blkOf D2 ≠ some X := by rw [← ownBlock_slice D2 j c2]; exact own_tag HOj.out HKj.out.blk (by decide)
        have hDge : ∀ q, blkOf D2 = some q → w.heap.size ≤ q := fun q hq => own_ge HOj.out q (by rw [ownBlock_slice]; exact hq)
        have hnj : n - j = (n - (j + 1)) + 1 := by omega
        rw [hnj] at HRj
        clear hnj
        go_wp2_with fail
        refine (dget_any _ X S D c bs kj HKj.out).mono ?_
        intro e wa hp
        cases hr : datF bs kj with
        | er y a =>
          have HE := Lib.hid hr
          rw [hr] at hp
          clear hr
          obtain ⟨rfl, hta⟩ := hp
          refine ⟨rfl, ?_⟩
          rw [show RR = Rs.er y a from (by rw [HRj.out, readN_er HE.out]; rfl)]
          exact ⟨rfl, HTj.out.trans hta⟩
        | ok x k2 =>
          have HE := Lib.hid hr
          rw [hr] at hp
          clear hr
          obtain ⟨⟨op, a, b, m, cc, B, ds⟩, hsh, rfl, hsa, hta⟩ := hp
          simp only [datX]
          have HR2 : Hid (RR = finG bs (preR ((lj ++ [(⟨op, a, b, m, cc, B, ds⟩ : Dl)]).map Dl.sh) (readN (datF bs) (n - (j + 1)) k2))) := by
            rw [Hid, HRj.out, readN_ok HE.out, List.map_append, List.map_cons, List.map_nil, hsh]
          have hOa : Hid ((wa.alloc (.cells #[.int .u8 (op : Int), .int .u64 (a : Int), .int .u64 (b : Int), .slice B m cc, .string (str ds)] 156)).ownsRow w.heap.size 156 5 (.slice D2 j c2) j (dls lj)) :=
            (own_step HOj.out hta (fun q hq e => hDX (by rw [← ownBlock_slice D2 j c2, hq, e]))).alloc _
          have HKa := Lib.hid (hsa.alloc (.cells #[.int .u8 (op : Int), .int .u64 (a : Int), .int .u64 (b : Int), .slice B m cc, .string (str ds)] 156))
          have HTa := Lib.hid ((HTj.out.trans hta).alloc (.cells #[.int .u8 (op : Int), .int .u64 (a : Int), .int .u64 (b : Int), .slice B m cc, .string (str ds)] 156))
          have hrn := reads_new wa #[Value.int .u8 (op : Int), .int .u64 (a : Int), .int .u64 (b : Int), .slice B m cc, .string (str ds)] 156 5 1 rfl
          have hone : ∀ u ∈ #[Value.int .u8 (op : Int), .int .u64 (a : Int), .int .u64 (b : Int), .slice B m cc, .string (str ds)].toList, u.oneCell' = true := by simp [Value.oneCell']
          have hm : j + 1 ≤ maxLen := by unfold maxLen; omega
          have hsz := HTa.out.size
          clear hsa hta hsh HE HRj
          go_wp2_with (at_builtin; refine wpList_append_src _ rfl _ _ (by rfl) E_da (by rfl) hOa.out (by rfl) hrn hone hm (by omega) hsz ?_; intro D3 c3 w3 hown hgrow hat)
          have HK3 := Lib.hid (HKa.out.step (F := fun q => blkOf D2 = some q) (Step.refl.grown hgrow (fun q hq => .inl hq)) hDX (fun q hq hd => by have := hlow q hq; have := hDge q hd; omega))
          have HT3 := Lib.hid (HTa.out.grown hgrow (fun q hq => .inr (hDge q hq)))
          have hus : dls lj ++ #[Value.int .u8 (op : Int), .int .u64 (a : Int), .int .u64 (b : Int), .slice B m cc, .string (str ds)].toList = dls (lj ++ [(⟨op, a, b, m, cc, B, ds⟩ : Dl)]) := by rw [dls_append]; rfl
          rw [hus] at hown
          have HL3 : Hid ((lj ++ [(⟨op, a, b, m, cc, B, ds⟩ : Dl)]).length = j + 1) := by rw [Hid, List.length_append, HLj.out]; rfl
          go_roundw
          case rel => exact ⟨j + 1, c3, D3, k2, _, by omega, rfl, by rw [Int.natCast_add]; rfl, HL3, HR2, hown, HK3, HT3⟩
          case measure => simp [intOf]; omega
      · obtain rfl : j = n := by omega
        rw [Nat.sub_self, readN_zero] at HRj
        go_wp2_with fail
        refine (end_any _ X S D c bs kj HKj.out).mono ?_
        rw [endG_eq HKj.out.le]
        intro e wz hp
        cases hr : endG bs kj with
        | er y a =>
          have HE := Lib.hid hr
          rw [hr] at hp
          clear hr
          obtain ⟨rfl, hta⟩ := hp
          refine ⟨rfl, ?_⟩
          rw [show RR = Rs.er y a from (by rw [HRj.out, preR, finG]; simp only [HE.out])]
          exact ⟨rfl, HTj.out.trans hta⟩
        | ok u k3 =>
          have HE := Lib.hid hr
          rw [hr] at hp
          clear hr
          obtain ⟨rfl, hsa, hta⟩ := hp
          have HR3 : Hid (RR = .ok (lj.map Dl.sh) k3) := by
            rw [Hid, HRj.out, preR, finG, List.append_nil]
            simp only [HE.out]
          clear HRj HE
          go_wp2_with fail
          go_ret
          rw [HR3.out]
          have hOz := own_step HOj.out hta (fun q hq e => own_tag HOj.out HKj.out.blk (by decide) (by rw [hq, e]))
          rw [← HLj.out] at hOz ⊢
          exact ⟨lj, D2, c2, rfl, rfl, hOz, HTj.out.trans hta⟩
end Go.Proofs.Ytfemeendkjcffaa
