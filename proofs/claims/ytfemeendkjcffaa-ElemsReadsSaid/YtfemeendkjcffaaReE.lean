/-
  consts: Read of any bytes.
-/
import Derived.Test.YtfemeendkjcffaaReD
import Derived.Test.YtfemeendkjcffaaCrA
set_option linter.unusedVariables false
set_option linter.unusedSimpArgs false
namespace Go.Proofs.Ytfemeendkjcffaa
open Go.RowKit

def creF (bs : List UInt8) (k : Nat) : Rs (Nat × Nat) := match getF bs k with
  | .er y a => .er y a
  | .ok x k1 => if crtF x.1 x.2.1 x.2.2.1 x.2.2.2.length = 0 then (match byF bs k1 with
      | .er y a => .er y a
      | .ok z k2 => if z = 11 then .ok (x.1, x.2.1) k2 else .er 12 k1) else .er (crtF x.1 x.2.1 x.2.2.1 x.2.2.2.length) k
def CreR (X : Nat) (S : Nat → Prop) (D : Option Addr) (c : Nat) (bs : List UInt8) (w : World) (r : Rs (Nat × Nat)) (e : Ending) (w' : World) : Prop :=
  match r with
  | .ok x k => ∃ D' c', e = .returned (.agg (insC (x.1 : Int) (x.2 : Int) 0 D' 0 c')) ∧ Scn w' X S D c bs k ∧ Step (fun i => i = X) w w'
  | .er y a => e = .panicked (stopP (y : Int) (a : Int)) ∧ Step (fun i => i = X) w w'
theorem getF_lt {bs : List UInt8} {k k' : Nat} {x : Nat × Nat × Nat × List Nat} (h : getF bs k = .ok x k') : x.1 < 256 := by
  rw [getF] at h
  split at h
  · cases h
  · rename_i op k1 hby
    have hop := byF_lt hby
    split at h
    · have key : ∀ m, getT bs op m k1 = .ok x k' → x.1 = op := fun m hm => by
        rw [getT] at hm
        repeat' (split at hm)
        all_goals (first | (injection hm with h1 h2; rw [← h1]) | (cases hm))
      rw [key _ h]
      exact hop
    · cases h

set_option maxRecDepth 100000 in
set_option maxHeartbeats 3200000 in
theorem cread_any (w : World) (X : Nat) (S : Nat → Prop) (D : Option Addr) (c : Nat) (bs : List UInt8) (k : Nat) (h : Scn w X S D c bs k) :
    Calls Try.prog 50 #[.pointer (some ⟨X, 0, none⟩)] w (CreR X S D c bs w (creF bs k)) := by
  have hxl := h.lt
  have HH := Lib.hid h
  have hlow := h.low
  obtain ⟨RR, hRR⟩ : ∃ RR, RR = creF bs k := ⟨_, rfl⟩
  rw [← hRR]
  have HRR := Lib.hid hRR
  clear h hRR
  go_enter Try.func50, Try.ntmps50
  go_wp2_with fail
  refine (at_walk _ X S D c bs k (HH.out.alloc _)).mono ?_
  rintro e w5 ⟨rfl, hw5⟩
  have HB5 := Lib.hid (Blk.new w 50 (insC 0 0 0 none 0 0))
  have HS5 := Lib.hid (HH.out.alloc (.cells (insC 0 0 0 none 0 0) 50))
  have HT5 := Lib.hid ((Step.refl (F := fun i => i = X)).alloc (w := w) (.cells (insC 0 0 0 none 0 0) 50))
  rw [show w.alloc (.cells (insC 0 0 0 none 0 0) 50) = w5 from hw5.symm] at HB5 HS5 HT5
  obtain ⟨R, hR⟩ : ∃ R, R = w.heap.size := ⟨_, rfl⟩
  have hRX : R ≠ X := by omega
  have hRw : w.heap.size ≤ R := by omega
  have hRS : ∀ j, S j → j ≠ R := fun j hj => by have := hlow j hj; omega
  rw [← hR] at HB5 ⊢
  clear hR hxl hw5 HH
  go_wp2_with fail
  refine (get_any _ X S D c bs k HS5.out).mono ?_
  intro e w6 hp
  cases hr : getF bs k with
  | er y a =>
    have HE := Lib.hid hr
    rw [hr] at hp
    clear hr
    obtain ⟨rfl, ht⟩ := hp
    refine ⟨rfl, ?_⟩
    rw [show RR = Rs.er y a from (by rw [HRR.out, creF]; simp only [HE.out])]
    exact ⟨rfl, HT5.out.trans ht⟩
  | ok x k1 =>
    have HE := Lib.hid hr
    have hop := getF_lt hr
    rw [hr] at hp
    clear hr
    obtain ⟨op, a, b, L⟩ := x
    obtain ⟨DI, cI, rfl, hown, hs6, ht6⟩ := hp
    simp only at hop
    obtain ⟨n, hn⟩ : ∃ n, n = L.length := ⟨_, rfl⟩
    have HCr : Hid (creF bs k = if crtF op a b n = 0 then (match byF bs k1 with | .er y a => .er y a | .ok z k2 => if z = 11 then .ok (op, a) k2 else .er 12 k1) else .er (crtF op a b n) k) := by rw [Hid, creF, HE.out, hn]
    have HR := Lib.hid (fun w => cright_walk w op a b n cI DI hop)
    rw [← hn] at hown ⊢
    have HB6 := Lib.hid ((HB5.out.step ht6 hRX).alloc (.cells (insC (op : Int) (a : Int) (b : Int) DI n cI) 50))
    have HI6 := Lib.hid (Blk.new w6 50 (insC (op : Int) (a : Int) (b : Int) DI n cI))
    have HS6 := Lib.hid (hs6.alloc (.cells (insC (op : Int) (a : Int) (b : Int) DI n cI) 50))
    have HT6 := Lib.hid ((HT5.out.trans ht6).alloc (.cells (insC (op : Int) (a : Int) (b : Int) DI n cI) 50))
    have hRI : R < w6.heap.size := by have := HB5.out.lt; have := ht6.size; omega
    have hXI : X < w6.heap.size := by have := HS5.out.lt; have := ht6.size; omega
    have hIw : w.heap.size ≤ w6.heap.size := (HT5.out.trans ht6).size
    clear hs6 ht6 HB5 HS5 HT5 hn hown HE
    simp only [insC]
    go_wp2_with fail
    have hW2 : w6.alloc (.cells #[.int .u8 (op : Int), .int .u64 (a : Int), .int .u64 (b : Int), .slice DI n cI] 50) = w6.alloc (.cells (insC (op : Int) (a : Int) (b : Int) DI n cI) 50) := rfl
    rw [hW2]
    obtain ⟨I, hI⟩ : ∃ I, I = w6.heap.size := ⟨_, rfl⟩
    obtain ⟨W, hW⟩ : ∃ W, W = w6.alloc (.cells (insC (op : Int) (a : Int) (b : Int) DI n cI) 50) := ⟨_, rfl⟩
    rw [← hI] at HI6 hRI hXI hIw ⊢
    rw [← hW] at HB6 HI6 HS6 HT6 ⊢
    have hIS : ∀ j, S j → j ≠ I := fun j hj => by have := hlow j hj; omega
    have hIX : I ≠ X := by omega
    clear hW hI hW2
    simp only [insV] at HR
    obtain ⟨r, hr'⟩ : ∃ r, r = crtF op a b n := ⟨_, rfl⟩
    rw [← hr'] at HR HCr
    have HRf := Lib.hid hr'
    clear hr'
    refine (HR.out _).mono ?_
    rintro e w7 ⟨rfl, ht7⟩
    have HB7 := Lib.hid (HB6.out.step ht7 id)
    have HI7 := Lib.hid (HI6.out.step ht7 id)
    have HS7 := Lib.hid (HS6.out.quiet ht7)
    have HT7 := Lib.hid (HT6.out.trans' ht7 (fun _ h => h.elim))
    clear ht7 HB6 HI6 HS6 HT6 HR
    by_cases hz : r = 0
    rotate_left
    · have hzb : ((r : Int) == 0) = false := by simp; omega
      go_wp2_with fail
      refine (unless_err _ _ _).mono ?_
      rintro e wS ⟨rfl, hS⟩
      refine ⟨rfl, ?_⟩
      rw [show RR = Rs.er r k from (by rw [HRR.out, HCr.out, if_neg hz])]
      exact ⟨rfl, HT7.out.trans' hS (fun _ hf => hf.elim)⟩
    have hcz := HRf.out.symm
    rw [hz] at hcz
    obtain ⟨hb0, hn0, _⟩ := crt_zero hcz
    have HCr2 : Hid (creF bs k = match byF bs k1 with | .er y a => .er y a | .ok z k2 => if z = 11 then .ok (op, a) k2 else .er 12 k1) := by rw [Hid, HCr.out, if_pos hz]
    clear HCr HRf hcz
    subst hz hb0 hn0
    go_wp2_with fail
    refine (aunless_ok _ _ _).mono ?_
    rintro e wS ⟨rfl, hwS⟩
    subst wS
    go_wp2_with fail
    refine (at_walk _ X S D c bs k1 HS7.out).mono ?_
    rintro e wS ⟨rfl, hwS⟩
    subst wS
    go_wp2_with fail
    refine (byte_any _ X S D c bs k1 HS7.out).mono ?_
    intro e w9 hp
    cases hr : byF bs k1 with
    | er y a2 =>
      have HE := Lib.hid hr
      rw [hr] at hp
      clear hr
      obtain ⟨rfl, ht⟩ := hp
      refine ⟨rfl, ?_⟩
      rw [show RR = Rs.er y a2 from (by rw [HRR.out, HCr2.out]; simp only [HE.out])]
      exact ⟨rfl, HT7.out.trans ht⟩
    | ok z k2 =>
      have HE := Lib.hid hr
      rw [hr] at hp
      clear hr
      obtain ⟨rfl, hs, ht⟩ := hp
      have HB9 := Lib.hid (HB7.out.step ht hRX)
      have HI9 := Lib.hid (HI7.out.step ht hIX)
      have HS9 := Lib.hid hs
      have HT9 := Lib.hid (HT7.out.trans ht)
      clear hs ht HB7 HI7 HS7 HT7
      by_cases hz : z = 11
      rotate_left
      · have hzb : ((z : Int) == 11) = false := by simp; omega
        go_wp2_with fail
        refine (unless_err _ _ _).mono ?_
        rintro e wS ⟨rfl, hS⟩
        refine ⟨rfl, ?_⟩
        rw [show RR = Rs.er 12 k1 from (by rw [HRR.out, HCr2.out]; simp only [HE.out, if_neg hz])]
        exact ⟨rfl, HT9.out.trans' hS (fun _ hf => hf.elim)⟩
      have HRf : Hid (RR = Rs.ok (op, a) k2) := by rw [Hid, HRR.out, HCr2.out]; simp only [HE.out, if_pos hz]
      clear HE HCr2
      subst hz
      go_wp2_with fail
      refine (aunless_ok _ _ _).mono ?_
      rintro e wS ⟨rfl, hwS⟩
      subst wS
      have y0 := HI9.out.cell 0
      have y1 := HI9.out.cell 1
      have y2 := HI9.out.cell 2
      have y3 := HI9.out.cell 3
      simp [insC] at y0 y1 y2 y3
      have hone := insC_one (op : Int) (a : Int) 0 DI 0 cI
      have hbl := HB9.out
      go_wp2_with (refine wpList_store_rowTo rfl 50 _ _ rfl rfl R (insC (op : Int) (a : Int) 0 DI 0 cI) rfl rfl 50 _ hbl rfl rfl hone ?_)
      have r0 := (hbl.row (insC (op : Int) (a : Int) 0 DI 0 cI)).cell 0
      have r1 := (hbl.row (insC (op : Int) (a : Int) 0 DI 0 cI)).cell 1
      have r2 := (hbl.row (insC (op : Int) (a : Int) 0 DI 0 cI)).cell 2
      have r3 := (hbl.row (insC (op : Int) (a : Int) 0 DI 0 cI)).cell 3
      simp [insC] at r0 r1 r2 r3
      have hSF := HS9.out.step (Step.setRow (F := fun j => j = R) Step.refl (g := R) (.inl rfl) (insC (op : Int) (a : Int) 0 DI 0 cI)) (Ne.symm hRX) hRS
      have hTF := HT9.out.setRow (g := R) (.inr hRw) (insC (op : Int) (a : Int) 0 DI 0 cI)
      refine bodyPost_ret (v := .agg (insC (op : Int) (a : Int) 0 DI 0 cI)) (by simp [results, Try.results50, go_sem, insC, r0, r1, r2, r3]) rfl ?_
      rw [HRf.out]
      exact ⟨DI, cI, rfl, hSF, hTF⟩
end Go.Proofs.Ytfemeendkjcffaa
