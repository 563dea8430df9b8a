/-
  elems: a list of them; PutAll.
-/
import Derived.Test.YtfemeendkjcffaaGbB
import Derived.Test.YtfemeendkjcffaaEl
set_option linter.unusedVariables false
set_option linter.unusedSimpArgs false
namespace Go.Proofs.Ytfemeendkjcffaa
open Go.RowKit

/-- A row of bytes, as a record. -/
structure El where
  op : Nat
  a : Nat
  b : Nat
  n : Nat
  c : Nat
  m : Nat
  fc : Nat
  A : Option Addr
  FA : Option Addr
  L : List Nat
instance : Inhabited El := ⟨⟨0, 0, 0, 0, 0, 0, 0, none, none, []⟩⟩
def El.cells (x : El) : List Value := (elmX x.op x.a x.b x.A x.n x.c (.slice x.FA x.m x.fc)).toList
theorem El.six (x : El) : x.cells.length = 5 := rfl
def els (l : List El) : List Value := l.flatMap El.cells
theorem els_append (l m : List El) : els (l ++ m) = els l ++ els m := by simp [els]
theorem els_one (l : List El) : ∀ u ∈ els l, u.oneCell' = true := by
  intro u hu
  obtain ⟨f, _, hf⟩ := List.mem_flatMap.1 hu
  simp [El.cells, elmX] at hf
  rcases hf with rfl | rfl | rfl | rfl | rfl <;> rfl
theorem E_el : ElemTy Try.prog 147 136 5 72 := elem_of Try.underlying147 (z := .agg #[.int .u8 0, .int .u64 0, .int .u64 0, .slice none 0 0, .slice none 0 0]) (by kernel_rfl) rfl (by decide)
/-- What is wrong with it. -/
def El.err (x : El) : Nat := crtF x.op x.a x.b x.n
def El.wf (x : El) : Prop := x.op < 256 ∧ x.a < 18446744073709551616
def El.put (x : El) : List UInt8 := eputL x.op x.a x.L
theorem eput_len (op a : Nat) (L : List Nat) (h : L.length ≤ 100) : (eputL op a L).length ≤ 1100 := by
  have h1 := cT_len op a
  have h2 := num_len L.length
  have h3 := labL_len L
  rw [eputL, List.length_cons, List.length_append, List.length_append, cputL]
  simp
  omega
/-- The first error. -/
def errE : List El → Nat
  | [] => 0
  | x :: l => if x.err = 0 then errE l else x.err
theorem errE_nil : errE [] = 0 := rfl
theorem errE_cons (x : El) (l : List El) : errE (x :: l) = if x.err = 0 then errE l else x.err := rfl
theorem errE_snoc (l : List El) (x : El) : errE (l ++ [x]) = if errE l = 0 then x.err else errE l := by
  induction l with
  | nil =>
    rw [List.nil_append, errE_cons, errE_nil, if_pos rfl]
    by_cases h : x.err = 0
    · rw [if_pos h, h]
    · rw [if_neg h]
  | cons y l ih =>
    rw [List.cons_append, errE_cons, errE_cons]
    by_cases h : y.err = 0
    · simp only [h, if_true]
      exact ih
    · simp only [h, if_false]
theorem errE_take (l : List El) (j : Nat) (h : j < l.length) : errE (l.take (j + 1)) = if errE (l.take j) = 0 then l[j].err else errE (l.take j) := by
  rw [List.take_succ_eq_append_getElem h, errE_snoc]
theorem errE_app (l m : List El) (h : ¬ errE l = 0) : errE (l ++ m) = errE l := by
  induction l with
  | nil => exact absurd rfl h
  | cons y l ih =>
    rw [List.cons_append, errE_cons, errE_cons]
    rw [errE_cons] at h
    by_cases hy : y.err = 0
    · simp only [hy, if_true] at h ⊢
      exact ih h
    · simp only [hy, if_false]
theorem errE_of_take (l : List El) (j : Nat) (h : ¬ errE (l.take j) = 0) : errE l = errE (l.take j) := by
  have := errE_app (l.take j) (l.drop j) h
  rwa [List.take_append_drop] at this
theorem errE_all (l : List El) (h : errE l = 0) : ∀ x ∈ l, x.err = 0 := by
  induction l with
  | nil => intro x hx; cases hx
  | cons y l ih =>
    rw [errE_cons] at h
    by_cases hy : y.err = 0
    · rw [if_pos hy] at h
      intro x hx
      rcases List.mem_cons.1 hx with rfl | hx
      · exact hy
      · exact ih h x hx
    · rw [if_neg hy] at h
      exact absurd h hy
def putsE (U : List UInt8) (l : List El) (j : Nat) : List UInt8 := U ++ (l.take j).flatMap El.put
theorem putsE_zero (U : List UInt8) (l : List El) : putsE U l 0 = U := by simp [putsE]
theorem putsE_succ (U : List UInt8) (l : List El) (j : Nat) (h : j < l.length) : putsE U l (j + 1) = putsE U l j ++ l[j].put := by
  rw [putsE, List.take_succ_eq_append_getElem h, List.flatMap_append, putsE]
  simp
theorem putsE_all (U : List UInt8) (l : List El) : putsE U l l.length = U ++ l.flatMap El.put := by rw [putsE, List.take_length]
theorem putsE_len (U : List UInt8) (l : List El) (j : Nat) (hj : j ≤ l.length) (hs : ∀ x ∈ l.take j, x.L.length ≤ 100) : (putsE U l j).length ≤ U.length + 1100 * j := by
  induction j with
  | zero => rw [putsE_zero]; omega
  | succ j ih =>
    have hjl : j < l.length := by omega
    rw [putsE_succ U l j hjl, List.length_append]
    rw [List.take_succ_eq_append_getElem hjl] at hs
    have h1 := ih (by omega) (fun x hx => hs x (List.mem_append_left _ hx))
    have h2 := eput_len l[j].op l[j].a l[j].L (hs _ (List.mem_append_right _ (by simp)))
    rw [show l[j].put = eputL l[j].op l[j].a l[j].L from rfl]
    omega

set_option maxRecDepth 100000 in
set_option maxHeartbeats 6400000 in
theorem eputall_walk (w : World) (n c : Nat) (A : Option Addr) (l : List El) (S : Nat → Prop) (HN : Hid (n = l.length)) (hnb : n ≤ 1000) (hwf : ∀ x ∈ l, x.wf) (hsm : ∀ x ∈ l, x.L.length ≤ 100) (hin : ∀ x ∈ l, x.L.length = x.m ∧ (∀ y ∈ x.L, y < 4294967296) ∧ Reads w S 1 x.FA x.m (u32s x.L)) (hr : Reads w S 5 A n (els l)) :
    Calls Try.prog 101 #[.slice A n c] w fun e w' => Step (fun _ => False) w w' ∧ ((¬ errE l = 0 ∧ e = .returned (.tuple #[.slice none 0 0, .int .i64 (errE l : Nat)])) ∨
      (errE l = 0 ∧ ∃ D c', e = .returned (.tuple #[.slice D (putsE (uintF n) l n).length c', .int .i64 0]) ∧ w'.ownsRow w.heap.size 5 1 (.slice D (putsE (uintF n) l n).length c') (putsE (uintF n) l n).length (u8s (putsE (uintF n) l n)))) := by
  have hlU := num_len n
  have HR2 := Lib.hid hr
  have hwn := IntWalk.u64_in (n : Int) (by omega)
  obtain ⟨U, hU⟩ : ∃ U, U = uintF n := ⟨_, rfl⟩
  rw [← hU] at hlU ⊢
  have HU : Hid (uintF n = U) := hU.symm
  have HWF := Lib.hid hwf
  have HSM := Lib.hid hsm
  have HIN := Lib.hid hin
  clear hU hr hwf hsm hin
  have g0 : ¬ (10000 : Int) < (n : Int) := by omega
  go_enter Try.func101, Try.ntmps101
  go_wp2_with fail
  refine (uint_walk _ n (by omega)).mono ?_
  rintro e w5 ⟨D5, c5, rfl, hown, hS⟩
  rw [HU.out] at hown ⊢
  have HO5 : Hid (w5.ownsRow w.heap.size 5 1 (.slice D5 (putsE U l 0).length c5) (putsE U l 0).length (u8s (putsE U l 0))) := by rw [Hid, putsE_zero]; exact hown
  rw [show U.length = (putsE U l 0).length by rw [putsE_zero]]
  have HS5 := Lib.hid hS
  clear hown hS
  go_wp2_with fail
  go_loopw [4, 18] (fun ov iv wr => ∃ (j c2 : Nat) (D2 : Option Addr), j ≤ n ∧ ov = .slice D2 (putsE U l j).length c2 ∧ iv = .int .i64 (j : Int) ∧ Hid (errE (l.take j) = 0) ∧ Hid (Step (fun _ => False) w wr) ∧
    Hid (wr.ownsRow w.heap.size 5 1 (.slice D2 (putsE U l j).length c2) (putsE U l j).length (u8s (putsE U l j)))) (fun _ iv _ => n + 1 - (intOf iv).toNat)
  case atStart => exact ⟨0, c5, D5, by omega, rfl, rfl, rfl, HS5, HO5⟩
  case round =>
    obtain ⟨j, c2, D2, hj, rfl, rfl, HE, HS, HOj⟩ := hrel
    have hpl := putsE_len U l j (by rw [← HN.out]; exact hj) (fun x hx => HSM.out x (List.mem_of_mem_take hx))
    by_cases hlt : j < n
    · have g1 : (j : Int) < (n : Int) := by omega
      have i0 : (0 : Int) ≤ (j : Int) := by omega
      have hw1 := IntWalk.i64_in ((j : Int) + 1) (by omega)
      have hjl : j < l.length := by rw [← HN.out]; exact hlt
      obtain ⟨bk, off, rfl, _, hbl, hc⟩ := reads_row El.cells 5 (by decide) El.six (HR2.out.step HS.out (fun _ _ => id)) (k := j) hjl
      have hx := HWF.out l[j] (List.getElem_mem hjl)
      have hds := HSM.out l[j] (List.getElem_mem hjl)
      have hin := HIN.out l[j] (List.getElem_mem hjl)
      have HP := Lib.hid (putsE_succ U l j hjl)
      have HET := Lib.hid (errE_take l j hjl)
      have HEA := Lib.hid (errE_of_take l (j + 1))
      obtain ⟨x, hxe⟩ : ∃ x, x = l[j] := ⟨_, rfl⟩
      rw [← hxe] at hx hds hin hc HP HET
      clear hxe
      obtain ⟨op, a, b, m, cc, fm, fc, B, FA, L⟩ := x
      have c0 := hc 0 _ rfl
      have c1 := hc 1 _ rfl
      have c2' := hc 2 _ rfl
      have c3 := hc 3 _ rfl
      have c4 := hc 4 _ rfl
      simp only [Nat.add_zero] at c0
      obtain ⟨h1, h2⟩ := hx
      simp only [El.err, El.put] at HP HET
      simp only at h1 h2 hds hin c0 c1 c2' c3 c4
      obtain ⟨hin1, hin2, hin3⟩ := hin
      have hfm : fm ≤ 100 := by omega
      have HRI := Lib.hid hin3
      have HLB := Lib.hid hin2
      have HFM : Hid (fm = L.length) := hin1.symm
      clear hin1 hin2 hin3
      clear hc
      by_cases hz : crtF op a b m = 0
      · obtain ⟨rfl, rfl, hok⟩ := crt_zero hz
        have HG := Lib.hid (fun w' (h' : Step (fun _ => False) w w') => eput_ok w' op a cc fm fc B FA L S hok h2 HFM (by omega) HLB.out (HRI.out.step h' (fun _ _ => id)))
        have hgl := eput_len op a L hds
        have HE2 : Hid (errE (l.take (j + 1)) = 0) := by rw [Hid, HET.out, if_pos HE.out]; exact hz
        obtain ⟨V, hV⟩ : ∃ V, V = eputL op a L := ⟨_, rfl⟩
        rw [← hV] at HG hgl HP
        simp only [elmX] at HG
        clear hV hz HET HEA
        go_wp2_with fail
        refine (HG.out _ (HS.out.alloc _)).mono ?_
        rintro e w8 ⟨D8, c8, rfl, hown, hS8⟩
        have HR8 := Lib.hid (Reads.of_own hown)
        have HO8 := Lib.hid (own_step (HOj.out.alloc (.cells #[.int .u8 (op : Int), .int .u64 (a : Int), .int .u64 0, .slice B 0 cc, .slice FA fm fc] 136)) hS8 (fun _ _ => id))
        have HS8 := Lib.hid ((HS.out.alloc (.cells #[.int .u8 (op : Int), .int .u64 (a : Int), .int .u64 0, .slice B 0 cc, .slice FA fm fc] 136)).trans hS8)
        clear hS8 hown
        have hone : ∀ u ∈ u8s V, u.oneCell' = true := u8s_one V
        have hm : (putsE U l j).length + V.length ≤ maxLen := by unfold maxLen; omega
        have hsz := HS8.out.size
        go_wp2_with (at_builtin; refine wpList_append_src _ rfl _ _ (by rfl) E_u8 (by rfl) HO8.out (by rfl) HR8.out hone hm (by omega) hsz ?_; intro D9 c9 w9 hown hgrow hat)
        have HS9 := Lib.hid (grow_step HS8.out hgrow HO8.out (Nat.le_refl _))
        have hcs : u8s (putsE U l j) ++ u8s V = u8s (putsE U l (j + 1)) := by rw [HP.out, u8s_append]
        have hln : (putsE U l j).length + V.length = (putsE U l (j + 1)).length := by rw [HP.out, List.length_append]
        rw [hcs, hln] at hown
        rw [hln]
        go_roundw
        case rel => exact ⟨j + 1, c9, D9, by omega, rfl, by rw [Int.natCast_add]; rfl, HE2, HS9, hown⟩
        case measure => simp [intOf]; omega
      · have HG := Lib.hid (fun w => eput_err w op a b m cc fm fc B FA h1 (by omega) hz)
        have HE2 : Hid (errE l = crtF op a b m) := by
          have h5 : errE (l.take (j + 1)) = crtF op a b m := by rw [HET.out, if_pos HE.out]
          rw [Hid, HEA.out (by rw [h5]; exact hz), h5]
        obtain ⟨r, hr⟩ : ∃ r : Int, r = (crtF op a b m : Nat) := ⟨_, rfl⟩
        have hne : ¬ r = 0 := by omega
        have hnb : (r != 0) = true := bne_iff_ne.2 hne
        rw [← hr] at HG
        simp only [elmX] at HG
        have HRR : Hid (r = (errE l : Nat) ∧ ¬ errE l = 0) := ⟨by rw [HE2.out]; exact hr, by rw [HE2.out]; exact hz⟩
        clear hr hz HET HEA HE2 HP
        go_wp2_with fail
        refine (HG.out _).mono ?_
        rintro e w8 ⟨rfl, hS8⟩
        go_wp2_with fail
        go_ret2
        exact ⟨(HS.out.alloc _).trans hS8, .inl ⟨HRR.out.2, by rw [← HRR.out.1]; rfl⟩⟩
    · obtain rfl : j = n := by omega
      have HE2 : Hid (errE l = 0) := by
        have h5 := HE.out
        rw [show l.take j = l by rw [HN.out]; exact List.take_length] at h5
        exact h5
      go_wp2_with fail
      refine bodyPost_ret (v := .tuple #[.slice D2 (putsE U l j).length c2, .int .i64 0]) (by simp [results, Try.results101, go_sem]) rfl ?_
      exact ⟨HS.out, .inr ⟨HE2.out, D2, c2, rfl, HOj.out⟩⟩
end Go.Proofs.Ytfemeendkjcffaa
