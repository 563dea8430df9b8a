/-
  datas: a list of them; PutAll.
-/
import Derived.Test.YtfemeendkjcffaaGbB
import Derived.Test.YtfemeendkjcffaaDa
set_option linter.unusedVariables false
set_option linter.unusedSimpArgs false
namespace Go.Proofs.Ytfemeendkjcffaa
open Go.RowKit

/-- A row of bytes, as a record. -/
structure Dl where
  op : Nat
  a : Nat
  b : Nat
  n : Nat
  c : Nat
  A : Option Addr
  ds : List UInt8
instance : Inhabited Dl := ⟨⟨0, 0, 0, 0, 0, none, []⟩⟩
def Dl.cells (x : Dl) : List Value := (datX x.op x.a x.b x.A x.n x.c (str x.ds)).toList
theorem Dl.six (x : Dl) : x.cells.length = 5 := rfl
def dls (l : List Dl) : List Value := l.flatMap Dl.cells
theorem dls_append (l m : List Dl) : dls (l ++ m) = dls l ++ dls m := by simp [dls]
theorem dls_one (l : List Dl) : ∀ u ∈ dls l, u.oneCell' = true := by
  intro u hu
  obtain ⟨f, _, hf⟩ := List.mem_flatMap.1 hu
  simp [Dl.cells, datX] at hf
  rcases hf with rfl | rfl | rfl | rfl | rfl <;> rfl
theorem E_da : ElemTy Try.prog 167 156 5 64 := elem_of Try.underlying167 (z := .agg #[.int .u8 0, .int .u64 0, .int .u64 0, .slice none 0 0, .string ByteArray.empty]) (by kernel_rfl) rfl (by decide)
/-- What is wrong with it. -/
def Dl.err (x : Dl) : Nat := crtF x.op x.a x.b x.n
def Dl.wf (x : Dl) : Prop := x.op < 256 ∧ x.a < 18446744073709551616
def Dl.put (x : Dl) : List UInt8 := dputL x.op x.a x.ds
theorem dput_len (op a : Nat) (ds : List UInt8) (h : ds.length ≤ 200) : (dputL op a ds).length ≤ 230 := by
  have h1 := cT_len op a
  have h2 := num_len ds.length
  rw [dputL, List.length_cons, List.length_append, List.length_append, cputL]
  simp
  omega
/-- The first error. -/
def errD : List Dl → Nat
  | [] => 0
  | x :: l => if x.err = 0 then errD l else x.err
theorem errD_nil : errD [] = 0 := rfl
theorem errD_cons (x : Dl) (l : List Dl) : errD (x :: l) = if x.err = 0 then errD l else x.err := rfl
theorem errD_snoc (l : List Dl) (x : Dl) : errD (l ++ [x]) = if errD l = 0 then x.err else errD l := by
  induction l with
  | nil =>
    rw [List.nil_append, errD_cons, errD_nil, if_pos rfl]
    by_cases h : x.err = 0
    · rw [if_pos h, h]
    · rw [if_neg h]
  | cons y l ih =>
    rw [List.cons_append, errD_cons, errD_cons]
    by_cases h : y.err = 0
    · simp only [h, if_true]
      exact ih
    · simp only [h, if_false]
theorem errD_take (l : List Dl) (j : Nat) (h : j < l.length) : errD (l.take (j + 1)) = if errD (l.take j) = 0 then l[j].err else errD (l.take j) := by
  rw [List.take_succ_eq_append_getElem h, errD_snoc]
theorem errD_app (l m : List Dl) (h : ¬ errD l = 0) : errD (l ++ m) = errD l := by
  induction l with
  | nil => exact absurd rfl h
  | cons y l ih =>
    rw [List.cons_append, errD_cons, errD_cons]
    rw [errD_cons] at h
    by_cases hy : y.err = 0
    · simp only [hy, if_true] at h ⊢
      exact ih h
    · simp only [hy, if_false]
theorem errD_of_take (l : List Dl) (j : Nat) (h : ¬ errD (l.take j) = 0) : errD l = errD (l.take j) := by
  have := errD_app (l.take j) (l.drop j) h
  rwa [List.take_append_drop] at this
theorem errD_all (l : List Dl) (h : errD l = 0) : ∀ x ∈ l, x.err = 0 := by
  induction l with
  | nil => intro x hx; cases hx
  | cons y l ih =>
    rw [errD_cons] at h
    by_cases hy : y.err = 0
    · rw [if_pos hy] at h
      intro x hx
      rcases List.mem_cons.1 hx with rfl | hx
      · exact hy
      · exact ih h x hx
    · rw [if_neg hy] at h
      exact absurd h hy
def putsD (U : List UInt8) (l : List Dl) (j : Nat) : List UInt8 := U ++ (l.take j).flatMap Dl.put
theorem putsD_zero (U : List UInt8) (l : List Dl) : putsD U l 0 = U := by simp [putsD]
theorem putsD_succ (U : List UInt8) (l : List Dl) (j : Nat) (h : j < l.length) : putsD U l (j + 1) = putsD U l j ++ l[j].put := by
  rw [putsD, List.take_succ_eq_append_getElem h, List.flatMap_append, putsD]
  simp
theorem putsD_all (U : List UInt8) (l : List Dl) : putsD U l l.length = U ++ l.flatMap Dl.put := by rw [putsD, List.take_length]
theorem putsD_len (U : List UInt8) (l : List Dl) (j : Nat) (hj : j ≤ l.length) (hs : ∀ x ∈ l.take j, x.ds.length ≤ 200) : (putsD U l j).length ≤ U.length + 230 * j := by
  induction j with
  | zero => rw [putsD_zero]; omega
  | succ j ih =>
    have hjl : j < l.length := by omega
    rw [putsD_succ U l j hjl, List.length_append]
    rw [List.take_succ_eq_append_getElem hjl] at hs
    have h1 := ih (by omega) (fun x hx => hs x (List.mem_append_left _ hx))
    have h2 := dput_len l[j].op l[j].a l[j].ds (hs _ (List.mem_append_right _ (by simp)))
    rw [show l[j].put = dputL l[j].op l[j].a l[j].ds from rfl]
    omega

set_option maxRecDepth 100000 in
set_option maxHeartbeats 6400000 in
theorem dputall_walk (w : World) (n c : Nat) (A : Option Addr) (l : List Dl) (S : Nat → Prop) (HN : Hid (n = l.length)) (hnb : n ≤ 1000) (hwf : ∀ x ∈ l, x.wf) (hsm : ∀ x ∈ l, x.ds.length ≤ 200) (hr : Reads w S 5 A n (dls l)) :
    Calls Try.prog 117 #[.slice A n c] w fun e w' => Step (fun _ => False) w w' ∧ ((¬ errD l = 0 ∧ e = .returned (.tuple #[.slice none 0 0, .int .i64 (errD l : Nat)])) ∨
      (errD l = 0 ∧ ∃ D c', e = .returned (.tuple #[.slice D (putsD (uintF n) l n).length c', .int .i64 0]) ∧ w'.ownsRow w.heap.size 5 1 (.slice D (putsD (uintF n) l n).length c') (putsD (uintF n) l n).length (u8s (putsD (uintF n) l n)))) := by
  have hlU := num_len n
  have HR2 := Lib.hid hr
  have hwn := IntWalk.u64_in (n : Int) (by omega)
  obtain ⟨U, hU⟩ : ∃ U, U = uintF n := ⟨_, rfl⟩
  rw [← hU] at hlU ⊢
  have HU : Hid (uintF n = U) := hU.symm
  have HWF := Lib.hid hwf
  have HSM := Lib.hid hsm
  clear hU hr hwf hsm
  have g0 : ¬ (10000 : Int) < (n : Int) := by omega
  go_enter Try.func117, Try.ntmps117
  go_wp2_with fail
  refine (uint_walk _ n (by omega)).mono ?_
  rintro e w5 ⟨D5, c5, rfl, hown, hS⟩
  rw [HU.out] at hown ⊢
  have HO5 : Hid (w5.ownsRow w.heap.size 5 1 (.slice D5 (putsD U l 0).length c5) (putsD U l 0).length (u8s (putsD U l 0))) := by rw [Hid, putsD_zero]; exact hown
  rw [show U.length = (putsD U l 0).length by rw [putsD_zero]]
  have HS5 := Lib.hid hS
  clear hown hS
  go_wp2_with fail
  go_loopw [4, 18] (fun ov iv wr => ∃ (j c2 : Nat) (D2 : Option Addr), j ≤ n ∧ ov = .slice D2 (putsD U l j).length c2 ∧ iv = .int .i64 (j : Int) ∧ Hid (errD (l.take j) = 0) ∧ Hid (Step (fun _ => False) w wr) ∧
    Hid (wr.ownsRow w.heap.size 5 1 (.slice D2 (putsD U l j).length c2) (putsD U l j).length (u8s (putsD U l j)))) (fun _ iv _ => n + 1 - (intOf iv).toNat)
  case atStart => exact ⟨0, c5, D5, by omega, rfl, rfl, rfl, HS5, HO5⟩
  case round =>
    obtain ⟨j, c2, D2, hj, rfl, rfl, HE, HS, HOj⟩ := hrel
    have hpl := putsD_len U l j (by rw [← HN.out]; exact hj) (fun x hx => HSM.out x (List.mem_of_mem_take hx))
    by_cases hlt : j < n
    · have g1 : (j : Int) < (n : Int) := by omega
      have i0 : (0 : Int) ≤ (j : Int) := by omega
      have hw1 := IntWalk.i64_in ((j : Int) + 1) (by omega)
      have hjl : j < l.length := by rw [← HN.out]; exact hlt
      obtain ⟨bk, off, rfl, _, hbl, hc⟩ := reads_row Dl.cells 5 (by decide) Dl.six (HR2.out.step HS.out (fun _ _ => id)) (k := j) hjl
      have hx := HWF.out l[j] (List.getElem_mem hjl)
      have hds := HSM.out l[j] (List.getElem_mem hjl)
      have HP := Lib.hid (putsD_succ U l j hjl)
      have HET := Lib.hid (errD_take l j hjl)
      have HEA := Lib.hid (errD_of_take l (j + 1))
      obtain ⟨x, hxe⟩ : ∃ x, x = l[j] := ⟨_, rfl⟩
      rw [← hxe] at hx hds hc HP HET
      clear hxe
      obtain ⟨op, a, b, m, cc, B, ds⟩ := x
      have c0 := hc 0 _ rfl
      have c1 := hc 1 _ rfl
      have c2' := hc 2 _ rfl
      have c3 := hc 3 _ rfl
      have c4 := hc 4 _ rfl
      simp only [Nat.add_zero] at c0
      obtain ⟨h1, h2⟩ := hx
      simp only [Dl.err, Dl.put] at HP HET
      simp only at h1 h2 hds c0 c1 c2' c3 c4
      clear hc
      by_cases hz : crtF op a b m = 0
      · obtain ⟨rfl, rfl, hok⟩ := crt_zero hz
        have HG := Lib.hid (fun w => dput_ok w op a cc B ds hok h2 (by omega))
        have hgl := dput_len op a ds hds
        have HE2 : Hid (errD (l.take (j + 1)) = 0) := by rw [Hid, HET.out, if_pos HE.out]; exact hz
        obtain ⟨V, hV⟩ : ∃ V, V = dputL op a ds := ⟨_, rfl⟩
        rw [← hV] at HG hgl HP
        simp only [datX] at HG
        obtain ⟨sd, hsd⟩ : ∃ sd, sd = str ds := ⟨_, rfl⟩
        rw [← hsd] at HG c4
        clear hV hz HET HEA hsd
        go_wp2_with fail
        refine (HG.out _).mono ?_
        rintro e w8 ⟨D8, c8, rfl, hown, hS8⟩
        have HR8 := Lib.hid (Reads.of_own hown)
        have HO8 := Lib.hid (own_step (HOj.out.alloc (.cells #[.int .u8 (op : Int), .int .u64 (a : Int), .int .u64 0, .slice B 0 cc, .string sd] 156)) hS8 (fun _ _ => id))
        have HS8 := Lib.hid ((HS.out.alloc (.cells #[.int .u8 (op : Int), .int .u64 (a : Int), .int .u64 0, .slice B 0 cc, .string sd] 156)).trans hS8)
        clear hS8 hown
        have hone : ∀ u ∈ u8s V, u.oneCell' = true := u8s_one V
        have hm : (putsD U l j).length + V.length ≤ maxLen := by unfold maxLen; omega
        have hsz := HS8.out.size
        go_wp2_with (at_builtin; refine wpList_append_src _ rfl _ _ (by rfl) E_u8 (by rfl) HO8.out (by rfl) HR8.out hone hm (by omega) hsz ?_; intro D9 c9 w9 hown hgrow hat)
        have HS9 := Lib.hid (grow_step HS8.out hgrow HO8.out (Nat.le_refl _))
        have hcs : u8s (putsD U l j) ++ u8s V = u8s (putsD U l (j + 1)) := by rw [HP.out, u8s_append]
        have hln : (putsD U l j).length + V.length = (putsD U l (j + 1)).length := by rw [HP.out, List.length_append]
        rw [hcs, hln] at hown
        rw [hln]
        go_roundw
        case rel => exact ⟨j + 1, c9, D9, by omega, rfl, by rw [Int.natCast_add]; rfl, HE2, HS9, hown⟩
        case measure => simp [intOf]; omega
      · have HG := Lib.hid (fun w => dput_err w op a b m cc B h1 ds (by omega) hz)
        have HE2 : Hid (errD l = crtF op a b m) := by
          have h5 : errD (l.take (j + 1)) = crtF op a b m := by rw [HET.out, if_pos HE.out]
          rw [Hid, HEA.out (by rw [h5]; exact hz), h5]
        obtain ⟨r, hr⟩ : ∃ r : Int, r = (crtF op a b m : Nat) := ⟨_, rfl⟩
        have hne : ¬ r = 0 := by omega
        have hnb : (r != 0) = true := bne_iff_ne.2 hne
        rw [← hr] at HG
        simp only [datX] at HG
        obtain ⟨sd, hsd⟩ : ∃ sd, sd = str ds := ⟨_, rfl⟩
        rw [← hsd] at HG c4
        clear hsd
        have HRR : Hid (r = (errD l : Nat) ∧ ¬ errD l = 0) := ⟨by rw [HE2.out]; exact hr, by rw [HE2.out]; exact hz⟩
        clear hr hz HET HEA HE2 HP
        go_wp2_with fail
        refine (HG.out _).mono ?_
        rintro e w8 ⟨rfl, hS8⟩
        go_wp2_with fail
        go_ret2
        exact ⟨(HS.out.alloc _).trans hS8, .inl ⟨HRR.out.2, by rw [← HRR.out.1]; rfl⟩⟩
    · obtain rfl : j = n := by omega
      have HE2 : Hid (errD l = 0) := by
        have h5 := HE.out
        rw [show l.take j = l by rw [HN.out]; exact List.take_length] at h5
        exact h5
      go_wp2_with fail
      refine bodyPost_ret (v := .tuple #[.slice D2 (putsD U l j).length c2, .int .i64 0]) (by simp [results, Try.results117, go_sem]) rfl ?_
      exact ⟨HS.out, .inr ⟨HE2.out, D2, c2, rfl, HOj.out⟩⟩
end Go.Proofs.Ytfemeendkjcffaa
