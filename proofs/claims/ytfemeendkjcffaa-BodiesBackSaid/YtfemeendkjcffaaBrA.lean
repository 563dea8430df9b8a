/-
  bodies: a list of them; PutAll.
-/
import Derived.Test.YtfemeendkjcffaaBq
set_option linter.unusedVariables false
set_option linter.unusedSimpArgs false
namespace Go.Proofs.Ytfemeendkjcffaa
open Go.RowKit

section
variable {α : Type} (f : α → Nat) (p : α → List UInt8)
/-- The first error of a list. -/
def ferr : List α → Nat
  | [] => 0
  | x :: l => if f x = 0 then ferr l else f x
theorem ferr_nil : ferr f [] = 0 := rfl
theorem ferr_cons (x : α) (l : List α) : ferr f (x :: l) = if f x = 0 then ferr f l else f x := rfl
theorem ferr_snoc (l : List α) (x : α) : ferr f (l ++ [x]) = if ferr f l = 0 then f x else ferr f l := by
  induction l with
  | nil =>
    rw [List.nil_append, ferr_cons, ferr_nil, if_pos rfl]
    by_cases h : f x = 0
    · rw [if_pos h, h]
    · rw [if_neg h]
  | cons y l ih =>
    rw [List.cons_append, ferr_cons, ferr_cons]
    by_cases h : f y = 0
    · simp only [h, if_true]
      exact ih
    · simp only [h, if_false]
theorem ferr_take (l : List α) (j : Nat) (h : j < l.length) : ferr f (l.take (j + 1)) = if ferr f (l.take j) = 0 then f l[j] else ferr f (l.take j) := by
  rw [List.take_succ_eq_append_getElem h, ferr_snoc]
theorem ferr_app (l m : List α) (h : ¬ ferr f l = 0) : ferr f (l ++ m) = ferr f l := by
  induction l with
  | nil => exact absurd rfl h
  | cons y l ih =>
    rw [List.cons_append, ferr_cons, ferr_cons]
    rw [ferr_cons] at h
    by_cases hy : f y = 0
    · simp only [hy, if_true] at h ⊢
      exact ih h
    · simp only [hy, if_false]
theorem ferr_of_take (l : List α) (j : Nat) (h : ¬ ferr f (l.take j) = 0) : ferr f l = ferr f (l.take j) := by
  have := ferr_app f (l.take j) (l.drop j) h
  rwa [List.take_append_drop] at this
theorem ferr_all (l : List α) (h : ferr f l = 0) : ∀ x ∈ l, f x = 0 := by
  induction l with
  | nil => intro x hx; cases hx
  | cons y l ih =>
    rw [ferr_cons] at h
    by_cases hy : f y = 0
    · rw [if_pos hy] at h
      intro x hx
      rcases List.mem_cons.1 hx with rfl | hx
      · exact hy
      · exact ih h x hx
    · rw [if_neg hy] at h
      exact absurd h hy
/-- The bytes of the first j. -/
def fput (U : List UInt8) (l : List α) (j : Nat) : List UInt8 := U ++ (l.take j).flatMap p
theorem fput_zero (U : List UInt8) (l : List α) : fput p U l 0 = U := by simp [fput]
theorem fput_succ (U : List UInt8) (l : List α) (j : Nat) (h : j < l.length) : fput p U l (j + 1) = fput p U l j ++ p l[j] := by
  rw [fput, List.take_succ_eq_append_getElem h, List.flatMap_append, fput]
  simp
theorem fput_all (U : List UInt8) (l : List α) : fput p U l l.length = U ++ l.flatMap p := by rw [fput, List.take_length]
theorem fput_len (U : List UInt8) (l : List α) (B : Nat) : ∀ (j : Nat), j ≤ l.length → (∀ x ∈ l.take j, (p x).length ≤ B) → (fput p U l j).length ≤ U.length + B * j
  | 0, _, _ => by rw [fput_zero]; omega
  | j + 1, hj, hs => by
    rw [fput_succ p U l j (by omega), List.length_append]
    rw [List.take_succ_eq_append_getElem (by omega)] at hs
    have h1 := fput_len U l B j (by omega) (fun x hx => hs x (List.mem_append_left _ hx))
    have h2 := hs (l[j]'(by omega)) (List.mem_append_right _ (by simp))
    rw [Nat.mul_add, Nat.mul_one]
    omega
theorem fput_drop (l : List α) (j : Nat) (h : j < l.length) : (l.drop j).flatMap p = p l[j] ++ (l.drop (j + 1)).flatMap p := by
  rw [List.drop_eq_getElem_cons h, List.flatMap_cons]
end

/-- A body, as a record. -/
structure Cd where
  LA : Option Addr
  lc : Nat
  lo : List (Nat × Nat)
  IA : Option Addr
  n : Nat
  c : Nat
  l : List Ig
instance : Inhabited Cd := ⟨⟨none, 0, [], none, 0, 0, []⟩⟩
def Cd.cells (x : Cd) : List Value := [.slice x.LA x.lo.length x.lc, .slice x.IA x.n x.c]
theorem Cd.two (x : Cd) : x.cells.length = 2 := rfl
def cds (l : List Cd) : List Value := l.flatMap Cd.cells
theorem cds_append (l m : List Cd) : cds (l ++ m) = cds l ++ cds m := by simp [cds]
theorem cds_one (l : List Cd) : ∀ u ∈ cds l, u.oneCell' = true := by
  intro u hu
  obtain ⟨f, _, hf⟩ := List.mem_flatMap.1 hu
  simp [Cd.cells] at hf
  rcases hf with rfl | rfl <;> rfl
theorem E_cd : ElemTy Try.prog 187 176 2 48 := elem_of Try.underlying187 (z := .agg #[.slice none 0 0, .slice none 0 0]) (by kernel_rfl) rfl (by decide)
def Cd.err (x : Cd) : Nat := rgtC x.lo x.l
def Cd.put (x : Cd) : List UInt8 := putC x.lo x.l
def Cd.wf (x : Cd) : Prop := x.l.length = x.n ∧ (∀ g ∈ x.lo, g.1 < 4294967296 ∧ g.2 < 256) ∧ ∀ y ∈ x.l, y.wf ∧ y.L.length = y.n ∧ ∀ z ∈ y.L, z < 4294967296
def Cd.rd (w : World) (S : Nat → Prop) (x : Cd) : Prop := Reads w S 4 x.IA x.n (igs x.l) ∧ Reads w S 2 x.LA x.lo.length (x.lo.flatMap loC) ∧ ∀ y ∈ x.l, Reads w S 1 y.A y.n (u32s y.L)
theorem Cd.rd_step {w w' : World} {S : Nat → Prop} {x : Cd} (h : x.rd w S) (hs : Step (fun _ => False) w w') : x.rd w' S := ⟨h.1.step hs (fun _ _ => id), h.2.1.step hs (fun _ _ => id), fun y hy => (h.2.2 y hy).step hs (fun _ _ => id)⟩
def Cd.sm (x : Cd) : Prop := x.n ≤ 60 ∧ x.lo.length ≤ 50 ∧ ∀ y ∈ x.l, y.L.length ≤ 50
theorem igput_len50 (op a b : Nat) (L : List Nat) (h : L.length ≤ 50) : (putL op a b L).length ≤ 531 := by
  have h1 := num_len a
  have h2 := num_len b
  have h3 := num_len L.length
  have h4 := labL_len L
  have h5 : (intF (s32 a)).length ≤ 10 := intL_len 10 _
  have h6 : (intF (s64 a)).length ≤ 10 := intL_len 10 _
  rw [putL, List.length_cons, putT]
  repeat' split
  all_goals (try simp only [List.length_append, List.length_cons, List.length_nil])
  all_goals omega
theorem cdput_len (x : Cd) (hw : x.wf) (h : x.sm) : x.put.length ≤ 33000 := by
  obtain ⟨h1, h2, h3⟩ := h
  have e1 := putsG_len (uintF x.lo.length) x.lo x.lo.length (Nat.le_refl _)
  have e2 := num_len x.lo.length
  have e3 := fput_len Ig.put (uintF x.lo.length ++ x.lo.flatMap putG) x.l 531 x.l.length (Nat.le_refl _) (fun y hy => igput_len50 _ _ _ _ (h3 y (List.mem_of_mem_take hy)))
  rw [putsG_all] at e1
  rw [fput_all] at e3
  have e4 : (inL x.lo x.l).length ≤ 32500 := by rw [inL]; have := hw.1; omega
  have e5 := num_len (inL x.lo x.l).length
  rw [Cd.put, putC, List.length_append]
  omega

set_option maxRecDepth 100000 in
set_option maxHeartbeats 6400000 in
theorem cputall_walk (w : World) (n c : Nat) (A : Option Addr) (l : List Cd) (S : Nat → Prop) (HN : Hid (n = l.length)) (hnb : n ≤ 20) (hwf : ∀ x ∈ l, x.wf) (hsm : ∀ x ∈ l, x.sm) (hrd : ∀ x ∈ l, x.rd w S) (hr : Reads w S 2 A n (cds l)) :
    Calls Try.prog 130 #[.slice A n c] w fun e w' => Step (fun _ => False) w w' ∧ ((¬ ferr Cd.err l = 0 ∧ e = .returned (.tuple #[.slice none 0 0, .int .i64 (ferr Cd.err l : Nat)])) ∨
      (ferr Cd.err l = 0 ∧ ∃ D c', e = .returned (.tuple #[.slice D (fput Cd.put (uintF n) l n).length c', .int .i64 0]) ∧ w'.ownsRow w.heap.size 5 1 (.slice D (fput Cd.put (uintF n) l n).length c') (fput Cd.put (uintF n) l n).length (u8s (fput Cd.put (uintF n) l n)))) := by
  have hlU := num_len n
  have HR2 := Lib.hid hr
  have hwn := IntWalk.u64_in (n : Int) (by omega)
  obtain ⟨U, hU⟩ : ∃ U, U = uintF n := ⟨_, rfl⟩
  rw [← hU] at hlU ⊢
  have HU : Hid (uintF n = U) := hU.symm
  have HWF := Lib.hid hwf
  have HSM := Lib.hid hsm
  have HRD := Lib.hid hrd
  clear hU hr hwf hsm hrd
  have g0 : ¬ (10000 : Int) < (n : Int) := by omega
  go_enter Try.func130, Try.ntmps130
  go_wp2_with fail
  refine (uint_walk _ n (by omega)).mono ?_
  rintro e w5 ⟨D5, c5, rfl, hown, hS⟩
  rw [HU.out] at hown ⊢
  have HO5 : Hid (w5.ownsRow w.heap.size 5 1 (.slice D5 (fput Cd.put U l 0).length c5) (fput Cd.put U l 0).length (u8s (fput Cd.put U l 0))) := by rw [Hid, fput_zero]; exact hown
  rw [show U.length = (fput Cd.put U l 0).length by rw [fput_zero]]
  have HS5 := Lib.hid hS
  clear hown hS
  go_wp2_with fail
  go_loopw [4, 18] (fun ov iv wr => ∃ (j c2 : Nat) (D2 : Option Addr), j ≤ n ∧ ov = .slice D2 (fput Cd.put U l j).length c2 ∧ iv = .int .i64 (j : Int) ∧ Hid (ferr Cd.err (l.take j) = 0) ∧ Hid (Step (fun _ => False) w wr) ∧
    Hid (wr.ownsRow w.heap.size 5 1 (.slice D2 (fput Cd.put U l j).length c2) (fput Cd.put U l j).length (u8s (fput Cd.put U l j)))) (fun _ iv _ => n + 1 - (intOf iv).toNat)
  case atStart => exact ⟨0, c5, D5, by omega, rfl, rfl, rfl, HS5, HO5⟩
  case round =>
    obtain ⟨j, c2, D2, hj, rfl, rfl, HE, HS, HOj⟩ := hrel
    have hpl := fput_len Cd.put U l 33000 j (by rw [← HN.out]; exact hj) (fun x hx => cdput_len x (HWF.out x (List.mem_of_mem_take hx)) (HSM.out x (List.mem_of_mem_take hx)))
    by_cases hlt : j < n
    · have g1 : (j : Int) < (n : Int) := by omega
      have i0 : (0 : Int) ≤ (j : Int) := by omega
      have hw1 := IntWalk.i64_in ((j : Int) + 1) (by omega)
      have hjl : j < l.length := by rw [← HN.out]; exact hlt
      obtain ⟨bk, off, rfl, _, hbl, hc⟩ := reads_row Cd.cells 2 (by decide) Cd.two (HR2.out.step HS.out (fun _ _ => id)) (k := j) hjl
      have hx := HWF.out l[j] (List.getElem_mem hjl)
      have hxs := HSM.out l[j] (List.getElem_mem hjl)
      have hxr := HRD.out l[j] (List.getElem_mem hjl)
      have hgl := cdput_len l[j] hx hxs
      have HP := Lib.hid (fput_succ Cd.put U l j hjl)
      have HET := Lib.hid (ferr_take Cd.err l j hjl)
      have HEA := Lib.hid (ferr_of_take Cd.err l (j + 1))
      obtain ⟨x, hxe⟩ : ∃ x, x = l[j] := ⟨_, rfl⟩
      rw [← hxe] at hx hxs hxr hc HP HET hgl
      clear hxe
      obtain ⟨LA, lc, lo, IA, m, cc, is⟩ := x
      obtain ⟨k1, k2, k3⟩ := hx
      obtain ⟨s1, s2, s3⟩ := hxs
      simp only at k1 k2 k3 s1 s2 s3
      simp only [Cd.rd] at hxr
      simp only [Cd.err, Cd.put] at HP HET hgl
      have c0 := hc 0 _ rfl
      have c1 := hc 1 _ rfl
      simp only [Nat.add_zero] at c0
      simp only at c0 c1
      have HRx := Lib.hid hxr
      have HK1 : Hid (m = is.length) := k1.symm
      have hwf' : ∀ y ∈ is, y.wf := fun y hy => (k3 y hy).1
      have hsm' : ∀ y ∈ is, y.L.length ≤ 100 := fun y hy => by have := s3 y hy; omega
      have hin' : ∀ w', Step (fun _ => False) w w' → ∀ y ∈ is, y.L.length = y.n ∧ (∀ z ∈ y.L, z < 4294967296) ∧ Reads w' S 1 y.A y.n (u32s y.L) := fun w' h y hy => ⟨(k3 y hy).2.1, (k3 y hy).2.2, (HRx.out.2.2 y hy).step h (fun _ _ => id)⟩
      by_cases hz : rgtC lo is = 0
      · have HG := Lib.hid (fun w' (h' : Step (fun _ => False) w w') => bput_walk w' LA IA lc m cc lo is S HK1 (by omega) hwf' hsm' (hin' w' h') (HRx.out.1.step h' (fun _ _ => id)) (HRx.out.2.1.step h' (fun _ _ => id)) k2 (by omega) hz)
        have HE2 : Hid (ferr Cd.err (l.take (j + 1)) = 0) := by rw [Hid, HET.out, if_pos HE.out]; exact hz
        obtain ⟨V, hV⟩ : ∃ V, V = putC lo is := ⟨_, rfl⟩
        rw [← hV] at HG hgl HP
        obtain ⟨q, hq⟩ : ∃ q, q = lo.length := ⟨_, rfl⟩
        rw [← hq] at HG c0
        clear hV hq hz HET HEA hc k1 k2 k3 s1 s2 s3 hxr hwf' hsm' hin' HRx
        go_wp2_with fail
        refine (HG.out _ (HS.out.alloc _)).mono ?_
        rintro e w8 ⟨D8, c8, rfl, hown, hS8⟩
        have HR8 := Lib.hid (Reads.of_own hown)
        have HO8 := Lib.hid (own_step (HOj.out.alloc (.cells #[.slice LA q lc, .slice IA m cc] 176)) hS8 (fun _ _ => id))
        have HS8 := Lib.hid ((HS.out.alloc (.cells #[.slice LA q lc, .slice IA m cc] 176)).trans hS8)
        clear hS8 hown
        have hone : ∀ u ∈ u8s V, u.oneCell' = true := u8s_one V
        have hm : (fput Cd.put U l j).length + V.length ≤ maxLen := by unfold maxLen; omega
        have hsz := HS8.out.size
        go_wp2_with (at_builtin; refine wpList_append_src _ rfl _ _ (by rfl) E_u8 (by rfl) HO8.out (by rfl) HR8.out hone hm (by omega) hsz ?_; intro D9 c9 w9 hown hgrow hat)
        have HS9 := Lib.hid (grow_step HS8.out hgrow HO8.out (Nat.le_refl _))
        have hcs : u8s (fput Cd.put U l j) ++ u8s V = u8s (fput Cd.put U l (j + 1)) := by rw [HP.out, u8s_append]
        have hln : (fput Cd.put U l j).length + V.length = (fput Cd.put U l (j + 1)).length := by rw [HP.out, List.length_append]
        rw [hcs, hln] at hown
        rw [hln]
        go_roundw
        case rel => exact ⟨j + 1, c9, D9, by omega, rfl, by rw [Int.natCast_add]; rfl, HE2, HS9, hown⟩
        case measure => simp [intOf]; omega
      · have HG := Lib.hid (fun w' (h' : Step (fun _ => False) w w') => bput_err w' LA IA lc m cc lo is S HK1 (by omega) hwf' hsm' (hin' w' h') (HRx.out.1.step h' (fun _ _ => id)) (HRx.out.2.1.step h' (fun _ _ => id)) k2 (by omega) hz)
        have HE2 : Hid (ferr Cd.err l = rgtC lo is) := by
          have h5 : ferr Cd.err (l.take (j + 1)) = rgtC lo is := by rw [HET.out, if_pos HE.out]
          rw [Hid, HEA.out (by rw [h5]; exact hz), h5]
        obtain ⟨r, hr⟩ : ∃ r : Int, r = (rgtC lo is : Nat) := ⟨_, rfl⟩
        have hne : ¬ r = 0 := by omega
        have hnb : (r != 0) = true := bne_iff_ne.2 hne
        rw [← hr] at HG
        have HRR : Hid (r = (ferr Cd.err l : Nat) ∧ ¬ ferr Cd.err l = 0) := ⟨by rw [HE2.out]; exact hr, by rw [HE2.out]; exact hz⟩
        obtain ⟨q, hq⟩ : ∃ q, q = lo.length := ⟨_, rfl⟩
        rw [← hq] at HG c0
        clear hr hq hz HET HEA HE2 HP hc k1 k2 k3 s1 s2 s3 hxr hwf' hsm' hin' HRx
        go_wp2_with fail
        refine (HG.out _ (HS.out.alloc _)).mono ?_
        rintro e w8 ⟨rfl, hS8⟩
        go_wp2_with fail
        go_ret2
        exact ⟨(HS.out.alloc _).trans hS8, .inl ⟨HRR.out.2, by rw [← HRR.out.1]; rfl⟩⟩
    · obtain rfl : j = n := by omega
      have HE2 : Hid (ferr Cd.err l = 0) := by
        have h5 := HE.out
        rw [show l.take j = l by rw [HN.out]; exact List.take_length] at h5
        exact h5
      go_wp2_with fail
      refine bodyPost_ret (v := .tuple #[.slice D2 (fput Cd.put U l j).length c2, .int .i64 0]) (by simp [results, Try.results130, go_sem]) rfl ?_
      exact ⟨HS.out, .inr ⟨HE2.out, D2, c2, rfl, HOj.out⟩⟩
end Go.Proofs.Ytfemeendkjcffaa
