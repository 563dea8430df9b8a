/-
  globals: a list of them; PutAll.
-/
import Derived.Test.YtfemeendkjcffaaGl
import Derived.Test.YtfemeendkjcffaaOpn
set_option linter.unusedVariables false
set_option linter.unusedSimpArgs false
namespace Go.Proofs.Ytfemeendkjcffaa
open Go.RowKit

/-- The cells of element k of a row of structs. -/
theorem reads_row {α : Type} (c : α → List Value) (m : Nat) (hm : 0 < m) (hc : ∀ a, (c a).length = m) {w : World} {S : Nat → Prop} {A : Option Addr} {l : List α} {n : Nat} (hv : Reads w S m A n (l.flatMap c)) {k : Nat} (hk : k < l.length) :
    ∃ b off, A = some ⟨b, off, none⟩ ∧ S b ∧ b < w.heap.size ∧ ∀ j u, (c l[k])[j]? = some u → w.cell? ⟨b, off + k * m + j, none⟩ = some u := by
  have hn : 0 < n := by
    refine Nat.pos_of_ne_zero fun h => ?_
    have h1 := hv.1
    rw [flat_length c m hc, h, Nat.zero_mul] at h1
    have h2 : 0 < l.length * m := Nat.mul_pos (by omega) hm
    omega
  obtain ⟨ad, rfl, hS, hlt, hcell⟩ := hv.2 hn
  have h00 := flat_get c m hc l 0 0 (by omega) hm
  rw [Nat.zero_mul] at h00
  have h01 : (c (l[0]'(by omega)))[0]? = some ((c (l[0]'(by omega)))[0]'(by rw [hc]; exact hm)) := List.getElem?_eq_getElem _
  have h0 := hcell 0 _ (h00.trans h01)
  obtain ⟨b, off, spot⟩ := ad
  have hspot : spot = none := by
    have := World.cell?_spot h0
    simpa [Addr.add] using this
  subst hspot
  refine ⟨b, off, rfl, hS, hlt, fun j u hu => ?_⟩
  have hj : j < m := by
    have := (List.getElem?_eq_some_iff.1 hu).1
    rwa [hc] at this
  have h1 := hcell (k * m + j) u (by rw [flat_get c m hc l k j hk hj]; exact hu)
  rw [Addr.add_lit] at h1
  rw [Nat.add_assoc]
  exact h1

/-- A global, as a record. -/
structure Gl where
  t : Nat
  op : Nat
  a : Nat
  b : Nat
  n : Nat
  c : Nat
  m : Bool
  A : Option Addr
instance : Inhabited Gl := ⟨⟨0, 0, 0, 0, 0, 0, false, none⟩⟩
def Gl.cells (x : Gl) : List Value := (gloX x.t x.m x.op x.a x.b x.A x.n x.c).toList
theorem Gl.six (x : Gl) : x.cells.length = 6 := rfl
def gls (l : List Gl) : List Value := l.flatMap Gl.cells
theorem gls_append (l m : List Gl) : gls (l ++ m) = gls l ++ gls m := by simp [gls]
theorem gls_one (l : List Gl) : ∀ u ∈ gls l, u.oneCell' = true := by
  intro u hu
  obtain ⟨f, _, hf⟩ := List.mem_flatMap.1 hu
  simp [Gl.cells, gloX] at hf
  rcases hf with rfl | rfl | rfl | rfl | rfl | rfl <;> rfl
theorem E_gl : ElemTy Try.prog 126 115 6 56 := elem_of Try.underlying126 (z := .agg #[.int .u8 0, .bool false, .int .u8 0, .int .u64 0, .int .u64 0, .slice none 0 0]) (by kernel_rfl) rfl (by decide)
/-- What is wrong with it. -/
def Gl.err (x : Gl) : Nat := glbF x.t x.op x.a x.b x.n
def Gl.wf (x : Gl) : Prop := x.t < 256 ∧ x.op < 256 ∧ x.a < 18446744073709551616
def Gl.put (x : Gl) : List UInt8 := gputL x.t x.m x.op x.a
theorem gput_len (t : Nat) (m : Bool) (op a : Nat) : (gputL t m op a).length ≤ 14 := by
  have h1 := cT_len op a
  rw [gputL, List.length_cons, List.length_cons, cputL]
  simp
  omega
/-- The first error. -/
def errL : List Gl → Nat
  | [] => 0
  | x :: l => if x.err = 0 then errL l else x.err
theorem errL_nil : errL [] = 0 := rfl
theorem errL_cons (x : Gl) (l : List Gl) : errL (x :: l) = if x.err = 0 then errL l else x.err := rfl
theorem errL_snoc (l : List Gl) (x : Gl) : errL (l ++ [x]) = if errL l = 0 then x.err else errL l := by
  induction l with
  | nil =>
    rw [List.nil_append, errL_cons, errL_nil, if_pos rfl]
    by_cases h : x.err = 0
    · rw [if_pos h, h]
    · rw [if_neg h]
  | cons y l ih =>
    rw [List.cons_append, errL_cons, errL_cons]
    by_cases h : y.err = 0
    · simp only [h, if_true]
      exact ih
    · simp only [h, if_false]
theorem errL_take (l : List Gl) (j : Nat) (h : j < l.length) : errL (l.take (j + 1)) = if errL (l.take j) = 0 then l[j].err else errL (l.take j) := by
  rw [List.take_succ_eq_append_getElem h, errL_snoc]
theorem errL_app (l m : List Gl) (h : ¬ errL l = 0) : errL (l ++ m) = errL l := by
  induction l with
  | nil => exact absurd rfl h
  | cons y l ih =>
    rw [List.cons_append, errL_cons, errL_cons]
    rw [errL_cons] at h
    by_cases hy : y.err = 0
    · simp only [hy, if_true] at h ⊢
      exact ih h
    · simp only [hy, if_false]
theorem errL_of_take (l : List Gl) (j : Nat) (h : ¬ errL (l.take j) = 0) : errL l = errL (l.take j) := by
  have := errL_app (l.take j) (l.drop j) h
  rwa [List.take_append_drop] at this
theorem errL_all (l : List Gl) (h : errL l = 0) : ∀ x ∈ l, x.err = 0 := by
  induction l with
  | nil => intro x hx; cases hx
  | cons y l ih =>
    rw [errL_cons] at h
    by_cases hy : y.err = 0
    · rw [if_pos hy] at h
      intro x hx
      rcases List.mem_cons.1 hx with rfl | hx
      · exact hy
      · exact ih h x hx
    · rw [if_neg hy] at h
      exact absurd h hy
def putsL (U : List UInt8) (l : List Gl) (j : Nat) : List UInt8 := U ++ (l.take j).flatMap Gl.put
theorem putsL_zero (U : List UInt8) (l : List Gl) : putsL U l 0 = U := by simp [putsL]
theorem putsL_succ (U : List UInt8) (l : List Gl) (j : Nat) (h : j < l.length) : putsL U l (j + 1) = putsL U l j ++ l[j].put := by
  rw [putsL, List.take_succ_eq_append_getElem h, List.flatMap_append, putsL]
  simp
theorem putsL_all (U : List UInt8) (l : List Gl) : putsL U l l.length = U ++ l.flatMap Gl.put := by rw [putsL, List.take_length]
theorem putsL_len (U : List UInt8) (l : List Gl) (j : Nat) (hj : j ≤ l.length) : (putsL U l j).length ≤ U.length + 14 * j := by
  induction j with
  | zero => rw [putsL_zero]; omega
  | succ j ih =>
    rw [putsL_succ U l j (by omega), List.length_append]
    have h1 := ih (by omega)
    have h2 := gput_len l[j].t l[j].m l[j].op l[j].a
    rw [show l[j].put = gputL l[j].t l[j].m l[j].op l[j].a from rfl]
    omega

set_option maxRecDepth 100000 in
set_option maxHeartbeats 6400000 in
theorem putall_walk (w : World) (n c : Nat) (A : Option Addr) (l : List Gl) (S : Nat → Prop) (HN : Hid (n = l.length)) (hnb : n ≤ 1000) (hwf : ∀ x ∈ l, x.wf) (hr : Reads w S 6 A n (gls l)) :
    Calls Try.prog 85 #[.slice A n c] w fun e w' => Step (fun _ => False) w w' ∧ ((¬ errL l = 0 ∧ e = .returned (.tuple #[.slice none 0 0, .int .i64 (errL l : Nat)])) ∨
      (errL l = 0 ∧ ∃ D c', e = .returned (.tuple #[.slice D (putsL (uintF n) l n).length c', .int .i64 0]) ∧ w'.ownsRow w.heap.size 5 1 (.slice D (putsL (uintF n) l n).length c') (putsL (uintF n) l n).length (u8s (putsL (uintF n) l n)))) := by
  have hlU := num_len n
  have HR2 := Lib.hid hr
  have hwn := IntWalk.u64_in (n : Int) (by omega)
  obtain ⟨U, hU⟩ : ∃ U, U = uintF n := ⟨_, rfl⟩
  rw [← hU] at hlU ⊢
  have HU : Hid (uintF n = U) := hU.symm
  have HWF := Lib.hid hwf
  clear hU hr hwf
  have g0 : ¬ (10000 : Int) < (n : Int) := by omega
  go_enter Try.func85, Try.ntmps85
  go_wp2_with fail
  refine (uint_walk _ n (by omega)).mono ?_
  rintro e w5 ⟨D5, c5, rfl, hown, hS⟩
  rw [HU.out] at hown ⊢
  have HO5 : Hid (w5.ownsRow w.heap.size 5 1 (.slice D5 (putsL U l 0).length c5) (putsL U l 0).length (u8s (putsL U l 0))) := by rw [Hid, putsL_zero]; exact hown
  rw [show U.length = (putsL U l 0).length by rw [putsL_zero]]
  have HS5 := Lib.hid hS
  clear hown hS
  go_wp2_with fail
  go_loopw [4, 18] (fun ov iv wr => ∃ (j c2 : Nat) (D2 : Option Addr), j ≤ n ∧ ov = .slice D2 (putsL U l j).length c2 ∧ iv = .int .i64 (j : Int) ∧ Hid (errL (l.take j) = 0) ∧ Hid (Step (fun _ => False) w wr) ∧
    Hid (wr.ownsRow w.heap.size 5 1 (.slice D2 (putsL U l j).length c2) (putsL U l j).length (u8s (putsL U l j)))) (fun _ iv _ => n + 1 - (intOf iv).toNat)
  case atStart => exact ⟨0, c5, D5, by omega, rfl, rfl, rfl, HS5, HO5⟩
  case round =>
    obtain ⟨j, c2, D2, hj, rfl, rfl, HE, HS, HOj⟩ := hrel
    have hpl := putsL_len U l j (by rw [← HN.out]; exact hj)
    by_cases hlt : j < n
    · have g1 : (j : Int) < (n : Int) := by omega
      have i0 : (0 : Int) ≤ (j : Int) := by omega
      have hw1 := IntWalk.i64_in ((j : Int) + 1) (by omega)
      have hjl : j < l.length := by rw [← HN.out]; exact hlt
      obtain ⟨bk, off, rfl, _, hbl, hc⟩ := reads_row Gl.cells 6 (by decide) Gl.six (HR2.out.step HS.out (fun _ _ => id)) (k := j) hjl
      have hx := HWF.out l[j] (List.getElem_mem hjl)
      have HP := Lib.hid (putsL_succ U l j hjl)
      have HET := Lib.hid (errL_take l j hjl)
      have HEA := Lib.hid (errL_of_take l (j + 1))
      obtain ⟨x, hxe⟩ : ∃ x, x = l[j] := ⟨_, rfl⟩
      rw [← hxe] at hx hc HP HET
      clear hxe
      obtain ⟨t, op, a, b, m, cc, mu, B⟩ := x
      have c0 := hc 0 _ rfl
      have c1 := hc 1 _ rfl
      have c2' := hc 2 _ rfl
      have c3 := hc 3 _ rfl
      have c4 := hc 4 _ rfl
      have c5 := hc 5 _ rfl
      simp only [Nat.add_zero] at c0
      obtain ⟨h1, h2, h3⟩ := hx
      simp only [Gl.err, Gl.put] at HP HET
      simp only at h1 h2 h3 c0 c1 c2' c3 c4 c5
      clear hc
      by_cases hz : glbF t op a b m = 0
      · obtain ⟨hv, hz2⟩ := glb_zero hz
        obtain ⟨rfl, rfl, hok⟩ := crt_zero hz2
        have HG := Lib.hid (fun w => gput_ok w t op a cc mu B h1 hv hok h3)
        have hgl := gput_len t mu op a
        have HE2 : Hid (errL (l.take (j + 1)) = 0) := by rw [Hid, HET.out, if_pos HE.out]; exact hz
        obtain ⟨V, hV⟩ : ∃ V, V = gputL t mu op a := ⟨_, rfl⟩
        rw [← hV] at HG hgl HP
        simp only [gloX] at HG
        clear hV hz hz2 hv HET HEA
        go_wp2_with fail
        refine (HG.out _).mono ?_
        rintro e w8 ⟨D8, c8, rfl, hown, hS8⟩
        have HR8 := Lib.hid (Reads.of_own hown)
        have HO8 := Lib.hid (own_step (HOj.out.alloc (.cells #[.int .u8 (t : Int), .bool mu, .int .u8 (op : Int), .int .u64 (a : Int), .int .u64 0, .slice B 0 cc] 115)) hS8 (fun _ _ => id))
        have HS8 := Lib.hid ((HS.out.alloc (.cells #[.int .u8 (t : Int), .bool mu, .int .u8 (op : Int), .int .u64 (a : Int), .int .u64 0, .slice B 0 cc] 115)).trans hS8)
        clear hS8 hown
        have hone : ∀ u ∈ u8s V, u.oneCell' = true := u8s_one V
        have hm : (putsL U l j).length + V.length ≤ maxLen := by unfold maxLen; omega
        have hsz := HS8.out.size
        go_wp2_with (at_builtin; refine wpList_append_src _ rfl _ _ (by rfl) E_u8 (by rfl) HO8.out (by rfl) HR8.out hone hm (by omega) hsz ?_; intro D9 c9 w9 hown hgrow hat)
        have HS9 := Lib.hid (grow_step HS8.out hgrow HO8.out (Nat.le_refl _))
        have hcs : u8s (putsL U l j) ++ u8s V = u8s (putsL U l (j + 1)) := by rw [HP.out, u8s_append]
        have hln : (putsL U l j).length + V.length = (putsL U l (j + 1)).length := by rw [HP.out, List.length_append]
        rw [hcs, hln] at hown
        rw [hln]
        go_roundw
        case rel => exact ⟨j + 1, c9, D9, by omega, rfl, by rw [Int.natCast_add]; rfl, HE2, HS9, hown⟩
        case measure => simp [intOf]; omega
      · have HG := Lib.hid (fun w => gput_err w t op a b m cc mu B h2 h1 hz)
        have HE2 : Hid (errL l = glbF t op a b m) := by
          have h5 : errL (l.take (j + 1)) = glbF t op a b m := by rw [HET.out, if_pos HE.out]
          rw [Hid, HEA.out (by rw [h5]; exact hz), h5]
        obtain ⟨r, hr⟩ : ∃ r : Int, r = (glbF t op a b m : Nat) := ⟨_, rfl⟩
        have hne : ¬ r = 0 := by omega
        have hnb : (r != 0) = true := bne_iff_ne.2 hne
        rw [← hr] at HG
        simp only [gloX] at HG
        have HRR : Hid (r = (errL l : Nat) ∧ ¬ errL l = 0) := ⟨by rw [HE2.out]; exact hr, by rw [HE2.out]; exact hz⟩
        clear hr hz HET HEA HE2 HP
        go_wp2_with fail
        refine (HG.out _).mono ?_
        rintro e w8 ⟨rfl, hS8⟩
        go_wp2_with fail
        go_ret2
        exact ⟨(HS.out.alloc _).trans hS8, .inl ⟨HRR.out.2, by rw [← HRR.out.1]; rfl⟩⟩
    · obtain rfl : j = n := by omega
      have HE2 : Hid (errL l = 0) := by
        have h5 := HE.out
        rw [show l.take j = l by rw [HN.out]; exact List.take_length] at h5
        exact h5
      go_wp2_with fail
      refine bodyPost_ret (v := .tuple #[.slice D2 (putsL U l j).length c2, .int .i64 0]) (by simp [results, Try.results85, go_sem]) rfl ?_
      exact ⟨HS.out, .inr ⟨HE2.out, D2, c2, rfl, HOj.out⟩⟩
end Go.Proofs.Ytfemeendkjcffaa
