/-
  instr: a row of instructions, what is wrong with it first, its bytes; PutBody.
-/
import Derived.Test.YtfemeendkjcffaaInsB
import Derived.Test.YtfemeendkjcffaaPv
set_option linter.unusedVariables false
set_option linter.unusedSimpArgs false
namespace Go.Proofs.Ytfemeendkjcffaa
open Go.RowKit

theorem igs_one (l : List Ig) : ∀ u ∈ igs l, u.oneCell' = true := by
  intro u hu
  obtain ⟨f, _, hf⟩ := List.mem_flatMap.1 hu
  simp [Ig.cells, insC] at hf
  rcases hf with rfl | rfl | rfl | rfl <;> rfl
/-- What is wrong with it. -/
def Ig.err (x : Ig) : Nat := rgtF x.op x.a x.b x.n
def Ig.wf (x : Ig) : Prop := x.op < 256 ∧ x.a < 18446744073709551616
def Ig.put (x : Ig) : List UInt8 := putL x.op x.a x.b x.L
theorem igput_len (op a b : Nat) (L : List Nat) (h : L.length ≤ 100) : (putL op a b L).length ≤ 1031 := by
  have h1 := num_len a
  have h2 := num_len b
  have h3 := num_len L.length
  have h4 := labL_len L
  have h5 : (intF (s32 a)).length ≤ 10 := intL_len 10 _
  have h6 : (intF (s64 a)).length ≤ 10 := intL_len 10 _
  rw [putL, List.length_cons, putT]
  repeat' split
  all_goals (try simp only [List.length_append, List.length_cons, List.length_nil])
  all_goals omega
/-- The first error. -/
def errI : List Ig → Nat
  | [] => 0
  | x :: l => if x.err = 0 then errI l else x.err
theorem errI_nil : errI [] = 0 := rfl
theorem errI_cons (x : Ig) (l : List Ig) : errI (x :: l) = if x.err = 0 then errI l else x.err := rfl
theorem errI_snoc (l : List Ig) (x : Ig) : errI (l ++ [x]) = if errI l = 0 then x.err else errI l := by
  induction l with
  | nil =>
    rw [List.nil_append, errI_cons, errI_nil, if_pos rfl]
    by_cases h : x.err = 0
    · rw [if_pos h, h]
    · rw [if_neg h]
  | cons y l ih =>
    rw [List.cons_append, errI_cons, errI_cons]
    by_cases h : y.err = 0
    · simp only [h, if_true]
      exact ih
    · simp only [h, if_false]
theorem errI_take (l : List Ig) (j : Nat) (h : j < l.length) : errI (l.take (j + 1)) = if errI (l.take j) = 0 then l[j].err else errI (l.take j) := by
  rw [List.take_succ_eq_append_getElem h, errI_snoc]
theorem errI_app (l m : List Ig) (h : ¬ errI l = 0) : errI (l ++ m) = errI l := by
  induction l with
  | nil => exact absurd rfl h
  | cons y l ih =>
    rw [List.cons_append, errI_cons, errI_cons]
    rw [errI_cons] at h
    by_cases hy : y.err = 0
    · simp only [hy, if_true] at h ⊢
      exact ih h
    · simp only [hy, if_false]
theorem errI_of_take (l : List Ig) (j : Nat) (h : ¬ errI (l.take j) = 0) : errI l = errI (l.take j) := by
  have := errI_app (l.take j) (l.drop j) h
  rwa [List.take_append_drop] at this
theorem errI_all (l : List Ig) (h : errI l = 0) : ∀ x ∈ l, x.err = 0 := by
  induction l with
  | nil => intro x hx; cases hx
  | cons y l ih =>
    rw [errI_cons] at h
    by_cases hy : y.err = 0
    · rw [if_pos hy] at h
      intro x hx
      rcases List.mem_cons.1 hx with rfl | hx
      · exact hy
      · exact ih h x hx
    · rw [if_neg hy] at h
      exact absurd h hy
def putsI (U : List UInt8) (l : List Ig) (j : Nat) : List UInt8 := U ++ (l.take j).flatMap Ig.put
theorem putsI_zero (U : List UInt8) (l : List Ig) : putsI U l 0 = U := by simp [putsI]
theorem putsI_succ (U : List UInt8) (l : List Ig) (j : Nat) (h : j < l.length) : putsI U l (j + 1) = putsI U l j ++ l[j].put := by
  rw [putsI, List.take_succ_eq_append_getElem h, List.flatMap_append, putsI]
  simp
theorem putsI_all (U : List UInt8) (l : List Ig) : putsI U l l.length = U ++ l.flatMap Ig.put := by rw [putsI, List.take_length]
theorem putsI_len (U : List UInt8) (l : List Ig) (j : Nat) (hj : j ≤ l.length) (hs : ∀ x ∈ l.take j, x.L.length ≤ 100) : (putsI U l j).length ≤ U.length + 1031 * j := by
  induction j with
  | zero => rw [putsI_zero]; omega
  | succ j ih =>
    have hjl : j < l.length := by omega
    rw [putsI_succ U l j hjl, List.length_append]
    rw [List.take_succ_eq_append_getElem hjl] at hs
    have h1 := ih (by omega) (fun x hx => hs x (List.mem_append_left _ hx))
    have h2 := igput_len l[j].op l[j].a l[j].b l[j].L (hs _ (List.mem_append_right _ (by simp)))
    rw [show l[j].put = putL l[j].op l[j].a l[j].b l[j].L from rfl]
    omega

/-- The error of a body. -/
def codF (l : List Ig) : Nat := if shpF l = 0 then errI l else shpF l
theorem shp_or (l : List Ig) : shpF l = 0 ∨ shpF l = 30 := by
  rw [shpF]
  split
  · exact .inl rfl
  · exact .inr rfl

set_option maxRecDepth 100000 in
set_option maxHeartbeats 6400000 in
theorem pbody_bad (w : World) (n c : Nat) (A : Option Addr) (l : List Ig) (S : Nat → Prop) (HN : Hid (n = l.length)) (hnb : n ≤ 1000) (hop : ∀ x ∈ l, x.op < 256) (hr : Reads w S 4 A n (igs l)) (hs : ¬ shpF l = 0) :
    Calls Try.prog 61 #[.slice A n c] w fun e w' => e = .returned (.tuple #[.slice none 0 0, .int .i64 (shpF l : Nat)]) ∧ Step (fun _ => False) w w' := by
  have HG := Lib.hid (shape_walk w n c A l S HN hnb hop hr)
  obtain ⟨r, hr'⟩ : ∃ r : Int, r = (shpF l : Nat) := ⟨_, rfl⟩
  have hne : ¬ r = 0 := by omega
  have hnb2 : (r != 0) = true := bne_iff_ne.2 hne
  rw [← hr'] at HG ⊢
  clear hr' hs hr hop
  go_enter Try.func61, Try.ntmps61
  go_wp2_with fail
  refine HG.out.mono ?_
  rintro e w1 ⟨rfl, hS⟩
  go_wp2_with fail
  go_ret2
  exact ⟨rfl, hS⟩

set_option maxRecDepth 100000 in
set_option maxHeartbeats 6400000 in
theorem pbody_walk (w : World) (n c : Nat) (A : Option Addr) (l : List Ig) (S : Nat → Prop) (HN : Hid (n = l.length)) (hnb : n ≤ 1000) (hwf : ∀ x ∈ l, x.wf) (hsm : ∀ x ∈ l, x.L.length ≤ 100) (hin : ∀ x ∈ l, x.L.length = x.n ∧ (∀ y ∈ x.L, y < 4294967296) ∧ Reads w S 1 x.A x.n (u32s x.L)) (hr : Reads w S 4 A n (igs l)) (hs : shpF l = 0) :
    Calls Try.prog 61 #[.slice A n c] w fun e w' => Step (fun _ => False) w w' ∧ ((¬ errI l = 0 ∧ e = .returned (.tuple #[.slice none 0 0, .int .i64 (errI l : Nat)])) ∨
      (errI l = 0 ∧ ∃ D c', e = .returned (.tuple #[.slice D (putsI [] l n).length c', .int .i64 0]) ∧ w'.ownsRow w.heap.size 5 1 (.slice D (putsI [] l n).length c') (putsI [] l n).length (u8s (putsI [] l n)))) := by
  have HSh := shape_walk w n c A l S HN hnb (fun x hx => (hwf x hx).1) hr
  rw [hs] at HSh
  rw [show (((0 : Nat) : Int)) = 0 from rfl] at HSh
  have HSh := Lib.hid HSh
  have HR2 := Lib.hid hr
  have HWF := Lib.hid hwf
  have HSM := Lib.hid hsm
  have HIN := Lib.hid hin
  clear hr hwf hsm hin hs
  obtain ⟨U, hU⟩ : ∃ U : List UInt8, U = [] := ⟨_, rfl⟩
  have hU0 : U.length = 0 := by rw [hU]; rfl
  have HU := Lib.hid hU
  rw [← hU]
  have HO5 : Hid (∀ w5 : World, w5.ownsRow w.heap.size 5 1 (.slice none (putsI U l 0).length 0) (putsI U l 0).length (u8s (putsI U l 0))) := fun w5 => by
    rw [putsI_zero, hU]; exact World.ownsRow_nil _ _ _ _
  have hz5 : (0 : Nat) = (putsI U l 0).length := by rw [putsI_zero, hU]; rfl
  have HZ5 := Lib.hid hz5
  clear hU hz5
  go_enter Try.func61, Try.ntmps61
  go_wp2_with fail
  refine HSh.out.mono ?_
  rintro e w5 ⟨rfl, hS5⟩
  have HS5 := Lib.hid hS5
  clear hS5
  go_wp2_with fail
  go_loopw [5, 17] (fun ov iv wr => ∃ (j c2 : Nat) (D2 : Option Addr), j ≤ n ∧ ov = .slice D2 (putsI U l j).length c2 ∧ iv = .int .i64 (j : Int) ∧ Hid (errI (l.take j) = 0) ∧ Hid (Step (fun _ => False) w wr) ∧
    Hid (wr.ownsRow w.heap.size 5 1 (.slice D2 (putsI U l j).length c2) (putsI U l j).length (u8s (putsI U l j)))) (fun _ iv _ => n + 1 - (intOf iv).toNat)
  case atStart => exact ⟨0, 0, none, by omega, by rw [← HZ5.out], rfl, rfl, HS5, HO5.out _⟩
  case round =>
    obtain ⟨j, c2, D2, hj, rfl, rfl, HE, HS, HOj⟩ := hrel
    have hpl := putsI_len U l j (by rw [← HN.out]; exact hj) (fun x hx => HSM.out x (List.mem_of_mem_take hx))
    by_cases hlt : j < n
    · have g1 : (j : Int) < (n : Int) := by omega
      have i0 : (0 : Int) ≤ (j : Int) := by omega
      have hw1 := IntWalk.i64_in ((j : Int) + 1) (by omega)
      have hjl : j < l.length := by rw [← HN.out]; exact hlt
      obtain ⟨bk, off, rfl, _, hbl, hc⟩ := reads_row Ig.cells 4 (by decide) Ig.four (HR2.out.step HS.out (fun _ _ => id)) (k := j) hjl
      have hx := HWF.out l[j] (List.getElem_mem hjl)
      have hds := HSM.out l[j] (List.getElem_mem hjl)
      have hin := HIN.out l[j] (List.getElem_mem hjl)
      have HP := Lib.hid (putsI_succ U l j hjl)
      have HET := Lib.hid (errI_take l j hjl)
      have HEA := Lib.hid (errI_of_take l (j + 1))
      obtain ⟨x, hxe⟩ : ∃ x, x = l[j] := ⟨_, rfl⟩
      rw [← hxe] at hx hds hin hc HP HET
      clear hxe
      obtain ⟨op, a, b, m, cc, B, L⟩ := x
      have c0 := hc 0 _ rfl
      have c1 := hc 1 _ rfl
      have c2' := hc 2 _ rfl
      have c3 := hc 3 _ rfl
      simp only [Nat.add_zero] at c0
      obtain ⟨h1, h2⟩ := hx
      simp only [Ig.err, Ig.put] at HP HET
      simp only at h1 h2 hds hin c0 c1 c2' c3
      obtain ⟨hin1, hin2, hin3⟩ := hin
      have HLB := Lib.hid hin2
      subst hin1
      have HRI := Lib.hid hin3
      clear hin2 hin3
      clear hc
      by_cases hz : rgtF op a b L.length = 0
      · have HG := Lib.hid (fun w' (h' : Step (fun _ => False) w w') => iput_all w' op a b cc B L S (HRI.out.step h' (fun _ _ => id)) h1 h2 HLB.out hz)
        have hgl := igput_len op a b L hds
        have HE2 : Hid (errI (l.take (j + 1)) = 0) := by rw [Hid, HET.out, if_pos HE.out]; exact hz
        obtain ⟨V, hV⟩ : ∃ V, V = putL op a b L := ⟨_, rfl⟩
        rw [← hV] at HG hgl HP
        obtain ⟨q, hq⟩ : ∃ q, q = L.length := ⟨_, rfl⟩
        rw [← hq] at HG c3 hds
        simp only [insC] at HG
        clear hV hz HET HEA hq HRI
        go_wp2_with fail
        refine (HG.out _ (HS.out.alloc _)).mono ?_
        rintro e w8 ⟨D8, c8, rfl, hown, hS8⟩
        have HR8 := Lib.hid (Reads.of_own hown)
        have HO8 := Lib.hid (own_step (HOj.out.alloc (.cells #[.int .u8 (op : Int), .int .u64 (a : Int), .int .u64 (b : Int), .slice B q cc] 50)) hS8 (fun _ _ => id))
        have HS8 := Lib.hid ((HS.out.alloc (.cells #[.int .u8 (op : Int), .int .u64 (a : Int), .int .u64 (b : Int), .slice B q cc] 50)).trans hS8)
        clear hS8 hown
        have hone : ∀ u ∈ u8s V, u.oneCell' = true := u8s_one V
        have hm : (putsI U l j).length + V.length ≤ maxLen := by unfold maxLen; omega
        have hsz := HS8.out.size
        go_wp2_with (at_builtin; refine wpList_append_src _ rfl _ _ (by rfl) E_u8 (by rfl) HO8.out (by rfl) HR8.out hone hm (by omega) hsz ?_; intro D9 c9 w9 hown hgrow hat)
        have HS9 := Lib.hid (grow_step HS8.out hgrow HO8.out (Nat.le_refl _))
        have hcs : u8s (putsI U l j) ++ u8s V = u8s (putsI U l (j + 1)) := by rw [HP.out, u8s_append]
        have hln : (putsI U l j).length + V.length = (putsI U l (j + 1)).length := by rw [HP.out, List.length_append]
        rw [hcs, hln] at hown
        rw [hln]
        go_roundw
        case rel => exact ⟨j + 1, c9, D9, by omega, rfl, by rw [Int.natCast_add]; rfl, HE2, HS9, hown⟩
        case measure => simp [intOf]; omega
      · have HG := Lib.hid (fun w => iput_err w op a b L.length cc B h1 hz)
        have HE2 : Hid (errI l = rgtF op a b L.length) := by
          have h5 : errI (l.take (j + 1)) = rgtF op a b L.length := by rw [HET.out, if_pos HE.out]
          rw [Hid, HEA.out (by rw [h5]; exact hz), h5]
        obtain ⟨r, hr⟩ : ∃ r : Int, r = (rgtF op a b L.length : Nat) := ⟨_, rfl⟩
        have hne : ¬ r = 0 := by omega
        have hnb : (r != 0) = true := bne_iff_ne.2 hne
        rw [← hr] at HG
        simp only [insC] at HG
        have HRR : Hid (r = (errI l : Nat) ∧ ¬ errI l = 0) := ⟨by rw [HE2.out]; exact hr, by rw [HE2.out]; exact hz⟩
        clear hr hz HET HEA HE2 HP
        obtain ⟨q, hq⟩ : ∃ q, q = L.length := ⟨_, rfl⟩
        rw [← hq] at HG c3 hds
        clear hq HRI
        go_wp2_with fail
        refine (HG.out _).mono ?_
        rintro e w8 ⟨rfl, hS8⟩
        go_wp2_with fail
        go_ret2
        exact ⟨(HS.out.alloc _).trans hS8, .inl ⟨HRR.out.2, by rw [← HRR.out.1]; rfl⟩⟩
    · obtain rfl : j = n := by omega
      have HE2 : Hid (errI l = 0) := by
        have h5 := HE.out
        rw [show l.take j = l by rw [HN.out]; exact List.take_length] at h5
        exact h5
      go_wp2_with fail
      refine bodyPost_ret (v := .tuple #[.slice D2 (putsI U l j).length c2, .int .i64 0]) (by simp [results, Try.results61, go_sem]) rfl ?_
      exact ⟨HS.out, .inr ⟨HE2.out, D2, c2, rfl, HOj.out⟩⟩
end Go.Proofs.Ytfemeendkjcffaa
