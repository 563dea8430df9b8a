/-
  instr: the law InstrBodies, its walk.
-/
import Derived.Test.YtfemeendkjcffaaInsG
import Derived.Test.YtfemeendkjcffaaInsC
import Derived.Test.YtfemeendkjcffaaInsE
import Derived.Test.YtfemeendkjcffaaLwA
set_option linter.unusedVariables false
set_option linter.unusedSimpArgs false
namespace Go.Proofs.Ytfemeendkjcffaa
open Go.RowKit

/-- The error after j instructions have been looked at. -/
def codT (l : List Ig) (j : Nat) : Nat := if shpF l = 0 then errI (l.take j) else shpF l
theorem codT_zero (l : List Ig) : codT l 0 = shpF l := by
  rw [codT]
  split
  · rename_i h; rw [List.take_zero, errI_nil, h]
  · rfl
theorem codT_succ (l : List Ig) (j : Nat) (h : j < l.length) : codT l (j + 1) = if codT l j = 0 then l[j].err else codT l j := by
  rw [codT, codT]
  by_cases hs : shpF l = 0
  · rw [if_pos hs, if_pos hs, errI_take l j h]
  · rw [if_neg hs, if_neg hs, if_neg hs]
theorem codT_all (l : List Ig) : codT l l.length = codF l := by rw [codT, codF, List.take_length]
theorem codF_zero {l : List Ig} (h : codF l = 0) : shpF l = 0 ∧ errI l = 0 := by
  rw [codF] at h
  split at h
  · rename_i h1; exact ⟨h1, h⟩
  · rename_i h1; exact absurd h h1

set_option maxRecDepth 100000 in
set_option maxHeartbeats 3200000 in
theorem pbody_both (w : World) (n c : Nat) (A : Option Addr) (l : List Ig) (S : Nat → Prop) (HN : Hid (n = l.length)) (hnb : n ≤ 1000) (hwf : ∀ x ∈ l, x.wf) (hsm : ∀ x ∈ l, x.L.length ≤ 100) (hin : ∀ x ∈ l, x.L.length = x.n ∧ (∀ y ∈ x.L, y < 4294967296) ∧ Reads w S 1 x.A x.n (u32s x.L)) (hr : Reads w S 4 A n (igs l)) :
    Calls Try.prog 61 #[.slice A n c] w fun e w' => Step (fun _ => False) w w' ∧ ((¬ codF l = 0 ∧ e = .returned (.tuple #[.slice none 0 0, .int .i64 (codF l : Nat)])) ∨
      (codF l = 0 ∧ ∃ D c', e = .returned (.tuple #[.slice D (putsI [] l n).length c', .int .i64 0]) ∧ w'.ownsRow w.heap.size 5 1 (.slice D (putsI [] l n).length c') (putsI [] l n).length (u8s (putsI [] l n)))) := by
  by_cases hs : shpF l = 0
  · have hc : codF l = errI l := by rw [codF, if_pos hs]
    rw [hc]
    exact pbody_walk w n c A l S HN hnb hwf hsm hin hr hs
  · have hc : codF l = shpF l := by rw [codF, if_neg hs]
    rw [hc]
    refine (pbody_bad w n c A l S HN hnb (fun x hx => (hwf x hx).1) hr hs).mono ?_
    rintro e w' ⟨rfl, hS⟩
    exact ⟨hS, .inl ⟨hs, rfl⟩⟩

set_option maxRecDepth 100000 in
set_option maxHeartbeats 12800000 in
theorem ibods_ok (w : World) (n c cm : Nat) (A B : Option Addr) (l : List Ig) (ms : List UInt8) (S : Nat → Prop) (HN : Hid (n = l.length)) (l1 : n ≤ 60) (l2 : ms.length ≤ 60) (hwf : ∀ x ∈ l, x.wf) (hin : ∀ x ∈ l, x.L.length = x.n ∧ (∀ y ∈ x.L, y < 4294967296) ∧ Reads w S 1 x.A x.n (u32s x.L)) (hr : Reads w S 4 A n (igs l)) (hm : Reads w S 1 B ms.length (u8s ms)) :
    Calls Try.prog 10 #[.slice A n c, .slice B ms.length cm] w fun e w' => e = .returned (.bool true) ∧ Step (fun _ => False) w w' := by
  have g1 : ¬ (60 : Int) < (n : Int) := by omega
  have g2 : ¬ (60 : Int) < (ms.length : Int) := by omega
  have g1' : decide ((60 : Int) < (n : Int)) = false := decide_eq_false g1
  have g2' : decide ((60 : Int) < (ms.length : Int)) = false := decide_eq_false g2
  have HRs : Hid (∀ w', Step (fun _ => False) w w' → Calls Try.prog 60 #[.slice A n c] w' fun e w'' => e = .returned (.int .i64 (shpF l : Nat)) ∧ Step (fun _ => False) w' w'') := fun w' h => rshape_walk w' n c A l S HN (by omega) (hr.step h (fun _ _ => id))
  have HIs : Hid (∀ w', Step (fun _ => False) w w' → Calls Try.prog 62 #[.slice A n c] w' fun e w'' => e = .returned (.int .i64 (shpF l : Nat)) ∧ Step (fun _ => False) w' w'') := fun w' h => shape_walk w' n c A l S HN (by omega) (fun x hx => (hwf x hx).1) (hr.step h (fun _ _ => id))
  have HPA : Hid ((∀ x ∈ l, x.L.length ≤ 100) → ∀ w', Step (fun _ => False) w w' → Calls Try.prog 61 #[.slice A n c] w' fun e w'' => Step (fun _ => False) w' w'' ∧ ((¬ codF l = 0 ∧ e = .returned (.tuple #[.slice none 0 0, .int .i64 (codF l : Nat)])) ∨
      (codF l = 0 ∧ ∃ D c', e = .returned (.tuple #[.slice D (putsI [] l n).length c', .int .i64 0]) ∧ w''.ownsRow w'.heap.size 5 1 (.slice D (putsI [] l n).length c') (putsI [] l n).length (u8s (putsI [] l n))))) := fun hsm w' h =>
    pbody_both w' n c A l S HN (by omega) hwf hsm (fun x hx => ⟨(hin x hx).1, (hin x hx).2.1, (hin x hx).2.2.step h (fun _ _ => id)⟩) (hr.step h (fun _ _ => id))
  have HA : Hid (codF l = 0 → ∀ w' D' c' M, M = putsI [] l n ++ ms → M.length ≤ 1000000 → (∃ S', Reads w' S' 1 D' M.length (u8s M)) → Calls Try.prog 63 #[.slice D' M.length c'] w' fun e w'' => ∃ D3 c3 lb, e = .returned (.tuple #[.slice D3 n c3, .int .i64 ((putsI [] l n).length : Int), .agg #[.int .i64 0, .int .i64 0]]) ∧
      w''.ownsRow w'.heap.size 50 4 (.slice D3 n c3) n (igs lb) ∧ InnI w'' w'.heap.size l lb ∧ Step (fun _ => False) w' w'') := fun h0 w' D' c' M hM hl hq => by
    obtain ⟨S', hq⟩ := hq
    have hpa : putsI [] l n = l.flatMap Ig.put := by rw [HN.out, putsI_all, List.nil_append]
    rw [hpa] at hM ⊢
    exact parsebody_ok w' D' c' M S' hq hl l n HN (by omega) (fun x hx => ⟨hwf x hx, errI_all l (codF_zero h0).2 x hx⟩) (fun x hx => ⟨(hin x hx).1, (hin x hx).2.1⟩) (codF_zero h0).1 ms hM
  have HSx : Hid ((∀ x ∈ l, x.L.length ≤ 100) → ∀ w' lb D3 c3 S3 Bs, Step (fun _ => False) w w' → Reads w' S3 4 D3 n (igs lb) → InnI w' Bs l lb → Calls Try.prog 64 #[.slice D3 n c3, .slice A n c] w' fun e w'' => e = .returned (.bool true) ∧ Step (fun _ => False) w' w'') := fun hsm w' lb D3 c3 S3 Bs ht hq hJ =>
    sameall_ok w' n c3 c D3 A lb l S3 S (fun _ => True) S (by rw [Hid, hJ.1]; exact HN) HN (by omega) hq (hr.step ht (fun _ _ => id)) (fun i y x hy hx => by
      obtain ⟨e1, e2⟩ := hJ.2 i x y hx hy
      have hxl := List.mem_of_getElem? hx
      obtain ⟨i1, i2, i3⟩ := hin x hxl
      have h3 := hsm x hxl
      rw [e1]
      simp only [Ig.back, Alike]
      refine ⟨trivial, trivial, trivial, trivial, i1.symm, i1.symm, by omega, ?_, ?_⟩
      · rw [← i1] at e2
        exact (Reads.of_own e2).mono (fun _ _ _ => trivial)
      · rw [← i1] at i3
        exact i3.step ht (fun _ _ => id))
  have HR := Lib.hid hr
  have HWF := Lib.hid hwf
  have HIN := Lib.hid hin
  have HM := Lib.hid hm
  obtain ⟨U, hU⟩ : ∃ U : List UInt8, U = [] := ⟨_, rfl⟩
  rw [← hU] at HPA HA
  have HU := Lib.hid hU
  have hU0 : U.length = 0 := by rw [hU]; rfl
  have hsU : (⟨#[]⟩ : ByteArray) = str (putsI U l 0) := by rw [putsI_zero, hU]; rfl
  have HsU := Lib.hid hsU
  obtain ⟨sh, hsh⟩ : ∃ sh : Int, sh = (shpF l : Nat) := ⟨_, rfl⟩
  rw [← hsh] at HRs HIs
  have hc0 : sh = ((codT l 0 : Nat) : Int) := by rw [codT_zero, hsh]
  have HC0 := Lib.hid hc0
  have HSh := Lib.hid hsh
  clear hU hsU hr hwf hin hm hsh hc0
  go_enter Try.func10, Try.ntmps10
  go_wp2_with fail
  refine (awake07 _).mono ?_
  rintro e w5 ⟨rfl, hS5⟩
  have HS5 := Lib.hid hS5
  clear hS5
  go_wp2_with fail
  refine (HRs.out _ HS5.out).mono ?_
  rintro e w6 ⟨rfl, hS6⟩
  have HS6 := Lib.hid (HS5.out.trans hS6)
  clear hS6 HS5
  go_wp2_with fail
  go_loopw [6, 7, 8] (fun sv cv iv wr => ∃ (j : Nat) (s : ByteArray), j ≤ n ∧ cv = .int .i64 ((codT l j : Nat) : Int) ∧ sv = .string s ∧ iv = .int .i64 (j : Int) ∧ Hid (codT l j = 0 → s = str (putsI U l j)) ∧ Hid (∀ x ∈ l.take j, x.L.length ≤ 100) ∧ Hid (Step (fun _ => False) w wr)) (fun _ _ iv _ => n + 1 - (intOf iv).toNat)
  case atStart => exact ⟨0, _, by omega, by rw [HC0.out], rfl, rfl, fun _ => HsU.out, (fun x hx => by rw [List.take_zero] at hx; cases hx), HS6⟩
  case round =>
    obtain ⟨j, s, hj, rfl, rfl, rfl, HSt, HSm, HS⟩ := hrel
    have hpl := putsI_len U l j (by rw [← HN.out]; exact hj) HSm.out
    by_cases hlt : j < n
    · have g3 : (j : Int) < (n : Int) := by omega
      have i0 : (0 : Int) ≤ (j : Int) := by omega
      have hw1 := IntWalk.i64_in ((j : Int) + 1) (by omega)
      have hjl : j < l.length := by rw [← HN.out]; exact hlt
      obtain ⟨bk, off, rfl, _, hbl, hc⟩ := reads_row Ig.cells 4 (by decide) Ig.four (HR.out.step HS.out (fun _ _ => id)) (k := j) hjl
      have hx := HWF.out l[j] (List.getElem_mem hjl)
      have HP := Lib.hid (putsI_succ U l j hjl)
      have HET := Lib.hid (codT_succ l j hjl)
      have HSm2 : Hid (l[j].L.length ≤ 100 → ∀ x ∈ l.take (j + 1), x.L.length ≤ 100) := fun h x hx => by
        rw [List.take_succ_eq_append_getElem hjl] at hx
        rcases List.mem_append.1 hx with hx | hx
        · exact HSm.out x hx
        · rw [List.mem_singleton.1 hx]; exact h
      have hin := HIN.out l[j] (List.getElem_mem hjl)
      obtain ⟨x, hxe⟩ : ∃ x, x = l[j] := ⟨_, rfl⟩
      rw [← hxe] at hx hc hin HP HET HSm2
      clear hxe
      obtain ⟨op, a, b, m, cc, B1, L⟩ := x
      have c0 := hc 0 _ rfl
      have c1 := hc 1 _ rfl
      have c2 := hc 2 _ rfl
      have c3 := hc 3 _ rfl
      simp only [Nat.add_zero] at c0
      obtain ⟨h1, h2⟩ := hx
      simp only [Ig.err, Ig.put] at HP HET
      simp only at h1 h2 hin c0 c1 c2 c3 HSm2
      obtain ⟨hin1, hin2, hin3⟩ := hin
      have HRI := Lib.hid hin3
      have HLB := Lib.hid hin2
      have HFM : Hid (m = L.length) := hin1.symm
      clear hc hin1 hin2 hin3
      by_cases hq : (100 : Int) < (m : Int)
      · have hq' : decide ((100 : Int) < (m : Int)) = true := decide_eq_true hq
        go_wp2_with fail
        go_ret
        exact ⟨rfl, HS.out⟩
      have hq' : decide ((100 : Int) < (m : Int)) = false := decide_eq_false hq
      have hds : L.length ≤ 100 := by have := HFM.out; omega
      have HSM := Lib.hid (HSm2.out hds)
      clear HSm2
      by_cases hE : codT l j = 0
      · have hs := HSt.out hE
        subst hs
        have hcv : ((codT l j : Nat) : Int) = 0 := by rw [hE]; rfl
        rw [hcv]
        clear hcv HSt
        have HRt := Lib.hid (fun w => rright_walk w op a b m cc B1 h1)
        by_cases hz : rgtF op a b m = 0
        · have HE2 : Hid (codT l (j + 1) = 0) := by rw [Hid, HET.out, if_pos hE]; exact hz
          rw [hz] at HRt
          have HPt := Lib.hid (fun w' (h' : Step (fun _ => False) w w') => rput_all w' op a b cc B1 L S (by have := HRI.out.step h' (fun _ _ => id); rw [HFM.out] at this; exact this) h1 h2 HLB.out (by rw [← HFM.out]; exact hz))
          rw [← HFM.out] at HPt
          have hgl := igput_len op a b L hds
          obtain ⟨V, hV⟩ : ∃ V, V = putL op a b L := ⟨_, rfl⟩
          rw [← hV] at HPt hgl HP
          simp only [insV] at HPt HRt
          have hz2' := str_size V
          have hz3 := str_size (putsI U l j)
          have hap : str (putsI U l j) ++ str V = str (putsI U l (j + 1)) := by rw [HP.out]; exact str_append _ _
          clear hV hz HET hE HP
          go_wp2_with fail
          refine (HRt.out _).mono ?_
          rintro e w8 ⟨rfl, hS8⟩
          have HS8 := Lib.hid (HS.out.trans hS8)
          have b0 : w8.cell? ⟨bk, off + j * 4, none⟩ = some (.int .u8 (op : Int)) := (hS8.cell hbl id).trans c0
          have b1 : w8.cell? ⟨bk, off + j * 4 + 1, none⟩ = some (.int .u64 (a : Int)) := (hS8.cell hbl id).trans c1
          have b2 : w8.cell? ⟨bk, off + j * 4 + 2, none⟩ = some (.int .u64 (b : Int)) := (hS8.cell hbl id).trans c2
          have b3 : w8.cell? ⟨bk, off + j * 4 + 3, none⟩ = some (.slice B1 m cc) := (hS8.cell hbl id).trans c3
          clear hS8 c0 c1 c2 c3
          go_wp2_with fail
          refine (HPt.out _ HS8.out).mono ?_
          rintro e w9 ⟨rfl, hS9⟩
          have HS9 := Lib.hid (HS8.out.trans hS9)
          clear hS9 b0 b1 b2 b3
          go_wp2_with fail
          go_roundw
          case rel => exact ⟨j + 1, str (putsI U l (j + 1)), by omega, by rw [HE2.out]; rfl, rfl, by rw [Int.natCast_add]; rfl, fun _ => rfl, HSM, HS9⟩
          case measure => simp [intOf]; omega
        · have HE2 : Hid (codT l (j + 1) = rgtF op a b m) := by rw [Hid, HET.out, if_pos hE]
          obtain ⟨r, hr⟩ : ∃ r : Int, r = (rgtF op a b m : Nat) := ⟨_, rfl⟩
          have hne : ¬ r = 0 := by omega
          have hnb : (r == 0) = false := by simp [hne]
          rw [← hr] at HRt
          have HRR : Hid (r = ((codT l (j + 1) : Nat) : Int) ∧ ¬ codT l (j + 1) = 0) := ⟨by rw [HE2.out]; exact hr, by rw [HE2.out]; exact hz⟩
          simp only [insV] at HRt
          clear hr hz HET HE2 HP hE
          go_wp2_with fail
          refine (HRt.out _).mono ?_
          rintro e w8 ⟨rfl, hS8⟩
          have HS8 := Lib.hid (HS.out.trans hS8)
          clear hS8
          go_wp2_with fail
          go_roundw
          case rel => exact ⟨j + 1, _, by omega, by rw [HRR.out.1], rfl, by rw [Int.natCast_add]; rfl, fun h => absurd h HRR.out.2, HSM, HS8⟩
          case measure => simp [intOf]; omega
      · obtain ⟨r, hr⟩ : ∃ r : Int, r = (codT l j : Nat) := ⟨_, rfl⟩
        have hne : ¬ r = 0 := by omega
        have hnb : (r == 0) = false := by simp [hne]
        have HE2 : Hid (codT l (j + 1) = codT l j) := by rw [Hid, HET.out, if_neg hE]
        have HRR : Hid (r = ((codT l (j + 1) : Nat) : Int) ∧ ¬ codT l (j + 1) = 0) := ⟨by rw [HE2.out]; exact hr, by rw [HE2.out]; exact hE⟩
        rw [← hr]
        clear hr HET HE2 HP hE HSt
        go_wp2_with fail
        go_roundw
        case rel => exact ⟨j + 1, _, by omega, by rw [HRR.out.1], rfl, by rw [Int.natCast_add]; rfl, fun h => absurd h HRR.out.2, HSM, HS.out⟩
        case measure => simp [intOf]; omega
    · obtain rfl : j = n := by omega
      have hLt : l.take j = l := by rw [HN.out]; exact List.take_length
      have hCt : codT l j = codF l := by rw [HN.out]; exact codT_all l
      rw [hLt] at HSm
      rw [hCt] at HSt ⊢
      clear hLt HS6 hCt
      obtain ⟨r, hr⟩ : ∃ r : Int, r = (codF l : Nat) := ⟨_, rfl⟩
      rw [← hr] at HPA ⊢
      have HRr := Lib.hid hr
      have hss : (sh != sh) = false := by simp
      have hrr : (r != r) = false := by simp
      clear hr
      go_wp2_with fail
      refine (HPA.out HSm.out _ HS.out).mono ?_
      rintro e w7 ⟨hS7, ⟨hne, rfl⟩ | ⟨h0, D7, c7, rfl, hown⟩⟩
      · have hne2 : ¬ r = 0 := by have := HRr.out; omega
        have hnb2 : (r != 0) = true := bne_iff_ne.2 hne2
        have HS7 := Lib.hid (HS.out.trans hS7)
        clear hne hS7
        go_wp2_with fail
        refine (HIs.out _ HS7.out).mono ?_
        rintro e w8 ⟨rfl, hS8⟩
        go_wp2_with fail
        go_ret
        exact ⟨rfl, HS7.out.trans hS8⟩
      · have hr0 : r = 0 := by have := HRr.out; rw [h0] at this; exact this
        subst hr0
        have hsT := HSt.out h0
        subst hsT
        have hsh0 : sh = 0 := by rw [HSh.out, (codF_zero h0).1]; rfl
        subst hsh0
        have HA := Lib.hid (HA.out h0)
        have HSx := Lib.hid (HSx.out HSm.out)
        obtain ⟨T, hT⟩ : ∃ T, T = putsI U l j := ⟨_, rfl⟩
        rw [← hT] at hown hpl HA ⊢
        have HO7 := Lib.hid hown
        have HS7 := Lib.hid (HS.out.trans hS7)
        clear h0 HPA HSt HS hS7 hown HRr hT HRs HC0 HSh HsU
        go_wp2_with fail
        refine (HIs.out _ HS7.out).mono ?_
        rintro e w8 ⟨rfl, hS8⟩
        have HO8 := Lib.hid (own_step HO7.out hS8 (fun _ _ => id))
        have HS8 := Lib.hid (HS7.out.trans hS8)
        have hTl : T.length ≤ 100000 := by omega
        clear hS8 HO7 HS7 HIs hpl
        have hfr := own_fresh (w := w8) (e := 5) (base := w8.heap.size) 1 (Nat.le_refl _)
        have hrd := (Reads.of_own HO8.out).step (Step.refl.alloc (F := fun _ => False) (w := w8) (.cells #[] 5)) (fun _ _ => id)
        have hone := u8s_one T
        have hm : 0 + T.length ≤ maxLen := by unfold maxLen; omega
        have hone2 := u8s_one ms
        have hm2 : T.length + ms.length ≤ maxLen := by unfold maxLen; omega
        go_wp2_with first
          | (at_builtin; refine wpList_append_src _ rfl _ _ (by rfl) E_u8 (by rfl) hfr (by rfl) hrd hone hm (by omega) (by simp) ?_; intro D9 c9 w9 hown hgrow hat; rw [Nat.zero_add, List.nil_append] at hown; have HO9 := Lib.hid hown; have HS9 := Lib.hid (grow_step (HS8.out.alloc _) hgrow hfr HS8.out.size); have HG9 := Lib.hid hgrow; have HW9 := Lib.hid (grow_step ((Step.refl (F := fun _ => False)).alloc _) hgrow hfr (Nat.le_refl _)); clear hown hgrow hat)
          | (at_builtin; refine wpList_append_src _ rfl _ _ (by rfl) E_u8 (by rfl) HO9.out (by rfl) (HM.out.step HS9.out (fun _ _ => id)) hone2 hm2 (by omega) HW9.out.size ?_; intro D10 c10 w10 hown hgrow hat; have HO10 := Lib.hid hown; have HG10 := Lib.hid hgrow; clear hown hgrow hat)
        have HW10 := Lib.hid (grow_step HW9.out HG10.out HO9.out (Nat.le_refl _))
        have HS10 := Lib.hid (HS8.out.trans HW10.out)
        have HB10 := Lib.hid (own_step HO8.out HW10.out (fun _ _ => id))
        obtain ⟨M, hM⟩ : ∃ M, M = T ++ ms := ⟨_, rfl⟩
        have hMl : T.length + ms.length = M.length := by rw [hM, List.length_append]
        have hrM : ∃ S', Reads w10 S' 1 D10 M.length (u8s M) := by
          have h := Reads.of_own HO10.out
          rw [← u8s_append, ← hM, hMl] at h
          exact ⟨_, h⟩
        have HPa := Lib.hid (HA.out w10 D10 c10 M hM (by omega) hrM)
        have HMl := Lib.hid hMl
        clear hM hrM hMl HO10 HG10 HO9 HG9 HW9 HW10 HS9 HO8 HS8 hfr hrd hone hone2 HA
        rw [HMl.out]
        refine HPa.out.mono ?_
        rintro e w11 ⟨D3, c3, lb, rfl, hown11, hJ11, hS11⟩
        have HV11 := Lib.hid (Blk.new w11 85 #[.int .i64 0, .int .i64 0])
        have HS11 := Lib.hid ((HS10.out.trans hS11).alloc (.cells #[.int .i64 0, .int .i64 0] 85))
        have HB11 := Lib.hid ((own_step HB10.out hS11 (fun _ _ => id)).alloc (.cells #[.int .i64 0, .int .i64 0] 85))
        have HL11 := Lib.hid (hown11.alloc (.cells #[.int .i64 0, .int .i64 0] 85))
        have HJ11 : Hid (InnI (w11.alloc (.cells #[.int .i64 0, .int .i64 0] 85)) w10.heap.size l lb) := hJ11.turn (fun D m c xs h => h.alloc _)
        clear hS11 hown11 hJ11 HPa HB10 HS10
        have hcv : (convert 53 9 (.slice D7 T.length c7)).run Try.prog (w11.alloc (.cells #[.int .i64 0, .int .i64 0] 85)) = .ok (.string (str T)) (w11.alloc (.cells #[.int .i64 0, .int .i64 0] 85)) := conv_bytes (c := c7) (Reads.of_own HB11.out)
        have hE : ((str T).toList == (str T).toList) = true := beq_self_eq_true _
        have hE2 : ((T.length : Int) == (T.length : Int)) = true := beq_self_eq_true _
        clear HV11
        go_wp2_with fail
        refine (HSx.out _ lb D3 c3 _ _ HS11.out (Reads.of_own HL11.out) HJ11.out).mono ?_
        rintro e we ⟨rfl, hSe⟩
        go_wp2_with fail
        go_ret
        exact ⟨rfl, HS11.out.trans hSe⟩
end Go.Proofs.Ytfemeendkjcffaa
