/-
  region: the law RegionPlays (printed by gen_rgu.py).
-/
import Derived.Test.YtjpjobpkeejmcaaRgU
import Derived.Deep.DeepCutAuto
import Derived.Deep.CutBlock
set_option linter.unusedVariables false
set_option linter.unusedSimpArgs false
namespace Go.Proofs.Ytjpjobpkeejmcaa
open Go.RowKit

set_option maxRecDepth 100000 in
set_option maxHeartbeats 25600000 in
theorem plays_walk (w : World) (t0 t1 : Int) (A : Option Addr) (n c : Nat) (l : List Po) (hN : n = l.length) (hr : Reads w (fun k => k < w.heap.size) 4 A n (pos l)) (hnb : n ≤ 9223372036854775807) (hal20 : ∀ o ∈ l, o.al < 4294967296) (hN64 : ∀ o ∈ l, o.n ≤ 9223372036854775807) :
    Calls Try.prog 5 #[.agg #[.int .i64 t0, .int .i64 t1], .slice A n c] w fun e w' => e = .returned (.bool true) ∧ Step (fun _ => False) w w' := by
  have HR := Lib.hid hr
  have HN := Lib.hid hN
  have HAL := Lib.hid hal20
  have HN64 := Lib.hid hN64
  have HB0 := Lib.hid (Blk.new w 39 #[.int .i64 t0, .int .i64 t1])
  have HAW := Lib.hid (fun w' => awake34 w')
  clear hr hN hal20 hN64
  obtain ⟨H, hH⟩ : ∃ H, H = w.heap.size := ⟨_, rfl⟩
  rw [← hH] at HB0
  have HH := Lib.hid hH
  clear hH
  go_enter Try.func5, Try.ntmps5
  go_wp2_with fail
  refine (HAW.out _).mono ?_
  rintro e w5 ⟨rfl, hS5⟩
  have HS5 := Lib.hid ((Step.refl.alloc (F := fun _ => False) (w := w) (.cells #[.int .i64 t0, .int .i64 t1] 39)).trans hS5)
  have HB5 := Lib.hid (HB0.out.step hS5 id)
  rw [← HH.out]
  clear hS5 HAW HB0 HH
  have y0 := HB5.out.cell 0
  have y1 := HB5.out.cell 1
  simp at y0 y1
  have HFw := Lib.hid (few_walk w5 t0 t1 A n c l _ HN.out (HR.out.step HS5.out (fun _ _ => id)) hnb)
  go_wp2_with fail
  refine HFw.out.mono ?_
  rintro e w6 ⟨b, rfl, hb, hS6⟩
  have HS6 := Lib.hid (HS5.out.trans hS6)
  have HB6 := Lib.hid (HB5.out.step hS6 id)
  have HBB := Lib.hid hb
  clear hS6 HFw hb HS5 HB5 y0 y1
  cases b with
  | false =>
    go_wp2_with fail
    go_ret
    exact ⟨rfl, HS6.out⟩
  | true =>
  obtain ⟨f1, f2, f3, f4⟩ := HBB.out rfl
  have hn40 : n ≤ 40 := by rw [HN.out]; exact f1
  clear HBB f1 f2 f3 f4
  have y0 := HB6.out.cell 0
  have y1 := HB6.out.cell 1
  simp at y0 y1
  go_wp2_with fail
  go_quiet (fail)
  have HS6q := Lib.hid (HS6.out.drewN nq)
  obtain ⟨V, hV⟩ : ∃ V, V = w6.drewN nq := ⟨_, rfl⟩
  rw [← hV] at HS6q ⊢
  clear hV HS6 HB6 y0 y1
  by_cases z1 : t0 < 0
  · have z1' : decide (t0 < 0) = true := decide_eq_true z1
    have HE := Lib.hid (rnew_err V t0 t1 (by omega))
    go_wp2_with fail
    refine HE.out.mono ?_
    rintro e w7 ⟨rfl, rfl⟩
    go_wp2_with fail
    go_ret
    exact ⟨rfl, HS6q.out⟩
  have z1' : decide (t0 < 0) = false := decide_eq_false z1
  by_cases z2 : t1 < t0
  · have z2' : decide (t1 < t0) = true := decide_eq_true z2
    have HE := Lib.hid (rnew_err V t0 t1 (by omega))
    go_wp2_with fail
    refine HE.out.mono ?_
    rintro e w7 ⟨rfl, rfl⟩
    go_wp2_with fail
    go_ret
    exact ⟨rfl, HS6q.out⟩
  have z2' : decide (t1 < t0) = false := decide_eq_false z2
  by_cases z3 : 1073741824 < t1
  · have z3' : decide (1073741824 < t1) = true := decide_eq_true z3
    have HE := Lib.hid (rnew_err V t0 t1 (by omega))
    go_wp2_with fail
    refine HE.out.mono ?_
    rintro e w7 ⟨rfl, rfl⟩
    go_wp2_with fail
    go_ret
    exact ⟨rfl, HS6q.out⟩
  have z3' : decide (1073741824 < t1) = false := decide_eq_false z3
  obtain ⟨fm, rfl⟩ : ∃ fm : Nat, t0 = fm := ⟨t0.toNat, by omega⟩
  obtain ⟨sz, rfl⟩ : ∃ sz : Nat, t1 = sz := ⟨t1.toNat, by omega⟩
  have hfs : fm ≤ sz := by omega
  have hz : sz ≤ 1073741824 := by omega
  have HNW := Lib.hid (rnew_ok V w.heap.size fm sz hfs hz HS6q.out.size)
  go_wp2_with fail
  refine HNW.out.mono ?_
  rintro e w7 ⟨X0, rfl, hrm, hS7, hX7⟩
  have hS67 := HS6q.out.trans hS7
  have HP0 : Hid (Ply w w7 X0 0 0 0 none none fm sz 0 []) := ⟨rfl, by have := HS6q.out.size; omega, hrm, World.ownsRow_nil _ _ _ _, trivial, Nat.le_refl _, hS67⟩
  have HF0 := Lib.hid (rfrom_walk w7 X0 none 0 fm sz w.heap.size [] hrm)
  have HZ0 := Lib.hid (rsize_walk w7 X0 none 0 fm sz w.heap.size [] hrm)
  have n1 : ((fm : Int) != (fm : Int)) = false := by simp
  have n2 : ((sz : Int) != (sz : Int)) = false := by simp
  clear hrm hS7 hX7 HNW HS6q hS67
  go_wp2_with fail
  refine HF0.out.mono ?_
  rintro e w8 ⟨rfl, rfl⟩
  go_wp2_with fail
  refine HZ0.out.mono ?_
  rintro e w9 ⟨rfl, rfl⟩
  clear HF0 HZ0 z1 z1' z2 z2' z3 z3'
  go_wp2_with fail
  go_loopw [7, 9, 10] (fun rv av iv wr => ∃ (j X m cr cw : Nat) (Ar Aw : Option Addr) (ps : List Pc), j ≤ n ∧ rv = .pointer (some ⟨X, 0, none⟩) ∧ av = .slice Aw m cw ∧ iv = .int .i64 (j : Int) ∧ Hid (Ply w wr X m cr cw Ar Aw fm sz j ps)) (fun _ _ iv _ => n + 1 - (intOf iv).toNat)
  case atStart => exact ⟨0, X0, 0, 0, 0, none, none, [], by omega, rfl, rfl, rfl, HP0⟩
  case round =>
    obtain ⟨j, X, m, cr, cw, Ar, Aw, ps, hj, rfl, rfl, rfl, HPj⟩ := hrel
    clear HP0
    by_cases hlt : j < n
    · have g1 : (j : Int) < (n : Int) := by omega
      have i0 : (0 : Int) ≤ (j : Int) := by omega
      have hwj := IntWalk.i64_in ((j : Int) + 1) (by omega)
      have hjl : j < l.length := by rw [← HN.out]; exact hlt
      obtain ⟨bk, off, rfl, _, hbl, hc⟩ := reads_row Po.cells 4 (by decide) Po.four (HR.out.step HPj.out.st (fun _ _ => id)) (k := j) hjl
      have hpa := HAL.out l[j] (List.getElem_mem hjl)
      have hpn := HN64.out l[j] (List.getElem_mem hjl)
      generalize l[j] = p at hc hpa hpn
      obtain ⟨pk, pn, pow, pal⟩ := p
      have c0 := hc 0 _ rfl
      have c1 := hc 1 _ rfl
      have c2 := hc 2 _ rfl
      have c3 := hc 3 _ rfl
      simp only [Nat.add_zero] at c0 c1 c2 c3 hpa hpn
      clear hc
      have HBx : Hid (Blk (wr.alloc (.cells #[.int .i64 pk, .int .i64 pn, .int .i64 pow, .int .u32 (pal : Int)] 42)) wr.heap.size 42 #[.int .i64 pk, .int .i64 pn, .int .i64 pow, .int .u32 (pal : Int)]) := Blk.new wr _ _
      have HPV : Hid (Ply w (wr.alloc (.cells #[.int .i64 pk, .int .i64 pn, .int .i64 pow, .int .u32 (pal : Int)] 42)) X m cr cw Ar Aw fm sz j ps) := HPj.out.quiet (Step.refl.alloc _)
      obtain ⟨V, hV⟩ : ∃ V, V = wr.alloc (.cells #[.int .i64 pk, .int .i64 pn, .int .i64 pow, .int .u32 (pal : Int)] 42) := ⟨_, rfl⟩
      rw [← hV] at HBx HPV
      have HV := Lib.hid hV
      have v0 := HBx.out.cell 0
      have v1 := HBx.out.cell 1
      have v2 := HBx.out.cell 2
      have v3 := HBx.out.cell 3
      simp at v0 v1 v2 v3
      have w3 : IntKind.i64.wrap (pal : Int) = (pal : Int) := IntWalk.i64_in _ (by omega)
      clear hV
      go_upto_block 2 with fail
      rw [← HV.out]
      go_cut [7, 9] (fun rv av wq => ∃ (X2 m2 cr2 cw2 : Nat) (Ar2 Aw2 : Option Addr) (ps2 : List Pc), rv = .pointer (some ⟨X2, 0, none⟩) ∧ av = .slice Aw2 m2 cw2 ∧ Hid (Ply w wq X2 m2 cr2 cw2 Ar2 Aw2 fm sz (j + 1) ps2) ∧ Hid (Blk wq wr.heap.size 42 #[.int .i64 pk, .int .i64 pn, .int .i64 pow, .int .u32 (pal : Int)]))
      case first =>
        as_aux_lemma =>
          have hXw := HPj.out.ge
          by_cases h0 : pk = 0
          · subst h0
            by_cases hb1 : pn < 0
            · have hb1' : decide (0 ≤ pn) = false := decide_eq_false (by omega)
              go_wp2_with fail
              go_quiet (fail)
              have HPU := Lib.hid (HPV.out.quiet (Step.refl.drewN nq))
              have HBU := Lib.hid (HBx.out.drewN nq)
              clear HPV HBx v0 v1 v2 v3 c0 c1 c2 c3
              obtain ⟨Q, hQ⟩ : ∃ Q, Q = V.drewN nq := ⟨_, rfl⟩
              rw [← hQ] at HPU HBU ⊢
              clear hQ HV
              have v1 := HBU.out.cell 1
              have v2 := HBU.out.cell 2
              have v3 := HBU.out.cell 3
              simp at v1 v2 v3
              have HFd := Lib.hid (find_bad Q X pn pal (by omega))
              have HTk := Lib.hid (take_bad Q X pn pal pow (by omega))
              go_wp2_with fail
              refine HFd.out.mono ?_
              rintro e wq ⟨rfl, rfl⟩
              go_wp2_with fail
              refine HTk.out.mono ?_
              rintro e wq2 ⟨rfl, rfl⟩
              clear HFd HTk
              have HP : Hid (Ply w wq2 X m cr cw Ar Aw fm sz (j + 1) ps) := ⟨HPU.out.len, HPU.out.ge, HPU.out.rm, HPU.out.own, HPU.out.sn, Nat.le_succ_of_le HPU.out.le, HPU.out.st⟩
              have HB := HBU
              clear HPU HBU HPj v1 v2 v3
              go_wp2_with fail
              go_meet
              exact ⟨X, m, cr, cw, Ar, Aw, ps, rfl, rfl, HP, HB⟩
            · by_cases hb2 : 20 < pal
              · have hb1' : decide (0 ≤ pn) = true := decide_eq_true (by omega)
                have hb2' : decide ((pal : Int) ≤ 20) = false := decide_eq_false (by omega)
                have hb2n : decide (pal ≤ 20) = false := decide_eq_false (by omega)
                go_wp2_with fail
                go_quiet (fail)
                have HPU := Lib.hid (HPV.out.quiet (Step.refl.drewN nq))
                have HBU := Lib.hid (HBx.out.drewN nq)
                clear HPV HBx v0 v1 v2 v3 c0 c1 c2 c3
                obtain ⟨Q, hQ⟩ : ∃ Q, Q = V.drewN nq := ⟨_, rfl⟩
                rw [← hQ] at HPU HBU ⊢
                clear hQ HV
                have v1 := HBU.out.cell 1
                have v2 := HBU.out.cell 2
                have v3 := HBU.out.cell 3
                simp at v1 v2 v3
                have HFd := Lib.hid (find_bad Q X pn pal (by omega))
                have HTk := Lib.hid (take_bad Q X pn pal pow (by omega))
                go_wp2_with fail
                refine HFd.out.mono ?_
                rintro e wq ⟨rfl, rfl⟩
                go_wp2_with fail
                refine HTk.out.mono ?_
                rintro e wq2 ⟨rfl, rfl⟩
                clear HFd HTk
                have HP : Hid (Ply w wq2 X m cr cw Ar Aw fm sz (j + 1) ps) := ⟨HPU.out.len, HPU.out.ge, HPU.out.rm, HPU.out.own, HPU.out.sn, Nat.le_succ_of_le HPU.out.le, HPU.out.st⟩
                have HB := HBU
                clear HPU HBU HPj v1 v2 v3
                go_wp2_with fail
                go_meet
                exact ⟨X, m, cr, cw, Ar, Aw, ps, rfl, rfl, HP, HB⟩
              · have e1 : 0 ≤ pn := by omega
                have e1' : decide (0 ≤ pn) = true := decide_eq_true e1
                have e2 : pal ≤ 20 := by omega
                have e2' : decide ((pal : Int) ≤ 20) = true := decide_eq_true (by omega)
                have e2n : decide (pal ≤ 20) = true := decide_eq_true e2
                go_wp2_with fail
                go_quiet (fail)
                have HPU := Lib.hid (HPV.out.quiet (Step.refl.drewN nq))
                have HBU := Lib.hid (HBx.out.drewN nq)
                clear HPV HBx v0 v1 v2 v3 c0 c1 c2 c3 HPj
                obtain ⟨Q, hQ⟩ : ∃ Q, Q = V.drewN nq := ⟨_, rfl⟩
                rw [← hQ] at HPU HBU ⊢
                clear hQ HV e1'
                obtain ⟨nn, rfl⟩ : ∃ nn : Nat, pn = nn := ⟨pn.toNat, by omega⟩
                have hpn2 : nn ≤ 9223372036854775807 := by omega
                have v1 := HBU.out.cell 1
                have v2 := HBU.out.cell 2
                have v3 := HBU.out.cell 3
                simp at v1 v2 v3
                have hmm := HPU.out.le
                have hpl : ps.length ≤ 41 := by rw [← HPU.out.len]; omega
                have HRF := rfind_walk Q Aw cw m fm sz nn pal ps _ HPU.out.len (Reads.of_own HPU.out.own) HPU.out.sn (by omega) hfs hz hpn2 e2
                have HFD : Hid (∀ w', Step (fun _ => False) Q w' → Calls Try.prog 20 #[.pointer (some ⟨X, 0, none⟩), .int .i64 (nn : Int), .int .u32 (pal : Int)] w' fun e w'' => e = .returned (.tuple #[.int .i64 ((findF fm sz nn pal ps).1 : Int), .bool (findF fm sz nn pal ps).2]) ∧ Step (fun _ => False) w' w'') := fun w' hs =>
                  find_walk w' X Ar cr fm sz w.heap.size ps (HPU.out.rm.quiet hs) hfs hz (fun p hp => (HPU.out.lens hz p hp).1) (by omega) nn pal hpn2 e2
                have HTK : Hid (∀ w', Step (fun _ => False) Q w' → Calls Try.prog 8 #[.pointer (some ⟨X, 0, none⟩), .int .i64 (nn : Int), .int .u32 (pal : Int), .int .i64 pow] w' fun e w'' => e = .returned (.tuple #[.int .i64 ((takeF fm sz nn pal pow ps).1.1 : Int), .int .i64 ((takeF fm sz nn pal pow ps).1.2 : Int)]) ∧
                      ∃ A' c', Rm w'' X A' c' fm sz w.heap.size (takeF fm sz nn pal pow ps).2 ∧ Step (fun k => k = X ∨ blkOf Ar = some k) w' w'' ∧ Mv w' Ar A') := fun w' hs =>
                  take_walk w' X Ar cr fm sz w.heap.size ps (HPU.out.rm.quiet hs) (Nat.le_trans HPU.out.st.size hs.size) hfs hz (fun p hp => (HPU.out.lens hz p hp).1) (by omega) nn pal pow hpn2 e2
                have HTS := Lib.hid (take_snd fm sz nn pal pow ps HPU.out.sn)
                cases hf : (findF fm sz nn pal ps).2 with
                | false =>
                  have hrf : refF fm sz nn pal ps = -1 := by rw [refF, if_neg (by rw [hf]; decide)]
                  have htf : takeF fm sz nn pal pow ps = ((0, 44), ps) := by rw [takeF, if_neg (by rw [hf]; decide)]
                  rw [hrf] at HRF
                  rw [htf] at HTK
                  rw [hf] at HFD
                  have HRF := Lib.hid HRF
                  generalize (findF fm sz nn pal ps).1 = a at HFD
                  clear hf hrf htf HTS
                  go_wp2_with fail
                  refine HRF.out.mono ?_
                  rintro e q1 ⟨rfl, hs1⟩
                  have HPU1 := Lib.hid (HPU.out.quiet hs1)
                  have HBU1 := Lib.hid (HBU.out.step hs1 id)
                  have HFD1 := Lib.hid (HFD.out q1 hs1)
                  have HS1 := Lib.hid hs1
                  have x1 := HBU1.out.cell 1
                  have x2 := HBU1.out.cell 2
                  have x3 := HBU1.out.cell 3
                  simp at x1 x2 x3
                  clear hs1 HRF v1 v2 v3
                  go_wp2_with fail
                  refine HFD1.out.mono ?_
                  rintro e q2 ⟨rfl, hs2⟩
                  have HPU2 := Lib.hid (HPU1.out.quiet hs2)
                  have HBU2 := Lib.hid (HBU1.out.step hs2 id)
                  have HTK2 := Lib.hid (HTK.out q2 (HS1.out.trans hs2))
                  have v1 := HBU2.out.cell 1
                  have v2 := HBU2.out.cell 2
                  have v3 := HBU2.out.cell 3
                  simp at v1 v2 v3
                  clear hs2 HFD HFD1 HTK x1 x2 x3 HPU1 HBU1 HS1
                  simp only
                  go_wp2_with fail
                  refine HTK2.out.mono ?_
                  rintro e q3 ⟨rfl, A', c', hrm, hst, _⟩
                  obtain ⟨how, hsw⟩ := HPU2.out.far hst
                  have HP : Hid (Ply w q3 X m c' cw A' Aw fm sz (j + 1) ps) := ⟨HPU2.out.len, HPU2.out.ge, hrm, how, HPU2.out.sn, by omega, hsw⟩
                  have HB := Lib.hid (box_turn HBU2.out HPU2.out.rm hst)
                  have v1 := HB.out.cell 1
                  simp at v1
                  clear hrm hst how hsw HTK2 HPU2 HBU2 HPU HBU
                  simp only
                  go_wp2_with fail
                  go_meet
                  exact ⟨X, m, c', cw, A', Aw, ps, rfl, rfl, HP, HB⟩
                | true =>
                  have hrf : refF fm sz nn pal ps = ((findF fm sz nn pal ps).1 : Int) := by rw [refF, if_pos hf]
                  have htf : takeF fm sz nn pal pow ps = (((findF fm sz nn pal ps).1, 0), if nn = 0 then ps else addP ⟨(findF fm sz nn pal ps).1, nn, pow⟩ ps) := by rw [takeF, if_pos hf]
                  rw [hrf] at HRF
                  rw [htf] at HTK HTS
                  rw [hf] at HFD
                  have HRF := Lib.hid HRF
                  clear hf hrf htf
                  generalize (findF fm sz nn pal ps).1 = a at HFD HRF HTK HTS
                  have d1 : (0 : Int) ≤ (a : Int) := by omega
                  have d1' : decide ((0 : Int) ≤ (a : Int)) = true := decide_eq_true d1
                  have d2 : ¬ (a : Int) < 0 := by omega
                  have d2' : decide ((a : Int) < 0) = false := decide_eq_false d2
                  have n3 : ((a : Int) == (a : Int)) = true := beq_self_eq_true _
                  have n4 : ((a : Int) != (a : Int)) = false := by simp
                  go_wp2_with fail
                  refine HRF.out.mono ?_
                  rintro e q1 ⟨rfl, hs1⟩
                  have HPU1 := Lib.hid (HPU.out.quiet hs1)
                  have HBU1 := Lib.hid (HBU.out.step hs1 id)
                  have HFD1 := Lib.hid (HFD.out q1 hs1)
                  have HS1 := Lib.hid hs1
                  have x1 := HBU1.out.cell 1
                  have x2 := HBU1.out.cell 2
                  have x3 := HBU1.out.cell 3
                  simp at x1 x2 x3
                  clear hs1 HRF v1 v2 v3
                  go_wp2_with fail
                  refine HFD1.out.mono ?_
                  rintro e q2 ⟨rfl, hs2⟩
                  have HPU2 := Lib.hid (HPU1.out.quiet hs2)
                  have HBU2 := Lib.hid (HBU1.out.step hs2 id)
                  have HTK2 := HTK.out q2 (HS1.out.trans hs2)
                  have v1 := HBU2.out.cell 1
                  have v2 := HBU2.out.cell 2
                  have v3 := HBU2.out.cell 3
                  simp at v1 v2 v3
                  clear hs2 HFD HFD1 HTK x1 x2 x3 HPU1 HBU1 HS1
                  simp only
                  by_cases hn0 : nn = 0
                  · rw [if_pos hn0] at HTK2
                    have HTK2 := Lib.hid HTK2
                    have d3 : ¬ (0 : Int) < (nn : Int) := by omega
                    have d3' : decide ((0 : Int) < (nn : Int)) = false := decide_eq_false d3
                    have d3n : decide (0 < nn) = false := decide_eq_false (by omega)
                    clear hn0
                    go_wp2_with fail
                    refine HTK2.out.mono ?_
                    rintro e q3 ⟨rfl, A', c', hrm, hst, _⟩
                    obtain ⟨how, hsw⟩ := HPU2.out.far hst
                    have HP : Hid (Ply w q3 X m c' cw A' Aw fm sz (j + 1) ps) := ⟨HPU2.out.len, HPU2.out.ge, hrm, how, HPU2.out.sn, by omega, hsw⟩
                    have HB := Lib.hid (box_turn HBU2.out HPU2.out.rm hst)
                    clear hrm hst how hsw HTK2 HPU2 HBU2 HPU HBU HTS v1 v2 v3
                    have v1 := HB.out.cell 1
                    simp at v1
                    simp only
                    go_wp2_with fail
                    go_meet
                    exact ⟨X, m, c', cw, A', Aw, ps, rfl, rfl, HP, HB⟩
                  · rw [if_neg hn0] at HTK2 HTS
                    have HTK2 := Lib.hid HTK2
                    have d3 : (0 : Int) < (nn : Int) := by omega
                    have d3' : decide ((0 : Int) < (nn : Int)) = true := decide_eq_true d3
                    have d3n : decide (0 < nn) = true := decide_eq_true (by omega)
                    clear hn0
                    go_wp2_with fail
                    refine HTK2.out.mono ?_
                    rintro e q3 ⟨rfl, A', c', hrm, hst, _⟩
                    obtain ⟨how, hsw⟩ := HPU2.out.far hst
                    have HB3 := Lib.hid (box_turn HBU2.out HPU2.out.rm hst)
                    have HAD := Lib.hid (radd_walk q3 Aw m cw a nn pow ps _ HPU2.out.len (Reads.of_own how) (by omega) (own_cap how))
                    have HRM3 := Lib.hid hrm
                    have HSW := Lib.hid hsw
                    clear hrm hst how hsw HTK2 HPU HBU v1 v2 v3
                    have v1 := HB3.out.cell 1
                    have v2 := HB3.out.cell 2
                    simp at v1 v2
                    simp only
                    go_wp2_with fail
                    refine HAD.out.mono ?_
                    rintro e q4 ⟨D', k', rfl, hown4, hs4⟩
                    have HP : Hid (Ply w q4 X (m + 1) c' k' A' D' fm sz (j + 1) (addP ⟨a, nn, pow⟩ ps)) := ⟨by rw [addP_len, HPU2.out.len], HPU2.out.ge, HRM3.out.quiet hs4, own_base hown4 (fun k hk => Nat.le_trans HSW.out.size (own_ge hown4 k hk)), HTS.out, by omega, HSW.out.trans hs4⟩
                    have HB := Lib.hid (HB3.out.step hs4 id)
                    clear HRM3 HSW HAD HTS hown4 hs4 HPU2 HBU2 HB3 v1 v2
                    obtain ⟨pz, hpz⟩ : ∃ pz, pz = addP ⟨a, nn, pow⟩ ps := ⟨_, rfl⟩
                    rw [← hpz] at HP
                    obtain ⟨mz, hmz⟩ : ∃ mz, mz = m + 1 := ⟨_, rfl⟩
                    rw [← hmz] at HP ⊢
                    clear hpz hmz
                    go_wp2_with fail
                    go_meet
                    exact ⟨X, mz, c', k', A', D', pz, rfl, rfl, HP, HB⟩
          · have k0 : (pk == 0) = false := by simpa using h0
            by_cases h1 : pk = 1
            · subst h1
              have HLs := rless_walk V Aw m cw ps _ pow HPV.out.len (Reads.of_own HPV.out.own) (by have := HPV.out.le; omega) (fun p hp => (HPV.out.lens hz p hp).2)
              obtain ⟨lz, hlz⟩ : ∃ lz, lz = (less pow ps).length := ⟨_, rfl⟩
              rw [← hlz] at HLs
              have HLs := Lib.hid HLs
              have HLZ := Lib.hid hlz
              obtain ⟨sq, hsq⟩ : ∃ sq, sq = sumP (mine pow ps) := ⟨_, rfl⟩
              have HSQ := Lib.hid hsq
              have nsq : ((sq : Int) != (sq : Int)) = false := by simp
              clear hlz hsq
              go_wp2_with fail
              refine HLs.out.mono ?_
              rintro e q1 ⟨D', k', rfl, hown1, hs1⟩
              rw [← HSQ.out]
              have HPU := Lib.hid (HPV.out.quiet hs1)
              have HBU := Lib.hid (HBx.out.step hs1 id)
              have HO1 := Lib.hid hown1
              have HS1 := Lib.hid hs1
              have HGv := give_walk q1 X Ar cr fm sz w.heap.size ps HPU.out.rm (by rw [← HPU.out.len]; have := HPU.out.le; omega) (fun p hp => (HPU.out.lens hz p hp).2) pow
              rw [← HSQ.out] at HGv
              have HGv := Lib.hid HGv
              clear hown1 hs1 HLs HSQ v0 v1 v2 v3 c0 c1 c2 c3
              have v2 := HBU.out.cell 2
              simp at v2
              go_wp2_with fail
              refine HGv.out.mono ?_
              rintro e q2 ⟨rfl, hrm, hst⟩
              obtain ⟨_, hsw⟩ := HPU.out.far hst
              have hge1 : ∀ k, Value.ownBlock (.slice D' lz k') = some k → V.heap.size ≤ k := fun k hk => own_ge HO1.out k hk
              have ho2 : q2.ownsRow w.heap.size 54 3 (.slice D' lz k') lz (pcs (less pow ps)) := own_base (own_step HO1.out hst (fun k hk e => by
                rcases e with rfl | e
                · exact own_tag HO1.out HPU.out.rm.blk (by decide) hk
                · exact own_tag2 HO1.out HPU.out.rm.own (by decide) k hk (by rw [ownBlock_slice]; exact e))) (fun k hk => Nat.le_trans HPV.out.st.size (hge1 k hk))
              have HP : Hid (Ply w q2 X lz cr k' Ar D' fm sz (j + 1) (less pow ps)) := ⟨HLZ.out, HPU.out.ge, hrm, ho2, less_snd sz pow ps fm fm (Nat.le_refl _) HPU.out.sn, by have h1 := less_len pow ps; have h2 := HPU.out.le; have h3 := HPU.out.len; have h4 := HLZ.out; omega, hsw⟩
              have HB := Lib.hid (box_turn HBU.out HPU.out.rm hst)
              clear hrm hst hsw hge1 ho2 HO1 HS1 HPU HBU HPV HBx HPj HGv HLZ v2 HV
              obtain ⟨pz, hpz⟩ : ∃ pz, pz = less pow ps := ⟨_, rfl⟩
              rw [← hpz] at HP
              clear hpz
              go_wp2_with fail
              go_meet
              exact ⟨X, lz, cr, k', Ar, D', pz, rfl, rfl, HP, HB⟩
            · have k1 : (pk == 1) = false := by simpa using h1
              by_cases h2 : pk = 2
              · subst h2
                have hmm := HPV.out.le
                have hpl : ps.length ≤ 41 := by rw [← HPV.out.len]; omega
                have HC := Lib.hid (rclone_walk V X Ar cr fm sz w.heap.size ps HPV.out.rm (by omega) HPV.out.st.size)
                go_wp2_with fail
                refine HC.out.mono ?_
                rintro e q1 ⟨X2, A2, k2, rfl, hrm2, hX2, hA2, hs1⟩
                have HP1 := Lib.hid (HPV.out.quiet hs1)
                have HB1 := Lib.hid (HBx.out.step hs1 id)
                have HSm := Lib.hid (rsame_yes q1 X2 X A2 Ar k2 cr fm sz _ _ ps hrm2 HP1.out.rm (by omega))
                have HM2 := Lib.hid hrm2
                have hX2n : X < X2 := by have := HPV.out.rm.lt; omega
                have HA2n : Hid (∀ k, blkOf A2 = some k → k ≠ X ∧ blkOf Ar ≠ some k) := fun k hk => ⟨by have := hA2 k hk; have := HPV.out.rm.lt; omega, fun e => by have := hA2 k hk; have := HPV.out.rm.lt2 k e; omega⟩
                have hX2w : w.heap.size ≤ X2 := by have := HPV.out.st.size; omega
                have HX2A : Hid (blkOf Ar ≠ some X2) := fun e => by have := HPV.out.rm.lt2 X2 e; omega
                clear hrm2 hX2 hA2 hs1 HC HPV HBx HPj v0 v1 v2 v3 c0 c1 c2 c3 HV
                go_wp2_with fail
                refine HSm.out.mono ?_
                rintro e q2 ⟨rfl, hs2⟩
                have HP2 := Lib.hid (HP1.out.quiet hs2)
                have HB2 := Lib.hid (HB1.out.step hs2 id)
                have HM22 := Lib.hid (HM2.out.quiet hs2)
                have HTk := Lib.hid (take_walk q2 X Ar cr fm sz w.heap.size ps HP2.out.rm HP2.out.st.size hfs hz (fun p hp => (HP2.out.lens hz p hp).1) (by omega) 1 0 77 (by decide) (by decide))
                have hpz1 := take_len fm sz 1 0 77 ps
                have hpz2 := take_snd fm sz 1 0 77 ps HP2.out.sn
                generalize takeF fm sz 1 0 77 ps = r at HTk hpz1 hpz2
                obtain ⟨⟨r1, r2⟩, pz⟩ := r
                simp only at hpz1 hpz2
                have HZ2 := Lib.hid hpz2
                clear hs2 HSm HP1 HB1 HM2 hpz2
                go_wp2_with fail
                refine HTk.out.mono ?_
                rintro e q3 ⟨rfl, A3, k3, hrm3, hst3, hmv⟩
                obtain ⟨how3, hsw3⟩ := HP2.out.far hst3
                have HB3 := Lib.hid (box_turn HB2.out HP2.out.rm hst3)
                have HM3 : Hid (Rm q3 X2 A2 k2 fm sz w.heap.size ps) := HM22.out.step hst3 (fun e => by
                  rcases e with e | e
                  · omega
                  · exact HX2A.out e) (fun k hk e => by
                  rcases e with e | e
                  · exact (HA2n.out k hk).1 e
                  · exact (HA2n.out k hk).2 e)
                have HP3 : Hid (Ply w q3 X pz.length k3 cw A3 Aw fm sz 100 pz ∨ True) := .inr trivial
                have HG := Lib.hid (give_walk q3 X A3 k3 fm sz w.heap.size pz hrm3 (by omega) (fun p hp => by have := (snd_all pz fm HZ2.out p hp).2.2; omega) pow)
                have HO3 := Lib.hid how3
                have HSW3 := Lib.hid hsw3
                have HR3 := Lib.hid hrm3
                have HA3 : Hid (∀ k, blkOf A2 = some k → blkOf A3 ≠ some k) := fun k hk e => by
                  rcases hmv k e with h5 | h5
                  · exact (HA2n.out k hk).2 h5
                  · have := HM22.out.lt2 k hk; omega
                have HX3 : Hid (blkOf A3 ≠ some X2) := fun e => by
                  rcases hmv X2 e with h5 | h5
                  · exact HX2A.out h5
                  · have := HM22.out.lt; omega
                have hlen := Lib.hid HP2.out.len
                have HSN := Lib.hid HP2.out.sn
                clear hrm3 hst3 hmv how3 hsw3 HTk HP2 HB2 HM22 HX2A HP3
                have v2 := HB3.out.cell 2
                simp at v2
                simp only
                go_wp2_with fail
                refine HG.out.mono ?_
                rintro e q4 ⟨rfl, _, hst4⟩
                have HB := Lib.hid (box_turn HB3.out HR3.out hst4)
                have hM4 : Rm q4 X2 A2 k2 fm sz w.heap.size ps := HM3.out.step hst4 (fun e => by
                  rcases e with e | e
                  · omega
                  · exact HX3.out e) (fun k hk e => by
                  rcases e with e | e
                  · exact (HA2n.out k hk).1 e
                  · exact HA3.out k hk e)
                have ho4 : q4.ownsRow w.heap.size 54 3 (.slice Aw m cw) m (pcs ps) := own_step HO3.out hst4 (fun k hk e => by
                  rcases e with rfl | e
                  · exact own_tag HO3.out HR3.out.blk (by decide) hk
                  · exact own_tag2 HO3.out HR3.out.own (by decide) k hk (by rw [ownBlock_slice]; exact e))
                have hs4 : Step (fun _ => False) w q4 := HSW3.out.trans' hst4 (fun k hk => by
                  rcases hk with rfl | hk
                  · exact .inr hXw
                  · exact .inr (HR3.out.ge k hk))
                have HP : Hid (Ply w q4 X2 m k2 cw A2 Aw fm sz (j + 1) ps) := ⟨hlen.out, hX2w, hM4, ho4, HSN.out, by omega, hs4⟩
                clear hM4 ho4 hs4 hst4 hlen HSN HB3 HR3 HSW3 HO3 HM3 HA3 HX3 HG HA2n HZ2 hpz1 v2
                go_wp2_with fail
                go_meet
                exact ⟨X2, m, k2, cw, A2, Aw, ps, rfl, rfl, HP, HB⟩
              · have k2 : (pk == 2) = false := by simpa using h2
                have HP : Hid (Ply w V X m cr cw Ar Aw fm sz (j + 1) ps) := ⟨HPV.out.len, HPV.out.ge, HPV.out.rm, HPV.out.own, HPV.out.sn, Nat.le_succ_of_le HPV.out.le, HPV.out.st⟩
                have HB := HBx
                clear HPV HBx HPj
                go_wp2_with fail
                go_meet
                exact ⟨X, m, cr, cw, Ar, Aw, ps, rfl, rfl, HP, HB⟩
      case rest =>
        as_aux_lemma =>
          clear HV HPV HBx HPj v0 v1 v2 v3 c0 c1 c2 c3
          obtain ⟨X2, m2, cr2, cw2, Ar2, Aw2, ps2, rfl, rfl, HP, HB⟩ := hcut
          have hm := HP.out.le
          have hmn : m2 ≤ 41 := by omega
          have HML := Lib.hid HP.out.len
          have hpl : (ps2).length ≤ 41 := by rw [← HML.out]; exact hmn
          have HLE := Lib.hid (HP.out.lens hz)
          have HSU : Hid (∀ kk, sumP ((ps2).take kk) ≤ 1073741824000000) := fun kk => by
            have h1 := sumP_le ((ps2).take kk) 1073741824 (fun p hp => (HLE.out p (List.mem_of_mem_take hp)).2)
            have h3 : ((ps2).take kk).length ≤ 41 := by rw [List.length_take]; omega
            omega
          have HU := Lib.hid (used_walk wc X2 Ar2 cr2 fm sz w.heap.size (ps2) HP.out.rm (fun p hp => (HLE.out p hp).2) (by omega))
          clear hpl
          go_wp2_with fail
          refine HU.out.mono ?_
          rintro e wu ⟨rfl, hSu⟩
          have HPu := Lib.hid (HP.out.quiet hSu)
          have HBu := Lib.hid (HB.out.step hSu id)
          obtain ⟨q, hq⟩ : ∃ q, q = sumP (ps2) := ⟨_, rfl⟩
          rw [← hq]
          have HQS := Lib.hid hq
          clear hSu HU HP HB hq
          go_wp2_with fail
          go_loopw [21, 23] (fun av kv wk => ∃ (kk : Nat), kk ≤ m2 ∧ av = .int .i64 ((sumP ((ps2).take kk) : Nat) : Int) ∧ kv = .int .i64 (kk : Int) ∧ wk = wu) (fun _ kv _ => m2 + 1 - (intOf kv).toNat)
          case atStart => exact ⟨0, by omega, rfl, rfl, rfl⟩
          case round =>
            obtain ⟨kk, hkk, rfl, rfl, hwk⟩ := hrel
            have hwk2 := hwk.symm
            subst hwk2
            by_cases hkl : kk < m2
            · have g1 : (kk : Int) < (m2 : Int) := by omega
              have g1' : decide ((kk : Int) < (m2 : Int)) = true := decide_eq_true g1
              have i0 : (0 : Int) ≤ (kk : Int) := by omega
              have hw1 := IntWalk.i64_in ((kk : Int) + 1) (by omega)
              have hjl : kk < (ps2).length := by rw [← HML.out]; exact hkl
              obtain ⟨bk, off, hAe, _, hbl, hc⟩ := reads_row Pc.cells 3 (by decide) Pc.three (Reads.of_own HPu.out.own) (k := kk) hjl
              have c1 := hc 1 _ rfl
              have HTK := Lib.hid (sumP_take (ps2) kk hjl)
              have hs1 := HSU.out (kk + 1)
              rw [HTK.out] at hs1
              generalize (ps2)[kk] = p at c1 HTK hs1
              obtain ⟨pa, pl, po⟩ := p
              simp only [Nat.add_zero] at c1 HTK hs1
              clear hc
              have hwa : IntKind.i64.wrap (((sumP ((ps2).take kk) : Nat) : Int) + (pl : Int)) = ((sumP ((ps2).take kk) + pl : Nat) : Int) := by rw [Int.natCast_add]; exact IntWalk.i64_in _ (by omega)
              have HTK2 := Lib.hid HTK.out.symm
              generalize sumP ((ps2).take kk) = sk at hwa HTK2 ⊢
              clear hs1 HTK
              subst hAe
              go_wp2_with fail
              go_roundw
              case rel => exact ⟨kk + 1, by omega, by rw [← HTK2.out, Int.natCast_add], by rw [Int.natCast_add]; rfl, by first | trivial | rfl⟩
              case measure => first | (simp [intOf]; done) | (simp [intOf]; omega)
            · have hke : kk = m2 := by omega
              have g1 : ¬ (kk : Int) < (m2 : Int) := by omega
              have g1' : decide ((kk : Int) < (m2 : Int)) = false := decide_eq_false g1
              have HEQ : Hid (sumP ((ps2).take kk) = q) := by rw [Hid, HQS.out, hke, HML.out, List.take_length]
              rw [HEQ.out]
              clear HEQ hke
              obtain ⟨lq, hlq⟩ : ∃ lq, lq = (less pow (ps2)).length := ⟨_, rfl⟩
              obtain ⟨oq, hoq⟩ : ∃ oq, oq = (mine pow (ps2)).length := ⟨_, rfl⟩
              have hlo : m2 = oq + lq := by rw [HML.out, hlq, hoq]; exact lens_add pow (ps2)
              have wsub : IntKind.i64.wrap ((m2 : Int) - (lq : Int)) = (oq : Int) := by
                rw [show (m2 : Int) - (lq : Int) = (oq : Int) by omega]
                exact IntWalk.i64_in _ (by omega)
              have HLs := rless_walk wu Aw2 m2 cw2 (ps2) _ pow HML.out (Reads.of_own HPu.out.own) (by omega) (fun p hp => (HLE.out p hp).2)
              rw [← hlq] at HLs
              have HLs := Lib.hid HLs
              have HOQ := Lib.hid hoq
              have y2 := HBu.out.cell 2
              simp at y2
              clear hlq hoq hlo
              go_wp2_with fail
              refine HLs.out.mono ?_
              rintro e wl ⟨D1, kz1, rfl, hownl, hSl⟩
              have HPl := Lib.hid (HPu.out.quiet hSl)
              have HBl := Lib.hid (HBu.out.step hSl id)
              have HPc := pieces_walk wl X2 Ar2 cr2 fm sz w.heap.size (ps2) HPl.out.rm (by rw [← HML.out]; omega)
              rw [← HML.out] at HPc
              have HPc := Lib.hid HPc
              clear hownl hSl HLs HPu HBu y2
              go_wp2_with fail
              refine HPc.out.mono ?_
              rintro e wp ⟨D2, kz2, rfl, hownp, hSp⟩
              have HPp := Lib.hid (HPl.out.quiet hSp)
              have HBp := Lib.hid (HBl.out.step hSp id)
              have HSm := Lib.hid (lsame_walk wp D2 Aw2 kz2 cw2 m2 (ps2) _ _ HML.out (Reads.of_own hownp) (Reads.of_own HPp.out.own) (by omega) (fun p hp => by have := (HLE.out p hp).1; omega))
              clear hownp hSp HPl HBl HPc
              go_wp2_with fail
              refine HSm.out.mono ?_
              rintro e ws ⟨rfl, hSs⟩
              have HPs := Lib.hid (HPp.out.quiet hSs)
              have HBs := Lib.hid (HBp.out.step hSs id)
              have HSd := Lib.hid (sound_walk ws X2 Ar2 cr2 fm sz w.heap.size (ps2) HPs.out.rm HPs.out.sn hz (by rw [← HML.out]; omega))
              have nq1 : ((q : Int) != (q : Int)) = false := by simp
              clear hSs HPp HBp HSm
              go_wp2_with fail
              refine HSd.out.mono ?_
              rintro e wd ⟨rfl, hSd⟩
              have HPd := Lib.hid (HPs.out.quiet hSd)
              have HBd := Lib.hid (HBs.out.step hSd id)
              have HOf := of_walk wd X2 Ar2 cr2 fm sz w.heap.size (ps2) HPd.out.rm (by rw [← HML.out]; omega) pow
              rw [show (List.filter (fun p : Pc => p.ow == pow) (ps2)) = mine pow (ps2) from rfl, ← HOQ.out] at HOf
              have HOf := Lib.hid HOf
              have y2 := HBd.out.cell 2
              simp at y2
              have no1 : ((oq : Int) != (oq : Int)) = false := by simp
              clear hSd HPs HBs HSd HOQ
              go_wp2_with fail
              refine HOf.out.mono ?_
              rintro e wo ⟨D3, kz3, rfl, hown3, hSo⟩
              have HPo := Lib.hid (HPd.out.quiet hSo)
              clear hown3 hSo HPd HBd HOf y2
              go_wp2_with fail
              exact ⟨⟨j + 1, X2, m2, cr2, cw2, Ar2, Aw2, ps2, by omega, rfl, rfl, by rw [Int.natCast_add]; rfl, HPo⟩, by first | (simp [intOf]; done) | (simp [intOf]; omega)⟩
    · have g1 : ¬ (j : Int) < (n : Int) := by omega
      have g1' : decide ((j : Int) < (n : Int)) = false := decide_eq_false g1
      go_wp2_with fail
      go_ret
      exact ⟨rfl, HPj.out.st⟩
end Go.Proofs.Ytjpjobpkeejmcaa
