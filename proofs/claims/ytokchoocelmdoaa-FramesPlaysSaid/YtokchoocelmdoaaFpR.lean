/-
  FramesPlays: enter (printed by gen_fpr.py).
-/
import Derived.Test.YtokchoocelmdoaaFpP
set_option linter.unusedVariables false
set_option linter.unusedSimpArgs false
namespace Go.Proofs.Ytokchoocelmdoaa
open Go.RowKit

def fnIt (r : Nat) : It := ⟨2, 0, 0, 0, 0, false, r⟩
section
variable {w w1 w2 w' : World} {I I' : Nat → Prop} {g c : Nat} {A : Option Addr} {l l' : List It} {fs fs' : List Fm} {most z : Int} {np r : Nat}
set_option maxRecDepth 100000 in
set_option maxHeartbeats 1600000 in
theorem enter_deep (h3 : bits BinOp.and IntKind.i64 z 3 = (np : Int)) (hnp : np ≤ 3) (h4 : bits BinOp.and IntKind.i64 z 4 = ((4 * r : Nat) : Int)) (hr : r ≤ 1) (H : Sta w I g A c l most) (hz : l.length ≤ 1000) (hd : most ≤ (cntI 2 l : Int)) :
    Calls Try.prog 23 #[.pointer (some ⟨g, 0, none⟩), .slice A l.length c, .int .i64 z, .int .i64 most] w (SAny w I g A (l.length + 1) most) := by
  obtain ⟨fs, hf⟩ := H.fst
  have hfl := hf.flen H.good
  have HM := Lib.hid (made_walk w z np r h3 hnp h4 hr)
  have HE : Hid (∀ (W : World) (ps rs lo : ByteArray), Step (fun _ => False) w W → Calls Try.prog 30 #[.pointer (some ⟨g, 0, none⟩), fnV ps rs lo] W fun e w' => e = .returned (.int .i64 71) ∧ Step (fun _ => False) W w') := fun W ps rs lo hW => fs_enter_deep ps rs lo (hf.1.quiet hW) (by rw [hfl]; exact hd)
  have HR := Reads.of_own H.own
  have HC : Hid (∀ W, Step (fun _ => False) w W → Calls Try.prog 9 #[.slice A l.length c, .int .i64 2] W fun e w' => e = .returned (.int .i64 (cntI 2 l : Int)) ∧ w' = W) := fun W hW => r_count 2 (HR.step hW (fun _ _ => id)) (by omega)
  have HD : Hid (∀ W, Step (fun _ => False) w W → SDo w I g A l most (.returned (.tuple #[.slice A l.length c, .bool true])) W) := fun W hW => sdo_same H hW
  have g0 : decide (most ≤ (cntI 2 l : Int)) = true := decide_eq_true hd
  generalize cntI 2 l = m at *
  clear H hf HR hfl hd h3 h4
  go_enter Try.func23, Try.ntmps23
  go_wp2_with fail
  refine HM.out.mono ?_
  rintro e W ⟨ps, rs, lo, rfl, -, -, -, hs⟩
  have HS := Lib.hid hs
  clear hs
  go_wp2_with fail
  refine (HE.out W ps rs lo HS.out).mono ?_
  rintro e U ⟨rfl, hs⟩
  have HU := Lib.hid (HS.out.trans hs)
  clear hs
  go_wp2_with fail
  refine (HC.out U HU.out).mono ?_
  rintro e w' ⟨rfl, hw⟩
  obtain rfl := hw.symm
  clear hw
  go_wp2_with fail
  go_ret2
  exact ⟨l, Nat.le_succ _, HD.out _ HU.out⟩
set_option maxRecDepth 100000 in
set_option maxHeartbeats 1600000 in
theorem enter_few (h3 : bits BinOp.and IntKind.i64 z 3 = (np : Int)) (hnp : np ≤ 3) (h4 : bits BinOp.and IntKind.i64 z 4 = ((4 * r : Nat) : Int)) (hr : r ≤ 1) (H : Sta w I g A c l most) (hz : l.length ≤ 1000) (hd : (cntI 2 l : Int) < most) (hfew : (valsI l).length < np) :
    Calls Try.prog 23 #[.pointer (some ⟨g, 0, none⟩), .slice A l.length c, .int .i64 z, .int .i64 most] w (SAny w I g A (l.length + 1) most) := by
  obtain ⟨fs, hf⟩ := H.fst
  have hfl := hf.flen H.good
  have hvl := vals_len (l := l)
  have HM := Lib.hid (made_walk w z np r h3 hnp h4 hr)
  have HE : Hid (∀ (W : World) (ps rs lo : ByteArray), ps.size = np → Step (fun _ => False) w W → Calls Try.prog 30 #[.pointer (some ⟨g, 0, none⟩), fnV ps rs lo] W fun e w' => e = .returned (.int .i64 21) ∧ Step (fun _ => False) W w') := fun W ps rs lo hp hW => fs_enter_few ps rs lo (hf.1.quiet hW) (by rw [hfl]; exact hd) (by omega) (by rw [hp]; exact hfew)
  have HR := Reads.of_own H.own
  have HC : Hid (∀ W, Step (fun _ => False) w W → Calls Try.prog 9 #[.slice A l.length c, .int .i64 2] W fun e w' => e = .returned (.int .i64 (cntI 2 l : Int)) ∧ w' = W) := fun W hW => r_count 2 (HR.step hW (fun _ _ => id)) (by omega)
  have HV : Hid (∀ W, Step (fun _ => False) w W → Calls Try.prog 14 #[.slice A l.length c] W fun e w' => ∃ D c', e = .returned (.slice D (valsI l).length c') ∧ w'.ownsRow W.heap.size 28 1 (.slice D (valsI l).length c') (valsI l).length (u64s (valsI l)) ∧ Step (fun _ => False) W w') := fun W hW => r_values (HR.step hW (fun _ _ => id)) (by omega)
  have HD : Hid (∀ W, Step (fun _ => False) w W → SDo w I g A l most (.returned (.tuple #[.slice A l.length c, .bool true])) W) := fun W hW => sdo_same H hW
  have g0 : decide (most ≤ (cntI 2 l : Int)) = false := decide_eq_false (by omega)
  have g1 : decide (((valsI l).length : Int) < (np : Int)) = true := decide_eq_true (by omega)
  have g2 : decide ((valsI l).length < np) = true := decide_eq_true hfew
  generalize cntI 2 l = m at *
  generalize valsI l = vs at *
  clear H hf HR hfl hd h4 hfew
  go_enter Try.func23, Try.ntmps23
  go_wp2_with fail
  refine HM.out.mono ?_
  rintro e W ⟨ps, rs, lo, rfl, hp, -, -, hs⟩
  have HS := Lib.hid hs
  have HE1 := Lib.hid (HE.out W ps rs lo hp hs)
  clear hs hp HE
  go_wp2_with fail
  refine HE1.out.mono ?_
  rintro e U ⟨rfl, hs⟩
  have HU := Lib.hid (HS.out.trans hs)
  clear hs
  go_wp2_with fail
  refine (HC.out U HU.out).mono ?_
  rintro e w' ⟨rfl, hw⟩
  obtain rfl := hw.symm
  clear hw
  go_wp2_with fail
  refine (HV.out U HU.out).mono ?_
  rintro e U2 ⟨D, c', rfl, -, hs⟩
  have HU2 := Lib.hid (HU.out.trans hs)
  clear hs
  go_wp2_with fail
  go_ret2
  exact ⟨l, Nat.le_succ _, HD.out _ HU2.out⟩
theorem enter_state {ps rs lo : ByteArray} {AL : Option Addr} {cl : Nat} (hg : Good l) (hr : rs.size = r) (hr1 : r ≤ 1) (hk : fs.map Fm.key = frsI 0 0 l) (ht : TailV l np) :
    valsI (l.take (l.length - np) ++ [fnIt r]) = (valsI l).take ((valsI l).length - np) ∧ labsI 0 (l.take (l.length - np) ++ [fnIt r]) = labsI 0 l ∧
      (fs ++ [(⟨ps, rs, lo, AL, np + 2, cl, (labsI 0 l).length, (valsI l).length - np⟩ : Fm)]).map Fm.key = frsI 0 0 (l.take (l.length - np) ++ [fnIt r]) ∧ Good (l.take (l.length - np) ++ [fnIt r]) := by
  obtain ⟨t1, t2, t3, t4⟩ := ht.split
  have e1 : cntI 1 (l.take (l.length - np)) = (labsI 0 l).length := by rw [← t3, labsI_length]
  have e2 : (valsI (l.take (l.length - np))).length = (valsI l).length - np := by rw [t2, List.length_take]; omega
  refine ⟨?_, ?_, ?_, ?_⟩
  · rw [valsI_append, t2, show valsI [fnIt r] = [] from rfl, List.append_nil]
  · rw [labsI_append, t3, show labsI (0 + (valsI (l.take (l.length - np))).length) [fnIt r] = [] from rfl, List.append_nil]
  · rw [List.map_append, hk, frsI_append, t4, e1, e2]
    congr 1
    simp [Fm.key, frsI, fnIt, hr]
  · refine good_app (good_take hg _) (fun x hx => ?_)
    rw [List.mem_singleton.1 hx]
    exact ⟨.inr (.inr rfl), by simp [fnIt], by simp [fnIt]; omega⟩
set_option maxRecDepth 100000 in
set_option maxHeartbeats 3200000 in
theorem enter_ok (h3 : bits BinOp.and IntKind.i64 z 3 = (np : Int)) (hnp : np ≤ 3) (h4 : bits BinOp.and IntKind.i64 z 4 = ((4 * r : Nat) : Int)) (hr : r ≤ 1) (H : Sta w I g A c l most) (hz : l.length ≤ 1000) (hd : (cntI 2 l : Int) < most) (ht : TailV l np) :
    Calls Try.prog 23 #[.pointer (some ⟨g, 0, none⟩), .slice A l.length c, .int .i64 z, .int .i64 most] w (SAny w I g A (l.length + 1) most) := by
  obtain ⟨fs, hf⟩ := H.fst
  have hfl := hf.flen H.good
  have hfl2 := hf.len H.good
  have hvl := vals_len (l := l)
  obtain ⟨t1, -, -, -⟩ := ht.split
  have HM := Lib.hid (made_walk w z np r h3 hnp h4 hr)
  have HE : Hid (∀ (W : World) (ps rs lo : ByteArray), ps.size = np → lo.size = np + 2 → Step (fun _ => False) w W → _) := fun W ps rs lo hp hlo hW => fs_enter (most := most) ps rs lo np (hf.1.quiet hW) (by rw [hfl]; exact hd) (by omega) hp hlo hnp t1 (by omega)
  have HFAR := Lib.hid (hf.far H.own)
  have HO := Lib.hid H.own
  have HST : Hid (∀ (ps rs lo : ByteArray) (AL : Option Addr) (cl : Nat), rs.size = r → _) := fun ps rs lo AL cl hrs => enter_state (ps := ps) (lo := lo) (AL := AL) (cl := cl) H.good hrs hr hf.2 ht
  have HC : Hid (∀ W, Reads W (fun k => blkOf A = some k) 7 A l.length (its l) → Calls Try.prog 9 #[.slice A l.length c, .int .i64 2] W fun e w' => e = .returned (.int .i64 (cntI 2 l : Int)) ∧ w' = W) := fun W hW => r_count 2 hW (by omega)
  have HV : Hid (∀ W, Reads W (fun k => blkOf A = some k) 7 A l.length (its l) → Calls Try.prog 14 #[.slice A l.length c] W fun e w' => ∃ D c', e = .returned (.slice D (valsI l).length c') ∧ w'.ownsRow W.heap.size 28 1 (.slice D (valsI l).length c') (valsI l).length (u64s (valsI l)) ∧ Step (fun _ => False) W w') := fun W hW => r_values hW (by omega)
  have HDR : Hid (∀ W : World, W.ownsRow 0 57 7 (.slice A l.length c) l.length (its l) → _) := fun W hW => r_drop (c := c) (w := W) np hW (by omega) ht.1 ht.get
  have HLL : Hid ((l.take (l.length - np) ++ [fnIt r]).length = l.length - np + 1) := by unfold Hid; rw [List.length_append, List.length_take, List.length_singleton]; omega
  have HIT : Hid (its (l.take (l.length - np) ++ [fnIt r]) = its (l.take (l.length - np)) ++ #[Value.int .i64 2, .int .u64 0, .int .i64 0, .int .i64 0, .int .i64 0, .bool false, .int .i64 (r : Int)].toList) := by
    unfold Hid
    rw [its_append]
    rfl
  have HL1 : Hid (l.length - np + 1 ≤ l.length + 1) := by unfold Hid; omega
  have hone : ∀ u ∈ (#[.int .i64 2, .int .u64 0, .int .i64 0, .int .i64 0, .int .i64 0, .bool false, .int .i64 (r : Int)] : Array Value).toList, u.oneCell' = true := it_one (fnIt r)
  have hm1 : l.length - np + 1 ≤ maxLen := by unfold maxLen; omega
  have hz2 : l.length - np ≤ 1000 := by omega
  have g0 : decide (most ≤ (cntI 2 l : Int)) = false := decide_eq_false (by omega)
  have g1 : decide (((valsI l).length : Int) < (np : Int)) = false := decide_eq_false (by omega)
  have g2 : decide ((valsI l).length < np) = false := decide_eq_false (by omega)
  have hwv := IntWalk.i64_in (((valsI l).length : Int) - (np : Int)) (by omega)
  have i3 : (0 : Int) ≤ ((valsI l).length : Int) - (np : Int) := by omega
  have i4 : ((valsI l).length : Int) - (np : Int) ≤ ((valsI l).length : Int) := by omega
  have HZL : Hid (((valsI l).drop ((valsI l).length - np)).length = np) := by unfold Hid; rw [List.length_drop]; omega
  generalize l.take (l.length - np) = lt at *
  generalize lt ++ [fnIt r] = l2 at *
  generalize cntI 2 l = m2 at *
  generalize labsI 0 l = ls at *
  generalize valsI l = vs at *
  generalize l.length - np = ln at *
  clear H hf hfl hd ht
  go_enter Try.func23, Try.ntmps23
  go_wp2_with fail
  refine HM.out.mono ?_
  rintro e W ⟨ps, rs, lo, rfl, hp, hlo, hrs, hs⟩
  have HS := Lib.hid hs
  have HE1 := Lib.hid (HE.out W ps rs lo hp hlo hs)
  have HST1 : Hid (∀ (AL : Option Addr) (cl : Nat), _) := fun AL cl => HST.out ps rs lo AL cl hrs
  clear hs hp hlo hrs HE HST
  go_wp2_with fail
  refine HE1.out.mono ?_
  rintro e U ⟨rfl, AL, cl, ⟨I', hfs, u⟩, hcl, hrl⟩
  have HU := Lib.hid (u.after HS.out)
  have HO1 := Lib.hid (own_step HO.out HU.out.1 (fun k hk => HFAR.out k (by rwa [ownBlock_slice] at hk)))
  have HRD := Lib.hid ((Reads.of_own HO1.out).mono (S' := fun k => blkOf A = some k) (fun k _ hk => by rwa [ownBlock_slice] at hk))
  have HRL := Lib.hid hrl
  have HFS := Lib.hid hfs
  have hst := HST1.out AL cl
  clear u hrl hfs HE1 HST1
  go_wp2_with fail
  refine (HC.out U HRD.out).mono ?_
  rintro e w' ⟨rfl, hw⟩
  obtain rfl := hw.symm
  clear hw
  go_wp2_with fail
  refine (HV.out U HRD.out).mono ?_
  rintro e V ⟨Dv, cv, rfl, hvo, hs⟩
  have SV := Lib.hid hs
  have HVO := Lib.hid hvo
  have hfv := HFS.out.quiet hs
  obtain ⟨D1, c1, D2, c2, D3, c3, hfa, hI⟩ := hfv
  obtain ⟨gf, rfl, hlt, -, k7, k8, -, -⟩ := hfa.fcell (k := fs.length) (by simp)
  simp only [List.getElem_concat_length] at k7 k8
  have HT := fsat_top hfa (by simp) (by simp; omega)
  rw [show (fs ++ [(⟨ps, rs, lo, AL, np + 2, cl, ls.length, vs.length - np⟩ : Fm)]).length - 1 = fs.length by simp] at HT
  replace HT := Lib.hid HT
  have HFA : Hid (Fs V I' g (vs.take (vs.length - np)) ls (fs ++ [⟨ps, rs, lo, AL, np + 2, cl, ls.length, vs.length - np⟩]) most) := ⟨D1, c1, D2, c2, _, c3, hfa, hI⟩
  have HST := Lib.hid hst
  clear hs hvo hfa hI hst HFS
  go_wp2_with fail
  refine HT.out.mono ?_
  rintro e X ⟨rfl, hs⟩
  have SX := Lib.hid (SV.out.trans hs)
  have k7' := (hs.cell (p := ⟨gf, fs.length * 11 + 7, none⟩) hlt id).trans k7
  have k8' := (hs.cell (p := ⟨gf, fs.length * 11 + 8, none⟩) hlt id).trans k8
  have HFX := Lib.hid (HFA.out.quiet hs)
  have hvr := ((Reads.of_own HVO.out).step hs (fun _ _ => id)).cut (k := vs.length - np) (cap := cv) (by omega) (own_cap HVO.out)
  rw [show vs.length - (vs.length - np) = np by omega, Nat.mul_one, ← u64s_drop] at hvr
  have hvr2 : Reads X (fun k => (Value.slice Dv vs.length cv).ownBlock = some k) 1 (cutA Dv cv (vs.length - np) 1) np (u64s (vs.drop (vs.length - np))) := by simpa [cutA] using hvr
  have HVR := Lib.hid hvr2
  clear hvr2
  have hlr := HRL.out.step SX.out (fun _ _ => id)
  have hl0 := hlr.take (k := np) (by omega)
  rw [Nat.mul_one, u64s_append, List.take_left' (by rw [u64s_length, HZL.out])] at hl0
  have HLR := Lib.hid hl0
  obtain ⟨la, u0, rfl, _, _, e0, x0⟩ := hlr.at_ (k := np) (by omega)
  obtain ⟨la', u1, e9, _, _, e1, x1⟩ := hlr.at_ (k := np + 1) (by omega)
  injection e9 with e9
  subst e9
  have hu0 : u0 = .int .u64 0 := by
    rw [u64s_append, List.getElem?_append_right (by rw [u64s_length, HZL.out]; exact Nat.le_refl _), u64s_length, HZL.out, Nat.sub_self] at e0
    exact (Option.some.inj e0).symm
  have hu1 : u1 = .int .u64 0 := by
    rw [u64s_append, List.getElem?_append_right (by rw [u64s_length, HZL.out]; omega), u64s_length, HZL.out, show np + 1 - np = 1 by omega] at e1
    exact (Option.some.inj e1).symm
  subst hu0 hu1
  have x1' : X.cell? ⟨la.block, la.off + (np + 1), none⟩ = some (.int .u64 0) := by simpa [Addr.add] using x1
  obtain ⟨m, hm⟩ : ∃ m, m = np + 2 := ⟨_, rfl⟩
  rw [show (np + 2) = m from hm.symm] at k8'
  have q1 : (0 : Int) ≤ (np : Int) := by omega
  have q2 : (np : Int) < (m : Int) := by omega
  have q3 : (np : Int) + 1 < (m : Int) := by omega
  have q4 : (np : Int) ≤ (cl : Int) := by omega
  have q5 : ((m : Int) != (np : Int) + 2) = false := by simp [hm]
  have wa := IntWalk.i64_in ((np : Int) + 1) (by omega)
  have wb := IntWalk.i64_in ((np : Int) + 2) (by omega)
  have sl := slice_hn E_u64 (some la) m cl .i64 (np : Int) np rfl (by omega)
  have sv := slice_ln E_u64 Dv vs.length cv .i64 ((vs.length : Int) - (np : Int)) (vs.length - np) np (cv - (vs.length - np)) (by omega) (by omega) (by omega) rfl
  have HSA := Lib.hid (same_eq' X _ _ (some la) (cutA Dv cv (vs.length - np) 1) np np cl (cv - (vs.length - np)) (vs.drop (vs.length - np)) np np _ _ HLR.out HVR.out rfl rfl HZL.out.symm HZL.out.symm rfl rfl (by rw [HZL.out]; omega))
  clear hs k7 k8 HFA HT hvr hlr hl0 e0 e1 hm HRL HVO
  go_wp2_with fail
  refine HSA.out.mono ?_
  rintro e Y ⟨rfl, n, rfl⟩
  have SY := Lib.hid (SX.out.drewN n)
  have HDX := HDR.out (X.drewN n) (own_step HO1.out SY.out (fun _ _ => id))
  replace HDX := Lib.hid HDX
  clear HDR HC HV HSA
  go_wp2_with fail
  refine HDX.out.mono ?_
  rintro e Z ⟨D, c', rfl, hro, hs, hDA⟩
  have SZ := Lib.hid (SY.out.trans hs)
  have HFZ := Lib.hid ((HFX.out.quiet (Step.refl.drewN n)).quiet hs)
  have HRO := Lib.hid hro
  have HDA : Hid (∀ k, blkOf D = some k → blkOf A = some k ∨ U.heap.size ≤ k) := fun k hk => (hDA k hk).imp_right (Nat.le_trans SY.out.size)
  clear hro hs hDA k7' k8' x0 x1 x1' HDX
  have h01 : r = 0 ∨ r = 1 := by omega
  rcases h01 with rfl | rfl
  · have h4' : bits BinOp.and IntKind.i64 z 4 = 0 := h4
    clear h4
    go_wp2_with (at_builtin; refine wpList_append_src _ rfl _ _ (by rfl) E_it (by rfl) (HRO.out.alloc _) (by rfl) (reads_new Z #[.int .i64 2, .int .u64 0, .int .i64 0, .int .i64 0, .int .i64 0, .bool false, .int .i64 0] 57 7 1 rfl) hone hm1 (by omega) (Nat.zero_le _) ?_; intro D4 c4 w4 hown4 hgrow4 hat4)
    go_ret2
    have h5 : Step (fun k => blkOf D = some k) Z w4 := (Step.refl.alloc _).grown hgrow4 (fun k hk => .inl hk)
    have h6 : Step (fun k => blkOf A = some k) U w4 := ((SZ.out.mono (F' := fun k => blkOf A = some k) fun _ _ e => e.elim).alloc _).grown hgrow4 (fun k hk => HDA.out k hk)
    have h7 : ∀ k, blkOf D = some k → ¬ I' k := HFZ.out.row HRO.out (by decide) (by decide) (by decide) (by decide)
    obtain ⟨s1, s2, s3, s4⟩ := HST.out
    refine ⟨l2, by rw [HLL.out]; exact HL1.out, ?_⟩
    have h8 : w4.ownsRow 0 57 7 (.slice D4 l2.length c4) l2.length (its l2) := by
      rw [HLL.out, HIT.out]
      exact hown4
    have h9 : Fst w4 I' g l2 (fs ++ [⟨ps, rs, lo, some la, np + 2, cl, ls.length, vs.length - np⟩]) most := by
      refine ⟨?_, s3⟩
      rw [s1, s2]
      exact HFZ.out.keep h5 (fun k hk e => h7 k e hk)
    have hd := sdo (A := A) (I' := I') HU.out h9 h6 h8 (fun k hk => by
      rcases hat4 with e | e
      · exact (HDA.out k (e ▸ hk)).imp_right (Nat.le_trans HU.out.1.size)
      · rw [e] at hk
        simp at hk
        right
        have := HU.out.1.size
        have := SZ.out.size
        omega) s4
    rw [HLL.out] at hd
    exact hd
  · have h4' : bits BinOp.and IntKind.i64 z 4 = 4 := h4
    clear h4
    go_wp2_with (at_builtin; refine wpList_append_src _ rfl _ _ (by rfl) E_it (by rfl) (HRO.out.alloc _) (by rfl) (reads_new Z #[.int .i64 2, .int .u64 0, .int .i64 0, .int .i64 0, .int .i64 0, .bool false, .int .i64 1] 57 7 1 rfl) hone hm1 (by omega) (Nat.zero_le _) ?_; intro D4 c4 w4 hown4 hgrow4 hat4)
    go_ret2
    have h5 : Step (fun k => blkOf D = some k) Z w4 := (Step.refl.alloc _).grown hgrow4 (fun k hk => .inl hk)
    have h6 : Step (fun k => blkOf A = some k) U w4 := ((SZ.out.mono (F' := fun k => blkOf A = some k) fun _ _ e => e.elim).alloc _).grown hgrow4 (fun k hk => HDA.out k hk)
    have h7 : ∀ k, blkOf D = some k → ¬ I' k := HFZ.out.row HRO.out (by decide) (by decide) (by decide) (by decide)
    obtain ⟨s1, s2, s3, s4⟩ := HST.out
    refine ⟨l2, by rw [HLL.out]; exact HL1.out, ?_⟩
    have h8 : w4.ownsRow 0 57 7 (.slice D4 l2.length c4) l2.length (its l2) := by
      rw [HLL.out, HIT.out]
      exact hown4
    have h9 : Fst w4 I' g l2 (fs ++ [⟨ps, rs, lo, some la, np + 2, cl, ls.length, vs.length - np⟩]) most := by
      refine ⟨?_, s3⟩
      rw [s1, s2]
      exact HFZ.out.keep h5 (fun k hk e => h7 k e hk)
    have hd := sdo (A := A) (I' := I') HU.out h9 h6 h8 (fun k hk => by
      rcases hat4 with e | e
      · exact (HDA.out k (e ▸ hk)).imp_right (Nat.le_trans HU.out.1.size)
      · rw [e] at hk
        simp at hk
        right
        have := HU.out.1.size
        have := SZ.out.size
        omega) s4
    rw [HLL.out] at hd
    exact hd
theorem enter_walk (h3 : bits BinOp.and IntKind.i64 z 3 = (np : Int)) (hnp : np ≤ 3) (H : Sta w I g A c l most) (hz : l.length ≤ 1000) (hlow : TailV l np ∨ (valsI l).length < np) :
    Calls Try.prog 23 #[.pointer (some ⟨g, 0, none⟩), .slice A l.length c, .int .i64 z, .int .i64 most] w (SAny w I g A (l.length + 1) most) := by
  obtain ⟨r, hr, h4⟩ := and_4 z
  by_cases hd : most ≤ (cntI 2 l : Int)
  · exact enter_deep h3 hnp h4 hr H hz hd
  · rcases hlow with ht | hf
    · exact enter_ok h3 hnp h4 hr H hz (by omega) ht
    · exact enter_few h3 hnp h4 hr H hz (by omega) hf
end
end Go.Proofs.Ytokchoocelmdoaa
