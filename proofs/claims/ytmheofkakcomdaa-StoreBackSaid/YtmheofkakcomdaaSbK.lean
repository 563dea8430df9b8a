/-
  store: AddInst, AddFunc of a whole store.
-/
import Derived.Test.YtmheofkakcomdaaSbJ
set_option linter.unusedVariables false
set_option linter.unusedSimpArgs false
namespace Go.Proofs.Ytmheofkakcomdaa
open Go.RowKit
section
variable {w w' : World} {B : Nat} {s : Rc}
set_option maxRecDepth 100000 in
set_option maxHeartbeats 3200000 in
theorem w_addinst_twice (i : Int) (hi : (Lit.int .i64 i).wf = true) (p q r : Option Addr × Nat × Nat) (h : Ws w B s) (hv : OkI s.f) (hb : (s.f i).isSome = true) :
    Calls Try.prog 12 #[.pointer (some ⟨s.S, 0, none⟩), .int .i64 i, .agg #[.slice p.1 p.2.1 p.2.2, .slice q.1 q.2.1 q.2.2, .slice r.1 r.2.1 r.2.2]] w fun e w' => e = .returned (.int .i64 27) ∧ Step (fun _ => False) w w' := by
  obtain ⟨x, y, z, hx⟩ := hv.get i
  obtain ⟨p1, p2, p3⟩ := p
  obtain ⟨q1, q2, q3⟩ := q
  obtain ⟨r1, r2, r3⟩ := r
  have st : Step (fun _ => False) w (w.alloc (.cells #[.slice p1 p2 p3, .slice q1 q2 q3, .slice r1 r2 r3] 51)) := Step.refl.alloc _
  have hl := (h.quiet st).look i hi
  rw [hx, hb] at hl
  have x4 := h.c4
  have nS := h.blk.lt
  clear h hv hx hb st
  obtain ⟨x1, x2, x3⟩ := x
  obtain ⟨y1, y2, y3⟩ := y
  obtain ⟨z1, z2, z3⟩ := z
  simp only at hl
  go_enter Try.func12, Try.ntmps12
  go_wp2_with fail
  go_ret
  exact ⟨rfl, (Step.refl.alloc _).alloc _⟩
set_option maxRecDepth 100000 in
set_option maxHeartbeats 3200000 in
theorem w_addinst_ok (i : Int) (hi : (Lit.int .i64 i).wf = true) (p q r : Option Addr × Nat × Nat) (h : Ws w B s) (hB : B ≤ w.heap.size) (hle : s.es.length ≤ 1000000) (hn : s.nn ≤ 1000) (hb : s.f i = none) :
    Calls Try.prog 12 #[.pointer (some ⟨s.S, 0, none⟩), .int .i64 i, .agg #[.slice p.1 p.2.1 p.2.2, .slice q.1 q.2.1 q.2.2, .slice r.1 r.2.1 r.2.2]] w fun e w' => e = .returned (.int .i64 0) ∧
      Out w B s { s.vw with nn := s.nn + 1, f := putI s.f i (.agg #[.slice p.1 p.2.1 p.2.2, .slice q.1 q.2.1 q.2.2, .slice r.1 r.2.1 r.2.2]), es := jes s.ms s.es ⟨8, i, 0, []⟩ } w' := by
  obtain ⟨p1, p2, p3⟩ := p
  obtain ⟨q1, q2, q3⟩ := q
  obtain ⟨r1, r2, r3⟩ := r
  simp only
  obtain ⟨V, hV⟩ : ∃ V, V = w.alloc (.cells #[.slice p1 p2 p3, .slice q1 q2 q3, .slice r1 r2 r3] 51) := ⟨_, rfl⟩
  have st : Step (fun _ => False) w V := by rw [hV]; exact Step.refl.alloc _
  have HX := Lib.hid (Blk.new w 51 #[.slice p1 p2 p3, .slice q1 q2 q3, .slice r1 r2 r3])
  rw [← hV] at HX
  have HW := Lib.hid (h.quiet st)
  have S1 := Lib.hid st
  have hl := HW.out.look i hi
  rw [hb] at hl
  have hl2 : (Instr.lookup 76 (.map (some s.K)) (.int .i64 i) true).run Try.prog V = .ok (.tuple #[.agg #[.slice none 0 0, .slice none 0 0, .slice none 0 0], .bool false]) V := hl
  have x4 := h.c4
  have nS := h.blk.lt
  obtain ⟨X, hX⟩ : ∃ X, X = w.heap.size := ⟨_, rfl⟩
  rw [← hX] at HX
  have h0 := h
  replace h0 := Lib.hid h0
  clear h hl st hb
  rw [hV] at hl2
  go_enter Try.func12, Try.ntmps12
  go_upto_region 4 with fail
  rw [← hV, ← hX]
  obtain ⟨W3, hW3⟩ : ∃ W3, W3 = V.alloc (.cells #[.slice none 0 0, .slice none 0 0, .slice none 0 0] 51) := ⟨_, rfl⟩
  have st3 : Step (fun _ => False) V W3 := by rw [hW3]; exact Step.refl.alloc _
  rw [← hW3]
  replace HW := Lib.hid (HW.out.quiet st3)
  replace HX := Lib.hid (HX.out.step st3 id)
  replace S1 := Lib.hid (S1.out.trans st3)
  clear hV hX hW3 hl2 x4 nS st3
  have x4 := HW.out.c4
  have y0 := HX.out.cell 0
  have y1 := HX.out.cell 1
  have y2 := HX.out.cell 2
  simp at y0 y1 y2
  have d4 := cls_cell (F := fun _ => False) x4 id
  have g0 := cls_cell (F := fun _ => False) y0 id
  have g1 := cls_cell (F := fun _ => False) y1 id
  have g2 := cls_cell (F := fun _ => False) y2 id
  obtain ⟨w4, hput, hmp, hs4⟩ := (HW.out.quiet Step.refl.drew).mp.put Try.underlying3 Try.underlying76 (by unfold maxLen; omega) i hi (.agg #[.slice p1 p2 p3, .slice q1 q2 q3, .slice r1 r2 r3])
  have HM := Lib.hid hmp
  have HS4 := Lib.hid hs4
  clear x4 y0 y1 y2 hmp hs4
  refine Mix.wp_region_mix [6] [] (Step (fun _ => False) W3) (by kernel_rfl) (by kernel_rfl) (Step.refl.drew) (fun hcls => ?_)
  refine Mix.wpL_reads 6 (by rfl) ?_
  simp only [List.take_succ_cons, List.drop_succ_cons, List.take_zero, List.drop_zero]
  repeat (go_big_quiet_step (fail))
  refine wpQuiet_nil ?_
  refine Mix.wpL_op (by rfl) (fun K hK => ?_)
  go_simp
  refine hK _ _ (fun hlt => absurd hlt (by decide)) ?_
  clear hK K
  refine Mix.wpL_end ?_
  have hh := (HW.out.quiet Step.refl.drew).map_ HM.out HS4.out
  have HG := Lib.hid hh.1
  have U4 := Lib.hid (Upd.after (S1.out.trans Step.refl.drew) hh.2)
  have HN := w_note0 hh.1 (Nat.le_trans hB (Nat.le_trans S1.out.size HS4.out.size)) hle 8 i 0
  have x5 := hh.1.c5
  simp only at x5
  replace HN := Lib.hid HN
  have H0 := h0
  clear h0 hput d4 g0 g1 g2 HM HS4 HW HX S1 hh
  go_wp2_with fail
  refine HN.out.mono ?_
  rintro e w5 ⟨rfl, ho⟩
  have HO := Lib.hid (Out.step H0.out U4.out rfl ho)
  clear ho HN x5
  go_wp2_with fail
  go_ret
  exact ⟨rfl, HO.out⟩
set_option maxRecDepth 100000 in
set_option maxHeartbeats 3200000 in
theorem w_addfunc {r : Rc} (p q : ByteArray) (o : Int) (lo : ByteArray) (Ab : Option Addr) (bn bc : Nat) (Ae : Option Addr) (en ec : Nat) (Ax : Option Addr) (xn xc : Nat) (h : Ws w B r) (hB : B ≤ w.heap.size) (hl : r.es.length ≤ 1000000) (hn : r.nf ≤ 1000000) :
    Calls Try.prog 56 #[.pointer (some ⟨r.S, 0, none⟩), .agg #[.string p, .string q, .int .i64 o, .string lo, .slice Ab bn bc, .slice Ae en ec, .slice Ax xn xc]] w fun e w' => e = .returned (.int .i64 (r.nf : Int)) ∧
      Out w B r { r.vw with fs := r.vw.fs ++ [some (fnC p q o lo Ab bn bc Ae en ec Ax xn xc)], cells := r.cells ++ [(r.nf : Int)], es := jes r.ms r.es ⟨6, (r.nf : Int), 0, []⟩ } w' := by
  obtain ⟨V, hV⟩ : ∃ V, V = w.alloc (.cells #[.string p, .string q, .int .i64 o, .string lo, .slice Ab bn bc, .slice Ae en ec, .slice Ax xn xc] 116) := ⟨_, rfl⟩
  have st : Step (fun _ => False) w V := by rw [hV]; exact Step.refl.alloc _
  have HX := Lib.hid (Blk.new w 116 #[.string p, .string q, .int .i64 o, .string lo, .slice Ab bn bc, .slice Ae en ec, .slice Ax xn xc])
  rw [← hV] at HX
  have HW := Lib.hid (h.quiet st)
  have S1 := Lib.hid st
  have HFT : Hid (∀ k, r.foot k → k < w.heap.size) := h.in_
  obtain ⟨X, hX⟩ : ∃ X, X = w.heap.size := ⟨_, rfl⟩
  rw [← hX] at HX HFT
  have HLE := Lib.hid (Nat.le_trans hB st.size)
  clear h st hB
  go_enter Try.func56, Try.ntmps56
  go_upto_region 1 with fail
  rw [← hV, ← hX]
  replace hX := Lib.hid hX
  clear hV
  have x2 := HW.out.c2
  have x5 := HW.out.c5
  have d2 := cls_cell (F := fun _ => False) x2 id
  have d5 := cls_cell (F := fun _ => False) x5 id
  have HL := Lib.hid (fun W (hs : Step (fun _ => False) V W) => f_len (HW.out.quiet hs).fn)
  have HN := Lib.hid (fun W (hs : Step (fun _ => False) V W) => w_note0 (HW.out.quiet hs) (Nat.le_trans HLE.out hs.size) hl 6 (r.nf : Int) 0)
  clear x2 x5
  refine Mix.wp_region_mix [8, 10] [8] (Step (fun _ => False) V) (by kernel_rfl) (by kernel_rfl) (Step.refl.drew) (fun hcls => ?_)
  refine Mix.wpL_reads 8 (by rfl) ?_
  simp only [List.take_succ_cons, List.drop_succ_cons, List.take_zero, List.drop_zero]
  repeat (go_big_quiet_step (fail))
  refine wpQuiet_nil ?_
  refine Mix.wpL_op (by rfl) (fun K hK => ?_)
  go_simp
  refine (HL.out _ Step.refl.drew).mono ?_
  rintro e w2 ⟨rfl, rfl⟩
  refine hK _ _ (fun hlt => Mix.cl (Step.refl.drew)) ?_
  clear hK K
  refine Mix.wpL_reads 1 (by rfl) ?_
  simp only [List.take_succ_cons, List.drop_succ_cons, List.take_zero, List.drop_zero]
  repeat (go_big_quiet_step (fail))
  refine wpQuiet_nil ?_
  refine Mix.wpL_op (by rfl) (fun K hK => ?_)
  go_simp
  refine (HN.out _ Step.refl.drew).mono ?_
  rintro e w2 ⟨rfl, r2, hW2, hu2, hc2, hv2⟩
  refine hK _ _ (fun hlt => absurd hlt (by decide)) ?_
  clear hK K
  refine Mix.wpL_end ?_
  have hnf : r2.nf = r.nf := by
    have e1 := congrArg (fun v : Vw => v.fs.length) hv2
    simp only [Rc.vw, List.length_map] at e1
    rw [hW2.fn.lf, HW.out.fn.lf]
    exact e1
  have hcl : r2.cells = r.cells := congrArg Vw.cells hv2
  have hfs : r2.fs.map (Option.map Fv.cs) = r.fs.map (Option.map Fv.cs) := congrArg Vw.fs hv2
  have HX2 := Lib.hid ((HX.out.quiet' Step.refl.drew).step hu2.1 (fun e => Nat.lt_irrefl _ (HFT.out _ e)))
  have HU2 := Lib.hid (Upd.after (S1.out.trans Step.refl.drew) hu2)
  have hB2 : B ≤ w2.heap.size := Nat.le_trans HLE.out (Nat.le_trans (Step.drew (F := fun _ => False) Step.refl).size hu2.1.size)
  have x2 := hW2.c2
  rw [cst_S hc2, cst_Fu hc2] at x2
  have y0 := HX2.out.cell 0
  have y1 := HX2.out.cell 1
  have y2 := HX2.out.cell 2
  have y3 := HX2.out.cell 3
  have y4 := HX2.out.cell 4
  have y5 := HX2.out.cell 5
  have y6 := HX2.out.cell 6
  simp at y0 y1 y2 y3 y4 y5 y6
  obtain ⟨F2, hF2⟩ : ∃ F2 : Nat → Prop, F2 = ffoot r.Fu r2.Af r2.Ac r2.fs := ⟨_, rfl⟩
  have hFS : ¬ F2 r.S := by
    rw [hF2, ← cst_S hc2, ← cst_Fu hc2]
    exact hW2.sep.get (i := 0) (j := 5) (by decide) rfl rfl _ (.inl rfl)
  have hFX : ¬ F2 X := fun e => by
    rw [hF2, ← cst_Fu hc2] at e
    have e2 : r2.foot X := ⟨_, by simp [Rc.sets], e⟩
    rcases hu2.2 X e2 with e3 | e3
    · exact Nat.lt_irrefl _ (HFT.out _ e3)
    · have := HX.out.lt
      have : V.drew.heap.size = V.heap.size := rfl
      omega
  have HF2 := Lib.hid hF2
  have d2 := cls_cell (F := F2) x2 hFS
  have g0 := cls_cell (F := F2) y0 hFX
  have g1 := cls_cell (F := F2) y1 hFX
  have g2 := cls_cell (F := F2) y2 hFX
  have g3 := cls_cell (F := F2) y3 hFX
  have g4 := cls_cell (F := F2) y4 hFX
  have g5 := cls_cell (F := F2) y5 hFX
  have g6 := cls_cell (F := F2) y6 hFX
  have hadd := f_add p q o lo Ab bn bc Ae en ec Ax xn xc (hW2.quiet Step.refl.drew).fn hB2 (by rw [hnf]; exact hn)
  rw [hnf, cst_Fu hc2] at hadd
  have HADD := Lib.hid hadd
  have H2 := Lib.hid hW2
  have HC2 := Lib.hid hc2
  have HV2 := Lib.hid hv2
  have HCL := Lib.hid hcl
  have HFS := Lib.hid hfs
  have HNF := Lib.hid hnf
  clear hF2 hcl hfs hnf hadd hW2 hu2 hc2 hv2 hB2 x2 y0 y1 y2 y3 y4 y5 y6 HL HN HX HW S1 HLE HX2 hcls
  go_wp2_with fail
  refine Mix.wp_region_mix [5] [5] (Step F2 w2) (by kernel_rfl) (by kernel_rfl) (Step.refl.drew) (fun hcls => ?_)
  refine Mix.wpL_reads 5 (by rfl) ?_
  simp only [List.take_succ_cons, List.drop_succ_cons, List.take_zero, List.drop_zero]
  repeat (go_big_quiet_step (fail))
  refine wpQuiet_nil ?_
  refine Mix.wpL_op (by rfl) (fun K hK => ?_)
  go_simp
  refine HADD.out.mono ?_
  rintro e w3 ⟨rfl, Af', cf', Ac', cc', b, hF, hu⟩
  have HF := Lib.hid hF
  have HU := Lib.hid hu
  have hs3 : Step F2 w2 w3 := by rw [HF2.out]; exact Step.refl.drew.trans hu.1
  rw [cst_Fu HC2.out.symm] at HF HU
  have hh := (H2.out.quiet Step.refl.drew).fun_ HF.out HU.out
  have HH := Lib.hid hh
  refine hK _ _ (fun hlt => Mix.cl (hs3)) ?_
  clear hK K
  clear hF hu hh hs3 HF HU d2 g0 g1 g2 g3 g4 g5 g6 hFS hFX
  refine Mix.wpL_reads 1 (by rfl) ?_
  simp only [List.take_succ_cons, List.drop_succ_cons, List.take_zero, List.drop_zero]
  repeat (go_big_quiet_step (fail))
  refine wpQuiet_nil ?_
  refine Mix.wpL_end ?_
  go_wp2_with fail
  go_ret
  refine ⟨rfl, _, HH.out.1, (HU2.out.drew).trans HH.out.2, HC2.out, ?_⟩
  have e1 : (r2.fs ++ [some (⟨b, fnC p q o lo Ab bn bc Ae en ec Ax xn xc⟩ : Fv)]).map (Option.map Fv.cs) = r.vw.fs ++ [some (fnC p q o lo Ab bn bc Ae en ec Ax xn xc)] := by
    rw [List.map_append, HFS.out]; rfl
  show Vw.mk _ _ _ _ _ ((r2.fs ++ [some (⟨b, fnC p q o lo Ab bn bc Ae en ec Ax xn xc⟩ : Fv)]).map (Option.map Fv.cs)) (r2.cells ++ [(r.nf : Int)]) _ _ = _
  rw [e1, HCL.out]
  exact congrArg (fun v : Vw => { v with fs := r.vw.fs ++ [some (fnC p q o lo Ab bn bc Ae en ec Ax xn xc)], cells := r.cells ++ [(r.nf : Int)] }) HV2.out
end
end Go.Proofs.Ytmheofkakcomdaa
