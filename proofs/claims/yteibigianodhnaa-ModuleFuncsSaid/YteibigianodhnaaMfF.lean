/-
  module: a function's type.
-/
import Derived.Test.YteibigianodhnaaMfE
set_option linter.unusedVariables false
set_option linter.unusedSimpArgs false
namespace Go.Proofs.Yteibigianodhnaa
open Go.RowKit

/-- A type, as a record. -/
structure Ft where
  p : List UInt8
  r : List UInt8
instance : Inhabited Ft := ⟨⟨[], []⟩⟩
def Ft.cells (x : Ft) : List Value := [.string (str x.p), .string (str x.r)]
theorem Ft.two (x : Ft) : x.cells.length = 2 := rfl
def fts (l : List Ft) : List Value := l.flatMap Ft.cells
theorem fnA_mem (l : List Im) (fs : List Nat) (h1 : ∀ x ∈ l, x.t < 4294967296) (h2 : ∀ x ∈ fs, x < 4294967296) : ∀ x ∈ fnA l fs, x < 4294967296 := by
  intro x hx
  rcases List.mem_append.1 hx with hx | hx
  · obtain ⟨y, hy, rfl⟩ := List.mem_map.1 hx
    exact h1 y (List.mem_of_mem_take (List.mem_filter.1 hy).1)
  · exact h2 x hx
theorem fnA_len (l : List Im) (fs : List Nat) (n m : Nat) (h1 : n = l.length) (h2 : m = fs.length) (hn : n ≤ 100) (hm : m ≤ 100) : (fnA l fs).length ≤ 200 := by
  have := fnL_len l l.length
  rw [fnA, List.length_append]
  omega
/-- The type number that a function has, where there is such a type. -/
def okF (L : List Nat) (tn f : Nat) : Prop := ∃ h : f < L.length, L[f] < tn

set_option maxRecDepth 100000 in
set_option maxHeartbeats 6400000 in
theorem typeof_none (w : World) (T I Fa : Option Addr) (tn tc n ic m fc : Nat) (x3 x4 x5 x6 x7 x8 x9 x10 x11 x12 x13 x14 x15 x16 : Value) (l : List Im) (fs : List Nat) (ts : List Ft) (S S' S'' : Nat → Prop) (HN : Hid (n = l.length)) (hn : n ≤ 100) (HM : Hid (m = fs.length)) (hm : m ≤ 100) (HTn : Hid (tn = ts.length)) (htn : tn < 9223372036854775808) (hr : Reads w S 9 I n (ims l)) (hf : Reads w S' 1 Fa m (u32s fs)) (ht : Reads w S'' 2 T tn (fts ts)) (f : Nat) (hfb : f < 4294967296) (hLb : ∀ x ∈ fnA l fs, x < 4294967296) (hno : ¬ okF (fnA l fs) tn f) :
    Calls Try.prog 7 #[.agg #[.slice T tn tc, .slice I n ic, .slice Fa m fc, x3, x4, x5, x6, x7, x8, x9, x10, x11, x12, x13, x14, x15, x16], .int .u32 (f : Int)] w fun e w' => e = .returned (.tuple #[.agg #[.string { data := #[] }, .string { data := #[] }], .bool false]) ∧ Step (fun _ => False) w w' := by
  obtain ⟨v2, hv2⟩ : ∃ v2, v2 = (w.alloc (.cells #[.slice T tn tc, .slice I n ic, .slice Fa m fc, x3, x4, x5, x6, x7, x8, x9, x10, x11, x12, x13, x14, x15, x16] 36)).alloc (.cells #[.string { data := #[] }, .string { data := #[] }] 40) := ⟨_, rfl⟩
  have HB : Hid (Blk v2 w.heap.size 36 #[.slice T tn tc, .slice I n ic, .slice Fa m fc, x3, x4, x5, x6, x7, x8, x9, x10, x11, x12, x13, x14, x15, x16]) := by rw [hv2]; exact (Blk.new w _ _).alloc _
  have HP : Hid (Blk v2 (w.heap.size + 1) 40 #[.string { data := #[] }, .string { data := #[] }]) := by
    rw [hv2]
    have := Blk.new (w.alloc (.cells #[.slice T tn tc, .slice I n ic, .slice Fa m fc, x3, x4, x5, x6, x7, x8, x9, x10, x11, x12, x13, x14, x15, x16] 36)) 40 #[.string { data := #[] }, .string { data := #[] }]
    exact Lib.hid (by simpa using this)
  have HS : Hid (Step (fun _ => False) w v2) := by rw [hv2]; exact (Step.refl.alloc _).alloc _
  have hsz : v2.heap.size = w.heap.size + 2 := by rw [hv2]; simp
  have HF := Lib.hid (funcs_ok v2 T I Fa tn tc n ic m fc x3 x4 x5 x6 x7 x8 x9 x10 x11 x12 x13 x14 x15 x16 l fs S S' HN hn HM hm (hr.step HS.out (fun _ _ => id)) (hf.step HS.out (fun _ _ => id)))
  have HT := Lib.hid ((ht.mono (S' := fun k => k < w.heap.size) (fun k hk _ => hk)).step HS.out (fun _ _ => id))
  have hKb := fnA_len l fs n m HN.out HM.out hn hm
  obtain ⟨L, hL⟩ : ∃ L, L = fnA l fs := ⟨_, rfl⟩
  rw [← hL] at HF hKb hLb hno
  obtain ⟨K, hK⟩ : ∃ K, K = L.length := ⟨_, rfl⟩
  rw [← hK] at HF hKb
  have HK := Lib.hid hK
  have HE := Lib.hid hv2
  have HNO := Lib.hid hno
  clear hr hf ht hK hL hv2 hno
  have c0 := HB.out.cell 0
  have c1 := HB.out.cell 1
  have c2 := HB.out.cell 2
  have c3 := HB.out.cell 3
  have c4 := HB.out.cell 4
  have c5 := HB.out.cell 5
  have c6 := HB.out.cell 6
  have c7 := HB.out.cell 7
  have c8 := HB.out.cell 8
  have c9 := HB.out.cell 9
  have c10 := HB.out.cell 10
  have c11 := HB.out.cell 11
  have c12 := HB.out.cell 12
  have c13 := HB.out.cell 13
  have c14 := HB.out.cell 14
  have c15 := HB.out.cell 15
  have c16 := HB.out.cell 16
  simp at c0 c1 c2 c3 c4 c5 c6 c7 c8 c9 c10 c11 c12 c13 c14 c15 c16
  rw [HE.out] at c0 c1 c2 c3 c4 c5 c6 c7 c8 c9 c10 c11 c12 c13 c14 c15 c16
  go_enter Try.func7, Try.ntmps7
  go_wp2_with fail
  rw [← HE.out]
  refine HF.out.mono ?_
  rintro e w5 ⟨D, cD, rfl, hown, hs⟩
  clear c0 c1 c2 c3 c4 c5 c6 c7 c8 c9 c10 c11 c12 c13 c14 c15 c16
  have HB5 := Lib.hid (HB.out.step hs id)
  have HP5 := Lib.hid (HP.out.step hs id)
  have HT5 := Lib.hid (HT.out.step hs (fun _ _ => id))
  have HS5 := Lib.hid (HS.out.trans hs)
  have HO5 := Lib.hid hown
  have hs5 := hs.size
  clear hs hown HF HB HP HT HS HE
  have w1 := IntWalk.u64_in (f : Int) (by omega)
  have w2 := IntWalk.u64_in (K : Int) (by omega)
  have w3 := IntWalk.u64_in (tn : Int) (by omega)
  have c0 := HB5.out.cell 0
  simp at c0
  have p0 := HP5.out.cell 0
  have p1 := HP5.out.cell 1
  simp at p0 p1
  have z0 := HP5.out.frozen 0
  have z1 := HP5.out.frozen 1
  by_cases hfK : f < K
  · have hqb := hLb L[f] (List.getElem_mem (by rw [← HK.out]; exact hfK))
    have hq2 : ¬ L[f] < tn := fun h => HNO.out ⟨by rw [← HK.out]; exact hfK, h⟩
    obtain ⟨bb, rfl, hbb, hbl, hcc, _⟩ := own_row HO5.out (by omega)
    have hcu := hcc f _ (u32s_get L f (by rw [← HK.out]; exact hfK))
    clear hcc
    obtain ⟨q, hq⟩ : ∃ q, q = L[f] := ⟨_, rfl⟩
    rw [← hq] at hcu hqb hq2
    have w4 := IntWalk.u64_in (q : Int) (by omega)
    have HQ := Lib.hid hq
    clear hq
    have g1 : decide ((K : Int) ≤ (f : Int)) = false := by simp; omega
    have g1n : decide (K ≤ f) = false := by simp; omega
    have g1' : ¬ (K : Int) ≤ (f : Int) := by omega
    have g2 : decide ((tn : Int) ≤ (q : Int)) = true := by simp; omega
    have g2n : decide (tn ≤ q) = true := by simp; omega
    have g2' : (tn : Int) ≤ (q : Int) := by omega
    have g3 : (f : Int) < (K : Int) := by omega
    have g4 : (0 : Int) ≤ (f : Int) := by omega
    go_wp2_with fail
    go_quiet (fail)
    go_wp2_with fail
    refine bodyPost_ret (v := .tuple #[.agg #[.string { data := #[] }, .string { data := #[] }], .bool false]) (by simp [results, Try.results7, go_sem, p0, p1]) rfl ?_
    exact ⟨rfl, ((HS5.out.drewN _).setCell (p := ⟨w.heap.size + 1, 0, none⟩) (.inr (Nat.le_succ _)) _).setCell (p := ⟨w.heap.size + 1, 1, none⟩) (.inr (Nat.le_succ _)) _⟩
  · have g1 : decide ((K : Int) ≤ (f : Int)) = true := by simp; omega
    have g1n : decide (K ≤ f) = true := by simp; omega
    have g1' : (K : Int) ≤ (f : Int) := by omega
    go_wp2_with fail
    go_quiet (fail)
    go_wp2_with fail
    refine bodyPost_ret (v := .tuple #[.agg #[.string { data := #[] }, .string { data := #[] }], .bool false]) (by simp [results, Try.results7, go_sem, p0, p1]) rfl ?_
    exact ⟨rfl, ((HS5.out.drewN _).setCell (p := ⟨w.heap.size + 1, 0, none⟩) (.inr (Nat.le_succ _)) _).setCell (p := ⟨w.heap.size + 1, 1, none⟩) (.inr (Nat.le_succ _)) _⟩

set_option maxRecDepth 100000 in
set_option maxHeartbeats 6400000 in
theorem typeof_some (w : World) (T I Fa : Option Addr) (tn tc n ic m fc : Nat) (x3 x4 x5 x6 x7 x8 x9 x10 x11 x12 x13 x14 x15 x16 : Value) (l : List Im) (fs : List Nat) (ts : List Ft) (S S' S'' : Nat → Prop) (HN : Hid (n = l.length)) (hn : n ≤ 100) (HM : Hid (m = fs.length)) (hm : m ≤ 100) (HTn : Hid (tn = ts.length)) (htn : tn < 9223372036854775808) (hr : Reads w S 9 I n (ims l)) (hf : Reads w S' 1 Fa m (u32s fs)) (ht : Reads w S'' 2 T tn (fts ts)) (f : Nat) (hfb : f < 4294967296) (hLb : ∀ x ∈ fnA l fs, x < 4294967296) (q : Nat) (hqe : (fnA l fs)[f]? = some q) (hq2 : q < tn) (x : Ft) (hx : ts[q]? = some x) :
    Calls Try.prog 7 #[.agg #[.slice T tn tc, .slice I n ic, .slice Fa m fc, x3, x4, x5, x6, x7, x8, x9, x10, x11, x12, x13, x14, x15, x16], .int .u32 (f : Int)] w fun e w' => e = .returned (.tuple #[.agg #[.string (str x.p), .string (str x.r)], .bool true]) ∧ Step (fun _ => False) w w' := by
  obtain ⟨v2, hv2⟩ : ∃ v2, v2 = (w.alloc (.cells #[.slice T tn tc, .slice I n ic, .slice Fa m fc, x3, x4, x5, x6, x7, x8, x9, x10, x11, x12, x13, x14, x15, x16] 36)).alloc (.cells #[.string { data := #[] }, .string { data := #[] }] 40) := ⟨_, rfl⟩
  have HB : Hid (Blk v2 w.heap.size 36 #[.slice T tn tc, .slice I n ic, .slice Fa m fc, x3, x4, x5, x6, x7, x8, x9, x10, x11, x12, x13, x14, x15, x16]) := by rw [hv2]; exact (Blk.new w _ _).alloc _
  have HP : Hid (Blk v2 (w.heap.size + 1) 40 #[.string { data := #[] }, .string { data := #[] }]) := by
    rw [hv2]
    have := Blk.new (w.alloc (.cells #[.slice T tn tc, .slice I n ic, .slice Fa m fc, x3, x4, x5, x6, x7, x8, x9, x10, x11, x12, x13, x14, x15, x16] 36)) 40 #[.string { data := #[] }, .string { data := #[] }]
    exact Lib.hid (by simpa using this)
  have HS : Hid (Step (fun _ => False) w v2) := by rw [hv2]; exact (Step.refl.alloc _).alloc _
  have hsz : v2.heap.size = w.heap.size + 2 := by rw [hv2]; simp
  have HF := Lib.hid (funcs_ok v2 T I Fa tn tc n ic m fc x3 x4 x5 x6 x7 x8 x9 x10 x11 x12 x13 x14 x15 x16 l fs S S' HN hn HM hm (hr.step HS.out (fun _ _ => id)) (hf.step HS.out (fun _ _ => id)))
  have HT := Lib.hid ((ht.mono (S' := fun k => k < w.heap.size) (fun k hk _ => hk)).step HS.out (fun _ _ => id))
  have hKb := fnA_len l fs n m HN.out HM.out hn hm
  obtain ⟨L, hL⟩ : ∃ L, L = fnA l fs := ⟨_, rfl⟩
  rw [← hL] at HF hKb hLb hqe
  obtain ⟨K, hK⟩ : ∃ K, K = L.length := ⟨_, rfl⟩
  rw [← hK] at HF hKb
  have HK := Lib.hid hK
  have HE := Lib.hid hv2
  clear hr hf ht hK hL hv2
  have c0 := HB.out.cell 0
  have c1 := HB.out.cell 1
  have c2 := HB.out.cell 2
  have c3 := HB.out.cell 3
  have c4 := HB.out.cell 4
  have c5 := HB.out.cell 5
  have c6 := HB.out.cell 6
  have c7 := HB.out.cell 7
  have c8 := HB.out.cell 8
  have c9 := HB.out.cell 9
  have c10 := HB.out.cell 10
  have c11 := HB.out.cell 11
  have c12 := HB.out.cell 12
  have c13 := HB.out.cell 13
  have c14 := HB.out.cell 14
  have c15 := HB.out.cell 15
  have c16 := HB.out.cell 16
  simp at c0 c1 c2 c3 c4 c5 c6 c7 c8 c9 c10 c11 c12 c13 c14 c15 c16
  rw [HE.out] at c0 c1 c2 c3 c4 c5 c6 c7 c8 c9 c10 c11 c12 c13 c14 c15 c16
  go_enter Try.func7, Try.ntmps7
  go_wp2_with fail
  rw [← HE.out]
  refine HF.out.mono ?_
  rintro e w5 ⟨D, cD, rfl, hown, hs⟩
  clear c0 c1 c2 c3 c4 c5 c6 c7 c8 c9 c10 c11 c12 c13 c14 c15 c16
  have HB5 := Lib.hid (HB.out.step hs id)
  have HP5 := Lib.hid (HP.out.step hs id)
  have HT5 := Lib.hid (HT.out.step hs (fun _ _ => id))
  have HS5 := Lib.hid (HS.out.trans hs)
  have HO5 := Lib.hid hown
  have hs5 := hs.size
  clear hs hown HF HB HP HT HS HE
  have w1 := IntWalk.u64_in (f : Int) (by omega)
  have w2 := IntWalk.u64_in (K : Int) (by omega)
  have w3 := IntWalk.u64_in (tn : Int) (by omega)
  have c0 := HB5.out.cell 0
  simp at c0
  have p0 := HP5.out.cell 0
  have p1 := HP5.out.cell 1
  simp at p0 p1
  have z0 := HP5.out.frozen 0
  have z1 := HP5.out.frozen 1
  have hfK : f < K := by rw [HK.out]; exact (List.getElem?_eq_some_iff.1 hqe).1
  have hqb : q < 4294967296 := hLb q (List.mem_of_getElem? hqe)
  obtain ⟨bb, rfl, hbb, hbl, hcc, _⟩ := own_row HO5.out (by omega)
  have hcu := hcc f (.int .u32 (q : Int)) (by simp [u32s, hqe])
  clear hcc
  have w4 := IntWalk.u64_in (q : Int) (by omega)
  replace hqe := Lib.hid hqe
  have hql : q < ts.length := by rw [← HTn.out]; exact hq2
  obtain ⟨bt, oft, rfl, hbS, hbt, hct⟩ := reads_row Ft.cells 2 (by decide) Ft.two HT5.out (k := q) hql
  have hxe : ts[q] = x := by rw [List.getElem?_eq_getElem hql] at hx; injection hx
  rw [hxe] at hct
  have t0 := hct 0 _ rfl
  have t1 := hct 1 _ rfl
  simp only [Nat.add_zero] at t0
  clear hct hxe hx hql
  have g1 : decide ((K : Int) ≤ (f : Int)) = false := by simp; omega
  have g1n : decide (K ≤ f) = false := by simp; omega
  have g1' : ¬ (K : Int) ≤ (f : Int) := by omega
  have g2 : decide ((tn : Int) ≤ (q : Int)) = false := by simp; omega
  have g2n : decide (tn ≤ q) = false := by simp; omega
  have g2' : ¬ (tn : Int) ≤ (q : Int) := by omega
  have g3 : (f : Int) < (K : Int) := by omega
  have g4 : (0 : Int) ≤ (f : Int) := by omega
  have g5 : (q : Int) < (tn : Int) := by omega
  have g6 : (0 : Int) ≤ (q : Int) := by omega
  go_wp2_with fail
  go_quiet (fail)
  go_wp2_with fail
  obtain ⟨W, hW⟩ : ∃ W, W = w5.drewN nq := ⟨_, rfl⟩
  have HPW : Hid (Blk W (w.heap.size + 1) 40 #[.string { data := #[] }, .string { data := #[] }]) := by rw [hW]; exact HP5.out.drewN _
  have HSW : Hid (Step (fun _ => False) w W) := by rw [hW]; exact HS5.out.drewN _
  have k0 : W.cell? ⟨w.heap.size, 0, none⟩ = some (.slice (some ⟨bt, oft, none⟩) tn tc) := by rw [hW]; exact c0
  have k1 : W.cell? ⟨bb, f, none⟩ = some (.int .u32 (q : Int)) := by rw [hW]; exact hcu
  have k2 : W.cell? ⟨bt, oft + q * 2, none⟩ = some (.string (str x.p)) := by rw [hW]; exact t0
  have k3 : W.cell? ⟨bt, oft + q * 2 + 1, none⟩ = some (.string (str x.r)) := by rw [hW]; exact t1
  rw [← hW]
  clear hW c0 hcu t0 t1 p0 p1 z0 z1 HP5 HS5 HB5 HT5 HO5
  obtain ⟨F2, hF2⟩ : ∃ F2 : Nat → Prop, F2 = fun q => q = w.heap.size + 1 := ⟨_, rfl⟩
  have d0 := cls_cell (F := F2) (w0 := W) k0 (by rw [hF2]; simp)
  have d1 := cls_cell (F := F2) (w0 := W) k1 (by rw [hF2]; show ¬ bb = w.heap.size + 1; omega)
  have d2 := cls_cell (F := F2) (w0 := W) k2 (by rw [hF2]; show ¬ bt = w.heap.size + 1; omega)
  have d3 := cls_cell (F := F2) (w0 := W) k3 (by rw [hF2]; show ¬ bt = w.heap.size + 1; omega)
  have HF2 := Lib.hid hF2
  clear hF2 k0 k1 k2 k3
  refine Mix.wp_region_mix [8] [8] (Step F2 W) (by kernel_rfl) (by kernel_rfl) Step.refl.drew (fun hcls => ?_)
  refine Mix.wpL_reads 8 (by rfl) ?_
  simp only [List.take_succ_cons, List.drop_succ_cons, List.take_zero, List.drop_zero]
  repeat (go_big_quiet_step (fail))
  refine wpQuiet_nil ?_
  have z0 := HPW.out.frozen 0
  have z1 := HPW.out.frozen 1
  have r0 := HPW.out.cell 0
  have r1 := HPW.out.cell 1
  simp at r0 r1
  refine Mix.wpL_op (by rfl) (fun K hK => ?_)
  go_simp
  obtain ⟨W8, hW8⟩ : ∃ W8, W8 = (W.setCell ⟨w.heap.size + 1, 0, none⟩ (.string (str x.p))).setCell ⟨w.heap.size + 1, 1, none⟩ (.string (str x.r)) := ⟨_, rfl⟩
  have HP8 : Hid (Blk W8 (w.heap.size + 1) 40 #[.string (str x.p), .string (str x.r)]) := by
    have hq := (HPW.out.set_ 0 (.string (str x.p))).set_ 1 (.string (str x.r))
    rw [← hW8] at hq
    simp at hq
    exact hq
  have HT8 : Hid (Step (fun q => q = w.heap.size + 1) W W8) := by
    rw [hW8]
    exact ((Step.refl (F := fun q => q = w.heap.size + 1)).setCell (p := ⟨w.heap.size + 1, 0, none⟩) (.inl rfl) _).setCell (p := ⟨w.heap.size + 1, 1, none⟩) (.inl rfl) _
  rw [← hW8]
  refine hK _ _ (fun hlt => Mix.cl (HF2.out.symm ▸ HT8.out.drew)) ?_
  clear hK K
  clear z0 z1 r0 r1 hW8
  refine Mix.wpL_reads 1 (by rfl) ?_
  simp only [List.take_succ_cons, List.drop_succ_cons, List.take_zero, List.drop_zero]
  repeat (go_big_quiet_step (fail))
  refine wpQuiet_nil ?_
  refine Mix.wpL_end ?_
  go_wp2_with fail
  have p4 := HP8.out.cell 0
  have p5 := HP8.out.cell 1
  simp at p4 p5
  refine bodyPost_ret (v := .tuple #[.agg #[.string (str x.p), .string (str x.r)], .bool true]) (by simp [results, Try.results7, go_sem, p4, p5]) rfl ?_
  exact ⟨rfl, (HSW.out.trans' HT8.out (fun i hi => .inr (by omega))).drew⟩
end Go.Proofs.Yteibigianodhnaa
