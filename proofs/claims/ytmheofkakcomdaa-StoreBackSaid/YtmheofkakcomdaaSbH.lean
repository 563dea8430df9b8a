/-
  store: Write, Grow, SetSlot, GrowTable, Swap, with the journal open or shut.
-/
import Derived.Test.YtmheofkakcomdaaSbG
set_option linter.unusedVariables false
set_option linter.unusedSimpArgs false
namespace Go.Proofs.Ytmheofkakcomdaa
open Go.RowKit
section
variable {w : World} {B : Nat} {r : Rc}
theorem cst_S {r' : Rc} (h : r'.cst = r.cst) : r'.S = r.S := congrArg Ct.S h
theorem cst_M {r' : Rc} (h : r'.cst = r.cst) : r'.M = r.M := congrArg Ct.M h
theorem cst_T {r' : Rc} (h : r'.cst = r.cst) : r'.T = r.T := congrArg Ct.T h
theorem cst_Fu {r' : Rc} (h : r'.cst = r.cst) : r'.Fu = r.Fu := congrArg Ct.Fu h
theorem cst_J {r' : Rc} (h : r'.cst = r.cst) : r'.J = r.J := congrArg Ct.J h
theorem cst_K {r' : Rc} (h : r'.cst = r.cst) : r'.K = r.K := congrArg Ct.K h
theorem vw_l {r' : Rc} {v : Vw} (h : r'.vw = v) : r'.l = v.l := congrArg Vw.l h
theorem Ws.jl (h : Ws w B r) : r.nl = r.es.length := h.jn.ll
theorem w_write_err (h : Ws w B r) (a k kc : Nat) (A' : Option Addr) (ha : a < 18446744073709551616) (hk : k ≤ 9223372036854775807) (hak : r.l.length < a + k) :
    Calls Try.prog 30 #[.pointer (some ⟨r.S, 0, none⟩), .int .u64 (a : Int), .slice A' k kc] w fun e w' => e = .returned (.int .i64 63) ∧ w' = w := by
  have c0 := h.c0
  have HR := Lib.hid (mread_err w B r.M r.A r.n r.c r.most r.l a (k : Int) h.mm ha (by omega) (.inr (by rw [h.mm.len]; omega)))
  clear h
  go_enter Try.func30, Try.ntmps30
  go_wp2_with fail
  refine HR.out.mono ?_
  rintro e w' ⟨rfl, rfl⟩
  go_wp2_with fail
  go_ret
  exact ⟨rfl, rfl⟩
set_option maxRecDepth 100000 in
set_option maxHeartbeats 3200000 in
theorem w_write_ok (h : Ws w B r) (a k kc : Nat) (A' : Option Addr) (S' : Nat → Prop) (d : List UInt8) (hr : Reads w S' 1 A' k (u8s d)) (hS' : ∀ q, S' q → ¬ r.foot q) (hk : k = d.length) (hak : a + k ≤ r.l.length) (hB : B ≤ w.heap.size) (hl : r.es.length ≤ 1000000) :
    Calls Try.prog 30 #[.pointer (some ⟨r.S, 0, none⟩), .int .u64 (a : Int), .slice A' k kc] w fun e w' => e = .returned (.int .i64 0) ∧
      Out w B r { r.vw with l := r.l.take a ++ d ++ r.l.drop (a + k), es := jes r.ms r.es ⟨1, a, 0, (r.l.drop a).take k⟩ } w' := by
  have HA : Hid (a + k ≤ r.n) := by rw [Hid, h.mm.len]; exact hak
  have hsm := h.mm.small
  have c0 := h.c0
  have HR := Lib.hid (mread_ok w B r.M r.A r.n r.c r.most r.l a k h.mm HA.out)
  have H := Lib.hid h
  have HRd := Lib.hid hr
  have HS' := Lib.hid hS'
  have HK := Lib.hid hk
  have hal : a ≤ 16777216 := by have := HA.out; omega
  have wa : wrap64 (a : Int) = (a : Int) := by unfold wrap64; omega
  have hl2 : r.nl ≤ 1000000 := by rw [h.jl]; exact hl
  clear h hr hS' hk hak hsm
  go_enter Try.func30, Try.ntmps30
  go_wp2_with fail
  refine HR.out.mono ?_
  rintro e w1 ⟨A1, c1, rfl, hown, hS⟩
  have H1 := Lib.hid (H.out.quiet hS)
  have HRd1 := Lib.hid (HRd.out.step hS (fun _ _ => id))
  have HS1 := Lib.hid hS
  have x5 := H1.out.c5
  have d5 := cls_cell (F := fun _ => False) (w0 := w1) x5 id
  have hcv : ∀ i : Mix.Cls (Step (fun _ => False) w1), (convert 39 9 (.slice A1 k c1)).run Try.prog i.val = .ok (.string (str ((r.l.drop a).take k))) i.val := fun i => conv_bytes (c := c1) ((Reads.of_own hown).step i.prop (fun _ _ => id))
  have HN := Lib.hid (w_note (H1.out.quiet Step.refl.drew) (Nat.le_trans hB hS.drew.size) hl2 ⟨1, a, 0, (r.l.drop a).take k⟩)
  clear hown hS HR c0 x5
  go_wp2_with fail
  refine Mix.wp_region_mix [9] [] (Step (fun _ => False) w1) (by kernel_rfl) (by kernel_rfl) (Step.refl.drew) (fun hcls => ?_)
  refine Mix.wpL_reads 9 (by rfl) ?_
  simp only [List.take_succ_cons, List.drop_succ_cons, List.take_zero, List.drop_zero]
  repeat (go_big_quiet_step (fail))
  refine wpQuiet_nil ?_
  clear d5 hcv
  refine Mix.wpL_op (by rfl) (fun K hK => ?_)
  go_simp
  refine HN.out.mono ?_
  rintro e w2 ⟨rfl, r2, hW2, hu2, hc2, hv2⟩
  refine hK _ _ (fun hlt => absurd hlt (by decide)) ?_
  clear hK K
  refine Mix.wpL_end ?_
  have H2 := Lib.hid hW2
  have HU2 := Lib.hid hu2
  have HC2 := Lib.hid hc2
  have HV2 := Lib.hid hv2
  have HRd2 := Lib.hid (((HRd1.out.drew).mono (S' := S') (fun q _ hq => hq)).step hu2.1 (fun q hq => HS'.out q hq))
  have hm2 := cst_M hc2
  have hM := H2.out.mm
  have hl3 : r2.l = r.l := vw_l hv2
  have hW := mwrite_ok w2 B r2.M r2.A r2.n r2.c r2.most r2.l d a k kc _ A' hM HRd2.out HK.out (by rw [hM.len, hl3, ← H.out.mm.len]; exact HA.out)
  rw [hm2] at hW
  have x0 := hW2.c0
  rw [cst_S hc2, hm2] at x0
  have HW := Lib.hid hW
  have HL3 := Lib.hid hl3
  clear hW2 hu2 hc2 hv2 hm2 hM hl3 hW HN H1 HRd1
  go_wp2_with fail
  refine HW.out.mono ?_
  rintro e w3 ⟨rfl, hM3, hs3⟩
  have HM3 := Lib.hid hM3
  have HS3 := Lib.hid hs3
  clear hM3 hs3 HW x0
  go_wp2_with fail
  go_ret
  have hM3 := HM3.out
  rw [← cst_M HC2.out] at hM3
  have hh := H2.out.mem hM3 ⟨HS3.out.mono fun _ _ e => .inr e, fun _ hk => .inl hk⟩
  refine ⟨rfl, _, hh.1, (Upd.after HS1.out.drew HU2.out).trans hh.2, HC2.out, ?_⟩
  rw [HL3.out]
  have := HV2.out
  show Vw.mk _ r2.lt r2.vs r2.nn r2.f (r2.fs.map (Option.map Fv.cs)) r2.cells r2.es r2.ms = _
  have e2 : r2.vw = ⟨r2.l, r2.lt, r2.vs, r2.nn, r2.f, r2.fs.map (Option.map Fv.cs), r2.cells, r2.es, r2.ms⟩ := rfl
  rw [e2] at this
  injection this with q1 q2 q3 q4 q5 q6 q7 q8 q9
  rw [q2, q3, q4, q5, q6, q7, q8, q9]
/-- An entry without bytes. -/
theorem w_note0 (h : Ws w B r) (hB : B ≤ w.heap.size) (hl : r.es.length ≤ 1000000) (k a o : Int) :
    Calls Try.prog 37 #[.pointer (some ⟨r.J, 0, none⟩), .agg #[.int .i64 k, .int .i64 a, .int .u64 o, .string ⟨#[]⟩]] w fun e w' => e = .returned (.tuple #[]) ∧ Out w B r { r.vw with es := jes r.ms r.es ⟨k, a, o, []⟩ } w' :=
  w_note h hB (by rw [h.jl]; exact hl) ⟨k, a, o, []⟩
theorem w_grow_no (h : Ws w B r) (k p : Nat) (hp : r.l.length = p * 65536) (hk : r.most - (p : Int) < (k : Int)) (hm : (p : Int) ≤ r.most) (hm2 : r.most ≤ 256) (hk2 : k < 18446744073709551616) :
    Calls Try.prog 53 #[.pointer (some ⟨r.S, 0, none⟩), .int .u64 (k : Int)] w fun e w' => e = .returned (.tuple #[.int .i64 0, .bool false]) ∧ Step (fun _ => False) w w' := by
  have c0 := h.c0
  have HG := Lib.hid (m_grow_no k h.mm p (by rw [h.mm.len]; exact hp) hk hm hm2 hk2)
  clear h hp hk hm hm2 hk2
  go_enter Try.func53, Try.ntmps53
  go_wp2_with fail
  refine HG.out.mono ?_
  rintro e w' ⟨rfl, hs⟩
  go_wp2_with fail
  go_ret2
  exact ⟨rfl, hs⟩
set_option maxRecDepth 100000 in
set_option maxHeartbeats 3200000 in
theorem w_grow_ok (h : Ws w B r) (hB : B ≤ w.heap.size) (hl : r.es.length ≤ 1000000) (k p : Nat) (hp : r.l.length = p * 65536) (hk : (p : Int) + (k : Int) ≤ r.most) (hm2 : r.most ≤ 256) :
    Calls Try.prog 53 #[.pointer (some ⟨r.S, 0, none⟩), .int .u64 (k : Int)] w fun e w' => e = .returned (.tuple #[.int .i64 (p : Int), .bool true]) ∧
      Out w B r { r.vw with l := r.l ++ List.replicate (k * 65536) 0, es := jes r.ms r.es ⟨2, p, 0, []⟩ } w' := by
  have c0 := h.c0
  have HG := Lib.hid (m_grow_ok k h.mm hB p (by rw [h.mm.len]; exact hp) hk hm2)
  have H := Lib.hid h
  clear h hp hk hm2
  go_enter Try.func53, Try.ntmps53
  go_wp2_with fail
  refine HG.out.mono ?_
  rintro e w1 ⟨rfl, A', c', hM, hu⟩
  have hh := H.out.mem hM hu
  have H1 := Lib.hid hh.1
  have U1 := Lib.hid hh.2
  have x5 := hh.1.c5
  simp only at x5
  have HN := Lib.hid (w_note0 hh.1 (Nat.le_trans hB hu.1.size) hl 2 (p : Int) 0)
  clear hM hu hh HG c0
  go_wp2_with fail
  refine HN.out.mono ?_
  rintro e w2 ⟨rfl, ho⟩
  have HO := Lib.hid (Out.step H.out U1.out rfl ho)
  clear ho
  go_wp2_with fail
  go_ret2
  exact ⟨rfl, HO.out⟩
theorem w_set_trap (h : Ws w B r) (i x : Int) (hi : i < 0 ∨ (r.lt.length : Int) ≤ i) :
    Calls Try.prog 54 #[.pointer (some ⟨r.S, 0, none⟩), .int .i64 i, .int .i64 x] w fun e w' => e = .returned (.int .i64 64) ∧ w' = w := by
  have c1 := h.c1
  have HT := Lib.hid (tslot_err w B r.T r.At r.nt r.ct r.mt r.lt i h.tb (by rw [h.tb.len]; exact hi))
  clear h hi
  go_enter Try.func54, Try.ntmps54
  go_wp2_with fail
  refine HT.out.mono ?_
  rintro e w' ⟨rfl, rfl⟩
  go_wp2_with fail
  go_ret
  exact ⟨rfl, rfl⟩
theorem w_set_arg (h : Ws w B r) (i : Nat) (x y : Int) (hy : r.lt[i]? = some y) (hx : x < -1) :
    Calls Try.prog 54 #[.pointer (some ⟨r.S, 0, none⟩), .int .i64 (i : Int), .int .i64 x] w fun e w' => e = .returned (.int .i64 1) ∧ w' = w := by
  have c1 := h.c1
  have hi : i < r.nt := by rw [h.tb.len]; exact (List.getElem?_eq_some_iff.1 hy).1
  have HT := Lib.hid (tslot_ok w B r.T r.At r.nt r.ct r.mt r.lt i y h.tb hi hy)
  have HS := Lib.hid (tset_arg w B r.T r.At r.nt r.ct r.mt r.lt i x h.tb hi hx)
  clear h hi hy hx
  go_enter Try.func54, Try.ntmps54
  go_wp2_with fail
  refine HT.out.mono ?_
  rintro e w' ⟨rfl, hw⟩
  obtain rfl := hw.symm
  clear HT hw
  go_wp2_with fail
  refine HS.out.mono ?_
  rintro e w1 ⟨rfl, rfl⟩
  go_wp2_with fail
  go_ret
  exact ⟨rfl, rfl⟩
set_option maxRecDepth 100000 in
set_option maxHeartbeats 1600000 in
theorem w_set_ok (h : Ws w B r) (hB : B ≤ w.heap.size) (hl : r.es.length ≤ 1000000) (i : Nat) (x y : Int) (hy : r.lt[i]? = some y) (hx : -1 ≤ x) :
    Calls Try.prog 54 #[.pointer (some ⟨r.S, 0, none⟩), .int .i64 (i : Int), .int .i64 x] w fun e w' => e = .returned (.int .i64 0) ∧
      Out w B r { r.vw with lt := r.lt.set i x, es := jes r.ms r.es ⟨3, i, IntKind.u64.wrap (wrap64 (y + 1)), []⟩ } w' := by
  have c1 := h.c1
  have hi : i < r.nt := by rw [h.tb.len]; exact (List.getElem?_eq_some_iff.1 hy).1
  have HT := Lib.hid (tslot_ok w B r.T r.At r.nt r.ct r.mt r.lt i y h.tb hi hy)
  have HS := Lib.hid (tset_ok w B r.T r.At r.nt r.ct r.mt r.lt i x h.tb hi hx)
  have H := Lib.hid h
  clear h hi hy hx
  go_enter Try.func54, Try.ntmps54
  go_wp2_with fail
  refine HT.out.mono ?_
  rintro e w' ⟨rfl, hw⟩
  obtain rfl := hw.symm
  clear HT hw
  go_wp2_with fail
  refine HS.out.mono ?_
  rintro e w1 ⟨rfl, ht, hst⟩
  have hh := H.out.tab ht ⟨hst.mono fun _ _ e => .inr e, fun _ hk => .inl hk⟩
  have H1 := Lib.hid hh.1
  have U1 := Lib.hid hh.2
  have x5 := hh.1.c5
  simp only at x5
  have HN := Lib.hid (w_note0 hh.1 (Nat.le_trans hB hst.size) hl 3 (i : Int) (IntKind.u64.wrap (wrap64 (y + 1))))
  clear ht hst hh HS c1
  go_wp2_with fail
  refine HN.out.mono ?_
  rintro e w2 ⟨rfl, ho⟩
  have HO := Lib.hid (Out.step H.out U1.out rfl ho)
  clear ho
  go_wp2_with fail
  go_ret
  exact ⟨rfl, HO.out⟩
theorem w_gt_no (h : Ws w B r) (k : Int) (hk : k < 0 ∨ r.mt - (r.lt.length : Int) < k) :
    Calls Try.prog 55 #[.pointer (some ⟨r.S, 0, none⟩), .int .i64 k] w fun e w' => e = .returned (.bool false) ∧ Step (fun _ => False) w w' := by
  have c1 := h.c1
  have HL := Lib.hid (t_len h.tb)
  have HG := Lib.hid (t_grow_no k h.tb (by rw [h.tb.len]; exact hk))
  clear h hk
  go_enter Try.func55, Try.ntmps55
  go_wp2_with fail
  refine HL.out.mono ?_
  rintro e w' ⟨rfl, hw⟩
  obtain rfl := hw.symm
  clear HL hw
  go_wp2_with fail
  refine HG.out.mono ?_
  rintro e w1 ⟨rfl, hs⟩
  go_wp2_with fail
  go_ret
  exact ⟨rfl, hs⟩
set_option maxRecDepth 100000 in
set_option maxHeartbeats 1600000 in
theorem w_gt_ok (h : Ws w B r) (hB : B ≤ w.heap.size) (hl : r.es.length ≤ 1000000) (k : Nat) (hk : (r.lt.length : Int) + (k : Int) ≤ r.mt) :
    Calls Try.prog 55 #[.pointer (some ⟨r.S, 0, none⟩), .int .i64 (k : Int)] w fun e w' => e = .returned (.bool true) ∧
      Out w B r { r.vw with lt := r.lt ++ List.replicate k (-1), es := jes r.ms r.es ⟨4, (r.nt : Int), 0, []⟩ } w' := by
  have c1 := h.c1
  have hlen := h.tb.len
  have HL := Lib.hid (t_len h.tb)
  have HG := Lib.hid (tgrow_ok w B r.T r.At r.nt r.ct r.mt r.lt k h.tb hB (by rw [hlen]; exact hk))
  have H := Lib.hid h
  clear h hk hlen
  go_enter Try.func55, Try.ntmps55
  go_wp2_with fail
  refine HL.out.mono ?_
  rintro e w' ⟨rfl, hw⟩
  obtain rfl := hw.symm
  clear HL hw
  go_wp2_with fail
  refine HG.out.mono ?_
  rintro e w1 ⟨rfl, A', c', ht, hu⟩
  have hh := H.out.tab ht hu
  have H1 := Lib.hid hh.1
  have U1 := Lib.hid hh.2
  have x5 := hh.1.c5
  simp only at x5
  have HN := Lib.hid (w_note0 hh.1 (Nat.le_trans hB hu.1.size) hl 4 (r.nt : Int) 0)
  clear ht hu hh HG c1
  go_wp2_with fail
  refine HN.out.mono ?_
  rintro e w2 ⟨rfl, ho⟩
  have HO := Lib.hid (Out.step H.out U1.out rfl ho)
  clear ho
  go_wp2_with fail
  go_ret
  exact ⟨rfl, HO.out⟩
theorem w_swap_dead (h : Ws w B r) (a t : Int) (hd : swE r.fs a t = false) :
    Calls Try.prog 57 #[.pointer (some ⟨r.S, 0, none⟩), .int .i64 a, .int .i64 t] w fun e w' => e = .returned (.int .i64 47) ∧ w' = w := by
  have c2 := h.c2
  have HF := Lib.hid (f_swap_dead a t h.fn hd)
  clear h hd
  go_enter Try.func57, Try.ntmps57
  go_wp2_with fail
  refine HF.out.mono ?_
  rintro e w' ⟨rfl, rfl⟩
  go_wp2_with fail
  go_ret
  exact ⟨rfl, rfl⟩
set_option maxRecDepth 100000 in
set_option maxHeartbeats 1600000 in
theorem w_swap_ok (h : Ws w B r) (hB : B ≤ w.heap.size) (hl : r.es.length ≤ 1000000) (k t : Nat) (f g : Fv) (p q : ByteArray) (x : Int) (hk : r.fs[k]? = some (some f)) (ht : r.fs[t]? = some (some g)) (hf : f.cs[0]? = some (.string p) ∧ f.cs[1]? = some (.string q)) (hg : g.cs[0]? = some (.string p) ∧ g.cs[1]? = some (.string q)) (hx : r.cells[k]? = some x) :
    Calls Try.prog 57 #[.pointer (some ⟨r.S, 0, none⟩), .int .i64 (k : Int), .int .i64 (t : Int)] w fun e w' => e = .returned (.int .i64 0) ∧
      Out w B r { r.vw with cells := r.cells.set k (t : Int), es := jes r.ms r.es ⟨9, k, IntKind.u64.wrap x, []⟩ } w' := by
  have c2 := h.c2
  have HF := Lib.hid (f_swap_ok k t f g p q x h.fn hk ht hf hg hx)
  have H := Lib.hid h
  clear h hk ht hf hg hx
  go_enter Try.func57, Try.ntmps57
  go_wp2_with fail
  refine HF.out.mono ?_
  rintro e w1 ⟨rfl, hF, hst⟩
  have hh := H.out.fun_ hF ⟨hst.mono fun _ _ e => .inr (.inr (.inl e)), fun _ hk => .inl hk⟩
  have H1 := Lib.hid hh.1
  have U1 := Lib.hid hh.2
  have x5 := hh.1.c5
  simp only at x5
  have HN := Lib.hid (w_note0 hh.1 (Nat.le_trans hB hst.size) hl 9 (k : Int) (IntKind.u64.wrap x))
  clear hF hst hh HF c2
  go_wp2_with fail
  refine HN.out.mono ?_
  rintro e w2 ⟨rfl, ho⟩
  have HO := Lib.hid (Out.step H.out U1.out rfl ho)
  clear ho
  go_wp2_with fail
  go_ret
  exact ⟨rfl, HO.out⟩
end
end Go.Proofs.Ytmheofkakcomdaa
