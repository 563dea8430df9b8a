/-
  store: SetGlobal, AddInst, AddFunc of a whole store.
-/
import Derived.Test.YtmheofkakcomdaaSbI
import Derived.Test.YtmheofkakcomdaaGsB
set_option linter.unusedVariables false
set_option linter.unusedSimpArgs false
namespace Go.Proofs.Ytmheofkakcomdaa
open Go.RowKit
section
variable {w w' : World} {B : Nat} {r : Rc}
theorem Ws.look (h : Ws w B r) (i : Int) (hi : (Lit.int .i64 i).wf = true) : (Instr.lookup 76 (.map (some r.K)) (.int .i64 i) true).run Try.prog w = .ok (.tuple #[(r.f i).getD IZ, .bool (r.f i).isSome]) w :=
  h.mp.look_ok Try.underlying3 Try.underlying76 (z := IZ) (by kernel_rfl) i hi
theorem gaF_at {l : List Vr} {a : Int} {g : Vr} (hg : gaF l a = some g) : ∃ k : Nat, a = (k : Int) ∧ ∃ hk : k < l.length, g = l[k] := by
  rw [gaF] at hg
  split at hg
  · rename_i hc
    split at hg
    · injection hg with hg
      have hk : a.toNat < l.length := by omega
      refine ⟨a.toNat, by omega, hk, ?_⟩
      rw [← hg, List.getD_eq_getElem?_getD, List.getElem?_eq_getElem hk]
      rfl
    · cases hg
  · cases hg
set_option maxRecDepth 100000 in
set_option maxHeartbeats 3200000 in
theorem w_setglobal_no (a : Int) (vt n : Nat) (h : Ws w B r) (ha : r.vs.length ≤ 1000) (hb : ∀ v ∈ r.vs, v.vt < 256) (hz : sgF r.vs a vt ≠ 0) :
    Calls Try.prog 10 #[.pointer (some ⟨r.S, 0, none⟩), .int .i64 a, .agg #[.int .u8 (vt : Int), .int .u64 (n : Int)]] w fun e w' => e = .returned (.int .i64 (sgF r.vs a vt : Nat)) ∧ Step (fun _ => False) w w' := by
  obtain ⟨V, hV⟩ : ∃ V, V = w.alloc (.cells #[.int .u8 (vt : Int), .int .u64 (n : Int)] 38) := ⟨_, rfl⟩
  have st : Step (fun _ => False) w V := by rw [hV]; exact Step.refl.alloc _
  have HX := Lib.hid (Blk.new w 38 #[.int .u8 (vt : Int), .int .u64 (n : Int)])
  rw [← hV] at HX
  have HW := Lib.hid (h.quiet st)
  have S1 := Lib.hid st
  have HGA := Lib.hid (w_globalat a HW.out ha)
  have hgk : ∀ g, gaF r.vs a = some g → ∃ k : Nat, a = (k : Int) ∧ ∃ hk : k < r.vs.length, g = r.vs[k] := fun g hg => gaF_at hg
  have hF : sgF r.vs a vt = match gaF r.vs a with
    | none => 47
    | some g => if g.mu = false then 24 else if g.t = vt then 0 else 7 := rfl
  have hL : sgL r.vs a vt n = match gaF r.vs a with
    | none => r.vs
    | some g => if g.mu = false then r.vs else if g.t = vt then r.vs.set a.toNat { g with vt := vt, n := n } else r.vs := rfl
  obtain ⟨X, hX⟩ : ∃ X, X = w.heap.size := ⟨_, rfl⟩
  rw [← hX] at HX
  cases hg : gaF r.vs a with
  | none =>
    rw [hg] at hF hL HGA
    simp only at hF hL
    have HE := Lib.hid (And.intro hF hL)
    clear hF hL hgk h st hz
    have HGB : Hid (Calls Try.prog 18 #[.pointer (some ⟨r.S, 0, none⟩), .int .i64 a] V fun e w' => e = .returned (.tuple #[.agg #[.int .u8 0, .bool false, .int .u8 0, .int .u64 0, .int .i64 0, .bool false], .bool false]) ∧ Step (fun _ => False) V w') := HGA.out
    clear HGA hg
    go_enter Try.func10, Try.ntmps10
    go_wp2_with fail
    rw [← hV]
    refine HGB.out.mono ?_
    rintro e w2 ⟨rfl, t2⟩
    have T2 := Lib.hid t2
    clear t2 hV hX
    go_wp2_with fail
    go_ret
    exact ⟨by rw [HE.out.1]; rfl, (S1.out.trans T2.out).alloc _⟩
  | some g =>
    obtain ⟨k, rfl, hk, hgv⟩ := hgk g hg
    rw [hg] at hF hL HGA
    simp only at hF hL
    have hgb := hb r.vs[k] (List.getElem_mem hk)
    rw [← hgv] at hgb
    have HGV := Lib.hid hgv
    obtain ⟨t, mu, vt0, n0, o, lv⟩ := g
    have HGB : Hid (Calls Try.prog 18 #[.pointer (some ⟨r.S, 0, none⟩), .int .i64 (k : Int)] V fun e w' => e = .returned (.tuple #[.agg #[.int .u8 (t : Int), .bool mu, .int .u8 (vt0 : Int), .int .u64 (n0 : Int), .int .i64 o, .bool lv], .bool true]) ∧ Step (fun _ => False) V w') := HGA.out
    replace hz := Lib.hid hz
    clear HGA hg hgk hgv h st hb
    simp only at hF hL hgb
    cases mu with
    | false =>
      rw [if_pos rfl] at hF hL
      have HE := Lib.hid (And.intro hF hL)
      clear hF hL
      go_enter Try.func10, Try.ntmps10
      go_wp2_with fail
      rw [← hV]
      refine HGB.out.mono ?_
      rintro e w2 ⟨rfl, t2⟩
      have T2 := Lib.hid t2
      clear t2 hV hX
      go_wp2_with fail
      go_ret
      exact ⟨by rw [HE.out.1]; rfl, (S1.out.trans T2.out).alloc _⟩
    | true =>
      rw [if_neg (by decide)] at hF hL
      by_cases htv : t = vt
      · rw [if_pos htv] at hF
        exact absurd hF hz.out
      · rw [if_neg htv] at hF hL
        have HE := Lib.hid (And.intro hF hL)
        have hne : ¬ (t : Int) = (vt : Int) := by omega
        have e2 : ((t : Int) != (vt : Int)) = true := bne_iff_ne.2 hne
        have HNE := Lib.hid hne
        clear hF hL htv hne
        have v0 := HX.out.cell 0
        simp at v0
        have lX := HX.out.lt
        go_enter Try.func10, Try.ntmps10
        go_wp2_with fail
        rw [← hV, ← hX]
        refine HGB.out.mono ?_
        rintro e w2 ⟨rfl, t2⟩
        have T2 := Lib.hid t2
        have v1 := (HX.out.step t2 id).cell 0
        have lX2 := (HX.out.step t2 id).lt
        simp at v1
        clear t2 hV hX v0 lX
        go_wp2_with fail
        go_ret
        exact ⟨by rw [HE.out.1]; rfl, (S1.out.trans T2.out).alloc _⟩
set_option maxRecDepth 100000 in
set_option maxHeartbeats 3200000 in
theorem w_setglobal_ok (k vt n t vt0 n0 : Nat) (o : Int) (lv : Bool) (h : Ws w B r) (hB : B ≤ w.heap.size) (hl : r.es.length ≤ 1000000) (ha : r.vs.length ≤ 1000) (hg : gaF r.vs (k : Int) = some ⟨t, true, vt0, n0, o, lv⟩) (htv : t = vt) (hgb : vt0 < 256) (hk : k < r.vs.length) (hgv : (⟨t, true, vt0, n0, o, lv⟩ : Vr) = r.vs[k]) :
    Calls Try.prog 10 #[.pointer (some ⟨r.S, 0, none⟩), .int .i64 (k : Int), .agg #[.int .u8 (vt : Int), .int .u64 (n : Int)]] w fun e w' => e = .returned (.int .i64 0) ∧ Out w B r { r.vw with vs := r.vs.set k ⟨t, true, vt, n, o, lv⟩, es := jes r.ms r.es ⟨5, (k : Int), (n0 : Int), [UInt8.ofNat vt0]⟩ } w' := by
  obtain ⟨V, hV⟩ : ∃ V, V = w.alloc (.cells #[.int .u8 (vt : Int), .int .u64 (n : Int)] 38) := ⟨_, rfl⟩
  have st : Step (fun _ => False) w V := by rw [hV]; exact Step.refl.alloc _
  have HX := Lib.hid (Blk.new w 38 #[.int .u8 (vt : Int), .int .u64 (n : Int)])
  rw [← hV] at HX
  have HW := Lib.hid (h.quiet st)
  have S1 := Lib.hid st
  have HGA := Lib.hid (w_globalat (k : Int) HW.out ha)
  have HFT : Hid (∀ k, r.foot k → k < w.heap.size) := h.in_
  obtain ⟨X, hX⟩ : ∃ X, X = w.heap.size := ⟨_, rfl⟩
  rw [← hX] at HX HFT
  rw [hg] at HGA
  have HGV := Lib.hid hgv
  have HGB : Hid (Calls Try.prog 18 #[.pointer (some ⟨r.S, 0, none⟩), .int .i64 (k : Int)] V fun e w' => e = .returned (.tuple #[.agg #[.int .u8 (t : Int), .bool true, .int .u8 (vt0 : Int), .int .u64 (n0 : Int), .int .i64 o, .bool lv], .bool true]) ∧ Step (fun _ => False) V w') := HGA.out
  have HBB := Lib.hid (Nat.le_trans hB st.size)
  clear HGA hg hgv h st hB
  have e2 : ((t : Int) != (vt : Int)) = false := by rw [htv]; simp
  clear htv
  have v0 := HX.out.cell 0
  simp at v0
  have lX := HX.out.lt
  go_enter Try.func10, Try.ntmps10
  go_wp2_with fail
  rw [← hV, ← hX]
  refine HGB.out.mono ?_
  rintro e w2 ⟨rfl, t2⟩
  have T2 := Lib.hid t2
  have v1 := (HX.out.step t2 id).cell 0
  have lX2 := (HX.out.step t2 id).lt
  simp at v1
  clear t2 hV hX v0 lX
  obtain ⟨W3, hW3⟩ : ∃ W3, W3 = w2.alloc (.cells #[.int .u8 (t : Int), .bool true, .int .u8 (vt0 : Int), .int .u64 (n0 : Int), .int .i64 o, .bool lv] 56) := ⟨_, rfl⟩
  obtain ⟨Y, hY⟩ : ∃ Y, Y = w2.heap.size := ⟨_, rfl⟩
  have HY := Lib.hid (Blk.new w2 56 #[.int .u8 (t : Int), .bool true, .int .u8 (vt0 : Int), .int .u64 (n0 : Int), .int .i64 o, .bool lv])
  rw [← hW3, ← hY] at HY
  have st3 : Step (fun _ => False) V W3 := by rw [hW3]; exact T2.out.alloc _
  have HW3 := Lib.hid (HW.out.quiet st3)
  have HX3 := Lib.hid (HX.out.step st3 id)
  have S3 := Lib.hid (S1.out.trans st3)
  have T2S := Lib.hid st3.size
  clear st3
  go_upto_region 8 with fail
  rw [← hW3, ← hY]
  clear hW3 hY v1 lX2 T2 HGB HX HW S1
  have x5 := HW3.out.c5
  have y2 := HY.out.cell 2
  have y3 := HY.out.cell 3
  simp at y2 y3
  have d5 := cls_cell (F := fun _ => False) x5 id
  have q2 := cls_cell (F := fun _ => False) y2 id
  have q3 := cls_cell (F := fun _ => False) y3 id
  have HN := Lib.hid (fun W (hs : Step (fun _ => False) W3 W) => w_note (HW3.out.quiet hs) (Nat.le_trans (Nat.le_trans HBB.out T2S.out) hs.size) (by rw [HW3.out.jl]; exact hl) ⟨5, (k : Int), (n0 : Int), [UInt8.ofNat vt0]⟩)
  have hcv : (convert 39 9 (.slice (some ⟨W3.heap.size, 0, none⟩) 1 1)).run Try.prog (W3.alloc (.cells #[.int .u8 (vt0 : Int)] 5)).drew = .ok (.string (str [UInt8.ofNat vt0])) (W3.alloc (.cells #[.int .u8 (vt0 : Int)] 5)).drew := by
    refine conv_bytes (S := fun j => j = W3.heap.size) ?_
    have e : u8s [UInt8.ofNat vt0] = (#[.int .u8 (vt0 : Int)] : Array Value).toList := by
      simp [u8s]
      omega
    rw [e]
    exact (reads_new W3 #[.int .u8 (vt0 : Int)] 5 1 1 rfl).drew
  clear x5 y2 y3
  refine Mix.wp_region_mix [11, 12, 14] [11, 12] (Step (fun _ => False) W3) (by kernel_rfl) (by kernel_rfl) (Step.refl.drew) (fun hcls => ?_)
  refine Mix.wpL_reads 11 (by rfl) ?_
  simp only [List.take_succ_cons, List.drop_succ_cons, List.take_zero, List.drop_zero]
  repeat (go_big_quiet_step (fail))
  refine wpQuiet_nil ?_
  refine Mix.wpL_op (by rfl) (fun K hK => ?_)
  go_simp
  refine hK _ _ (fun hlt => Mix.cl ((Step.refl.drew.alloc _))) ?_
  clear hK K
  refine Mix.wpL_op (by rfl) (fun K hK => ?_)
  go_simp
  refine hK _ _ (fun hlt => Mix.cl ((Step.refl.drew.alloc _))) ?_
  clear hK K
  refine Mix.wpL_reads 1 (by rfl) ?_
  simp only [List.take_succ_cons, List.drop_succ_cons, List.take_zero, List.drop_zero]
  repeat (go_big_quiet_step (fail))
  refine wpQuiet_nil ?_
  refine Mix.wpL_op (by rfl) (fun K hK => ?_)
  go_simp
  refine (HN.out _ (Step.refl.drew.alloc _)).mono ?_
  rintro e w4 ⟨rfl, r2, hW4, hu4, hc4, hv4⟩
  refine hK _ _ (fun hlt => absurd hlt (by decide)) ?_
  clear hK K
  refine Mix.wpL_end ?_
  have st4 : Step (fun _ => False) W3 (W3.alloc (.cells #[.int .u8 (vt0 : Int)] 5)).drew := Step.refl.drew.alloc _
  have hvs : r2.vs = r.vs := congrArg Vw.vs hv4
  have HX4 := Lib.hid ((HX3.out.quiet' st4).step hu4.1 (fun e => Nat.lt_irrefl _ (HFT.out _ e)))
  have HU4 := Lib.hid (Upd.after (S3.out.trans st4) hu4)
  have HW4 := Lib.hid hW4
  have HC4 := Lib.hid hc4
  have HV4 := Lib.hid hv4
  have HVS := Lib.hid hvs
  rw [← cst_S hc4]
  have hk2 : k < r2.vs.length := by rw [hvs]; exact hk
  obtain ⟨ga, hAs, _, _, hcell, hfro⟩ := own_row HW4.out.vrow (by omega)
  have HAS := Lib.hid hAs
  have hvr : (vrs r2.vs) = vrs r.vs := by rw [hvs]
  rw [hvr] at hcell
  clear st4 hW4 hu4 hc4 hv4 HN hcv d5 q2 q3 HW3 HX3 S3 HY hAs hvr
  have x3 := HW4.out.c3v
  rw [hvs] at x3
  rw [HAS.out] at x3
  clear hvs
  have z0 := HX4.out.cell 0
  have z1 := HX4.out.cell 1
  simp at z0 z1
  have b2 := hcell (k * 6 + 2) _ (by rw [vrs, flat_get Vr.cells 6 Vr.six _ _ 2 hk (by decide)]; rfl)
  have b3 := hcell (k * 6 + 3) _ (by rw [vrs, flat_get Vr.cells 6 Vr.six _ _ 3 hk (by decide)]; rfl)
  have bf2 := hfro (k * 6 + 2)
  have bf3 := hfro (k * 6 + 3)
  have g1 : (k : Int) < (r.vs.length : Int) := by omega
  have g0 : (0 : Int) ≤ (k : Int) := by omega
  clear hcell hfro
  go_upto_region 9 with fail
  go_still_tail 8, (by kernel_rfl)
  go_wp2_with fail
  go_ret
  have hp := (HW4.out.setv (k := k) (vt := vt) (n := n) hk2 HAS.out)
  have e9 : r2.vs.set k { r2.vs[k] with vt := vt, n := n } = r.vs.set k (⟨t, true, vt, n, o, lv⟩ : Vr) := by
    have : r2.vs[k] = (⟨t, true, vt0, n0, o, lv⟩ : Vr) := by rw [HGV.out]; exact List.getElem_of_eq HVS.out _
    rw [this, HVS.out]
  refine ⟨rfl, _, hp.1.quiet Step.refl.drew, (HU4.out.trans hp.2).drew, HC4.out, ?_⟩
  rw [e9]
  exact congrArg (fun v : Vw => { v with vs := r.vs.set k (⟨t, true, vt, n, o, lv⟩ : Vr) }) HV4.out
end
end Go.Proofs.Ytmheofkakcomdaa
