/-
  store: globals, owners and functions of a whole store.
-/
import Derived.Test.YtmheofkakcomdaaSbH
import Derived.Test.YtmheofkakcomdaaGsC
set_option linter.unusedVariables false
set_option linter.unusedSimpArgs false
namespace Go.Proofs.Ytmheofkakcomdaa
open Go.RowKit
section
variable {w w' : World} {B : Nat} {r : Rc}
theorem Ws.vrow (h : Ws w B r) : w.ownsRow B 56 6 (.slice r.Av r.vs.length r.cv) r.vs.length (vrs r.vs) := by
  have := h.vr
  rwa [h.vl] at this
theorem Ws.c3v (h : Ws w B r) : w.cell? ⟨r.S, 3, none⟩ = some (.slice r.Av r.vs.length r.cv) := by
  have := h.c3
  rwa [h.vl] at this
theorem Ws.na (h : Ws w B r) {g : Nat} {t : TypeId} {cs : Array Value} (hb : Blk w g t cs) (hne : 56 ≠ t) : blkOf r.Av ≠ some g := by
  have := own_tag h.vr hb hne
  rwa [ownBlock_slice] at this
/-- New globals, laid into the store. -/
theorem Ws.putv {w1 : World} {A' : Option Addr} {c' : Nat} {vs' : List Vr} (h : Ws w B r) (hs : Step (fun k => blkOf r.Av = some k) w w1) (ho : w1.ownsRow B 56 6 (.slice A' vs'.length c') vs'.length (vrs vs'))
    (hA : ∀ k, blkOf A' = some k → blkOf r.Av = some k ∨ w.heap.size ≤ k) : Ws (w1.setCell ⟨r.S, 3, none⟩ (.slice A' vs'.length c')) B { r with Av := A', nv := vs'.length, cv := c', vs := vs' } ∧ Upd w r.foot ({ r with Av := A', nv := vs'.length, cv := c', vs := vs' } : Rc).foot (w1.setCell ⟨r.S, 3, none⟩ (.slice A' vs'.length c')) := by
  have hne := h.na h.blk (by decide)
  have hb1 := h.blk.step hs hne
  have hS : blkOf A' ≠ some r.S := fun e => by
    rcases hA r.S e with h1 | h1
    · exact hne h1
    · have := h.blk.lt; omega
  refine h.var_ (by simpa using hb1.set_ 3 (.slice A' vs'.length c')) (own_set ho (by rw [ownBlock_slice]; exact hS) _) rfl ⟨(hs.mono fun i _ hi => .inr hi).setCell (.inl (.inl rfl)) _, fun k hk => ?_⟩
  rcases hk with rfl | hk
  · exact .inl (.inl rfl)
  · rcases hA k hk with h1 | h1
    · exact .inl (.inr h1)
    · exact .inr h1
theorem Ws.setv (h : Ws w B r) {k vt n g : Nat} (hk : k < r.vs.length) (hA : r.Av = some ⟨g, 0, none⟩) :
    Ws ((w.setCell ⟨g, k * 6 + 2, none⟩ (.int .u8 (vt : Int))).setCell ⟨g, k * 6 + 3, none⟩ (.int .u64 (n : Int))) B { r with vs := r.vs.set k { r.vs[k] with vt := vt, n := n } } ∧ Upd w r.foot ({ r with vs := r.vs.set k { r.vs[k] with vt := vt, n := n } } : Rc).foot ((w.setCell ⟨g, k * 6 + 2, none⟩ (.int .u8 (vt : Int))).setCell ⟨g, k * 6 + 3, none⟩ (.int .u64 (n : Int))) := by
  have hAg : blkOf r.Av = some g := by rw [hA]; rfl
  have st : Step (fun j => j = g) w ((w.setCell ⟨g, k * 6 + 2, none⟩ (.int .u8 (vt : Int))).setCell ⟨g, k * 6 + 3, none⟩ (.int .u64 (n : Int))) := (Step.setCell (F := fun j => j = g) (p := ⟨g, k * 6 + 2, none⟩) Step.refl (.inl rfl) _).setCell (p := ⟨g, k * 6 + 3, none⟩) (.inl rfl) _
  have hl : (vrs r.vs).length = r.vs.length * 6 := flat_length Vr.cells 6 Vr.six r.vs
  have o0 := h.vrow
  rw [hA] at o0
  have o1 := own_setAt (j := k * 6 + 2) (u := .int .u8 (vt : Int)) o0 (by rw [hl]; omega)
  have o2 := own_setAt (j := k * 6 + 3) (u := .int .u64 (n : Int)) o1 (by rw [List.length_set, hl]; omega)
  have e1 : (vrs r.vs).set (k * 6 + 2) (.int .u8 (vt : Int)) = vrs (r.vs.set k { r.vs[k] with vt := vt }) := flat_set Vr.cells 6 Vr.six r.vs k 2 _ _ hk (by decide) rfl
  have hk2 : k < (r.vs.set k { r.vs[k] with vt := vt }).length := by rw [List.length_set]; exact hk
  have e2 : (vrs (r.vs.set k { r.vs[k] with vt := vt })).set (k * 6 + 3) (.int .u64 (n : Int)) = vrs ((r.vs.set k { r.vs[k] with vt := vt }).set k { r.vs[k] with vt := vt, n := n }) := flat_set Vr.cells 6 Vr.six _ k 3 _ _ hk2 (by decide) (by rw [List.getElem_set_self]; rfl)
  rw [List.set_set] at e2
  rw [e1, e2] at o2
  rw [← hA, ← h.vl] at o2
  exact h.var_ (h.blk.step st (fun e => h.na h.blk (by decide) (by rw [e]; exact hAg))) o2 (by rw [List.length_set]; exact h.vl) ⟨st.mono fun j _ e => .inr (by rw [e]; exact hAg), fun k hk => .inl hk⟩
set_option maxRecDepth 100000 in
set_option maxHeartbeats 3200000 in
theorem w_globalat (a : Int) (h : Ws w B r) (ha : r.vs.length ≤ 1000) :
    Calls Try.prog 18 #[.pointer (some ⟨r.S, 0, none⟩), .int .i64 a] w fun e w' => e = .returned (.tuple #[((gaF r.vs a).getD default).val, .bool (gaF r.vs a).isSome]) ∧ Step (fun _ => False) w w' := by
  have x3 := h.c3v
  have nS := h.blk.lt
  by_cases h0 : a < 0
  · have HG : Hid (gaF r.vs a = none) := by rw [Hid, gaF, if_neg (by omega)]
    clear h
    go_enter Try.func18, Try.ntmps18
    go_wp2_with fail
    refine bodyPost_ret (v := .tuple #[.agg #[.int .u8 0, .bool false, .int .u8 0, .int .u64 0, .int .i64 0, .bool false], .bool false]) (by simp [results, Try.results18, go_sem]) rfl ?_
    exact ⟨by rw [HG.out]; rfl, Step.refl.alloc _⟩
  · by_cases h1 : (r.vs.length : Int) ≤ a
    · have HG : Hid (gaF r.vs a = none) := by rw [Hid, gaF, if_neg (by omega)]
      clear h
      go_enter Try.func18, Try.ntmps18
      go_wp2_with fail
      refine bodyPost_ret (v := .tuple #[.agg #[.int .u8 0, .bool false, .int .u8 0, .int .u64 0, .int .i64 0, .bool false], .bool false]) (by simp [results, Try.results18, go_sem]) rfl ?_
      exact ⟨by rw [HG.out]; rfl, Step.refl.alloc _⟩
    · obtain ⟨k, rfl⟩ : ∃ k : Nat, a = (k : Int) := ⟨a.toNat, by omega⟩
      have hk : k < r.vs.length := by omega
      have HG : Hid (gaF r.vs (k : Int) = if r.vs[k].lv = true then some r.vs[k] else none) := by
        have e : r.vs.getD ((k : Int).toNat) default = r.vs[k] := by rw [List.getD_eq_getElem?_getD, Int.toNat_natCast, List.getElem?_eq_getElem hk]; rfl
        rw [Hid, gaF, if_pos (by omega), e]
      obtain ⟨bk, off, hA, _, hbl, hc⟩ := reads_row Vr.cells 6 (by decide) Vr.six (Reads.of_own h.vrow) hk
      rw [hA] at x3
      have g1 : (k : Int) < (r.vs.length : Int) := by omega
      have g0 : (0 : Int) ≤ (k : Int) := by omega
      obtain ⟨v, hv⟩ : ∃ v, v = r.vs[k] := ⟨_, rfl⟩
      rw [← hv] at hc HG
      clear h hA hv
      obtain ⟨t, mu, vt, n, o, lv⟩ := v
      have c0 := hc 0 _ rfl
      have c1 := hc 1 _ rfl
      have c2 := hc 2 _ rfl
      have c3 := hc 3 _ rfl
      have c4 := hc 4 _ rfl
      have c5 := hc 5 _ rfl
      simp only [Nat.add_zero] at c0
      simp only at c0 c1 c2 c3 c4 c5
      clear hc
      cases lv with
      | false =>
        go_enter Try.func18, Try.ntmps18
        go_wp2_with fail
        refine bodyPost_ret (v := .tuple #[.agg #[.int .u8 0, .bool false, .int .u8 0, .int .u64 0, .int .i64 0, .bool false], .bool false]) (by simp [results, Try.results18, go_sem]) rfl ?_
        exact ⟨by rw [HG.out]; rfl, Step.refl.alloc _⟩
      | true =>
        go_enter Try.func18, Try.ntmps18
        go_wp2_with fail
        refine bodyPost_ret (v := .tuple #[.agg #[.int .u8 (t : Int), .bool mu, .int .u8 (vt : Int), .int .u64 (n : Int), .int .i64 o, .bool true], .bool true]) (by simp [results, Try.results18, go_sem]) rfl ?_
        exact ⟨by rw [HG.out]; rfl, Step.refl.alloc _⟩
theorem Blk.quiet' {w w' : World} {g : Nat} {t : TypeId} {cs : Array Value} (h : Blk w g t cs) (hs : Step (fun _ => False) w w') : Blk w' g t cs := h.step hs id
set_option maxRecDepth 100000 in
set_option maxHeartbeats 3200000 in
theorem w_addglobal (t vt n : Nat) (mu : Bool) (o : Int) (h : Ws w B r) (ha : r.vs.length ≤ 1000) (hB : B ≤ w.heap.size) (hl : r.es.length ≤ 1000000) :
    Calls Try.prog 9 #[.pointer (some ⟨r.S, 0, none⟩), .agg #[.int .u8 (t : Int), .bool mu], .agg #[.int .u8 (vt : Int), .int .u64 (n : Int)], .int .i64 o] w fun e w' =>
      e = .returned (.int .i64 (r.vs.length : Int)) ∧ Out w B r { r.vw with vs := r.vs ++ [⟨t, mu, vt, n, o, true⟩], es := jes r.ms r.es ⟨7, (r.vs.length : Int), 0, []⟩ } w' := by
  obtain ⟨V, hV⟩ : ∃ V, V = (w.alloc (.cells #[.int .u8 (t : Int), .bool mu] 35)).alloc (.cells #[.int .u8 (vt : Int), .int .u64 (n : Int)] 38) := ⟨_, rfl⟩
  have st : Step (fun _ => False) w V := by rw [hV]; exact (Step.refl.alloc _).alloc _
  have HT := Lib.hid ((Blk.new w 35 #[.int .u8 (t : Int), .bool mu]).alloc (.cells #[.int .u8 (vt : Int), .int .u64 (n : Int)] 38))
  have hv := Blk.new (w.alloc (.cells #[.int .u8 (t : Int), .bool mu] 35)) 38 #[.int .u8 (vt : Int), .int .u64 (n : Int)]
  simp only [World.size_alloc] at hv
  rw [← hV] at HT hv
  have HVv := Lib.hid hv
  have HW := Lib.hid (h.quiet st)
  have S1 := Lib.hid st
  have HLE := Lib.hid (Nat.le_trans hB st.size)
  obtain ⟨X, hX⟩ : ∃ X, X = w.heap.size := ⟨_, rfl⟩
  have HFT : Hid (∀ k, r.foot k → k < X) := fun k hk => by rw [hX]; exact h.in_ k hk
  rw [← hX] at HT HVv
  clear h st hv hB
  go_enter Try.func9, Try.ntmps9
  go_upto_region 1 with fail
  rw [← hV, ← hX]
  clear hV
  replace hX := Lib.hid hX
  obtain ⟨X1, hX1⟩ : ∃ X1, X1 = X + 1 := ⟨_, rfl⟩
  rw [← hX1] at HVv ⊢
  have HX1 := Lib.hid hX1
  clear hX1
  have x3 := HW.out.c3v
  have x5 := HW.out.c5
  have d3 := cls_cell (F := fun _ => False) x3 id
  have d5 := cls_cell (F := fun _ => False) x5 id
  have HN := Lib.hid (fun W (hs : Step (fun _ => False) V W) => w_note0 (HW.out.quiet hs) (Nat.le_trans HLE.out hs.size) hl 7 (r.vs.length : Int) 0)
  clear x3 x5
  refine Mix.wp_region_mix [10] [] (Step (fun _ => False) V) (by kernel_rfl) (by kernel_rfl) (Step.refl.drew) (fun hcls => ?_)
  refine Mix.wpL_reads 10 (by rfl) ?_
  simp only [List.take_succ_cons, List.drop_succ_cons, List.take_zero, List.drop_zero]
  repeat (go_big_quiet_step (fail))
  refine wpQuiet_nil ?_
  refine Mix.wpL_op (by rfl) (fun K hK => ?_)
  go_simp
  refine (HN.out _ Step.refl.drew).mono ?_
  rintro e w2 ⟨rfl, r2, hW2, hu2, hc2, hv2⟩
  refine hK _ _ (fun hlt => absurd hlt (by decide)) ?_
  clear hK K
  refine Mix.wpL_end ?_
  have ft := hu2.1
  have hvs : r2.vs = r.vs := congrArg Vw.vs hv2
  have HU2 := Lib.hid (Upd.after (S1.out.trans Step.refl.drew) hu2)
  replace HT := Lib.hid ((HT.out.quiet' Step.refl.drew).step ft (fun e => Nat.lt_irrefl _ (HFT.out _ e)))
  replace HVv := Lib.hid ((HVv.out.quiet' Step.refl.drew).step ft (fun e => by have := HFT.out _ e; have := HX1.out; omega))
  replace HLE := Lib.hid (Nat.le_trans HLE.out (Nat.le_trans (Step.drew (F := fun _ => False) Step.refl).size ft.size))
  replace HW := Lib.hid hW2
  have HC2 := Lib.hid hc2
  have HV2 := Lib.hid hv2
  have HVS := Lib.hid hvs
  rw [← cst_S hc2, ← hvs]
  rw [← hvs] at ha
  clear ft hW2 hu2 hc2 hv2 hvs HN d3 d5
  have x3 := HW.out.c3v
  have y0 := HT.out.cell 0
  have y1 := HT.out.cell 1
  have z0 := HVv.out.cell 0
  have z1 := HVv.out.cell 1
  simp at y0 y1 z0 z1
  obtain ⟨F2, hF2⟩ : ∃ F2 : Nat → Prop, F2 = fun k => blkOf r2.Av = some k := ⟨_, rfl⟩
  have hFS : ¬ F2 r2.S := by rw [hF2]; exact HW.out.na HW.out.blk (by decide)
  have hFX : ¬ F2 X := by rw [hF2]; exact HW.out.na HT.out (by decide)
  have hFY : ¬ F2 X1 := by rw [hF2]; exact HW.out.na HVv.out (by decide)
  have d3 := cls_cell (F := F2) (w0 := w2) x3 hFS
  have e0 := cls_cell (F := F2) (w0 := w2) y0 hFX
  have e1 := cls_cell (F := F2) (w0 := w2) y1 hFX
  have f0 := cls_cell (F := F2) (w0 := w2) z0 hFY
  have f1 := cls_cell (F := F2) (w0 := w2) z1 hFY
  have ho := HW.out.vrow
  have hm1 : r2.vs.length + 1 ≤ maxLen := by unfold maxLen; omega
  have hle := HLE.out
  have HF2 := Lib.hid hF2
  have hone : ∀ u ∈ (#[.int .u8 (t : Int), .bool mu, .int .u8 (vt : Int), .int .u64 (n : Int), .int .i64 o, .bool true] : Array Value).toList, u.oneCell' = true := by simp [Value.oneCell']
  clear hF2 x3 y0 y1 z0 z1
  go_wp2_with fail
  refine Mix.wp_region_mix [9, 10, 13] [9, 10] (Step F2 w2) (by kernel_rfl) (by kernel_rfl) (Step.refl.drew) (fun hcls => ?_)
  refine Mix.wpL_reads 9 (by rfl) ?_
  simp only [List.take_succ_cons, List.drop_succ_cons, List.take_zero, List.drop_zero]
  repeat (go_big_quiet_step (fail))
  refine wpQuiet_nil ?_
  refine Mix.wpL_op (by rfl) (fun K hK => ?_)
  go_simp
  refine hK _ _ (fun hlt => Mix.cl ((Step.refl.drew.alloc _))) ?_
  clear hK K
  refine Mix.wpL_op (by rfl) (fun K hK => ?_)
  refine step_append_src _ (by rfl) _ _ (by rfl) E_vr (by rfl) ((own_drew ho).alloc _) (by rfl) (reads_new w2.drew #[.int .u8 (t : Int), .bool mu, .int .u8 (vt : Int), .int .u64 (n : Int), .int .i64 o, .bool true] 56 6 1 rfl) hone hm1 (by omega) (by simp; omega) ?_
  intro D' c' w3 hown1 hgrow hat
  have hs : Step (fun k => blkOf r2.Av = some k) w2 w3 := (Step.refl.drew.alloc _).grown hgrow (fun k hk => .inl hk)
  have hs2 : Step F2 w2 w3 := by rw [HF2.out]; exact hs
  have hD : ∀ k, blkOf D' = some k → blkOf r2.Av = some k ∨ w2.heap.size ≤ k := fun k hk => by
    rcases hat with e | e
    · exact .inl (e ▸ hk)
    · rw [e] at hk
      simp [World.drew] at hk
      right; omega
  have hp := HW.out.putv hs (A' := D') (c' := c') (vs' := r2.vs ++ [⟨t, mu, vt, n, o, true⟩]) (by rw [vrs_append, List.length_append]; exact hown1) hD
  rw [show (r2.vs ++ [(⟨t, mu, vt, n, o, true⟩ : Vr)]).length = r2.vs.length + 1 by rw [List.length_append]; rfl] at hp
  have HP := Lib.hid hp
  go_simp
  have HB1 := Lib.hid (HW.out.blk.step hs2 hFS)
  refine hK _ _ (fun hlt => Mix.cl (hs2)) ?_
  clear hK K
  clear hown1 hgrow hat hs hD hp ho d3 e0 e1 f0 f1 hone hm1 HF2 hFX hFY hle HW HT HVv HLE
  refine Mix.wpL_reads 2 (by rfl) ?_
  simp only [List.take_succ_cons, List.drop_succ_cons, List.take_zero, List.drop_zero]
  repeat (go_big_quiet_step (fail))
  refine wpQuiet_nil ?_
  have g3 := HB1.out.frozen 3
  have z3 := HB1.out.cell 3
  simp at z3
  refine Mix.wpL_op (by rfl) (fun K hK => ?_)
  go_simp
  refine hK _ _ (fun hlt => absurd hlt (by decide)) ?_
  clear hK K
  refine Mix.wpL_end ?_
  clear hs2 hFS HB1 g3 z3
  have q3 := HP.out.1.c3
  simp only at q3
  have hw := IntWalk.i64_in (((r2.vs.length + 1 : Nat) : Int) - 1) (by omega)
  go_wp2_with fail
  go_ret
  exact ⟨by rw [← HVS.out]; first | rfl | (congr 2; omega), _, HP.out.1, HU2.out.trans HP.out.2, HC2.out, by rw [HVS.out]; exact congrArg (fun v : Vw => { v with vs := r.vs ++ [(⟨t, mu, vt, n, o, true⟩ : Vr)] }) HV2.out⟩
end
end Go.Proofs.Ytmheofkakcomdaa
