/-
  store: Free.
-/
import Derived.Test.YtmheofkakcomdaaGsC
set_option linter.unusedVariables false
set_option linter.unusedSimpArgs false
namespace Go.Proofs.Ytmheofkakcomdaa
open Go.RowKit
set_option maxRecDepth 100000 in
theorem f_owned (w : World) (Fu : Nat) (o : Int) (h : Blk w Fu 123 #[.slice none 0 0, .slice none 0 0]) :
    Calls Try.prog 38 #[.pointer (some ⟨Fu, 0, none⟩), .int .i64 o] w fun e w' => e = .returned (.slice none 0 0) ∧ Step (fun _ => False) w w' := by
  have x0 := (h.cell 0).trans (show _ = some (Value.slice none 0 0) from rfl)
  clear h
  go_enter Try.func38, Try.ntmps38
  go_wp2_with fail
  go_loopw [5, 13] (fun ov iv wr => ov = .slice none 0 0 ∧ iv = .int .i64 0 ∧ Hid (w = wr)) (fun _ _ _ => 0)
  case atStart => exact ⟨rfl, rfl, rfl⟩
  case round =>
    obtain ⟨rfl, rfl, HW⟩ := hrel
    have hw := HW.out
    subst hw
    go_wp2_with fail
    go_ret
    exact ⟨rfl, Step.refl⟩
def frV (o : Int) (v : Vr) : Vr := if v.o = o then ⟨0, false, 0, 0, o, false⟩ else v
section
variable {w w' : World} {B : Nat} {s : Sg}
set_option maxRecDepth 100000 in
set_option maxHeartbeats 1600000 in
theorem s_free_dead (i : Int) (hi : (Lit.int .i64 i).wf = true) (h : Gw w B s) (hb : s.f i = none) :
    Calls Try.prog 15 #[.pointer (some ⟨s.S, 0, none⟩), .int .i64 i] w fun e w' => e = .returned (.int .i64 47) ∧ Step (fun _ => False) w w' := by
  have hl := h.look i hi
  rw [hb] at hl
  have hl2 : (Instr.lookup 76 (.map (some s.K)) (.int .i64 i) true).run Try.prog w = .ok (.tuple #[.agg #[.slice none 0 0, .slice none 0 0, .slice none 0 0], .bool false]) w := hl
  have x4 := (h.blk.cell 4).trans (show _ = some (Value.map (some s.K)) from rfl)
  clear h hl hb
  go_enter Try.func15, Try.ntmps15
  go_wp2_with fail
  go_ret
  exact ⟨rfl, Step.refl.alloc _⟩
/-- One global, wholly turned. -/
theorem Gw.setr (h : Gw w B s) {k g : Nat} {o : Int} (hk : k < s.vs.length) (hA : s.A = some ⟨g, 0, none⟩) {W : World}
    (hW : W = (((((w.setCell ⟨g, k * 6, none⟩ (.int .u8 0)).setCell ⟨g, k * 6 + 1, none⟩ (.bool false)).setCell ⟨g, k * 6 + 2, none⟩ (.int .u8 0)).setCell ⟨g, k * 6 + 3, none⟩ (.int .u64 0)).setCell ⟨g, k * 6 + 4, none⟩ (.int .i64 o)).setCell ⟨g, k * 6 + 5, none⟩ (.bool false)) :
    Gw W B { s with vs := s.vs.set k ⟨0, false, 0, 0, o, false⟩ } ∧ Step s.foot w W := by
  subst hW
  obtain ⟨z, hz⟩ := h.jn.blk
  have hAg : blkOf s.A = some g := by rw [hA]; rfl
  have st : Step (fun j => j = g) w ((((((w.setCell ⟨g, k * 6, none⟩ (.int .u8 0)).setCell ⟨g, k * 6 + 1, none⟩ (.bool false)).setCell ⟨g, k * 6 + 2, none⟩ (.int .u8 0)).setCell ⟨g, k * 6 + 3, none⟩ (.int .u64 0)).setCell ⟨g, k * 6 + 4, none⟩ (.int .i64 o)).setCell ⟨g, k * 6 + 5, none⟩ (.bool false)) :=
    (((((Step.setCell (F := fun j => j = g) (p := ⟨g, k * 6, none⟩) Step.refl (.inl rfl) _).setCell (p := ⟨g, k * 6 + 1, none⟩) (.inl rfl) _).setCell (p := ⟨g, k * 6 + 2, none⟩) (.inl rfl) _).setCell (p := ⟨g, k * 6 + 3, none⟩) (.inl rfl) _).setCell (p := ⟨g, k * 6 + 4, none⟩) (.inl rfl) _).setCell (p := ⟨g, k * 6 + 5, none⟩) (.inl rfl) _
  have hS := h.na h.blk (by decide)
  have hF := h.na h.fn (by decide)
  have hJ := h.na hz (by decide)
  have hK := h.nka
  have hl : (vrs s.vs).length = s.vs.length * 6 := flat_length Vr.cells 6 Vr.six s.vs
  have o0 := h.own
  rw [hA] at o0
  have o1 := own_setAt (j := k * 6) (u := .int .u8 0) o0 (by rw [hl]; omega)
  have o2 := own_setAt (j := k * 6 + 1) (u := .bool false) o1 (by rw [List.length_set, hl]; omega)
  have o3 := own_setAt (j := k * 6 + 2) (u := .int .u8 0) o2 (by rw [List.length_set, List.length_set, hl]; omega)
  have o4 := own_setAt (j := k * 6 + 3) (u := .int .u64 0) o3 (by rw [List.length_set, List.length_set, List.length_set, hl]; omega)
  have o5 := own_setAt (j := k * 6 + 4) (u := .int .i64 o) o4 (by rw [List.length_set, List.length_set, List.length_set, List.length_set, hl]; omega)
  have o6 := own_setAt (j := k * 6 + 5) (u := .bool false) o5 (by rw [List.length_set, List.length_set, List.length_set, List.length_set, List.length_set, hl]; omega)
  have key : ∀ (l : List Vr) (j : Nat) (v' : Vr) (u : Value) (hk' : k < l.length), j < 6 → Vr.cells v' = (Vr.cells l[k]).set j u → (vrs l).set (k * 6 + j) u = vrs (l.set k v') := fun l j v' u hk' hj he => flat_set Vr.cells 6 Vr.six l k j v' u hk' hj he
  have e : ((((((vrs s.vs).set (k * 6) (.int .u8 0)).set (k * 6 + 1) (.bool false)).set (k * 6 + 2) (.int .u8 0)).set (k * 6 + 3) (.int .u64 0)).set (k * 6 + 4) (.int .i64 o)).set (k * 6 + 5) (.bool false) = vrs (s.vs.set k ⟨0, false, 0, 0, o, false⟩) := by
    obtain ⟨v, hv⟩ : ∃ v, v = s.vs[k] := ⟨_, rfl⟩
    have a0 := key s.vs 0 { v with t := 0 } (.int .u8 0) hk (by decide) (by rw [← hv]; rfl)
    rw [Nat.add_zero] at a0
    rw [a0]
    have a1 := key (s.vs.set k { v with t := 0 }) 1 { v with t := 0, mu := false } (.bool false) (by rw [List.length_set]; exact hk) (by decide) (by rw [List.getElem_set_self]; rfl)
    rw [List.set_set] at a1
    rw [a1]
    have a2 := key (s.vs.set k { v with t := 0, mu := false }) 2 { v with t := 0, mu := false, vt := 0 } (.int .u8 0) (by rw [List.length_set]; exact hk) (by decide) (by rw [List.getElem_set_self]; rfl)
    rw [List.set_set] at a2
    rw [a2]
    have a3 := key (s.vs.set k { v with t := 0, mu := false, vt := 0 }) 3 { v with t := 0, mu := false, vt := 0, n := 0 } (.int .u64 0) (by rw [List.length_set]; exact hk) (by decide) (by rw [List.getElem_set_self]; rfl)
    rw [List.set_set] at a3
    rw [a3]
    have a4 := key (s.vs.set k { v with t := 0, mu := false, vt := 0, n := 0 }) 4 { v with t := 0, mu := false, vt := 0, n := 0, o := o } (.int .i64 o) (by rw [List.length_set]; exact hk) (by decide) (by rw [List.getElem_set_self]; rfl)
    rw [List.set_set] at a4
    rw [a4]
    have a5 := key (s.vs.set k { v with t := 0, mu := false, vt := 0, n := 0, o := o }) 5 ⟨0, false, 0, 0, o, false⟩ (.bool false) (by rw [List.length_set]; exact hk) (by decide) (by rw [List.getElem_set_self]; rfl)
    rw [List.set_set] at a5
    exact a5
  rw [e] at o6
  refine ⟨⟨?_, h.fn.step st (fun e => hF (e ▸ hAg)), h.jn.step st (fun j hj e => ?_), ?_, h.mp.step st (fun e => hK (e ▸ hAg)), h.ge⟩, st.mono (fun j _ e => .inr (.inr (by rw [e]; exact hAg)))⟩
  · have := h.blk.step st (fun e => hS (e ▸ hAg))
    simpa using this
  · rcases hj with rfl | hj | hj
    · exact hJ (e ▸ hAg)
    · simp [blkOf] at hj
    · simp [blkOf] at hj
  · show World.ownsRow _ B _ 6 (.slice s.A (s.vs.set k _).length s.c) (s.vs.set k _).length _
    rw [List.length_set, hA]
    exact o6
/-- The first j freed. -/
def frL (o : Int) (l : List Vr) (j : Nat) : List Vr := (l.take j).map (frV o) ++ l.drop j
theorem frL_len (o : Int) (l : List Vr) (j : Nat) : (frL o l j).length = l.length := by
  rw [frL, List.length_append, List.length_map, List.length_take, List.length_drop]
  omega
theorem frL_get (o : Int) (l : List Vr) (j : Nat) (hj : j < l.length) : (frL o l j)[j]'(by rw [frL_len]; exact hj) = l[j] := by
  unfold frL
  rw [List.getElem_append_right (by rw [List.length_map, List.length_take]; omega)]
  simp only [List.length_map, List.length_take, List.getElem_drop]
  congr 1
  omega
theorem frL_set (o : Int) (l : List Vr) (j : Nat) (hj : j < l.length) : (frL o l j).set j (frV o l[j]) = frL o l (j + 1) := by
  unfold frL
  rw [List.set_append_right _ _ (by rw [List.length_map, List.length_take]; omega), List.take_succ_eq_append_getElem hj, List.map_append, List.drop_eq_getElem_cons hj]
  have e : j - (List.map (frV o) (l.take j)).length = 0 := by rw [List.length_map, List.length_take]; omega
  rw [e, List.set_cons_zero]
  simp
theorem frL_end (o : Int) (l : List Vr) : frL o l l.length = l.map (frV o) := by
  rw [frL, List.take_length, List.drop_length, List.append_nil]
theorem frL_zero (o : Int) (l : List Vr) : frL o l 0 = l := rfl
theorem frL_same (o : Int) (l : List Vr) (j : Nat) (hj : j < l.length) (h : ¬ l[j].o = o) : frL o l (j + 1) = frL o l j := by
  rw [← frL_set o l j hj, frV, if_neg h]
  have := frL_get o l j hj
  rw [← this, List.set_getElem_self]
set_option maxRecDepth 100000 in
set_option maxHeartbeats 3200000 in
theorem s_free_ok (i : Int) (hi : (Lit.int .i64 i).wf = true) (h : Gw w B s) (hv : OkI s.f) (ha : s.vs.length ≤ 1000) (hb : (s.f i).isSome = true) :
    Calls Try.prog 15 #[.pointer (some ⟨s.S, 0, none⟩), .int .i64 i] w fun e w' => e = .returned (.int .i64 0) ∧
      Gw w' B { s with f := delI s.f i, D := s.D.del (kI i), vs := s.vs.map (frV i) } ∧ Step s.foot w w' := by
  obtain ⟨x, y, z, hx⟩ := hv.get i
  have hl := h.look i hi
  rw [hx, hb] at hl
  have x4 := (h.blk.cell 4).trans (show _ = some (Value.map (some s.K)) from rfl)
  obtain ⟨x1, x2, x3⟩ := x
  obtain ⟨y1, y2, y3⟩ := y
  obtain ⟨z1, z2, z3⟩ := z
  simp only at hl
  obtain ⟨V, hV⟩ : ∃ V, V = w.alloc (.cells #[.slice x1 x2 x3, .slice y1 y2 y3, .slice z1 z2 z3] 51) := ⟨_, rfl⟩
  have st : Step (fun _ => False) w V := by rw [hV]; exact Step.refl.alloc _
  have HW := Lib.hid (h.quiet st)
  have S1 := Lib.hid st
  clear h hx st hb hv
  go_enter Try.func15, Try.ntmps15
  go_upto_region 4 with fail
  rw [← hV]
  clear hl x4 hV
  have x4 := (HW.out.blk.cell 4).trans (show _ = some (Value.map (some s.K)) from rfl)
  obtain ⟨w2, hdel, hmp, hs2⟩ := HW.out.mp.del Try.underlying3 Try.underlying76 i hi 0
  have HG := Lib.hid (HW.out.putk hs2 hmp)
  have S2 := Lib.hid ((S1.out.mono (fun _ _ h => h.elim) : Step s.foot w V).trans (hs2.mono (fun j _ e => .inr (.inl e))))
  clear hmp hs2
  go_upto_region 5 with fail
  clear hdel x4 HW S1
  have x2 := (HG.out.blk.cell 2).trans (show _ = some (Value.pointer (some ⟨s.Fu, 0, none⟩)) from rfl)
  have HOw := Lib.hid (f_owned w2 s.Fu i HG.out.fn)
  go_wp2_with fail
  refine HOw.out.mono ?_
  rintro e w3 ⟨rfl, t3⟩
  replace HG := Lib.hid (HG.out.quiet t3)
  replace S2 := Lib.hid (S2.out.trans (t3.mono (fun _ _ h => h.elim)))
  clear t3 HOw x2
  go_wp2_with fail
  go_loopw [33] (fun iv wr => iv = .int .i64 0 ∧ Hid (w3 = wr)) (fun _ _ => 0)
  case atStart => exact ⟨rfl, rfl⟩
  case round =>
    obtain ⟨rfl, HW⟩ := hrel
    have hw := HW.out
    subst hw
    have x3 := (HG.out.blk.cell 3).trans (show _ = some (Value.slice s.A s.vs.length s.c) from rfl)
    go_wp2_with fail
    clear x3
    go_loopw [49] (fun iv wr => ∃ j : Nat, j ≤ s.vs.length ∧ iv = .int .i64 (j : Int) ∧ Hid (Gw wr B { s with f := delI s.f i, D := s.D.del (kI i), vs := frL i s.vs j }) ∧ Hid (Step s.foot w wr)) (fun iv _ => s.vs.length + 1 - (Go.RowKit.intOf iv).toNat)
    case atStart => exact ⟨0, Nat.zero_le _, rfl, by rw [frL_zero]; exact HG, S2⟩
    case round =>
      obtain ⟨j, hj, rfl, HJ, HS⟩ := hrel
      by_cases hlt : j < s.vs.length
      · have x3 := (HJ.out.blk.cell 3).trans (show _ = some (Value.slice s.A (frL i s.vs j).length s.c) from rfl)
        rw [frL_len] at x3
        have ho := HJ.out.own
        simp only [frL_len] at ho
        obtain ⟨g, hA, _, _, hcell, hfro⟩ := own_row ho (by omega)
        have HA := Lib.hid hA
        rw [hA] at x3
        have g1 : (j : Int) < (s.vs.length : Int) := by omega
        have g0 : (0 : Int) ≤ (j : Int) := by omega
        have hw1 := IntWalk.i64_in ((j : Int) + 1) (by omega)
        have hjl : j < (frL i s.vs j).length := by rw [frL_len]; exact hlt
        have hget := frL_get i s.vs j hlt
        have hat : ∀ q u, q < 6 → (Vr.cells s.vs[j])[q]? = some u → wr.cell? ⟨g, j * 6 + q, none⟩ = some u := fun q u hq hu => hcell _ u (by rw [vrs, flat_get Vr.cells 6 Vr.six _ _ q hjl hq, hget]; exact hu)
        have HGE := Lib.hid hget
        have HSE := Lib.hid (frL_set i s.vs j hlt)
        have HSA := Lib.hid (frL_same i s.vs j hlt)
        obtain ⟨v, hv⟩ : ∃ v, v = s.vs[j] := ⟨_, rfl⟩
        rw [← hv] at hat HSE HSA
        have HV := Lib.hid hv
        clear hget hA ho hcell hv
        obtain ⟨t, mu, vt, n, o, lv⟩ := v
        have b0 := hat 0 _ (by decide) rfl
        have b1 := hat 1 _ (by decide) rfl
        have b2 := hat 2 _ (by decide) rfl
        have b3 := hat 3 _ (by decide) rfl
        have b4 := hat 4 _ (by decide) rfl
        have b5 := hat 5 _ (by decide) rfl
        simp only [Nat.add_zero] at b0
        simp only at b0 b1 b2 b3 b4 b5
        have f0 := hfro (j * 6)
        have f1 := hfro (j * 6 + 1)
        have f2 := hfro (j * 6 + 2)
        have f3 := hfro (j * 6 + 3)
        have f4 := hfro (j * 6 + 4)
        have f5 := hfro (j * 6 + 5)
        clear hat hfro
        by_cases ho : o = i
        · have e1 : (o == i) = true := beq_iff_eq.2 ho
          have HO := Lib.hid ho
          clear ho
          go_wp2_with fail
          have hr := HJ.out.setr (k := j) (g := g) (o := i) hjl HA.out rfl
          have e9 : (frL i s.vs j).set j ⟨0, false, 0, 0, i, false⟩ = frL i s.vs (j + 1) := by
            rw [← HSE.out, frV, if_pos HO.out]
          have h1 := hr.1
          simp only [e9] at h1
          have H1 := Lib.hid h1
          have H2 := Lib.hid (HS.out.trans hr.2)
          clear hr h1
          go_roundw
          case rel => exact ⟨j + 1, by omega, by rw [Int.natCast_add]; rfl, H1, H2⟩
          case measure => simp [Go.RowKit.intOf]; omega
        · have e1 : (o == i) = false := beq_eq_false_iff_ne.2 ho
          have HN := Lib.hid (HSA.out ho)
          have H1 : Hid (Gw wr B { s with f := delI s.f i, D := s.D.del (kI i), vs := frL i s.vs (j + 1) }) := by rw [HN.out]; exact HJ
          clear ho
          go_wp2_with fail
          go_roundw
          case rel => exact ⟨j + 1, by omega, by rw [Int.natCast_add]; rfl, H1, HS⟩
          case measure => simp [Go.RowKit.intOf]; omega
      · have hje : j = s.vs.length := by omega
        have g1 : ¬ (j : Int) < (s.vs.length : Int) := by omega
        have HE : Hid (Gw wr B { s with f := delI s.f i, D := s.D.del (kI i), vs := s.vs.map (frV i) }) := by rw [← frL_end, ← hje]; exact HJ
        clear hje hlt hj
        go_wp2_with fail
        go_ret
        exact ⟨rfl, HE.out, HS.out⟩
end
end Go.Proofs.Ytmheofkakcomdaa
