/-
  store: SetGlobal.
-/
import Derived.Test.YtmheofkakcomdaaGsA
import Derived.StillTailTactics
set_option linter.unusedVariables false
set_option linter.unusedSimpArgs false
namespace Go.Proofs.Ytmheofkakcomdaa
open Go.RowKit
def sgF (l : List Vr) (a : Int) (vt : Nat) : Nat := match gaF l a with
  | none => 47
  | some g => if g.mu = false then 24 else if g.t = vt then 0 else 7
def sgL (l : List Vr) (a : Int) (vt n : Nat) : List Vr := match gaF l a with
  | none => l
  | some g => if g.mu = false then l else if g.t = vt then l.set a.toNat { g with vt := vt, n := n } else l
section
variable {w w' : World} {B : Nat} {s : Sg}
theorem Gw.setv (h : Gw w B s) {k vt n g : Nat} (hk : k < s.vs.length) (hA : s.A = some ⟨g, 0, none⟩) :
    Gw ((w.setCell ⟨g, k * 6 + 2, none⟩ (.int .u8 (vt : Int))).setCell ⟨g, k * 6 + 3, none⟩ (.int .u64 (n : Int))) B { s with vs := s.vs.set k { s.vs[k] with vt := vt, n := n } } ∧ Step s.foot w ((w.setCell ⟨g, k * 6 + 2, none⟩ (.int .u8 (vt : Int))).setCell ⟨g, k * 6 + 3, none⟩ (.int .u64 (n : Int))) := by
  obtain ⟨z, hz⟩ := h.jn.blk
  have hAg : blkOf s.A = some g := by rw [hA]; rfl
  have st : Step (fun j => j = g) w ((w.setCell ⟨g, k * 6 + 2, none⟩ (.int .u8 (vt : Int))).setCell ⟨g, k * 6 + 3, none⟩ (.int .u64 (n : Int))) := (Step.setCell (F := fun j => j = g) (p := ⟨g, k * 6 + 2, none⟩) Step.refl (.inl rfl) _).setCell (p := ⟨g, k * 6 + 3, none⟩) (.inl rfl) _
  have hS := h.na h.blk (by decide)
  have hF := h.na h.fn (by decide)
  have hJ := h.na hz (by decide)
  have hK : g ≠ s.K := fun e => by
    rcases h.own.2 with ⟨h0, _⟩ | ⟨gb, cap, cur, h0, _, hgb, _⟩
    · rw [hA] at h0; simp at h0
    · rw [hA] at h0
      simp at h0
      obtain ⟨⟨es, clock, h1, _⟩, _⟩ := h.mp
      rw [← e, h0.1] at h1
      rw [hgb] at h1
      exact absurd (Option.some.inj h1) (by simp)
  have hl : (vrs s.vs).length = s.vs.length * 6 := flat_length Vr.cells 6 Vr.six s.vs
  have o0 := h.own
  rw [hA] at o0
  have o1 := own_setAt (j := k * 6 + 2) (u := .int .u8 (vt : Int)) o0 (by rw [hl]; omega)
  have o2 := own_setAt (j := k * 6 + 3) (u := .int .u64 (n : Int)) o1 (by rw [List.length_set, hl]; omega)
  have e1 : (vrs s.vs).set (k * 6 + 2) (.int .u8 (vt : Int)) = vrs (s.vs.set k { s.vs[k] with vt := vt }) := flat_set Vr.cells 6 Vr.six s.vs k 2 _ _ hk (by decide) rfl
  have hk2 : k < (s.vs.set k { s.vs[k] with vt := vt }).length := by rw [List.length_set]; exact hk
  have e2 : (vrs (s.vs.set k { s.vs[k] with vt := vt })).set (k * 6 + 3) (.int .u64 (n : Int)) = vrs ((s.vs.set k { s.vs[k] with vt := vt }).set k { s.vs[k] with vt := vt, n := n }) := flat_set Vr.cells 6 Vr.six _ k 3 _ _ hk2 (by decide) (by rw [List.getElem_set_self]; rfl)
  rw [List.set_set] at e2
  rw [e1, e2] at o2
  refine ⟨⟨?_, h.fn.step st (fun e => hF (e ▸ hAg)), h.jn.step st (fun j hj e => ?_), ?_, h.mp.step st (fun e => hK e.symm), h.ge⟩, st.mono (fun j _ e => .inr (.inr (by rw [e]; exact hAg)))⟩
  · have := h.blk.step st (fun e => hS (e ▸ hAg))
    simpa using this
  · rcases hj with rfl | hj | hj
    · exact hJ (e ▸ hAg)
    · simp [blkOf] at hj
    · simp [blkOf] at hj
  · show World.ownsRow _ B _ 6 (.slice s.A (s.vs.set k _).length s.c) (s.vs.set k _).length _
    rw [List.length_set, hA]
    exact o2
set_option maxRecDepth 100000 in
set_option maxHeartbeats 3200000 in
theorem s_setglobal (a : Int) (vt n : Nat) (h : Gw w B s) (ha : s.vs.length ≤ 1000) (hb : ∀ v ∈ s.vs, v.vt < 256) :
    Calls Try.prog 10 #[.pointer (some ⟨s.S, 0, none⟩), .int .i64 a, .agg #[.int .u8 (vt : Int), .int .u64 (n : Int)]] w fun e w' => e = .returned (.int .i64 (sgF s.vs a vt : Nat)) ∧ Gw w' B { s with vs := sgL s.vs a vt n } ∧ Step s.foot w w' := by
  obtain ⟨V, hV⟩ : ∃ V, V = w.alloc (.cells #[.int .u8 (vt : Int), .int .u64 (n : Int)] 38) := ⟨_, rfl⟩
  have st : Step (fun _ => False) w V := by rw [hV]; exact Step.refl.alloc _
  have HX := Lib.hid (Blk.new w 38 #[.int .u8 (vt : Int), .int .u64 (n : Int)])
  rw [← hV] at HX
  have HW := Lib.hid (h.quiet st)
  have S1 := Lib.hid st
  have HGA := Lib.hid (s_globalat a HW.out ha)
  have hgk : ∀ g, gaF s.vs a = some g → ∃ k : Nat, a = (k : Int) ∧ ∃ hk : k < s.vs.length, g = s.vs[k] := fun g hg => by
    rw [gaF] at hg
    split at hg
    · rename_i hc
      split at hg
      · injection hg with hg
        have hk : a.toNat < s.vs.length := by omega
        refine ⟨a.toNat, by omega, hk, ?_⟩
        rw [← hg, List.getD_eq_getElem?_getD, List.getElem?_eq_getElem hk]
        rfl
      · cases hg
    · cases hg
  have hF : sgF s.vs a vt = match gaF s.vs a with
    | none => 47
    | some g => if g.mu = false then 24 else if g.t = vt then 0 else 7 := rfl
  have hL : sgL s.vs a vt n = match gaF s.vs a with
    | none => s.vs
    | some g => if g.mu = false then s.vs else if g.t = vt then s.vs.set a.toNat { g with vt := vt, n := n } else s.vs := rfl
  obtain ⟨X, hX⟩ : ∃ X, X = w.heap.size := ⟨_, rfl⟩
  rw [← hX] at HX
  cases hg : gaF s.vs a with
  | none =>
    rw [hg] at hF hL HGA
    simp only at hF hL
    have HE := Lib.hid (And.intro hF hL)
    clear hF hL hgk h st
    have HGB : Hid (Calls Try.prog 18 #[.pointer (some ⟨s.S, 0, none⟩), .int .i64 a] V fun e w' => e = .returned (.tuple #[.agg #[.int .u8 0, .bool false, .int .u8 0, .int .u64 0, .int .i64 0, .bool false], .bool false]) ∧ Step (fun _ => False) V w') := HGA.out
    clear HGA hg
    go_enter Try.func10, Try.ntmps10
    go_wp2_with fail
    rw [← hV]
    refine HGB.out.mono ?_
    rintro e w2 ⟨rfl, t2⟩
    have T2 := Lib.hid t2
    clear t2 hV hX
    go_wp2_with fail
    go_ret
    refine ⟨by rw [HE.out.1]; rfl, ?_, ((S1.out.trans T2.out).alloc _).mono (fun _ _ h => h.elim)⟩
    rw [HE.out.2]
    exact HW.out.quiet (T2.out.alloc _)
  | some g =>
    obtain ⟨k, rfl, hk, hgv⟩ := hgk g hg
    rw [hg] at hF hL HGA
    simp only at hF hL
    have hgb := hb s.vs[k] (List.getElem_mem hk)
    rw [← hgv] at hgb
    have HGV := Lib.hid hgv
    obtain ⟨t, mu, vt0, n0, o, lv⟩ := g
    have HGB : Hid (Calls Try.prog 18 #[.pointer (some ⟨s.S, 0, none⟩), .int .i64 (k : Int)] V fun e w' => e = .returned (.tuple #[.agg #[.int .u8 (t : Int), .bool mu, .int .u8 (vt0 : Int), .int .u64 (n0 : Int), .int .i64 o, .bool lv], .bool true]) ∧ Step (fun _ => False) V w') := HGA.out
    clear HGA hg hgk hgv h st hb
    simp only at hF hL hgb
    cases mu with
    | false =>
      rw [if_pos rfl] at hF hL
      have HE := Lib.hid (And.intro hF hL)
      clear hF hL
      go_enter Try.func10, Try.ntmps10
      go_wp2_with fail
      rw [← hV]
      refine HGB.out.mono ?_
      rintro e w2 ⟨rfl, t2⟩
      have T2 := Lib.hid t2
      clear t2 hV hX
      go_wp2_with fail
      go_ret
      refine ⟨by rw [HE.out.1]; rfl, ?_, ((S1.out.trans T2.out).alloc _).mono (fun _ _ h => h.elim)⟩
      rw [HE.out.2]
      exact HW.out.quiet (T2.out.alloc _)
    | true =>
      rw [if_neg (by decide)] at hF hL
      by_cases htv : t = vt
      · rw [if_pos htv] at hF hL
        have HE := Lib.hid (And.intro hF hL)
        have e2 : ((t : Int) != (vt : Int)) = false := by rw [htv]; simp
        clear hF hL htv
        have v0 := HX.out.cell 0
        simp at v0
        have lX := HX.out.lt
        obtain ⟨ga, hAs, _, hgl, hcell, hfro⟩ := own_row HW.out.own (by omega)
        have HAS := Lib.hid hAs
        have HGL := Lib.hid hgl
        clear hAs hgl hcell hfro
        go_enter Try.func10, Try.ntmps10
        go_wp2_with fail
        rw [← hV, ← hX]
        refine HGB.out.mono ?_
        rintro e w2 ⟨rfl, t2⟩
        have T2 := Lib.hid t2
        have v1 := (HX.out.step t2 id).cell 0
        have lX2 := (HX.out.step t2 id).lt
        simp at v1
        clear t2 hV hX v0 lX
        obtain ⟨W3, hW3⟩ : ∃ W3, W3 = w2.alloc (.cells #[.int .u8 (t : Int), .bool true, .int .u8 (vt0 : Int), .int .u64 (n0 : Int), .int .i64 o, .bool lv] 56) := ⟨_, rfl⟩
        obtain ⟨Y, hY⟩ : ∃ Y, Y = w2.heap.size := ⟨_, rfl⟩
        have HY := Lib.hid (Blk.new w2 56 #[.int .u8 (t : Int), .bool true, .int .u8 (vt0 : Int), .int .u64 (n0 : Int), .int .i64 o, .bool lv])
        rw [← hW3, ← hY] at HY
        have st3 : Step (fun _ => False) V W3 := by rw [hW3]; exact T2.out.alloc _
        have HW3 := Lib.hid (HW.out.quiet st3)
        have HX3 := Lib.hid (HX.out.step st3 id)
        have S3 := Lib.hid (S1.out.trans st3)
        clear st3
        go_upto_region 8 with fail
        rw [← hW3, ← hY]
        clear hW3 hY v1 lX2 T2 HGB HX HW S1
        have x5 := (HW3.out.blk.cell 5).trans (show _ = some (Value.pointer (some ⟨s.J, 0, none⟩)) from rfl)
        have y2 := HY.out.cell 2
        have y3 := HY.out.cell 3
        simp at y2 y3
        have d5 := cls_cell (F := fun _ => False) x5 id
        have q2 := cls_cell (F := fun _ => False) y2 id
        have q3 := cls_cell (F := fun _ => False) y3 id
        have HN := Lib.hid (fun W (hs : Step (fun _ => False) W3 W) => jnote_closed W B s.J none 0 0 none 0 [] [] (.int .i64 5) (.int .i64 (k : Int)) (.int .u64 (n0 : Int)) (.string (str [UInt8.ofNat vt0])) (HW3.out.jn.quiet hs))
        have hcv : (convert 39 9 (.slice (some ⟨W3.heap.size, 0, none⟩) 1 1)).run Try.prog (W3.alloc (.cells #[.int .u8 (vt0 : Int)] 5)).drew = .ok (.string (str [UInt8.ofNat vt0])) (W3.alloc (.cells #[.int .u8 (vt0 : Int)] 5)).drew := by
          refine conv_bytes (S := fun j => j = W3.heap.size) ?_
          have e : u8s [UInt8.ofNat vt0] = (#[.int .u8 (vt0 : Int)] : Array Value).toList := by
            simp [u8s]
            omega
          rw [e]
          exact (reads_new W3 #[.int .u8 (vt0 : Int)] 5 1 1 rfl).drew
        clear x5 y2 y3
        refine Mix.wp_region_mix [11, 12, 14] [11, 12] (Step (fun _ => False) W3) (by kernel_rfl) (by kernel_rfl) (Step.refl.drew) (fun hcls => ?_)
        refine Mix.wpL_reads 11 (by rfl) ?_
        simp only [List.take_succ_cons, List.drop_succ_cons, List.take_zero, List.drop_zero]
        repeat (go_big_quiet_step (fail))
        refine wpQuiet_nil ?_
        refine Mix.wpL_op (by rfl) (fun K hK => ?_)
        go_simp
        refine hK _ _ (fun hlt => Mix.cl ((Step.refl.drew.alloc _))) ?_
        clear hK K
        refine Mix.wpL_op (by rfl) (fun K hK => ?_)
        go_simp
        refine hK _ _ (fun hlt => Mix.cl ((Step.refl.drew.alloc _))) ?_
        clear hK K
        refine Mix.wpL_reads 1 (by rfl) ?_
        simp only [List.take_succ_cons, List.drop_succ_cons, List.take_zero, List.drop_zero]
        repeat (go_big_quiet_step (fail))
        refine wpQuiet_nil ?_
        refine Mix.wpL_op (by rfl) (fun K hK => ?_)
        go_simp
        refine (HN.out _ (Step.refl.drew.alloc _)).mono ?_
        rintro e w4 ⟨rfl, t4⟩
        refine hK _ _ (fun hlt => absurd hlt (by decide)) ?_
        clear hK K
        refine Mix.wpL_end ?_
        have T4 : Step (fun _ => False) W3 w4 := (Step.refl.drew.alloc _).trans t4
        have HW4 := Lib.hid (HW3.out.quiet T4)
        have HX4 := Lib.hid (HX3.out.step T4 id)
        have S4 := Lib.hid (S3.out.trans T4)
        clear t4 T4 HN hcv d5 q2 q3 HW3 HX3 S3 HY
        have x3 := (HW4.out.blk.cell 3).trans (show _ = some (Value.slice s.A s.vs.length s.c) from rfl)
        rw [HAS.out] at x3
        have z0 := HX4.out.cell 0
        have z1 := HX4.out.cell 1
        simp at z0 z1
        have ho := HW4.out.own
        rw [HAS.out] at ho
        obtain ⟨g', e', _, _, hcell, hfro⟩ := own_row ho (by omega)
        injection e' with e'
        injection e' with e'
        subst e'
        have b2 := hcell (k * 6 + 2) _ (by rw [vrs, flat_get Vr.cells 6 Vr.six _ _ 2 hk (by decide)]; rfl)
        have b3 := hcell (k * 6 + 3) _ (by rw [vrs, flat_get Vr.cells 6 Vr.six _ _ 3 hk (by decide)]; rfl)
        have bf2 := hfro (k * 6 + 2)
        have bf3 := hfro (k * 6 + 3)
        have g1 : (k : Int) < (s.vs.length : Int) := by omega
        have g0 : (0 : Int) ≤ (k : Int) := by omega
        clear ho hcell hfro
        go_upto_region 9 with fail
        go_still_tail 8, (by kernel_rfl)
        go_wp2_with fail
        go_ret
        have hp := (HW4.out.setv (k := k) (vt := vt) (n := n) hk HAS.out)
        refine ⟨by rw [HE.out.1]; rfl, ?_, (S4.out.mono (fun _ _ h => h.elim)).trans hp.2.drew⟩
        have e9 : s.vs.set (Int.toNat (k : Int)) (⟨t, true, vt, n, o, lv⟩ : Vr) = s.vs.set k { s.vs[k] with vt := vt, n := n } := by rw [Int.toNat_natCast, ← HGV.out]
        rw [HE.out.2, e9]
        exact hp.1.quiet Step.refl.drew
      · rw [if_neg htv] at hF hL
        have HE := Lib.hid (And.intro hF hL)
        have hne : ¬ (t : Int) = (vt : Int) := by omega
        have e2 : ((t : Int) != (vt : Int)) = true := bne_iff_ne.2 hne
        have HNE := Lib.hid hne
        clear hF hL htv hne
        have v0 := HX.out.cell 0
        simp at v0
        have lX := HX.out.lt
        go_enter Try.func10, Try.ntmps10
        go_wp2_with fail
        rw [← hV, ← hX]
        refine HGB.out.mono ?_
        rintro e w2 ⟨rfl, t2⟩
        have T2 := Lib.hid t2
        have v1 := (HX.out.step t2 id).cell 0
        have lX2 := (HX.out.step t2 id).lt
        simp at v1
        clear t2 hV hX v0 lX
        go_wp2_with fail
        go_ret
        refine ⟨by rw [HE.out.1]; rfl, ?_, ((S1.out.trans T2.out).alloc _).mono (fun _ _ h => h.elim)⟩
        rw [HE.out.2]
        exact HW.out.quiet (T2.out.alloc _)
end
end Go.Proofs.Ytmheofkakcomdaa
