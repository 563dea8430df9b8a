/-
  store: the law StoreBack walked.
-/
import Derived.Test.YtmheofkakcomdaaSbW
import Derived.Deep.DeepCutAuto
import Derived.Deep.CutBlock
set_option linter.unusedVariables false
set_option linter.unusedSimpArgs false
namespace Go.Proofs.Ytmheofkakcomdaa
open Go.RowKit
theorem config30b (w : World) : Calls Try.prog 8 #[] w fun e w' => e = .returned (.agg #[.int .i64 1, .int .i64 3, .int .i64 8, .int .i64 12]) ∧ Step (fun _ => False) w w' := config_any w
set_option maxRecDepth 100000 in
/-- The law's first state. -/
theorem bk_new {w w1 w2 : World} {r : Rc} (hs : Step (fun _ => False) w w1) (h : Ws w2 w.heap.size r) (hv : r.vw = ⟨List.replicate (1 * 65536) 0, List.replicate 8 (-1), [], 0, fun _ => none, [], [], [], []⟩) (h3 : r.most = 3) (h4 : r.mt = 12) (t : Step (fun _ => False) w1 w2) :
    Bk w w2 r.S r 0 none 0 0 [] ([], []) := by
  have e1 : r.ps = ⟨List.replicate (1 * 65536) 0, List.replicate 8 (-1), [], fun _ => none, [], []⟩ := (congrArg Vw.ps hv).trans rfl
  have e2 : r.es = [] := congrArg Vw.es hv
  have e3 : r.ms = [] := congrArg Vw.ms hv
  have e4 : r.nn = 0 := congrArg Vw.nn hv
  refine ⟨h, rfl, ⟨h3, h4⟩, ⟨[], ?_⟩, ⟨by omega, by rw [e2]; exact Nat.le_refl _⟩, by rw [e3]; exact .nil _ _, ⟨rfl, by omega, by omega⟩, Reads.nil_, rfl, fun i x y h1 => by simp at h1, hs.trans t⟩
  rw [e1]
  refine ⟨ris_nil, Nat.le_refl _, fun i v h => (by cases h), ⟨1, List.length_replicate, by omega⟩, fun x hx => ?_, by simp, fun v hv => (by cases hv), Nat.le_refl _, fun k hk => absurd hk (Nat.not_lt_zero _), Nat.le_refl _, rfl, fun x hx => (by cases hx)⟩
  rw [List.eq_of_mem_replicate hx]
  exact ⟨by omega, by decide⟩
theorem shs_one (l : List Sh) : ∀ u ∈ shs l, u.oneCell' = true := by
  intro u hu
  obtain ⟨f, _, hf⟩ := List.mem_flatMap.1 hu
  simp [Sh.cells] at hf
  rcases hf with rfl | rfl | rfl | rfl | rfl <;> rfl
section
variable {w0 w w' : World} {S0 : Nat} {r : Rc} {N : Nat} {Dm : Option Addr} {nm cm : Nat} {xs : List Sh} {sx sh : List (Ps × List Int)}
/-- One mark more. -/
theorem bk_push {x : Sh} {ow : List Int} {D2 : Option Addr} {c2 : Nat} (h : Bk w0 w S0 r N Dm nm cm xs (sx, sh)) (hs : Step (fun _ => False) w w') (hx : ShOk w' (fun k => k < w'.heap.size ∧ ¬ r.foot k) x r.ps ow)
    (ho : w'.ownsRow w.heap.size 68 5 (.slice D2 (nm + 1) c2) (nm + 1) (shs xs ++ x.cells)) (hn : nm + 1 ≤ 5) : Bk w0 w' S0 r N D2 (nm + 1) c2 (xs ++ [x]) (sx ++ [(r.ps, ow)], sh) := by
  have h1 := h.quiet hs
  have hl : nm = sx.length := h.ml.1
  refine ⟨h1.ws, h1.S, h1.most, h1.good, h1.nn, h1.ch, ⟨by show _ = (sx ++ [_]).length; rw [List.length_append, ← hl]; rfl, hn, own_cap ho⟩, ?_, by rw [List.length_append, h.xl]; rfl, fun i y z h2 h3 => ?_, h1.st⟩
  · have e : shs (xs ++ [x]) = shs xs ++ x.cells := by simp [shs]
    rw [e]
    exact (Reads.of_own ho).mono (fun k hk hb => ⟨hk, fun hf => by have := h.ws.in_ k hf; have := own_ge ho k hb; omega⟩)
  · have h3 : (sx ++ [(r.ps, ow)])[i]? = some z := h3
    by_cases hi : i < nm
    · rw [List.getElem?_append_left (by rw [h.xl]; exact hi)] at h2
      rw [List.getElem?_append_left (by rw [← hl]; exact hi)] at h3
      exact h1.each i y z h2 h3
    · have hi2 : i = nm := by
        have := (List.getElem?_eq_some_iff.1 h2).1
        rw [List.length_append, h.xl] at this
        simp at this
        omega
      subst hi2
      rw [List.getElem?_append_right (by rw [h.xl]; exact Nat.le_refl _), h.xl, Nat.sub_self] at h2
      rw [List.getElem?_append_right (by rw [← hl]; exact Nat.le_refl _), ← hl, Nat.sub_self] at h3
      simp at h2 h3
      subst h2 h3
      exact hx
theorem shC_le {N : Nat} {p : Ps} {ow : List Int} (h : Good N p ow) (hN : N ≤ 1000) : (shC p.fs p.cells).length ≤ 1048576 := by
  have h1 := h.fl
  rw [shC, List.length_map, List.length_zip]
  omega
/-- One mark less. -/
theorem bk_pop {m : Nat} {y : Ps × List Int} (h : Bk w0 w S0 r N Dm (m + 1) cm xs (sx ++ [y], sh)) : Bk w0 w S0 r N Dm m cm (xs.take m) (sx, sh) := by
  have hl : m + 1 = (sx ++ [y]).length := h.ml.1
  rw [List.length_append, List.length_singleton] at hl
  refine ⟨h.ws, h.S, h.most, h.good, h.nn, h.ch, ⟨by show m = sx.length; omega, by have := h.ml.2.1; omega, by have := h.ml.2.2; omega⟩, ?_, by rw [List.length_take, h.xl]; omega, fun i x z h2 h3 => ?_, h.st⟩
  · have e : shs (xs.take m) = (shs xs).take (m * 5) := flat_tk Sh.cells 5 Sh.five xs m
    rw [e]
    refine ⟨by rw [List.length_take, h.rd.1]; omega, fun hm => ?_⟩
    obtain ⟨a, h1, h2, h3, h4⟩ := h.rd.2 (by omega)
    exact ⟨a, h1, h2, h3, fun j u hu => h4 j u (by
      rw [List.getElem?_take] at hu
      split at hu
      · exact hu
      · cases hu)⟩
  · have h3 : sx[i]? = some z := h3
    have hi : i < sx.length := (List.getElem?_eq_some_iff.1 h3).1
    refine h.each i x z ?_ ?_
    · rw [List.getElem?_take] at h2
      split at h2
      · exact h2
      · cases h2
    · show (sx ++ [y])[i]? = some z
      rw [List.getElem?_append_left hi]
      exact h3
end
set_option maxRecDepth 100000 in
set_option maxHeartbeats 12800000 in
theorem back_walk (w : World) (A : Option Addr) (n c : Nat) (l : List Og) (HN : Hid (n = l.length)) (hr : Reads w (fun k => k < w.heap.size) 8 A n (ogs l)) (hn : n ≤ 9223372036854775807) (hwf : ∀ o ∈ l, OgIn w o) :
    Calls Try.prog 4 #[.slice A n c] w fun e w' => e = .returned (.bool true) ∧ Step (fun _ => False) w w' := by
  have HR := Lib.hid hr
  have HWF := Lib.hid hwf
  clear hr hwf
  go_enter Try.func4, Try.ntmps4
  go_wp2_with fail
  refine (awake30 _).mono ?_
  rintro e w1 ⟨rfl, t1⟩
  have S1 := Lib.hid t1
  clear t1
  go_wp2_with fail
  refine (few30 _ _ A n c l HN (HR.out.step S1.out (fun _ _ => id)) hn).mono ?_
  rintro e w2 ⟨⟨b, rfl, hb⟩, rfl⟩
  cases b with
  | false =>
    go_wp2_with fail
    go_ret
    exact ⟨rfl, S1.out⟩
  | true =>
    have hn40 := hb rfl
    clear hb
    go_wp2_with fail
    refine (config30b _).mono ?_
    rintro e w2 ⟨rfl, t2⟩
    have S2 := Lib.hid (S1.out.trans t2)
    clear t2 S1
    go_wp2_with fail
    refine (w_new _ w.heap.size S2.out.size).mono ?_
    rintro e w3 ⟨r, rfl, hws, hv, h3, h4, hfo, t3⟩
    have HB := Lib.hid (bk_new S2.out hws hv h3 h4 t3)
    clear hws hv h3 h4 hfo t3 S2
    obtain ⟨S0, hS0⟩ : ∃ S0, S0 = r.S := ⟨_, rfl⟩
    rw [← hS0] at HB ⊢
    clear hS0
    go_wp2_with fail
    go_loopw [5, 6] (fun u5 iv wr => ∃ (j : Nat) (r : Rc) (Dm : Option Addr) (nm cm : Nat) (xs : List Sh) (sh : List (Ps × List Int)), j ≤ n ∧ u5 = .slice Dm nm cm ∧ iv = .int .i64 (j : Int) ∧ Hid (Bk w wr S0 r j Dm nm cm xs (sh, sh))) (fun _ iv _ => n + 1 - (Go.RowKit.intOf iv).toNat)
    case atStart => exact ⟨0, r, none, 0, 0, [], [], Nat.zero_le _, rfl, rfl, HB⟩
    case round =>
      obtain ⟨j, r, Dm, nm, cm, xs, sh, hj, rfl, rfl, HK⟩ := hrel
      by_cases hlt : j < n
      · have q1 : (j : Int) < (n : Int) := by omega
        have i0 : (0 : Int) ≤ (j : Int) := by omega
        have hw1 := IntWalk.i64_in ((j : Int) + 1) (by omega)
        have hjl : j < l.length := by rw [← HN.out]; exact hlt
        obtain ⟨bk, off, hA, _, hbl, hc⟩ := reads_row Og.cells 8 (by decide) Og.eight (HR.out.step HK.out.st (fun _ _ => id)) hjl
        have HA := Lib.hid hA
        rw [hA]
        have HO := Lib.hid (HWF.out l[j] (List.getElem_mem hjl))
        clear hA
        obtain ⟨o, ho⟩ : ∃ o, o = l[j] := ⟨_, rfl⟩
        rw [← ho] at hc HO
        clear ho
        have HC := Lib.hid hc
        have k0 := hc 0 _ rfl
        simp only [Nat.add_zero] at k0
        clear hc
        have HN1 : Hid (j ≤ 1000) := by rw [Hid]; omega
        have hnm5 := HK.out.ml.2.1
        have hnmc := HK.out.ml.2.2
        have HSL : Hid (nm = sh.length) := HK.out.ml.1
        by_cases h10 : o.k = 10
        · have e10 : (o.k == 10) = true := beq_iff_eq.2 h10
          replace h10 := Lib.hid h10
          by_cases h5 : nm < 5
          · have q5 : (nm : Int) < 5 := by omega
            have HBG := Lib.hid (bk_begin HK.out HN1.out (by have := HSL.out; omega))
            go_wp2_with fail
            refine HBG.out.mono ?_
            rintro e w4 ⟨rfl, r4, ow, hb4, hg4⟩
            have HB4 := Lib.hid hb4
            have HG4 := Lib.hid hg4
            have hfr := own_fresh (w := w4) (e := 68) (base := w4.heap.size) 5 (Nat.le_refl _)
            have hrd := hb4.rd.step (Step.refl.alloc (F := fun _ => False) (.cells #[] 68)) (fun _ _ => id)
            have hone := shs_one xs
            have hm1 : 0 + nm ≤ maxLen := by unfold maxLen; omega
            have hsz : w4.heap.size ≤ (w4.alloc (.cells #[] 68)).heap.size := by simp
            clear hb4 hg4 HBG
            go_wp2_with (at_builtin; refine wpList_append_src _ rfl _ _ (by rfl) E_sh (by rfl) hfr (by rfl) hrd hone hm1 (by omega) hsz ?_; intro D1 c1 w5 hown1 hgrow1 hat1)
            have st5 := grow_step (Step.refl.alloc (F := fun _ => False) (.cells #[] 68)) hgrow1 hfr (Nat.le_refl _)
            rw [Nat.zero_add, List.nil_append] at hown1
            have HO1 := Lib.hid hown1
            have HST5 := Lib.hid st5
            have HSH := Lib.hid (bk_shot (HB4.out.quiet st5) HN1.out HG4.out)
            clear hown1 hgrow1 hat1 st5 hfr hrd hsz
            refine HSH.out.mono ?_
            rintro e w6 ⟨x, rfl, hx, t6⟩
            have HX6 := Lib.hid hx
            have ho6 := own_below HO1.out t6
            have HT6 := Lib.hid t6
            have hone2 : ∀ u ∈ (#[.string (str x.l), .slice x.A1 x.n1 x.c1, .slice x.A2 x.n2 x.c2, .slice x.A3 x.n3 x.c3, .slice x.A4 x.n4 x.c4] : Array Value).toList, u.oneCell' = true := by simp [Value.oneCell']
            have hrn := reads_new w6 #[.string (str x.l), .slice x.A1 x.n1 x.c1, .slice x.A2 x.n2 x.c2, .slice x.A3 x.n3 x.c3, .slice x.A4 x.n4 x.c4] 68 5 1 rfl
            have hm2 : nm + 1 ≤ maxLen := by unfold maxLen; omega
            have hle : w4.heap.size ≤ w6.heap.size := Nat.le_trans HST5.out.size t6.size
            clear hx t6 HSH
            go_wp2_with (at_builtin; refine wpList_append_src _ rfl _ _ (by rfl) E_sh (by rfl) (ho6.alloc _) (by rfl) hrn hone2 hm2 (by omega) (by simp; omega) ?_; intro D2 c2 w7 hown2 hgrow2 hat2)
            have T7 : Step (fun _ => False) w4 w7 := (HST5.out.trans HT6.out).trans' ((Step.refl.alloc (F := fun k => blkOf D1 = some k) _).grown hgrow2 (fun k hk => .inl hk)) (fun k hk => .inr (own_ge HO1.out k (by rwa [ownBlock_slice])))
            have t67 : Step (fun k => blkOf D1 = some k) w6 w7 := (Step.refl.alloc _).grown hgrow2 (fun k hk => .inl hk)
            have hxx : ShOk w7 (fun k => k < w7.heap.size ∧ ¬ r4.foot k) x r4.ps ow := (HX6.out.step t67 (fun k hk e => by
              have := own_lt HO1.out k (by rwa [ownBlock_slice])
              have := hk.1
              omega)).mono (fun k hk h1 => ⟨hk, fun hf => by
              have := HB4.out.ws.in_ k hf
              have := HST5.out.size
              have := h1.1
              omega⟩)
            have hfin := bk_push HB4.out T7 hxx hown2 (by omega)
            exact ⟨⟨j + 1, r4, D2, nm + 1, c2, xs ++ [x], sh ++ [(r4.ps, ow)], by omega, rfl, by rw [Int.natCast_add]; rfl, hfin.mono (Nat.le_succ j)⟩, by simp [Go.RowKit.intOf]; omega⟩
          · have q5 : ¬ (nm : Int) < 5 := by omega
            go_wp2_with fail
            exact ⟨⟨j + 1, r, Dm, nm, cm, xs, sh, by omega, rfl, by rw [Int.natCast_add]; rfl, HK.out.mono (Nat.le_succ j)⟩, by simp [Go.RowKit.intOf]; omega⟩
        · have e10 : (o.k == 10) = false := beq_eq_false_iff_ne.2 h10
          replace h10 := Lib.hid h10
          by_cases h11 : o.k = 11
          · have e11 : (o.k == 11) = true := beq_iff_eq.2 h11
            replace h11 := Lib.hid h11
            by_cases h0 : nm = 0
            · subst h0
              have hse : sh = [] := List.eq_nil_of_length_eq_zero HSL.out.symm
              have HBE := Lib.hid (bk_back_err HK.out hse)
              have wm : IntKind.i64.wrap ((0 : Int) - 1) = -1 := by decide
              have m3 : ¬ (-1 : Int) < 0 ∨ (-1 : Int) < 0 := by omega
              have sl := slice_hn E_sh Dm 0 cm .i64 (0 : Int) 0 rfl (Nat.zero_le _)
              go_wp2_with fail
              refine HBE.out.mono ?_
              rintro e w4 ⟨rfl, t4⟩
              have HK4 := Lib.hid (HK.out.quiet t4)
              clear t4 HBE
              go_wp2_with fail
              go_quiet (fail)
              go_wp2_with fail
              exact ⟨⟨j + 1, r, Dm, 0, cm, xs, sh, by omega, by first | rfl | simp, by rw [Int.natCast_add]; rfl, (HK4.out.quiet (Step.refl.drewN nq)).mono (Nat.le_succ j)⟩, by simp [Go.RowKit.intOf]; omega⟩
            · obtain ⟨m, hm⟩ : ∃ m, nm = m + 1 := ⟨nm - 1, by omega⟩
              have e0 : ((nm : Int) == 0) = false := beq_eq_false_iff_ne.2 (by omega)
              have g0 : decide ((0 : Int) < (nm : Int)) = true := decide_eq_true (by omega)
              have g0' : (0 : Int) < (nm : Int) := by omega
              have g0n : 0 < nm := by omega
              have g0d : decide (0 < nm) = true := decide_eq_true g0n
              have wm : IntKind.i64.wrap ((nm : Int) - 1) = (m : Int) := by rw [show (nm : Int) - 1 = (m : Int) by omega]; exact IntWalk.i64_in _ (by omega)
              have mx : max (m : Int) 0 = (m : Int) := by omega
              have HBK := Lib.hid (bk_back_ok HK.out HN1.out (by have := HSL.out; omega) (by have := HSL.out; omega))
              have HM := Lib.hid hm
              have hml : m ≤ cm := by omega
              replace h0 := Lib.hid h0
              clear hm hnm5 hnmc
              go_wp2_with fail
              refine HBK.out.mono ?_
              rintro e w4 ⟨rfl, r4, sh4, ow, hsh, hg, hb, _⟩
              subst hsh
              have HB4 := Lib.hid hb
              have HG4 := Lib.hid hg
              have hxm : m < xs.length := by rw [hb.xl, HM.out]; omega
              obtain ⟨bm, om, hDm, _, _, hcm⟩ := reads_row Sh.cells 5 (by decide) Sh.five hb.rd (by exact hxm)
              obtain ⟨y, hy⟩ : ∃ y, y = xs[m] := ⟨_, rfl⟩
              have HY : Hid (xs[m]? = some y) := by rw [Hid, hy]; exact List.getElem?_eq_getElem hxm
              rw [← hy] at hcm
              have d0 := cls_cell3 (F := fun _ => False) (hcm 0 _ rfl) id
              have d1 := cls_cell3 (F := fun _ => False) (hcm 1 _ rfl) id
              have d2 := cls_cell3 (F := fun _ => False) (hcm 2 _ rfl) id
              have d3 := cls_cell3 (F := fun _ => False) (hcm 3 _ rfl) id
              have d4 := cls_cell3 (F := fun _ => False) (hcm 4 _ rfl) id
              simp only [Nat.add_zero] at d0
              have i2 : (0 : Int) ≤ (m : Int) := by omega
              have i3 : (m : Int) < (nm : Int) := by have := HM.out; omega
              have sl := slice_hn E_sh Dm nm cm .i64 (m : Int) m rfl hml
              have HDm := Lib.hid hDm
              rw [hDm] at sl ⊢
              have HEA : Hid (∀ u, Step (fun _ => False) w4 u → ShOk u (fun k => k < w4.heap.size ∧ ¬ r4.foot k) y r4.ps ow) := fun u t => (HB4.out.each m y (r4.ps, ow) HY.out (by
                have h1 : nm = (sh4 ++ [(r4.ps, ow)]).length := HSL.out
                have h2 := HM.out
                rw [List.length_append, List.length_singleton] at h1
                show (sh4 ++ [(r4.ps, ow)])[m]? = _
                rw [List.getElem?_append_right (by omega), show m - sh4.length = 0 by omega]
                rfl)).step t (fun _ _ => id)
              have HSH := Lib.hid (fun u (t : Step (fun _ => False) w4 u) => bk_shot (HB4.out.quiet t) HN1.out HG4.out)
              clear hb hg hxm hy hcm hDm HBK
              go_wp2_with fail
              have st : Step (fun _ => False) w4 w4.drew := Step.refl.drew
              refine Mxg.wp_region_masks [14, 20] [14, 20] (.reads [0, 1, 2, 3, 4, 5, 6, 7, 8, 9, 10, 11, 12, 13, 15, 16, 17, 18, 19] (.op 14 (.op 20 (.reads [21, 22, 23, 24] .leaf)))) [0, 1, 3, 7, 15, 31, 63, 127, 255, 511, 1023, 2047, 4095, 8191, 16383, 8191, 8191, 73727, 237567, 499711, 1048575, 2097151, 4194303, 8388607, 16777215] (Step (fun _ => False) w4) (by kernel_rfl) (by kernel_rfl) (st) (fun hcls => ?_)
              refine Mxg.wpTL_reads ?_
              simp only [List.flatMap_cons, List.flatMap_nil, List.getElem?_cons_succ, List.getElem?_cons_zero, Option.toList_some, List.cons_append, List.nil_append]
              repeat (go_big_quiet_step (fail))
              refine wpQuiet_nil ?_
              refine Mxg.wpTL_op (by rfl) (fun K hK => ?_)
              go_simp
              refine (HSH.out _ st).mono ?_
              rintro e w5 ⟨x, rfl, hx, t5⟩
              have st5 := st.trans t5
              have HXX := Lib.hid hx
              have HST := Lib.hid st5
              refine hK _ _ (fun hlt => Mif.cl (st5)) ?_
              clear hK K
              clear hx t5
              have b1 : x.n1 ≤ 1048576 := by rw [HXX.out.e1]; have := HG4.out.ltl; omega
              have b2 : x.n2 ≤ 1048576 := by rw [HXX.out.e2]; have := HG4.out.vl; have := HN1.out; omega
              have b3 : x.n3 ≤ 1048576 := by rw [HXX.out.e3]; exact shC_le HG4.out HN1.out
              have b4 : x.n4 ≤ 1048576 := by rw [HXX.out.e4]; have := HG4.out.owl; have := HN1.out; omega
              have hsm := s_same HXX.out (HEA.out _ st5) b1 b2 b3 b4
              clear b1 b2 b3 b4
              have HSM := Lib.hid hsm
              clear hsm
              refine Mxg.wpTL_op (by rfl) (fun K hK => ?_)
              go_simp
              refine HSM.out.mono ?_
              rintro e w6 ⟨rfl, t6⟩
              have st6 := st5.trans t6
              have HST6 := Lib.hid st6
              refine hK _ _ (fun hlt => Mif.cl (st6)) ?_
              clear hK K
              clear t6 d0 d1 d2 d3 d4
              refine Mxg.wpTL_reads ?_
              simp only [List.flatMap_cons, List.flatMap_nil, List.getElem?_cons_succ, List.getElem?_cons_zero, Option.toList_some, List.cons_append, List.nil_append]
              repeat (go_big_quiet_step (fail))
              refine wpQuiet_nil ?_
              refine Mxg.wpTL_leaf ?_
              clear st st5 st6 HSM HSH HEA HXX HST hcls
              have hfin := (HB4.out.quiet HST6.out)
              rw [HM.out] at hfin
              have HF := Lib.hid (bk_pop hfin)
              clear hfin
              go_wp2_with fail
              rw [← HDm.out]
              exact ⟨⟨j + 1, r4, Dm, m, cm, xs.take m, sh4, by omega, rfl, by rw [Int.natCast_add]; rfl, HF.out.mono (Nat.le_succ j)⟩, by simp [Go.RowKit.intOf]; omega⟩
          · have e11 : (o.k == 11) = false := beq_eq_false_iff_ne.2 h11
            replace h11 := Lib.hid h11
            by_cases h12 : o.k = 12
            · have e12 : (o.k == 12) = true := beq_iff_eq.2 h12
              replace h12 := Lib.hid h12
              by_cases h0 : nm = 0
              · subst h0
                have hse : sh = [] := List.eq_nil_of_length_eq_zero HSL.out.symm
                have HBE := Lib.hid (bk_keep_err HK.out hse)
                have wm : IntKind.i64.wrap ((0 : Int) - 1) = -1 := by decide
                have sl := slice_hn E_sh Dm 0 cm .i64 (0 : Int) 0 rfl (Nat.zero_le _)
                go_wp2_with fail
                refine HBE.out.mono ?_
                rintro e w4 ⟨rfl, rfl⟩
                clear HBE
                go_wp2_with fail
                exact ⟨⟨j + 1, r, Dm, 0, cm, xs, sh, by omega, by first | rfl | simp, by rw [Int.natCast_add]; rfl, HK.out.mono (Nat.le_succ j)⟩, by simp [Go.RowKit.intOf]; omega⟩
              · obtain ⟨m, hm⟩ : ∃ m, nm = m + 1 := ⟨nm - 1, by omega⟩
                have e0 : ((nm : Int) == 0) = false := beq_eq_false_iff_ne.2 (by omega)
                have g0 : decide ((0 : Int) < (nm : Int)) = true := decide_eq_true (by omega)
                have g0' : (0 : Int) < (nm : Int) := by omega
                have g0n : 0 < nm := by omega
                have g0d : decide (0 < nm) = true := decide_eq_true g0n
                have wm : IntKind.i64.wrap ((nm : Int) - 1) = (m : Int) := by rw [show (nm : Int) - 1 = (m : Int) by omega]; exact IntWalk.i64_in _ (by omega)
                have mx : max (m : Int) 0 = (m : Int) := by omega
                have HBK := Lib.hid (bk_keep_ok HK.out (by have := HSL.out; omega) (by have := HSL.out; omega))
                have HM := Lib.hid hm
                have hml : m ≤ cm := by omega
                have sl := slice_hn E_sh Dm nm cm .i64 (m : Int) m rfl hml
                replace h0 := Lib.hid h0
                clear hm hnm5 hnmc
                go_wp2_with fail
                refine HBK.out.mono ?_
                rintro e w4 ⟨rfl, r4, sh4, y, hsh, hb⟩
                subst hsh
                rw [HM.out] at hb
                have HF := Lib.hid (bk_pop hb)
                clear hb HBK
                go_wp2_with fail
                exact ⟨⟨j + 1, r4, Dm, m, cm, xs.take m, sh4, by omega, rfl, by rw [Int.natCast_add]; rfl, HF.out.mono (Nat.le_succ j)⟩, by simp [Go.RowKit.intOf]; omega⟩
            · have e12 : (o.k == 12) = false := beq_eq_false_iff_ne.2 h12
              replace h12 := Lib.hid h12
              have k1 := HC.out 1 _ rfl
              have k2 := HC.out 2 _ rfl
              have k3 := HC.out 3 _ rfl
              have k4 := HC.out 4 _ rfl
              have k5 := HC.out 5 _ rfl
              have k6 := HC.out 6 _ rfl
              have k7 := HC.out 7 _ rfl
              have HDO := Lib.hid (do_walk HK.out HN1.out o HO.out)
              go_wp2_with fail
              refine HDO.out.mono ?_
              rintro e w4 ⟨rfl, r4, hb⟩
              have HF := Lib.hid hb
              clear hb HDO k1 k2 k3 k4 k5 k6 k7
              go_wp2_with fail
              exact ⟨⟨j + 1, r4, Dm, nm, cm, xs, sh, by omega, rfl, by rw [Int.natCast_add]; rfl, HF.out⟩, by simp [Go.RowKit.intOf]; omega⟩
      · have q1 : ¬ (j : Int) < (n : Int) := by omega
        have HN1 : Hid (j ≤ 1000) := by rw [Hid]; omega
        go_wp2_with fail
        go_loopw [10] (fun iv wr => ∃ (m : Nat) (r : Rc) (xs : List Sh) (sh : List (Ps × List Int)), m ≤ nm ∧ iv = .int .i64 (m : Int) ∧ Hid (Bk w wr S0 r j Dm m cm xs (sh, sh))) (fun iv _ => (Go.RowKit.intOf iv).toNat)
        case atStart => exact ⟨nm, r, xs, sh, Nat.le_refl _, rfl, HK⟩
        case round =>
          obtain ⟨mm, r2, xs2, sh2, hmm, rfl, HK2⟩ := hrel
          have HSL : Hid (mm = sh2.length) := HK2.out.ml.1
          have hmm5 := HK2.out.ml.2.1
          by_cases h0 : mm = 0
          · subst h0
            have hse : sh2 = [] := List.eq_nil_of_length_eq_zero HSL.out.symm
            have HBE := Lib.hid (bk_back_err HK2.out hse)
            go_wp2_with fail
            refine HBE.out.mono ?_
            rintro e w4 ⟨rfl, t4⟩
            have HF := Lib.hid (HK2.out.quiet t4).st
            clear t4 HBE
            go_wp2_with fail
            go_ret
            exact ⟨rfl, HF.out⟩
          · obtain ⟨m, hm⟩ : ∃ m, mm = m + 1 := ⟨mm - 1, by omega⟩
            have g0' : (0 : Int) < (mm : Int) := by omega
            have g0n : 0 < mm := by omega
            have wm : IntKind.i64.wrap ((mm : Int) - 1) = (m : Int) := by rw [show (mm : Int) - 1 = (m : Int) by omega]; exact IntWalk.i64_in _ (by omega)
            have HBK := Lib.hid (fun u (t : Step (fun _ => False) wr u) => bk_back_ok (HK2.out.quiet t) HN1.out (by have := HSL.out; omega) (by have := HSL.out; omega))
            have HM := Lib.hid hm
            have hxm : m < xs2.length := by rw [HK2.out.xl, hm]; omega
            obtain ⟨bm, om, hDm, hbm, _, hcm⟩ := reads_row Sh.cells 5 (by decide) Sh.five HK2.out.rd (by exact hxm)
            obtain ⟨y, hy⟩ : ∃ y, y = xs2[m] := ⟨_, rfl⟩
            have HY : Hid (xs2[m]? = some y) := by rw [Hid, hy]; exact List.getElem?_eq_getElem hxm
            rw [← hy] at hcm
            have d0 := cls_cell3 (F := r2.foot) (hcm 0 _ rfl) hbm.2
            have d1 := cls_cell3 (F := r2.foot) (hcm 1 _ rfl) hbm.2
            have d2 := cls_cell3 (F := r2.foot) (hcm 2 _ rfl) hbm.2
            have d3 := cls_cell3 (F := r2.foot) (hcm 3 _ rfl) hbm.2
            have d4 := cls_cell3 (F := r2.foot) (hcm 4 _ rfl) hbm.2
            simp only [Nat.add_zero] at d0
            have i2 : (0 : Int) ≤ (m : Int) := by omega
            have i3 : (m : Int) < (nm : Int) := by omega
            have HDm := Lib.hid hDm
            rw [hDm]
            replace h0 := Lib.hid h0
            clear hm hxm hy hcm hDm hbm
            go_wp2_with fail
            have st : Step r2.foot wr wr.drew := Step.refl.drew
            refine Mxg.wp_region_masks [1, 5, 11] [1, 5, 11] (.reads [0] (.op 1 (.reads [2, 3, 4, 6, 7, 8, 9, 10] (.op 5 (.op 11 (.reads [12, 13] .leaf)))))) [0, 1, 3, 7, 15, 31, 15, 15, 143, 463, 975, 2047, 4095, 8191] (Step r2.foot wr) (by kernel_rfl) (by kernel_rfl) (st) (fun hcls => ?_)
            refine Mxg.wpTL_reads ?_
            simp only [List.flatMap_cons, List.flatMap_nil, List.getElem?_cons_succ, List.getElem?_cons_zero, Option.toList_some, List.cons_append, List.nil_append]
            repeat (go_big_quiet_step (fail))
            refine wpQuiet_nil ?_
            refine Mxg.wpTL_op (by rfl) (fun K hK => ?_)
            go_simp
            refine (HBK.out _ Step.refl.drew).mono ?_
            rintro e w4 ⟨rfl, r4, sh4, ow, hsh, hg, hb, hup⟩
            subst hsh
            have st4 : Step r2.foot wr w4 := st.trans hup
            have HB4 := Lib.hid hb
            have HG4 := Lib.hid hg
            refine hK _ _ (fun hlt => Mif.cl (st4)) ?_
            clear hK K
            clear hb hg hup
            have HEA : Hid (∀ u, Step (fun _ => False) w4 u → ShOk u (fun k => k < w4.heap.size ∧ ¬ r4.foot k) y r4.ps ow) := fun u t => (HB4.out.each m y (r4.ps, ow) HY.out (by
              have h1 : mm = (sh4 ++ [(r4.ps, ow)]).length := HSL.out
              have h2 := HM.out
              rw [List.length_append, List.length_singleton] at h1
              show (sh4 ++ [(r4.ps, ow)])[m]? = _
              rw [List.getElem?_append_right (by omega), show m - sh4.length = 0 by omega]
              rfl)).step t (fun _ _ => id)
            have HSH := Lib.hid (bk_shot HB4.out HN1.out HG4.out)
            clear HBK
            refine Mxg.wpTL_reads ?_
            simp only [List.flatMap_cons, List.flatMap_nil, List.getElem?_cons_succ, List.getElem?_cons_zero, Option.toList_some, List.cons_append, List.nil_append]
            repeat (go_big_quiet_step (fail))
            refine wpQuiet_nil ?_
            refine Mxg.wpTL_op (by rfl) (fun K hK => ?_)
            go_simp
            refine HSH.out.mono ?_
            rintro e w5 ⟨x, rfl, hx, t5⟩
            have st5 : Step r2.foot wr w5 := st4.trans (t5.mono fun _ _ h => h.elim)
            have HXX := Lib.hid hx
            refine hK _ _ (fun hlt => Mif.cl (st5)) ?_
            clear hK K
            have T5 := Lib.hid t5
            clear hx t5
            have b1 : x.n1 ≤ 1048576 := by rw [HXX.out.e1]; have := HG4.out.ltl; omega
            have b2 : x.n2 ≤ 1048576 := by rw [HXX.out.e2]; have := HG4.out.vl; have := HN1.out; omega
            have b3 : x.n3 ≤ 1048576 := by rw [HXX.out.e3]; exact shC_le HG4.out HN1.out
            have b4 : x.n4 ≤ 1048576 := by rw [HXX.out.e4]; have := HG4.out.owl; have := HN1.out; omega
            have hsm := s_same HXX.out (HEA.out _ T5.out) b1 b2 b3 b4
            have HSM := Lib.hid hsm
            clear hsm b1 b2 b3 b4
            refine Mxg.wpTL_op (by rfl) (fun K hK => ?_)
            go_simp
            refine HSM.out.mono ?_
            rintro e w6 ⟨rfl, t6⟩
            have st6 : Step r2.foot wr w6 := st5.trans (t6.mono fun _ _ h => h.elim)
            have T6 := Lib.hid (T5.out.trans t6)
            refine hK _ _ (fun hlt => Mif.cl (st6)) ?_
            clear hK K
            clear t6 d0 d1 d2 d3 d4
            refine Mxg.wpTL_reads ?_
            simp only [List.flatMap_cons, List.flatMap_nil, List.getElem?_cons_succ, List.getElem?_cons_zero, Option.toList_some, List.cons_append, List.nil_append]
            repeat (go_big_quiet_step (fail))
            refine wpQuiet_nil ?_
            refine Mxg.wpTL_leaf ?_
            clear st st4 st5 st6 HSM HSH HEA HXX T5 hcls
            have hfin := (HB4.out.quiet T6.out)
            rw [HM.out] at hfin
            have HF := Lib.hid (bk_pop hfin)
            clear hfin
            go_wp2_with fail
            rw [← HDm.out]
            exact ⟨⟨m, r4, xs2.take m, sh4, by have := HM.out; omega, rfl, HF.out⟩, by have := HM.out; simp [Go.RowKit.intOf]; omega⟩
end Go.Proofs.Ytmheofkakcomdaa
