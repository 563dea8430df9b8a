/-
  FramesPlays: low; do of any call that low lets through.
-/
import Derived.Test.YtokchoocelmdoaaFpT
set_option linter.unusedVariables false
set_option linter.unusedSimpArgs false
namespace Go.Proofs.Ytokchoocelmdoaa
open Go.RowKit

/-- What 'low' lets through. -/
def LowOk (l : List It) (k n : Int) : Prop :=
  (k = 1 → valsI l = [] ∨ TailV l 1) ∧ (k = 2 → n < 0 ∨ ((valsI l).length : Int) < n ∨ ∃ m : Nat, n = m ∧ TailV l m) ∧ (k = 3 → ∀ np : Nat, bits BinOp.and IntKind.i64 n 3 = (np : Int) → TailV l np ∨ (valsI l).length < np)
section
variable {w w1 w2 w' : World} {I I' : Nat → Prop} {g c : Nat} {A : Option Addr} {l l' : List It} {fs fs' : List Fm} {most n v st dst : Int} {S : Nat → Prop}
theorem do_any (k : Int) (hlow : LowOk l k n) (H : Sta w I g A c l most) (hz : l.length ≤ 1000) :
    Calls Try.prog 7 #[.pointer (some ⟨g, 0, none⟩), .slice A l.length c, .agg #[.int .i64 k, .int .i64 n, .int .u64 v, .int .i64 st, .int .i64 dst], .int .i64 most] w (SAny w I g A (l.length + 1) most) := by
  obtain ⟨h1, h2, h3⟩ := hlow
  by_cases k0 : k = 0
  · subst k0
    exact do_push H hz
  by_cases k1 : k = 1
  · subst k1
    rcases h1 rfl with h | h
    · exact do_pop_none h H hz
    · exact do_pop h H hz
  by_cases k2 : k = 2
  · subst k2
    rcases h2 rfl with h | h | ⟨m, rfl, h⟩
    · exact do_take_bad (.inl h) H hz
    · exact do_take_bad (.inr ⟨by omega, h⟩) H hz
    · exact do_take m h H hz
  by_cases k3 : k = 3
  · subst k3
    obtain ⟨np, hnp, h⟩ := and_3 n
    exact do_enter h hnp (h3 rfl np h) H hz
  by_cases k4 : k = 4
  · subst k4
    exact do_leave H hz
  by_cases k5 : k = 5
  · subst k5
    cases hb : (bits BinOp.and IntKind.i64 n 2 == 2) with
    | true => exact do_open_loop hb H hz
    | false =>
      obtain ⟨m, hm, h⟩ := and_1 n
      exact do_open_blk m hm h hb H hz
  by_cases k6 : k = 6
  · subst k6
    obtain ⟨fs, hf⟩ := H.fst
    rcases hf.block H.good 0 with ⟨e1, e2⟩ | ⟨a, ha, e1, e2, e3, e4, e5⟩
    · exact do_shut_none e1 ⟨fs, hf, by omega⟩ H hz
    · exact do_shut a ha e1 e2 e4 e5 ⟨fs, hf, e3⟩ H hz
  by_cases k7 : k = 7
  · subst k7
    have hw : ∃ m : Nat, IntKind.u64.wrap n = (m : Int) ∧ m < 18446744073709551616 := by
      rw [Go.IntKind.wrap_u64]
      exact ⟨(n % 18446744073709551616).toNat, by omega, by omega⟩
    obtain ⟨m, hm, hm2⟩ := hw
    exact do_branch m hm hm2 H hz
  exact do_else k (beq_eq_false_iff_ne.2 k0) (beq_eq_false_iff_ne.2 k1) (beq_eq_false_iff_ne.2 k2) (beq_eq_false_iff_ne.2 k3) (beq_eq_false_iff_ne.2 k4) (beq_eq_false_iff_ne.2 k5) (beq_eq_false_iff_ne.2 k6) (beq_eq_false_iff_ne.2 k7) H hz

/-- The place behind the last block and the last function. -/
theorem above (hg : Good l) : ∃ a : Nat, a ≤ l.length ∧ (if lastI l 1 < lastI l 2 then lastI l 2 else lastI l 1) + 1 = (a : Int) ∧ AllV (l.drop a) := by
  have b1 := lastU_lt l 1 l.length
  have b2 := lastU_lt l 2 l.length
  have key : ∀ q : Int, ∀ a : Nat, lastI l q + 1 ≤ (a : Int) → ∀ x ∈ l.drop a, x.k ≠ q := fun q a ha => by
    refine mem_drop_get fun i hi h => ?_
    rcases lastU_spec l q l.length (Nat.le_refl _) with ⟨_, h2⟩ | ⟨d, _, _, h2, _, h4⟩
    · exact h2 i hi hi
    · refine h4 i hi ?_ hi
      have : lastI l q = d := h2
      omega
  have e1 : lastI l 1 = lastU l 1 l.length := rfl
  have e2 : lastI l 2 = lastU l 2 l.length := rfl
  refine ⟨((if lastI l 1 < lastI l 2 then lastI l 2 else lastI l 1) + 1).toNat, by split <;> omega, by split <;> omega, fun x hx => ?_⟩
  have h1 := key 1 _ (by split <;> omega) x hx
  have h2 := key 2 _ (by split <;> omega) x hx
  have h3 := (good_drop hg _ x hx).1
  omega
theorem tail_of {a m : Nat} (ha : a ≤ l.length) (hv : AllV (l.drop a)) (hm : m ≤ (valsI (l.drop a)).length) : TailV l m := by
  rw [hv.vlen, List.length_drop] at hm
  refine ⟨by omega, fun x hx => hv x ?_⟩
  rw [show l.length - m = a + (l.length - m - a) by omega, ← List.drop_drop] at hx
  exact List.mem_of_mem_drop hx
theorem vals_none (h : (valsI l).length = 0) : valsI l = [] := List.length_eq_zero_iff.1 h
set_option maxRecDepth 100000 in
set_option maxHeartbeats 3200000 in
theorem low_walk (k : Int) (hv : Reads w S 7 A l.length (its l)) (hc : l.length ≤ c) (hg : Good l) (hz : l.length ≤ 1000) :
    Calls Try.prog 6 #[.slice A l.length c, .agg #[.int .i64 k, .int .i64 n, .int .u64 v, .int .i64 st, .int .i64 dst]] w fun e w' => ∃ b : Bool, e = .returned (.bool b) ∧ Step (fun _ => False) w w' ∧ (b = true → LowOk l k n) := by
  obtain ⟨a, ha, e1, hav⟩ := above hg
  have S1 : Hid (Step (fun _ => False) w (w.alloc (.cells #[.int .i64 k, .int .i64 n, .int .u64 v, .int .i64 st, .int .i64 dst] 30))) := Step.refl.alloc _
  have B1 := Lib.hid (Blk.new w 30 #[.int .i64 k, .int .i64 n, .int .u64 v, .int .i64 st, .int .i64 dst])
  have HL1 := r_last (c := c) 1 (hv.step S1.out (fun _ _ => id)) (by omega)
  have HL2 := r_last (c := c) 2 (hv.step S1.out (fun _ _ => id)) (by omega)
  have hr := (hv.step S1.out (fun _ _ => id)).cut (k := a) (cap := c) ha hc
  rw [← its_drop] at hr
  have HV := r_values (A := cutA A c a 7) (c := c - a) (l := l.drop a) (S := S) (by rw [List.length_drop]; simpa [cutA] using hr) (by rw [List.length_drop]; omega)
  rw [List.length_drop] at HV
  have HVA : Hid (∀ W, Step (fun _ => False) w W → Calls Try.prog 14 #[.slice A l.length c] W fun e w' => ∃ D c', e = .returned (.slice D (valsI l).length c') ∧ w'.ownsRow W.heap.size 28 1 (.slice D (valsI l).length c') (valsI l).length (u64s (valsI l)) ∧ Step (fun _ => False) W w') := fun W hW => r_values (hv.step hW (fun _ _ => id)) (by omega)
  have HT : Hid (∀ m : Nat, m ≤ (valsI (l.drop a)).length → TailV l m) := fun m hm => tail_of ha hav hm
  have HVN : Hid ((valsI l).length = 0 → valsI l = []) := vals_none
  have sl := slice_ln E_it A l.length c .i64 (a : Int) a (l.length - a) (c - a) rfl ha rfl rfl
  have i0 : (0 : Int) ≤ (a : Int) := by omega
  have i1 : (a : Int) ≤ (l.length : Int) := by omega
  have hvl := valsI_le (l.drop a)
  rw [List.length_drop] at hvl
  generalize hx : lastI l 1 = x at *
  generalize hy : lastI l 2 = y at *
  generalize (valsI (l.drop a)).length = own at *
  replace HL1 := Lib.hid HL1
  replace HL2 := Lib.hid HL2
  replace HV := Lib.hid HV
  have HE1 := Lib.hid e1
  clear e1 hav hv hr hx hy
  go_enter Try.func6, Try.ntmps6
  go_wp2_with fail
  refine HL1.out.mono ?_
  rintro e w' ⟨rfl, hw⟩
  obtain rfl := hw.symm
  clear hw
  go_wp2_with fail
  refine HL2.out.mono ?_
  rintro e w' ⟨rfl, hw⟩
  obtain rfl := hw.symm
  clear hw
  by_cases hxy : x < y
  · have hd : decide (x < y) = true := decide_eq_true hxy
    have e1 := HE1.out
    rw [if_pos hxy] at e1
    have hw : IntKind.i64.wrap (y + 1) = (a : Int) := by rw [e1]; exact IntWalk.i64_in _ (by omega)
    go_wp2_with fail
    refine HV.out.mono ?_
    rintro e W ⟨Dv, cv, rfl, -, hs⟩
    have HS := Lib.hid (S1.out.trans hs)
    have B2 := B1.out.step hs id
    have y0 := B2.cell 0
    have y1 := B2.cell 1
    simp at y0 y1
    have d0 := cls_cell (F := fun _ => False) (w0 := W) y0 id
    have d1 := cls_cell (F := fun _ => False) (w0 := W) y1 id
    clear hs B2 hd hw HL1 HL2 HV S1 B1 HE1 e1 hxy sl
    by_cases k1 : k = 1
    · subst k1
      by_cases ho : 0 < own
      · have g0 : decide ((0 : Int) < (own : Int)) = true := decide_eq_true (by omega)
        have g1 : decide (0 < own) = true := decide_eq_true ho
        go_wp2_with fail
        go_ret
        exact ⟨true, rfl, HS.out, fun _ => ⟨fun _ => .inr (HT.out 1 ho), fun h => absurd h (by decide), fun h => absurd h (by decide)⟩⟩
      · have g0 : decide ((0 : Int) < (own : Int)) = false := decide_eq_false (by omega)
        have g1 : decide (0 < own) = false := decide_eq_false ho
        have HVW := Lib.hid (HVA.out W HS.out)
        go_wp2_with fail
        refine HVW.out.mono ?_
        rintro e U ⟨D2, c2, rfl, -, hs2⟩
        have HST := Lib.hid (HS.out.trans hs2)
        clear hs2
        go_wp2_with fail
        go_ret
        refine ⟨_, rfl, HST.out, fun hb => ⟨fun _ => .inl (HVN.out ?_), fun h => absurd h (by decide), fun h => absurd h (by decide)⟩⟩
        have h7 : (((valsI l).length : Int) == 0) = true := by simpa using hb
        have := eq_of_beq h7
        omega
    by_cases k2 : k = 2
    · subst k2
      by_cases ho : n ≤ own
      · have g0 : decide (n ≤ (own : Int)) = true := decide_eq_true (by omega)
        go_wp2_with fail
        refine Mix.wp_region_mix [8] [8] (Step (fun _ => False) W) (by kernel_rfl) (by kernel_rfl) Step.refl.drew (fun hcls => ?_)
        refine Mix.wpL_reads 8 (by rfl) ?_
        simp only [List.take_succ_cons, List.drop_succ_cons, List.take_zero, List.drop_zero]
        repeat (go_big_quiet_step (fail))
        refine wpQuiet_nil ?_
        refine Mix.wpL_op (by rfl) (fun K hK => ?_)
        go_simp
        refine hK _ _ (fun hlt => Mix.cl (Step.refl.drew)) ?_
        clear hK K
        refine Mix.wpL_reads 4 (by rfl) ?_
        simp only [List.take_succ_cons, List.drop_succ_cons, List.take_zero, List.drop_zero]
        repeat (go_big_quiet_step (fail))
        refine wpQuiet_nil ?_
        refine Mix.wpL_end ?_
        go_wp2_with fail
        go_ret
        exact ⟨true, rfl, HS.out.drew, fun _ => ⟨fun h => absurd h (by decide), fun _ => by
          by_cases hn : n < 0
          · exact .inl hn
          · exact .inr (.inr ⟨n.toNat, by omega, HT.out _ (by omega)⟩), fun h => absurd h (by decide)⟩⟩
      · have g0 : decide (n ≤ (own : Int)) = false := decide_eq_false (by omega)
        have HVW := Lib.hid (HVA.out W.drew HS.out.drew)
        go_wp2_with fail
        refine Mix.wp_region_mix [8] [8] (Step (fun _ => False) W) (by kernel_rfl) (by kernel_rfl) Step.refl.drew (fun hcls => ?_)
        refine Mix.wpL_reads 8 (by rfl) ?_
        simp only [List.take_succ_cons, List.drop_succ_cons, List.take_zero, List.drop_zero]
        repeat (go_big_quiet_step (fail))
        refine wpQuiet_nil ?_
        refine Mix.wpL_op (by rfl) (fun K hK => ?_)
        go_simp
        refine HVW.out.mono ?_
        rintro e U ⟨D2, c2, rfl, -, hs2⟩
        have hst := Step.refl.drew.trans hs2
        refine hK _ _ (fun hlt => Mix.cl (hst)) ?_
        clear hK K
        have HST := Lib.hid (HS.out.trans hst)
        clear hs2 hst
        refine Mix.wpL_reads 4 (by rfl) ?_
        simp only [List.take_succ_cons, List.drop_succ_cons, List.take_zero, List.drop_zero]
        repeat (go_big_quiet_step (fail))
        refine wpQuiet_nil ?_
        refine Mix.wpL_end ?_
        clear hcls
        go_wp2_with fail
        go_ret
        refine ⟨_, rfl, HST.out, fun hb => ⟨fun h => absurd h (by decide), fun _ => .inr (.inl (by simpa using hb)), fun h => absurd h (by decide)⟩⟩
    by_cases k3 : k = 3
    · subst k3
      obtain ⟨np, hnp, hb3⟩ := and_3 n
      have HB3 := Lib.hid hb3
      by_cases ho : np ≤ own
      · have g0 : decide ((np : Int) ≤ (own : Int)) = true := decide_eq_true (by omega)
        have g1 : decide (np ≤ own) = true := by simp [ho]
        go_wp2_with fail
        refine Mix.wp_region_mix [10] [10] (Step (fun _ => False) W) (by kernel_rfl) (by kernel_rfl) Step.refl.drew (fun hcls => ?_)
        refine Mix.wpL_reads 10 (by rfl) ?_
        simp only [List.take_succ_cons, List.drop_succ_cons, List.take_zero, List.drop_zero]
        repeat (go_big_quiet_step (fail))
        refine wpQuiet_nil ?_
        refine Mix.wpL_op (by rfl) (fun K hK => ?_)
        go_simp
        refine hK _ _ (fun hlt => Mix.cl (Step.refl.drew)) ?_
        clear hK K
        refine Mix.wpL_reads 4 (by rfl) ?_
        simp only [List.take_succ_cons, List.drop_succ_cons, List.take_zero, List.drop_zero]
        repeat (go_big_quiet_step (fail))
        refine wpQuiet_nil ?_
        refine Mix.wpL_end ?_
        go_wp2_with fail
        go_ret
        exact ⟨true, rfl, HS.out.drew, fun _ => ⟨fun h => absurd h (by decide), fun h => absurd h (by decide), fun _ np' h' => by
          have h8 : np = np' := by have := HB3.out; omega
          exact .inl (HT.out _ (by omega))⟩⟩
      · have g0 : decide ((np : Int) ≤ (own : Int)) = false := decide_eq_false (by omega)
        have HVW := Lib.hid (HVA.out W.drew HS.out.drew)
        have g1 : decide (np ≤ own) = false := by simp [ho]
        go_wp2_with fail
        refine Mix.wp_region_mix [10] [10] (Step (fun _ => False) W) (by kernel_rfl) (by kernel_rfl) Step.refl.drew (fun hcls => ?_)
        refine Mix.wpL_reads 10 (by rfl) ?_
        simp only [List.take_succ_cons, List.drop_succ_cons, List.take_zero, List.drop_zero]
        repeat (go_big_quiet_step (fail))
        refine wpQuiet_nil ?_
        refine Mix.wpL_op (by rfl) (fun K hK => ?_)
        go_simp
        refine HVW.out.mono ?_
        rintro e U ⟨D2, c2, rfl, -, hs2⟩
        have hst := Step.refl.drew.trans hs2
        refine hK _ _ (fun hlt => Mix.cl (hst)) ?_
        clear hK K
        have HST := Lib.hid (HS.out.trans hst)
        clear hs2 hst
        refine Mix.wpL_reads 4 (by rfl) ?_
        simp only [List.take_succ_cons, List.drop_succ_cons, List.take_zero, List.drop_zero]
        repeat (go_big_quiet_step (fail))
        refine wpQuiet_nil ?_
        refine Mix.wpL_end ?_
        clear hcls
        go_wp2_with fail
        go_ret
        refine ⟨_, rfl, HST.out, fun hb => ⟨fun h => absurd h (by decide), fun h => absurd h (by decide), fun _ np' h' => .inr (by have h8 : np = np' := (by have := HB3.out; omega); have h9 : ((valsI l).length : Int) < (np : Int) := (by simpa using hb); omega)⟩⟩
    have q1 : (k == 1) = false := beq_eq_false_iff_ne.2 k1
    have q2 : (k == 2) = false := beq_eq_false_iff_ne.2 k2
    have q3 : (k == 3) = false := beq_eq_false_iff_ne.2 k3
    go_wp2_with fail
    go_ret
    exact ⟨true, rfl, HS.out, fun _ => ⟨fun h => absurd h k1, fun h => absurd h k2, fun h => absurd h k3⟩⟩
  · have hd : decide (x < y) = false := decide_eq_false hxy
    have e1 := HE1.out
    rw [if_neg hxy] at e1
    have hw : IntKind.i64.wrap (x + 1) = (a : Int) := by rw [e1]; exact IntWalk.i64_in _ (by omega)
    go_wp2_with fail
    refine HV.out.mono ?_
    rintro e W ⟨Dv, cv, rfl, -, hs⟩
    have HS := Lib.hid (S1.out.trans hs)
    have B2 := B1.out.step hs id
    have y0 := B2.cell 0
    have y1 := B2.cell 1
    simp at y0 y1
    have d0 := cls_cell (F := fun _ => False) (w0 := W) y0 id
    have d1 := cls_cell (F := fun _ => False) (w0 := W) y1 id
    clear hs B2 hd hw HL1 HL2 HV S1 B1 HE1 e1 hxy sl
    by_cases k1 : k = 1
    · subst k1
      by_cases ho : 0 < own
      · have g0 : decide ((0 : Int) < (own : Int)) = true := decide_eq_true (by omega)
        have g1 : decide (0 < own) = true := decide_eq_true ho
        go_wp2_with fail
        go_ret
        exact ⟨true, rfl, HS.out, fun _ => ⟨fun _ => .inr (HT.out 1 ho), fun h => absurd h (by decide), fun h => absurd h (by decide)⟩⟩
      · have g0 : decide ((0 : Int) < (own : Int)) = false := decide_eq_false (by omega)
        have g1 : decide (0 < own) = false := decide_eq_false ho
        have HVW := Lib.hid (HVA.out W HS.out)
        go_wp2_with fail
        refine HVW.out.mono ?_
        rintro e U ⟨D2, c2, rfl, -, hs2⟩
        have HST := Lib.hid (HS.out.trans hs2)
        clear hs2
        go_wp2_with fail
        go_ret
        refine ⟨_, rfl, HST.out, fun hb => ⟨fun _ => .inl (HVN.out ?_), fun h => absurd h (by decide), fun h => absurd h (by decide)⟩⟩
        have h7 : (((valsI l).length : Int) == 0) = true := by simpa using hb
        have := eq_of_beq h7
        omega
    by_cases k2 : k = 2
    · subst k2
      by_cases ho : n ≤ own
      · have g0 : decide (n ≤ (own : Int)) = true := decide_eq_true (by omega)
        go_wp2_with fail
        refine Mix.wp_region_mix [8] [8] (Step (fun _ => False) W) (by kernel_rfl) (by kernel_rfl) Step.refl.drew (fun hcls => ?_)
        refine Mix.wpL_reads 8 (by rfl) ?_
        simp only [List.take_succ_cons, List.drop_succ_cons, List.take_zero, List.drop_zero]
        repeat (go_big_quiet_step (fail))
        refine wpQuiet_nil ?_
        refine Mix.wpL_op (by rfl) (fun K hK => ?_)
        go_simp
        refine hK _ _ (fun hlt => Mix.cl (Step.refl.drew)) ?_
        clear hK K
        refine Mix.wpL_reads 4 (by rfl) ?_
        simp only [List.take_succ_cons, List.drop_succ_cons, List.take_zero, List.drop_zero]
        repeat (go_big_quiet_step (fail))
        refine wpQuiet_nil ?_
        refine Mix.wpL_end ?_
        go_wp2_with fail
        go_ret
        exact ⟨true, rfl, HS.out.drew, fun _ => ⟨fun h => absurd h (by decide), fun _ => by
          by_cases hn : n < 0
          · exact .inl hn
          · exact .inr (.inr ⟨n.toNat, by omega, HT.out _ (by omega)⟩), fun h => absurd h (by decide)⟩⟩
      · have g0 : decide (n ≤ (own : Int)) = false := decide_eq_false (by omega)
        have HVW := Lib.hid (HVA.out W.drew HS.out.drew)
        go_wp2_with fail
        refine Mix.wp_region_mix [8] [8] (Step (fun _ => False) W) (by kernel_rfl) (by kernel_rfl) Step.refl.drew (fun hcls => ?_)
        refine Mix.wpL_reads 8 (by rfl) ?_
        simp only [List.take_succ_cons, List.drop_succ_cons, List.take_zero, List.drop_zero]
        repeat (go_big_quiet_step (fail))
        refine wpQuiet_nil ?_
        refine Mix.wpL_op (by rfl) (fun K hK => ?_)
        go_simp
        refine HVW.out.mono ?_
        rintro e U ⟨D2, c2, rfl, -, hs2⟩
        have hst := Step.refl.drew.trans hs2
        refine hK _ _ (fun hlt => Mix.cl (hst)) ?_
        clear hK K
        have HST := Lib.hid (HS.out.trans hst)
        clear hs2 hst
        refine Mix.wpL_reads 4 (by rfl) ?_
        simp only [List.take_succ_cons, List.drop_succ_cons, List.take_zero, List.drop_zero]
        repeat (go_big_quiet_step (fail))
        refine wpQuiet_nil ?_
        refine Mix.wpL_end ?_
        clear hcls
        go_wp2_with fail
        go_ret
        refine ⟨_, rfl, HST.out, fun hb => ⟨fun h => absurd h (by decide), fun _ => .inr (.inl (by simpa using hb)), fun h => absurd h (by decide)⟩⟩
    by_cases k3 : k = 3
    · subst k3
      obtain ⟨np, hnp, hb3⟩ := and_3 n
      have HB3 := Lib.hid hb3
      by_cases ho : np ≤ own
      · have g0 : decide ((np : Int) ≤ (own : Int)) = true := decide_eq_true (by omega)
        have g1 : decide (np ≤ own) = true := by simp [ho]
        go_wp2_with fail
        refine Mix.wp_region_mix [10] [10] (Step (fun _ => False) W) (by kernel_rfl) (by kernel_rfl) Step.refl.drew (fun hcls => ?_)
        refine Mix.wpL_reads 10 (by rfl) ?_
        simp only [List.take_succ_cons, List.drop_succ_cons, List.take_zero, List.drop_zero]
        repeat (go_big_quiet_step (fail))
        refine wpQuiet_nil ?_
        refine Mix.wpL_op (by rfl) (fun K hK => ?_)
        go_simp
        refine hK _ _ (fun hlt => Mix.cl (Step.refl.drew)) ?_
        clear hK K
        refine Mix.wpL_reads 4 (by rfl) ?_
        simp only [List.take_succ_cons, List.drop_succ_cons, List.take_zero, List.drop_zero]
        repeat (go_big_quiet_step (fail))
        refine wpQuiet_nil ?_
        refine Mix.wpL_end ?_
        go_wp2_with fail
        go_ret
        exact ⟨true, rfl, HS.out.drew, fun _ => ⟨fun h => absurd h (by decide), fun h => absurd h (by decide), fun _ np' h' => by
          have h8 : np = np' := by have := HB3.out; omega
          exact .inl (HT.out _ (by omega))⟩⟩
      · have g0 : decide ((np : Int) ≤ (own : Int)) = false := decide_eq_false (by omega)
        have HVW := Lib.hid (HVA.out W.drew HS.out.drew)
        have g1 : decide (np ≤ own) = false := by simp [ho]
        go_wp2_with fail
        refine Mix.wp_region_mix [10] [10] (Step (fun _ => False) W) (by kernel_rfl) (by kernel_rfl) Step.refl.drew (fun hcls => ?_)
        refine Mix.wpL_reads 10 (by rfl) ?_
        simp only [List.take_succ_cons, List.drop_succ_cons, List.take_zero, List.drop_zero]
        repeat (go_big_quiet_step (fail))
        refine wpQuiet_nil ?_
        refine Mix.wpL_op (by rfl) (fun K hK => ?_)
        go_simp
        refine HVW.out.mono ?_
        rintro e U ⟨D2, c2, rfl, -, hs2⟩
        have hst := Step.refl.drew.trans hs2
        refine hK _ _ (fun hlt => Mix.cl (hst)) ?_
        clear hK K
        have HST := Lib.hid (HS.out.trans hst)
        clear hs2 hst
        refine Mix.wpL_reads 4 (by rfl) ?_
        simp only [List.take_succ_cons, List.drop_succ_cons, List.take_zero, List.drop_zero]
        repeat (go_big_quiet_step (fail))
        refine wpQuiet_nil ?_
        refine Mix.wpL_end ?_
        clear hcls
        go_wp2_with fail
        go_ret
        refine ⟨_, rfl, HST.out, fun hb => ⟨fun h => absurd h (by decide), fun h => absurd h (by decide), fun _ np' h' => .inr (by have h8 : np = np' := (by have := HB3.out; omega); have h9 : ((valsI l).length : Int) < (np : Int) := (by simpa using hb); omega)⟩⟩
    have q1 : (k == 1) = false := beq_eq_false_iff_ne.2 k1
    have q2 : (k == 2) = false := beq_eq_false_iff_ne.2 k2
    have q3 : (k == 3) = false := beq_eq_false_iff_ne.2 k3
    go_wp2_with fail
    go_ret
    exact ⟨true, rfl, HS.out, fun _ => ⟨fun h => absurd h k1, fun h => absurd h k2, fun h => absurd h k3⟩⟩
end
end Go.Proofs.Ytokchoocelmdoaa
