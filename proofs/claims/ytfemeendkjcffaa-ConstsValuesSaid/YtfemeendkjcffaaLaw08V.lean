/-
  ConstsValues holds for every input: what any constant expression comes to, of which type, where some globals are taken, or why to nothing, is what the page says; a value's own comes to it. No condition.
-/
import Derived.Test.YtfemeendkjcffaaVaI
import Derived.ProofKit
import Derived.OpenShut
import Derived.ShutString
import Derived.ChangeOld
import Derived.Lib.SmallJoins
set_option linter.unusedVariables false
set_option linter.unusedSimpArgs false
namespace Go.Proofs.Ytfemeendkjcffaa.constsValuesDone
open Go.ChangeShapes Go.WideShapes Go.ChangeAt Go.RowKit
open Go.ChangeMaps (open_string shut_string)

theorem own : ownKnob Try.prog.godebug = none := by kernel_rfl
theorem laidOut : laidOutB Try.prog = true := by kernel_rfl
theorem bd_i64 {n : Int} (h : (Lit.int .i64 n).wf = true) : -9223372036854775808 ≤ n ∧ n ≤ 9223372036854775807 := bounds_i64 h
theorem nat_u64 {n : Int} (h : (Lit.int .u64 n).wf = true) : ∃ m : Nat, n = m ∧ m < 18446744073709551616 := by
  have h2 := bounds_u64 h
  exact ⟨n.toNat, by omega, by omega⟩
theorem nat_u8 {n : Int} (h : (Lit.int .u8 n).wf = true) : ∃ m : Nat, n = m ∧ m < 256 := by
  have h2 := bounds_u8 h
  exact ⟨n.toNat, by omega, by omega⟩


set_option maxRecDepth 100000 in
theorem lifted (os : Os) (started : os.Started) (H : Type) (enc : TypeId × Value → H) :
    ReturnsInHanded {} Try.checked os 7 .any (Rows.constsValuesSpec.pre6 enc Try.prog Try.f7 Rows.constsValuesRow.domain false) (Rows.constsValuesSpec.post enc Try.prog Try.f7 false true false false) := by
  refine returnsInHanded_of_change (C := Try.checked) own started (by kernel_rfl) Try.func7
    (ChangeSpec.witness6 (enc := enc) (C := Try.checked) false ⟨#[], #[.agg #[.int .u8 0, .int .u64 0, .int .u64 0, .slice none 0 0], .slice none 0 0, .agg #[.int .u8 0, .int .u64 0]], []⟩ 8 (by kernel_rfl) (by kernel_rfl) (by kernel_rfl) (by kernel_rfl)) ?_
  intro W base args ds gs before hval0 hW hcnd _
  have hval : ∀ (j : Nat) t v, Try.f7.params[j]? = some t → args[j]? = some v → Value.okWide Try.prog W .any base t v := hval0
  have hW' := hW
  obtain ⟨p, q, hA0, hV, rfl, hfz, hnd⟩ := hW
  have hA : DataW.TrodAll enc Try.prog W 0 (fun _ => true) true Try.f7.params.toList args.toList ds p := hA0
  rw [Try.params7] at hA hval
  obtain ⟨v0, vs0, d0, ds0, p0, q0, hargs, rfl, rfl, h0, r0⟩ := trodAll_cons hA
  obtain ⟨v1, vs1, d1, ds1, p1, q1, rfl, rfl, rfl, h1, r1⟩ := trodAll_cons r0
  obtain ⟨v2, vs2, d2, ds2, p2, q2, rfl, rfl, rfl, h2, r2⟩ := trodAll_cons r1
  obtain ⟨rfl, rfl, rfl⟩ := trodAll_nil r2
  obtain rfl : args = #[v0, v1, v2] := by cases args; simp_all
  obtain ⟨rfl, rfl⟩ := trodVars_none hV
  have k0 := h0
  have lt0 : ∀ x ∈ p0, x.block < W.heap.size := by obtain ⟨m, hm⟩ := k0; exact DataW.trod_lt m _ _ _ hm
  have k1 := h1
  have lt1 : ∀ x ∈ p1, x.block < W.heap.size := by obtain ⟨m, hm⟩ := k1; exact DataW.trod_lt m _ _ _ hm
  have k2 := h2
  have lt2 : ∀ x ∈ p2, x.block < W.heap.size := by obtain ⟨m, hm⟩ := k2; exact DataW.trod_lt m _ _ _ hm
  obtain ⟨x0, x1, x2, x3, y0, y1, y2, y3, m, rfl, _, _, hy0, hy1, hy2, hy3⟩ := Go.Joins.open_agg4 Try.underlying50 (by kernel_rfl) (by kernel_rfl) (hval 0 50 v0 rfl rfl) h0
  obtain ⟨iop, e0, _, wop⟩ := DataW.trod_int Try.underlying5 hy0
  obtain ⟨ia, e1, _, wa⟩ := DataW.trod_int Try.underlying47 hy1
  obtain ⟨ib, e2, _, wb⟩ := DataW.trod_int Try.underlying47 hy2
  simp at e0 e1 e2
  subst e0 e1 e2
  obtain ⟨A, n, c, e3⟩ := Go.Joins.slice_form Try.underlying48 hy3
  simp at e3
  subst e3
  obtain ⟨op, eop, hop⟩ := nat_u8 wop
  obtain ⟨a, ea, ha⟩ := nat_u64 wa
  obtain ⟨b, eb, hb⟩ := nat_u64 wb
  subst eop ea eb
  obtain ⟨z0, z1, q0, q1, m2, rfl, _, _, hq0, hq1⟩ := Go.Joins.open_agg2 Try.underlying63 (by kernel_rfl) (by kernel_rfl) (hval 2 63 v2 rfl rfl) h2
  obtain ⟨it, f0, _, wt⟩ := DataW.trod_int Try.underlying5 hq0
  obtain ⟨iv, f1, _, wv⟩ := DataW.trod_int Try.underlying47 hq1
  simp at f0 f1
  subst f0 f1
  obtain ⟨vt, et, hvt⟩ := nat_u8 wt
  obtain ⟨vn, ev, hvn⟩ := nat_u64 wv
  subst et ev
  obtain ⟨B, len0, cc, rfl⟩ := okWide_slice Try.underlying61 (hval 1 61 v1 rfl rfl)
  obtain ⟨gs, hlen, hr, _, _⟩ : ∃ gs : List TG, gs.length = len0 ∧ Reads W (fun k => k < W.heap.size) 2 B len0 (gs.flatMap fun g => gtC g.1) ∧ len0 ≤ cc ∧ cc ≤ maxLen := by
    obtain ⟨fuel, hf⟩ := h1
    exact Go.Proofs.Ytfemeendkjcffaa.open_structs (fun g : TG => gtC g.1) Try.underlying61 Try.underlying66 (by kernel_rfl) (by kernel_rfl) (by decide) (fun _ => rfl) (fun vs hl h => mk_gt _ Try.underlying66 vs hl h) hf
  have hll : (gs.map (·.1)).length = len0 := by simpa using hlen
  have hr2 : Reads W (fun k => k < W.heap.size) 2 B (gs.map (·.1)).length ((gs.map (·.1)).flatMap gtC) := by
    rw [hll, List.flatMap_map]
    exact hr
  have hwk := cvals_done W op a b n c cc vt vn A B (gs.map (·.1)) hr2 (fun g hg => by obtain ⟨x, _, rfl⟩ := List.mem_map.1 hg; exact x.2) hop ha hvn hvt
  rw [hll] at hwk
  clear hA0 hval0
  refine (hwk).mono fun e W' hh => ?_
  obtain ⟨he, bel⟩ := hh
  subst he
  exact ⟨_, rfl, _, _, _, [], _, [], hW', trodAll_mk1 (shut_bool Try.underlying4 _), (trodAll_cons_mk (Below.trod laidOut (by kernel_rfl) (of_decide_eq_true (by kernel_rfl)) k0 bel lt0) (trodAll_cons_mk (Below.trod laidOut (by kernel_rfl) (of_decide_eq_true (by kernel_rfl)) k1 bel lt1) (trodAll_cons_mk (Below.trod laidOut (by kernel_rfl) (of_decide_eq_true (by kernel_rfl)) k2 bel lt2) trodAll_mk0))), rfl, bel.frame _, fun h => by cases h⟩

theorem c_name : Try.pinned.checked.prog.funcNamed Rows.constsValuesRow.func = some 7 := by kernel_rfl
theorem c_closed : joinedFacts Try.pinned.checked.prog 7 Try.f7 Rows.constsValuesSpec Rows.constsValuesRow = true := by kernel_rfl
theorem c_inst : Try.f7.isInstance Try.pinned.checked.prog Rows.constsValuesRow.origin Rows.constsValuesRow.targs := of_decide_eq_true (by kernel_rfl)
theorem c_wrap : Try.f7.isWrapper Try.pinned.checked.prog Rows.constsValuesRow.wrapper Rows.constsValuesRow.mainSum := by unfold Func.isWrapper; first | (rw [if_pos (by decide +kernel)]; kernel_rfl) | (rw [if_neg (by decide +kernel)]; exact ⟨rfl, rfl⟩)
theorem over : Rows.constsValuesRow.holds Try.pinned (OpenSpec.ofChange Rows.constsValuesSpec) :=
  OpenClaim.holds_of_wide 7 Try.f7 rfl rfl rfl rfl rfl rfl rfl ⟨rfl, rfl, rfl, rfl, rfl⟩ rfl rfl rfl rfl rfl c_name Try.func7 c_closed c_inst c_wrap
    (fun os started H enc _ => lifted os started H enc)

theorem proved : Rows.ConstsValuesSaid := over
end Go.Proofs.Ytfemeendkjcffaa.constsValuesDone
