/-
  BodiesPuts holds for every input: which bodies may be, why others may not, and their bytes, are what the page says; one alone is read as it was. No condition.
-/
import Derived.Test.YtfemeendkjcffaaBpI
import Derived.ProofKit
import Derived.OpenShut
import Derived.ShutString
import Derived.ChangeOld
import Derived.Lib.SmallJoins
set_option linter.unusedVariables false
set_option linter.unusedSimpArgs false
namespace Go.Proofs.Ytfemeendkjcffaa.bodiesPutsDone
open Go.ChangeShapes Go.WideShapes Go.ChangeAt Go.RowKit
open Go.ChangeMaps (open_string shut_string)

theorem own : ownKnob Try.prog.godebug = none := by kernel_rfl
theorem laidOut : laidOutB Try.prog = true := by kernel_rfl
theorem bd_i64 {n : Int} (h : (Lit.int .i64 n).wf = true) : -9223372036854775808 ≤ n ∧ n ≤ 9223372036854775807 := bounds_i64 h
theorem nat_u64 {n : Int} (h : (Lit.int .u64 n).wf = true) : ∃ m : Nat, n = m ∧ m < 18446744073709551616 := by
  have h2 := bounds_u64 h
  exact ⟨n.toNat, by omega, by omega⟩
theorem nat_u8 {n : Int} (h : (Lit.int .u8 n).wf = true) : ∃ m : Nat, n = m ∧ m < 256 := by
  have h2 := bounds_u8 h
  exact ⟨n.toNat, by omega, by omega⟩


set_option maxRecDepth 100000 in
theorem lifted (os : Os) (started : os.Started) (H : Type) (enc : TypeId × Value → H) :
    ReturnsInHanded {} Try.checked os 21 .any (Rows.bodiesPutsSpec.pre6 enc Try.prog Try.f21 Rows.bodiesPutsRow.domain false) (Rows.bodiesPutsSpec.post enc Try.prog Try.f21 false true false false) := by
  refine returnsInHanded_of_change (C := Try.checked) own started (by kernel_rfl) Try.func21
    (ChangeSpec.witness6 (enc := enc) (C := Try.checked) false ⟨#[], #[.agg #[.slice none 0 0, .slice none 0 0]], []⟩ 8 (by kernel_rfl) (by kernel_rfl) (by kernel_rfl) (by kernel_rfl)) ?_
  intro W base args ds gs before hval0 hW hcnd _
  have hval : ∀ (j : Nat) t v, Try.f21.params[j]? = some t → args[j]? = some v → Value.okWide Try.prog W .any base t v := hval0
  have hW' := hW
  obtain ⟨p, q, hA0, hV, rfl, hfz, hnd⟩ := hW
  have hA : DataW.TrodAll enc Try.prog W 0 (fun _ => true) true Try.f21.params.toList args.toList ds p := hA0
  rw [Try.params21] at hA hval
  obtain ⟨v0, vs0, d0, ds0, p0, q0, hargs, rfl, rfl, h0, r0⟩ := trodAll_cons hA
  obtain ⟨rfl, rfl, rfl⟩ := trodAll_nil r0
  obtain rfl : args = #[v0] := by cases args; simp_all
  obtain ⟨rfl, rfl⟩ := trodVars_none hV
  have k0 := h0
  have lt0 : ∀ x ∈ p0, x.block < W.heap.size := by obtain ⟨m, hm⟩ := k0; exact DataW.trod_lt m _ _ _ hm
  obtain ⟨z0, z1, q0, q1, m2, rfl, _, _, hq0, hq1⟩ := Go.Joins.open_agg2 Try.underlying176 (by kernel_rfl) (by kernel_rfl) (hval 0 176 v0 rfl rfl) h0
  obtain ⟨LA, ln, lc, e0⟩ := Go.Joins.slice_form Try.underlying106 hq0
  obtain ⟨IA, n, c, e1⟩ := Go.Joins.slice_form Try.underlying96 hq1
  simp at e0 e1
  subst e0 e1
  obtain ⟨lo, hln, hl, hb⟩ := Go.Proofs.Ytfemeendkjcffaa.open_locals hq0
  obtain ⟨l, hn, hwf, hin, hr⟩ := Go.Proofs.Ytfemeendkjcffaa.open_instrs hq1
  have hwk := bputs_done W LA IA ln lc n c lo l _ hln hn hwf hin hr hl hb
  clear hA0 hval0
  refine (hwk).mono fun e W' hh => ?_
  obtain ⟨he, bel⟩ := hh
  subst he
  exact ⟨_, rfl, _, _, _, [], _, [], hW', trodAll_mk1 (shut_bool Try.underlying4 _), (trodAll_cons_mk (Below.trod laidOut (by kernel_rfl) (of_decide_eq_true (by kernel_rfl)) k0 bel lt0) trodAll_mk0), rfl, bel.frame _, fun h => by cases h⟩

theorem c_name : Try.pinned.checked.prog.funcNamed Rows.bodiesPutsRow.func = some 21 := by kernel_rfl
theorem c_closed : joinedFacts Try.pinned.checked.prog 21 Try.f21 Rows.bodiesPutsSpec Rows.bodiesPutsRow = true := by kernel_rfl
theorem c_inst : Try.f21.isInstance Try.pinned.checked.prog Rows.bodiesPutsRow.origin Rows.bodiesPutsRow.targs := of_decide_eq_true (by kernel_rfl)
theorem c_wrap : Try.f21.isWrapper Try.pinned.checked.prog Rows.bodiesPutsRow.wrapper Rows.bodiesPutsRow.mainSum := by unfold Func.isWrapper; first | (rw [if_pos (by decide +kernel)]; kernel_rfl) | (rw [if_neg (by decide +kernel)]; exact ⟨rfl, rfl⟩)
theorem over : Rows.bodiesPutsRow.holds Try.pinned (OpenSpec.ofChange Rows.bodiesPutsSpec) :=
  OpenClaim.holds_of_wide 21 Try.f21 rfl rfl rfl rfl rfl rfl rfl ⟨rfl, rfl, rfl, rfl, rfl⟩ rfl rfl rfl rfl rfl c_name Try.func21 c_closed c_inst c_wrap
    (fun os started H enc _ => lifted os started H enc)

theorem proved : Rows.BodiesPutsSaid := over
end Go.Proofs.Ytfemeendkjcffaa.bodiesPutsDone
