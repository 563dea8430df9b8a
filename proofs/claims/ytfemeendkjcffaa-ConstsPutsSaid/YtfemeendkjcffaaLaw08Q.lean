/-
  ConstsPuts holds for every input: which instructions may be constant expressions, why others may not, and their bytes, are what the page says. No condition.
-/
import Derived.Test.YtfemeendkjcffaaPuE
import Derived.ProofKit
import Derived.OpenShut
import Derived.ShutString
import Derived.ChangeOld
import Derived.Lib.SmallJoins
set_option linter.unusedVariables false
set_option linter.unusedSimpArgs false
namespace Go.Proofs.Ytfemeendkjcffaa.constsPutsDone
open Go.ChangeShapes Go.WideShapes Go.ChangeAt Go.RowKit
open Go.ChangeMaps (open_string shut_string)

theorem own : ownKnob Try.prog.godebug = none := by kernel_rfl
theorem laidOut : laidOutB Try.prog = true := by kernel_rfl
theorem bd_i64 {n : Int} (h : (Lit.int .i64 n).wf = true) : -9223372036854775808 ≤ n ∧ n ≤ 9223372036854775807 := bounds_i64 h
theorem nat_u64 {n : Int} (h : (Lit.int .u64 n).wf = true) : ∃ m : Nat, n = m ∧ m < 18446744073709551616 := by
  have h2 := bounds_u64 h
  exact ⟨n.toNat, by omega, by omega⟩
theorem nat_u8 {n : Int} (h : (Lit.int .u8 n).wf = true) : ∃ m : Nat, n = m ∧ m < 256 := by
  have h2 := bounds_u8 h
  exact ⟨n.toNat, by omega, by omega⟩


set_option maxRecDepth 100000 in
theorem lifted (os : Os) (started : os.Started) (H : Type) (enc : TypeId × Value → H) :
    ReturnsInHanded {} Try.checked os 6 .any (Rows.constsPutsSpec.pre6 enc Try.prog Try.f6 Rows.constsPutsRow.domain false) (Rows.constsPutsSpec.post enc Try.prog Try.f6 false true false false) := by
  refine returnsInHanded_of_change (C := Try.checked) own started (by kernel_rfl) Try.func6
    (ChangeSpec.witness6 (enc := enc) (C := Try.checked) false ⟨#[], #[.agg #[.int .u8 0, .int .u64 0, .int .u64 0, .slice none 0 0], .int .u32 0], []⟩ 8 (by kernel_rfl) (by kernel_rfl) (by kernel_rfl) (by kernel_rfl)) ?_
  intro W base args ds gs before hval0 hW hcnd _
  have hval : ∀ (j : Nat) t v, Try.f6.params[j]? = some t → args[j]? = some v → Value.okWide Try.prog W .any base t v := hval0
  have hW' := hW
  obtain ⟨p, q, hA0, hV, rfl, hfz, hnd⟩ := hW
  have hA : DataW.TrodAll enc Try.prog W 0 (fun _ => true) true Try.f6.params.toList args.toList ds p := hA0
  rw [Try.params6] at hA hval
  obtain ⟨v0, vs0, d0, ds0, p0, q0, hargs, rfl, rfl, h0, r0⟩ := trodAll_cons hA
  obtain ⟨v1, vs1, d1, ds1, p1, q1, rfl, rfl, rfl, h1, r1⟩ := trodAll_cons r0
  obtain ⟨rfl, rfl, rfl⟩ := trodAll_nil r1
  obtain rfl : args = #[v0, v1] := by cases args; simp_all
  obtain ⟨rfl, rfl⟩ := trodVars_none hV
  have k0 := h0
  have lt0 : ∀ x ∈ p0, x.block < W.heap.size := by obtain ⟨m, hm⟩ := k0; exact DataW.trod_lt m _ _ _ hm
  have k1 := h1
  have lt1 : ∀ x ∈ p1, x.block < W.heap.size := by obtain ⟨m, hm⟩ := k1; exact DataW.trod_lt m _ _ _ hm
  obtain ⟨x0, x1, x2, x3, y0, y1, y2, y3, m, rfl, _, _, hy0, hy1, hy2, hy3⟩ := Go.Joins.open_agg4 Try.underlying50 (by kernel_rfl) (by kernel_rfl) (hval 0 50 v0 rfl rfl) h0
  obtain ⟨iop, e0, _, wop⟩ := DataW.trod_int Try.underlying5 hy0
  obtain ⟨ia, e1, _, wa⟩ := DataW.trod_int Try.underlying47 hy1
  obtain ⟨ib, e2, _, wb⟩ := DataW.trod_int Try.underlying47 hy2
  simp at e0 e1 e2
  subst e0 e1 e2
  obtain ⟨A, n, c, e3⟩ := Go.Joins.slice_form Try.underlying48 hy3
  simp at e3
  subst e3
  obtain ⟨op, eop, hop⟩ := nat_u8 wop
  obtain ⟨a, ea, ha⟩ := nat_u64 wa
  obtain ⟨b, eb, hb⟩ := nat_u64 wb
  subst eop ea eb
  obtain ⟨ig, rfl, _, _, wg⟩ := open_int Try.underlying51 (hval 1 51 v1 rfl rfl) h1
  have hg2 := bounds_u32 wg
  obtain ⟨g, rfl⟩ : ∃ g : Nat, ig = g := ⟨ig.toNat, by omega⟩
  have hwk := cputs_done W op a b n c g A hop ha hb (by omega)
  rw [insV] at hwk
  clear hA0 hval0
  refine (hwk).mono fun e W' hh => ?_
  obtain ⟨he, bel⟩ := hh
  subst he
  exact ⟨_, rfl, _, _, _, [], _, [], hW', trodAll_mk1 (shut_bool Try.underlying4 _), (trodAll_cons_mk (Below.trod laidOut (by kernel_rfl) (of_decide_eq_true (by kernel_rfl)) k0 bel lt0) (trodAll_cons_mk (Below.trod laidOut (by kernel_rfl) (of_decide_eq_true (by kernel_rfl)) k1 bel lt1) trodAll_mk0)), rfl, bel.frame _, fun h => by cases h⟩

theorem c_name : Try.pinned.checked.prog.funcNamed Rows.constsPutsRow.func = some 6 := by kernel_rfl
theorem c_closed : joinedFacts Try.pinned.checked.prog 6 Try.f6 Rows.constsPutsSpec Rows.constsPutsRow = true := by kernel_rfl
theorem c_inst : Try.f6.isInstance Try.pinned.checked.prog Rows.constsPutsRow.origin Rows.constsPutsRow.targs := of_decide_eq_true (by kernel_rfl)
theorem c_wrap : Try.f6.isWrapper Try.pinned.checked.prog Rows.constsPutsRow.wrapper Rows.constsPutsRow.mainSum := by unfold Func.isWrapper; first | (rw [if_pos (by decide +kernel)]; kernel_rfl) | (rw [if_neg (by decide +kernel)]; exact ⟨rfl, rfl⟩)
theorem over : Rows.constsPutsRow.holds Try.pinned (OpenSpec.ofChange Rows.constsPutsSpec) :=
  OpenClaim.holds_of_wide 6 Try.f6 rfl rfl rfl rfl rfl rfl rfl ⟨rfl, rfl, rfl, rfl, rfl⟩ rfl rfl rfl rfl rfl c_name Try.func6 c_closed c_inst c_wrap
    (fun os started H enc _ => lifted os started H enc)

theorem proved : Rows.ConstsPutsSaid := over
end Go.Proofs.Ytfemeendkjcffaa.constsPutsDone
