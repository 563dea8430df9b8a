/-
  CheckNop holds for every input: a body that may be stays so with a nop at its beginning; one that may not is wrong one place farther on. No condition.
-/
import Derived.Test.YtpebdfgfikjkeaaKkN
import Derived.ProofKit
import Derived.OpenShut
import Derived.ShutString
import Derived.ChangeOld
import Derived.Lib.SmallJoins
set_option linter.unusedVariables false
set_option linter.unusedSimpArgs false
namespace Go.Proofs.Ytpebdfgfikjkeaa.checkNopDone
open Go.ChangeShapes Go.WideShapes Go.ChangeAt Go.RowKit
open Go.ChangeMaps (open_string shut_string)

theorem own : ownKnob Try.prog.godebug = none := by kernel_rfl
theorem laidOut : laidOutB Try.prog = true := by kernel_rfl
theorem bd_i64 {n : Int} (h : (Lit.int .i64 n).wf = true) : -9223372036854775808 ≤ n ∧ n ≤ 9223372036854775807 := bounds_i64 h
theorem nat_u64 {n : Int} (h : (Lit.int .u64 n).wf = true) : ∃ m : Nat, n = m ∧ m < 18446744073709551616 := by
  have h2 := bounds_u64 h
  exact ⟨n.toNat, by omega, by omega⟩
theorem nat_u8 {n : Int} (h : (Lit.int .u8 n).wf = true) : ∃ m : Nat, n = m ∧ m < 256 := by
  have h2 := bounds_u8 h
  exact ⟨n.toNat, by omega, by omega⟩


set_option maxRecDepth 100000 in
theorem lifted (os : Os) (started : os.Started) (H : Type) (enc : TypeId × Value → H) :
    ReturnsInHanded {} Try.checked os 3 .any (Rows.checkNopSpec.pre6 enc Try.prog Try.f3 Rows.checkNopRow.domain false) (Rows.checkNopSpec.post enc Try.prog Try.f3 false true false false) := by
  refine returnsInHanded_of_change (C := Try.checked) own started (by kernel_rfl) Try.func3
    (ChangeSpec.witness6 (enc := enc) (C := Try.checked) false ⟨#[], #[.agg #[.slice none 0 0, .slice none 0 0, .slice none 0 0, .bool false, .bool false], .agg #[.string ByteArray.empty, .string ByteArray.empty], .agg #[.slice none 0 0, .slice none 0 0]], []⟩ 8 (by kernel_rfl) (by kernel_rfl) (by kernel_rfl) (by kernel_rfl)) ?_
  intro W base args ds gs before hval0 hW hcnd _
  have hval : ∀ (j : Nat) t v, Try.f3.params[j]? = some t → args[j]? = some v → Value.okWide Try.prog W .any base t v := hval0
  have hW' := hW
  obtain ⟨p, q, hA0, hV, rfl, hfz, hnd⟩ := hW
  have hA : DataW.TrodAll enc Try.prog W 0 (fun _ => true) true Try.f3.params.toList args.toList ds p := hA0
  rw [Try.params3] at hA hval
  obtain ⟨v0, vs0, d0, ds0, p0, q0, hargs, rfl, rfl, h0, r0⟩ := trodAll_cons hA
  obtain ⟨v1, vs1, d1, ds1, p1, q1, rfl, rfl, rfl, h1, r1⟩ := trodAll_cons r0
  obtain ⟨v2, vs2, d2, ds2, p2, q2, rfl, rfl, rfl, h2, r2⟩ := trodAll_cons r1
  obtain ⟨rfl, rfl, rfl⟩ := trodAll_nil r2
  obtain rfl : args = #[v0, v1, v2] := by cases args; simp_all
  obtain ⟨rfl, rfl⟩ := trodVars_none hV
  have k0 := h0
  have lt0 : ∀ x ∈ p0, x.block < W.heap.size := by obtain ⟨m, hm⟩ := k0; exact DataW.trod_lt m _ _ _ hm
  have k1 := h1
  have lt1 : ∀ x ∈ p1, x.block < W.heap.size := by obtain ⟨m, hm⟩ := k1; exact DataW.trod_lt m _ _ _ hm
  have k2 := h2
  have lt2 : ∀ x ∈ p2, x.block < W.heap.size := by obtain ⟨m, hm⟩ := k2; exact DataW.trod_lt m _ _ _ hm
  obtain ⟨tA, fA, gA, tc, fc, gc, ts, fs, gs, tb, me, rfl, g1, g2, g3, g4, g5⟩ := Go.Proofs.Ytpebdfgfikjkeaa.open_env (hval 0 26 v0 rfl rfl) h0
  obtain ⟨z0, z1, q0, q1, m1, rfl, _, _, hq0, hq1⟩ := Go.Joins.open_agg2 Try.underlying28 (by kernel_rfl) (by kernel_rfl) (hval 1 28 v1 rfl rfl) h1
  obtain ⟨ps, e0, _⟩ := DataW.trod_string Try.underlying9 hq0
  obtain ⟨rs, e1, _⟩ := DataW.trod_string Try.underlying9 hq1
  simp at e0 e1
  subst e0 e1
  obtain ⟨z2, z3, q2, q3, m2, rfl, _, _, hq2, hq3⟩ := Go.Joins.open_agg2 Try.underlying32 (by kernel_rfl) (by kernel_rfl) (hval 2 32 v2 rfl rfl) h2
  obtain ⟨LA, ln, lc, e2⟩ := Go.Joins.slice_form Try.underlying29 hq2
  obtain ⟨IA, n, c, e3⟩ := Go.Joins.slice_form Try.underlying30 hq3
  simp at e2 e3
  subst e2 e3
  obtain ⟨lo, hln, hlo, hl, _⟩ := Go.Proofs.Ytpebdfgfikjkeaa.open_rows (fun a : Nat × Nat => a.1 < 4294967296 ∧ a.2 < 256) loC (m0 := 2) Try.underlying29 (by kernel_rfl) (by decide) (fun _ => rfl) (fun vs n y hl hy => Go.Proofs.Ytpebdfgfikjkeaa.open_lo hl hy) hq2
  obtain ⟨l, hn, hin, hr, _⟩ := Go.Proofs.Ytpebdfgfikjkeaa.open_rows (fun x : Ig => IgRaw W (fun k => k < W.heap.size) x) Ig.cells (m0 := 4) Try.underlying30 (by kernel_rfl) (by decide) Ig.four (fun vs n y hl hy => Go.Proofs.Ytpebdfgfikjkeaa.open_ig hl hy) hq3
  have hwk := nop_all W tA fA gA LA IA tc fc gc lc c ln n ts fs gs tb me ps rs lo l g1 g2 g3 g4 g5 hln hn hl hlo hr hin
  clear hA0 hval0
  refine (hwk).mono fun e W' hh => ?_
  obtain ⟨he, bel⟩ := hh
  subst he
  exact ⟨_, rfl, _, _, _, [], _, [], hW', trodAll_mk1 (shut_bool Try.underlying4 _), (trodAll_cons_mk (Below.trod laidOut (by kernel_rfl) (of_decide_eq_true (by kernel_rfl)) k0 bel lt0) (trodAll_cons_mk (Below.trod laidOut (by kernel_rfl) (of_decide_eq_true (by kernel_rfl)) k1 bel lt1) (trodAll_cons_mk (Below.trod laidOut (by kernel_rfl) (of_decide_eq_true (by kernel_rfl)) k2 bel lt2) trodAll_mk0))), rfl, bel.frame _, fun h => by cases h⟩

theorem c_name : Try.pinned.checked.prog.funcNamed Rows.checkNopRow.func = some 3 := by kernel_rfl
theorem c_closed : joinedFacts Try.pinned.checked.prog 3 Try.f3 Rows.checkNopSpec Rows.checkNopRow = true := by kernel_rfl
theorem c_inst : Try.f3.isInstance Try.pinned.checked.prog Rows.checkNopRow.origin Rows.checkNopRow.targs := of_decide_eq_true (by kernel_rfl)
theorem c_wrap : Try.f3.isWrapper Try.pinned.checked.prog Rows.checkNopRow.wrapper Rows.checkNopRow.mainSum := by unfold Func.isWrapper; first | (rw [if_pos (by decide +kernel)]; kernel_rfl) | (rw [if_neg (by decide +kernel)]; exact ⟨rfl, rfl⟩)
theorem over : Rows.checkNopRow.holds Try.pinned (OpenSpec.ofChange Rows.checkNopSpec) :=
  OpenClaim.holds_of_wide 3 Try.f3 rfl rfl rfl rfl rfl rfl rfl ⟨rfl, rfl, rfl, rfl, rfl⟩ rfl rfl rfl rfl rfl c_name Try.func3 c_closed c_inst c_wrap
    (fun os started H enc _ => lifted os started H enc)

theorem proved : Rows.CheckNopSaid := over
end Go.Proofs.Ytpebdfgfikjkeaa.checkNopDone
