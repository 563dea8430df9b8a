/-
  BodiesBack holds for every input: any bodies that may be, one behind the other, have the page's bytes, and are read again; of others the first error is told. No condition.
-/
import Derived.Test.YtfemeendkjcffaaBrD
import Derived.ProofKit
import Derived.OpenShut
import Derived.ShutString
import Derived.ChangeOld
import Derived.Lib.SmallJoins
set_option linter.unusedVariables false
set_option linter.unusedSimpArgs false
namespace Go.Proofs.Ytfemeendkjcffaa.bodiesBackDone
open Go.ChangeShapes Go.WideShapes Go.ChangeAt Go.RowKit
open Go.ChangeMaps (open_string shut_string)

theorem own : ownKnob Try.prog.godebug = none := by kernel_rfl
theorem laidOut : laidOutB Try.prog = true := by kernel_rfl
theorem bd_i64 {n : Int} (h : (Lit.int .i64 n).wf = true) : -9223372036854775808 ≤ n ∧ n ≤ 9223372036854775807 := bounds_i64 h
theorem nat_u64 {n : Int} (h : (Lit.int .u64 n).wf = true) : ∃ m : Nat, n = m ∧ m < 18446744073709551616 := by
  have h2 := bounds_u64 h
  exact ⟨n.toNat, by omega, by omega⟩
theorem nat_u8 {n : Int} (h : (Lit.int .u8 n).wf = true) : ∃ m : Nat, n = m ∧ m < 256 := by
  have h2 := bounds_u8 h
  exact ⟨n.toNat, by omega, by omega⟩


set_option maxRecDepth 100000 in
theorem lifted (os : Os) (started : os.Started) (H : Type) (enc : TypeId × Value → H) :
    ReturnsInHanded {} Try.checked os 22 .any (Rows.bodiesBackSpec.pre6 enc Try.prog Try.f22 Rows.bodiesBackRow.domain false) (Rows.bodiesBackSpec.post enc Try.prog Try.f22 false true false false) := by
  refine returnsInHanded_of_change (C := Try.checked) own started (by kernel_rfl) Try.func22
    (ChangeSpec.witness6 (enc := enc) (C := Try.checked) false ⟨#[], #[.slice none 0 0], []⟩ 8 (by kernel_rfl) (by kernel_rfl) (by kernel_rfl) (by kernel_rfl)) ?_
  intro W base args ds gs before hval0 hW hcnd _
  have hval : ∀ (j : Nat) t v, Try.f22.params[j]? = some t → args[j]? = some v → Value.okWide Try.prog W .any base t v := hval0
  have hW' := hW
  obtain ⟨p, q, hA0, hV, rfl, hfz, hnd⟩ := hW
  have hA : DataW.TrodAll enc Try.prog W 0 (fun _ => true) true Try.f22.params.toList args.toList ds p := hA0
  rw [Try.params22] at hA hval
  obtain ⟨v0, vs0, d0, ds0, p0, q0, hargs, rfl, rfl, h0, r0⟩ := trodAll_cons hA
  obtain ⟨rfl, rfl, rfl⟩ := trodAll_nil r0
  obtain rfl : args = #[v0] := by cases args; simp_all
  obtain ⟨rfl, rfl⟩ := trodVars_none hV
  have k0 := h0
  have lt0 : ∀ x ∈ p0, x.block < W.heap.size := by obtain ⟨m, hm⟩ := k0; exact DataW.trod_lt m _ _ _ hm
  obtain ⟨A, n, c, rfl⟩ := okWide_slice Try.underlying187 (hval 0 187 v0 rfl rfl)
  obtain ⟨l, hn, hwf, hr⟩ : ∃ l : List Go.Proofs.Ytfemeendkjcffaa.Cd, l.length = n ∧ (∀ x ∈ l, x.wf ∧ Go.Proofs.Ytfemeendkjcffaa.Cd.rd W (fun k => k < W.heap.size) x) ∧ Go.Proofs.Ytfemeendkjcffaa.Reads W (fun k => k < W.heap.size) 2 A n (Go.Proofs.Ytfemeendkjcffaa.cds l) := by
    obtain ⟨fuel, hf⟩ := h0
    exact Go.Proofs.Ytfemeendkjcffaa.open_codes hf
  have hwk := cbacks_done W n c A l _ hn hwf hr
  clear hA0 hval0
  refine (hwk).mono fun e W' hh => ?_
  obtain ⟨he, bel⟩ := hh
  subst he
  exact ⟨_, rfl, _, _, _, [], _, [], hW', trodAll_mk1 (shut_bool Try.underlying4 _), (trodAll_cons_mk (Below.trod laidOut (by kernel_rfl) (of_decide_eq_true (by kernel_rfl)) k0 bel lt0) trodAll_mk0), rfl, bel.frame _, fun h => by cases h⟩

theorem c_name : Try.pinned.checked.prog.funcNamed Rows.bodiesBackRow.func = some 22 := by kernel_rfl
set_option maxHeartbeats 8000000 in
theorem c_closed : joinedFacts Try.pinned.checked.prog 22 Try.f22 Rows.bodiesBackSpec Rows.bodiesBackRow = true := by
  unfold joinedFacts
  simp only [Bool.and_eq_true]
  repeat' apply And.intro
  all_goals (as_aux_lemma => kernel_rfl)
theorem c_inst : Try.f22.isInstance Try.pinned.checked.prog Rows.bodiesBackRow.origin Rows.bodiesBackRow.targs := of_decide_eq_true (by kernel_rfl)
theorem c_wrap : Try.f22.isWrapper Try.pinned.checked.prog Rows.bodiesBackRow.wrapper Rows.bodiesBackRow.mainSum := by unfold Func.isWrapper; first | (rw [if_pos (by decide +kernel)]; kernel_rfl) | (rw [if_neg (by decide +kernel)]; exact ⟨rfl, rfl⟩)
theorem over : Rows.bodiesBackRow.holds Try.pinned (OpenSpec.ofChange Rows.bodiesBackSpec) :=
  OpenClaim.holds_of_wide 22 Try.f22 rfl rfl rfl rfl rfl rfl rfl ⟨rfl, rfl, rfl, rfl, rfl⟩ rfl rfl rfl rfl rfl c_name Try.func22 c_closed c_inst c_wrap
    (fun os started H enc _ => lifted os started H enc)

theorem proved : Rows.BodiesBackSaid := over
end Go.Proofs.Ytfemeendkjcffaa.bodiesBackDone
