/-
  ElemsReads holds for every input: the list of rows of functions that any bytes are, or what is wrong first, and where, is what the page says. No condition.
-/
import Derived.Test.YtfemeendkjcffaaRlL
import Derived.Test.YtfemeendkjcffaaOpnB
import Derived.ProofKit
import Derived.OpenShut
import Derived.ShutString
import Derived.ChangeOld
import Derived.Lib.SmallJoins
set_option linter.unusedVariables false
set_option linter.unusedSimpArgs false
namespace Go.Proofs.Ytfemeendkjcffaa.elemsReadsDone
open Go.ChangeShapes Go.WideShapes Go.ChangeAt Go.RowKit
open Go.ChangeMaps (open_string shut_string)

theorem own : ownKnob Try.prog.godebug = none := by kernel_rfl
theorem laidOut : laidOutB Try.prog = true := by kernel_rfl
theorem bd_i64 {n : Int} (h : (Lit.int .i64 n).wf = true) : -9223372036854775808 ≤ n ∧ n ≤ 9223372036854775807 := bounds_i64 h
theorem nat_u64 {n : Int} (h : (Lit.int .u64 n).wf = true) : ∃ m : Nat, n = m ∧ m < 18446744073709551616 := by
  have h2 := bounds_u64 h
  exact ⟨n.toNat, by omega, by omega⟩
theorem nat_u8 {n : Int} (h : (Lit.int .u8 n).wf = true) : ∃ m : Nat, n = m ∧ m < 256 := by
  have h2 := bounds_u8 h
  exact ⟨n.toNat, by omega, by omega⟩


set_option maxRecDepth 100000 in
theorem lifted (os : Os) (started : os.Started) (H : Type) (enc : TypeId × Value → H) :
    ReturnsInHanded {} Try.checked os 16 .any (Rows.elemsReadsSpec.pre6 enc Try.prog Try.f16 Rows.elemsReadsRow.domain false) (Rows.elemsReadsSpec.post enc Try.prog Try.f16 false true false false) := by
  refine returnsInHanded_of_change (C := Try.checked) own started (by kernel_rfl) Try.func16
    (ChangeSpec.witness6 (enc := enc) (C := Try.checked) false ⟨#[], #[.slice none 0 0], []⟩ 8 (by kernel_rfl) (by kernel_rfl) (by kernel_rfl) (by kernel_rfl)) ?_
  intro W base args ds gs before hval0 hW hcnd _
  have hval : ∀ (j : Nat) t v, Try.f16.params[j]? = some t → args[j]? = some v → Value.okWide Try.prog W .any base t v := hval0
  have hW' := hW
  obtain ⟨p, q, hA0, hV, rfl, hfz, hnd⟩ := hW
  have hA : DataW.TrodAll enc Try.prog W 0 (fun _ => true) true Try.f16.params.toList args.toList ds p := hA0
  rw [Try.params16] at hA hval
  obtain ⟨v0, vs0, d0, ds0, p0, q0, hargs, rfl, rfl, h0, r0⟩ := trodAll_cons hA
  obtain ⟨rfl, rfl, rfl⟩ := trodAll_nil r0
  obtain rfl : args = #[v0] := by cases args; simp_all
  obtain ⟨rfl, rfl⟩ := trodVars_none hV
  have k0 := h0
  have lt0 : ∀ x ∈ p0, x.block < W.heap.size := by obtain ⟨m, hm⟩ := k0; exact DataW.trod_lt m _ _ _ hm
  obtain ⟨B, len0, cm, rfl⟩ := okWide_slice Try.underlying53 (hval 0 53 v0 rfl rfl)
  obtain ⟨bs, hbl, hrb, hwb⟩ : ∃ l : List Nat, l.length = len0 ∧ Reads W (fun k => k < W.heap.size) 1 B len0 (l.map fun n : Nat => .int .u8 (n : Int)) ∧ ∀ n ∈ l, (Lit.int .u8 (n : Int)).wf = true := by
    obtain ⟨fuel, hf⟩ := h0
    exact Go.Proofs.Ytfemeendkjcffaa.bopen_nums Try.underlying53 Try.underlying5 (by kernel_rfl) Go.Proofs.Ytfemeendkjcffaa.bpos_u8 hf
  rw [Go.Proofs.Ytfemeendkjcffaa.bbytes_of hwb] at hrb
  obtain ⟨ms, hms⟩ : ∃ ms, ms = bs.map UInt8.ofNat := ⟨_, rfl⟩
  have hml : ms.length = len0 := by rw [hms, List.length_map, hbl]
  rw [← hms, ← hml] at hrb
  have hwk := ereads_walk W B cm ms (fun k => k < W.heap.size) (fun j hj => hj) hrb
  rw [hml] at hwk
  clear hA0 hval0
  refine (hwk).mono fun e W' hh => ?_
  obtain ⟨he, bel⟩ := hh
  subst he
  exact ⟨_, rfl, _, _, _, [], _, [], hW', trodAll_mk1 (shut_bool Try.underlying4 _), (trodAll_cons_mk (Below.trod laidOut (by kernel_rfl) (of_decide_eq_true (by kernel_rfl)) k0 bel lt0) trodAll_mk0), rfl, bel.frame _, fun h => by cases h⟩

theorem c_name : Try.pinned.checked.prog.funcNamed Rows.elemsReadsRow.func = some 16 := by kernel_rfl
set_option maxHeartbeats 8000000 in
theorem c_closed : joinedFacts Try.pinned.checked.prog 16 Try.f16 Rows.elemsReadsSpec Rows.elemsReadsRow = true := by
  unfold joinedFacts
  simp only [Bool.and_eq_true]
  repeat' apply And.intro
  all_goals (as_aux_lemma => kernel_rfl)
theorem c_inst : Try.f16.isInstance Try.pinned.checked.prog Rows.elemsReadsRow.origin Rows.elemsReadsRow.targs := of_decide_eq_true (by kernel_rfl)
theorem c_wrap : Try.f16.isWrapper Try.pinned.checked.prog Rows.elemsReadsRow.wrapper Rows.elemsReadsRow.mainSum := by unfold Func.isWrapper; first | (rw [if_pos (by decide +kernel)]; kernel_rfl) | (rw [if_neg (by decide +kernel)]; exact ⟨rfl, rfl⟩)
theorem over : Rows.elemsReadsRow.holds Try.pinned (OpenSpec.ofChange Rows.elemsReadsSpec) :=
  OpenClaim.holds_of_wide 16 Try.f16 rfl rfl rfl rfl rfl rfl rfl ⟨rfl, rfl, rfl, rfl, rfl⟩ rfl rfl rfl rfl rfl c_name Try.func16 c_closed c_inst c_wrap
    (fun os started H enc _ => lifted os started H enc)

theorem proved : Rows.ElemsReadsSaid := over
end Go.Proofs.Ytfemeendkjcffaa.elemsReadsDone
