/-
  GraphNear holds for every input: which names are near one, who needs it, and whether it needs itself, is what the page says. No condition.
-/
import Derived.Test.YtgchpanjfllijaaGrI
import Derived.Test.YtgchpanjfllijaaGnL
import Derived.ProofKit
import Derived.OpenShut
import Derived.ShutString
import Derived.ChangeOld
set_option linter.unusedVariables false
set_option linter.unusedSimpArgs false
namespace Go.Proofs.Ytgchpanjfllijaa.graphNearDone
open Go.ChangeShapes Go.WideShapes Go.ChangeAt Go.RowKit
open Go.ChangeMaps (open_string shut_string)

theorem own : ownKnob Try.prog.godebug = none := by kernel_rfl
theorem laidOut : laidOutB Try.prog = true := by kernel_rfl
theorem bd_i64 {n : Int} (h : (Lit.int .i64 n).wf = true) : -9223372036854775808 ≤ n ∧ n ≤ 9223372036854775807 := bounds_i64 h
theorem nat_u64 {n : Int} (h : (Lit.int .u64 n).wf = true) : ∃ m : Nat, n = m ∧ m < 18446744073709551616 := by
  have h2 := bounds_u64 h
  exact ⟨n.toNat, by omega, by omega⟩
theorem nat_u8 {n : Int} (h : (Lit.int .u8 n).wf = true) : ∃ m : Nat, n = m ∧ m < 256 := by
  have h2 := bounds_u8 h
  exact ⟨n.toNat, by omega, by omega⟩


set_option maxRecDepth 100000 in
theorem lifted (os : Os) (started : os.Started) (H : Type) (enc : TypeId × Value → H) :
    ReturnsInHanded {} Try.checked os 5 .any (Rows.graphNearSpec.pre6 enc Try.prog Try.f5 Rows.graphNearRow.domain false) (Rows.graphNearSpec.post enc Try.prog Try.f5 false true false false) := by
  refine returnsInHanded_of_change (C := Try.checked) own started (by kernel_rfl) Try.func5
    (ChangeSpec.witness6 (enc := enc) (C := Try.checked) false ⟨#[], #[.slice none 0 0, .string ByteArray.empty], []⟩ 8 (by kernel_rfl) (by kernel_rfl) (by kernel_rfl) (by kernel_rfl)) ?_
  intro W base args ds gs before hval0 hW hcnd _
  have hval : ∀ (j : Nat) t v, Try.f5.params[j]? = some t → args[j]? = some v → Value.okWide Try.prog W .any base t v := hval0
  have hW' := hW
  obtain ⟨p, q, hA0, hV, rfl, hfz, hnd⟩ := hW
  have hA : DataW.TrodAll enc Try.prog W 0 (fun _ => true) true Try.f5.params.toList args.toList ds p := hA0
  rw [Try.params5] at hA hval
  obtain ⟨v0, vs0, d0, ds0, p0, q0, hargs, rfl, rfl, h0, r0⟩ := trodAll_cons hA
  obtain ⟨v1, vs1, d1, ds1, p1, q1, rfl, rfl, rfl, h1, r1⟩ := trodAll_cons r0
  obtain ⟨rfl, rfl, rfl⟩ := trodAll_nil r1
  obtain rfl : args = #[v0, v1] := by cases args; simp_all
  obtain ⟨rfl, rfl⟩ := trodVars_none hV
  have k0 := h0
  have lt0 : ∀ x ∈ p0, x.block < W.heap.size := by obtain ⟨m, hm⟩ := k0; exact DataW.trod_lt m _ _ _ hm
  obtain ⟨s1, rfl, rfl, rfl, w1⟩ := open_string Try.underlying9 (hval 1 9 v1 rfl rfl) h1
  obtain ⟨a0, len0, cap0, rfl⟩ := okWide_slice Try.underlying22 (hval 0 22 v0 rfl rfl)
  obtain ⟨ops', hlen, hr, hc, hc2⟩ : ∃ ops : List (TR W), ops.length = len0 ∧ Reads W (fun k => k < W.heap.size) 2 a0 len0 (ops.flatMap TR.cells) ∧ len0 ≤ cap0 ∧ cap0 ≤ maxLen := by
    obtain ⟨fuel, hf⟩ := h0
    exact Go.Proofs.Ytgchpanjfllijaa.open_structs TR.cells Try.underlying22 Try.underlying41 (by kernel_rfl) (by kernel_rfl) (by decide) (fun _ => rfl) (fun vs hl h => mk_row _ Try.underlying41 vs hl h) hf
  obtain ⟨l, hops, hT⟩ : ∃ l : List Rw, (ops'.map (·.1)) = l ∧ ∀ r ∈ l, Told W W.heap.size r ∧ r.needs.length ≤ 9223372036854775807 := ⟨_, rfl, fun o ho => by
    obtain ⟨x, _, rfl⟩ := List.mem_map.1 ho
    exact x.2⟩
  have hfl : ops'.flatMap TR.cells = rws l := by
    subst hops
    unfold rws
    rw [List.flatMap_map]
    rfl
  have hle : l.length = ops'.length := by subst hops; simp
  rw [hfl] at hr
  obtain rfl : len0 = l.length := by omega
  have hwk := gnear_walk W a0 cap0 l s1.data.toList hr (by unfold maxLen at hc2; omega) (fun r hr => (hT r hr).1) (fun r hr => (hT r hr).2) (by rw [Array.length_toList]; exact w1)
  rw [str_data] at hwk
  clear hA0 hval0
  refine (hwk).mono fun e W' hh => ?_
  obtain ⟨he, bel⟩ := hh
  subst he
  exact ⟨_, rfl, _, _, _, [], _, [], hW', trodAll_mk1 (shut_bool Try.underlying4 _), (trodAll_cons_mk (Below.trod laidOut (by kernel_rfl) (of_decide_eq_true (by kernel_rfl)) k0 bel lt0) (trodAll_cons_mk (shut_string Try.underlying9 w1) trodAll_mk0)), rfl, bel.frame _, fun h => by cases h⟩

theorem c_name : Try.pinned.checked.prog.funcNamed Rows.graphNearRow.func = some 5 := by kernel_rfl
theorem c_closed : joinedFacts Try.pinned.checked.prog 5 Try.f5 Rows.graphNearSpec Rows.graphNearRow = true := by kernel_rfl
theorem c_inst : Try.f5.isInstance Try.pinned.checked.prog Rows.graphNearRow.origin Rows.graphNearRow.targs := of_decide_eq_true (by kernel_rfl)
theorem c_wrap : Try.f5.isWrapper Try.pinned.checked.prog Rows.graphNearRow.wrapper Rows.graphNearRow.mainSum := by unfold Func.isWrapper; first | (rw [if_pos (by decide +kernel)]; kernel_rfl) | (rw [if_neg (by decide +kernel)]; exact ⟨rfl, rfl⟩)
theorem over : Rows.graphNearRow.holds Try.pinned (OpenSpec.ofChange Rows.graphNearSpec) :=
  OpenClaim.holds_of_wide 5 Try.f5 rfl rfl rfl rfl rfl rfl rfl ⟨rfl, rfl, rfl, rfl, rfl⟩ rfl rfl rfl rfl rfl c_name Try.func5 c_closed c_inst c_wrap
    (fun os started H enc _ => lifted os started H enc)

theorem proved : Rows.GraphNearSaid := over
end Go.Proofs.Ytgchpanjfllijaa.graphNearDone
