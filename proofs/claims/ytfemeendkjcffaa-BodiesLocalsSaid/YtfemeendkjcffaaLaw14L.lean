/-
  BodiesLocals holds for every input: how many locals any rows are, and of which types all of a function's are, or that they are too many, is what the page says. No condition.
-/
import Derived.Test.YtfemeendkjcffaaBoE
import Derived.ProofKit
import Derived.OpenShut
import Derived.ShutString
import Derived.ChangeOld
import Derived.Lib.SmallJoins
set_option linter.unusedVariables false
set_option linter.unusedSimpArgs false
namespace Go.Proofs.Ytfemeendkjcffaa.bodiesLocalsDone
open Go.ChangeShapes Go.WideShapes Go.ChangeAt Go.RowKit
open Go.ChangeMaps (open_string shut_string)

theorem own : ownKnob Try.prog.godebug = none := by kernel_rfl
theorem laidOut : laidOutB Try.prog = true := by kernel_rfl
theorem bd_i64 {n : Int} (h : (Lit.int .i64 n).wf = true) : -9223372036854775808 ≤ n ∧ n ≤ 9223372036854775807 := bounds_i64 h
theorem nat_u64 {n : Int} (h : (Lit.int .u64 n).wf = true) : ∃ m : Nat, n = m ∧ m < 18446744073709551616 := by
  have h2 := bounds_u64 h
  exact ⟨n.toNat, by omega, by omega⟩
theorem nat_u8 {n : Int} (h : (Lit.int .u8 n).wf = true) : ∃ m : Nat, n = m ∧ m < 256 := by
  have h2 := bounds_u8 h
  exact ⟨n.toNat, by omega, by omega⟩


set_option maxRecDepth 100000 in
theorem lifted (os : Os) (started : os.Started) (H : Type) (enc : TypeId × Value → H) :
    ReturnsInHanded {} Try.checked os 11 .any (Rows.bodiesLocalsSpec.pre6 enc Try.prog Try.f11 Rows.bodiesLocalsRow.domain false) (Rows.bodiesLocalsSpec.post enc Try.prog Try.f11 false true false false) := by
  refine returnsInHanded_of_change (C := Try.checked) own started (by kernel_rfl) Try.func11
    (ChangeSpec.witness6 (enc := enc) (C := Try.checked) false ⟨#[], #[.agg #[.string ⟨#[]⟩, .string ⟨#[]⟩], .slice none 0 0], []⟩ 8 (by kernel_rfl) (by kernel_rfl) (by kernel_rfl) (by kernel_rfl)) ?_
  intro W base args ds gs before hval0 hW hcnd _
  have hval : ∀ (j : Nat) t v, Try.f11.params[j]? = some t → args[j]? = some v → Value.okWide Try.prog W .any base t v := hval0
  have hW' := hW
  obtain ⟨p, q, hA0, hV, rfl, hfz, hnd⟩ := hW
  have hA : DataW.TrodAll enc Try.prog W 0 (fun _ => true) true Try.f11.params.toList args.toList ds p := hA0
  rw [Try.params11] at hA hval
  obtain ⟨v0, vs0, d0, ds0, p0, q0, hargs, rfl, rfl, h0, r0⟩ := trodAll_cons hA
  obtain ⟨v1, vs1, d1, ds1, p1, q1, rfl, rfl, rfl, h1, r1⟩ := trodAll_cons r0
  obtain ⟨rfl, rfl, rfl⟩ := trodAll_nil r1
  obtain rfl : args = #[v0, v1] := by cases args; simp_all
  obtain ⟨rfl, rfl⟩ := trodVars_none hV
  have k0 := h0
  have lt0 : ∀ x ∈ p0, x.block < W.heap.size := by obtain ⟨m, hm⟩ := k0; exact DataW.trod_lt m _ _ _ hm
  have k1 := h1
  have lt1 : ∀ x ∈ p1, x.block < W.heap.size := by obtain ⟨m, hm⟩ := k1; exact DataW.trod_lt m _ _ _ hm
  obtain ⟨z0, z1, q0, q1, m2, rfl, _, _, hq0, hq1⟩ := Go.Joins.open_agg2 Try.underlying105 (by kernel_rfl) (by kernel_rfl) (hval 0 105 v0 rfl rfl) h0
  obtain ⟨ps, f0, _, _⟩ := DataW.trod_string Try.underlying9 hq0
  obtain ⟨rs, f1, _, _⟩ := DataW.trod_string Try.underlying9 hq1
  simp at f0 f1
  subst f0 f1
  obtain ⟨B, len0, cc, rfl⟩ := okWide_slice Try.underlying106 (hval 1 106 v1 rfl rfl)
  obtain ⟨gs, hlen, hr, _, _⟩ : ∃ gs : List TL, gs.length = len0 ∧ Reads W (fun k => k < W.heap.size) 2 B len0 (gs.flatMap fun g => loC g.1) ∧ len0 ≤ cc ∧ cc ≤ maxLen := by
    obtain ⟨fuel, hf⟩ := h1
    exact Go.Proofs.Ytfemeendkjcffaa.open_structs (fun g : TL => loC g.1) Try.underlying106 Try.underlying217 (by kernel_rfl) (by kernel_rfl) (by decide) (fun _ => rfl) (fun vs hl h => mk_lo _ Try.underlying217 vs hl h) hf
  have hll : (gs.map (·.1)).length = len0 := by simpa using hlen
  have hr2 : Reads W (fun k => k < W.heap.size) 2 B (gs.map (·.1)).length ((gs.map (·.1)).flatMap loC) := by
    rw [hll, List.flatMap_map]
    exact hr
  have hwk := blocals_done W B cc (gs.map (·.1)) hr2 (fun g hg => by obtain ⟨x, _, rfl⟩ := List.mem_map.1 hg; exact x.2) ps.data.toList rs
  rw [hll, str_data] at hwk
  clear hA0 hval0
  refine (hwk).mono fun e W' hh => ?_
  obtain ⟨he, bel⟩ := hh
  subst he
  exact ⟨_, rfl, _, _, _, [], _, [], hW', trodAll_mk1 (shut_bool Try.underlying4 _), (trodAll_cons_mk (Below.trod laidOut (by kernel_rfl) (of_decide_eq_true (by kernel_rfl)) k0 bel lt0) (trodAll_cons_mk (Below.trod laidOut (by kernel_rfl) (of_decide_eq_true (by kernel_rfl)) k1 bel lt1) trodAll_mk0)), rfl, bel.frame _, fun h => by cases h⟩

theorem c_name : Try.pinned.checked.prog.funcNamed Rows.bodiesLocalsRow.func = some 11 := by kernel_rfl
theorem c_closed : joinedFacts Try.pinned.checked.prog 11 Try.f11 Rows.bodiesLocalsSpec Rows.bodiesLocalsRow = true := by kernel_rfl
theorem c_inst : Try.f11.isInstance Try.pinned.checked.prog Rows.bodiesLocalsRow.origin Rows.bodiesLocalsRow.targs := of_decide_eq_true (by kernel_rfl)
theorem c_wrap : Try.f11.isWrapper Try.pinned.checked.prog Rows.bodiesLocalsRow.wrapper Rows.bodiesLocalsRow.mainSum := by unfold Func.isWrapper; first | (rw [if_pos (by decide +kernel)]; kernel_rfl) | (rw [if_neg (by decide +kernel)]; exact ⟨rfl, rfl⟩)
theorem over : Rows.bodiesLocalsRow.holds Try.pinned (OpenSpec.ofChange Rows.bodiesLocalsSpec) :=
  OpenClaim.holds_of_wide 11 Try.f11 rfl rfl rfl rfl rfl rfl rfl ⟨rfl, rfl, rfl, rfl, rfl⟩ rfl rfl rfl rfl rfl c_name Try.func11 c_closed c_inst c_wrap
    (fun os started H enc _ => lifted os started H enc)

theorem proved : Rows.BodiesLocalsSaid := over
end Go.Proofs.Ytfemeendkjcffaa.bodiesLocalsDone
