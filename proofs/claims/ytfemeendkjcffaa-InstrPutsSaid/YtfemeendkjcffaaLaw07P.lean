/-
  InstrPuts holds for every input: which instructions may be, why others may not, and their bytes, are what the page says; what may be is read as it was, whatever stands behind. No condition.
-/
import Derived.Test.YtfemeendkjcffaaLwC
import Derived.ProofKit
import Derived.OpenShut
import Derived.ShutString
import Derived.ChangeOld
import Derived.Lib.SmallJoins
set_option linter.unusedVariables false
set_option linter.unusedSimpArgs false
namespace Go.Proofs.Ytfemeendkjcffaa.instrPutsDone
open Go.ChangeShapes Go.WideShapes Go.ChangeAt Go.RowKit
open Go.ChangeMaps (open_string shut_string)

theorem own : ownKnob Try.prog.godebug = none := by kernel_rfl
theorem laidOut : laidOutB Try.prog = true := by kernel_rfl
theorem bd_i64 {n : Int} (h : (Lit.int .i64 n).wf = true) : -9223372036854775808 ≤ n ∧ n ≤ 9223372036854775807 := bounds_i64 h
theorem nat_u64 {n : Int} (h : (Lit.int .u64 n).wf = true) : ∃ m : Nat, n = m ∧ m < 18446744073709551616 := by
  have h2 := bounds_u64 h
  exact ⟨n.toNat, by omega, by omega⟩
theorem nat_u8 {n : Int} (h : (Lit.int .u8 n).wf = true) : ∃ m : Nat, n = m ∧ m < 256 := by
  have h2 := bounds_u8 h
  exact ⟨n.toNat, by omega, by omega⟩


set_option maxRecDepth 100000 in
theorem lifted (os : Os) (started : os.Started) (H : Type) (enc : TypeId × Value → H) :
    ReturnsInHanded {} Try.checked os 9 .any (Rows.instrPutsSpec.pre6 enc Try.prog Try.f9 Rows.instrPutsRow.domain false) (Rows.instrPutsSpec.post enc Try.prog Try.f9 false true false false) := by
  refine returnsInHanded_of_change (C := Try.checked) own started (by kernel_rfl) Try.func9
    (ChangeSpec.witness6 (enc := enc) (C := Try.checked) false ⟨#[], #[.agg #[.int .u8 0, .int .u64 0, .int .u64 0, .slice none 0 0], .agg #[.int .u8 0, .int .u64 0, .int .u64 0, .slice none 0 0], .slice none 0 0], []⟩ 8 (by kernel_rfl) (by kernel_rfl) (by kernel_rfl) (by kernel_rfl)) ?_
  intro W base args ds gs before hval0 hW hcnd _
  have hval : ∀ (j : Nat) t v, Try.f9.params[j]? = some t → args[j]? = some v → Value.okWide Try.prog W .any base t v := hval0
  have hW' := hW
  obtain ⟨p, q, hA0, hV, rfl, hfz, hnd⟩ := hW
  have hA : DataW.TrodAll enc Try.prog W 0 (fun _ => true) true Try.f9.params.toList args.toList ds p := hA0
  rw [Try.params9] at hA hval
  obtain ⟨v0, vs0, d0, ds0, p0, q0, hargs, rfl, rfl, h0, r0⟩ := trodAll_cons hA
  obtain ⟨v1, vs1, d1, ds1, p1, q1, rfl, rfl, rfl, h1, r1⟩ := trodAll_cons r0
  obtain ⟨v2, vs2, d2, ds2, p2, q2, rfl, rfl, rfl, h2, r2⟩ := trodAll_cons r1
  obtain ⟨rfl, rfl, rfl⟩ := trodAll_nil r2
  obtain rfl : args = #[v0, v1, v2] := by cases args; simp_all
  obtain ⟨rfl, rfl⟩ := trodVars_none hV
  have k0 := h0
  have lt0 : ∀ x ∈ p0, x.block < W.heap.size := by obtain ⟨m, hm⟩ := k0; exact DataW.trod_lt m _ _ _ hm
  have k1 := h1
  have lt1 : ∀ x ∈ p1, x.block < W.heap.size := by obtain ⟨m, hm⟩ := k1; exact DataW.trod_lt m _ _ _ hm
  have k2 := h2
  have lt2 : ∀ x ∈ p2, x.block < W.heap.size := by obtain ⟨m, hm⟩ := k2; exact DataW.trod_lt m _ _ _ hm
  obtain ⟨x0, x1, x2, x3, y0, y1, y2, y3, m, rfl, _, _, hy0, hy1, hy2, hy3⟩ := Go.Joins.open_agg4 Try.underlying50 (by kernel_rfl) (by kernel_rfl) (hval 0 50 v0 rfl rfl) h0
  obtain ⟨iop, e0, _, wop⟩ := DataW.trod_int Try.underlying5 hy0
  obtain ⟨ia, e1, _, wa⟩ := DataW.trod_int Try.underlying47 hy1
  obtain ⟨ib, e2, _, wb⟩ := DataW.trod_int Try.underlying47 hy2
  simp at e0 e1 e2
  subst e0 e1 e2
  obtain ⟨A, n, c, e3⟩ := Go.Joins.slice_form Try.underlying48 hy3
  simp at e3
  subst e3
  obtain ⟨op, eop, hop⟩ := nat_u8 wop
  obtain ⟨a, ea, ha⟩ := nat_u64 wa
  obtain ⟨b, eb, hb⟩ := nat_u64 wb
  subst eop ea eb
  obtain ⟨L, hL, hr, hw⟩ := Go.Proofs.Ytfemeendkjcffaa.open_nums Try.underlying48 Try.underlying51 (by kernel_rfl) Go.Proofs.Ytfemeendkjcffaa.pos_u32 hy3
  subst hL
  obtain ⟨x0q, x1q, x2q, x3q, y0q, y1q, y2q, y3q, mq, rfl, _, _, hy0q, hy1q, hy2q, hy3q⟩ := Go.Joins.open_agg4 Try.underlying50 (by kernel_rfl) (by kernel_rfl) (hval 1 50 v1 rfl rfl) h1
  obtain ⟨iopq, e0q, _, wopq⟩ := DataW.trod_int Try.underlying5 hy0q
  obtain ⟨iaq, e1q, _, waq⟩ := DataW.trod_int Try.underlying47 hy1q
  obtain ⟨ibq, e2q, _, wbq⟩ := DataW.trod_int Try.underlying47 hy2q
  simp at e0q e1q e2q
  subst e0q e1q e2q
  obtain ⟨Aq, nq, cq, e3q⟩ := Go.Joins.slice_form Try.underlying48 hy3q
  simp at e3q
  subst e3q
  obtain ⟨opq, eopq, hopq⟩ := nat_u8 wopq
  obtain ⟨aq, eaq, haq⟩ := nat_u64 waq
  obtain ⟨bq, ebq, hbq⟩ := nat_u64 wbq
  subst eopq eaq ebq
  obtain ⟨Lq, hLq, hrq, hwq⟩ := Go.Proofs.Ytfemeendkjcffaa.open_nums Try.underlying48 Try.underlying51 (by kernel_rfl) Go.Proofs.Ytfemeendkjcffaa.pos_u32 hy3q
  subst hLq
  obtain ⟨B, len0, cm, rfl⟩ := okWide_slice Try.underlying53 (hval 2 53 v2 rfl rfl)
  obtain ⟨bs, hbl, hrb, hwb⟩ : ∃ l : List Nat, l.length = len0 ∧ Reads W (fun k => k < W.heap.size) 1 B len0 (l.map fun n : Nat => .int .u8 (n : Int)) ∧ ∀ n ∈ l, (Lit.int .u8 (n : Int)).wf = true := by
    obtain ⟨fuel, hf⟩ := h2
    exact Go.Proofs.Ytfemeendkjcffaa.open_nums Try.underlying53 Try.underlying5 (by kernel_rfl) Go.Proofs.Ytfemeendkjcffaa.pos_u8 hf
  rw [Go.Proofs.Ytfemeendkjcffaa.bytes_of hwb] at hrb
  obtain ⟨ms, hms⟩ : ∃ ms, ms = bs.map UInt8.ofNat := ⟨_, rfl⟩
  have hml : ms.length = len0 := by rw [hms, List.length_map, hbl]
  rw [← hms, ← hml] at hrb
  have hwk := iputs_done W op a b c opq aq bq cq cm A Aq B L Lq ms hr hrq hrb hop ha (fun x hx => by have := Go.bounds_u32 (hw x hx); omega)
  rw [hml] at hwk
  clear hA0 hval0
  refine (hwk).mono fun e W' hh => ?_
  obtain ⟨he, bel⟩ := hh
  subst he
  exact ⟨_, rfl, _, _, _, [], _, [], hW', trodAll_mk1 (shut_bool Try.underlying4 _), (trodAll_cons_mk (Below.trod laidOut (by kernel_rfl) (of_decide_eq_true (by kernel_rfl)) k0 bel lt0) (trodAll_cons_mk (Below.trod laidOut (by kernel_rfl) (of_decide_eq_true (by kernel_rfl)) k1 bel lt1) (trodAll_cons_mk (Below.trod laidOut (by kernel_rfl) (of_decide_eq_true (by kernel_rfl)) k2 bel lt2) trodAll_mk0))), rfl, bel.frame _, fun h => by cases h⟩

theorem c_name : Try.pinned.checked.prog.funcNamed Rows.instrPutsRow.func = some 9 := by kernel_rfl
theorem c_closed : joinedFacts Try.pinned.checked.prog 9 Try.f9 Rows.instrPutsSpec Rows.instrPutsRow = true := by kernel_rfl
theorem c_inst : Try.f9.isInstance Try.pinned.checked.prog Rows.instrPutsRow.origin Rows.instrPutsRow.targs := of_decide_eq_true (by kernel_rfl)
theorem c_wrap : Try.f9.isWrapper Try.pinned.checked.prog Rows.instrPutsRow.wrapper Rows.instrPutsRow.mainSum := by unfold Func.isWrapper; first | (rw [if_pos (by decide +kernel)]; kernel_rfl) | (rw [if_neg (by decide +kernel)]; exact ⟨rfl, rfl⟩)
theorem over : Rows.instrPutsRow.holds Try.pinned (OpenSpec.ofChange Rows.instrPutsSpec) :=
  OpenClaim.holds_of_wide 9 Try.f9 rfl rfl rfl rfl rfl rfl rfl ⟨rfl, rfl, rfl, rfl, rfl⟩ rfl rfl rfl rfl rfl c_name Try.func9 c_closed c_inst c_wrap
    (fun os started H enc _ => lifted os started H enc)

theorem proved : Rows.InstrPutsSaid := over
end Go.Proofs.Ytfemeendkjcffaa.instrPutsDone
