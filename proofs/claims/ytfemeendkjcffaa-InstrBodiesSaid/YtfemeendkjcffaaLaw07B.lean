/-
  InstrBodies holds for every input: which rows of instructions are bodies, and their bytes, are what the page says; they are read as they were. No condition.
-/
import Derived.Test.YtfemeendkjcffaaInsI
import Derived.ProofKit
import Derived.OpenShut
import Derived.ShutString
import Derived.ChangeOld
import Derived.Lib.SmallJoins
set_option linter.unusedVariables false
set_option linter.unusedSimpArgs false
namespace Go.Proofs.Ytfemeendkjcffaa.instrBodiesDone
open Go.ChangeShapes Go.WideShapes Go.ChangeAt Go.RowKit
open Go.ChangeMaps (open_string shut_string)

theorem own : ownKnob Try.prog.godebug = none := by kernel_rfl
theorem laidOut : laidOutB Try.prog = true := by kernel_rfl
theorem bd_i64 {n : Int} (h : (Lit.int .i64 n).wf = true) : -9223372036854775808 ≤ n ∧ n ≤ 9223372036854775807 := bounds_i64 h
theorem nat_u64 {n : Int} (h : (Lit.int .u64 n).wf = true) : ∃ m : Nat, n = m ∧ m < 18446744073709551616 := by
  have h2 := bounds_u64 h
  exact ⟨n.toNat, by omega, by omega⟩
theorem nat_u8 {n : Int} (h : (Lit.int .u8 n).wf = true) : ∃ m : Nat, n = m ∧ m < 256 := by
  have h2 := bounds_u8 h
  exact ⟨n.toNat, by omega, by omega⟩


set_option maxRecDepth 100000 in
theorem lifted (os : Os) (started : os.Started) (H : Type) (enc : TypeId × Value → H) :
    ReturnsInHanded {} Try.checked os 10 .any (Rows.instrBodiesSpec.pre6 enc Try.prog Try.f10 Rows.instrBodiesRow.domain false) (Rows.instrBodiesSpec.post enc Try.prog Try.f10 false true false false) := by
  refine returnsInHanded_of_change (C := Try.checked) own started (by kernel_rfl) Try.func10
    (ChangeSpec.witness6 (enc := enc) (C := Try.checked) false ⟨#[], #[.slice none 0 0, .slice none 0 0], []⟩ 8 (by kernel_rfl) (by kernel_rfl) (by kernel_rfl) (by kernel_rfl)) ?_
  intro W base args ds gs before hval0 hW hcnd _
  have hval : ∀ (j : Nat) t v, Try.f10.params[j]? = some t → args[j]? = some v → Value.okWide Try.prog W .any base t v := hval0
  have hW' := hW
  obtain ⟨p, q, hA0, hV, rfl, hfz, hnd⟩ := hW
  have hA : DataW.TrodAll enc Try.prog W 0 (fun _ => true) true Try.f10.params.toList args.toList ds p := hA0
  rw [Try.params10] at hA hval
  obtain ⟨v0, vs0, d0, ds0, p0, q0, hargs, rfl, rfl, h0, r0⟩ := trodAll_cons hA
  obtain ⟨v1, vs1, d1, ds1, p1, q1, rfl, rfl, rfl, h1, r1⟩ := trodAll_cons r0
  obtain ⟨rfl, rfl, rfl⟩ := trodAll_nil r1
  obtain rfl : args = #[v0, v1] := by cases args; simp_all
  obtain ⟨rfl, rfl⟩ := trodVars_none hV
  have k0 := h0
  have lt0 : ∀ x ∈ p0, x.block < W.heap.size := by obtain ⟨m, hm⟩ := k0; exact DataW.trod_lt m _ _ _ hm
  have k1 := h1
  have lt1 : ∀ x ∈ p1, x.block < W.heap.size := by obtain ⟨m, hm⟩ := k1; exact DataW.trod_lt m _ _ _ hm
  obtain ⟨A, n, c, rfl⟩ := okWide_slice Try.underlying96 (hval 0 96 v0 rfl rfl)
  obtain ⟨l, hn, hwf, hin, hr⟩ : ∃ l : List Go.Proofs.Ytfemeendkjcffaa.Ig, l.length = n ∧ (∀ x ∈ l, x.wf) ∧ (∀ x ∈ l, x.L.length = x.n ∧ (∀ y ∈ x.L, y < 4294967296) ∧ Go.Proofs.Ytfemeendkjcffaa.Reads W (fun k => k < W.heap.size) 1 x.A x.n (Go.Proofs.Ytfemeendkjcffaa.u32s x.L)) ∧ Go.Proofs.Ytfemeendkjcffaa.Reads W (fun k => k < W.heap.size) 4 A n (Go.Proofs.Ytfemeendkjcffaa.igs l) := by
    obtain ⟨fuel, hf⟩ := h0
    exact Go.Proofs.Ytfemeendkjcffaa.open_instrs hf
  obtain ⟨B, m, cm, rfl⟩ := okWide_slice Try.underlying53 (hval 1 53 v1 rfl rfl)
  obtain ⟨ms, hm, hb⟩ : ∃ ms : List UInt8, ms.length = m ∧ Go.Proofs.Ytfemeendkjcffaa.Reads W (fun k => k < W.heap.size) 1 B m (Go.Proofs.Ytfemeendkjcffaa.u8s ms) := by
    obtain ⟨fuel, hf⟩ := h1
    exact Go.Proofs.Ytfemeendkjcffaa.open_bytes hf
  have hwk := ibods_done W n c m cm A B l ms _ hn hm hwf hin hr hb
  clear hA0 hval0
  refine (hwk).mono fun e W' hh => ?_
  obtain ⟨he, bel⟩ := hh
  subst he
  exact ⟨_, rfl, _, _, _, [], _, [], hW', trodAll_mk1 (shut_bool Try.underlying4 _), (trodAll_cons_mk (Below.trod laidOut (by kernel_rfl) (of_decide_eq_true (by kernel_rfl)) k0 bel lt0) (trodAll_cons_mk (Below.trod laidOut (by kernel_rfl) (of_decide_eq_true (by kernel_rfl)) k1 bel lt1) trodAll_mk0)), rfl, bel.frame _, fun h => by cases h⟩

theorem c_name : Try.pinned.checked.prog.funcNamed Rows.instrBodiesRow.func = some 10 := by kernel_rfl
theorem c_closed : joinedFacts Try.pinned.checked.prog 10 Try.f10 Rows.instrBodiesSpec Rows.instrBodiesRow = true := by kernel_rfl
theorem c_inst : Try.f10.isInstance Try.pinned.checked.prog Rows.instrBodiesRow.origin Rows.instrBodiesRow.targs := of_decide_eq_true (by kernel_rfl)
theorem c_wrap : Try.f10.isWrapper Try.pinned.checked.prog Rows.instrBodiesRow.wrapper Rows.instrBodiesRow.mainSum := by unfold Func.isWrapper; first | (rw [if_pos (by decide +kernel)]; kernel_rfl) | (rw [if_neg (by decide +kernel)]; exact ⟨rfl, rfl⟩)
theorem over : Rows.instrBodiesRow.holds Try.pinned (OpenSpec.ofChange Rows.instrBodiesSpec) :=
  OpenClaim.holds_of_wide 10 Try.f10 rfl rfl rfl rfl rfl rfl rfl ⟨rfl, rfl, rfl, rfl, rfl⟩ rfl rfl rfl rfl rfl c_name Try.func10 c_closed c_inst c_wrap
    (fun os started H enc _ => lifted os started H enc)

theorem proved : Rows.InstrBodiesSaid := over
end Go.Proofs.Ytfemeendkjcffaa.instrBodiesDone
