/-
  abort: Out of what gives nothing up; Unless of what is so.
-/
import Derived.Test.YteibigianodhnaaMix
import Derived.Test.YteibigianodhnaaRes
import Derived.Test.YteibigianodhnaaByt
import Derived.Great.Walk
import Derived.Defers
import Derived.Recover
import Derived.Laws.Pointers
set_option linter.unusedVariables false
set_option linter.unusedSimpArgs false
namespace Go.Proofs.Yteibigianodhnaa
open Go.RowKit

set_option maxRecDepth 100000 in
set_option maxHeartbeats 1600000 in
theorem out_idle (p : Addr) (w : World) : CallsD Try.prog 33 #[.pointer (some p)] .returning w fun e u' w' => e = .returned (.tuple #[]) ∧ u' = .returning ∧ w' = w := by
  refine callsD_of_wpS Try.func33 rfl fun c₀ cs hu => ?_
  apply wpS_seq
  apply wpS_region
  simp [wpOpsS, go_sem, recoverD, hu, Try.ntmps33, Exit.thenS]
  apply wpS_seq
  apply wpS_seq
  apply wpS_region
  simp [wpOpsS, go_sem, Exit.thenS, Array.replicate]
  refine wpS_cond (t := true) (by simp [Act.eval]) ?_
  simp only [if_true]
  refine wpS_of_wp (wp_ret ?_)
  cases c₀
  simp_all [bodyPostS, results, Try.results33, Exit.thenS]

set_option maxRecDepth 100000 in
set_option maxHeartbeats 1600000 in
theorem out_ok (g : FuncId) (caps : Array Value) (w : World) (F : Nat → Prop) (Q : World → Prop) (hF : ¬ F w.heap.size) (hcf : ∀ w : World, (callFunc g caps).run Try.prog w = .ok (.enter g caps) w)
    (H : Calls Try.prog g caps (w.alloc (.cells #[.int .i64 0, .int .i64 0] 56)) fun e w' => e = .returned (.tuple #[]) ∧ Step F (w.alloc (.cells #[.int .i64 0, .int .i64 0] 56)) w' ∧ Q w') :
    Calls Try.prog 12 #[.func (.func g) #[] caps] w fun e w' => e = .returned (.agg #[.int .i64 0, .int .i64 0]) ∧ ∃ w1, Step F (w.alloc (.cells #[.int .i64 0, .int .i64 0] 56)) w1 ∧ Q w1 ∧ Step (fun k => k = w.heap.size) w1 w' := by
  have hmf : ∀ (fn : Fn) (first cap : Array Value) (w : World), (Instr.makeFunc fn first cap).run Try.prog w = .ok (.func fn first cap) w := fun _ _ _ _ => rfl
  have HH := Lib.hid H
  clear H
  go_enter_defers Try.func12, Try.ntmps12
  go_wp2_with fail
  refine HH.out.mono ?_
  rintro e w1 ⟨rfl, hs, hq⟩
  have HB := Lib.hid ((Blk.new w 56 #[.int .i64 0, .int .i64 0]).step hs hF)
  have c0 := HB.out.cell 0
  have c1 := HB.out.cell 1
  simp at c0 c1
  have z0 := HB.out.frozen 0
  have z1 := HB.out.frozen 1
  go_wp2_with fail
  refine leaves_cons (f := 33) (args := #[.pointer (some ⟨w.heap.size, 0, none⟩)]) (by simp) (by simp [go_sem]) ?_
  refine (out_idle ⟨w.heap.size, 0, none⟩ _).mono ?_
  rintro e u' w'' ⟨rfl, rfl, rfl⟩
  refine ⟨.agg #[.int .i64 0, .int .i64 0], by simp [results, Try.results12, go_sem, c0, c1], rfl, w1, hs, hq, ?_⟩
  exact ((Step.refl (F := fun k => k = w.heap.size)).setCell (p := ⟨w.heap.size, 0, none⟩) (.inl rfl) _).setCell (p := ⟨w.heap.size, 1, none⟩) (.inl rfl) _

set_option maxRecDepth 100000 in
set_option maxHeartbeats 1600000 in
theorem aunless_ok (w : World) (a b : Int) : Calls Try.prog 14 #[.bool true, .int .i64 a, .int .i64 b] w fun e w' => e = .returned (.tuple #[]) ∧ w' = w := by
  go_enter Try.func14, Try.ntmps14
  go_wp2_with fail
  go_end0
  exact ⟨rfl, rfl⟩
end Go.Proofs.Yteibigianodhnaa
