/-
  abort: Out, Value of what gives nothing up.
-/
import Derived.Test.YtfemeendkjcffaaGeB
import Derived.Defers
import Derived.Recover
import Derived.Laws.Pointers
set_option linter.unusedVariables false
set_option linter.unusedSimpArgs false
namespace Go.Proofs.Ytfemeendkjcffaa
open Go.RowKit

set_option maxRecDepth 100000 in
set_option maxHeartbeats 1600000 in
theorem out_idle (p : Addr) (w : World) : CallsD Try.prog 189 #[.pointer (some p)] .returning w fun e u' w' => e = .returned (.tuple #[]) ∧ u' = .returning ∧ w' = w := by
  refine callsD_of_wpS Try.func189 rfl fun c₀ cs hu => ?_
  apply wpS_seq
  apply wpS_region
  simp [wpOpsS, go_sem, recoverD, hu, Try.ntmps189, Exit.thenS]
  apply wpS_seq
  apply wpS_seq
  apply wpS_region
  simp [wpOpsS, go_sem, Exit.thenS, Array.replicate]
  refine wpS_cond (t := true) (by simp [Act.eval]) ?_
  simp only [if_true]
  refine wpS_of_wp (wp_ret ?_)
  cases c₀
  simp_all [bodyPostS, results, Try.results189, Exit.thenS]

set_option maxRecDepth 100000 in
set_option maxHeartbeats 1600000 in
theorem out_ok (g : FuncId) (caps : Array Value) (w : World) (F : Nat → Prop) (Q : World → Prop) (hF : ¬ F w.heap.size) (hcf : ∀ w : World, (callFunc g caps).run Try.prog w = .ok (.enter g caps) w)
    (H : Calls Try.prog g caps (w.alloc (.cells #[.int .i64 0, .int .i64 0] 85)) fun e w' => e = .returned (.tuple #[]) ∧ Step F (w.alloc (.cells #[.int .i64 0, .int .i64 0] 85)) w' ∧ Q w') :
    Calls Try.prog 140 #[.func (.func g) #[] caps] w fun e w' => e = .returned (.agg #[.int .i64 0, .int .i64 0]) ∧ ∃ w1, Step F (w.alloc (.cells #[.int .i64 0, .int .i64 0] 85)) w1 ∧ Q w1 ∧ Step (fun k => k = w.heap.size) w1 w' := by
  have hmf : ∀ (fn : Fn) (first cap : Array Value) (w : World), (Instr.makeFunc fn first cap).run Try.prog w = .ok (.func fn first cap) w := fun _ _ _ _ => rfl
  have HH := Lib.hid H
  clear H
  go_enter_defers Try.func140, Try.ntmps140
  go_wp2_with fail
  refine HH.out.mono ?_
  rintro e w1 ⟨rfl, hs, hq⟩
  have HB := Lib.hid ((Blk.new w 85 #[.int .i64 0, .int .i64 0]).step hs hF)
  have c0 := HB.out.cell 0
  have c1 := HB.out.cell 1
  simp at c0 c1
  have z0 := HB.out.frozen 0
  have z1 := HB.out.frozen 1
  go_wp2_with fail
  refine leaves_cons (f := 189) (args := #[.pointer (some ⟨w.heap.size, 0, none⟩)]) (by simp) (by simp [go_sem]) ?_
  refine (out_idle ⟨w.heap.size, 0, none⟩ _).mono ?_
  rintro e u' w'' ⟨rfl, rfl, rfl⟩
  refine ⟨.agg #[.int .i64 0, .int .i64 0], by simp [results, Try.results140, go_sem, c0, c1], rfl, w1, hs, hq, ?_⟩
  exact ((Step.refl (F := fun k => k = w.heap.size)).setCell (p := ⟨w.heap.size, 0, none⟩) (.inl rfl) _).setCell (p := ⟨w.heap.size, 1, none⟩) (.inl rfl) _

set_option maxRecDepth 100000 in
set_option maxHeartbeats 1600000 in
theorem out_catch (g : Nat) (y a : Int) (older : List PanicEntry) (w : World) (c0 c1 : Value) (h0 : w.cell? ⟨g, 0, none⟩ = some c0) (h1 : w.cell? ⟨g, 1, none⟩ = some c1) (z0 : w.frozen? ⟨g, 0, none⟩ = false) (z1 : w.frozen? ⟨g, 1, none⟩ = false) (hg : g < w.heap.size) :
    CallsD Try.prog 189 #[.pointer (some ⟨g, 0, none⟩)] (.panicking ({ v := .iface 85 (.agg #[.int .i64 y, .int .i64 a]), recovered := false } :: older)) w fun e u' w' =>
      e = .returned (.tuple #[]) ∧ u' = .panicking ({ v := .iface 85 (.agg #[.int .i64 y, .int .i64 a]), recovered := true } :: older) ∧
      w' = ((w.setCell ⟨g, 0, none⟩ (.int .i64 y)).setCell ⟨g, 1, none⟩ (.int .i64 a)).alloc (.cells #[.int .i64 y, .int .i64 a] 85) := by
  refine callsD_of_wpS Try.func189 rfl fun c₀ cs hu => ?_
  apply wpS_seq
  apply wpS_region
  simp [wpOpsS, go_sem, recoverD, hu, Try.ntmps189, Exit.thenS]
  apply wpS_seq
  apply wpS_seq
  apply wpS_region
  simp [wpOpsS, go_sem, Exit.thenS, Array.replicate]
  refine wpS_cond (t := false) (by simp [Act.eval]) ?_
  simp only [Bool.false_eq_true, if_false]
  refine wpS_of_wp (wp_skip ?_)
  simp only [Exit.thenS]
  refine wpS_of_wp ?_
  have hta : ∀ w : World, (Instr.typeAssert (.iface 85 (.agg #[.int .i64 y, .int .i64 a])) 20 85 true).run Try.prog w = .ok (.tuple #[.agg #[.int .i64 y, .int .i64 a], .bool true]) w := fun _ => by kernel_rfl
  go_wp2_with fail
  exact ⟨rfl, _, rfl, .tuple #[], by simp [results, Try.results189], rfl, rfl, rfl⟩

/-- What is thrown. -/
def stopP (y a : Int) : List PanicEntry := [{ v := .iface 85 (.agg #[.int .i64 y, .int .i64 a]), recovered := false }]

set_option maxRecDepth 100000 in
set_option maxHeartbeats 1600000 in
theorem out_err (g : FuncId) (caps : Array Value) (w : World) (F : Nat → Prop) (Q : World → Prop) (y a : Int) (hF : ¬ F w.heap.size) (hcf : ∀ w : World, (callFunc g caps).run Try.prog w = .ok (.enter g caps) w)
    (H : Calls Try.prog g caps (w.alloc (.cells #[.int .i64 0, .int .i64 0] 85)) fun e w' => e = .panicked (stopP y a) ∧ Step F (w.alloc (.cells #[.int .i64 0, .int .i64 0] 85)) w' ∧ Q w') :
    Calls Try.prog 140 #[.func (.func g) #[] caps] w fun e w' => e = .returned (.agg #[.int .i64 y, .int .i64 a]) ∧ ∃ w1, Step F (w.alloc (.cells #[.int .i64 0, .int .i64 0] 85)) w1 ∧ Q w1 ∧ Step (fun k => k = w.heap.size) w1 w' := by
  have hmf : ∀ (fn : Fn) (first cap : Array Value) (w : World), (Instr.makeFunc fn first cap).run Try.prog w = .ok (.func fn first cap) w := fun _ _ _ _ => rfl
  have HH := Lib.hid H
  clear H
  go_enter_defers Try.func140, Try.ntmps140
  go_wp2_with fail
  refine HH.out.mono ?_
  rintro e w1 ⟨rfl, hs, hq⟩
  have HB := Lib.hid ((Blk.new w 85 #[.int .i64 0, .int .i64 0]).step hs hF)
  have c0 := HB.out.cell 0
  have c1 := HB.out.cell 1
  simp at c0 c1
  have z0 := HB.out.frozen 0
  have z1 := HB.out.frozen 1
  have hl := HB.out.lt
  refine leaves_cons (f := 189) (args := #[.pointer (some ⟨w.heap.size, 0, none⟩)]) (by simp) (by simp [go_sem]) ?_
  refine (out_catch w.heap.size y a [] _ _ _ c0 c1 z0 z1 hl).mono ?_
  rintro e u' w'' ⟨rfl, rfl, rfl⟩
  have HB2 := (((HB.out.set_ 0 (.int .i64 y)).set_ 1 (.int .i64 a)).alloc (.cells #[.int .i64 y, .int .i64 a] 85))
  simp at HB2
  have d0 := HB2.cell 0
  have d1 := HB2.cell 1
  simp at d0 d1
  refine ⟨.agg #[.int .i64 y, .int .i64 a], by simp [results, Try.results140, go_sem, d0, d1], rfl, w1, hs, hq, ?_⟩
  exact (((Step.refl (F := fun k => k = w.heap.size)).setCell (p := ⟨w.heap.size, 0, none⟩) (.inl rfl) _).setCell (p := ⟨w.heap.size, 1, none⟩) (.inl rfl) _).alloc _
end Go.Proofs.Ytfemeendkjcffaa
