/-
  ops: the walks of the tables.
-/
import Derived.Test.YtpebdfgfikjkeaaOpT
import Derived.Test.YtpebdfgfikjkeaaOpn
import Derived.Great.Walk
import Derived.Deep.WholeRow
set_option linter.unusedVariables false
set_option linter.unusedSimpArgs false
namespace Go.Proofs.Ytpebdfgfikjkeaa
open Go.RowKit

section
variable {P : Program}
/-- A literal goes into a block that has just been made. -/
theorem wpList_store_new {ops : Array Oper} {rest : List Oper} {o : Oper} {a : Act} {w : World} {Q : Exit → Act → World → Prop} (hgd : o.guard = none) (ty : TypeId) (x y : Operand) (ho : o.op = .store ty x y)
    (hd : o.dst = none) {g : Nat} (cells : Array Value) (hx : a.eval x = .pointer (some ⟨g, 0, none⟩)) (hy : a.eval y = .agg cells)
    {t : TypeId} {old : Array Value} (hg : g = w.heap.size) (hi : (P.info? ty).map (·.size) = some cells.size)
    (hold : old.size = cells.size) (h1 : cells.all (·.oneCell') = true)
    (h : wpList P ops Q rest a (w.alloc (.cells cells t))) : wpList P ops Q (o :: rest) a (w.alloc (.cells old t)) := by
  subst hg
  refine wpList_store_rowTo hgd ty x y ho hd w.heap.size cells hx hy t old (heap_alloc_new w _) hi hold h1 ?_
  rw [World.setRow_alloc_new]
  exact h
/-- What a cell of a new block holds. -/
theorem new_cell (w : World) (cs : Array Value) (t : TypeId) {g i : Nat} (hg : g = w.heap.size) : (w.alloc (.cells cs t)).cell? ⟨g, i, none⟩ = cs[i]? := by
  subst hg
  exact (Blk.new w t cs).cell i
end

def infV (i : Inf) : Value := .agg #[.string (str i.name), .int .i64 (i.imm : Int), .string (str i.par), .string (str i.res), .bool i.free]
def ctlC : Array Value := (ctlT.flatMap Inf.cells).toArray
theorem ctlC_size : ctlC.size = 185 := by kernel_rfl
theorem ctlC_one : ctlC.all (·.oneCell') = true := by kernel_rfl
theorem ctlC_at (op j : Nat) (h : op < 37) (hj : j < 5) : ctlC[op * 5 + j]? = (ctlT[op]?.getD Inf.no).cells[j]? := by
  have hl : ctlT.length = 37 := by kernel_rfl
  have hop : op < ctlT.length := by omega
  rw [List.getElem?_eq_getElem hop, Option.getD_some]
  rw [ctlC, List.getElem?_toArray]
  exact flat_get Inf.cells 5 Inf.five ctlT op j hop hj

set_option maxRecDepth 100000 in
set_option maxHeartbeats 1600000 in
theorem control_walk (w : World) (op : Nat) (h : op < 37) : Calls Try.prog 70 #[.int .u8 op] w fun e w' => e = .returned (infV (ctlT[op]?.getD Inf.no)) ∧ Step (fun _ => False) w w' := by
  have hc1 := ctlC_one
  have hcs := ctlC_size
  obtain ⟨i, hi⟩ : ∃ i, i = ctlT[op]?.getD Inf.no := ⟨_, rfl⟩
  have c0 := ctlC_at op 0 h (by decide)
  have c1 := ctlC_at op 1 h (by decide)
  have c2 := ctlC_at op 2 h (by decide)
  have c3 := ctlC_at op 3 h (by decide)
  have c4 := ctlC_at op 4 h (by decide)
  rw [← hi] at c0 c1 c2 c3 c4 ⊢
  simp only [Inf.cells, List.getElem?_cons_succ, List.getElem?_cons_zero, Nat.add_zero] at c0 c1 c2 c3 c4
  have hlt : (op : Int) < 37 := by omega
  clear hi
  go_enter Try.func70, Try.ntmps70
  go_wp2_with first
    | (refine wpList_buildTo rfl 154 _ rfl _ rfl ctlC (by kernel_rfl) ?_)
    | (refine wpList_store_new rfl 154 _ _ rfl rfl ctlC rfl rfl (by simp) rfl rfl hc1 ?_)
  exact bodyPost_ret (v := infV i) (by simp [results, Try.results70, go_sem, infV]) rfl ⟨rfl, (Step.refl.alloc _).alloc _⟩
end Go.Proofs.Ytpebdfgfikjkeaa
