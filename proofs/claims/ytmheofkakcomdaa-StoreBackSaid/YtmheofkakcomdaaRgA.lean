/-
  region: rows of pieces in memory: copies of elements of several cells, an owned row told by its block.
-/
import Derived.Test.YtmheofkakcomdaaRes
import Derived.Laws.CopyOwn
import Derived.Lib.Overlaps
import Derived.Lib.AppendZerosOnto
import Derived.Laws.Externs
import Derived.Laws.NewBlocks
set_option linter.unusedVariables false
set_option linter.unusedSimpArgs false
namespace Go.Proofs.Ytmheofkakcomdaa
open Go.RowKit

theorem Step.setRow {F : Nat → Prop} {w w' : World} (h : Step F w w') {g : Nat} (hg : F g ∨ w.heap.size ≤ g) (cs : Array Value) : Step F w (w'.setRow g cs) :=
  ⟨h.os, h.tape, h.output, by simpa using h.size, fun k hk hn => (setRow_other w' g k cs (by rintro rfl; rcases hg with h1 | h1; exact hn h1; omega)).trans (h.block k hk hn)⟩
/-- copy, of elements of k cells: all is read before anything is written. -/
theorem run_copyN {P : Program} (w : World) (dT sT ty elem : TypeId) (k g o dLen dCap : Nat) (a : Addr) (sLen sCap : Nat) (cur : Array Value) (t : TypeId) (cs : List Value) (m : Nat)
    (hu : P.underlying dT = some (.slice elem)) (hs : (P.info? elem).map (·.size) = some k)
    (hg : w.heap[g]? = some (.cells cur t (0, 0))) (hm : m = Nat.min sLen dLen) (hn : cs.length = m * k)
    (hsrc : ∀ j v, cs[j]? = some v → w.cell? (a.add j) = some v) (hfit : o + cs.length ≤ cur.size) (h1 : ∀ v ∈ cs, v.oneCell' = true) :
    (Builtin.copy_ #[dT, sT] ty #[.slice (some ⟨g, o, none⟩) dLen dCap, .slice (some a) sLen sCap]).run P w =
      .ok (goInt m) (w.setRow g (cur.toList.take o ++ cs ++ cur.toList.drop (o + cs.length)).toArray) := by
  have hl := run_loadCells_list (P := P) w a cs hsrc
  have hst := run_storeCells_at P g o t cs 0 cur w hg (by simpa using hfit) h1
  cases hq : P.info? elem with
  | none => simp [hq] at hs
  | some i =>
    have hi : i.size = k := by simpa [hq] using hs
    rw [hn] at hl
    simp [Builtin.copy_, run_underlying hu, Builtin.lenOf, Builtin.firstCells, sizeOf, typeInfo, hq, hi, ← hm, hl, hst]

section
variable {w : World} {base : Nat} {e : TypeId} {size n c : Nat} {D : Option Addr} {xs : List Value}
theorem own_mk {g : Nat} {cur : Array Value} (hb : base ≤ g) (hh : Blk w g e cur) (hl : xs.length = n * size) (hnn : n ≤ c) (hm : c ≤ maxLen) (hs : cur.size = c * size) (ht : cur.toList.take (n * size) = xs) :
    w.ownsRow base e size (.slice (some ⟨g, 0, none⟩) n c) n xs := ⟨hl, .inr ⟨g, c, cur, rfl, hb, hh, hnn, hm, hs, ht⟩⟩
theorem own_blk (h : w.ownsRow base e size (.slice D n c) n xs) (hn : 0 < n) :
    ∃ g cur, D = some ⟨g, 0, none⟩ ∧ base ≤ g ∧ Blk w g e cur ∧ n ≤ c ∧ c ≤ maxLen ∧ cur.size = c * size ∧ cur.toList.take (n * size) = xs := by
  obtain ⟨h1, ⟨_, h3⟩ | ⟨g, cap, cur, hv, hb, hh, hnn, hm, hs, ht⟩⟩ := h
  · omega
  · injection hv with e1 e2 e3
    subst e1; subst e3
    exact ⟨g, cur, rfl, hb, hh, hnn, hm, hs, ht⟩
theorem own_len (h : w.ownsRow base e size (.slice D n c) n xs) : xs.length = n * size := h.1
/-- A block, anew. -/
theorem Blk.reset {g : Nat} {t : TypeId} {cur cur' : Array Value} (h : Blk w g t cur) : Blk (w.setRow g cur') g t cur' := setRow_heap w g cur cur' t _ h
end
end Go.Proofs.Ytmheofkakcomdaa
