/-
  Maps keyed by ints: block b of w is the map f, element for element; D is what it reads as.
-/
import Derived.Test.YtmheofkakcomdaaRes
import Derived.Test.YtmheofkakcomdaaOpn
import Derived.Maps.OwnSet
import Derived.Lib.SlKeysI
set_option linter.unusedVariables false
set_option linter.unusedSimpArgs false
namespace Go.Proofs.Ytmheofkakcomdaa
open Go.RowKit

/-- Each element reads as itself. -/
def RvI : Value → Option (DataW Value × List MemPlace) := fun v => some (.held v, [])
def kI (i : Int) : Lit := .int .i64 i
/-- Block b is a map of at most n entries; what it holds at each key is f. -/
def MapI (P : Program) (w : World) (K : TypeId) (b n : Nat) (f : Int → Option Value) (D : DataW Value) : Prop :=
  w.ownsMap P K RvI b n D ∧ ∀ i, Maps.has D (kI i) = (f i).isSome ∧ ∀ z, D.atKey (kI i) (.held z) = .held ((f i).getD z)
def putI (f : Int → Option Value) (s : Int) (v : Value) : Int → Option Value := fun x => if x = s then some v else f x
def delI (f : Int → Option Value) (s : Int) : Int → Option Value := fun x => if x = s then none else f x
section
variable {P : Program} {w w' : World} {K t e : TypeId} {b n : Nat} {f : Int → Option Value} {D : DataW Value} {F : Nat → Prop}
theorem MapI.lt (h : MapI P w K b n f D) : b < w.heap.size := h.1.lt
theorem MapI.step (h : MapI P w K b n f D) (hs : Step F w w') (hb : ¬ F b) : MapI P w' K b n f D := by
  obtain ⟨h, hf⟩ := h
  obtain ⟨es, clock, h1, h2⟩ := h
  exact ⟨⟨es, clock, (hs.block b (Array.getElem?_eq_some_iff.1 h1).1 hb).trans h1, h2⟩, hf⟩
theorem MapI.mono (h : MapI P w K b n f D) {m : Nat} (hm : n ≤ m) : MapI P w K b m f D := ⟨h.1.mono hm, h.2⟩
theorem MapI.made (P : Program) (w : World) (K : TypeId) : ∃ D, MapI P (w.alloc (.map #[] 0)) K w.heap.size 0 (fun _ => none) D :=
  ⟨_, World.ownsMap_made w P K RvI, fun s => ⟨rfl, fun z => rfl⟩⟩
/-- 'v, ok := m[k]'. -/
theorem MapI.look_ok (h : MapI P w K b n f D) (hK : P.underlying K = some (.int .i64)) (ht : P.underlying t = some (.map K e)) {z : Value} (hz : (zeroValue e).run P w = .ok z w) (s : Int) (hs : (Lit.int .i64 s).wf = true) :
    (Instr.lookup t (.map (some b)) (.int .i64 s) true).run P w = .ok (.tuple #[(f s).getD z, .bool (f s).isSome]) w := by
  obtain ⟨h, hf⟩ := h
  obtain ⟨v, ps, hrun, hv⟩ := h.look_ok (Maps.int_keyed hK) ht hz (zd := .held z) (zp := []) rfl (kl := kI s) (Maps.keyOf_int_mk hK hs)
  rw [(hf s).2 z] at hv
  unfold RvI at hv
  injection hv with hv
  injection hv with hv
  injection hv with hv
  rw [← hv, ← (hf s).1]
  exact hrun
/-- 'm[k] = v'. -/
theorem MapI.put (h : MapI P w K b n f D) (hK : P.underlying K = some (.int .i64)) (ht : P.underlying t = some (.map K e)) (hn : n < maxLen) (s : Int) (hs : (Lit.int .i64 s).wf = true) (v : Value) :
    ∃ w', (Instr.mapUpdate t (.map (some b)) (.int .i64 s) v).run P w = .ok () w' ∧ MapI P w' K b (n + 1) (putI f s v) (D.put (kI s) (.held v)) ∧ Step (fun k => k = b) w w' := by
  obtain ⟨h, hf⟩ := h
  obtain ⟨w', hrun, h', hg⟩ := h.store (Maps.int_keyed hK) ht hn (val := v) (d := .held v) (ps := []) (kl := kI s) (Maps.keyOf_int_mk hK hs) rfl
  have hm : Maps.IsMap D := h.isMap
  refine ⟨w', hrun, ⟨h', fun x => ?_⟩, Step.grown Step.refl hg.grown (fun k hk => .inl (by injection hk with hk; exact hk.symm))⟩
  unfold putI
  by_cases hx : x = s
  · subst hx
    rw [if_pos rfl]
    exact ⟨Maps.has_put_same hm (show WideAt.IsKeyLit (kI x) from trivial) _, fun z => Maps.atKey_put_same hm (show WideAt.IsKeyLit (kI x) from trivial) _ _⟩
  · rw [if_neg hx]
    have hne : kI x ≠ kI s := fun e => hx (by injection e)
    rw [Maps.has_put_other hne]
    exact ⟨(hf x).1, fun z => by rw [Maps.atKey_put_other hne]; exact (hf x).2 z⟩
/-- 'delete(m, k)'. -/
theorem MapI.del (h : MapI P w K b n f D) (hK : P.underlying K = some (.int .i64)) (ht : P.underlying t = some (.map K e)) (s : Int) (hs : (Lit.int .i64 s).wf = true) (ty : TypeId) :
    ∃ w', (Builtin.delete_ #[t, K] ty #[.map (some b), .int .i64 s]).run P w = .ok (.tuple #[]) w' ∧ MapI P w' K b n (delI f s) (D.del (kI s)) ∧ Step (fun k => k = b) w w' := by
  obtain ⟨h, hf⟩ := h
  obtain ⟨w', hrun, h', hg⟩ := h.drop (Maps.int_keyed hK) ht (kl := kI s) (Maps.keyOf_int_mk hK hs) ty
  refine ⟨w', hrun, ⟨h', fun x => ?_⟩, Step.grown Step.refl hg.grown (fun k hk => .inl (by injection hk with hk; exact hk.symm))⟩
  unfold delI
  by_cases hx : x = s
  · subst hx
    rw [if_pos rfl]
    exact ⟨Maps.has_del_same, fun z => Maps.atKey_del_same _⟩
  · rw [if_neg hx]
    have hne : kI x ≠ kI s := fun e => hx (by injection e)
    rw [Maps.has_del_other hne]
    exact ⟨(hf x).1, fun z => by rw [Maps.atKey_del_other hne]; exact (hf x).2 z⟩
end
end Go.Proofs.Ytmheofkakcomdaa
