/-
  Maps keyed by strings: block b of w is the map f, element for element.
-/
import Derived.Test.YtpebdfgfikjkeaaRes
import Derived.Test.YtpebdfgfikjkeaaBys
import Derived.Test.YtpebdfgfikjkeaaOpn
import Derived.Maps.OwnSet
set_option linter.unusedVariables false
set_option linter.unusedSimpArgs false
namespace Go.Proofs.Ytpebdfgfikjkeaa
open Go.RowKit

/-- Each element reads as itself. -/
def Rv : Value → Option (DataW Value × List MemPlace) := fun v => some (.held v, [])
def kl (s : List UInt8) : Lit := .string s
/-- Block b is a map of at most n entries; what it holds at each key is f. -/
def MapIs (P : Program) (w : World) (K : TypeId) (b n : Nat) (f : List UInt8 → Option Value) : Prop :=
  ∃ D : DataW Value, w.ownsMap P K Rv b n D ∧ ∀ s, Maps.has D (kl s) = (f s).isSome ∧ ∀ z, D.atKey (kl s) (.held z) = .held ((f s).getD z)

section
variable {P : Program} {w w' : World} {K t e : TypeId} {b n : Nat} {f : List UInt8 → Option Value} {F : Nat → Prop}
theorem MapIs.lt (h : MapIs P w K b n f) : b < w.heap.size := by
  obtain ⟨D, h, _⟩ := h
  exact h.lt
theorem MapIs.step (h : MapIs P w K b n f) (hs : Step F w w') (hb : ¬ F b) : MapIs P w' K b n f := by
  obtain ⟨D, h, hf⟩ := h
  obtain ⟨es, clock, h1, h2⟩ := h
  exact ⟨D, ⟨es, clock, (hs.block b (Array.getElem?_eq_some_iff.1 h1).1 hb).trans h1, h2⟩, hf⟩
theorem MapIs.mono (h : MapIs P w K b n f) {m : Nat} (hm : n ≤ m) : MapIs P w K b m f := by
  obtain ⟨D, h, hf⟩ := h
  exact ⟨D, h.mono hm, hf⟩
theorem MapIs.made (P : Program) (w : World) (K : TypeId) : MapIs P (w.alloc (.map #[] 0)) K w.heap.size 0 (fun _ => none) :=
  ⟨_, World.ownsMap_made w P K Rv, fun s => ⟨rfl, fun z => rfl⟩⟩
theorem key_of (hK : P.underlying K = some .string) (s : List UInt8) (hs : s.length ≤ maxLen) : keyOf P K (.string (str s)) = some (kl s) := by
  have := WideMaps.keyOf_string_mk hK (s := str s) (by rw [str_size]; exact hs)
  rw [this]
  rfl
/-- 'm[k]'. -/
theorem MapIs.look (h : MapIs P w K b n f) (hK : P.underlying K = some .string) (ht : P.underlying t = some (.map K e)) {z : Value} (hz : (zeroValue e).run P w = .ok z w) (s : List UInt8) (hs : s.length ≤ maxLen) :
    (Instr.lookup t (.map (some b)) (.string (str s)) false).run P w = .ok ((f s).getD z) w := by
  obtain ⟨D, h, hf⟩ := h
  obtain ⟨v, ps, hrun, hv⟩ := h.lookup (Maps.string_keyed hK) ht hz (zd := .held z) (zp := []) rfl (key_of hK s hs)
  rw [(hf s).2 z] at hv
  unfold Rv at hv
  injection hv with hv
  injection hv with hv
  injection hv with hv
  rw [← hv]
  exact hrun
/-- 'v, ok := m[k]'. -/
theorem MapIs.look_ok (h : MapIs P w K b n f) (hK : P.underlying K = some .string) (ht : P.underlying t = some (.map K e)) {z : Value} (hz : (zeroValue e).run P w = .ok z w) (s : List UInt8) (hs : s.length ≤ maxLen) :
    (Instr.lookup t (.map (some b)) (.string (str s)) true).run P w = .ok (.tuple #[(f s).getD z, .bool (f s).isSome]) w := by
  obtain ⟨D, h, hf⟩ := h
  obtain ⟨v, ps, hrun, hv⟩ := h.look_ok (Maps.string_keyed hK) ht hz (zd := .held z) (zp := []) rfl (key_of hK s hs)
  rw [(hf s).2 z] at hv
  unfold Rv at hv
  injection hv with hv
  injection hv with hv
  injection hv with hv
  rw [← hv, ← (hf s).1]
  exact hrun
def putF (f : List UInt8 → Option Value) (s : List UInt8) (v : Value) : List UInt8 → Option Value := fun x => if x = s then some v else f x
/-- 'm[k] = v'. -/
theorem MapIs.put (h : MapIs P w K b n f) (hK : P.underlying K = some .string) (ht : P.underlying t = some (.map K e)) (hn : n < maxLen) (s : List UInt8) (hs : s.length ≤ maxLen) (v : Value) :
    ∃ w', (Instr.mapUpdate t (.map (some b)) (.string (str s)) v).run P w = .ok () w' ∧ MapIs P w' K b (n + 1) (putF f s v) ∧ Step (fun k => k = b) w w' := by
  obtain ⟨D, h, hf⟩ := h
  obtain ⟨w', hrun, h', hg⟩ := h.update (Maps.string_keyed hK) ht hn (val := v) (d := .held v) (ps := []) (key_of hK s hs) rfl
  have hm : Maps.IsMap D := h.isMap
  refine ⟨w', hrun, ⟨_, h', fun x => ?_⟩, Step.grown Step.refl hg (fun k hk => .inl (by injection hk with hk; exact hk.symm))⟩
  unfold putF
  by_cases hx : x = s
  · subst hx
    rw [if_pos rfl]
    exact ⟨Maps.has_put_same hm (show WideAt.IsKeyLit (kl x) from trivial) _, fun z => Maps.atKey_put_same hm (show WideAt.IsKeyLit (kl x) from trivial) _ _⟩
  · rw [if_neg hx]
    have hne : kl x ≠ kl s := fun e => hx (by injection e)
    rw [Maps.has_put_other hne]
    exact ⟨(hf x).1, fun z => by rw [Maps.atKey_put_other hne]; exact (hf x).2 z⟩
end
end Go.Proofs.Ytpebdfgfikjkeaa
