/-
  store: going back, told of the view.
-/
import Derived.Test.YtmheofkakcomdaaSbM
set_option linter.unusedVariables false
set_option linter.unusedSimpArgs false
namespace Go.Proofs.Ytmheofkakcomdaa
open Go.RowKit
/-- What an undoing turns. -/
structure Ps where
  l : List UInt8
  lt : List Int
  vs : List Vr
  f : Int → Option Value
  fs : List (Option (Array Value))
  cells : List Int
def Vw.ps (v : Vw) : Ps := ⟨v.l, v.lt, v.vs, v.f, v.fs, v.cells⟩
def Vw.put (v : Vw) (p : Ps) : Vw := { v with l := p.l, lt := p.lt, vs := p.vs, f := p.f, fs := p.fs, cells := p.cells }
theorem Vw.put_ps (v : Vw) (p : Ps) : (v.put p).ps = p := rfl
theorem Vw.put_put (v : Vw) (p q : Ps) : (v.put p).put q = v.put q := rfl
/-- Is there a function of the type at an address? -/
def tyAt (fs : List (Option (Array Value))) (k : Nat) (p q : ByteArray) : Prop := ∃ cs, fs[k]? = some (some cs) ∧ cs[0]? = some (.string p) ∧ cs[1]? = some (.string q)
/-- To undo an entry. -/
inductive Un : Ps → En → Ps → Prop
  | b (p : Ps) (a : Nat) (o : Int) (d : List UInt8) (h : a + d.length ≤ p.l.length) : Un p ⟨1, (a : Int), o, d⟩ { p with l := p.l.take a ++ d ++ p.l.drop (a + d.length) }
  | g (p : Ps) (k n : Nat) (o : Int) (d : List UInt8) (h : p.l.length = n * 65536) (hk : k ≤ n) : Un p ⟨2, (k : Int), o, d⟩ { p with l := p.l.take (k * 65536) }
  | s (p : Ps) (i : Nat) (o x y : Int) (d : List UInt8) (hy : p.lt[i]? = some y) (hx : -1 ≤ x) (ho : wrap64 (wrap64 o - 1) = x) : Un p ⟨3, (i : Int), o, d⟩ { p with lt := p.lt.set i x }
  | t (p : Ps) (k : Nat) (o : Int) (d : List UInt8) : Un p ⟨4, (k : Int), o, d⟩ { p with lt := p.lt.take k }
  | v (p : Ps) (k o : Nat) (b : UInt8) (hk : k < p.vs.length) : Un p ⟨5, (k : Int), (o : Int), [b]⟩ { p with vs := p.vs.set k { p.vs[k] with vt := b.toNat, n := o } }
  | f (p : Ps) (k : Nat) (o : Int) (d : List UInt8) (hk : k < p.fs.length) : Un p ⟨6, (k : Int), o, d⟩ { p with fs := p.fs.take k, cells := p.cells.take k }
  | w (p : Ps) (k : Nat) (o : Int) (d : List UInt8) (hk : k ≤ p.vs.length) : Un p ⟨7, (k : Int), o, d⟩ { p with vs := p.vs.take k }
  | i (p : Ps) (i o : Int) (d : List UInt8) (hi : (Lit.int .i64 i).wf = true) : Un p ⟨8, i, o, d⟩ { p with f := delI p.f i }
  | c (p : Ps) (k t : Nat) (o x : Int) (d : List UInt8) (y z : ByteArray) (hk : tyAt p.fs k y z) (ht : tyAt p.fs t y z) (hx : p.cells[k]? = some x) (ho : wrap64 o = (t : Int)) : Un p ⟨9, (k : Int), o, d⟩ { p with cells := p.cells.set k (t : Int) }
inductive Uns : Ps → List En → Ps → Prop
  | nil (p : Ps) : Uns p [] p
  | cons {p q r : Ps} {e : En} {es : List En} (h : Un p e q) (hs : Uns q es r) : Uns p (e :: es) r
def Rc.ps (r : Rc) : Ps := r.vw.ps
theorem ty_of {fs : List (Option Fv)} {k : Nat} {p q : ByteArray} (h : tyAt (fs.map (Option.map Fv.cs)) k p q) : ∃ f, fs[k]? = some (some f) ∧ f.cs[0]? = some (.string p) ∧ f.cs[1]? = some (.string q) := by
  obtain ⟨cs, h1, h2⟩ := h
  rw [List.getElem?_map] at h1
  cases hq : fs[k]? with
  | none => rw [hq] at h1; cases h1
  | some o =>
    rw [hq] at h1
    cases o with
    | none => simp at h1
    | some f =>
      simp at h1
      subst h1
      exact ⟨f, rfl, h2⟩
theorem w_undo {w : World} {B : Nat} {r : Rc} {e : En} {p : Ps} (h : Ws w B r) (hB : B ≤ w.heap.size) (hv : r.vs.length ≤ 1000) (hu : Un r.ps e p) :
    Calls Try.prog 49 #[.pointer (some ⟨r.S, 0, none⟩), .agg #[.int .i64 e.kind, .int .i64 e.at_, .int .u64 e.old, .string (str e.bytes)]] w fun e w' => e = .returned (.tuple #[]) ∧ Out w B r (r.vw.put p) w' := by
  cases hu with
  | b a o d h1 => exact w_undo1 a o d h hB h1
  | g k n o d h1 h2 => exact w_undo2 k n h1 h2 o (str d) h hB
  | s i o x y d hy hx ho => exact w_undo3 i o x y (str d) h hB hy hx ho
  | t k o d => exact w_undo4 k o (str d) h hB
  | v k o b hk => exact w_undo5 k o b h hB hk hv
  | f k o d hk => exact w_undo6 k o (str d) h hB (by rw [h.fn.lf]; simpa [Rc.ps, Rc.vw, Vw.ps] using hk)
  | w k o d hk => exact w_undo7 k o (str d) h hB (by rw [h.vl]; exact hk)
  | i i o d hi => exact w_undo8 i o (str d) h hB hi
  | c k t o x d y z hk ht hx ho =>
    obtain ⟨f1, g1, g2⟩ := ty_of hk
    obtain ⟨f2, g3, g4⟩ := ty_of ht
    exact w_undo9 k t o (str d) f1 f2 y z x h hB g1 g3 g2 g4 hx ho
end Go.Proofs.Ytmheofkakcomdaa
