/-
  region: the laws' arguments, opened: a pair of numbers, a list of calls.
-/
import Derived.Test.YtjpjobpkeejmcaaRgM
import Derived.ProofKit
import Derived.OpenShut
import Derived.Lib.SmallJoins
set_option linter.unusedVariables false
set_option linter.unusedSimpArgs false
namespace Go.Proofs.Ytjpjobpkeejmcaa
open Go.RowKit Go.ChangeShapes Go.WideShapes Go.ChangeAt

section
variable {H : Type} {enc : TypeId × Value → H} {P : Program} {w : World} {base : Nat} {spare : Nat → Bool} {held : Bool}
theorem okWide_array {t e : TypeId} {n : Nat} {r : Reach} {b0 : Nat} {v : Value} (ht : P.underlying t = some (.array n e)) (h : Value.okWide P w r b0 t v) : ∃ cs, v = .agg cs ∧ cs.size = P.cellsOf t := by
  simp only [Value.okWide, ht] at h
  obtain ⟨cs, h1, h2, _⟩ := h
  exact ⟨cs, h1, h2⟩
theorem open_pair {t e : TypeId} {k : IntKind} {r : Reach} {b0 : Nat} {v : Value} {d : DataW H} {p : List MemPlace} (ht : P.underlying t = some (.array 2 e)) (he : P.underlying e = some (.int k)) (hc : P.cellsOf t = 2) (hce : P.cellsOf e = 1)
    (hv : Value.okWide P w r b0 t v) (h : DataW.Trod enc P w base spare held t v d p) : ∃ a b : Int, v = .agg #[.int k a, .int k b] ∧ (Lit.int k a).wf = true ∧ (Lit.int k b).wf = true := by
  obtain ⟨cs, rfl, hsz⟩ := okWide_array ht hv
  obtain ⟨c0, c1, rfl⟩ := Go.Joins.array2 (hsz.trans hc)
  obtain ⟨fuel, hf⟩ := h
  obtain ⟨xs, m, _, _, _, hxl, hx⟩ := DataW.trod_array ht hf
  have h0 := hx 0 (by decide)
  have h1 := hx 1 (by decide)
  rw [hce] at h0 h1
  rw [List.getElem?_eq_getElem (by omega)] at h0 h1
  obtain ⟨a, ea, _, wa⟩ := DataW.trod_int he h0
  obtain ⟨b, eb, _, wb⟩ := DataW.trod_int he h1
  simp [Value.cells] at ea eb
  subst ea eb
  exact ⟨a, b, rfl, wa, wb⟩
end
/-- A call, whose numbers are of their kinds. -/
def PoB : Type := { p : Po // p.al < 4294967296 ∧ p.n ≤ 9223372036854775807 }
instance : Inhabited PoB := ⟨⟨⟨0, 0, 0, 0⟩, by decide, by decide⟩⟩
theorem mk_po {H : Type} {enc : TypeId × Value → H} {w : World} {base : Nat} {spare : Nat → Bool} {held : Bool} (fs : Array Field) (hfs : Try.prog.underlying 42 = some (.struct fs)) (vs : List Value) (hl : vs.length = fs.size)
    (h : ∀ (j : Nat) (f : Field), fs[j]? = some f → ∃ (v : Value) (y : DataW H × List MemPlace) (n : Nat), vs[j]? = some v ∧ DataW.trod enc Try.prog w base spare held n f.type [v] = some y) : ∃ a : PoB, vs = a.1.cells := by
  rw [Try.underlying42] at hfs
  injection hfs with hfs
  injection hfs with hfs
  subst hfs
  match vs, hl with
  | [v0, v1, v2, v3], _ =>
    obtain ⟨_, y0, n0, e0, t0⟩ := h 0 _ rfl
    obtain ⟨_, y1, n1, e1, t1⟩ := h 1 _ rfl
    obtain ⟨_, y2, n2, e2, t2⟩ := h 2 _ rfl
    obtain ⟨_, y3, n3, e3, t3⟩ := h 3 _ rfl
    simp at e0 e1 e2 e3
    subst e0 e1 e2 e3
    obtain ⟨k, hk, _, _⟩ := DataW.trod_int Try.underlying3 t0
    obtain ⟨n, hn, _, wn⟩ := DataW.trod_int Try.underlying3 t1
    obtain ⟨o, ho, _, _⟩ := DataW.trod_int Try.underlying3 t2
    obtain ⟨a, ha, _, wa⟩ := DataW.trod_int Try.underlying31 t3
    simp at hk hn ho ha
    subst hk hn ho ha
    have b1 := Go.bounds_i64 wn
    have b2 := Go.bounds_u32 wa
    obtain ⟨m, rfl⟩ : ∃ m : Nat, a = m := ⟨a.toNat, by omega⟩
    exact ⟨⟨⟨k, n, o, m⟩, by show m < 4294967296; omega, b1.2⟩, rfl⟩
theorem open_ops {H : Type} {enc : TypeId × Value → H} {w : World} {base : Nat} {spare : Nat → Bool} {held : Bool} {A : Option Addr} {n c : Nat} {d : DataW H} {p : List MemPlace} (h : DataW.Trod enc Try.prog w base spare held 37 (.slice A n c) d p) :
    ∃ l : List Po, n = l.length ∧ Reads w (fun k => k < w.heap.size) 4 A n (pos l) ∧ n ≤ maxLen ∧ (∀ o ∈ l, o.al < 4294967296) ∧ ∀ o ∈ l, o.n ≤ 9223372036854775807 := by
  obtain ⟨fuel, hf⟩ := h
  obtain ⟨gs, hlen, hr, h1, h2⟩ := open_structs (fun g : PoB => g.1.cells) Try.underlying37 Try.underlying42 (by kernel_rfl) (by kernel_rfl) (by decide) (fun _ => rfl) (fun vs hl h => mk_po _ Try.underlying42 vs hl h) hf
  refine ⟨gs.map (·.1), by simp [hlen], ?_, Nat.le_trans h1 h2, fun o ho => ?_, fun o ho => ?_⟩
  · rw [pos, List.flatMap_map]
    exact hr
  · obtain ⟨x, _, rfl⟩ := List.mem_map.1 ho
    exact x.2.1
  · obtain ⟨x, _, rfl⟩ := List.mem_map.1 ho
    exact x.2.2
end Go.Proofs.Ytjpjobpkeejmcaa
