/-
  store: each call and what undoes it: the plain laws.
-/
import Derived.Test.YtmheofkakcomdaaSbS
set_option linter.unusedVariables false
set_option linter.unusedSimpArgs false
namespace Go.Proofs.Ytmheofkakcomdaa
open Go.RowKit
def mFb (p : List Int × Bool) : Nat := p.1.length + (if p.2 = true then 0 else 1)
theorem risS_len' (x y : Int) (p : List Int × Bool) : mFb (risS x p y) = mFb p + 1 := by
  obtain ⟨o, d⟩ := p
  unfold risS mFb
  cases d <;> simp
  split <;> simp
theorem foldl_lenb (x : Int) : ∀ (l : List Int) (p : List Int × Bool), mFb (l.foldl (risS x) p) = mFb p + l.length
  | [], p => rfl
  | y :: l, p => by
    rw [List.foldl_cons, foldl_lenb x l, risS_len', List.length_cons]
    omega
theorem risF_len' (l : List Int) (x : Int) : (risF l x).length = l.length + 1 := by
  have h := foldl_lenb x l ([], false)
  have e : mFb (([], false) : List Int × Bool) = 1 := rfl
  rw [e] at h
  change mFb (risP l x) = _ at h
  unfold risF
  unfold mFb at h
  split
  · rename_i hd
    rw [if_pos hd] at h
    omega
  · rename_i hd
    rw [if_neg hd] at h
    rw [List.length_append, List.length_singleton]
    omega
theorem un_of {p : Ps} {e : En} {q r : Ps} (h : Un p e q) (he : q = r) : Un p e r := he ▸ h
theorem splice_back {α : Type} (l d : List α) (a k : Nat) (hk : k = d.length) (h : a + k ≤ l.length) :
    (l.take a ++ d ++ l.drop (a + k)).take a ++ (l.drop a).take k ++ (l.take a ++ d ++ l.drop (a + k)).drop (a + ((l.drop a).take k).length) = l := by
  have e1 : ((l.drop a).take k).length = k := by rw [List.length_take, List.length_drop]; omega
  have e2 : (l.take a).length = a := by rw [List.length_take]; omega
  have e3 : (l.take a ++ d ++ l.drop (a + k)).take a = l.take a := by
    rw [List.append_assoc, List.take_append_of_le_length (by omega), List.take_take, Nat.min_self]
  have e4 : (l.take a ++ d ++ l.drop (a + k)).drop (a + k) = l.drop (a + k) := by
    have : a + k = (l.take a ++ d).length := by rw [List.length_append, e2, hk]
    rw [this, List.drop_left, ← this]
  rw [e1, e3, e4, ← List.drop_drop, List.append_assoc, List.take_append_drop, List.take_append_drop]
theorem un_b (p : Ps) (a k : Nat) (d : List UInt8) (hk : k = d.length) (h : a + k ≤ p.l.length) : Un { p with l := p.l.take a ++ d ++ p.l.drop (a + k) } ⟨1, (a : Int), 0, (p.l.drop a).take k⟩ p := by
  refine un_of (Un.b _ a 0 _ ?_) ?_
  · show a + ((p.l.drop a).take k).length ≤ (p.l.take a ++ d ++ p.l.drop (a + k)).length
    simp only [List.length_append, List.length_take, List.length_drop]
    omega
  · show Ps.mk _ _ _ _ _ _ = _
    simp only
    rw [splice_back p.l d a k hk h]
theorem un_g (p : Ps) (n k : Nat) (h : p.l.length = n * 65536) : Un { p with l := p.l ++ List.replicate (k * 65536) 0 } ⟨2, (n : Int), 0, []⟩ p := by
  refine un_of (Un.g _ n (n + k) 0 [] ?_ (by omega)) ?_
  · show (p.l ++ List.replicate (k * 65536) 0).length = _
    rw [List.length_append, List.length_replicate, h]
    omega
  · show Ps.mk _ _ _ _ _ _ = _
    simp only
    rw [← h, List.take_left]
theorem wrap_back {y : Int} (h : (Lit.int .i64 y).wf = true) : wrap64 (wrap64 (IntKind.u64.wrap (wrap64 (y + 1))) - 1) = y := by
  have hb := Go.bounds_i64 h
  rw [Go.IntKind.wrap_u64]
  unfold wrap64
  omega
theorem un_s (p : Ps) (i : Nat) (x y : Int) (hy : p.lt[i]? = some y) (h1 : -1 ≤ y) (hw : (Lit.int .i64 y).wf = true) : Un { p with lt := p.lt.set i x } ⟨3, (i : Int), IntKind.u64.wrap (wrap64 (y + 1)), []⟩ p := by
  have hi := (List.getElem?_eq_some_iff.1 hy).1
  refine un_of (Un.s _ i _ y x [] ?_ h1 (wrap_back hw)) ?_
  · show (p.lt.set i x)[i]? = some x
    rw [List.getElem?_set_self hi]
  · show Ps.mk _ _ _ _ _ _ = _
    simp only
    rw [List.set_set]
    have : p.lt.set i y = p.lt := by
      have e := (List.getElem?_eq_some_iff.1 hy).2
      rw [← e, List.set_getElem_self]
    rw [this]
theorem un_t (p : Ps) (k : Nat) : Un { p with lt := p.lt ++ List.replicate k (-1) } ⟨4, (p.lt.length : Int), 0, []⟩ p := by
  refine un_of (Un.t _ p.lt.length 0 []) ?_
  show Ps.mk _ _ _ _ _ _ = _
  simp only
  rw [List.take_left]
theorem un_v (p : Ps) (k t vt0 n0 vt n : Nat) (o : Int) (lv : Bool) (hk : k < p.vs.length) (hv : p.vs[k] = ⟨t, true, vt0, n0, o, lv⟩) (hb : vt0 < 256) : Un { p with vs := p.vs.set k ⟨t, true, vt, n, o, lv⟩ } ⟨5, (k : Int), (n0 : Int), [UInt8.ofNat vt0]⟩ p := by
  refine un_of (Un.v _ k n0 (UInt8.ofNat vt0) (by show k < (p.vs.set k _).length; rw [List.length_set]; exact hk)) ?_
  show Ps.mk _ _ _ _ _ _ = _
  simp only [List.getElem_set_self, List.set_set]
  have e : (UInt8.ofNat vt0).toNat = vt0 := by rw [UInt8.toNat_ofNat']; omega
  rw [e, ← hv, List.set_getElem_self]
theorem un_f (p : Ps) (x : Option (Array Value)) (y : Int) (hl : p.cells.length = p.fs.length) : Un { p with fs := p.fs ++ [x], cells := p.cells ++ [y] } ⟨6, (p.fs.length : Int), 0, []⟩ p := by
  refine un_of (Un.f _ p.fs.length 0 [] (by show p.fs.length < (p.fs ++ [x]).length; simp)) ?_
  show Ps.mk _ _ _ _ _ _ = _
  simp only
  rw [List.take_left]
  rw [← hl, List.take_left]
theorem un_w (p : Ps) (x : Vr) : Un { p with vs := p.vs ++ [x] } ⟨7, (p.vs.length : Int), 0, []⟩ p := by
  refine un_of (Un.w _ p.vs.length 0 [] (by show p.vs.length ≤ (p.vs ++ [x]).length; simp)) ?_
  show Ps.mk _ _ _ _ _ _ = _
  simp only
  rw [List.take_left]
theorem un_i (p : Ps) (i : Int) (v : Value) (hi : (Lit.int .i64 i).wf = true) (hn : p.f i = none) : Un { p with f := putI p.f i v } ⟨8, i, 0, []⟩ p := by
  refine un_of (Un.i _ i 0 [] hi) ?_
  show Ps.mk _ _ _ _ _ _ = _
  simp only
  have e : delI (putI p.f i v) i = p.f := by
    funext x
    rw [delI, putI]
    by_cases hx : x = i
    · rw [if_pos hx, hx, hn]
    · rw [if_neg hx, if_neg hx]
  rw [e]
theorem un_c (p : Ps) (k t t0 : Nat) (y z : ByteArray) (hk : tyAt p.fs k y z) (ht : tyAt p.fs t0 y z) (hkc : p.cells[k]? = some (t0 : Int)) (h0 : t0 ≤ 1000000) : Un { p with cells := p.cells.set k (t : Int) } ⟨9, (k : Int), IntKind.u64.wrap (t0 : Int), []⟩ p := by
  have hi := (List.getElem?_eq_some_iff.1 hkc).1
  refine un_of (Un.c _ k t0 _ (t : Int) [] y z hk ht ?_ ?_) ?_
  · show (p.cells.set k (t : Int))[k]? = _
    rw [List.getElem?_set_self hi]
  · rw [Go.IntKind.wrap_u64]
    unfold wrap64
    omega
  · show Ps.mk _ _ _ _ _ _ = _
    simp only
    rw [List.set_set]
    have : p.cells.set k (t0 : Int) = p.cells := by
      have e := (List.getElem?_eq_some_iff.1 hkc).2
      rw [← e, List.set_getElem_self]
    rw [this]
/-! what may be stays so -/
section
variable {N : Nat} {p : Ps} {ow : List Int}
theorem good_l (h : Good N p ow) {l' : List UInt8} (hl : ∃ n, l'.length = n * 65536 ∧ n ≤ 3) : Good N { p with l := l' } ow :=
  ⟨h.ris, h.owl, h.ok, hl, h.lt, h.ltl, h.vt, h.vl, h.fs, h.fl, h.cl, h.cells⟩
theorem good_lt (h : Good N p ow) {l' : List Int} (hl : ∀ x ∈ l', -1 ≤ x ∧ (Lit.int .i64 x).wf = true) (hn : l'.length ≤ 12) : Good N { p with lt := l' } ow :=
  ⟨h.ris, h.owl, h.ok, h.pages, hl, hn, h.vt, h.vl, h.fs, h.fl, h.cl, h.cells⟩
theorem good_vs (h : Good N p ow) {l' : List Vr} (hl : ∀ v ∈ l', v.vt < 256) (hn : l'.length ≤ N) : Good N { p with vs := l' } ow :=
  ⟨h.ris, h.owl, h.ok, h.pages, h.lt, h.ltl, hl, hn, h.fs, h.fl, h.cl, h.cells⟩
theorem good_f (h : Good N p ow) (i : Int) (x y z : Option Addr × Nat × Nat) (hn : p.f i = none) : Good (N + 1) { p with f := putI p.f i (.agg #[.slice x.1 x.2.1 x.2.2, .slice y.1 y.2.1 y.2.2, .slice z.1 z.2.1 z.2.2]) } (risF ow i) :=
  ⟨ris_put h.ris i _ (fun hm => by have := (h.ris.mem i).1 hm; rw [hn] at this; cases this), by
    rw [risF_len']
    have := h.owl
    omega, fun j v hv => by
    simp only [putI] at hv
    split at hv
    · injection hv with hv
      exact ⟨x, y, z, hv.symm⟩
    · exact h.ok j v hv, h.pages, h.lt, h.ltl, h.vt, Nat.le_succ_of_le h.vl, h.fs, Nat.le_succ_of_le h.fl, h.cl, h.cells⟩
theorem good_fn (h : Good N p ow) (cs : Array Value) (h0 : cs[0]? = some (.string emp) ∧ cs[1]? = some (.string emp)) : Good (N + 1) { p with fs := p.fs ++ [some cs], cells := p.cells ++ [(p.fs.length : Int)] } ow :=
  ⟨h.ris, Nat.le_succ_of_le h.owl, h.ok, h.pages, h.lt, h.ltl, h.vt, Nat.le_succ_of_le h.vl, fun k hk => by
    have hk : k < (p.fs ++ [some cs]).length := hk
    rw [List.length_append, List.length_singleton] at hk
    by_cases hkk : k < p.fs.length
    · obtain ⟨c, h1, h2⟩ := h.fs k hkk
      exact ⟨c, by show (p.fs ++ [some cs])[k]? = _; rw [List.getElem?_append_left hkk]; exact h1, h2⟩
    · obtain rfl : k = p.fs.length := by omega
      exact ⟨cs, by show (p.fs ++ [some cs])[p.fs.length]? = _; simp, h0⟩, by
    show (p.fs ++ [some cs]).length ≤ _
    have := h.fl
    simp
    omega, by
    show (p.cells ++ [(p.fs.length : Int)]).length = (p.fs ++ [some cs]).length
    rw [List.length_append, List.length_append, h.cl]
    rfl, fun x hx => by
    have hx : x ∈ p.cells ++ [(p.fs.length : Int)] := hx
    show ∃ t : Nat, x = (t : Int) ∧ t < (p.fs ++ [some cs]).length
    rcases List.mem_append.1 hx with hx | hx
    · obtain ⟨t, h1, h2⟩ := h.cells x hx
      exact ⟨t, h1, by simp; omega⟩
    · rw [List.mem_singleton] at hx
      exact ⟨p.fs.length, hx, by simp⟩⟩
theorem good_c (h : Good N p ow) (k t : Nat) (ht : t < p.fs.length) : Good N { p with cells := p.cells.set k (t : Int) } ow :=
  ⟨h.ris, h.owl, h.ok, h.pages, h.lt, h.ltl, h.vt, h.vl, h.fs, h.fl, by show (p.cells.set k _).length = _; rw [List.length_set]; exact h.cl, fun x hx => by
    rcases List.mem_or_eq_of_mem_set hx with hx | rfl
    · exact h.cells x hx
    · exact ⟨t, rfl, ht⟩⟩
end
end Go.Proofs.Ytmheofkakcomdaa
