/-
  store: a whole store in memory: memory, table, journal, globals, owners, functions; each part with its blocks, which lie apart.
-/
import Derived.Test.YtmheofkakcomdaaGsG
set_option linter.unusedVariables false
set_option linter.unusedSimpArgs false
namespace Go.Proofs.Ytmheofkakcomdaa
open Go.RowKit
/-- Sets of blocks: each in memory, none with another's. -/
structure Sep (w : World) (L : List (Nat → Prop)) : Prop where
  in_ : ∀ I ∈ L, In w I
  ap : L.Pairwise Apart
/-- All blocks of some sets. -/
def all_ (L : List (Nat → Prop)) : Nat → Prop := fun k => ∃ I ∈ L, I k
section
variable {w w' : World} {L : List (Nat → Prop)} {I I' J : Nat → Prop}
theorem Sep.get (h : Sep w L) {i j : Nat} (hij : i ≠ j) (hi : L[i]? = some I) (hj : L[j]? = some J) : Apart I J := by
  obtain ⟨hi1, rfl⟩ := List.getElem?_eq_some_iff.1 hi
  obtain ⟨hj1, rfl⟩ := List.getElem?_eq_some_iff.1 hj
  rcases Nat.lt_or_ge i j with h1 | h1
  · exact List.pairwise_iff_getElem.1 h.ap i j hi1 hj1 h1
  · exact (List.pairwise_iff_getElem.1 h.ap j i hj1 hi1 (by omega)).symm
theorem Sep.quiet {F : Nat → Prop} (h : Sep w L) (hs : Step F w w') : Sep w' L := ⟨fun I hI => hs.in_ (h.in_ I hI), h.ap⟩
theorem Sep.set (h : Sep w L) {i : Nat} (hi : L[i]? = some I) (hu : Upd w I I' w') (hin : In w' I') : Sep w' (L.set i I') := by
  have key : ∀ (j : Nat) (hj : j < L.length), j ≠ i → Apart L[j] I' := fun j hj hne =>
    hu.apart (h.in_ _ (List.getElem_mem hj)) (h.get hne (List.getElem?_eq_getElem hj) hi)
  refine ⟨fun J hJ => ?_, List.pairwise_iff_getElem.2 fun p q hp hq hpq => ?_⟩
  · rcases List.mem_or_eq_of_mem_set hJ with hJ | rfl
    · exact hu.in_ (h.in_ J hJ)
    · exact hin
  · rw [List.length_set] at hp hq
    rw [List.getElem_set, List.getElem_set]
    split
    · split
      · omega
      · exact (key q hq (by omega)).symm
    · split
      · exact key p hp (by omega)
      · exact List.pairwise_iff_getElem.1 h.ap p q hp hq hpq
theorem upd_all {i : Nat} (h : L[i]? = some I) (hu : Upd w I I' w') : Upd w (all_ L) (all_ (L.set i I')) w' := by
  have hm : I ∈ L := List.mem_of_getElem? h
  refine ⟨hu.1.mono fun k _ hk => ⟨I, hm, hk⟩, fun k hk => ?_⟩
  obtain ⟨J, hJ, hk⟩ := hk
  rcases List.mem_or_eq_of_mem_set hJ with hJ | rfl
  · exact .inl ⟨J, hJ, hk⟩
  · rcases hu.2 k hk with e | e
    · exact .inl ⟨I, hm, e⟩
    · exact .inr e
end
/-- A function in memory: its block and its cells. -/
structure Fv where
  b : Nat
  cs : Array Value
def ptr_ (o : Option Fv) : Value := .pointer (o.map fun f => ⟨f.b, 0, none⟩)
def ptrs (l : List (Option Fv)) : List Value := l.map ptr_
theorem ptrs_length (l : List (Option Fv)) : (ptrs l).length = l.length := by simp [ptrs]
theorem ptrs_append (l m : List (Option Fv)) : ptrs (l ++ m) = ptrs l ++ ptrs m := by simp [ptrs]
theorem ptrs_one (l : List (Option Fv)) : ∀ u ∈ ptrs l, u.oneCell' = true := by
  intro u hu
  obtain ⟨x, _, rfl⟩ := List.mem_map.1 hu
  rfl
theorem ptrs_take (l : List (Option Fv)) (k : Nat) : ptrs (l.take k) = (ptrs l).take k := by simp [ptrs]
theorem ptrs_get (l : List (Option Fv)) (k : Nat) (h : k < l.length) : (ptrs l)[k]? = some (ptr_ l[k]) := by simp [ptrs, h]
theorem E_fp : ElemTy Try.prog 121 126 1 8 := elem_of Try.underlying121 (z := .pointer none) (by kernel_rfl) rfl (by decide)
/-- The blocks of the functions. -/
def ffoot (Fu : Nat) (Af Ac : Option Addr) (fs : List (Option Fv)) : Nat → Prop := fun k => k = Fu ∨ blkOf Af = some k ∨ blkOf Ac = some k ∨ ∃ f, some f ∈ fs ∧ f.b = k
/-- The functions at block Fu: one by one, and what stands for each. -/
structure Fw (w : World) (B Fu : Nat) (Af : Option Addr) (n cf : Nat) (Ac : Option Addr) (cc : Nat) (fs : List (Option Fv)) (cells : List Int) : Prop where
  blk : Blk w Fu 123 #[.slice Af n cf, .slice Ac n cc]
  of_ : w.ownsRow B 126 1 (.slice Af n cf) n (ptrs fs)
  oc : w.ownsRow B 3 1 (.slice Ac n cc) n (i64s cells)
  lf : n = fs.length
  lc : n = cells.length
  each : ∀ f, some f ∈ fs → Blk w f.b 116 f.cs ∧ B ≤ f.b
  ge : B ≤ Fu
section
variable {w w' : World} {B Fu n cf cc : Nat} {Af Ac : Option Addr} {fs : List (Option Fv)} {cells : List Int}
theorem Fw.step {F : Nat → Prop} (h : Fw w B Fu Af n cf Ac cc fs cells) (hs : Step F w w') (hd : Apart (ffoot Fu Af Ac fs) F) : Fw w' B Fu Af n cf Ac cc fs cells :=
  ⟨h.blk.step hs (hd _ (.inl rfl)), own_step h.of_ hs (fun k hk => hd k (.inr (.inl (by rwa [ownBlock_slice] at hk)))), own_step h.oc hs (fun k hk => hd k (.inr (.inr (.inl (by rwa [ownBlock_slice] at hk))))), h.lf, h.lc,
    fun f hf => ⟨(h.each f hf).1.step hs (hd _ (.inr (.inr (.inr ⟨f, hf, rfl⟩)))), (h.each f hf).2⟩, h.ge⟩
theorem Fw.quiet (h : Fw w B Fu Af n cf Ac cc fs cells) (hs : Step (fun _ => False) w w') : Fw w' B Fu Af n cf Ac cc fs cells := h.step hs apart_none
theorem Fw.in_ (h : Fw w B Fu Af n cf Ac cc fs cells) : In w (ffoot Fu Af Ac fs) := fun k hk => by
  rcases hk with rfl | hk | hk | ⟨f, hf, rfl⟩
  · exact h.blk.lt
  · exact own_lt h.of_ k (by rwa [ownBlock_slice])
  · exact own_lt h.oc k (by rwa [ownBlock_slice])
  · exact (h.each f hf).1.lt
theorem Fw.nef (h : Fw w B Fu Af n cf Ac cc fs cells) : blkOf Af ≠ some Fu := by
  have := own_tag h.of_ h.blk (by decide)
  rwa [ownBlock_slice] at this
theorem Fw.nec (h : Fw w B Fu Af n cf Ac cc fs cells) : blkOf Ac ≠ some Fu := by
  have := own_tag h.oc h.blk (by decide)
  rwa [ownBlock_slice] at this
theorem Fw.nfc (h : Fw w B Fu Af n cf Ac cc fs cells) : ∀ k, blkOf Af = some k → blkOf Ac ≠ some k := fun k hk => by
  have := own_tag2 h.of_ h.oc (by decide) k (by rwa [ownBlock_slice])
  rwa [ownBlock_slice] at this
theorem Fw.neb (h : Fw w B Fu Af n cf Ac cc fs cells) {f : Fv} (hf : some f ∈ fs) : f.b ≠ Fu ∧ blkOf Af ≠ some f.b ∧ blkOf Ac ≠ some f.b := by
  obtain ⟨hb, _⟩ := h.each f hf
  refine ⟨fun e => absurd (hb.tag (by rw [e]; exact h.blk)) (by decide), ?_, ?_⟩
  · have := own_tag h.of_ hb (by decide)
    rwa [ownBlock_slice] at this
  · have := own_tag h.oc hb (by decide)
    rwa [ownBlock_slice] at this
theorem Mm.in_ {M n c : Nat} {A : Option Addr} {most : Int} {l : List UInt8} (h : Mm w B M A n c most l) : In w (foot M A) := fun k hk => by
  rcases hk with rfl | hk
  · exact h.blk.lt
  · exact own_lt h.own k (by rwa [ownBlock_slice])
end
/-- A whole store, as a record. -/
structure Rc where
  S : Nat
  M : Nat
  T : Nat
  Fu : Nat
  J : Nat
  K : Nat
  A : Option Addr
  n : Nat
  c : Nat
  most : Int
  l : List UInt8
  At : Option Addr
  nt : Nat
  ct : Nat
  mt : Int
  lt : List Int
  Al : Option Addr
  nl : Nat
  cl : Nat
  es : List En
  Am : Option Addr
  nm : Nat
  cm : Nat
  ms : List Int
  Av : Option Addr
  nv : Nat
  cv : Nat
  vs : List Vr
  nn : Nat
  f : Int → Option Value
  D : DataW Value
  Af : Option Addr
  nf : Nat
  cf : Nat
  Ac : Option Addr
  cc : Nat
  fs : List (Option Fv)
  cells : List Int
def Rc.sets (r : Rc) : List (Nat → Prop) := [foot r.S r.Av, foot r.M r.A, foot r.T r.At, jfoot r.J r.Al r.Am, fun k => k = r.K, ffoot r.Fu r.Af r.Ac r.fs]
def Rc.foot (r : Rc) : Nat → Prop := all_ r.sets
structure Ws (w : World) (B : Nat) (r : Rc) : Prop where
  blk : Blk w r.S 79 #[.pointer (some ⟨r.M, 0, none⟩), .pointer (some ⟨r.T, 0, none⟩), .pointer (some ⟨r.Fu, 0, none⟩), .slice r.Av r.nv r.cv, .map (some r.K), .pointer (some ⟨r.J, 0, none⟩)]
  vr : w.ownsRow B 56 6 (.slice r.Av r.nv r.cv) r.nv (vrs r.vs)
  vl : r.nv = r.vs.length
  mm : Mm w B r.M r.A r.n r.c r.most r.l
  tb : Tb w B r.T r.At r.nt r.ct r.mt r.lt
  jn : Jn w B r.J r.Al r.nl r.cl r.Am r.nm r.cm r.es r.ms
  mp : MapI Try.prog w 3 r.K r.nn r.f r.D
  fn : Fw w B r.Fu r.Af r.nf r.cf r.Ac r.cc r.fs r.cells
  sep : Sep w r.sets
  ge : B ≤ r.S ∧ B ≤ r.K
section
variable {w w' : World} {B : Nat} {r : Rc}
theorem Ws.quiet (h : Ws w B r) (hs : Step (fun _ => False) w w') : Ws w' B r :=
  ⟨h.blk.step hs id, own_below h.vr hs, h.vl, h.mm.quiet hs, h.tb.quiet hs, h.jn.quiet hs, h.mp.step hs id, h.fn.quiet hs, h.sep.quiet hs, h.ge⟩
theorem Ws.gef (h : Ws w B r) : ∀ k, r.foot k → B ≤ k := fun k hk => by
  obtain ⟨I, hI, hk⟩ := hk
  simp only [Rc.sets, List.mem_cons, List.not_mem_nil, or_false] at hI
  rcases hI with rfl | rfl | rfl | rfl | rfl | rfl
  · rcases hk with rfl | hk
    · exact h.ge.1
    · exact own_ge h.vr k (by rwa [ownBlock_slice])
  · rcases hk with rfl | hk
    · exact h.mm.ge
    · exact own_ge h.mm.own k (by rwa [ownBlock_slice])
  · exact h.tb.gef k hk
  · exact h.jn.gef k hk
  · rw [hk]; exact h.ge.2
  · rcases hk with rfl | hk | hk | ⟨f, hf, rfl⟩
    · exact h.fn.ge
    · exact own_ge h.fn.of_ k (by rwa [ownBlock_slice])
    · exact own_ge h.fn.oc k (by rwa [ownBlock_slice])
    · exact (h.fn.each f hf).2
theorem Ws.in_ (h : Ws w B r) : In w r.foot := fun k hk => by
  obtain ⟨I, hI, hk⟩ := hk
  exact h.sep.in_ I hI k hk
/-- The parts are as they were where a part beside them turned. -/
theorem Ws.b_step {F : Nat → Prop} (h : Ws w B r) (hs : Step F w w') (ha : Apart (foot r.S r.Av) F) : Blk w' r.S 79 #[.pointer (some ⟨r.M, 0, none⟩), .pointer (some ⟨r.T, 0, none⟩), .pointer (some ⟨r.Fu, 0, none⟩), .slice r.Av r.nv r.cv, .map (some r.K), .pointer (some ⟨r.J, 0, none⟩)] ∧ w'.ownsRow B 56 6 (.slice r.Av r.nv r.cv) r.nv (vrs r.vs) :=
  ⟨h.blk.step hs (ha _ (.inl rfl)), own_step h.vr hs (fun k hk => ha k (.inr (by rwa [ownBlock_slice] at hk)))⟩
theorem Ws.m_step {F : Nat → Prop} (h : Ws w B r) (hs : Step F w w') (ha : Apart (foot r.M r.A) F) : Mm w' B r.M r.A r.n r.c r.most r.l := h.mm.step hs (ha _ (.inl rfl)) (fun k hk => ha k (.inr hk))
/-- The memory turned. -/
theorem Ws.mem (h : Ws w B r) {A' : Option Addr} {n' c' : Nat} {l' : List UInt8} (hm : Mm w' B r.M A' n' c' r.most l') (hu : Upd w (foot r.M r.A) (foot r.M A') w') :
    Ws w' B { r with A := A', n := n', c := c', l := l' } ∧ Upd w r.foot ({ r with A := A', n := n', c := c', l := l' } : Rc).foot w' := by
  have a0 := h.sep.get (i := 0) (j := 1) (by decide) rfl rfl
  have a2 := h.sep.get (i := 2) (j := 1) (by decide) rfl rfl
  have a3 := h.sep.get (i := 3) (j := 1) (by decide) rfl rfl
  have a4 := h.sep.get (i := 4) (j := 1) (by decide) rfl rfl
  have a5 := h.sep.get (i := 5) (j := 1) (by decide) rfl rfl
  exact ⟨⟨(h.b_step hu.1 a0).1, (h.b_step hu.1 a0).2, h.vl, hm, h.tb.step hu.1 a2, h.jn.step hu.1 a3, h.mp.step hu.1 (a4 _ rfl), h.fn.step hu.1 a5, h.sep.set (i := 1) rfl hu hm.in_, h.ge⟩, upd_all (i := 1) rfl hu⟩
/-- The table turned. -/
theorem Ws.tab (h : Ws w B r) {A' : Option Addr} {n' c' : Nat} {l' : List Int} (hm : Tb w' B r.T A' n' c' r.mt l') (hu : Upd w (foot r.T r.At) (foot r.T A') w') :
    Ws w' B { r with At := A', nt := n', ct := c', lt := l' } ∧ Upd w r.foot ({ r with At := A', nt := n', ct := c', lt := l' } : Rc).foot w' := by
  have a0 := h.sep.get (i := 0) (j := 2) (by decide) rfl rfl
  have a2 := h.sep.get (i := 1) (j := 2) (by decide) rfl rfl
  have a3 := h.sep.get (i := 3) (j := 2) (by decide) rfl rfl
  have a4 := h.sep.get (i := 4) (j := 2) (by decide) rfl rfl
  have a5 := h.sep.get (i := 5) (j := 2) (by decide) rfl rfl
  exact ⟨⟨(h.b_step hu.1 a0).1, (h.b_step hu.1 a0).2, h.vl, h.m_step hu.1 a2, hm, h.jn.step hu.1 a3, h.mp.step hu.1 (a4 _ rfl), h.fn.step hu.1 a5, h.sep.set (i := 2) rfl hu hm.in_, h.ge⟩, upd_all (i := 2) rfl hu⟩
/-- The journal turned. -/
theorem Ws.jou (h : Ws w B r) {Al' Am' : Option Addr} {nl' cl' nm' cm' : Nat} {es' : List En} {ms' : List Int} (hm : Jn w' B r.J Al' nl' cl' Am' nm' cm' es' ms') (hu : Upd w (jfoot r.J r.Al r.Am) (jfoot r.J Al' Am') w') :
    Ws w' B { r with Al := Al', nl := nl', cl := cl', es := es', Am := Am', nm := nm', cm := cm', ms := ms' } ∧ Upd w r.foot ({ r with Al := Al', nl := nl', cl := cl', es := es', Am := Am', nm := nm', cm := cm', ms := ms' } : Rc).foot w' := by
  have a0 := h.sep.get (i := 0) (j := 3) (by decide) rfl rfl
  have a2 := h.sep.get (i := 1) (j := 3) (by decide) rfl rfl
  have a3 := h.sep.get (i := 2) (j := 3) (by decide) rfl rfl
  have a4 := h.sep.get (i := 4) (j := 3) (by decide) rfl rfl
  have a5 := h.sep.get (i := 5) (j := 3) (by decide) rfl rfl
  exact ⟨⟨(h.b_step hu.1 a0).1, (h.b_step hu.1 a0).2, h.vl, h.m_step hu.1 a2, h.tb.step hu.1 a3, hm, h.mp.step hu.1 (a4 _ rfl), h.fn.step hu.1 a5, h.sep.set (i := 3) rfl hu hm.in_, h.ge⟩, upd_all (i := 3) rfl hu⟩
/-- The owners turned. -/
theorem Ws.map_ (h : Ws w B r) {nn' : Nat} {f' : Int → Option Value} {D' : DataW Value} (hm : MapI Try.prog w' 3 r.K nn' f' D') (hs : Step (fun k => k = r.K) w w') :
    Ws w' B { r with nn := nn', f := f', D := D' } ∧ Upd w r.foot ({ r with nn := nn', f := f', D := D' } : Rc).foot w' := by
  have hu : Upd w (fun k => k = r.K) (fun k => k = r.K) w' := ⟨hs, fun k hk => .inl hk⟩
  have a0 := h.sep.get (i := 0) (j := 4) (by decide) rfl rfl
  have a2 := h.sep.get (i := 1) (j := 4) (by decide) rfl rfl
  have a3 := h.sep.get (i := 2) (j := 4) (by decide) rfl rfl
  have a4 := h.sep.get (i := 3) (j := 4) (by decide) rfl rfl
  have a5 := h.sep.get (i := 5) (j := 4) (by decide) rfl rfl
  exact ⟨⟨(h.b_step hu.1 a0).1, (h.b_step hu.1 a0).2, h.vl, h.m_step hu.1 a2, h.tb.step hu.1 a3, h.jn.step hu.1 a4, hm, h.fn.step hu.1 a5, h.sep.set (i := 4) rfl hu (fun k hk => by rw [hk]; exact hm.lt), h.ge⟩, upd_all (i := 4) rfl hu⟩
/-- The functions turned. -/
theorem Ws.fun_ (h : Ws w B r) {Af' Ac' : Option Addr} {nf' cf' cc' : Nat} {fs' : List (Option Fv)} {cells' : List Int} (hm : Fw w' B r.Fu Af' nf' cf' Ac' cc' fs' cells') (hu : Upd w (ffoot r.Fu r.Af r.Ac r.fs) (ffoot r.Fu Af' Ac' fs') w') :
    Ws w' B { r with Af := Af', nf := nf', cf := cf', Ac := Ac', cc := cc', fs := fs', cells := cells' } ∧ Upd w r.foot ({ r with Af := Af', nf := nf', cf := cf', Ac := Ac', cc := cc', fs := fs', cells := cells' } : Rc).foot w' := by
  have a0 := h.sep.get (i := 0) (j := 5) (by decide) rfl rfl
  have a2 := h.sep.get (i := 1) (j := 5) (by decide) rfl rfl
  have a3 := h.sep.get (i := 2) (j := 5) (by decide) rfl rfl
  have a4 := h.sep.get (i := 3) (j := 5) (by decide) rfl rfl
  have a5 := h.sep.get (i := 4) (j := 5) (by decide) rfl rfl
  exact ⟨⟨(h.b_step hu.1 a0).1, (h.b_step hu.1 a0).2, h.vl, h.m_step hu.1 a2, h.tb.step hu.1 a3, h.jn.step hu.1 a4, h.mp.step hu.1 (a5 _ rfl), hm, h.sep.set (i := 5) rfl hu hm.in_, h.ge⟩, upd_all (i := 5) rfl hu⟩
/-- The globals turned. -/
theorem Ws.var_ (h : Ws w B r) {A' : Option Addr} {n' c' : Nat} {vs' : List Vr}
    (hb : Blk w' r.S 79 #[.pointer (some ⟨r.M, 0, none⟩), .pointer (some ⟨r.T, 0, none⟩), .pointer (some ⟨r.Fu, 0, none⟩), .slice A' n' c', .map (some r.K), .pointer (some ⟨r.J, 0, none⟩)]) (ho : w'.ownsRow B 56 6 (.slice A' n' c') n' (vrs vs')) (hl : n' = vs'.length)
    (hu : Upd w (Proofs.Ytmheofkakcomdaa.foot r.S r.Av) (Proofs.Ytmheofkakcomdaa.foot r.S A') w') :
    Ws w' B { r with Av := A', nv := n', cv := c', vs := vs' } ∧ Upd w r.foot ({ r with Av := A', nv := n', cv := c', vs := vs' } : Rc).foot w' := by
  have a0 := h.sep.get (i := 1) (j := 0) (by decide) rfl rfl
  have a2 := h.sep.get (i := 2) (j := 0) (by decide) rfl rfl
  have a3 := h.sep.get (i := 3) (j := 0) (by decide) rfl rfl
  have a4 := h.sep.get (i := 4) (j := 0) (by decide) rfl rfl
  have a5 := h.sep.get (i := 5) (j := 0) (by decide) rfl rfl
  exact ⟨⟨hb, ho, hl, h.m_step hu.1 a0, h.tb.step hu.1 a2, h.jn.step hu.1 a3, h.mp.step hu.1 (a4 _ rfl), h.fn.step hu.1 a5, h.sep.set (i := 0) rfl hu (fun k hk => by
    rcases hk with rfl | hk
    · exact hb.lt
    · exact own_lt ho k (by rwa [ownBlock_slice])), h.ge⟩, upd_all (i := 0) rfl hu⟩
end
end Go.Proofs.Ytmheofkakcomdaa
