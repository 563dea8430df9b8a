/-
  store: New, Write, SetSlot, Begin; what a store is.
-/
import Derived.Test.YtmheofkakcomdaaSj
set_option linter.unusedVariables false
set_option linter.unusedSimpArgs false
namespace Go.Proofs.Ytmheofkakcomdaa
open Go.RowKit

/-- A store, as a record. -/
structure St where
  S : Nat
  M : Nat
  T : Nat
  Fu : Nat
  J : Nat
  A : Option Addr
  n : Nat
  c : Nat
  most : Int
  l : List UInt8
  At : Option Addr
  nt : Nat
  ct : Nat
  mt : Int
  lt : List Int
  Al : Option Addr
  nl : Nat
  cl : Nat
  es : List En
  Am : Option Addr
  nm : Nat
  cm : Nat
  ms : List Int
  vars : Value
  insts : Value
/-- A store at block S. -/
structure Stw (w : World) (B : Nat) (s : St) : Prop where
  blk : Blk w s.S 79 #[.pointer (some ⟨s.M, 0, none⟩), .pointer (some ⟨s.T, 0, none⟩), .pointer (some ⟨s.Fu, 0, none⟩), s.vars, s.insts, .pointer (some ⟨s.J, 0, none⟩)]
  mm : Mm w B s.M s.A s.n s.c s.most s.l
  tb : Tb w B s.T s.At s.nt s.ct s.mt s.lt
  jn : Jn w B s.J s.Al s.nl s.cl s.Am s.nm s.cm s.es s.ms
  ap : ∀ k, blkOf s.At = some k → blkOf s.Am ≠ some k
  ge : B ≤ s.S
section
variable {w w' : World} {B : Nat} {s : St}
theorem mtag {w : World} {A : Option Addr} {B n c : Nat} {l : List UInt8} {g : Nat} {t : TypeId} {cs : Array Value} (h : w.ownsRow B 5 1 (.slice A n c) n (u8s l)) (hg : Blk w g t cs) (hne : 5 ≠ t) : blkOf A ≠ some g := by
  have := own_tag h hg hne
  rwa [ownBlock_slice] at this
/-- What touches nothing of the store. -/
theorem Stw.step {F : Nat → Prop} (h : Stw w B s) (hs : Step F w w') (h1 : ¬ F s.S) (h2 : Apart (foot s.M s.A) F) (h3 : Apart (foot s.T s.At) F) (h4 : Apart (jfoot s.J s.Al s.Am) F) : Stw w' B s :=
  ⟨h.blk.step hs h1, h.mm.step hs (h2 _ (.inl rfl)) (fun k hk => h2 k (.inr hk)), h.tb.step hs h3, h.jn.step hs h4, h.ap, h.ge⟩
theorem Stw.quiet (h : Stw w B s) (hs : Step (fun _ => False) w w') : Stw w' B s := h.step hs id apart_none apart_none apart_none
/-- What lies apart by the kinds of the blocks. -/
theorem Stw.a_mem (h : Stw w B s) : Apart (jfoot s.J s.Al s.Am) (fun j => blkOf s.A = some j) := fun k hk e => by
  obtain ⟨z, hz⟩ := h.jn.blk
  have ho := h.mm.own
  rcases hk with rfl | hk | hk
  · exact mtag ho hz (by decide) e
  · have := own_tag2 ho h.jn.ol (by decide) k (by rwa [ownBlock_slice])
    rw [ownBlock_slice] at this
    exact this hk
  · have := own_tag2 ho h.jn.om (by decide) k (by rwa [ownBlock_slice])
    rw [ownBlock_slice] at this
    exact this hk
theorem Stw.a_tab (h : Stw w B s) : Apart (foot s.T s.At) (fun j => blkOf s.A = some j) := fun k hk e => by
  rcases hk with rfl | hk
  · exact mtag h.mm.own h.tb.blk (by decide) e
  · have := own_tag2 h.mm.own h.tb.own (by decide) k (by rwa [ownBlock_slice])
    rw [ownBlock_slice] at this
    exact this hk
theorem Stw.a_st (h : Stw w B s) : blkOf s.A ≠ some s.S := mtag h.mm.own h.blk (by decide)
theorem Stw.write (h : Stw w B s) (l' : List UInt8) (hs : Step (fun j => blkOf s.A = some j) w w') (hm : Mm w' B s.M s.A s.n s.c s.most l') : Stw w' B { s with l := l' } :=
  ⟨h.blk.step hs h.a_st, hm, h.tb.step hs h.a_tab, h.jn.step hs h.a_mem, h.ap, h.ge⟩
theorem Stw.t_mem (h : Stw w B s) : Apart (foot s.M s.A) (fun j => blkOf s.At = some j) := fun k hk e => by
  rcases hk with rfl | hk
  · have := own_tag h.tb.own h.mm.blk (by decide)
    rw [ownBlock_slice] at this
    exact this e
  · have := own_tag2 h.mm.own h.tb.own (by decide) k (by rwa [ownBlock_slice])
    rw [ownBlock_slice] at this
    exact this e
theorem Stw.t_jn (h : Stw w B s) : Apart (jfoot s.J s.Al s.Am) (fun j => blkOf s.At = some j) := fun k hk e => by
  obtain ⟨z, hz⟩ := h.jn.blk
  rcases hk with rfl | hk | hk
  · have := own_tag h.tb.own hz (by decide)
    rw [ownBlock_slice] at this
    exact this e
  · have := own_tag2 h.tb.own h.jn.ol (by decide) k (by rwa [ownBlock_slice])
    rw [ownBlock_slice] at this
    exact this hk
  · exact h.ap k e hk
theorem Stw.t_st (h : Stw w B s) : blkOf s.At ≠ some s.S := by
  have := own_tag h.tb.own h.blk (by decide)
  rwa [ownBlock_slice] at this
theorem Stw.set_ (h : Stw w B s) (l' : List Int) (hs : Step (fun j => blkOf s.At = some j) w w') (ht : Tb w' B s.T s.At s.nt s.ct s.mt l') : Stw w' B { s with lt := l' } :=
  ⟨h.blk.step hs h.t_st, h.mm.step hs (h.t_mem _ (.inl rfl)) (fun k hk => h.t_mem k (.inr hk)), ht, h.jn.step hs h.t_jn, h.ap, h.ge⟩
theorem Stw.jfoot_tag (h : Stw w B s) : ¬ jfoot s.J s.Al s.Am s.S ∧ Apart (foot s.M s.A) (jfoot s.J s.Al s.Am) ∧ Apart (foot s.T s.At) (jfoot s.J s.Al s.Am) := by
  obtain ⟨z, hz⟩ := h.jn.blk
  refine ⟨?_, ?_, ?_⟩
  · rintro (e | e | e)
    · exact absurd (h.blk.tag (by rw [e]; exact hz)) (by decide)
    · have := own_tag h.jn.ol h.blk (by decide)
      rw [ownBlock_slice] at this
      exact this e
    · have := own_tag h.jn.om h.blk (by decide)
      rw [ownBlock_slice] at this
      exact this e
  · intro k hk e
    rcases hk with rfl | hk
    · rcases e with e | e | e
      · exact absurd (h.mm.blk.tag (by rw [e]; exact hz)) (by decide)
      · have := own_tag h.jn.ol h.mm.blk (by decide)
        rw [ownBlock_slice] at this
        exact this e
      · have := own_tag h.jn.om h.mm.blk (by decide)
        rw [ownBlock_slice] at this
        exact this e
    · exact h.a_mem k e hk
  · intro k hk e
    rcases hk with rfl | hk
    · rcases e with e | e | e
      · exact absurd (h.tb.blk.tag (by rw [e]; exact hz)) (by decide)
      · have := own_tag h.jn.ol h.tb.blk (by decide)
        rw [ownBlock_slice] at this
        exact this e
      · have := own_tag h.jn.om h.tb.blk (by decide)
        rw [ownBlock_slice] at this
        exact this e
    · exact h.t_jn k e hk
/-- What turns the journal alone. -/
theorem Stw.note {Al' Am' : Option Addr} {nl' cl' nm' cm' : Nat} {es' : List En} {ms' : List Int} (h : Stw w B s) (hu : Upd w (jfoot s.J s.Al s.Am) (jfoot s.J Al' Am') w') (hj : Jn w' B s.J Al' nl' cl' Am' nm' cm' es' ms') :
    Stw w' B { s with Al := Al', nl := nl', cl := cl', es := es', Am := Am', nm := nm', cm := cm', ms := ms' } := by
  obtain ⟨h1, h2, h3⟩ := h.jfoot_tag
  refine ⟨h.blk.step hu.1 h1, h.mm.step hu.1 (h2 _ (.inl rfl)) (fun k hk => h2 k (.inr hk)), h.tb.step hu.1 h3, hj, fun k hk e => ?_, h.ge⟩
  rcases hu.2 k (.inr (.inr e)) with h5 | h5
  · exact h.t_jn k h5 hk
  · have := h.tb.in_ k (.inr hk)
    omega
end
end Go.Proofs.Ytmheofkakcomdaa
