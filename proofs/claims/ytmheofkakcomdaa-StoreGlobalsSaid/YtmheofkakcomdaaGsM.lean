/-
  store: rows that lie apart from the store.
-/
import Derived.Test.YtmheofkakcomdaaGsK
set_option linter.unusedVariables false
set_option linter.unusedSimpArgs false
namespace Go.Proofs.Ytmheofkakcomdaa
open Go.RowKit
section
variable {w w' : World} {B B' : Nat} {s : Sg} {t : TypeId} {size n c : Nat} {D : Option Addr} {xs : List Value}
theorem Gw.row_k (h : Gw w B s) (ho : w.ownsRow B' t size (.slice D n c) n xs) : blkOf D ≠ some s.K := fun e => by
  rcases ho.2 with ⟨h0, _⟩ | ⟨gb, cap, cur, h0, _, hgb, _⟩
  · simp at h0
    rw [h0.1] at e
    simp [blkOf] at e
  · simp at h0
    rw [h0.1] at e
    simp [blkOf] at e
    obtain ⟨⟨es, clock, h1, _⟩, _⟩ := h.mp
    rw [← e, hgb] at h1
    exact absurd (Option.some.inj h1) (by simp)
/-- A row of a type that the store has not lies apart from what its calls turn. -/
theorem Gw.row_apart (h : Gw w B s) (ho : w.ownsRow B' t size (.slice D n c) n xs) (h1 : t ≠ 79) (h2 : t ≠ 56) : ∀ k, blkOf D = some k → ¬ s.foot k := fun k hk hf => by
  rcases hf with rfl | rfl | hf
  · have := own_tag ho h.blk h1
    rw [ownBlock_slice] at this
    exact this hk
  · exact h.row_k ho hk
  · have := own_tag2 ho h.own h2 k (by rwa [ownBlock_slice])
    rw [ownBlock_slice] at this
    exact this hf
/-- Such a row grows: the store stays. -/
theorem Gw.row_grow (h : Gw w B s) (ho : w.ownsRow B' t size (.slice D n c) n xs) (h1 : t ≠ 79) (h2 : t ≠ 56) (h3 : t ≠ 123) (h4 : t ≠ 125) (hs : Step (fun k => blkOf D = some k) w w') : Gw w' B s := by
  obtain ⟨z, hz⟩ := h.jn.blk
  refine h.step hs (fun e => h.row_apart ho h1 h2 _ e (.inl rfl)) (fun e => ?_) (fun e => ?_) (fun e => h.row_k ho e) (fun k hk e => h.row_apart ho h1 h2 _ e (.inr (.inr hk)))
  · have := own_tag ho h.fn h3
    rw [ownBlock_slice] at this
    exact this e
  · have := own_tag ho hz h4
    rw [ownBlock_slice] at this
    exact this e
/-- Two rows of two types lie apart. -/
theorem row_row {t' : TypeId} {size' n' c' : Nat} {D' : Option Addr} {xs' : List Value} (ho : w.ownsRow B t size (.slice D n c) n xs) (ho' : w.ownsRow B' t' size' (.slice D' n' c') n' xs') (hne : t ≠ t') : ∀ k, blkOf D = some k → blkOf D' ≠ some k := fun k hk => by
  have := own_tag2 ho ho' hne k (by rwa [ownBlock_slice])
  rwa [ownBlock_slice] at this
end
/-- What holds ahead of each call of the law StoreGlobals. -/
structure Lw (w0 w : World) (s : Sg) (D5 : Option Addr) (c5 : Nat) (D6 : Option Addr) (c6 : Nat) (ow : List Int) : Prop where
  g : Gw w w0.heap.size s
  ok : OkI s.f
  ris : Ris ow s.f
  vt : ∀ v ∈ s.vs, v.vt < 256
  r5 : w.ownsRow w0.heap.size 44 6 (.slice D5 s.vs.length c5) s.vs.length (vrs s.vs)
  r6 : w.ownsRow w0.heap.size 3 1 (.slice D6 ow.length c6) ow.length (i64s ow)
  st : Step (fun _ => False) w0 w
section
variable {w0 w w' : World} {s : Sg} {D5 D6 : Option Addr} {c5 c6 : Nat} {ow : List Int}
theorem Lw.quiet (h : Lw w0 w s D5 c5 D6 c6 ow) (hs : Step (fun _ => False) w w') : Lw w0 w' s D5 c5 D6 c6 ow :=
  ⟨h.g.quiet hs, h.ok, h.ris, h.vt, own_below h.r5 hs, own_below h.r6 hs, h.st.trans hs⟩
/-- The store turned. -/
theorem Lw.turn {s' : Sg} (h : Lw w0 w s D5 c5 D6 c6 ow) (hg : Gw w' w0.heap.size s') (hs : Step s.foot w w') (hf : s'.f = s.f) (hv : s'.vs = s.vs) : Lw w0 w' s' D5 c5 D6 c6 ow :=
  ⟨hg, by rw [hf]; exact h.ok, by rw [hf]; exact h.ris, by rw [hv]; exact h.vt, by rw [hv]; exact own_step h.r5 hs (fun k hk => h.g.row_apart h.r5 (by decide) (by decide) k (by rwa [ownBlock_slice] at hk)), own_step h.r6 hs (fun k hk => h.g.row_apart h.r6 (by decide) (by decide) k (by rwa [ownBlock_slice] at hk)),
    h.st.trans' hs (fun k hk => .inr (h.g.gef k hk))⟩
end
end Go.Proofs.Ytmheofkakcomdaa
