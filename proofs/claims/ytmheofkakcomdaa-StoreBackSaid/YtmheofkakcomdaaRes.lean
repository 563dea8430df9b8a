/-
  Resources: a datum in memory, and the set of blocks that bear it; what a call that owns it may turn.
-/
import Derived.Test.YtmheofkakcomdaaMem
import Derived.Test.YtmheofkakcomdaaMix
set_option linter.unusedVariables false
set_option linter.unusedSimpArgs false
namespace Go.Proofs.Ytmheofkakcomdaa
open Go.RowKit

/-- The call owned the blocks I, and owns I' now: nothing else has turned; what is new in I' is new in memory. -/
def Upd (w : World) (I I' : Nat → Prop) (w' : World) : Prop := Step I w w' ∧ ∀ k, I' k → I k ∨ w.heap.size ≤ k
/-- All of a set lies in memory. -/
def In (w : World) (I : Nat → Prop) : Prop := ∀ k, I k → k < w.heap.size
/-- Two sets of blocks have none in common. -/
def Apart (I J : Nat → Prop) : Prop := ∀ k, I k → ¬ J k

section
variable {w w' w'' : World} {I I' I'' J K : Nat → Prop}
theorem Apart.symm (h : Apart I J) : Apart J I := fun k hj hi => h k hi hj
theorem Upd.refl : Upd w I I w := ⟨Step.refl, fun _ h => .inl h⟩
theorem Upd.trans (h : Upd w I I' w') (k : Upd w' I' I'' w'') : Upd w I I'' w'' :=
  ⟨h.1.trans' k.1 h.2, fun i hi => by
    rcases k.2 i hi with e | e
    · exact h.2 i e
    · right; exact Nat.le_trans h.1.size e⟩
theorem Upd.quiet (h : Upd w I I' w') (k : Step (fun _ => False) w' w'') : Upd w I I' w'' := ⟨h.1.trans' k (fun _ h => h.elim), h.2⟩
theorem Upd.after (h : Step (fun _ => False) w w') (k : Upd w' I I' w'') : Upd w I I' w'' :=
  ⟨(h.mono fun _ _ h => h.elim).trans k.1, fun i hi => by
    rcases k.2 i hi with e | e
    · exact .inl e
    · right; exact Nat.le_trans h.size e⟩
/-- Writes into what is new. -/
theorem Upd.write {F : Nat → Prop} (h : Upd w I I' w') (k : Step F w' w'') (hF : ∀ i, F i → w.heap.size ≤ i) : Upd w I I' w'' := ⟨h.1.trans' k (fun i hi => .inr (hF i hi)), h.2⟩
theorem Upd.drew (h : Upd w I I' w') : Upd w I I' w'.drew := ⟨h.1.drew, h.2⟩
theorem Upd.drewN (h : Upd w I I' w') (n : Nat) : Upd w I I' (w'.drewN n) := ⟨h.1.drewN n, h.2⟩
/-- A set apart from what the call owned is apart from what it owns now. -/
theorem Upd.apart (h : Upd w I I' w') (hJ : In w J) (hd : Apart J I) : Apart J I' := fun k hj hi => by
  rcases h.2 k hi with e | e
  · exact hd k hj e
  · have := hJ k hj; omega
theorem Upd.in_ (h : Upd w I I' w') (hJ : In w J) : In w' J := fun k hk => Nat.lt_of_lt_of_le (hJ k hk) h.1.size
theorem Upd.step (h : Upd w I I' w') : Step I w w' := h.1
theorem Upd.below {B : Nat} (h : Upd w I I' w') (hI : ∀ k, I k → B ≤ k) (hB : B ≤ w.heap.size) : Below B w w' := h.1.below B (fun k _ hk => hI k hk) hB
theorem Upd.ge {B : Nat} (h : Upd w I I' w') (hI : ∀ k, I k → B ≤ k) (hB : B ≤ w.heap.size) : ∀ k, I' k → B ≤ k := fun k hk => by
  rcases h.2 k hk with e | e
  · exact hI k e
  · omega
theorem Step.in_ {F : Nat → Prop} (h : Step F w w') (hJ : In w J) : In w' J := fun k hk => Nat.lt_of_lt_of_le (hJ k hk) h.size
/-- One more set beside. -/
theorem Upd.wide (h : Upd w I I' w') (hK : Apart K I) : Upd w (fun k => I k ∨ K k) (fun k => I' k ∨ K k) w' :=
  ⟨h.1.mono fun _ _ h => .inl h, fun k hk => by
    rcases hk with e | e
    · rcases h.2 k e with e | e
      · exact .inl (.inl e)
      · exact .inr e
    · exact .inl (.inr e)⟩
theorem Upd.sub (h : Upd w I I' w') (hs : ∀ k, I k → J k) : Upd w J (fun k => I' k) w' := ⟨h.1.mono fun k _ hk => hs k hk, fun k hk => by
    rcases h.2 k hk with e | e
    · exact .inl (hs k e)
    · exact .inr e⟩
end

/-! ### a row as a resource -/
/-- v is a slice of n elements of type e, 'size' cells each, that owns the cells xs, in just the blocks I. -/
structure Row (w : World) (I : Nat → Prop) (e : TypeId) (size : Nat) (A : Option Addr) (n c : Nat) (xs : List Value) : Prop where
  own : w.ownsRow 0 e size (.slice A n c) n xs
  set : ∀ k, I k ↔ blkOf A = some k
section
variable {w w' : World} {I F J : Nat → Prop} {e : TypeId} {size n c : Nat} {A : Option Addr} {xs : List Value}
theorem Row.of_own {B : Nat} (h : w.ownsRow B e size (.slice A n c) n xs) : Row w (fun k => blkOf A = some k) e size A n c xs := ⟨own_base h (fun _ _ => Nat.zero_le _), fun _ => Iff.rfl⟩
theorem Row.in_ (h : Row w I e size A n c xs) : In w I := fun k hk => own_lt h.own k (by rw [ownBlock_slice]; exact (h.set k).1 hk)
theorem Row.keep (h : Row w I e size A n c xs) (hs : Step F w w') (hd : Apart I F) : Row w' I e size A n c xs :=
  ⟨own_step h.own hs (fun k hk => hd k ((h.set k).2 (by rwa [ownBlock_slice] at hk))), h.set⟩
theorem Row.reads (h : Row w I e size A n c xs) : Reads w I size A n xs := (Reads.of_own h.own).mono fun k _ hk => (h.set k).2 (by rwa [ownBlock_slice] at hk)
theorem Row.cap (h : Row w I e size A n c xs) : n ≤ c := own_cap h.own
theorem Row.apart_new (h : Row w I e size A n c xs) : Apart I (fun k => w.heap.size ≤ k) := fun k hk hh => by have := h.in_ k hk; omega
end
/-- Where an owned row's cells lie, and that they may be written. -/
theorem own_row {w : World} {B : Nat} {e : TypeId} {size n c : Nat} {D : Option Addr} {xs : List Value} (h : w.ownsRow B e size (.slice D n c) n xs) (hn : 0 < n) :
    ∃ g, D = some ⟨g, 0, none⟩ ∧ B ≤ g ∧ g < w.heap.size ∧ (∀ j u, xs[j]? = some u → w.cell? ⟨g, j, none⟩ = some u) ∧ (∀ j, w.frozen? ⟨g, j, none⟩ = false) := by
  obtain ⟨h1, ⟨_, h3⟩ | ⟨g, cap, cur, hv, hb, hh, hnn, hm, hs, ht⟩⟩ := h
  · omega
  · injection hv with e1 e2 e3
    subst e1; subst e3
    refine ⟨g, rfl, hb, (Array.getElem?_eq_some_iff.1 hh).1, fun j u hu => ?_, fun j => by simp [World.frozen?, hh]⟩
    rw [cell_of_row w g j cur _ (0, 0) hh]
    rw [← ht, List.getElem?_take] at hu
    split at hu
    · rw [← Array.getElem?_toList]; exact hu
    · cases hu
/-- One cell of an owned row stored. -/
theorem own_setAt {w : World} {B : Nat} {e : TypeId} {size n c g j : Nat} {xs : List Value} {u : Value} (h : w.ownsRow B e size (.slice (some ⟨g, 0, none⟩) n c) n xs) (hj : j < xs.length) :
    (w.setCell ⟨g, j, none⟩ u).ownsRow B e size (.slice (some ⟨g, 0, none⟩) n c) n (xs.set j u) := by
  obtain ⟨h1, ⟨h2, h3⟩ | ⟨g', cap, cur, hv, hb, hh, hnn, hm, hs, ht⟩⟩ := h
  · cases h2
  · injection hv with e1 e2 e3
    injection e1 with e1
    injection e1 with e1
    subst e1; subst e3
    refine ⟨by simpa using h1, .inr ⟨g, c, cur.setIfInBounds j u, rfl, hb, ?_, hnn, hm, by simpa using hs, ?_⟩⟩
    · have : Blk w g e cur := hh
      exact this.set_ j u
    · rw [Array.toList_setIfInBounds, List.take_set, ht]
theorem flat_set {α : Type} (c : α → List Value) (m : Nat) (hc : ∀ a, (c a).length = m) : ∀ (l : List α) (k j : Nat) (a' : α) (u : Value) (h : k < l.length), j < m → c a' = (c l[k]).set j u → (l.flatMap c).set (k * m + j) u = (l.set k a').flatMap c
  | a :: l, 0, j, a', u, _, hj, ha => by
    simp only [List.getElem_cons_zero] at ha
    simp only [List.flatMap_cons, Nat.zero_mul, Nat.zero_add, List.set_cons_zero]
    rw [List.set_append_left _ _ (by rw [hc]; exact hj), ha]
  | a :: l, k + 1, j, a', u, h, hj, ha => by
    simp only [List.getElem_cons_succ] at ha
    have e : (k + 1) * m + j = m + (k * m + j) := by rw [Nat.add_mul]; omega
    rw [List.flatMap_cons, List.set_cons_succ, List.flatMap_cons, e, List.set_append_right _ _ (by rw [hc]; omega), hc, Nat.add_sub_cancel_left, flat_set c m hc l k j a' u (by simpa using h) hj ha]
/-- A cell that no block of F bears, in every world of the class 'w and then F alone'. -/
theorem cls_cell {F : Nat → Prop} {w0 : World} {p : Addr} {v : Value} (hc : w0.cell? p = some v) (hF : ¬ F p.block) : ∀ i : Mix.Cls (Step F w0), i.val.cell? p = some v := fun i =>
  (i.prop.cell (World.block_lt_of_cell? w0 p hc) hF).trans hc
theorem apart_new {w : World} {I : Nat → Prop} (h : In w I) : Apart I (fun k => w.heap.size ≤ k) := fun k hk hh => by have := h k hk; omega
theorem in_none {w : World} : In w (fun _ => False) := fun _ h => h.elim
theorem apart_none {I : Nat → Prop} : Apart I (fun _ => False) := fun _ _ h => h
end Go.Proofs.Ytmheofkakcomdaa
