/-
  Words on memory that the walks of this seat share: a block known whole, a slice that reads as a list, and frames over sets of blocks.
-/
import Derived.Below
import Derived.WalkKit
import Derived.WalkSpells
import Derived.WalkLawsBesides
import Derived.StillTactics
import Derived.StillTailTactics
import Derived.Laws.Pointers
import Derived.BigQuiet
import Derived.Deep.QuietTactic
import Derived.Deep.RegionHeld3
import Derived.Deep.RegionLaw
import Derived.Deep.DrawnRows
import Derived.Deep.DeepMust
import Derived.Deep.DeepFit
import Derived.Deep.DeepCutAuto
import Derived.Deep.LoopGhost
import Derived.Handy
import Derived.Lib.Hide
import Derived.Laws.OwnMore
import Derived.Laws.Rows
import Derived.Laws.Slices
import Derived.Deep.Draws
import Derived.Deep.AppendLies
import Derived.Maps.AppendAt
set_option linter.unusedVariables false
set_option linter.unusedSimpArgs false
namespace Go.Proofs.Ytmheofkakcomdaa
open Go.RowKit

/-- Block g is just the cells cs, of element type t, none of them frozen. -/
def Blk (w : World) (g : Nat) (t : TypeId) (cs : Array Value) : Prop := w.heap[g]? = some (.cells cs t (0, 0))

/-- From w to w' nothing but blocks of F, and new ones, has turned. -/
structure Step (F : Nat → Prop) (w w' : World) : Prop where
  os : w'.os = w.os
  tape : w'.tape = w.tape
  output : w'.output = w.output
  size : w.heap.size ≤ w'.heap.size
  block : ∀ k, k < w.heap.size → ¬ F k → w'.heap[k]? = w.heap[k]?

section
variable {w w' w'' : World} {F F' : Nat → Prop}
theorem Step.refl : Step F w w := ⟨rfl, rfl, rfl, Nat.le_refl _, fun _ _ _ => rfl⟩
theorem Step.trans (h : Step F w w') (k : Step F w' w'') : Step F w w'' :=
  ⟨k.os.trans h.os, k.tape.trans h.tape, k.output.trans h.output, Nat.le_trans h.size k.size, fun i hi hn => (k.block i (Nat.lt_of_lt_of_le hi h.size) hn).trans (h.block i hi hn)⟩
/-- The second step may also turn what the first one has made. -/
theorem Step.trans' (h : Step F w w') (k : Step F' w' w'') (hF : ∀ i, F' i → F i ∨ w.heap.size ≤ i) : Step F w w'' :=
  ⟨k.os.trans h.os, k.tape.trans h.tape, k.output.trans h.output, Nat.le_trans h.size k.size, fun i hi hn => (k.block i (Nat.lt_of_lt_of_le hi h.size) (fun e => by
    rcases hF i e with h1 | h1
    · exact hn h1
    · omega)).trans (h.block i hi hn)⟩
theorem Step.mono (h : Step F w w') (hF : ∀ i, i < w.heap.size → F i → F' i) : Step F' w w' :=
  ⟨h.os, h.tape, h.output, h.size, fun i hi hn => h.block i hi fun e => hn (hF i hi e)⟩
theorem Step.drew (h : Step F w w') : Step F w w'.drew := ⟨h.os, h.tape, h.output, h.size, h.block⟩
theorem Step.drewN (h : Step F w w') (n : Nat) : Step F w (w'.drewN n) := ⟨h.os, h.tape, h.output, h.size, h.block⟩
theorem Step.alloc (h : Step F w w') (o : Obj) : Step F w (w'.alloc o) :=
  ⟨h.os, h.tape, h.output, Nat.le_trans h.size (by simp), fun i hi hn => (Below.heap_alloc w' o i (Nat.lt_of_lt_of_le hi h.size)).trans (h.block i hi hn)⟩
theorem Step.setCell (h : Step F w w') {p : Addr} (hp : F p.block ∨ w.heap.size ≤ p.block) (u : Value) : Step F w (w'.setCell p u) :=
  ⟨h.os, h.tape, h.output, by simpa [World.setCell] using h.size, fun i hi hn => (Below.heap_setCell w' p u i (by
    rintro rfl
    rcases hp with hp | hp
    · exact hn hp
    · omega)).trans (h.block i hi hn)⟩
theorem Step.grown (h : Step F w w') {row : Option Nat} (hg : w'.grownBy w'' row) (hr : ∀ k, row = some k → F k ∨ w.heap.size ≤ k) : Step F w w'' :=
  ⟨hg.os.trans h.os, hg.tape.trans h.tape, hg.output.trans h.output, Nat.le_trans h.size hg.size, fun i hi hn => (hg.block i (Nat.lt_of_lt_of_le hi h.size) (fun e => by
    rcases hr i e.symm with h1 | h1
    · exact hn h1
    · omega)).trans (h.block i hi hn)⟩
theorem Step.below (h : Step F w w') (B : Nat) (hF : ∀ k, k < w.heap.size → F k → B ≤ k) (hB : B ≤ w.heap.size) : Below B w w' :=
  ⟨h.os, h.tape, h.output, h.size, fun k hk => h.block k (by omega) (fun e => by have := hF k (by omega) e; omega)⟩
theorem Step.ofBelow (h : Below w.heap.size w w') : Step F w w' := ⟨h.os, h.tape, h.output, h.size, fun k hk _ => h.block k hk⟩
theorem Step.grownBy (h : Step F w w') (row : Option Nat) (hF : ∀ k, k < w.heap.size → F k → row = some k) : w.grownBy w' row :=
  ⟨h.os, h.tape, h.output, h.size, fun k hk hn => h.block k hk (fun e => hn (hF k hk e).symm)⟩
theorem Step.cell (h : Step F w w') {p : Addr} (hp : p.block < w.heap.size) (hn : ¬ F p.block) : w'.cell? p = w.cell? p := World.cell?_of_block (h.block p.block hp hn)
theorem Step.frozen (h : Step F w w') {p : Addr} (hp : p.block < w.heap.size) (hn : ¬ F p.block) : w'.frozen? p = w.frozen? p := World.frozen?_of_block (h.block p.block hp hn)
/-- 'Below' goes on over a step whose blocks are all above. -/
theorem below_step {B : Nat} {w0 : World} (hb : Below B w0 w) (h : Step F w w') (hF : ∀ k, k < w.heap.size → F k → B ≤ k) (hB : B ≤ w.heap.size) : Below B w0 w' :=
  hb.trans (h.below B hF hB)
end

section
variable {w w' : World} {g : Nat} {t : TypeId} {cs : Array Value} {F : Nat → Prop}
theorem Blk.lt (h : Blk w g t cs) : g < w.heap.size := by
  rcases Nat.lt_or_ge g w.heap.size with hlt | hge
  · exact hlt
  · unfold Blk at h; rw [Array.getElem?_eq_none hge] at h; cases h
theorem Blk.cell (h : Blk w g t cs) (i : Nat) : w.cell? ⟨g, i, none⟩ = cs[i]? := cell_of_row w g i cs t (0, 0) h
theorem Blk.frozen (h : Blk w g t cs) (i : Nat) : w.frozen? ⟨g, i, none⟩ = false := by
  unfold Blk at h
  simp [World.frozen?, h]
theorem Blk.new (w : World) (t : TypeId) (cs : Array Value) : Blk (w.alloc (.cells cs t)) w.heap.size t cs := heap_alloc_new w _
theorem Blk.drew (h : Blk w g t cs) : Blk w.drew g t cs := h
theorem Blk.drewN (h : Blk w g t cs) (n : Nat) : Blk (w.drewN n) g t cs := h
theorem Blk.alloc (h : Blk w g t cs) (o : Obj) : Blk (w.alloc o) g t cs := (Below.heap_alloc w o g h.lt).trans h
theorem Blk.set_ (h : Blk w g t cs) (i : Nat) (u : Value) : Blk (w.setCell ⟨g, i, none⟩ u) g t (cs.setIfInBounds i u) := by
  unfold Blk at h ⊢
  simp [World.setCell, Array.getElem?_modify, h]
theorem Blk.far (h : Blk w g t cs) {p : Addr} (hp : g ≠ p.block) (u : Value) : Blk (w.setCell p u) g t cs := (Below.heap_setCell w p u g hp).trans h
theorem Blk.step (h : Blk w g t cs) (hb : Step F w w') (hg : ¬ F g) : Blk w' g t cs := (hb.block g h.lt hg).trans h
theorem Blk.below {B : Nat} (h : Blk w g t cs) (hb : Below B w w') (hg : g < B) : Blk w' g t cs := (hb.block g hg).trans h
theorem Blk.grown {row : Option Nat} (h : Blk w g t cs) (hb : w.grownBy w' row) (hg : row ≠ some g) : Blk w' g t cs := (hb.block g h.lt (Ne.symm hg)).trans h
theorem Blk.tag {t' : TypeId} {cs' : Array Value} (h : Blk w g t cs) (h' : Blk w g t' cs') : t = t' := by
  unfold Blk at h h'
  rw [h] at h'
  injection h' with h'
  injection h' with _ ht
theorem own_tag {base : Nat} {e : TypeId} {size n : Nat} {v : Value} {xs : List Value} (h : w.ownsRow base e size v n xs) (hg : Blk w g t cs) (hne : e ≠ t) : v.ownBlock ≠ some g := by
  rcases h.2 with ⟨rfl, _⟩ | ⟨g', cap, cur, rfl, _, hh, _⟩
  · simp [Value.ownBlock]
  · intro he
    have : g' = g := by simpa [Value.ownBlock] using he
    subst this
    exact hne (Blk.tag (t := e) hh hg)
theorem own_tag2 {base base' : Nat} {e e' : TypeId} {size n size' n' : Nat} {v v' : Value} {xs xs' : List Value} (h : w.ownsRow base e size v n xs) (h' : w.ownsRow base' e' size' v' n' xs') (hne : e ≠ e') :
    ∀ k, v.ownBlock = some k → v'.ownBlock ≠ some k := by
  intro k hk
  rcases h.2 with ⟨rfl, _⟩ | ⟨g', cap, cur, rfl, _, hh, _⟩
  · simp [Value.ownBlock] at hk
  · have : g' = k := by simpa [Value.ownBlock] using hk
    subst this
    exact own_tag (g := g') (cs := cur) h' hh (Ne.symm hne)
/-- An owned row over a step that does not turn it. -/
theorem own_step {base : Nat} {e : TypeId} {size n : Nat} {v : Value} {xs : List Value} (h : w.ownsRow base e size v n xs) (hb : Step F w w') (hn : ∀ k, v.ownBlock = some k → ¬ F k) : w'.ownsRow base e size v n xs := by
  refine ⟨h.1, ?_⟩
  rcases h.2 with h2 | ⟨g, cap, cur, rfl, hg, hh, r⟩
  · exact .inl h2
  · exact .inr ⟨g, cap, cur, rfl, hg, (hb.block g (Array.getElem?_eq_some_iff.1 hh).1 (hn g (by simp [Value.ownBlock]))).trans hh, r⟩
theorem own_base {base base' : Nat} {e : TypeId} {size n : Nat} {v : Value} {xs : List Value} (h : w.ownsRow base e size v n xs) (hb : ∀ k, v.ownBlock = some k → base' ≤ k) : w.ownsRow base' e size v n xs := by
  refine ⟨h.1, ?_⟩
  rcases h.2 with h2 | ⟨g, cap, cur, rfl, _, r⟩
  · exact .inl h2
  · exact .inr ⟨g, cap, cur, rfl, hb g (by simp [Value.ownBlock]), r⟩
/-- An owned row over the store of one cell of another block. -/
theorem own_set {base : Nat} {e : TypeId} {size n : Nat} {v : Value} {xs : List Value} (h : w.ownsRow base e size v n xs) {p : Addr} (hp : v.ownBlock ≠ some p.block) (u : Value) : (w.setCell p u).ownsRow base e size v n xs := by
  refine ⟨h.1, ?_⟩
  rcases h.2 with h2 | ⟨g, cap, cur, rfl, hg, hh, r⟩
  · exact .inl h2
  · exact .inr ⟨g, cap, cur, rfl, hg, (Below.heap_setCell w p u g (by rintro rfl; exact hp (by simp [Value.ownBlock]))).trans hh, r⟩
theorem own_lt {base : Nat} {e : TypeId} {size n : Nat} {v : Value} {xs : List Value} (h : w.ownsRow base e size v n xs) : ∀ k, v.ownBlock = some k → k < w.heap.size := fun k hk => (h.lt k hk).2
theorem own_ge {base : Nat} {e : TypeId} {size n : Nat} {v : Value} {xs : List Value} (h : w.ownsRow base e size v n xs) : ∀ k, v.ownBlock = some k → base ≤ k := fun k hk => (h.lt k hk).1
end

theorem below_drewN {B : Nat} {a w : World} (h : Below B a w) (n : Nat) : Below B a (w.drewN n) := ⟨h.os, h.tape, h.output, h.size, h.block⟩
theorem _root_.Go.RowKit.Below.step' {B : Nat} {a w : World} (h : Below B a w) : Step (fun k => B ≤ k) a w := ⟨h.os, h.tape, h.output, h.size, fun k _ hn => h.block k (by omega)⟩
theorem bne_t {a b : Int} (h : (a != b) = true) : a ≠ b := bne_iff_ne.1 h
theorem bne_f {a b : Int} (h : (a != b) = false) : a = b := by simpa using h
theorem quiet_ex {w : World} {a b : Nat} : ∃ m, (w.drewN a).drewN b = w.drewN m := ⟨a + b, World.drewN_drewN _ _ _⟩
theorem ret_eq {a b : Value} (h : a = b) : Ending.returned a = .returned b := by rw [h]

/-! ### A slice that reads as a list, nil let in -/
theorem add_block (a : Addr) (n : Nat) : (a.add n).block = a.block := by unfold Addr.add; split <;> rfl
theorem add_add' (a : Addr) (i j : Nat) : (a.add i).add j = a.add (i + j) := by
  unfold Addr.add
  by_cases hi : i = 0 <;> by_cases hj : j = 0 <;> simp [hi, hj, Nat.add_assoc]

/-- The slice value '.slice A n c' holds the cells xs (n elements of 'size' cells), in a block of S. -/
def Reads (w : World) (S : Nat → Prop) (size : Nat) (A : Option Addr) (n : Nat) (xs : List Value) : Prop :=
  xs.length = n * size ∧ (0 < n → ∃ ad, A = some ad ∧ S ad.block ∧ ad.block < w.heap.size ∧ ∀ j u, xs[j]? = some u → w.cell? (ad.add j) = some u)

section
variable {w w' : World} {S S' F : Nat → Prop} {size n : Nat} {A : Option Addr} {xs : List Value}
theorem Reads.nil_ : Reads w S size A 0 [] := ⟨by simp, fun h => absurd h (by omega)⟩
theorem Reads.at_ {k : Nat} (h : Reads w S 1 A n xs) (hk : k < n) : ∃ ad u, A = some ad ∧ S ad.block ∧ ad.block < w.heap.size ∧ xs[k]? = some u ∧ w.cell? (ad.add k) = some u := by
  obtain ⟨ad, e, hb, hl, hc⟩ := h.2 (by omega)
  have hl' : k < xs.length := by have := h.1; omega
  exact ⟨ad, xs[k], e, hb, hl, List.getElem?_eq_getElem hl', hc k _ (List.getElem?_eq_getElem hl')⟩
theorem Reads.step (h : Reads w S size A n xs) (hb : Step F w w') (hd : ∀ k, S k → ¬ F k) : Reads w' S size A n xs :=
  ⟨h.1, fun hn => by
    obtain ⟨ad, e, hs, hl, hc⟩ := h.2 hn
    exact ⟨ad, e, hs, Nat.lt_of_lt_of_le hl hb.size, fun j u hu => (hb.cell (by rw [add_block]; exact hl) (by rw [add_block]; exact hd _ hs)).trans (hc j u hu)⟩⟩
theorem Reads.mono (h : Reads w S size A n xs) (hS : ∀ k, k < w.heap.size → S k → S' k) : Reads w S' size A n xs :=
  ⟨h.1, fun hn => by
    obtain ⟨ad, e, hs, hl, hc⟩ := h.2 hn
    exact ⟨ad, e, hS _ hl hs, hl, hc⟩⟩
theorem Reads.cut (h : Reads w S size A n xs) {k cap : Nat} (hk : k ≤ n) (hc : n ≤ cap) :
    Reads w S size (if cap = k then A else A.map (·.add (k * size))) (n - k) (xs.drop (k * size)) := by
  refine ⟨by rw [List.length_drop, h.1, Nat.sub_mul], fun hn => ?_⟩
  obtain ⟨ad, rfl, hs, hl, hcell⟩ := h.2 (by omega)
  rw [if_neg (by omega)]
  refine ⟨ad.add (k * size), rfl, by rw [add_block]; exact hs, by rw [add_block]; exact hl, fun j u hu => ?_⟩
  rw [add_add']
  exact hcell _ u (by rw [← hu, List.getElem?_drop])
theorem Reads.take (h : Reads w S size A n xs) {k : Nat} (hk : k ≤ n) : Reads w S size A k (xs.take (k * size)) := by
  refine ⟨by rw [List.length_take, h.1]; exact Nat.min_eq_left (Nat.mul_le_mul_right _ hk), fun hn => ?_⟩
  obtain ⟨ad, rfl, hs, hl, hcell⟩ := h.2 (by omega)
  refine ⟨ad, rfl, hs, hl, fun j u hu => hcell _ u ?_⟩
  rw [List.getElem?_take] at hu
  split at hu
  · exact hu
  · cases hu
theorem Reads.drew (h : Reads w S size A n xs) : Reads w.drew S size A n xs := h
theorem Reads.of_own {base : Nat} {e : TypeId} {c : Nat} (h : w.ownsRow base e size (.slice A n c) n xs) : Reads w (fun k => Value.ownBlock (.slice A n c) = some k) size A n xs := by
  refine ⟨h.1, fun hn => ?_⟩
  obtain ⟨g, cap, hv, _, hlt⟩ := h.form hn
  have hA : A = some ⟨g, 0, none⟩ := by injection hv
  subst hA
  exact ⟨_, rfl, by simp [Value.ownBlock], hlt, h.cells (g := g) rfl⟩
end

/-! ### append onto a row of the call's own, from whatever slice -/
section
variable {P : Program} (w : World)

theorem run_append_src_nil (base : Nat) (t ty e : TypeId) (i : TypeInfo) (size : Nat) (ht : P.underlying t = some (.slice e)) (hi : P.info? e = some i)
    (v : Value) (n : Nat) (xs : List Value) (hown : w.ownsRow base e size v n xs) (c : Nat) : (Builtin.append_ #[t, t] ty #[v, .slice none 0 c]).run P w = .ok v w := by
  rcases hown.2 with ⟨rfl, rfl⟩ | ⟨g, cap, cur, rfl, _, _, hnc, _⟩
  · simp [Builtin.append_, run_underlying ht, sizeOf, typeInfo, hi, Builtin.lenOf, Builtin.firstCells]
  · simp [Builtin.append_, run_underlying ht, sizeOf, typeInfo, hi, Builtin.lenOf, Builtin.firstCells, hnc, storeCells]

theorem run_append_src (base : Nat) (t ty e : TypeId) (i : TypeInfo) (z : Value) (size bytes : Nat) (ht : P.underlying t = some (.slice e)) (hi : P.info? e = some i) (hz : i.zero = some z)
    (hsize : i.size = size) (hby : i.bytes = bytes) (hzs : z.cells.size = size) (hsz : 0 < size)
    (v : Value) (n : Nat) (xs : List Value) (hown : w.ownsRow base e size v n xs)
    (S : Nat → Prop) (A : Option Addr) (m c : Nat) (news : List Value) (hr : Reads w S size A m news) (h1 : ∀ u ∈ news, u.oneCell' = true)
    (h63 : n + m ≤ maxLen) (hbytes : (n + m) * bytes ≤ 140737488355328) (hbase : base ≤ w.heap.size) :
    ∃ v' w', (Builtin.append_ #[t, t] ty #[v, .slice A m c]).run P w = .ok v' w' ∧ w'.ownsRow base e size v' (n + m) (xs ++ news) ∧ w.grownBy w' v.ownBlock ∧
      (v'.ownBlock = v.ownBlock ∨ v'.ownBlock = some w.heap.size) := by
  rcases A with _ | ad
  · have hm : m = 0 := by
      rcases Nat.eq_zero_or_pos m with h0 | h0
      · exact h0
      · obtain ⟨ad, h, _⟩ := hr.2 h0
        cases h
    subst hm
    have hn : news = [] := List.eq_nil_of_length_eq_zero (by simpa using hr.1)
    subst hn
    exact ⟨v, w, run_append_src_nil w base t ty e i size ht hi v n xs hown c, by simpa using hown, ⟨rfl, rfl, rfl, Nat.le_refl _, fun _ _ _ => rfl⟩, .inl rfl⟩
  · have hcells : ∀ j u, news[j]? = some u → w.cell? (ad.add j) = some u := by
      intro j u hu
      rcases Nat.eq_zero_or_pos m with h0 | h0
      · subst h0
        have hn : news = [] := List.eq_nil_of_length_eq_zero (by simpa using hr.1)
        subst hn
        simp at hu
      · obtain ⟨ad', h, _, _, hc⟩ := hr.2 h0
        injection h with h
        subst h
        exact hc j u hu
    obtain ⟨v', w', hrun, h2, h3, _, h5⟩ := run_append_own_at (P := P) w base t ty e i z size bytes ht hi hz hsize hby hzs hsz v n xs hown ad m c news hr.1 hcells h1 h63 hbytes hbase
    exact ⟨v', w', hrun, h2, h3, h5⟩

/-- What is asked of a slice type t over elements e. -/
def ElemTy (P : Program) (t e : TypeId) (size bytes : Nat) : Prop :=
  P.underlying t = some (.slice e) ∧ 0 < size ∧ ∃ (i : TypeInfo) (z : Value), P.info? e = some i ∧ i.zero = some z ∧ i.size = size ∧ i.bytes = bytes ∧ z.cells.size = size

theorem elem_of {t e : TypeId} {z : Value} {size bytes : Nat} (ht : P.underlying t = some (.slice e)) (hi : (P.info? e).map (fun i => (i.zero, i.size, i.bytes)) = some (some z, size, bytes))
    (hz : z.cells.size = size) (hs : 0 < size) : ElemTy P t e size bytes := by
  refine ⟨ht, hs, ?_⟩
  cases h : P.info? e with
  | none => rw [h] at hi; cases hi
  | some i =>
    rw [h] at hi
    simp only [Option.map_some, Option.some.injEq, Prod.mk.injEq] at hi
    exact ⟨i, z, rfl, hi.1, hi.2.1, hi.2.2, hz⟩

theorem reads_new (cs : Array Value) (t : TypeId) (size m : Nat) (h : cs.toList.length = m * size) : Reads (w.alloc (.cells cs t)) (fun k => k = w.heap.size) size (some ⟨w.heap.size, 0, none⟩) m cs.toList :=
  ⟨h, fun _ => ⟨_, rfl, rfl, by simp, fun j u hu => by
    have hb : Blk (w.alloc (.cells cs t)) w.heap.size t cs := Blk.new w t cs
    have := hb.cell j
    rw [Addr.add_lit, Nat.zero_add, this]
    simpa using hu⟩⟩

/-- The block of a slice's cells. -/
def blkOf (A : Option Addr) : Option Nat := A.map (·.block)
theorem own_form {w : World} {base : Nat} {e : TypeId} {size : Nat} {v : Value} {n : Nat} {xs : List Value} (h : w.ownsRow base e size v n xs) : ∃ A c, v = .slice A n c ∧ v.ownBlock = blkOf A := by
  rcases h.2 with ⟨rfl, rfl⟩ | ⟨g, cap, cur, rfl, _⟩
  · exact ⟨none, 0, rfl, rfl⟩
  · exact ⟨_, _, rfl, rfl⟩
theorem ownBlock_slice (A : Option Addr) (n c : Nat) : (Value.slice A n c).ownBlock = blkOf A := by cases A <;> rfl

theorem wp_append_src {o : Oper} {a : Act} {K : Act → World → Prop} {Q : Exit → Act → World → Prop} (s x : Operand) (t : TypeId)
    (ho : o.op = .call { callee := .builtin .append, args := #[s, x], argTypes := #[t, t] })
    {base size bytes : Nat} {e : TypeId} (E : ElemTy P t e size bytes)
    {D : Option Addr} {n cc : Nat} {xs : List Value} (hs : a.eval s = .slice D n cc) (hown : w.ownsRow base e size (.slice D n cc) n xs)
    {S : Nat → Prop} {A : Option Addr} {m c : Nat} {news : List Value} (hx : a.eval x = .slice A m c) (hr : Reads w S size A m news) (h1 : ∀ u ∈ news, u.oneCell' = true)
    (h63 : n + m ≤ maxLen) (hbytes : (n + m) * bytes ≤ 140737488355328) (hbase : base ≤ w.heap.size)
    (h : ∀ D' c' w', w'.ownsRow base e size (.slice D' (n + m) c') (n + m) (xs ++ news) → w.grownBy w' (blkOf D) → (blkOf D' = blkOf D ∨ blkOf D' = some w.heap.size) → K (a.put o.dst (.slice D' (n + m) c')) w') : o.wp P a w K Q := by
  obtain ⟨ht, hsz, i, z, hi, hz, hsize, hby, hzs⟩ := E
  obtain ⟨v', w', hrun, h2, h3, h4⟩ := run_append_src (P := P) w base t o.type e i z size bytes ht hi hz hsize hby hzs hsz _ n xs hown S A m c news hr h1 h63 hbytes hbase
  obtain ⟨D', c', rfl, hob⟩ := own_form h2
  rw [ownBlock_slice] at h3 h4
  rw [ownBlock_slice] at h4
  unfold Oper.wp execOp
  simp only [ho, resolve, invoke, builtin, Sem.run_bind, Sem.run_pure, Result.andThen_ok, List.map_toArray, List.map_cons, List.map_nil, hs, hx, hrun]
  exact h D' c' w' h2 h3 h4

theorem wpList_append_src {ops : Array Oper} {rest : List Oper} {o : Oper} {a : Act} {Q : Exit → Act → World → Prop} (hgd : o.guard = none) (s x : Operand) {t : TypeId}
    (ho : o.op = .call { callee := .builtin .append, args := #[s, x], argTypes := #[t, t] })
    {base size bytes : Nat} {e : TypeId} (E : ElemTy P t e size bytes)
    {D : Option Addr} {n cc : Nat} {xs : List Value} (hs : a.eval s = .slice D n cc) (hown : w.ownsRow base e size (.slice D n cc) n xs)
    {S : Nat → Prop} {A : Option Addr} {m c : Nat} {news : List Value} (hx : a.eval x = .slice A m c) (hr : Reads w S size A m news) (h1 : ∀ u ∈ news, u.oneCell' = true)
    (h63 : n + m ≤ maxLen) (hbytes : (n + m) * bytes ≤ 140737488355328) (hbase : base ≤ w.heap.size)
    (h : ∀ D' c' w', w'.ownsRow base e size (.slice D' (n + m) c') (n + m) (xs ++ news) → w.grownBy w' (blkOf D) → (blkOf D' = blkOf D ∨ blkOf D' = some w.heap.size) → wpList P ops Q rest (a.put o.dst (.slice D' (n + m) c')) w') : wpList P ops Q (o :: rest) a w :=
  wpList_plain hgd fun _ hK => wp_append_src w s x t ho E hs hown hx hr h1 h63 hbytes hbase fun D' c' w' h2 h3 h4 => hK _ _ (h D' c' w' h2 h3 h4)

/-- .. at a step of a region that draws its order. -/
theorem step_append_src {ops : Array Oper} {o : Oper} {a : Act} {K : Act → World → Prop} {Q : Exit → Act → World → Prop} {F : Prop} (hgd : Region.wanted o (yielded ops a.tmps) = true) (s x : Operand) {t : TypeId}
    (ho : o.op = .call { callee := .builtin .append, args := #[s, x], argTypes := #[t, t] })
    {base size bytes : Nat} {e : TypeId} (E : ElemTy P t e size bytes)
    {D : Option Addr} {n cc : Nat} {xs : List Value} (hs : a.eval s = .slice D n cc) (hown : w.ownsRow base e size (.slice D n cc) n xs)
    {S : Nat → Prop} {A : Option Addr} {m c : Nat} {news : List Value} (hx : a.eval x = .slice A m c) (hr : Reads w S size A m news) (h1 : ∀ u ∈ news, u.oneCell' = true)
    (h63 : n + m ≤ maxLen) (hbytes : (n + m) * bytes ≤ 140737488355328) (hbase : base ≤ w.heap.size)
    (h : ∀ D' c' w', w'.ownsRow base e size (.slice D' (n + m) c') (n + m) (xs ++ news) → w.grownBy w' (blkOf D) → (blkOf D' = blkOf D ∨ blkOf D' = some w.heap.size) → K (a.put o.dst (.slice D' (n + m) c')) w') :
    if Region.wanted o (yielded ops a.tmps) = true then Oper.wp P o a w K Q else F := by
  rw [if_pos hgd]
  exact wp_append_src w s x t ho E hs hown hx hr h1 h63 hbytes hbase h
end

/-- .. onto a row that is all above a bound: nothing below it turns. -/
theorem step_append_new {P : Program} {w0 w : World} {ops : Array Oper} {o : Oper} {a : Act} {K : Act → World → Prop} {Q : Exit → Act → World → Prop} {F : Prop} (hgd : Region.wanted o (yielded ops a.tmps) = true) (s x : Operand) {t : TypeId}
    (ho : o.op = .call { callee := .builtin .append, args := #[s, x], argTypes := #[t, t] })
    {size bytes : Nat} {e : TypeId} (E : ElemTy P t e size bytes) (hS : Step (fun _ => False) w0 w)
    {D : Option Addr} {n cc : Nat} {xs : List Value} (hs : a.eval s = .slice D n cc) (hown : w.ownsRow w0.heap.size e size (.slice D n cc) n xs)
    {S : Nat → Prop} {A : Option Addr} {m c : Nat} {news : List Value} (hx : a.eval x = .slice A m c) (hr : Reads w S size A m news) (h1 : ∀ u ∈ news, u.oneCell' = true)
    (h63 : n + m ≤ maxLen) (hbytes : (n + m) * bytes ≤ 140737488355328)
    (h : ∀ D' c' w', w'.ownsRow w0.heap.size e size (.slice D' (n + m) c') (n + m) (xs ++ news) → Step (fun _ => False) w0 w' → w.grownBy w' (blkOf D) → (blkOf D' = blkOf D ∨ blkOf D' = some w.heap.size) → K (a.put o.dst (.slice D' (n + m) c')) w') :
    if Region.wanted o (yielded ops a.tmps) = true then Oper.wp P o a w K Q else F := by
  refine step_append_src w hgd s x ho E hs hown hx hr h1 h63 hbytes hS.size fun D' c' w' h2 h3 h4 => h D' c' w' h2 (hS.grown h3 fun k hk => .inr ?_) h3 h4
  exact own_ge hown k (by rw [ownBlock_slice]; exact hk)

/-- A fresh empty row. -/
theorem own_fresh {w : World} {e : TypeId} {base : Nat} (size : Nat) (hb : base ≤ w.heap.size) : (w.alloc (.cells #[] e)).ownsRow base e size (.slice (some ⟨w.heap.size, 0, none⟩) 0 0) 0 [] := World.ownsRow_made w #[] 0 hb (by decide) (by simp)
theorem own_drew {w : World} {e : TypeId} {base size n : Nat} {v : Value} {xs : List Value} (h : w.ownsRow base e size v n xs) : w.drew.ownsRow base e size v n xs := h
/-- What appending to a row of the call's own has turned. -/
theorem grow_step {w0 w w1 : World} {F : Nat → Prop} {base : Nat} {e : TypeId} {size n c : Nat} {D : Option Addr} {xs : List Value} (h : Step F w0 w) (hg : w.grownBy w1 (blkOf D)) (ho : w.ownsRow base e size (.slice D n c) n xs)
    (hb : w0.heap.size ≤ base) : Step F w0 w1 := h.grown hg fun k hk => .inr (Nat.le_trans hb (own_ge ho k (by rw [ownBlock_slice]; exact hk)))
theorem own_below {w w' : World} {base : Nat} {e : TypeId} {size n : Nat} {v : Value} {xs : List Value} (h : w.ownsRow base e size v n xs) (hb : Step (fun _ => False) w w') : w'.ownsRow base e size v n xs := own_step h hb fun _ _ => id
/-- Two rows of which one lies above a bound that the other lies below. -/
theorem own_apart {w w1 : World} {base : Nat} {e : TypeId} {size n : Nat} {v : Value} {D : Option Addr} {xs : List Value} (h : w.ownsRow base e size v n xs) (hg : w.grownBy w1 (blkOf D))
    (hd : ∀ k, v.ownBlock = some k → blkOf D ≠ some k) : w1.ownsRow base e size v n xs := h.kept hg (by
  cases hv : v.ownBlock with
  | none => exact .inl rfl
  | some k => exact .inr fun e => hd k hv e.symm)

section
variable {w w' : World} {base b2 : Nat} {e e2 : TypeId} {size n s2 n2 c2 g N : Nat} {v : Value} {D D' : Option Addr} {xs ys : List Value}
theorem sep_new (h : w.ownsRow base e size v n xs) (hg : w.heap.size ≤ g) : ∀ k, v.ownBlock = some k → blkOf (some ⟨g, 0, none⟩) ≠ some k := fun k hk hb => by
  have h1 := own_lt h k hk
  simp [blkOf] at hb
  omega
theorem sep_old (h : w.ownsRow base e size v n xs) (hg : g < base) : ∀ k, v.ownBlock = some k → blkOf (some ⟨g, 0, none⟩) ≠ some k := fun k hk hb => by
  have h1 := own_ge h k hk
  simp [blkOf] at hb
  omega
theorem sep_hat (h1 : ∀ k, v.ownBlock = some k → blkOf D ≠ some k) (h2 : w.ownsRow base e size v n xs) (hN : w.heap.size ≤ N) (hat : blkOf D' = blkOf D ∨ blkOf D' = some N) : ∀ k, v.ownBlock = some k → blkOf D' ≠ some k := fun k hk hb => by
  rcases hat with h3 | h3
  · exact h1 k hk (h3 ▸ hb)
  · rw [h3] at hb
    have := own_lt h2 k hk
    simp at hb
    omega
theorem sep_own (h : w.ownsRow base e size v n xs) (h' : w'.ownsRow b2 e2 s2 (.slice D n2 c2) n2 ys) (hb : w'.heap.size ≤ base) : ∀ k, v.ownBlock = some k → blkOf D ≠ some k := fun k hk hd => by
  have h1 := own_ge h k hk
  have h2 := own_lt h' k (by rw [ownBlock_slice]; exact hd)
  omega
end

/-! ### Reslices -/
/-- Where a slice's cells begin behind a cut at k. -/
def cutA (A : Option Addr) (cap k size : Nat) : Option Addr := if cap = k then A else A.map (·.add (k * size))
theorem cutA_block (A : Option Addr) (cap k size : Nat) : blkOf (cutA A cap k size) = blkOf A := by
  unfold cutA blkOf
  split
  · rfl
  · cases A <;> simp [add_block]
theorem cutA_zero (A : Option Addr) (cap size : Nat) : cutA A cap 0 size = A := by
  unfold cutA
  split
  · rfl
  · cases A <;> simp [Addr.add]

section
variable {P : Program} {t e : TypeId} {size bytes : Nat}
theorem slice_lh (E : ElemTy P t e size bytes) (w : World) (D : Option Addr) (n c : Nat) (k k' : IntKind) (l h : Int) (h0 : 0 ≤ l) (h1 : l ≤ h) (h2 : h ≤ c) :
    (Instr.slice t (.slice D n c) (some (.int k l)) (some (.int k' h)) none).run P w = .ok (.slice (cutA D c l.toNat size) (h.toNat - l.toNat) (c - l.toNat)) w := by
  obtain ⟨ht, _, i, z, hi, _, hs, _⟩ := E
  have he : P.elem t = e := by simp [Program.elem, ht]
  rw [run_slice_lh w t D n c (by rw [ht, he]) k k' l h h0 h1 h2, he]
  simp [sizeOf, typeInfo, hi, hs, sliced, cutA]
theorem slice_h (E : ElemTy P t e size bytes) (w : World) (D : Option Addr) (n c : Nat) (k : IntKind) (h : Int) (h0 : 0 ≤ h) (h2 : h ≤ c) :
    (Instr.slice t (.slice D n c) none (some (.int k h)) none).run P w = .ok (.slice D h.toNat c) w := by
  obtain ⟨ht, _, i, z, hi, _, hs, _⟩ := E
  have he : P.elem t = e := by simp [Program.elem, ht]
  have hz := cutA_zero D c size
  unfold cutA at hz
  rw [run_slice_h w t D n c (by rw [ht, he]) k h h0 h2, he]
  simp [sizeOf, typeInfo, hi, hs, sliced]
  simpa using hz
theorem slice_l (E : ElemTy P t e size bytes) (w : World) (D : Option Addr) (n c : Nat) (k : IntKind) (l : Int) (h0 : 0 ≤ l) (h1 : l ≤ n) :
    (Instr.slice t (.slice D n c) (some (.int k l)) none none).run P w = .ok (.slice (cutA D c l.toNat size) (n - l.toNat) (c - l.toNat)) w := by
  obtain ⟨ht, _, i, z, hi, _, hs, _⟩ := E
  have he : P.elem t = e := by simp [Program.elem, ht]
  rw [run_slice_l w t D n c (by rw [ht, he]) k l h0 h1, he]
  simp [sizeOf, typeInfo, hi, hs, sliced, cutA]
/-- .. with the bounds as natural numbers, in whatever spelling they come. -/
theorem slice_ln (E : ElemTy P t e size bytes) (D : Option Addr) (n c : Nat) (k : IntKind) (i : Int) (l m r : Nat) (hi : i = l) (hl : l ≤ n) (hm : m = n - l) (hr : r = c - l) :
    ∀ w : World, (Instr.slice t (.slice D n c) (some (.int k i)) none none).run P w = .ok (.slice (cutA D c l size) m r) w := by
  intro w
  subst hi hm hr
  rw [slice_l E w D n c k l (by omega) (by omega)]
  rfl
theorem slice_hn (E : ElemTy P t e size bytes) (D : Option Addr) (n c : Nat) (k : IntKind) (i : Int) (h : Nat) (hi : i = h) (hc : h ≤ c) :
    ∀ w : World, (Instr.slice t (.slice D n c) none (some (.int k i)) none).run P w = .ok (.slice D h c) w := by
  intro w
  subst hi
  rw [slice_h E w D n c k h (by omega) (by omega)]
  rfl
theorem slice_lhn (E : ElemTy P t e size bytes) (D : Option Addr) (n c : Nat) (k k' : IntKind) (i j : Int) (l h m r : Nat) (hi : i = l) (hj : j = h) (hl : l ≤ h) (hc : h ≤ c) (hm : m = h - l) (hr : r = c - l) :
    ∀ w : World, (Instr.slice t (.slice D n c) (some (.int k i)) (some (.int k' j)) none).run P w = .ok (.slice (cutA D c l size) m r) w := by
  intro w
  subst hi hj hm hr
  rw [slice_lh E w D n c k k' l h (by omega) (by omega) (by omega)]
  rfl
end
theorem own_cap {w : World} {base : Nat} {e : TypeId} {size n c : Nat} {D : Option Addr} {xs : List Value} (h : w.ownsRow base e size (.slice D n c) n xs) : n ≤ c := by
  rcases h.2 with ⟨hv, rfl⟩ | ⟨g, cap, cur, hv, hb, hg, hnc, _⟩
  · exact Nat.zero_le _
  · injection hv with h1 h2 h3
    omega
/-- What an owned row is, cut at its end. -/
theorem own_take {w : World} {base : Nat} {e : TypeId} {size n c : Nat} {D : Option Addr} {xs : List Value} (h : w.ownsRow base e size (.slice D n c) n xs) {k : Nat} (hk : k ≤ n) :
    w.ownsRow base e size (.slice D k c) k (xs.take (k * size)) := by
  have hl := h.1
  have hle : k * size ≤ n * size := Nat.mul_le_mul_right _ hk
  refine ⟨by rw [List.length_take, hl]; exact Nat.min_eq_left hle, ?_⟩
  rcases h.2 with ⟨hv, rfl⟩ | ⟨g, cap, cur, hv, hb, hg, hnc, hcm, hcs, ht⟩
  · injection hv with h1 h2 h3
    subst h1; subst h3
    have : k = 0 := by omega
    subst this
    exact .inl ⟨rfl, rfl⟩
  · injection hv with h1 h2 h3
    subst h1; subst h3
    refine .inr ⟨g, c, cur, rfl, hb, hg, by omega, hcm, hcs, ?_⟩
    rw [← ht, List.take_take, Nat.min_eq_left hle]
end Go.Proofs.Ytmheofkakcomdaa
