/-
  frames.Stacks: values, blocks, functions in memory.
-/
import Derived.Test.YtokchoocelmdoaaFrmB
import Derived.Test.YtokchoocelmdoaaRes
import Derived.Test.YtokchoocelmdoaaOpn
set_option linter.unusedVariables false
set_option linter.unusedSimpArgs false
namespace Go.Proofs.Ytokchoocelmdoaa
open Go.RowKit

/-- A block that is open. -/
structure Lb where
  st : Int
  dst : Int
  ar : Int
  h : Nat
  lp : Bool
instance : Inhabited Lb := ⟨⟨0, 0, 0, 0, false⟩⟩
def Lb.cells (x : Lb) : List Value := [.int .i64 x.st, .int .i64 x.dst, .int .i64 x.ar, .int .i64 (x.h : Int), .bool x.lp]
/-- A function that runs. -/
structure Fm where
  ps : ByteArray
  rs : ByteArray
  lo : ByteArray
  A : Option Addr
  n : Nat
  c : Nat
  lb : Nat
  h : Nat
instance : Inhabited Fm := ⟨⟨.empty, .empty, .empty, none, 0, 0, 0, 0⟩⟩
def Fm.cells (x : Fm) : List Value := [.string x.ps, .string x.rs, .int .i64 0, .string x.lo, .slice none 0 0, .slice none 0 0, .slice none 0 0, .int .i64 0, .slice x.A x.n x.c, .int .i64 (x.lb : Int), .int .i64 (x.h : Int)]
theorem Lb.len (x : Lb) : x.cells.length = 5 := rfl
theorem Fm.len (x : Fm) : x.cells.length = 11 := rfl
def lbs (l : List Lb) : List Value := l.flatMap Lb.cells
def fms (l : List Fm) : List Value := l.flatMap Fm.cells
theorem flat_take {α : Type} (c : α → List Value) (m : Nat) (hc : ∀ a, (c a).length = m) (l : List α) (k : Nat) : (l.take k).flatMap c = (l.flatMap c).take (k * m) := by
  induction l generalizing k with
  | nil => simp
  | cons f l ih =>
    cases k with
    | zero => simp
    | succ k =>
      rw [List.take_succ_cons, List.flatMap_cons, List.flatMap_cons, ih, show (k + 1) * m = (c f).length + k * m by rw [hc, Nat.add_mul]; omega, List.take_length_add_append]
theorem flat_drop {α : Type} (c : α → List Value) (m : Nat) (hc : ∀ a, (c a).length = m) (l : List α) (k : Nat) : (l.drop k).flatMap c = (l.flatMap c).drop (k * m) := by
  induction l generalizing k with
  | nil => simp
  | cons f l ih =>
    cases k with
    | zero => simp
    | succ k =>
      rw [List.drop_succ_cons, List.flatMap_cons, ih, show (k + 1) * m = (c f).length + k * m by rw [hc, Nat.add_mul]; omega, List.drop_length_add_append]
theorem lbs_append (l m : List Lb) : lbs (l ++ m) = lbs l ++ lbs m := by simp [lbs]
theorem lbs_take (l : List Lb) (k : Nat) : lbs (l.take k) = (lbs l).take (k * 5) := flat_take Lb.cells 5 Lb.len l k
theorem lbs_get (l : List Lb) (k j : Nat) (h : k < l.length) (hj : j < 5) : (lbs l)[k * 5 + j]? = (l[k].cells)[j]? := flat_get Lb.cells 5 Lb.len l k j h hj
theorem fms_append (l m : List Fm) : fms (l ++ m) = fms l ++ fms m := by simp [fms]
theorem fms_take (l : List Fm) (k : Nat) : fms (l.take k) = (fms l).take (k * 11) := flat_take Fm.cells 11 Fm.len l k
theorem fms_get (l : List Fm) (k j : Nat) (h : k < l.length) (hj : j < 11) : (fms l)[k * 11 + j]? = (l[k].cells)[j]? := flat_get Fm.cells 11 Fm.len l k j h hj
theorem E_lb : ElemTy Try.prog 44 60 5 40 := elem_of Try.underlying44 (z := .agg #[.int .i64 0, .int .i64 0, .int .i64 0, .int .i64 0, .bool false]) (by kernel_rfl) rfl (by decide)
theorem E_fm : ElemTy Try.prog 45 74 11 176 := elem_of Try.underlying45 (z := .agg #[.string ByteArray.empty, .string ByteArray.empty, .int .i64 0, .string ByteArray.empty, .slice none 0 0, .slice none 0 0, .slice none 0 0, .int .i64 0, .slice none 0 0, .int .i64 0, .int .i64 0]) (by kernel_rfl) rfl (by decide)

/-- The stacks at block g. -/
structure FsAt (w : World) (g : Nat) (D1 : Option Addr) (c1 : Nat) (D2 : Option Addr) (c2 : Nat) (D3 : Option Addr) (c3 : Nat) (xs : List Int) (ls : List Lb) (fs : List Fm) (most : Int) : Prop where
  st : StAt w 0 g D1 c1 xs (.slice D2 ls.length c2) (.slice D3 fs.length c3) most
  lo : w.ownsRow 0 60 5 (.slice D2 ls.length c2) ls.length (lbs ls)
  fo : w.ownsRow 0 74 11 (.slice D3 fs.length c3) fs.length (fms fs)
def FI (g : Nat) (D1 D2 D3 : Option Addr) (k : Nat) : Prop := k = g ∨ blkOf D1 = some k ∨ blkOf D2 = some k ∨ blkOf D3 = some k
def Fs (w : World) (I : Nat → Prop) (g : Nat) (xs : List Int) (ls : List Lb) (fs : List Fm) (most : Int) : Prop := ∃ D1 c1 D2 c2 D3 c3, FsAt w g D1 c1 D2 c2 D3 c3 xs ls fs most ∧ ∀ k, I k ↔ FI g D1 D2 D3 k
def FsUp (w : World) (I : Nat → Prop) (g : Nat) (xs : List Int) (ls : List Lb) (fs : List Fm) (most : Int) (w' : World) : Prop := ∃ I', Fs w' I' g xs ls fs most ∧ Upd w I I' w'

section
variable {w w1 w' : World} {I F : Nat → Prop} {g c1 c2 c3 : Nat} {D1 D2 D3 : Option Addr} {xs : List Int} {ls : List Lb} {fs : List Fm} {most : Int}
theorem FsAt.ne2 (h : FsAt w g D1 c1 D2 c2 D3 c3 xs ls fs most) : blkOf D2 ≠ some g := by
  have := own_tag h.lo h.st.blk (by decide)
  rwa [ownBlock_slice] at this
theorem FsAt.ne3 (h : FsAt w g D1 c1 D2 c2 D3 c3 xs ls fs most) : blkOf D3 ≠ some g := by
  have := own_tag h.fo h.st.blk (by decide)
  rwa [ownBlock_slice] at this
theorem FsAt.n12 (h : FsAt w g D1 c1 D2 c2 D3 c3 xs ls fs most) : ∀ k, blkOf D1 = some k → blkOf D2 ≠ some k := fun k hk => by
  have := own_tag2 h.st.own h.lo (by decide) k (by rwa [ownBlock_slice])
  rwa [ownBlock_slice] at this
theorem FsAt.n13 (h : FsAt w g D1 c1 D2 c2 D3 c3 xs ls fs most) : ∀ k, blkOf D1 = some k → blkOf D3 ≠ some k := fun k hk => by
  have := own_tag2 h.st.own h.fo (by decide) k (by rwa [ownBlock_slice])
  rwa [ownBlock_slice] at this
theorem FsAt.n23 (h : FsAt w g D1 c1 D2 c2 D3 c3 xs ls fs most) : ∀ k, blkOf D2 = some k → blkOf D3 ≠ some k := fun k hk => by
  have := own_tag2 h.lo h.fo (by decide) k (by rwa [ownBlock_slice])
  rwa [ownBlock_slice] at this
theorem FsAt.keep (h : FsAt w g D1 c1 D2 c2 D3 c3 xs ls fs most) (hs : Step F w w') (hd : ∀ k, FI g D1 D2 D3 k → ¬ F k) : FsAt w' g D1 c1 D2 c2 D3 c3 xs ls fs most :=
  ⟨⟨h.st.blk.step hs (hd g (.inl rfl)), own_step h.st.own hs (fun k hk => hd k (.inr (.inl (by rwa [ownBlock_slice] at hk)))), Nat.zero_le _⟩, own_step h.lo hs (fun k hk => hd k (.inr (.inr (.inl (by rwa [ownBlock_slice] at hk))))), own_step h.fo hs (fun k hk => hd k (.inr (.inr (.inr (by rwa [ownBlock_slice] at hk)))))⟩
theorem FsAt.quiet (h : FsAt w g D1 c1 D2 c2 D3 c3 xs ls fs most) (hs : Step (fun _ => False) w w') : FsAt w' g D1 c1 D2 c2 D3 c3 xs ls fs most := h.keep hs (fun _ _ => id)
theorem FsAt.inn (h : FsAt w g D1 c1 D2 c2 D3 c3 xs ls fs most) : ∀ k, FI g D1 D2 D3 k → k < w.heap.size := fun k hk => by
  rcases hk with rfl | hk | hk | hk
  · exact h.st.blk.lt
  · exact own_lt h.st.own k (by rwa [ownBlock_slice])
  · exact own_lt h.lo k (by rwa [ownBlock_slice])
  · exact own_lt h.fo k (by rwa [ownBlock_slice])
theorem Fs.in_ (h : Fs w I g xs ls fs most) : In w I := fun k hk => by
  obtain ⟨D1, c1, D2, c2, D3, c3, h, hI⟩ := h
  exact h.inn k ((hI k).1 hk)
theorem Fs.keep (h : Fs w I g xs ls fs most) (hs : Step F w w') (hd : Apart I F) : Fs w' I g xs ls fs most := by
  obtain ⟨D1, c1, D2, c2, D3, c3, h, hI⟩ := h
  exact ⟨D1, c1, D2, c2, D3, c3, h.keep hs (fun k hk => hd k ((hI k).2 hk)), hI⟩
theorem Fs.quiet (h : Fs w I g xs ls fs most) (hs : Step (fun _ => False) w w') : Fs w' I g xs ls fs most := h.keep hs apart_none
theorem FsUp.same (h : Fs w I g xs ls fs most) : FsUp w I g xs ls fs most w := ⟨I, h, Upd.refl⟩
theorem FsUp.quiet {w2 : World} (h : FsUp w I g xs ls fs most w') (hs : Step (fun _ => False) w' w2) : FsUp w I g xs ls fs most w2 := by
  obtain ⟨I', h', u⟩ := h
  exact ⟨I', h'.quiet hs, u.quiet hs⟩
theorem FsUp.after {w0 : World} (hs : Step (fun _ => False) w0 w) (h : FsUp w I g xs ls fs most w') : FsUp w0 I g xs ls fs most w' := by
  obtain ⟨I', h', u⟩ := h
  exact ⟨I', h', u.after hs⟩
/-- The apartness from rows of another kind. -/
theorem Fs.row {e : TypeId} {size n c : Nat} {A : Option Addr} {vs : List Value} {B : Nat} (h : Fs w I g xs ls fs most) (ho : w.ownsRow B e size (.slice A n c) n vs) (h1 : e ≠ 28) (h2 : e ≠ 60) (h3 : e ≠ 74) (h4 : e ≠ 47) : ∀ k, blkOf A = some k → ¬ I k := fun k hk e => by
  obtain ⟨D1, c1, D2, c2, D3, c3, h, hI⟩ := h
  have hk' : (Value.slice A n c).ownBlock = some k := by rwa [ownBlock_slice]
  rcases (hI k).1 e with rfl | e | e | e
  · exact own_tag ho h.st.blk h4 hk'
  · have := own_tag2 ho h.st.own h1 k hk'
    rw [ownBlock_slice] at this
    exact this e
  · have := own_tag2 ho h.lo h2 k hk'
    rw [ownBlock_slice] at this
    exact this e
  · have := own_tag2 ho h.fo h3 k hk'
    rw [ownBlock_slice] at this
    exact this e
/-- The values have turned. -/
theorem FsAt.vals {ys : List Int} (h : FsAt w g D1 c1 D2 c2 D3 c3 xs ls fs most) (hI : ∀ k, I k ↔ FI g D1 D2 D3 k) (t : Turned w 0 g D1 (.slice D2 ls.length c2) (.slice D3 fs.length c3) most ys w') : FsUp w I g ys ls fs most w' := by
  obtain ⟨D', c', hs, st, hD⟩ := t
  refine ⟨FI g D' D2 D3, ⟨D', c', D2, c2, D3, c3, ⟨hs, own_step h.lo st (fun k hk e => ?_), own_step h.fo st (fun k hk e => ?_)⟩, fun _ => Iff.rfl⟩, st.mono fun k _ hk => (hI k).2 ?_, fun k hk => ?_⟩
  · rw [ownBlock_slice] at hk
    rcases e with rfl | e
    · exact h.ne2 hk
    · exact h.n12 k e hk
  · rw [ownBlock_slice] at hk
    rcases e with rfl | e
    · exact h.ne3 hk
    · exact h.n13 k e hk
  · rcases hk with rfl | hk
    · exact .inl rfl
    · exact .inr (.inl hk)
  · rcases hk with e | e | e | e
    · exact .inl ((hI k).2 (.inl e))
    · rcases hD k e with e | e
      · exact .inl ((hI k).2 (.inr (.inl e)))
      · exact .inr e
    · exact .inl ((hI k).2 (.inr (.inr (.inl e))))
    · exact .inl ((hI k).2 (.inr (.inr (.inr e))))
/-- The blocks' row has turned, and then the field that bears it. -/
theorem FsAt.labels {ls' : List Lb} {D' : Option Addr} {n' c' : Nat} (h : FsAt w g D1 c1 D2 c2 D3 c3 xs ls fs most) (hI : ∀ k, I k ↔ FI g D1 D2 D3 k)
    (hs : Step (fun k => blkOf D2 = some k) w w1) (hn : n' = ls'.length) (ho : w1.ownsRow 0 60 5 (.slice D' n' c') n' (lbs ls')) (hD : ∀ k, blkOf D' = some k → blkOf D2 = some k ∨ w.heap.size ≤ k) :
    FsUp w I g xs ls' fs most (w1.setCell ⟨g, 1, none⟩ (.slice D' n' c')) := by
  subst hn
  have hb1 : Blk w1 g _ _ := h.st.blk.step hs h.ne2
  have hb2 := hb1.set_ 1 (.slice D' ls'.length c')
  have hgD : blkOf D' ≠ some g := fun e => by
    rcases hD g e with h1 | h1
    · exact h.ne2 h1
    · have := h.st.blk.lt; omega
  have v1 := own_step h.st.own hs (fun k hk => by rw [ownBlock_slice] at hk; exact h.n12 k hk)
  have f1 := own_step h.fo hs (fun k hk e => by rw [ownBlock_slice] at hk; exact h.n23 k e hk)
  refine ⟨FI g D1 D' D3, ⟨D1, c1, D', c', D3, c3, ⟨⟨by simpa using hb2, own_set v1 (by rw [ownBlock_slice]; exact h.st.ne) _, Nat.zero_le _⟩, own_set ho (by rw [ownBlock_slice]; exact hgD) _, own_set f1 (by rw [ownBlock_slice]; exact h.ne3) _⟩, fun _ => Iff.rfl⟩, ?_, fun k hk => ?_⟩
  · exact (hs.mono fun k _ hk => (hI k).2 (.inr (.inr (.inl hk)))).setCell (.inl ((hI g).2 (.inl rfl))) _
  · rcases hk with e | e | e | e
    · exact .inl ((hI k).2 (.inl e))
    · exact .inl ((hI k).2 (.inr (.inl e)))
    · rcases hD k e with e | e
      · exact .inl ((hI k).2 (.inr (.inr (.inl e))))
      · exact .inr e
    · exact .inl ((hI k).2 (.inr (.inr (.inr e))))
theorem FsAt.frames {fs' : List Fm} {D' : Option Addr} {n' c' : Nat} (h : FsAt w g D1 c1 D2 c2 D3 c3 xs ls fs most) (hI : ∀ k, I k ↔ FI g D1 D2 D3 k)
    (hs : Step (fun k => blkOf D3 = some k) w w1) (hn : n' = fs'.length) (ho : w1.ownsRow 0 74 11 (.slice D' n' c') n' (fms fs')) (hD : ∀ k, blkOf D' = some k → blkOf D3 = some k ∨ w.heap.size ≤ k) :
    FsUp w I g xs ls fs' most (w1.setCell ⟨g, 2, none⟩ (.slice D' n' c')) := by
  subst hn
  have hb1 : Blk w1 g _ _ := h.st.blk.step hs h.ne3
  have hb2 := hb1.set_ 2 (.slice D' fs'.length c')
  have hgD : blkOf D' ≠ some g := fun e => by
    rcases hD g e with h1 | h1
    · exact h.ne3 h1
    · have := h.st.blk.lt; omega
  have v1 := own_step h.st.own hs (fun k hk => by rw [ownBlock_slice] at hk; exact h.n13 k hk)
  have l1 := own_step h.lo hs (fun k hk => by rw [ownBlock_slice] at hk; exact h.n23 k hk)
  refine ⟨FI g D1 D2 D', ⟨D1, c1, D2, c2, D', c', ⟨⟨by simpa using hb2, own_set v1 (by rw [ownBlock_slice]; exact h.st.ne) _, Nat.zero_le _⟩, own_set l1 (by rw [ownBlock_slice]; exact h.ne2) _, own_set ho (by rw [ownBlock_slice]; exact hgD) _⟩, fun _ => Iff.rfl⟩, ?_, fun k hk => ?_⟩
  · exact (hs.mono fun k _ hk => (hI k).2 (.inr (.inr (.inr hk)))).setCell (.inl ((hI g).2 (.inl rfl))) _
  · rcases hk with e | e | e | e
    · exact .inl ((hI k).2 (.inl e))
    · exact .inl ((hI k).2 (.inr (.inl e)))
    · exact .inl ((hI k).2 (.inr (.inr (.inl e))))
    · rcases hD k e with e | e
      · exact .inl ((hI k).2 (.inr (.inr (.inr e))))
      · exact .inr e
/-- A block's cells. -/
theorem FsAt.lcell (h : FsAt w g D1 c1 D2 c2 D3 c3 xs ls fs most) {k : Nat} (hk : k < ls.length) : ∃ gl, D2 = some ⟨gl, 0, none⟩ ∧ gl < w.heap.size ∧
    w.cell? ⟨gl, k * 5, none⟩ = some (.int .i64 ls[k].st) ∧ w.cell? ⟨gl, k * 5 + 1, none⟩ = some (.int .i64 ls[k].dst) ∧ w.cell? ⟨gl, k * 5 + 2, none⟩ = some (.int .i64 ls[k].ar) ∧ w.cell? ⟨gl, k * 5 + 3, none⟩ = some (.int .i64 (ls[k].h : Int)) ∧ w.cell? ⟨gl, k * 5 + 4, none⟩ = some (.bool ls[k].lp) := by
  obtain ⟨gl, e1, _, hlt, hc, _⟩ := own_row h.lo (by omega)
  exact ⟨gl, e1, hlt, hc (k * 5) _ (lbs_get ls k 0 hk (by omega)), hc (k * 5 + 1) _ (lbs_get ls k 1 hk (by omega)), hc (k * 5 + 2) _ (lbs_get ls k 2 hk (by omega)), hc (k * 5 + 3) _ (lbs_get ls k 3 hk (by omega)), hc (k * 5 + 4) _ (lbs_get ls k 4 hk (by omega))⟩
/-- A function's cells: those that are read. -/
theorem FsAt.fcell (h : FsAt w g D1 c1 D2 c2 D3 c3 xs ls fs most) {k : Nat} (hk : k < fs.length) : ∃ gf, D3 = some ⟨gf, 0, none⟩ ∧ gf < w.heap.size ∧
    w.cell? ⟨gf, k * 11 + 1, none⟩ = some (.string fs[k].rs) ∧ w.cell? ⟨gf, k * 11 + 7, none⟩ = some (.int .i64 0) ∧ w.cell? ⟨gf, k * 11 + 8, none⟩ = some (.slice fs[k].A fs[k].n fs[k].c) ∧ w.cell? ⟨gf, k * 11 + 9, none⟩ = some (.int .i64 (fs[k].lb : Int)) ∧ w.cell? ⟨gf, k * 11 + 10, none⟩ = some (.int .i64 (fs[k].h : Int)) := by
  obtain ⟨gf, e1, _, hlt, hc, _⟩ := own_row h.fo (by omega)
  exact ⟨gf, e1, hlt, hc (k * 11 + 1) _ (fms_get fs k 1 hk (by omega)), hc (k * 11 + 7) _ (fms_get fs k 7 hk (by omega)), hc (k * 11 + 8) _ (fms_get fs k 8 hk (by omega)), hc (k * 11 + 9) _ (fms_get fs k 9 hk (by omega)), hc (k * 11 + 10) _ (fms_get fs k 10 hk (by omega))⟩
end
end Go.Proofs.Ytokchoocelmdoaa
