/-
  CtrlPlays: the blocks of the reference and the control's frames; the plain laws.
-/
import Derived.Test.YtfechgpdlabgaaaCtlG
import Derived.Test.YtfechgpdlabgaaaCtlD
set_option linter.unusedVariables false
set_option linter.unusedSimpArgs false
namespace Go.Proofs.Ytfechgpdlabgaaa
open Go.RowKit

theorem popF_shift (p o : List UInt8) (d : Bool) : popF (p ++ o) p.length d = (p ++ (popF o 0 d).1, (popF o 0 d).2) := by
  unfold popF
  rcases o.eq_nil_or_concat with rfl | ⟨m, x, rfl⟩
  · simp
  · simp only [List.concat_eq_append]
    rw [if_neg (by simp; omega), if_neg (by simp)]
    simp only [List.length_append, List.length_cons, List.length_nil]
    have e1 : p.length + (m.length + (0 + 1)) - 1 = p.length + m.length := by omega
    have e2 : m.length + (0 + 1) - 1 = m.length := by omega
    rw [e1, e2, List.take_left' rfl, ← List.append_assoc, List.take_left' (by simp)]
    simp [List.getD]
theorem wantF_shift (p o : List UInt8) (t : Int) (d : Bool) : wantF (p ++ o) t p.length d = (p ++ (wantF o t 0 d).1, (wantF o t 0 d).2) := by
  unfold wantF
  rw [popF_shift]
  simp only
  split
  · rfl
  · split
    · rfl
    · split <;> rfl
theorem wantAllF_shift (p : List UInt8) (d : Bool) : ∀ (t o : List UInt8), wantAllF (p ++ o) t p.length d = (p ++ (wantAllF o t 0 d).1, (wantAllF o t 0 d).2)
  | [], o => rfl
  | x :: t, o => by
    rw [wantAllF, wantAllF, wantF_shift]
    simp only
    split
    · rfl
    · exact wantAllF_shift p d t _
theorem wantF_zero (l : List UInt8) (f : Int) (d : Bool) : wantF l 0 f d = popF l f d := by
  unfold wantF
  simp only
  split
  · rename_i h
    unfold popF at h ⊢
    split
    · rfl
    · rename_i h2; rw [if_neg h2] at h; exact absurd rfl h
  · rename_i h
    rw [Decidable.not_not] at h
    split
    · rename_i h2
      exact Prod.ext rfl (Prod.ext h2.symm h.symm)
    · rw [if_pos (by simp)]
      exact Prod.ext rfl (Prod.ext rfl h.symm)

/-- The frames that stand for the blocks; the first one begins at height h. -/
def fsOf (h : Nat) : List Bk → List Fr
  | [] => []
  | b :: l => ⟨b.op, b.res, h, b.dead⟩ :: fsOf (h + b.own.length) l
theorem fsOf_length : ∀ (l : List Bk) (h : Nat), (fsOf h l).length = l.length
  | [], _ => rfl
  | b :: l, h => by simp [fsOf, fsOf_length l]
theorem fsOf_append : ∀ (l m : List Bk) (h : Nat), fsOf h (l ++ m) = fsOf h l ++ fsOf (h + (allOwn l).length) m
  | [], m, h => by simp [fsOf, allOwn]
  | b :: l, m, h => by
    simp only [List.cons_append, fsOf, fsOf_append l m]
    simp [allOwn, Nat.add_assoc]
theorem fsOf_last (pre : List Bk) (b : Bk) : fsOf 0 (pre ++ [b]) = fsOf 0 pre ++ [⟨b.op, b.res, (allOwn pre).length, b.dead⟩] := by
  rw [fsOf_append]
  simp [fsOf]
theorem fsOf_top (pre : List Bk) (b : Bk) : (fsOf 0 (pre ++ [b]))[(fsOf 0 (pre ++ [b])).length - 1]? = some ⟨b.op, b.res, (allOwn pre).length, b.dead⟩ := by
  rw [fsOf_last]
  simp
theorem allOwn_last (pre : List Bk) (b : Bk) : allOwn (pre ++ [b]) = allOwn pre ++ b.own := by
  rw [allOwn_append]
  simp [allOwn]
theorem fsOf_get : ∀ (l : List Bk) (h k : Nat) (hk : k < l.length), ((fsOf h l).getD k default).op = l[k].op ∧ ((fsOf h l).getD k default).res = l[k].res
  | b :: l, h, 0, _ => by simp [fsOf]
  | b :: l, h, k + 1, hk => by
    have := fsOf_get l (h + b.own.length) k (by simpa using hk)
    simpa [fsOf] using this
theorem fsOf_dead (pre : List Bk) (b : Bk) : deadF (fsOf 0 (pre ++ [b])) = fsOf 0 (pre ++ [{ b with own := [], dead := true }]) := by
  unfold deadF
  rw [fsOf_last, fsOf_last]
  simp
theorem fsOf_drop (pre : List Bk) (b : Bk) : (fsOf 0 (pre ++ [b])).dropLast = fsOf 0 pre := by
  rw [fsOf_last, List.dropLast_concat]

/-- The control and the reference's blocks, side by side. -/
structure Sta (w : World) (I J : Nat → Prop) (g gs : Nat) (A : Option Addr) (c : Nat) (l : List Bk) : Prop where
  ctl : Ctl w I g gs (allOwn l) (fsOf 0 l)
  row : Reads w J 4 A l.length (bks l)
  far : Apart J I
  inn : In w J
  cap : l.length ≤ c
/-- What a call of 'do' leaves. -/
def CDo (w : World) (I J : Nat → Prop) (g gs : Nat) (l : List Bk) (e : Ending) (w' : World) : Prop :=
  ∃ A c I' J', e = .returned (.tuple #[.slice A l.length c, .bool true]) ∧ Sta w' I' J' g gs A c l ∧ Upd w I I' w' ∧ ∀ k, J' k → J k ∨ w.heap.size ≤ k

section
variable {w w1 w' : World} {I I1 J : Nat → Prop} {g gs c : Nat} {A : Option Addr} {l : List Bk}
theorem Sta.box (h : Sta w I J g gs A c l) (hs : Step (fun _ => False) w w1) : Sta w1 I J g gs A c l := ⟨h.ctl.quiet hs, h.row.step hs (fun _ _ => id), h.far, hs.in_ h.inn, h.cap⟩
/-- The control has turned (I1), and then a new row was made beside it. -/
theorem cdo_new {A' : Option Addr} {c' : Nat} {l' : List Bk} (hu : Upd w I I1 w1) (hc : Ctl w1 I1 g gs (allOwn l') (fsOf 0 l')) (hn : BkNew w1 A' c' l' w') : CDo w I J g gs l' (.returned (.tuple #[.slice A' l'.length c', .bool true])) w' := by
  refine ⟨A', c', I1, fun k => w1.heap.size ≤ k ∧ k < w'.heap.size, rfl, ⟨hc.quiet hn.2, bkres_new hn rfl, fun k hk hi => ?_, fun k hk => hk.2, own_cap hn.1⟩, hu.quiet hn.2, fun k hk => ?_⟩
  · have := hc.in_ k hi
    omega
  · right
    exact Nat.le_trans hu.1.size hk.1
/-- The control has turned, the row has not. -/
theorem cdo_old (h : Sta w I J g gs A c l) (hu : Upd w I I1 w1) (hc : Ctl w1 I1 g gs (allOwn l) (fsOf 0 l)) : CDo w I J g gs l (.returned (.tuple #[.slice A l.length c, .bool true])) w1 :=
  ⟨A, c, I1, J, rfl, ⟨hc, h.row.step hu.1 h.far, hu.apart h.inn h.far, hu.in_ h.inn, h.cap⟩, hu, fun k hk => .inl hk⟩
theorem CDo.quiet {w2 : World} {e : Ending} (h : CDo w I J g gs l e w') (hs : Step (fun _ => False) w' w2) : CDo w I J g gs l e w2 := by
  obtain ⟨A, c, I', J', e, h1, h2, h3⟩ := h
  exact ⟨A, c, I', J', e, h1.box hs, h2.quiet hs, h3⟩
theorem CDo.after {e : Ending} (hs : Step (fun _ => False) w w1) (h : CDo w1 I J g gs l e w') : CDo w I J g gs l e w' := by
  obtain ⟨A, c, I', J', e, h1, h2, h3⟩ := h
  exact ⟨A, c, I', J', e, h1, Upd.after hs h2, fun k hk => (h3 k hk).imp_right (Nat.le_trans hs.size)⟩
end
end Go.Proofs.Ytfechgpdlabgaaa
