/-
  Graph: the visit as a function; what it keeps.
-/
import Derived.Test.YtgchpanjfllijaaGrC
set_option linter.unusedVariables false
set_option linter.unusedSimpArgs false
namespace Go.Proofs.Ytgchpanjfllijaa
open Go.RowKit

def fnd (rows : List Rw) (s : Nm) : Option Rw := rows.find? (fun r => r.name == s)
theorem edgeF_eq (rows : List Rw) (s : Nm) : edgeF rows s = (fnd rows s).map Rw.val := rfl
abbrev Ro := Except (Nm × Int) (List Nm)
/-- One visit after another. -/
def exFold (g : List Nm → Nm → Ro) : List Nm → List Nm → Ro
  | d, [] => .ok d
  | d, t :: ts => match g d t with
    | .ok d' => exFold g d' ts
    | .error x => .error x
/-- A visit, as the document tells it. -/
def visF (rows : List Rw) : Nat → List Nm → List Nm → Nm → Ro
  | 0, _, _, _ => .ok []
  | f + 1, way, done, s =>
    if done.contains s then .ok done
    else if way.contains s then .error (s, 41)
    else match fnd rows s with
      | none => .error (s, 40)
      | some r => match exFold (visF rows f (way ++ [s])) done r.needs with
        | .ok d => .ok (d ++ [s])
        | .error x => .error x

theorem fnd_findI {rows : List Rw} {s : Nm} : (fnd rows s = none ∧ findI rows s = -1) ∨ ∃ k, ∃ h : k < rows.length, fnd rows s = some rows[k] ∧ findI rows s = (k : Int) ∧ rows[k].name = s := by
  unfold fnd findI
  cases hf : rows.findIdx? (fun r => r.name == s) with
  | none =>
    refine .inl ⟨?_, rfl⟩
    rw [List.findIdx?_eq_none_iff] at hf
    rw [List.find?_eq_none]
    intro x hx
    simpa using hf x hx
  | some k =>
    rw [List.findIdx?_eq_some_iff_getElem] at hf
    obtain ⟨h, h1, h2⟩ := hf
    refine .inr ⟨k, h, ?_, rfl, by simpa using h1⟩
    rw [List.find?_eq_some_iff_getElem]
    exact ⟨h1, k, h, rfl, fun j hj => by simpa using h2 j hj⟩

/-- Names that rows tell, each once. -/
structure Names (rows : List Rw) (l : List Nm) : Prop where
  nodup : l.Nodup
  told : ∀ s ∈ l, ∃ r ∈ rows, r.name = s
theorem sub_length : ∀ (l m : List Nm), l.Nodup → (∀ s ∈ l, s ∈ m) → l.length ≤ m.length
  | [], _, _, _ => Nat.zero_le _
  | a :: l, m, hn, hs => by
    rw [List.nodup_cons] at hn
    have ha := hs a (by simp)
    have := sub_length l (m.erase a) hn.2 (fun s h => (List.mem_erase_of_ne (show s ≠ a from fun e => hn.1 (by rw [← e]; exact h))).2 (hs s (by simp [h])))
    rw [List.length_erase_of_mem ha] at this
    have := List.length_pos_of_mem ha
    simp
    omega
theorem Names.le {rows : List Rw} {l : List Nm} (h : Names rows l) : l.length ≤ rows.length := by
  have := sub_length l (rows.map (·.name)) h.nodup (fun s hs => by
    obtain ⟨r, hr, e⟩ := h.told s hs
    exact List.mem_map.2 ⟨r, hr, e⟩)
  rwa [List.length_map] at this
theorem Names.snoc {rows : List Rw} {l : List Nm} {s : Nm} (h : Names rows l) (hs : s ∉ l) (ht : ∃ r ∈ rows, r.name = s) : Names rows (l ++ [s]) := by
  refine ⟨?_, fun x hx => ?_⟩
  · rw [List.nodup_append]
    exact ⟨h.nodup, by simp, fun a ha b hb => by simp at hb; subst hb; exact fun e => hs (e ▸ ha)⟩
  · rcases List.mem_append.1 hx with hx | hx
    · exact h.told x hx
    · simp at hx; subst hx; exact ht
theorem fnd_some {rows : List Rw} {s : Nm} {r : Rw} (h : fnd rows s = some r) : r ∈ rows ∧ r.name = s :=
  ⟨List.mem_of_find?_eq_some h, by have := List.find?_some h; simpa using this⟩

/-- Those that are done, and those on the way. -/
structure Inv (rows : List Rw) (way done : List Nm) : Prop where
  wy : Names rows way
  dn : Names rows done
  apart : ∀ s ∈ done, s ∉ way

theorem Inv.push {rows : List Rw} {way done : List Nm} {s : Nm} (h : Inv rows way done) (hw : s ∉ way) (hd : s ∉ done) (ht : ∃ r ∈ rows, r.name = s) : Inv rows (way ++ [s]) done :=
  ⟨h.wy.snoc hw ht, h.dn, fun x hx hy => by
    rcases List.mem_append.1 hy with hy | hy
    · exact h.apart x hx hy
    · simp at hy; subst hy; exact hd hx⟩

theorem exFold_inv {rows : List Rw} {way : List Nm} {g : List Nm → Nm → Ro} (hg : ∀ d t d', Inv rows way d → g d t = .ok d' → Inv rows way d' ∧ (∀ x ∈ d, x ∈ d')) :
    ∀ (ts d d' : List Nm), Inv rows way d → exFold g d ts = .ok d' → Inv rows way d' ∧ (∀ x ∈ d, x ∈ d')
  | [], d, d', hi, h => by
    unfold exFold at h
    injection h with h
    subst h
    exact ⟨hi, fun _ h => h⟩
  | t :: ts, d, d', hi, h => by
    unfold exFold at h
    split at h
    · rename_i d1 h1
      obtain ⟨i1, s1⟩ := hg d t d1 hi h1
      obtain ⟨i2, s2⟩ := exFold_inv hg ts d1 d' i1 h
      exact ⟨i2, fun x hx => s2 x (s1 x hx)⟩
    · cases h

theorem visF_inv {rows : List Rw} : ∀ (f : Nat) (way done : List Nm) (s : Nm) (d : List Nm), Inv rows way done → rows.length + 1 ≤ way.length + f → visF rows f way done s = .ok d → Inv rows way d ∧ (∀ x ∈ done, x ∈ d)
  | 0, way, done, s, d, hi, hf, h => by
    have := hi.wy.le
    omega
  | f + 1, way, done, s, d, hi, hf, h => by
    unfold visF at h
    split at h
    · injection h with h
      subst h
      exact ⟨hi, fun _ h => h⟩
    · rename_i hd
      split at h
      · cases h
      · rename_i hw
        split at h
        · cases h
        · rename_i r hr
          have hd' : s ∉ done := fun e => hd (List.contains_iff_mem.2 e)
          have hw' : s ∉ way := fun e => hw (List.contains_iff_mem.2 e)
          have ht : ∃ r ∈ rows, r.name = s := ⟨r, fnd_some hr⟩
          split at h
          · rename_i d1 h1
            injection h with h
            subst h
            obtain ⟨i1, s1⟩ := exFold_inv (fun d t d' hi' h' => visF_inv f (way ++ [s]) d t d' hi' (by simp; omega) h') r.needs done d1 (hi.push hw' hd' ht) h1
            have hs1 : s ∉ d1 := fun e => i1.apart s e (by simp)
            refine ⟨⟨hi.wy, i1.dn.snoc hs1 ht, fun x hx hy => ?_⟩, fun x hx => by simp [s1 x hx]⟩
            rcases List.mem_append.1 hx with hx | hx
            · exact i1.apart x hx (by simp [hy])
            · simp at hx; subst hx; exact hw' hy
          · cases h
end Go.Proofs.Ytgchpanjfllijaa
