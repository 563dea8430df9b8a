/-
  Graph: rows of names; Has, Find, Same of the reference.
-/
import Derived.Test.YtgchpanjfllijaaGrA
set_option linter.unusedVariables false
set_option linter.unusedSimpArgs false
namespace Go.Proofs.Ytgchpanjfllijaa
open Go.RowKit

abbrev Nm := List UInt8
/-- Names as cells. -/
def strs (l : List Nm) : List Value := l.map fun s => .string (str s)
theorem strs_length (l : List Nm) : (strs l).length = l.length := by simp [strs]
theorem strs_append (l m : List Nm) : strs (l ++ m) = strs l ++ strs m := by simp [strs]
theorem strs_get (l : List Nm) (k : Nat) (h : k < l.length) : (strs l)[k]? = some (.string (str l[k])) := by simp [strs, h]
theorem strs_one (l : List Nm) : ∀ u ∈ strs l, u.oneCell' = true := by
  intro u hu
  obtain ⟨s, _, rfl⟩ := List.mem_map.1 hu
  rfl
theorem strs_take (l : List Nm) (k : Nat) : (strs l).take k = strs (l.take k) := by simp [strs, List.map_take]
theorem strs_drop (l : List Nm) (k : Nat) : (strs l).drop k = strs (l.drop k) := by simp [strs, List.map_drop]
theorem E_str : ElemTy Try.prog 28 9 1 16 := elem_of Try.underlying28 (z := .string ByteArray.empty) (by kernel_rfl) rfl (by decide)

/-- A row of the law's argument: a name, and where the names lie that it needs. -/
structure Rw where
  name : Nm
  A : Option Addr
  cap : Nat
  needs : List Nm
instance : Inhabited Rw := ⟨⟨[], none, 0, []⟩⟩
def Rw.cells (r : Rw) : List Value := [.string (str r.name), .slice r.A r.needs.length r.cap]
theorem Rw.two (r : Rw) : r.cells.length = 2 := rfl
def rws (l : List Rw) : List Value := l.flatMap Rw.cells
theorem rws_append (l m : List Rw) : rws (l ++ m) = rws l ++ rws m := by simp [rws]
theorem rws_one (l : List Rw) : ∀ u ∈ rws l, u.oneCell' = true := by
  intro u hu
  obtain ⟨f, _, hf⟩ := List.mem_flatMap.1 hu
  simp [Rw.cells] at hf
  rcases hf with rfl | rfl <;> rfl
/-- What a row needs lies below block B, and its names are short enough. -/
def Told (w : World) (B : Nat) (r : Rw) : Prop := Reads w (fun k => k < B) 1 r.A r.needs.length (strs r.needs) ∧ r.needs.length ≤ r.cap ∧ r.name.length ≤ maxLen ∧ ∀ s ∈ r.needs, s.length ≤ maxLen
theorem Told.step {w w' : World} {B : Nat} {r : Rw} {F : Nat → Prop} (h : Told w B r) (hs : Step F w w') (hF : ∀ k, k < B → ¬ F k) : Told w' B r := ⟨h.1.step hs hF, h.2⟩

/-- The place of a name; -1. -/
def findI (l : List Rw) (s : Nm) : Int := match l.findIdx? (fun r => r.name == s) with
  | some i => (i : Int)
  | none => -1


theorem seq_t {x s : Nm} (h : x = s) : ((str x).toList == (str s).toList) = true := by rw [h]; exact beq_self_eq_true _
theorem seq_f {x s : Nm} (h : ¬ x = s) : ((str x).toList == (str s).toList) = false := by
  rw [str_toList, str_toList]
  exact beq_eq_false_iff_ne.2 h

set_option maxRecDepth 100000 in
set_option maxHeartbeats 1600000 in
theorem r35_has {w : World} {S : Nat → Prop} {A : Option Addr} {c : Nat} {l : List Nm} (s : Nm) (hv : Reads w S 1 A l.length (strs l)) (hl : l.length ≤ 1000000) :
    Calls Try.prog 12 #[.slice A l.length c, .string (str s)] w fun e w' => e = .returned (.bool (l.contains s)) ∧ w' = w := by
  obtain ⟨b, hb⟩ : ∃ b, b = l.contains s := ⟨_, rfl⟩
  rw [← hb]
  go_enter Try.func12, Try.ntmps12
  go_wp2_with fail
  go_loopw [5] (fun i wr => ∃ k : Nat, k ≤ l.length ∧ i = .int .i64 (k : Int) ∧ Hid (wr = w) ∧ Hid (b = (l.drop k).contains s)) (fun i _ => l.length - (intOf i).toNat)
  case atStart => exact ⟨0, Nat.zero_le _, rfl, by first | exact Lib.hid trivial | rfl, Lib.hid hb⟩
  case round =>
    obtain ⟨k, hk, rfl, hq, HC⟩ := hrel
    have hq' := hq.out
    subst hq'
    have HC := HC.out
    by_cases hlt : k < l.length
    · obtain ⟨ad, u, rfl, _, hbl, hu, hc⟩ := hv.at_ hlt
      rw [strs_get l k hlt] at hu
      injection hu with hu
      subst hu
      have i0 : (0 : Int) ≤ (k : Int) := by omega
      have i1 : (k : Int) < (l.length : Int) := by omega
      have hd : l.drop k = l[k] :: l.drop (k + 1) := List.drop_eq_getElem_cons hlt
      rw [hd, List.contains_cons] at HC
      have hw := IntWalk.i64_in ((k : Int) + 1) (by omega)
      by_cases he : l[k] = s
      · have hE := seq_t he
        rw [he, beq_self_eq_true, Bool.true_or] at HC
        generalize l[k] = x at *
        clear hd hb he
        subst HC
        go_wp2_with fail
        go_ret
        exact ⟨rfl, rfl⟩
      · have hE := seq_f he
        rw [show (s == l[k]) = false from beq_eq_false_iff_ne.2 fun h => he h.symm, Bool.false_or] at HC
        generalize l[k] = x at *
        clear hd hb he
        go_wp2_with fail
        exact ⟨⟨k + 1, by omega, by rw [Int.natCast_add]; rfl, by first | exact Lib.hid trivial | rfl, Lib.hid HC⟩, by rw [show intOf (.int .i64 ((k : Int) + 1)) = ((k + 1 : Nat) : Int) from rfl, show intOf (.int .i64 (k : Int)) = (k : Int) from rfl]; omega⟩
    · obtain rfl : k = l.length := by omega
      rw [List.drop_length, List.contains_nil] at HC
      clear hb
      subst HC
      go_wp2_with fail
      go_ret
      exact ⟨rfl, rfl⟩

/-- The cells of element k of a row of structs. -/
theorem gr_cells {α : Type} (c : α → List Value) (m : Nat) (hm : 0 < m) (hc : ∀ a, (c a).length = m) {w : World} {S : Nat → Prop} {A : Option Addr} {l : List α} (hv : Reads w S m A l.length (l.flatMap c)) {k : Nat} (hk : k < l.length) :
    ∃ b off, A = some ⟨b, off, none⟩ ∧ S b ∧ b < w.heap.size ∧ ∀ j u, (c l[k])[j]? = some u → w.cell? ⟨b, off + k * m + j, none⟩ = some u := by
  obtain ⟨ad, rfl, hS, hlt, hcell⟩ := hv.2 (by omega)
  have h00 := flat_get c m hc l 0 0 (by omega) hm
  rw [Nat.zero_mul] at h00
  have h01 : (c (l[0]'(by omega)))[0]? = some ((c (l[0]'(by omega)))[0]'(by rw [hc]; exact hm)) := List.getElem?_eq_getElem _
  have h0 := hcell 0 _ (h00.trans h01)
  obtain ⟨b, off, spot⟩ := ad
  have hspot : spot = none := by
    have := World.cell?_spot h0
    simpa [Addr.add] using this
  subst hspot
  refine ⟨b, off, rfl, hS, hlt, fun j u hu => ?_⟩
  have hj : j < m := by
    have := (List.getElem?_eq_some_iff.1 hu).1
    rwa [hc] at this
  have h1 := hcell (k * m + j) u (by rw [flat_get c m hc l k j hk hj]; exact hu)
  rw [Addr.add_lit] at h1
  rw [Nat.add_assoc]
  exact h1
/-- The two cells of row k. -/
theorem rw_cells {w : World} {S : Nat → Prop} {A : Option Addr} {l : List Rw} (hv : Reads w S 2 A l.length (rws l)) {k : Nat} (hk : k < l.length) :
    ∃ b off, A = some ⟨b, off, none⟩ ∧ S b ∧ b < w.heap.size ∧ w.cell? ⟨b, off + k * 2, none⟩ = some (.string (str l[k].name)) ∧ w.cell? ⟨b, off + k * 2 + 1, none⟩ = some (.slice l[k].A l[k].needs.length l[k].cap) := by
  obtain ⟨b, off, e, hS, hlt, hc⟩ := gr_cells Rw.cells 2 (by decide) Rw.two hv hk
  exact ⟨b, off, e, hS, hlt, hc 0 _ rfl, hc 1 _ rfl⟩

theorem findI_none {l : List Rw} {s : Nm} (h : ∀ j (h' : j < l.length), ¬ l[j].name = s) : findI l s = -1 := by
  unfold findI
  have : l.findIdx? (fun r => r.name == s) = none := by
    rw [List.findIdx?_eq_none_iff]
    intro r hr
    obtain ⟨j, hj, rfl⟩ := List.mem_iff_getElem.1 hr
    exact beq_eq_false_iff_ne.2 (h j hj)
  rw [this]
theorem findI_at {l : List Rw} {s : Nm} {k : Nat} (hk : k < l.length) (h : ∀ j (_ : j < k) (h' : j < l.length), ¬ l[j].name = s) (he : l[k].name = s) : findI l s = (k : Int) := by
  unfold findI
  have : l.findIdx? (fun r => r.name == s) = some k := by
    rw [List.findIdx?_eq_some_iff_getElem]
    exact ⟨hk, by rw [he]; exact beq_self_eq_true _, fun j hj => by simpa using h j hj (by omega)⟩
  rw [this]

set_option maxRecDepth 100000 in
set_option maxHeartbeats 1600000 in
theorem r35_find {w : World} {S : Nat → Prop} {A : Option Addr} {c : Nat} {l : List Rw} (s : Nm) (hv : Reads w S 2 A l.length (rws l)) (hl : l.length ≤ 1000000) :
    Calls Try.prog 13 #[.slice A l.length c, .string (str s)] w fun e w' => e = .returned (.int .i64 (findI l s)) ∧ w' = w := by
  obtain ⟨r, hr⟩ : ∃ r, r = findI l s := ⟨_, rfl⟩
  rw [← hr]
  go_enter Try.func13, Try.ntmps13
  go_wp2_with fail
  go_loopw [5] (fun i wr => ∃ k : Nat, k ≤ l.length ∧ i = .int .i64 (k : Int) ∧ Hid (wr = w) ∧ Hid (∀ j (h : j < k) (h' : j < l.length), ¬ l[j].name = s)) (fun i _ => l.length - (intOf i).toNat)
  case atStart => exact ⟨0, Nat.zero_le _, rfl, by first | exact Lib.hid trivial | rfl, Lib.hid fun j h => absurd h (Nat.not_lt_zero _)⟩
  case round =>
    obtain ⟨k, hk, rfl, hq, HC⟩ := hrel
    have hq' := hq.out
    subst hq'
    by_cases hlt : k < l.length
    · obtain ⟨b, off, rfl, _, hbl, hc0, _⟩ := rw_cells hv hlt
      have i0 : (0 : Int) ≤ (k : Int) := by omega
      have i1 : (k : Int) < (l.length : Int) := by omega
      have hw := IntWalk.i64_in ((k : Int) + 1) (by omega)
      by_cases he : l[k].name = s
      · have hE := seq_t he
        have hr' : r = (k : Int) := hr.trans (findI_at hlt HC.out he)
        generalize l[k].name = x at *
        clear hr he
        subst hr'
        go_wp2_with fail
        go_ret
        exact ⟨rfl, rfl⟩
      · have hE := seq_f he
        have HC2 : Hid (∀ j (h : j < k + 1) (h' : j < l.length), ¬ l[j].name = s) := Lib.hid fun j h h' => by
          rcases Nat.lt_succ_iff_lt_or_eq.1 h with h | rfl
          · exact HC.out j h h'
          · exact he
        generalize l[k].name = x at *
        clear hr he
        go_wp2_with fail
        exact ⟨⟨k + 1, by omega, by rw [Int.natCast_add]; rfl, by first | exact Lib.hid trivial | rfl, HC2⟩, by rw [show intOf (.int .i64 ((k : Int) + 1)) = ((k + 1 : Nat) : Int) from rfl, show intOf (.int .i64 (k : Int)) = (k : Int) from rfl]; omega⟩
    · obtain rfl : k = l.length := by omega
      have hr' : r = -1 := hr.trans (findI_none fun j h' => HC.out j h' h')
      clear hr
      subst hr'
      go_wp2_with fail
      go_ret
      exact ⟨rfl, rfl⟩

set_option maxRecDepth 100000 in
set_option maxHeartbeats 1600000 in
theorem r35_same {w : World} {S T : Nat → Prop} {A B : Option Addr} {c d : Nat} {l m : List Nm} (hv : Reads w S 1 A l.length (strs l)) (hu : Reads w T 1 B m.length (strs m)) (hl : l.length ≤ 1000000) (hm : m.length ≤ 1000000) :
    Calls Try.prog 10 #[.slice A l.length c, .slice B m.length d] w fun e w' => e = .returned (.bool (decide (l = m))) ∧ Step (fun _ => False) w w' := by
  obtain ⟨r, hr⟩ : ∃ r, r = decide (l = m) := ⟨_, rfl⟩
  rw [← hr]
  go_enter Try.func10, Try.ntmps10
  by_cases hlm : l.length = m.length
  · rw [← hlm] at hu ⊢
    go_wp2_with fail
    go_loopw [5] (fun i wr => ∃ k : Nat, k ≤ l.length ∧ i = .int .i64 (k : Int) ∧ Hid (Step (fun _ => False) w wr) ∧ Hid (l.take k = m.take k)) (fun i _ => l.length - (intOf i).toNat)
    case atStart => exact ⟨0, Nat.zero_le _, rfl, Lib.hid Step.refl, Lib.hid rfl⟩
    case round =>
      obtain ⟨k, hk, rfl, HS, HC⟩ := hrel
      have hvr := hv.step HS.out (fun _ _ => id)
      have hur := hu.step HS.out (fun _ _ => id)
      by_cases hlt : k < l.length
      · obtain ⟨ad, u, rfl, _, hbl, hu1, hc⟩ := hvr.at_ hlt
        rw [strs_get l k hlt] at hu1
        injection hu1 with hu1
        subst hu1
        obtain ⟨ad2, u, rfl, _, hbl2, hu2, hc2⟩ := hur.at_ hlt
        rw [strs_get m k (by omega)] at hu2
        injection hu2 with hu2
        subst hu2
        have i0 : (0 : Int) ≤ (k : Int) := by omega
        have i1 : (k : Int) < (l.length : Int) := by omega
        have hw := IntWalk.i64_in ((k : Int) + 1) (by omega)
        by_cases he : l[k] = m[k]
        · have hE := seq_t he
          have HC2 : Hid (l.take (k + 1) = m.take (k + 1)) := Lib.hid (by rw [List.take_succ_eq_append_getElem hlt, List.take_succ_eq_append_getElem (by omega), HC.out, he])
          generalize l[k] = x at *
          generalize m[k] = y at *
          clear hr he
          go_wp2_with (go_quiet (fail))
          exact ⟨⟨k + 1, by omega, by rw [Int.natCast_add]; rfl, Lib.hid (HS.out.drewN _), HC2⟩, by rw [show intOf (.int .i64 ((k : Int) + 1)) = ((k + 1 : Nat) : Int) from rfl, show intOf (.int .i64 (k : Int)) = (k : Int) from rfl]; omega⟩
        · have hE := seq_f he
          have hr' : r = false := hr.trans (decide_eq_false fun e => he (by subst e; rfl))
          generalize l[k] = x at *
          generalize m[k] = y at *
          clear hr he
          subst hr'
          go_wp2_with (go_quiet (fail))
          go_ret
          exact ⟨rfl, HS.out.drewN _⟩
      · obtain rfl : k = l.length := by omega
        have hr' : r = true := hr.trans (decide_eq_true (by have := HC.out; rwa [List.take_length, hlm, List.take_length] at this))
        clear hr
        subst hr'
        go_wp2_with fail
        go_ret
        exact ⟨rfl, HS.out⟩
  · have hr' : r = false := hr.trans (decide_eq_false fun e => hlm (by rw [e]))
    clear hr
    subst hr'
    have hne : ¬ (l.length : Int) = (m.length : Int) := by omega
    go_wp2_with fail
    go_ret
    exact ⟨rfl, Step.refl⟩
end Go.Proofs.Ytgchpanjfllijaa
