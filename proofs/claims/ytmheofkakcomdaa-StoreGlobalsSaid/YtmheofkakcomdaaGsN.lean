/-
  store: Owners, told by the rising list.
-/
import Derived.Test.YtmheofkakcomdaaGsM
import Derived.Test.YtmheofkakcomdaaMxh
set_option linter.unusedVariables false
set_option linter.unusedSimpArgs false
namespace Go.Proofs.Ytmheofkakcomdaa
open Go.RowKit
theorem cls_cell2 {F : Nat → Prop} {w0 : World} {p : Addr} {v : Value} (hc : w0.cell? p = some v) (hF : ¬ F p.block) : ∀ i : Mif.Cls (Step F w0), i.val.cell? p = some v := fun i =>
  (i.prop.cell (World.block_lt_of_cell? _ _ hc) hF).trans hc
theorem s_owners_r {w : World} {B : Nat} {s : Sg} {ow : List Int} (h : Gw w B s) (hr : Ris ow s.f) (hn : s.nn ≤ 1000) :
    Calls Try.prog 23 #[.pointer (some ⟨s.S, 0, none⟩)] w fun e w' => ∃ D c, e = .returned (.slice D ow.length c) ∧ w'.ownsRow w.heap.size 3 1 (.slice D ow.length c) ow.length (i64s ow) ∧ Step (fun _ => False) w w' := by
  refine (s_owners h hn).mono ?_
  rintro e w' ⟨v, ss, rfl, hp, ho, hs⟩
  have e1 := own_keys h hr hp
  rw [e1] at ho
  have e2 : ss.length = ow.length := by rw [← e1, List.length_mergeSort]
  rw [e2] at ho
  have e3 : ow.map encZ = i64s ow := rfl
  rw [e3] at ho
  have e4 : ∃ D c, v = .slice D ow.length c := by
    rcases ho.2 with ⟨h0, hz⟩ | ⟨gb, cap, cur, h0, _⟩
    · exact ⟨none, 0, by rw [h0, hz]⟩
    · exact ⟨_, _, h0⟩
  obtain ⟨D, c, rfl⟩ := e4
  exact ⟨D, c, rfl, ho, hs⟩
section
variable {w0 V : World} {s : Sg} {D5 D6 : Option Addr} {c5 c6 : Nat} {ow : List Int}
theorem Lw.c_globals (h : Lw w0 V s D5 c5 D6 c6 ow) : ∀ u, Step (fun _ => False) V u → Calls Try.prog 21 #[.pointer (some ⟨s.S, 0, none⟩)] u fun e w' => e = .returned (.int .i64 (s.vs.length : Int)) ∧ u = w' := fun _ t => s_globals (h.g.quiet t)
theorem Lw.c_owners (h : Lw w0 V s D5 c5 D6 c6 ow) (hn : s.nn ≤ 1000) : ∀ u, Step (fun _ => False) V u → Calls Try.prog 23 #[.pointer (some ⟨s.S, 0, none⟩)] u fun e w' => ∃ D c, e = .returned (.slice D ow.length c) ∧ w'.ownsRow u.heap.size 3 1 (.slice D ow.length c) ow.length (i64s ow) ∧ Step (fun _ => False) u w' := fun _ t => s_owners_r (h.g.quiet t) h.ris hn
theorem Lw.c_has (h : Lw w0 V s D5 c5 D6 c6 ow) (hn : ow.length ≤ 1000) (b : Int) : ∀ u, Step (fun _ => False) V u → Calls Try.prog 13 #[.slice D6 ow.length c6, .int .i64 b] u fun e w' => e = .returned (.bool (s.f b).isSome) ∧ u = w' := fun u t => by
  have e : decide (b ∈ ow) = (s.f b).isSome := by
    cases hq : (s.f b).isSome with
    | true => exact decide_eq_true ((h.ris.mem b).2 hq)
    | false => exact decide_eq_false (fun hm => by rw [(h.ris.mem b).1 hm] at hq; cases hq)
  have := r_has u _ D6 c6 ow b (Reads.of_own (own_below h.r6 t)) hn
  rwa [e] at this
theorem Lw.c_same (h : Lw w0 V s D5 c5 D6 c6 ow) (hn : ow.length ≤ 1000) : ∀ (u : World), Step (fun _ => False) V u → ∀ (B : Nat) (D : Option Addr) (c : Nat), u.ownsRow B 3 1 (.slice D ow.length c) ow.length (i64s ow) → Calls Try.prog 22 #[.slice D ow.length c, .slice D6 ow.length c6] u fun e w' => e = .returned (.bool true) ∧ Step (fun _ => False) u w' := fun u t B D c ho => by
  have h1 := r_same u _ _ D D6 c c6 ow ow (Reads.of_own ho) (Reads.of_own (own_below h.r6 t)) hn
  rw [decide_eq_true rfl] at h1
  exact h1
theorem Lw.c_live (h : Lw w0 V s D5 c5 D6 c6 ow) (hn : s.vs.length ≤ 1000) (a : Int) {ok : Bool} (hok : ok = (gaF s.vs a).isSome) : ∀ (u : World), Step (fun _ => False) V u → Calls Try.prog 20 #[.slice D5 s.vs.length c5, .int .i64 a] u fun e w' => e = .returned (.bool ok) ∧ u = w' := fun u t => by
  have h1 := r_live u _ D5 c5 s.vs a (Reads.of_own (own_below h.r5 t)) hn
  rw [← hok] at h1
  exact h1
end
end Go.Proofs.Ytmheofkakcomdaa
