/-
  bodies: the law BodiesPuts, joined; its argument, opened.
-/
import Derived.Test.YtfemeendkjcffaaBpH
import Derived.Test.YtfemeendkjcffaaBoE
set_option linter.unusedVariables false
set_option linter.unusedSimpArgs false
namespace Go.Proofs.Ytfemeendkjcffaa
open Go.RowKit Go.ChangeShapes Go.WideShapes Go.Joins Go.ChangeAt Go.Deep

set_option maxRecDepth 100000 in
set_option maxHeartbeats 1600000 in
theorem bputs_big (w : World) (LA IA : Option Addr) (ln lc n c : Nat) (h : (60 : Int) < n ∨ (¬ (60 : Int) < n ∧ (50 : Int) < ln)) :
    Calls Try.prog 21 #[.agg #[.slice LA ln lc, .slice IA n c]] w fun e w' => e = .returned (.bool true) ∧ Step (fun _ => False) w w' := by
  have HB := Lib.hid (Blk.new w 176 #[.slice LA ln lc, .slice IA n c])
  have HT := Lib.hid (Step.refl.alloc (F := fun _ => False) (w := w) (.cells #[.slice LA ln lc, .slice IA n c] 176))
  go_enter Try.func21, Try.ntmps21
  go_wp2_with fail
  refine (awake14 _).mono ?_
  rintro e w5 ⟨rfl, hS5⟩
  have HB5 := Lib.hid (HB.out.step hS5 id)
  have HS5 := Lib.hid (HT.out.trans hS5)
  clear hS5 HB HT
  obtain ⟨X, hX⟩ : ∃ X, X = w.heap.size := ⟨_, rfl⟩
  rw [← hX] at HB5
  simp only [← hX]
  clear hX
  have x0 := HB5.out.cell 0
  have x1 := HB5.out.cell 1
  simp at x0 x1
  rcases h with h | ⟨h, h2⟩
  · have h' : decide ((60 : Int) < (n : Int)) = true := decide_eq_true h
    go_wp2_with fail
    go_ret
    exact ⟨rfl, HS5.out⟩
  · have h' : decide ((60 : Int) < (n : Int)) = false := decide_eq_false (by omega)
    have h2' : decide ((50 : Int) < (ln : Int)) = true := decide_eq_true h2
    go_wp2_with fail
    go_ret
    exact ⟨rfl, HS5.out⟩

theorem bputs_done (W : World) (LA IA : Option Addr) (ln lc n c : Nat) (lo : List (Nat × Nat)) (l : List Ig) (S : Nat → Prop) (hln : lo.length = ln) (hn : l.length = n) (hwf : ∀ x ∈ l, x.wf) (hin : ∀ x ∈ l, x.L.length = x.n ∧ (∀ y ∈ x.L, y < 4294967296) ∧ Reads W S 1 x.A x.n (u32s x.L)) (hr : Reads W S 4 IA n (igs l)) (hl : Reads W S 2 LA ln (lo.flatMap loC)) (hb : ∀ g ∈ lo, g.1 < 4294967296 ∧ g.2 < 256) :
    Calls Try.prog 21 #[.agg #[.slice LA ln lc, .slice IA n c]] W fun e W' => e = .returned (.bool true) ∧ Below W.heap.size W W' := by
  have key : Calls Try.prog 21 #[.agg #[.slice LA ln lc, .slice IA n c]] W fun e W' => e = .returned (.bool true) ∧ Step (fun _ => False) W W' := by
    by_cases g1 : n ≤ 60
    · by_cases g2 : ln ≤ 50
      · subst hln
        exact bputs_ok W LA IA lc n c lo l S hn.symm g1 g2 hwf hin hr hl hb
      · exact bputs_big W LA IA ln lc n c (.inr ⟨by omega, by omega⟩)
    · exact bputs_big W LA IA ln lc n c (.inl (by omega))
  exact key.mono fun _ _ hh => ⟨hh.1, hh.2.below W.heap.size (fun _ _ hf => hf.elim) (Nat.le_refl _)⟩

section
variable {H : Type} {enc : TypeId × Value → H} {w : World} {base : Nat} {spare : Nat → Bool} {held : Bool}
set_option maxRecDepth 100000 in
theorem open_locals {fuel : Nat} {a0 : Option Addr} {len cap : Nat} {x : DataW H × List MemPlace} (h : DataW.trod enc Try.prog w base spare held fuel 106 [.slice a0 len cap] = some x) :
    ∃ lo : List (Nat × Nat), lo.length = len ∧ Reads w (fun k => k < w.heap.size) 2 a0 len (lo.flatMap loC) ∧ ∀ g ∈ lo, g.1 < 4294967296 ∧ g.2 < 256 := by
  obtain ⟨gs, hlen, hr, _, _⟩ : ∃ gs : List TL, gs.length = len ∧ Reads w (fun k => k < w.heap.size) 2 a0 len (gs.flatMap fun g => loC g.1) ∧ len ≤ cap ∧ cap ≤ maxLen :=
    open_structs (fun g : TL => loC g.1) Try.underlying106 Try.underlying217 (by kernel_rfl) (by kernel_rfl) (by decide) (fun _ => rfl) (fun vs hl h => mk_lo _ Try.underlying217 vs hl h) h
  refine ⟨gs.map (·.1), by simpa using hlen, ?_, fun g hg => by obtain ⟨x, _, rfl⟩ := List.mem_map.1 hg; exact x.2⟩
  rw [List.flatMap_map]
  exact hr
end
end Go.Proofs.Ytfemeendkjcffaa
