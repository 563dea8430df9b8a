/-
  creelref19: turned, times.
-/
import Derived.Test.YtfechgpdlabgaaaWidD
set_option linter.unusedVariables false
set_option linter.unusedSimpArgs false
namespace Go.Proofs.Ytfechgpdlabgaaa
open Go.RowKit Wide

/-- 64 bools that are all false, new. -/
def zeros : Obj := .cells (bools (bs 64 0)).toArray 4
theorem make64z (w : World) : (Instr.makeSlice 142 (.int .i64 64) (.int .i64 64)).run Try.prog w = .ok (.slice (some ⟨w.heap.size, 0, none⟩) 64 64) (w.alloc zeros) := make64 w
theorem reads_zeros (w : World) : Reads (w.alloc zeros) (fun k => k = w.heap.size) 1 (some ⟨w.heap.size, 0, none⟩) 64 (bools (bs 64 0)) := reads_new w (bools (bs 64 0)).toArray 4 1 64 (by simp [bools, bs_length])

theorem bret_up {w w6 w7 : World} {v c : Nat} {A : Option Addr} (h : Step (fun _ => False) w w7) (hz : w.heap.size ≤ w6.heap.size) (ho : w7.ownsRow w6.heap.size 4 1 (.slice A 64 c) 64 (bools (bs 64 v))) :
    BRet w v (.returned (.slice A 64 c)) w7 := ⟨A, c, rfl, own_base ho (fun k hk => by have := own_ge ho k hk; omega), h⟩

set_option maxRecDepth 100000 in
set_option maxHeartbeats 400000 in
theorem turned_any (w : World) (S : Nat → Prop) (A : Option Addr) (c v : Nat) (hr : Reads w S 1 A 64 (bools (bs 64 v))) (hv : v < 2 ^ 64) :
    Calls Try.prog 119 #[.slice A 64 c] w (BRet w (2 ^ 64 - 1 - v + 0 + true.toNat)) := by
  have hmk := make64z
  obtain ⟨u, hu⟩ : ∃ u, u = 2 ^ 64 - 1 - v := ⟨_, rfl⟩
  have HN : Hid (∀ W, Step (fun _ => False) w W → Calls Try.prog 80 #[.slice A 64 c] W (BRet W u)) := fun W hW => by
    rw [hu]
    exact not_any W S A c v (hr.step hW (fun _ _ => id)) hv
  rw [← hu]
  clear hu hv hr
  have tok1 : Hid (0 = 0) := rfl
  go_enter Try.func119, Try.ntmps119
  go_wp2_with fail
  go_region_held3 (fun w' => Step (fun _ => False) w w') (first | assumption | exact Step.refl.drew | exact (Step.refl.alloc _).drew | exact Step.alloc (by assumption) _ | exact Step.trans (by assumption) s6 | exact Step.trans (by assumption) s7)
    (first
      | (go_at_call 80; have _g := tok1; refine (HN.out _ (by assumption)).mono ?_; rintro e w6 ⟨A6, c6, rfl, hA, s6⟩; clear tok1)
      | (go_at_call 79; (with_reducible have _o : Step (fun _ => False) w.drew w6 := s6); refine (add_any (w6.alloc zeros) _ _ A6 (some ⟨w6.heap.size, 0, none⟩) c6 64 u 0 true (Reads.of_own (hA.alloc zeros)) (reads_zeros w6)).mono ?_; rintro e w7 ⟨A7, c7, rfl, hA7, s7⟩)
      | (go_at_call 79; refine (add_any w6 _ _ A6 (some ⟨w.heap.size, 0, none⟩) c6 64 u 0 true (Reads.of_own hA) ((reads_zeros w).drew.step s6 (fun _ _ => id))).mono ?_; rintro e w7 ⟨A7, c7, rfl, hA7, s7⟩))
  all_goals go_wp2_with fail
  all_goals go_ret
  · have z6 := s6.size
    exact bret_up (by assumption) (by simp at z6 ⊢; omega) hA7
  · have z6 := s6.size
    exact bret_up (by assumption) (by simp at z6 ⊢; omega) hA7
end Go.Proofs.Ytfechgpdlabgaaa
