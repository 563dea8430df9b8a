/-
  Graph: the page's example.
-/
import Derived.Test.YtgchpanjfllijaaGrF
set_option linter.unusedVariables false
set_option linter.unusedSimpArgs false
namespace Go.Proofs.Ytgchpanjfllijaa
open Go.RowKit

def awR (a1 a2 : Option Addr) : List Rw := [⟨[97], a1, 2, [[98], [99]]⟩, ⟨[98], a2, 1, [[99]]⟩, ⟨[99], none, 0, []⟩]
theorem awV (a1 a2 : Option Addr) : visF (awR a1 a2) ((awR a1 a2).length + 1) [] [] [97] = .ok [[99], [98], [97]] := by rfl

theorem one_le {x : UInt8} : [x].length ≤ maxLen := (by decide : 1 ≤ maxLen)

set_option maxRecDepth 100000 in
set_option maxHeartbeats 1600000 in
theorem awake35 (w : World) : Calls Try.prog 6 #[] w fun e w' => e = .returned (.bool true) ∧ Step (fun _ => False) w w' := by
  have hmm := @run_makeMap Try.prog
  have hz : (w.alloc (.map #[] 0)).heap.size = w.heap.size + 1 := by simp
  have hz0 : ((w.alloc (.map #[] 0)).alloc (.cells #[.string ⟨#[98]⟩, .string ⟨#[99]⟩] 9)).heap.size = w.heap.size + 2 := by simp
  have hR1 : Reads ((w.alloc (.map #[] 0)).alloc (.cells #[.string ⟨#[98]⟩, .string ⟨#[99]⟩] 9)) (fun k => k = w.heap.size + 1) 1 (some ⟨w.heap.size + 1, 0, none⟩) 2 (strs [[98], [99]]) := by
    have := reads_new (w.alloc (.map #[] 0)) #[.string ⟨#[98]⟩, .string ⟨#[99]⟩] 9 1 2 rfl
    rw [hz] at this
    exact this
  have hS1 : Step (fun _ => False) w ((w.alloc (.map #[] 0)).alloc (.cells #[.string ⟨#[98]⟩, .string ⟨#[99]⟩] 9)) := (Step.refl.alloc _).alloc _
  obtain ⟨w2, hr2, hM2, hS2⟩ := ((MapIs.made Try.prog w 9).step (F := fun _ => False) (Step.refl.alloc (.cells #[.string ⟨#[98]⟩, .string ⟨#[99]⟩] 9)) id).put (t := 25) (e := 28) Try.underlying9 Try.underlying25 (by unfold maxLen; omega) [97] (by decide) (.slice (some ⟨w.heap.size + 1, 0, none⟩) 2 2)
  have hR2 := hR1.step hS2 (fun k hk e => by omega)
  have hS2' := hS1.trans' hS2 (fun i hi => .inr (by omega))
  have hl2 := hS2.size
  rw [hz0] at hl2
  have hR3 := reads_new w2 #[.string ⟨#[99]⟩] 9 1 1 rfl
  obtain ⟨w4, hr4, hM4, hS4⟩ := (hM2.step (F := fun _ => False) (Step.refl.alloc (.cells #[.string ⟨#[99]⟩] 9)) id).put (t := 25) (e := 28) Try.underlying9 Try.underlying25 (by unfold maxLen; omega) [98] (by decide) (.slice (some ⟨w2.heap.size, 0, none⟩) 1 1)
  have hl4 := hS4.size
  simp at hl4
  obtain ⟨w5, hr5, hM5, hS5⟩ := hM4.put (t := 25) (e := 28) Try.underlying9 Try.underlying25 (by unfold maxLen; omega) [99] (by decide) (.slice none 0 0)
  have hl5 := hS5.size
  have hS45 : Step (fun k => k = w.heap.size) (w2.alloc (.cells #[.string ⟨#[99]⟩] 9)) w5 := hS4.trans hS5
  have hR5 : Reads w5 (fun k => k < w5.heap.size) 1 (some ⟨w2.heap.size, 0, none⟩) 1 (strs [[99]]) := (hR3.step hS45 (fun k hk e => by omega)).mono (fun k hk _ => hk)
  have hR6 : Reads w5 (fun k => k < w5.heap.size) 1 (some ⟨w.heap.size + 1, 0, none⟩) 2 (strs [[98], [99]]) := (hR2.step ((Step.refl.alloc (.cells #[.string ⟨#[99]⟩] 9)).trans' hS45 (fun i hi => .inl hi)) (fun k hk e => by omega)).mono (fun k hk _ => hk)
  have HS5 : Hid (Step (fun _ => False) w w5) := Lib.hid ((hS2'.alloc _).trans' hS45 (fun i hi => .inr (by omega)))
  have hM : MapIs Try.prog w5 9 w.heap.size 3 (edgeF (awR (some ⟨w.heap.size + 1, 0, none⟩) (some ⟨w2.heap.size, 0, none⟩))) := by
    have e1 := edgeF_put (acc := []) (r := ⟨[97], some ⟨w.heap.size + 1, 0, none⟩, 2, [[98], [99]]⟩) (by simp [findI, List.findIdx?_cons])
    have e2 := edgeF_put (acc := [⟨[97], some ⟨w.heap.size + 1, 0, none⟩, 2, [[98], [99]]⟩]) (r := ⟨[98], some ⟨w2.heap.size, 0, none⟩, 1, [[99]]⟩) (by simp [findI, List.findIdx?_cons])
    have e3 := edgeF_put (acc := [⟨[97], some ⟨w.heap.size + 1, 0, none⟩, 2, [[98], [99]]⟩, ⟨[98], some ⟨w2.heap.size, 0, none⟩, 1, [[99]]⟩]) (r := ⟨[99], none, 0, []⟩) (by simp [findI, List.findIdx?_cons])
    simp only [List.nil_append, List.cons_append] at e1 e2 e3
    unfold awR
    rw [← e3, ← e2, ← e1]
    exact hM5
  have HT : Hid (∀ r ∈ awR (some ⟨w.heap.size + 1, 0, none⟩) (some ⟨w2.heap.size, 0, none⟩), Told w5 w5.heap.size r) := Lib.hid fun r hr => by
    simp [awR] at hr
    rcases hr with rfl | rfl | rfl
    · exact ⟨hR6, Nat.le_refl _, one_le, fun s hs => by simp at hs; rcases hs with rfl | rfl <;> exact one_le⟩
    · exact ⟨hR5, Nat.le_refl _, one_le, fun s hs => by simp at hs; subst hs; exact one_le⟩
    · exact ⟨Reads.nil_, Nat.le_refl _, one_le, fun s hs => by simp at hs⟩
  have HM := Lib.hid hM
  rw [show str [97] = ⟨#[97]⟩ from rfl] at hr2
  rw [show str [98] = ⟨#[98]⟩ from rfl] at hr4
  rw [show str [99] = ⟨#[99]⟩ from rfl] at hr5
  clear hM hM5 hR6 hR5 hS45 hS5 hS4 hM4 hR3 hS2' hR2 hM2 hS2 hS1 hR1
  go_enter Try.func6, Try.ntmps6
  go_wp2_with fail
  refine (order_walk (rows := awR (some ⟨w.heap.size + 1, 0, none⟩) (some ⟨w2.heap.size, 0, none⟩)) (by simp [awR]) (by simp [awR]) [97] one_le HT.out HM.out).mono ?_
  rintro e w7 ⟨hS7, hR⟩
  rw [awV] at hR
  obtain ⟨D, c, rfl, hRd⟩ := hR
  have HS7 := Lib.hid (HS5.out.trans hS7)
  have HRd := Lib.hid hRd
  clear hS7 hRd HS5 HT HM hr2 hr4 hr5
  have hemp := str_toList []
  go_wp2_with fail
  refine (r35_same (l := [[99], [98], [97]]) (m := [[99], [98], [97]]) (HRd.out.step (F := fun _ => False) (Step.refl.alloc _) (fun _ _ => id)) (reads_new w7 #[.string ⟨#[99]⟩, .string ⟨#[98]⟩, .string ⟨#[97]⟩] 9 1 3 rfl) (by decide) (by decide)).mono ?_
  rintro e w8 ⟨rfl, hS8⟩
  rw [decide_eq_true rfl]
  have HS8 := Lib.hid ((HS7.out.alloc _).trans hS8)
  clear hS8
  go_wp2_with fail
  go_ret
  exact ⟨rfl, HS8.out⟩
end Go.Proofs.Ytgchpanjfllijaa
