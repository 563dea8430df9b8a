/-
  consts: the reference's Type of a global.
-/
import Derived.Test.YtfemeendkjcffaaVaE
set_option linter.unusedVariables false
set_option linter.unusedSimpArgs false
namespace Go.Proofs.Ytfemeendkjcffaa
open Go.RowKit

set_option maxRecDepth 100000 in
set_option maxHeartbeats 1600000 in
theorem rtype_35 (w : World) (a : Nat) (b : Int) (n c cc : Nat) (A B : Option Addr) (l : List (Nat × Bool)) (S : Nat → Prop) (hS : ∀ k, S k → k < w.heap.size) (hl : l.length ≤ 1000) (hr : Reads w S 2 B l.length (l.flatMap gtC)) (t nn : Int) (ht : 0 ≤ t ∧ t < 256)
    (HV : Hid (∀ (w : World) (S' : Nat → Prop) (B' : Option Addr) (c' : Nat), Reads w S' 2 B' l.length ((tvals l).flatMap valC) → Calls Try.prog 44 #[.agg #[.int .u8 35, .int .u64 (a : Int), .int .u64 b, .slice A n c], .slice B' l.length c'] w fun e w' => e = .returned (.tuple #[.agg #[.int .u8 t, .int .u64 nn], .int .i64 0]) ∧ Step (fun _ => False) w w'))
    (halt : a < l.length) (mu : Bool) (hmu : l[a].2 = mu) :
    Calls Try.prog 43 #[.agg #[.int .u8 35, .int .u64 (a : Int), .int .u64 b, .slice A n c], .slice B l.length cc] w fun e w' => e = .returned (.tuple #[.int .i64 (if mu then 0 else t), .int .i64 (if mu then 24 else 0)]) ∧ Step (fun _ => False) w w' := by
  have hwt := IntWalk.i64_in t (by omega)
  have ho0 : (w.alloc (.cells #[.int .u8 35, .int .u64 (a : Int), .int .u64 b, .slice A n c] 50)).ownsRow (w.heap.size + 1) 63 2 (.slice none 0 0) 0 ((tvals (l.take 0)).flatMap valC) := World.ownsRow_nil _ _ _ _
  have hS0 : Step (fun _ => False) w (w.alloc (.cells #[.int .u8 35, .int .u64 (a : Int), .int .u64 b, .slice A n c] 50)) := Step.refl.alloc _
  have hb0 := Blk.new w 50 #[.int .u8 35, .int .u64 (a : Int), .int .u64 b, .slice A n c]
  go_enter Try.func43, Try.ntmps43
  go_wp2_with fail
  go_loopw [6, 7] (fun ov iv wr => ∃ (k c' : Nat) (D : Option Addr), k ≤ l.length ∧ ov = .slice D k c' ∧ iv = .int .i64 (k : Int) ∧ Hid (Step (fun _ => False) w wr) ∧ Hid (Blk wr w.heap.size 50 #[.int .u8 35, .int .u64 (a : Int), .int .u64 b, .slice A n c]) ∧ Hid (wr.ownsRow (w.heap.size + 1) 63 2 (.slice D k c') k ((tvals (l.take k)).flatMap valC))) (fun _ iv _ => l.length + 1 - (intOf iv).toNat)
  case atStart => exact ⟨0, 0, none, by omega, rfl, rfl, hS0, hb0, ho0⟩
  case round =>
    obtain ⟨k, c', D, hk, rfl, rfl, HS, HB, HO⟩ := hrel
    clear ho0 hS0 hb0
    have hsz := HB.out.lt
    by_cases hlt : k < l.length
    · have hlt' : (k : Int) < (l.length : Int) := by omega
      have hw1 := IntWalk.i64_in ((k : Int) + 1) (by omega)
      have hm : k + 1 ≤ maxLen := by unfold maxLen; omega
      obtain ⟨bb, off, rfl, _, hbl, hc⟩ := st_cells gtC 2 (by decide) (fun _ => rfl) (hr.step HS.out (fun _ _ => id)) hlt
      have HT : Hid ((tvals (l.take (k + 1))).flatMap valC = (tvals (l.take k)).flatMap valC ++ valC (l[k].1, 0)) := by
        rw [Hid, List.take_succ_eq_append_getElem hlt, tvals, List.map_append, List.flatMap_append]
        simp [tvals]
      generalize l[k] = g at *
      have c0 := hc 0 _ rfl
      simp only [Nat.add_zero] at c0
      clear hc
      have hone : ∀ u ∈ #[Value.int .u8 (g.1 : Int), .int .u64 0].toList, u.oneCell' = true := by simp [Value.oneCell']
      go_wp2_with (at_builtin; refine wpList_append_src _ rfl _ _ (by rfl) E_val (by rfl) (HO.out.alloc _) (by rfl) (reads_new _ #[Value.int .u8 (g.1 : Int), .int .u64 0] 63 2 1 rfl) hone hm (by omega) (by simp; omega) ?_; intro D' c8 w8 hown8 hgrow hat)
      have HS8 := Lib.hid (grow_step (HS.out.alloc _) hgrow (HO.out.alloc _) (Nat.le_succ _))
      have HB8 := Lib.hid ((HB.out.alloc _).grown hgrow (fun hk => by have := own_ge HO.out w.heap.size (by rw [ownBlock_slice]; exact hk); omega))
      have hcs : (tvals (l.take k)).flatMap valC ++ #[Value.int .u8 (g.1 : Int), .int .u64 0].toList = (tvals (l.take (k + 1))).flatMap valC := by rw [HT.out]; rfl
      rw [hcs] at hown8
      exact ⟨⟨k + 1, c8, D', by omega, rfl, by rw [Int.natCast_add]; rfl, HS8, HB8, hown8⟩, by rw [show intOf (.int .i64 ((k : Int) + 1)) = ((k + 1 : Nat) : Int) from rfl, show intOf (.int .i64 (k : Int)) = (k : Int) from rfl]; omega⟩
    · obtain rfl : k = l.length := by omega
      rw [List.take_length] at HO
      have HR := Lib.hid (Reads.of_own HO.out)
      have x0 := HB.out.cell 0
      have x1 := HB.out.cell 1
      have x2 := HB.out.cell 2
      have x3 := HB.out.cell 3
      simp at x0 x1 x2 x3
      go_wp2_with fail
      refine (HV.out _ _ _ _ HR.out).mono ?_
      rintro e w9 ⟨rfl, hS9⟩
      have HB9 := Lib.hid (HB.out.step hS9 id)
      have HS9 := Lib.hid (HS.out.trans hS9)
      clear hS9 x0 x1 x2 x3
      have hsz9 := HB9.out.lt
      have x0 := HB9.out.cell 0
      have x1 := HB9.out.cell 1
      simp at x0 x1
      have g2 : (a : Int) < (l.length : Int) := by omega
      obtain ⟨bb, off, hBA, _, hbl, hc⟩ := st_cells gtC 2 (by decide) (fun _ => rfl) (hr.step HS9.out (fun _ _ => id)) halt
      have c1 := hc 1 _ rfl
      rw [hmu] at c1
      subst hBA
      have HX := (Step.refl (F := fun _ => False) (w := w9)).alloc (.cells #[.int .u8 t, .int .u64 nn] 63)
      clear hc
      cases mu <;>
      · go_wp2_with fail
        go_ret2
        exact ⟨rfl, HS9.out.alloc _⟩
end Go.Proofs.Ytfemeendkjcffaa
