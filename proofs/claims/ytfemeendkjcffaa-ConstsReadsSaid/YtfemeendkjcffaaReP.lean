/-
  The law's closure: consts.Read of any bytes.
-/
import Derived.Test.YtfemeendkjcffaaReE
import Derived.Test.YtfemeendkjcffaaReN
set_option linter.unusedVariables false
set_option linter.unusedSimpArgs false
namespace Go.Proofs.Ytfemeendkjcffaa
open Go.RowKit

set_option maxRecDepth 100000 in
set_option maxHeartbeats 1600000 in
theorem crclo_any (w : World) (X sb : Nat) (S : Nat → Prop) (D : Option Addr) (c : Nat) (bs : List UInt8) (k : Nat) (h : Scn w X S D c bs k) (hsb : Blk w sb 79 #[.pointer (some ⟨X, 0, none⟩)]) :
    Calls Try.prog 49 #[.pointer (some ⟨sb, 0, none⟩)] w (CreR X S D c bs w (creF bs k)) := by
  have HG := Lib.hid (cread_any (w.alloc (.cells (insC 0 0 0 none 0 0) 50)) X S D c bs k (h.alloc _))
  have s0 := hsb.cell 0
  have hsbl := hsb.lt
  simp at s0
  have hX := h.lt
  have HB := Lib.hid (Blk.new w 50 (insC 0 0 0 none 0 0))
  have hlow := h.low
  have hT0 : Hid (Step (fun i => i = X) w (w.alloc (.cells (insC 0 0 0 none 0 0) 50))) := Step.refl.alloc _
  clear hsb h
  generalize creF bs k = RR at HG ⊢
  cases RR with
  | er y a =>
    show Calls Try.prog 49 #[.pointer (some ⟨sb, 0, none⟩)] w fun e w' => e = .panicked (stopP (y : Int) (a : Int)) ∧ Step (fun i => i = X) w w'
    go_enter Try.func49, Try.ntmps49
    go_wp2_with fail
    refine HG.out.mono ?_
    rintro e w1 ⟨rfl, ht⟩
    exact ⟨rfl, rfl, hT0.out.trans ht⟩
  | ok x k1 =>
    obtain ⟨op, a⟩ := x
    show Calls Try.prog 49 #[.pointer (some ⟨sb, 0, none⟩)] w fun e w' => ∃ D' c', e = .returned (.agg (insC (op : Int) (a : Int) 0 D' 0 c')) ∧ Scn w' X S D c bs k1 ∧ Step (fun i => i = X) w w'
    go_enter Try.func49, Try.ntmps49
    go_wp2_with fail
    refine HG.out.mono ?_
    rintro e w1 ⟨DI, cI, rfl, hs, ht⟩
    have hB1 := HB.out.step ht (show w.heap.size ≠ X by omega)
    have hone := insC_one (op : Int) (a : Int) 0 DI 0 cI
    go_wp2_with (refine wpList_store_rowTo rfl 50 _ _ rfl rfl w.heap.size (insC (op : Int) (a : Int) 0 DI 0 cI) rfl rfl 50 _ hB1 rfl rfl hone ?_)
    have hB2 := hB1.row (insC (op : Int) (a : Int) 0 DI 0 cI)
    have r0 := hB2.cell 0
    have r1 := hB2.cell 1
    have r2 := hB2.cell 2
    have r3 := hB2.cell 3
    simp [insC] at r0 r1 r2 r3
    have hst : Step (fun i => i = w.heap.size) w1 (w1.setRow w.heap.size (insC (op : Int) (a : Int) 0 DI 0 cI)) := Step.setRow (F := fun k => k = w.heap.size) Step.refl (g := w.heap.size) (.inl rfl) _
    refine bodyPost_ret (v := .agg (insC (op : Int) (a : Int) 0 DI 0 cI)) (by simp [results, Try.results49, go_sem, insC, r0, r1, r2, r3]) rfl ?_
    exact ⟨DI, cI, rfl, hs.step hst (by omega) (fun j hj e => by have := hlow j hj; omega), (hT0.out.trans ht).setRow (.inr (Nat.le_refl _)) _⟩
end Go.Proofs.Ytfemeendkjcffaa
