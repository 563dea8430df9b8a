/-
  scan.Over; instr.Parse of what may be.
-/
import Derived.Test.YtfemeendkjcffaaGeC
set_option linter.unusedVariables false
set_option linter.unusedSimpArgs false
namespace Go.Proofs.Ytfemeendkjcffaa
open Go.RowKit

set_option maxRecDepth 100000 in
set_option maxHeartbeats 1600000 in
theorem over_walk (w : World) (D : Option Addr) (c : Nat) (bs : List UInt8) (S : Nat → Prop) (hr : Reads w S 1 D bs.length (u8s bs)) (hsh : bs.length ≤ 1000000) :
    Calls Try.prog 47 #[.slice D bs.length c] w fun e w' => ∃ X S' D' c', e = .returned (.pointer (some ⟨X, 0, none⟩)) ∧ Scn w' X S' D' c' bs 0 ∧ w.heap.size ≤ X ∧ (∀ j, S' j → w.heap.size ≤ j) ∧ Step (fun _ => False) w w' := by
  have hfr := own_fresh (w := w) (e := 5) (base := w.heap.size) 1 (Nat.le_refl _)
  have hr2 := hr.step (Step.refl.alloc (F := fun _ => False) (w := w) (.cells #[] 5)) (fun _ _ => id)
  have hone := u8s_one bs
  have hm : 0 + bs.length ≤ maxLen := by unfold maxLen; omega
  clear hr
  go_enter Try.func47, Try.ntmps47
  go_wp2_with (at_builtin; refine wpList_append_src _ rfl _ _ (by rfl) E_u8 (by rfl) hfr (by rfl) hr2 hone hm (by omega) (by simp) ?_; intro D' c' w1 hown hgrow hat; have HO := Lib.hid hown; have HG := Lib.hid hgrow; clear hown hgrow hat)
  have hs1 : Step (fun _ => False) w w1 := grow_step (Step.refl.alloc _) HG.out hfr (Nat.le_refl _)
  have hO := HO.out
  rw [List.nil_append, Nat.zero_add] at hO
  have HB := Blk.new w1 198 #[.slice D' bs.length c', .int .i64 0]
  have hb : ∀ j, Value.ownBlock (.slice D' bs.length c') = some j → w.heap.size ≤ j ∧ j < w1.heap.size := fun j hj => ⟨own_ge hO j hj, own_lt hO j hj⟩
  refine bodyPost_ret (v := .pointer (some ⟨w1.heap.size, 0, none⟩)) (by simp [results, Try.results47, go_sem]) rfl ?_
  refine ⟨w1.heap.size, _, D', c', rfl, ⟨HB, Reads.of_own (hO.alloc _), fun hj => by have := (hb _ hj).2; omega, Nat.zero_le _, hsh, own_cap hO, fun j hj => by have := (hb _ hj).2; simp; omega⟩, hs1.size, fun j hj => (hb _ hj).1, hs1.alloc _⟩

set_option maxRecDepth 100000 in
set_option maxHeartbeats 1600000 in
theorem pclo_ok (w : World) (X sb : Nat) (S : Nat → Prop) (D : Option Addr) (c : Nat) (bs : List UInt8) (k : Nat) (h : Scn w X S D c bs k) (op a b : Nat) (L : List Nat) (rest : List UInt8) (hop : op < 256) (ha : a < 18446744073709551616) (hLb : ∀ x ∈ L, x < 4294967296)
    (hz : rgtF op a b L.length = 0) (hd : bs.drop k = putL op a b L ++ rest) (hsb : Blk w sb 79 #[.pointer (some ⟨X, 0, none⟩)]) :
    Calls Try.prog 154 #[.pointer (some ⟨sb, 0, none⟩)] w fun e w' => ∃ D' c', e = .returned (.agg (insC (op : Int) (a : Int) (b : Int) D' L.length c')) ∧ Step (fun i => i = X) w w' ∧ GetTo X S D c bs (k + (putL op a b L).length) L D' c' w w' := by
  have HG := Lib.hid (get_all (w.alloc (.cells (insC 0 0 0 none 0 0) 50)) X S D c bs k (h.alloc _) op a b L rest hop ha hLb hz hd)
  have s0 := hsb.cell 0
  have hsbl := hsb.lt
  simp at s0
  have hX := h.lt
  have HB := Lib.hid (Blk.new w 50 (insC 0 0 0 none 0 0))
  have hlow := h.low
  have hT0 : Hid (Step (fun i => i = X) w (w.alloc (.cells (insC 0 0 0 none 0 0) 50))) := Step.refl.alloc _
  have hszl : (w.alloc (.cells (insC 0 0 0 none 0 0) 50)).heap.size = w.heap.size + 1 := by simp
  clear hsb h hd hz
  go_enter Try.func154, Try.ntmps154
  go_wp2_with fail
  refine HG.out.mono ?_
  rintro e w1 ⟨D', c', rfl, ht, ho, hs⟩
  have hB1 := HB.out.step ht (show w.heap.size ≠ X by omega)
  have hone := insC_one (op : Int) (a : Int) (b : Int) D' L.length c'
  go_wp2_with (refine wpList_store_rowTo rfl 50 _ _ rfl rfl w.heap.size (insC (op : Int) (a : Int) (b : Int) D' L.length c') rfl rfl 50 _ hB1 rfl rfl hone ?_)
  have hB2 := hB1.row (insC (op : Int) (a : Int) (b : Int) D' L.length c')
  have r0 := hB2.cell 0
  have r1 := hB2.cell 1
  have r2 := hB2.cell 2
  have r3 := hB2.cell 3
  simp [insC] at r0 r1 r2 r3
  have hst : Step (fun i => i = w.heap.size) w1 (w1.setRow w.heap.size (insC (op : Int) (a : Int) (b : Int) D' L.length c')) := Step.setRow (F := fun k => k = w.heap.size) Step.refl (g := w.heap.size) (.inl rfl) _
  rw [hszl] at ho
  refine bodyPost_ret (v := .agg (insC (op : Int) (a : Int) (b : Int) D' L.length c')) (by simp [results, Try.results154, go_sem, insC, r0, r1, r2, r3]) rfl ?_
  refine ⟨D', c', rfl, (hT0.out.trans ht).setRow (.inr (Nat.le_refl _)) _, ?_, hs.step hst (by omega) (fun j hj e => by have := hlow j hj; omega)⟩
  exact own_step (own_base ho (fun q hq => by have := own_ge ho q hq; omega)) hst (fun q hq e => by have := own_ge ho q hq; omega)
end Go.Proofs.Ytfemeendkjcffaa
