/-
  Pa: PaA, PaB.
-/
import Derived.Test.YtfemeendkjcffaaGe
set_option linter.unusedVariables false
set_option linter.unusedSimpArgs false
/-! scan.Over; instr.Parse of what may be. -/
namespace Go.Proofs.Ytfemeendkjcffaa
open Go.RowKit

set_option maxRecDepth 100000 in
set_option maxHeartbeats 1600000 in
theorem over_walk (w : World) (D : Option Addr) (c : Nat) (bs : List UInt8) (S : Nat → Prop) (hr : Reads w S 1 D bs.length (u8s bs)) (hsh : bs.length ≤ 1000000) :
    Calls Try.prog 47 #[.slice D bs.length c] w fun e w' => ∃ X S' D' c', e = .returned (.pointer (some ⟨X, 0, none⟩)) ∧ Scn w' X S' D' c' bs 0 ∧ w.heap.size ≤ X ∧ (∀ j, S' j → w.heap.size ≤ j) ∧ Step (fun _ => False) w w' := by
  have hfr := own_fresh (w := w) (e := 5) (base := w.heap.size) 1 (Nat.le_refl _)
  have hr2 := hr.step (Step.refl.alloc (F := fun _ => False) (w := w) (.cells #[] 5)) (fun _ _ => id)
  have hone := u8s_one bs
  have hm : 0 + bs.length ≤ maxLen := by unfold maxLen; omega
  clear hr
  go_enter Try.func47, Try.ntmps47
  go_wp2_with (at_builtin; refine wpList_append_src _ rfl _ _ (by rfl) E_u8 (by rfl) hfr (by rfl) hr2 hone hm (by omega) (by simp) ?_; intro D' c' w1 hown hgrow hat; have HO := Lib.hid hown; have HG := Lib.hid hgrow; clear hown hgrow hat)
  have hs1 : Step (fun _ => False) w w1 := grow_step (Step.refl.alloc _) HG.out hfr (Nat.le_refl _)
  have hO := HO.out
  rw [List.nil_append, Nat.zero_add] at hO
  have HB := Blk.new w1 198 #[.slice D' bs.length c', .int .i64 0]
  have hb : ∀ j, Value.ownBlock (.slice D' bs.length c') = some j → w.heap.size ≤ j ∧ j < w1.heap.size := fun j hj => ⟨own_ge hO j hj, own_lt hO j hj⟩
  refine bodyPost_ret (v := .pointer (some ⟨w1.heap.size, 0, none⟩)) (by simp [results, Try.results47, go_sem]) rfl ?_
  refine ⟨w1.heap.size, _, D', c', rfl, ⟨HB, Reads.of_own (hO.alloc _), fun hj => by have := (hb _ hj).2; omega, Nat.zero_le _, hsh, own_cap hO, fun j hj => by have := (hb _ hj).2; simp; omega⟩, hs1.size, fun j hj => (hb _ hj).1, hs1.alloc _⟩

set_option maxRecDepth 100000 in
set_option maxHeartbeats 1600000 in
theorem pclo_ok (w : World) (X sb : Nat) (S : Nat → Prop) (D : Option Addr) (c : Nat) (bs : List UInt8) (k : Nat) (h : Scn w X S D c bs k) (op a b : Nat) (L : List Nat) (rest : List UInt8) (hop : op < 256) (ha : a < 18446744073709551616) (hLb : ∀ x ∈ L, x < 4294967296)
    (hz : rgtF op a b L.length = 0) (hd : bs.drop k = putL op a b L ++ rest) (hsb : Blk w sb 79 #[.pointer (some ⟨X, 0, none⟩)]) :
    Calls Try.prog 154 #[.pointer (some ⟨sb, 0, none⟩)] w fun e w' => ∃ D' c', e = .returned (.agg (insC (op : Int) (a : Int) (b : Int) D' L.length c')) ∧ Step (fun i => i = X) w w' ∧ GetTo X S D c bs (k + (putL op a b L).length) L D' c' w w' := by
  have HG := Lib.hid (get_all (w.alloc (.cells (insC 0 0 0 none 0 0) 50)) X S D c bs k (h.alloc _) op a b L rest hop ha hLb hz hd)
  have s0 := hsb.cell 0
  have hsbl := hsb.lt
  simp at s0
  have hX := h.lt
  have HB := Lib.hid (Blk.new w 50 (insC 0 0 0 none 0 0))
  have hlow := h.low
  have hT0 : Hid (Step (fun i => i = X) w (w.alloc (.cells (insC 0 0 0 none 0 0) 50))) := Step.refl.alloc _
  have hszl : (w.alloc (.cells (insC 0 0 0 none 0 0) 50)).heap.size = w.heap.size + 1 := by simp
  clear hsb h hd hz
  go_enter Try.func154, Try.ntmps154
  go_wp2_with fail
  refine HG.out.mono ?_
  rintro e w1 ⟨D', c', rfl, ht, ho, hs⟩
  have hB1 := HB.out.step ht (show w.heap.size ≠ X by omega)
  have hone := insC_one (op : Int) (a : Int) (b : Int) D' L.length c'
  go_wp2_with (refine wpList_store_rowTo rfl 50 _ _ rfl rfl w.heap.size (insC (op : Int) (a : Int) (b : Int) D' L.length c') rfl rfl 50 _ hB1 rfl rfl hone ?_)
  have hB2 := hB1.row (insC (op : Int) (a : Int) (b : Int) D' L.length c')
  have r0 := hB2.cell 0
  have r1 := hB2.cell 1
  have r2 := hB2.cell 2
  have r3 := hB2.cell 3
  simp [insC] at r0 r1 r2 r3
  have hst : Step (fun i => i = w.heap.size) w1 (w1.setRow w.heap.size (insC (op : Int) (a : Int) (b : Int) D' L.length c')) := Step.setRow (F := fun k => k = w.heap.size) Step.refl (g := w.heap.size) (.inl rfl) _
  rw [hszl] at ho
  refine bodyPost_ret (v := .agg (insC (op : Int) (a : Int) (b : Int) D' L.length c')) (by simp [results, Try.results154, go_sem, insC, r0, r1, r2, r3]) rfl ?_
  refine ⟨D', c', rfl, (hT0.out.trans ht).setRow (.inr (Nat.le_refl _)) _, ?_, hs.step hst (by omega) (fun j hj e => by have := hlow j hj; omega)⟩
  exact own_step (own_base ho (fun q hq => by have := own_ge ho q hq; omega)) hst (fun q hq e => by have := own_ge ho q hq; omega)
end Go.Proofs.Ytfemeendkjcffaa
/-! instr.Parse of what may be. -/
namespace Go.Proofs.Ytfemeendkjcffaa
open Go.RowKit

set_option maxRecDepth 100000 in
set_option maxHeartbeats 3200000 in
theorem parse_ok (w : World) (D : Option Addr) (c : Nat) (bs : List UInt8) (S : Nat → Prop) (hr : Reads w S 1 D bs.length (u8s bs)) (hsh : bs.length ≤ 1000000) (op a b : Nat) (L : List Nat) (rest : List UInt8) (hop : op < 256) (ha : a < 18446744073709551616) (hLb : ∀ x ∈ L, x < 4294967296)
    (hz : rgtF op a b L.length = 0) (hd : bs = putL op a b L ++ rest) :
    Calls Try.prog 58 #[.slice D bs.length c] w fun e w' => ∃ D' c', e = .returned (.tuple #[.agg (insC (op : Int) (a : Int) (b : Int) D' L.length c'), .int .i64 ((putL op a b L).length : Int), .agg #[.int .i64 0, .int .i64 0]]) ∧
      w'.ownsRow w.heap.size 51 1 (.slice D' L.length c') L.length (u32s L) ∧ Step (fun _ => False) w w' := by
  have hmf : ∀ (fn : Fn) (first cap : Array Value) (w : World), (Instr.makeFunc fn first cap).run Try.prog w = .ok (.func fn first cap) w := fun _ _ _ _ => rfl
  have HV : Hid (∀ w0 X S' D' c' sb, Scn w0 X S' D' c' bs 0 → Blk w0 sb 79 #[.pointer (some ⟨X, 0, none⟩)] → Calls Try.prog 48 #[.func (.func 154) #[] #[.pointer (some ⟨sb, 0, none⟩)]] w0 fun e w' => ∃ D2 c2, e = .returned (.tuple #[.agg (insC (op : Int) (a : Int) (b : Int) D2 L.length c2), .agg #[.int .i64 0, .int .i64 0]]) ∧
      ∃ wa wb, Step (fun _ => False) w0 wa ∧ Step (fun i => i = X) wa wb ∧ GetTo X S' D' c' bs (putL op a b L).length L D2 c2 wa wb ∧ Step (fun k => w0.heap.size ≤ k ∧ k < wa.heap.size) wb w') := fun w0 X S' D' c' sb hs hb =>
    value_ok 154 #[.pointer (some ⟨sb, 0, none⟩)] w0 (fun i => i = X) (GetTo X S' D' c' bs (putL op a b L).length L) op a b L.length (fun _ => rfl) (fun k hk => hk ▸ hs.lt) (fun w' ht => by
      have := pclo_ok w' X sb S' D' c' bs 0 (hs.quiet ht) op a b L rest hop ha hLb hz hd (hb.step ht id)
      rw [Nat.zero_add] at this
      exact this)
  obtain ⟨P, hP⟩ : ∃ P, P = (putL op a b L).length := ⟨_, rfl⟩
  have hPb : P ≤ bs.length := by rw [hP, hd, List.length_append]; omega
  rw [← hP] at HV ⊢
  clear hP hz hd hLb
  have HR := Lib.hid hr
  have HB2 := Lib.hid ((Blk.new w 50 (insC 0 0 0 none 0 0)).alloc (.cells #[.int .i64 0, .int .i64 0] 85))
  have HB3 : Hid (Blk ((w.alloc (.cells (insC 0 0 0 none 0 0) 50)).alloc (.cells #[.int .i64 0, .int .i64 0] 85)) (w.heap.size + 1) 85 #[.int .i64 0, .int .i64 0]) := by
    have h1 := Blk.new (w.alloc (.cells (insC 0 0 0 none 0 0) 50)) 85 #[.int .i64 0, .int .i64 0]
    rw [show (w.alloc (.cells (insC 0 0 0 none 0 0) 50)).heap.size = w.heap.size + 1 by simp] at h1
    exact h1
  have hsz2 : ((w.alloc (.cells (insC 0 0 0 none 0 0) 50)).alloc (.cells #[.int .i64 0, .int .i64 0] 85)).heap.size = w.heap.size + 2 := by simp
  have HT2 : Hid (Step (fun _ => False) w ((w.alloc (.cells (insC 0 0 0 none 0 0) 50)).alloc (.cells #[.int .i64 0, .int .i64 0] 85))) := (Step.refl.alloc _).alloc _
  clear hr
  go_enter Try.func58, Try.ntmps58
  go_wp2_with fail
  refine (over_walk _ D c bs S (HR.out.step HT2.out (fun _ _ => id)) hsh).mono ?_
  rintro e w3 ⟨X, S', D', c', rfl, hs3, hX3, hS3, ht3⟩
  rw [hsz2] at hX3 hS3
  have HB4 := Lib.hid ((HB2.out.step ht3 id).alloc (.cells #[.pointer (some ⟨X, 0, none⟩)] 79))
  have HC4 := Lib.hid ((HB3.out.step ht3 id).alloc (.cells #[.pointer (some ⟨X, 0, none⟩)] 79))
  have HS4 := Lib.hid (hs3.alloc (.cells #[.pointer (some ⟨X, 0, none⟩)] 79))
  have HT4 := Lib.hid ((HT2.out.trans ht3).alloc (.cells #[.pointer (some ⟨X, 0, none⟩)] 79))
  have HP4 := Lib.hid (Blk.new w3 79 #[.pointer (some ⟨X, 0, none⟩)])
  have hXl : X < w3.heap.size := hs3.lt
  have hn3 : w.heap.size + 2 ≤ w3.heap.size := by have := ht3.size; rw [hsz2] at this; exact this
  clear hs3 ht3 HB2 HB3 HT2 hsz2
  go_wp2_with fail
  refine (HV.out _ X S' D' c' _ HS4.out HP4.out).mono ?_
  rintro e w5 ⟨D2, c2, rfl, wa, wb, g1, g2, ⟨g3, g4⟩, g5⟩
  have n4 : (w3.alloc (.cells #[.pointer (some ⟨X, 0, none⟩)] 79)).heap.size = w3.heap.size + 1 := by simp
  have hlow := HS4.out.low
  rw [n4] at g5 hlow
  have HS5 := Lib.hid (g4.step g5 (by omega) (fun j hj hk => by have := hlow j hj; omega))
  have HO5 := Lib.hid (own_step g3 g5 (fun q hq hk => by have := own_ge g3 q hq; omega))
  have HP5 := Lib.hid (((HP4.out.step g1 id).step g2 (show w3.heap.size ≠ X by omega)).step g5 (by omega))
  have HB5 := Lib.hid (((HB4.out.step g1 id).step g2 (show w.heap.size ≠ X by omega)).step g5 (by omega))
  have HC5 := Lib.hid (((HC4.out.step g1 id).step g2 (show w.heap.size + 1 ≠ X by omega)).step g5 (by omega))
  have HT5 : Hid (Step (fun _ => False) w w5) := (((HT4.out.trans g1).trans' g2 (fun i hi => .inr (by omega))).trans' g5 (fun i hi => .inr (by omega)))
  have hwa0 := g1.size
  rw [n4] at hwa0
  have hwa : w.heap.size ≤ wa.heap.size := (HT4.out.trans g1).size
  have n5 : w3.heap.size + 1 ≤ w5.heap.size := by have h1 := g1.size; have h2 := g2.size; have h3 := g5.size; omega
  clear g1 g2 g3 g4 g5 HS4 HP4 HB4 HC4 HT4 HV n4 hlow
  simp only [insC]
  go_wp2_with fail
  have HI6 := Lib.hid ((Blk.new w5 50 (insC (op : Int) (a : Int) (b : Int) D2 L.length c2)).alloc (.cells #[.int .i64 0, .int .i64 0] 85))
  have HJ6 : Hid (Blk ((w5.alloc (.cells (insC (op : Int) (a : Int) (b : Int) D2 L.length c2) 50)).alloc (.cells #[.int .i64 0, .int .i64 0] 85)) (w5.heap.size + 1) 85 #[.int .i64 0, .int .i64 0]) := by
    have h1 := Blk.new (w5.alloc (.cells (insC (op : Int) (a : Int) (b : Int) D2 L.length c2) 50)) 85 #[.int .i64 0, .int .i64 0]
    rw [show (w5.alloc (.cells (insC (op : Int) (a : Int) (b : Int) D2 L.length c2) 50)).heap.size = w5.heap.size + 1 by simp] at h1
    exact h1
  have HS6 := Lib.hid ((HS5.out.alloc (.cells (insC (op : Int) (a : Int) (b : Int) D2 L.length c2) 50)).alloc (.cells #[.int .i64 0, .int .i64 0] 85))
  have HO6 := Lib.hid ((HO5.out.alloc (.cells (insC (op : Int) (a : Int) (b : Int) D2 L.length c2) 50)).alloc (.cells #[.int .i64 0, .int .i64 0] 85))
  have HP6 := Lib.hid ((HP5.out.alloc (.cells (insC (op : Int) (a : Int) (b : Int) D2 L.length c2) 50)).alloc (.cells #[.int .i64 0, .int .i64 0] 85))
  have HB6 := Lib.hid ((HB5.out.alloc (.cells (insC (op : Int) (a : Int) (b : Int) D2 L.length c2) 50)).alloc (.cells #[.int .i64 0, .int .i64 0] 85))
  have HC6 := Lib.hid ((HC5.out.alloc (.cells (insC (op : Int) (a : Int) (b : Int) D2 L.length c2) 50)).alloc (.cells #[.int .i64 0, .int .i64 0] 85))
  have HT6 := Lib.hid ((HT5.out.alloc (.cells (insC (op : Int) (a : Int) (b : Int) D2 L.length c2) 50)).alloc (.cells #[.int .i64 0, .int .i64 0] 85))
  obtain ⟨W, hW⟩ : ∃ W, W = (w5.alloc (.cells (insC (op : Int) (a : Int) (b : Int) D2 L.length c2) 50)).alloc (.cells #[.int .i64 0, .int .i64 0] 85) := ⟨_, rfl⟩
  rw [← hW] at HI6 HJ6 HS6 HO6 HP6 HB6 HC6 HT6
  have hW2 := hW
  simp only [insC] at hW2
  rw [← hW2]
  clear hW hW2 HS5 HO5 HP5 HB5 HC5 HT5
  obtain ⟨i6, hi6⟩ : ∃ i6, i6 = w5.heap.size := ⟨_, rfl⟩
  rw [← hi6] at HI6 HJ6 n5 ⊢
  clear hi6
  have x0 := HI6.out.cell 0
  have x1 := HI6.out.cell 1
  have x2 := HI6.out.cell 2
  have x3 := HI6.out.cell 3
  have y0 := HJ6.out.cell 0
  have y1 := HJ6.out.cell 1
  have s0 := HP6.out.cell 0
  simp [insC] at x0 x1 x2 x3 y0 y1 s0
  obtain ⟨F2, hF2⟩ : ∃ F2 : Nat → Prop, F2 = fun q => q = w.heap.size ∨ q = w.heap.size + 1 := ⟨_, rfl⟩
  have hFi : ¬ F2 i6 := by rw [hF2]; omega
  have hFj : ¬ F2 (i6 + 1) := by rw [hF2]; omega
  have hFs : ¬ F2 w3.heap.size := by rw [hF2]; omega
  have hFX : ¬ F2 X := by rw [hF2]; omega
  have hFS : ∀ j, S' j → ¬ F2 j := fun j hj => by have := hS3 j hj; rw [hF2]; omega
  have HF2 := Lib.hid hF2
  clear hF2
  have d0 := cls_cell (F := F2) (w0 := W) x0 hFi
  have d1 := cls_cell (F := F2) (w0 := W) x1 hFi
  have d2 := cls_cell (F := F2) (w0 := W) x2 hFi
  have d3 := cls_cell (F := F2) (w0 := W) x3 hFi
  have d4 := cls_cell (F := F2) (w0 := W) y0 hFj
  have d5 := cls_cell (F := F2) (w0 := W) y1 hFj
  have d6 := cls_cell (F := F2) (w0 := W) s0 hFs
  clear x0 x1 x2 x3 y0 y1 s0
  refine Mix.wp_region_mix [2, 4, 6] [2, 4] (Step F2 W) (by kernel_rfl) (by kernel_rfl) Step.refl.drew (fun hcls => ?_)
  refine Mix.wpL_reads 2 (by rfl) ?_
  simp only [List.take_succ_cons, List.drop_succ_cons, List.take_zero, List.drop_zero]
  repeat (go_big_quiet_step (fail))
  refine wpQuiet_nil ?_
  refine Mix.wpL_op (by rfl) (fun K hK => ?_)
  go_simp
  refine (at_walk _ X S' D' c' bs P (HS6.out.quiet Step.refl.drew)).mono ?_
  rintro e wS ⟨rfl, rfl⟩
  refine hK _ _ (fun hlt => Mix.cl Step.refl.drew) ?_
  clear hK K
  refine Mix.wpL_reads 1 (by rfl) ?_
  simp only [List.take_succ_cons, List.drop_succ_cons, List.take_zero, List.drop_zero]
  repeat (go_big_quiet_step (fail))
  refine wpQuiet_nil ?_
  have z0 := HB6.out.frozen 0
  have z1 := HB6.out.frozen 1
  have z2 := HB6.out.frozen 2
  have z3 := HB6.out.frozen 3
  have r0 := HB6.out.cell 0
  have r1 := HB6.out.cell 1
  have r2 := HB6.out.cell 2
  have r3 := HB6.out.cell 3
  simp [insC] at r0 r1 r2 r3
  refine Mix.wpL_op (by rfl) (fun K hK => ?_)
  go_simp
  obtain ⟨W7, hW7⟩ : ∃ W7, W7 = (((W.setCell ⟨w.heap.size, 0, none⟩ (.int .u8 (op : Int))).setCell ⟨w.heap.size, 1, none⟩ (.int .u64 (a : Int))).setCell ⟨w.heap.size, 2, none⟩ (.int .u64 (b : Int))).setCell ⟨w.heap.size, 3, none⟩ (.slice D2 L.length c2) := ⟨_, rfl⟩
  have HR7 : Hid (Blk W7 w.heap.size 50 (insC (op : Int) (a : Int) (b : Int) D2 L.length c2)) := by
    have hq := (((HB6.out.set_ 0 (.int .u8 (op : Int))).set_ 1 (.int .u64 (a : Int))).set_ 2 (.int .u64 (b : Int))).set_ 3 (.slice D2 L.length c2)
    rw [← hW7] at hq
    simp [insC] at hq
    exact hq
  have HT7 : Hid (Step (fun q => q = w.heap.size) W W7) := by
    rw [hW7]
    exact ((((Step.refl (F := fun q => q = w.heap.size)).setCell (p := ⟨w.heap.size, 0, none⟩) (.inl rfl) _).setCell (p := ⟨w.heap.size, 1, none⟩) (.inl rfl) _).setCell (p := ⟨w.heap.size, 2, none⟩) (.inl rfl) _).setCell (p := ⟨w.heap.size, 3, none⟩) (.inl rfl) _
  have HC7 := Lib.hid (HC6.out.step HT7.out (show w.heap.size + 1 ≠ w.heap.size by omega))
  rw [← hW7]
  refine hK _ _ (fun hlt => Mix.cl (by rw [HF2.out]; exact (HT7.out.mono fun _ _ hk => .inl hk).drew)) ?_
  clear hK K z0 z1 z2 z3 r0 r1 r2 r3 hW7
  refine Mix.wpL_reads 1 (by rfl) ?_
  simp only [List.take_succ_cons, List.drop_succ_cons, List.take_zero, List.drop_zero]
  repeat (go_big_quiet_step (fail))
  refine wpQuiet_nil ?_
  have z0 := HC7.out.frozen 0
  have z1 := HC7.out.frozen 1
  have r0 := HC7.out.cell 0
  have r1 := HC7.out.cell 1
  simp at r0 r1
  refine Mix.wpL_op (by rfl) (fun K hK => ?_)
  go_simp
  refine hK _ _ (fun hlt => absurd hlt (by decide)) ?_
  clear hK K
  refine Mix.wpL_end ?_
  obtain ⟨W8, hW8⟩ : ∃ W8, W8 = (W7.setCell ⟨w.heap.size + 1, 0, none⟩ (.int .i64 0)).setCell ⟨w.heap.size + 1, 1, none⟩ (.int .i64 0) := ⟨_, rfl⟩
  have HC8 : Hid (Blk W8 (w.heap.size + 1) 85 #[.int .i64 0, .int .i64 0]) := by
    have hq := (HC7.out.set_ 0 (.int .i64 0)).set_ 1 (.int .i64 0)
    rw [← hW8] at hq
    simp at hq
    exact hq
  have HT8 : Hid (Step (fun q => q = w.heap.size + 1) W7 W8) := by
    rw [hW8]
    exact ((Step.refl (F := fun q => q = w.heap.size + 1)).setCell (p := ⟨w.heap.size + 1, 0, none⟩) (.inl rfl) _).setCell (p := ⟨w.heap.size + 1, 1, none⟩) (.inl rfl) _
  have HR8 := Lib.hid (HR7.out.step HT8.out (show w.heap.size ≠ w.heap.size + 1 by omega))
  go_wp2_with fail
  rw [← hW8]
  have q0 := HR8.out.cell 0
  have q1 := HR8.out.cell 1
  have q2 := HR8.out.cell 2
  have q3 := HR8.out.cell 3
  have q4 := HC8.out.cell 0
  have q5 := HC8.out.cell 1
  simp [insC] at q0 q1 q2 q3 q4 q5
  refine bodyPost_ret (v := .tuple #[.agg (insC (op : Int) (a : Int) (b : Int) D2 L.length c2), .int .i64 (P : Int), .agg #[.int .i64 0, .int .i64 0]]) (by simp [results, Try.results58, go_sem, q0, q1, q2, q3, q4, q5, insC]) rfl ?_
  have hT78 : Step (fun q => q = w.heap.size ∨ q = w.heap.size + 1) W W8 := (HT7.out.mono fun _ _ hk => .inl hk).trans (HT8.out.mono fun _ _ hk => .inr hk)
  refine ⟨D2, c2, rfl, ?_, ?_⟩
  · exact own_drew (own_step (own_base HO6.out (fun q hq => Nat.le_trans hwa (own_ge HO6.out q hq))) hT78 (fun q hq hk => by have := own_ge HO6.out q hq; omega))
  · exact (HT6.out.trans' hT78 (fun i hi => .inr (by omega))).drew
end Go.Proofs.Ytfemeendkjcffaa
