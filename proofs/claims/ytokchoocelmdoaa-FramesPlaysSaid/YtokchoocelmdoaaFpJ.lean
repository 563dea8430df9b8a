/-
  creelref31: Values, Block.
-/
import Derived.Test.YtokchoocelmdoaaFpI
set_option linter.unusedVariables false
set_option linter.unusedSimpArgs false
namespace Go.Proofs.Ytokchoocelmdoaa
open Go.RowKit

section
variable {w : World} {S : Nat → Prop} {A : Option Addr} {c : Nat} {l : List It}
set_option maxRecDepth 100000 in
set_option maxHeartbeats 800000 in
theorem r_values (hv : Reads w S 7 A l.length (its l)) (hl : l.length ≤ 100000) :
    Calls Try.prog 14 #[.slice A l.length c] w fun e w' => ∃ D c', e = .returned (.slice D (valsI l).length c') ∧ w'.ownsRow w.heap.size 28 1 (.slice D (valsI l).length c') (valsI l).length (u64s (valsI l)) ∧ Step (fun _ => False) w w' := by
  have HV := Lib.hid hv
  clear hv
  go_enter Try.func14, Try.ntmps14
  go_wp2_with fail
  go_loopw [3, 4] (fun dv i wr => ∃ (k m c' : Nat) (D : Option Addr), k ≤ l.length ∧ m ≤ k ∧ dv = .slice D m c' ∧ i = .int .i64 (k : Int) ∧ Hid ((valsI (l.take k)).length = m) ∧ Hid (wr.ownsRow w.heap.size 28 1 (.slice D m c') m (u64s (valsI (l.take k)))) ∧ Hid (Step (fun _ => False) w wr)) (fun _ i _ => l.length - (intOf i).toNat)
  case atStart => exact ⟨0, 0, 0, none, Nat.zero_le _, Nat.le_refl _, rfl, rfl, rfl, World.ownsRow_nil _ _ _ _, Step.refl⟩
  case round =>
    obtain ⟨k, m, c', D, hk, hm, rfl, rfl, hc, ho, hs⟩ := hrel
    by_cases hlt : k < l.length
    · obtain ⟨b, off, rfl, _, hbl, hcell⟩ := reads_cells It.cells 7 (by decide) It.len (HV.out.step hs.out (fun _ _ => id)) (k := k) hlt
      have c0 := hcell 0 _ rfl
      rw [Nat.add_zero] at c0
      have c1 := hcell 1 _ rfl
      have i0 : (0 : Int) ≤ (k : Int) := by omega
      have i1 : (k : Int) < (l.length : Int) := by omega
      have w2 := IntWalk.i64_in ((k : Int) + 1) (by omega)
      by_cases hz : l[k].k = 0
      · have hzb : (l[k].k == 0) = true := beq_iff_eq.2 hz
        have hy := valsI_yes l k hlt hz
        have HY := Lib.hid hy
        have hm1 : m + 1 ≤ maxLen := by unfold maxLen; omega
        have hone : ∀ u ∈ #[Value.int .u64 l[k].v].toList, u.oneCell' = true := by simp [Value.oneCell']
        have hsz := hs.out.size
        generalize l[k].k = y at *
        generalize l[k].v = z at *
        clear hz hcell hy
        go_wp2_with (at_builtin; refine wpList_append_src _ rfl _ _ (by rfl) E_u64 (by rfl) (ho.out.alloc _) (by rfl) (reads_new wr #[.int .u64 z] 28 1 1 rfl) hone hm1 (by omega) (by simp; omega) ?_; intro D' c2 w1 hown1 hgrow hat)
        go_roundw
        case rel => exact ⟨k + 1, m + 1, c2, D', by omega, by omega, rfl, by go_num, by rw [HY.out, List.length_append, hc.out]; rfl, by
          show w1.ownsRow _ _ _ _ _ _
          rw [HY.out, u64s_append]
          exact hown1, grow_step (hs.out.alloc _) hgrow (ho.out.alloc _) (Nat.le_refl _)⟩
        case measure => first | (simp [intOf]; done) | (simp [intOf]; omega)
      · have hzb : (l[k].k == 0) = false := beq_eq_false_iff_ne.2 hz
        have HY := Lib.hid (valsI_no l k hlt hz)
        generalize l[k].k = y at *
        clear hz hcell c1
        go_wp2_with fail
        go_roundw
        case rel => exact ⟨k + 1, m, c', D, by omega, by omega, rfl, by go_num, by rw [HY.out]; exact hc.out, by rw [HY.out]; exact ho.out, hs.out⟩
        case measure => first | (simp [intOf]; done) | (simp [intOf]; omega)
    · obtain rfl : k = l.length := by omega
      have i1 : ¬ (l.length : Int) < (l.length : Int) := by omega
      have HC := hc.out
      have HO := ho.out
      rw [List.take_length] at HC HO
      replace HC := Lib.hid HC
      replace HO := Lib.hid HO
      clear hc ho
      go_wp2_with fail
      go_ret
      exact ⟨D, c', by rw [HC.out]; rfl, by rw [HC.out]; exact HO.out, hs.out⟩
set_option maxRecDepth 100000 in
set_option maxHeartbeats 800000 in
theorem r_block (n : Nat) (hv : Reads w S 7 A l.length (its l)) (hl : l.length ≤ 100000) (hn : n < 18446744073709551616) :
    Calls Try.prog 27 #[.slice A l.length c, .int .u64 (n : Int)] w fun e w' => e = .returned (.int .i64 (blockI l n)) ∧ w' = w := by
  have wl := IntWalk.i64_in ((l.length : Int) - 1) (by omega)
  have HL := Lib.hid (r_last (c := c) 2 hv hl)
  have hbb := lastU_lt l 2 l.length
  obtain ⟨b, hb⟩ : ∃ b, b = lastI l 2 := ⟨_, rfl⟩
  rw [← hb] at HL
  have hb1 : -1 ≤ b := by rw [hb]; exact hbb.1
  have HB := Lib.hid hb
  clear hb hbb
  go_enter Try.func27, Try.ntmps27
  go_wp2_with fail
  go_loopw [5, 1] (fun i nv wr => ∃ (z : Int) (m : Nat), -1 ≤ z ∧ z < l.length ∧ m < 18446744073709551616 ∧ i = .int .i64 z ∧ nv = .int .u64 (m : Int) ∧ Hid (blockU l b (z + 1).toNat m = blockI l n) ∧ Hid (wr = w)) (fun i _ _ => (intOf i + 1).toNat)
  case atStart => exact ⟨(l.length : Int) - 1, n, by omega, by omega, hn, rfl, rfl, by rw [show ((l.length : Int) - 1 + 1).toNat = l.length by omega, HB.out]; rfl, rfl⟩
  case round =>
    obtain ⟨z, m, hz1, hz2, hm, rfl, rfl, hc, hq⟩ := hrel
    have hq' := hq.out
    subst hq'
    by_cases hz : b < z
    · obtain ⟨k, rfl⟩ : ∃ k : Nat, z = k := ⟨z.toNat, by omega⟩
      have hlt : k < l.length := by omega
      have gz : decide (b < (k : Int)) = true := decide_eq_true hz
      obtain ⟨bb, off, rfl, _, hbl, hcell⟩ := reads_cells It.cells 7 (by decide) It.len hv (k := k) hlt
      have c0 := hcell 0 _ rfl
      rw [Nat.add_zero] at c0
      have w2 := IntWalk.i64_in ((k : Int) - 1) (by omega)
      have HC := hc.out
      rw [show ((k : Int) + 1).toNat = k + 1 by omega] at HC
      replace HC := Lib.hid HC
      by_cases hzq : l[k].k = 1
      · have hzb : (l[k].k == 1) = true := beq_iff_eq.2 hzq
        have hzb2 : (l[k].k != 1) = false := by simp [hzq]
        rcases Nat.eq_zero_or_pos m with rfl | hp
        · have HH := Lib.hid ((blockU_hit hlt hz hzq).symm.trans HC.out)
          generalize l[k].k = y at *
          clear hzq hcell hc hz
          go_wp2_with fail
          refine HL.out.mono ?_
          rintro e w' ⟨rfl, hw⟩
          obtain rfl := hw.symm
          clear hw
          go_wp2_with fail
          go_ret
          exact ⟨by rw [← HH.out]; rfl, by first | exact Lib.hid trivial | rfl⟩
        · obtain ⟨m, rfl⟩ : ∃ q, m = q + 1 := ⟨m - 1, by omega⟩
          have HH := Lib.hid ((blockU_next hlt hz hzq).symm.trans HC.out)
          have hmb : (((m + 1 : Nat) : Int) == 0) = false := beq_eq_false_iff_ne.2 (by omega)
          have hmb2 : ((m : Int) + 1 == 0) = false := beq_eq_false_iff_ne.2 (by omega)
          have wm : IntKind.u64.wrap (((m + 1 : Nat) : Int) - 1) = (m : Int) := by rw [Go.IntKind.wrap_u64]; omega
          have wm2 : IntKind.u64.wrap (m : Int) = (m : Int) := by rw [Go.IntKind.wrap_u64]; omega
          generalize l[k].k = y at *
          clear hzq hcell hc hz
          go_wp2_with fail
          refine HL.out.mono ?_
          rintro e w' ⟨rfl, hw⟩
          obtain rfl := hw.symm
          clear hw
          go_wp2_with fail
          go_roundw
          case rel => exact ⟨(k : Int) - 1, m, by omega, by omega, by omega, rfl, by first | rfl | go_num, by rw [show ((k : Int) - 1 + 1).toNat = k by omega]; exact HH.out, by first | exact Lib.hid trivial | rfl⟩
          case measure => first | (simp [intOf]; done) | (simp [intOf]; omega)
      · have hzb : (l[k].k == 1) = false := beq_eq_false_iff_ne.2 hzq
        have hzb2 : (l[k].k != 1) = true := by simp [hzq]
        have HH := Lib.hid ((blockU_skip hlt hz hzq).symm.trans HC.out)
        generalize l[k].k = y at *
        clear hzq hcell hc hz
        go_wp2_with fail
        refine HL.out.mono ?_
        rintro e w' ⟨rfl, hw⟩
        obtain rfl := hw.symm
        clear hw
        go_wp2_with fail
        go_roundw
        case rel => exact ⟨(k : Int) - 1, m, by omega, by omega, hm, rfl, rfl, by rw [show ((k : Int) - 1 + 1).toNat = k by omega]; exact HH.out, by first | exact Lib.hid trivial | rfl⟩
        case measure => first | (simp [intOf]; done) | (simp [intOf]; omega)
    · have gz : decide (b < z) = false := decide_eq_false hz
      have HC := hc.out
      rw [blockU_low (by omega)] at HC
      replace HC := Lib.hid HC
      clear hc hz
      go_wp2_with fail
      refine HL.out.mono ?_
      rintro e w' ⟨rfl, hw⟩
      obtain rfl := hw.symm
      clear hw
      go_wp2_with fail
      go_ret
      exact ⟨by rw [← HC.out]; rfl, by first | exact Lib.hid trivial | rfl⟩
end
end Go.Proofs.Ytokchoocelmdoaa
