/-
  creelref31: Push, Without.
-/
import Derived.Test.YtokchoocelmdoaaFpJ
set_option linter.unusedVariables false
set_option linter.unusedSimpArgs false
namespace Go.Proofs.Ytokchoocelmdoaa
open Go.RowKit

def valIt (x : Int) : It := ⟨0, x, 0, 0, 0, false, 0⟩
section
variable {w : World} {S S' : Nat → Prop} {A V : Option Addr} {c cv : Nat} {l : List It} {v : List Int}
/-- A row made anew. -/
def ItNew (w : World) (D : Option Addr) (c : Nat) (l : List It) (w' : World) : Prop := w'.ownsRow w.heap.size 57 7 (.slice D l.length c) l.length (its l) ∧ Step (fun _ => False) w w'
set_option maxRecDepth 100000 in
set_option maxHeartbeats 800000 in
theorem r_push (hv : Reads w S 7 A l.length (its l)) (hw : Reads w S' 1 V v.length (u64s v)) (hl : l.length ≤ 100000) (hl2 : v.length ≤ 100000) :
    Calls Try.prog 19 #[.slice A l.length c, .slice V v.length cv] w fun e w' => ∃ D c', e = .returned (.slice D (l ++ v.map valIt).length c') ∧ ItNew w D c' (l ++ v.map valIt) w' := by
  have HV := Lib.hid hw
  have hfr : (w.alloc (.cells #[] 57)).ownsRow w.heap.size 57 7 (.slice (some ⟨w.heap.size, 0, none⟩) 0 0) 0 [] := own_fresh 7 (Nat.le_refl _)
  have hr' := hv.step (F := fun _ => False) (Step.refl.alloc (.cells #[] 57)) (fun _ _ => id)
  have hone := its_one l
  have hm : 0 + l.length ≤ maxLen := by unfold maxLen; omega
  clear hv hw
  go_enter Try.func19, Try.ntmps19
  go_wp2_with (at_builtin; refine wpList_append_src _ rfl _ _ (by rfl) E_it (by rfl) hfr (by rfl) hr' hone hm (by omega) (by simp) ?_; intro A0 c0 w0 hown0 hgrow0 hat0)
  have hs0 : Hid (Step (fun _ => False) w w0) := (Step.refl.alloc _).grown hgrow0 fun k hk => by
    simp [blkOf] at hk
    right; omega
  rw [Nat.zero_add] at hown0
  rw [List.nil_append] at hown0
  have HO := Lib.hid hown0
  clear hfr hr' hgrow0 hat0 hown0 hone hm
  go_wp2_with fail
  go_loopw [5, 6] (fun dv i wr => ∃ (k c' : Nat) (D : Option Addr), k ≤ v.length ∧ dv = .slice D (l.length + k) c' ∧ i = .int .i64 (k : Int) ∧ Hid (wr.ownsRow w.heap.size 57 7 (.slice D (l.length + k) c') (l.length + k) (its (l ++ (v.take k).map valIt))) ∧ Hid (Step (fun _ => False) w wr)) (fun _ i _ => v.length - (intOf i).toNat)
  case atStart => exact ⟨0, c0, A0, Nat.zero_le _, rfl, rfl, by rw [List.take_zero, List.map_nil, List.append_nil]; exact HO.out, hs0.out⟩
  case round =>
    obtain ⟨k, c', D, hk, rfl, rfl, ho, hs⟩ := hrel
    by_cases hlt : k < v.length
    · have hlt' : k < (v.length : Nat) := hlt
      obtain ⟨ad, u, rfl, _, _, hu, hcell⟩ := (HV.out.step hs.out (fun _ _ => id)).at_ hlt
      rw [u64s_get _ _ hlt] at hu
      obtain rfl := Option.some.inj hu
      have i0 : (0 : Int) ≤ (k : Int) := by omega
      have i1 : (k : Int) < (v.length : Int) := by omega
      have w2 := IntWalk.i64_in ((k : Int) + 1) (by omega)
      have HT : Hid (its (l ++ (v.take (k + 1)).map valIt) = its (l ++ (v.take k).map valIt) ++ #[Value.int .i64 0, .int .u64 v[k], .int .i64 0, .int .i64 0, .int .i64 0, .bool false, .int .i64 0].toList) := by
        unfold Hid
        rw [List.take_succ_eq_append_getElem hlt, List.map_append, ← List.append_assoc, its_append]
        rfl
      have hm1 : l.length + k + 1 ≤ maxLen := by unfold maxLen; omega
      have hone : ∀ u ∈ #[Value.int .i64 0, .int .u64 v[k], .int .i64 0, .int .i64 0, .int .i64 0, .bool false, .int .i64 0].toList, u.oneCell' = true := it_one (valIt v[k])
      have hsz := hs.out.size
      generalize v[k] = z at *
      go_wp2_with (at_builtin; refine wpList_append_src _ rfl _ _ (by rfl) E_it (by rfl) (ho.out.alloc _) (by rfl) (reads_new wr #[.int .i64 0, .int .u64 z, .int .i64 0, .int .i64 0, .int .i64 0, .bool false, .int .i64 0] 57 7 1 rfl) hone hm1 (by omega) (by simp; omega) ?_; intro D' c2 w1 hown1 hgrow hat)
      go_roundw
      case rel => exact ⟨k + 1, c2, D', by omega, by rw [Nat.add_assoc], by go_num, by
        show w1.ownsRow _ _ _ _ _ _
        rw [HT.out, ← Nat.add_assoc]
        exact hown1, grow_step (hs.out.alloc _) hgrow (ho.out.alloc _) (Nat.le_refl _)⟩
      case measure => first | (simp [intOf]; done) | (simp [intOf]; omega)
    · obtain rfl : k = v.length := by omega
      have i1 : ¬ (v.length : Int) < (v.length : Int) := by omega
      have HO2 := ho.out
      rw [List.take_length] at HO2
      replace HO2 := Lib.hid HO2
      have HL : Hid ((l ++ v.map valIt).length = l.length + v.length) := by unfold Hid; simp
      clear ho
      go_wp2_with fail
      go_ret
      exact ⟨D, c', by first | rfl | (rw [HL.out]; rfl), by rw [HL.out]; exact HO2.out, hs.out⟩
set_option maxRecDepth 100000 in
set_option maxHeartbeats 800000 in
theorem r_without (a : Nat) (hv : Reads w S 7 A l.length (its l)) (hl : l.length ≤ 100000) (ha : a < l.length) (hc : l.length ≤ c) :
    Calls Try.prog 28 #[.slice A l.length c, .int .i64 (a : Int)] w fun e w' => ∃ D c', e = .returned (.slice D (l.take a ++ l.drop (a + 1)).length c') ∧ ItNew w D c' (l.take a ++ l.drop (a + 1)) w' := by
  have HR1 : Hid (∀ W, Step (fun _ => False) w W → Reads W S 7 A a (its (l.take a))) := fun W hW => by
    have := (hv.step hW (fun _ _ => id)).take (k := a) (by omega)
    rwa [← its_take] at this
  have HR2 : Hid (∀ W, Step (fun _ => False) w W → Reads W S 7 (cutA A c (a + 1) 7) (l.length - (a + 1)) (its (l.drop (a + 1)))) := fun W hW => by
    have := (hv.step hW (fun _ _ => id)).cut (k := a + 1) (cap := c) (by omega) hc
    rw [← its_drop] at this
    simpa [cutA] using this
  have i0 : (0 : Int) ≤ (a : Int) := by omega
  have i1 : (a : Int) + 1 ≤ (l.length : Int) := by omega
  have i2 : (a : Int) ≤ (c : Int) := by omega
  have wa := IntWalk.i64_in ((a : Int) + 1) (by omega)
  have sl := slice_hn E_it A l.length c .i64 (a : Int) a rfl (by omega)
  have sh := slice_ln E_it A l.length c .i64 ((a : Int) + 1) (a + 1) (l.length - (a + 1)) (c - (a + 1)) (by omega) (by omega) rfl rfl
  have hone1 := its_one (l.take a)
  have hone2 := its_one (l.drop (a + 1))
  have hm1 : 0 + a ≤ maxLen := by unfold maxLen; omega
  have hm2 : 0 + a + (l.length - (a + 1)) ≤ maxLen := by unfold maxLen; omega
  have HL : Hid ((l.take a ++ l.drop (a + 1)).length = 0 + a + (l.length - (a + 1))) := by unfold Hid; rw [List.length_append, List.length_take, List.length_drop]; omega
  obtain ⟨y, hy⟩ : ∃ y, y = l.length - (a + 1) := ⟨_, rfl⟩
  rw [← hy] at HR2 sh hm2 HL
  have hyb : y ≤ 100000 := by omega
  have hab : a ≤ 100000 := by omega
  clear hv hy ha hc
  go_enter Try.func28, Try.ntmps28
  go_wp2_with fail
  refine Mix.wp_region_mix [0, 4, 9] [0, 4, 9] (Step (fun _ => False) w) (by kernel_rfl) (by kernel_rfl) Step.refl.drew (fun hcls => ?_)
  refine Mix.wpL_op (by rfl) (fun K hK => ?_)
  go_simp
  refine hK _ _ (fun hlt => Mix.cl (Step.drew (Step.alloc Step.refl _))) ?_
  clear hK K
  refine Mix.wpL_reads 3 (by rfl) ?_
  simp only [List.take_succ_cons, List.drop_succ_cons, List.take_zero, List.drop_zero]
  repeat (go_big_quiet_step (fail))
  refine wpQuiet_nil ?_
  refine Mix.wpL_op (by rfl) (fun K hK => ?_)
  refine step_append_new (w0 := w) (by rfl) _ _ (by rfl) E_it (Step.drew (Step.alloc Step.refl _)) (by rfl) (own_drew (own_fresh 7 (Nat.le_refl _))) (by rfl) (HR1.out _ (Step.drew (Step.alloc Step.refl _))) hone1 hm1 (by omega) ?_
  intro D1 c1 W1 hown1 hS1 hgrow1 hat1
  refine hK _ _ (fun hlt => Mix.cl (hS1)) ?_
  clear hK K
  simp only [Act.put, List.setIfInBounds_toArray, List.set_cons_succ, List.set_cons_zero]
  refine Mix.wpL_reads 4 (by rfl) ?_
  simp only [List.take_succ_cons, List.drop_succ_cons, List.take_zero, List.drop_zero]
  repeat (go_big_quiet_step (fail))
  refine wpQuiet_nil ?_
  refine Mix.wpL_op (by rfl) (fun K hK => ?_)
  refine step_append_new (w0 := w) (by rfl) _ _ (by rfl) E_it hS1 (by rfl) hown1 (by rfl) (HR2.out _ hS1) hone2 hm2 (by omega) ?_
  intro D2 c2 W2 hown2 hS2 hgrow2 hat2
  refine hK _ _ (fun hlt => Mix.cl (hS2)) ?_
  clear hK K
  simp only [Act.put, List.setIfInBounds_toArray, List.set_cons_succ, List.set_cons_zero]
  refine Mix.wpL_reads 1 (by rfl) ?_
  simp only [List.take_succ_cons, List.drop_succ_cons, List.take_zero, List.drop_zero]
  repeat (go_big_quiet_step (fail))
  refine wpQuiet_nil ?_
  refine Mix.wpL_end ?_
  go_wp2
  go_ret
  rw [List.nil_append, ← its_append] at hown2
  exact ⟨D2, c2, by rw [HL.out]; rfl, by rw [HL.out]; exact hown2, hS2⟩
end
end Go.Proofs.Ytokchoocelmdoaa
