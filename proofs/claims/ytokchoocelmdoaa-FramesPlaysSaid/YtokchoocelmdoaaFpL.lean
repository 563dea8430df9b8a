/-
  creelref31: Drop, Back.
-/
import Derived.Test.YtokchoocelmdoaaFpK
set_option linter.unusedVariables false
set_option linter.unusedSimpArgs false
namespace Go.Proofs.Ytokchoocelmdoaa
open Go.RowKit

theorem lastI_top {l : List It} {m : Nat} {q : Int} (hl : l.length = m + 1) (hq : (l[m]'(by omega)).k = q) : lastI l q = m := by
  rw [lastI, hl, lastU_hit (by omega) hq]
section
variable {w : World} {S S' : Nat → Prop} {A V : Option Addr} {B c cv : Nat} {l : List It} {v : List Int}
set_option maxRecDepth 100000 in
set_option maxHeartbeats 800000 in
theorem r_drop (n : Nat) (ho : w.ownsRow B 57 7 (.slice A l.length c) l.length (its l)) (hl : l.length ≤ 100000) (hn : n ≤ l.length) (hz : ∀ i (h : i < l.length), l.length - n ≤ i → l[i].k = 0) :
    Calls Try.prog 21 #[.slice A l.length c, .int .i64 (n : Int)] w fun e w' => ∃ D c', e = .returned (.slice D (l.length - n) c') ∧ w'.ownsRow 0 57 7 (.slice D (l.length - n) c') (l.length - n) (its (l.take (l.length - n))) ∧ Step (fun _ => False) w w' ∧ ∀ k, blkOf D = some k → blkOf A = some k ∨ w.heap.size ≤ k := by
  have HO := Lib.hid (own_base (base' := 0) ho (fun _ _ => Nat.zero_le _))
  have HZ := Lib.hid hz
  obtain ⟨z, hzz⟩ : ∃ z, z = l.length - n := ⟨_, rfl⟩
  rw [← hzz] at HZ ⊢
  have hzn : z + n = l.length := by omega
  clear ho hz hzz
  go_enter Try.func21, Try.ntmps21
  go_wp2_with fail
  go_loopw [0, 5] (fun dv i wr => ∃ (j m c' : Nat) (D : Option Addr), j ≤ n ∧ m + j = l.length ∧ dv = .slice D m c' ∧ i = .int .i64 (j : Int) ∧ Hid (wr.ownsRow 0 57 7 (.slice D m c') m (its (l.take m))) ∧ Hid (Step (fun _ => False) w wr) ∧ Hid (∀ k, blkOf D = some k → blkOf A = some k ∨ w.heap.size ≤ k)) (fun _ i _ => n - (intOf i).toNat)
  case atStart => exact ⟨0, l.length, c, A, Nat.zero_le _, rfl, rfl, rfl, by rw [List.take_length]; exact HO.out, Step.refl, fun k hk => .inl hk⟩
  case round =>
    obtain ⟨j, m, c', D, hj, hm, rfl, rfl, ho, hs, hD⟩ := hrel
    by_cases hlt : j < n
    · obtain ⟨m, rfl⟩ : ∃ q, m = q + 1 := ⟨m - 1, by omega⟩
      have hml : m < l.length := by omega
      obtain ⟨l1, hl1⟩ : ∃ l1, l1 = l.take (m + 1) := ⟨_, rfl⟩
      have hlen : l1.length = m + 1 := by rw [hl1, List.length_take]; omega
      have HR := Reads.of_own ho.out
      rw [← hl1, ← hlen] at HR
      have HK := r_last (c := c') 0 HR (by omega)
      rw [lastI_top hlen (by subst hl1; rw [List.getElem_take]; exact HZ.out m hml (by omega)), hlen] at HK
      have HW := r_without (c := c') m HR (by omega) (by omega) (by rw [hlen]; exact own_cap ho.out)
      rw [hlen] at HW
      have HE : Hid (l1.take m ++ l1.drop (m + 1) = l.take m) := by
        unfold Hid
        rw [hl1, List.drop_take, Nat.sub_self, List.take_zero, List.append_nil, List.take_take, Nat.min_eq_left (by omega)]
      rw [HE.out] at HW
      have HML : Hid ((l.take m).length = m) := by unfold Hid; rw [List.length_take]; omega
      rw [HML.out] at HW
      replace HK := Lib.hid HK
      replace HW := Lib.hid HW
      have w2 := IntWalk.i64_in ((j : Int) + 1) (by omega)
      have i1 : (j : Int) < (n : Int) := by omega
      have hsz := hs.out.size
      clear HR hl1 hlen HE
      go_wp2_with fail
      refine HK.out.mono ?_
      rintro e w' ⟨rfl, hw⟩
      obtain rfl := hw.symm
      clear hw
      go_wp2_with fail
      refine HW.out.mono ?_
      rintro e w' ⟨D2, c2, rfl, hn2⟩
      have HN2 := Lib.hid hn2
      clear hn2
      go_wp2_with fail
      go_roundw
      case rel => exact ⟨j + 1, m, c2, D2, by omega, by omega, rfl, by go_num, by
        have := HN2.out.1
        rw [HML.out] at this
        exact own_base this (fun _ _ => Nat.zero_le _), hs.out.trans HN2.out.2, fun k hk => by
        right
        have := own_ge HN2.out.1 k (by rw [ownBlock_slice]; exact hk)
        omega⟩
      case measure => first | (simp [intOf]; done) | (simp [intOf]; omega)
    · obtain rfl : j = n := by omega
      obtain rfl : m = z := by omega
      have i1 : ¬ (j : Int) < (j : Int) := by omega
      go_wp2_with fail
      go_ret
      exact ⟨D, c', rfl, ho.out, hs.out, hD.out⟩
/-- What Back leaves. -/
def backI (l : List It) (a n : Nat) : List It := l.take a ++ ((valsI (l.drop a)).drop ((valsI (l.drop a)).length - n)).map valIt
theorem r_back_few (a n : Nat) (hv : Reads w S 7 A l.length (its l)) (hl : l.length ≤ 100000) (ha : a ≤ l.length) (hc : l.length ≤ c) (hn : (valsI (l.drop a)).length < n) :
    Calls Try.prog 33 #[.slice A l.length c, .int .i64 (a : Int), .int .i64 (n : Int)] w fun e w' => e = .returned (.tuple #[.slice A l.length c, .bool false]) ∧ Step (fun _ => False) w w' := by
  have hr := hv.cut (k := a) (cap := c) ha hc
  rw [← its_drop] at hr
  have HV := r_values (A := cutA A c a 7) (c := c - a) (l := l.drop a) (S := S) (w := w) (by rw [List.length_drop]; simpa [cutA] using hr) (by rw [List.length_drop]; omega)
  rw [List.length_drop] at HV
  have sl := slice_ln E_it A l.length c .i64 (a : Int) a (l.length - a) (c - a) rfl ha rfl rfl
  have i0 : (0 : Int) ≤ (a : Int) := by omega
  have i1 : (a : Int) ≤ (l.length : Int) := by omega
  replace HV := Lib.hid HV
  generalize valsI (l.drop a) = vs at *
  have g0 : decide ((vs.length : Int) < (n : Int)) = true := decide_eq_true (by omega)
  have g1 : decide (vs.length < n) = true := decide_eq_true hn
  clear hr hv hc ha
  go_enter Try.func33, Try.ntmps33
  go_wp2_with fail
  refine HV.out.mono ?_
  rintro e w' ⟨D, c', rfl, ho, hs⟩
  have HS := Lib.hid hs
  clear ho hs
  go_wp2
  go_ret2
  exact ⟨rfl, HS.out⟩
set_option maxRecDepth 100000 in
set_option maxHeartbeats 800000 in
theorem r_back (a n : Nat) (hv : Reads w S 7 A l.length (its l)) (hl : l.length ≤ 100000) (ha : a ≤ l.length) (hc : l.length ≤ c) (hn : n ≤ (valsI (l.drop a)).length) :
    Calls Try.prog 33 #[.slice A l.length c, .int .i64 (a : Int), .int .i64 (n : Int)] w fun e w' => ∃ D c', e = .returned (.tuple #[.slice D (backI l a n).length c', .bool true]) ∧ ItNew w D c' (backI l a n) w' := by
  have hr := hv.cut (k := a) (cap := c) ha hc
  rw [← its_drop] at hr
  have HV := r_values (A := cutA A c a 7) (c := c - a) (l := l.drop a) (S := S) (w := w) (by rw [List.length_drop]; simpa [cutA] using hr) (by rw [List.length_drop]; omega)
  rw [List.length_drop] at HV
  have sl := slice_ln E_it A l.length c .i64 (a : Int) a (l.length - a) (c - a) rfl ha rfl rfl
  have sh := slice_hn E_it A l.length c .i64 (a : Int) a rfl (by omega)
  have i0 : (0 : Int) ≤ (a : Int) := by omega
  have i1 : (a : Int) ≤ (l.length : Int) := by omega
  have i2 : (a : Int) ≤ (c : Int) := by omega
  replace HV := Lib.hid HV
  have hvl := valsI_le (l.drop a)
  rw [List.length_drop] at hvl
  have HB : Hid (backI l a n = l.take a ++ ((valsI (l.drop a)).drop ((valsI (l.drop a)).length - n)).map valIt) := rfl
  generalize valsI (l.drop a) = vs at *
  generalize backI l a n = bk at *
  have g0 : decide ((vs.length : Int) < (n : Int)) = false := decide_eq_false (by omega)
  have g1 : decide (vs.length < n) = false := decide_eq_false (by omega)
  have HR1 : Hid (∀ W, Step (fun _ => False) w W → Reads W S 7 A a (its (l.take a))) := fun W hW => by
    have := (hv.step hW (fun _ _ => id)).take (k := a) ha
    rwa [← its_take] at this
  have HTL : Hid ((l.take a).length = a) := by unfold Hid; rw [List.length_take]; omega
  have hw := IntWalk.i64_in ((vs.length : Int) - (n : Int)) (by omega)
  have i3 : (0 : Int) ≤ (vs.length : Int) - (n : Int) := by omega
  have i4 : (vs.length : Int) - (n : Int) ≤ (vs.length : Int) := by omega
  clear hr hv hc
  go_enter Try.func33, Try.ntmps33
  go_wp2_with fail
  refine HV.out.mono ?_
  rintro e W ⟨D, c', rfl, ho, hs⟩
  have HS := Lib.hid hs
  have sv := slice_ln E_u64 D vs.length c' .i64 ((vs.length : Int) - (n : Int)) (vs.length - n) n (c' - (vs.length - n)) (by omega) (by omega) (by omega) rfl
  have hr2 := (Reads.of_own ho).cut (k := vs.length - n) (cap := c') (by omega) (own_cap ho)
  rw [show vs.length - (vs.length - n) = n by omega, Nat.mul_one, ← u64s_drop] at hr2
  have HDL : Hid ((vs.drop (vs.length - n)).length = n) := by unfold Hid; rw [List.length_drop]; omega
  have HP := r_push (cv := c' - (vs.length - n)) (c := c) (w := W.drew) (l := l.take a) (v := vs.drop (vs.length - n)) (V := cutA D c' (vs.length - n) 1) (A := A) (S := S) (by rw [HTL.out]; exact HR1.out _ hs.drew) (by rw [HDL.out]; simpa [cutA] using Reads.drew hr2) (by rw [HTL.out]; omega) (by rw [HDL.out]; omega)
  rw [HTL.out, HDL.out] at HP
  replace HP := Lib.hid HP
  clear ho hs hr2
  go_wp2_with fail
  refine Mix.wp_region_mix [9] [9] (Step (fun _ => False) W) (by kernel_rfl) (by kernel_rfl) Step.refl.drew (fun hcls => ?_)
  refine Mix.wpL_reads 9 (by rfl) ?_
  simp only [List.take_succ_cons, List.drop_succ_cons, List.take_zero, List.drop_zero]
  repeat (go_big_quiet_step (fail))
  refine wpQuiet_nil ?_
  refine Mix.wpL_op (by rfl) (fun K hK => ?_)
  go_simp
  refine HP.out.mono ?_
  rintro e U ⟨D2, c2, rfl, hn2⟩
  have hst := Step.refl.drew.trans hn2.2
  refine hK _ _ (fun hlt => Mix.cl (hst)) ?_
  clear hK K
  have HN2 := Lib.hid hn2
  clear hn2
  refine Mix.wpL_reads 2 (by rfl) ?_
  simp only [List.take_succ_cons, List.drop_succ_cons, List.take_zero, List.drop_zero]
  repeat (go_big_quiet_step (fail))
  refine wpQuiet_nil ?_
  refine Mix.wpL_end ?_
  go_wp2
  go_ret2
  rw [HB.out]
  refine ⟨D2, c2, by rfl, ?_, HS.out.trans (Step.refl.drew.trans HN2.out.2)⟩
  exact own_base HN2.out.1 (fun k hk => Nat.le_trans HS.out.size (own_ge HN2.out.1 k hk))
end
end Go.Proofs.Ytokchoocelmdoaa
