/-
  leb: the reference's Group.
-/
import Derived.Test.YtfemeendkjcffaaLeC
set_option linter.unusedVariables false
set_option linter.unusedSimpArgs false
namespace Go.Proofs.Ytfemeendkjcffaa
open Go.RowKit

theorem grp_val (v : Int) (i : Nat) : v / 2 ^ (7 * i) % 2 ^ 7 = v / 128 ^ i % 128 := by
  rw [show (2 : Int) ^ (7 * i) = 128 ^ i by rw [Int.pow_mul]; rfl]
  rfl
theorem ibit_val (v : Int) (j : Nat) : v / 2 ^ j % 2 = if ibit v j then 1 else 0 := by
  unfold ibit
  have := Int.emod_two_eq (v / 2 ^ j)
  rcases this with h | h <;> rw [h] <;> rfl

theorem emod_small (x : Int) (m : Nat) (h : m ≤ 7) : x % 2 ^ (7 - m) < 128 := by
  have h1 : ∀ m : Fin 8, (0 : Int) < 2 ^ (7 - m.1) ∧ (2 : Int) ^ (7 - m.1) ≤ 128 := by decide
  have h2 := h1 ⟨m, by omega⟩
  have h3 := Int.emod_lt_of_pos x h2.1
  exact Int.lt_of_lt_of_le h3 h2.2
/-- All the bits' cells. -/
theorem ibs_all {w : World} {S : Nat → Prop} {A : Option Addr} {v : Int} (h : Reads w S 1 A 64 (bools (ibs 64 v))) : ∃ ab ao, A = some ⟨ab, ao, none⟩ ∧ ab < w.heap.size ∧ ∀ j, j < 64 → w.cell? ⟨ab, ao + j, none⟩ = some (.bool (ibit v j)) := by
  obtain ⟨⟨ab, ao, asp⟩, rfl, _, hbl, hcell⟩ := ibs_at h (k := 0) (by decide)
  obtain rfl : asp = none := by
    have := World.cell?_spot hcell
    simpa [Addr.add] using this
  refine ⟨ab, ao, rfl, hbl, fun j hj => ?_⟩
  obtain ⟨ad, hA, _, _, hc⟩ := ibs_at h hj
  injection hA with hA
  subst hA
  rw [Addr.add_lit] at hc
  exact hc

set_option maxRecDepth 100000 in
set_option maxHeartbeats 1600000 in
theorem group_walk (w : World) (v : Int) (n c : Nat) (b : Bool) (S : Nat → Prop) (A : Option Addr) (hr : Reads w S 1 A 64 (bools (ibs 64 v))) (hb : ∀ j, 64 ≤ j → j < 70 → ibit v j = b) (hn1 : 1 ≤ n) (hn2 : n ≤ 10) :
    Calls Try.prog 206 #[.slice A 64 c, .int .i64 (n : Int), .bool b] w fun e w' => ∃ D c', e = .returned (.slice D n c') ∧ w'.ownsRow w.heap.size 5 1 (.slice D n c') n (u8s (grpL v n n)) ∧ Step (fun _ => False) w w' := by
  have ho0 : w.ownsRow w.heap.size 5 1 (.slice none 0 0) 0 (u8s (grpL v n 0)) := World.ownsRow_nil _ _ _ _
  have hwn := IntWalk.i64_in ((n : Int) - 1) (by omega)
  have HB := Lib.hid hb
  obtain ⟨ab, ao, rfl, habl, hall⟩ := ibs_all hr
  replace hall := Lib.hid hall
  clear hb hr
  go_enter Try.func206, Try.ntmps206
  go_wp2_with fail
  go_loopw [7, 8] (fun ov iv wr => ∃ (i cc : Nat) (D : Option Addr), i ≤ n ∧ ov = .slice D i cc ∧ iv = .int .i64 (i : Int) ∧ Hid (Step (fun _ => False) w wr) ∧ Hid (wr.ownsRow w.heap.size 5 1 (.slice D i cc) i (u8s (grpL v n i)))) (fun _ iv _ => n + 1 - (intOf iv).toNat)
  case atStart => exact ⟨0, 0, none, by omega, rfl, rfl, Step.refl, ho0⟩
  case round =>
    obtain ⟨i, cc, D, hi, rfl, rfl, HS, HO⟩ := hrel
    clear ho0
    by_cases hlt : i < n
    · have hlt' : (i : Int) < (n : Int) := by omega
      have hm : i + 1 ≤ maxLen := by unfold maxLen; omega
      have hsz := HS.out.size
      have hw7 := IntWalk.i64_in (7 * (i : Int)) (by omega)
      have hwi := IntWalk.i64_in ((i : Int) + 1) (by omega)
      go_wp2_with fail
      go_loopw [9, 10] (fun cv kv wr' => ∃ (m : Nat) (C : Int), m ≤ 7 ∧ cv = .int .i64 C ∧ kv = .int .i64 ((m : Int) - 1) ∧ 0 ≤ C ∧ C < 128 ∧ Hid (C = v / 2 ^ (7 * i + m) % 2 ^ (7 - m)) ∧ Hid (wr' = wr)) (fun _ kv _ => (intOf kv + 1).toNat)
      case atStart => exact ⟨7, 0, by omega, rfl, rfl, by omega, by omega, by simp [Hid], by first | exact Lib.hid trivial | rfl⟩
      case round =>
        obtain ⟨m, C, hm7, rfl, rfl, hC0, hC1, HC, hq⟩ := hrel
        have hq' := hq.out
        subst hq'
        cases m with
        | succ m =>
          have e1 : (((m + 1 : Nat) : Int) - 1) = (m : Int) := by omega
          rw [e1]
          have hk0 : (0 : Int) ≤ (m : Int) := by omega
          have hwk := IntWalk.i64_in ((m : Int) - 1) (by omega)
          have hwj := IntWalk.i64_in (7 * (i : Int) + (m : Int)) (by omega)
          have hwc := IntWalk.i64_in (C * 2) (by omega)
          have hwd := IntWalk.i64_in (C * 2 + 1) (by omega)
          have hti : (7 * (i : Int) + (m : Int)).toNat = 7 * i + m := by omega
          have HN : Hid (∀ bb : Bool, ibit v (7 * i + m) = bb → C * 2 + (if bb then 1 else 0) = v / 2 ^ (7 * i + m) % 2 ^ (7 - m)) := by
            intro bb hbb
            have h1 := grp_step (v / 2 ^ (7 * i + m)) (7 - (m + 1))
            rw [← idiv_succ, show 7 * i + m + 1 = 7 * i + (m + 1) by omega, ← HC.out, ibit_val, hbb, show 7 - (m + 1) + 1 = 7 - m by omega] at h1
            exact h1
          by_cases hj : 7 * i + m < 64
          · have hj' : 7 * (i : Int) + (m : Int) < 64 := by omega
            have hj0 : 0 ≤ 7 * (i : Int) + (m : Int) := by omega
            have hcell : wr.cell? ⟨ab, ao + (7 * i + m), none⟩ = some (.bool (ibit v (7 * i + m))) := (HS.out.cell (p := ⟨ab, ao + (7 * i + m), none⟩) habl id).trans (hall.out _ hj)
            generalize hbb : ibit v (7 * i + m) = bb at *
            have HN := HN.out bb rfl
            have HN2 := Lib.hid HN
            clear hbb HN
            cases bb
            · go_wp2_with fail
              go_roundw
              case rel => exact ⟨m, C * 2, by omega, rfl, rfl, by omega, by have h1 := HN2.out; have h2 := emod_small (v / 2 ^ (7 * i + m)) m (by omega); simp at h1; omega, by have := HN2.out; simpa [Hid] using this, by first | exact Lib.hid trivial | rfl⟩
              case measure => simp [intOf]
            · go_wp2_with fail
              go_roundw
              case rel => exact ⟨m, C * 2 + 1, by omega, rfl, rfl, by omega, by have h1 := HN2.out; have h2 := emod_small (v / 2 ^ (7 * i + m)) m (by omega); simp at h1; omega, HN2, by first | exact Lib.hid trivial | rfl⟩
              case measure => simp [intOf]
          · have hj' : ¬ 7 * (i : Int) + (m : Int) < 64 := by omega
            have hbb := HB.out (7 * i + m) (by omega) (by omega)
            have HN2 := Lib.hid (HN.out b hbb)
            clear hbb HN
            cases b
            · go_wp2_with fail
              go_roundw
              case rel => exact ⟨m, C * 2, by omega, rfl, rfl, by omega, by have h1 := HN2.out; have h2 := emod_small (v / 2 ^ (7 * i + m)) m (by omega); simp at h1; omega, by have := HN2.out; simpa [Hid] using this, by first | exact Lib.hid trivial | rfl⟩
              case measure => simp [intOf]
            · go_wp2_with fail
              go_roundw
              case rel => exact ⟨m, C * 2 + 1, by omega, rfl, rfl, by omega, by have h1 := HN2.out; have h2 := emod_small (v / 2 ^ (7 * i + m)) m (by omega); simp at h1; omega, HN2, by first | exact Lib.hid trivial | rfl⟩
              case measure => simp [intOf]
        | zero =>
          have e1 : (((0 : Nat) : Int) - 1) = -1 := rfl
          rw [e1]
          have HC2 : Hid (C = v / 128 ^ i % 128) := by
            have h1 := HC.out
            rw [show 7 * i + 0 = 7 * i by omega, show 7 - 0 = 7 from rfl, grp_val] at h1
            exact h1
          clear HC
          by_cases hlast : i + 1 < n
          · have g1 : (i : Int) < (n : Int) - 1 := by omega
            have hwc := IntWalk.i64_in (C + 128) (by omega)
            have hw8 := IntWalk.u8_in (C + 128) (by omega)
            have hone : ∀ u ∈ #[Value.int .u8 (C + 128)].toList, u.oneCell' = true := by simp [Value.oneCell']
            have HE : Hid (u8s (grpL v n i) ++ #[Value.int .u8 (C + 128)].toList = u8s (grpL v n (i + 1))) := by
              rw [Hid, grpL_succ, u8s_append, grpB, if_pos hlast, ← HC2.out, b8_cell _ (by omega) (by omega)]
            clear hlast
            go_wp2_with (at_builtin; refine wpList_append_src _ rfl _ _ (by rfl) E_u8 (by rfl) (HO.out.alloc _) (by rfl) (reads_new _ #[Value.int .u8 (C + 128)] 5 1 1 rfl) hone hm (by omega) (by simp; omega) ?_; intro D' c' w8 hown8 hgrow hat)
            have HS8 := Lib.hid (grow_step (HS.out.alloc _) hgrow (HO.out.alloc _) (Nat.le_refl _))
            rw [HE.out] at hown8
            exact ⟨⟨i + 1, c', D', by omega, rfl, by rw [Int.natCast_add]; rfl, HS8, hown8⟩, by rw [show intOf (.int .i64 ((i : Int) + 1)) = ((i + 1 : Nat) : Int) from rfl, show intOf (.int .i64 (i : Int)) = (i : Int) from rfl]; omega⟩
          · have g1 : ¬ (i : Int) < (n : Int) - 1 := by omega
            have hw8 := IntWalk.u8_in C (by omega)
            have hone : ∀ u ∈ #[Value.int .u8 C].toList, u.oneCell' = true := by simp [Value.oneCell']
            have HE : Hid (u8s (grpL v n i) ++ #[Value.int .u8 C].toList = u8s (grpL v n (i + 1))) := by
              rw [Hid, grpL_succ, u8s_append, grpB, if_neg hlast, Int.add_zero, ← HC2.out, b8_cell _ (by omega) (by omega)]
            clear hlast
            go_wp2_with (at_builtin; refine wpList_append_src _ rfl _ _ (by rfl) E_u8 (by rfl) (HO.out.alloc _) (by rfl) (reads_new _ #[Value.int .u8 C] 5 1 1 rfl) hone hm (by omega) (by simp; omega) ?_; intro D' c' w8 hown8 hgrow hat)
            have HS8 := Lib.hid (grow_step (HS.out.alloc _) hgrow (HO.out.alloc _) (Nat.le_refl _))
            rw [HE.out] at hown8
            exact ⟨⟨i + 1, c', D', by omega, rfl, by rw [Int.natCast_add]; rfl, HS8, hown8⟩, by rw [show intOf (.int .i64 ((i : Int) + 1)) = ((i + 1 : Nat) : Int) from rfl, show intOf (.int .i64 (i : Int)) = (i : Int) from rfl]; omega⟩
    · obtain rfl : i = n := by omega
      go_wp2_with fail
      go_ret
      exact ⟨D, cc, rfl, HO.out, HS.out⟩
end Go.Proofs.Ytfemeendkjcffaa
