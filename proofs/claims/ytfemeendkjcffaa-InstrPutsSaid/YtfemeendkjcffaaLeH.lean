/-
  leb: the reference's Int, the walk.
-/
import Derived.Test.YtfemeendkjcffaaLeG
set_option linter.unusedVariables false
set_option linter.unusedSimpArgs false
namespace Go.Proofs.Ytfemeendkjcffaa
open Go.RowKit

set_option maxRecDepth 100000 in
set_option maxHeartbeats 1600000 in
theorem rint_walk (w : World) (v : Int) (h : -9223372036854775808 ≤ v ∧ v ≤ 9223372036854775807) : Calls Try.prog 196 #[.int .i64 v] w fun e w' => ∃ D c, e = .returned (.slice D (intF v).length c) ∧ w'.ownsRow w.heap.size 5 1 (.slice D (intF v).length c) (intF v).length (u8s (intF v)) ∧ Step (fun _ => False) w w' := by
  obtain ⟨T, hT⟩ : ∃ T, T = intF v := ⟨_, rfl⟩
  rw [← hT]
  have HT : Hid (∀ n, n < 10 → (-(64 * 128 ^ n) ≤ v ∧ v < 64 * 128 ^ n) → (∀ m, m < n → ¬ (-(64 * 128 ^ m) ≤ v ∧ v < 64 * 128 ^ m)) → T = grpL v (n + 1) (n + 1)) := fun n h1 h2 h3 => hT.trans (int_grp 10 v n h1 h2 h3)
  clear hT
  have HB : Hid (∀ j, 63 ≤ j → ibit v j = ibit v 63) := ibit_far h
  have HL : Hid (∀ a, a ≤ 63 → ((∀ j, a ≤ j → j < 64 → ibit v j = ibit v 63) ↔ (-(2 ^ a : Nat) ≤ v ∧ v < (2 ^ a : Nat)))) := fun a ha => bits_alike ha h
  obtain ⟨u, hu⟩ : ∃ u : Nat, (u : Int) = v % 18446744073709551616 := ⟨(v % 18446744073709551616).toNat, by omega⟩
  have hcv : IntKind.u64.wrap v = (u : Int) := by
    rw [hu, IntKind.wrap_u64]
  have hul : u < 18446744073709551616 := by omega
  have HBits : Hid (∀ w : World, Calls Try.prog 205 #[.int .u64 (u : Int)] w fun e w' => ∃ D c, e = .returned (.slice D 64 c) ∧ w'.ownsRow w.heap.size 4 1 (.slice D 64 c) 64 (bools (ibs 64 v)) ∧ Step (fun _ => False) w w') := fun w => by
    have := bits_walk w u hul
    rw [hu, ibs_mod, ← hu] at this
    exact this
  clear hu
  go_enter Try.func196, Try.ntmps196
  go_wp2_with fail
  refine (HBits.out _).mono ?_
  rintro e w1 ⟨D, c, rfl, hown, hS1⟩
  obtain ⟨ab, ao, rfl, habl, hall⟩ := ibs_all (Reads.of_own hown)
  have HR := Lib.hid (Reads.of_own hown)
  have HS1 := Lib.hid hS1
  have h63c := hall 63 (by decide)
  obtain ⟨sb, hsb⟩ : ∃ sb, sb = ibit v 63 := ⟨_, rfl⟩
  rw [← hsb] at HB HL h63c
  clear hsb
  replace hall := Lib.hid hall
  clear hown hS1 HBits
  go_wp2_with fail
  go_loopw [4] (fun nv wr => ∃ n : Nat, n ≤ 9 ∧ nv = .int .i64 ((n + 1 : Nat) : Int) ∧ Hid (∀ m, m < n → ¬ (-(64 * 128 ^ m) ≤ v ∧ v < 64 * 128 ^ m)) ∧ Hid (∃ q, wr = w1.drewN q)) (fun nv _ => 11 - (intOf nv).toNat)
  case atStart => exact ⟨0, by omega, rfl, fun m h1 => by omega, ⟨0, rfl⟩⟩
  case round =>
    obtain ⟨n, hn2, rfl, HM, hq⟩ := hrel
    obtain ⟨N, hN⟩ : ∃ N : Nat, N = n + 1 := ⟨_, rfl⟩
    rw [← hN]
    by_cases hlt : n < 9
    · have hlt' : (N : Int) < 10 := by omega
      have hw7 := IntWalk.i64_in (7 * (N : Int)) (by omega)
      have hw6 := IntWalk.i64_in (7 * (N : Int) - 1) (by omega)
      have hwn := IntWalk.i64_in ((N : Int) + 1) (by omega)
      have HN := Lib.hid hN
      clear hN
      go_wp2_with fail
      go_loopw [5, 6] (fun mv iv wr' => ∃ (i : Nat) (M : Bool), 7 * N - 1 ≤ i ∧ i ≤ 64 ∧ mv = .bool M ∧ iv = .int .i64 (i : Int) ∧ Hid (M = true ↔ ∃ j, 7 * N - 1 ≤ j ∧ j < i ∧ ibit v j ≠ sb) ∧ Hid (∃ q, wr' = w1.drewN q)) (fun _ iv _ => 65 - (intOf iv).toNat)
      case atStart => exact ⟨7 * N - 1, false, by omega, by omega, rfl, by have := HN.out; congr 1; omega, by simp [Hid]; omega, hq⟩
      case round =>
        obtain ⟨i, M, hi1, hi2, rfl, rfl, HX, hq⟩ := hrel
        have hsbc : wr.cell? ⟨ab, ao + 63, none⟩ = some (.bool sb) := by obtain ⟨q, hq⟩ := hq.out; rw [hq]; exact h63c
        have hwi := IntWalk.i64_in ((i : Int) + 1) (by omega)
        by_cases hil : i < 64
        · have hil' : (i : Int) < 64 := by omega
          have hi0 : (0 : Int) ≤ (i : Int) := by omega
          cases M
          · have hcell : wr.cell? ⟨ab, ao + i, none⟩ = some (.bool (ibit v i)) := by obtain ⟨q, hq⟩ := hq.out; rw [hq]; exact hall.out i hil
            have HX2 : Hid (((ibit v i != sb) = true) ↔ ∃ j, 7 * N - 1 ≤ j ∧ j < i + 1 ∧ ibit v j ≠ sb) := by
              rw [Hid, bne_iff_ne]
              constructor
              · intro hb; exact ⟨i, hi1, by omega, hb⟩
              · rintro ⟨j, h1, h2, h3⟩
                rcases Nat.lt_or_ge j i with h4 | h4
                · exact absurd (HX.out.2 ⟨j, h1, h4, h3⟩) (by decide)
                · obtain rfl : j = i := by omega
                  exact h3
            generalize ibit v i = bb at *
            cases bb <;> cases sb <;>
            · go_wp2_with fail
              go_quiet (fail)
              go_wp2_with fail
              go_roundw
              case rel => exact ⟨i + 1, _, by omega, by omega, rfl, by rw [Int.natCast_add]; rfl, HX2, by obtain ⟨q, hq⟩ := hq.out; exact ⟨q + nq, by rw [hq, World.drewN_drewN]⟩⟩
              case measure => simp [intOf]; omega
          · have HX2 : Hid (true = true ↔ ∃ j, 7 * N - 1 ≤ j ∧ j < i + 1 ∧ ibit v j ≠ sb) := by
              obtain ⟨j, h1, h2, h3⟩ := HX.out.1 rfl
              exact ⟨fun _ => ⟨j, h1, by omega, h3⟩, fun _ => rfl⟩
            go_wp2_with fail
            go_quiet (fail)
            go_wp2_with fail
            go_roundw
            case rel => exact ⟨i + 1, true, by omega, by omega, rfl, by rw [Int.natCast_add]; rfl, ⟨fun _ => HX2.out.1 trivial, fun _ => rfl⟩, by obtain ⟨q, hq⟩ := hq.out; exact ⟨q + nq, by rw [hq, World.drewN_drewN]⟩⟩
            case measure => simp [intOf]; omega
        · obtain rfl : i = 64 := by omega
          have HV : Hid (M = false ↔ (-(64 * 128 ^ n) ≤ v ∧ v < 64 * 128 ^ n)) := by
            rw [Hid, ← pow64, ← HN.out, ← HL.out _ (by have := HN.out; omega)]
            constructor
            · intro hM j h1 h2
              rcases Classical.em (ibit v j = sb) with hb | hb
              · exact hb
              · rw [HX.out.2 ⟨j, h1, h2, hb⟩] at hM; cases hM
            · intro hA
              cases hM : M with
              | false => rfl
              | true =>
                obtain ⟨j, h1, h2, h3⟩ := HX.out.1 hM
                exact absurd (hA j h1 h2) h3
          cases M
          · have hv := HV.out.1 rfl
            have hTg := HT.out n (by omega) hv HM.out
            rw [← HN.out] at hTg
            have HTg := Lib.hid hTg
            have HRw : Hid (Reads wr (fun k => Value.ownBlock (.slice (some ⟨ab, ao, none⟩) 64 c) = some k) 1 (some ⟨ab, ao, none⟩) 64 (bools (ibs 64 v))) := by obtain ⟨q, hq⟩ := hq.out; rw [hq]; exact HR.out
            have HSw : Hid (Step (fun _ => False) w wr) := by obtain ⟨q, hq⟩ := hq.out; rw [hq]; exact HS1.out.drewN q
            clear hil HX hv hTg HV
            go_wp2_with fail
            refine (group_walk _ v N c sb _ _ HRw.out (fun j h1 _ => HB.out j (by omega)) (by have := HN.out; omega) (by have := HN.out; omega)).mono ?_
            rintro e w5 ⟨D', c', rfl, hown5, hS5⟩
            go_wp2_with fail
            go_ret
            rw [HTg.out, grpL_len]
            exact ⟨D', c', rfl, own_base hown5 (fun k hk => Nat.le_trans HSw.out.size (own_ge hown5 k hk)), HSw.out.trans hS5⟩
          · have hv : ¬ (-(64 * 128 ^ n) ≤ v ∧ v < 64 * 128 ^ n) := fun hh => by have := HV.out.2 hh; cases this
            have HM2 : Hid (∀ m, m < n + 1 → ¬ (-(64 * 128 ^ m) ≤ v ∧ v < 64 * 128 ^ m)) := fun m h2 => by
              rcases Nat.lt_or_ge m n with h3 | h3
              · exact HM.out m h3
              · obtain rfl : m = n := by omega
                exact hv
            clear hil HX hv HV
            go_wp2_with fail
            go_roundw
            case rel => exact ⟨n + 1, by omega, by rw [show n + 1 + 1 = N + 1 by rw [HN.out], Int.natCast_add]; rfl, HM2, hq⟩
            case measure => simp [intOf]; have := HN.out; omega
    · obtain rfl : n = 9 := by omega
      have hTg := HT.out 9 (by omega) (by omega) HM.out
      have HTg := Lib.hid hTg
      have hsbc : wr.cell? ⟨ab, ao + 63, none⟩ = some (.bool sb) := by obtain ⟨q, hq⟩ := hq.out; rw [hq]; exact h63c
      have HRw : Hid (Reads wr (fun k => Value.ownBlock (.slice (some ⟨ab, ao, none⟩) 64 c) = some k) 1 (some ⟨ab, ao, none⟩) 64 (bools (ibs 64 v))) := by obtain ⟨q, hq⟩ := hq.out; rw [hq]; exact HR.out
      have HSw : Hid (Step (fun _ => False) w wr) := by obtain ⟨q, hq⟩ := hq.out; rw [hq]; exact HS1.out.drewN q
      clear hTg
      subst hN
      rw [show ((9 + 1 : Nat) : Int) = 10 from rfl]
      go_wp2_with fail
      refine (group_walk _ v 10 c sb _ _ HRw.out (fun j h1 _ => HB.out j (by omega)) (by omega) (by omega)).mono ?_
      rintro e w5 ⟨D', c', rfl, hown5, hS5⟩
      go_wp2_with fail
      go_ret
      rw [HTg.out, grpL_len]
      exact ⟨D', c', rfl, own_base hown5 (fun k hk => Nat.le_trans HSw.out.size (own_ge hown5 k hk)), HSw.out.trans hS5⟩
end Go.Proofs.Ytfemeendkjcffaa
