/-
  leb: ReadUint of 32 bits.
-/
import Derived.Test.YtfemeendkjcffaaRdA
set_option linter.unusedVariables false
set_option linter.unusedSimpArgs false
namespace Go.Proofs.Ytfemeendkjcffaa
open Go.RowKit

/-- The number of 32 bits that bytes begin with, how many they are, the error's number. -/
def rdU (t : List UInt8) : Nat × Nat × Nat :=
  if (grpN 5 t 0).2 = 0 then (if (grpN 5 t 0).1 = 5 ∧ 16 ≤ (t.getD 4 0).toNat then (0, 0, 3) else (valL (t.take (grpN 5 t 0).1), (grpN 5 t 0).1, 0)) else (0, 0, (grpN 5 t 0).2)
def rdV (k : Nat) (r : Nat × Nat × Nat) : Value := if r.2.2 = 0 then .tuple #[.int .u64 (r.1 : Int), .int .i64 ((k : Int) + (r.2.1 : Int)), .int .i64 0] else .tuple #[.int .u64 0, .int .i64 0, .int .i64 (r.2.2 : Int)]

theorem and127n (b : Nat) (h : b < 256) : bits .and .u8 (b : Int) 127 = ((b % 128 : Nat) : Int) := by
  refine (u8_and_nat b 127 h (by decide)).trans ?_
  rw [nat_mask7]
theorem or_join (v x i : Nat) (hv : v < 128 ^ i) (hx : x < 128) (hi : i < 5) : bits .or .u64 (v : Int) ((x : Int) * 128 ^ i) = ((v + x * 128 ^ i : Nat) : Int) := by
  rw [show (x : Int) * 128 ^ i = ((x * 128 ^ i : Nat) : Int) by simp]
  have h5 : i = 0 ∨ i = 1 ∨ i = 2 ∨ i = 3 ∨ i = 4 := by omega
  have hb : x * 128 ^ i < 18446744073709551616 ∧ 128 ^ i < 18446744073709551616 := by
    rcases h5 with rfl | rfl | rfl | rfl | rfl <;> simp <;> omega
  rw [u64_or_nat v (x * 128 ^ i) (by omega) hb.1, Nat.or_comm, nat_join (7 * i) _ _ (by rw [Nat.pow_mul]; exact Nat.mul_mod_left _ _) (by rw [Nat.pow_mul]; exact hv), Nat.add_comm]
theorem shl_join (x i : Nat) (hx : x < 128) (hi : i < 5) : IntKind.u64.wrap ((x : Int) * 2 ^ (7 * (i : Int)).toNat) = (x : Int) * 128 ^ i := by
  have h5 : i = 0 ∨ i = 1 ∨ i = 2 ∨ i = 3 ∨ i = 4 := by omega
  rw [IntKind.wrap_u64]
  rcases h5 with rfl | rfl | rfl | rfl | rfl <;> simp <;> omega

set_option maxRecDepth 100000 in
set_option maxHeartbeats 1600000 in
theorem readuint_walk (w : World) (D : Option Addr) (c k : Nat) (bs : List UInt8) (S : Nat → Prop) (hr : Reads w S 1 D bs.length (u8s bs)) (hk : k ≤ bs.length) (hcap : bs.length ≤ c) (hsh : bs.length ≤ 1000000) :
    Calls Try.prog 208 #[.slice D bs.length c, .int .i64 (k : Int), .int .i64 32] w fun e w' => e = .returned (rdV k (rdU (bs.drop k))) ∧ w' = w := by
  have hwd : Wide 32 5 := .inl ⟨rfl, rfl⟩
  have HS : Hid (∀ w, Calls Try.prog 209 #[.slice D bs.length c, .int .i64 (k : Int), .int .i64 32] w fun e w' => e = .returned (.bool true) ∧ w' = w) := fun w => lstart_walk w 32 5 hwd D bs.length c k hk
  have HG : Hid (Calls Try.prog 210 #[.slice D bs.length c, .int .i64 (k : Int), .int .i64 32] w fun e w' => e = .returned (grpV D c k (grpN 5 (bs.drop k) 0)) ∧ w' = w) := lgroup_walk w 32 5 hwd D c k bs S hr hk hcap hsh
  have HL := Lib.hid (grpN_le 5 (bs.drop k) 0)
  by_cases h0 : (grpN 5 (bs.drop k) 0).2 = 0
  · obtain ⟨l1, l2, l3⟩ := HL.out h0
    have hrt := (hr.cut hk hcap).take (k := (grpN 5 (bs.drop k) 0).1) (by rw [List.length_drop] at l3; omega)
    rw [Nat.mul_one, Nat.mul_one, ← u8s_drop, ← u8s_take] at hrt
    rw [grpV, if_pos h0] at HG
    have HF : Hid (rdU (bs.drop k) = if (grpN 5 (bs.drop k) 0).1 = 5 ∧ 16 ≤ ((bs.drop k).getD 4 0).toNat then (0, 0, 3) else (valL ((bs.drop k).take (grpN 5 (bs.drop k) 0).1), (grpN 5 (bs.drop k) 0).1, 0)) := by rw [Hid, rdU, if_pos h0]
    obtain ⟨n, hn⟩ : ∃ n, n = (grpN 5 (bs.drop k) 0).1 := ⟨_, rfl⟩
    rw [← hn] at hrt HG HF l1 l2 l3
    rw [Nat.zero_add] at l2 l3
    have hGl : ((bs.drop k).take n).length = n := by rw [List.length_take]; exact Nat.min_eq_left l3
    have HQ : Hid (n = 5 → (bs.drop k).getD 4 0 = ((bs.drop k).take n).getD 4 0) := fun h5 => by
      subst h5
      rw [List.getD_eq_getElem?_getD, List.getD_eq_getElem?_getD, List.getElem?_take, if_pos (by decide)]
    rw [List.length_drop] at l3
    obtain ⟨G, hG⟩ : ∃ G, G = (bs.drop k).take n := ⟨_, rfl⟩
    rw [← hG] at hrt hGl HF HQ
    obtain ⟨A, hA⟩ : ∃ A, A = cutA D c k 1 := ⟨_, rfl⟩
    replace hrt : Reads w S 1 (cutA D c k 1) n (u8s G) := by unfold cutA; rw [Nat.mul_one]; exact hrt
    rw [← hA] at hrt HG
    clear hG hA HL h0 hn hr
    have hwe : IntKind.i64.wrap ((k : Int) + (n : Int)) = (k : Int) + (n : Int) := by rw [IntKind.wrap_i64]; omega
    go_enter Try.func208, Try.ntmps208
    go_wp2_with fail
    refine (HS.out _).mono ?_
    rintro e w5 ⟨rfl, hw5⟩
    obtain rfl : w5 = w := hw5
    go_wp2_with fail
    refine HG.out.mono ?_
    rintro e w6 ⟨rfl, hw6⟩
    obtain rfl : w6 = w5 := hw6
    go_wp2_with fail
    go_loopw [11, 32] (fun vv iv wr => ∃ (i : Nat), i ≤ n ∧ vv = .int .u64 (valL (G.take i) : Int) ∧ iv = .int .i64 (i : Int) ∧ wr = w6) (fun _ iv _ => n + 1 - (intOf iv).toNat)
    case atStart => exact ⟨0, by omega, by simp [valL], rfl, rfl⟩
    case round =>
      obtain ⟨i, hi, rfl, rfl, rfl⟩ := hrel
      by_cases hlt : i < n
      · have g1 : (i : Int) < (n : Int) := by omega
        have hw1 := IntWalk.i64_in ((i : Int) + 1) (by omega)
        have hw2 := IntWalk.i64_in (7 * (i : Int)) (by omega)
        have hw3 := IntWalk.u64_in (7 * (i : Int)) (by omega)
        obtain ⟨ad, u, hAd, _, hbl, hu, hc⟩ := hrt.at_ hlt
        rw [u8s_get G _ (by omega)] at hu
        injection hu with hu
        subst hu
        subst hAd
        have HV := Lib.hid (valL_take G i (by omega))
        have hvl := valL_lt (G.take i)
        rw [List.length_take, Nat.min_eq_left (by omega)] at hvl
        have hb256 := UInt8.toNat_lt G[i]
        generalize G[i].toNat = b at *
        have hand := and127n b (by omega)
        have hx : b % 128 < 128 := Nat.mod_lt _ (by decide)
        obtain ⟨x, hxe⟩ : ∃ x, x = b % 128 := ⟨_, rfl⟩
        rw [← hxe] at hand hx HV
        clear hxe
        have hw4 := IntWalk.u64_in (x : Int) (by omega)
        have hshl := shl_join x i hx (by omega)
        have hor := or_join (valL (G.take i)) x i hvl hx (by omega)
        rw [← HV.out] at hor
        obtain ⟨V, hV⟩ : ∃ V, V = valL (G.take i) := ⟨_, rfl⟩
        rw [← hV] at hor ⊢
        clear hV HV hvl
        go_wp2_with fail
        exact ⟨⟨i + 1, by omega, by first | rfl | rw [hor], by rw [Int.natCast_add]; rfl, trivial⟩, by rw [show intOf (.int .i64 ((i : Int) + 1)) = ((i + 1 : Nat) : Int) from rfl, show intOf (.int .i64 (i : Int)) = (i : Int) from rfl]; omega⟩
      · obtain rfl : i = n := by omega
        rw [show G.take i = G by rw [← hGl]; exact List.take_length]
        clear hlt hi
        have hvl := valL_lt G
        have hv64 : valL G < 18446744073709551616 := by
          rw [hGl] at hvl
          exact Nat.lt_of_lt_of_le hvl (Nat.le_trans (Nat.pow_le_pow_right (by decide) l2) (by decide))
        obtain ⟨V, hV⟩ : ∃ V, V = valL G := ⟨_, rfl⟩
        rw [← hV] at HF hv64 ⊢
        clear hV hvl
        by_cases h5 : i = 5
        · obtain ⟨ad, u, hAd, _, hbl, hu, hc⟩ := hrt.at_ (k := 4) (by omega)
          rw [u8s_get G _ (by omega)] at hu
          injection hu with hu
          subst hu
          subst hAd
          have hq : (bs.drop k).getD 4 0 = G[4] := by
            rw [HQ.out h5, List.getD_eq_getElem?_getD, List.getElem?_eq_getElem (by omega)]
            rfl
          rw [hq] at HF
          have hb256 := UInt8.toNat_lt G[4]
          generalize G[4].toNat = b at *
          clear HQ hq
          subst h5
          have hc2 := hc
          simp [Addr.add] at hc2
          have e5 : (7 * ((5 : Nat) : Int) - 32) = 3 := by decide
          by_cases hb : 16 ≤ b
          · have hB : ((b : Int) / 16 != 0) = true := bne_iff_ne.2 (by omega)
            go_wp2_with fail
            refine bodyPost_ret (v := .tuple #[.int .u64 0, .int .i64 0, .int .i64 3]) (by simp [results, Try.results208, go_sem]) rfl ?_
            rw [HF.out]
            simp [rdV, hb]
          · have hB : ((b : Int) / 16 != 0) = false := by rw [bne_eq_false_iff_eq]; omega
            go_wp2_with fail
            refine bodyPost_ret (v := .tuple #[.int .u64 (V : Int), .int .i64 ((k : Int) + 5), .int .i64 0]) (by simp [results, Try.results208, go_sem]) rfl ?_
            exact ⟨by rw [HF.out, if_neg (fun h => hb h.2)]; rfl, rfl⟩
        · have g2 : decide ((0 : Int) < 7 * (i : Int) - 32) = false := decide_eq_false (by omega)
          have g3 : ¬ (0 : Int) < 7 * (i : Int) - 32 := by omega
          have hw2 := IntWalk.i64_in (7 * (i : Int)) (by omega)
          have hw3 := IntWalk.i64_in (7 * (i : Int) - 32) (by omega)
          go_wp2_with fail
          refine bodyPost_ret (v := .tuple #[.int .u64 (V : Int), .int .i64 ((k : Int) + (i : Int)), .int .i64 0]) (by simp [results, Try.results208, go_sem]) rfl ?_
          exact ⟨by rw [HF.out, if_neg (fun h => h5 h.1)]; rfl, rfl⟩
  · have HF : Hid (rdU (bs.drop k) = (0, 0, (grpN 5 (bs.drop k) 0).2)) := by rw [Hid, rdU, if_neg h0]
    rw [grpV, if_neg h0] at HG
    obtain ⟨f, hf⟩ : ∃ f : Int, f = ((grpN 5 (bs.drop k) 0).2 : Nat) := ⟨_, rfl⟩
    rw [← hf] at HG
    have hne : (f != 0) = true := bne_iff_ne.2 (by omega)
    have hne2 : ¬ f = 0 := by omega
    have HE : Hid (rdV k (0, 0, (grpN 5 (bs.drop k) 0).2) = .tuple #[.int .u64 0, .int .i64 0, .int .i64 f]) := by rw [Hid, rdV, if_neg (by omega), hf]
    clear hf HL h0 hr
    go_enter Try.func208, Try.ntmps208
    go_wp2_with fail
    refine (HS.out _).mono ?_
    rintro e w5 ⟨rfl, hw5⟩
    obtain rfl : w5 = w := hw5
    go_wp2_with fail
    refine HG.out.mono ?_
    rintro e w6 ⟨rfl, hw6⟩
    obtain rfl : w6 = w5 := hw6
    go_wp2_with fail
    refine bodyPost_ret (v := .tuple #[.int .u64 0, .int .i64 0, .int .i64 f]) (by simp [results, Try.results208, go_sem]) rfl ?_
    exact ⟨by rw [HF.out, HE.out], rfl⟩
end Go.Proofs.Ytfemeendkjcffaa
