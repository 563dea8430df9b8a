/-
  leb: ReadInt of 32 and of 64 bits.
-/
import Derived.Test.YtfemeendkjcffaaRdB
set_option linter.unusedVariables false
set_option linter.unusedSimpArgs false
namespace Go.Proofs.Ytfemeendkjcffaa
open Go.RowKit

/-- The number with a sign that V is in n groups. -/
def sgnN (n V : Nat) : Int := if n = 10 then wrap64 (V : Int) else if 2 * V < 128 ^ n then (V : Int) else (V : Int) - 128 ^ n
def rdS (m d mx : Nat) (t : List UInt8) : Int × Nat × Nat :=
  if (grpN m t 0).2 = 0 then (if (grpN m t 0).1 = m ∧ ¬ ((t.getD (m - 1) 0).toNat / d = 0 ∨ (t.getD (m - 1) 0).toNat / d = mx) then (0, 0, 3) else (sgnN (grpN m t 0).1 (valL (t.take (grpN m t 0).1)), (grpN m t 0).1, 0)) else (0, 0, (grpN m t 0).2)
def rsV (k : Nat) (r : Int × Nat × Nat) : Value := if r.2.2 = 0 then .tuple #[.int .i64 r.1, .int .i64 ((k : Int) + (r.2.1 : Int)), .int .i64 0] else .tuple #[.int .i64 0, .int .i64 0, .int .i64 (r.2.2 : Int)]

theorem ten_cases {i : Nat} (hi : i < 10) : i = 0 ∨ i = 1 ∨ i = 2 ∨ i = 3 ∨ i = 4 ∨ i = 5 ∨ i = 6 ∨ i = 7 ∨ i = 8 ∨ i = 9 := by omega
theorem or_i64 (A B : Nat) (hA : A < 9223372036854775808) : bits .or .i64 (A : Int) (wrap64 (B : Int)) = wrap64 ((A ||| B % 18446744073709551616 : Nat) : Int) := by
  show IntKind.i64.wrap ((BitVec.ofInt 64 (A : Int) ||| BitVec.ofInt 64 (wrap64 (B : Int))).toNat : Int) = _
  have h1 : (BitVec.ofInt 64 (A : Int)).toNat = A := ofInt_u64 A (by omega)
  have h2 : (BitVec.ofInt 64 (wrap64 (B : Int))).toNat = B % 18446744073709551616 := by
    rw [BitVec.toNat_ofInt]
    unfold wrap64
    omega
  rw [BitVec.toNat_or, h1, h2, IntKind.wrap_i64]
  unfold wrap64
  omega
theorem or_joini (v x i : Nat) (hv : v < 128 ^ i) (hx : x < 128) (hi : i < 10) : bits .or .i64 (v : Int) (wrap64 ((x : Int) * 128 ^ i)) = wrap64 ((v + x * 128 ^ i : Nat) : Int) := by
  have hv63 : v < 9223372036854775808 := by
    rcases ten_cases hi with rfl | rfl | rfl | rfl | rfl | rfl | rfl | rfl | rfl | rfl <;> simp at hv <;> omega
  rw [show (x : Int) * 128 ^ i = ((x * 128 ^ i : Nat) : Int) by simp, or_i64 v _ hv63]
  have hd : x * 128 ^ i % 18446744073709551616 % 2 ^ (7 * i) = 0 := by
    rw [Nat.pow_mul]
    have h64 : (18446744073709551616 : Nat) = 128 ^ i * (18446744073709551616 / 128 ^ i) := by
      rcases ten_cases hi with rfl | rfl | rfl | rfl | rfl | rfl | rfl | rfl | rfl | rfl <;> decide
    rw [h64, Nat.mod_mul_right_mod]
    exact Nat.mul_mod_left _ _
  rw [Nat.or_comm, nat_join (7 * i) _ _ hd (by rw [Nat.pow_mul]; exact hv), Nat.add_comm]
  unfold wrap64
  omega
theorem shl_joini (x i : Nat) (hi : i < 10) : IntKind.i64.wrap ((x : Int) * 2 ^ (7 * (i : Int)).toNat) = wrap64 ((x : Int) * 128 ^ i) := by
  rw [IntKind.wrap_i64]
  rcases ten_cases hi with rfl | rfl | rfl | rfl | rfl | rfl | rfl | rfl | rfl | rfl <;> simp [wrap64]
theorem wrap_small (l : List UInt8) (n : Nat) (hl : l.length = n) (hn : n < 10) : wrap64 (valL l : Int) = (valL l : Int) := by
  have h := valL_lt l
  rw [hl] at h
  unfold wrap64
  rcases ten_cases hn with rfl | rfl | rfl | rfl | rfl | rfl | rfl | rfl | rfl | rfl <;> simp at h <;> omega
theorem sgn_shift (V n : Nat) (h0 : 0 < n) (hn : n < 10) (hV : V < 128 ^ n) : wrap64 ((V : Int) * 2 ^ (64 - 7 * n)) / 2 ^ (64 - 7 * n) = sgnN n V := by
  rw [sgnN, if_neg (by omega)]
  unfold wrap64
  rcases ten_cases hn with rfl | rfl | rfl | rfl | rfl | rfl | rfl | rfl | rfl | rfl <;> simp at hV h0 ⊢ <;> (try split) <;> omega

set_option maxRecDepth 100000 in
set_option maxHeartbeats 3200000 in
theorem readint32_walk (w : World) (D : Option Addr) (c k : Nat) (bs : List UInt8) (S : Nat → Prop) (hr : Reads w S 1 D bs.length (u8s bs)) (hk : k ≤ bs.length) (hcap : bs.length ≤ c) (hsh : bs.length ≤ 1000000) :
    Calls Try.prog 203 #[.slice D bs.length c, .int .i64 (k : Int), .int .i64 32] w fun e w' => e = .returned (rsV k (rdS 5 8 15 (bs.drop k))) ∧ w' = w := by
  have hwd : Wide 32 5 := .inl ⟨rfl, rfl⟩
  have HS : Hid (∀ w, Calls Try.prog 209 #[.slice D bs.length c, .int .i64 (k : Int), .int .i64 32] w fun e w' => e = .returned (.bool true) ∧ w' = w) := fun w => lstart_walk w 32 5 hwd D bs.length c k hk
  have HG : Hid (Calls Try.prog 210 #[.slice D bs.length c, .int .i64 (k : Int), .int .i64 32] w fun e w' => e = .returned (grpV D c k (grpN 5 (bs.drop k) 0)) ∧ w' = w) := lgroup_walk w 32 5 hwd D c k bs S hr hk hcap hsh
  have HL := Lib.hid (grpN_le 5 (bs.drop k) 0)
  by_cases h0 : (grpN 5 (bs.drop k) 0).2 = 0
  · obtain ⟨l1, l2, l3⟩ := HL.out h0
    have hrt := (hr.cut hk hcap).take (k := (grpN 5 (bs.drop k) 0).1) (by rw [List.length_drop] at l3; omega)
    rw [Nat.mul_one, Nat.mul_one, ← u8s_drop, ← u8s_take] at hrt
    rw [grpV, if_pos h0] at HG
    have HF : Hid (rdS 5 8 15 (bs.drop k) = if (grpN 5 (bs.drop k) 0).1 = 5 ∧ ¬ (((bs.drop k).getD (5 - 1) 0).toNat / 8 = 0 ∨ ((bs.drop k).getD (5 - 1) 0).toNat / 8 = 15) then (0, 0, 3) else (sgnN (grpN 5 (bs.drop k) 0).1 (valL ((bs.drop k).take (grpN 5 (bs.drop k) 0).1)), (grpN 5 (bs.drop k) 0).1, 0)) := by rw [Hid, rdS, if_pos h0]
    obtain ⟨n, hn⟩ : ∃ n, n = (grpN 5 (bs.drop k) 0).1 := ⟨_, rfl⟩
    rw [← hn] at hrt HG HF l1 l2 l3
    rw [Nat.zero_add] at l2 l3
    have hGl : ((bs.drop k).take n).length = n := by rw [List.length_take]; exact Nat.min_eq_left l3
    have HQ : Hid (n = 5 → (bs.drop k).getD (5 - 1) 0 = ((bs.drop k).take n).getD (5 - 1) 0) := fun h5 => by
      subst h5
      rw [List.getD_eq_getElem?_getD, List.getD_eq_getElem?_getD, List.getElem?_take, if_pos (by decide)]
    rw [List.length_drop] at l3
    obtain ⟨G, hG⟩ : ∃ G, G = (bs.drop k).take n := ⟨_, rfl⟩
    rw [← hG] at hrt hGl HF HQ
    obtain ⟨A, hA⟩ : ∃ A, A = cutA D c k 1 := ⟨_, rfl⟩
    replace hrt : Reads w S 1 (cutA D c k 1) n (u8s G) := by unfold cutA; rw [Nat.mul_one]; exact hrt
    rw [← hA] at hrt HG
    clear hG hA HL h0 hn hr
    have hwe : IntKind.i64.wrap ((k : Int) + (n : Int)) = (k : Int) + (n : Int) := by rw [IntKind.wrap_i64]; omega
    have hwn : IntKind.i64.wrap ((n : Int) - 1) = ((n - 1 : Nat) : Int) := by rw [IntKind.wrap_i64]; omega
    obtain ⟨ad, u, hAd, _, hbl, hu, hcl⟩ := hrt.at_ (k := n - 1) (by omega)
    rw [u8s_get G _ (by omega)] at hu
    injection hu with hu
    subst hu
    subst hAd
    have HQ2 : Hid (n = 5 → (bs.drop k).getD (5 - 1) 0 = G[n - 1]) := fun h5 => by
      rw [HQ.out h5, List.getD_eq_getElem?_getD]
      subst h5
      rw [List.getElem?_eq_getElem (by omega)]
      rfl
    have hb256 := UInt8.toNat_lt G[n - 1]
    have HQ3 : Hid (n = 5 → ((bs.drop k).getD (5 - 1) 0).toNat = G[n - 1].toNat) := fun h5 => by rw [HQ2.out h5]
    clear HQ HQ2
    obtain ⟨q, hq⟩ : ∃ q, q = G[n - 1].toNat := ⟨_, rfl⟩
    rw [← hq] at HQ3 hcl hb256
    clear hq
    go_enter Try.func203, Try.ntmps203
    go_wp2_with fail
    refine (HS.out _).mono ?_
    rintro e w5 ⟨rfl, hw5⟩
    obtain rfl : w5 = w := hw5
    go_wp2_with fail
    refine HG.out.mono ?_
    rintro e w6 ⟨rfl, hw6⟩
    obtain rfl : w6 = w5 := hw6
    go_wp2_with fail
    go_loopw [11, 35] (fun vv iv wr => ∃ (i : Nat), i ≤ n ∧ vv = .int .i64 (wrap64 (valL (G.take i) : Int)) ∧ iv = .int .i64 (i : Int) ∧ wr = w6) (fun _ iv _ => n + 1 - (intOf iv).toNat)
    case atStart => exact ⟨0, by omega, by simp [valL, wrap64], rfl, rfl⟩
    case round =>
      obtain ⟨i, hi, rfl, rfl, rfl⟩ := hrel
      by_cases hlt : i < n
      · have g1 : (i : Int) < (n : Int) := by omega
        have hw1 := IntWalk.i64_in ((i : Int) + 1) (by omega)
        have hw2 := IntWalk.i64_in (7 * (i : Int)) (by omega)
        have hw3 := IntWalk.u64_in (7 * (i : Int)) (by omega)
        obtain ⟨ad2, u, hAd, _, _, hu, hc⟩ := hrt.at_ hlt
        rw [u8s_get G _ (by omega)] at hu
        injection hu with hu
        subst hu
        injection hAd with hAd
        subst hAd
        have HV := Lib.hid (valL_take G i (by omega))
        have hGt : (G.take i).length = i := by rw [List.length_take]; omega
        have hvl := valL_lt (G.take i)
        rw [hGt] at hvl
        rw [wrap_small (G.take i) i hGt (by omega)]
        have hb2 := UInt8.toNat_lt G[i]
        generalize G[i].toNat = b at *
        have hand := and127n b (by omega)
        have hx : b % 128 < 128 := Nat.mod_lt _ (by decide)
        obtain ⟨x, hxe⟩ : ∃ x, x = b % 128 := ⟨_, rfl⟩
        rw [← hxe] at hand hx HV
        clear hxe
        have hw4 := IntWalk.i64_in (x : Int) (by omega)
        have hshl := shl_joini x i (by omega)
        have hor := or_joini (valL (G.take i)) x i hvl hx (by omega)
        rw [← HV.out] at hor
        obtain ⟨Z, hZ⟩ : ∃ Z, Z = wrap64 ((x : Int) * 128 ^ i) := ⟨_, rfl⟩
        rw [← hZ] at hshl hor
        clear hZ
        obtain ⟨V, hV⟩ : ∃ V, V = valL (G.take i) := ⟨_, rfl⟩
        rw [← hV] at hor ⊢
        clear hV HV hvl
        obtain ⟨Y, hY⟩ : ∃ Y, Y = wrap64 (valL (G.take (i + 1)) : Int) := ⟨_, rfl⟩
        rw [← hY] at hor
        go_wp2_with fail
        exact ⟨⟨i + 1, by omega, by first | rfl | rw [hY], by rw [Int.natCast_add]; rfl, trivial⟩, by rw [show intOf (.int .i64 ((i : Int) + 1)) = ((i + 1 : Nat) : Int) from rfl, show intOf (.int .i64 (i : Int)) = (i : Int) from rfl]; omega⟩
      · obtain rfl : i = n := by omega
        rw [show G.take i = G by rw [← hGl]; exact List.take_length]
        clear hlt hi
        have hvl := valL_lt G
        rw [hGl] at hvl
        have hw2 := IntWalk.i64_in (7 * (i : Int)) (by omega)
        have hw3 : IntKind.i64.wrap (7 * (i : Int) - 32) = 7 * (i : Int) - 32 := by rw [IntKind.wrap_i64]; omega
        have g0 : (0 : Int) ≤ (i : Int) - 1 := by omega
        by_cases h10 : i < 10
        · rw [wrap_small G i hGl h10]
          have hs := sgn_shift (valL G) i l1 h10 hvl
          obtain ⟨V, hV⟩ : ∃ V, V = valL G := ⟨_, rfl⟩
          rw [← hV] at HF hs hvl ⊢
          clear hV hvl
          obtain ⟨R, hR⟩ : ∃ R, R = sgnN i V := ⟨_, rfl⟩
          rw [← hR] at HF hs
          clear hR
          have hw4 := IntWalk.i64_in (64 - 7 * (i : Int)) (by omega)
          have hw5 := IntWalk.u64_in (64 - 7 * (i : Int)) (by omega)
          have g4 : 7 * (i : Int) < 64 := by omega
          by_cases h5 : i = 5
          · rw [HQ3.out h5] at HF
            clear HQ3
            subst h5
            simp at hs
            simp [Addr.add] at hcl
            by_cases hb0 : q / 8 = 0
            · have hB1 : ((q : Int) / 8 != 0) = false := by rw [bne_eq_false_iff_eq]; omega
              go_wp2_with fail
              refine bodyPost_ret (v := .tuple #[.int .i64 R, .int .i64 ((k : Int) + 5), .int .i64 0]) (by simp [results, Try.results203, go_sem, hs]) rfl ?_
              exact ⟨by rw [HF.out, if_neg (fun h => h.2 (.inl hb0))]; rfl, by first | rfl | trivial⟩
            · have hB1 : ((q : Int) / 8 != 0) = true := bne_iff_ne.2 (by omega)
              by_cases hb1 : q / 8 = 15
              · have hB2 : ((q : Int) / 8 != 15) = false := by rw [bne_eq_false_iff_eq]; omega
                go_wp2_with fail
                refine bodyPost_ret (v := .tuple #[.int .i64 R, .int .i64 ((k : Int) + 5), .int .i64 0]) (by simp [results, Try.results203, go_sem, hs]) rfl ?_
                exact ⟨by rw [HF.out, if_neg (fun h => h.2 (.inr hb1))]; rfl, by first | rfl | trivial⟩
              · have hB2 : ((q : Int) / 8 != 15) = true := bne_iff_ne.2 (by omega)
                go_wp2_with fail
                refine bodyPost_ret (v := .tuple #[.int .i64 0, .int .i64 0, .int .i64 3]) (by simp [results, Try.results203, go_sem]) rfl ?_
                rw [HF.out]
                simp [rsV, hb0, hb1]
          · have g2 : decide ((0 : Int) < 7 * (i : Int) - 32) = false := decide_eq_false (by omega)
            have g3 : ¬ (0 : Int) < 7 * (i : Int) - 32 := by omega
            go_wp2_with fail
            refine bodyPost_ret (v := .tuple #[.int .i64 R, .int .i64 ((k : Int) + (i : Int)), .int .i64 0]) (by simp [results, Try.results203, go_sem, hs]) rfl ?_
            exact ⟨by rw [HF.out, if_neg (fun h => h5 h.1)]; rfl, by first | rfl | trivial⟩
        · exact absurd l2 (by omega)
  · have HF : Hid (rdS 5 8 15 (bs.drop k) = (0, 0, (grpN 5 (bs.drop k) 0).2)) := by rw [Hid, rdS, if_neg h0]
    rw [grpV, if_neg h0] at HG
    obtain ⟨f, hf⟩ : ∃ f : Int, f = ((grpN 5 (bs.drop k) 0).2 : Nat) := ⟨_, rfl⟩
    rw [← hf] at HG
    have hne : (f != 0) = true := bne_iff_ne.2 (by omega)
    have hne2 : ¬ f = 0 := by omega
    have HE : Hid (rsV k (0, 0, (grpN 5 (bs.drop k) 0).2) = .tuple #[.int .i64 0, .int .i64 0, .int .i64 f]) := by rw [Hid, rsV, if_neg (by omega), hf]
    clear hf HL h0 hr
    go_enter Try.func203, Try.ntmps203
    go_wp2_with fail
    refine (HS.out _).mono ?_
    rintro e w5 ⟨rfl, hw5⟩
    obtain rfl : w5 = w := hw5
    go_wp2_with fail
    refine HG.out.mono ?_
    rintro e w6 ⟨rfl, hw6⟩
    obtain rfl : w6 = w5 := hw6
    go_wp2_with fail
    refine bodyPost_ret (v := .tuple #[.int .i64 0, .int .i64 0, .int .i64 f]) (by simp [results, Try.results203, go_sem]) rfl ?_
    exact ⟨by rw [HF.out, HE.out], rfl⟩

set_option maxRecDepth 100000 in
set_option maxHeartbeats 3200000 in
theorem readint64_walk (w : World) (D : Option Addr) (c k : Nat) (bs : List UInt8) (S : Nat → Prop) (hr : Reads w S 1 D bs.length (u8s bs)) (hk : k ≤ bs.length) (hcap : bs.length ≤ c) (hsh : bs.length ≤ 1000000) :
    Calls Try.prog 203 #[.slice D bs.length c, .int .i64 (k : Int), .int .i64 64] w fun e w' => e = .returned (rsV k (rdS 10 1 127 (bs.drop k))) ∧ w' = w := by
  have hwd : Wide 64 10 := .inr ⟨rfl, rfl⟩
  have HS : Hid (∀ w, Calls Try.prog 209 #[.slice D bs.length c, .int .i64 (k : Int), .int .i64 64] w fun e w' => e = .returned (.bool true) ∧ w' = w) := fun w => lstart_walk w 64 10 hwd D bs.length c k hk
  have HG : Hid (Calls Try.prog 210 #[.slice D bs.length c, .int .i64 (k : Int), .int .i64 64] w fun e w' => e = .returned (grpV D c k (grpN 10 (bs.drop k) 0)) ∧ w' = w) := lgroup_walk w 64 10 hwd D c k bs S hr hk hcap hsh
  have HL := Lib.hid (grpN_le 10 (bs.drop k) 0)
  by_cases h0 : (grpN 10 (bs.drop k) 0).2 = 0
  · obtain ⟨l1, l2, l3⟩ := HL.out h0
    have hrt := (hr.cut hk hcap).take (k := (grpN 10 (bs.drop k) 0).1) (by rw [List.length_drop] at l3; omega)
    rw [Nat.mul_one, Nat.mul_one, ← u8s_drop, ← u8s_take] at hrt
    rw [grpV, if_pos h0] at HG
    have HF : Hid (rdS 10 1 127 (bs.drop k) = if (grpN 10 (bs.drop k) 0).1 = 10 ∧ ¬ (((bs.drop k).getD (10 - 1) 0).toNat / 1 = 0 ∨ ((bs.drop k).getD (10 - 1) 0).toNat / 1 = 127) then (0, 0, 3) else (sgnN (grpN 10 (bs.drop k) 0).1 (valL ((bs.drop k).take (grpN 10 (bs.drop k) 0).1)), (grpN 10 (bs.drop k) 0).1, 0)) := by rw [Hid, rdS, if_pos h0]
    obtain ⟨n, hn⟩ : ∃ n, n = (grpN 10 (bs.drop k) 0).1 := ⟨_, rfl⟩
    rw [← hn] at hrt HG HF l1 l2 l3
    rw [Nat.zero_add] at l2 l3
    have hGl : ((bs.drop k).take n).length = n := by rw [List.length_take]; exact Nat.min_eq_left l3
    have HQ : Hid (n = 10 → (bs.drop k).getD (10 - 1) 0 = ((bs.drop k).take n).getD (10 - 1) 0) := fun h5 => by
      subst h5
      rw [List.getD_eq_getElem?_getD, List.getD_eq_getElem?_getD, List.getElem?_take, if_pos (by decide)]
    rw [List.length_drop] at l3
    obtain ⟨G, hG⟩ : ∃ G, G = (bs.drop k).take n := ⟨_, rfl⟩
    rw [← hG] at hrt hGl HF HQ
    obtain ⟨A, hA⟩ : ∃ A, A = cutA D c k 1 := ⟨_, rfl⟩
    replace hrt : Reads w S 1 (cutA D c k 1) n (u8s G) := by unfold cutA; rw [Nat.mul_one]; exact hrt
    rw [← hA] at hrt HG
    clear hG hA HL h0 hn hr
    have hwe : IntKind.i64.wrap ((k : Int) + (n : Int)) = (k : Int) + (n : Int) := by rw [IntKind.wrap_i64]; omega
    have hwn : IntKind.i64.wrap ((n : Int) - 1) = ((n - 1 : Nat) : Int) := by rw [IntKind.wrap_i64]; omega
    obtain ⟨ad, u, hAd, _, hbl, hu, hcl⟩ := hrt.at_ (k := n - 1) (by omega)
    rw [u8s_get G _ (by omega)] at hu
    injection hu with hu
    subst hu
    subst hAd
    have HQ2 : Hid (n = 10 → (bs.drop k).getD (10 - 1) 0 = G[n - 1]) := fun h5 => by
      rw [HQ.out h5, List.getD_eq_getElem?_getD]
      subst h5
      rw [List.getElem?_eq_getElem (by omega)]
      rfl
    have hb256 := UInt8.toNat_lt G[n - 1]
    have HQ3 : Hid (n = 10 → ((bs.drop k).getD (10 - 1) 0).toNat = G[n - 1].toNat) := fun h5 => by rw [HQ2.out h5]
    clear HQ HQ2
    obtain ⟨q, hq⟩ : ∃ q, q = G[n - 1].toNat := ⟨_, rfl⟩
    rw [← hq] at HQ3 hcl hb256
    clear hq
    go_enter Try.func203, Try.ntmps203
    go_wp2_with fail
    refine (HS.out _).mono ?_
    rintro e w5 ⟨rfl, hw5⟩
    obtain rfl : w5 = w := hw5
    go_wp2_with fail
    refine HG.out.mono ?_
    rintro e w6 ⟨rfl, hw6⟩
    obtain rfl : w6 = w5 := hw6
    go_wp2_with fail
    go_loopw [11, 35] (fun vv iv wr => ∃ (i : Nat), i ≤ n ∧ vv = .int .i64 (wrap64 (valL (G.take i) : Int)) ∧ iv = .int .i64 (i : Int) ∧ wr = w6) (fun _ iv _ => n + 1 - (intOf iv).toNat)
    case atStart => exact ⟨0, by omega, by simp [valL, wrap64], rfl, rfl⟩
    case round =>
      obtain ⟨i, hi, rfl, rfl, rfl⟩ := hrel
      by_cases hlt : i < n
      · have g1 : (i : Int) < (n : Int) := by omega
        have hw1 := IntWalk.i64_in ((i : Int) + 1) (by omega)
        have hw2 := IntWalk.i64_in (7 * (i : Int)) (by omega)
        have hw3 := IntWalk.u64_in (7 * (i : Int)) (by omega)
        obtain ⟨ad2, u, hAd, _, _, hu, hc⟩ := hrt.at_ hlt
        rw [u8s_get G _ (by omega)] at hu
        injection hu with hu
        subst hu
        injection hAd with hAd
        subst hAd
        have HV := Lib.hid (valL_take G i (by omega))
        have hGt : (G.take i).length = i := by rw [List.length_take]; omega
        have hvl := valL_lt (G.take i)
        rw [hGt] at hvl
        rw [wrap_small (G.take i) i hGt (by omega)]
        have hb2 := UInt8.toNat_lt G[i]
        generalize G[i].toNat = b at *
        have hand := and127n b (by omega)
        have hx : b % 128 < 128 := Nat.mod_lt _ (by decide)
        obtain ⟨x, hxe⟩ : ∃ x, x = b % 128 := ⟨_, rfl⟩
        rw [← hxe] at hand hx HV
        clear hxe
        have hw4 := IntWalk.i64_in (x : Int) (by omega)
        have hshl := shl_joini x i (by omega)
        have hor := or_joini (valL (G.take i)) x i hvl hx (by omega)
        rw [← HV.out] at hor
        obtain ⟨Z, hZ⟩ : ∃ Z, Z = wrap64 ((x : Int) * 128 ^ i) := ⟨_, rfl⟩
        rw [← hZ] at hshl hor
        clear hZ
        obtain ⟨V, hV⟩ : ∃ V, V = valL (G.take i) := ⟨_, rfl⟩
        rw [← hV] at hor ⊢
        clear hV HV hvl
        obtain ⟨Y, hY⟩ : ∃ Y, Y = wrap64 (valL (G.take (i + 1)) : Int) := ⟨_, rfl⟩
        rw [← hY] at hor
        go_wp2_with fail
        exact ⟨⟨i + 1, by omega, by first | rfl | rw [hY], by rw [Int.natCast_add]; rfl, trivial⟩, by rw [show intOf (.int .i64 ((i : Int) + 1)) = ((i + 1 : Nat) : Int) from rfl, show intOf (.int .i64 (i : Int)) = (i : Int) from rfl]; omega⟩
      · obtain rfl : i = n := by omega
        rw [show G.take i = G by rw [← hGl]; exact List.take_length]
        clear hlt hi
        have hvl := valL_lt G
        rw [hGl] at hvl
        have hw2 := IntWalk.i64_in (7 * (i : Int)) (by omega)
        have hw3 : IntKind.i64.wrap (7 * (i : Int) - 64) = 7 * (i : Int) - 64 := by rw [IntKind.wrap_i64]; omega
        have g0 : (0 : Int) ≤ (i : Int) - 1 := by omega
        by_cases h10 : i < 10
        · rw [wrap_small G i hGl h10]
          have hs := sgn_shift (valL G) i l1 h10 hvl
          obtain ⟨V, hV⟩ : ∃ V, V = valL G := ⟨_, rfl⟩
          rw [← hV] at HF hs hvl ⊢
          clear hV hvl
          obtain ⟨R, hR⟩ : ∃ R, R = sgnN i V := ⟨_, rfl⟩
          rw [← hR] at HF hs
          clear hR
          have hw4 := IntWalk.i64_in (64 - 7 * (i : Int)) (by omega)
          have hw5 := IntWalk.u64_in (64 - 7 * (i : Int)) (by omega)
          have g4 : 7 * (i : Int) < 64 := by omega
          have g2 : decide ((0 : Int) < 7 * (i : Int) - 64) = false := decide_eq_false (by omega)
          have g3 : ¬ (0 : Int) < 7 * (i : Int) - 64 := by omega
          go_wp2_with fail
          refine bodyPost_ret (v := .tuple #[.int .i64 R, .int .i64 ((k : Int) + (i : Int)), .int .i64 0]) (by simp [results, Try.results203, go_sem, hs]) rfl ?_
          exact ⟨by rw [HF.out, if_neg (fun h => by omega)]; rfl, by first | rfl | trivial⟩
        · obtain rfl : i = 10 := by omega
          rw [HQ3.out rfl] at HF
          clear HQ3
          have HS2 : Hid (sgnN 10 (valL G) = wrap64 (valL G : Int)) := by rw [Hid, sgnN, if_pos rfl]
          rw [HS2.out] at HF
          obtain ⟨R, hR⟩ : ∃ R, R = wrap64 (valL G : Int) := ⟨_, rfl⟩
          rw [← hR] at HF ⊢
          clear hR HS2
          simp [Addr.add] at hcl
          by_cases hb0 : q = 0
          · have hB1 : ((q : Int) != 0) = false := by rw [bne_eq_false_iff_eq]; omega
            go_wp2_with fail
            refine bodyPost_ret (v := .tuple #[.int .i64 R, .int .i64 ((k : Int) + 10), .int .i64 0]) (by simp [results, Try.results203, go_sem]) rfl ?_
            exact ⟨by rw [HF.out, if_neg (fun h => h.2 (.inl (by omega)))]; rfl, by first | rfl | trivial⟩
          · have hB1 : ((q : Int) != 0) = true := bne_iff_ne.2 (by omega)
            by_cases hb1 : q = 127
            · have hB2 : ((q : Int) != 127) = false := by rw [bne_eq_false_iff_eq]; omega
              go_wp2_with fail
              refine bodyPost_ret (v := .tuple #[.int .i64 R, .int .i64 ((k : Int) + 10), .int .i64 0]) (by simp [results, Try.results203, go_sem]) rfl ?_
              exact ⟨by rw [HF.out, if_neg (fun h => h.2 (.inr (by omega)))]; rfl, by first | rfl | trivial⟩
            · have hB2 : ((q : Int) != 127) = true := bne_iff_ne.2 (by omega)
              go_wp2_with fail
              refine bodyPost_ret (v := .tuple #[.int .i64 0, .int .i64 0, .int .i64 3]) (by simp [results, Try.results203, go_sem]) rfl ?_
              rw [HF.out]
              simp [rsV, hb0, hb1]
  · have HF : Hid (rdS 10 1 127 (bs.drop k) = (0, 0, (grpN 10 (bs.drop k) 0).2)) := by rw [Hid, rdS, if_neg h0]
    rw [grpV, if_neg h0] at HG
    obtain ⟨f, hf⟩ : ∃ f : Int, f = ((grpN 10 (bs.drop k) 0).2 : Nat) := ⟨_, rfl⟩
    rw [← hf] at HG
    have hne : (f != 0) = true := bne_iff_ne.2 (by omega)
    have hne2 : ¬ f = 0 := by omega
    have HE : Hid (rsV k (0, 0, (grpN 10 (bs.drop k) 0).2) = .tuple #[.int .i64 0, .int .i64 0, .int .i64 f]) := by rw [Hid, rsV, if_neg (by omega), hf]
    clear hf HL h0 hr
    go_enter Try.func203, Try.ntmps203
    go_wp2_with fail
    refine (HS.out _).mono ?_
    rintro e w5 ⟨rfl, hw5⟩
    obtain rfl : w5 = w := hw5
    go_wp2_with fail
    refine HG.out.mono ?_
    rintro e w6 ⟨rfl, hw6⟩
    obtain rfl : w6 = w5 := hw6
    go_wp2_with fail
    refine bodyPost_ret (v := .tuple #[.int .i64 0, .int .i64 0, .int .i64 f]) (by simp [results, Try.results203, go_sem]) rfl ?_
    exact ⟨by rw [HF.out, HE.out], rfl⟩
end Go.Proofs.Ytfemeendkjcffaa
