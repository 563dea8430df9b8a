/-
  Rd: RdA, RdB, RdC, RdD.
-/
import Derived.Test.YtfemeendkjcffaaByt
import Derived.Test.YtfemeendkjcffaaLe
import Derived.Test.YtfemeendkjcffaaPu
import Derived.Laws.BitsAllLaws
set_option linter.unusedVariables false
set_option linter.unusedSimpArgs false
/-! leb: the bytes of a number at a place. -/
namespace Go.Proofs.Ytfemeendkjcffaa
open Go.RowKit

/-- How many bytes, of at most m, and the error's number. -/
def grpN : Nat → List UInt8 → Nat → Nat × Nat
  | 0, _, _ => (0, 3)
  | _ + 1, [], _ => (0, 2)
  | m + 1, b :: t, n => if b.toNat < 128 then (n + 1, 0) else grpN m t (n + 1)
/-- The value of bytes of seven bits. -/
def valL : List UInt8 → Nat
  | [] => 0
  | b :: t => b.toNat % 128 + 128 * valL t
theorem valL_lt : ∀ l : List UInt8, valL l < 128 ^ l.length
  | [] => by simp [valL]
  | b :: t => by
    have h := valL_lt t
    have h2 : b.toNat % 128 < 128 := Nat.mod_lt _ (by decide)
    rw [valL, List.length_cons, Nat.pow_succ]
    omega
theorem valL_append : ∀ (l : List UInt8) (b : UInt8), valL (l ++ [b]) = valL l + b.toNat % 128 * 128 ^ l.length
  | [], b => by simp [valL]
  | a :: l, b => by
    rw [List.cons_append, valL, valL_append l b, valL, List.length_cons, Nat.pow_succ, Nat.mul_add, Nat.add_assoc, ← Nat.mul_assoc, ← Nat.mul_assoc, Nat.mul_comm 128 (b.toNat % 128), Nat.mul_assoc, Nat.mul_assoc, Nat.mul_comm 128 (128 ^ l.length)]
theorem valL_take (l : List UInt8) (i : Nat) (h : i < l.length) : valL (l.take (i + 1)) = valL (l.take i) + l[i].toNat % 128 * 128 ^ i := by
  rw [List.take_succ_eq_append_getElem h, valL_append, List.length_take, Nat.min_eq_left (by omega)]
theorem grpN_le : ∀ (m : Nat) (t : List UInt8) (j : Nat), (grpN m t j).2 = 0 → j < (grpN m t j).1 ∧ (grpN m t j).1 ≤ j + m ∧ (grpN m t j).1 ≤ j + t.length
  | 0, _, _ => by simp [grpN]
  | _ + 1, [], _ => by simp [grpN]
  | m + 1, b :: t, j => by
    rw [grpN]
    split
    · intro _
      simp
    · intro h
      have := grpN_le m t (j + 1) h
      simp
      omega
def grpV (D : Option Addr) (c k : Nat) (r : Nat × Nat) : Value := if r.2 = 0 then .tuple #[.slice (cutA D c k 1) r.1 (c - k), .int .i64 0] else .tuple #[.slice none 0 0, .int .i64 (r.2 : Int)]

/-- Which widths are read. -/
def Wide (bits m : Nat) : Prop := bits = 32 ∧ m = 5 ∨ bits = 64 ∧ m = 10

set_option maxRecDepth 100000 in
set_option maxHeartbeats 1600000 in
theorem lright_walk (w : World) (bits m : Nat) (h : Wide bits m) : Calls Try.prog 212 #[.int .i64 (bits : Int)] w fun e w' => e = .returned (.bool true) ∧ w' = w := by
  rcases h with ⟨rfl, rfl⟩ | ⟨rfl, rfl⟩ <;>
  · go_enter Try.func212, Try.ntmps212
    go_wp2_with fail
    go_ret
    exact ⟨rfl, rfl⟩
set_option maxRecDepth 100000 in
set_option maxHeartbeats 1600000 in
theorem lmost_walk (w : World) (bits m : Nat) (h : Wide bits m) : Calls Try.prog 213 #[.int .i64 (bits : Int)] w fun e w' => e = .returned (.int .i64 (m : Int)) ∧ w' = w := by
  have HR : Hid (∀ w, Calls Try.prog 212 #[.int .i64 (bits : Int)] w fun e w' => e = .returned (.bool true) ∧ w' = w) := fun w => lright_walk w bits m h
  rcases h with ⟨rfl, rfl⟩ | ⟨rfl, rfl⟩ <;>
  · go_enter Try.func213, Try.ntmps213
    go_wp2_with fail
    refine (HR.out _).mono ?_
    rintro e w5 ⟨rfl, rfl⟩
    go_wp2_with fail
    go_ret
    exact ⟨rfl, rfl⟩
set_option maxRecDepth 100000 in
set_option maxHeartbeats 1600000 in
theorem lstart_walk (w : World) (bits m : Nat) (h : Wide bits m) (D : Option Addr) (n c k : Nat) (hk : k ≤ n) : Calls Try.prog 209 #[.slice D n c, .int .i64 (k : Int), .int .i64 (bits : Int)] w fun e w' => e = .returned (.bool true) ∧ w' = w := by
  have HR : Hid (∀ w, Calls Try.prog 212 #[.int .i64 (bits : Int)] w fun e w' => e = .returned (.bool true) ∧ w' = w) := fun w => lright_walk w bits m h
  have g1 : decide ((0 : Int) ≤ (k : Int)) = true := decide_eq_true (by omega)
  have g2 : decide ((k : Int) ≤ (n : Int)) = true := decide_eq_true (by omega)
  have g3 : (0 : Int) ≤ (k : Int) := by omega
  have g4 : (k : Int) ≤ (n : Int) := by omega
  go_enter Try.func209, Try.ntmps209
  go_wp2_with fail
  refine (HR.out _).mono ?_
  rintro e w5 ⟨rfl, rfl⟩
  go_wp2_with fail
  go_ret
  exact ⟨rfl, rfl⟩

set_option maxRecDepth 100000 in
set_option maxHeartbeats 1600000 in
theorem lgroup_walk (w : World) (bits m : Nat) (h : Wide bits m) (D : Option Addr) (c k : Nat) (bs : List UInt8) (S : Nat → Prop) (hr : Reads w S 1 D bs.length (u8s bs)) (hk : k ≤ bs.length) (hcap : bs.length ≤ c) (hsh : bs.length ≤ 1000000) :
    Calls Try.prog 210 #[.slice D bs.length c, .int .i64 (k : Int), .int .i64 (bits : Int)] w fun e w' => e = .returned (grpV D c k (grpN m (bs.drop k) 0)) ∧ w' = w := by
  have HM : Hid (∀ w, Calls Try.prog 213 #[.int .i64 (bits : Int)] w fun e w' => e = .returned (.int .i64 (m : Int)) ∧ w' = w) := fun w => lmost_walk w bits m h
  have hm : m ≤ 10 := by rcases h with ⟨_, rfl⟩ | ⟨_, rfl⟩ <;> decide
  have hw0 := IntWalk.i64_in ((bs.length : Int) - (k : Int)) (by omega)
  go_enter Try.func210, Try.ntmps210
  go_wp2_with fail
  go_loopw [8] (fun iv wr => ∃ (j : Nat), j ≤ m ∧ iv = .int .i64 ((j : Int) + 1) ∧ Hid (grpN (m - j) (bs.drop (k + j)) j = grpN m (bs.drop k) 0) ∧ wr = w) (fun iv _ => m + 1 - (intOf iv).toNat)
  case atStart => exact ⟨0, by omega, rfl, by rw [Hid, Nat.sub_zero, Nat.add_zero], rfl⟩
  case round =>
    obtain ⟨j, hj, rfl, HG, rfl⟩ := hrel
    go_wp2_with fail
    refine (HM.out _).mono ?_
    rintro e w5 ⟨rfl, hw5⟩
    obtain rfl : wr = w5 := hw5.symm
    by_cases hlt : j < m
    · have g1 : (j : Int) + 1 ≤ (m : Int) := by omega
      by_cases hend : k + j < bs.length
      · have g2 : ¬ (bs.length : Int) - (k : Int) < (j : Int) + 1 := by omega
        have hw1 : IntKind.i64.wrap ((k : Int) + ((j : Int) + 1)) = (k : Int) + ((j : Int) + 1) := by rw [IntKind.wrap_i64]; omega
        have hw2 : IntKind.i64.wrap ((k : Int) + ((j : Int) + 1) - 1) = ((k + j : Nat) : Int) := by rw [IntKind.wrap_i64]; omega
        have hw3 : IntKind.i64.wrap ((j : Int) + 1 + 1) = (j : Int) + 1 + 1 := by rw [IntKind.wrap_i64]; omega
        obtain ⟨ad, u, hD, _, hbl, hu, hc⟩ := hr.at_ hend
        rw [u8s_get bs _ hend] at hu
        injection hu with hu
        subst hu
        subst hD
        have HG2 : Hid (grpN m (bs.drop k) 0 = if bs[k + j].toNat < 128 then (j + 1, 0) else grpN (m - (j + 1)) (bs.drop (k + (j + 1))) (j + 1)) := by
          rw [Hid, ← HG.out, List.drop_eq_getElem_cons hend, show m - j = (m - (j + 1)) + 1 by omega, grpN]
          rfl
        clear HG
        have hb256 := UInt8.toNat_lt bs[k + j]
        generalize bs[k + j].toNat = b at *
        have g4 : ((k + j : Nat) : Int) < (bs.length : Int) := by omega
        by_cases hb : b < 128
        · have g3 : (b : Int) < 128 := by omega
          have hsl := slice_lhn (P := Try.prog) E_u8 (some ad) bs.length c .i64 .i64 (k : Int) ((k : Int) + ((j : Int) + 1)) k (k + (j + 1)) (j + 1) (c - k) rfl (by omega) (by omega) (by omega) (by omega) rfl
          rw [if_pos hb] at HG2
          go_wp2_with fail
          go_ret2
          exact ⟨by rw [HG2.out]; rfl, rfl⟩
        · have g3 : ¬ (b : Int) < 128 := by omega
          rw [if_neg hb] at HG2
          go_wp2_with fail
          exact ⟨⟨j + 1, by omega, by rw [Int.natCast_add]; rfl, Lib.hid HG2.out.symm, trivial⟩, by rw [show intOf (.int .i64 ((j : Int) + 1 + 1)) = ((j + 2 : Nat) : Int) from rfl, show intOf (.int .i64 ((j : Int) + 1)) = ((j + 1 : Nat) : Int) from rfl]; omega⟩
      · have g2 : (bs.length : Int) - (k : Int) < (j : Int) + 1 := by omega
        have HG2 : Hid (grpN m (bs.drop k) 0 = (0, 2)) := by
          rw [Hid, ← HG.out, List.drop_eq_nil_of_le (by omega), show m - j = (m - (j + 1)) + 1 by omega, grpN]
        clear HG
        go_wp2_with fail
        go_ret2
        exact ⟨by rw [HG2.out]; rfl, rfl⟩
    · obtain rfl : j = m := by omega
      have g1 : ¬ (j : Int) + 1 ≤ (j : Int) := by omega
      have HG2 : Hid (grpN j (bs.drop k) 0 = (0, 3)) := by rw [Hid, ← HG.out, Nat.sub_self, grpN]
      clear HG
      go_wp2_with fail
      go_ret2
      exact ⟨by rw [HG2.out]; rfl, rfl⟩
end Go.Proofs.Ytfemeendkjcffaa
/-! leb: ReadUint of 32 bits. -/
namespace Go.Proofs.Ytfemeendkjcffaa
open Go.RowKit

/-- The number of 32 bits that bytes begin with, how many they are, the error's number. -/
def rdU (t : List UInt8) : Nat × Nat × Nat :=
  if (grpN 5 t 0).2 = 0 then (if (grpN 5 t 0).1 = 5 ∧ 16 ≤ (t.getD 4 0).toNat then (0, 0, 3) else (valL (t.take (grpN 5 t 0).1), (grpN 5 t 0).1, 0)) else (0, 0, (grpN 5 t 0).2)
def rdV (k : Nat) (r : Nat × Nat × Nat) : Value := if r.2.2 = 0 then .tuple #[.int .u64 (r.1 : Int), .int .i64 ((k : Int) + (r.2.1 : Int)), .int .i64 0] else .tuple #[.int .u64 0, .int .i64 0, .int .i64 (r.2.2 : Int)]

theorem and127n (b : Nat) (h : b < 256) : bits .and .u8 (b : Int) 127 = ((b % 128 : Nat) : Int) := by
  refine (u8_and_nat b 127 h (by decide)).trans ?_
  rw [nat_mask7]
theorem or_join (v x i : Nat) (hv : v < 128 ^ i) (hx : x < 128) (hi : i < 5) : bits .or .u64 (v : Int) ((x : Int) * 128 ^ i) = ((v + x * 128 ^ i : Nat) : Int) := by
  rw [show (x : Int) * 128 ^ i = ((x * 128 ^ i : Nat) : Int) by simp]
  have h5 : i = 0 ∨ i = 1 ∨ i = 2 ∨ i = 3 ∨ i = 4 := by omega
  have hb : x * 128 ^ i < 18446744073709551616 ∧ 128 ^ i < 18446744073709551616 := by
    rcases h5 with rfl | rfl | rfl | rfl | rfl <;> simp <;> omega
  rw [u64_or_nat v (x * 128 ^ i) (by omega) hb.1, Nat.or_comm, nat_join (7 * i) _ _ (by rw [Nat.pow_mul]; exact Nat.mul_mod_left _ _) (by rw [Nat.pow_mul]; exact hv), Nat.add_comm]
theorem shl_join (x i : Nat) (hx : x < 128) (hi : i < 5) : IntKind.u64.wrap ((x : Int) * 2 ^ (7 * (i : Int)).toNat) = (x : Int) * 128 ^ i := by
  have h5 : i = 0 ∨ i = 1 ∨ i = 2 ∨ i = 3 ∨ i = 4 := by omega
  rw [IntKind.wrap_u64]
  rcases h5 with rfl | rfl | rfl | rfl | rfl <;> simp <;> omega

set_option maxRecDepth 100000 in
set_option maxHeartbeats 1600000 in
theorem readuint_walk (w : World) (D : Option Addr) (c k : Nat) (bs : List UInt8) (S : Nat → Prop) (hr : Reads w S 1 D bs.length (u8s bs)) (hk : k ≤ bs.length) (hcap : bs.length ≤ c) (hsh : bs.length ≤ 1000000) :
    Calls Try.prog 208 #[.slice D bs.length c, .int .i64 (k : Int), .int .i64 32] w fun e w' => e = .returned (rdV k (rdU (bs.drop k))) ∧ w' = w := by
  have hwd : Wide 32 5 := .inl ⟨rfl, rfl⟩
  have HS : Hid (∀ w, Calls Try.prog 209 #[.slice D bs.length c, .int .i64 (k : Int), .int .i64 32] w fun e w' => e = .returned (.bool true) ∧ w' = w) := fun w => lstart_walk w 32 5 hwd D bs.length c k hk
  have HG : Hid (Calls Try.prog 210 #[.slice D bs.length c, .int .i64 (k : Int), .int .i64 32] w fun e w' => e = .returned (grpV D c k (grpN 5 (bs.drop k) 0)) ∧ w' = w) := lgroup_walk w 32 5 hwd D c k bs S hr hk hcap hsh
  have HL := Lib.hid (grpN_le 5 (bs.drop k) 0)
  by_cases h0 : (grpN 5 (bs.drop k) 0).2 = 0
  · obtain ⟨l1, l2, l3⟩ := HL.out h0
    have hrt := (hr.cut hk hcap).take (k := (grpN 5 (bs.drop k) 0).1) (by rw [List.length_drop] at l3; omega)
    rw [Nat.mul_one, Nat.mul_one, ← u8s_drop, ← u8s_take] at hrt
    rw [grpV, if_pos h0] at HG
    have HF : Hid (rdU (bs.drop k) = if (grpN 5 (bs.drop k) 0).1 = 5 ∧ 16 ≤ ((bs.drop k).getD 4 0).toNat then (0, 0, 3) else (valL ((bs.drop k).take (grpN 5 (bs.drop k) 0).1), (grpN 5 (bs.drop k) 0).1, 0)) := by rw [Hid, rdU, if_pos h0]
    obtain ⟨n, hn⟩ : ∃ n, n = (grpN 5 (bs.drop k) 0).1 := ⟨_, rfl⟩
    rw [← hn] at hrt HG HF l1 l2 l3
    rw [Nat.zero_add] at l2 l3
    have hGl : ((bs.drop k).take n).length = n := by rw [List.length_take]; exact Nat.min_eq_left l3
    have HQ : Hid (n = 5 → (bs.drop k).getD 4 0 = ((bs.drop k).take n).getD 4 0) := fun h5 => by
      subst h5
      rw [List.getD_eq_getElem?_getD, List.getD_eq_getElem?_getD, List.getElem?_take, if_pos (by decide)]
    rw [List.length_drop] at l3
    obtain ⟨G, hG⟩ : ∃ G, G = (bs.drop k).take n := ⟨_, rfl⟩
    rw [← hG] at hrt hGl HF HQ
    obtain ⟨A, hA⟩ : ∃ A, A = cutA D c k 1 := ⟨_, rfl⟩
    replace hrt : Reads w S 1 (cutA D c k 1) n (u8s G) := by unfold cutA; rw [Nat.mul_one]; exact hrt
    rw [← hA] at hrt HG
    clear hG hA HL h0 hn hr
    have hwe : IntKind.i64.wrap ((k : Int) + (n : Int)) = (k : Int) + (n : Int) := by rw [IntKind.wrap_i64]; omega
    go_enter Try.func208, Try.ntmps208
    go_wp2_with fail
    refine (HS.out _).mono ?_
    rintro e w5 ⟨rfl, hw5⟩
    obtain rfl : w5 = w := hw5
    go_wp2_with fail
    refine HG.out.mono ?_
    rintro e w6 ⟨rfl, hw6⟩
    obtain rfl : w6 = w5 := hw6
    go_wp2_with fail
    go_loopw [11, 32] (fun vv iv wr => ∃ (i : Nat), i ≤ n ∧ vv = .int .u64 (valL (G.take i) : Int) ∧ iv = .int .i64 (i : Int) ∧ wr = w6) (fun _ iv _ => n + 1 - (intOf iv).toNat)
    case atStart => exact ⟨0, by omega, by simp [valL], rfl, rfl⟩
    case round =>
      obtain ⟨i, hi, rfl, rfl, rfl⟩ := hrel
      by_cases hlt : i < n
      · have g1 : (i : Int) < (n : Int) := by omega
        have hw1 := IntWalk.i64_in ((i : Int) + 1) (by omega)
        have hw2 := IntWalk.i64_in (7 * (i : Int)) (by omega)
        have hw3 := IntWalk.u64_in (7 * (i : Int)) (by omega)
        obtain ⟨ad, u, hAd, _, hbl, hu, hc⟩ := hrt.at_ hlt
        rw [u8s_get G _ (by omega)] at hu
        injection hu with hu
        subst hu
        subst hAd
        have HV := Lib.hid (valL_take G i (by omega))
        have hvl := valL_lt (G.take i)
        rw [List.length_take, Nat.min_eq_left (by omega)] at hvl
        have hb256 := UInt8.toNat_lt G[i]
        generalize G[i].toNat = b at *
        have hand := and127n b (by omega)
        have hx : b % 128 < 128 := Nat.mod_lt _ (by decide)
        obtain ⟨x, hxe⟩ : ∃ x, x = b % 128 := ⟨_, rfl⟩
        rw [← hxe] at hand hx HV
        clear hxe
        have hw4 := IntWalk.u64_in (x : Int) (by omega)
        have hshl := shl_join x i hx (by omega)
        have hor := or_join (valL (G.take i)) x i hvl hx (by omega)
        rw [← HV.out] at hor
        obtain ⟨V, hV⟩ : ∃ V, V = valL (G.take i) := ⟨_, rfl⟩
        rw [← hV] at hor ⊢
        clear hV HV hvl
        go_wp2_with fail
        exact ⟨⟨i + 1, by omega, by first | rfl | rw [hor], by rw [Int.natCast_add]; rfl, trivial⟩, by rw [show intOf (.int .i64 ((i : Int) + 1)) = ((i + 1 : Nat) : Int) from rfl, show intOf (.int .i64 (i : Int)) = (i : Int) from rfl]; omega⟩
      · obtain rfl : i = n := by omega
        rw [show G.take i = G by rw [← hGl]; exact List.take_length]
        clear hlt hi
        have hvl := valL_lt G
        have hv64 : valL G < 18446744073709551616 := by
          rw [hGl] at hvl
          exact Nat.lt_of_lt_of_le hvl (Nat.le_trans (Nat.pow_le_pow_right (by decide) l2) (by decide))
        obtain ⟨V, hV⟩ : ∃ V, V = valL G := ⟨_, rfl⟩
        rw [← hV] at HF hv64 ⊢
        clear hV hvl
        by_cases h5 : i = 5
        · obtain ⟨ad, u, hAd, _, hbl, hu, hc⟩ := hrt.at_ (k := 4) (by omega)
          rw [u8s_get G _ (by omega)] at hu
          injection hu with hu
          subst hu
          subst hAd
          have hq : (bs.drop k).getD 4 0 = G[4] := by
            rw [HQ.out h5, List.getD_eq_getElem?_getD, List.getElem?_eq_getElem (by omega)]
            rfl
          rw [hq] at HF
          have hb256 := UInt8.toNat_lt G[4]
          generalize G[4].toNat = b at *
          clear HQ hq
          subst h5
          have hc2 := hc
          simp [Addr.add] at hc2
          have e5 : (7 * ((5 : Nat) : Int) - 32) = 3 := by decide
          by_cases hb : 16 ≤ b
          · have hB : ((b : Int) / 16 != 0) = true := bne_iff_ne.2 (by omega)
            go_wp2_with fail
            refine bodyPost_ret (v := .tuple #[.int .u64 0, .int .i64 0, .int .i64 3]) (by simp [results, Try.results208, go_sem]) rfl ?_
            rw [HF.out]
            simp [rdV, hb]
          · have hB : ((b : Int) / 16 != 0) = false := by rw [bne_eq_false_iff_eq]; omega
            go_wp2_with fail
            refine bodyPost_ret (v := .tuple #[.int .u64 (V : Int), .int .i64 ((k : Int) + 5), .int .i64 0]) (by simp [results, Try.results208, go_sem]) rfl ?_
            exact ⟨by rw [HF.out, if_neg (fun h => hb h.2)]; rfl, rfl⟩
        · have g2 : decide ((0 : Int) < 7 * (i : Int) - 32) = false := decide_eq_false (by omega)
          have g3 : ¬ (0 : Int) < 7 * (i : Int) - 32 := by omega
          have hw2 := IntWalk.i64_in (7 * (i : Int)) (by omega)
          have hw3 := IntWalk.i64_in (7 * (i : Int) - 32) (by omega)
          go_wp2_with fail
          refine bodyPost_ret (v := .tuple #[.int .u64 (V : Int), .int .i64 ((k : Int) + (i : Int)), .int .i64 0]) (by simp [results, Try.results208, go_sem]) rfl ?_
          exact ⟨by rw [HF.out, if_neg (fun h => h5 h.1)]; rfl, rfl⟩
  · have HF : Hid (rdU (bs.drop k) = (0, 0, (grpN 5 (bs.drop k) 0).2)) := by rw [Hid, rdU, if_neg h0]
    rw [grpV, if_neg h0] at HG
    obtain ⟨f, hf⟩ : ∃ f : Int, f = ((grpN 5 (bs.drop k) 0).2 : Nat) := ⟨_, rfl⟩
    rw [← hf] at HG
    have hne : (f != 0) = true := bne_iff_ne.2 (by omega)
    have hne2 : ¬ f = 0 := by omega
    have HE : Hid (rdV k (0, 0, (grpN 5 (bs.drop k) 0).2) = .tuple #[.int .u64 0, .int .i64 0, .int .i64 f]) := by rw [Hid, rdV, if_neg (by omega), hf]
    clear hf HL h0 hr
    go_enter Try.func208, Try.ntmps208
    go_wp2_with fail
    refine (HS.out _).mono ?_
    rintro e w5 ⟨rfl, hw5⟩
    obtain rfl : w5 = w := hw5
    go_wp2_with fail
    refine HG.out.mono ?_
    rintro e w6 ⟨rfl, hw6⟩
    obtain rfl : w6 = w5 := hw6
    go_wp2_with fail
    refine bodyPost_ret (v := .tuple #[.int .u64 0, .int .i64 0, .int .i64 f]) (by simp [results, Try.results208, go_sem]) rfl ?_
    exact ⟨by rw [HF.out, HE.out], rfl⟩
end Go.Proofs.Ytfemeendkjcffaa
/-! leb: ReadInt of 32 and of 64 bits. -/
namespace Go.Proofs.Ytfemeendkjcffaa
open Go.RowKit

/-- The number with a sign that V is in n groups. -/
def sgnN (n V : Nat) : Int := if n = 10 then wrap64 (V : Int) else if 2 * V < 128 ^ n then (V : Int) else (V : Int) - 128 ^ n
def rdS (m d mx : Nat) (t : List UInt8) : Int × Nat × Nat :=
  if (grpN m t 0).2 = 0 then (if (grpN m t 0).1 = m ∧ ¬ ((t.getD (m - 1) 0).toNat / d = 0 ∨ (t.getD (m - 1) 0).toNat / d = mx) then (0, 0, 3) else (sgnN (grpN m t 0).1 (valL (t.take (grpN m t 0).1)), (grpN m t 0).1, 0)) else (0, 0, (grpN m t 0).2)
def rsV (k : Nat) (r : Int × Nat × Nat) : Value := if r.2.2 = 0 then .tuple #[.int .i64 r.1, .int .i64 ((k : Int) + (r.2.1 : Int)), .int .i64 0] else .tuple #[.int .i64 0, .int .i64 0, .int .i64 (r.2.2 : Int)]

theorem ten_cases {i : Nat} (hi : i < 10) : i = 0 ∨ i = 1 ∨ i = 2 ∨ i = 3 ∨ i = 4 ∨ i = 5 ∨ i = 6 ∨ i = 7 ∨ i = 8 ∨ i = 9 := by omega
theorem or_i64 (A B : Nat) (hA : A < 9223372036854775808) : bits .or .i64 (A : Int) (wrap64 (B : Int)) = wrap64 ((A ||| B % 18446744073709551616 : Nat) : Int) := by
  show IntKind.i64.wrap ((BitVec.ofInt 64 (A : Int) ||| BitVec.ofInt 64 (wrap64 (B : Int))).toNat : Int) = _
  have h1 : (BitVec.ofInt 64 (A : Int)).toNat = A := ofInt_u64 A (by omega)
  have h2 : (BitVec.ofInt 64 (wrap64 (B : Int))).toNat = B % 18446744073709551616 := by
    rw [BitVec.toNat_ofInt]
    unfold wrap64
    omega
  rw [BitVec.toNat_or, h1, h2, IntKind.wrap_i64]
  unfold wrap64
  omega
theorem or_joini (v x i : Nat) (hv : v < 128 ^ i) (hx : x < 128) (hi : i < 10) : bits .or .i64 (v : Int) (wrap64 ((x : Int) * 128 ^ i)) = wrap64 ((v + x * 128 ^ i : Nat) : Int) := by
  have hv63 : v < 9223372036854775808 := by
    rcases ten_cases hi with rfl | rfl | rfl | rfl | rfl | rfl | rfl | rfl | rfl | rfl <;> simp at hv <;> omega
  rw [show (x : Int) * 128 ^ i = ((x * 128 ^ i : Nat) : Int) by simp, or_i64 v _ hv63]
  have hd : x * 128 ^ i % 18446744073709551616 % 2 ^ (7 * i) = 0 := by
    rw [Nat.pow_mul]
    have h64 : (18446744073709551616 : Nat) = 128 ^ i * (18446744073709551616 / 128 ^ i) := by
      rcases ten_cases hi with rfl | rfl | rfl | rfl | rfl | rfl | rfl | rfl | rfl | rfl <;> decide
    rw [h64, Nat.mod_mul_right_mod]
    exact Nat.mul_mod_left _ _
  rw [Nat.or_comm, nat_join (7 * i) _ _ hd (by rw [Nat.pow_mul]; exact hv), Nat.add_comm]
  unfold wrap64
  omega
theorem shl_joini (x i : Nat) (hi : i < 10) : IntKind.i64.wrap ((x : Int) * 2 ^ (7 * (i : Int)).toNat) = wrap64 ((x : Int) * 128 ^ i) := by
  rw [IntKind.wrap_i64]
  rcases ten_cases hi with rfl | rfl | rfl | rfl | rfl | rfl | rfl | rfl | rfl | rfl <;> simp [wrap64]
theorem wrap_small (l : List UInt8) (n : Nat) (hl : l.length = n) (hn : n < 10) : wrap64 (valL l : Int) = (valL l : Int) := by
  have h := valL_lt l
  rw [hl] at h
  unfold wrap64
  rcases ten_cases hn with rfl | rfl | rfl | rfl | rfl | rfl | rfl | rfl | rfl | rfl <;> simp at h <;> omega
theorem sgn_shift (V n : Nat) (h0 : 0 < n) (hn : n < 10) (hV : V < 128 ^ n) : wrap64 ((V : Int) * 2 ^ (64 - 7 * n)) / 2 ^ (64 - 7 * n) = sgnN n V := by
  rw [sgnN, if_neg (by omega)]
  unfold wrap64
  rcases ten_cases hn with rfl | rfl | rfl | rfl | rfl | rfl | rfl | rfl | rfl | rfl <;> simp at hV h0 ⊢ <;> (try split) <;> omega

set_option maxRecDepth 100000 in
set_option maxHeartbeats 3200000 in
theorem readint32_walk (w : World) (D : Option Addr) (c k : Nat) (bs : List UInt8) (S : Nat → Prop) (hr : Reads w S 1 D bs.length (u8s bs)) (hk : k ≤ bs.length) (hcap : bs.length ≤ c) (hsh : bs.length ≤ 1000000) :
    Calls Try.prog 203 #[.slice D bs.length c, .int .i64 (k : Int), .int .i64 32] w fun e w' => e = .returned (rsV k (rdS 5 8 15 (bs.drop k))) ∧ w' = w := by
  have hwd : Wide 32 5 := .inl ⟨rfl, rfl⟩
  have HS : Hid (∀ w, Calls Try.prog 209 #[.slice D bs.length c, .int .i64 (k : Int), .int .i64 32] w fun e w' => e = .returned (.bool true) ∧ w' = w) := fun w => lstart_walk w 32 5 hwd D bs.length c k hk
  have HG : Hid (Calls Try.prog 210 #[.slice D bs.length c, .int .i64 (k : Int), .int .i64 32] w fun e w' => e = .returned (grpV D c k (grpN 5 (bs.drop k) 0)) ∧ w' = w) := lgroup_walk w 32 5 hwd D c k bs S hr hk hcap hsh
  have HL := Lib.hid (grpN_le 5 (bs.drop k) 0)
  by_cases h0 : (grpN 5 (bs.drop k) 0).2 = 0
  · obtain ⟨l1, l2, l3⟩ := HL.out h0
    have hrt := (hr.cut hk hcap).take (k := (grpN 5 (bs.drop k) 0).1) (by rw [List.length_drop] at l3; omega)
    rw [Nat.mul_one, Nat.mul_one, ← u8s_drop, ← u8s_take] at hrt
    rw [grpV, if_pos h0] at HG
    have HF : Hid (rdS 5 8 15 (bs.drop k) = if (grpN 5 (bs.drop k) 0).1 = 5 ∧ ¬ (((bs.drop k).getD (5 - 1) 0).toNat / 8 = 0 ∨ ((bs.drop k).getD (5 - 1) 0).toNat / 8 = 15) then (0, 0, 3) else (sgnN (grpN 5 (bs.drop k) 0).1 (valL ((bs.drop k).take (grpN 5 (bs.drop k) 0).1)), (grpN 5 (bs.drop k) 0).1, 0)) := by rw [Hid, rdS, if_pos h0]
    obtain ⟨n, hn⟩ : ∃ n, n = (grpN 5 (bs.drop k) 0).1 := ⟨_, rfl⟩
    rw [← hn] at hrt HG HF l1 l2 l3
    rw [Nat.zero_add] at l2 l3
    have hGl : ((bs.drop k).take n).length = n := by rw [List.length_take]; exact Nat.min_eq_left l3
    have HQ : Hid (n = 5 → (bs.drop k).getD (5 - 1) 0 = ((bs.drop k).take n).getD (5 - 1) 0) := fun h5 => by
      subst h5
      rw [List.getD_eq_getElem?_getD, List.getD_eq_getElem?_getD, List.getElem?_take, if_pos (by decide)]
    rw [List.length_drop] at l3
    obtain ⟨G, hG⟩ : ∃ G, G = (bs.drop k).take n := ⟨_, rfl⟩
    rw [← hG] at hrt hGl HF HQ
    obtain ⟨A, hA⟩ : ∃ A, A = cutA D c k 1 := ⟨_, rfl⟩
    replace hrt : Reads w S 1 (cutA D c k 1) n (u8s G) := by unfold cutA; rw [Nat.mul_one]; exact hrt
    rw [← hA] at hrt HG
    clear hG hA HL h0 hn hr
    have hwe : IntKind.i64.wrap ((k : Int) + (n : Int)) = (k : Int) + (n : Int) := by rw [IntKind.wrap_i64]; omega
    have hwn : IntKind.i64.wrap ((n : Int) - 1) = ((n - 1 : Nat) : Int) := by rw [IntKind.wrap_i64]; omega
    obtain ⟨ad, u, hAd, _, hbl, hu, hcl⟩ := hrt.at_ (k := n - 1) (by omega)
    rw [u8s_get G _ (by omega)] at hu
    injection hu with hu
    subst hu
    subst hAd
    have HQ2 : Hid (n = 5 → (bs.drop k).getD (5 - 1) 0 = G[n - 1]) := fun h5 => by
      rw [HQ.out h5, List.getD_eq_getElem?_getD]
      subst h5
      rw [List.getElem?_eq_getElem (by omega)]
      rfl
    have hb256 := UInt8.toNat_lt G[n - 1]
    have HQ3 : Hid (n = 5 → ((bs.drop k).getD (5 - 1) 0).toNat = G[n - 1].toNat) := fun h5 => by rw [HQ2.out h5]
    clear HQ HQ2
    obtain ⟨q, hq⟩ : ∃ q, q = G[n - 1].toNat := ⟨_, rfl⟩
    rw [← hq] at HQ3 hcl hb256
    clear hq
    go_enter Try.func203, Try.ntmps203
    go_wp2_with fail
    refine (HS.out _).mono ?_
    rintro e w5 ⟨rfl, hw5⟩
    obtain rfl : w5 = w := hw5
    go_wp2_with fail
    refine HG.out.mono ?_
    rintro e w6 ⟨rfl, hw6⟩
    obtain rfl : w6 = w5 := hw6
    go_wp2_with fail
    go_loopw [11, 35] (fun vv iv wr => ∃ (i : Nat), i ≤ n ∧ vv = .int .i64 (wrap64 (valL (G.take i) : Int)) ∧ iv = .int .i64 (i : Int) ∧ wr = w6) (fun _ iv _ => n + 1 - (intOf iv).toNat)
    case atStart => exact ⟨0, by omega, by simp [valL, wrap64], rfl, rfl⟩
    case round =>
      obtain ⟨i, hi, rfl, rfl, rfl⟩ := hrel
      by_cases hlt : i < n
      · have g1 : (i : Int) < (n : Int) := by omega
        have hw1 := IntWalk.i64_in ((i : Int) + 1) (by omega)
        have hw2 := IntWalk.i64_in (7 * (i : Int)) (by omega)
        have hw3 := IntWalk.u64_in (7 * (i : Int)) (by omega)
        obtain ⟨ad2, u, hAd, _, _, hu, hc⟩ := hrt.at_ hlt
        rw [u8s_get G _ (by omega)] at hu
        injection hu with hu
        subst hu
        injection hAd with hAd
        subst hAd
        have HV := Lib.hid (valL_take G i (by omega))
        have hGt : (G.take i).length = i := by rw [List.length_take]; omega
        have hvl := valL_lt (G.take i)
        rw [hGt] at hvl
        rw [wrap_small (G.take i) i hGt (by omega)]
        have hb2 := UInt8.toNat_lt G[i]
        generalize G[i].toNat = b at *
        have hand := and127n b (by omega)
        have hx : b % 128 < 128 := Nat.mod_lt _ (by decide)
        obtain ⟨x, hxe⟩ : ∃ x, x = b % 128 := ⟨_, rfl⟩
        rw [← hxe] at hand hx HV
        clear hxe
        have hw4 := IntWalk.i64_in (x : Int) (by omega)
        have hshl := shl_joini x i (by omega)
        have hor := or_joini (valL (G.take i)) x i hvl hx (by omega)
        rw [← HV.out] at hor
        obtain ⟨Z, hZ⟩ : ∃ Z, Z = wrap64 ((x : Int) * 128 ^ i) := ⟨_, rfl⟩
        rw [← hZ] at hshl hor
        clear hZ
        obtain ⟨V, hV⟩ : ∃ V, V = valL (G.take i) := ⟨_, rfl⟩
        rw [← hV] at hor ⊢
        clear hV HV hvl
        obtain ⟨Y, hY⟩ : ∃ Y, Y = wrap64 (valL (G.take (i + 1)) : Int) := ⟨_, rfl⟩
        rw [← hY] at hor
        go_wp2_with fail
        exact ⟨⟨i + 1, by omega, by first | rfl | rw [hY], by rw [Int.natCast_add]; rfl, trivial⟩, by rw [show intOf (.int .i64 ((i : Int) + 1)) = ((i + 1 : Nat) : Int) from rfl, show intOf (.int .i64 (i : Int)) = (i : Int) from rfl]; omega⟩
      · obtain rfl : i = n := by omega
        rw [show G.take i = G by rw [← hGl]; exact List.take_length]
        clear hlt hi
        have hvl := valL_lt G
        rw [hGl] at hvl
        have hw2 := IntWalk.i64_in (7 * (i : Int)) (by omega)
        have hw3 : IntKind.i64.wrap (7 * (i : Int) - 32) = 7 * (i : Int) - 32 := by rw [IntKind.wrap_i64]; omega
        have g0 : (0 : Int) ≤ (i : Int) - 1 := by omega
        by_cases h10 : i < 10
        · rw [wrap_small G i hGl h10]
          have hs := sgn_shift (valL G) i l1 h10 hvl
          obtain ⟨V, hV⟩ : ∃ V, V = valL G := ⟨_, rfl⟩
          rw [← hV] at HF hs hvl ⊢
          clear hV hvl
          obtain ⟨R, hR⟩ : ∃ R, R = sgnN i V := ⟨_, rfl⟩
          rw [← hR] at HF hs
          clear hR
          have hw4 := IntWalk.i64_in (64 - 7 * (i : Int)) (by omega)
          have hw5 := IntWalk.u64_in (64 - 7 * (i : Int)) (by omega)
          have g4 : 7 * (i : Int) < 64 := by omega
          by_cases h5 : i = 5
          · rw [HQ3.out h5] at HF
            clear HQ3
            subst h5
            simp at hs
            simp [Addr.add] at hcl
            by_cases hb0 : q / 8 = 0
            · have hB1 : ((q : Int) / 8 != 0) = false := by rw [bne_eq_false_iff_eq]; omega
              go_wp2_with fail
              refine bodyPost_ret (v := .tuple #[.int .i64 R, .int .i64 ((k : Int) + 5), .int .i64 0]) (by simp [results, Try.results203, go_sem, hs]) rfl ?_
              exact ⟨by rw [HF.out, if_neg (fun h => h.2 (.inl hb0))]; rfl, by first | rfl | trivial⟩
            · have hB1 : ((q : Int) / 8 != 0) = true := bne_iff_ne.2 (by omega)
              by_cases hb1 : q / 8 = 15
              · have hB2 : ((q : Int) / 8 != 15) = false := by rw [bne_eq_false_iff_eq]; omega
                go_wp2_with fail
                refine bodyPost_ret (v := .tuple #[.int .i64 R, .int .i64 ((k : Int) + 5), .int .i64 0]) (by simp [results, Try.results203, go_sem, hs]) rfl ?_
                exact ⟨by rw [HF.out, if_neg (fun h => h.2 (.inr hb1))]; rfl, by first | rfl | trivial⟩
              · have hB2 : ((q : Int) / 8 != 15) = true := bne_iff_ne.2 (by omega)
                go_wp2_with fail
                refine bodyPost_ret (v := .tuple #[.int .i64 0, .int .i64 0, .int .i64 3]) (by simp [results, Try.results203, go_sem]) rfl ?_
                rw [HF.out]
                simp [rsV, hb0, hb1]
          · have g2 : decide ((0 : Int) < 7 * (i : Int) - 32) = false := decide_eq_false (by omega)
            have g3 : ¬ (0 : Int) < 7 * (i : Int) - 32 := by omega
            go_wp2_with fail
            refine bodyPost_ret (v := .tuple #[.int .i64 R, .int .i64 ((k : Int) + (i : Int)), .int .i64 0]) (by simp [results, Try.results203, go_sem, hs]) rfl ?_
            exact ⟨by rw [HF.out, if_neg (fun h => h5 h.1)]; rfl, by first | rfl | trivial⟩
        · exact absurd l2 (by omega)
  · have HF : Hid (rdS 5 8 15 (bs.drop k) = (0, 0, (grpN 5 (bs.drop k) 0).2)) := by rw [Hid, rdS, if_neg h0]
    rw [grpV, if_neg h0] at HG
    obtain ⟨f, hf⟩ : ∃ f : Int, f = ((grpN 5 (bs.drop k) 0).2 : Nat) := ⟨_, rfl⟩
    rw [← hf] at HG
    have hne : (f != 0) = true := bne_iff_ne.2 (by omega)
    have hne2 : ¬ f = 0 := by omega
    have HE : Hid (rsV k (0, 0, (grpN 5 (bs.drop k) 0).2) = .tuple #[.int .i64 0, .int .i64 0, .int .i64 f]) := by rw [Hid, rsV, if_neg (by omega), hf]
    clear hf HL h0 hr
    go_enter Try.func203, Try.ntmps203
    go_wp2_with fail
    refine (HS.out _).mono ?_
    rintro e w5 ⟨rfl, hw5⟩
    obtain rfl : w5 = w := hw5
    go_wp2_with fail
    refine HG.out.mono ?_
    rintro e w6 ⟨rfl, hw6⟩
    obtain rfl : w6 = w5 := hw6
    go_wp2_with fail
    refine bodyPost_ret (v := .tuple #[.int .i64 0, .int .i64 0, .int .i64 f]) (by simp [results, Try.results203, go_sem]) rfl ?_
    exact ⟨by rw [HF.out, HE.out], rfl⟩

set_option maxRecDepth 100000 in
set_option maxHeartbeats 3200000 in
theorem readint64_walk (w : World) (D : Option Addr) (c k : Nat) (bs : List UInt8) (S : Nat → Prop) (hr : Reads w S 1 D bs.length (u8s bs)) (hk : k ≤ bs.length) (hcap : bs.length ≤ c) (hsh : bs.length ≤ 1000000) :
    Calls Try.prog 203 #[.slice D bs.length c, .int .i64 (k : Int), .int .i64 64] w fun e w' => e = .returned (rsV k (rdS 10 1 127 (bs.drop k))) ∧ w' = w := by
  have hwd : Wide 64 10 := .inr ⟨rfl, rfl⟩
  have HS : Hid (∀ w, Calls Try.prog 209 #[.slice D bs.length c, .int .i64 (k : Int), .int .i64 64] w fun e w' => e = .returned (.bool true) ∧ w' = w) := fun w => lstart_walk w 64 10 hwd D bs.length c k hk
  have HG : Hid (Calls Try.prog 210 #[.slice D bs.length c, .int .i64 (k : Int), .int .i64 64] w fun e w' => e = .returned (grpV D c k (grpN 10 (bs.drop k) 0)) ∧ w' = w) := lgroup_walk w 64 10 hwd D c k bs S hr hk hcap hsh
  have HL := Lib.hid (grpN_le 10 (bs.drop k) 0)
  by_cases h0 : (grpN 10 (bs.drop k) 0).2 = 0
  · obtain ⟨l1, l2, l3⟩ := HL.out h0
    have hrt := (hr.cut hk hcap).take (k := (grpN 10 (bs.drop k) 0).1) (by rw [List.length_drop] at l3; omega)
    rw [Nat.mul_one, Nat.mul_one, ← u8s_drop, ← u8s_take] at hrt
    rw [grpV, if_pos h0] at HG
    have HF : Hid (rdS 10 1 127 (bs.drop k) = if (grpN 10 (bs.drop k) 0).1 = 10 ∧ ¬ (((bs.drop k).getD (10 - 1) 0).toNat / 1 = 0 ∨ ((bs.drop k).getD (10 - 1) 0).toNat / 1 = 127) then (0, 0, 3) else (sgnN (grpN 10 (bs.drop k) 0).1 (valL ((bs.drop k).take (grpN 10 (bs.drop k) 0).1)), (grpN 10 (bs.drop k) 0).1, 0)) := by rw [Hid, rdS, if_pos h0]
    obtain ⟨n, hn⟩ : ∃ n, n = (grpN 10 (bs.drop k) 0).1 := ⟨_, rfl⟩
    rw [← hn] at hrt HG HF l1 l2 l3
    rw [Nat.zero_add] at l2 l3
    have hGl : ((bs.drop k).take n).length = n := by rw [List.length_take]; exact Nat.min_eq_left l3
    have HQ : Hid (n = 10 → (bs.drop k).getD (10 - 1) 0 = ((bs.drop k).take n).getD (10 - 1) 0) := fun h5 => by
      subst h5
      rw [List.getD_eq_getElem?_getD, List.getD_eq_getElem?_getD, List.getElem?_take, if_pos (by decide)]
    rw [List.length_drop] at l3
    obtain ⟨G, hG⟩ : ∃ G, G = (bs.drop k).take n := ⟨_, rfl⟩
    rw [← hG] at hrt hGl HF HQ
    obtain ⟨A, hA⟩ : ∃ A, A = cutA D c k 1 := ⟨_, rfl⟩
    replace hrt : Reads w S 1 (cutA D c k 1) n (u8s G) := by unfold cutA; rw [Nat.mul_one]; exact hrt
    rw [← hA] at hrt HG
    clear hG hA HL h0 hn hr
    have hwe : IntKind.i64.wrap ((k : Int) + (n : Int)) = (k : Int) + (n : Int) := by rw [IntKind.wrap_i64]; omega
    have hwn : IntKind.i64.wrap ((n : Int) - 1) = ((n - 1 : Nat) : Int) := by rw [IntKind.wrap_i64]; omega
    obtain ⟨ad, u, hAd, _, hbl, hu, hcl⟩ := hrt.at_ (k := n - 1) (by omega)
    rw [u8s_get G _ (by omega)] at hu
    injection hu with hu
    subst hu
    subst hAd
    have HQ2 : Hid (n = 10 → (bs.drop k).getD (10 - 1) 0 = G[n - 1]) := fun h5 => by
      rw [HQ.out h5, List.getD_eq_getElem?_getD]
      subst h5
      rw [List.getElem?_eq_getElem (by omega)]
      rfl
    have hb256 := UInt8.toNat_lt G[n - 1]
    have HQ3 : Hid (n = 10 → ((bs.drop k).getD (10 - 1) 0).toNat = G[n - 1].toNat) := fun h5 => by rw [HQ2.out h5]
    clear HQ HQ2
    obtain ⟨q, hq⟩ : ∃ q, q = G[n - 1].toNat := ⟨_, rfl⟩
    rw [← hq] at HQ3 hcl hb256
    clear hq
    go_enter Try.func203, Try.ntmps203
    go_wp2_with fail
    refine (HS.out _).mono ?_
    rintro e w5 ⟨rfl, hw5⟩
    obtain rfl : w5 = w := hw5
    go_wp2_with fail
    refine HG.out.mono ?_
    rintro e w6 ⟨rfl, hw6⟩
    obtain rfl : w6 = w5 := hw6
    go_wp2_with fail
    go_loopw [11, 35] (fun vv iv wr => ∃ (i : Nat), i ≤ n ∧ vv = .int .i64 (wrap64 (valL (G.take i) : Int)) ∧ iv = .int .i64 (i : Int) ∧ wr = w6) (fun _ iv _ => n + 1 - (intOf iv).toNat)
    case atStart => exact ⟨0, by omega, by simp [valL, wrap64], rfl, rfl⟩
    case round =>
      obtain ⟨i, hi, rfl, rfl, rfl⟩ := hrel
      by_cases hlt : i < n
      · have g1 : (i : Int) < (n : Int) := by omega
        have hw1 := IntWalk.i64_in ((i : Int) + 1) (by omega)
        have hw2 := IntWalk.i64_in (7 * (i : Int)) (by omega)
        have hw3 := IntWalk.u64_in (7 * (i : Int)) (by omega)
        obtain ⟨ad2, u, hAd, _, _, hu, hc⟩ := hrt.at_ hlt
        rw [u8s_get G _ (by omega)] at hu
        injection hu with hu
        subst hu
        injection hAd with hAd
        subst hAd
        have HV := Lib.hid (valL_take G i (by omega))
        have hGt : (G.take i).length = i := by rw [List.length_take]; omega
        have hvl := valL_lt (G.take i)
        rw [hGt] at hvl
        rw [wrap_small (G.take i) i hGt (by omega)]
        have hb2 := UInt8.toNat_lt G[i]
        generalize G[i].toNat = b at *
        have hand := and127n b (by omega)
        have hx : b % 128 < 128 := Nat.mod_lt _ (by decide)
        obtain ⟨x, hxe⟩ : ∃ x, x = b % 128 := ⟨_, rfl⟩
        rw [← hxe] at hand hx HV
        clear hxe
        have hw4 := IntWalk.i64_in (x : Int) (by omega)
        have hshl := shl_joini x i (by omega)
        have hor := or_joini (valL (G.take i)) x i hvl hx (by omega)
        rw [← HV.out] at hor
        obtain ⟨Z, hZ⟩ : ∃ Z, Z = wrap64 ((x : Int) * 128 ^ i) := ⟨_, rfl⟩
        rw [← hZ] at hshl hor
        clear hZ
        obtain ⟨V, hV⟩ : ∃ V, V = valL (G.take i) := ⟨_, rfl⟩
        rw [← hV] at hor ⊢
        clear hV HV hvl
        obtain ⟨Y, hY⟩ : ∃ Y, Y = wrap64 (valL (G.take (i + 1)) : Int) := ⟨_, rfl⟩
        rw [← hY] at hor
        go_wp2_with fail
        exact ⟨⟨i + 1, by omega, by first | rfl | rw [hY], by rw [Int.natCast_add]; rfl, trivial⟩, by rw [show intOf (.int .i64 ((i : Int) + 1)) = ((i + 1 : Nat) : Int) from rfl, show intOf (.int .i64 (i : Int)) = (i : Int) from rfl]; omega⟩
      · obtain rfl : i = n := by omega
        rw [show G.take i = G by rw [← hGl]; exact List.take_length]
        clear hlt hi
        have hvl := valL_lt G
        rw [hGl] at hvl
        have hw2 := IntWalk.i64_in (7 * (i : Int)) (by omega)
        have hw3 : IntKind.i64.wrap (7 * (i : Int) - 64) = 7 * (i : Int) - 64 := by rw [IntKind.wrap_i64]; omega
        have g0 : (0 : Int) ≤ (i : Int) - 1 := by omega
        by_cases h10 : i < 10
        · rw [wrap_small G i hGl h10]
          have hs := sgn_shift (valL G) i l1 h10 hvl
          obtain ⟨V, hV⟩ : ∃ V, V = valL G := ⟨_, rfl⟩
          rw [← hV] at HF hs hvl ⊢
          clear hV hvl
          obtain ⟨R, hR⟩ : ∃ R, R = sgnN i V := ⟨_, rfl⟩
          rw [← hR] at HF hs
          clear hR
          have hw4 := IntWalk.i64_in (64 - 7 * (i : Int)) (by omega)
          have hw5 := IntWalk.u64_in (64 - 7 * (i : Int)) (by omega)
          have g4 : 7 * (i : Int) < 64 := by omega
          have g2 : decide ((0 : Int) < 7 * (i : Int) - 64) = false := decide_eq_false (by omega)
          have g3 : ¬ (0 : Int) < 7 * (i : Int) - 64 := by omega
          go_wp2_with fail
          refine bodyPost_ret (v := .tuple #[.int .i64 R, .int .i64 ((k : Int) + (i : Int)), .int .i64 0]) (by simp [results, Try.results203, go_sem, hs]) rfl ?_
          exact ⟨by rw [HF.out, if_neg (fun h => by omega)]; rfl, by first | rfl | trivial⟩
        · obtain rfl : i = 10 := by omega
          rw [HQ3.out rfl] at HF
          clear HQ3
          have HS2 : Hid (sgnN 10 (valL G) = wrap64 (valL G : Int)) := by rw [Hid, sgnN, if_pos rfl]
          rw [HS2.out] at HF
          obtain ⟨R, hR⟩ : ∃ R, R = wrap64 (valL G : Int) := ⟨_, rfl⟩
          rw [← hR] at HF ⊢
          clear hR HS2
          simp [Addr.add] at hcl
          by_cases hb0 : q = 0
          · have hB1 : ((q : Int) != 0) = false := by rw [bne_eq_false_iff_eq]; omega
            go_wp2_with fail
            refine bodyPost_ret (v := .tuple #[.int .i64 R, .int .i64 ((k : Int) + 10), .int .i64 0]) (by simp [results, Try.results203, go_sem]) rfl ?_
            exact ⟨by rw [HF.out, if_neg (fun h => h.2 (.inl (by omega)))]; rfl, by first | rfl | trivial⟩
          · have hB1 : ((q : Int) != 0) = true := bne_iff_ne.2 (by omega)
            by_cases hb1 : q = 127
            · have hB2 : ((q : Int) != 127) = false := by rw [bne_eq_false_iff_eq]; omega
              go_wp2_with fail
              refine bodyPost_ret (v := .tuple #[.int .i64 R, .int .i64 ((k : Int) + 10), .int .i64 0]) (by simp [results, Try.results203, go_sem]) rfl ?_
              exact ⟨by rw [HF.out, if_neg (fun h => h.2 (.inr (by omega)))]; rfl, by first | rfl | trivial⟩
            · have hB2 : ((q : Int) != 127) = true := bne_iff_ne.2 (by omega)
              go_wp2_with fail
              refine bodyPost_ret (v := .tuple #[.int .i64 0, .int .i64 0, .int .i64 3]) (by simp [results, Try.results203, go_sem]) rfl ?_
              rw [HF.out]
              simp [rsV, hb0, hb1]
  · have HF : Hid (rdS 10 1 127 (bs.drop k) = (0, 0, (grpN 10 (bs.drop k) 0).2)) := by rw [Hid, rdS, if_neg h0]
    rw [grpV, if_neg h0] at HG
    obtain ⟨f, hf⟩ : ∃ f : Int, f = ((grpN 10 (bs.drop k) 0).2 : Nat) := ⟨_, rfl⟩
    rw [← hf] at HG
    have hne : (f != 0) = true := bne_iff_ne.2 (by omega)
    have hne2 : ¬ f = 0 := by omega
    have HE : Hid (rsV k (0, 0, (grpN 10 (bs.drop k) 0).2) = .tuple #[.int .i64 0, .int .i64 0, .int .i64 f]) := by rw [Hid, rsV, if_neg (by omega), hf]
    clear hf HL h0 hr
    go_enter Try.func203, Try.ntmps203
    go_wp2_with fail
    refine (HS.out _).mono ?_
    rintro e w5 ⟨rfl, hw5⟩
    obtain rfl : w5 = w := hw5
    go_wp2_with fail
    refine HG.out.mono ?_
    rintro e w6 ⟨rfl, hw6⟩
    obtain rfl : w6 = w5 := hw6
    go_wp2_with fail
    refine bodyPost_ret (v := .tuple #[.int .i64 0, .int .i64 0, .int .i64 f]) (by simp [results, Try.results203, go_sem]) rfl ?_
    exact ⟨by rw [HF.out, HE.out], rfl⟩
end Go.Proofs.Ytfemeendkjcffaa
/-! leb: what was written is read back. -/
namespace Go.Proofs.Ytfemeendkjcffaa
open Go.RowKit

theorem getD_app (l m : List UInt8) (i : Nat) (h : i < l.length) : (l ++ m).getD i 0 = l.getD i 0 := by rw [List.getD_eq_getElem?_getD, List.getD_eq_getElem?_getD, List.getElem?_append_left h]

theorem grp_uint : ∀ (m f v j : Nat) (rest : List UInt8), 0 < m → m ≤ f → v < 128 ^ m →
    grpN m (uintL f v ++ rest) j = (j + (uintL f v).length, 0) ∧ 0 < (uintL f v).length ∧ (uintL f v).length ≤ m ∧ valL (uintL f v) = v ∧ ∀ i, i + 1 = (uintL f v).length → ((uintL f v).getD i 0).toNat < 128
  | 0, _, _, _, _, h, _, _ => absurd h (by decide)
  | m + 1, 0, _, _, _, _, h, _ => absurd h (by omega)
  | m + 1, f + 1, v, j, rest, _, hf, hv => by
    rw [uintL]
    split
    · rename_i hlt
      refine ⟨?_, by simp, by simp, ?_, ?_⟩
      · rw [List.singleton_append, grpN, if_pos (by simp; omega)]
        rfl
      · simp [valL]; omega
      · intro i hi
        obtain rfl : i = 0 := by simpa using hi
        simp; omega
    · rename_i hge
      have hm : 0 < m := by
        rcases Nat.eq_zero_or_pos m with rfl | h
        · simp at hv; omega
        · exact h
      have hv2 : v / 128 < 128 ^ m := by
        rw [Nat.pow_succ] at hv
        exact Nat.div_lt_of_lt_mul (by rw [Nat.mul_comm]; exact hv)
      obtain ⟨h1, h2, h3, h4, h5⟩ := grp_uint m f (v / 128) (j + 1) rest hm (by omega) hv2
      refine ⟨?_, by simp, by simp; omega, ?_, ?_⟩
      · rw [List.cons_append, grpN, if_neg (by simp; omega), h1, List.length_cons]
        simp; omega
      · rw [valL, h4]; simp; omega
      · intro i hi
        cases i with
        | zero => rw [List.length_cons] at hi; omega
        | succ i => rw [List.getD_cons_succ]; exact h5 i (by rw [List.length_cons] at hi; omega)
theorem grpN_take (l rest : List UInt8) : (l ++ rest).take l.length = l := List.take_left
theorem valL_last (l : List UInt8) (p : Nat) (h : p + 1 = l.length) : valL l = valL (l.take p) + (l.getD p 0).toNat % 128 * 128 ^ p ∧ valL (l.take p) < 128 ^ p := by
  have h1 := valL_take l p (by omega)
  have h2 := valL_lt (l.take p)
  rw [List.length_take, Nat.min_eq_left (by omega)] at h2
  rw [show p + 1 = l.length from h, List.take_length] at h1
  refine ⟨?_, h2⟩
  rw [h1, List.getD_eq_getElem?_getD, List.getElem?_eq_getElem (by omega)]
  rfl

theorem rdU_back (v : Nat) (rest : List UInt8) (hv : v < 4294967296) : rdU (uintF v ++ rest) = (v, (uintF v).length, 0) ∧ 0 < (uintF v).length ∧ (uintF v).length ≤ 5 := by
  obtain ⟨h1, h2, h3, h4, h5⟩ := grp_uint 5 10 v 0 rest (by decide) (by decide) (by omega)
  have e : uintF v = uintL 10 v := rfl
  rw [e]
  generalize uintL 10 v = l at *
  refine ⟨?_, h2, h3⟩
  rw [rdU, h1, if_pos rfl]
  simp only [Nat.zero_add]
  rw [if_neg, grpN_take, h4]
  rintro ⟨h6, h7⟩
  have h8 := valL_last l 4 (by omega)
  have h9 := h5 4 (by omega)
  rw [getD_app _ _ _ (by omega)] at h7
  rw [h4] at h8
  omega

theorem emod_step (v M : Int) (hM : 0 < M) : v % (128 * M) = v % 128 + 128 * (v / 128 % M) := by
  have h1 : v = (v % 128 + 128 * (v / 128 % M)) + (128 * M) * (v / 128 / M) := by
    have h2 := Int.emod_add_mul_ediv v 128
    have h3 := Int.emod_add_mul_ediv (v / 128) M
    have h4 : (128 * M) * (v / 128 / M) = 128 * (M * (v / 128 / M)) := by rw [Int.mul_assoc]
    omega
  have h5 := Int.emod_nonneg (v / 128) (by omega : M ≠ 0)
  have h6 := Int.emod_lt_of_pos (v / 128) hM
  have h7 : 128 * (v / 128 % M) + 128 ≤ 128 * M := by omega
  generalize hr : v % 128 + 128 * (v / 128 % M) = r at *
  rw [h1, Int.add_mul_emod_self_left]
  exact Int.emod_eq_of_lt (by omega) (by omega)

theorem b8_nat (n : Int) (h0 : 0 ≤ n) (h : n < 256) : ((b8 n).toNat : Int) = n := by
  rw [b8]
  simp
  omega
theorem grp_int : ∀ (m f : Nat) (v : Int) (j : Nat) (rest : List UInt8), m < f → -(64 * 128 ^ m) ≤ v → v < 64 * 128 ^ m →
    ∃ p, (intL f v).length = p + 1 ∧ p ≤ m ∧ grpN (m + 1) (intL f v ++ rest) j = (j + (p + 1), 0) ∧ -(64 * 128 ^ p) ≤ v ∧ v < 64 * 128 ^ p ∧ (valL (intL f v) : Int) = v % 128 ^ (p + 1) ∧ ((intL f v).getD p 0).toNat < 128
  | _, 0, _, _, _, h, _, _ => absurd h (by omega)
  | m, f + 1, v, j, rest, hf, hl, hh => by
    rw [intL]
    split
    · rename_i hs
      have hb := b8_nat (v % 128) (by omega) (by omega)
      refine ⟨0, rfl, by omega, ?_, by simp; omega, by simp; omega, ?_, ?_⟩
      · rw [List.singleton_append, grpN, if_pos (by omega)]
      · simp [valL]; omega
      · simp; omega
    · rename_i hs
      have hm : ∃ m', m = m' + 1 := by
        cases m with
        | zero => simp at hl hh; omega
        | succ m' => exact ⟨m', rfl⟩
      obtain ⟨m', rfl⟩ := hm
      have hpos : (0 : Int) < 128 ^ m' := Int.pow_pos (by decide)
      rw [Int.pow_succ] at hl hh
      generalize hP : (128 : Int) ^ m' = P at *
      obtain ⟨p, h1, h2, h3, h4, h5, h6, h7⟩ := grp_int m' f (v / 128) (j + 1) rest (by omega) (by rw [hP]; omega) (by rw [hP]; omega)
      have hb := b8_nat (v % 128 + 128) (by omega) (by omega)
      have hpp : (0 : Int) < 128 ^ p := Int.pow_pos (by decide)
      refine ⟨p + 1, by rw [List.length_cons, h1], by omega, ?_, ?_, ?_, ?_, ?_⟩
      · rw [List.cons_append, grpN, if_neg (by omega), h3]
        simp; omega
      · rw [Int.pow_succ]; generalize (128 : Int) ^ p = Q at *; omega
      · rw [Int.pow_succ]; generalize (128 : Int) ^ p = Q at *; omega
      · rw [valL, Int.pow_succ, Int.mul_comm, emod_step v _ (by rw [Int.pow_succ]; omega), ← h6]
        omega
      · rw [List.getD_cons_succ]; exact h7

theorem sgn_back (p : Nat) (v : Int) (V : Nat) (hp : p < 10) (hl : -(64 * 128 ^ p) ≤ v) (hh : v < 64 * 128 ^ p) (h64 : -9223372036854775808 ≤ v ∧ v ≤ 9223372036854775807) (hV : (V : Int) = v % 128 ^ (p + 1)) : sgnN (p + 1) V = v := by
  rw [sgnN]
  rcases ten_cases hp with rfl | rfl | rfl | rfl | rfl | rfl | rfl | rfl | rfl | rfl <;> simp at hl hh hV ⊢ <;> (try unfold wrap64) <;> (try split) <;> omega

theorem rdS_back32 (v : Int) (rest : List UInt8) (h : -2147483648 ≤ v ∧ v ≤ 2147483647) : rdS 5 8 15 (intF v ++ rest) = (v, (intF v).length, 0) ∧ 0 < (intF v).length ∧ (intF v).length ≤ 5 := by
  obtain ⟨p, h1, h2, h3, h4, h5, h6, h7⟩ := grp_int 4 10 v 0 rest (by decide) (by omega) (by omega)
  have e : intF v = intL 10 v := rfl
  rw [e]
  generalize intL 10 v = l at *
  refine ⟨?_, by omega, by omega⟩
  rw [rdS, h3, if_pos rfl]
  simp only [Nat.zero_add]
  rw [if_neg, ← h1, grpN_take, h1, sgn_back p v _ (by omega) h4 h5 (by omega) h6]
  rintro ⟨h8, h9⟩
  obtain rfl : p = 4 := by omega
  have h10 := valL_last l 4 (by omega)
  rw [getD_app _ _ _ (by omega)] at h9
  change ¬((l.getD 4 0).toNat / 8 = 0 ∨ (l.getD 4 0).toNat / 8 = 15) at h9
  generalize (l.getD 4 0).toNat = q at h7 h9 h10
  simp at h6 h10
  omega
theorem rdS_back64 (v : Int) (rest : List UInt8) (h : -9223372036854775808 ≤ v ∧ v ≤ 9223372036854775807) : rdS 10 1 127 (intF v ++ rest) = (v, (intF v).length, 0) ∧ 0 < (intF v).length ∧ (intF v).length ≤ 10 := by
  obtain ⟨p, h1, h2, h3, h4, h5, h6, h7⟩ := grp_int 9 10 v 0 rest (by decide) (by omega) (by omega)
  have e : intF v = intL 10 v := rfl
  rw [e]
  generalize intL 10 v = l at *
  refine ⟨?_, by omega, by omega⟩
  rw [rdS, h3, if_pos rfl]
  simp only [Nat.zero_add]
  rw [if_neg, ← h1, grpN_take, h1, sgn_back p v _ (by omega) h4 h5 h h6]
  rintro ⟨h8, h9⟩
  obtain rfl : p = 9 := by omega
  have h10 := valL_last l 9 (by omega)
  rw [getD_app _ _ _ (by omega)] at h9
  change ¬((l.getD 9 0).toNat / 1 = 0 ∨ (l.getD 9 0).toNat / 1 = 127) at h9
  generalize (l.getD 9 0).toNat = q at h7 h9 h10
  simp at h6 h10
  omega
end Go.Proofs.Ytfemeendkjcffaa
