/-
  creelref02: Most, Read: their walks.
-/
import Derived.Test.YtfemeendkjcffaaReF
set_option linter.unusedVariables false
set_option linter.unusedSimpArgs false
namespace Go.Proofs.Ytfemeendkjcffaa
open Go.RowKit

def bls (l : List Bool) : List Value := l.map .bool
theorem bls_append (l m : List Bool) : bls (l ++ m) = bls l ++ bls m := by simp [bls]

set_option maxRecDepth 100000 in
set_option maxHeartbeats 1600000 in
theorem rmost_walk (w : World) (B m : Nat) (hB : Wide B m) : Calls Try.prog 211 #[.int .i64 (B : Int)] w fun e w' => e = .returned (.int .i64 (m : Int)) ∧ w' = w := by
  have g1 : (1 : Int) ≤ (B : Int) := by rcases hB with ⟨rfl, rfl⟩ | ⟨rfl, rfl⟩ <;> decide
  have g2 : (B : Int) ≤ 64 := by rcases hB with ⟨rfl, rfl⟩ | ⟨rfl, rfl⟩ <;> decide
  have g1' : decide ((1 : Int) ≤ (B : Int)) = true := decide_eq_true g1
  have g2' : decide ((B : Int) ≤ 64) = true := decide_eq_true g2
  have hm : ∀ n : Nat, n ≤ m → (7 * n < B ↔ n < m) := fun n hn => by rcases hB with ⟨rfl, rfl⟩ | ⟨rfl, rfl⟩ <;> omega
  have hm9 : m ≤ 10 := by rcases hB with ⟨rfl, rfl⟩ | ⟨rfl, rfl⟩ <;> decide
  have HM := Lib.hid hm
  clear hB hm
  go_enter Try.func211, Try.ntmps211
  go_wp2_with fail
  go_loopw [3] (fun nv wr => ∃ n : Nat, n ≤ m ∧ nv = .int .i64 (n : Int) ∧ wr = w) (fun nv _ => m + 1 - (intOf nv).toNat)
  case atStart => exact ⟨0, by omega, rfl, rfl⟩
  case round =>
    obtain ⟨n, hn, rfl, rfl⟩ := hrel
    have hw7 := IntWalk.i64_in (7 * (n : Int)) (by omega)
    have hw1 := IntWalk.i64_in ((n : Int) + 1) (by omega)
    by_cases hlt : n < m
    · have h7 : 7 * (n : Int) < (B : Int) := by have := (HM.out n hn).2 hlt; omega
      have h7' : decide (7 * (n : Int) < (B : Int)) = true := decide_eq_true h7
      go_wp2_with fail
      go_roundw
      case rel => exact ⟨n + 1, by omega, by rw [Int.natCast_add]; rfl, trivial⟩
      case measure =>
        clear hw1 hw7
        simp [intOf]
        omega
    · have h8 : ¬ 7 * n < B := fun h => hlt ((HM.out n hn).1 h)
      have h7 : ¬ 7 * (n : Int) < (B : Int) := by omega
      have h7' : decide (7 * (n : Int) < (B : Int)) = false := decide_eq_false h7
      obtain rfl : n = m := by omega
      go_wp2_with fail
      go_ret
      exact ⟨rfl, rfl⟩

theorem bit_int (x i : Nat) : (((x : Int) / 2 ^ i).tmod 2 == 1) = x.testBit i := by
  have h1 : (x : Int) / 2 ^ i = ((x / 2 ^ i : Nat) : Int) := by simp
  rw [Nat.testBit_eq_decide_div_mod_eq, h1, Int.tmod_eq_emod_of_nonneg (Int.natCast_nonneg _)]
  rcases Nat.mod_two_eq_zero_or_one (x / 2 ^ i) with h | h
  · have : ((x / 2 ^ i : Nat) : Int) % 2 = 0 := by omega
    rw [this, h]; rfl
  · have : ((x / 2 ^ i : Nat) : Int) % 2 = 1 := by omega
    rw [this, h]; rfl
theorem bitB_take (b : UInt8) (i : Nat) (h : i < 7) : (bitB b).take (i + 1) = (bitB b).take i ++ [b.toNat.testBit i] := by
  rw [List.take_succ_eq_append_getElem (by rw [bitB_len]; exact h)]
  simp [bitB]
/-- Cell i of a row of bits. -/
def CellB (w : World) (g : Nat) (l : List Bool) (i : Nat) : Prop := ∃ x, l[i]? = some x ∧ w.cell? ⟨g, i, none⟩ = some (.bool x) ∧ g < w.heap.size
theorem CellB.trans' {w w' : World} {g : Nat} {l : List Bool} {i : Nat} (h : CellB w g l i) (hs : Step (fun _ => False) w w') : CellB w' g l i := by
  obtain ⟨x, h1, h2, h3⟩ := h
  exact ⟨x, h1, (hs.cell h3 id).trans h2, Nat.lt_of_lt_of_le h3 hs.size⟩
def rrQ (k : Nat) (r : Nat × Nat × Nat) : Value := if r.2.2 = 0 then .tuple #[.int .u64 (r.1 : Int), .int .i64 ((k : Int) + (r.2.1 : Int)), .int .i64 0] else .tuple #[.int .u64 0, .int .i64 0, .int .i64 (r.2.2 : Int)]

set_option maxRecDepth 100000 in
set_option maxHeartbeats 6400000 in
theorem rread_walk (w : World) (D : Option Addr) (c k : Nat) (bs : List UInt8) (S : Nat → Prop) (hr : Reads w S 1 D bs.length (u8s bs)) (hk : k ≤ bs.length) (hsh : bs.length ≤ 1000000) (B m : Nat) (sg : Bool) (hB : Wide B m) :
    Calls Try.prog 204 #[.slice D bs.length c, .int .i64 (k : Int), .int .i64 (B : Int), .bool sg] w fun e w' => e = .returned (rrQ k (rrF B m sg (bs.drop k))) ∧ Step (fun _ => False) w w' := by
  have HMs := Lib.hid (fun w => rmost_walk w B m hB)
  have g1 : ¬ (B : Int) < 1 := by rcases hB with ⟨rfl, rfl⟩ | ⟨rfl, rfl⟩ <;> decide
  have g2 : ¬ (64 : Int) < (B : Int) := by rcases hB with ⟨rfl, rfl⟩ | ⟨rfl, rfl⟩ <;> decide
  have g1' : decide ((B : Int) < 1) = false := decide_eq_false g1
  have g2' : decide ((64 : Int) < (B : Int)) = false := decide_eq_false g2
  have g3' : decide ((k : Int) < 0) = false := decide_eq_false (by omega)
  have g4' : decide ((bs.length : Int) < (k : Int)) = false := decide_eq_false (by omega)
  have hm9 : m ≤ 10 := by rcases hB with ⟨rfl, rfl⟩ | ⟨rfl, rfl⟩ <;> decide
  have hB64 : B ≤ 64 := by rcases hB with ⟨rfl, rfl⟩ | ⟨rfl, rfl⟩ <;> decide
  have HR := Lib.hid hr
  obtain ⟨RR, hRR⟩ : ∃ RR, RR = rrF B m sg (bs.drop k) := ⟨_, rfl⟩
  rw [← hRR]
  have HRR := Lib.hid hRR
  clear hr hRR hB
  go_enter Try.func204, Try.ntmps204
  go_wp2_with fail
  go_loopw [11, 12] (fun lv nv wr => ∃ (n c2 : Nat) (D2 : Option Addr), n ≤ m ∧ k + n ≤ bs.length ∧ lv = .slice D2 (bitsL ((bs.drop k).take n)).length c2 ∧ nv = .int .i64 (n : Int) ∧ Hid (grpN m (bs.drop k) 0 = grpN (m - n) (bs.drop (k + n)) n) ∧ Hid (Step (fun _ => False) w wr) ∧
    Hid (wr.ownsRow w.heap.size 4 1 (.slice D2 (bitsL ((bs.drop k).take n)).length c2) (bitsL ((bs.drop k).take n)).length (bls (bitsL ((bs.drop k).take n))))) (fun _ nv _ => m + 1 - (intOf nv).toNat)
  case atStart => exact ⟨0, 0, none, by omega, by omega, rfl, rfl, rfl, Step.refl, World.ownsRow_nil _ _ _ _⟩
  case round =>
    obtain ⟨n, c2, D2, hn, hkn, rfl, rfl, HG, HS, HO⟩ := hrel
    go_wp2_with fail
    refine (HMs.out _).mono ?_
    rintro e wS ⟨rfl, hwS⟩
    subst wS
    by_cases hnm : n < m
    rotate_left
    · have hge : (m : Int) ≤ (n : Int) := by omega
      have hQ : Hid (RR = (0, 0, 3)) := by
        have h1 := HG.out
        rw [show m - n = 0 by omega, grpN] at h1
        rw [Hid, HRR.out, rrF, h1]
        rfl
      go_wp2_with fail
      refine bodyPost_ret (v := .tuple #[.int .u64 0, .int .i64 0, .int .i64 3]) (by simp [results, Try.results204, go_sem]) rfl ?_
      rw [hQ.out]
      exact ⟨rfl, HS.out⟩
    have hge : ¬ (m : Int) ≤ (n : Int) := by omega
    by_cases hkl : k + n < bs.length
    rotate_left
    · have hg5 : (bs.length : Int) ≤ (k : Int) + (n : Int) := by omega
      have hw5 := IntWalk.i64_in ((k : Int) + (n : Int)) (by omega)
      have hQ : Hid (RR = (0, 0, 2)) := by
        have h1 := HG.out
        rw [show m - n = (m - n - 1) + 1 by omega, List.drop_eq_nil_of_le (show bs.length ≤ k + n by omega), grpN] at h1
        rw [Hid, HRR.out, rrF, h1]
        rfl
      go_wp2_with fail
      refine bodyPost_ret (v := .tuple #[.int .u64 0, .int .i64 0, .int .i64 2]) (by simp [results, Try.results204, go_sem]) rfl ?_
      rw [hQ.out]
      exact ⟨rfl, HS.out⟩
    have hg5 : ¬ (bs.length : Int) ≤ (k : Int) + (n : Int) := by omega
    have hg6 : (k : Int) + (n : Int) < (bs.length : Int) := by omega
    have hg7 : (0 : Int) ≤ (k : Int) + (n : Int) := by omega
    have hw5 := IntWalk.i64_in ((k : Int) + (n : Int)) (by omega)
    have hw6 := IntWalk.i64_in ((n : Int) + 1) (by omega)
    obtain ⟨ad, u, hD, _, hbl, hu, hc⟩ := (HR.out.step HS.out (fun _ _ => id)).at_ hkl
    rw [u8s_get bs (k + n) hkl] at hu
    injection hu with hu
    subst hu
    subst hD
    have hdk : (bs.drop k).take (n + 1) = (bs.drop k).take n ++ [bs[k + n]] := by
      rw [List.take_succ_eq_append_getElem (by rw [List.length_drop]; omega), List.getElem_drop]
    have hdd : bs.drop (k + n) = bs[k + n] :: bs.drop (k + (n + 1)) := List.drop_eq_getElem_cons hkl
    have HBL : Hid (bitsL ((bs.drop k).take (n + 1)) = bitsL ((bs.drop k).take n) ++ bitB bs[k + n]) := by rw [Hid, hdk, bitsL_snoc]
    have HG2 : Hid (grpN m (bs.drop k) 0 = if bs[k + n].toNat < 128 then (n + 1, 0) else grpN (m - (n + 1)) (bs.drop (k + (n + 1))) (n + 1)) := by
      rw [Hid, HG.out, show m - n = (m - (n + 1)) + 1 by omega, hdd, grpN]
    have hbl7 : (bitsL ((bs.drop k).take n)).length ≤ 63 := by rw [bitsL_len, List.length_take]; omega
    obtain ⟨b, hb⟩ : ∃ b, b = bs[k + n] := ⟨_, rfl⟩
    rw [← hb] at hc HBL HG2
    have hb256 : b.toNat < 256 := UInt8.toNat_lt _
    obtain ⟨L, hL⟩ : ∃ L, L = bitsL ((bs.drop k).take n) := ⟨_, rfl⟩
    rw [← hL] at HO HBL hbl7 ⊢
    have hO0 : Hid (wr.ownsRow w.heap.size 4 1 (.slice D2 (L ++ (bitB b).take 0).length c2) (L ++ (bitB b).take 0).length (bls (L ++ (bitB b).take 0))) := by rw [List.take_zero, List.append_nil]; exact HO.out
    clear hb hL hdk hdd HG
    go_wp2_with fail
    go_loopw [11, 14] (fun lv kv wq => ∃ (i c3 : Nat) (D3 : Option Addr), i ≤ 7 ∧ lv = .slice D3 (L ++ (bitB b).take i).length c3 ∧ kv = .int .i64 (i : Int) ∧ Hid (Step (fun _ => False) w wq) ∧
      Hid (wq.ownsRow w.heap.size 4 1 (.slice D3 (L ++ (bitB b).take i).length c3) (L ++ (bitB b).take i).length (bls (L ++ (bitB b).take i)))) (fun _ kv _ => 8 - (intOf kv).toNat)
    case atStart => exact ⟨0, c2, D2, by omega, by rw [List.take_zero, List.append_nil], rfl, HS, hO0⟩
    case round =>
      obtain ⟨i, c3, D3, hi, rfl, rfl, HSi, HOi⟩ := hrel
      have hlen : (L ++ (bitB b).take i).length ≤ 70 := by rw [List.length_append, List.length_take, bitB_len]; omega
      by_cases hlt : i < 7
      · have i7 : (i : Int) < 7 := by omega
        have i0 : (0 : Int) ≤ (i : Int) := by omega
        have hwi := IntWalk.i64_in ((i : Int) + 1) (by omega)
        have hwu := IntWalk.u64_in (i : Int) (by omega)
        have hbv := bit_int b.toNat i
        have HTk : Hid (bls (L ++ (bitB b).take i) ++ #[Value.bool (b.toNat.testBit i)].toList = bls (L ++ (bitB b).take (i + 1))) := by rw [Hid, bitB_take b i hlt, ← List.append_assoc, bls_append (L ++ (bitB b).take i) [b.toNat.testBit i]]; rfl
        have HTl : Hid ((L ++ (bitB b).take i).length + 1 = (L ++ (bitB b).take (i + 1)).length) := by rw [Hid, bitB_take b i hlt, ← List.append_assoc, List.length_append (bs := [_])]; rfl
        obtain ⟨x, hx⟩ : ∃ x, x = b.toNat.testBit i := ⟨_, rfl⟩
        rw [← hx] at hbv HTk
        obtain ⟨T, hT⟩ : ∃ T, T = L ++ (bitB b).take i := ⟨_, rfl⟩
        rw [← hT] at HOi HTk HTl hlen ⊢
        obtain ⟨T2, hT2⟩ : ∃ T2, T2 = L ++ (bitB b).take (i + 1) := ⟨_, rfl⟩
        rw [← hT2] at HTk HTl
        have HT2 := Lib.hid hT2
        have HOa := Lib.hid (HOi.out.alloc (.cells #[.bool x] 4))
        have HSa := Lib.hid (HSi.out.alloc (.cells #[.bool x] 4))
        have hone : ∀ u ∈ #[Value.bool x].toList, u.oneCell' = true := by simp [Value.oneCell']
        have hm : T.length + 1 ≤ maxLen := by unfold maxLen; omega
        have hsz := HSa.out.size
        have hrn := reads_new wr #[Value.bool x] 4 1 1 rfl
        clear hx hT hT2 hO0
        go_wp2_with (at_builtin; refine wpList_append_src _ rfl _ _ (by rfl) E_bool (by rfl) HOa.out (by rfl) hrn hone hm (by omega) hsz ?_; intro D9 c9 w9 hown hgrow hat; rw [HTk.out, HTl.out] at hown; rw [HTl.out])
        have HS9 := Lib.hid (grow_step HSa.out hgrow HOa.out (Nat.le_refl _))
        go_roundw
        have e5 : T2.length = L.length + min (i + 1) (bitB b).length := by rw [HT2.out, List.length_append, List.length_take]
        case rel => exact ⟨i + 1, by omega, c9, D9, ⟨rfl, e5, rfl⟩, by omega, HS9, by rw [← e5, ← HT2.out]; exact hown⟩
        case measure => simp [intOf]; omega
      · obtain rfl : i = 7 := by omega
        have h7 : (bitB b).take 7 = bitB b := by rw [← bitB_len b]; exact List.take_length
        rw [h7] at HOi ⊢
        rw [← HBL.out] at HOi ⊢
        clear h7 hO0
        by_cases hb : b.toNat < 128
        · have hb' : (b.toNat : Int) < 128 := by omega
          have hQ : Hid ((grpN m (bs.drop k) 0) = (n + 1, 0)) := by rw [Hid, HG2.out, if_pos hb]
          have hlen2 : (bitsL ((bs.drop k).take (n + 1))).length = 7 * (n + 1) := by rw [bitsL_len, List.length_take, List.length_drop]; omega
          obtain ⟨l, hl⟩ : ∃ l, l = bitsL ((bs.drop k).take (n + 1)) := ⟨_, rfl⟩
          rw [← hl] at HOi hlen2 ⊢
          have HRq : Hid (RR = if (∀ j, B ≤ j → j < l.length → l[j]? = some (topB l B sg)) then (sumB (gB l B (topB l B sg)) 64, n + 1, 0) else (0, 0, 3)) := by
            rw [Hid, HRR.out, rrF, hQ.out, if_pos rfl, hl]
          clear hQ hl HBL HG2 HRR HMs
          obtain ⟨N, hN⟩ : ∃ N, N = l.length := ⟨_, rfl⟩
          rw [← hN] at HOi hlen2 ⊢
          have HN : Hid (N = l.length) := hN
          have hN70 : 7 ≤ N ∧ N ≤ 70 := by omega
          have HSw := HSi
          have HCl0 : Hid (∀ i, i < N → ∃ x, l[i]? = some x ∧ wr.cell? ((D3.getD ⟨0, 0, none⟩).add i) = some (.bool x) ∧ (D3.getD ⟨0, 0, none⟩).block < wr.heap.size) := fun i hi => by
            obtain ⟨ad, u, e1, _, hgl, hu, hc⟩ := (Reads.of_own HOi.out).at_ (k := i) hi
            subst e1
            rw [bls, List.getElem?_map] at hu
            cases hx : l[i]? with
            | none => rw [hx] at hu; cases hu
            | some x =>
              rw [hx] at hu
              injection hu with hu
              subst hu
              exact ⟨x, rfl, hc, hgl⟩
          obtain ⟨g, hD3⟩ : ∃ g, D3 = some ⟨g, 0, none⟩ := by
            obtain ⟨g, cap, hv, _⟩ := HOi.out.form (by omega)
            injection hv with hv
            exact ⟨g, hv⟩
          subst hD3
          have HCl : Hid (∀ i, i < N → CellB wr g l i) := fun i hi => by
            obtain ⟨x, h1, h2, h3⟩ := HCl0.out i hi
            refine ⟨x, h1, ?_, h3⟩
            have h4 : wr.cell? (Addr.add ⟨g, 0, none⟩ i) = some (.bool x) := h2
            rw [Addr.add_lit, Nat.zero_add] at h4
            exact h4
          clear hN HCl0 hlen2
          obtain ⟨V0, hV0⟩ : ∃ V0 : World, V0 = wr := ⟨_, rfl⟩
          subst hV0
          cases sg
          · have htb : topB l B false = false := rfl
            rw [htb] at HRq
            clear htb
            go_wp2_with fail
            go_loopw [16, 17] (fun vv iv wq => ∃ i : Nat, i ≤ 70 ∧ vv = .int .u64 ((sumB (gB l B false) (min i 64) : Nat) : Int) ∧ iv = .int .i64 (i : Int) ∧ Hid (∀ j, j < i → B ≤ j → j < N → l[j]? = some false) ∧ Hid (Step (fun _ => False) V0 wq)) (fun _ iv _ => 71 - (intOf iv).toNat)
            case atStart => exact ⟨0, by omega, rfl, rfl, (fun j hj => absurd hj (by omega)), Step.refl⟩
            case round =>
              obtain ⟨i, hi, rfl, rfl, HF, HSi0⟩ := hrel
              have HSi : Hid (Step (fun _ => False) w wr) := HSw.out.trans HSi0.out
              obtain ⟨v, hv⟩ : ∃ v, v = sumB (gB l B false) (min i 64) := ⟨_, rfl⟩
              rw [← hv]
              have i0 : (0 : Int) ≤ (i : Int) := by omega
              have hwi := IntWalk.i64_in ((i : Int) + 1) (by omega)
              have hwu := IntWalk.u64_in (i : Int) (by omega)
              by_cases hiM : (i : Int) < max 64 (N : Int)
              · have hiM' : decide ((i : Int) < max 64 (N : Int)) = true := decide_eq_true hiM
                have hi70 : i < 70 := by omega
                by_cases hiN : i < N
                · have hiNi : (i : Int) < (N : Int) := by omega
                  have hiNb : decide ((i : Int) < (N : Int)) = true := decide_eq_true hiNi
                  have hcx := (HCl.out i hiN).trans' HSi0.out
                  obtain ⟨x, hx0, hc3, hg3⟩ := hcx
                  by_cases hBi : B ≤ i
                  · have hBii : (B : Int) ≤ (i : Int) := by omega
                    have hBib : decide ((B : Int) ≤ (i : Int)) = true := decide_eq_true hBii
                    have HG : Hid (gB l B false i = false) := by rw [Hid, gB, if_pos hBi]
                    cases x
                    · have HF2 : Hid (∀ j, j < i + 1 → B ≤ j → j < N → l[j]? = some false) := fun j hj h1 h2 => by
                        rcases Nat.lt_or_ge j i with h3 | h3
                        · exact HF.out j h3 h1 h2
                        · obtain rfl : j = i := by omega
                          exact hx0
                      by_cases h64 : i < 64
                      · have h64i : (i : Int) < 64 := by omega
                        have h64b : decide ((i : Int) < 64) = true := decide_eq_true h64i
                        have HV : Hid ((sumB (gB l B false) (min (i + 1) 64) : Nat) = v) := by
                          rw [Hid, show min (i + 1) 64 = i + 1 by omega, sumB, HG.out, hv, show min i 64 = i by omega]
                          simp
                        clear hv HG
                        go_wp2_with fail
                        go_roundw
                        case rel => exact ⟨i + 1, by omega, by rw [HV.out] <;> first | rfl | rw [Int.natCast_add], by first | rfl | (rw [Int.natCast_add]; done) | (rw [Int.natCast_add]; rfl), HF2.out, HSi0⟩
                        case measure => simp [intOf]; omega
                      · have h64i : ¬ (i : Int) < 64 := by omega
                        have h64b : decide ((i : Int) < 64) = false := decide_eq_false h64i
                        have HV : Hid ((sumB (gB l B false) (min (i + 1) 64) : Nat) = v) := by
                          rw [Hid, show min (i + 1) 64 = 64 by omega, hv, show min i 64 = 64 by omega]
                        clear hv HG
                        go_wp2_with fail
                        go_roundw
                        case rel => exact ⟨i + 1, by omega, by rw [HV.out] <;> first | rfl | rw [Int.natCast_add], by first | rfl | (rw [Int.natCast_add]; done) | (rw [Int.natCast_add]; rfl), HF2.out, HSi0⟩
                        case measure => simp [intOf]; omega
                    · have hQ : Hid (RR = (0, 0, 3)) := by
                        rw [Hid, HRq.out, if_neg]
                        intro h
                        have h9 := h i hBi (by rw [← HN.out]; exact hiN)
                        rw [hx0] at h9
                        cases h9
                      clear hv HG hx0
                      go_wp2_with fail
                      refine bodyPost_ret (v := .tuple #[.int .u64 0, .int .i64 0, .int .i64 3]) (by simp [results, Try.results204, go_sem]) rfl ?_
                      rw [hQ.out]
                      exact ⟨rfl, HSi.out⟩
                  · have hBii : ¬ (B : Int) ≤ (i : Int) := by omega
                    have hBib : decide ((B : Int) ≤ (i : Int)) = false := decide_eq_false hBii
                    have HF2 : Hid (∀ j, j < i + 1 → B ≤ j → j < N → l[j]? = some false) := fun j hj h1 h2 => HF.out j (by omega) h1 h2
                    have HG0 : Hid (gB l B false i = x) := by rw [Hid, gB, if_neg hBi, hx0]; rfl
                    cases x
                    · have HG := HG0
                      by_cases h64 : i < 64
                      · have h64i : (i : Int) < 64 := by omega
                        have h64b : decide ((i : Int) < 64) = true := decide_eq_true h64i
                        have HV : Hid ((sumB (gB l B false) (min (i + 1) 64) : Nat) = v) := by
                          rw [Hid, show min (i + 1) 64 = i + 1 by omega, sumB, HG.out, hv, show min i 64 = i by omega]
                          simp
                        clear hv HG
                        go_wp2_with fail
                        go_roundw
                        case rel => exact ⟨i + 1, by omega, by rw [HV.out] <;> first | rfl | rw [Int.natCast_add], by first | rfl | (rw [Int.natCast_add]; done) | (rw [Int.natCast_add]; rfl), HF2.out, HSi0⟩
                        case measure => simp [intOf]; omega
                      · have h64i : ¬ (i : Int) < 64 := by omega
                        have h64b : decide ((i : Int) < 64) = false := decide_eq_false h64i
                        have HV : Hid ((sumB (gB l B false) (min (i + 1) 64) : Nat) = v) := by
                          rw [Hid, show min (i + 1) 64 = 64 by omega, hv, show min i 64 = 64 by omega]
                        clear hv HG
                        go_wp2_with fail
                        go_roundw
                        case rel => exact ⟨i + 1, by omega, by rw [HV.out] <;> first | rfl | rw [Int.natCast_add], by first | rfl | (rw [Int.natCast_add]; done) | (rw [Int.natCast_add]; rfl), HF2.out, HSi0⟩
                        case measure => simp [intOf]; omega
                    · have HG := HG0
                      by_cases h64 : i < 64
                      · have h64i : (i : Int) < 64 := by omega
                        have h64b : decide ((i : Int) < 64) = true := decide_eq_true h64i
                        have HV : Hid ((sumB (gB l B false) (min (i + 1) 64) : Nat) = v + 2 ^ i) := by
                          rw [Hid, show min (i + 1) 64 = i + 1 by omega, sumB, HG.out, hv, show min i 64 = i by omega]
                          simp
                        have hpw : (2 : Nat) ^ i ≤ 2 ^ 63 := Nat.pow_le_pow_right (by decide) (by omega)
                        have h63 : (2 : Nat) ^ 63 = 9223372036854775808 := rfl
                        have hvl : v < 2 ^ i := by rw [hv, show min i 64 = i by omega]; exact sumB_lt _ _
                        have hsh : IntKind.u64.wrap ((2 : Int) ^ i) = ((2 ^ i : Nat) : Int) := by
                          rw [show ((2 : Int) ^ i) = ((2 ^ i : Nat) : Int) by simp]
                          exact IntWalk.u64_in _ (by omega)
                        have had : IntKind.u64.wrap ((v : Int) + ((2 ^ i : Nat) : Int)) = ((v + 2 ^ i : Nat) : Int) := by rw [← Int.natCast_add]; exact IntWalk.u64_in _ (by omega)
                        obtain ⟨Q, hQ⟩ : ∃ Q, Q = 2 ^ i := ⟨_, rfl⟩
                        rw [← hQ] at hsh had HV
                        clear hpw h63 hvl hQ
                        clear hv HG
                        go_wp2_with fail
                        go_roundw
                        case rel => exact ⟨i + 1, by omega, by rw [HV.out] <;> first | rfl | rw [Int.natCast_add], by first | rfl | (rw [Int.natCast_add]; done) | (rw [Int.natCast_add]; rfl), HF2.out, HSi0⟩
                        case measure => simp [intOf]; omega
                      · have h64i : ¬ (i : Int) < 64 := by omega
                        have h64b : decide ((i : Int) < 64) = false := decide_eq_false h64i
                        have HV : Hid ((sumB (gB l B false) (min (i + 1) 64) : Nat) = v) := by
                          rw [Hid, show min (i + 1) 64 = 64 by omega, hv, show min i 64 = 64 by omega]
                        clear hv HG
                        go_wp2_with fail
                        go_roundw
                        case rel => exact ⟨i + 1, by omega, by rw [HV.out] <;> first | rfl | rw [Int.natCast_add], by first | rfl | (rw [Int.natCast_add]; done) | (rw [Int.natCast_add]; rfl), HF2.out, HSi0⟩
                        case measure => simp [intOf]; omega
                · have hiNi : ¬ (i : Int) < (N : Int) := by omega
                  have hiNb : decide ((i : Int) < (N : Int)) = false := decide_eq_false hiNi
                  have HF2 : Hid (∀ j, j < i + 1 → B ≤ j → j < N → l[j]? = some false) := fun j hj h1 h2 => HF.out j (by omega) h1 h2
                  have HG : Hid (gB l B false i = false) := by
                    rw [Hid, gB]
                    split
                    · rfl
                    · rw [List.getElem?_eq_none (by rw [← HN.out]; omega)]
                      rfl
                  by_cases hBi : B ≤ i
                  · have hBii : (B : Int) ≤ (i : Int) := by omega
                    have hBib : decide ((B : Int) ≤ (i : Int)) = true := decide_eq_true hBii
                    by_cases h64 : i < 64
                    · have h64i : (i : Int) < 64 := by omega
                      have h64b : decide ((i : Int) < 64) = true := decide_eq_true h64i
                      have HV : Hid ((sumB (gB l B false) (min (i + 1) 64) : Nat) = v) := by
                        rw [Hid, show min (i + 1) 64 = i + 1 by omega, sumB, HG.out, hv, show min i 64 = i by omega]
                        simp
                      clear hv HG
                      go_wp2_with fail
                      go_roundw
                      case rel => exact ⟨i + 1, by omega, by rw [HV.out] <;> first | rfl | rw [Int.natCast_add], by first | rfl | (rw [Int.natCast_add]; done) | (rw [Int.natCast_add]; rfl), HF2.out, HSi0⟩
                      case measure => simp [intOf]; omega
                    · have h64i : ¬ (i : Int) < 64 := by omega
                      have h64b : decide ((i : Int) < 64) = false := decide_eq_false h64i
                      have HV : Hid ((sumB (gB l B false) (min (i + 1) 64) : Nat) = v) := by
                        rw [Hid, show min (i + 1) 64 = 64 by omega, hv, show min i 64 = 64 by omega]
                      clear hv HG
                      go_wp2_with fail
                      go_roundw
                      case rel => exact ⟨i + 1, by omega, by rw [HV.out] <;> first | rfl | rw [Int.natCast_add], by first | rfl | (rw [Int.natCast_add]; done) | (rw [Int.natCast_add]; rfl), HF2.out, HSi0⟩
                      case measure => simp [intOf]; omega
                  · have hBii : ¬ (B : Int) ≤ (i : Int) := by omega
                    have hBib : decide ((B : Int) ≤ (i : Int)) = false := decide_eq_false hBii
                    by_cases h64 : i < 64
                    · have h64i : (i : Int) < 64 := by omega
                      have h64b : decide ((i : Int) < 64) = true := decide_eq_true h64i
                      have HV : Hid ((sumB (gB l B false) (min (i + 1) 64) : Nat) = v) := by
                        rw [Hid, show min (i + 1) 64 = i + 1 by omega, sumB, HG.out, hv, show min i 64 = i by omega]
                        simp
                      clear hv HG
                      go_wp2_with fail
                      go_roundw
                      case rel => exact ⟨i + 1, by omega, by rw [HV.out] <;> first | rfl | rw [Int.natCast_add], by first | rfl | (rw [Int.natCast_add]; done) | (rw [Int.natCast_add]; rfl), HF2.out, HSi0⟩
                      case measure => simp [intOf]; omega
                    · have h64i : ¬ (i : Int) < 64 := by omega
                      have h64b : decide ((i : Int) < 64) = false := decide_eq_false h64i
                      have HV : Hid ((sumB (gB l B false) (min (i + 1) 64) : Nat) = v) := by
                        rw [Hid, show min (i + 1) 64 = 64 by omega, hv, show min i 64 = 64 by omega]
                      clear hv HG
                      go_wp2_with fail
                      go_roundw
                      case rel => exact ⟨i + 1, by omega, by rw [HV.out] <;> first | rfl | rw [Int.natCast_add], by first | rfl | (rw [Int.natCast_add]; done) | (rw [Int.natCast_add]; rfl), HF2.out, HSi0⟩
                      case measure => simp [intOf]; omega
              · have hiM' : decide ((i : Int) < max 64 (N : Int)) = false := decide_eq_false hiM
                have hi64 : min i 64 = 64 := by omega
                rw [hi64] at hv
                have hQ : Hid (RR = (v, n + 1, 0)) := by
                  rw [Hid, HRq.out, if_pos (fun j h1 h2 => HF.out j (by rw [← HN.out] at h2; omega) h1 (by rw [← HN.out] at h2; exact h2)), hv]
                have hwk := IntWalk.i64_in ((k : Int) + ((n : Int) + 1)) (by omega)
                clear hv
                go_wp2_with fail
                refine bodyPost_ret (v := .tuple #[.int .u64 (v : Int), .int .i64 ((k : Int) + ((n : Int) + 1)), .int .i64 0]) (by simp [results, Try.results204, go_sem]) rfl ?_
                rw [hQ.out]
                exact ⟨by rw [rrQ, if_pos rfl, Int.natCast_add]; rfl, HSi.out⟩
          · obtain ⟨p, hp⟩ : ∃ p, p = min B N - 1 := ⟨_, rfl⟩
            have hpt : (min (B : Int) (N : Int) - 1).toNat = p := by omega
            have hp0 : (0 : Int) ≤ min (B : Int) (N : Int) - 1 := by omega
            have hp1 : min (B : Int) (N : Int) - 1 < (N : Int) := by omega
            have hpN : p < N := by omega
            obtain ⟨x, hx0, hcp, hgp⟩ := HCl.out p hpN
            have htb : topB l B true = x := by rw [topB, Bool.true_and, ← HN.out, ← hp, hx0]; rfl
            rw [htb] at HRq
            clear htb hp hx0
            cases x
            · go_wp2_with fail
              clear hpt hp0 hp1 hcp hgp hpN
              go_loopw [16, 17] (fun vv iv wq => ∃ i : Nat, i ≤ 70 ∧ vv = .int .u64 ((sumB (gB l B false) (min i 64) : Nat) : Int) ∧ iv = .int .i64 (i : Int) ∧ Hid (∀ j, j < i → B ≤ j → j < N → l[j]? = some false) ∧ Hid (Step (fun _ => False) V0 wq)) (fun _ iv _ => 71 - (intOf iv).toNat)
              case atStart => exact ⟨0, by omega, rfl, rfl, (fun j hj => absurd hj (by omega)), Step.refl⟩
              case round =>
                obtain ⟨i, hi, rfl, rfl, HF, HSi0⟩ := hrel
                have HSi : Hid (Step (fun _ => False) w wr) := HSw.out.trans HSi0.out
                obtain ⟨v, hv⟩ : ∃ v, v = sumB (gB l B false) (min i 64) := ⟨_, rfl⟩
                rw [← hv]
                have i0 : (0 : Int) ≤ (i : Int) := by omega
                have hwi := IntWalk.i64_in ((i : Int) + 1) (by omega)
                have hwu := IntWalk.u64_in (i : Int) (by omega)
                by_cases hiM : (i : Int) < max 64 (N : Int)
                · have hiM' : decide ((i : Int) < max 64 (N : Int)) = true := decide_eq_true hiM
                  have hi70 : i < 70 := by omega
                  by_cases hiN : i < N
                  · have hiNi : (i : Int) < (N : Int) := by omega
                    have hiNb : decide ((i : Int) < (N : Int)) = true := decide_eq_true hiNi
                    have hcx := (HCl.out i hiN).trans' HSi0.out
                    obtain ⟨x, hx0, hc3, hg3⟩ := hcx
                    by_cases hBi : B ≤ i
                    · have hBii : (B : Int) ≤ (i : Int) := by omega
                      have hBib : decide ((B : Int) ≤ (i : Int)) = true := decide_eq_true hBii
                      have HG : Hid (gB l B false i = false) := by rw [Hid, gB, if_pos hBi]
                      cases x
                      · have HF2 : Hid (∀ j, j < i + 1 → B ≤ j → j < N → l[j]? = some false) := fun j hj h1 h2 => by
                          rcases Nat.lt_or_ge j i with h3 | h3
                          · exact HF.out j h3 h1 h2
                          · obtain rfl : j = i := by omega
                            exact hx0
                        by_cases h64 : i < 64
                        · have h64i : (i : Int) < 64 := by omega
                          have h64b : decide ((i : Int) < 64) = true := decide_eq_true h64i
                          have HV : Hid ((sumB (gB l B false) (min (i + 1) 64) : Nat) = v) := by
                            rw [Hid, show min (i + 1) 64 = i + 1 by omega, sumB, HG.out, hv, show min i 64 = i by omega]
                            simp
                          clear hv HG
                          go_wp2_with fail
                          go_roundw
                          case rel => exact ⟨i + 1, by omega, by rw [HV.out] <;> first | rfl | rw [Int.natCast_add], by first | rfl | (rw [Int.natCast_add]; done) | (rw [Int.natCast_add]; rfl), HF2.out, HSi0⟩
                          case measure => simp [intOf]; omega
                        · have h64i : ¬ (i : Int) < 64 := by omega
                          have h64b : decide ((i : Int) < 64) = false := decide_eq_false h64i
                          have HV : Hid ((sumB (gB l B false) (min (i + 1) 64) : Nat) = v) := by
                            rw [Hid, show min (i + 1) 64 = 64 by omega, hv, show min i 64 = 64 by omega]
                          clear hv HG
                          go_wp2_with fail
                          go_roundw
                          case rel => exact ⟨i + 1, by omega, by rw [HV.out] <;> first | rfl | rw [Int.natCast_add], by first | rfl | (rw [Int.natCast_add]; done) | (rw [Int.natCast_add]; rfl), HF2.out, HSi0⟩
                          case measure => simp [intOf]; omega
                      · have hQ : Hid (RR = (0, 0, 3)) := by
                          rw [Hid, HRq.out, if_neg]
                          intro h
                          have h9 := h i hBi (by rw [← HN.out]; exact hiN)
                          rw [hx0] at h9
                          cases h9
                        clear hv HG hx0
                        go_wp2_with fail
                        refine bodyPost_ret (v := .tuple #[.int .u64 0, .int .i64 0, .int .i64 3]) (by simp [results, Try.results204, go_sem]) rfl ?_
                        rw [hQ.out]
                        exact ⟨rfl, HSi.out⟩
                    · have hBii : ¬ (B : Int) ≤ (i : Int) := by omega
                      have hBib : decide ((B : Int) ≤ (i : Int)) = false := decide_eq_false hBii
                      have HF2 : Hid (∀ j, j < i + 1 → B ≤ j → j < N → l[j]? = some false) := fun j hj h1 h2 => HF.out j (by omega) h1 h2
                      have HG0 : Hid (gB l B false i = x) := by rw [Hid, gB, if_neg hBi, hx0]; rfl
                      cases x
                      · have HG := HG0
                        by_cases h64 : i < 64
                        · have h64i : (i : Int) < 64 := by omega
                          have h64b : decide ((i : Int) < 64) = true := decide_eq_true h64i
                          have HV : Hid ((sumB (gB l B false) (min (i + 1) 64) : Nat) = v) := by
                            rw [Hid, show min (i + 1) 64 = i + 1 by omega, sumB, HG.out, hv, show min i 64 = i by omega]
                            simp
                          clear hv HG
                          go_wp2_with fail
                          go_roundw
                          case rel => exact ⟨i + 1, by omega, by rw [HV.out] <;> first | rfl | rw [Int.natCast_add], by first | rfl | (rw [Int.natCast_add]; done) | (rw [Int.natCast_add]; rfl), HF2.out, HSi0⟩
                          case measure => simp [intOf]; omega
                        · have h64i : ¬ (i : Int) < 64 := by omega
                          have h64b : decide ((i : Int) < 64) = false := decide_eq_false h64i
                          have HV : Hid ((sumB (gB l B false) (min (i + 1) 64) : Nat) = v) := by
                            rw [Hid, show min (i + 1) 64 = 64 by omega, hv, show min i 64 = 64 by omega]
                          clear hv HG
                          go_wp2_with fail
                          go_roundw
                          case rel => exact ⟨i + 1, by omega, by rw [HV.out] <;> first | rfl | rw [Int.natCast_add], by first | rfl | (rw [Int.natCast_add]; done) | (rw [Int.natCast_add]; rfl), HF2.out, HSi0⟩
                          case measure => simp [intOf]; omega
                      · have HG := HG0
                        by_cases h64 : i < 64
                        · have h64i : (i : Int) < 64 := by omega
                          have h64b : decide ((i : Int) < 64) = true := decide_eq_true h64i
                          have HV : Hid ((sumB (gB l B false) (min (i + 1) 64) : Nat) = v + 2 ^ i) := by
                            rw [Hid, show min (i + 1) 64 = i + 1 by omega, sumB, HG.out, hv, show min i 64 = i by omega]
                            simp
                          have hpw : (2 : Nat) ^ i ≤ 2 ^ 63 := Nat.pow_le_pow_right (by decide) (by omega)
                          have h63 : (2 : Nat) ^ 63 = 9223372036854775808 := rfl
                          have hvl : v < 2 ^ i := by rw [hv, show min i 64 = i by omega]; exact sumB_lt _ _
                          have hsh : IntKind.u64.wrap ((2 : Int) ^ i) = ((2 ^ i : Nat) : Int) := by
                            rw [show ((2 : Int) ^ i) = ((2 ^ i : Nat) : Int) by simp]
                            exact IntWalk.u64_in _ (by omega)
                          have had : IntKind.u64.wrap ((v : Int) + ((2 ^ i : Nat) : Int)) = ((v + 2 ^ i : Nat) : Int) := by rw [← Int.natCast_add]; exact IntWalk.u64_in _ (by omega)
                          obtain ⟨Q, hQ⟩ : ∃ Q, Q = 2 ^ i := ⟨_, rfl⟩
                          rw [← hQ] at hsh had HV
                          clear hpw h63 hvl hQ
                          clear hv HG
                          go_wp2_with fail
                          go_roundw
                          case rel => exact ⟨i + 1, by omega, by rw [HV.out] <;> first | rfl | rw [Int.natCast_add], by first | rfl | (rw [Int.natCast_add]; done) | (rw [Int.natCast_add]; rfl), HF2.out, HSi0⟩
                          case measure => simp [intOf]; omega
                        · have h64i : ¬ (i : Int) < 64 := by omega
                          have h64b : decide ((i : Int) < 64) = false := decide_eq_false h64i
                          have HV : Hid ((sumB (gB l B false) (min (i + 1) 64) : Nat) = v) := by
                            rw [Hid, show min (i + 1) 64 = 64 by omega, hv, show min i 64 = 64 by omega]
                          clear hv HG
                          go_wp2_with fail
                          go_roundw
                          case rel => exact ⟨i + 1, by omega, by rw [HV.out] <;> first | rfl | rw [Int.natCast_add], by first | rfl | (rw [Int.natCast_add]; done) | (rw [Int.natCast_add]; rfl), HF2.out, HSi0⟩
                          case measure => simp [intOf]; omega
                  · have hiNi : ¬ (i : Int) < (N : Int) := by omega
                    have hiNb : decide ((i : Int) < (N : Int)) = false := decide_eq_false hiNi
                    have HF2 : Hid (∀ j, j < i + 1 → B ≤ j → j < N → l[j]? = some false) := fun j hj h1 h2 => HF.out j (by omega) h1 h2
                    have HG : Hid (gB l B false i = false) := by
                      rw [Hid, gB]
                      split
                      · rfl
                      · rw [List.getElem?_eq_none (by rw [← HN.out]; omega)]
                        rfl
                    by_cases hBi : B ≤ i
                    · have hBii : (B : Int) ≤ (i : Int) := by omega
                      have hBib : decide ((B : Int) ≤ (i : Int)) = true := decide_eq_true hBii
                      by_cases h64 : i < 64
                      · have h64i : (i : Int) < 64 := by omega
                        have h64b : decide ((i : Int) < 64) = true := decide_eq_true h64i
                        have HV : Hid ((sumB (gB l B false) (min (i + 1) 64) : Nat) = v) := by
                          rw [Hid, show min (i + 1) 64 = i + 1 by omega, sumB, HG.out, hv, show min i 64 = i by omega]
                          simp
                        clear hv HG
                        go_wp2_with fail
                        go_roundw
                        case rel => exact ⟨i + 1, by omega, by rw [HV.out] <;> first | rfl | rw [Int.natCast_add], by first | rfl | (rw [Int.natCast_add]; done) | (rw [Int.natCast_add]; rfl), HF2.out, HSi0⟩
                        case measure => simp [intOf]; omega
                      · have h64i : ¬ (i : Int) < 64 := by omega
                        have h64b : decide ((i : Int) < 64) = false := decide_eq_false h64i
                        have HV : Hid ((sumB (gB l B false) (min (i + 1) 64) : Nat) = v) := by
                          rw [Hid, show min (i + 1) 64 = 64 by omega, hv, show min i 64 = 64 by omega]
                        clear hv HG
                        go_wp2_with fail
                        go_roundw
                        case rel => exact ⟨i + 1, by omega, by rw [HV.out] <;> first | rfl | rw [Int.natCast_add], by first | rfl | (rw [Int.natCast_add]; done) | (rw [Int.natCast_add]; rfl), HF2.out, HSi0⟩
                        case measure => simp [intOf]; omega
                    · have hBii : ¬ (B : Int) ≤ (i : Int) := by omega
                      have hBib : decide ((B : Int) ≤ (i : Int)) = false := decide_eq_false hBii
                      by_cases h64 : i < 64
                      · have h64i : (i : Int) < 64 := by omega
                        have h64b : decide ((i : Int) < 64) = true := decide_eq_true h64i
                        have HV : Hid ((sumB (gB l B false) (min (i + 1) 64) : Nat) = v) := by
                          rw [Hid, show min (i + 1) 64 = i + 1 by omega, sumB, HG.out, hv, show min i 64 = i by omega]
                          simp
                        clear hv HG
                        go_wp2_with fail
                        go_roundw
                        case rel => exact ⟨i + 1, by omega, by rw [HV.out] <;> first | rfl | rw [Int.natCast_add], by first | rfl | (rw [Int.natCast_add]; done) | (rw [Int.natCast_add]; rfl), HF2.out, HSi0⟩
                        case measure => simp [intOf]; omega
                      · have h64i : ¬ (i : Int) < 64 := by omega
                        have h64b : decide ((i : Int) < 64) = false := decide_eq_false h64i
                        have HV : Hid ((sumB (gB l B false) (min (i + 1) 64) : Nat) = v) := by
                          rw [Hid, show min (i + 1) 64 = 64 by omega, hv, show min i 64 = 64 by omega]
                        clear hv HG
                        go_wp2_with fail
                        go_roundw
                        case rel => exact ⟨i + 1, by omega, by rw [HV.out] <;> first | rfl | rw [Int.natCast_add], by first | rfl | (rw [Int.natCast_add]; done) | (rw [Int.natCast_add]; rfl), HF2.out, HSi0⟩
                        case measure => simp [intOf]; omega
                · have hiM' : decide ((i : Int) < max 64 (N : Int)) = false := decide_eq_false hiM
                  have hi64 : min i 64 = 64 := by omega
                  rw [hi64] at hv
                  have hQ : Hid (RR = (v, n + 1, 0)) := by
                    rw [Hid, HRq.out, if_pos (fun j h1 h2 => HF.out j (by rw [← HN.out] at h2; omega) h1 (by rw [← HN.out] at h2; exact h2)), hv]
                  have hwk := IntWalk.i64_in ((k : Int) + ((n : Int) + 1)) (by omega)
                  clear hv
                  go_wp2_with fail
                  refine bodyPost_ret (v := .tuple #[.int .u64 (v : Int), .int .i64 ((k : Int) + ((n : Int) + 1)), .int .i64 0]) (by simp [results, Try.results204, go_sem]) rfl ?_
                  rw [hQ.out]
                  exact ⟨by rw [rrQ, if_pos rfl, Int.natCast_add]; rfl, HSi.out⟩
            · go_wp2_with fail
              clear hpt hp0 hp1 hcp hgp hpN
              go_loopw [16, 17] (fun vv iv wq => ∃ i : Nat, i ≤ 70 ∧ vv = .int .u64 ((sumB (gB l B true) (min i 64) : Nat) : Int) ∧ iv = .int .i64 (i : Int) ∧ Hid (∀ j, j < i → B ≤ j → j < N → l[j]? = some true) ∧ Hid (Step (fun _ => False) V0 wq)) (fun _ iv _ => 71 - (intOf iv).toNat)
              case atStart => exact ⟨0, by omega, rfl, rfl, (fun j hj => absurd hj (by omega)), Step.refl⟩
              case round =>
                obtain ⟨i, hi, rfl, rfl, HF, HSi0⟩ := hrel
                have HSi : Hid (Step (fun _ => False) w wr) := HSw.out.trans HSi0.out
                obtain ⟨v, hv⟩ : ∃ v, v = sumB (gB l B true) (min i 64) := ⟨_, rfl⟩
                rw [← hv]
                have i0 : (0 : Int) ≤ (i : Int) := by omega
                have hwi := IntWalk.i64_in ((i : Int) + 1) (by omega)
                have hwu := IntWalk.u64_in (i : Int) (by omega)
                by_cases hiM : (i : Int) < max 64 (N : Int)
                · have hiM' : decide ((i : Int) < max 64 (N : Int)) = true := decide_eq_true hiM
                  have hi70 : i < 70 := by omega
                  by_cases hiN : i < N
                  · have hiNi : (i : Int) < (N : Int) := by omega
                    have hiNb : decide ((i : Int) < (N : Int)) = true := decide_eq_true hiNi
                    have hcx := (HCl.out i hiN).trans' HSi0.out
                    obtain ⟨x, hx0, hc3, hg3⟩ := hcx
                    by_cases hBi : B ≤ i
                    · have hBii : (B : Int) ≤ (i : Int) := by omega
                      have hBib : decide ((B : Int) ≤ (i : Int)) = true := decide_eq_true hBii
                      have HG : Hid (gB l B true i = true) := by rw [Hid, gB, if_pos hBi]
                      cases x
                      · have hQ : Hid (RR = (0, 0, 3)) := by
                          rw [Hid, HRq.out, if_neg]
                          intro h
                          have h9 := h i hBi (by rw [← HN.out]; exact hiN)
                          rw [hx0] at h9
                          cases h9
                        clear hv HG hx0
                        go_wp2_with fail
                        refine bodyPost_ret (v := .tuple #[.int .u64 0, .int .i64 0, .int .i64 3]) (by simp [results, Try.results204, go_sem]) rfl ?_
                        rw [hQ.out]
                        exact ⟨rfl, HSi.out⟩
                      · have HF2 : Hid (∀ j, j < i + 1 → B ≤ j → j < N → l[j]? = some true) := fun j hj h1 h2 => by
                          rcases Nat.lt_or_ge j i with h3 | h3
                          · exact HF.out j h3 h1 h2
                          · obtain rfl : j = i := by omega
                            exact hx0
                        by_cases h64 : i < 64
                        · have h64i : (i : Int) < 64 := by omega
                          have h64b : decide ((i : Int) < 64) = true := decide_eq_true h64i
                          have HV : Hid ((sumB (gB l B true) (min (i + 1) 64) : Nat) = v + 2 ^ i) := by
                            rw [Hid, show min (i + 1) 64 = i + 1 by omega, sumB, HG.out, hv, show min i 64 = i by omega]
                            simp
                          have hpw : (2 : Nat) ^ i ≤ 2 ^ 63 := Nat.pow_le_pow_right (by decide) (by omega)
                          have h63 : (2 : Nat) ^ 63 = 9223372036854775808 := rfl
                          have hvl : v < 2 ^ i := by rw [hv, show min i 64 = i by omega]; exact sumB_lt _ _
                          have hsh : IntKind.u64.wrap ((2 : Int) ^ i) = ((2 ^ i : Nat) : Int) := by
                            rw [show ((2 : Int) ^ i) = ((2 ^ i : Nat) : Int) by simp]
                            exact IntWalk.u64_in _ (by omega)
                          have had : IntKind.u64.wrap ((v : Int) + ((2 ^ i : Nat) : Int)) = ((v + 2 ^ i : Nat) : Int) := by rw [← Int.natCast_add]; exact IntWalk.u64_in _ (by omega)
                          obtain ⟨Q, hQ⟩ : ∃ Q, Q = 2 ^ i := ⟨_, rfl⟩
                          rw [← hQ] at hsh had HV
                          clear hpw h63 hvl hQ
                          clear hv HG
                          go_wp2_with fail
                          go_roundw
                          case rel => exact ⟨i + 1, by omega, by rw [HV.out] <;> first | rfl | rw [Int.natCast_add], by first | rfl | (rw [Int.natCast_add]; done) | (rw [Int.natCast_add]; rfl), HF2.out, HSi0⟩
                          case measure => simp [intOf]; omega
                        · have h64i : ¬ (i : Int) < 64 := by omega
                          have h64b : decide ((i : Int) < 64) = false := decide_eq_false h64i
                          have HV : Hid ((sumB (gB l B true) (min (i + 1) 64) : Nat) = v) := by
                            rw [Hid, show min (i + 1) 64 = 64 by omega, hv, show min i 64 = 64 by omega]
                          clear hv HG
                          go_wp2_with fail
                          go_roundw
                          case rel => exact ⟨i + 1, by omega, by rw [HV.out] <;> first | rfl | rw [Int.natCast_add], by first | rfl | (rw [Int.natCast_add]; done) | (rw [Int.natCast_add]; rfl), HF2.out, HSi0⟩
                          case measure => simp [intOf]; omega
                    · have hBii : ¬ (B : Int) ≤ (i : Int) := by omega
                      have hBib : decide ((B : Int) ≤ (i : Int)) = false := decide_eq_false hBii
                      have HF2 : Hid (∀ j, j < i + 1 → B ≤ j → j < N → l[j]? = some true) := fun j hj h1 h2 => HF.out j (by omega) h1 h2
                      have HG0 : Hid (gB l B true i = x) := by rw [Hid, gB, if_neg hBi, hx0]; rfl
                      cases x
                      · have HG := HG0
                        by_cases h64 : i < 64
                        · have h64i : (i : Int) < 64 := by omega
                          have h64b : decide ((i : Int) < 64) = true := decide_eq_true h64i
                          have HV : Hid ((sumB (gB l B true) (min (i + 1) 64) : Nat) = v) := by
                            rw [Hid, show min (i + 1) 64 = i + 1 by omega, sumB, HG.out, hv, show min i 64 = i by omega]
                            simp
                          clear hv HG
                          go_wp2_with fail
                          go_roundw
                          case rel => exact ⟨i + 1, by omega, by rw [HV.out] <;> first | rfl | rw [Int.natCast_add], by first | rfl | (rw [Int.natCast_add]; done) | (rw [Int.natCast_add]; rfl), HF2.out, HSi0⟩
                          case measure => simp [intOf]; omega
                        · have h64i : ¬ (i : Int) < 64 := by omega
                          have h64b : decide ((i : Int) < 64) = false := decide_eq_false h64i
                          have HV : Hid ((sumB (gB l B true) (min (i + 1) 64) : Nat) = v) := by
                            rw [Hid, show min (i + 1) 64 = 64 by omega, hv, show min i 64 = 64 by omega]
                          clear hv HG
                          go_wp2_with fail
                          go_roundw
                          case rel => exact ⟨i + 1, by omega, by rw [HV.out] <;> first | rfl | rw [Int.natCast_add], by first | rfl | (rw [Int.natCast_add]; done) | (rw [Int.natCast_add]; rfl), HF2.out, HSi0⟩
                          case measure => simp [intOf]; omega
                      · have HG := HG0
                        by_cases h64 : i < 64
                        · have h64i : (i : Int) < 64 := by omega
                          have h64b : decide ((i : Int) < 64) = true := decide_eq_true h64i
                          have HV : Hid ((sumB (gB l B true) (min (i + 1) 64) : Nat) = v + 2 ^ i) := by
                            rw [Hid, show min (i + 1) 64 = i + 1 by omega, sumB, HG.out, hv, show min i 64 = i by omega]
                            simp
                          have hpw : (2 : Nat) ^ i ≤ 2 ^ 63 := Nat.pow_le_pow_right (by decide) (by omega)
                          have h63 : (2 : Nat) ^ 63 = 9223372036854775808 := rfl
                          have hvl : v < 2 ^ i := by rw [hv, show min i 64 = i by omega]; exact sumB_lt _ _
                          have hsh : IntKind.u64.wrap ((2 : Int) ^ i) = ((2 ^ i : Nat) : Int) := by
                            rw [show ((2 : Int) ^ i) = ((2 ^ i : Nat) : Int) by simp]
                            exact IntWalk.u64_in _ (by omega)
                          have had : IntKind.u64.wrap ((v : Int) + ((2 ^ i : Nat) : Int)) = ((v + 2 ^ i : Nat) : Int) := by rw [← Int.natCast_add]; exact IntWalk.u64_in _ (by omega)
                          obtain ⟨Q, hQ⟩ : ∃ Q, Q = 2 ^ i := ⟨_, rfl⟩
                          rw [← hQ] at hsh had HV
                          clear hpw h63 hvl hQ
                          clear hv HG
                          go_wp2_with fail
                          go_roundw
                          case rel => exact ⟨i + 1, by omega, by rw [HV.out] <;> first | rfl | rw [Int.natCast_add], by first | rfl | (rw [Int.natCast_add]; done) | (rw [Int.natCast_add]; rfl), HF2.out, HSi0⟩
                          case measure => simp [intOf]; omega
                        · have h64i : ¬ (i : Int) < 64 := by omega
                          have h64b : decide ((i : Int) < 64) = false := decide_eq_false h64i
                          have HV : Hid ((sumB (gB l B true) (min (i + 1) 64) : Nat) = v) := by
                            rw [Hid, show min (i + 1) 64 = 64 by omega, hv, show min i 64 = 64 by omega]
                          clear hv HG
                          go_wp2_with fail
                          go_roundw
                          case rel => exact ⟨i + 1, by omega, by rw [HV.out] <;> first | rfl | rw [Int.natCast_add], by first | rfl | (rw [Int.natCast_add]; done) | (rw [Int.natCast_add]; rfl), HF2.out, HSi0⟩
                          case measure => simp [intOf]; omega
                  · have hiNi : ¬ (i : Int) < (N : Int) := by omega
                    have hiNb : decide ((i : Int) < (N : Int)) = false := decide_eq_false hiNi
                    have HF2 : Hid (∀ j, j < i + 1 → B ≤ j → j < N → l[j]? = some true) := fun j hj h1 h2 => HF.out j (by omega) h1 h2
                    have HG : Hid (gB l B true i = true) := by
                      rw [Hid, gB]
                      split
                      · rfl
                      · rw [List.getElem?_eq_none (by rw [← HN.out]; omega)]
                        rfl
                    by_cases hBi : B ≤ i
                    · have hBii : (B : Int) ≤ (i : Int) := by omega
                      have hBib : decide ((B : Int) ≤ (i : Int)) = true := decide_eq_true hBii
                      by_cases h64 : i < 64
                      · have h64i : (i : Int) < 64 := by omega
                        have h64b : decide ((i : Int) < 64) = true := decide_eq_true h64i
                        have HV : Hid ((sumB (gB l B true) (min (i + 1) 64) : Nat) = v + 2 ^ i) := by
                          rw [Hid, show min (i + 1) 64 = i + 1 by omega, sumB, HG.out, hv, show min i 64 = i by omega]
                          simp
                        have hpw : (2 : Nat) ^ i ≤ 2 ^ 63 := Nat.pow_le_pow_right (by decide) (by omega)
                        have h63 : (2 : Nat) ^ 63 = 9223372036854775808 := rfl
                        have hvl : v < 2 ^ i := by rw [hv, show min i 64 = i by omega]; exact sumB_lt _ _
                        have hsh : IntKind.u64.wrap ((2 : Int) ^ i) = ((2 ^ i : Nat) : Int) := by
                          rw [show ((2 : Int) ^ i) = ((2 ^ i : Nat) : Int) by simp]
                          exact IntWalk.u64_in _ (by omega)
                        have had : IntKind.u64.wrap ((v : Int) + ((2 ^ i : Nat) : Int)) = ((v + 2 ^ i : Nat) : Int) := by rw [← Int.natCast_add]; exact IntWalk.u64_in _ (by omega)
                        obtain ⟨Q, hQ⟩ : ∃ Q, Q = 2 ^ i := ⟨_, rfl⟩
                        rw [← hQ] at hsh had HV
                        clear hpw h63 hvl hQ
                        clear hv HG
                        go_wp2_with fail
                        go_roundw
                        case rel => exact ⟨i + 1, by omega, by rw [HV.out] <;> first | rfl | rw [Int.natCast_add], by first | rfl | (rw [Int.natCast_add]; done) | (rw [Int.natCast_add]; rfl), HF2.out, HSi0⟩
                        case measure => simp [intOf]; omega
                      · have h64i : ¬ (i : Int) < 64 := by omega
                        have h64b : decide ((i : Int) < 64) = false := decide_eq_false h64i
                        have HV : Hid ((sumB (gB l B true) (min (i + 1) 64) : Nat) = v) := by
                          rw [Hid, show min (i + 1) 64 = 64 by omega, hv, show min i 64 = 64 by omega]
                        clear hv HG
                        go_wp2_with fail
                        go_roundw
                        case rel => exact ⟨i + 1, by omega, by rw [HV.out] <;> first | rfl | rw [Int.natCast_add], by first | rfl | (rw [Int.natCast_add]; done) | (rw [Int.natCast_add]; rfl), HF2.out, HSi0⟩
                        case measure => simp [intOf]; omega
                    · have hBii : ¬ (B : Int) ≤ (i : Int) := by omega
                      have hBib : decide ((B : Int) ≤ (i : Int)) = false := decide_eq_false hBii
                      by_cases h64 : i < 64
                      · have h64i : (i : Int) < 64 := by omega
                        have h64b : decide ((i : Int) < 64) = true := decide_eq_true h64i
                        have HV : Hid ((sumB (gB l B true) (min (i + 1) 64) : Nat) = v + 2 ^ i) := by
                          rw [Hid, show min (i + 1) 64 = i + 1 by omega, sumB, HG.out, hv, show min i 64 = i by omega]
                          simp
                        have hpw : (2 : Nat) ^ i ≤ 2 ^ 63 := Nat.pow_le_pow_right (by decide) (by omega)
                        have h63 : (2 : Nat) ^ 63 = 9223372036854775808 := rfl
                        have hvl : v < 2 ^ i := by rw [hv, show min i 64 = i by omega]; exact sumB_lt _ _
                        have hsh : IntKind.u64.wrap ((2 : Int) ^ i) = ((2 ^ i : Nat) : Int) := by
                          rw [show ((2 : Int) ^ i) = ((2 ^ i : Nat) : Int) by simp]
                          exact IntWalk.u64_in _ (by omega)
                        have had : IntKind.u64.wrap ((v : Int) + ((2 ^ i : Nat) : Int)) = ((v + 2 ^ i : Nat) : Int) := by rw [← Int.natCast_add]; exact IntWalk.u64_in _ (by omega)
                        obtain ⟨Q, hQ⟩ : ∃ Q, Q = 2 ^ i := ⟨_, rfl⟩
                        rw [← hQ] at hsh had HV
                        clear hpw h63 hvl hQ
                        clear hv HG
                        go_wp2_with fail
                        go_roundw
                        case rel => exact ⟨i + 1, by omega, by rw [HV.out] <;> first | rfl | rw [Int.natCast_add], by first | rfl | (rw [Int.natCast_add]; done) | (rw [Int.natCast_add]; rfl), HF2.out, HSi0⟩
                        case measure => simp [intOf]; omega
                      · have h64i : ¬ (i : Int) < 64 := by omega
                        have h64b : decide ((i : Int) < 64) = false := decide_eq_false h64i
                        have HV : Hid ((sumB (gB l B true) (min (i + 1) 64) : Nat) = v) := by
                          rw [Hid, show min (i + 1) 64 = 64 by omega, hv, show min i 64 = 64 by omega]
                        clear hv HG
                        go_wp2_with fail
                        go_roundw
                        case rel => exact ⟨i + 1, by omega, by rw [HV.out] <;> first | rfl | rw [Int.natCast_add], by first | rfl | (rw [Int.natCast_add]; done) | (rw [Int.natCast_add]; rfl), HF2.out, HSi0⟩
                        case measure => simp [intOf]; omega
                · have hiM' : decide ((i : Int) < max 64 (N : Int)) = false := decide_eq_false hiM
                  have hi64 : min i 64 = 64 := by omega
                  rw [hi64] at hv
                  have hQ : Hid (RR = (v, n + 1, 0)) := by
                    rw [Hid, HRq.out, if_pos (fun j h1 h2 => HF.out j (by rw [← HN.out] at h2; omega) h1 (by rw [← HN.out] at h2; exact h2)), hv]
                  have hwk := IntWalk.i64_in ((k : Int) + ((n : Int) + 1)) (by omega)
                  clear hv
                  go_wp2_with fail
                  refine bodyPost_ret (v := .tuple #[.int .u64 (v : Int), .int .i64 ((k : Int) + ((n : Int) + 1)), .int .i64 0]) (by simp [results, Try.results204, go_sem]) rfl ?_
                  rw [hQ.out]
                  exact ⟨by rw [rrQ, if_pos rfl, Int.natCast_add]; rfl, HSi.out⟩
        · have hb' : ¬ (b.toNat : Int) < 128 := by omega
          have hQ : Hid (grpN m (bs.drop k) 0 = grpN (m - (n + 1)) (bs.drop (k + (n + 1))) (n + 1)) := by rw [Hid, HG2.out, if_neg hb]
          go_wp2_with fail
          go_roundw
          case rel => exact ⟨n + 1, c3, D3, by omega, by omega, rfl, by rw [Int.natCast_add]; rfl, hQ, HSi, HOi⟩
          case measure => simp [intOf]; omega
end Go.Proofs.Ytfemeendkjcffaa
