/-
  region: the reference's Find (printed by gen_rgr.py).
-/
import Derived.Test.YtjpjobpkeejmcaaRgQ
set_option linter.unusedVariables false
set_option linter.unusedSimpArgs false
namespace Go.Proofs.Ytjpjobpkeejmcaa
open Go.RowKit

set_option maxRecDepth 100000 in
set_option maxHeartbeats 6400000 in
theorem rfind_walk (w : World) (A : Option Addr) (c n0 fm sz n al : Nat) (l : List Pc) (S : Nat → Prop) (hN : n0 = l.length) (hr : Reads w S 3 A n0 (pcs l)) (hs : snd sz fm l) (hn0 : n0 ≤ 1000000) (hfs : fm ≤ sz) (hz : sz ≤ 1073741824) (hnn : n ≤ 9223372036854775807) (ha : al ≤ 20) :
    Calls Try.prog 19 #[.slice A n0 c, .int .i64 (fm : Int), .int .i64 (sz : Int), .int .i64 (n : Int), .int .i64 (al : Int)] w fun e w' => e = .returned (.int .i64 (refF fm sz n al l)) ∧ Step (fun _ => False) w w' := by
  have HR := Lib.hid hr
  have HN := Lib.hid hN
  have hps := snd_all l fm hs
  have HIN : Hid (∀ (w' : World) (first : Bool) (x : Nat), Step (fun _ => False) w w' → x ≤ 4294967296 → Calls Try.prog 30 #[.slice A n0 c, .int .i64 (x : Int), .bool first] w' fun e w'' => e = .returned (.bool (inB first x l)) ∧ Step (fun _ => False) w' w'') := fun w' first x hst hx => rin_walk w' A n0 c l S x first hN (hr.step hst (fun _ _ => id)) hn0 (fun p hp => by have := (hps p hp).2.2; omega) hx
  have HFI : Hid (∀ m, freeP l m n ↔ ((n = 0 → inB false m l = false) ∧ ∀ j, j < n → inB true (m + j) l = false)) := fun m => free_iff l m n (fun p hp => (hps p hp).1)
  obtain ⟨hk1, hk2, _⟩ := two_pow al ha
  have hup := up_plain fm (2 ^ al) _ hk1 rfl
  have hfal : (findF fm sz n al l).1 ≤ sz + 1048576 := findL_le n al sz ha l (upN fm al) (by have := upN_le fm al ha; omega) (fun p hp => (hps p hp).2.2)
  have hfge : upN fm al ≤ (findF fm sz n al l).1 := findL_ge n al l _
  have HMOD : Hid (upN fm al % 2 ^ al = 0) := upN_mod fm al
  have HRO : Hid (∀ m, m % 2 ^ al = 0 → upN fm al ≤ m → m < (findF fm sz n al l).1 → ¬ freeP l m n ∧ m + 2 ^ al ≤ (findF fm sz n al l).1) := fun m h1 h2 h3 => round_on fm sz n al m l hs h1 h2 h3
  have HFR : Hid (freeP l (findF fm sz n al l).1 n) := find_free n al sz l fm _ hs
  have HFF : Hid ((findF fm sz n al l).2 = true ↔ ((findF fm sz n al l).1 ≤ sz ∧ n ≤ sz - (findF fm sz n al l).1)) := found_fits fm sz n al l hs
  rw [refF]
  have hpow : ∀ i, i ≤ al → 2 ^ i ≤ 1048576 := fun i hi => (two_pow i (by omega)).2.1
  have HPW : Hid (∀ i, i ≤ al → 2 ^ i ≤ 1048576) := hpow
  have hups : (fm + 2 ^ al - 1) / 2 ^ al * 2 ^ al = upN fm al := rfl
  obtain ⟨q, hq⟩ : ∃ q, q = (fm + 2 ^ al - 1) / 2 ^ al := ⟨_, rfl⟩
  rw [← hq] at hup hups
  have HK : Hid (∃ k, k = 2 ^ al) := ⟨_, rfl⟩
  obtain ⟨k, hk⟩ := HK.out
  have hmk : ((q : Int)) * (k : Int) = (upN fm al : Int) := by rw [← hups, hk, Int.natCast_mul]
  rw [← hk] at hk1 hk2 hup HMOD HRO
  have HKe := Lib.hid hk
  obtain ⟨u0, hu0⟩ : ∃ u0, u0 = upN fm al := ⟨_, rfl⟩
  rw [← hu0] at hfge HMOD HRO hmk
  generalize findF fm sz n al l = r at hfal hfge HRO HFR HFF ⊢
  obtain ⟨a, ok⟩ := r
  simp only at hfal hfge HRO HFR HFF ⊢
  obtain ⟨RV, hRV⟩ : ∃ RV : Int, RV = if ok = true then (a : Int) else -1 := ⟨_, rfl⟩
  rw [← hRV]
  have HRV := Lib.hid hRV
  clear hr hN hps hs hpow hups hq hk hu0 hRV HK
  go_enter Try.func19, Try.ntmps19
  go_wp2_with fail
  go_loopw [11, 12] (fun sv iv wr => ∃ (i p2 : Nat), i ≤ al ∧ sv = .int .i64 (p2 : Int) ∧ iv = .int .i64 (i : Int) ∧ Hid (p2 = 2 ^ i) ∧ wr = w) (fun _ iv _ => al + 1 - (intOf iv).toNat)
  case atStart => exact ⟨0, 1, by omega, rfl, rfl, rfl, rfl⟩
  case round =>
    obtain ⟨i, p2, hi, rfl, rfl, HP, hwr⟩ := hrel
    have hwr2 := hwr.symm
    subst hwr2
    by_cases hil : i < al
    · have g1 : (i : Int) < (al : Int) := by omega
      have hpb := HPW.out i (by omega)
      rw [← HP.out] at hpb
      have hw1 := IntWalk.i64_in ((i : Int) + 1) (by omega)
      have hw2 := IntWalk.i64_in ((p2 : Int) * 2) (by omega)
      have HP2 : Hid (p2 * 2 = 2 ^ (i + 1)) := by rw [Hid, HP.out, Nat.pow_succ]
      go_wp2_with fail
      go_roundw
      case rel => exact ⟨i + 1, p2 * 2, by omega, by rw [Int.natCast_mul]; rfl, by rw [Int.natCast_add]; rfl, HP2, by first | rfl | trivial⟩
      case measure => first | (simp [intOf]; done) | (simp [intOf]; omega)
    · obtain rfl : i = al := by omega
      obtain rfl : p2 = k := by rw [HP.out, HKe.out]
      clear HP HKe HPW
      have hkz : ¬ (p2 : Int) = 0 := by omega
      have e2 := IntWalk.i64_in ((fm : Int) + (p2 : Int)) (by omega)
      have e3 := IntWalk.i64_in ((fm : Int) + (p2 : Int) - 1) (by omega)
      obtain ⟨hd, hq2, hqt⟩ := hup
      have e4 := IntWalk.i64_in (q : Int) (by clear hd hqt; omega)
      have e5 : IntKind.i64.wrap ((q : Int) * (p2 : Int)) = (u0 : Int) := by rw [hmk]; exact IntWalk.i64_in _ (by clear hd hqt hmk; omega)
      clear hd hq2 hmk
      go_wp2_with fail
      clear e2 e3 e4 e5 hqt
      go_loopw [13] (fun av wr => ∃ (m : Nat), av = .int .i64 (m : Int) ∧ u0 ≤ m ∧ m ≤ a ∧ Hid (m % p2 = 0) ∧ Hid (Step (fun _ => False) w wr)) (fun av _ => a + 1 - (intOf av).toNat)
      case atStart => exact ⟨u0, rfl, by omega, hfge, HMOD, Step.refl⟩
      case round =>
        obtain ⟨m, rfl, hm1, hm2, HM, HSm⟩ := hrel
        have hws := IntWalk.i64_in ((sz : Int) - (m : Int)) (by omega)
        have hwk := IntWalk.i64_in ((m : Int) + (p2 : Int)) (by omega)
        have GO : Hid (¬ freeP l m n → m + p2 ≤ a ∧ (m + p2) % p2 = 0) := fun hf => by
          have hne : m ≠ a := fun e => hf (e ▸ HFR.out)
          exact ⟨(HRO.out m HM.out hm1 (by omega)).2, by rw [Nat.add_mod_right]; exact HM.out⟩
        have YES : Hid (freeP l m n → m ≤ sz → n ≤ sz - m → RV = (m : Int)) := fun hf h1 h2 => by
          have he : m = a := by
            rcases Nat.lt_or_ge m a with h3 | h3
            · exact absurd hf (HRO.out m HM.out hm1 h3).1
            · omega
          rw [HRV.out, if_pos (HFF.out.2 (by rw [← he]; exact ⟨h1, h2⟩)), he]
        have NO : Hid (¬ (m ≤ sz ∧ n ≤ sz - m) → RV = -1) := fun h => by
          have h2 : ¬ ok = true := fun h3 => by
            have := HFF.out.1 h3
            exact h ⟨by omega, by omega⟩
          rw [HRV.out, if_neg h2]
        clear HM
        by_cases h1 : m ≤ sz
        · have d1 : (m : Int) ≤ (sz : Int) := by omega
          have d1' : decide ((m : Int) ≤ (sz : Int)) = true := decide_eq_true d1
          have d1n : decide (m ≤ sz) = true := decide_eq_true h1
          by_cases h2 : n ≤ sz - m
          · have d2 : (n : Int) ≤ (sz : Int) - (m : Int) := by omega
            have d2' : decide ((n : Int) ≤ (sz : Int) - (m : Int)) = true := decide_eq_true d2
            by_cases h3 : n = 0
            · have d3 : ¬ (0 : Int) < (n : Int) := by omega
              have d3' : decide ((0 : Int) < (n : Int)) = false := decide_eq_false d3
              have d3n : decide (0 < n) = false := decide_eq_false (by omega)
              have HI := Lib.hid (HIN.out _ false m HSm.out (by omega))
              obtain ⟨v0, hv0⟩ : ∃ v0, v0 = inB false m l := ⟨_, rfl⟩
              rw [← hv0] at HI
              have HC : Hid ((!v0) = true → (n = 0 → inB false m l = false)) := fun h _ => by rw [← hv0]; simpa using h
              have HC2 : Hid ((!v0) = false → ¬ freeP l m n) := fun h hf => by
                have := ((HFI.out m).1 hf).1 h3
                rw [← hv0] at this
                rw [this] at h
                cases h
              clear h3 hv0
              go_wp2_with fail
              refine HI.out.mono ?_
              rintro e wi ⟨rfl, hSi⟩
              have HSi := Lib.hid (HSm.out.trans hSi)
              clear hSi
              go_wp2_with fail
              go_loopw [14, 15] (fun fv jv wr => ∃ (j : Nat) (bj : Bool), j ≤ n ∧ fv = .bool bj ∧ jv = .int .i64 (j : Int) ∧ Hid (bj = true → (n = 0 → inB false m l = false) ∧ ∀ i, i < j → inB true (m + i) l = false) ∧ Hid (bj = false → ¬ freeP l m n) ∧ Hid (Step (fun _ => False) w wr)) (fun _ jv _ => n + 1 - (intOf jv).toNat)
              case atStart => exact ⟨0, _, by omega, rfl, rfl, fun h => ⟨HC.out (by first | exact h | trivial), fun i hi => absurd hi (by omega)⟩, fun h => HC2.out (by first | exact h | cases h), HSi⟩
              case round =>
                obtain ⟨j, bj, hj, rfl, rfl, HT, HF, HSj⟩ := hrel
                clear HC HC2
                have END : Hid (bj = true → j = n → freeP l m n) := fun h1 h2 => (HFI.out m).2 ⟨(HT.out h1).1, fun i hi => (HT.out h1).2 i (by omega)⟩
                cases bj with
                | true =>
                  by_cases hjn : j < n
                  · have q1 : (j : Int) < (n : Int) := by omega
                    have q1' : decide ((j : Int) < (n : Int)) = true := decide_eq_true q1
                    have hw1 := IntWalk.i64_in ((j : Int) + 1) (by omega)
                    have hw2 : IntKind.i64.wrap ((m : Int) + (j : Int)) = ((m + j : Nat) : Int) := by rw [Int.natCast_add]; exact IntWalk.i64_in _ (by omega)
                    have HI := Lib.hid (HIN.out _ true (m + j) HSj.out (by omega))
                    have HT2 : Hid ((!inB true (m + j) l) = true → (n = 0 → inB false m l = false) ∧ ∀ i, i < j + 1 → inB true (m + i) l = false) := fun h => ⟨(HT.out rfl).1, fun i hi => by
                      rcases Nat.lt_or_ge i j with h5 | h5
                      · exact (HT.out rfl).2 i h5
                      · obtain rfl : i = j := by omega
                        simpa using h⟩
                    have HF2 : Hid ((!inB true (m + j) l) = false → ¬ freeP l m n) := fun h hf => by
                      have := ((HFI.out m).1 hf).2 j hjn
                      rw [this] at h
                      cases h
                    clear HT HF END
                    obtain ⟨x, hx⟩ : ∃ x, x = m + j := ⟨_, rfl⟩
                    rw [← hx] at hw2 HI HT2 HF2
                    obtain ⟨vx, hvx⟩ : ∃ vx, vx = inB true x l := ⟨_, rfl⟩
                    rw [← hvx] at HI HT2 HF2
                    clear hx hvx
                    go_wp2_with fail
                    refine HI.out.mono ?_
                    rintro e wi ⟨rfl, hSi⟩
                    have HSk := Lib.hid (HSj.out.trans hSi)
                    clear hSi
                    go_wp2_with fail
                    go_roundw
                    case rel => exact ⟨j + 1, _, by omega, rfl, by rw [Int.natCast_add]; rfl, HT2, HF2, HSk⟩
                    case measure => first | (simp [intOf]; done) | (simp [intOf]; omega)
                  · have q1 : ¬ (j : Int) < (n : Int) := by omega
                    have q1' : decide ((j : Int) < (n : Int)) = false := decide_eq_false q1
                    have hyes := YES.out (END.out rfl (by omega)) h1 h2
                    subst hyes
                    clear HT HF END
                    go_wp2_with fail
                    go_ret
                    exact ⟨rfl, HSj.out⟩
                | false =>
                  obtain ⟨hgo1, hgo2⟩ := GO.out (HF.out rfl)
                  have HG2 := Lib.hid hgo2
                  clear HT HF END hgo2
                  by_cases hjn : j < n
                  · have q1 : (j : Int) < (n : Int) := by omega
                    have q1' : decide ((j : Int) < (n : Int)) = true := decide_eq_true q1
                    go_wp2_with fail
                    exact ⟨⟨m + p2, by rw [Int.natCast_add], by omega, hgo1, HG2, HSj⟩, by first | (simp [intOf]; done) | (simp [intOf]; omega)⟩
                  · have q1 : ¬ (j : Int) < (n : Int) := by omega
                    have q1' : decide ((j : Int) < (n : Int)) = false := decide_eq_false q1
                    go_wp2_with fail
                    exact ⟨⟨m + p2, by rw [Int.natCast_add], by omega, hgo1, HG2, HSj⟩, by first | (simp [intOf]; done) | (simp [intOf]; omega)⟩
            · have d3 : (0 : Int) < (n : Int) := by omega
              have d3' : decide ((0 : Int) < (n : Int)) = true := decide_eq_true d3
              have d3n : decide (0 < n) = true := decide_eq_true (by omega)
              have HSi := HSm
              have HC : Hid (true = true → (n = 0 → inB false m l = false)) := fun _ h => absurd h h3
              have HC2 : Hid (true = false → ¬ freeP l m n) := fun h => by cases h
              clear h3
              go_wp2_with fail
              go_loopw [14, 15] (fun fv jv wr => ∃ (j : Nat) (bj : Bool), j ≤ n ∧ fv = .bool bj ∧ jv = .int .i64 (j : Int) ∧ Hid (bj = true → (n = 0 → inB false m l = false) ∧ ∀ i, i < j → inB true (m + i) l = false) ∧ Hid (bj = false → ¬ freeP l m n) ∧ Hid (Step (fun _ => False) w wr)) (fun _ jv _ => n + 1 - (intOf jv).toNat)
              case atStart => exact ⟨0, _, by omega, rfl, rfl, fun h => ⟨HC.out (by first | exact h | trivial), fun i hi => absurd hi (by omega)⟩, fun h => HC2.out (by first | exact h | cases h), HSi⟩
              case round =>
                obtain ⟨j, bj, hj, rfl, rfl, HT, HF, HSj⟩ := hrel
                clear HC HC2
                have END : Hid (bj = true → j = n → freeP l m n) := fun h1 h2 => (HFI.out m).2 ⟨(HT.out h1).1, fun i hi => (HT.out h1).2 i (by omega)⟩
                cases bj with
                | true =>
                  by_cases hjn : j < n
                  · have q1 : (j : Int) < (n : Int) := by omega
                    have q1' : decide ((j : Int) < (n : Int)) = true := decide_eq_true q1
                    have hw1 := IntWalk.i64_in ((j : Int) + 1) (by omega)
                    have hw2 : IntKind.i64.wrap ((m : Int) + (j : Int)) = ((m + j : Nat) : Int) := by rw [Int.natCast_add]; exact IntWalk.i64_in _ (by omega)
                    have HI := Lib.hid (HIN.out _ true (m + j) HSj.out (by omega))
                    have HT2 : Hid ((!inB true (m + j) l) = true → (n = 0 → inB false m l = false) ∧ ∀ i, i < j + 1 → inB true (m + i) l = false) := fun h => ⟨(HT.out rfl).1, fun i hi => by
                      rcases Nat.lt_or_ge i j with h5 | h5
                      · exact (HT.out rfl).2 i h5
                      · obtain rfl : i = j := by omega
                        simpa using h⟩
                    have HF2 : Hid ((!inB true (m + j) l) = false → ¬ freeP l m n) := fun h hf => by
                      have := ((HFI.out m).1 hf).2 j hjn
                      rw [this] at h
                      cases h
                    clear HT HF END
                    obtain ⟨x, hx⟩ : ∃ x, x = m + j := ⟨_, rfl⟩
                    rw [← hx] at hw2 HI HT2 HF2
                    obtain ⟨vx, hvx⟩ : ∃ vx, vx = inB true x l := ⟨_, rfl⟩
                    rw [← hvx] at HI HT2 HF2
                    clear hx hvx
                    go_wp2_with fail
                    refine HI.out.mono ?_
                    rintro e wi ⟨rfl, hSi⟩
                    have HSk := Lib.hid (HSj.out.trans hSi)
                    clear hSi
                    go_wp2_with fail
                    go_roundw
                    case rel => exact ⟨j + 1, _, by omega, rfl, by rw [Int.natCast_add]; rfl, HT2, HF2, HSk⟩
                    case measure => first | (simp [intOf]; done) | (simp [intOf]; omega)
                  · have q1 : ¬ (j : Int) < (n : Int) := by omega
                    have q1' : decide ((j : Int) < (n : Int)) = false := decide_eq_false q1
                    have hyes := YES.out (END.out rfl (by omega)) h1 h2
                    subst hyes
                    clear HT HF END
                    go_wp2_with fail
                    go_ret
                    exact ⟨rfl, HSj.out⟩
                | false =>
                  obtain ⟨hgo1, hgo2⟩ := GO.out (HF.out rfl)
                  have HG2 := Lib.hid hgo2
                  clear HT HF END hgo2
                  by_cases hjn : j < n
                  · have q1 : (j : Int) < (n : Int) := by omega
                    have q1' : decide ((j : Int) < (n : Int)) = true := decide_eq_true q1
                    go_wp2_with fail
                    exact ⟨⟨m + p2, by rw [Int.natCast_add], by omega, hgo1, HG2, HSj⟩, by first | (simp [intOf]; done) | (simp [intOf]; omega)⟩
                  · have q1 : ¬ (j : Int) < (n : Int) := by omega
                    have q1' : decide ((j : Int) < (n : Int)) = false := decide_eq_false q1
                    go_wp2_with fail
                    exact ⟨⟨m + p2, by rw [Int.natCast_add], by omega, hgo1, HG2, HSj⟩, by first | (simp [intOf]; done) | (simp [intOf]; omega)⟩
          · have d2 : ¬ (n : Int) ≤ (sz : Int) - (m : Int) := by omega
            have d2' : decide ((n : Int) ≤ (sz : Int) - (m : Int)) = false := decide_eq_false d2
            have hno := NO.out (fun h => h2 h.2)
            subst hno
            go_wp2_with fail
            go_ret
            exact ⟨rfl, HSm.out⟩
        · have d1 : ¬ (m : Int) ≤ (sz : Int) := by omega
          have d1' : decide ((m : Int) ≤ (sz : Int)) = false := decide_eq_false d1
          have d1n : decide (m ≤ sz) = false := decide_eq_false h1
          have hno := NO.out (fun h => h1 h.1)
          subst hno
          go_wp2_with fail
          go_ret
          exact ⟨rfl, HSm.out⟩
end Go.Proofs.Ytjpjobpkeejmcaa
