/-
  region: the laws' awake; RegionAlone.
-/
import Derived.Test.YtjpjobpkeejmcaaRgJ
set_option linter.unusedVariables false
set_option linter.unusedSimpArgs false
namespace Go.Proofs.Ytjpjobpkeejmcaa
open Go.RowKit

set_option maxRecDepth 100000 in
set_option maxHeartbeats 3200000 in
theorem awake34 (w : World) : Calls Try.prog 6 #[] w fun e w' => e = .returned (.bool true) ∧ Step (fun _ => False) w w' := by
  have HN := Lib.hid (rnew_ok w w.heap.size 0 100 (by decide) (by decide) (Nat.le_refl _))
  go_enter Try.func6, Try.ntmps6
  go_wp2_with fail
  refine HN.out.mono ?_
  rintro e w5 ⟨X, rfl, hr, hS, hX⟩
  have hT1 := take_walk w5 X none 0 0 100 w.heap.size [] hr hS.size (by decide) (by decide) (fun p hp => by cases hp) (by decide) 10 0 1 (by decide) (by decide)
  rw [show takeF 0 100 10 0 1 [] = ((0, 0), [⟨0, 10, 1⟩]) by rfl] at hT1
  have HT1 := Lib.hid hT1
  have HS := Lib.hid hS
  clear hr hT1 hS HN
  go_wp2_with fail
  refine HT1.out.mono ?_
  rintro e w6 ⟨rfl, A1, c1, hr, hS, hm⟩
  have HS6 : Hid (Step (fun _ => False) w w6) := HS.out.trans' hS (fun k hk => by
    rcases hk with hk | hk
    · exact .inr (by omega)
    · cases hk)
  have hT2 := take_walk w6 X A1 c1 0 100 w.heap.size _ hr HS6.out.size (by decide) (by decide) (fun p hp => by simp at hp; subst hp; decide) (by decide) 4 3 2 (by decide) (by decide)
  rw [show takeF 0 100 4 3 2 [⟨0, 10, 1⟩] = ((16, 0), [⟨0, 10, 1⟩, ⟨16, 4, 2⟩]) by rfl] at hT2
  have HT2 := Lib.hid hT2
  have HG1 := Lib.hid hr.ge
  clear hr hT2 hS hm HT1 HS
  simp only
  go_wp2_with fail
  refine HT2.out.mono ?_
  rintro e w7 ⟨rfl, A2, c2, hr, hS, hm⟩
  have HS7 : Hid (Step (fun _ => False) w w7) := HS6.out.trans' hS (fun k hk => by
    rcases hk with hk | hk
    · exact .inr (by omega)
    · exact .inr (HG1.out k hk))
  have hT3 := take_walk w7 X A2 c2 0 100 w.heap.size _ hr HS7.out.size (by decide) (by decide) (fun p hp => by simp at hp; rcases hp with rfl | rfl <;> decide) (by decide) 6 1 3 (by decide) (by decide)
  rw [show takeF 0 100 6 1 3 [⟨0, 10, 1⟩, ⟨16, 4, 2⟩] = ((10, 0), [⟨0, 10, 1⟩, ⟨10, 6, 3⟩, ⟨16, 4, 2⟩]) by rfl] at hT3
  have HT3 := Lib.hid hT3
  have HG2 := Lib.hid hr.ge
  clear hr hT3 hS hm HT2 HS6 HG1
  simp only
  go_wp2_with fail
  refine HT3.out.mono ?_
  rintro e w8 ⟨rfl, A3, c3, hr, hS, hm⟩
  have HS8 : Hid (Step (fun _ => False) w w8) := HS7.out.trans' hS (fun k hk => by
    rcases hk with hk | hk
    · exact .inr (by omega)
    · exact .inr (HG2.out k hk))
  clear hr hS hm HT3 HS7 HG2
  simp only
  go_wp2_with fail
  go_ret
  exact ⟨rfl, HS8.out⟩
theorem up_facts (n al k : Nat) (hk : k = 2 ^ al) (hk1 : 0 < k) : n ≤ upN n al ∧ upN n al < n + k ∧ upN n al % k = 0 := by
  rw [upN, ← hk]
  have h1 := Nat.div_add_mod (n + k - 1) k
  have h2 := Nat.mod_lt (n + k - 1) hk1
  have h3 : (n + k - 1) / k * k = k * ((n + k - 1) / k) := Nat.mul_comm _ _
  refine ⟨?_, ?_, by rw [h3]; exact Nat.mul_mod_right _ _⟩
  · rw [h3]
    generalize k * ((n + k - 1) / k) = u at h1 ⊢
    generalize (n + k - 1) % k = v at h1 h2
    omega
  · rw [h3]
    generalize k * ((n + k - 1) / k) = u at h1 ⊢
    generalize (n + k - 1) % k = v at h1 h2
    omega

set_option maxRecDepth 100000 in
set_option maxHeartbeats 3200000 in
theorem alone_walk (w : World) (fm n ali : Nat) (h1 : fm < 65536) (h2 : n < 65536) (h3 : ali < 256) :
    Calls Try.prog 3 #[.int .u16 (fm : Int), .int .u16 (n : Int), .int .u8 (ali : Int)] w fun e w' => e = .returned (.bool true) ∧ Step (fun _ => False) w w' := by
  have hal : ali % 12 < 12 := Nat.mod_lt _ (by decide)
  have htm : ((ali : Int)).tmod 12 = ((ali % 12 : Nat) : Int) := by
    rw [Int.tmod_eq_emod_of_nonneg (by omega)]
    omega
  obtain ⟨al, hale⟩ : ∃ al, al = ali % 12 := ⟨_, rfl⟩
  rw [← hale] at hal htm
  obtain ⟨hk1, hk2, hkc⟩ := two_pow al (by omega)
  have hk3 : 2 ^ al ≤ 2048 := Nat.le_trans (Nat.pow_le_pow_right (by decide) (show al ≤ 11 by omega)) (by decide)
  obtain ⟨k, hk⟩ : ∃ k, k = 2 ^ al := ⟨_, rfl⟩
  rw [← hk] at hk1 hk2 hk3 hkc
  obtain ⟨u1, u2, u3⟩ := up_facts fm al k hk hk1
  have hfind : ∀ sz, sz = fm + k + n → takeF fm sz n al 1 [] = ((upN fm al, 0), if n = 0 then [] else [⟨upN fm al, n, 1⟩]) := fun sz hsz => by
    have hc : findF fm sz n al [] = (upN fm al, true) := by
      rw [findF, findL]
      simp only [Bool.false_or, Prod.mk.injEq, true_and, decide_eq_true_eq]
      clear hk
      omega
    rw [takeF, hc, if_pos rfl]
    rfl
  obtain ⟨sz, hsz⟩ : ∃ sz, sz = fm + k + n := ⟨_, rfl⟩
  have HF := Lib.hid (hfind sz hsz)
  obtain ⟨a, ha⟩ : ∃ a, a = upN fm al := ⟨_, rfl⟩
  rw [← ha] at u1 u2 u3 HF
  have hHN := rnew_ok w w.heap.size fm sz (by clear hk; omega) (by clear hk; omega) (Nat.le_refl _)
  have HAW := Lib.hid (awake34 w)
  obtain ⟨ps, hps⟩ : ∃ ps : List Pc, ps = if n = 0 then [] else [⟨a, n, 1⟩] := ⟨_, rfl⟩
  rw [← hps] at HF
  have q1 : snd sz fm ps := by
    rw [hps]
    split
    · trivial
    · exact ⟨by clear hk; show 1 ≤ n; omega, u1, by clear hk; show a + n ≤ sz; omega, trivial⟩
  have q2 : sumP ps = n := by
    rw [hps]
    split
    · rename_i h0; rw [h0]; rfl
    · simp [sumP]
  have q3 : mine 1 ps = ps := by
    rw [hps]
    split <;> rfl
  have q4 : less 1 ps = [] := by
    rw [hps]
    split <;> rfl
  have q5 : ps.length ≤ 1 := by
    rw [hps]
    split <;> simp
  have q6 : ∀ p ∈ ps, p.at_ + p.len ≤ sz := fun p hp => (snd_all ps fm q1 p hp).2.2
  have hz : sz ≤ 1073741824 := by clear hk; omega
  have q7 : ∀ p ∈ ps, p.len ≤ 1073741824 := fun p hp => by have := q6 p hp; clear hk; omega
  have HQ1 := Lib.hid q1
  have HQ2 := Lib.hid q2
  have HQ3 := Lib.hid q3
  have HQ4 := Lib.hid q4
  have HQ7 := Lib.hid q7
  have HN5 := Lib.hid q5
  have hfs : fm ≤ sz := by clear hk; omega
  have hat : ((a : Int)).tmod (k : Int) = 0 := by
    rw [Int.tmod_eq_emod_of_nonneg (Int.natCast_nonneg _), ← Int.natCast_emod, u3]
    rfl
  have e1 : IntKind.i64.wrap ((2 : Int) ^ al) = (k : Int) := by rw [hkc]; exact IntWalk.i64_in _ (by clear hk hkc; omega)
  have e1' : wrap64 ((2 : Int) ^ al) = (k : Int) := by rw [hkc]; exact IntWalk.wrap64_in _ ⟨by clear hk hkc; omega, by clear hk hkc; omega⟩
  have e2 := IntWalk.i64_in ((fm : Int) + (k : Int)) (by clear hk hkc e1 e1'; omega)
  have hszi : (fm : Int) + (k : Int) + (n : Int) = (sz : Int) := by clear hk hkc e1 e1'; omega
  have e3 : IntKind.i64.wrap ((fm : Int) + (k : Int) + (n : Int)) = (sz : Int) := by rw [hszi]; exact IntWalk.i64_in _ (by clear hk hkc e1 e1'; omega)
  have e4 := IntWalk.i64_in ((a : Int) - (fm : Int)) (by clear hk hkc e1 e1'; omega)
  have ha0 : (0 : Int) ≤ (al : Int) := by clear hk hkc e1 e1'; omega
  have ha1 : (al : Int) ≤ 64 := by clear hk hkc e1 e1'; omega
  have hkz : ¬ (k : Int) = 0 := by clear hk hkc e1 e1'; omega
  have d1 : ¬ (a : Int) < (fm : Int) := by clear hk hkc e1 e1'; omega
  have d1' : decide ((a : Int) < (fm : Int)) = false := decide_eq_false d1
  have d1m : decide (a < fm) = false := decide_eq_false (by clear hk hkc e1 e1'; omega)
  have d2 : ¬ (k : Int) ≤ (a : Int) - (fm : Int) := by clear hk hkc e1 e1'; omega
  have d2' : decide ((k : Int) ≤ (a : Int) - (fm : Int)) = false := decide_eq_false d2
  have w1 : IntKind.i64.wrap (fm : Int) = (fm : Int) := IntWalk.i64_in _ (by clear hk hkc e1 e1'; omega)
  have w2 : IntKind.i64.wrap (n : Int) = (n : Int) := IntWalk.i64_in _ (by clear hk hkc e1 e1'; omega)
  have w3 : IntKind.u64.wrap (al : Int) = (al : Int) := IntWalk.u64_in _ (by clear hk hkc e1 e1'; omega)
  have w4 : IntKind.u32.wrap (al : Int) = (al : Int) := IntWalk.u32_in _ (by clear hk hkc e1 e1'; omega)
  have w5' : IntKind.u8.wrap (al : Int) = (al : Int) := IntWalk.u8_in _ (by clear hk hkc e1 e1'; omega)
  have HNW := Lib.hid (fun (w' : World) (hs : w.heap.size ≤ w'.heap.size) => rnew_ok w' w.heap.size fm sz hfs hz hs)
  have hal2 : al ≤ 20 := by clear hk hkc e1 e1'; omega
  have hn2 : n ≤ 9223372036854775807 := by clear hk hkc e1 e1'; omega
  clear hHN hfind hsz u1 u2 u3 q1 q2 q3 q4 q5 q6 q7 hk hkc hk1 hk2 hk3 hal hale h1 h2 h3 hps ha
  go_enter Try.func3, Try.ntmps3
  go_wp2_with fail
  refine HAW.out.mono ?_
  rintro e w5 ⟨rfl, hS5⟩
  have HS5 := Lib.hid hS5
  clear hS5 HAW
  go_wp2_with fail
  refine (HNW.out _ HS5.out.size).mono ?_
  rintro e w6 ⟨X, rfl, hr, hS6, hX6⟩
  have hS56 := HS5.out.trans hS6
  have HTk := take_walk w6 X none 0 fm sz w.heap.size [] hr hS56.size hfs hz (fun p hp => by cases hp) (by decide) n al 1 hn2 hal2
  rw [HF.out] at HTk
  have HT := Lib.hid HTk
  have HS6 := Lib.hid hS56
  have hX : w.heap.size ≤ X := by have := HS5.out.size; omega
  clear hr hS6 hX6 hS56 HTk HS5 HNW HF
  go_wp2_with fail
  refine HT.out.mono ?_
  rintro e w7 ⟨rfl, A, c, hr, hS7, hm⟩
  have hge : ∀ q, blkOf A = some q → w.heap.size ≤ q := hr.ge
  have HS7 : Hid (Step (fun _ => False) w w7) := HS6.out.trans' hS7 (fun q hq => by
    rcases hq with hq | hq
    · exact .inr (by omega)
    · cases hq)
  have HR7 := Lib.hid hr
  clear hr hS7 hm HT HS6
  simp only
  go_wp2_with fail
  refine (sound_walk _ X A c fm sz _ ps HR7.out HQ1.out hz (by have := HN5.out; omega)).mono ?_
  rintro e w8 ⟨rfl, hS8⟩
  have HS8 := Lib.hid (HS7.out.trans hS8)
  have HR8 := Lib.hid (HR7.out.quiet hS8)
  clear hS8 HR7 HS7
  go_wp2_with fail
  refine (used_walk _ X A c fm sz _ ps HR8.out HQ7.out (by have := HN5.out; omega)).mono ?_
  rintro e w9 ⟨rfl, hS9⟩
  rw [HQ2.out]
  have HS9 := Lib.hid (HS8.out.trans hS9)
  have HR9 := Lib.hid (HR8.out.quiet hS9)
  clear hS9 HR8 HS8
  have n1 : ((n : Int) != (n : Int)) = false := by simp
  have n2 : ((n : Int) == (n : Int)) = true := beq_self_eq_true _
  go_wp2_with fail
  refine (give_walk _ X A c fm sz _ ps HR9.out (by have := HN5.out; omega) HQ7.out 1).mono ?_
  rintro e wa ⟨rfl, hra, hSa⟩
  rw [HQ3.out, HQ2.out]
  rw [HQ4.out] at hra
  have HSa : Hid (Step (fun _ => False) w wa) := HS9.out.trans' hSa (fun q hq => by
    rcases hq with hq | hq
    · exact .inr (by omega)
    · exact .inr (hge q hq))
  have HRa := Lib.hid hra
  clear hra hSa HR9 HS9
  go_wp2_with fail
  refine (used_walk _ X A c fm sz _ [] HRa.out (fun p hp => by cases hp) (by decide)).mono ?_
  rintro e wb ⟨rfl, hSb⟩
  have HSb := Lib.hid (HSa.out.trans hSb)
  have HRb := Lib.hid (HRa.out.quiet hSb)
  clear hSb HRa HSa
  rw [show ((sumP [] : Nat) : Int) = 0 from rfl]
  go_wp2_with fail
  refine (pieces_walk _ X A c fm sz _ [] HRb.out (by decide)).mono ?_
  rintro e wc ⟨D', c', rfl, hown, hSc⟩
  rw [show ([] : List Pc).length = 0 from rfl]
  go_wp2_with fail
  go_ret
  exact ⟨rfl, HSb.out.trans hSc⟩
end Go.Proofs.Ytjpjobpkeejmcaa
