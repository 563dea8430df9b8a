/-
  region: Find.
-/
import Derived.Test.YtjpjobpkeejmcaaRgE
set_option linter.unusedVariables false
set_option linter.unusedSimpArgs false
namespace Go.Proofs.Ytjpjobpkeejmcaa
open Go.RowKit

/-- Where there is room ahead of a piece; else the place behind all of them. -/
def findL (n al : Nat) : Nat → List Pc → Nat × Bool
  | a, [] => (a, false)
  | a, p :: l => if a ≤ p.at_ ∧ n ≤ p.at_ - a then (a, true) else findL n al (max a (upN (p.at_ + p.len) al)) l
def findF (fm sz n al : Nat) (ps : List Pc) : Nat × Bool :=
  ((findL n al (upN fm al) ps).1, (findL n al (upN fm al) ps).2 || decide ((findL n al (upN fm al) ps).1 ≤ sz ∧ n ≤ sz - (findL n al (upN fm al) ps).1))
theorem upN_le (n al : Nat) (ha : al ≤ 20) : upN n al ≤ n + 1048576 := by
  obtain ⟨h1, h2, _⟩ := two_pow al ha
  have h3 := (up_plain n (2 ^ al) _ h1 rfl).1
  rw [upN]
  generalize 2 ^ al = k at h1 h2 h3 ⊢
  generalize (n + k - 1) / k * k = u at h3 ⊢
  omega
theorem findL_le (n al sz : Nat) (ha : al ≤ 20) : ∀ (l : List Pc) (a : Nat), a ≤ sz + 1048576 → (∀ p ∈ l, p.at_ + p.len ≤ sz) → (findL n al a l).1 ≤ sz + 1048576
  | [], a, h, _ => h
  | p :: l, a, h, hl => by
    rw [findL]
    split
    · exact h
    · have h1 := upN_le (p.at_ + p.len) al ha
      have h2 := hl p (by simp)
      exact findL_le n al sz ha l _ (by omega) (fun q hq => hl q (by simp [hq]))

set_option maxRecDepth 100000 in
set_option maxHeartbeats 3200000 in
theorem find_bad (w : World) (X : Nat) (n : Int) (al : Nat) (h : n < 0 ∨ 20 < al) :
    Calls Try.prog 20 #[.pointer (some ⟨X, 0, none⟩), .int .i64 n, .int .u32 (al : Int)] w fun e w' => e = .returned (.tuple #[.int .i64 0, .bool false]) ∧ w' = w := by
  by_cases g1 : n < 0
  · have g1' : decide (n < 0) = true := decide_eq_true g1
    go_enter Try.func20, Try.ntmps20
    go_wp2_with fail
    go_ret2
    exact ⟨rfl, rfl⟩
  · have g1' : decide (n < 0) = false := decide_eq_false g1
    have g2 : (20 : Int) < (al : Int) := by omega
    have g2' : decide ((20 : Int) < (al : Int)) = true := decide_eq_true g2
    go_enter Try.func20, Try.ntmps20
    go_wp2_with fail
    go_ret2
    exact ⟨rfl, rfl⟩

set_option maxRecDepth 100000 in
set_option maxHeartbeats 6400000 in
theorem find_walk (w : World) (X : Nat) (A : Option Addr) (c fm sz B : Nat) (ps : List Pc) (h : Rm w X A c fm sz B ps) (hfs : fm ≤ sz) (hz : sz ≤ 1073741824) (hps : ∀ p ∈ ps, p.at_ + p.len ≤ sz) (hn : ps.length ≤ 1000000) (n al : Nat) (hnn : n ≤ 9223372036854775807) (ha : al ≤ 20) :
    Calls Try.prog 20 #[.pointer (some ⟨X, 0, none⟩), .int .i64 (n : Int), .int .u32 (al : Int)] w fun e w' => e = .returned (.tuple #[.int .i64 ((findF fm sz n al ps).1 : Int), .bool (findF fm sz n al ps).2]) ∧ Step (fun _ => False) w w' := by
  have HH := Lib.hid h
  have HR := Lib.hid h.rd
  have x0 := h.c0
  have x2 := h.c2
  have HPS := Lib.hid hps
  have g1 : ¬ (n : Int) < 0 := by omega
  have g1' : decide ((n : Int) < 0) = false := decide_eq_false g1
  have g2 : ¬ (20 : Int) < (al : Int) := by omega
  have g2' : decide ((20 : Int) < (al : Int)) = false := decide_eq_false g2
  have HU : Hid (∀ (w : World) (m : Nat), m ≤ 4294967296 → Calls Try.prog 31 #[.int .i64 (m : Int), .int .u32 (al : Int)] w fun e w' => e = .returned (.int .i64 (upN m al : Int)) ∧ w' = w) := fun w m hm => up_walk w m al hm ha
  have HUL : Hid (∀ m : Nat, upN m al ≤ m + 1048576) := fun m => upN_le m al ha
  clear h hps
  obtain ⟨m, hm⟩ : ∃ m, m = ps.length := ⟨_, rfl⟩
  rw [← hm] at x2 hn HR
  have HN := Lib.hid hm
  clear hm
  rw [findF]
  obtain ⟨a0, ha0⟩ : ∃ a0, a0 = upN fm al := ⟨_, rfl⟩
  have hu0 := HUL.out fm
  rw [← ha0] at hu0 ⊢
  obtain ⟨RR, hRR⟩ : ∃ RR, RR = findL n al a0 ps := ⟨_, rfl⟩
  rw [← hRR]
  have HRR : Hid (RR = findL n al a0 (ps.drop 0)) := hRR
  have HU0 := HU.out w fm (by omega)
  rw [← ha0] at HU0
  have HA0 := Lib.hid HU0
  clear hRR ha0 HU0
  go_enter Try.func20, Try.ntmps20
  go_wp2_with fail
  refine HA0.out.mono ?_
  rintro e w5 ⟨rfl, hw5⟩
  subst w5
  go_wp2_with fail
  go_loopw [8, 28] (fun av iv wr => ∃ (j aj : Nat), j ≤ m ∧ av = .int .i64 (aj : Int) ∧ iv = .int .i64 (j : Int) ∧ aj ≤ sz + 1048576 ∧ Hid (RR = findL n al aj (ps.drop j)) ∧ Hid (Step (fun _ => False) w wr)) (fun _ iv _ => m + 1 - (intOf iv).toNat)
  case atStart => exact ⟨0, a0, by omega, rfl, rfl, by omega, HRR, Step.refl⟩
  case round =>
    obtain ⟨j, aj, hj, rfl, rfl, haj, HRj, HSj⟩ := hrel
    clear x0 x2 HRR
    by_cases hlt : j < m
    · have q1 : (j : Int) < (m : Int) := by omega
      have i0 : (0 : Int) ≤ (j : Int) := by omega
      have hw1 := IntWalk.i64_in ((j : Int) + 1) (by omega)
      have hjl : j < ps.length := by rw [← HN.out]; exact hlt
      obtain ⟨bk, off, rfl, _, hbl, hc⟩ := reads_row Pc.cells 3 (by decide) Pc.three (HR.out.step HSj.out (fun _ _ => id)) (k := j) hjl
      have hpz := HPS.out ps[j] (List.getElem_mem hjl)
      have HD : Hid (ps.drop j = ps[j] :: ps.drop (j + 1)) := List.drop_eq_getElem_cons hjl
      generalize ps[j] = p at hc hpz HD
      obtain ⟨a, l, o⟩ := p
      have c0 := hc 0 _ rfl
      have c1 := hc 1 _ rfl
      have c2 := hc 2 _ rfl
      simp only [Nat.add_zero] at c0 c1 c2 hpz
      clear hc
      have HRc : Hid (RR = if aj ≤ a ∧ n ≤ a - aj then (aj, true) else findL n al (max aj (upN (a + l) al)) (ps.drop (j + 1))) := by
        rw [Hid, HRj.out, HD.out, findL]
      have hws := IntWalk.i64_in ((a : Int) - (aj : Int)) (by omega)
      by_cases hcond : aj ≤ a ∧ n ≤ a - aj
      · have e1 : RR = (aj, true) := by rw [HRc.out, if_pos hcond]
        obtain ⟨h1, h2⟩ := hcond
        have d1 : (aj : Int) ≤ (a : Int) := by omega
        have d1' : decide ((aj : Int) ≤ (a : Int)) = true := decide_eq_true d1
        have d1n : decide (aj ≤ a) = true := decide_eq_true h1
        have d2 : (n : Int) ≤ (a : Int) - (aj : Int) := by omega
        have d2' : decide ((n : Int) ≤ (a : Int) - (aj : Int)) = true := decide_eq_true d2
        clear HRc HRj
        go_wp2_with fail
        go_ret2
        subst e1
        exact ⟨by simp, HSj.out.alloc _⟩
      · have HR2 : Hid (RR = findL n al (max aj (upN (a + l) al)) (ps.drop (j + 1))) := by rw [Hid, HRc.out, if_neg hcond]
        clear HRc HRj
        have HPE : Hid (∀ w, Calls Try.prog 25 #[.agg #[.int .i64 (a : Int), .int .i64 (l : Int), .int .i64 o]] w fun e w' => e = .returned (.int .i64 ((a + l : Nat) : Int)) ∧ Step (fun _ => False) w w') := fun w => pend_walk w a l o (by omega)
        have HUE : Hid (∀ w, Calls Try.prog 31 #[.int .i64 ((a + l : Nat) : Int), .int .u32 (al : Int)] w fun e w' => e = .returned (.int .i64 (upN (a + l) al : Int)) ∧ w' = w) := fun w => HU.out w (a + l) (by omega)
        have hul := HUL.out (a + l)
        obtain ⟨q, hq⟩ : ∃ q, q = a + l := ⟨_, rfl⟩
        rw [← hq] at HPE HUE HR2 hul hpz
        obtain ⟨u, hu⟩ : ∃ u, u = upN q al := ⟨_, rfl⟩
        rw [← hu] at HUE HR2 hul
        clear hq hu
        have hif : (if aj < u then (u : Int) else (aj : Int)) = ((max aj u : Nat) : Int) := by split <;> omega
        have hHB := Blk.new wr 47 #[.int .i64 (a : Int), .int .i64 (l : Int), .int .i64 o]
        by_cases h1 : aj ≤ a
        · have h2 : ¬ n ≤ a - aj := fun h => hcond ⟨h1, h⟩
          have d1 : (aj : Int) ≤ (a : Int) := by omega
          have d1' : decide ((aj : Int) ≤ (a : Int)) = true := decide_eq_true d1
          have d1n : decide (aj ≤ a) = true := decide_eq_true h1
          have d2 : ¬ (n : Int) ≤ (a : Int) - (aj : Int) := by omega
          have d2' : decide ((n : Int) ≤ (a : Int) - (aj : Int)) = false := decide_eq_false d2
          clear hcond h1 h2
          go_wp2_with fail
          refine (HPE.out _).mono ?_
          rintro e we ⟨rfl, hSe⟩
          go_wp2_with fail
          refine (HUE.out _).mono ?_
          rintro e wf ⟨rfl, hwf⟩
          subst wf
          go_wp2_with fail
          go_roundw
          case rel => exact ⟨j + 1, max aj u, by omega, by first | rfl | exact congrArg (Value.int .i64) hif, by rw [Int.natCast_add]; rfl, by omega, HR2, (HSj.out.alloc _).trans hSe⟩
          case measure => simp [intOf]; omega
        · have d1 : ¬ (aj : Int) ≤ (a : Int) := by omega
          have d1' : decide ((aj : Int) ≤ (a : Int)) = false := decide_eq_false d1
          have d1n : decide (aj ≤ a) = false := decide_eq_false h1
          clear hcond
          go_wp2_with fail
          refine (HPE.out _).mono ?_
          rintro e we ⟨rfl, hSe⟩
          go_wp2_with fail
          refine (HUE.out _).mono ?_
          rintro e wf ⟨rfl, hwf⟩
          subst wf
          go_wp2_with fail
          go_roundw
          case rel => exact ⟨j + 1, max aj u, by omega, by first | rfl | exact congrArg (Value.int .i64) hif, by rw [Int.natCast_add]; rfl, by omega, HR2, (HSj.out.alloc _).trans hSe⟩
          case measure => simp [intOf]; omega
    · obtain rfl : j = m := by omega
      have HRe : Hid (RR = (aj, false)) := by
        rw [Hid, HRj.out, List.drop_of_length_le (by rw [← HN.out]; exact Nat.le_refl _)]
        rfl
      have x1 := (HH.out.quiet HSj.out).c1
      have hws := IntWalk.i64_in ((sz : Int) - (aj : Int)) (by omega)
      clear HRj
      by_cases h1 : aj ≤ sz
      · have d1 : (aj : Int) ≤ (sz : Int) := by omega
        have d1' : decide ((aj : Int) ≤ (sz : Int)) = true := decide_eq_true d1
        have d1n : decide (aj ≤ sz) = true := decide_eq_true h1
        by_cases h2 : n ≤ sz - aj
        · have d2 : (n : Int) ≤ (sz : Int) - (aj : Int) := by omega
          have d2' : decide ((n : Int) ≤ (sz : Int) - (aj : Int)) = true := decide_eq_true d2
          have e2 : decide (aj ≤ sz ∧ n ≤ sz - aj) = true := decide_eq_true ⟨h1, h2⟩
          go_wp2_with fail
          go_quiet (fail)
          go_wp2_with fail
          go_ret2
          rw [HRe.out]
          exact ⟨by simp [h1, h2], HSj.out.drewN _⟩
        · have d2 : ¬ (n : Int) ≤ (sz : Int) - (aj : Int) := by omega
          have d2' : decide ((n : Int) ≤ (sz : Int) - (aj : Int)) = false := decide_eq_false d2
          go_wp2_with fail
          go_quiet (fail)
          go_wp2_with fail
          go_ret2
          rw [HRe.out]
          exact ⟨by simp [h1, h2], HSj.out.drewN _⟩
      · have d1 : ¬ (aj : Int) ≤ (sz : Int) := by omega
        have d1' : decide ((aj : Int) ≤ (sz : Int)) = false := decide_eq_false d1
        have d1n : decide (aj ≤ sz) = false := decide_eq_false h1
        go_wp2_with fail
        go_quiet (fail)
        go_wp2_with fail
        go_ret2
        rw [HRe.out]
        exact ⟨by simp [h1], HSj.out.drewN _⟩
end Go.Proofs.Ytjpjobpkeejmcaa
