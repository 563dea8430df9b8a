/-
  creellaw47: few.
-/
import Derived.Test.YtflgpjdpofmbkaaCsO
set_option linter.unusedVariables false
set_option linter.unusedSimpArgs false
namespace Go.Proofs.Ytflgpjdpofmbkaa
open Go.RowKit
def Opx.cl (o : Opx) : List Value := o.cells.toList
theorem Opx.len (o : Opx) : o.cl.length = 11 := rfl
/-- Is a call tried? -/
def Opx.fit (o : Opx) : Prop := o.s.length ≤ 100 ∧ o.lo.length ≤ 10 ∧ o.bo.length ≤ 20 ∧ o.t.p.length ≤ 20 ∧ o.t.r.length ≤ 5 ∧ ∀ g ∈ o.bo, g.n ≤ 20
set_option maxRecDepth 100000 in
set_option maxHeartbeats 12800000 in
theorem few_ok (w : World) (A : Option Addr) (n c : Nat) (l : List Opx) (S : Nat → Prop) (HN : Hid (n = l.length)) (hr : Reads w S 11 A n (l.flatMap Opx.cl)) (hbo : ∀ o ∈ l, Reads w S 4 o.A o.bo.length (igs o.bo)) :
    Calls Try.prog 5 #[.slice A n c] w fun e w' => ∃ b, e = .returned (.bool b) ∧ (b = true → n ≤ 25 ∧ ∀ q, q < n → ∀ o, l[q]? = some o → o.fit) ∧ Step (fun _ => False) w w' := by
  have HR := Lib.hid hr
  have HBo := Lib.hid hbo
  clear hr hbo
  obtain ⟨RR, hRR⟩ : ∃ RR : Value → World → Prop, RR = fun v w' => ∃ b, v = .bool b ∧ (b = true → n ≤ 25 ∧ ∀ q, q < n → ∀ o, l[q]? = some o → o.fit) ∧ Step (fun _ => False) w w' := ⟨_, rfl⟩
  have HRR := Lib.hid hRR
  refine (show Calls Try.prog 5 #[.slice A n c] w (fun e w' => ∃ v, e = .returned v ∧ RR v w') from ?_).mono ?h2
  case h2 =>
    rintro e w' ⟨v, rfl, hv⟩
    rw [HRR.out] at hv
    obtain ⟨b, rfl, h1, h2⟩ := hv
    exact ⟨b, rfl, h1, h2⟩
  clear hRR
  by_cases hn : n ≤ 25
  rotate_left
  · have f25 : (25 : Int) < (n : Int) := by omega
    go_enter Try.func5, Try.ntmps5
    go_wp2_with fail
    go_ret
    refine ⟨_, rfl, ?_⟩; rw [HRR.out]; exact ⟨false, rfl, (fun h => by cases h), Step.refl⟩
  have f25 : ¬ (25 : Int) < (n : Int) := by omega
  go_enter Try.func5, Try.ntmps5
  go_wp2_with fail
  go_loopw [3, 4] (fun iv kv wr => ∃ j : Nat, j ≤ n ∧ iv = .int .i64 (j : Int) ∧ Hid (∀ q, q < j → ∀ o, l[q]? = some o → o.fit) ∧ Hid (Step (fun _ => False) w wr)) (fun iv _ _ => n + 1 - (intOf iv).toNat)
  case atStart => exact ⟨0, Nat.zero_le _, rfl, fun q h => absurd h (Nat.not_lt_zero _), Step.refl⟩
  case round =>
    obtain ⟨j, hj, rfl, HP, HSj⟩ := hrel
    by_cases hlt : j < n
    · have g1 : (j : Int) < (n : Int) := by omega
      have i0 : (0 : Int) ≤ (j : Int) := by omega
      have hw1 := IntWalk.i64_in ((j : Int) + 1) (by omega)
      have hjl : j < l.length := by rw [← HN.out]; exact hlt
      obtain ⟨bk, off, rfl, _, hbl, hc⟩ := reads_row Opx.cl 11 (by decide) Opx.len (HR.out.step HSj.out (fun _ _ => id)) (k := j) hjl
      obtain ⟨o, ho⟩ : ∃ o, o = l[j] := ⟨_, rfl⟩
      rw [← ho] at hc
      have HOj : Hid (l[j]? = some o) := by rw [Hid, ho]; exact List.getElem?_eq_getElem hjl
      have t1 := hc 1 _ rfl
      have t4 := hc 4 _ rfl
      have t5 := hc 5 _ rfl
      have t6 := hc 6 _ rfl
      have t7 := hc 7 _ rfl
      try simp only at t1 t4 t5 t6 t7
      clear hc
      have HHo := Lib.hid ho
      clear ho
      have z0 := str_size o.s
      have z1 := str_size o.lo
      have z3 := str_size o.t.p
      have z4 := str_size o.t.r
      obtain ⟨m0, e0⟩ : ∃ m0, m0 = o.s.length := ⟨_, rfl⟩
      obtain ⟨m1, e1⟩ : ∃ m1, m1 = o.lo.length := ⟨_, rfl⟩
      obtain ⟨m2, e2⟩ : ∃ m2, m2 = o.bo.length := ⟨_, rfl⟩
      obtain ⟨m3, e3⟩ : ∃ m3, m3 = o.t.p.length := ⟨_, rfl⟩
      obtain ⟨m4, e4⟩ : ∃ m4, m4 = o.t.r.length := ⟨_, rfl⟩
      rw [← e0] at z0
      rw [← e1] at z1
      rw [← e3] at z3
      rw [← e4] at z4
      rw [← e2] at t7
      by_cases h0 : m0 ≤ 100
      · have f0 : ¬ (100 : Int) < (m0 : Int) := by omega
        by_cases h1 : m1 ≤ 10
        · have f1 : ¬ (10 : Int) < (m1 : Int) := by omega
          by_cases h2 : m2 ≤ 20
          · have f2 : ¬ (20 : Int) < (m2 : Int) := by omega
            by_cases h3 : m3 ≤ 20
            · have f3 : ¬ (20 : Int) < (m3 : Int) := by omega
              by_cases h4 : m4 ≤ 5
              · have f4 : ¬ (5 : Int) < (m4 : Int) := by omega
                have hbr := HBo.out _ (List.getElem_mem hjl)
                rw [← HHo.out] at hbr
                rw [← e2] at hbr
                have HBR := Lib.hid (hbr.step HSj.out (fun _ _ => id))
                have HE2 := Lib.hid e2
                clear hbr
                go_wp2_with fail
                go_loopw [4] (fun iv wq => ∃ i : Nat, i ≤ m2 ∧ iv = .int .i64 (i : Int) ∧ Hid (∀ q, q < i → ∀ g, o.bo[q]? = some g → g.n ≤ 20) ∧ wq = wr) (fun iv _ => m2 + 1 - (intOf iv).toNat)
                case atStart => exact ⟨0, Nat.zero_le _, rfl, fun q h => absurd h (Nat.not_lt_zero _), rfl⟩
                case round =>
                  obtain ⟨i, hi, rfl, HP2, rfl⟩ := hrel
                  by_cases hlt2 : i < m2
                  · have g2 : (i : Int) < (m2 : Int) := by omega
                    have i2 : (0 : Int) ≤ (i : Int) := by omega
                    have hw2 := IntWalk.i64_in ((i : Int) + 1) (by omega)
                    have hil : i < o.bo.length := by rw [← HE2.out]; exact hlt2
                    obtain ⟨bz, ofz, hZ, _, hbz, hcz⟩ := reads_row Ig.cells 4 (by decide) Ig.len HBR.out (k := i) hil
                    obtain ⟨g, hg⟩ : ∃ g, g = o.bo[i] := ⟨_, rfl⟩
                    rw [← hg] at hcz
                    have u3 := hcz 3 _ rfl
                    try simp only at u3
                    rw [hZ] at t7
                    have HZ := Lib.hid hZ
                    have HG : Hid (o.bo[i]? = some g) := by rw [Hid, hg]; exact List.getElem?_eq_getElem hil
                    obtain ⟨gn, hgn⟩ : ∃ gn, gn = g.n := ⟨_, rfl⟩
                    rw [← hgn] at u3
                    have HGN := Lib.hid hgn
                    clear hcz hZ hg hgn
                    by_cases h20 : gn ≤ 20
                    · have f20 : ¬ (20 : Int) < (gn : Int) := by omega
                      go_wp2_with fail
                      go_roundw
                      case rel => exact ⟨i + 1, by omega, by rw [Int.natCast_add]; rfl, fun q hq g' hg' => by
                        rcases Nat.lt_succ_iff_lt_or_eq.1 hq with h1 | h1
                        · exact HP2.out q h1 g' hg'
                        · subst h1
                          rw [HG.out] at hg'
                          injection hg' with hg'
                          rw [← hg', ← HGN.out]
                          exact h20, by first | rfl | trivial⟩
                      case measure => simp [intOf]; omega
                    · have f20 : (20 : Int) < (gn : Int) := by omega
                      go_wp2_with fail
                      go_ret
                      refine ⟨_, rfl, ?_⟩; rw [HRR.out]; exact ⟨false, rfl, (fun h => by cases h), HSj.out⟩
                  · obtain rfl : i = m2 := by omega
                    go_wp2_with fail
                    go_roundw
                    case rel => exact ⟨j + 1, by omega, by rw [Int.natCast_add]; rfl, fun q hq o' ho' => by
                      rcases Nat.lt_succ_iff_lt_or_eq.1 hq with h1 | h1
                      · exact HP.out q h1 o' ho'
                      · subst h1
                        rw [HOj.out] at ho'
                        injection ho' with ho'
                        subst ho'
                        exact ⟨by omega, by omega, by omega, by omega, by omega, fun g hg => by
                          obtain ⟨q2, h3, h4⟩ := List.getElem_of_mem hg
                          exact HP2.out q2 (by omega) g (by rw [List.getElem?_eq_getElem h3, h4])⟩, HSj⟩
                    case measure => simp [intOf]; omega
              · have f4 : (5 : Int) < (m4 : Int) := by omega
                go_wp2_with fail
                go_ret
                refine ⟨_, rfl, ?_⟩; rw [HRR.out]; exact ⟨false, rfl, (fun h => by cases h), HSj.out⟩
            · have f3 : (20 : Int) < (m3 : Int) := by omega
              go_wp2_with fail
              go_ret
              refine ⟨_, rfl, ?_⟩; rw [HRR.out]; exact ⟨false, rfl, (fun h => by cases h), HSj.out⟩
          · have f2 : (20 : Int) < (m2 : Int) := by omega
            go_wp2_with fail
            go_ret
            refine ⟨_, rfl, ?_⟩; rw [HRR.out]; exact ⟨false, rfl, (fun h => by cases h), HSj.out⟩
        · have f1 : (10 : Int) < (m1 : Int) := by omega
          go_wp2_with fail
          go_ret
          refine ⟨_, rfl, ?_⟩; rw [HRR.out]; exact ⟨false, rfl, (fun h => by cases h), HSj.out⟩
      · have f0 : (100 : Int) < (m0 : Int) := by omega
        go_wp2_with fail
        go_ret
        refine ⟨_, rfl, ?_⟩; rw [HRR.out]; exact ⟨false, rfl, (fun h => by cases h), HSj.out⟩
    · obtain rfl : j = n := by omega
      go_wp2_with fail
      go_ret
      refine ⟨_, rfl, ?_⟩; rw [HRR.out]; exact ⟨true, rfl, fun _ => ⟨hn, HP.out⟩, HSj.out⟩
end Go.Proofs.Ytflgpjdpofmbkaa
