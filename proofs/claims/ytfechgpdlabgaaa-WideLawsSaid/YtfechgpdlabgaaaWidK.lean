/-
  creelref19: signed, quotient.
-/
import Derived.Test.YtfechgpdlabgaaaWidJ
set_option linter.unusedVariables false
set_option linter.unusedSimpArgs false
namespace Go.Proofs.Ytfechgpdlabgaaa
open Go.RowKit Wide
def negN (v : Nat) : Nat := (2 ^ 64 - v) % 2 ^ 64
def absN (v : Nat) : Nat := if v.testBit 63 then negN v else v
theorem negN_lt (v : Nat) : negN v < 2 ^ 64 := Nat.mod_lt _ (by decide)
theorem absN_lt {v : Nat} (h : v < 2 ^ 64) : absN v < 2 ^ 64 := by
  unfold absN
  split
  · exact negN_lt v
  · exact h
theorem absN_pos {v : Nat} (h : v < 2 ^ 64) (h0 : 0 < v) : 0 < absN v := by
  unfold absN negN
  split
  · rw [Nat.mod_eq_of_lt (by omega)]; omega
  · exact h0
theorem turned_n (w : World) (S : Nat → Prop) (A : Option Addr) (c v : Nat) (hr : Reads w S 1 A 64 (bools (bs 64 v))) (hv : v < 2 ^ 64) :
    Calls Try.prog 119 #[.slice A 64 c] w (BRet w (negN v)) := (turned_any w S A c v hr hv).mono fun e w' h => by
  obtain ⟨A', c', h1, h2, h3⟩ := h
  refine ⟨A', c', h1, ?_, h3⟩
  rw [← bs_mod] at h2
  rw [show (2 ^ 64 - 1 - v + 0 + true.toNat) % 2 ^ 64 = negN v by unfold negN; rw [show 2 ^ 64 - 1 - v + 0 + true.toNat = 2 ^ 64 - v by simp; omega]] at h2
  exact h2
def sgnQ (a b : Nat) : Nat := if a.testBit 63 != b.testBit 63 then negN (absN a / absN b) else absN a / absN b
def sgnR (a b : Nat) : Nat := if a.testBit 63 then negN (absN a % absN b) else absN a % absN b

set_option maxRecDepth 100000 in
set_option maxHeartbeats 3200000 in
theorem signed_00 (w : World) (ga gb c c' a b : Nat) (ha : w.ownsRow 0 4 1 (.slice (some ⟨ga, 0, none⟩) 64 c) 64 (bools (bs 64 a))) (hb : w.ownsRow 0 4 1 (.slice (some ⟨gb, 0, none⟩) 64 c') 64 (bools (bs 64 b))) (hla : a < 2 ^ 64) (hlb : b < 2 ^ 64) (hpos : 0 < b) (hta : a.testBit 63 = false) (htb : b.testBit 63 = false) :
    Calls Try.prog 109 #[.slice (some ⟨ga, 0, none⟩) 64 c, .slice (some ⟨gb, 0, none⟩) 64 c'] w (DRet w (sgnQ a b) (sgnR a b)) := by
  have hxa : Hid (absN a = a) := by unfold Hid absN; rw [hta]; rfl
  have hxb : Hid (absN b = b) := by unfold Hid absN; rw [htb]; rfl
  have HQ : Hid (sgnQ a b = a / b) := by unfold Hid sgnQ; rw [hta, htb, hxa.out, hxb.out]; rfl
  have HR : Hid (sgnR a b = a % b) := by unfold Hid sgnR; rw [hta, hxa.out, hxb.out]; rfl
  have la := Lib.hid (hxa.out ▸ absN_lt hla)
  have lb := Lib.hid (hxb.out ▸ absN_lt hlb)
  have pb := Lib.hid (hxb.out ▸ absN_pos hlb hpos)
  have HA := Lib.hid hla
  have HB := Lib.hid hlb
  clear hla hlb hpos hxa hxb
  obtain ⟨_, e1, _, gal, hca, _⟩ := row_at ha
  obtain rfl : ga = _ := by injection e1 with e1; injection e1
  obtain ⟨_, e2, _, gbl, hcb, _⟩ := row_at hb
  obtain rfl : gb = _ := by injection e2 with e2; injection e2
  have ca := hca 63 (by omega)
  have cb := hcb 63 (by omega)
  rw [hta] at ca
  rw [htb] at cb
  clear e1 e2 hca hcb hta htb
  go_enter Try.func109, Try.ntmps109
  go_wp2_with fail
  have s0 : Step (fun _ => False) w w := Step.refl
  have s1 := s0
  have ca1 := ca
  have cb1 := cb
  have hb1 := hb
  have h1 := ha
  have ca2 := ca1
  have cb2 := cb1
  have h12 := h1
  have h2 := hb1
  have t2 := s1
  refine (divide_any _ _ _ _ _ _ _ _ _ (Reads.of_own h12) (Reads.of_own h2) la.out lb.out pb.out).mono ?_
  rintro e w3 ⟨A3, c3, A4, c4, rfl, h3, h4, s3⟩
  have ca3 := (s3.cell (p := ⟨ga, 63, none⟩) (Nat.lt_of_lt_of_le gal t2.size) id).trans ca2
  have cb3 := (s3.cell (p := ⟨gb, 63, none⟩) (Nat.lt_of_lt_of_le gbl t2.size) id).trans cb2
  have t3 := t2.trans s3
  have z2 := t2.size
  go_wp2_with fail
  go_quiet (fail)
  have H3 := Lib.hid (own_below h3 (Step.refl.drewN nq))
  have H4 := Lib.hid (own_below h4 (Step.refl.drewN nq))
  have T3 := Lib.hid (t3.drewN nq)
  have ca4 : (w3.drewN nq).cell? ⟨ga, 63, none⟩ = _ := ca3
  clear ca ca1 ca2 ca3 cb cb1 cb2 cb3 h1 h2 h12 h3 h4 s1 s3 t3 t2 s0
  generalize w3.drewN nq = W at *
  go_wp2_with fail
  have ca5 := ca4
  have h5 := H3.out
  have H5 := H4.out
  have T5 := T3.out
  have z5 := T3.out.size
  have h56 := h5
  have h6 := H5
  have T6 := T5
  have z6 := T5.size
  go_ret2
  rw [HQ.out, HR.out]
  exact ⟨_, _, _, _, rfl, own_base h56 (fun k hk => by have := own_ge h56 k hk; omega), own_base h6 (fun k hk => by have := own_ge h6 k hk; omega), T6⟩

set_option maxRecDepth 100000 in
set_option maxHeartbeats 3200000 in
theorem signed_01 (w : World) (ga gb c c' a b : Nat) (ha : w.ownsRow 0 4 1 (.slice (some ⟨ga, 0, none⟩) 64 c) 64 (bools (bs 64 a))) (hb : w.ownsRow 0 4 1 (.slice (some ⟨gb, 0, none⟩) 64 c') 64 (bools (bs 64 b))) (hla : a < 2 ^ 64) (hlb : b < 2 ^ 64) (hpos : 0 < b) (hta : a.testBit 63 = false) (htb : b.testBit 63 = true) :
    Calls Try.prog 109 #[.slice (some ⟨ga, 0, none⟩) 64 c, .slice (some ⟨gb, 0, none⟩) 64 c'] w (DRet w (sgnQ a b) (sgnR a b)) := by
  have hxa : Hid (absN a = a) := by unfold Hid absN; rw [hta]; rfl
  have hxb : Hid (absN b = negN b) := by unfold Hid absN; rw [htb]; rfl
  have HQ : Hid (sgnQ a b = negN (a / negN b)) := by unfold Hid sgnQ; rw [hta, htb, hxa.out, hxb.out]; rfl
  have HR : Hid (sgnR a b = a % negN b) := by unfold Hid sgnR; rw [hta, hxa.out, hxb.out]; rfl
  have la := Lib.hid (hxa.out ▸ absN_lt hla)
  have lb := Lib.hid (hxb.out ▸ absN_lt hlb)
  have pb := Lib.hid (hxb.out ▸ absN_pos hlb hpos)
  have HA := Lib.hid hla
  have HB := Lib.hid hlb
  clear hla hlb hpos hxa hxb
  obtain ⟨_, e1, _, gal, hca, _⟩ := row_at ha
  obtain rfl : ga = _ := by injection e1 with e1; injection e1
  obtain ⟨_, e2, _, gbl, hcb, _⟩ := row_at hb
  obtain rfl : gb = _ := by injection e2 with e2; injection e2
  have ca := hca 63 (by omega)
  have cb := hcb 63 (by omega)
  rw [hta] at ca
  rw [htb] at cb
  clear e1 e2 hca hcb hta htb
  go_enter Try.func109, Try.ntmps109
  go_wp2_with fail
  have s0 : Step (fun _ => False) w w := Step.refl
  have s1 := s0
  have ca1 := ca
  have cb1 := cb
  have hb1 := hb
  have h1 := ha
  refine (turned_n _ _ _ c' b (Reads.of_own hb1) HB.out).mono ?_
  rintro e w2 ⟨A2, c2, rfl, h2, s2⟩
  have ca2 := (s2.cell (p := ⟨ga, 63, none⟩) (Nat.lt_of_lt_of_le gal s1.size) id).trans ca1
  have cb2 := (s2.cell (p := ⟨gb, 63, none⟩) (Nat.lt_of_lt_of_le gbl s1.size) id).trans cb1
  have h12 := own_below h1 s2
  have t2 := s1.trans s2
  go_wp2_with fail
  refine (divide_any _ _ _ _ _ _ _ _ _ (Reads.of_own h12) (Reads.of_own h2) la.out lb.out pb.out).mono ?_
  rintro e w3 ⟨A3, c3, A4, c4, rfl, h3, h4, s3⟩
  have ca3 := (s3.cell (p := ⟨ga, 63, none⟩) (Nat.lt_of_lt_of_le gal t2.size) id).trans ca2
  have cb3 := (s3.cell (p := ⟨gb, 63, none⟩) (Nat.lt_of_lt_of_le gbl t2.size) id).trans cb2
  have t3 := t2.trans s3
  have z2 := t2.size
  go_wp2_with fail
  go_quiet (fail)
  have H3 := Lib.hid (own_below h3 (Step.refl.drewN nq))
  have H4 := Lib.hid (own_below h4 (Step.refl.drewN nq))
  have T3 := Lib.hid (t3.drewN nq)
  have ca4 : (w3.drewN nq).cell? ⟨ga, 63, none⟩ = _ := ca3
  clear ca ca1 ca2 ca3 cb cb1 cb2 cb3 h1 h2 h12 h3 h4 s1 s3 t3 t2 s0
  generalize w3.drewN nq = W at *
  go_wp2_with fail
  refine (turned_n _ _ _ c3 _ (Reads.of_own H3.out) (Nat.lt_of_le_of_lt (Nat.div_le_self _ _) la.out)).mono ?_
  rintro e w5 ⟨A5, c5, rfl, h5, s5⟩
  have ca5 := (s5.cell (p := ⟨ga, 63, none⟩) (Nat.lt_of_lt_of_le gal T3.out.size) id).trans ca4
  have H5 := own_below H4.out s5
  have T5 := T3.out.trans s5
  have z5 := T3.out.size
  go_wp2_with fail
  have h56 := h5
  have h6 := H5
  have T6 := T5
  have z6 := T5.size
  go_ret2
  rw [HQ.out, HR.out]
  exact ⟨_, _, _, _, rfl, own_base h56 (fun k hk => by have := own_ge h56 k hk; omega), own_base h6 (fun k hk => by have := own_ge h6 k hk; omega), T6⟩

set_option maxRecDepth 100000 in
set_option maxHeartbeats 3200000 in
theorem signed_10 (w : World) (ga gb c c' a b : Nat) (ha : w.ownsRow 0 4 1 (.slice (some ⟨ga, 0, none⟩) 64 c) 64 (bools (bs 64 a))) (hb : w.ownsRow 0 4 1 (.slice (some ⟨gb, 0, none⟩) 64 c') 64 (bools (bs 64 b))) (hla : a < 2 ^ 64) (hlb : b < 2 ^ 64) (hpos : 0 < b) (hta : a.testBit 63 = true) (htb : b.testBit 63 = false) :
    Calls Try.prog 109 #[.slice (some ⟨ga, 0, none⟩) 64 c, .slice (some ⟨gb, 0, none⟩) 64 c'] w (DRet w (sgnQ a b) (sgnR a b)) := by
  have hxa : Hid (absN a = negN a) := by unfold Hid absN; rw [hta]; rfl
  have hxb : Hid (absN b = b) := by unfold Hid absN; rw [htb]; rfl
  have HQ : Hid (sgnQ a b = negN (negN a / b)) := by unfold Hid sgnQ; rw [hta, htb, hxa.out, hxb.out]; rfl
  have HR : Hid (sgnR a b = negN (negN a % b)) := by unfold Hid sgnR; rw [hta, hxa.out, hxb.out]; rfl
  have la := Lib.hid (hxa.out ▸ absN_lt hla)
  have lb := Lib.hid (hxb.out ▸ absN_lt hlb)
  have pb := Lib.hid (hxb.out ▸ absN_pos hlb hpos)
  have HA := Lib.hid hla
  have HB := Lib.hid hlb
  clear hla hlb hpos hxa hxb
  obtain ⟨_, e1, _, gal, hca, _⟩ := row_at ha
  obtain rfl : ga = _ := by injection e1 with e1; injection e1
  obtain ⟨_, e2, _, gbl, hcb, _⟩ := row_at hb
  obtain rfl : gb = _ := by injection e2 with e2; injection e2
  have ca := hca 63 (by omega)
  have cb := hcb 63 (by omega)
  rw [hta] at ca
  rw [htb] at cb
  clear e1 e2 hca hcb hta htb
  go_enter Try.func109, Try.ntmps109
  go_wp2_with fail
  have s0 : Step (fun _ => False) w w := Step.refl
  refine (turned_n _ _ _ c a (Reads.of_own ha) HA.out).mono ?_
  rintro e w1 ⟨A1, c1, rfl, h1, s1⟩
  have ca1 := (s1.cell (p := ⟨ga, 63, none⟩) gal id).trans ca
  have cb1 := (s1.cell (p := ⟨gb, 63, none⟩) gbl id).trans cb
  have hb1 := own_below hb s1
  go_wp2_with fail
  have ca2 := ca1
  have cb2 := cb1
  have h12 := h1
  have h2 := hb1
  have t2 := s1
  refine (divide_any _ _ _ _ _ _ _ _ _ (Reads.of_own h12) (Reads.of_own h2) la.out lb.out pb.out).mono ?_
  rintro e w3 ⟨A3, c3, A4, c4, rfl, h3, h4, s3⟩
  have ca3 := (s3.cell (p := ⟨ga, 63, none⟩) (Nat.lt_of_lt_of_le gal t2.size) id).trans ca2
  have cb3 := (s3.cell (p := ⟨gb, 63, none⟩) (Nat.lt_of_lt_of_le gbl t2.size) id).trans cb2
  have t3 := t2.trans s3
  have z2 := t2.size
  go_wp2_with fail
  go_quiet (fail)
  have H3 := Lib.hid (own_below h3 (Step.refl.drewN nq))
  have H4 := Lib.hid (own_below h4 (Step.refl.drewN nq))
  have T3 := Lib.hid (t3.drewN nq)
  have ca4 : (w3.drewN nq).cell? ⟨ga, 63, none⟩ = _ := ca3
  clear ca ca1 ca2 ca3 cb cb1 cb2 cb3 h1 h2 h12 h3 h4 s1 s3 t3 t2 s0
  generalize w3.drewN nq = W at *
  go_wp2_with fail
  refine (turned_n _ _ _ c3 _ (Reads.of_own H3.out) (Nat.lt_of_le_of_lt (Nat.div_le_self _ _) la.out)).mono ?_
  rintro e w5 ⟨A5, c5, rfl, h5, s5⟩
  have ca5 := (s5.cell (p := ⟨ga, 63, none⟩) (Nat.lt_of_lt_of_le gal T3.out.size) id).trans ca4
  have H5 := own_below H4.out s5
  have T5 := T3.out.trans s5
  have z5 := T3.out.size
  go_wp2_with fail
  refine (turned_n _ _ _ c4 _ (Reads.of_own H5) (Nat.lt_of_lt_of_le (Nat.mod_lt _ pb.out) (Nat.le_of_lt lb.out))).mono ?_
  rintro e w6 ⟨A6, c6, rfl, h6, s6⟩
  have h56 := own_below h5 s6
  have T6 := T5.trans s6
  have z6 := T5.size
  go_wp2_with fail
  go_ret2
  rw [HQ.out, HR.out]
  exact ⟨_, _, _, _, rfl, own_base h56 (fun k hk => by have := own_ge h56 k hk; omega), own_base h6 (fun k hk => by have := own_ge h6 k hk; omega), T6⟩

set_option maxRecDepth 100000 in
set_option maxHeartbeats 3200000 in
theorem signed_11 (w : World) (ga gb c c' a b : Nat) (ha : w.ownsRow 0 4 1 (.slice (some ⟨ga, 0, none⟩) 64 c) 64 (bools (bs 64 a))) (hb : w.ownsRow 0 4 1 (.slice (some ⟨gb, 0, none⟩) 64 c') 64 (bools (bs 64 b))) (hla : a < 2 ^ 64) (hlb : b < 2 ^ 64) (hpos : 0 < b) (hta : a.testBit 63 = true) (htb : b.testBit 63 = true) :
    Calls Try.prog 109 #[.slice (some ⟨ga, 0, none⟩) 64 c, .slice (some ⟨gb, 0, none⟩) 64 c'] w (DRet w (sgnQ a b) (sgnR a b)) := by
  have hxa : Hid (absN a = negN a) := by unfold Hid absN; rw [hta]; rfl
  have hxb : Hid (absN b = negN b) := by unfold Hid absN; rw [htb]; rfl
  have HQ : Hid (sgnQ a b = negN a / negN b) := by unfold Hid sgnQ; rw [hta, htb, hxa.out, hxb.out]; rfl
  have HR : Hid (sgnR a b = negN (negN a % negN b)) := by unfold Hid sgnR; rw [hta, hxa.out, hxb.out]; rfl
  have la := Lib.hid (hxa.out ▸ absN_lt hla)
  have lb := Lib.hid (hxb.out ▸ absN_lt hlb)
  have pb := Lib.hid (hxb.out ▸ absN_pos hlb hpos)
  have HA := Lib.hid hla
  have HB := Lib.hid hlb
  clear hla hlb hpos hxa hxb
  obtain ⟨_, e1, _, gal, hca, _⟩ := row_at ha
  obtain rfl : ga = _ := by injection e1 with e1; injection e1
  obtain ⟨_, e2, _, gbl, hcb, _⟩ := row_at hb
  obtain rfl : gb = _ := by injection e2 with e2; injection e2
  have ca := hca 63 (by omega)
  have cb := hcb 63 (by omega)
  rw [hta] at ca
  rw [htb] at cb
  clear e1 e2 hca hcb hta htb
  go_enter Try.func109, Try.ntmps109
  go_wp2_with fail
  have s0 : Step (fun _ => False) w w := Step.refl
  refine (turned_n _ _ _ c a (Reads.of_own ha) HA.out).mono ?_
  rintro e w1 ⟨A1, c1, rfl, h1, s1⟩
  have ca1 := (s1.cell (p := ⟨ga, 63, none⟩) gal id).trans ca
  have cb1 := (s1.cell (p := ⟨gb, 63, none⟩) gbl id).trans cb
  have hb1 := own_below hb s1
  go_wp2_with fail
  refine (turned_n _ _ _ c' b (Reads.of_own hb1) HB.out).mono ?_
  rintro e w2 ⟨A2, c2, rfl, h2, s2⟩
  have ca2 := (s2.cell (p := ⟨ga, 63, none⟩) (Nat.lt_of_lt_of_le gal s1.size) id).trans ca1
  have cb2 := (s2.cell (p := ⟨gb, 63, none⟩) (Nat.lt_of_lt_of_le gbl s1.size) id).trans cb1
  have h12 := own_below h1 s2
  have t2 := s1.trans s2
  go_wp2_with fail
  refine (divide_any _ _ _ _ _ _ _ _ _ (Reads.of_own h12) (Reads.of_own h2) la.out lb.out pb.out).mono ?_
  rintro e w3 ⟨A3, c3, A4, c4, rfl, h3, h4, s3⟩
  have ca3 := (s3.cell (p := ⟨ga, 63, none⟩) (Nat.lt_of_lt_of_le gal t2.size) id).trans ca2
  have cb3 := (s3.cell (p := ⟨gb, 63, none⟩) (Nat.lt_of_lt_of_le gbl t2.size) id).trans cb2
  have t3 := t2.trans s3
  have z2 := t2.size
  go_wp2_with fail
  go_quiet (fail)
  have H3 := Lib.hid (own_below h3 (Step.refl.drewN nq))
  have H4 := Lib.hid (own_below h4 (Step.refl.drewN nq))
  have T3 := Lib.hid (t3.drewN nq)
  have ca4 : (w3.drewN nq).cell? ⟨ga, 63, none⟩ = _ := ca3
  clear ca ca1 ca2 ca3 cb cb1 cb2 cb3 h1 h2 h12 h3 h4 s1 s3 t3 t2 s0
  generalize w3.drewN nq = W at *
  go_wp2_with fail
  have ca5 := ca4
  have h5 := H3.out
  have H5 := H4.out
  have T5 := T3.out
  have z5 := T3.out.size
  refine (turned_n _ _ _ c4 _ (Reads.of_own H5) (Nat.lt_of_lt_of_le (Nat.mod_lt _ pb.out) (Nat.le_of_lt lb.out))).mono ?_
  rintro e w6 ⟨A6, c6, rfl, h6, s6⟩
  have h56 := own_below h5 s6
  have T6 := T5.trans s6
  have z6 := T5.size
  go_wp2_with fail
  go_ret2
  rw [HQ.out, HR.out]
  exact ⟨_, _, _, _, rfl, own_base h56 (fun k hk => by have := own_ge h56 k hk; omega), own_base h6 (fun k hk => by have := own_ge h6 k hk; omega), T6⟩

theorem signed_any (w : World) (ga gb c c' a b : Nat) (ha : w.ownsRow 0 4 1 (.slice (some ⟨ga, 0, none⟩) 64 c) 64 (bools (bs 64 a))) (hb : w.ownsRow 0 4 1 (.slice (some ⟨gb, 0, none⟩) 64 c') 64 (bools (bs 64 b))) (hla : a < 2 ^ 64) (hlb : b < 2 ^ 64) (hpos : 0 < b) :
    Calls Try.prog 109 #[.slice (some ⟨ga, 0, none⟩) 64 c, .slice (some ⟨gb, 0, none⟩) 64 c'] w (DRet w (sgnQ a b) (sgnR a b)) := by
  cases hta : a.testBit 63 <;> cases htb : b.testBit 63
  · exact signed_00 w ga gb c c' a b ha hb hla hlb hpos hta htb
  · exact signed_01 w ga gb c c' a b ha hb hla hlb hpos hta htb
  · exact signed_10 w ga gb c c' a b ha hb hla hlb hpos hta htb
  · exact signed_11 w ga gb c c' a b ha hb hla hlb hpos hta htb
end Go.Proofs.Ytfechgpdlabgaaa
