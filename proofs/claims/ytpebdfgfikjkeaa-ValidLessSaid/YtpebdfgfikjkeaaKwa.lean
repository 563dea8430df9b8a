/-
  Kwa: KvA, KvB.
-/
import Derived.Test.YtpebdfgfikjkeaaRr
import Derived.Test.YtpebdfgfikjkeaaByt
set_option linter.unusedVariables false
set_option linter.unusedSimpArgs false
/-! utf: class, First. -/
namespace Go.Proofs.Ytpebdfgfikjkeaa
open Go.RowKit

def clsF (c : Int) : Int × Int := if c < 128 then (0, c) else if 194 ≤ c ∧ c < 224 then (1, c % 32) else if 224 ≤ c ∧ c < 240 then (2, c % 16) else if 240 ≤ c ∧ c < 245 then (3, c % 8) else (-1, 0)
theorem clsF_rng (c : Int) : -1 ≤ (clsF c).1 ∧ (clsF c).1 ≤ 3 := by
  unfold clsF
  repeat' split
  all_goals simp
set_option maxRecDepth 100000 in
set_option maxHeartbeats 800000 in
theorem u_class (w : World) (c : Nat) (hc : c < 256) : Calls Try.prog 97 #[.int .u8 (c : Int)] w fun e w' => e = .returned (.tuple #[.int .i64 (clsF c).1, .int .u32 (clsF c).2]) ∧ w = w' := by
  have hw := IntWalk.u32_in (c : Int) (by omega)
  by_cases h1 : (c : Int) < 128
  · have HG : Hid (clsF c = (0, (c : Int))) := if_pos h1
    go_enter Try.func97, Try.ntmps97
    go_wp2_with fail
    go_ret2
    rw [HG.out]
    exact ⟨rfl, rfl⟩
  have hg1 : clsF c = _ := if_neg h1
  by_cases h2 : (194 : Int) ≤ (c : Int) ∧ (c : Int) < 224
  · rw [if_pos h2] at hg1
    have HG := Lib.hid hg1
    obtain ⟨a1, a2⟩ := h2
    clear hg1
    go_enter Try.func97, Try.ntmps97
    go_wp2_with fail
    go_ret2
    rw [HG.out]
    exact ⟨rfl, rfl⟩
  rw [if_neg h2] at hg1
  by_cases h3 : (224 : Int) ≤ (c : Int) ∧ (c : Int) < 240
  · rw [if_pos h3] at hg1
    have HG := Lib.hid hg1
    obtain ⟨a1, a2⟩ := h3
    have a3 : ¬ (c : Int) < 224 := by omega
    clear hg1 h2
    go_enter Try.func97, Try.ntmps97
    go_wp2_with fail
    go_ret2
    rw [HG.out]
    exact ⟨rfl, rfl⟩
  rw [if_neg h3] at hg1
  by_cases h4 : (240 : Int) ≤ (c : Int) ∧ (c : Int) < 245
  · rw [if_pos h4] at hg1
    have HG := Lib.hid hg1
    obtain ⟨a1, a2⟩ := h4
    have a3 : ¬ (c : Int) < 224 := by omega
    have a4 : ¬ (c : Int) < 240 := by omega
    clear hg1 h2 h3
    go_enter Try.func97, Try.ntmps97
    go_wp2_with fail
    go_ret2
    rw [HG.out]
    exact ⟨rfl, rfl⟩
  rw [if_neg h4] at hg1
  have HG := Lib.hid hg1
  clear hg1
  rcases (show (c : Int) < 194 ∨ (¬ (c : Int) < 245 ∧ ¬ (c : Int) < 240 ∧ ¬ (c : Int) < 224 ∧ (240 : Int) ≤ c ∧ (224 : Int) ≤ c ∧ (194 : Int) ≤ c) by omega) with a | ⟨a1, a2, a3, a4, a5, a6⟩
  · have b1 : ¬ (194 : Int) ≤ (c : Int) := by omega
    have b2 : ¬ (224 : Int) ≤ (c : Int) := by omega
    have b3 : ¬ (240 : Int) ≤ (c : Int) := by omega
    clear h2 h3 h4 a
    go_enter Try.func97, Try.ntmps97
    go_wp2_with fail
    go_ret2
    rw [HG.out]
    exact ⟨rfl, rfl⟩
  · clear h2 h3 h4
    go_enter Try.func97, Try.ntmps97
    go_wp2_with fail
    go_ret2
    rw [HG.out]
    exact ⟨rfl, rfl⟩

theorem reads_u8 {w : World} {S : Nat → Prop} {A : Option Addr} {m : Nat} {l : List UInt8} (h : Reads w S 1 A m (u8s l)) {k : Nat} (hk : k < l.length) :
    ∃ b off, A = some ⟨b, off, none⟩ ∧ S b ∧ b < w.heap.size ∧ w.cell? ⟨b, off + k, none⟩ = some (.int .u8 (l[k].toNat : Int)) := by
  have e : ∀ l : List UInt8, u8s l = l.flatMap fun x : UInt8 => [Value.int .u8 (x.toNat : Int)] := fun l => by
    induction l with
    | nil => rfl
    | cons x l ih => rw [List.flatMap_cons, ← ih]; rfl
  rw [e] at h
  obtain ⟨b, off, h1, h2, h3, h4⟩ := reads_row (fun x : UInt8 => [Value.int .u8 (x.toNat : Int)]) 1 (by decide) (fun _ => rfl) h hk
  have h5 := h4 0 _ rfl
  rw [Nat.mul_one, Nat.add_zero] at h5
  exact ⟨b, off, h1, h2, h3, h5⟩
/-- What the bytes behind the first one come to. -/
def contF : List UInt8 → Int → Option Int
  | [], v => some v
  | c :: l, v => if ((c.toNat : Int) / 64) = 2 then contF l (bits .or .u32 (v * 64 % 4294967296) ((c.toNat : Int) % 64)) else none
def badF (n v : Int) : Bool := (n == 2 && (decide (v < 2048) || (v / 2048 == 27))) || (n == 3 && (decide (v < 65536) || decide (1114111 < v)))
def fst2 (n v : Int) : Int × Int := if badF n v = true then (0, 0) else (wrap32 v, n + 1)
def firstF : List UInt8 → Int × Int
  | [] => (0, 0)
  | c :: r => if (clsF c.toNat).1 < 0 ∨ (r.length : Int) < (clsF c.toNat).1 then (0, 0) else match contF (r.take (clsF c.toNat).1.toNat) (clsF c.toNat).2 with
    | none => (0, 0)
    | some v => fst2 (clsF c.toNat).1 v
set_option maxRecDepth 100000 in
set_option maxHeartbeats 800000 in
theorem u_first (w : World) (A : Option Addr) (m cc : Nat) (l : List UInt8) (S : Nat → Prop) (hr : Reads w S 1 A m (u8s l)) (HM : Hid (m = l.length)) (hm : m ≤ 1000) (hcc : m ≤ cc) :
    Calls Try.prog 96 #[.slice A m cc] w fun e w' => e = .returned (.tuple #[.int .i32 (firstF l).1, .int .i64 (firstF l).2]) ∧ w = w' := by
  rcases l with _ | ⟨c, r⟩
  · have hm0 : m = 0 := HM.out
    subst hm0
    go_enter Try.func96, Try.ntmps96
    go_wp2_with fail
    go_ret2
    exact ⟨rfl, rfl⟩
  · have hml : m = r.length + 1 := HM.out
    subst hml
    obtain ⟨b, off, rfl, _, hbl, hc0⟩ := reads_u8 hr (k := 0) (by simp)
    replace hc0 : w.cell? ⟨b, off, none⟩ = some (.int .u8 (c.toNat : Int)) := hc0
    have HCL := Lib.hid (u_class w c.toNat c.toNat_lt)
    have hg : firstF (c :: r) = if (clsF c.toNat).1 < 0 ∨ (r.length : Int) < (clsF c.toNat).1 then (0, 0) else match contF (r.take (clsF c.toNat).1.toNat) (clsF c.toNat).2 with
      | none => (0, 0)
      | some v => fst2 (clsF c.toNat).1 v := rfl
    have hrng := clsF_rng c.toNat
    generalize clsF c.toNat = q at HCL hg hrng
    obtain ⟨n, v⟩ := q
    simp only at HCL hg hrng
    have n0 : ((r.length : Int) + 1 == 0) = false := beq_eq_false_iff_ne.2 (by omega)
    have i1 : (0 : Int) < (r.length : Int) + 1 := by omega
    have HR := Lib.hid hr
    clear hr
    by_cases h1 : n < 0
    · have HG : Hid (firstF (c :: r) = (0, 0)) := by rw [Hid, hg, if_pos (.inl h1)]
      clear hg
      go_enter Try.func96, Try.ntmps96
      go_wp2_with fail
      refine HCL.out.mono ?_
      rintro e w1 ⟨rfl, hw⟩
      have hW := Lib.hid hw
      clear hw
      go_wp2_with fail
      go_ret2
      rw [HG.out]
      exact ⟨rfl, hW.out⟩
    have hg1 : firstF (c :: r) = _ := hg
    by_cases h2 : (r.length : Int) < n
    · have HG : Hid (firstF (c :: r) = (0, 0)) := by rw [Hid, hg, if_pos (.inr h2)]
      have g2 : (r.length : Int) + 1 ≤ n := by omega
      clear hg hg1
      go_enter Try.func96, Try.ntmps96
      go_wp2_with fail
      refine HCL.out.mono ?_
      rintro e w1 ⟨rfl, hw⟩
      have hW := Lib.hid hw
      clear hw
      go_wp2_with fail
      go_ret2
      rw [HG.out]
      exact ⟨rfl, hW.out⟩
    rw [if_neg (by omega)] at hg
    obtain ⟨k, rfl⟩ : ∃ k : Nat, n = (k : Int) := ⟨n.toNat, by omega⟩
    rw [Int.toNat_natCast] at hg
    have g2 : ¬ (r.length : Int) + 1 ≤ (k : Int) := by omega
    have hw1 := IntWalk.i64_in ((k : Int) + 1) (by omega)
    have hsl := slice_lhn E_u8 (some ⟨b, off, none⟩) (r.length + 1) cc .i64 .i64 1 ((k : Int) + 1) 1 (k + 1) k (cc - 1) rfl (by omega) (by omega) (by omega) (by omega) rfl
    have hrk : Reads w S 1 (cutA (some ⟨b, off, none⟩) cc 1 1) k (u8s (r.take k)) := by
      have h3 := (HR.out.cut (k := 1) (cap := cc) (by omega) hcc)
      have h4 : (u8s (c :: r)).drop (1 * 1) = u8s r := rfl
      rw [h4, show r.length + 1 - 1 = r.length by omega] at h3
      have h5 := h3.take (k := k) (by omega)
      rw [← u8s_take] at h5
      simp only [Nat.mul_one] at h5
      exact h5
    have hlk : (r.take k).length = k := by rw [List.length_take]; omega
    have HRK := Lib.hid hrk
    generalize cutA (some ⟨b, off, none⟩) cc 1 1 = A2 at hsl HRK
    generalize r.take k = rk at hg HRK hlk
    replace hlk := Lib.hid hlk.symm
    have HG := Lib.hid hg
    clear hg hg1 hrk h1 h2 hrng
    go_enter Try.func96, Try.ntmps96
    go_wp2_with fail
    refine HCL.out.mono ?_
    rintro e w1 ⟨rfl, hw⟩
    subst hw
    go_wp2_with fail
    go_loopw [31, 5] (fun iv vv wr => ∃ (j : Nat) (v' : Int), j ≤ k ∧ iv = .int .i64 (j : Int) ∧ vv = .int .u32 v' ∧ Hid (contF rk v = contF (rk.drop j) v') ∧ Hid (w = wr)) (fun iv _ _ => k + 1 - (intOf iv).toNat)
    case atStart => exact ⟨0, v, by omega, rfl, rfl, rfl, rfl⟩
    case round =>
      obtain ⟨j, v', hj, rfl, rfl, HI, HW⟩ := hrel
      have hw := HW.out
      subst hw
      by_cases hlt : j < k
      · have q1 : (j : Int) < (k : Int) := by omega
        have i0 : (0 : Int) ≤ (j : Int) := by omega
        have hw2 := IntWalk.i64_in ((j : Int) + 1) (by omega)
        obtain ⟨b2, off2, hA2, _, hb2, hc2⟩ := reads_u8 HRK.out (k := j) (by rw [← hlk.out]; exact hlt)
        subst hA2
        have HD : Hid (rk.drop j = rk[j]'(by rw [← hlk.out]; exact hlt) :: rk.drop (j + 1)) := List.drop_eq_getElem_cons _
        have hxl := (rk[j]'(by rw [← hlk.out]; exact hlt)).toNat_lt
        generalize rk[j]'(by rw [← hlk.out]; exact hlt) = x at hc2 HD hxl
        have HU : Hid (contF (x :: rk.drop (j + 1)) v' = if ((x.toNat : Int) / 64) = 2 then contF (rk.drop (j + 1)) (bits .or .u32 (v' * 64 % 4294967296) ((x.toNat : Int) % 64)) else none) := rfl
        by_cases hx : (x.toNat : Int) / 64 = 2
        · have e1 : ((x.toNat : Int) / 64 != 2) = false := by simpa using hx
          have HI2 : Hid (contF rk v = contF (rk.drop (j + 1)) (bits .or .u32 (v' * 64 % 4294967296) ((x.toNat : Int) % 64))) := by unfold Hid; rw [HI.out, HD.out, HU.out, if_pos hx]
          clear hx
          go_wp2_with fail
          go_roundw
          case rel => exact ⟨j + 1, _, by omega, by rw [Int.natCast_add]; rfl, rfl, HI2, trivial⟩
          case measure => simp [intOf]; omega
        · have e1 : ((x.toNat : Int) / 64 != 2) = true := by simpa using hx
          have HI2 : Hid (contF rk v = none) := by unfold Hid; rw [HI.out, HD.out, HU.out, if_neg hx]
          clear hx
          go_wp2_with fail
          go_ret2
          rw [HG.out, HI2.out]
          exact ⟨rfl, rfl⟩
      · obtain rfl : j = k := by omega
        have HI2 : Hid (contF rk v = some v') := by unfold Hid; rw [HI.out, hlk.out, List.drop_length]; rfl
        replace HI2 := HI2
        by_cases q2 : (j : Int) = 2
        · have e2 : ((j : Int) == 2) = true := by simpa using q2
          have e3 : ((j : Int) == 3) = false := beq_eq_false_iff_ne.2 (by omega)
          clear q2
          by_cases a1 : v' < 2048
          · have b1 : decide (v' < 2048) = true := decide_eq_true a1
            have HF : Hid (fst2 (j : Int) v' = (0, 0)) := by unfold Hid fst2 badF; simp [e2, e3, b1]
            go_wp2_with fail
            go_ret2
            rw [HG.out, HI2.out]
            simp only
            rw [HF.out]
            exact ⟨by first | rfl | trivial, by first | rfl | trivial⟩
          · have b1 : decide (v' < 2048) = false := decide_eq_false a1
            cases b2 : (v' / 2048 == 27) with
            | true =>
              have HF : Hid (fst2 (j : Int) v' = (0, 0)) := by unfold Hid fst2 badF; simp [e2, e3, b1, b2]
              go_wp2_with fail
              go_ret2
              rw [HG.out, HI2.out]
              simp only
              rw [HF.out]
              exact ⟨by first | rfl | trivial, by first | rfl | trivial⟩
            | false =>
              have HF : Hid (fst2 (j : Int) v' = (wrap32 v', (j : Int) + 1)) := by unfold Hid fst2 badF; simp [e2, e3, b1, b2]
              go_wp2_with fail
              go_ret2
              rw [HG.out, HI2.out]
              simp only
              rw [HF.out]
              exact ⟨by first | rfl | trivial, by first | rfl | trivial⟩
        · have e2 : ((j : Int) == 2) = false := by simpa using q2
          by_cases q3 : (j : Int) = 3
          · have e3 : ((j : Int) == 3) = true := by simpa using q3
            clear q2 q3
            by_cases a1 : v' < 65536
            · have b1 : decide (v' < 65536) = true := decide_eq_true a1
              have HF : Hid (fst2 (j : Int) v' = (0, 0)) := by unfold Hid fst2 badF; simp [e2, e3, b1]
              go_wp2_with fail
              go_ret2
              rw [HG.out, HI2.out]
              simp only
              rw [HF.out]
              exact ⟨by first | rfl | trivial, by first | rfl | trivial⟩
            · have b1 : decide (v' < 65536) = false := decide_eq_false a1
              by_cases a2 : 1114111 < v'
              · have b2 : decide (1114111 < v') = true := decide_eq_true a2
                have HF : Hid (fst2 (j : Int) v' = (0, 0)) := by unfold Hid fst2 badF; simp [e2, e3, b1, b2]
                go_wp2_with fail
                go_ret2
                rw [HG.out, HI2.out]
                simp only
                rw [HF.out]
                exact ⟨by first | rfl | trivial, by first | rfl | trivial⟩
              · have b2 : decide (1114111 < v') = false := decide_eq_false a2
                have hwv : wrap32 v' = v' := by unfold wrap32; omega
                have HF : Hid (fst2 (j : Int) v' = (v', (j : Int) + 1)) := by unfold Hid fst2 badF; simp [e2, e3, b1, b2, hwv]
                go_wp2_with fail
                go_ret2
                rw [HG.out, HI2.out]
                simp only
                rw [HF.out]
                exact ⟨by first | rfl | trivial, by first | rfl | trivial⟩
          · have e3 : ((j : Int) == 3) = false := by simpa using q3
            clear q2 q3
            have HF : Hid (fst2 (j : Int) v' = (wrap32 v', (j : Int) + 1)) := by unfold Hid fst2 badF; simp [e2, e3]
            go_wp2_with fail
            go_ret2
            rw [HG.out, HI2.out]
            simp only
            rw [HF.out]
            exact ⟨by first | rfl | trivial, by first | rfl | trivial⟩
end Go.Proofs.Ytpebdfgfikjkeaa
/-! utf: Right, Check. -/
namespace Go.Proofs.Ytpebdfgfikjkeaa
open Go.RowKit

theorem fst2_rng (n v : Int) (h0 : 0 ≤ n) (h3 : n ≤ 3) : (fst2 n v).2 = 0 ∨ (fst2 n v).2 = n + 1 := by
  unfold fst2
  split
  · exact .inl rfl
  · exact .inr rfl
set_option maxRecDepth 100000 in
theorem firstF_rng (l : List UInt8) : 0 ≤ (firstF l).2 ∧ (firstF l).2 ≤ l.length := by
  rcases l with _ | ⟨c, r⟩
  · exact ⟨Int.le_refl _, Int.le_refl _⟩
  · have hg : firstF (c :: r) = if (clsF c.toNat).1 < 0 ∨ (r.length : Int) < (clsF c.toNat).1 then (0, 0) else match contF (r.take (clsF c.toNat).1.toNat) (clsF c.toNat).2 with
      | none => (0, 0)
      | some v => fst2 (clsF c.toNat).1 v := rfl
    have hr := clsF_rng c.toNat
    rw [hg, List.length_cons]
    generalize clsF c.toNat = q at hr
    obtain ⟨n, v⟩ := q
    simp only at hr ⊢
    by_cases hn : n < 0 ∨ (r.length : Int) < n
    · rw [if_pos hn]
      simp only
      omega
    · rw [if_neg hn]
      cases contF (r.take n.toNat) v with
      | none => simp only; omega
      | some v =>
        simp only
        rcases fst2_rng n v (by omega) hr.2 with h | h
        · rw [h]; omega
        · rw [h]; omega
def rgtUF : Nat → List UInt8 → Bool
  | 0, _ => true
  | f + 1, l => if l.length = 0 then true else if (firstF l).2 = 0 then false else rgtUF f (l.drop (firstF l).2.toNat)
def rgtU (l : List UInt8) : Bool := rgtUF l.length l
def lenU : Value → Nat
  | .slice _ n _ => n
  | _ => 0
set_option maxRecDepth 100000 in
set_option maxHeartbeats 800000 in
theorem u_right (w : World) (A : Option Addr) (m cc : Nat) (l : List UInt8) (S : Nat → Prop) (hr : Reads w S 1 A m (u8s l)) (HM : Hid (m = l.length)) (hm : m ≤ 1000) (hcc : m ≤ cc) :
    Calls Try.prog 87 #[.slice A m cc] w fun e w' => e = .returned (.bool (rgtU l)) ∧ w = w' := by
  have HR := Lib.hid hr
  clear hr
  go_enter Try.func87, Try.ntmps87
  go_wp2_with fail
  go_loopw [0] (fun bv wr => ∃ (A1 : Option Addr) (m1 c1 : Nat) (l1 : List UInt8) (f : Nat), bv = .slice A1 m1 c1 ∧ m1 ≤ c1 ∧ m1 ≤ 1000 ∧ Hid (Reads w S 1 A1 m1 (u8s l1)) ∧ Hid (m1 = l1.length) ∧ m1 ≤ f ∧ Hid (rgtUF f l1 = rgtU l) ∧ Hid (w = wr)) (fun bv _ => lenU bv)
  case atStart => exact ⟨A, m, cc, l, l.length, rfl, hcc, hm, HR, HM, by rw [HM.out]; exact Nat.le_refl _, rfl, rfl⟩
  case round =>
    obtain ⟨A1, m1, c1, l1, f, rfl, hc1, hm1, hR, hM, hf, HI, HW⟩ := hrel
    have hw := HW.out
    subst hw
    by_cases h0 : m1 = 0
    · have HQ : Hid (rgtU l = true) := by
        rw [Hid, ← HI.out]
        cases f with
        | zero => rfl
        | succ f =>
          unfold rgtUF
          rw [if_pos (by rw [← hM.out]; exact h0)]
      subst h0
      go_wp2_with fail
      go_ret
      exact ⟨by rw [HQ.out]; rfl, by first | rfl | trivial⟩
    · have g0 : (0 : Int) < (m1 : Int) := by omega
      obtain ⟨f, rfl⟩ : ∃ f', f = f' + 1 := ⟨f - 1, by omega⟩
      have hu : rgtUF (f + 1) l1 = if l1.length = 0 then true else if (firstF l1).2 = 0 then false else rgtUF f (l1.drop (firstF l1).2.toNat) := rfl
      rw [if_neg (by rw [← hM.out]; exact h0)] at hu
      have HF := Lib.hid (u_first w A1 m1 c1 l1 S hR.out hM hm1 hc1)
      have hrng := firstF_rng l1
      rw [← hM.out] at hrng
      generalize firstF l1 = q at hu HF hrng
      obtain ⟨v, n⟩ := q
      simp only at hu HF hrng
      have hu2 := HI.out
      rw [hu] at hu2
      obtain ⟨k, rfl⟩ : ∃ k : Nat, n = (k : Int) := ⟨n.toNat, by omega⟩
      rw [Int.toNat_natCast] at hu2
      by_cases hk : k = 0
      · subst hk
        rw [if_pos (show ((0 : Nat) : Int) = 0 from rfl)] at hu2
        have HQ := Lib.hid hu2.symm
        clear hu hu2 hrng
        go_wp2_with fail
        refine HF.out.mono ?_
        rintro e w1 ⟨rfl, hw⟩
        have HW1 := Lib.hid hw
        clear hw
        go_wp2_with fail
        go_ret
        exact ⟨by rw [HQ.out]; rfl, HW1.out⟩
      · rw [if_neg (by omega)] at hu2
        have HQ := Lib.hid hu2
        have g1 : ((k : Int) == 0) = false := beq_eq_false_iff_ne.2 (by omega)
        have hsl := slice_ln E_u8 A1 m1 c1 .i64 (k : Int) k (m1 - k) (c1 - k) rfl (by omega) rfl rfl
        have hrk : Reads w S 1 (cutA A1 c1 k 1) (m1 - k) (u8s (l1.drop k)) := by
          have h3 := hR.out.cut (k := k) (cap := c1) (by omega) hc1
          have h4 : (u8s l1).drop (k * 1) = u8s (l1.drop k) := by rw [Nat.mul_one, u8s, u8s, List.map_drop]
          rw [h4] at h3
          exact h3
        have HM2 : Hid (m1 - k = (l1.drop k).length) := by rw [Hid, List.length_drop, hM.out]
        have HRK := Lib.hid hrk
        generalize cutA A1 c1 k 1 = A2 at hsl HRK
        have hle : m1 - k ≤ c1 - k := by omega
        have hlt : m1 - k < m1 := by omega
        have hle2 : m1 - k ≤ 1000 := by omega
        have hle3 : m1 - k ≤ f := by omega
        generalize m1 - k = m2 at *
        generalize c1 - k = c2 at *
        clear hu hu2 hrng hrk
        go_wp2_with fail
        refine HF.out.mono ?_
        rintro e w1 ⟨rfl, hw⟩
        subst hw
        go_wp2_with fail
        go_roundw
        case rel => exact ⟨A2, m2, c2, l1.drop k, f, rfl, hle, hle2, HRK, HM2, hle3, HQ, trivial⟩
        case measure => simp [lenU]; omega
def utfE (l : List UInt8) : Int := if 200 < l.length then 13 else if rgtU l = true then 0 else 4
theorem conv_strV (w : World) (l : List UInt8) : ∃ w1 cap, (convert 9 107 (.string (str l))).run Try.prog w = .ok (.slice (some ⟨w.heap.size, 0, none⟩) l.length cap) w1 ∧
    Reads w1 (fun k => k = w.heap.size) 1 (some ⟨w.heap.size, 0, none⟩) l.length (u8s l) ∧ l.length ≤ cap ∧ Step (fun _ => False) w w1 := by
  have h := run_bytes_of_string (P := Try.prog) w 9 107 5 (str l) Try.underlying9 Try.underlying107 Try.underlying5
  rw [str_size] at h
  refine ⟨_, _, h, ⟨by rw [u8s_length, Nat.mul_one], fun hn => ⟨⟨w.heap.size, 0, none⟩, rfl, rfl, by simp, fun j u hu => ?_⟩⟩, ?_, Step.refl.drew.alloc _⟩
  · rw [Addr.add_lit, Nat.zero_add, cell_of_row _ w.heap.size j _ _ _ (heap_alloc_new w.drew _)]
    have hj : j < l.length := by
      have := (List.getElem?_eq_some_iff.1 hu).1
      rwa [u8s_length] at this
    rw [u8s_get l j hj] at hu
    rw [← Option.some.inj hu]
    have hs : j < (str l).data.size := by simpa [str] using hj
    unfold bytesRow
    rw [Array.getElem?_append_left (by simpa using hs)]
    simp [str, hj]
  · have := grownCap_ge w (str l).size 0 5
    rw [str_size] at this
    exact this
set_option maxRecDepth 100000 in
set_option maxHeartbeats 800000 in
theorem u_check (w : World) (l : List UInt8) : Calls Try.prog 62 #[.string (str l)] w fun e w' => e = .returned (.int .i64 (utfE l)) ∧ Step (fun _ => False) w w' := by
  have hsz := str_size l
  by_cases h : 200 < l.length
  · have g : (200 : Int) < (l.length : Int) := by omega
    have HG : Hid (utfE l = 13) := if_pos h
    go_enter Try.func62, Try.ntmps62
    go_wp2_with fail
    go_ret
    exact ⟨by rw [HG.out]; rfl, Step.refl⟩
  · have g : ¬ (200 : Int) < (l.length : Int) := by omega
    have hG : utfE l = if rgtU l = true then 0 else 4 := if_neg h
    obtain ⟨w1, cap, hcv, hrd, hcap, hst⟩ := conv_strV w l
    have HU := Lib.hid (u_right w1 (some ⟨w.heap.size, 0, none⟩) l.length cap l _ hrd rfl (by omega) hcap)
    have HS := Lib.hid hst
    generalize rgtU l = b at hG HU
    clear hrd hst hcap
    cases b with
    | true =>
      have HG : Hid (utfE l = 0) := hG
      clear hG
      go_enter Try.func62, Try.ntmps62
      go_wp2_with fail
      refine HU.out.mono ?_
      rintro e w2 ⟨rfl, hw⟩
      subst hw
      go_wp2_with fail
      go_ret
      exact ⟨by rw [HG.out]; rfl, HS.out⟩
    | false =>
      have HG : Hid (utfE l = 4) := hG
      clear hG
      go_enter Try.func62, Try.ntmps62
      go_wp2_with fail
      refine HU.out.mono ?_
      rintro e w2 ⟨rfl, hw⟩
      subst hw
      go_wp2_with fail
      go_ret
      exact ⟨by rw [HG.out]; rfl, HS.out⟩
end Go.Proofs.Ytpebdfgfikjkeaa
