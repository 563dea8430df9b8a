/-
  creellaw24: awake, Small.
-/
import Derived.Test.YtpebdfgfikjkeaaKkK
set_option linter.unusedVariables false
set_option linter.unusedSimpArgs false
namespace Go.Proofs.Ytpebdfgfikjkeaa
open Go.RowKit

set_option maxRecDepth 100000 in
set_option maxHeartbeats 3200000 in
theorem much_walk (w : World) (LA IA : Option Addr) (ln lc n c : Nat) (l : List Ig) (S : Nat → Prop) (HN : Hid (n = l.length)) (hnb : n ≤ 1000) (hr : Reads w S 4 IA n (igs l)) :
    Calls Try.prog 12 #[.agg #[.slice LA ln lc, .slice IA n c]] w fun e w' => (∃ b, e = .returned (.bool b) ∧ (b = false → ∀ x ∈ l, x.n ≤ 50)) ∧ Step (fun _ => False) w w' := by
  have HR := Lib.hid (hr.step (Step.refl.alloc (F := fun _ => False) (.cells #[.slice LA ln lc, .slice IA n c] 32)) (fun _ _ => id))
  have HB := Lib.hid (Blk.new w 32 #[.slice LA ln lc, .slice IA n c])
  have HT := Lib.hid (Step.refl.alloc (F := fun _ => False) (w := w) (.cells #[.slice LA ln lc, .slice IA n c] 32))
  clear hr
  go_enter Try.func12, Try.ntmps12
  go_wp2_with fail
  obtain ⟨W, hW⟩ : ∃ W, W = w.alloc (.cells #[.slice LA ln lc, .slice IA n c] 32) := ⟨_, rfl⟩
  rw [← hW] at HR HB HT ⊢
  obtain ⟨X, hX⟩ : ∃ X, X = w.heap.size := ⟨_, rfl⟩
  rw [← hX] at HB ⊢
  clear hW hX
  go_loopw [3] (fun iv wr => ∃ (j : Nat), j ≤ n ∧ iv = .int .i64 (j : Int) ∧ Hid (∀ x ∈ l.take j, x.n ≤ 50) ∧ Hid (Step (fun _ => False) W wr)) (fun iv _ => n + 1 - (intOf iv).toNat)
  case atStart => exact ⟨0, by omega, rfl, (fun x hx => by rw [List.take_zero] at hx; cases hx), Step.refl⟩
  case round =>
    obtain ⟨j, hj, rfl, HI, HS⟩ := hrel
    have x1 := (HB.out.step HS.out id).cell 1
    simp at x1
    by_cases hlt : j < n
    · have g1 : (j : Int) < (n : Int) := by omega
      have i0 : (0 : Int) ≤ (j : Int) := by omega
      have hw1 := IntWalk.i64_in ((j : Int) + 1) (by omega)
      have hjl : j < l.length := by rw [← HN.out]; exact hlt
      obtain ⟨bk, off, rfl, _, hbl, hc⟩ := reads_row Ig.cells 4 (by decide) Ig.four (HR.out.step HS.out (fun _ _ => id)) (k := j) hjl
      have HU : Hid (l.take (j + 1) = l.take j ++ [l[j]]) := List.take_succ_eq_append_getElem hjl
      obtain ⟨x, hxe⟩ : ∃ x, x = l[j] := ⟨_, rfl⟩
      rw [← hxe] at hc HU
      clear hxe
      obtain ⟨op, a, b, m, cc, B1, L⟩ := x
      have c3 := hc 3 _ rfl
      simp only at c3
      clear hc
      by_cases hq : (50 : Int) < (m : Int)
      · have hq' : decide ((50 : Int) < (m : Int)) = true := decide_eq_true hq
        go_wp2_with fail
        go_ret
        exact ⟨⟨true, rfl, fun h => by cases h⟩, HT.out.trans HS.out⟩
      · have hq' : decide ((50 : Int) < (m : Int)) = false := decide_eq_false hq
        have HI2 : Hid (∀ x ∈ l.take (j + 1), x.n ≤ 50) := fun x hx => by
          rw [HU.out] at hx
          rcases List.mem_append.1 hx with hx | hx
          · exact HI.out x hx
          · rw [List.mem_singleton.1 hx]
            show m ≤ 50
            omega
        go_wp2_with fail
        go_roundw
        case rel => exact ⟨j + 1, by omega, by rw [Int.natCast_add]; rfl, HI2, HS⟩
        case measure => simp [intOf]; omega
    · obtain rfl : j = n := by omega
      have HI2 : Hid (∀ x ∈ l, x.n ≤ 50) := fun x hx => HI.out x (by rw [HN.out, List.take_length]; exact hx)
      go_wp2_with fail
      go_ret
      exact ⟨⟨false, rfl, fun _ => HI2.out⟩, HT.out.trans HS.out⟩


/-- A truth value is returned; if it is true, P holds. -/
def BoolOut (P : Prop) (e : Ending) : Prop := ∃ b, e = .returned (.bool b) ∧ (b = true → P)
set_option maxRecDepth 100000 in
theorem body_awake : bodyF ⟨[], [], [], false, false, [], []⟩ [] [⟨65, 1, 0, 0, 0, none, []⟩, ⟨11, 0, 0, 0, 0, none, []⟩] = (1, 21) := by kernel_rfl
set_option maxRecDepth 100000 in
set_option maxHeartbeats 1600000 in
theorem awake24 (w : World) : Calls Try.prog 6 #[] w fun e w' => e = .returned (.bool true) ∧ Step (fun _ => False) w w' := by
  have s1 : Step (fun _ => False) w (w.alloc (.cells #[.int .u8 65, .int .u64 1, .int .u64 0, .slice none 0 0, .int .u8 11, .int .u64 0, .int .u64 0, .slice none 0 0] 40)) := Step.refl.alloc _
  have hr := reads_new w #[.int .u8 65, .int .u64 1, .int .u64 0, .slice none 0 0, .int .u8 11, .int .u64 0, .int .u64 0, .slice none 0 0] 40 4 2 rfl
  have hk : w.heap.size < (w.alloc (.cells #[.int .u8 65, .int .u64 1, .int .u64 0, .slice none 0 0, .int .u8 11, .int .u64 0, .int .u64 0, .slice none 0 0] 40)).heap.size := by simp
  have HB := Lib.hid (body_walk (w.alloc (.cells #[.int .u8 65, .int .u64 1, .int .u64 0, .slice none 0 0, .int .u8 11, .int .u64 0, .int .u64 0, .slice none 0 0] 40)) (fun k => k = w.heap.size) ⟨[], [], [], false, false, [], []⟩ none none none 0 0 0 [] none (some ⟨w.heap.size, 0, none⟩) 0 2 2 [] [⟨65, 1, 0, 0, 0, none, []⟩, ⟨11, 0, 0, 0, 0, none, []⟩]
    ⟨Reads.nil_, Reads.nil_, Reads.nil_, fun k e => by rw [e]; exact hk⟩ (rfl : 2 = 2) (by omega) (fun x hx => by
      rcases List.mem_cons.1 hx with rfl | hx
      · exact ⟨by decide, by decide, rfl, by decide, fun y hy => (by cases hy), Reads.nil_⟩
      · rw [List.mem_singleton.1 hx]
        exact ⟨by decide, by decide, rfl, by decide, fun y hy => (by cases hy), Reads.nil_⟩) hr Reads.nil_ (fun g hg => by cases hg) (by decide) (by decide)
    (fun _ => ⟨fun t ht => (by cases ht), by decide, by decide, by decide, fun t ht => (by cases ht), fun t ht => (by cases ht), by decide, by decide⟩) rfl (by decide))
  rw [body_awake] at HB
  have S1 := Lib.hid s1
  clear s1 hr hk
  go_enter Try.func6, Try.ntmps6
  go_wp2_with fail
  refine HB.out.mono ?_
  rintro e w2 ⟨rfl, t2⟩
  go_wp2_with fail
  go_ret
  exact ⟨rfl, S1.out.trans t2⟩

set_option maxRecDepth 100000 in
set_option maxHeartbeats 1600000 in
theorem small_big (w : World) (tA fA gA LA IA : Option Addr) (tn tc fn fc gn gc ln lc n c : Nat) (tb me : Bool) (ps rs : List UInt8) (h : ((20 : Int) < (tn : Int)) ∨ (¬ (20 : Int) < (tn : Int) ∧ (50 : Int) < (fn : Int)) ∨ (¬ (20 : Int) < (tn : Int) ∧ ¬ (50 : Int) < (fn : Int) ∧ (50 : Int) < (gn : Int)) ∨ (¬ (20 : Int) < (tn : Int) ∧ ¬ (50 : Int) < (fn : Int) ∧ ¬ (50 : Int) < (gn : Int) ∧ (50 : Int) < (ps.length : Int)) ∨ (¬ (20 : Int) < (tn : Int) ∧ ¬ (50 : Int) < (fn : Int) ∧ ¬ (50 : Int) < (gn : Int) ∧ ¬ (50 : Int) < (ps.length : Int) ∧ (5 : Int) < (rs.length : Int)) ∨ (¬ (20 : Int) < (tn : Int) ∧ ¬ (50 : Int) < (fn : Int) ∧ ¬ (50 : Int) < (gn : Int) ∧ ¬ (50 : Int) < (ps.length : Int) ∧ ¬ (5 : Int) < (rs.length : Int) ∧ (100 : Int) < (n : Int)) ∨ (¬ (20 : Int) < (tn : Int) ∧ ¬ (50 : Int) < (fn : Int) ∧ ¬ (50 : Int) < (gn : Int) ∧ ¬ (50 : Int) < (ps.length : Int) ∧ ¬ (5 : Int) < (rs.length : Int) ∧ ¬ (100 : Int) < (n : Int) ∧ (20 : Int) < (ln : Int))) :
    Calls Try.prog 7 #[.agg #[.slice tA tn tc, .slice fA fn fc, .slice gA gn gc, .bool tb, .bool me], .agg #[.string (str ps), .string (str rs)], .agg #[.slice LA ln lc, .slice IA n c]] w fun e w' => e = .returned (.bool false) ∧ Step (fun _ => False) w w' := by
  have hp := str_size ps
  have hr := str_size rs
  rcases h with g0 | ⟨g0, g1⟩ | ⟨g0, g1, g2⟩ | ⟨g0, g1, g2, g3⟩ | ⟨g0, g1, g2, g3, g4⟩ | ⟨g0, g1, g2, g3, g4, g5⟩ | ⟨g0, g1, g2, g3, g4, g5, g6⟩
  all_goals
    go_enter Try.func7, Try.ntmps7
    go_wp2_with fail
    go_ret
    exact ⟨rfl, ((Step.refl.alloc _).alloc _).alloc _⟩

set_option maxRecDepth 100000 in
set_option maxHeartbeats 3200000 in
theorem small_ok (w : World) (tA fA gA LA IA : Option Addr) (tn tc fn fc gn gc ln lc n c : Nat) (tb me : Bool) (ps rs : List UInt8) (ts : List (List UInt8 × List UInt8)) (l : List Ig) (R : Nat → Prop) (HTN : Hid (tn = ts.length)) (HN : Hid (n = l.length)) (hrt : Reads w R 2 tA tn (ts.flatMap ftC)) (hri : Reads w R 4 IA n (igs l))
    (g0 : ¬ (20 : Int) < (tn : Int)) (g1 : ¬ (50 : Int) < (fn : Int)) (g2 : ¬ (50 : Int) < (gn : Int)) (g3 : ¬ (50 : Int) < (ps.length : Int)) (g4 : ¬ (5 : Int) < (rs.length : Int)) (g5 : ¬ (100 : Int) < (n : Int)) (g6 : ¬ (20 : Int) < (ln : Int)) :
    Calls Try.prog 7 #[.agg #[.slice tA tn tc, .slice fA fn fc, .slice gA gn gc, .bool tb, .bool me], .agg #[.string (str ps), .string (str rs)], .agg #[.slice LA ln lc, .slice IA n c]] w fun e w' => BoolOut ((∀ x ∈ l, x.n ≤ 50) ∧ ∀ t ∈ ts, t.1.length ≤ 50 ∧ t.2.length ≤ 5) e ∧ Step (fun _ => False) w w' := by
  have hp := str_size ps
  have hr := str_size rs
  have s1 : Step (fun _ => False) w (((w.alloc (.cells #[.slice tA tn tc, .slice fA fn fc, .slice gA gn gc, .bool tb, .bool me] 26)).alloc (.cells #[.string (str ps), .string (str rs)] 28)).alloc (.cells #[.slice LA ln lc, .slice IA n c] 32)) := ((Step.refl.alloc _).alloc _).alloc _
  have b0 := ((Blk.new w 26 #[.slice tA tn tc, .slice fA fn fc, .slice gA gn gc, .bool tb, .bool me]).alloc (.cells #[.string (str ps), .string (str rs)] 28)).alloc (.cells #[.slice LA ln lc, .slice IA n c] 32)
  have HM := Lib.hid (much_walk (((w.alloc (.cells #[.slice tA tn tc, .slice fA fn fc, .slice gA gn gc, .bool tb, .bool me] 26)).alloc (.cells #[.string (str ps), .string (str rs)] 28)).alloc (.cells #[.slice LA ln lc, .slice IA n c] 32)) LA IA ln lc n c l R HN (by omega) (hri.step s1 (fun _ _ => id)))
  have HRT := Lib.hid (hrt.step s1 (fun _ _ => id))
  have B0 := Lib.hid b0
  have S1 := Lib.hid s1
  clear hrt hri s1 b0
  go_enter Try.func7, Try.ntmps7
  go_wp2_with fail
  refine HM.out.mono ?_
  rintro e w1 ⟨⟨b, rfl, hb⟩, t1⟩
  cases b with
  | true =>
    go_wp2_with fail
    go_ret
    exact ⟨⟨false, rfl, fun h => by cases h⟩, S1.out.trans t1⟩
  | false =>
    have HFEW := Lib.hid (hb rfl)
    replace HRT := Lib.hid (HRT.out.step t1 (fun _ _ => id))
    replace B0 := Lib.hid (B0.out.step t1 id)
    replace S1 := Lib.hid (S1.out.trans t1)
    clear t1 hb HM
    generalize w.heap.size = N at *
    go_wp2_with fail
    go_loopw [7] (fun iv wr => ∃ (j : Nat), j ≤ tn ∧ iv = .int .i64 (j : Int) ∧ Hid (∀ t ∈ ts.take j, t.1.length ≤ 50 ∧ t.2.length ≤ 5) ∧ Hid (w1 = wr)) (fun iv _ => tn + 1 - (intOf iv).toNat)
    case atStart => exact ⟨0, by omega, rfl, (fun x hx => by rw [List.take_zero] at hx; cases hx), rfl⟩
    case round =>
      obtain ⟨j, hj, rfl, HI, HW⟩ := hrel
      have hw := HW.out
      subst hw
      have z0 := (B0.out.cell 0).trans (show _ = some (Value.slice tA tn tc) from rfl)
      by_cases hlt : j < tn
      · have q1 : (j : Int) < (tn : Int) := by omega
        have i0 : (0 : Int) ≤ (j : Int) := by omega
        have hw1 := IntWalk.i64_in ((j : Int) + 1) (by omega)
        have hjl : j < ts.length := by rw [← HTN.out]; exact hlt
        obtain ⟨bk, off, hA, _, hbl, hc⟩ := reads_row ftC 2 (by decide) (fun _ => rfl) HRT.out (k := j) hjl
        subst hA
        have HU : Hid (ts.take (j + 1) = ts.take j ++ [ts[j]]) := List.take_succ_eq_append_getElem hjl
        obtain ⟨x, hxe⟩ : ∃ x, x = ts[j] := ⟨_, rfl⟩
        rw [← hxe] at hc HU
        clear hxe
        obtain ⟨p, q⟩ := x
        have c0 := hc 0 _ rfl
        have c1 := hc 1 _ rfl
        simp only [Nat.add_zero] at c0
        simp only at c0 c1
        have hzp := str_size p
        have hzq := str_size q
        clear hc
        by_cases h1 : (50 : Int) < (p.length : Int)
        · go_wp2_with fail
          go_ret
          exact ⟨⟨false, rfl, fun h => by cases h⟩, S1.out⟩
        · by_cases h2 : (5 : Int) < (q.length : Int)
          · go_wp2_with fail
            go_ret
            exact ⟨⟨false, rfl, fun h => by cases h⟩, S1.out⟩
          · have HI2 : Hid (∀ t ∈ ts.take (j + 1), t.1.length ≤ 50 ∧ t.2.length ≤ 5) := fun x hx => by
              rw [HU.out] at hx
              rcases List.mem_append.1 hx with hx | hx
              · exact HI.out x hx
              · rw [List.mem_singleton.1 hx]
                exact ⟨by simp only; omega, by simp only; omega⟩
            go_wp2_with fail
            go_roundw
            case rel => exact ⟨j + 1, by omega, by rw [Int.natCast_add]; rfl, HI2, trivial⟩
            case measure => simp [intOf]; omega
      · obtain rfl : j = tn := by omega
        have HI2 : Hid (∀ t ∈ ts, t.1.length ≤ 50 ∧ t.2.length ≤ 5) := fun x hx => HI.out x (by rw [HTN.out, List.take_length]; exact hx)
        go_wp2_with fail
        go_ret
        exact ⟨⟨true, rfl, fun _ => ⟨HFEW.out, fun p q h => HI2.out (p, q) h⟩⟩, S1.out⟩
theorem small_walk (w : World) (tA fA gA LA IA : Option Addr) (tn tc fn fc gn gc ln lc n c : Nat) (tb me : Bool) (ps rs : List UInt8) (ts : List (List UInt8 × List UInt8)) (l : List Ig) (R : Nat → Prop) (HTN : Hid (tn = ts.length)) (HN : Hid (n = l.length)) (hrt : Reads w R 2 tA tn (ts.flatMap ftC)) (hri : Reads w R 4 IA n (igs l)) :
    Calls Try.prog 7 #[.agg #[.slice tA tn tc, .slice fA fn fc, .slice gA gn gc, .bool tb, .bool me], .agg #[.string (str ps), .string (str rs)], .agg #[.slice LA ln lc, .slice IA n c]] w fun e w' => BoolOut ((tn ≤ 20 ∧ fn ≤ 50 ∧ gn ≤ 50 ∧ ps.length ≤ 50 ∧ rs.length ≤ 5 ∧ n ≤ 100 ∧ ln ≤ 20) ∧ (∀ x ∈ l, x.n ≤ 50) ∧ ∀ t ∈ ts, t.1.length ≤ 50 ∧ t.2.length ≤ 5) e ∧ Step (fun _ => False) w w' := by
  by_cases h : ((20 : Int) < (tn : Int)) ∨ (¬ (20 : Int) < (tn : Int) ∧ (50 : Int) < (fn : Int)) ∨ (¬ (20 : Int) < (tn : Int) ∧ ¬ (50 : Int) < (fn : Int) ∧ (50 : Int) < (gn : Int)) ∨ (¬ (20 : Int) < (tn : Int) ∧ ¬ (50 : Int) < (fn : Int) ∧ ¬ (50 : Int) < (gn : Int) ∧ (50 : Int) < (ps.length : Int)) ∨ (¬ (20 : Int) < (tn : Int) ∧ ¬ (50 : Int) < (fn : Int) ∧ ¬ (50 : Int) < (gn : Int) ∧ ¬ (50 : Int) < (ps.length : Int) ∧ (5 : Int) < (rs.length : Int)) ∨ (¬ (20 : Int) < (tn : Int) ∧ ¬ (50 : Int) < (fn : Int) ∧ ¬ (50 : Int) < (gn : Int) ∧ ¬ (50 : Int) < (ps.length : Int) ∧ ¬ (5 : Int) < (rs.length : Int) ∧ (100 : Int) < (n : Int)) ∨ (¬ (20 : Int) < (tn : Int) ∧ ¬ (50 : Int) < (fn : Int) ∧ ¬ (50 : Int) < (gn : Int) ∧ ¬ (50 : Int) < (ps.length : Int) ∧ ¬ (5 : Int) < (rs.length : Int) ∧ ¬ (100 : Int) < (n : Int) ∧ (20 : Int) < (ln : Int))
  · exact (small_big w tA fA gA LA IA tn tc fn fc gn gc ln lc n c tb me ps rs h).mono fun e w' ⟨h1, h2⟩ => ⟨⟨false, h1, fun h => by cases h⟩, h2⟩
  · have hall : tn ≤ 20 ∧ fn ≤ 50 ∧ gn ≤ 50 ∧ ps.length ≤ 50 ∧ rs.length ≤ 5 ∧ n ≤ 100 ∧ ln ≤ 20 := by omega
    exact (small_ok w tA fA gA LA IA tn tc fn fc gn gc ln lc n c tb me ps rs ts l R HTN HN hrt hri (by omega) (by omega) (by omega) (by omega) (by omega) (by omega) (by omega)).mono fun e w' ⟨⟨b, h1, h2⟩, h3⟩ => ⟨⟨b, h1, fun hb => ⟨hall, h2 hb⟩⟩, h3⟩
end Go.Proofs.Ytpebdfgfikjkeaa
