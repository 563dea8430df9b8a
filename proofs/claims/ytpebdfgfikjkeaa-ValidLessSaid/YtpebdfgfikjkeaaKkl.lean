/-
  Kkl: KkL, KkM, KkN.
-/
import Derived.Test.YtpebdfgfikjkeaaKki
import Derived.Test.YtpebdfgfikjkeaaMxt
import Derived.ProofKit
import Derived.OpenShut
import Derived.Lib.SmallJoins
import Derived.ChangeSame
import Derived.Deep.Slices
import Derived.Deep.Fields
import Derived.ChangeSlices
set_option linter.unusedVariables false
set_option linter.unusedSimpArgs false
/-! creellaw24: awake, Small. -/
namespace Go.Proofs.Ytpebdfgfikjkeaa
open Go.RowKit

set_option maxRecDepth 100000 in
set_option maxHeartbeats 3200000 in
theorem much_walk (w : World) (LA IA : Option Addr) (ln lc n c : Nat) (l : List Ig) (S : Nat → Prop) (HN : Hid (n = l.length)) (hnb : n ≤ 1000) (hr : Reads w S 4 IA n (igs l)) :
    Calls Try.prog 12 #[.agg #[.slice LA ln lc, .slice IA n c]] w fun e w' => (∃ b, e = .returned (.bool b) ∧ (b = false → ∀ x ∈ l, x.n ≤ 50)) ∧ Step (fun _ => False) w w' := by
  have HR := Lib.hid (hr.step (Step.refl.alloc (F := fun _ => False) (.cells #[.slice LA ln lc, .slice IA n c] 32)) (fun _ _ => id))
  have HB := Lib.hid (Blk.new w 32 #[.slice LA ln lc, .slice IA n c])
  have HT := Lib.hid (Step.refl.alloc (F := fun _ => False) (w := w) (.cells #[.slice LA ln lc, .slice IA n c] 32))
  clear hr
  go_enter Try.func12, Try.ntmps12
  go_wp2_with fail
  obtain ⟨W, hW⟩ : ∃ W, W = w.alloc (.cells #[.slice LA ln lc, .slice IA n c] 32) := ⟨_, rfl⟩
  rw [← hW] at HR HB HT ⊢
  obtain ⟨X, hX⟩ : ∃ X, X = w.heap.size := ⟨_, rfl⟩
  rw [← hX] at HB ⊢
  clear hW hX
  go_loopw [3] (fun iv wr => ∃ (j : Nat), j ≤ n ∧ iv = .int .i64 (j : Int) ∧ Hid (∀ x ∈ l.take j, x.n ≤ 50) ∧ Hid (Step (fun _ => False) W wr)) (fun iv _ => n + 1 - (intOf iv).toNat)
  case atStart => exact ⟨0, by omega, rfl, (fun x hx => by rw [List.take_zero] at hx; cases hx), Step.refl⟩
  case round =>
    obtain ⟨j, hj, rfl, HI, HS⟩ := hrel
    have x1 := (HB.out.step HS.out id).cell 1
    simp at x1
    by_cases hlt : j < n
    · have g1 : (j : Int) < (n : Int) := by omega
      have i0 : (0 : Int) ≤ (j : Int) := by omega
      have hw1 := IntWalk.i64_in ((j : Int) + 1) (by omega)
      have hjl : j < l.length := by rw [← HN.out]; exact hlt
      obtain ⟨bk, off, rfl, _, hbl, hc⟩ := reads_row Ig.cells 4 (by decide) Ig.four (HR.out.step HS.out (fun _ _ => id)) (k := j) hjl
      have HU : Hid (l.take (j + 1) = l.take j ++ [l[j]]) := List.take_succ_eq_append_getElem hjl
      obtain ⟨x, hxe⟩ : ∃ x, x = l[j] := ⟨_, rfl⟩
      rw [← hxe] at hc HU
      clear hxe
      obtain ⟨op, a, b, m, cc, B1, L⟩ := x
      have c3 := hc 3 _ rfl
      simp only at c3
      clear hc
      by_cases hq : (50 : Int) < (m : Int)
      · have hq' : decide ((50 : Int) < (m : Int)) = true := decide_eq_true hq
        go_wp2_with fail
        go_ret
        exact ⟨⟨true, rfl, fun h => by cases h⟩, HT.out.trans HS.out⟩
      · have hq' : decide ((50 : Int) < (m : Int)) = false := decide_eq_false hq
        have HI2 : Hid (∀ x ∈ l.take (j + 1), x.n ≤ 50) := fun x hx => by
          rw [HU.out] at hx
          rcases List.mem_append.1 hx with hx | hx
          · exact HI.out x hx
          · rw [List.mem_singleton.1 hx]
            show m ≤ 50
            omega
        go_wp2_with fail
        go_roundw
        case rel => exact ⟨j + 1, by omega, by rw [Int.natCast_add]; rfl, HI2, HS⟩
        case measure => simp [intOf]; omega
    · obtain rfl : j = n := by omega
      have HI2 : Hid (∀ x ∈ l, x.n ≤ 50) := fun x hx => HI.out x (by rw [HN.out, List.take_length]; exact hx)
      go_wp2_with fail
      go_ret
      exact ⟨⟨false, rfl, fun _ => HI2.out⟩, HT.out.trans HS.out⟩


/-- A truth value is returned; if it is true, P holds. -/
def BoolOut (P : Prop) (e : Ending) : Prop := ∃ b, e = .returned (.bool b) ∧ (b = true → P)
set_option maxRecDepth 100000 in
theorem body_awake : bodyF ⟨[], [], [], false, false, [], []⟩ [] [⟨65, 1, 0, 0, 0, none, []⟩, ⟨11, 0, 0, 0, 0, none, []⟩] = (1, 21) := by kernel_rfl
set_option maxRecDepth 100000 in
set_option maxHeartbeats 1600000 in
theorem awake24 (w : World) : Calls Try.prog 6 #[] w fun e w' => e = .returned (.bool true) ∧ Step (fun _ => False) w w' := by
  have s1 : Step (fun _ => False) w (w.alloc (.cells #[.int .u8 65, .int .u64 1, .int .u64 0, .slice none 0 0, .int .u8 11, .int .u64 0, .int .u64 0, .slice none 0 0] 40)) := Step.refl.alloc _
  have hr := reads_new w #[.int .u8 65, .int .u64 1, .int .u64 0, .slice none 0 0, .int .u8 11, .int .u64 0, .int .u64 0, .slice none 0 0] 40 4 2 rfl
  have hk : w.heap.size < (w.alloc (.cells #[.int .u8 65, .int .u64 1, .int .u64 0, .slice none 0 0, .int .u8 11, .int .u64 0, .int .u64 0, .slice none 0 0] 40)).heap.size := by simp
  have HB := Lib.hid (body_walk (w.alloc (.cells #[.int .u8 65, .int .u64 1, .int .u64 0, .slice none 0 0, .int .u8 11, .int .u64 0, .int .u64 0, .slice none 0 0] 40)) (fun k => k = w.heap.size) ⟨[], [], [], false, false, [], []⟩ none none none 0 0 0 [] none (some ⟨w.heap.size, 0, none⟩) 0 2 2 [] [⟨65, 1, 0, 0, 0, none, []⟩, ⟨11, 0, 0, 0, 0, none, []⟩]
    ⟨Reads.nil_, Reads.nil_, Reads.nil_, fun k e => by rw [e]; exact hk⟩ (rfl : 2 = 2) (by omega) (fun x hx => by
      rcases List.mem_cons.1 hx with rfl | hx
      · exact ⟨by decide, by decide, rfl, by decide, fun y hy => (by cases hy), Reads.nil_⟩
      · rw [List.mem_singleton.1 hx]
        exact ⟨by decide, by decide, rfl, by decide, fun y hy => (by cases hy), Reads.nil_⟩) hr Reads.nil_ (fun g hg => by cases hg) (by decide) (by decide)
    (fun _ => ⟨fun t ht => (by cases ht), by decide, by decide, by decide, fun t ht => (by cases ht), fun t ht => (by cases ht), by decide, by decide⟩) rfl (by decide))
  rw [body_awake] at HB
  have S1 := Lib.hid s1
  clear s1 hr hk
  go_enter Try.func6, Try.ntmps6
  go_wp2_with fail
  refine HB.out.mono ?_
  rintro e w2 ⟨rfl, t2⟩
  go_wp2_with fail
  go_ret
  exact ⟨rfl, S1.out.trans t2⟩

set_option maxRecDepth 100000 in
set_option maxHeartbeats 1600000 in
theorem small_big (w : World) (tA fA gA LA IA : Option Addr) (tn tc fn fc gn gc ln lc n c : Nat) (tb me : Bool) (ps rs : List UInt8) (h : ((20 : Int) < (tn : Int)) ∨ (¬ (20 : Int) < (tn : Int) ∧ (50 : Int) < (fn : Int)) ∨ (¬ (20 : Int) < (tn : Int) ∧ ¬ (50 : Int) < (fn : Int) ∧ (50 : Int) < (gn : Int)) ∨ (¬ (20 : Int) < (tn : Int) ∧ ¬ (50 : Int) < (fn : Int) ∧ ¬ (50 : Int) < (gn : Int) ∧ (50 : Int) < (ps.length : Int)) ∨ (¬ (20 : Int) < (tn : Int) ∧ ¬ (50 : Int) < (fn : Int) ∧ ¬ (50 : Int) < (gn : Int) ∧ ¬ (50 : Int) < (ps.length : Int) ∧ (5 : Int) < (rs.length : Int)) ∨ (¬ (20 : Int) < (tn : Int) ∧ ¬ (50 : Int) < (fn : Int) ∧ ¬ (50 : Int) < (gn : Int) ∧ ¬ (50 : Int) < (ps.length : Int) ∧ ¬ (5 : Int) < (rs.length : Int) ∧ (100 : Int) < (n : Int)) ∨ (¬ (20 : Int) < (tn : Int) ∧ ¬ (50 : Int) < (fn : Int) ∧ ¬ (50 : Int) < (gn : Int) ∧ ¬ (50 : Int) < (ps.length : Int) ∧ ¬ (5 : Int) < (rs.length : Int) ∧ ¬ (100 : Int) < (n : Int) ∧ (20 : Int) < (ln : Int))) :
    Calls Try.prog 7 #[.agg #[.slice tA tn tc, .slice fA fn fc, .slice gA gn gc, .bool tb, .bool me], .agg #[.string (str ps), .string (str rs)], .agg #[.slice LA ln lc, .slice IA n c]] w fun e w' => e = .returned (.bool false) ∧ Step (fun _ => False) w w' := by
  have hp := str_size ps
  have hr := str_size rs
  rcases h with g0 | ⟨g0, g1⟩ | ⟨g0, g1, g2⟩ | ⟨g0, g1, g2, g3⟩ | ⟨g0, g1, g2, g3, g4⟩ | ⟨g0, g1, g2, g3, g4, g5⟩ | ⟨g0, g1, g2, g3, g4, g5, g6⟩
  all_goals
    go_enter Try.func7, Try.ntmps7
    go_wp2_with fail
    go_ret
    exact ⟨rfl, ((Step.refl.alloc _).alloc _).alloc _⟩

set_option maxRecDepth 100000 in
set_option maxHeartbeats 3200000 in
theorem small_ok (w : World) (tA fA gA LA IA : Option Addr) (tn tc fn fc gn gc ln lc n c : Nat) (tb me : Bool) (ps rs : List UInt8) (ts : List (List UInt8 × List UInt8)) (l : List Ig) (R : Nat → Prop) (HTN : Hid (tn = ts.length)) (HN : Hid (n = l.length)) (hrt : Reads w R 2 tA tn (ts.flatMap ftC)) (hri : Reads w R 4 IA n (igs l))
    (g0 : ¬ (20 : Int) < (tn : Int)) (g1 : ¬ (50 : Int) < (fn : Int)) (g2 : ¬ (50 : Int) < (gn : Int)) (g3 : ¬ (50 : Int) < (ps.length : Int)) (g4 : ¬ (5 : Int) < (rs.length : Int)) (g5 : ¬ (100 : Int) < (n : Int)) (g6 : ¬ (20 : Int) < (ln : Int)) :
    Calls Try.prog 7 #[.agg #[.slice tA tn tc, .slice fA fn fc, .slice gA gn gc, .bool tb, .bool me], .agg #[.string (str ps), .string (str rs)], .agg #[.slice LA ln lc, .slice IA n c]] w fun e w' => BoolOut ((∀ x ∈ l, x.n ≤ 50) ∧ ∀ t ∈ ts, t.1.length ≤ 50 ∧ t.2.length ≤ 5) e ∧ Step (fun _ => False) w w' := by
  have hp := str_size ps
  have hr := str_size rs
  have s1 : Step (fun _ => False) w (((w.alloc (.cells #[.slice tA tn tc, .slice fA fn fc, .slice gA gn gc, .bool tb, .bool me] 26)).alloc (.cells #[.string (str ps), .string (str rs)] 28)).alloc (.cells #[.slice LA ln lc, .slice IA n c] 32)) := ((Step.refl.alloc _).alloc _).alloc _
  have b0 := ((Blk.new w 26 #[.slice tA tn tc, .slice fA fn fc, .slice gA gn gc, .bool tb, .bool me]).alloc (.cells #[.string (str ps), .string (str rs)] 28)).alloc (.cells #[.slice LA ln lc, .slice IA n c] 32)
  have HM := Lib.hid (much_walk (((w.alloc (.cells #[.slice tA tn tc, .slice fA fn fc, .slice gA gn gc, .bool tb, .bool me] 26)).alloc (.cells #[.string (str ps), .string (str rs)] 28)).alloc (.cells #[.slice LA ln lc, .slice IA n c] 32)) LA IA ln lc n c l R HN (by omega) (hri.step s1 (fun _ _ => id)))
  have HRT := Lib.hid (hrt.step s1 (fun _ _ => id))
  have B0 := Lib.hid b0
  have S1 := Lib.hid s1
  clear hrt hri s1 b0
  go_enter Try.func7, Try.ntmps7
  go_wp2_with fail
  refine HM.out.mono ?_
  rintro e w1 ⟨⟨b, rfl, hb⟩, t1⟩
  cases b with
  | true =>
    go_wp2_with fail
    go_ret
    exact ⟨⟨false, rfl, fun h => by cases h⟩, S1.out.trans t1⟩
  | false =>
    have HFEW := Lib.hid (hb rfl)
    replace HRT := Lib.hid (HRT.out.step t1 (fun _ _ => id))
    replace B0 := Lib.hid (B0.out.step t1 id)
    replace S1 := Lib.hid (S1.out.trans t1)
    clear t1 hb HM
    generalize w.heap.size = N at *
    go_wp2_with fail
    go_loopw [7] (fun iv wr => ∃ (j : Nat), j ≤ tn ∧ iv = .int .i64 (j : Int) ∧ Hid (∀ t ∈ ts.take j, t.1.length ≤ 50 ∧ t.2.length ≤ 5) ∧ Hid (w1 = wr)) (fun iv _ => tn + 1 - (intOf iv).toNat)
    case atStart => exact ⟨0, by omega, rfl, (fun x hx => by rw [List.take_zero] at hx; cases hx), rfl⟩
    case round =>
      obtain ⟨j, hj, rfl, HI, HW⟩ := hrel
      have hw := HW.out
      subst hw
      have z0 := (B0.out.cell 0).trans (show _ = some (Value.slice tA tn tc) from rfl)
      by_cases hlt : j < tn
      · have q1 : (j : Int) < (tn : Int) := by omega
        have i0 : (0 : Int) ≤ (j : Int) := by omega
        have hw1 := IntWalk.i64_in ((j : Int) + 1) (by omega)
        have hjl : j < ts.length := by rw [← HTN.out]; exact hlt
        obtain ⟨bk, off, hA, _, hbl, hc⟩ := reads_row ftC 2 (by decide) (fun _ => rfl) HRT.out (k := j) hjl
        subst hA
        have HU : Hid (ts.take (j + 1) = ts.take j ++ [ts[j]]) := List.take_succ_eq_append_getElem hjl
        obtain ⟨x, hxe⟩ : ∃ x, x = ts[j] := ⟨_, rfl⟩
        rw [← hxe] at hc HU
        clear hxe
        obtain ⟨p, q⟩ := x
        have c0 := hc 0 _ rfl
        have c1 := hc 1 _ rfl
        simp only [Nat.add_zero] at c0
        simp only at c0 c1
        have hzp := str_size p
        have hzq := str_size q
        clear hc
        by_cases h1 : (50 : Int) < (p.length : Int)
        · go_wp2_with fail
          go_ret
          exact ⟨⟨false, rfl, fun h => by cases h⟩, S1.out⟩
        · by_cases h2 : (5 : Int) < (q.length : Int)
          · go_wp2_with fail
            go_ret
            exact ⟨⟨false, rfl, fun h => by cases h⟩, S1.out⟩
          · have HI2 : Hid (∀ t ∈ ts.take (j + 1), t.1.length ≤ 50 ∧ t.2.length ≤ 5) := fun x hx => by
              rw [HU.out] at hx
              rcases List.mem_append.1 hx with hx | hx
              · exact HI.out x hx
              · rw [List.mem_singleton.1 hx]
                exact ⟨by simp only; omega, by simp only; omega⟩
            go_wp2_with fail
            go_roundw
            case rel => exact ⟨j + 1, by omega, by rw [Int.natCast_add]; rfl, HI2, trivial⟩
            case measure => simp [intOf]; omega
      · obtain rfl : j = tn := by omega
        have HI2 : Hid (∀ t ∈ ts, t.1.length ≤ 50 ∧ t.2.length ≤ 5) := fun x hx => HI.out x (by rw [HTN.out, List.take_length]; exact hx)
        go_wp2_with fail
        go_ret
        exact ⟨⟨true, rfl, fun _ => ⟨HFEW.out, fun p q h => HI2.out (p, q) h⟩⟩, S1.out⟩
theorem small_walk (w : World) (tA fA gA LA IA : Option Addr) (tn tc fn fc gn gc ln lc n c : Nat) (tb me : Bool) (ps rs : List UInt8) (ts : List (List UInt8 × List UInt8)) (l : List Ig) (R : Nat → Prop) (HTN : Hid (tn = ts.length)) (HN : Hid (n = l.length)) (hrt : Reads w R 2 tA tn (ts.flatMap ftC)) (hri : Reads w R 4 IA n (igs l)) :
    Calls Try.prog 7 #[.agg #[.slice tA tn tc, .slice fA fn fc, .slice gA gn gc, .bool tb, .bool me], .agg #[.string (str ps), .string (str rs)], .agg #[.slice LA ln lc, .slice IA n c]] w fun e w' => BoolOut ((tn ≤ 20 ∧ fn ≤ 50 ∧ gn ≤ 50 ∧ ps.length ≤ 50 ∧ rs.length ≤ 5 ∧ n ≤ 100 ∧ ln ≤ 20) ∧ (∀ x ∈ l, x.n ≤ 50) ∧ ∀ t ∈ ts, t.1.length ≤ 50 ∧ t.2.length ≤ 5) e ∧ Step (fun _ => False) w w' := by
  by_cases h : ((20 : Int) < (tn : Int)) ∨ (¬ (20 : Int) < (tn : Int) ∧ (50 : Int) < (fn : Int)) ∨ (¬ (20 : Int) < (tn : Int) ∧ ¬ (50 : Int) < (fn : Int) ∧ (50 : Int) < (gn : Int)) ∨ (¬ (20 : Int) < (tn : Int) ∧ ¬ (50 : Int) < (fn : Int) ∧ ¬ (50 : Int) < (gn : Int) ∧ (50 : Int) < (ps.length : Int)) ∨ (¬ (20 : Int) < (tn : Int) ∧ ¬ (50 : Int) < (fn : Int) ∧ ¬ (50 : Int) < (gn : Int) ∧ ¬ (50 : Int) < (ps.length : Int) ∧ (5 : Int) < (rs.length : Int)) ∨ (¬ (20 : Int) < (tn : Int) ∧ ¬ (50 : Int) < (fn : Int) ∧ ¬ (50 : Int) < (gn : Int) ∧ ¬ (50 : Int) < (ps.length : Int) ∧ ¬ (5 : Int) < (rs.length : Int) ∧ (100 : Int) < (n : Int)) ∨ (¬ (20 : Int) < (tn : Int) ∧ ¬ (50 : Int) < (fn : Int) ∧ ¬ (50 : Int) < (gn : Int) ∧ ¬ (50 : Int) < (ps.length : Int) ∧ ¬ (5 : Int) < (rs.length : Int) ∧ ¬ (100 : Int) < (n : Int) ∧ (20 : Int) < (ln : Int))
  · exact (small_big w tA fA gA LA IA tn tc fn fc gn gc ln lc n c tb me ps rs h).mono fun e w' ⟨h1, h2⟩ => ⟨⟨false, h1, fun h => by cases h⟩, h2⟩
  · have hall : tn ≤ 20 ∧ fn ≤ 50 ∧ gn ≤ 50 ∧ ps.length ≤ 50 ∧ rs.length ≤ 5 ∧ n ≤ 100 ∧ ln ≤ 20 := by omega
    exact (small_ok w tA fA gA LA IA tn tc fn fc gn gc ln lc n c tb me ps rs ts l R HTN HN hrt hri (by omega) (by omega) (by omega) (by omega) (by omega) (by omega) (by omega)).mono fun e w' ⟨⟨b, h1, h2⟩, h3⟩ => ⟨⟨b, h1, fun hb => ⟨hall, h2 hb⟩⟩, h3⟩
end Go.Proofs.Ytpebdfgfikjkeaa
/-! The law CheckNop: its walk. -/
namespace Go.Proofs.Ytpebdfgfikjkeaa
open Go.RowKit

theorem own_lit4 (w : World) (cur : Array Value) (e : TypeId) (n size base : Nat) (hb : base ≤ w.heap.size) (hm : n ≤ maxLen) (hs : cur.size = n * size) : (w.alloc (.cells cur e)).ownsRow base e size (.slice (some ⟨w.heap.size, 0, none⟩) n n) n cur.toList :=
  ⟨(Array.length_toList (xs := cur)).trans hs, .inr ⟨w.heap.size, n, cur, rfl, hb, heap_alloc_new w _, Nat.le_refl _, hm, hs, by rw [← hs, ← Array.length_toList, List.take_length]⟩⟩
theorem E_ig : ElemTy Try.prog 30 40 4 48 := elem_of Try.underlying30 (z := .agg #[.int .u8 0, .int .u64 0, .int .u64 0, .slice none 0 0]) (by kernel_rfl) rfl (by decide)
theorem igs_one (l : List Ig) : ∀ u ∈ igs l, u.oneCell' = true := by
  intro u hu
  obtain ⟨f, _, hf⟩ := List.mem_flatMap.1 hu
  simp [Ig.cells, insC] at hf
  rcases hf with rfl | rfl | rfl | rfl <;> rfl
/-- What is known of an instruction that came in. -/
structure IgRaw (w : World) (R : Nat → Prop) (x : Ig) : Prop where
  op : x.op < 256
  a : x.a < 18446744073709551616
  n : x.n = x.L.length
  lt : ∀ y ∈ x.L, y < 4294967296
  rd : Reads w R 1 x.A x.n (x.L.flatMap fun y : Nat => [Value.int .u32 (y : Int)])
theorem IgRaw.in_ {w w' : World} {R R' F : Nat → Prop} {x : Ig} (h : IgRaw w R x) (hs : Step F w w') (hd : ∀ k, R k → ¬ F k) (hR : ∀ k, R k → R' k) (hf : x.n ≤ 1000) : IgIn w' R' x :=
  ⟨h.op, h.a, h.n, hf, h.lt, (h.rd.step hs hd).mono fun k _ hk => hR k hk⟩
theorem EnvIn.wide {w : World} {R R' : Nat → Prop} {E : Ke} {tA fA gA : Option Addr} (h : EnvIn w R E tA fA gA) (hR : ∀ k, R k → R' k) (hi : ∀ k, R' k → k < w.heap.size) : EnvIn w R' E tA fA gA :=
  ⟨h.types.mono fun k _ hk => hR k hk, h.funcs.mono fun k _ hk => hR k hk, h.globals.mono fun k _ hk => hR k hk, hi⟩

set_option maxRecDepth 100000 in
set_option maxHeartbeats 6400000 in
theorem nop_walk (w : World) (R : Nat → Prop) (E : Ke) (tA fA gA : Option Addr) (tc fc gc : Nat) (ps : List UInt8) (LA IA : Option Addr) (lc n c : Nat) (lo : List (Nat × Nat)) (l : List Ig)
    (hE : EnvIn w R E tA fA gA) (HN : Hid (n = l.length)) (hin : ∀ x ∈ l, IgRaw w R x) (hr : Reads w R 4 IA n (igs l)) (hl : Reads w R 2 LA lo.length (lo.flatMap loC))
    (hb : ∀ g ∈ lo, g.1 < 4294967296 ∧ g.2 < 256) (hff : ∀ x ∈ E.funcs, x < 4294967296) (hgg : ∀ x ∈ E.globals, x.1 < 256) (hloc : E.locals = ps ++ loT lo) :
    Calls Try.prog 3 #[envV E tA fA gA tc fc gc, .agg #[.string (str ps), .string (str E.result)], .agg #[.slice LA lo.length lc, .slice IA n c]] w fun e w' => e = .returned (.bool true) ∧ Step (fun _ => False) w w' := by
  have s1 : Step (fun _ => False) w (((w.alloc (.cells #[.slice tA E.types.length tc, .slice fA E.funcs.length fc, .slice gA E.globals.length gc, .bool E.table, .bool E.mem] 26)).alloc (.cells #[.string (str ps), .string (str E.result)] 28)).alloc (.cells #[.slice LA lo.length lc, .slice IA n c] 32)) := ((Step.refl.alloc _).alloc _).alloc _
  have b0 := ((Blk.new w 26 #[.slice tA E.types.length tc, .slice fA E.funcs.length fc, .slice gA E.globals.length gc, .bool E.table, .bool E.mem]).alloc (.cells #[.string (str ps), .string (str E.result)] 28)).alloc (.cells #[.slice LA lo.length lc, .slice IA n c] 32)
  have b1 := (Blk.new (w.alloc (.cells #[.slice tA E.types.length tc, .slice fA E.funcs.length fc, .slice gA E.globals.length gc, .bool E.table, .bool E.mem] 26)) 28 #[.string (str ps), .string (str E.result)]).alloc (.cells #[.slice LA lo.length lc, .slice IA n c] 32)
  have b2 := Blk.new ((w.alloc (.cells #[.slice tA E.types.length tc, .slice fA E.funcs.length fc, .slice gA E.globals.length gc, .bool E.table, .bool E.mem] 26)).alloc (.cells #[.string (str ps), .string (str E.result)] 28)) 32 #[.slice LA lo.length lc, .slice IA n c]
  simp only [World.size_alloc] at b1 b2
  have S1 := Lib.hid s1
  have B0 := Lib.hid b0
  have B1 := Lib.hid b1
  have B2 := Lib.hid b2
  have HE := Lib.hid hE
  have HI := Lib.hid hin
  have HR := Lib.hid hr
  have HL := Lib.hid hl
  have HB := Lib.hid hb
  replace hloc := Lib.hid hloc
  replace hff := Lib.hid hff
  replace hgg := Lib.hid hgg
  clear hE hin hr hl hb s1 b0 b1 b2
  unfold envV
  go_enter Try.func3, Try.ntmps3
  go_upto_region 1 with fail
  generalize w.heap.size = N at *
  generalize ((w.alloc (.cells #[.slice tA E.types.length tc, .slice fA E.funcs.length fc, .slice gA E.globals.length gc, .bool E.table, .bool E.mem] 26)).alloc (.cells #[.string (str ps), .string (str E.result)] 28)).alloc (.cells #[.slice LA lo.length lc, .slice IA n c] 32) = V at *
  go_wp2_with fail
  refine (awake24 V).mono ?_
  rintro e w1 ⟨rfl, t1⟩
  replace B0 := Lib.hid (B0.out.step t1 id)
  replace B1 := Lib.hid (B1.out.step t1 id)
  replace B2 := Lib.hid (B2.out.step t1 id)
  replace S1 := Lib.hid (S1.out.trans t1)
  clear t1
  have z0 := (B0.out.cell 0).trans (show _ = some (Value.slice tA E.types.length tc) from rfl)
  have z1 := (B0.out.cell 1).trans (show _ = some (Value.slice fA E.funcs.length fc) from rfl)
  have z2 := (B0.out.cell 2).trans (show _ = some (Value.slice gA E.globals.length gc) from rfl)
  have z3 := (B0.out.cell 3).trans (show _ = some (Value.bool E.table) from rfl)
  have z4 := (B0.out.cell 4).trans (show _ = some (Value.bool E.mem) from rfl)
  have x0 := (B1.out.cell 0).trans (show _ = some (Value.string (str ps)) from rfl)
  have x1 := (B1.out.cell 1).trans (show _ = some (Value.string (str E.result)) from rfl)
  have y0 := (B2.out.cell 0).trans (show _ = some (Value.slice LA lo.length lc) from rfl)
  have y1 := (B2.out.cell 1).trans (show _ = some (Value.slice IA n c) from rfl)
  go_wp2_with fail
  refine (small_walk w1 tA fA gA LA IA E.types.length tc E.funcs.length fc E.globals.length gc lo.length lc n c E.table E.mem ps E.result E.types l R rfl HN (HE.out.types.step S1.out (fun _ _ => id)) (HR.out.step S1.out (fun _ _ => id))).mono ?_
  rintro e w2 ⟨⟨b, rfl, hbt⟩, t2⟩
  cases b with
  | false =>
    go_wp2_with fail
    go_ret
    exact ⟨rfl, S1.out.trans t2⟩
  | true =>
    obtain ⟨⟨k1, k2, k3, k4, k5, k6, k7⟩, hfew, hts⟩ := hbt rfl
    replace B0 := Lib.hid (B0.out.step t2 id)
    replace B1 := Lib.hid (B1.out.step t2 id)
    replace B2 := Lib.hid (B2.out.step t2 id)
    replace S1 := Lib.hid (S1.out.trans t2)
    clear t2 z0 z1 z2 z3 z4 x0 x1 y0 y1 hbt
    have z0 := (B0.out.cell 0).trans (show _ = some (Value.slice tA E.types.length tc) from rfl)
    have z1 := (B0.out.cell 1).trans (show _ = some (Value.slice fA E.funcs.length fc) from rfl)
    have z2 := (B0.out.cell 2).trans (show _ = some (Value.slice gA E.globals.length gc) from rfl)
    have z3 := (B0.out.cell 3).trans (show _ = some (Value.bool E.table) from rfl)
    have z4 := (B0.out.cell 4).trans (show _ = some (Value.bool E.mem) from rfl)
    have x0 := (B1.out.cell 0).trans (show _ = some (Value.string (str ps)) from rfl)
    have x1 := (B1.out.cell 1).trans (show _ = some (Value.string (str E.result)) from rfl)
    have y0 := (B2.out.cell 0).trans (show _ = some (Value.slice LA lo.length lc) from rfl)
    have y1 := (B2.out.cell 1).trans (show _ = some (Value.slice IA n c) from rfl)
    have hok : locF lo 0 ≠ none → E.ok := fun h => by
      obtain ⟨ln, hln⟩ : ∃ v, locF lo 0 = some v := by
        cases hc : locF lo 0 with
        | none => exact absurd hc h
        | some v => exact ⟨v, rfl⟩
      have := locF_le lo 0 ln (by omega) hln
      exact ⟨fun t ht => ⟨by have := (hts t ht).1; omega, by have := (hts t ht).2; omega⟩, by omega, by omega, by omega, hff.out, hgg.out, by rw [hloc.out, List.length_append]; omega, by omega⟩
    have HOK := Lib.hid hok
    have HFEW := Lib.hid hfew
    have HE2 := Lib.hid (HE.out.step S1.out (fun _ _ => id))
    have HR2 := Lib.hid (HR.out.step S1.out (fun _ _ => id))
    have HL2 := Lib.hid (HL.out.step S1.out (fun _ _ => id))
    have HI2 := Lib.hid (fun x hx => (HI.out x hx).in_ (R' := R) S1.out (fun _ _ => id) (fun _ h => h) (by have := HFEW.out x hx; omega))
    have HBD := Lib.hid (body_walk w2 R E tA fA gA tc fc gc ps LA IA lc n c lo l HE2.out HN (by omega) HI2.out HR2.out HL2.out HB.out (by omega) (by omega) HOK.out hloc.out (by omega))
    have HB2 : Hid (∀ (U : World) (D : Option Addr) (c' : Nat), Step (fun _ => False) w2 U → Reads U (fun k => k < U.heap.size) 4 D (1 + n) (igs (nopI :: l)) → _) := fun U D c' hU hD =>
      body_walk U (fun k => k < U.heap.size) E tA fA gA tc fc gc ps LA D lc (1 + n) c' lo (nopI :: l)
        ((HE2.out.step hU (fun _ _ => id)).wide (fun k hk => Nat.lt_of_lt_of_le (HE2.out.rin k hk) hU.size) (fun _ h => h)) (by show 1 + n = (nopI :: l).length; rw [List.length_cons, HN.out]; omega) (by omega)
        (fun x hx => by
          rcases List.mem_cons.1 hx with rfl | hx
          · exact ⟨by decide, by decide, rfl, by decide, fun y hy => (by cases hy), Reads.nil_⟩
          · exact (HI.out x hx).in_ (S1.out.trans hU) (fun _ _ => id) (fun k hk => Nat.lt_of_lt_of_le (HE2.out.rin k hk) hU.size) (by have := HFEW.out x hx; omega)) hD
        ((HL2.out.step hU (fun _ _ => id)).mono fun k _ hk => Nat.lt_of_lt_of_le (HE2.out.rin k hk) hU.size) HB.out (by omega) (by omega) HOK.out hloc.out (by omega)
    have hnop := body_nop E lo l
    rw [← HN.out] at hnop
    generalize bodyF E lo l = p1 at HBD hnop
    generalize bodyF E lo (nopI :: l) = p2 at HB2 hnop
    obtain ⟨i1, f1⟩ := p1
    obtain ⟨i2, f2⟩ := p2
    simp only at HBD HB2 hnop
    have HNOP := Lib.hid hnop
    clear hnop hok hfew hts
    go_wp2_with fail
    refine HBD.out.mono ?_
    rintro e w3 ⟨rfl, t3⟩
    replace B0 := Lib.hid (B0.out.step t3 id)
    replace B1 := Lib.hid (B1.out.step t3 id)
    replace y0 := ((B2.out.step t3 id).cell 0).trans (show _ = some (Value.slice LA lo.length lc) from rfl)
    replace y1 := ((B2.out.step t3 id).cell 1).trans (show _ = some (Value.slice IA n c) from rfl)
    have d0 := cls_cell (F := fun _ => False) y0 id
    have d1 := cls_cell (F := fun _ => False) y1 id
    have hsrc := HR2.out.step t3 (fun _ _ => id)
    replace hsrc := hsrc.mono (S' := fun k => k < w3.heap.size) (fun k hk _ => hk)
    have HU2 := Lib.hid t3
    have S3 := Lib.hid (S1.out.trans t3)
    have hone := igs_one l
    have hm : 1 + n ≤ maxLen := by unfold maxLen; omega
    clear z0 z1 z2 z3 z4 x0 x1 t3 B2 HBD
    go_wp2_with fail
    have hfC : ((w3.alloc (.cells #[.slice none 0 0, .slice none 0 0] 32)).alloc (.cells #[.int .u8 1, .int .u64 0, .int .u64 0, .slice none 0 0] 40)).drew.ownsRow w3.heap.size 40 4 (.slice (some ⟨w3.heap.size + 1, 0, none⟩) 1 1) 1 (#[.int .u8 1, .int .u64 0, .int .u64 0, .slice none 0 0] : Array Value).toList := by
      have := own_drew (own_lit4 (w3.alloc (.cells #[.slice none 0 0, .slice none 0 0] 32)) #[.int .u8 1, .int .u64 0, .int .u64 0, .slice none 0 0] 40 1 4 w3.heap.size (by simp) (by unfold maxLen; omega) rfl)
      rwa [show (w3.alloc (.cells #[.slice none 0 0, .slice none 0 0] 32)).heap.size = w3.heap.size + 1 by simp] at this
    have hrA := hsrc.step (F := fun _ => False) (Step.drew (Step.alloc Step.refl (.cells #[.int .u8 1, .int .u64 0, .int .u64 0, .slice none 0 0] 40))) (fun _ _ => id)
    have hrB := hsrc.step (F := fun _ => False) (Step.drew (Step.alloc (Step.alloc Step.refl (.cells #[.int .u8 1, .int .u64 0, .int .u64 0, .slice none 0 0] 40)) (.cells #[.slice none 0 0, .slice none 0 0] 32))) (fun _ _ => id)
    have hrC := hsrc.step (F := fun _ => False) (Step.drew (Step.alloc (Step.alloc Step.refl (.cells #[.slice none 0 0, .slice none 0 0] 32)) (.cells #[.int .u8 1, .int .u64 0, .int .u64 0, .slice none 0 0] 40))) (fun _ _ => id)
    have hK0 := (Blk.new (w3.alloc (.cells #[.int .u8 1, .int .u64 0, .int .u64 0, .slice none 0 0] 40)) 32 #[.slice none 0 0, .slice none 0 0]).drew
    rw [show (w3.alloc (.cells #[.int .u8 1, .int .u64 0, .int .u64 0, .slice none 0 0] 40)).heap.size = w3.heap.size + 1 by simp] at hK0
    have hK1 := ((Blk.new w3 32 #[.slice none 0 0, .slice none 0 0]).alloc (.cells #[.int .u8 1, .int .u64 0, .int .u64 0, .slice none 0 0] 40)).drew
    refine Mxt.wp_region_tree [3, 6, 8, 9] [3, 6, 8] (.reads [0, 1, 2, 4, 5] (.fork (.op 3 (.fork (.op 6 (.reads [7] (.op 8 (.op 9 .leaf)))) (.op 8 (.op 6 (.reads [7] (.op 9 .leaf)))))) (.op 8 (.op 3 (.op 6 (.reads [7] (.op 9 .leaf))))))) (Step (fun _ => False) w3) (by kernel_rfl) (by kernel_rfl) Step.refl.drew (fun hcls => ?_)
    refine Mxt.wpTL_reads ?_
    simp only [List.flatMap_cons, List.flatMap_nil, List.getElem?_cons_succ, List.getElem?_cons_zero, Option.toList_some, List.cons_append, List.nil_append]
    repeat (go_big_quiet_step (fail))
    refine wpQuiet_nil ?_
    refine Mxt.wpTL_fork ?_ ?_
    · refine Mxt.wpTL_op (by rfl) (fun K hK => ?_)
      go_simp
      refine hK _ _ (fun hlt => Mix.cl (Step.drew (Step.alloc Step.refl _))) ?_
      clear hK K
      refine Mxt.wpTL_fork ?_ ?_
      · refine Mxt.wpTL_op (by rfl) (fun K hK => ?_)
        refine step_append_new (w0 := w3) (by rfl) _ _ (by rfl) E_ig (Step.drew (Step.alloc Step.refl _)) (by rfl) (own_drew (own_lit4 w3 #[.int .u8 1, .int .u64 0, .int .u64 0, .slice none 0 0] 40 1 4 w3.heap.size (Nat.le_refl _) (by unfold maxLen; omega) rfl)) (by rfl) (hrA) hone hm (by omega) ?_
        intro D1 c1 W1 hown1 hS1 hgrow1 hat1
        refine hK _ _ (fun hlt => Mix.cl hS1) ?_
        clear hK K
        simp only [Act.put, List.setIfInBounds_toArray, List.set_cons_succ, List.set_cons_zero, Nat.zero_add]
        refine Mxt.wpTL_reads ?_
        simp only [List.flatMap_cons, List.flatMap_nil, List.getElem?_cons_succ, List.getElem?_cons_zero, Option.toList_some, List.cons_append, List.nil_append]
        repeat (go_big_quiet_step (fail))
        refine wpQuiet_nil ?_
        refine Mxt.wpTL_op (by rfl) (fun K hK => ?_)
        go_simp
        refine hK _ _ (fun hlt => Mix.cl (Step.alloc hS1 _)) ?_
        clear hK K
        refine Mxt.wpTL_op (by rfl) (fun K hK => ?_)
        go_simp
        refine hK _ _ (fun hlt => absurd hlt (by decide)) ?_
        clear hK K
        refine Mxt.wpTL_leaf ?_
        have hsU : Step (fun _ => False) w3 (W1.alloc (.cells #[.slice LA lo.length lc, .slice D1 (1 + n) c1] 32)) := hS1.alloc _
        have bz : Blk (W1.alloc (.cells #[.slice LA lo.length lc, .slice D1 (1 + n) c1] 32)) (W1.heap.size) 32 #[.slice LA lo.length lc, .slice D1 (1 + n) c1] := Blk.new W1 _ _
        have hoU : (W1.alloc (.cells #[.slice LA lo.length lc, .slice D1 (1 + n) c1] 32)).ownsRow w3.heap.size 40 4 (.slice D1 (1 + n) c1) (1 + n) (igs (nopI :: l)) := hown1.alloc _
        have hrU : Reads (W1.alloc (.cells #[.slice LA lo.length lc, .slice D1 (1 + n) c1] 32)) (fun k => k < (W1.alloc (.cells #[.slice LA lo.length lc, .slice D1 (1 + n) c1] 32)).heap.size) 4 D1 (1 + n) (igs (nopI :: l)) := (Reads.of_own hoU).mono fun k hk _ => hk
        have HX := Lib.hid (HB2.out _ D1 c1 (HU2.out.trans hsU) hrU)
        unfold envV at HX
        have SU := Lib.hid (S3.out.trans hsU)
        have z0 := ((B0.out.step hsU id).cell 0).trans (show _ = some (Value.slice tA E.types.length tc) from rfl)
        have z1 := ((B0.out.step hsU id).cell 1).trans (show _ = some (Value.slice fA E.funcs.length fc) from rfl)
        have z2 := ((B0.out.step hsU id).cell 2).trans (show _ = some (Value.slice gA E.globals.length gc) from rfl)
        have z3 := ((B0.out.step hsU id).cell 3).trans (show _ = some (Value.bool E.table) from rfl)
        have z4 := ((B0.out.step hsU id).cell 4).trans (show _ = some (Value.bool E.mem) from rfl)
        have x0 := ((B1.out.step hsU id).cell 0).trans (show _ = some (Value.string (str ps)) from rfl)
        have x1 := ((B1.out.step hsU id).cell 1).trans (show _ = some (Value.string (str E.result)) from rfl)
        have q0 := (bz.cell 0).trans (show _ = some (Value.slice LA lo.length lc) from rfl)
        have q1 := (bz.cell 1).trans (show _ = some (Value.slice D1 (1 + n) c1) from rfl)
        clear hsU bz hoU hrU y0 y1 d0 d1 hown1 hS1 hgrow1 hat1
        generalize W1.alloc (.cells #[.slice LA lo.length lc, .slice D1 (1 + n) c1] 32) = U at *
        go_wp2_with fail
        refine HX.out.mono ?_
        rintro e w9 ⟨rfl, t9⟩
        have S9 := Lib.hid (SU.out.trans t9)
        clear t9
        rcases HNOP.out with ⟨v1, rfl, rfl⟩ | ⟨v1, rfl, rfl, v2⟩
        · go_wp2_with fail
          go_ret
          exact ⟨rfl, S9.out⟩
        · have v3 := IntWalk.i64_in (i1 + 1) (by omega)
          go_wp2_with fail
          go_ret
          exact ⟨rfl, S9.out⟩
      · refine Mxt.wpTL_op (by rfl) (fun K hK => ?_)
        go_simp
        refine hK _ _ (fun hlt => Mix.cl (Step.drew (Step.alloc (Step.alloc Step.refl _) _))) ?_
        clear hK K
        refine Mxt.wpTL_op (by rfl) (fun K hK => ?_)
        refine step_append_new (w0 := w3) (by rfl) _ _ (by rfl) E_ig (Step.drew (Step.alloc (Step.alloc Step.refl _) _)) (by rfl) (own_drew ((own_lit4 w3 #[.int .u8 1, .int .u64 0, .int .u64 0, .slice none 0 0] 40 1 4 w3.heap.size (Nat.le_refl _) (by unfold maxLen; omega) rfl).alloc (.cells #[.slice none 0 0, .slice none 0 0] 32))) (by rfl) (hrB) hone hm (by omega) ?_
        intro D1 c1 W1 hown1 hS1 hgrow1 hat1
        refine hK _ _ (fun hlt => Mix.cl hS1) ?_
        clear hK K
        simp only [Act.put, List.setIfInBounds_toArray, List.set_cons_succ, List.set_cons_zero, Nat.zero_add]
        have hb1 := hK0.grown hgrow1 (by simp [blkOf])
        have v0 := (hb1.cell 0).trans (show _ = some (Value.slice none 0 0) from rfl)
        have v1 := (hb1.cell 1).trans (show _ = some (Value.slice none 0 0) from rfl)
        have vf := hb1.frozen
        have hne := own_tag hown1 hb1 (by decide)
        refine Mxt.wpTL_reads ?_
        simp only [List.flatMap_cons, List.flatMap_nil, List.getElem?_cons_succ, List.getElem?_cons_zero, Option.toList_some, List.cons_append, List.nil_append]
        repeat (go_big_quiet_step (fail))
        refine wpQuiet_nil ?_
        refine Mxt.wpTL_op (by rfl) (fun K hK => ?_)
        go_simp
        refine hK _ _ (fun hlt => absurd hlt (by decide)) ?_
        clear hK K
        refine Mxt.wpTL_leaf ?_
        clear v0 v1 vf
        have hsU : Step (fun _ => False) w3 ((W1.setCell ⟨w3.heap.size + 1, 0, none⟩ (.slice LA lo.length lc)).setCell ⟨w3.heap.size + 1, 1, none⟩ (.slice D1 (1 + n) c1)) := (hS1.setCell (p := ⟨w3.heap.size + 1, 0, none⟩) (.inr (Nat.le_succ _)) _).setCell (p := ⟨w3.heap.size + 1, 1, none⟩) (.inr (Nat.le_succ _)) _
        have bz : Blk ((W1.setCell ⟨w3.heap.size + 1, 0, none⟩ (.slice LA lo.length lc)).setCell ⟨w3.heap.size + 1, 1, none⟩ (.slice D1 (1 + n) c1)) (w3.heap.size + 1) 32 #[.slice LA lo.length lc, .slice D1 (1 + n) c1] := by have := (hb1.set_ 0 (.slice LA lo.length lc)).set_ 1 (.slice D1 (1 + n) c1); simpa using this
        have hoU : ((W1.setCell ⟨w3.heap.size + 1, 0, none⟩ (.slice LA lo.length lc)).setCell ⟨w3.heap.size + 1, 1, none⟩ (.slice D1 (1 + n) c1)).ownsRow w3.heap.size 40 4 (.slice D1 (1 + n) c1) (1 + n) (igs (nopI :: l)) := own_set (own_set hown1 (p := ⟨w3.heap.size + 1, 0, none⟩) hne _) (p := ⟨w3.heap.size + 1, 1, none⟩) hne _
        have hrU : Reads ((W1.setCell ⟨w3.heap.size + 1, 0, none⟩ (.slice LA lo.length lc)).setCell ⟨w3.heap.size + 1, 1, none⟩ (.slice D1 (1 + n) c1)) (fun k => k < ((W1.setCell ⟨w3.heap.size + 1, 0, none⟩ (.slice LA lo.length lc)).setCell ⟨w3.heap.size + 1, 1, none⟩ (.slice D1 (1 + n) c1)).heap.size) 4 D1 (1 + n) (igs (nopI :: l)) := (Reads.of_own hoU).mono fun k hk _ => hk
        have HX := Lib.hid (HB2.out _ D1 c1 (HU2.out.trans hsU) hrU)
        unfold envV at HX
        have SU := Lib.hid (S3.out.trans hsU)
        have z0 := ((B0.out.step hsU id).cell 0).trans (show _ = some (Value.slice tA E.types.length tc) from rfl)
        have z1 := ((B0.out.step hsU id).cell 1).trans (show _ = some (Value.slice fA E.funcs.length fc) from rfl)
        have z2 := ((B0.out.step hsU id).cell 2).trans (show _ = some (Value.slice gA E.globals.length gc) from rfl)
        have z3 := ((B0.out.step hsU id).cell 3).trans (show _ = some (Value.bool E.table) from rfl)
        have z4 := ((B0.out.step hsU id).cell 4).trans (show _ = some (Value.bool E.mem) from rfl)
        have x0 := ((B1.out.step hsU id).cell 0).trans (show _ = some (Value.string (str ps)) from rfl)
        have x1 := ((B1.out.step hsU id).cell 1).trans (show _ = some (Value.string (str E.result)) from rfl)
        have q0 := (bz.cell 0).trans (show _ = some (Value.slice LA lo.length lc) from rfl)
        have q1 := (bz.cell 1).trans (show _ = some (Value.slice D1 (1 + n) c1) from rfl)
        clear hb1 hne hsU bz hoU hrU y0 y1 d0 d1 hown1 hS1 hgrow1 hat1
        generalize (W1.setCell ⟨w3.heap.size + 1, 0, none⟩ (.slice LA lo.length lc)).setCell ⟨w3.heap.size + 1, 1, none⟩ (.slice D1 (1 + n) c1) = U at *
        go_wp2_with fail
        refine HX.out.mono ?_
        rintro e w9 ⟨rfl, t9⟩
        have S9 := Lib.hid (SU.out.trans t9)
        clear t9
        rcases HNOP.out with ⟨v1, rfl, rfl⟩ | ⟨v1, rfl, rfl, v2⟩
        · go_wp2_with fail
          go_ret
          exact ⟨rfl, S9.out⟩
        · have v3 := IntWalk.i64_in (i1 + 1) (by omega)
          go_wp2_with fail
          go_ret
          exact ⟨rfl, S9.out⟩
    · refine Mxt.wpTL_op (by rfl) (fun K hK => ?_)
      go_simp
      refine hK _ _ (fun hlt => Mix.cl (Step.drew (Step.alloc Step.refl _))) ?_
      clear hK K
      refine Mxt.wpTL_op (by rfl) (fun K hK => ?_)
      go_simp
      refine hK _ _ (fun hlt => Mix.cl (Step.drew (Step.alloc (Step.alloc Step.refl _) _))) ?_
      clear hK K
      refine Mxt.wpTL_op (by rfl) (fun K hK => ?_)
      refine step_append_new (w0 := w3) (by rfl) _ _ (by rfl) E_ig (Step.drew (Step.alloc (Step.alloc Step.refl _) _)) (by rfl) (hfC) (by rfl) (hrC) hone hm (by omega) ?_
      intro D1 c1 W1 hown1 hS1 hgrow1 hat1
      refine hK _ _ (fun hlt => Mix.cl hS1) ?_
      clear hK K
      simp only [Act.put, List.setIfInBounds_toArray, List.set_cons_succ, List.set_cons_zero, Nat.zero_add]
      have hb1 := hK1.grown hgrow1 (by simp [blkOf])
      have v0 := (hb1.cell 0).trans (show _ = some (Value.slice none 0 0) from rfl)
      have v1 := (hb1.cell 1).trans (show _ = some (Value.slice none 0 0) from rfl)
      have vf := hb1.frozen
      have hne := own_tag hown1 hb1 (by decide)
      refine Mxt.wpTL_reads ?_
      simp only [List.flatMap_cons, List.flatMap_nil, List.getElem?_cons_succ, List.getElem?_cons_zero, Option.toList_some, List.cons_append, List.nil_append]
      repeat (go_big_quiet_step (fail))
      refine wpQuiet_nil ?_
      refine Mxt.wpTL_op (by rfl) (fun K hK => ?_)
      go_simp
      refine hK _ _ (fun hlt => absurd hlt (by decide)) ?_
      clear hK K
      refine Mxt.wpTL_leaf ?_
      clear v0 v1 vf
      have hsU : Step (fun _ => False) w3 ((W1.setCell ⟨w3.heap.size, 0, none⟩ (.slice LA lo.length lc)).setCell ⟨w3.heap.size, 1, none⟩ (.slice D1 (1 + n) c1)) := (hS1.setCell (p := ⟨w3.heap.size, 0, none⟩) (.inr (Nat.le_refl _)) _).setCell (p := ⟨w3.heap.size, 1, none⟩) (.inr (Nat.le_refl _)) _
      have bz : Blk ((W1.setCell ⟨w3.heap.size, 0, none⟩ (.slice LA lo.length lc)).setCell ⟨w3.heap.size, 1, none⟩ (.slice D1 (1 + n) c1)) (w3.heap.size) 32 #[.slice LA lo.length lc, .slice D1 (1 + n) c1] := by have := (hb1.set_ 0 (.slice LA lo.length lc)).set_ 1 (.slice D1 (1 + n) c1); simpa using this
      have hoU : ((W1.setCell ⟨w3.heap.size, 0, none⟩ (.slice LA lo.length lc)).setCell ⟨w3.heap.size, 1, none⟩ (.slice D1 (1 + n) c1)).ownsRow w3.heap.size 40 4 (.slice D1 (1 + n) c1) (1 + n) (igs (nopI :: l)) := own_set (own_set hown1 (p := ⟨w3.heap.size, 0, none⟩) hne _) (p := ⟨w3.heap.size, 1, none⟩) hne _
      have hrU : Reads ((W1.setCell ⟨w3.heap.size, 0, none⟩ (.slice LA lo.length lc)).setCell ⟨w3.heap.size, 1, none⟩ (.slice D1 (1 + n) c1)) (fun k => k < ((W1.setCell ⟨w3.heap.size, 0, none⟩ (.slice LA lo.length lc)).setCell ⟨w3.heap.size, 1, none⟩ (.slice D1 (1 + n) c1)).heap.size) 4 D1 (1 + n) (igs (nopI :: l)) := (Reads.of_own hoU).mono fun k hk _ => hk
      have HX := Lib.hid (HB2.out _ D1 c1 (HU2.out.trans hsU) hrU)
      unfold envV at HX
      have SU := Lib.hid (S3.out.trans hsU)
      have z0 := ((B0.out.step hsU id).cell 0).trans (show _ = some (Value.slice tA E.types.length tc) from rfl)
      have z1 := ((B0.out.step hsU id).cell 1).trans (show _ = some (Value.slice fA E.funcs.length fc) from rfl)
      have z2 := ((B0.out.step hsU id).cell 2).trans (show _ = some (Value.slice gA E.globals.length gc) from rfl)
      have z3 := ((B0.out.step hsU id).cell 3).trans (show _ = some (Value.bool E.table) from rfl)
      have z4 := ((B0.out.step hsU id).cell 4).trans (show _ = some (Value.bool E.mem) from rfl)
      have x0 := ((B1.out.step hsU id).cell 0).trans (show _ = some (Value.string (str ps)) from rfl)
      have x1 := ((B1.out.step hsU id).cell 1).trans (show _ = some (Value.string (str E.result)) from rfl)
      have q0 := (bz.cell 0).trans (show _ = some (Value.slice LA lo.length lc) from rfl)
      have q1 := (bz.cell 1).trans (show _ = some (Value.slice D1 (1 + n) c1) from rfl)
      clear hb1 hne hsU bz hoU hrU y0 y1 d0 d1 hown1 hS1 hgrow1 hat1
      generalize (W1.setCell ⟨w3.heap.size, 0, none⟩ (.slice LA lo.length lc)).setCell ⟨w3.heap.size, 1, none⟩ (.slice D1 (1 + n) c1) = U at *
      go_wp2_with fail
      refine HX.out.mono ?_
      rintro e w9 ⟨rfl, t9⟩
      have S9 := Lib.hid (SU.out.trans t9)
      clear t9
      rcases HNOP.out with ⟨v1, rfl, rfl⟩ | ⟨v1, rfl, rfl, v2⟩
      · go_wp2_with fail
        go_ret
        exact ⟨rfl, S9.out⟩
      · have v3 := IntWalk.i64_in (i1 + 1) (by omega)
        go_wp2_with fail
        go_ret
        exact ⟨rfl, S9.out⟩
end Go.Proofs.Ytpebdfgfikjkeaa
/-! check: the arguments of the law CheckNop, opened. -/
namespace Go.Proofs.Ytpebdfgfikjkeaa
open Go.RowKit Go.ChangeShapes Go.WideShapes Go.Joins Go.ChangeAt Go.Deep
section
variable {H : Type} {enc : TypeId × Value → H} {P : Program} {w : World} {base : Nat} {spare : Nat → Bool} {held : Bool}
theorem open_rows {α : Type} [Inhabited α] (G : α → Prop) (c : α → List Value) {t e : TypeId} {m0 fuel : Nat} {a0 : Option Addr} {len cap : Nat} {x : DataW H × List MemPlace}
    (ht : P.underlying t = some (.slice e)) (hC : P.cellsOf e = m0) (hpos : 0 < m0) (hc : ∀ a, (c a).length = m0)
    (hmk : ∀ (vs : List Value) (n : Nat) (y : DataW H × List MemPlace), vs.length = m0 → DataW.trod enc P w base spare held n e vs = some y → ∃ a, G a ∧ vs = c a)
    (h : DataW.trod enc P w base spare held fuel t [.slice a0 len cap] = some x) :
    ∃ l : List α, l.length = len ∧ (∀ x ∈ l, G x) ∧ Reads w (fun k => k < w.heap.size) m0 a0 len (l.flatMap c) ∧ len ≤ cap ∧ cap ≤ maxLen := by
  rcases open_slice ht h with ⟨h0, _⟩ | ⟨a, len', cap', m, n, D, Pl, hcs, hb, hl, hm, hmm, hx, hi⟩
  · simp at h0
    obtain ⟨rfl, rfl, rfl⟩ := h0
    exact ⟨[], rfl, (fun _ h => by cases h), Reads.nil_, Nat.le_refl _, by unfold maxLen; omega⟩
  · simp at hcs
    obtain ⟨rfl, rfl, rfl⟩ := hcs
    have hlm : len ≤ m := by rw [hmm]; split <;> omega
    have one : ∀ i, i < len → ∃ y : α, G y ∧ ∀ j u, (c y)[j]? = some u → w.cell? (a.add (i * m0 + j)) = some u := fun i hil => by
      obtain ⟨cs', h1, h2⟩ := hi i (by omega)
      rw [hC] at h1
      obtain ⟨_, hcl, hat⟩ := World.cells?_some h1
      obtain ⟨y, hG, rfl⟩ := hmk cs' _ _ hcl h2
      refine ⟨y, hG, fun j u hu => ?_⟩
      have hj : j < m0 := by
        have := (List.getElem?_eq_some_iff.1 hu).1
        rw [hc] at this
        exact this
      rw [← add_add', hat j hj]
      exact hu
    obtain ⟨f, hf⟩ := choose_lt one
    have hcell0 : 0 < len → ∃ u, w.cell? (a.add 0 |>.add 0) = some u := fun hn => by
      obtain ⟨cs', h1, _⟩ := hi 0 (by omega)
      rw [hC] at h1
      obtain ⟨_, hcl, hat⟩ := World.cells?_some h1
      have h4 := hat 0 hpos
      rw [List.getElem?_eq_getElem (by omega), Nat.zero_mul] at h4
      exact ⟨_, h4⟩
    refine ⟨(List.range len).map f, by simp, fun x hx => ?_, ⟨by rw [flat_length c m0 hc]; simp, fun hn => ⟨a, rfl, ?_, ?_, fun j u hu => ?_⟩⟩, hl, hm⟩
    · obtain ⟨i, hi2, rfl⟩ := List.mem_map.1 hx
      exact (hf i (List.mem_range.1 hi2)).1
    · obtain ⟨u, h4⟩ := hcell0 hn
      have := World.block_lt_of_cell? w _ h4
      rwa [add_block, add_block] at this
    · obtain ⟨u, h4⟩ := hcell0 hn
      have := World.block_lt_of_cell? w _ h4
      rwa [add_block, add_block] at this
    · have hj := (List.getElem?_eq_some_iff.1 hu).1
      rw [flat_length c m0 hc, List.length_map, List.length_range] at hj
      have hq : j / m0 < len := Nat.div_lt_of_lt_mul (by rw [Nat.mul_comm]; exact hj)
      have hr : j % m0 < m0 := Nat.mod_lt _ hpos
      have hjj : j = j / m0 * m0 + j % m0 := by rw [Nat.mul_comm]; exact (Nat.div_add_mod j m0).symm
      rw [hjj] at hu ⊢
      rw [flat_get c m0 hc _ _ _ (by simpa using hq) hr] at hu
      refine (hf _ hq).2 _ u ?_
      simpa using hu
end

section
variable {H : Type} {enc : TypeId × Value → H} {P : Program} {w : World} {base : Nat} {spare : Nat → Bool} {held : Bool}
/-- One field of a struct. -/
theorem field_of {t : TypeId} {fs : Array Field} {fuel : Nat} {cs cs' : List Value} {x : DataW H × List MemPlace} (ht : P.underlying t = some (.struct fs)) (h : DataW.trod enc P w base spare held fuel t cs = some x)
    (i : Nat) (f : Field) (hf : fs[i]? = some f) (o k : Nat) (ho : (f.offset, P.cellsOf f.type) = (o, k)) (hc : (cs.drop o).take k = cs') : ∃ (y : DataW H × List MemPlace) (n : Nat), DataW.trod enc P w base spare held n f.type cs' = some y := by
  obtain ⟨xs, n, _, _, _, hlen, hx⟩ := DataW.trod_struct ht h
  have hi : i < xs.length := by rw [hlen]; exact (Array.getElem?_eq_some_iff.1 hf).1
  have h1 := hx i f hf
  simp only [Prod.mk.injEq] at ho
  rw [ho.1, ho.2, hc, List.getElem?_eq_getElem hi] at h1
  exact ⟨_, n, h1⟩
theorem nats_of {t e : TypeId} {k : IntKind} {fuel : Nat} {a0 : Option Addr} {len cap : Nat} {x : DataW H × List MemPlace} (ht : P.underlying t = some (.slice e)) (he : P.underlying e = some (.int k)) (hc : P.cellsOf e = 1)
    (hpos : ∀ z : Int, (Lit.int k z).wf = true → 0 ≤ z)
    (h : DataW.trod enc P w base spare held fuel t [.slice a0 len cap] = some x) :
    ∃ l : List Nat, l.length = len ∧ Reads w (fun k => k < w.heap.size) 1 a0 len (l.map fun n : Nat => .int k (n : Int)) ∧ ∀ n ∈ l, (Lit.int k (n : Int)).wf = true := by
  rcases open_ints ht he hc h with ⟨hcs, _⟩ | ⟨a, len', cap', zs, hcs, _, hl, hm, hz, _, hcell, hwz⟩
  · simp at hcs
    obtain ⟨rfl, rfl, rfl⟩ := hcs
    exact ⟨[], rfl, Reads.nil_, by simp⟩
  · simp at hcs
    obtain ⟨rfl, rfl, rfl⟩ := hcs
    have hzl : len ≤ zs.length := by rw [hz]; split <;> omega
    have hmem : ∀ i, i < len → zs.getD i 0 ∈ zs := fun i hi => by
      rw [List.getD_eq_getElem?_getD, List.getElem?_eq_getElem (by omega)]
      exact List.getElem_mem _
    have hget : ∀ i, i < len → ∃ n : Nat, zs.getD i 0 = (n : Int) ∧ (Lit.int k (n : Int)).wf = true := fun i hi => by
      have h1 := hwz _ (hmem i hi)
      have h2 := hpos _ h1
      exact ⟨(zs.getD i 0).toNat, by omega, by rw [Int.toNat_of_nonneg h2]; exact h1⟩
    refine ⟨(List.range len).map fun i => (zs.getD i 0).toNat, by simp, ⟨by simp, fun hn => ⟨a, rfl, ?_, ?_, fun j u hu => ?_⟩⟩, ?_⟩
    · have := World.block_lt_of_cell? w _ (hcell 0 (by omega))
      rwa [add_block] at this
    · have := World.block_lt_of_cell? w _ (hcell 0 (by omega))
      rwa [add_block] at this
    · have hj : j < len := by simpa using (List.getElem?_eq_some_iff.1 hu).1
      obtain ⟨n, hn1, _⟩ := hget j hj
      simp [hj] at hu
      rw [hcell j (by omega), ← hu, hn1]
      rw [List.getD_eq_getElem?_getD] at hn1
      rw [hn1]
      congr 2
      omega
    · intro n hn
      obtain ⟨i, hi, rfl⟩ := List.mem_map.1 hn
      obtain ⟨m, hm1, hm2⟩ := hget i (List.mem_range.1 hi)
      rw [hm1]
      exact hm2
end
theorem list2 {α : Type} {cs : List α} (h : cs.length = 2) : ∃ v0 v1, cs = [v0, v1] := by
  match cs, h with
  | [v0, v1], _ => exact ⟨v0, v1, rfl⟩
theorem nat32 {z : Int} (h : (Lit.int .u32 z).wf = true) : ∃ n : Nat, z = n ∧ n < 4294967296 := by
  have h2 := Go.bounds_u32 h
  exact ⟨z.toNat, by omega, by omega⟩
theorem nat8 {z : Int} (h : (Lit.int .u8 z).wf = true) : ∃ n : Nat, z = n ∧ n < 256 := by
  have h2 := Go.bounds_u8 h
  exact ⟨z.toNat, by omega, by omega⟩


section
variable {H : Type} {enc : TypeId × Value → H} {w : World} {base : Nat} {spare : Nat → Bool} {held : Bool}
theorem str_data4 (s : ByteArray) : str s.data.toList = s := by simp [str]
theorem list4 {α : Type} {cs : List α} (h : cs.length = 4) : ∃ c0 c1 c2 c3, cs = [c0, c1, c2, c3] := by
  match cs, h with
  | [c0, c1, c2, c3], _ => exact ⟨c0, c1, c2, c3, rfl⟩
theorem array5 {α : Type} {cs : Array α} (h : cs.size = 5) : ∃ c0 c1 c2 c3 c4, cs = #[c0, c1, c2, c3, c4] := by
  obtain ⟨l⟩ := cs
  match l, h with
  | [c0, c1, c2, c3, c4], _ => exact ⟨c0, c1, c2, c3, c4, rfl⟩
theorem flat_one (l : List Nat) : l.flatMap (fun y : Nat => [Value.int .u32 (y : Int)]) = l.map fun y : Nat => Value.int .u32 (y : Int) := by
  induction l with
  | nil => rfl
  | cons y l ih => rw [List.flatMap_cons, ih]; rfl
theorem open_ft {fuel : Nat} {vs : List Value} {x : DataW H × List MemPlace} (hl : vs.length = 2) (h : DataW.trod enc Try.prog w base spare held fuel 28 vs = some x) : ∃ a : List UInt8 × List UInt8, vs = ftC a := by
  obtain ⟨v0, v1, rfl⟩ := list2 hl
  obtain ⟨y0, n0, t0⟩ := field_of (cs' := [v0]) Try.underlying28 h 0 _ rfl 0 1 (by kernel_rfl) rfl
  obtain ⟨y1, n1, t1⟩ := field_of (cs' := [v1]) Try.underlying28 h 1 _ rfl 1 1 (by kernel_rfl) rfl
  obtain ⟨s0, e0, _⟩ := DataW.trod_string Try.underlying9 t0
  obtain ⟨s1, e1, _⟩ := DataW.trod_string Try.underlying9 t1
  simp at e0 e1
  subst e0 e1
  exact ⟨(s0.data.toList, s1.data.toList), by rw [ftC, str_data4, str_data4]⟩
theorem open_gt {fuel : Nat} {vs : List Value} {x : DataW H × List MemPlace} (hl : vs.length = 2) (h : DataW.trod enc Try.prog w base spare held fuel 62 vs = some x) : ∃ a : Nat × Bool, a.1 < 256 ∧ vs = glC a := by
  obtain ⟨v0, v1, rfl⟩ := list2 hl
  obtain ⟨y0, n0, t0⟩ := field_of (cs' := [v0]) Try.underlying62 h 0 _ rfl 0 1 (by kernel_rfl) rfl
  obtain ⟨y1, n1, t1⟩ := field_of (cs' := [v1]) Try.underlying62 h 1 _ rfl 1 1 (by kernel_rfl) rfl
  obtain ⟨i0, e0, _, w0⟩ := DataW.trod_int Try.underlying5 t0
  obtain ⟨i1, e1, _⟩ := DataW.trod_bool Try.underlying4 t1
  simp at e0 e1
  subst e0 e1
  obtain ⟨a0, rfl, h0⟩ := nat8 w0
  exact ⟨(a0, i1), h0, rfl⟩
theorem open_lo {fuel : Nat} {vs : List Value} {x : DataW H × List MemPlace} (hl : vs.length = 2) (h : DataW.trod enc Try.prog w base spare held fuel 104 vs = some x) : ∃ a : Nat × Nat, (a.1 < 4294967296 ∧ a.2 < 256) ∧ vs = loC a := by
  obtain ⟨v0, v1, rfl⟩ := list2 hl
  obtain ⟨y0, n0, t0⟩ := field_of (cs' := [v0]) Try.underlying104 h 0 _ rfl 0 1 (by kernel_rfl) rfl
  obtain ⟨y1, n1, t1⟩ := field_of (cs' := [v1]) Try.underlying104 h 1 _ rfl 1 1 (by kernel_rfl) rfl
  obtain ⟨i0, e0, _, w0⟩ := DataW.trod_int Try.underlying48 t0
  obtain ⟨i1, e1, _, w1⟩ := DataW.trod_int Try.underlying5 t1
  simp at e0 e1
  subst e0 e1
  obtain ⟨a0, rfl, h0⟩ := nat32 w0
  obtain ⟨a1, rfl, h1⟩ := nat8 w1
  exact ⟨(a0, a1), ⟨h0, h1⟩, rfl⟩
theorem open_ig {fuel : Nat} {vs : List Value} {x : DataW H × List MemPlace} (hl : vs.length = 4) (h : DataW.trod enc Try.prog w base spare held fuel 40 vs = some x) : ∃ a : Ig, IgRaw w (fun k => k < w.heap.size) a ∧ vs = a.cells := by
  obtain ⟨v0, v1, v2, v3, rfl⟩ := list4 hl
  obtain ⟨y0, n0, t0⟩ := field_of (cs' := [v0]) Try.underlying40 h 0 _ rfl 0 1 (by kernel_rfl) rfl
  obtain ⟨y1, n1, t1⟩ := field_of (cs' := [v1]) Try.underlying40 h 1 _ rfl 1 1 (by kernel_rfl) rfl
  obtain ⟨y2, n2, t2⟩ := field_of (cs' := [v2]) Try.underlying40 h 2 _ rfl 2 1 (by kernel_rfl) rfl
  obtain ⟨y3, n3, t3⟩ := field_of (cs' := [v3]) Try.underlying40 h 3 _ rfl 3 1 (by kernel_rfl) rfl
  obtain ⟨i0, e0, _, w0⟩ := DataW.trod_int Try.underlying5 t0
  obtain ⟨i1, e1, _, w1⟩ := DataW.trod_int Try.underlying38 t1
  obtain ⟨i2, e2, _, w2⟩ := DataW.trod_int Try.underlying38 t2
  obtain ⟨A, n, c, e3⟩ := slice_form Try.underlying23 t3
  simp at e0 e1 e2 e3
  subst e0 e1 e2 e3
  obtain ⟨L, hL, hr, hw⟩ := nats_of Try.underlying23 Try.underlying48 (by kernel_rfl) (fun z h => (Go.bounds_u32 h).1) t3
  obtain ⟨a0, rfl, h0⟩ := nat8 w0
  have g1 := Go.bounds_u64 w1
  have g2 := Go.bounds_u64 w2
  refine ⟨⟨a0, i1.toNat, i2.toNat, n, c, A, L⟩, ⟨h0, by simp only; omega, hL.symm, fun y hy => by have := (Go.bounds_u32 (hw y hy)).2; omega, ?_⟩, ?_⟩
  · show Reads w _ 1 A n (L.flatMap _)
    rw [flat_one]
    exact hr
  · show _ = [Value.int .u8 (a0 : Int), .int .u64 (i1.toNat : Int), .int .u64 (i2.toNat : Int), .slice A n c]
    rw [Int.toNat_of_nonneg g1.1, Int.toNat_of_nonneg g2.1]
set_option maxRecDepth 100000 in
theorem open_env {r : Reach} {b0 : Nat} {v : Value} {d : DataW H} {p : List MemPlace} (hv : Value.okWide Try.prog w r b0 26 v) (h : DataW.Trod enc Try.prog w base spare held 26 v d p) :
    ∃ (tA fA gA : Option Addr) (tc fc gc : Nat) (ts : List (List UInt8 × List UInt8)) (fs : List Nat) (gs : List (Nat × Bool)) (tb me : Bool), v = .agg #[.slice tA ts.length tc, .slice fA fs.length fc, .slice gA gs.length gc, .bool tb, .bool me] ∧
      Reads w (fun k => k < w.heap.size) 2 tA ts.length (ts.flatMap ftC) ∧ Reads w (fun k => k < w.heap.size) 1 fA fs.length (fs.map fun x : Nat => Value.int .u32 (x : Int)) ∧ Reads w (fun k => k < w.heap.size) 2 gA gs.length (gs.flatMap glC) ∧ (∀ x ∈ fs, x < 4294967296) ∧ (∀ x ∈ gs, x.1 < 256) := by
  obtain ⟨cs, rfl, hsz⟩ := okWide_struct Try.underlying26 hv
  obtain ⟨c0, c1, c2, c3, c4, rfl⟩ := array5 (hsz.trans (by kernel_rfl))
  obtain ⟨fuel, hf⟩ := h
  obtain ⟨y0, n0, t0⟩ := field_of (cs' := [c0]) Try.underlying26 hf 0 _ rfl 0 1 (by kernel_rfl) rfl
  obtain ⟨y1, n1, t1⟩ := field_of (cs' := [c1]) Try.underlying26 hf 1 _ rfl 1 1 (by kernel_rfl) rfl
  obtain ⟨y2, n2, t2⟩ := field_of (cs' := [c2]) Try.underlying26 hf 2 _ rfl 2 1 (by kernel_rfl) rfl
  obtain ⟨y3, n3, t3⟩ := field_of (cs' := [c3]) Try.underlying26 hf 3 _ rfl 3 1 (by kernel_rfl) rfl
  obtain ⟨y4, n4, t4⟩ := field_of (cs' := [c4]) Try.underlying26 hf 4 _ rfl 4 1 (by kernel_rfl) rfl
  obtain ⟨tA, tn, tc, e0⟩ := slice_form Try.underlying22 t0
  obtain ⟨fA, fn, fc, e1⟩ := slice_form Try.underlying23 t1
  obtain ⟨gA, gn, gc, e2⟩ := slice_form Try.underlying24 t2
  obtain ⟨tb, e3, _⟩ := DataW.trod_bool Try.underlying4 t3
  obtain ⟨me, e4, _⟩ := DataW.trod_bool Try.underlying4 t4
  simp at e0 e1 e2 e3 e4
  subst e0 e1 e2 e3 e4
  obtain ⟨ts, q1, _, q3, q4, q5⟩ := open_rows (fun _ => True) ftC (m0 := 2) Try.underlying22 (by kernel_rfl) (by decide) (fun _ => rfl) (fun vs n y hl hy => by
    obtain ⟨a, ha⟩ := open_ft hl hy
    exact ⟨a, trivial, ha⟩) t0
  obtain ⟨gs, r1, r2, r3, _⟩ := open_rows (fun x : Nat × Bool => x.1 < 256) glC (m0 := 2) Try.underlying24 (by kernel_rfl) (by decide) (fun _ => rfl) (fun vs n y hl hy => open_gt hl hy) t2
  obtain ⟨fs, s1, s2, s3⟩ := nats_of Try.underlying23 Try.underlying48 (by kernel_rfl) (fun z h => (Go.bounds_u32 h).1) t1
  subst q1 r1 s1
  exact ⟨tA, fA, gA, tc, fc, gc, ts, fs, gs, tb, me, rfl, q3, s2, r3, fun x hx => by have := (Go.bounds_u32 (s3 x hx)).2; omega, r2⟩
end
theorem nop_all (W : World) (tA fA gA LA IA : Option Addr) (tc fc gc lc c ln n : Nat) (ts : List (List UInt8 × List UInt8)) (fs : List Nat) (gs : List (Nat × Bool)) (tb me : Bool) (ps rs : ByteArray) (lo : List (Nat × Nat)) (l : List Ig)
    (h1 : Reads W (fun k => k < W.heap.size) 2 tA ts.length (ts.flatMap ftC)) (h2 : Reads W (fun k => k < W.heap.size) 1 fA fs.length (fs.map fun x : Nat => Value.int .u32 (x : Int))) (h3 : Reads W (fun k => k < W.heap.size) 2 gA gs.length (gs.flatMap glC))
    (h4 : ∀ x ∈ fs, x < 4294967296) (h5 : ∀ x ∈ gs, x.1 < 256) (hln : lo.length = ln) (hn : l.length = n) (hl : Reads W (fun k => k < W.heap.size) 2 LA ln (lo.flatMap loC)) (hb : ∀ g ∈ lo, g.1 < 4294967296 ∧ g.2 < 256) (hr : Reads W (fun k => k < W.heap.size) 4 IA n (igs l)) (hin : ∀ x ∈ l, IgRaw W (fun k => k < W.heap.size) x) :
    Calls Try.prog 3 #[.agg #[.slice tA ts.length tc, .slice fA fs.length fc, .slice gA gs.length gc, .bool tb, .bool me], .agg #[.string ps, .string rs], .agg #[.slice LA ln lc, .slice IA n c]] W fun e W' => e = .returned (.bool true) ∧ Below W.heap.size W W' := by
  subst hln
  have key := nop_walk W (fun k => k < W.heap.size) ⟨ts, fs, gs, tb, me, ps.data.toList ++ loT lo, rs.data.toList⟩ tA fA gA tc fc gc ps.data.toList LA IA lc n c lo l ⟨h1, h2, h3, fun _ h => h⟩ hn.symm hin hr hl hb h4 h5 rfl
  unfold envV at key
  simp only [str_data4] at key
  exact key.mono fun _ _ hh => ⟨hh.1, hh.2.below W.heap.size (fun _ _ hf => hf.elim) (Nat.le_refl _)⟩
end Go.Proofs.Ytpebdfgfikjkeaa
