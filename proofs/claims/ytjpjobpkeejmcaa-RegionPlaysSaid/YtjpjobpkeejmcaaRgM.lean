/-
  region: the laws' few (printed by gen_rgm.py).
-/
import Derived.Test.YtjpjobpkeejmcaaRgL
set_option linter.unusedVariables false
set_option linter.unusedSimpArgs false
namespace Go.Proofs.Ytjpjobpkeejmcaa
open Go.RowKit

/-- A call, as a record. -/
structure Po where
  k : Int
  n : Int
  ow : Int
  al : Nat
instance : Inhabited Po := ⟨⟨0, 0, 0, 0⟩⟩
def Po.cells (p : Po) : List Value := [.int .i64 p.k, .int .i64 p.n, .int .i64 p.ow, .int .u32 (p.al : Int)]
theorem Po.four (p : Po) : p.cells.length = 4 := rfl
def pos (l : List Po) : List Value := l.flatMap Po.cells
/-- Are calls tried? -/
def Few (t0 t1 : Int) (l : List Po) : Prop := l.length ≤ 40 ∧ ¬ (500 < t0 ∧ t0 ≤ t1) ∧ ¬ (500 < t1 ∧ t1 ≤ 1073741824) ∧ ∀ o ∈ l, ¬ (8 < o.al ∧ o.al ≤ 20)

def FewR (w : World) (t0 t1 : Int) (l : List Po) (e : Ending) (w' : World) : Prop := ∃ b : Bool, e = .returned (.bool b) ∧ (b = true → Few t0 t1 l) ∧ Step (fun _ => False) w w'

set_option maxRecDepth 100000 in
set_option maxHeartbeats 6400000 in
theorem few_walk (w : World) (t0 t1 : Int) (A : Option Addr) (n c : Nat) (l : List Po) (S : Nat → Prop) (hN : n = l.length) (hr : Reads w S 4 A n (pos l)) (hnb : n ≤ 9223372036854775807) :
    Calls Try.prog 13 #[.agg #[.int .i64 t0, .int .i64 t1], .slice A n c] w (FewR w t0 t1 l) := by
  have HR := Lib.hid hr
  have HN := Lib.hid hN
  clear hr hN
  by_cases h1 : (40 : Int) < (n : Int)
  · have h1' : decide ((40 : Int) < (n : Int)) = true := decide_eq_true h1
    go_enter Try.func13, Try.ntmps13
    go_wp2_with fail
    go_ret
    exact ⟨false, rfl, fun h => (by cases h), Step.refl.alloc _⟩
  have h1' : decide ((40 : Int) < (n : Int)) = false := decide_eq_false h1
  have hn40 : n ≤ 40 := by omega
  by_cases h2 : (500 : Int) < t0
  · have h2' : decide ((500 : Int) < t0) = true := decide_eq_true h2
    by_cases h3 : t0 ≤ t1
    · have h3' : decide (t0 ≤ t1) = true := decide_eq_true h3
      go_enter Try.func13, Try.ntmps13
      go_wp2_with fail
      go_ret
      exact ⟨false, rfl, fun h => (by cases h), Step.refl.alloc _⟩
    · have h3' : decide (t0 ≤ t1) = false := decide_eq_false h3
      by_cases h4 : (500 : Int) < t1
      · have h4' : decide ((500 : Int) < t1) = true := decide_eq_true h4
        by_cases h5 : t1 ≤ 1073741824
        · have h5' : decide (t1 ≤ 1073741824) = true := decide_eq_true h5
          go_enter Try.func13, Try.ntmps13
          go_wp2_with fail
          go_ret
          exact ⟨false, rfl, fun h => (by cases h), Step.refl.alloc _⟩
        · have h5' : decide (t1 ≤ 1073741824) = false := decide_eq_false h5
          have HT : Hid (¬ (500 < t0 ∧ t0 ≤ t1) ∧ ¬ (500 < t1 ∧ t1 ≤ 1073741824)) := ⟨by omega, by omega⟩
          go_enter Try.func13, Try.ntmps13
          go_wp2_with fail
          go_loopw [5] (fun iv wr => ∃ (j : Nat), j ≤ n ∧ iv = .int .i64 (j : Int) ∧ Hid (∀ o ∈ l.take j, ¬ (8 < o.al ∧ o.al ≤ 20)) ∧ Hid (Step (fun _ => False) w wr)) (fun iv _ => n + 1 - (intOf iv).toNat)
          case atStart => exact ⟨0, by omega, rfl, (fun o ho => by cases ho), Step.refl.alloc _⟩
          case round =>
            obtain ⟨j, hj, rfl, HF, HSj⟩ := hrel
            by_cases hlt : j < n
            · have g1 : (j : Int) < (n : Int) := by omega
              have i0 : (0 : Int) ≤ (j : Int) := by omega
              have hw1 := IntWalk.i64_in ((j : Int) + 1) (by omega)
              have hjl : j < l.length := by rw [← HN.out]; exact hlt
              obtain ⟨bk, off, rfl, _, hbl, hc⟩ := reads_row Po.cells 4 (by decide) Po.four (HR.out.step HSj.out (fun _ _ => id)) (k := j) hjl
              have HX : Hid (∀ o ∈ l.take (j + 1), o ∈ l.take j ∨ o = l[j]) := fun o ho => by
                rw [List.take_succ_eq_append_getElem hjl, List.mem_append, List.mem_singleton] at ho
                exact ho
              generalize l[j] = p at hc HX
              obtain ⟨k, nn, ow, al⟩ := p
              have c3 := hc 3 _ rfl
              simp only at c3
              clear hc
              by_cases a1 : 8 < al
              · have b1 : (8 : Int) < (al : Int) := by omega
                have b1' : decide ((8 : Int) < (al : Int)) = true := decide_eq_true b1
                by_cases a2 : al ≤ 20
                · have b2 : (al : Int) ≤ 20 := by omega
                  have b2' : decide ((al : Int) ≤ 20) = true := decide_eq_true b2
                  go_wp2_with fail
                  go_ret
                  exact ⟨false, rfl, fun h => (by cases h), HSj.out⟩
                · have b2 : ¬ (al : Int) ≤ 20 := by omega
                  have b2' : decide ((al : Int) ≤ 20) = false := decide_eq_false b2
                  go_wp2_with fail
                  go_roundw
                  case rel => exact ⟨j + 1, by omega, by rw [Int.natCast_add]; rfl, (fun o ho => by rcases HX.out o ho with h | rfl; exact HF.out o h; exact fun h => a2 h.2), HSj⟩
                  case measure => simp [intOf]; omega
              · have b1 : ¬ (8 : Int) < (al : Int) := by omega
                have b1' : decide ((8 : Int) < (al : Int)) = false := decide_eq_false b1
                go_wp2_with fail
                go_roundw
                case rel => exact ⟨j + 1, by omega, by rw [Int.natCast_add]; rfl, (fun o ho => by rcases HX.out o ho with h | rfl; exact HF.out o h; exact fun h => a1 h.1), HSj⟩
                case measure => simp [intOf]; omega
            · obtain rfl : j = n := by omega
              have hLt : l.take j = l := by rw [HN.out]; exact List.take_length
              rw [hLt] at HF
              go_wp2_with fail
              go_ret
              exact ⟨true, rfl, fun _ => ⟨by rw [← HN.out]; exact hn40, HT.out.1, HT.out.2, HF.out⟩, HSj.out⟩
      · have h4' : decide ((500 : Int) < t1) = false := decide_eq_false h4
        have HT : Hid (¬ (500 < t0 ∧ t0 ≤ t1) ∧ ¬ (500 < t1 ∧ t1 ≤ 1073741824)) := ⟨by omega, by omega⟩
        go_enter Try.func13, Try.ntmps13
        go_wp2_with fail
        go_loopw [5] (fun iv wr => ∃ (j : Nat), j ≤ n ∧ iv = .int .i64 (j : Int) ∧ Hid (∀ o ∈ l.take j, ¬ (8 < o.al ∧ o.al ≤ 20)) ∧ Hid (Step (fun _ => False) w wr)) (fun iv _ => n + 1 - (intOf iv).toNat)
        case atStart => exact ⟨0, by omega, rfl, (fun o ho => by cases ho), Step.refl.alloc _⟩
        case round =>
          obtain ⟨j, hj, rfl, HF, HSj⟩ := hrel
          by_cases hlt : j < n
          · have g1 : (j : Int) < (n : Int) := by omega
            have i0 : (0 : Int) ≤ (j : Int) := by omega
            have hw1 := IntWalk.i64_in ((j : Int) + 1) (by omega)
            have hjl : j < l.length := by rw [← HN.out]; exact hlt
            obtain ⟨bk, off, rfl, _, hbl, hc⟩ := reads_row Po.cells 4 (by decide) Po.four (HR.out.step HSj.out (fun _ _ => id)) (k := j) hjl
            have HX : Hid (∀ o ∈ l.take (j + 1), o ∈ l.take j ∨ o = l[j]) := fun o ho => by
              rw [List.take_succ_eq_append_getElem hjl, List.mem_append, List.mem_singleton] at ho
              exact ho
            generalize l[j] = p at hc HX
            obtain ⟨k, nn, ow, al⟩ := p
            have c3 := hc 3 _ rfl
            simp only at c3
            clear hc
            by_cases a1 : 8 < al
            · have b1 : (8 : Int) < (al : Int) := by omega
              have b1' : decide ((8 : Int) < (al : Int)) = true := decide_eq_true b1
              by_cases a2 : al ≤ 20
              · have b2 : (al : Int) ≤ 20 := by omega
                have b2' : decide ((al : Int) ≤ 20) = true := decide_eq_true b2
                go_wp2_with fail
                go_ret
                exact ⟨false, rfl, fun h => (by cases h), HSj.out⟩
              · have b2 : ¬ (al : Int) ≤ 20 := by omega
                have b2' : decide ((al : Int) ≤ 20) = false := decide_eq_false b2
                go_wp2_with fail
                go_roundw
                case rel => exact ⟨j + 1, by omega, by rw [Int.natCast_add]; rfl, (fun o ho => by rcases HX.out o ho with h | rfl; exact HF.out o h; exact fun h => a2 h.2), HSj⟩
                case measure => simp [intOf]; omega
            · have b1 : ¬ (8 : Int) < (al : Int) := by omega
              have b1' : decide ((8 : Int) < (al : Int)) = false := decide_eq_false b1
              go_wp2_with fail
              go_roundw
              case rel => exact ⟨j + 1, by omega, by rw [Int.natCast_add]; rfl, (fun o ho => by rcases HX.out o ho with h | rfl; exact HF.out o h; exact fun h => a1 h.1), HSj⟩
              case measure => simp [intOf]; omega
          · obtain rfl : j = n := by omega
            have hLt : l.take j = l := by rw [HN.out]; exact List.take_length
            rw [hLt] at HF
            go_wp2_with fail
            go_ret
            exact ⟨true, rfl, fun _ => ⟨by rw [← HN.out]; exact hn40, HT.out.1, HT.out.2, HF.out⟩, HSj.out⟩
  · have h2' : decide ((500 : Int) < t0) = false := decide_eq_false h2
    by_cases h4 : (500 : Int) < t1
    · have h4' : decide ((500 : Int) < t1) = true := decide_eq_true h4
      by_cases h5 : t1 ≤ 1073741824
      · have h5' : decide (t1 ≤ 1073741824) = true := decide_eq_true h5
        go_enter Try.func13, Try.ntmps13
        go_wp2_with fail
        go_ret
        exact ⟨false, rfl, fun h => (by cases h), Step.refl.alloc _⟩
      · have h5' : decide (t1 ≤ 1073741824) = false := decide_eq_false h5
        have HT : Hid (¬ (500 < t0 ∧ t0 ≤ t1) ∧ ¬ (500 < t1 ∧ t1 ≤ 1073741824)) := ⟨by omega, by omega⟩
        go_enter Try.func13, Try.ntmps13
        go_wp2_with fail
        go_loopw [5] (fun iv wr => ∃ (j : Nat), j ≤ n ∧ iv = .int .i64 (j : Int) ∧ Hid (∀ o ∈ l.take j, ¬ (8 < o.al ∧ o.al ≤ 20)) ∧ Hid (Step (fun _ => False) w wr)) (fun iv _ => n + 1 - (intOf iv).toNat)
        case atStart => exact ⟨0, by omega, rfl, (fun o ho => by cases ho), Step.refl.alloc _⟩
        case round =>
          obtain ⟨j, hj, rfl, HF, HSj⟩ := hrel
          by_cases hlt : j < n
          · have g1 : (j : Int) < (n : Int) := by omega
            have i0 : (0 : Int) ≤ (j : Int) := by omega
            have hw1 := IntWalk.i64_in ((j : Int) + 1) (by omega)
            have hjl : j < l.length := by rw [← HN.out]; exact hlt
            obtain ⟨bk, off, rfl, _, hbl, hc⟩ := reads_row Po.cells 4 (by decide) Po.four (HR.out.step HSj.out (fun _ _ => id)) (k := j) hjl
            have HX : Hid (∀ o ∈ l.take (j + 1), o ∈ l.take j ∨ o = l[j]) := fun o ho => by
              rw [List.take_succ_eq_append_getElem hjl, List.mem_append, List.mem_singleton] at ho
              exact ho
            generalize l[j] = p at hc HX
            obtain ⟨k, nn, ow, al⟩ := p
            have c3 := hc 3 _ rfl
            simp only at c3
            clear hc
            by_cases a1 : 8 < al
            · have b1 : (8 : Int) < (al : Int) := by omega
              have b1' : decide ((8 : Int) < (al : Int)) = true := decide_eq_true b1
              by_cases a2 : al ≤ 20
              · have b2 : (al : Int) ≤ 20 := by omega
                have b2' : decide ((al : Int) ≤ 20) = true := decide_eq_true b2
                go_wp2_with fail
                go_ret
                exact ⟨false, rfl, fun h => (by cases h), HSj.out⟩
              · have b2 : ¬ (al : Int) ≤ 20 := by omega
                have b2' : decide ((al : Int) ≤ 20) = false := decide_eq_false b2
                go_wp2_with fail
                go_roundw
                case rel => exact ⟨j + 1, by omega, by rw [Int.natCast_add]; rfl, (fun o ho => by rcases HX.out o ho with h | rfl; exact HF.out o h; exact fun h => a2 h.2), HSj⟩
                case measure => simp [intOf]; omega
            · have b1 : ¬ (8 : Int) < (al : Int) := by omega
              have b1' : decide ((8 : Int) < (al : Int)) = false := decide_eq_false b1
              go_wp2_with fail
              go_roundw
              case rel => exact ⟨j + 1, by omega, by rw [Int.natCast_add]; rfl, (fun o ho => by rcases HX.out o ho with h | rfl; exact HF.out o h; exact fun h => a1 h.1), HSj⟩
              case measure => simp [intOf]; omega
          · obtain rfl : j = n := by omega
            have hLt : l.take j = l := by rw [HN.out]; exact List.take_length
            rw [hLt] at HF
            go_wp2_with fail
            go_ret
            exact ⟨true, rfl, fun _ => ⟨by rw [← HN.out]; exact hn40, HT.out.1, HT.out.2, HF.out⟩, HSj.out⟩
    · have h4' : decide ((500 : Int) < t1) = false := decide_eq_false h4
      have HT : Hid (¬ (500 < t0 ∧ t0 ≤ t1) ∧ ¬ (500 < t1 ∧ t1 ≤ 1073741824)) := ⟨by omega, by omega⟩
      go_enter Try.func13, Try.ntmps13
      go_wp2_with fail
      go_loopw [5] (fun iv wr => ∃ (j : Nat), j ≤ n ∧ iv = .int .i64 (j : Int) ∧ Hid (∀ o ∈ l.take j, ¬ (8 < o.al ∧ o.al ≤ 20)) ∧ Hid (Step (fun _ => False) w wr)) (fun iv _ => n + 1 - (intOf iv).toNat)
      case atStart => exact ⟨0, by omega, rfl, (fun o ho => by cases ho), Step.refl.alloc _⟩
      case round =>
        obtain ⟨j, hj, rfl, HF, HSj⟩ := hrel
        by_cases hlt : j < n
        · have g1 : (j : Int) < (n : Int) := by omega
          have i0 : (0 : Int) ≤ (j : Int) := by omega
          have hw1 := IntWalk.i64_in ((j : Int) + 1) (by omega)
          have hjl : j < l.length := by rw [← HN.out]; exact hlt
          obtain ⟨bk, off, rfl, _, hbl, hc⟩ := reads_row Po.cells 4 (by decide) Po.four (HR.out.step HSj.out (fun _ _ => id)) (k := j) hjl
          have HX : Hid (∀ o ∈ l.take (j + 1), o ∈ l.take j ∨ o = l[j]) := fun o ho => by
            rw [List.take_succ_eq_append_getElem hjl, List.mem_append, List.mem_singleton] at ho
            exact ho
          generalize l[j] = p at hc HX
          obtain ⟨k, nn, ow, al⟩ := p
          have c3 := hc 3 _ rfl
          simp only at c3
          clear hc
          by_cases a1 : 8 < al
          · have b1 : (8 : Int) < (al : Int) := by omega
            have b1' : decide ((8 : Int) < (al : Int)) = true := decide_eq_true b1
            by_cases a2 : al ≤ 20
            · have b2 : (al : Int) ≤ 20 := by omega
              have b2' : decide ((al : Int) ≤ 20) = true := decide_eq_true b2
              go_wp2_with fail
              go_ret
              exact ⟨false, rfl, fun h => (by cases h), HSj.out⟩
            · have b2 : ¬ (al : Int) ≤ 20 := by omega
              have b2' : decide ((al : Int) ≤ 20) = false := decide_eq_false b2
              go_wp2_with fail
              go_roundw
              case rel => exact ⟨j + 1, by omega, by rw [Int.natCast_add]; rfl, (fun o ho => by rcases HX.out o ho with h | rfl; exact HF.out o h; exact fun h => a2 h.2), HSj⟩
              case measure => simp [intOf]; omega
          · have b1 : ¬ (8 : Int) < (al : Int) := by omega
            have b1' : decide ((8 : Int) < (al : Int)) = false := decide_eq_false b1
            go_wp2_with fail
            go_roundw
            case rel => exact ⟨j + 1, by omega, by rw [Int.natCast_add]; rfl, (fun o ho => by rcases HX.out o ho with h | rfl; exact HF.out o h; exact fun h => a1 h.1), HSj⟩
            case measure => simp [intOf]; omega
        · obtain rfl : j = n := by omega
          have hLt : l.take j = l := by rw [HN.out]; exact List.take_length
          rw [hLt] at HF
          go_wp2_with fail
          go_ret
          exact ⟨true, rfl, fun _ => ⟨by rw [← HN.out]; exact hn40, HT.out.1, HT.out.2, HF.out⟩, HSj.out⟩
end Go.Proofs.Ytjpjobpkeejmcaa
