/-
  store: the law's calls; few.
-/
import Derived.Test.YtmheofkakcomdaaGsJ
set_option linter.unusedVariables false
set_option linter.unusedSimpArgs false
namespace Go.Proofs.Ytmheofkakcomdaa
open Go.RowKit
structure Og where
  k : Int
  a : Int
  b : Int
  t : Nat
  mu : Bool
  vt : Nat
  n : Nat
  A : Option Addr
  dn : Nat
  dc : Nat
instance : Inhabited Og := ⟨⟨0, 0, 0, 0, false, 0, 0, none, 0, 0⟩⟩
def Og.cells (o : Og) : List Value := [.int .i64 o.k, .int .i64 o.a, .int .i64 o.b, .int .u8 (o.t : Int), .bool o.mu, .int .u8 (o.vt : Int), .int .u64 (o.n : Int), .slice o.A o.dn o.dc]
theorem Og.eight (o : Og) : o.cells.length = 8 := rfl
def ogs (l : List Og) : List Value := l.flatMap Og.cells
/-- A truth value is returned; if it is true, P holds. -/
def BoolO (P : Prop) (e : Ending) : Prop := ∃ b, e = .returned (.bool b) ∧ (b = true → P)
set_option maxRecDepth 100000 in
set_option maxHeartbeats 1600000 in
theorem few30 (w : World) (S : Nat → Prop) (A : Option Addr) (n c : Nat) (l : List Og) (HN : Hid (n = l.length)) (hr : Reads w S 8 A n (ogs l)) (hn : n ≤ 9223372036854775807) :
    Calls Try.prog 6 #[.slice A n c] w fun e w' => BoolO (n ≤ 40) e ∧ w = w' := by
  have HR := Lib.hid hr
  clear hr
  by_cases h40 : (40 : Int) < (n : Int)
  · go_enter Try.func6, Try.ntmps6
    go_wp2_with fail
    go_ret
    exact ⟨⟨false, rfl, fun h => by cases h⟩, rfl⟩
  · have hn40 : n ≤ 40 := by omega
    have HN40 := Lib.hid hn40
    clear hn40
    go_enter Try.func6, Try.ntmps6
    go_wp2_with fail
    go_loopw [3] (fun iv wr => ∃ (j : Nat), j ≤ n ∧ iv = .int .i64 (j : Int) ∧ Hid (w = wr)) (fun iv _ => n + 1 - (Go.RowKit.intOf iv).toNat)
    case atStart => exact ⟨0, by omega, rfl, rfl⟩
    case round =>
      obtain ⟨j, hj, rfl, HW⟩ := hrel
      have hw := HW.out
      subst hw
      by_cases hlt : j < n
      · have q1 : (j : Int) < (n : Int) := by omega
        have i0 : (0 : Int) ≤ (j : Int) := by omega
        have hw1 := IntWalk.i64_in ((j : Int) + 1) (by omega)
        obtain ⟨b, off, hA, _, hb, hc⟩ := reads_row Og.cells 8 (by decide) Og.eight HR.out (k := j) (by rw [← HN.out]; exact hlt)
        subst hA
        generalize l[j]'(by rw [← HN.out]; exact hlt) = o at *
        obtain ⟨k, a, b2, t, mu, vt, nn, D, dn, dc⟩ := o
        have c7 := hc 7 _ rfl
        simp only at c7
        clear hc
        by_cases h50 : (50 : Int) < (dn : Int)
        · go_wp2_with fail
          go_ret
          exact ⟨⟨false, rfl, fun h => by cases h⟩, rfl⟩
        · go_wp2_with fail
          go_roundw
          case rel => exact ⟨j + 1, by omega, by rw [Int.natCast_add]; rfl, trivial⟩
          case measure => simp [Go.RowKit.intOf]; omega
      · have hje : j = n := by omega
        have q1 : ¬ (j : Int) < (n : Int) := by omega
        clear hje
        go_wp2_with fail
        go_ret
        exact ⟨⟨true, rfl, fun _ => HN40.out⟩, rfl⟩
end Go.Proofs.Ytmheofkakcomdaa
