/-
  bodies: how many locals, and the reference's.
-/
import Derived.Test.YtpebdfgfikjkeaaOb
set_option linter.unusedVariables false
set_option linter.unusedSimpArgs false
namespace Go.Proofs.Ytpebdfgfikjkeaa
open Go.RowKit

/-- A row of locals: how many, of which type. -/
def loC (g : Nat × Nat) : List Value := [.int .u32 (g.1 : Int), .int .u8 (g.2 : Int)]
def locF : List (Nat × Nat) → Nat → Option Nat
  | [], n => some n
  | g :: l, n => if 1000 < n + g.1 then none else locF l (n + g.1)
def loT (l : List (Nat × Nat)) : List UInt8 := l.flatMap fun g => List.replicate g.1 (UInt8.ofNat g.2)
theorem locF_le : ∀ (l : List (Nat × Nat)) (n r : Nat), n ≤ 1000 → locF l n = some r → n + (loT l).length = r ∧ r ≤ 1000
  | [], n, r, h, e => by
    simp [locF] at e
    simp [loT]
    omega
  | g :: l, n, r, h, e => by
    rw [locF] at e
    split at e
    · cases e
    · have := locF_le l (n + g.1) r (by omega) e
      simp only [loT, List.flatMap_cons, List.length_append, List.length_replicate] at this ⊢
      omega
theorem loT_take (l : List (Nat × Nat)) (k : Nat) (h : k < l.length) : loT (l.take (k + 1)) = loT (l.take k) ++ List.replicate l[k].1 (UInt8.ofNat l[k].2) := by
  rw [List.take_succ_eq_append_getElem h, loT, List.flatMap_append]
  simp [loT]
theorem loT_short (l : List (Nat × Nat)) (k : Nat) : (loT (l.take k)).length ≤ (loT l).length := by
  have := congrArg (fun x => (loT x).length) (List.take_append_drop k l)
  simp only [loT, List.flatMap_append, List.length_append] at this ⊢
  omega
def cntV : Option Nat → Value
  | none => .tuple #[.int .i64 0, .int .i64 23]
  | some n => .tuple #[.int .i64 (n : Int), .int .i64 0]
def locV : Option Nat → Value
  | none => .int .i64 (-1)
  | some n => .int .i64 (n : Int)

set_option maxRecDepth 100000 in
set_option maxHeartbeats 1600000 in
theorem count_walk (w : World) (B : Option Addr) (cc : Nat) (l : List (Nat × Nat)) (S : Nat → Prop) (hr : Reads w S 2 B l.length (l.flatMap loC)) (hb : ∀ g ∈ l, g.1 < 4294967296) (hl : l.length ≤ 100000) :
    Calls Try.prog 42 #[.slice B l.length cc] w fun e w' => e = .returned (cntV (locF l 0)) ∧ Step (fun _ => False) w w' := by
  go_enter Try.func42, Try.ntmps42
  go_wp2_with fail
  go_loopw [4, 9] (fun nv iv wr => ∃ (k n : Nat), k ≤ l.length ∧ n ≤ 1000 ∧ nv = .int .i64 (n : Int) ∧ iv = .int .i64 (k : Int) ∧ Hid (locF (l.drop k) n = locF l 0) ∧ Hid (Step (fun _ => False) w wr)) (fun _ iv _ => l.length + 1 - (intOf iv).toNat)
  case atStart => exact ⟨0, 0, by omega, by omega, rfl, rfl, rfl, Step.refl⟩
  case round =>
    obtain ⟨k, n, hk, hn, rfl, rfl, HF, HS⟩ := hrel
    by_cases hlt : k < l.length
    · have hlt' : (k : Int) < (l.length : Int) := by omega
      have hw1 := IntWalk.i64_in ((k : Int) + 1) (by omega)
      obtain ⟨bb, off, rfl, _, hbl, hc⟩ := st_cells loC 2 (by decide) (fun _ => rfl) (hr.step HS.out (fun _ _ => id)) hlt
      have hg := hb l[k] (List.getElem_mem hlt)
      have HF2 : Hid (locF l 0 = if 1000 < n + l[k].1 then none else locF (l.drop (k + 1)) (n + l[k].1)) := by
        rw [Hid, ← HF.out, List.drop_eq_getElem_cons hlt, locF]
      generalize l[k] = g at *
      have hw2 := IntWalk.i64_in (g.1 : Int) (by omega)
      have hw3 := IntWalk.i64_in ((n : Int) + (g.1 : Int)) (by omega)
      have c0 := hc 0 _ rfl
      have c1 := hc 1 _ rfl
      simp only [Nat.add_zero] at c0 c1
      clear hc
      by_cases h1 : 1000 < g.1
      · have e1 : (1000 : Int) < (g.1 : Int) := by omega
        have e1' : decide ((1000 : Int) < (g.1 : Int)) = true := decide_eq_true e1
        have hz : locF l 0 = none := by rw [HF2.out, if_pos (by omega)]
        clear HF HF2
        go_wp2_with fail
        go_ret2
        exact ⟨by first | rfl | (rw [hz]; rfl), HS.out.alloc _⟩
      · have e1 : ¬ (1000 : Int) < (g.1 : Int) := by omega
        have e1' : decide ((1000 : Int) < (g.1 : Int)) = false := decide_eq_false e1
        by_cases h2 : 1000 < n + g.1
        · have e2 : (1000 : Int) < (n : Int) + (g.1 : Int) := by omega
          have e2' : decide ((1000 : Int) < (n : Int) + (g.1 : Int)) = true := decide_eq_true e2
          have hz : locF l 0 = none := by rw [HF2.out, if_pos (by omega)]
          clear HF HF2
          go_wp2_with fail
          go_ret2
          exact ⟨by first | rfl | (rw [hz]; rfl), HS.out.alloc _⟩
        · have e2 : ¬ (1000 : Int) < (n : Int) + (g.1 : Int) := by omega
          have e2' : decide ((1000 : Int) < (n : Int) + (g.1 : Int)) = false := decide_eq_false e2
          have HF3 : Hid (locF (l.drop (k + 1)) (n + g.1) = locF l 0) := by rw [Hid, HF2.out, if_neg h2]
          clear HF HF2
          go_wp2_with fail
          exact ⟨⟨k + 1, n + g.1, by omega, by omega, by rw [Int.natCast_add], by rw [Int.natCast_add]; rfl, HF3, HS.out.alloc _⟩, by rw [show intOf (.int .i64 ((k : Int) + 1)) = ((k + 1 : Nat) : Int) from rfl, show intOf (.int .i64 (k : Int)) = (k : Int) from rfl]; omega⟩
    · obtain rfl : k = l.length := by omega
      have hz : locF l 0 = some n := by rw [← HF.out, List.drop_length]; rfl
      clear HF
      go_wp2_with fail
      go_ret2
      exact ⟨by first | rfl | (rw [hz]; rfl), HS.out⟩

end Go.Proofs.Ytpebdfgfikjkeaa
