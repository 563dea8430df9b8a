/-
  check.checker.memory, one.
-/
import Derived.Test.YtpebdfgfikjkeaaKkG
import Derived.Test.YtpebdfgfikjkeaaOpM
import Derived.Test.YtpebdfgfikjkeaaInC
set_option linter.unusedVariables false
set_option linter.unusedSimpArgs false
namespace Go.Proofs.Ytpebdfgfikjkeaa
open Go.RowKit

def memE (E : Ke) (op x : Nat) : Int := if E.mem = true then (if (accF op).ok = true ∧ (3 < x ∨ (accF op).bytes < 2 ^ x) then 25 else 0) else 20
theorem accF_bytes (op : Nat) : (accF op).bytes ≤ 8 := by
  unfold accF
  have hall : ∀ p ∈ accT, p.2.bytes ≤ 8 := by decide
  cases hl : accT.lookup op with
  | none => decide
  | some a =>
    have : ∀ (l : List (Nat × Acc)), (∀ p ∈ l, p.2.bytes ≤ 8) → l.lookup op = some a → a.bytes ≤ 8 := by
      intro l
      induction l with
      | nil => intro _ h; simp at h
      | cons p l ih =>
        intro hp h
        rw [List.lookup] at h
        split at h
        · injection h with h
          rw [← h]
          exact hp p (List.mem_cons_self ..)
        · exact ih (fun q hq => hp q (List.mem_cons_of_mem _ hq)) h
    exact this accT hall hl
section
variable {w : World} {a : Ka} {E : Ke} {I : Nat → Prop} {s : Ss} {n : Nat}

set_option maxRecDepth 100000 in
set_option maxHeartbeats 1600000 in
theorem k_memory_no (op x b m c : Nat) (A : Option Addr) (h : Kk w a E I s) (hb : s.ok n) (hn : n ≤ 1000) (hm : E.mem = false) :
    Calls Try.prog 52 #[.pointer (some ⟨a.k, 0, none⟩), .agg #[.int .u8 (op : Int), .int .u64 (x : Int), .int .u64 (b : Int), .slice A m c]] w (fun e w' => e = .returned (.int .i64 (20)) ∧ Step (fun _ => False) w w') := by
  have s0 : Step (fun _ => False) w (w.alloc (.cells #[.int .u8 (op : Int), .int .u64 (x : Int), .int .u64 (b : Int), .slice A m c] 40)) := Step.refl.alloc _
  have b0 := Blk.new w 40 #[.int .u8 (op : Int), .int .u64 (x : Int), .int .u64 (b : Int), .slice A m c]
  have h0 := h.quiet s0
  have m0 := (b0.cell 0).trans (show _ = some (Value.int .u8 (op : Int)) from rfl)
  have m1 := (b0.cell 1).trans (show _ = some (Value.int .u64 (x : Int)) from rfl)
  have hNI : ¬ I w.heap.size := fun hk => by have := Ctl.in_ (l := s.l) (fs := s.fs) h.ctl _ hk; omega
  have N3 : w.heap.size < (w.alloc (.cells #[.int .u8 (op : Int), .int .u64 (x : Int), .int .u64 (b : Int), .slice A m c] 40)).heap.size := by simp
  have c6 := h0.c6
  have nkI := h0.kf.self
  have H0 := Lib.hid h0
  have S0 := Lib.hid s0
  have B0 := Lib.hid b0
  clear b0 h0 h s0
  have c4 := (H0.out.kf.blk.cell 4).trans (show _ = some (Value.bool E.mem) from rfl)
  rw [hm] at c4
  go_enter Try.func52, Try.ntmps52
  go_wp2_with fail
  go_ret
  exact ⟨rfl, S0.out⟩

set_option maxRecDepth 100000 in
set_option maxHeartbeats 1600000 in
theorem k_memory_yes (op x b m c : Nat) (A : Option Addr) (h : Kk w a E I s) (hb : s.ok n) (hn : n ≤ 1000) (hm : E.mem = true) (ho : op < 256) (hx : x < 18446744073709551616) (r : Int) (hr : r = if (accF op).ok = true ∧ (3 < x ∨ (accF op).bytes < 2 ^ x) then 25 else 0) :
    Calls Try.prog 52 #[.pointer (some ⟨a.k, 0, none⟩), .agg #[.int .u8 (op : Int), .int .u64 (x : Int), .int .u64 (b : Int), .slice A m c]] w (fun e w' => e = .returned (.int .i64 (r)) ∧ Step (fun _ => False) w w') := by
  have s0 : Step (fun _ => False) w (w.alloc (.cells #[.int .u8 (op : Int), .int .u64 (x : Int), .int .u64 (b : Int), .slice A m c] 40)) := Step.refl.alloc _
  have b0 := Blk.new w 40 #[.int .u8 (op : Int), .int .u64 (x : Int), .int .u64 (b : Int), .slice A m c]
  have h0 := h.quiet s0
  have m0 := (b0.cell 0).trans (show _ = some (Value.int .u8 (op : Int)) from rfl)
  have m1 := (b0.cell 1).trans (show _ = some (Value.int .u64 (x : Int)) from rfl)
  have hNI : ¬ I w.heap.size := fun hk => by have := Ctl.in_ (l := s.l) (fs := s.fs) h.ctl _ hk; omega
  have N3 : w.heap.size < (w.alloc (.cells #[.int .u8 (op : Int), .int .u64 (x : Int), .int .u64 (b : Int), .slice A m c] 40)).heap.size := by simp
  have c6 := h0.c6
  have nkI := h0.kf.self
  have H0 := Lib.hid h0
  have S0 := Lib.hid s0
  have B0 := Lib.hid b0
  clear b0 h0 h s0
  have c4 := (H0.out.kf.blk.cell 4).trans (show _ = some (Value.bool E.mem) from rfl)
  rw [hm] at c4
  have HA := Lib.hid (access_walk (w.alloc (.cells #[.int .u8 (op : Int), .int .u64 (x : Int), .int .u64 (b : Int), .slice A m c] 40)) op ho)
  have hby := accF_bytes op
  generalize accF op = acc at hr HA hby
  obtain ⟨bt, tt, wr, sg, ok⟩ := acc
  unfold accV at HA
  simp only at hr HA hby
  have hwb := IntWalk.u64_in (bt : Int) (by omega)
  cases ok with
  | false =>
    obtain rfl : r = 0 := by rw [hr]; simp
    clear hr
    go_enter Try.func52, Try.ntmps52
    go_wp2_with fail
    refine HA.out.mono ?_
    rintro e w1 ⟨rfl, t1⟩
    have m1' := (t1.cell (p := ⟨w.heap.size, 1, none⟩) N3 id).trans m1
    have N4 : w.heap.size < w1.heap.size := Nat.lt_of_lt_of_le N3 t1.size
    have nN : w.heap.size ≠ w1.heap.size := Nat.ne_of_lt N4
    go_wp2_with fail
    go_ret
    exact ⟨rfl, (S0.out.trans t1).alloc _⟩
  | true =>
    by_cases h3 : 3 < x
    · have g3 : (3 : Int) < (x : Int) := by omega
      obtain rfl : r = 25 := by rw [hr, if_pos ⟨rfl, .inl h3⟩]
      clear hr
      go_enter Try.func52, Try.ntmps52
      go_wp2_with fail
      refine HA.out.mono ?_
      rintro e w1 ⟨rfl, t1⟩
      have m1' := (t1.cell (p := ⟨w.heap.size, 1, none⟩) N3 id).trans m1
      have N4 : w.heap.size < w1.heap.size := Nat.lt_of_lt_of_le N3 t1.size
      have nN : w.heap.size ≠ w1.heap.size := Nat.ne_of_lt N4
      go_wp2_with fail
      go_ret
      exact ⟨rfl, (S0.out.trans t1).alloc _⟩
    · have g3 : ¬ (3 : Int) < (x : Int) := by omega
      have hp8 : 2 ^ x ≤ 2 ^ 3 := Nat.pow_le_pow_right (by decide) (by omega)
      have hpc : ((2 ^ x : Nat) : Int) = (2 : Int) ^ x := by rw [Int.natCast_pow]; rfl
      generalize 2 ^ x = p at hr hp8 hpc
      have hw8 : IntKind.u64.wrap ((2 : Int) ^ x) = (p : Int) := by
        rw [← hpc]
        exact IntWalk.u64_in _ (by omega)
      clear hpc
      by_cases hlt : bt < p
      · obtain rfl : r = 25 := by rw [hr, if_pos ⟨rfl, .inr hlt⟩]
        have g4 : (bt : Int) < (p : Int) := by omega
        clear hr h3 hlt
        go_enter Try.func52, Try.ntmps52
        go_wp2_with fail
        refine HA.out.mono ?_
        rintro e w1 ⟨rfl, t1⟩
        have m1' := (t1.cell (p := ⟨w.heap.size, 1, none⟩) N3 id).trans m1
        have N4 : w.heap.size < w1.heap.size := Nat.lt_of_lt_of_le N3 t1.size
        have nN : w.heap.size ≠ w1.heap.size := Nat.ne_of_lt N4
        go_wp2_with fail
        go_ret
        exact ⟨rfl, (S0.out.trans t1).alloc _⟩
      · obtain rfl : r = 0 := by rw [hr, if_neg (by rintro ⟨_, e | e⟩; exact h3 e; exact hlt e)]
        have g4 : ¬ (bt : Int) < (p : Int) := by omega
        clear hr h3 hlt
        go_enter Try.func52, Try.ntmps52
        go_wp2_with fail
        refine HA.out.mono ?_
        rintro e w1 ⟨rfl, t1⟩
        have m1' := (t1.cell (p := ⟨w.heap.size, 1, none⟩) N3 id).trans m1
        have N4 : w.heap.size < w1.heap.size := Nat.lt_of_lt_of_le N3 t1.size
        have nN : w.heap.size ≠ w1.heap.size := Nat.ne_of_lt N4
        go_wp2_with fail
        go_ret
        exact ⟨rfl, (S0.out.trans t1).alloc _⟩
theorem k_memory (op x b m c : Nat) (A : Option Addr) (h : Kk w a E I s) (hb : s.ok n) (hn : n ≤ 1000) (ho : op < 256) (hx : x < 18446744073709551616) :
    Calls Try.prog 52 #[.pointer (some ⟨a.k, 0, none⟩), .agg #[.int .u8 (op : Int), .int .u64 (x : Int), .int .u64 (b : Int), .slice A m c]] w fun e w' => e = .returned (.int .i64 (memE E op x)) ∧ Step (fun _ => False) w w' := by
  unfold memE
  by_cases hm : E.mem = true
  · rw [if_pos hm]
    exact k_memory_yes op x b m c A h hb hn hm ho hx _ rfl
  · rw [if_neg hm]
    exact k_memory_no op x b m c A h hb hn (by simpa using hm)
end
end Go.Proofs.Ytpebdfgfikjkeaa
