/-
  store: memory Pages, Len, Grow, Shrink; table Len, Cut, List; journal Keep.
-/
import Derived.Test.YtmheofkakcomdaaSbD
set_option linter.unusedVariables false
set_option linter.unusedSimpArgs false
namespace Go.Proofs.Ytmheofkakcomdaa
open Go.RowKit
section
variable {w w' : World} {B M n c : Nat} {A : Option Addr} {most : Int} {l : List UInt8}
theorem m_len (h : Mm w B M A n c most l) : Calls Try.prog 43 #[.pointer (some ⟨M, 0, none⟩)] w fun e w' => e = .returned (.int .i64 (n : Int)) ∧ w' = w := by
  have x0 := (h.blk.cell 0).trans (show _ = some (Value.slice A n c) from rfl)
  clear h
  go_enter Try.func43, Try.ntmps43
  go_wp2_with fail
  go_ret
  exact ⟨rfl, rfl⟩
theorem m_pages (h : Mm w B M A n c most l) (p : Nat) (hp : n = p * 65536) : Calls Try.prog 77 #[.pointer (some ⟨M, 0, none⟩)] w fun e w' => e = .returned (.int .i64 (p : Int)) ∧ w' = w := by
  have x0 := (h.blk.cell 0).trans (show _ = some (Value.slice A n c) from rfl)
  have hsm := h.small
  have q0 : Int.tdiv (n : Int) 65536 = (p : Int) := by rw [Int.tdiv_eq_ediv_of_nonneg (by omega)]; omega
  have q1 := IntWalk.i64_in ((p : Int)) (by omega)
  have q2 : (n : Int) / 65536 = (p : Int) := by rw [hp]; omega
  clear h hp
  go_enter Try.func77, Try.ntmps77
  go_wp2_with fail
  go_ret
  exact ⟨rfl, rfl⟩
theorem Mm.put {w1 : World} {A' : Option Addr} {n' c' : Nat} {l' : List UInt8} (h : Mm w B M A n c most l) (hs : Step (fun k => blkOf A = some k) w w1) (ho : w1.ownsRow B 5 1 (.slice A' n' c') n' (u8s l')) (hn : n' = l'.length) (hle : n' ≤ 16777216)
    (hA : ∀ k, blkOf A' = some k → blkOf A = some k ∨ w.heap.size ≤ k) : Mm (w1.setCell ⟨M, 0, none⟩ (.slice A' n' c')) B M A' n' c' most l' ∧ Upd w (foot M A) (foot M A') (w1.setCell ⟨M, 0, none⟩ (.slice A' n' c')) := by
  have hb1 := h.blk.step hs h.ne
  have hT : blkOf A' ≠ some M := fun e => by
    rcases hA M e with h1 | h1
    · exact h.ne h1
    · have := h.blk.lt; omega
  refine ⟨⟨by simpa using hb1.set_ 0 (.slice A' n' c'), own_set ho (by rw [ownBlock_slice]; exact hT) _, hn, h.ge, hle⟩, (hs.mono fun i _ hi => .inr hi).setCell (.inl (.inl rfl)) _, fun k hk => ?_⟩
  rcases hk with rfl | hk
  · exact .inl (.inl rfl)
  · rcases hA k hk with h1 | h1
    · exact .inl (.inr h1)
    · exact .inr h1
set_option maxRecDepth 100000 in
set_option maxHeartbeats 1600000 in
theorem m_grow_no (k : Nat) (h : Mm w B M A n c most l) (p : Nat) (hp : n = p * 65536) (hk : most - (p : Int) < (k : Int)) (hm : (p : Int) ≤ most) (hm2 : most ≤ 256) (hk2 : k < 18446744073709551616) : Calls Try.prog 70 #[.pointer (some ⟨M, 0, none⟩), .int .u64 (k : Int)] w fun e w' => e = .returned (.tuple #[.int .i64 0, .bool false]) ∧ Step (fun _ => False) w w' := by
  have x1 := (h.blk.cell 1).trans (show _ = some (Value.int .i64 most) from rfl)
  have HP := Lib.hid (m_pages h p hp)
  have ws : IntKind.i64.wrap (most - (p : Int)) = most - (p : Int) := IntWalk.i64_in _ (by omega)
  have wu : IntKind.u64.wrap (most - (p : Int)) = most - (p : Int) := by rw [Go.IntKind.wrap_u64]; omega
  have d1 : decide (most - (p : Int) < (k : Int)) = true := decide_eq_true (by omega)
  clear h hk hp hm hm2 hk2
  go_enter Try.func70, Try.ntmps70
  go_wp2_with fail
  refine HP.out.mono ?_
  rintro e w1 ⟨rfl, rfl⟩
  go_wp2_with fail
  go_ret2
  exact ⟨rfl, Step.refl⟩
set_option maxRecDepth 100000 in
set_option maxHeartbeats 3200000 in
theorem m_grow_ok (k : Nat) (h : Mm w B M A n c most l) (hB : B ≤ w.heap.size) (p : Nat) (hp : n = p * 65536) (hk : (p : Int) + (k : Int) ≤ most) (hm2 : most ≤ 256) : Calls Try.prog 70 #[.pointer (some ⟨M, 0, none⟩), .int .u64 (k : Int)] w fun e w' => e = .returned (.tuple #[.int .i64 (p : Int), .bool true]) ∧
    ∃ A' c', Mm w' B M A' ((p + k) * 65536) c' most (l ++ List.replicate (k * 65536) 0) ∧ Upd w (foot M A) (foot M A') w' := by
  have x0 := (h.blk.cell 0).trans (show _ = some (Value.slice A n c) from rfl)
  have x1 := (h.blk.cell 1).trans (show _ = some (Value.int .i64 most) from rfl)
  have HP := Lib.hid (m_pages h p hp)
  have ws : IntKind.i64.wrap (most - (p : Int)) = most - (p : Int) := IntWalk.i64_in _ (by omega)
  have wu : IntKind.u64.wrap (most - (p : Int)) = most - (p : Int) := by rw [Go.IntKind.wrap_u64]; omega
  have d1 : decide (most - (p : Int) < (k : Int)) = false := decide_eq_false (by omega)
  have wk : IntKind.i64.wrap (k : Int) = (k : Int) := IntWalk.i64_in _ (by omega)
  have wm : IntKind.i64.wrap ((k : Int) * 65536) = ((k * 65536 : Nat) : Int) := by rw [IntWalk.i64_in _ (by omega)]; omega
  obtain ⟨D, c', w1, hrun, ho1, hs1, hD⟩ := own_zeros h.own hB (k * 65536) (by omega)
  obtain ⟨N, hN⟩ : ∃ N, N = n + k * 65536 := ⟨_, rfl⟩
  rw [← hN] at hrun ho1
  have hput := h.put hs1 ho1 (by rw [List.length_append, List.length_replicate, hN, h.len]) (by omega) hD
  have HPUT := Lib.hid hput
  have hb1 := h.blk.step hs1 h.ne
  have z0 := (hb1.cell 0).trans (show _ = some (Value.slice A n c) from rfl)
  have f0 := hb1.frozen 0
  have HNE : Hid ((p + k) * 65536 = N) := by rw [Hid, hN, hp]; omega
  clear h hk hp hm2 ho1 hs1 hD hput hb1 hN
  go_enter Try.func70, Try.ntmps70
  go_wp2_with fail
  refine HP.out.mono ?_
  rintro e w2 ⟨rfl, rfl⟩
  go_wp2_with (at_builtin; refine Lib.wpList_append_run _ rfl _ _ _ _ (by rfl) _ _ (by rfl) (by rfl) _ _ (hrun _) ?_)
  go_ret2
  exact ⟨rfl, D, c', by rw [HNE.out]; exact HPUT.out.1, HPUT.out.2⟩
end
section
variable {w w' : World} {B T n c : Nat} {A : Option Addr} {most : Int} {l : List Int}
theorem t_len (h : Tb w B T A n c most l) : Calls Try.prog 72 #[.pointer (some ⟨T, 0, none⟩)] w fun e w' => e = .returned (.int .i64 (n : Int)) ∧ w' = w := by
  have x0 := (h.blk.cell 0).trans (show _ = some (Value.slice A n c) from rfl)
  clear h
  go_enter Try.func72, Try.ntmps72
  go_wp2_with fail
  go_ret
  exact ⟨rfl, rfl⟩
set_option maxRecDepth 100000 in
set_option maxHeartbeats 1600000 in
theorem t_grow_no (k : Int) (h : Tb w B T A n c most l) (hk : k < 0 ∨ most - (n : Int) < k) : Calls Try.prog 59 #[.pointer (some ⟨T, 0, none⟩), .int .i64 k] w fun e w' => e = .returned (.bool false) ∧ Step (fun _ => False) w w' := by
  have x0 := (h.blk.cell 0).trans (show _ = some (Value.slice A n c) from rfl)
  have x1 := (h.blk.cell 1).trans (show _ = some (Value.int .i64 most) from rfl)
  have ws : IntKind.i64.wrap (most - (n : Int)) = most - (n : Int) := IntWalk.i64_in _ (by have := h.le; have := h.most_le; omega)
  by_cases h0 : k < 0
  · have d0 : decide (k < 0) = true := decide_eq_true h0
    clear h hk
    go_enter Try.func59, Try.ntmps59
    go_wp2_with fail
    go_quiet (fail)
    go_wp2_with fail
    go_ret
    exact ⟨rfl, Step.refl.drewN nq⟩
  · have d0 : decide (k < 0) = false := decide_eq_false h0
    have d1 : decide (most - (n : Int) < k) = true := decide_eq_true (by omega)
    clear h hk
    go_enter Try.func59, Try.ntmps59
    go_wp2_with fail
    go_quiet (fail)
    go_wp2_with fail
    go_ret
    exact ⟨rfl, Step.refl.drewN nq⟩
end
end Go.Proofs.Ytmheofkakcomdaa
