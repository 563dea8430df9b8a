/-
  creellaw31: made; the bits of a number.
-/
import Derived.Test.YtokchoocelmdoaaFpL
import Derived.Laws.BitsAllLaws
set_option linter.unusedVariables false
set_option linter.unusedSimpArgs false
namespace Go.Proofs.Ytokchoocelmdoaa
open Go.RowKit

theorem and_small (z : Int) (k : Nat) (hk : k ≤ 7) : ∃ m : Nat, m ≤ k ∧ bits BinOp.and IntKind.i64 z (k : Int) = (m : Int) ∧ m = (BitVec.ofInt 64 z).toNat &&& k := by
  have hb : (BitVec.ofInt 64 (k : Int)).toNat = k := by
    rw [BitVec.toNat_ofInt]
    omega
  have hle : (BitVec.ofInt 64 z).toNat &&& k ≤ k := Nat.and_le_right
  refine ⟨_, hle, ?_, rfl⟩
  show IntKind.i64.wrap ((BitVec.ofInt 64 z &&& BitVec.ofInt 64 (k : Int)).toNat : Int) = _
  rw [BitVec.toNat_and, hb]
  exact IntWalk.i64_in _ (by omega)
theorem and_3 (z : Int) : ∃ m : Nat, m ≤ 3 ∧ bits BinOp.and IntKind.i64 z 3 = (m : Int) := by
  obtain ⟨m, h1, h2, _⟩ := and_small z 3 (by decide)
  exact ⟨m, h1, h2⟩
theorem and_1 (z : Int) : ∃ m : Nat, m ≤ 1 ∧ bits BinOp.and IntKind.i64 z 1 = (m : Int) := by
  obtain ⟨m, h1, h2, _⟩ := and_small z 1 (by decide)
  exact ⟨m, h1, h2⟩
theorem and_4 (z : Int) : ∃ m : Nat, m ≤ 1 ∧ bits BinOp.and IntKind.i64 z 4 = ((4 * m : Nat) : Int) := by
  obtain ⟨m, h1, h2, h3⟩ := and_small z 4 (by decide)
  have h4 : m % 2 ^ 2 = 0 := by
    rw [h3, Nat.and_mod_two_pow]
    exact Nat.and_zero _
  have h5 : m = 0 ∨ m = 4 := by omega
  rcases h5 with rfl | rfl
  · exact ⟨0, by decide, h2⟩
  · exact ⟨1, by decide, h2⟩

theorem fn_new {W : World} {N : Nat} {t : TypeId} {a b d a0 b0 d0 c e f g c0 e0 f0 g0 : Value} (h : Blk W N t #[a0, b0, c0, d0, e0, f0, g0]) :
    Blk (((((((W.setCell ⟨N, 0, none⟩ a).setCell ⟨N, 1, none⟩ b).setCell ⟨N, 2, none⟩ c).setCell ⟨N, 3, none⟩ d).setCell ⟨N, 4, none⟩ e).setCell ⟨N, 5, none⟩ f).setCell ⟨N, 6, none⟩ g) N t #[a, b, c, d, e, f, g] := by
  have := ((((((h.set_ 0 a).set_ 1 b).set_ 2 c).set_ 3 d).set_ 4 e).set_ 5 f).set_ 6 g
  simpa using this
theorem fn_step {F : Nat → Prop} {w W : World} {N : Nat} {a b c d e f g : Value} (h : Step F w W) (hN : F N ∨ w.heap.size ≤ N) :
    Step F w (((((((W.setCell ⟨N, 0, none⟩ a).setCell ⟨N, 1, none⟩ b).setCell ⟨N, 2, none⟩ c).setCell ⟨N, 3, none⟩ d).setCell ⟨N, 4, none⟩ e).setCell ⟨N, 5, none⟩ f).setCell ⟨N, 6, none⟩ g) :=
  ((((((h.setCell (p := ⟨N, 0, none⟩) hN a).setCell (p := ⟨N, 1, none⟩) hN b).setCell (p := ⟨N, 2, none⟩) hN c).setCell (p := ⟨N, 3, none⟩) hN d).setCell (p := ⟨N, 4, none⟩) hN e).setCell (p := ⟨N, 5, none⟩) hN f).setCell (p := ⟨N, 6, none⟩) hN g
set_option maxRecDepth 100000 in
set_option maxHeartbeats 1600000 in
theorem made_walk (w : World) (z : Int) (np r : Nat) (h3 : bits BinOp.and IntKind.i64 z 3 = (np : Int)) (hnp : np ≤ 3) (h4 : bits BinOp.and IntKind.i64 z 4 = ((4 * r : Nat) : Int)) (hr : r ≤ 1) :
    Calls Try.prog 31 #[.int .i64 z] w fun e w' => ∃ ps rs lo : ByteArray, e = .returned (fnV ps rs lo) ∧ ps.size = np ∧ lo.size = np + 2 ∧ rs.size = r ∧ Step (fun _ => False) w w' := by
  have n0 := Blk.new w 72 #[.string ⟨#[]⟩, .string ⟨#[]⟩, .int .i64 0, .string ⟨#[]⟩, .slice none 0 0, .slice none 0 0, .slice none 0 0]
  have N0 := Lib.hid (n0.alloc (.cells #[.string ⟨#[]⟩, .string ⟨#[]⟩] 66))
  have M0 := Lib.hid (Blk.new (w.alloc (.cells #[.string ⟨#[]⟩, .string ⟨#[]⟩, .int .i64 0, .string ⟨#[]⟩, .slice none 0 0, .slice none 0 0, .slice none 0 0] 72)) 66 #[.string ⟨#[]⟩, .string ⟨#[]⟩])
  have S0 : Hid (Step (fun _ => False) w ((w.alloc (.cells #[.string ⟨#[]⟩, .string ⟨#[]⟩, .int .i64 0, .string ⟨#[]⟩, .slice none 0 0, .slice none 0 0, .slice none 0 0] 72)).alloc (.cells #[.string ⟨#[]⟩, .string ⟨#[]⟩] 66))) := (Step.refl.alloc _).alloc _
  clear n0
  go_enter Try.func31, Try.ntmps31
  go_upto_region 2 with fail
  obtain ⟨W, hW⟩ : ∃ W, W = (w.alloc (.cells #[.string ⟨#[]⟩, .string ⟨#[]⟩, .int .i64 0, .string ⟨#[]⟩, .slice none 0 0, .slice none 0 0, .slice none 0 0] 72)).alloc (.cells #[.string ⟨#[]⟩, .string ⟨#[]⟩] 66) := ⟨_, rfl⟩
  obtain ⟨N, hN⟩ : ∃ N, N = w.heap.size := ⟨_, rfl⟩
  obtain ⟨M, hM⟩ : ∃ M, M = w.heap.size + 1 := ⟨_, rfl⟩
  rw [← hW, ← hM, ← hN]
  rw [← hW] at N0 M0 S0
  rw [show (w.alloc (.cells #[.string ⟨#[]⟩, .string ⟨#[]⟩, .int .i64 0, .string ⟨#[]⟩, .slice none 0 0, .slice none 0 0, .slice none 0 0] 72)).heap.size = w.heap.size + 1 by simp, ← hM] at M0
  rw [← hN] at N0
  have HN : Hid (w.heap.size ≤ N) := by rw [hN]; exact Nat.le_refl _
  have HM : Hid (w.heap.size ≤ M) := by rw [hM]; exact Nat.le_succ _
  have hNM : N ≠ M := by omega
  clear hW hN hM
  go_wp2_with fail
  go_loopw [5, 4] (fun i lv wr => ∃ (j : Nat) (ps lo : ByteArray), j ≤ np ∧ i = .int .i64 (j : Int) ∧ lv = .string lo ∧ Hid (ps.size = j ∧ lo.size = j + 2) ∧ Hid (Blk wr M 66 #[.string ps, .string ⟨#[]⟩]) ∧ Hid (Blk wr N 72 #[.string ⟨#[]⟩, .string ⟨#[]⟩, .int .i64 0, .string ⟨#[]⟩, .slice none 0 0, .slice none 0 0, .slice none 0 0]) ∧ Hid (Step (fun _ => False) w wr)) (fun i _ _ => np - (intOf i).toNat)
  case atStart => exact ⟨0, ⟨#[]⟩, ⟨#[127, 127]⟩, Nat.zero_le _, rfl, rfl, ⟨rfl, rfl⟩, M0.out, N0.out, S0.out⟩
  case round =>
    obtain ⟨j, ps, lo, hj, rfl, rfl, hz, hM, hN, hs⟩ := hrel
    have c0 := hM.out.cell 0
    have c1 := hM.out.cell 1
    have fz := hM.out.frozen
    simp at c0 c1
    by_cases hlt : j < np
    · have i1 : (j : Int) < (np : Int) := by omega
      have w2 := IntWalk.i64_in ((j : Int) + 1) (by omega)
      have z1 : ¬ 9223372036854775807 < ps.size + 1 := by have := hz.out.1; omega
      have z2 : ¬ 9223372036854775807 < lo.size + 1 := by have := hz.out.2; omega
      go_wp2_with fail
      go_roundw
      case rel => exact ⟨j + 1, ps ++ ⟨#[127]⟩, lo ++ ⟨#[127]⟩, by omega, by go_num, rfl, ⟨by rw [ByteArray.size_append, hz.out.1]; rfl, by rw [ByteArray.size_append, hz.out.2]; rfl⟩, by
        have := hM.out.set_ 0 (.string (ps ++ ⟨#[127]⟩))
        exact this, hN.out.far (p := ⟨M, 0, none⟩) hNM _, hs.out.setCell (.inr HM.out) _⟩
      case measure => first | (simp [intOf]; done) | (simp [intOf]; omega)
    · obtain rfl : j = np := by omega
      have i1 : ¬ (j : Int) < (j : Int) := by omega
      have n0 := hN.out.cell 0
      have n1 := hN.out.cell 1
      have n2 := hN.out.cell 2
      have n3 := hN.out.cell 3
      have n4 := hN.out.cell 4
      have n5 := hN.out.cell 5
      have n6 := hN.out.cell 6
      have fn := hN.out.frozen
      simp at n0 n1 n2 n3 n4 n5 n6
      have h01 : r = 0 ∨ r = 1 := by omega
      rcases h01 with rfl | rfl
      · have h4' : (bits BinOp.and IntKind.i64 z 4 == 4) = false := by rw [h4]; rfl
        clear h4
        go_wp2_with fail
        have bz := fn_new (a := .string ps) (b := .string ⟨#[]⟩) (d := .string lo) (c := .int .i64 0) (e := .slice none 0 0) (f := .slice none 0 0) (g := .slice none 0 0) hN.out
        have y0 := bz.cell 0
        have y1 := bz.cell 1
        have y2 := bz.cell 2
        have y3 := bz.cell 3
        have y4 := bz.cell 4
        have y5 := bz.cell 5
        have y6 := bz.cell 6
        simp at y0 y1 y2 y3 y4 y5 y6
        refine bodyPost_ret (v := fnV ps ⟨#[]⟩ lo) ?_ rfl ⟨ps, ⟨#[]⟩, lo, rfl, hz.out.1, hz.out.2, rfl, fn_step hs.out (.inr HN.out)⟩
        unfold fnV
        simp [results, Try.results31, go_sem, y0, y1, y2, y3, y4, y5, y6]
      · have h4' : (bits BinOp.and IntKind.i64 z 4 == 4) = true := by rw [h4]; rfl
        clear h4
        go_wp2_with fail
        have bz := fn_new (a := .string ps) (b := .string ⟨#[127]⟩) (d := .string lo) (c := .int .i64 0) (e := .slice none 0 0) (f := .slice none 0 0) (g := .slice none 0 0) (hN.out.far (p := ⟨M, 1, none⟩) hNM (.string ⟨#[127]⟩))
        have y0 := bz.cell 0
        have y1 := bz.cell 1
        have y2 := bz.cell 2
        have y3 := bz.cell 3
        have y4 := bz.cell 4
        have y5 := bz.cell 5
        have y6 := bz.cell 6
        simp at y0 y1 y2 y3 y4 y5 y6
        refine bodyPost_ret (v := fnV ps ⟨#[127]⟩ lo) ?_ rfl ⟨ps, ⟨#[127]⟩, lo, rfl, hz.out.1, hz.out.2, rfl, fn_step (hs.out.setCell (p := ⟨M, 1, none⟩) (.inr HM.out) (.string ⟨#[127]⟩)) (.inr HN.out)⟩
        unfold fnV
        simp [results, Try.results31, go_sem, y0, y1, y2, y3, y4, y5, y6]
end Go.Proofs.Ytokchoocelmdoaa
