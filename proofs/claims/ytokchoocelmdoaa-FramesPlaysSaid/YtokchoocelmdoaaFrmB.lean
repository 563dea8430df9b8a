/-
  frames.Stacks: Keep where it holds; the law FramesKeeps.
-/
import Derived.Test.YtokchoocelmdoaaFrm
set_option linter.unusedVariables false
set_option linter.unusedSimpArgs false
namespace Go.Proofs.Ytokchoocelmdoaa
open Go.RowKit

set_option maxRecDepth 100000 in
set_option maxHeartbeats 800000 in
theorem keep_any (w : World) (B g : Nat) (D : Option Addr) (c : Nat) (xs : List Int) (labels frames : Value) (most : Int) (a k : Nat) (h : StAt w B g D c xs labels frames most) (hx : xs.length ≤ 1000000)
    (hk : a + k ≤ xs.length) :
    Calls Try.prog 17 #[.pointer (some ⟨g, 0, none⟩), .int .i64 a, .int .i64 k] w fun e w' => e = .returned (.bool true) ∧ Turned w B g D labels frames most (xs.take a ++ xs.drop (xs.length - k)) w' := by
  have c0 := h.blk.cell 0
  simp at c0
  have h0 : ¬ (k : Int) < 0 := by omega
  have h1 : ¬ (a : Int) < 0 := by omega
  have h2 : ¬ (xs.length : Int) - (k : Int) < (a : Int) := by omega
  have hw := IntWalk.i64_in ((xs.length : Int) - (k : Int)) (by omega)
  go_enter Try.func17, Try.ntmps17
  go_wp2_with fail
  refine (take_any w B g D c xs labels frames most k h hx (by omega)).mono ?_
  rintro e w1 ⟨A, c', rfl, hA, hs, hstep⟩
  obtain ⟨ys, hys⟩ : ∃ ys, ys = xs.take (xs.length - k) := ⟨_, rfl⟩
  rw [← hys] at hs
  have hlen : ys.length = xs.length - k := by rw [hys]; simp
  have hya : ys.take a = xs.take a := by rw [hys, List.take_take]; congr 1; omega
  have c2 := hs.blk.cell 0
  have f2 := hs.blk.frozen 0
  simp at c2
  have hcap := own_cap hs.own
  have sh := slice_hn E_u64 D ys.length c .i64 (a : Int) a rfl (by omega)
  have hto := own_take hs.own (k := a) (by omega)
  rw [Nat.mul_one, ← u64s_take, hya] at hto
  have hone := u64s_one (xs.drop (xs.length - k))
  have hm : a + k ≤ maxLen := by unfold maxLen; omega
  have HL := Lib.hid hlen
  have HY := Lib.hid hys
  clear hlen hys hya
  have hrA := (Reads.of_own hA)
  have hnA : B ≤ w1.heap.size := hs.base
  go_wp2_with (at_builtin; refine wpList_append_src _ rfl _ _ (by rfl) E_u64 (by rfl) hto (by rfl) hrA hone hm (by omega) hnA ?_; intro D' c2' w2 hown2 hgrow hat; have hb2 := hs.blk.grown hgrow hs.ne; have c3 := hb2.cell 0; have f3 := hb2.frozen 0; simp at c3)
  go_ret
  have hl2 : (xs.take a ++ xs.drop (xs.length - k)).length = a + k := by simp; omega
  have hs2 : Step (fun j => blkOf D = some j) w1 w2 := Step.refl.grown hgrow (fun j hj => .inl hj)
  obtain ⟨D2, c4, ht, hst, hD2⟩ := turned_of hs hs2 (D' := D') (c' := c2') (n' := a + k) hl2.symm (by rw [u64s_append]; exact hown2) (fun j hj => by
    rcases hat with e | e
    · exact .inl (e ▸ hj)
    · rw [e] at hj; simp at hj; right; omega)
  refine ⟨rfl, D2, c4, ht, (hstep.mono fun j _ hj => .inl hj).trans hst, fun j hj => ?_⟩
  rcases hD2 j hj with e | e
  · exact .inl e
  · right; have := hstep.size; omega

theorem new_any (w : World) (most : Int) :
    Calls Try.prog 5 #[.int .i64 most] w fun e w' => e = .returned (.pointer (some ⟨w.heap.size, 0, none⟩)) ∧ StAt w' w.heap.size w.heap.size none 0 [] (.slice none 0 0) (.slice none 0 0) most ∧ Step (fun _ => False) w w' := by
  go_enter Try.func5, Try.ntmps5
  go_wp2
  go_ret
  exact ⟨rfl, ⟨Blk.new _ _ _, World.ownsRow_nil _ _ _ _, by simp⟩, Step.refl.alloc _⟩
end Go.Proofs.Ytokchoocelmdoaa
