/-
  frames.Stacks: the calls that turn the values alone; Len, Depth, Blocks, Top, own.
-/
import Derived.Test.YtokchoocelmdoaaFpA
import Derived.Test.YtokchoocelmdoaaMix
set_option linter.unusedVariables false
set_option linter.unusedSimpArgs false
namespace Go.Proofs.Ytokchoocelmdoaa
open Go.RowKit

section
variable {w : World} {I : Nat → Prop} {g : Nat} {xs : List Int} {ls : List Lb} {fs : List Fm} {most : Int}
theorem fs_push (x : Int) (h : Fs w I g xs ls fs most) (hn : xs.length ≤ 1000000) :
    Calls Try.prog 16 #[.pointer (some ⟨g, 0, none⟩), .int .u64 x] w fun e w' => e = .returned (.tuple #[]) ∧ FsUp w I g (xs ++ [x]) ls fs most w' := by
  obtain ⟨D1, c1, D2, c2, D3, c3, h, hI⟩ := h
  exact (push_any w 0 g D1 c1 xs _ _ most x h.st hn).mono fun e w' ⟨h1, h2⟩ => ⟨h1, h.vals hI h2⟩
theorem fs_take_fails (n : Int) (h : Fs w I g xs ls fs most) (hx : xs.length ≤ 1000000) (hn : n < 0 ∨ (xs.length : Int) < n) :
    Calls Try.prog 22 #[.pointer (some ⟨g, 0, none⟩), .int .i64 n] w fun e w' => e = .returned (.tuple #[.slice none 0 0, .bool false]) ∧ w = w' := by
  obtain ⟨D1, c1, D2, c2, D3, c3, h, hI⟩ := h
  exact take_fails w 0 g D1 c1 xs _ _ most n h.st hx hn
theorem fs_take (k : Nat) (h : Fs w I g xs ls fs most) (hx : xs.length ≤ 1000000) (hk : k ≤ xs.length) :
    Calls Try.prog 22 #[.pointer (some ⟨g, 0, none⟩), .int .i64 k] w fun e w' => ∃ A c', e = .returned (.tuple #[.slice A k c', .bool true]) ∧ w'.ownsRow w.heap.size 28 1 (.slice A k c') k (u64s (xs.drop (xs.length - k))) ∧ FsUp w I g (xs.take (xs.length - k)) ls fs most w' := by
  obtain ⟨D1, c1, D2, c2, D3, c3, h, hI⟩ := h
  refine (take_any w 0 g D1 c1 xs _ _ most k h.st hx hk).mono ?_
  rintro e w' ⟨A, c', he, ho, hs, st⟩
  exact ⟨A, c', he, ho, h.vals hI ⟨D1, c1, hs, st.mono fun _ _ e => .inl e, fun _ e => .inl e⟩⟩
theorem fs_values (h : Fs w I g xs ls fs most) (hx : xs.length ≤ 1000000) : Calls Try.prog 13 #[.pointer (some ⟨g, 0, none⟩)] w (Copied w xs) := by
  obtain ⟨D1, c1, D2, c2, D3, c3, h, hI⟩ := h
  exact values_any w 0 g D1 c1 xs _ _ most h.st hx
/-- What Keep leaves. -/
def keepF (xs : List Int) (a k : Nat) : List Int := xs.take a ++ xs.drop (xs.length - k)
theorem fs_keep (a k : Nat) (h : Fs w I g xs ls fs most) (hx : xs.length ≤ 1000000) (hk : a + k ≤ xs.length) :
    Calls Try.prog 17 #[.pointer (some ⟨g, 0, none⟩), .int .i64 a, .int .i64 k] w fun e w' => e = .returned (.bool true) ∧ FsUp w I g (keepF xs a k) ls fs most w' := by
  obtain ⟨D1, c1, D2, c2, D3, c3, h, hI⟩ := h
  exact (keep_any w 0 g D1 c1 xs _ _ most a k h.st hx hk).mono fun e w' ⟨h1, h2⟩ => ⟨h1, h.vals hI h2⟩
theorem fs_keep_fails (a k : Nat) (h : Fs w I g xs ls fs most) (hx : xs.length ≤ 1000000) (hk : xs.length < a + k) (hk2 : k ≤ 1000000) :
    Calls Try.prog 17 #[.pointer (some ⟨g, 0, none⟩), .int .i64 a, .int .i64 k] w fun e w' => e = .returned (.bool false) ∧ w = w' := by
  obtain ⟨D1, c1, D2, c2, D3, c3, h, hI⟩ := h
  exact keep_fails w 0 g D1 c1 xs _ _ most a k h.st hx (by omega) (by omega) (by omega)

theorem fs_len (h : Fs w I g xs ls fs most) : Calls Try.prog 8 #[.pointer (some ⟨g, 0, none⟩)] w fun e w' => e = .returned (.int .i64 xs.length) ∧ w = w' := by
  obtain ⟨D1, c1, D2, c2, D3, c3, h, hI⟩ := h
  have c0 := h.st.blk.cell 0
  simp at c0
  clear h hI
  go_enter Try.func8, Try.ntmps8
  go_wp2
  go_ret
  exact ⟨rfl, rfl⟩
theorem fs_depth (h : Fs w I g xs ls fs most) : Calls Try.prog 10 #[.pointer (some ⟨g, 0, none⟩)] w fun e w' => e = .returned (.int .i64 fs.length) ∧ w = w' := by
  obtain ⟨D1, c1, D2, c2, D3, c3, h, hI⟩ := h
  have c0 := h.st.blk.cell 2
  simp at c0
  clear h hI
  go_enter Try.func10, Try.ntmps10
  go_wp2
  go_ret
  exact ⟨rfl, rfl⟩
theorem fs_blocks (h : Fs w I g xs ls fs most) : Calls Try.prog 11 #[.pointer (some ⟨g, 0, none⟩)] w fun e w' => e = .returned (.int .i64 ls.length) ∧ w = w' := by
  obtain ⟨D1, c1, D2, c2, D3, c3, h, hI⟩ := h
  have c0 := h.st.blk.cell 1
  simp at c0
  clear h hI
  go_enter Try.func11, Try.ntmps11
  go_wp2
  go_ret
  exact ⟨rfl, rfl⟩
theorem fs_top_none (h : Fs w I g xs ls [] most) : Calls Try.prog 15 #[.pointer (some ⟨g, 0, none⟩)] w fun e w' => e = .returned (.pointer none) ∧ w = w' := by
  obtain ⟨D1, c1, D2, c2, D3, c3, h, hI⟩ := h
  have c0 := h.st.blk.cell 2
  simp at c0
  clear h hI
  go_enter Try.func15, Try.ntmps15
  go_wp2
  go_ret
  exact ⟨rfl, rfl⟩
set_option maxRecDepth 100000 in
theorem fsat_top {D1 D2 : Option Addr} {c1 c2 c3 gf : Nat} (h : FsAt w g D1 c1 D2 c2 (some ⟨gf, 0, none⟩) c3 xs ls fs most) (hp : 0 < fs.length) (hl : fs.length ≤ 100000) : Calls Try.prog 15 #[.pointer (some ⟨g, 0, none⟩)] w fun e w' => e = .returned (.pointer (some ⟨gf, (fs.length - 1) * 11, none⟩)) ∧ Step (fun _ => False) w w' := by
  have c0 := h.st.blk.cell 2
  simp at c0
  have n0 : ((fs.length : Int) == 0) = false := beq_eq_false_iff_ne.2 (by omega)
  have i0 : (0 : Int) ≤ (fs.length : Int) - 1 := by omega
  have i1 : (fs.length : Int) - 1 < (fs.length : Int) := by omega
  have hw := IntWalk.i64_in ((fs.length : Int) - 1) (by omega)
  have ht : ((fs.length : Int) - 1).toNat = fs.length - 1 := by omega
  clear h
  go_enter Try.func15, Try.ntmps15
  go_wp2_with fail
  go_quiet (fail)
  go_wp2
  go_ret
  exact ⟨rfl, Step.refl.drewN _⟩
end
end Go.Proofs.Ytokchoocelmdoaa
