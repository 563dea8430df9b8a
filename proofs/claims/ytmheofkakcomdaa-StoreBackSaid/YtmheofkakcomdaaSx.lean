/-
  store: SetSlot; undo of bytes; Back of at most one entry of bytes.
-/
import Derived.Test.YtmheofkakcomdaaSw
set_option linter.unusedVariables false
set_option linter.unusedSimpArgs false
namespace Go.Proofs.Ytmheofkakcomdaa
open Go.RowKit

theorem sset_trap (w : World) (B : Nat) (s : St) (i x : Int) (h : Stw w B s) (hi : i < 0 ∨ (s.nt : Int) ≤ i) :
    Calls Try.prog 54 #[.pointer (some ⟨s.S, 0, none⟩), .int .i64 i, .int .i64 x] w fun e w' => e = .returned (.int .i64 64) ∧ w' = w := by
  have c1 := h.blk.cell 1
  simp at c1
  have HT := Lib.hid (tslot_err w B s.T s.At s.nt s.ct s.mt s.lt i h.tb hi)
  clear h hi
  go_enter Try.func54, Try.ntmps54
  go_wp2_with fail
  refine HT.out.mono ?_
  rintro e w' ⟨rfl, rfl⟩
  go_wp2_with fail
  go_ret
  exact ⟨rfl, rfl⟩
theorem sset_arg (w : World) (B : Nat) (s : St) (i : Nat) (x y : Int) (h : Stw w B s) (hi : i < s.nt) (hy : s.lt[i]? = some y) (hx : x < -1) :
    Calls Try.prog 54 #[.pointer (some ⟨s.S, 0, none⟩), .int .i64 (i : Int), .int .i64 x] w fun e w' => e = .returned (.int .i64 1) ∧ w' = w := by
  have c1 := h.blk.cell 1
  simp at c1
  have HT := Lib.hid (tslot_ok w B s.T s.At s.nt s.ct s.mt s.lt i y h.tb hi hy)
  have HS := Lib.hid (tset_arg w B s.T s.At s.nt s.ct s.mt s.lt i x h.tb hi hx)
  clear h hi hy hx
  go_enter Try.func54, Try.ntmps54
  go_wp2_with fail
  refine HT.out.mono ?_
  rintro e w' ⟨rfl, rfl⟩
  go_wp2_with fail
  refine HS.out.mono ?_
  rintro e w' ⟨rfl, rfl⟩
  go_wp2_with fail
  go_ret
  exact ⟨rfl, rfl⟩
set_option maxRecDepth 100000 in
set_option maxHeartbeats 1600000 in
theorem sset_closed (w : World) (B : Nat) (s : St) (i : Nat) (x y : Int) (h : Stw w B s) (hi : i < s.nt) (hy : s.lt[i]? = some y) (hx : -1 ≤ x) (hnm : s.nm = 0) :
    Calls Try.prog 54 #[.pointer (some ⟨s.S, 0, none⟩), .int .i64 (i : Int), .int .i64 x] w fun e w' => e = .returned (.int .i64 0) ∧ Stw w' B { s with lt := s.lt.set i x } ∧ Step (fun q => blkOf s.At = some q) w w' := by
  have c1 := h.blk.cell 1
  simp at c1
  have HT := Lib.hid (tslot_ok w B s.T s.At s.nt s.ct s.mt s.lt i y h.tb hi hy)
  have HS := Lib.hid (tset_ok w B s.T s.At s.nt s.ct s.mt s.lt i x h.tb hi hx)
  have H := Lib.hid h
  have HNM := Lib.hid hnm
  clear h hi hy hx hnm
  go_enter Try.func54, Try.ntmps54
  go_wp2_with fail
  refine HT.out.mono ?_
  rintro e w' ⟨rfl, hw⟩
  obtain rfl := hw.symm
  clear HT hw
  go_wp2_with fail
  refine HS.out.mono ?_
  rintro e w1 ⟨rfl, ht, hst⟩
  have H1 := Lib.hid (H.out.set_ _ hst ht)
  have HST := Lib.hid hst
  have x5 := H1.out.blk.cell 5
  simp at x5
  clear ht hst HS c1
  go_wp2_with fail
  have hjn := H1.out.jn
  simp only [HNM.out] at hjn
  refine (jnote_closed _ B s.J s.Al s.nl s.cl s.Am s.cm s.es s.ms _ _ _ _ hjn).mono ?_
  rintro e w2 ⟨rfl, hS2⟩
  have H2 := Lib.hid (H1.out.quiet hS2)
  have HS2 := Lib.hid (HST.out.trans' hS2 (fun _ e => e.elim))
  clear hS2 hjn
  go_wp2_with fail
  go_ret
  exact ⟨rfl, H2.out, HS2.out⟩
end Go.Proofs.Ytmheofkakcomdaa
