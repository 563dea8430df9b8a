/-
  OpstackBack: the law's walk.
-/
import Derived.Test.YtfechgpdlabgaaaStkD
set_option linter.unusedVariables false
set_option linter.unusedSimpArgs false
namespace Go.Proofs.Ytfechgpdlabgaaa
open Go.RowKit

/-! ### The plain law -/
theorem wantF_last (l : List UInt8) (x : UInt8) (floor : Int) (free : Bool) (h : floor ≤ l.length) : ∃ g : Int, wantF (l ++ [x]) (x.toNat : Int) floor free = (l, g, 0) := by
  have hp : popF (l ++ [x]) floor free = (l, (x.toNat : Int), 0) := by
    unfold popF
    rw [if_neg (by simp; omega)]
    simp
  unfold wantF
  rw [hp]
  by_cases hx : (x.toNat : Int) = 0
  · exact ⟨(x.toNat : Int), by simp [hx]⟩
  · exact ⟨(x.toNat : Int), by simp [hx]⟩
theorem wantAllF_back (l : List UInt8) (floor : Int) (free : Bool) (h : floor ≤ l.length) : ∀ r : List UInt8, wantAllF (l ++ r.reverse) r floor free = (l, 0)
  | [] => by simp [wantAllF]
  | x :: r => by
    obtain ⟨g, hg⟩ := wantF_last (l ++ r.reverse) x floor free (by simp; omega)
    have : l ++ (x :: r).reverse = (l ++ r.reverse) ++ [x] := by simp
    rw [this, wantAllF, hg]
    simp only [ne_eq, not_true_eq_false, if_false]
    exact wantAllF_back l floor free h r
theorem wantAllF_free (l : List UInt8) : ∀ r : List UInt8, wantAllF l r (l.length : Int) true = (l, 0)
  | [] => rfl
  | x :: r => by
    have hp : popF l (l.length : Int) true = (l, 0, 0) := by unfold popF; rw [if_pos (by omega)]; rfl
    rw [wantAllF]
    have hw : wantF l (x.toNat : Int) (l.length : Int) true = (l, (x.toNat : Int), 0) := by unfold wantF; rw [hp]; simp
    rw [hw]
    simp only [ne_eq, not_true_eq_false, if_false]
    exact wantAllF_free l r
theorem wantAllF_bound (l : List UInt8) (x : UInt8) (r : List UInt8) : wantAllF l (x :: r) (l.length : Int) false = (l, 21) := by
  have hp : popF l (l.length : Int) false = (l, 0, 21) := by unfold popF; rw [if_pos (by omega)]; rfl
  rw [wantAllF]
  have hw : wantF l (x.toNat : Int) (l.length : Int) false = (l, 0, 21) := by unfold wantF; rw [hp]; simp
  rw [hw]
  simp

/-! ### The walk -/
theorem stk_b {w w' : World} {B g : Nat} {D : Option Addr} {c : Nat} {l m : List UInt8} (h : StkAt w B g D c l) (hg : B ≤ g) (t : StkTo w B g D m w') : ∃ D' c', StkAt w' B g D' c' m ∧ Below B w w' := by
  obtain ⟨D', c', h', s, _⟩ := t
  refine ⟨D', c', h', s.below B (fun k _ hk => ?_) h.base⟩
  rcases hk with rfl | hk
  · exact hg
  · exact own_ge h.own k (by rw [ownBlock_slice]; exact hk)

set_option maxRecDepth 100000 in
set_option maxHeartbeats 1600000 in
theorem awake21 (w : World) : Calls Try.prog 25 #[] w fun e w' => e = .returned (.bool true) ∧ Below w.heap.size w w' := by
  have hg := Nat.le_refl w.heap.size
  have h0 : StkAt (w.alloc (.cells #[.slice none 0 0] 48)) w.heap.size w.heap.size none 0 [] := ⟨Blk.new _ _ _, World.ownsRow_nil _ _ _ _, by simp⟩
  have H0 := Lib.hid h0
  clear h0
  have hwf : wantF [127] 126 0 false = ([], 0, 21) := by decide
  go_enter Try.func25, Try.ntmps25
  go_wp2_with fail
  refine (stk_push _ _ _ _ _ [] 127 H0.out (by simp)).mono ?_
  rintro e w2 ⟨rfl, t⟩
  obtain ⟨D2, c2, h2, b2⟩ := stk_b H0.out hg t
  go_wp2_with fail
  refine (stk_want _ _ _ _ _ _ 126 0 false h2 (by simp)).mono ?_
  rintro e w3 ⟨rfl, t⟩
  obtain ⟨D3, c3, h3, b3⟩ := stk_b h2 hg t
  have h3' : StkAt w3 w.heap.size w.heap.size D3 c3 [] := by rw [show ([] : List UInt8) ++ [127] = [127] from rfl, hwf] at h3; exact h3
  clear h3
  go_wp2_with fail
  refine (stk_len _ _ _ _ _ _ h3').mono ?_
  rintro e w4 ⟨rfl, rfl⟩
  go_wp2_with fail
  go_ret
  exact ⟨rfl, (((Below.refl _ _).alloc (Nat.le_refl _) _).trans b2).trans b3⟩

set_option maxRecDepth 100000 in
set_option maxHeartbeats 1600000 in
theorem back_walk (w : World) (b t : List UInt8) (free : Bool) :
    Calls Try.prog 5 #[.string (str b), .string (str t), .bool free] w fun e w' => e = .returned (.bool true) ∧ Below w.heap.size w w' := by
  have hsb : (str b).size = b.length := str_size b
  have hst : (str t).size = t.length := str_size t
  by_cases h1 : (100 : Int) < b.length
  · go_enter Try.func5, Try.ntmps5
    go_wp2_with fail
    refine (awake21 w).mono ?_
    rintro e w0 ⟨rfl, b0⟩
    go_wp2_with fail
    go_ret
    exact ⟨rfl, b0⟩
  by_cases h2 : (100 : Int) < t.length
  · go_enter Try.func5, Try.ntmps5
    go_wp2_with fail
    refine (awake21 w).mono ?_
    rintro e w0 ⟨rfl, b0⟩
    go_wp2_with fail
    go_ret
    exact ⟨rfl, b0⟩
  go_enter Try.func5, Try.ntmps5
  go_wp2_with fail
  refine (awake21 w).mono ?_
  rintro e w0 ⟨rfl, b0⟩
  have hg := Nat.le_refl w0.heap.size
  have h0 : StkAt (w0.alloc (.cells #[.slice none 0 0] 48)) w0.heap.size w0.heap.size none 0 [] := ⟨Blk.new _ _ _, World.ownsRow_nil _ _ _ _, by simp⟩
  have H0 := Lib.hid h0
  clear h0
  go_wp2_with fail
  refine (stk_pushAll _ _ _ _ _ [] b H0.out (by simp) (by omega)).mono ?_
  rintro e w2 ⟨rfl, tt⟩
  obtain ⟨D2, c2, h2', b2⟩ := stk_b H0.out hg tt
  rw [List.nil_append] at h2'
  clear tt
  go_wp2_with fail
  refine (stk_pushAll _ _ _ _ _ b t h2' (by omega) (by omega)).mono ?_
  rintro e w3 ⟨rfl, tt⟩
  obtain ⟨D3, c3, h3, b3⟩ := stk_b h2' hg tt
  clear tt
  go_wp2_with fail
  have hw := stk_wantAll w3 _ _ D3 c3 _ t (b.length : Int) free h3 (by simp; omega) (by omega)
  rw [show wantAllF (b ++ t) t.reverse (b.length : Int) free = (b, 0) by have := wantAllF_back b (b.length : Int) free (Int.le_refl _) t.reverse; rwa [List.reverse_reverse] at this] at hw
  refine hw.mono ?_
  rintro e w4 ⟨rfl, tt⟩
  obtain ⟨D4, c4, h4, b4⟩ := stk_b h3 hg tt
  clear tt hw
  go_wp2_with fail
  refine (stk_list w4 _ _ _ _ _ h4 (by show b.length ≤ 1000000; omega)).mono ?_
  rintro e w5 ⟨A, c5, rfl, ho, s5⟩
  have hcv := run_conv_bytes (P := Try.prog) w5 46 9 5 Try.underlying46 Try.underlying5 Try.underlying9 (c := c5) (Reads.of_own ho)
  have h5 : StkAt w5 w0.heap.size w0.heap.size D4 c4 b := h4.step s5 id (fun _ _ => id)
  have b5 := s5.below w0.heap.size (fun k _ h => h.elim) h4.base
  have hb5 : Below w.heap.size w w5 := by
    have e1 : Below w.heap.size w0 (w0.alloc (.cells #[.slice none 0 0] 48)) := (Below.refl _ _).alloc b0.size _
    exact ((((b0.trans e1).trans (b2.mono b0.size)).trans (b3.mono b0.size)).trans (b4.mono b0.size)).trans (b5.mono b0.size)
  have HB5 := Lib.hid hb5
  have H5 := Lib.hid h5
  clear hb5 b2 b3 b4 b5 h2' h3 h4 ho s5 h5 H0
  go_wp2_with fail
  have hw := stk_wantAll w5 _ _ D4 c4 _ t (b.length : Int) free H5.out (by omega) (by omega)
  have key : wantAllF b t.reverse (b.length : Int) free = (b, if free = true ∨ t = [] then 0 else 21) := by
    cases hr : t.reverse with
    | nil =>
      have : t = [] := by simpa using hr
      rw [if_pos (.inr this)]
      rfl
    | cons x r =>
      have hne : t ≠ [] := by rintro rfl; simp at hr
      cases free with
      | true => rw [if_pos (.inl rfl)]; exact wantAllF_free b (x :: r)
      | false => rw [if_neg (by rintro (h | h); cases h; exact hne h)]; exact wantAllF_bound b x r
  rw [key] at hw
  have HW := Lib.hid hw
  clear hw key
  by_cases ht : t = []
  · subst ht
    have hte0 : (str []).toList = [] := str_toList []
    cases free
    all_goals
      refine HW.out.mono ?_
      rintro e w6 ⟨rfl, tt⟩
      obtain ⟨D6, c6, h6, b6⟩ := stk_b H5.out hg tt
      clear tt
      go_wp2_with fail
      refine (stk_list w6 _ _ _ _ _ h6 (by show b.length ≤ 1000000; omega)).mono ?_
      rintro e w7 ⟨A7, c7, rfl, ho7, s7⟩
      have hcv7 := run_conv_bytes (P := Try.prog) w7 46 9 5 Try.underlying46 Try.underlying5 Try.underlying9 (c := c7) (Reads.of_own ho7)
      have b7 := s7.below w0.heap.size (fun k _ h => h.elim) h6.base
      go_wp2_with fail
      go_ret
      exact ⟨rfl, (HB5.out.trans (b6.mono b0.size)).trans (b7.mono b0.size)⟩
  · have hte : (str t).toList = t := str_toList t
    have htn : t.isEmpty = false := by cases t with | nil => exact absurd rfl ht | cons => rfl
    cases free
    all_goals
      refine HW.out.mono ?_
      rintro e w6 ⟨rfl, tt⟩
      obtain ⟨D6, c6, h6, b6⟩ := stk_b H5.out hg tt
      clear tt
      go_wp2_with fail
      refine (stk_list w6 _ _ _ _ _ h6 (by show b.length ≤ 1000000; omega)).mono ?_
      rintro e w7 ⟨A7, c7, rfl, ho7, s7⟩
      have hcv7 := run_conv_bytes (P := Try.prog) w7 46 9 5 Try.underlying46 Try.underlying5 Try.underlying9 (c := c7) (Reads.of_own ho7)
      have b7 := s7.below w0.heap.size (fun k _ h => h.elim) h6.base
      go_wp2_with fail
      go_ret
      exact ⟨rfl, (HB5.out.trans (b6.mono b0.size)).trans (b7.mono b0.size)⟩
end Go.Proofs.Ytfechgpdlabgaaa
