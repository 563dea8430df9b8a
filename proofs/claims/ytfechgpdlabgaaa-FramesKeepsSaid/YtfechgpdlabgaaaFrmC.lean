/-
  FramesKeeps: the law's own walk.
-/
import Derived.Test.YtfechgpdlabgaaaFrmB
namespace Go.Proofs.Ytfechgpdlabgaaa
open Go.RowKit

/-- A turn of the values, seen from a bound that all its blocks lie above. -/
theorem turned_b {w w' : World} {B g : Nat} {D : Option Addr} {c : Nat} {xs ys : List Int} {labels frames : Value} {most : Int} (h : StAt w B g D c xs labels frames most) (hg : B ≤ g)
    (t : Turned w B g D labels frames most ys w') : ∃ D' c', StAt w' B g D' c' ys labels frames most ∧ Below B w w' := by
  obtain ⟨D', c', h', s, _⟩ := t
  refine ⟨D', c', h', s.below B (fun k _ hk => ?_) h.base⟩
  rcases hk with rfl | hk
  · exact hg
  · exact own_ge h.own k (by rw [ownBlock_slice]; exact hk)

set_option maxRecDepth 100000 in
set_option maxHeartbeats 1600000 in
theorem awake31 (w : World) : Calls Try.prog 14 #[] w fun e w' => e = .returned (.bool true) ∧ Below w.heap.size w w' := by
  have hg := Nat.le_refl w.heap.size
  go_enter Try.func14, Try.ntmps14
  go_wp2_with fail
  refine (new_any w 2).mono ?_
  rintro e w1 ⟨rfl, h1, s1⟩
  go_wp2_with fail
  refine (push_any w1 _ _ _ _ [] _ _ _ 1 h1 (by simp)).mono ?_
  rintro e w2 ⟨rfl, t⟩
  obtain ⟨D2, c2, h2, b2⟩ := turned_b h1 hg t
  go_wp2_with fail
  refine (push_any w2 _ _ _ _ _ _ _ _ 2 h2 (by simp)).mono ?_
  rintro e w3 ⟨rfl, t⟩
  obtain ⟨D3, c3, h3, b3⟩ := turned_b h2 hg t
  go_wp2_with fail
  refine (push_any w3 _ _ _ _ _ _ _ _ 3 h3 (by simp)).mono ?_
  rintro e w4 ⟨rfl, t⟩
  obtain ⟨D4, c4, h4, b4⟩ := turned_b h3 hg t
  go_wp2_with fail
  refine (keep_any w4 _ _ _ _ _ _ _ _ 1 1 h4 (by simp) (by simp)).mono ?_
  rintro e w5 ⟨rfl, t⟩
  obtain ⟨D5, c5, h5, b5⟩ := turned_b h4 hg t
  go_wp2_with fail
  refine (values_any w5 _ _ _ _ _ _ _ _ h5 (by simp)).mono ?_
  rintro e w6 ⟨A, c6, rfl, hA, s6⟩
  go_wp2_with fail
  have hx : Reads (w6.alloc (.cells #[.int .u64 1, .int .u64 3] 27)) (fun k => blkOf A = some k) 1 A [1, 3].length (u64s [1, 3]) := by
    have := (Reads.of_own hA).step (F := fun _ => False) (Step.refl.alloc (.cells #[.int .u64 1, .int .u64 3] 27)) (fun _ _ => id)
    rwa [ownBlock_slice] at this
  refine (same_any _ _ _ _ _ c6 2 [1, 3] [1, 3] hx (reads_new w6 #[.int .u64 1, .int .u64 3] 27 1 2 rfl) (by simp) (by simp)).mono ?_
  rintro e w7 ⟨rfl, m, rfl⟩
  go_wp2_with fail
  go_ret
  refine ⟨rfl, below_drewN ?_ m⟩
  have b1 := s1.below w.heap.size (fun k _ h => h.elim) (Nat.le_refl _)
  have b6 := s6.below w.heap.size (fun k _ h => h.elim) h5.base
  exact (((((b1.trans b2).trans b3).trans b4).trans b5).trans b6).alloc (Nat.le_trans h5.base s6.size) _

theorem take_succ_u64 (vs : List Int) (k : Nat) (h : k < vs.length) : vs.take (k + 1) = vs.take k ++ [vs[k]] := List.take_succ_eq_append_getElem h

set_option maxRecDepth 100000 in
set_option maxHeartbeats 1600000 in
theorem keeps_walk (w : World) (A : Option Addr) (c : Nat) (vs : List Int) (a n : Int) (hv : Reads w (fun k => k < w.heap.size) 1 A vs.length (u64s vs)) (hc : vs.length ≤ c) (hc2 : c ≤ 9223372036854775807)
    (ha : -9223372036854775808 ≤ a) (ha2 : a ≤ 9223372036854775807) (hn1 : -9223372036854775808 ≤ n) (hn2 : n ≤ 9223372036854775807) :
    Calls Try.prog 3 #[.slice A vs.length c, .int .i64 a, .int .i64 n] w fun e w' => e = .returned (.bool true) ∧ Below w.heap.size w w' := by
  have hg := Nat.le_refl w.heap.size
  have hb : (true == false) = false := rfl
  by_cases h60 : (vs.length : Int) ≤ 60
  case neg =>
    have h60' : (60 : Int) < vs.length := by omega
    go_enter Try.func3, Try.ntmps3
    go_wp2_with fail
    refine (awake31 w).mono ?_
    rintro e w0 ⟨rfl, b0⟩
    go_wp2_with fail
    go_ret
    exact ⟨rfl, b0⟩
  have h60' : ¬ (60 : Int) < vs.length := by omega
  go_enter Try.func3, Try.ntmps3
  go_wp2_with fail
  refine (awake31 w).mono ?_
  rintro e w0 ⟨rfl, b0⟩
  go_wp2_with fail
  refine (new_any w0 1).mono ?_
  rintro e w1 ⟨rfl, h1, s1⟩
  have b1 : Below w.heap.size w w1 := b0.trans (s1.below w.heap.size (fun k _ h => h.elim) b0.size)
  have hg1 : w.heap.size ≤ w0.heap.size := b0.size
  have h1' : StAt w1 w.heap.size w0.heap.size none 0 [] (.slice none 0 0) (.slice none 0 0) 1 := ⟨h1.blk, own_base h1.own (fun k hk => by simp [Value.ownBlock] at hk), b1.size⟩
  obtain ⟨g, hgg⟩ : ∃ g, g = w0.heap.size := ⟨_, rfl⟩
  rw [← hgg] at h1' hg1
  rw [← hgg]
  clear hgg h1 s1 b0
  go_wp2_with fail
  go_loopw [8] (fun i wr => ∃ (k : Nat) (D : Option Addr) (c' : Nat), k ≤ vs.length ∧ i = .int .i64 k ∧ StAt wr w.heap.size g D c' (vs.take k) (.slice none 0 0) (.slice none 0 0) 1 ∧ Below w.heap.size w wr) (fun i _ => vs.length - (intOf i).toNat)
  case atStart => exact ⟨0, none, 0, Nat.zero_le _, rfl, h1', b1⟩
  case round =>
    obtain ⟨k, D, c', hk, rfl, hs, bel⟩ := hrel
    clear h1' b1
    by_cases hlt : k < vs.length
    · obtain ⟨ad, u, rfl, hlw, _, hu, hcell⟩ := hv.at_ hlt
      rw [u64s_get _ _ hlt] at hu
      obtain rfl := Option.some.inj hu
      have hcell' := (bel.cell (p := ad.add k) (by rw [add_block]; exact hlw)).trans hcell
      have i0 : (0 : Int) ≤ (k : Int) := by omega
      have i1 : (k : Int) < (vs.length : Int) := by omega
      have HS : Hid (vs.take (k + 1) = vs.take k ++ [vs[k]]) := take_succ_u64 vs k hlt
      clear hv hcell
      go_wp2_with fail
      refine (push_any wr _ _ _ _ _ _ _ _ vs[k] hs (by simp; omega)).mono ?_
      rintro e w2 ⟨rfl, t⟩
      obtain ⟨D2, c2, h2, b2⟩ := turned_b hs hg1 t
      go_wp2_with fail
      go_roundw
      case rel => exact ⟨k + 1, D2, c2, by omega, by go_num, by rw [HS.out]; exact h2, bel.trans b2⟩
      case measure => simp [intOf]; omega
    · obtain rfl : k = vs.length := by omega
      rw [List.take_length] at hs
      by_cases bad : a < 0 ∨ n < 0 ∨ (vs.length : Int) < a ∨ (vs.length : Int) - a < n
      · have hcc : a < 0 ∨ ¬ a < 0 ∧ n < 0 ∨ ¬ a < 0 ∧ ¬ n < 0 ∧ (vs.length : Int) < a ∨ ¬ a < 0 ∧ ¬ n < 0 ∧ ¬ (vs.length : Int) < a ∧ (vs.length : Int) - a < n := by omega
        rcases hcc with h1 | ⟨h1, h2⟩ | ⟨h1, h2, h3⟩ | ⟨h1, h2, h3, h4⟩
        all_goals
          go_wp2_with fail
          refine (keep_fails wr _ _ _ _ _ _ _ _ a n hs (by omega) (by omega) ha hn2).mono ?_
          rintro e w' ⟨rfl, rfl⟩
          go_wp2_with fail
          refine (values_any wr _ _ _ _ _ _ _ _ hs (by omega)).mono ?_
          rintro e w6 ⟨A6, c6, rfl, hA, s6⟩
          have b6 := bel.trans (s6.below w.heap.size (fun k _ h => h.elim) hs.base)
          have hv6 : Reads w6 (fun k => k < w.heap.size) 1 A vs.length (u64s vs) := hv.step (F := fun k => w.heap.size ≤ k) (b6.step') (fun k h => by omega)
          go_wp2_with fail
          refine (same_eq _ _ _ _ _ c6 c vs (Reads.of_own hA) hv6 (by omega)).mono ?_
          rintro e w7 ⟨rfl, m, rfl⟩
          go_wp2_with fail
          go_ret
          exact ⟨rfl, below_drewN b6 m⟩
      · obtain ⟨a', rfl⟩ := Int.eq_ofNat_of_zero_le (show 0 ≤ a by omega)
        obtain ⟨n', rfl⟩ := Int.eq_ofNat_of_zero_le (show 0 ≤ n by omega)
        have h1 : ¬ (a' : Int) < 0 := by omega
        have h2 : ¬ (n' : Int) < 0 := by omega
        have h3 : ¬ (vs.length : Int) < (a' : Int) := by omega
        have h4 : ¬ (vs.length : Int) - (a' : Int) < (n' : Int) := by omega
        have hw := IntWalk.i64_in ((vs.length : Int) - (a' : Int)) (by omega)
        have hw2 := IntWalk.i64_in ((vs.length : Int) - (n' : Int)) (by omega)
        go_wp2_with fail
        refine (keep_any wr _ _ _ _ _ _ _ _ a' n' hs (by omega) (by omega)).mono ?_
        rintro e w5 ⟨rfl, t⟩
        obtain ⟨D5, c5, h5, b5⟩ := turned_b hs hg1 t
        obtain ⟨zs, hzs⟩ : ∃ zs, zs = vs.take a' ++ vs.drop (vs.length - n') := ⟨_, rfl⟩
        rw [← hzs] at h5
        have bel5 := bel.trans b5
        have hv5 : Reads w5 (fun k => k < w.heap.size) 1 A vs.length (u64s vs) := hv.step (F := fun k => w.heap.size ≤ k) (bel5.step') (fun k h => by omega)
        have sl := slice_hn E_u64 A vs.length c .i64 (a' : Int) a' rfl (by omega)
        have sh := slice_ln E_u64 A vs.length c .i64 ((vs.length : Int) - (n' : Int)) (vs.length - n') n' (c - (vs.length - n')) (by omega) (by omega) (by omega) rfl
        have hone1 := u64s_one (vs.take a')
        have hone2 := u64s_one (vs.drop (vs.length - n'))
        have hm1 : 0 + a' ≤ maxLen := by unfold maxLen; omega
        have hm2 : 0 + a' + n' ≤ maxLen := by unfold maxLen; omega
        have hrd1 : Hid (∀ W, Step (fun _ => False) w5 W → Reads W (fun k => k < w.heap.size) 1 A a' (u64s (vs.take a'))) := fun W hW => by
          have := (hv5.step hW (fun _ _ => id)).take (k := a') (by omega)
          rwa [Nat.mul_one, ← u64s_take] at this
        have hrd2 : Hid (∀ W, Step (fun _ => False) w5 W → Reads W (fun k => k < w.heap.size) 1 (cutA A c (vs.length - n') 1) n' (u64s (vs.drop (vs.length - n')))) := fun W hW => by
          have := (hv5.step hW (fun _ _ => id)).cut (k := vs.length - n') (cap := c) (by omega) hc
          rw [show vs.length - (vs.length - n') = n' by omega, Nat.mul_one, ← u64s_drop] at this
          simpa [cutA] using this
        have hst : Hid (∀ W, Step (fun _ => False) w5 W → StAt W w.heap.size g D5 c5 zs (.slice none 0 0) (.slice none 0 0) 1) := fun W hW => h5.step hW
        clear hv hv5 hs h5 t
        go_wp2_with fail
        have HE1 : Hid (0 + a' + n' = zs.length) := by unfold Hid; rw [hzs]; simp; omega
        have HE4 : Hid (a' + n' = 0 + a' + n') := by unfold Hid; omega
        have HE2 : zs.length ≤ 1000000 := by rw [hzs]; simp; omega
        have HE3 : Hid ([] ++ u64s (vs.take a') ++ u64s (vs.drop (vs.length - n')) = u64s zs) := by unfold Hid; rw [hzs]; simp [u64s_append]
        clear hzs
        have tok1 : Hid (0 = 0) := rfl
        have hsz5 : w5.heap.size < (w5.alloc (.cells #[] 27)).heap.size := by simp
        have hO0 : (w5.alloc (.cells #[] 27)).drew.ownsRow w5.heap.size 27 1 (.slice (some ⟨w5.heap.size, 0, none⟩) 0 0) 0 [] := own_drew (own_fresh 1 (Nat.le_refl _))
        go_region_held3 (fun w' => Step (fun _ => False) w5 w') (first | assumption | exact Step.refl.drew | exact (Step.refl.alloc _).drew | exact Step.alloc (by assumption) _ | exact Step.trans (by assumption) s6 | exact Step.drewN (by assumption) _)
          (first
            | (go_at_call 19; refine (values_any _ _ _ _ _ _ _ _ _ (hst.out _ (by assumption)) HE2).mono ?_; rintro e w6 ⟨A6, c6, rfl, hA, s6⟩)
            | (go_at_call 18; refine (same_eq' _ _ _ _ _ _ _ _ _ zs _ _ _ _ (Reads.of_own hA2) (Reads.of_own hown2) rfl HE3.out rfl HE1.out rfl HE4.out HE2).mono ?_; rintro e w7 ⟨rfl, m, rfl⟩)
            | (have _g := tok1; (with_reducible have _o : Step (fun _ => False) w5.drew w6 := s6); refine step_append_new (w0 := w5) (by rfl) _ _ (by rfl) E_u64 (by assumption) (by rfl) (n := 0) (xs := []) (by first | exact own_drew (own_fresh 1 (Nat.le_refl _)) | exact own_below (own_drew (own_fresh 1 (Nat.le_refl _))) s6 | exact own_fresh 1 s6.size) (by rfl) (hrd1.out _ (by assumption)) hone1 hm1 (by omega) ?_; intro D1 c1 W1 hown1 hS1 hgrow1 hat1; have hSep := sep_new hA (Nat.le_refl _); have hA1 := own_apart (hA.alloc _) hgrow1 hSep; have hSep2 := sep_hat hSep (hA.alloc _) (Nat.le_refl _) hat1; clear tok1)
            | (have _g := tok1; refine step_append_new (w0 := w5) (by rfl) _ _ (by rfl) E_u64 (by assumption) (by rfl) (n := 0) (xs := []) (by exact own_below hO0 s6) (by rfl) (hrd1.out _ (by assumption)) hone1 hm1 (by omega) ?_; intro D1 c1 W1 hown1 hS1 hgrow1 hat1; have hSep := sep_old (g := w5.heap.size) hA (by simp); have hA1 := own_apart hA hgrow1 hSep; have hSep2 := sep_hat hSep hA (Nat.le_refl _) hat1; clear tok1)
            | (have _g := hA1; refine step_append_new (w0 := w5) (by rfl) _ _ (by rfl) E_u64 (by assumption) (by rfl) (by exact hown1) (by rfl) (hrd2.out _ (by assumption)) hone2 hm2 (by omega) ?_; intro D2 c2 W2 hown2 hS2 hgrow2 hat2; have hA2 := own_apart hA1 hgrow2 hSep2))
        all_goals go_wp2_with fail
        all_goals go_ret
        all_goals exact ⟨rfl, bel5.trans (Step.below (F := fun _ => False) (by assumption) w.heap.size (fun _ _ h => h.elim) bel5.size)⟩

theorem reads_ints {w : World} {x : Addr} {len cap : Nat} {zs : List Int} (hl : len ≤ cap) (hz : zs.length = cap) (hcell : ∀ i, i < zs.length → w.cell? (x.add i) = some (.int .u64 (zs.getD i 0))) :
    Reads w (fun k => k < w.heap.size) 1 (some x) len (u64s (zs.take len)) := by
  refine ⟨by simp [u64s]; omega, fun hn => ⟨x, rfl, ?_, ?_, fun j u hu => ?_⟩⟩
  · have := World.block_lt_of_cell? w _ (hcell 0 (by omega)); rwa [add_block] at this
  · have := World.block_lt_of_cell? w _ (hcell 0 (by omega)); rwa [add_block] at this
  · have hj : j < len := by
      have := (List.getElem?_eq_some_iff.1 hu).1
      simp [u64s] at this
      omega
    rw [hcell j (by omega)]
    simp [u64s, hj, List.getElem?_take] at hu
    rcases hu with ⟨y, hy, rfl⟩
    simp [List.getD, hy]
end Go.Proofs.Ytfechgpdlabgaaa
