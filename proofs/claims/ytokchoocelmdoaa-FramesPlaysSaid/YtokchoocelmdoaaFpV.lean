/-
  FramesPlays: the law's walk.
-/
import Derived.Test.YtokchoocelmdoaaFpU
set_option linter.unusedVariables false
set_option linter.unusedSimpArgs false
namespace Go.Proofs.Ytokchoocelmdoaa
open Go.RowKit

/-- A turn of the values, seen from a bound that all its blocks lie above. -/
theorem turned_b {w w' : World} {B g : Nat} {D : Option Addr} {c : Nat} {xs ys : List Int} {labels frames : Value} {most : Int} (h : StAt w B g D c xs labels frames most) (hg : B ≤ g)
    (t : Turned w B g D labels frames most ys w') : ∃ D' c', StAt w' B g D' c' ys labels frames most ∧ Below B w w' := by
  obtain ⟨D', c', h', s, _⟩ := t
  refine ⟨D', c', h', s.below B (fun k _ hk => ?_) h.base⟩
  rcases hk with rfl | hk
  · exact hg
  · exact own_ge h.own k (by rw [ownBlock_slice]; exact hk)

set_option maxRecDepth 100000 in
set_option maxHeartbeats 1600000 in
theorem awake31 (w : World) : Calls Try.prog 4 #[] w fun e w' => e = .returned (.bool true) ∧ Below w.heap.size w w' := by
  have hg := Nat.le_refl w.heap.size
  go_enter Try.func4, Try.ntmps4
  go_wp2_with fail
  refine (new_any w 2).mono ?_
  rintro e w1 ⟨rfl, h1, s1⟩
  go_wp2_with fail
  refine (push_any w1 _ _ _ _ [] _ _ _ 1 h1 (by simp)).mono ?_
  rintro e w2 ⟨rfl, t⟩
  obtain ⟨D2, c2, h2, b2⟩ := turned_b h1 hg t
  go_wp2_with fail
  refine (push_any w2 _ _ _ _ _ _ _ _ 2 h2 (by simp)).mono ?_
  rintro e w3 ⟨rfl, t⟩
  obtain ⟨D3, c3, h3, b3⟩ := turned_b h2 hg t
  go_wp2_with fail
  refine (push_any w3 _ _ _ _ _ _ _ _ 3 h3 (by simp)).mono ?_
  rintro e w4 ⟨rfl, t⟩
  obtain ⟨D4, c4, h4, b4⟩ := turned_b h3 hg t
  go_wp2_with fail
  refine (keep_any w4 _ _ _ _ _ _ _ _ 1 1 h4 (by simp) (by simp)).mono ?_
  rintro e w5 ⟨rfl, t⟩
  obtain ⟨D5, c5, h5, b5⟩ := turned_b h4 hg t
  go_wp2_with fail
  refine (values_any w5 _ _ _ _ _ _ _ _ h5 (by simp)).mono ?_
  rintro e w6 ⟨A, c6, rfl, hA, s6⟩
  go_wp2_with fail
  have hx : Reads (w6.alloc (.cells #[.int .u64 1, .int .u64 3] 28)) (fun k => blkOf A = some k) 1 A [1, 3].length (u64s [1, 3]) := by
    have := (Reads.of_own hA).step (F := fun _ => False) (Step.refl.alloc (.cells #[.int .u64 1, .int .u64 3] 28)) (fun _ _ => id)
    rwa [ownBlock_slice] at this
  refine (same_any _ _ _ _ _ c6 2 [1, 3] [1, 3] hx (reads_new w6 #[.int .u64 1, .int .u64 3] 28 1 2 rfl) (by simp) (by simp)).mono ?_
  rintro e w7 ⟨rfl, m, rfl⟩
  go_wp2_with fail
  go_ret
  refine ⟨rfl, below_drewN ?_ m⟩
  have b1 := s1.below w.heap.size (fun k _ h => h.elim) (Nat.le_refl _)
  have b6 := s6.below w.heap.size (fun k _ h => h.elim) h5.base
  exact (((((b1.trans b2).trans b3).trans b4).trans b5).trans b6).alloc (Nat.le_trans h5.base s6.size) _


/-- A call. -/
structure FOp where
  k : Int
  n : Int
  v : Int
  st : Int
  dst : Int
instance : Inhabited FOp := ⟨⟨0, 0, 0, 0, 0⟩⟩
def FOp.cells (o : FOp) : List Value := [.int .i64 o.k, .int .i64 o.n, .int .u64 o.v, .int .i64 o.st, .int .i64 o.dst]
theorem FOp.len (o : FOp) : o.cells.length = 5 := rfl
def fops (l : List FOp) : List Value := l.flatMap FOp.cells
theorem vals_cnt (l : List It) : (valsI l).length = cntI 0 l := by
  rw [valsI, List.length_map, cntI, List.countP_eq_length_filter]
section
variable {w w1 w2 w' : World} {I I' : Nat → Prop} {g c : Nat} {A : Option Addr} {l l' : List It} {fs fs' : List Fm} {most : Int}
theorem sta_top (H : Sta w I g A c l most) (hz : l.length ≤ 1000) : Calls Try.prog 15 #[.pointer (some ⟨g, 0, none⟩)] w fun e w' => (∃ p, e = .returned (.pointer p) ∧ ((cntI 2 l = 0 ∧ p = none) ∨ (cntI 2 l ≠ 0 ∧ ∃ q, p = some q))) ∧ Step (fun _ => False) w w' := by
  obtain ⟨fs, hf⟩ := H.fst
  have hfl := hf.flen H.good
  have hfl2 := hf.len H.good
  rcases Nat.eq_zero_or_pos fs.length with h0 | hp
  · obtain rfl : fs = [] := List.length_eq_zero_iff.1 h0
    refine (fs_top_none hf.1).mono ?_
    rintro e w' ⟨rfl, rfl⟩
    exact ⟨⟨none, rfl, .inl ⟨by rw [← hfl]; rfl, rfl⟩⟩, Step.refl⟩
  · obtain ⟨⟨D1, c1, D2, c2, D3, c3, h, hI⟩, _⟩ := hf
    obtain ⟨gf, rfl, _, _⟩ := h.fcell (k := 0) hp
    refine (fsat_top h hp (by omega)).mono ?_
    rintro e w' ⟨rfl, hs⟩
    exact ⟨⟨_, rfl, .inr ⟨by omega, _, rfl⟩⟩, hs⟩
theorem sta_len (H : Sta w I g A c l most) : Calls Try.prog 8 #[.pointer (some ⟨g, 0, none⟩)] w fun e w' => e = .returned (.int .i64 (cntI 0 l : Int)) ∧ w = w' := by
  obtain ⟨fs, hf⟩ := H.fst
  have := fs_len hf.1
  rwa [vals_cnt] at this
theorem sta_depth (H : Sta w I g A c l most) : Calls Try.prog 10 #[.pointer (some ⟨g, 0, none⟩)] w fun e w' => e = .returned (.int .i64 (cntI 2 l : Int)) ∧ w = w' := by
  obtain ⟨fs, hf⟩ := H.fst
  have := fs_depth hf.1
  rwa [hf.flen H.good] at this
theorem sta_blocks (H : Sta w I g A c l most) : Calls Try.prog 11 #[.pointer (some ⟨g, 0, none⟩)] w fun e w' => e = .returned (.int .i64 (cntI 1 l : Int)) ∧ w = w' := by
  obtain ⟨fs, hf⟩ := H.fst
  have := fs_blocks hf.1
  rwa [labsI_length] at this
theorem sta_values (H : Sta w I g A c l most) (hz : l.length ≤ 1000) : Calls Try.prog 13 #[.pointer (some ⟨g, 0, none⟩)] w (Copied w (valsI l)) := by
  obtain ⟨fs, hf⟩ := H.fst
  exact fs_values hf.1 (by have := vals_len (l := l); omega)
end
set_option maxRecDepth 100000 in
set_option maxHeartbeats 6400000 in
theorem plays31_walk (w : World) (most : Int) (A : Option Addr) (cc : Nat) (ops : List FOp) (hv : Reads w (fun k => k < w.heap.size) 5 A ops.length (fops ops)) (hc : ops.length ≤ cc) (hc2 : cc ≤ 9223372036854775807) :
    Calls Try.prog 3 #[.int .i64 most, .slice A ops.length cc] w fun e w' => e = .returned (.bool true) ∧ Below w.heap.size w w' := by
  by_cases h60 : (ops.length : Int) ≤ 60
  case neg =>
    have h60' : decide ((60 : Int) < ops.length) = true := decide_eq_true (by omega)
    have h61' : decide (60 < ops.length) = true := decide_eq_true (by omega)
    clear hv
    go_enter Try.func3, Try.ntmps3
    go_wp2_with fail
    refine (awake31 w).mono ?_
    rintro e w0 ⟨rfl, b0⟩
    go_wp2_with fail
    go_ret
    exact ⟨rfl, b0⟩
  have h60' : decide ((60 : Int) < ops.length) = false := decide_eq_false (by omega)
  have h61' : decide (60 < ops.length) = false := decide_eq_false (by omega)
  by_cases hm : most ≤ 100
  case neg =>
    have hm' : decide (100 < most) = true := decide_eq_true (by omega)
    clear hv
    go_enter Try.func3, Try.ntmps3
    go_wp2_with fail
    refine (awake31 w).mono ?_
    rintro e w0 ⟨rfl, b0⟩
    go_wp2_with fail
    go_ret
    exact ⟨rfl, b0⟩
  have hm' : decide (100 < most) = false := decide_eq_false (by omega)
  have HAW := Lib.hid (awake31 w)
  go_enter Try.func3, Try.ntmps3
  go_wp2_with fail
  refine HAW.out.mono ?_
  rintro e w0 ⟨rfl, b0⟩
  go_wp2_with fail
  refine (new_any w0 most).mono ?_
  rintro e w1 ⟨rfl, h1, s1⟩
  have B1 := Lib.hid (b0.trans (s1.below w.heap.size (fun k _ h => h.elim) b0.size))
  have hg1 : w.heap.size ≤ w0.heap.size := b0.size
  obtain ⟨g, hgg⟩ : ∃ g, g = w0.heap.size := ⟨_, rfl⟩
  rw [← hgg] at h1 hg1 ⊢
  have HST : Hid (Sta w1 (FI g none none none) g none 0 [] most) := ⟨⟨[], ⟨⟨none, 0, none, 0, none, 0, ⟨⟨h1.blk, World.ownsRow_nil _ _ _ _, Nat.zero_le _⟩, World.ownsRow_nil _ _ _ _, World.ownsRow_nil _ _ _ _⟩, fun _ => Iff.rfl⟩, rfl⟩⟩, World.ownsRow_nil _ _ _ _, fun x hx => by simp at hx⟩
  clear hgg h1 s1 b0 HAW
  go_wp2_with fail
  go_loopw [6, 7] (fun lv i wr => ∃ (k c : Nat) (A' : Option Addr) (l : List It) (I : Nat → Prop), k ≤ ops.length ∧ l.length ≤ k ∧ lv = .slice A' l.length c ∧ i = .int .i64 (k : Int) ∧ Hid (Sta wr I g A' c l most) ∧ Hid (∀ j, (I j ∨ blkOf A' = some j) → w.heap.size ≤ j) ∧ Hid (Below w.heap.size w wr)) (fun _ i _ => ops.length - (intOf i).toNat)
  case atStart => exact ⟨0, 0, none, [], FI g none none none, Nat.zero_le _, Nat.le_refl _, rfl, rfl, HST.out, fun j hj => by
    rcases hj with (rfl | hj | hj | hj) | hj
    · exact hg1
    all_goals simp [blkOf] at hj, B1.out⟩
  case round =>
    obtain ⟨k, c, A', l, I, hk, hlk, rfl, rfl, H, hI, bel⟩ := hrel
    clear HST B1
    by_cases hlt : k < ops.length
    · obtain ⟨b, off, rfl, hbw, _, hcell⟩ := reads_cells FOp.cells 5 (by decide) FOp.len (hv.step bel.out.step' (fun k h e => by omega)) (k := k) hlt
      have c0 := hcell 0 _ rfl
      rw [Nat.add_zero] at c0
      have c1 := hcell 1 _ rfl
      have c2 := hcell 2 _ rfl
      have c3 := hcell 3 _ rfl
      have c4 := hcell 4 _ rfl
      have hbr : b < wr.heap.size := Nat.lt_of_lt_of_le hbw bel.out.size
      have i0 : (0 : Int) ≤ (k : Int) := by omega
      have i1 : (k : Int) < (ops.length : Int) := by omega
      have w2 := IntWalk.i64_in ((k : Int) + 1) (by omega)
      generalize ops[k].k = ok at *
      generalize ops[k].n = on at *
      generalize ops[k].v = ov at *
      generalize ops[k].st = ost at *
      generalize ops[k].dst = odst at *
      have HLW := Lib.hid (low_walk (c := c) (n := on) (v := ov) (st := ost) (dst := odst) ok (Reads.of_own H.out.own) (own_cap H.out.own) H.out.good (by omega))
      clear hcell
      go_wp2_with fail
      refine HLW.out.mono ?_
      rintro e W ⟨lb, rfl, hs, hok⟩
      have HS := Lib.hid hs
      have x0 := (hs.cell (p := ⟨b, off + k * 5, none⟩) hbr id).trans c0
      have x1 := (hs.cell (p := ⟨b, off + k * 5 + 1, none⟩) hbr id).trans c1
      have x2 := (hs.cell (p := ⟨b, off + k * 5 + 2, none⟩) hbr id).trans c2
      have x3 := (hs.cell (p := ⟨b, off + k * 5 + 3, none⟩) hbr id).trans c3
      have x4 := (hs.cell (p := ⟨b, off + k * 5 + 4, none⟩) hbr id).trans c4
      have HB := Lib.hid (bel.out.trans (hs.below w.heap.size (fun _ _ h => h.elim) bel.out.size))
      clear hs c0 c1 c2 c3 c4 HLW
      cases lb with
      | false =>
        clear x0 x1 x2 x3 x4
        go_wp2_with fail
        go_roundw
        case rel => exact ⟨k + 1, c, A', l, I, by omega, by omega, rfl, by go_num, H.out.quiet HS.out, hI.out, HB.out⟩
        case measure => first | (simp [intOf]; done) | (simp [intOf]; omega)
      | true =>
        have HD := Lib.hid (do_any (v := ov) (st := ost) (dst := odst) ok (hok rfl) (H.out.quiet HS.out) (by omega))
        clear hok
        go_wp2_with fail
        refine HD.out.mono ?_
        rintro e U ⟨l', hl', A2, c2, I2, rfl, hh, u⟩
        have H2 := Lib.hid hh
        have HB2 := Lib.hid (HB.out.trans (u.below hI.out HB.out.size))
        have HI2 := Lib.hid (u.ge hI.out HB.out.size)
        have hlz : l'.length ≤ 1000 := by omega
        have hR := Reads.of_own hh.own
        have HC0 := Lib.hid (r_count (c := c2) 0 hR (by omega))
        have HC2 := Lib.hid (r_count (c := c2) 2 hR (by omega))
        have HC1 := Lib.hid (r_count (c := c2) 1 hR (by omega))
        clear hh u hR HD x0 x1 x2 x3 x4 HB
        go_wp2_with fail
        refine (sta_len H2.out).mono ?_
        rintro e X ⟨rfl, hw⟩
        obtain rfl := hw
        go_wp2_with fail
        refine HC0.out.mono ?_
        rintro e X ⟨rfl, hw⟩
        obtain rfl := hw.symm
        clear hw
        go_wp2_with fail
        refine (sta_depth H2.out).mono ?_
        rintro e X ⟨rfl, hw⟩
        obtain rfl := hw
        go_wp2_with fail
        refine HC2.out.mono ?_
        rintro e X ⟨rfl, hw⟩
        obtain rfl := hw.symm
        clear hw
        go_wp2_with fail
        refine (sta_blocks H2.out).mono ?_
        rintro e X ⟨rfl, hw⟩
        obtain rfl := hw
        go_wp2_with fail
        refine HC1.out.mono ?_
        rintro e X ⟨rfl, hw⟩
        obtain rfl := hw.symm
        clear hw HC0 HC1 HC2
        go_wp2_with fail
        refine (sta_values H2.out hlz).mono ?_
        rintro e X ⟨Ap, cp, rfl, hvp, hs3⟩
        have H3 := Lib.hid (H2.out.quiet hs3)
        have S3 := Lib.hid hs3
        have HVP := Lib.hid hvp
        clear hs3 hvp
        have HRV := Lib.hid (r_values (c := c2) (Reads.of_own H3.out.own) (by omega))
        go_wp2_with fail
        refine HRV.out.mono ?_
        rintro e Y ⟨Dr, cr, rfl, hvr, hs4⟩
        have H4 := Lib.hid (H3.out.quiet hs4)
        have S4 := Lib.hid (S3.out.trans hs4)
        have hvl := vals_len (l := l')
        have HSA := Lib.hid (same_eq Y _ _ Ap Dr cp cr (valsI l') ((Reads.of_own HVP.out).step hs4 (fun _ _ => id)) (Reads.of_own hvr) (by omega))
        clear hs4 hvr HVP HRV
        go_wp2_with fail
        refine HSA.out.mono ?_
        rintro e Z ⟨rfl, q, rfl⟩
        have H5 := Lib.hid (H4.out.quiet (Step.refl.drewN q))
        have S5 := Lib.hid (S4.out.drewN q)
        have HTP := Lib.hid (sta_top H5.out hlz)
        clear HSA
        go_wp2_with fail
        refine HTP.out.mono ?_
        rintro e T ⟨⟨p, rfl, hp⟩, hs6⟩
        have H6 := Lib.hid (H5.out.quiet hs6)
        have S6 := Lib.hid (S5.out.trans hs6)
        have HC3 := Lib.hid (r_count (c := c2) 2 (Reads.of_own H6.out.own) (by omega))
        have HB6 := Lib.hid (HB2.out.trans (S6.out.below w.heap.size (fun _ _ h => h.elim) HB2.out.size))
        have hc3 : (cntI 2 l' = 0 ∧ p = none ∧ ((cntI 2 l' : Int) == 0) = true) ∨ (((cntI 2 l' : Int) == 0) = false ∧ ∃ q, p = some q) := by
          rcases hp with ⟨e1, e2⟩ | ⟨e1, e2⟩
          · exact .inl ⟨e1, e2, by rw [e1]; rfl⟩
          · exact .inr ⟨beq_eq_false_iff_ne.2 (by omega), e2⟩
        clear hs6 hp HTP
        rcases hc3 with ⟨e1, rfl, e2⟩ | ⟨e2, q2, rfl⟩
        · have E1 := Lib.hid e1
          clear e1
          go_wp2_with fail
          refine HC3.out.mono ?_
          rintro e X2 ⟨rfl, hw⟩
          obtain rfl := hw.symm
          clear hw
          go_wp2_with fail
          go_roundw
          case rel => exact ⟨k + 1, c2, A2, l', I2, by omega, by omega, rfl, by go_num, H6.out, HI2.out, HB6.out⟩
          case measure => first | (simp [intOf]; done) | (simp [intOf]; omega)
        · go_wp2_with fail
          refine HC3.out.mono ?_
          rintro e X2 ⟨rfl, hw⟩
          obtain rfl := hw.symm
          clear hw
          go_wp2_with fail
          go_roundw
          case rel => exact ⟨k + 1, c2, A2, l', I2, by omega, by omega, rfl, by go_num, H6.out, HI2.out, HB6.out⟩
          case measure => first | (simp [intOf]; done) | (simp [intOf]; omega)
    · obtain rfl : k = ops.length := by omega
      have i1 : ¬ (ops.length : Int) < (ops.length : Int) := by omega
      go_wp2_with fail
      go_ret
      exact ⟨rfl, bel.out⟩
end Go.Proofs.Ytokchoocelmdoaa
