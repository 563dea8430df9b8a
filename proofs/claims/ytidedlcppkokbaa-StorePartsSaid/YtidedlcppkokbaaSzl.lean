/-
  store: the law StoreParts (printed by gen_law30p.py).
-/
import Derived.Test.YtidedlcppkokbaaSzp
import Derived.Deep.DeepCutAuto
set_option linter.unusedVariables false
set_option linter.unusedSimpArgs false
namespace Go.Proofs.Ytidedlcppkokbaa
open Go.RowKit

set_option maxRecDepth 100000 in
set_option maxHeartbeats 12800000 in
theorem parts_walk (w : World) (p m q0 r t0 t1 : Int) (n0 n1 : Nat) (h0 : n0 < 65536) (h1 : n1 < 65536) :
    Calls Try.prog 3 #[.agg #[.int .i64 p, .int .i64 m, .int .i64 q0, .int .i64 r], .agg #[.int .u16 (n0 : Int), .int .u16 (n1 : Int)], .agg #[.int .i64 t0, .int .i64 t1]] w fun e w' => e = .returned (.bool true) ∧ Step (fun k => w.heap.size ≤ k) w w' := by
  have hB1 := Blk.new w 23 #[.int .i64 p, .int .i64 m, .int .i64 q0, .int .i64 r]
  have hB2 := Blk.new (w.alloc (.cells #[.int .i64 p, .int .i64 m, .int .i64 q0, .int .i64 r] 23)) 25 #[.int .u16 (n0 : Int), .int .u16 (n1 : Int)]
  have hB3 := Blk.new ((w.alloc (.cells #[.int .i64 p, .int .i64 m, .int .i64 q0, .int .i64 r] 23)).alloc (.cells #[.int .u16 (n0 : Int), .int .u16 (n1 : Int)] 25)) 26 #[.int .i64 t0, .int .i64 t1]
  have hB1b := (hB1.alloc (.cells #[.int .u16 (n0 : Int), .int .u16 (n1 : Int)] 25)).alloc (.cells #[.int .i64 t0, .int .i64 t1] 26)
  have hB2b := hB2.alloc (.cells #[.int .i64 t0, .int .i64 t1] 26)
  rw [show (w.alloc (.cells #[.int .i64 p, .int .i64 m, .int .i64 q0, .int .i64 r] 23)).heap.size = w.heap.size + 1 by simp] at hB2b
  rw [show ((w.alloc (.cells #[.int .i64 p, .int .i64 m, .int .i64 q0, .int .i64 r] 23)).alloc (.cells #[.int .u16 (n0 : Int), .int .u16 (n1 : Int)] 25)).heap.size = w.heap.size + 1 + 1 by simp] at hB3
  have hal : Step (fun _ => False) w (((w.alloc (.cells #[.int .i64 p, .int .i64 m, .int .i64 q0, .int .i64 r] 23)).alloc (.cells #[.int .u16 (n0 : Int), .int .u16 (n1 : Int)] 25)).alloc (.cells #[.int .i64 t0, .int .i64 t1] 26)) := ((Step.refl.alloc _).alloc _).alloc _
  obtain ⟨W0, hW0⟩ : ∃ W0, W0 = ((w.alloc (.cells #[.int .i64 p, .int .i64 m, .int .i64 q0, .int .i64 r] 23)).alloc (.cells #[.int .u16 (n0 : Int), .int .u16 (n1 : Int)] 25)).alloc (.cells #[.int .i64 t0, .int .i64 t1] 26) := ⟨_, rfl⟩
  rw [← hW0] at hal hB1b hB2b hB3
  have HW0 := Lib.hid hW0
  have HA0 := Lib.hid (awake30 W0)
  have HAL := Lib.hid hal
  have HB1 := Lib.hid hB1b
  have HB2 := Lib.hid hB2b
  have HB3 := Lib.hid hB3
  clear hB1 hB2 hB1b hB2b hB3 hW0 hal
  obtain ⟨g1, hg1⟩ : ∃ g1, g1 = w.heap.size := ⟨_, rfl⟩
  obtain ⟨g2, hg2⟩ : ∃ g2, g2 = w.heap.size + 1 := ⟨_, rfl⟩
  obtain ⟨g3, hg3⟩ : ∃ g3, g3 = w.heap.size + 1 + 1 := ⟨_, rfl⟩
  rw [← hg3] at HB3
  rw [← hg2] at HB2
  rw [← hg1] at HB1
  have HG1 := Lib.hid hg1
  have HG2 := Lib.hid hg2
  have HG3 := Lib.hid hg3
  have HG3b : Hid (g3 = w.heap.size + 2) := hg3
  clear hg1 hg2 hg3
  go_enter Try.func3, Try.ntmps3
  go_wp2_with fail
  first | rw [← HG3.out] | rw [← HG3b.out]
  rw [← HG2.out, ← HG1.out, ← HW0.out]
  refine HA0.out.mono ?_
  rintro e W1 ⟨rfl, hS⟩
  have HS1 := Lib.hid (HAL.out.trans hS)
  have HC1 := Lib.hid (HB1.out.step hS id)
  have HC2 := Lib.hid (HB2.out.step hS id)
  have HC3 := Lib.hid (HB3.out.step hS id)
  clear hS HB1 HB2 HB3 HAL HA0 HW0 HG1 HG2 HG3 HG3b
  have y0 := HC2.out.cell 0
  have y1 := HC2.out.cell 1
  simp at y0 y1
  obtain ⟨k, hk⟩ : ∃ k, k = n1 % 64 := ⟨_, rfl⟩
  have hk64 : k < 64 := by omega
  have wk : (n1 : Int) % 64 = (k : Int) := by omega
  have wk2 : wrap64 (k : Int) = (k : Int) := by unfold wrap64; omega
  have HU0 : Hid ((W1.alloc (.cells #[] 5)).ownsRow W1.heap.size 5 1 (.slice (some ⟨W1.heap.size, 0, none⟩) 0 0) 0 (u8s (upto 0))) := World.ownsRow_made W1 #[] 0 (Nat.le_refl _) (by decide) rfl
  clear hk
  go_wp2_with fail
  go_loopw [8, 9] (fun dv iv wr => ∃ (j c : Nat) (D : Option Addr), j ≤ k ∧ dv = .slice D j c ∧ iv = .int .i64 (j : Int) ∧ Hid (wr.ownsRow W1.heap.size 5 1 (.slice D j c) j (u8s (upto j))) ∧ Hid (Step (fun _ => False) W1 wr)) (fun _ iv _ => k - (intOf iv).toNat)
  case atStart => exact ⟨0, 0, some ⟨W1.heap.size, 0, none⟩, by omega, rfl, rfl, HU0.out, Step.refl.alloc _⟩
  case round =>
    obtain ⟨j, c, D, hj, rfl, rfl, HO, HS⟩ := hrel
    clear HU0 y0 y1
    have HC2r := Lib.hid (HC2.out.step HS.out id)
    have y1 := HC2r.out.cell 1
    simp at y1
    by_cases hlt : j < k
    · have g1' : (j : Int) < (k : Int) := by omega
      have hw1 := IntWalk.i64_in ((j : Int) + 1) (by omega)
      have hw8 : IntKind.u8.wrap ((j : Int) + 1) = (j : Int) + 1 := by rw [Go.IntKind.wrap_u8]; omega
      have hm1 : j + 1 ≤ maxLen := by unfold maxLen; omega
      have hone : ∀ u ∈ #[Value.int .u8 ((j : Int) + 1)].toList, u.oneCell' = true := by simp [Value.oneCell']
      have hsz := HS.out.size
      go_wp2_with (at_builtin; refine wpList_append_src _ rfl _ _ (by rfl) E_u8 (by rfl) (HO.out.alloc _) (by rfl) (reads_new wr #[.int .u8 ((j : Int) + 1)] 5 1 1 rfl) hone hm1 (by omega) (by simp; omega) ?_; intro D' c' w1 hown1 hgrow hat)
      go_roundw
      case rel => exact ⟨j + 1, c', D', by omega, rfl, by rw [Int.natCast_add]; rfl, by
        show w1.ownsRow _ _ _ _ _ _
        rw [upto_succ j (by omega)]
        exact hown1, grow_step (HS.out.alloc _) hgrow (HO.out.alloc _) (Nat.le_refl _)⟩
      case measure => first | (simp [intOf]; done) | (simp [intOf]; omega)
    · obtain rfl : j = k := by omega
      have g0' : ¬ (j : Int) < (j : Int) := by omega
      have HR := Lib.hid (Reads.of_own HO.out)
      have HC1r := Lib.hid (HC1.out.step HS.out id)
      have HC3r := Lib.hid (HC3.out.step HS.out id)
      have HS2 := Lib.hid (HS1.out.trans HS.out)
      have HOr := HO
      clear hlt HC1 HC2 HC3 hj HS HO
      have x0 := HC1r.out.cell 0
      have x1 := HC1r.out.cell 1
      have x2 := HC1r.out.cell 2
      have x3 := HC1r.out.cell 3
      simp at x0 x1 x2 x3
      have gl : decide (100 < (j : Int)) = false := decide_eq_false (by omega)
      have gln : decide (100 < j) = false := decide_eq_false (by omega)
      have HSw : Hid (Step (fun k => w.heap.size ≤ k) w wr) := HS2.out.mono fun _ _ e => e.elim
      by_cases c1 : 4 < p ∧ p ≤ m
      · have c1a : decide (4 < p) = true := decide_eq_true c1.1
        have c1b : decide (p ≤ m) = true := decide_eq_true c1.2
        clear c1
        go_wp2_with fail
        go_ret
        exact ⟨rfl, HSw.out⟩
      by_cases c2 : 100 < q0 ∧ q0 ≤ r
      · have c2a : decide (100 < q0) = true := decide_eq_true c2.1
        have c2b : decide (q0 ≤ r) = true := decide_eq_true c2.2
        by_cases c1c : 4 < p
        · have c1a : decide (4 < p) = true := decide_eq_true c1c
          have c1b : decide (p ≤ m) = false := decide_eq_false (by omega)
          clear c1 c2
          go_wp2_with fail
          go_ret
          exact ⟨rfl, HSw.out⟩
        · have c1a : decide (4 < p) = false := decide_eq_false c1c
          clear c1 c2
          go_wp2_with fail
          go_ret
          exact ⟨rfl, HSw.out⟩
      go_upto_region 8 with fail
      go_cut [64] (fun s64 wx => s64 = .bool false ∧ wx = wr)
      case first =>
        by_cases c1a : 4 < p
        · have c1a' : decide (4 < p) = true := decide_eq_true c1a
          have c1b' : decide (p ≤ m) = false := decide_eq_false (by omega)
          by_cases c2a : 100 < q0
          · have c2a' : decide (100 < q0) = true := decide_eq_true c2a
            have c2b' : decide (q0 ≤ r) = false := decide_eq_false (by omega)
            clear c1 c2 c1a c2a
            go_wp2_with fail
            go_meet
            exact ⟨rfl, rfl⟩
          · have c2a' : decide (100 < q0) = false := decide_eq_false c2a
            clear c1 c2 c1a c2a
            go_wp2_with fail
            go_meet
            exact ⟨rfl, rfl⟩
        · have c1a' : decide (4 < p) = false := decide_eq_false c1a
          by_cases c2a : 100 < q0
          · have c2a' : decide (100 < q0) = true := decide_eq_true c2a
            have c2b' : decide (q0 ≤ r) = false := decide_eq_false (by omega)
            clear c1 c2 c1a c2a
            go_wp2_with fail
            go_meet
            exact ⟨rfl, rfl⟩
          · have c2a' : decide (100 < q0) = false := decide_eq_false c2a
            clear c1 c2 c1a c2a
            go_wp2_with fail
            go_meet
            exact ⟨rfl, rfl⟩
      case rest =>
        obtain ⟨rfl, rfl⟩ := hcut
        by_cases z0 : p < 0
        · have z0' : decide (p < 0) = true := decide_eq_true z0
          have HE := Lib.hid (snew_err wc p m q0 r (by omega))
          go_wp2_with fail
          refine HE.out.mono ?_
          rintro e W5 ⟨rfl, hS5⟩
          have HC1e := Lib.hid (HC1r.out.step hS5 id)
          have HSe : Hid (Step (fun k => w.heap.size ≤ k) w W5) := HSw.out.trans (hS5.mono fun _ _ e => e.elim)
          clear x0 x1 x2 x3 hS5
          have x0 := HC1e.out.cell 0
          have x1 := HC1e.out.cell 1
          have x2 := HC1e.out.cell 2
          have x3 := HC1e.out.cell 3
          simp at x0 x1 x2 x3
          go_wp2_with fail
          go_ret
          exact ⟨rfl, HSe.out⟩
        have z0' : decide (p < 0) = false := decide_eq_false z0
        by_cases z1 : m < p
        · have z1' : decide (m < p) = true := decide_eq_true z1
          have HE := Lib.hid (snew_err wc p m q0 r (by omega))
          go_wp2_with fail
          refine HE.out.mono ?_
          rintro e W5 ⟨rfl, hS5⟩
          have HC1e := Lib.hid (HC1r.out.step hS5 id)
          have HSe : Hid (Step (fun k => w.heap.size ≤ k) w W5) := HSw.out.trans (hS5.mono fun _ _ e => e.elim)
          clear x0 x1 x2 x3 hS5
          have x0 := HC1e.out.cell 0
          have x1 := HC1e.out.cell 1
          have x2 := HC1e.out.cell 2
          have x3 := HC1e.out.cell 3
          simp at x0 x1 x2 x3
          go_wp2_with fail
          go_ret
          exact ⟨rfl, HSe.out⟩
        have z1' : decide (m < p) = false := decide_eq_false z1
        by_cases z2 : 256 < m
        · have z2' : decide (256 < m) = true := decide_eq_true z2
          have HE := Lib.hid (snew_err wc p m q0 r (by omega))
          go_wp2_with fail
          refine HE.out.mono ?_
          rintro e W5 ⟨rfl, hS5⟩
          have HC1e := Lib.hid (HC1r.out.step hS5 id)
          have HSe : Hid (Step (fun k => w.heap.size ≤ k) w W5) := HSw.out.trans (hS5.mono fun _ _ e => e.elim)
          clear x0 x1 x2 x3 hS5
          have x0 := HC1e.out.cell 0
          have x1 := HC1e.out.cell 1
          have x2 := HC1e.out.cell 2
          have x3 := HC1e.out.cell 3
          simp at x0 x1 x2 x3
          go_wp2_with fail
          go_ret
          exact ⟨rfl, HSe.out⟩
        have z2' : decide (256 < m) = false := decide_eq_false z2
        by_cases z3 : q0 < 0
        · have z3' : decide (q0 < 0) = true := decide_eq_true z3
          have HE := Lib.hid (snew_err wc p m q0 r (by omega))
          go_wp2_with fail
          refine HE.out.mono ?_
          rintro e W5 ⟨rfl, hS5⟩
          have HC1e := Lib.hid (HC1r.out.step hS5 id)
          have HSe : Hid (Step (fun k => w.heap.size ≤ k) w W5) := HSw.out.trans (hS5.mono fun _ _ e => e.elim)
          clear x0 x1 x2 x3 hS5
          have x0 := HC1e.out.cell 0
          have x1 := HC1e.out.cell 1
          have x2 := HC1e.out.cell 2
          have x3 := HC1e.out.cell 3
          simp at x0 x1 x2 x3
          go_wp2_with fail
          go_ret
          exact ⟨rfl, HSe.out⟩
        have z3' : decide (q0 < 0) = false := decide_eq_false z3
        by_cases z4 : r < q0
        · have z4' : decide (r < q0) = true := decide_eq_true z4
          have HE := Lib.hid (snew_err wc p m q0 r (by omega))
          go_wp2_with fail
          refine HE.out.mono ?_
          rintro e W5 ⟨rfl, hS5⟩
          have HC1e := Lib.hid (HC1r.out.step hS5 id)
          have HSe : Hid (Step (fun k => w.heap.size ≤ k) w W5) := HSw.out.trans (hS5.mono fun _ _ e => e.elim)
          clear x0 x1 x2 x3 hS5
          have x0 := HC1e.out.cell 0
          have x1 := HC1e.out.cell 1
          have x2 := HC1e.out.cell 2
          have x3 := HC1e.out.cell 3
          simp at x0 x1 x2 x3
          go_wp2_with fail
          go_ret
          exact ⟨rfl, HSe.out⟩
        have z4' : decide (r < q0) = false := decide_eq_false z4
        by_cases z5 : 1048576 < r
        · have z5' : decide (1048576 < r) = true := decide_eq_true z5
          have HE := Lib.hid (snew_err wc p m q0 r (by omega))
          go_wp2_with fail
          refine HE.out.mono ?_
          rintro e W5 ⟨rfl, hS5⟩
          have HC1e := Lib.hid (HC1r.out.step hS5 id)
          have HSe : Hid (Step (fun k => w.heap.size ≤ k) w W5) := HSw.out.trans (hS5.mono fun _ _ e => e.elim)
          clear x0 x1 x2 x3 hS5
          have x0 := HC1e.out.cell 0
          have x1 := HC1e.out.cell 1
          have x2 := HC1e.out.cell 2
          have x3 := HC1e.out.cell 3
          simp at x0 x1 x2 x3
          go_wp2_with fail
          go_ret
          exact ⟨rfl, HSe.out⟩
        have z5' : decide (1048576 < r) = false := decide_eq_false z5
        obtain ⟨pn, rfl⟩ : ∃ pn : Nat, p = pn := ⟨p.toNat, by omega⟩
        obtain ⟨q, rfl⟩ : ∃ q : Nat, q0 = q := ⟨q0.toNat, by omega⟩
        have hp4 : pn ≤ 256 := by omega
        have HN := Lib.hid (snew_ok wc pn q m r wc.heap.size (by omega) (by omega) (by omega) (by omega) (Nat.le_refl _))
        clear c1 c2
        go_wp2_with fail
        refine HN.out.mono ?_
        rintro e W5 ⟨S, M, T, Fu, J, A, c5, At, ct, K, rfl, hst, hS5⟩
        have HC5 := Lib.hid (HC1r.out.step hS5 id)
        have hbt := HC3r.out.step hS5 id
        have HR5 := Lib.hid (HR.out.step hS5 (fun _ _ => id))
        obtain ⟨s, hP, hlt, hDA⟩ := pt_new hst hS5 HSw.out hbt HOr.out
        have HW := Lib.hid (pwrite w W5 _ S q (pn * 65536) g3 t0 t1 s n0 j c D _ hP hlt HR5.out hDA h0 hk64)
        clear hst x0 x1 x2 x3 HC1r HC3r HR hS5 HSw HN HOr HS2 HC2r y1 HS1 hbt hP hlt hDA HR5
        have x0 := HC5.out.cell 0
        have x1 := HC5.out.cell 1
        have x2 := HC5.out.cell 2
        have x3 := HC5.out.cell 3
        simp at x0 x1 x2 x3
        obtain ⟨v1, v2, v3, v4⟩ := parts_num h0 hk64 hp4
        obtain ⟨bi, gin⟩ : ∃ b : Bool, decide ((n0 : Int) + (j : Int) ≤ (pn : Int) * 65536) = b := ⟨_, rfl⟩
        have HBI := Lib.hid gin
        have H0 := Lib.hid h0
        have HJ := Lib.hid hk64
        clear z0 z1 z2 z3 z4 z5 hp4 h0 hk64
        go_upto_region 16 with fail
        clear x0 x1 x2 x3 HC5 gin v3 v4 z0' z1' z2' z3' z4' z5'
        go_wp2_with fail
        refine HW.out.mono ?_
        rintro e W6 ⟨f, s6, rfl, hP, hlt, hR, hor⟩
        have HRd := Lib.hid (pread w W6 _ S q _ g3 t0 t1 s6 n0 j f hP H0.out HJ.out hor)
        have HP := Lib.hid hP
        have HLT := Lib.hid hlt
        have HR6 := Lib.hid hR
        have m0 := hP.c0
        clear hP hlt hR hor HW
        go_wp2_with fail
        refine HRd.out.mono ?_
        rintro e W7 ⟨f', A', n', c', rfl, hS7, hor⟩
        have HP7 := Lib.hid (HP.out.quiet hS7)
        have HR7 := Lib.hid (HR6.out.step hS7 (fun _ _ => id))
        have HOR := Lib.hid hor
        clear hS7 hor HRd HP HR6 m0
        go_upto_region 18 with fail
        go_cut [163] (fun s163 wx => s163 = .bool false ∧ wx = W7)
        case first =>
          rcases HOR.out with ⟨hin, rfl, rfl, rfl, S', hrd⟩ | ⟨hin, rfl⟩
          · obtain rfl : bi = true := by rw [← HBI.out]; exact parts_in hin
            have hc1 := conv_bytes (c := c') hrd
            have hc2 := conv_bytes (c := c) HR7.out
            have hE : ((str (upto j)).toList == (str (upto j)).toList) = true := beq_self_eq_true _
            clear hin hrd HOR HBI
            go_wp2_with fail
            go_meet
            exact ⟨rfl, rfl⟩
          · obtain rfl : bi = false := by rw [← HBI.out]; exact parts_out hin
            clear hin HOR HBI
            go_wp2_with fail
            go_meet
            exact ⟨rfl, rfl⟩
        case rest =>
          obtain ⟨rfl, hw⟩ := hcut
          obtain rfl := hw.symm
          clear hw HOR HBI HR7
          have HS := Lib.hid (pset w W7 _ S q _ g3 t0 t1 s6 HP7.out HLT.out)
          have y0 := HP7.out.y0
          have y1 := HP7.out.y1
          go_wp2_with fail
          refine HS.out.mono ?_
          rintro e W9 ⟨f9, s9, rfl, hP9, hor⟩
          have HP9 := Lib.hid hP9
          have HOR := Lib.hid hor
          clear hP9 hor y0 y1 HS HP7 HLT
          have x1 := HP9.out.c1
          have y0 := HP9.out.y0
          have d1 := cls_cell (F := fun _ => False) (w0 := W9) x1 id
          have e0 := cls_cell (F := fun _ => False) (w0 := W9) y0 id
          go_upto_region 21 with fail
          refine Mix.wp_region_mix [6] [6] (Step (fun _ => False) W9) (by kernel_rfl) (by kernel_rfl) Step.refl.drew (fun hcls => ?_)
          refine Mix.wpL_reads 6 (by rfl) ?_
          simp only [List.take_succ_cons, List.drop_succ_cons, List.take_zero, List.drop_zero]
          repeat (go_big_quiet_step (fail))
          refine wpQuiet_nil ?_
          refine Mix.wpL_op (by rfl) (fun K hK => ?_)
          go_simp
          refine (pslot w W9.drew _ S q _ g3 t0 t1 s9 f9 (HP9.out.quiet Step.refl.drew) HOR.out).mono ?_
          rintro e W10 ⟨x, ok, rfl, hw, hans⟩
          obtain rfl := hw.symm
          refine hK _ _ (fun hlt => Mix.cl Step.refl.drew) ?_
          have HANS := Lib.hid hans
          clear hK K hw hans
          refine Mix.wpL_reads 5 (by rfl) ?_
          simp only [List.take_succ_cons, List.drop_succ_cons, List.take_zero, List.drop_zero]
          repeat (go_big_quiet_step (fail))
          refine wpQuiet_nil ?_
          refine Mix.wpL_end ?_
          clear d1 e0 x1 y0 hcls
          have HLOW := Lib.hid (HP9.out.quiet Step.refl.drew).low
          have y1 := (HP9.out.quiet Step.refl.drew).y1
          clear HP9 HOR
          rcases HANS.out with ⟨rfl, rfl⟩ | ⟨rfl, hx, rfl, rfl⟩ | ⟨rfl, hx, rfl, rfl⟩
          · clear HANS
            go_wp2_with fail
            go_ret
            exact ⟨rfl, HLOW.out⟩
          · have hx' : decide (t1 < -1) = true := decide_eq_true hx
            clear HANS hx
            go_wp2_with fail
            go_ret
            exact ⟨rfl, HLOW.out⟩
          · have hx' : decide (t1 < -1) = false := decide_eq_false (by omega)
            have hx2 : decide (-1 ≤ t1) = true := decide_eq_true (by omega)
            have hx3 : (t1 == t1) = true := beq_self_eq_true _
            clear HANS hx
            go_wp2_with fail
            go_ret
            exact ⟨rfl, HLOW.out⟩
end Go.Proofs.Ytidedlcppkokbaa
