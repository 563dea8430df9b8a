/-
  consts: the law ConstsValues, its walk (first half).
-/
import Derived.Test.YtfemeendkjcffaaVaH
import Derived.OpenShut
set_option linter.unusedVariables false
set_option linter.unusedSimpArgs false
namespace Go.Proofs.Ytfemeendkjcffaa
open Go.RowKit

set_option maxRecDepth 100000 in
set_option maxHeartbeats 3200000 in
theorem cvals_walk (w : World) (op a b n c cc vt vn : Nat) (A B : Option Addr) (l : List (Nat × Bool)) (S : Nat → Prop) (hS : ∀ k, S k → k < w.heap.size) (hr : Reads w S 2 B l.length (l.flatMap gtC)) (hb : ∀ g ∈ l, g.1 < 256) (hop : op < 256) (ha : a < 18446744073709551616) (hvn : vn < 18446744073709551616) (hvt : vt < 256)
    (h1 : n ≤ 200) (h2 : l.length ≤ 100) :
    Calls Try.prog 7 #[.agg #[.int .u8 (op : Int), .int .u64 (a : Int), .int .u64 (b : Int), .slice A n c], .slice B l.length cc, .agg #[.int .u8 (vt : Int), .int .u64 (vn : Int)]] w fun e w' => e = .returned (.bool true) ∧ Step (fun _ => False) w w' := by
  obtain ⟨t, e0, x, f, HF⟩ := four op a b n c A l hop ha (by omega) hb
  have HF := Lib.hid HF
  have g1 : ¬ (200 : Int) < (n : Int) := by omega
  have g2 : ¬ (100 : Int) < (l.length : Int) := by omega
  clear h1
  go_enter Try.func7, Try.ntmps7
  go_wp2_with fail
  refine (awake08 _).mono ?_
  rintro e w5 ⟨rfl, hS5⟩
  have HB5 := Lib.hid (((Blk.new w 50 #[.int .u8 (op : Int), .int .u64 (a : Int), .int .u64 (b : Int), .slice A n c]).alloc (.cells #[.int .u8 (vt : Int), .int .u64 (vn : Int)] 63)).step hS5 id)
  have HV5 := Lib.hid ((Blk.new (w.alloc (.cells #[.int .u8 (op : Int), .int .u64 (a : Int), .int .u64 (b : Int), .slice A n c] 50)) 63 #[.int .u8 (vt : Int), .int .u64 (vn : Int)]).step hS5 id)
  have HS5 := Lib.hid (((Step.refl.alloc _).alloc _).trans hS5)
  rw [show (w.alloc (.cells #[.int .u8 (op : Int), .int .u64 (a : Int), .int .u64 (b : Int), .slice A n c] 50)).heap.size = w.heap.size + 1 by simp] at HV5
  clear hS5
  obtain ⟨X, hX⟩ : ∃ X, X = w.heap.size := ⟨_, rfl⟩
  rw [← hX] at HB5 HV5 ⊢
  have HX := Lib.hid hX
  clear hX
  have x3 := HB5.out.cell 3
  simp at x3
  have ho0 : w5.ownsRow w5.heap.size 63 2 (.slice none 0 0) 0 ((placed (l.take 0)).flatMap valC) := World.ownsRow_nil _ _ _ _
  go_wp2_with fail
  go_loopw [7, 8] (fun ov iv wr => ∃ (k c' : Nat) (D : Option Addr), k ≤ l.length ∧ ov = .slice D k c' ∧ iv = .int .i64 (k : Int) ∧ Hid (Step (fun _ => False) w5 wr) ∧ Hid (wr.ownsRow w5.heap.size 63 2 (.slice D k c') k ((placed (l.take k)).flatMap valC))) (fun _ iv _ => l.length + 1 - (intOf iv).toNat)
  case atStart => exact ⟨0, 0, none, by omega, rfl, rfl, Step.refl, ho0⟩
  case round =>
    obtain ⟨k, c', D, hk, rfl, rfl, HS, HO⟩ := hrel
    clear ho0
    have hsz := HS.out.size
    by_cases hlt : k < l.length
    · have hlt' : (k : Int) < (l.length : Int) := by omega
      have hw1 := IntWalk.i64_in ((k : Int) + 1) (by omega)
      have hw2 := IntWalk.u64_in (k : Int) (by omega)
      have hm : k + 1 ≤ maxLen := by unfold maxLen; omega
      obtain ⟨bb, off, rfl, _, hbl, hc⟩ := st_cells gtC 2 (by decide) (fun _ => rfl) (hr.step (HS5.out.trans HS.out) (fun _ _ => id)) hlt
      have HT : Hid ((placed (l.take (k + 1))).flatMap valC = (placed (l.take k)).flatMap valC ++ valC (l[k].1, k)) := by
        rw [Hid, placed_succ l k hlt, List.flatMap_append]
        simp
      generalize l[k] = g at *
      have c0 := hc 0 _ rfl
      simp only [Nat.add_zero] at c0
      clear hc
      have hone : ∀ u ∈ #[Value.int .u8 (g.1 : Int), .int .u64 (k : Int)].toList, u.oneCell' = true := by simp [Value.oneCell']
      go_wp2_with (at_builtin; refine wpList_append_src _ rfl _ _ (by rfl) E_val (by rfl) (HO.out.alloc _) (by rfl) (reads_new _ #[Value.int .u8 (g.1 : Int), .int .u64 (k : Int)] 63 2 1 rfl) hone hm (by omega) (by simp; omega) ?_; intro D' c8 w8 hown8 hgrow hat)
      have HS8 := Lib.hid (grow_step (HS.out.alloc _) hgrow (HO.out.alloc _) (Nat.le_refl _))
      have hcs : (placed (l.take k)).flatMap valC ++ #[Value.int .u8 (g.1 : Int), .int .u64 (k : Int)].toList = (placed (l.take (k + 1))).flatMap valC := by rw [HT.out]; rfl
      rw [hcs] at hown8
      exact ⟨⟨k + 1, c8, D', by omega, rfl, by rw [Int.natCast_add]; rfl, HS8, hown8⟩, by rw [show intOf (.int .i64 ((k : Int) + 1)) = ((k + 1 : Nat) : Int) from rfl, show intOf (.int .i64 (k : Int)) = (k : Int) from rfl]; omega⟩
    · obtain rfl : k = l.length := by omega
      rw [List.take_length] at HO
      have HB6 := Lib.hid (HB5.out.step HS.out id)
      have HV6 := Lib.hid (HV5.out.step HS.out id)
      have x0 := HB6.out.cell 0
      have x1 := HB6.out.cell 1
      have x2 := HB6.out.cell 2
      have x3 := HB6.out.cell 3
      simp at x0 x1 x2 x3
      go_wp2_with fail
      refine (HF.out.ty _ B cc S (fun k h => Nat.lt_of_lt_of_le (hS k h) (HS5.out.trans HS.out).size) (hr.step (HS5.out.trans HS.out) (fun _ _ => id))).mono ?_
      rintro e w9 ⟨rfl, hS9⟩
      have HO9 := Lib.hid (own_step HO.out hS9 (fun _ _ => id))
      have HB9 := Lib.hid (HB6.out.step hS9 id)
      have HV9 := Lib.hid (HV6.out.step hS9 id)
      have HS9 := Lib.hid ((HS5.out.trans HS.out).trans hS9)
      clear hS9 x0 x1 x2 x3 HB6 HV6
      have x0 := HB9.out.cell 0
      have x1 := HB9.out.cell 1
      have x2 := HB9.out.cell 2
      have x3 := HB9.out.cell 3
      simp at x0 x1 x2 x3
      go_wp2_with fail
      refine (HF.out.va _ D c' _ (Reads.of_own HO9.out)).mono ?_
      rintro e w10 ⟨rfl, hS10⟩
      have HO10 := Lib.hid ((own_step HO9.out hS10 (fun _ _ => id)).alloc (.cells #[.int .u8 (x.1 : Int), .int .u64 (x.2 : Int)] 63))
      have HB10 := Lib.hid ((HB9.out.step hS10 id).alloc (.cells #[.int .u8 (x.1 : Int), .int .u64 (x.2 : Int)] 63))
      have HV10 := Lib.hid ((HV9.out.step hS10 id).alloc (.cells #[.int .u8 (x.1 : Int), .int .u64 (x.2 : Int)] 63))
      have HY10 := Lib.hid (Blk.new w10 63 #[.int .u8 (x.1 : Int), .int .u64 (x.2 : Int)])
      have HS10 := Lib.hid ((HS9.out.trans hS10).alloc (.cells #[.int .u8 (x.1 : Int), .int .u64 (x.2 : Int)] 63))
      clear hS10 x0 x1 x2 x3 HB9 HV9 HO9 HS9
      obtain ⟨W, hW⟩ : ∃ W, W = w10.alloc (.cells #[.int .u8 (x.1 : Int), .int .u64 (x.2 : Int)] 63) := ⟨_, rfl⟩
      obtain ⟨Y, hY⟩ : ∃ Y, Y = w10.heap.size := ⟨_, rfl⟩
      rw [← hW] at HO10 HB10 HV10 HY10 HS10
      rw [← hY] at HY10
      have x0 := HB10.out.cell 0
      have x1 := HB10.out.cell 1
      have x2 := HB10.out.cell 2
      have x3 := HB10.out.cell 3
      simp at x0 x1 x2 x3
      rw [hW] at x0 x1 x2 x3
      simp only [valV]
      go_wp2_with fail
      rw [← hW, ← hY]
      refine (HF.out.rt _ B cc S (fun k h => Nat.lt_of_lt_of_le (hS k h) HS10.out.size) (hr.step HS10.out (fun _ _ => id))).mono ?_
      rintro e w11 ⟨rfl, hS11⟩
      have HO11 := Lib.hid (own_step HO10.out hS11 (fun _ _ => id))
      have HB11 := Lib.hid (HB10.out.step hS11 id)
      have HV11 := Lib.hid (HV10.out.step hS11 id)
      have HY11 := Lib.hid (HY10.out.step hS11 id)
      have HS11 := Lib.hid (HS10.out.trans hS11)
      clear hS11 x0 x1 x2 x3 HB10 HV10 HO10 HS10 HY10 hW hY
      have x0 := HB11.out.cell 0
      have x1 := HB11.out.cell 1
      have x2 := HB11.out.cell 2
      have x3 := HB11.out.cell 3
      simp at x0 x1 x2 x3
      go_wp2_with fail
      refine (HF.out.rv _ D c' _ (Reads.of_own HO11.out)).mono ?_
      rintro e w12 ⟨rfl, hS12⟩
      have HV12 := Lib.hid (HV11.out.step hS12 id)
      have HY12 := Lib.hid (HY11.out.step hS12 id)
      have HS12 := Lib.hid (HS11.out.trans hS12)
      clear hS12 x0 x1 x2 x3 HB11 HV11 HO11 HS11 HY11
      have y0 := HY12.out.cell 0
      have y1 := HY12.out.cell 1
      have v0 := HV12.out.cell 0
      have v1 := HV12.out.cell 1
      simp at y0 y1 v0 v1
      have hYl := HY12.out.lt
      have hVl := HV12.out.lt
      have hwt := IntWalk.i64_in (t : Int) (by have := HF.out.tb; omega)
      simp only [valV]
      go_wp2_with fail
      by_cases hk : vt = 127 ∨ vt = 126
      · obtain ⟨o, q, HOf, HVa, HCu⟩ : ∃ o q : Nat, Hid (∀ w, Calls Try.prog 45 #[.agg #[.int .u8 (vt : Int), .int .u64 (vn : Int)]] w fun e w' => e = .returned (.tuple #[.agg #[.int .u8 (o : Int), .int .u64 (q : Int), .int .u64 0, .slice none 0 0], .int .i64 0]) ∧ Step (fun _ => False) w w') ∧
            Hid (∀ w, Calls Try.prog 42 #[.agg #[.int .u8 (o : Int), .int .u64 (q : Int), .int .u64 0, .slice none 0 0], .slice none 0 0] w fun e w' => e = .returned (.tuple #[valV (vt, q), .int .i64 0]) ∧ Step (fun _ => False) w w') ∧
            Hid (∀ w, Calls Try.prog 46 #[.agg #[.int .u8 (vt : Int), .int .u64 (vn : Int)]] w fun e w' => e = .returned (valV (vt, q)) ∧ Step (fun _ => False) w w') := by
          rcases hk with rfl | rfl
          · refine ⟨65, vn % 4294967296, fun w => ?_, fun w => ?_, fun w => ?_⟩
            · have := cof_walk w 127 vn hvn
              rw [cofF, if_pos rfl] at this
              exact this
            · have := cvalue_ok w 65 (vn % 4294967296) 0 0 none none [] (fun _ => False) (.inr (.inl ⟨rfl, by omega⟩)) (by omega) (by decide) Reads.nil_
              rw [cvF, if_pos rfl] at this
              exact this
            · have := cut_walk w 127 vn
              rw [cutF, if_pos rfl] at this
              exact this
          · refine ⟨66, vn, fun w => ?_, fun w => ?_, fun w => ?_⟩
            · have := cof_walk w 126 vn hvn
              rw [cofF, if_neg (by decide), if_pos rfl] at this
              exact this
            · have := cvalue_ok w 66 vn 0 0 none none [] (fun _ => False) (.inr (.inr rfl)) hvn (by decide) Reads.nil_
              rw [cvF, if_neg (by decide), if_pos rfl] at this
              exact this
            · have := cut_walk w 126 vn
              rw [cutF, if_neg (by decide)] at this
              exact this
        refine (HOf.out _).mono ?_
        rintro e w13 ⟨rfl, hS13⟩
        have HV13 := Lib.hid ((HV12.out.alloc (.cells #[.int .u8 (x.1 : Int), .int .u64 (x.2 : Int)] 63)).step hS13 id)
        have HS13 := Lib.hid ((HS12.out.alloc (.cells #[.int .u8 (x.1 : Int), .int .u64 (x.2 : Int)] 63)).trans hS13)
        clear hS13 y0 y1 v0 v1
        have v0 := HV13.out.cell 0
        have v1 := HV13.out.cell 1
        simp at v0 v1
        have hVl13 := HV13.out.lt
        have hq1 : ((vt : Int) != 127 && (vt : Int) != 126) = false := by
          rcases hk with rfl | rfl <;> rfl
        have hqa : ((vt : Int) != 127) = false ∨ ((vt : Int) != 127) = true ∧ ((vt : Int) != 126) = false := by
          rcases hk with rfl | rfl
          · exact .inl rfl
          · exact .inr ⟨rfl, rfl⟩
        clear hk hq1
        rcases hqa with q1 | ⟨q1, q2⟩ <;>
        · go_wp2_with fail
          refine (HVa.out _).mono ?_
          rintro e w14 ⟨rfl, hS14⟩
          have HV14 := Lib.hid (((HV13.out.alloc (.cells #[.int .u8 (o : Int), .int .u64 (q : Int), .int .u64 0, .slice none 0 0] 50)).step hS14 id).alloc (.cells #[.int .u8 (vt : Int), .int .u64 (q : Int)] 63))
          have HZ14 := Lib.hid (Blk.new w14 63 #[.int .u8 (vt : Int), .int .u64 (q : Int)])
          have HS14 := Lib.hid (((HS13.out.alloc (.cells #[.int .u8 (o : Int), .int .u64 (q : Int), .int .u64 0, .slice none 0 0] 50)).trans hS14).alloc (.cells #[.int .u8 (vt : Int), .int .u64 (q : Int)] 63))
          clear hS14
          simp only [valV]
          go_wp2_with fail
          obtain ⟨W, hW⟩ : ∃ W, W = w14.alloc (.cells #[.int .u8 (vt : Int), .int .u64 (q : Int)] 63) := ⟨_, rfl⟩
          obtain ⟨Z, hZ⟩ : ∃ Z, Z = w14.heap.size := ⟨_, rfl⟩
          rw [← hW] at HV14 HZ14 HS14 ⊢
          rw [← hZ] at HZ14 ⊢
          have a0 := HV14.out.cell 0
          have a1 := HV14.out.cell 1
          have b0 := HZ14.out.cell 0
          have b1 := HZ14.out.cell 1
          simp at a0 a1 b0 b1
          have d0 := cls_cell (F := fun _ => False) (w0 := W) a0 id
          have d1 := cls_cell (F := fun _ => False) (w0 := W) a1 id
          have d2 := cls_cell (F := fun _ => False) (w0 := W) b0 id
          have d3 := cls_cell (F := fun _ => False) (w0 := W) b1 id
          clear a0 a1 b0 b1 hW hZ
          refine Mix.wp_region_mix [9] [9] (Step (fun _ => False) W) (by kernel_rfl) (by kernel_rfl) Step.refl.drew (fun hcls => ?_)
          refine Mix.wpL_reads 9 (by rfl) ?_
          simp only [List.take_succ_cons, List.drop_succ_cons, List.take_zero, List.drop_zero]
          repeat (go_big_quiet_step (fail))
          refine wpQuiet_nil ?_
          refine Mix.wpL_op (by rfl) (fun K hK => ?_)
          go_simp
          refine (HCu.out _).mono ?_
          rintro e w15 ⟨rfl, hS15⟩
          refine hK _ _ (fun hlt => Mix.cl (Step.refl.drew.trans hS15)) ?_
          clear hK K
          refine Mix.wpL_reads 3 (by rfl) ?_
          simp only [List.take_succ_cons, List.drop_succ_cons, List.take_zero, List.drop_zero]
          simp only [valV]
          repeat (go_big_quiet_step (fail))
          refine wpQuiet_nil ?_
          refine Mix.wpL_end ?_
          go_wp2_with fail
          go_ret
          exact ⟨rfl, HS14.out.trans (Step.refl.drew.trans hS15)⟩
      · have HOf := cof_walk (w12.alloc (.cells #[.int .u8 (x.1 : Int), .int .u64 (x.2 : Int)] 63)) vt vn hvn
        rw [cofF, if_neg (fun h => hk (.inl h)), if_neg (fun h => hk (.inr h))] at HOf
        refine HOf.mono ?_
        rintro e w13 ⟨rfl, hS13⟩
        have HV13 := Lib.hid ((HV12.out.alloc (.cells #[.int .u8 (x.1 : Int), .int .u64 (x.2 : Int)] 63)).step hS13 id)
        have HS13 := Lib.hid ((HS12.out.alloc (.cells #[.int .u8 (x.1 : Int), .int .u64 (x.2 : Int)] 63)).trans hS13)
        have q1 : ((vt : Int) != 127) = true := bne_iff_ne.2 (by omega)
        have q2 : ((vt : Int) != 126) = true := bne_iff_ne.2 (by omega)
        clear hS13 y0 y1 v0 v1 HOf
        have v0 := HV13.out.cell 0
        simp at v0
        have hVl13 := HV13.out.lt
        go_wp2_with fail
        refine (same_nil _ 0 0 0).mono ?_
        rintro e w14 ⟨rfl, hS14⟩
        go_wp2_with fail
        go_ret
        exact ⟨rfl, (HS13.out.alloc _).trans hS14⟩

set_option maxRecDepth 100000 in
set_option maxHeartbeats 1600000 in
theorem cvals_big (w : World) (op a b : Int) (n c m cc : Nat) (vt vn : Int) (A B : Option Addr) (h : (200 : Int) < n ∨ (¬ (200 : Int) < n ∧ (100 : Int) < m)) :
    Calls Try.prog 7 #[.agg #[.int .u8 op, .int .u64 a, .int .u64 b, .slice A n c], .slice B m cc, .agg #[.int .u8 vt, .int .u64 vn]] w fun e w' => e = .returned (.bool true) ∧ Step (fun _ => False) w w' := by
  rcases h with g1 | ⟨g1, g2⟩ <;>
  · go_enter Try.func7, Try.ntmps7
    go_wp2_with fail
    refine (awake08 _).mono ?_
    rintro e w5 ⟨rfl, hS5⟩
    have HB5 := Lib.hid (((Blk.new w 50 #[.int .u8 op, .int .u64 a, .int .u64 b, .slice A n c]).alloc (.cells #[.int .u8 vt, .int .u64 vn] 63)).step hS5 id)
    have HS5 := Lib.hid (((Step.refl.alloc _).alloc _).trans hS5)
    clear hS5
    obtain ⟨X, hX⟩ : ∃ X, X = w.heap.size := ⟨_, rfl⟩
    rw [← hX] at HB5 ⊢
    clear hX
    have x3 := HB5.out.cell 3
    simp at x3
    go_wp2_with fail
    go_ret
    exact ⟨rfl, HS5.out⟩

theorem cvals_done (W : World) (op a b n c cc vt vn : Nat) (A B : Option Addr) (l : List (Nat × Bool)) (hr : Reads W (fun k => k < W.heap.size) 2 B l.length (l.flatMap gtC)) (hb : ∀ g ∈ l, g.1 < 256) (hop : op < 256) (ha : a < 18446744073709551616) (hvn : vn < 18446744073709551616) (hvt : vt < 256) :
    Calls Try.prog 7 #[.agg #[.int .u8 (op : Int), .int .u64 (a : Int), .int .u64 (b : Int), .slice A n c], .slice B l.length cc, .agg #[.int .u8 (vt : Int), .int .u64 (vn : Int)]] W fun e W' => e = .returned (.bool true) ∧ Below W.heap.size W W' := by
  have key : Calls Try.prog 7 #[.agg #[.int .u8 (op : Int), .int .u64 (a : Int), .int .u64 (b : Int), .slice A n c], .slice B l.length cc, .agg #[.int .u8 (vt : Int), .int .u64 (vn : Int)]] W fun e W' => e = .returned (.bool true) ∧ Step (fun _ => False) W W' := by
    by_cases h1 : n ≤ 200
    · by_cases h2 : l.length ≤ 100
      · exact cvals_walk W op a b n c cc vt vn A B l _ (fun _ h => h) hr hb hop ha hvn hvt h1 h2
      · exact cvals_big W op a b n c l.length cc vt vn A B (.inr ⟨by omega, by omega⟩)
    · exact cvals_big W op a b n c l.length cc vt vn A B (.inl (by omega))
  exact key.mono fun _ _ hh => ⟨hh.1, hh.2.below W.heap.size (fun _ _ hf => hf.elim) (Nat.le_refl _)⟩

/-- A global's type out of the law's argument. -/
abbrev TG := { g : Nat × Bool // g.1 < 256 }
instance : Inhabited TG := ⟨⟨(0, false), by decide⟩⟩
section
variable {H : Type} {enc : TypeId × Value → H} {w : World} {base : Nat} {spare : Nat → Bool} {held : Bool}
theorem mk_gt (fs : Array Field) (hfs : Try.prog.underlying 66 = some (.struct fs)) (vs : List Value) (hl : vs.length = fs.size)
    (h : ∀ (j : Nat) (f : Field), fs[j]? = some f → ∃ (v : Value) (y : DataW H × List MemPlace) (n : Nat), vs[j]? = some v ∧ DataW.trod enc Try.prog w base spare held n f.type [v] = some y) : ∃ a : TG, vs = gtC a.1 := by
  rw [Try.underlying66] at hfs
  injection hfs with hfs
  injection hfs with hfs
  subst hfs
  match vs, hl with
  | [v0, v1], _ =>
    obtain ⟨_, y0, n0, e0, t0⟩ := h 0 _ rfl
    obtain ⟨_, y1, n1, e1, t1⟩ := h 1 _ rfl
    simp at e0 e1
    subst e0 e1
    obtain ⟨t, ht, _, wt⟩ := DataW.trod_int Try.underlying5 t0
    obtain ⟨m, hm, _⟩ := DataW.trod_bool Try.underlying4 t1
    simp at ht hm
    subst ht hm
    have h2 := Go.bounds_u8 wt
    exact ⟨⟨(t.toNat, m), by show t.toNat < 256; omega⟩, by simp [gtC]; omega⟩
end
end Go.Proofs.Ytfemeendkjcffaa
