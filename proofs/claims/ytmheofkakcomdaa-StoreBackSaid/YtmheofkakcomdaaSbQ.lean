/-
  store: Shot.
-/
import Derived.Test.YtmheofkakcomdaaSbP
import Derived.Test.YtmheofkakcomdaaMxh
import Derived.Deep.DeepCutAuto
import Derived.Deep.CutBlock
set_option linter.unusedVariables false
set_option linter.unusedSimpArgs false
namespace Go.Proofs.Ytmheofkakcomdaa
open Go.RowKit
theorem cls_cell3 {F : Nat → Prop} {w0 : World} {p : Addr} {v : Value} (hc : w0.cell? p = some v) (hF : ¬ F p.block) : ∀ i : Mif.Cls (Step F w0), i.val.cell? p = some v := fun i =>
  (i.prop.cell (World.block_lt_of_cell? _ _ hc) hF).trans hc
theorem sh_fin {w1 u W : World} {Y nt nv no c1 c2 c4 : Nat} {A1 A2 A4 : Option Addr} {l : List UInt8} {xs ys zs : List Value} (LY : w1.heap.size ≤ Y) (BY : Blk u Y 68 #[.string ⟨#[]⟩, .slice none 0 0, .slice none 0 0, .slice none 0 0, .slice none 0 0])
    (O1 : u.ownsRow w1.heap.size 3 1 (.slice A1 nt c1) nt xs) (O2 : u.ownsRow w1.heap.size 56 6 (.slice A2 nv c2) nv ys) (O4 : u.ownsRow w1.heap.size 3 1 (.slice A4 no c4) no zs) (st : Step (fun _ => False) w1 u)
    (hW : W = ((((u.setCell ⟨Y, 0, none⟩ (.string (str l))).setCell ⟨Y, 1, none⟩ (.slice A1 nt c1)).setCell ⟨Y, 2, none⟩ (.slice A2 nv c2)).setCell ⟨Y, 3, none⟩ (.slice none 0 0)).setCell ⟨Y, 4, none⟩ (.slice A4 no c4)) :
    w1.heap.size ≤ Y ∧ Blk W Y 68 #[.string (str l), .slice A1 nt c1, .slice A2 nv c2, .slice none 0 0, .slice A4 no c4] ∧ W.ownsRow w1.heap.size 3 1 (.slice A1 nt c1) nt xs ∧ W.ownsRow w1.heap.size 56 6 (.slice A2 nv c2) nv ys ∧ W.ownsRow w1.heap.size 3 1 (.slice A4 no c4) no zs ∧ Step (fun _ => False) w1 W := by
  have hs : Step (fun k => k = Y) u W := by
    rw [hW]
    exact ((((Step.setCell (F := fun k => k = Y) (p := ⟨Y, 0, none⟩) Step.refl (.inl rfl) _).setCell (p := ⟨Y, 1, none⟩) (.inl rfl) _).setCell (p := ⟨Y, 2, none⟩) (.inl rfl) _).setCell (p := ⟨Y, 3, none⟩) (.inl rfl) _).setCell (p := ⟨Y, 4, none⟩) (.inl rfl) _
  refine ⟨LY, ?_, own_step O1 hs (fun k hk e => own_tag O1 BY (by decide) (by rw [← e]; exact hk)), own_step O2 hs (fun k hk e => own_tag O2 BY (by decide) (by rw [← e]; exact hk)), own_step O4 hs (fun k hk e => own_tag O4 BY (by decide) (by rw [← e]; exact hk)), st.trans' hs (fun i hi => .inr (by rw [hi]; exact LY))⟩
  rw [hW]
  simpa using ((((BY.set_ 0 (.string (str l))).set_ 1 (.slice A1 nt c1)).set_ 2 (.slice A2 nv c2)).set_ 3 (.slice none 0 0)).set_ 4 (.slice A4 no c4)
theorem sh_round {w2 wr w5 : World} {Y nt nv no c1 c2 c4 j c' k' : Nat} {A1 A2 A4 D D' : Option Addr} {l : List UInt8} {T : List Int} {x : Int} (hs : Step (fun k => k = Y) w2 wr) (hBY : Blk wr Y 68 #[.string (str l), .slice A1 nt c1, .slice A2 nv c2, .slice D j c', .slice A4 no c4])
    (hown : wr.ownsRow w2.heap.size 3 1 (.slice D j c') j (i64s T)) (hgrow : (wr.alloc (.cells #[.int .i64 x] 3)).grownBy w5 (blkOf D)) (hown1 : w5.ownsRow w2.heap.size 3 1 (.slice D' (j + 1) k') (j + 1) (i64s T ++ [.int .i64 x])) :
    Step (fun k => k = Y) w2 (w5.setCell ⟨Y, 3, none⟩ (.slice D' (j + 1) k')) ∧ Blk (w5.setCell ⟨Y, 3, none⟩ (.slice D' (j + 1) k')) Y 68 #[.string (str l), .slice A1 nt c1, .slice A2 nv c2, .slice D' (j + 1) k', .slice A4 no c4] ∧
      (w5.setCell ⟨Y, 3, none⟩ (.slice D' (j + 1) k')).ownsRow w2.heap.size 3 1 (.slice D' (j + 1) k') (j + 1) (i64s (T ++ [x])) := by
  have hne : blkOf D ≠ some Y := by
    have := own_tag hown hBY (by decide)
    rwa [ownBlock_slice] at this
  have hb1 := (hBY.alloc (.cells #[.int .i64 x] 3)).grown hgrow hne
  have hg : Step (fun k => blkOf D = some k) wr w5 := (Step.refl.alloc _).grown hgrow (fun k hk => .inl hk)
  refine ⟨(hs.trans' hg (fun i hi => .inr (own_ge hown i (by rwa [ownBlock_slice])))).setCell (.inl rfl) _, by simpa using hb1.set_ 3 (.slice D' (j + 1) k'), ?_⟩
  rw [i64s_append]
  exact own_set hown1 (own_tag hown1 hb1 (by decide)) _
theorem sh_row {W : World} {base n c size lo : Nat} {t : TypeId} {A : Option Addr} {xs : List Value} (h : W.ownsRow base t size (.slice A n c) n xs) (hlo : lo ≤ base) : Reads W (fun k => lo ≤ k ∧ k < W.heap.size) size A n xs :=
  (Reads.of_own h).mono fun k _ hk => ⟨Nat.le_trans hlo (own_ge h k hk), own_lt h k hk⟩
set_option maxRecDepth 100000 in
set_option maxHeartbeats 6400000 in
theorem w_shot {w : World} {B : Nat} {r : Rc} {ow : List Int} (h : Ws w B r) (hr : Ris ow r.f) (hn : r.nn ≤ 1000) (hv : r.nv ≤ 1000) (hf : r.nf ≤ 1000) (ho : ow.length ≤ 1000) :
    Calls Try.prog 25 #[.pointer (some ⟨r.S, 0, none⟩)] w fun e w' => ∃ x : Sh, e = .returned (.agg #[.string (str x.l), .slice x.A1 x.n1 x.c1, .slice x.A2 x.n2 x.c2, .slice x.A3 x.n3 x.c3, .slice x.A4 x.n4 x.c4]) ∧ ShOk w' (fun k => w.heap.size ≤ k ∧ k < w'.heap.size) x r.ps ow ∧ Step (fun _ => False) w w' := by
  obtain ⟨V, hV⟩ : ∃ V, V = w.alloc (.cells #[.string ⟨#[]⟩, .slice none 0 0, .slice none 0 0, .slice none 0 0, .slice none 0 0] 68) := ⟨_, rfl⟩
  have st : Step (fun _ => False) w V := by rw [hV]; exact Step.refl.alloc _
  have HR := Lib.hid (Blk.new w 68 #[.string ⟨#[]⟩, .slice none 0 0, .slice none 0 0, .slice none 0 0, .slice none 0 0])
  rw [← hV] at HR
  have H := Lib.hid (h.quiet st)
  have S1 := Lib.hid st
  have S0 : Hid (w.heap.size < V.heap.size) := by rw [Hid, hV]; simp
  have HRI := Lib.hid hr
  have HIN : Hid (∀ k, r.foot k → k < w.heap.size) := h.in_
  obtain ⟨R, hR⟩ : ∃ R, R = w.heap.size := ⟨_, rfl⟩
  rw [← hR] at HR HIN S0
  clear h st hr
  go_enter Try.func25, Try.ntmps25
  go_upto_region 1 with fail
  rw [← hV, ← hR]
  clear hV
  have x0 := H.out.c0
  have d0 := cls_cell (F := fun _ => False) x0 id
  have HL := Lib.hid (fun u (t : Step (fun _ => False) V u) => m_len (H.out.quiet t).mm)
  have hrd : ∀ u, Step (fun _ => False) V u → Calls Try.prog 31 #[.pointer (some ⟨r.M, 0, none⟩), .int .u64 0, .int .i64 (r.n : Int)] u fun e w' => ∃ A' c', e = .returned (.tuple #[.slice A' r.n c', .int .i64 0]) ∧ w'.ownsRow u.heap.size 5 1 (.slice A' r.n c') r.n (u8s ((r.l.drop 0).take r.n)) ∧ Step (fun _ => False) u w' := fun u t => mread_ok u B r.M r.A r.n r.c r.most r.l 0 r.n (H.out.quiet t).mm (by omega)
  have HRD := Lib.hid hrd
  clear x0 hrd
  refine Mix.wp_region_mix [8, 9] [8, 9] (Step (fun _ => False) V) (by kernel_rfl) (by kernel_rfl) (Step.refl.drew) (fun hcls => ?_)
  refine Mix.wpL_reads 8 (by rfl) ?_
  simp only [List.take_succ_cons, List.drop_succ_cons, List.take_zero, List.drop_zero]
  repeat (go_big_quiet_step (fail))
  refine wpQuiet_nil ?_
  refine Mix.wpL_op (by rfl) (fun K hK => ?_)
  go_simp
  refine (HL.out _ Step.refl.drew).mono ?_
  rintro e w1 ⟨rfl, rfl⟩
  refine hK _ _ (fun hlt => Mix.cl (Step.refl.drew)) ?_
  clear hK K
  refine Mix.wpL_op (by rfl) (fun K hK => ?_)
  go_simp
  refine (HRD.out _ Step.refl.drew).mono ?_
  rintro e w1 ⟨A0, c0', rfl, hown, t1⟩
  have t1' : Step (fun _ => False) V w1 := Step.refl.drew.trans t1
  refine hK _ _ (fun hlt => Mix.cl (t1')) ?_
  clear hK K
  refine Mix.wpL_reads 5 (by rfl) ?_
  simp only [List.take_succ_cons, List.drop_succ_cons, List.take_zero, List.drop_zero]
  repeat (go_big_quiet_step (fail))
  refine wpQuiet_nil ?_
  refine Mix.wpL_end ?_
  have hll : (r.l.drop 0).take r.n = r.l := by rw [List.drop_zero, H.out.mm.len, List.take_length]
  rw [hll] at hown
  have HOW := Lib.hid hown
  replace H := Lib.hid (H.out.quiet t1')
  replace HR := Lib.hid (HR.out.step t1' id)
  replace S1 := Lib.hid (S1.out.trans t1')
  have HLE : Hid (R ≤ V.heap.size) := Nat.le_of_lt (Nat.lt_of_lt_of_le (by have := S0.out; exact this) (Nat.le_refl _))
  replace hR := Lib.hid hR
  clear hown t1 t1' hll HL HRD d0
  go_wp2_with fail
  have x1 := H.out.c1
  have x3 := H.out.c3
  have d1 := cls_cell3 (F := fun _ => False) x1 id
  have d3 := cls_cell3 (F := fun _ => False) x3 id
  have hcv : ∀ i : Mif.Cls (Step (fun _ => False) w1), (convert 39 9 (.slice A0 r.n c0')).run Try.prog i.val = .ok (.string (str r.l)) i.val := fun i => conv_bytes (c := c0') ((Reads.of_own HOW.out).step i.prop (fun _ _ => id))
  have TL := Lib.hid (fun u (t : Step (fun _ => False) w1 u) => t_list (H.out.quiet t).tb)
  have TC := Lib.hid (fun u (t : Step (fun _ => False) w1 u) => cl_vars u r.Av r.nv r.cv _ (vrs r.vs) (Reads.of_own (H.out.quiet t).vr) (by omega) (vrs_one _))
  have TO := Lib.hid (fun u (t : Step (fun _ => False) w1 u) => w_owners (H.out.quiet t) HRI.out hn)
  clear x1 x3
  go_cut [5] (fun u5 wq => ∃ (Y : Nat) (A1 A2 A4 : Option Addr) (c1 c2 c4 : Nat), u5 = .pointer (some ⟨Y, 0, none⟩) ∧ Hid (w1.heap.size ≤ Y ∧ Blk wq Y 68 #[.string (str r.l), .slice A1 r.nt c1, .slice A2 r.nv c2, .slice none 0 0, .slice A4 ow.length c4] ∧ wq.ownsRow w1.heap.size 3 1 (.slice A1 r.nt c1) r.nt (i64s r.lt) ∧ wq.ownsRow w1.heap.size 56 6 (.slice A2 r.nv c2) r.nv (vrs r.vs) ∧ wq.ownsRow w1.heap.size 3 1 (.slice A4 ow.length c4) ow.length (i64s ow) ∧ Step (fun _ => False) w1 wq))
  case first =>
    refine Mxg.wp_region_masks [6, 11, 13, 15, 16] [6, 11, 13, 15] (.reads [0, 1, 2, 3, 4, 5, 7, 8, 9, 10, 12] (.fork (.op 6 (.fork (.op 11 (.fork (.op 13 (.reads [14] (.op 15 (.op 16 .leaf)))) (.op 15 (.op 13 (.reads [14] (.op 16 .leaf)))))) (.op 15 (.op 11 (.op 13 (.reads [14] (.op 16 .leaf))))))) (.op 15 (.op 6 (.op 11 (.op 13 (.reads [14] (.op 16 .leaf)))))))) [0, 1, 0, 4, 12, 28, 60, 0, 128, 384, 896, 2044, 0, 8188, 16383, 0, 65535] (Step (fun _ => False) w1) (by kernel_rfl) (by kernel_rfl) (Step.refl.drew) (fun hcls => ?_)
    refine Mxg.wpTL_reads ?_
    simp only [List.flatMap_cons, List.flatMap_nil, List.getElem?_cons_succ, List.getElem?_cons_zero, Option.toList_some, List.cons_append, List.nil_append]
    repeat (go_big_quiet_step (fail))
    refine wpQuiet_nil ?_
    have st0 : Step (fun _ => False) w1 w1.drew := Step.refl.drew
    obtain ⟨v0, hv0⟩ : ∃ v0, v0 = w1.drew := ⟨_, rfl⟩
    rw [← hv0] at st0 ⊢
    clear hv0
    refine Mxg.wpTL_fork ?_ ?_
    · refine Mxg.wpTL_op (by rfl) (fun K hK => ?_)
      go_simp
      refine (TL.out _ st0).mono ?_
      rintro e v1 ⟨A1, c1, rfl, ho1, t1⟩
      have O1 := Lib.hid (own_base ho1 (base' := w1.heap.size) (fun q hq => Nat.le_trans st0.size (own_ge ho1 q hq)))
      have s1 := st0.trans t1
      refine hK _ _ (fun hlt => Mif.cl (s1)) ?_
      clear hK K
      clear ho1 t1
      refine Mxg.wpTL_fork ?_ ?_
      · refine Mxg.wpTL_op (by rfl) (fun K hK => ?_)
        go_simp
        refine (TC.out _ s1).mono ?_
        rintro e v2 ⟨A2, c2, rfl, ho2, t2⟩
        replace O1 := Lib.hid (own_below O1.out t2)
        have O2 := Lib.hid (own_base ho2 (base' := w1.heap.size) (fun q hq => Nat.le_trans s1.size (own_ge ho2 q hq)))
        have s2 := s1.trans t2
        refine hK _ _ (fun hlt => Mif.cl (s2)) ?_
        clear hK K
        clear ho2 t2
        refine Mxg.wpTL_fork ?_ ?_
        · refine Mxg.wpTL_op (by rfl) (fun K hK => ?_)
          go_simp
          refine (TO.out _ s2).mono ?_
          rintro e v3 ⟨A4, c4, rfl, ho3, t3⟩
          replace O1 := Lib.hid (own_below O1.out t3)
          replace O2 := Lib.hid (own_below O2.out t3)
          have O4 := Lib.hid (own_base ho3 (base' := w1.heap.size) (fun q hq => Nat.le_trans s2.size (own_ge ho3 q hq)))
          have s3 := s2.trans t3
          refine hK _ _ (fun hlt => Mif.cl (s3)) ?_
          clear hK K
          clear ho3 t3
          refine Mxg.wpTL_reads ?_
          simp only [List.flatMap_cons, List.flatMap_nil, List.getElem?_cons_succ, List.getElem?_cons_zero, Option.toList_some, List.cons_append, List.nil_append]
          repeat (go_big_quiet_step (fail))
          refine wpQuiet_nil ?_
          refine Mxg.wpTL_op (by rfl) (fun K hK => ?_)
          go_simp
          refine hK _ _ (fun hlt => Mif.cl (s3.alloc _)) ?_
          clear hK K
          obtain ⟨v4, hv4⟩ : ∃ u, u = v3.alloc (.cells #[.string ⟨#[]⟩, .slice none 0 0, .slice none 0 0, .slice none 0 0, .slice none 0 0] 68) := ⟨_, rfl⟩
          obtain ⟨Y, hY⟩ : ∃ Y, Y = v3.heap.size := ⟨_, rfl⟩
          have al : Step (fun _ => False) v3 v4 := by rw [hv4]; exact Step.refl.alloc _
          have BY := Lib.hid (Blk.new v3 68 #[.string ⟨#[]⟩, .slice none 0 0, .slice none 0 0, .slice none 0 0, .slice none 0 0])
          rw [← hv4, ← hY] at BY
          rw [← hv4, ← hY]
          have LY : w1.heap.size ≤ Y := by rw [hY]; exact s3.size
          replace O1 := Lib.hid (own_below O1.out al)
          replace O2 := Lib.hid (own_below O2.out al)
          replace O4 := Lib.hid (own_below O4.out al)
          have s4 := s3.trans al
          clear hv4 hY al
          have b0 := BY.out.cell 0
          have b1 := BY.out.cell 1
          have b2 := BY.out.cell 2
          have b3 := BY.out.cell 3
          have b4 := BY.out.cell 4
          simp at b0 b1 b2 b3 b4
          have f0 := BY.out.frozen 0
          have f1 := BY.out.frozen 1
          have f2 := BY.out.frozen 2
          have f3 := BY.out.frozen 3
          have f4 := BY.out.frozen 4
          refine Mxg.wpTL_op (by rfl) (fun K hK => ?_)
          go_simp
          refine hK _ _ (fun hlt => absurd hlt (by decide)) ?_
          clear hK K
          refine Mxg.wpTL_leaf ?_
          have HF := Lib.hid (sh_fin (l := r.l) LY BY.out O1.out O2.out O4.out s4 rfl)
          clear b0 b1 b2 b3 b4 f0 f1 f2 f3 f4
          go_wp2_with fail
          go_meet
          exact ⟨Y, A1, A2, A4, c1, c2, c4, rfl, HF.out⟩
        · refine Mxg.wpTL_op (by rfl) (fun K hK => ?_)
          go_simp
          refine hK _ _ (fun hlt => Mif.cl (s2.alloc _)) ?_
          clear hK K
          obtain ⟨v6, hv6⟩ : ∃ u, u = v2.alloc (.cells #[.string ⟨#[]⟩, .slice none 0 0, .slice none 0 0, .slice none 0 0, .slice none 0 0] 68) := ⟨_, rfl⟩
          obtain ⟨Y, hY⟩ : ∃ Y, Y = v2.heap.size := ⟨_, rfl⟩
          have al : Step (fun _ => False) v2 v6 := by rw [hv6]; exact Step.refl.alloc _
          have BY := Lib.hid (Blk.new v2 68 #[.string ⟨#[]⟩, .slice none 0 0, .slice none 0 0, .slice none 0 0, .slice none 0 0])
          rw [← hv6, ← hY] at BY
          rw [← hv6, ← hY]
          have LY : w1.heap.size ≤ Y := by rw [hY]; exact s2.size
          replace O1 := Lib.hid (own_below O1.out al)
          replace O2 := Lib.hid (own_below O2.out al)
          have s6 := s2.trans al
          clear hv6 hY al
          refine Mxg.wpTL_op (by rfl) (fun K hK => ?_)
          go_simp
          refine (TO.out _ s6).mono ?_
          rintro e v7 ⟨A4, c4, rfl, ho7, t7⟩
          replace O1 := Lib.hid (own_below O1.out t7)
          replace O2 := Lib.hid (own_below O2.out t7)
          replace BY := Lib.hid (BY.out.step t7 id)
          have O4 := Lib.hid (own_base ho7 (base' := w1.heap.size) (fun q hq => Nat.le_trans s6.size (own_ge ho7 q hq)))
          have s7 := s6.trans t7
          refine hK _ _ (fun hlt => Mif.cl (s7)) ?_
          clear hK K
          clear ho7 t7
          refine Mxg.wpTL_reads ?_
          simp only [List.flatMap_cons, List.flatMap_nil, List.getElem?_cons_succ, List.getElem?_cons_zero, Option.toList_some, List.cons_append, List.nil_append]
          repeat (go_big_quiet_step (fail))
          refine wpQuiet_nil ?_
          have b0 := BY.out.cell 0
          have b1 := BY.out.cell 1
          have b2 := BY.out.cell 2
          have b3 := BY.out.cell 3
          have b4 := BY.out.cell 4
          simp at b0 b1 b2 b3 b4
          have f0 := BY.out.frozen 0
          have f1 := BY.out.frozen 1
          have f2 := BY.out.frozen 2
          have f3 := BY.out.frozen 3
          have f4 := BY.out.frozen 4
          refine Mxg.wpTL_op (by rfl) (fun K hK => ?_)
          go_simp
          refine hK _ _ (fun hlt => absurd hlt (by decide)) ?_
          clear hK K
          refine Mxg.wpTL_leaf ?_
          have HF := Lib.hid (sh_fin (l := r.l) LY BY.out O1.out O2.out O4.out s7 rfl)
          clear b0 b1 b2 b3 b4 f0 f1 f2 f3 f4
          go_wp2_with fail
          go_meet
          exact ⟨Y, A1, A2, A4, c1, c2, c4, rfl, HF.out⟩
      · refine Mxg.wpTL_op (by rfl) (fun K hK => ?_)
        go_simp
        refine hK _ _ (fun hlt => Mif.cl (s1.alloc _)) ?_
        clear hK K
        obtain ⟨v9, hv9⟩ : ∃ u, u = v1.alloc (.cells #[.string ⟨#[]⟩, .slice none 0 0, .slice none 0 0, .slice none 0 0, .slice none 0 0] 68) := ⟨_, rfl⟩
        obtain ⟨Y, hY⟩ : ∃ Y, Y = v1.heap.size := ⟨_, rfl⟩
        have al : Step (fun _ => False) v1 v9 := by rw [hv9]; exact Step.refl.alloc _
        have BY := Lib.hid (Blk.new v1 68 #[.string ⟨#[]⟩, .slice none 0 0, .slice none 0 0, .slice none 0 0, .slice none 0 0])
        rw [← hv9, ← hY] at BY
        rw [← hv9, ← hY]
        have LY : w1.heap.size ≤ Y := by rw [hY]; exact s1.size
        replace O1 := Lib.hid (own_below O1.out al)
        have s9 := s1.trans al
        clear hv9 hY al
        refine Mxg.wpTL_op (by rfl) (fun K hK => ?_)
        go_simp
        refine (TC.out _ s9).mono ?_
        rintro e v10 ⟨A2, c2, rfl, ho10, t10⟩
        replace O1 := Lib.hid (own_below O1.out t10)
        replace BY := Lib.hid (BY.out.step t10 id)
        have O2 := Lib.hid (own_base ho10 (base' := w1.heap.size) (fun q hq => Nat.le_trans s9.size (own_ge ho10 q hq)))
        have s10 := s9.trans t10
        refine hK _ _ (fun hlt => Mif.cl (s10)) ?_
        clear hK K
        clear ho10 t10
        refine Mxg.wpTL_op (by rfl) (fun K hK => ?_)
        go_simp
        refine (TO.out _ s10).mono ?_
        rintro e v11 ⟨A4, c4, rfl, ho11, t11⟩
        replace O1 := Lib.hid (own_below O1.out t11)
        replace BY := Lib.hid (BY.out.step t11 id)
        replace O2 := Lib.hid (own_below O2.out t11)
        have O4 := Lib.hid (own_base ho11 (base' := w1.heap.size) (fun q hq => Nat.le_trans s10.size (own_ge ho11 q hq)))
        have s11 := s10.trans t11
        refine hK _ _ (fun hlt => Mif.cl (s11)) ?_
        clear hK K
        clear ho11 t11
        refine Mxg.wpTL_reads ?_
        simp only [List.flatMap_cons, List.flatMap_nil, List.getElem?_cons_succ, List.getElem?_cons_zero, Option.toList_some, List.cons_append, List.nil_append]
        repeat (go_big_quiet_step (fail))
        refine wpQuiet_nil ?_
        have b0 := BY.out.cell 0
        have b1 := BY.out.cell 1
        have b2 := BY.out.cell 2
        have b3 := BY.out.cell 3
        have b4 := BY.out.cell 4
        simp at b0 b1 b2 b3 b4
        have f0 := BY.out.frozen 0
        have f1 := BY.out.frozen 1
        have f2 := BY.out.frozen 2
        have f3 := BY.out.frozen 3
        have f4 := BY.out.frozen 4
        refine Mxg.wpTL_op (by rfl) (fun K hK => ?_)
        go_simp
        refine hK _ _ (fun hlt => absurd hlt (by decide)) ?_
        clear hK K
        refine Mxg.wpTL_leaf ?_
        have HF := Lib.hid (sh_fin (l := r.l) LY BY.out O1.out O2.out O4.out s11 rfl)
        clear b0 b1 b2 b3 b4 f0 f1 f2 f3 f4
        go_wp2_with fail
        go_meet
        exact ⟨Y, A1, A2, A4, c1, c2, c4, rfl, HF.out⟩
    · refine Mxg.wpTL_op (by rfl) (fun K hK => ?_)
      go_simp
      refine hK _ _ (fun hlt => Mif.cl (st0.alloc _)) ?_
      clear hK K
      obtain ⟨v13, hv13⟩ : ∃ u, u = v0.alloc (.cells #[.string ⟨#[]⟩, .slice none 0 0, .slice none 0 0, .slice none 0 0, .slice none 0 0] 68) := ⟨_, rfl⟩
      obtain ⟨Y, hY⟩ : ∃ Y, Y = v0.heap.size := ⟨_, rfl⟩
      have al : Step (fun _ => False) v0 v13 := by rw [hv13]; exact Step.refl.alloc _
      have BY := Lib.hid (Blk.new v0 68 #[.string ⟨#[]⟩, .slice none 0 0, .slice none 0 0, .slice none 0 0, .slice none 0 0])
      rw [← hv13, ← hY] at BY
      rw [← hv13, ← hY]
      have LY : w1.heap.size ≤ Y := by rw [hY]; exact st0.size
      have s13 := st0.trans al
      clear hv13 hY al
      refine Mxg.wpTL_op (by rfl) (fun K hK => ?_)
      go_simp
      refine (TL.out _ s13).mono ?_
      rintro e v14 ⟨A1, c1, rfl, ho14, t14⟩
      replace BY := Lib.hid (BY.out.step t14 id)
      have O1 := Lib.hid (own_base ho14 (base' := w1.heap.size) (fun q hq => Nat.le_trans s13.size (own_ge ho14 q hq)))
      have s14 := s13.trans t14
      refine hK _ _ (fun hlt => Mif.cl (s14)) ?_
      clear hK K
      clear ho14 t14
      refine Mxg.wpTL_op (by rfl) (fun K hK => ?_)
      go_simp
      refine (TC.out _ s14).mono ?_
      rintro e v15 ⟨A2, c2, rfl, ho15, t15⟩
      replace BY := Lib.hid (BY.out.step t15 id)
      replace O1 := Lib.hid (own_below O1.out t15)
      have O2 := Lib.hid (own_base ho15 (base' := w1.heap.size) (fun q hq => Nat.le_trans s14.size (own_ge ho15 q hq)))
      have s15 := s14.trans t15
      refine hK _ _ (fun hlt => Mif.cl (s15)) ?_
      clear hK K
      clear ho15 t15
      refine Mxg.wpTL_op (by rfl) (fun K hK => ?_)
      go_simp
      refine (TO.out _ s15).mono ?_
      rintro e v16 ⟨A4, c4, rfl, ho16, t16⟩
      replace BY := Lib.hid (BY.out.step t16 id)
      replace O1 := Lib.hid (own_below O1.out t16)
      replace O2 := Lib.hid (own_below O2.out t16)
      have O4 := Lib.hid (own_base ho16 (base' := w1.heap.size) (fun q hq => Nat.le_trans s15.size (own_ge ho16 q hq)))
      have s16 := s15.trans t16
      refine hK _ _ (fun hlt => Mif.cl (s16)) ?_
      clear hK K
      clear ho16 t16
      refine Mxg.wpTL_reads ?_
      simp only [List.flatMap_cons, List.flatMap_nil, List.getElem?_cons_succ, List.getElem?_cons_zero, Option.toList_some, List.cons_append, List.nil_append]
      repeat (go_big_quiet_step (fail))
      refine wpQuiet_nil ?_
      have b0 := BY.out.cell 0
      have b1 := BY.out.cell 1
      have b2 := BY.out.cell 2
      have b3 := BY.out.cell 3
      have b4 := BY.out.cell 4
      simp at b0 b1 b2 b3 b4
      have f0 := BY.out.frozen 0
      have f1 := BY.out.frozen 1
      have f2 := BY.out.frozen 2
      have f3 := BY.out.frozen 3
      have f4 := BY.out.frozen 4
      refine Mxg.wpTL_op (by rfl) (fun K hK => ?_)
      go_simp
      refine hK _ _ (fun hlt => absurd hlt (by decide)) ?_
      clear hK K
      refine Mxg.wpTL_leaf ?_
      have HF := Lib.hid (sh_fin (l := r.l) LY BY.out O1.out O2.out O4.out s16 rfl)
      clear b0 b1 b2 b3 b4 f0 f1 f2 f3 f4
      go_wp2_with fail
      go_meet
      exact ⟨Y, A1, A2, A4, c1, c2, c4, rfl, HF.out⟩
  case rest =>
    obtain ⟨Y, A1, A2, A4, c1, c2, c4, rfl, HY⟩ := hcut
    clear TL TC TO hcv d1 d3 HOW
    have HW := Lib.hid (H.out.quiet HY.out.2.2.2.2.2)
    have HRc := Lib.hid (HR.out.step HY.out.2.2.2.2.2 id)
    have x2 := HW.out.c2
    have HFL := Lib.hid (f_len HW.out.fn)
    have HRY : Hid (R < Y) := by
      have := HR.out.lt
      have := HY.out.1
      rw [Hid]; omega
    have HNY : Hid (∀ k, r.foot k → k ≠ Y) := fun k hk e => by
      have := HIN.out k hk
      have := HRY.out
      omega
    obtain ⟨L, hL⟩ : ∃ L, L = shC r.vw.fs r.cells := ⟨_, rfl⟩
    have HLl : Hid (L.length = r.nf) := by
      rw [Hid, hL, shC, List.length_map, List.length_zip, ← HW.out.fn.lc]
      show min (r.fs.map _).length _ = _
      rw [List.length_map, ← HW.out.fn.lf, Nat.min_self]
    have HLg : Hid (∀ (j : Nat) (hj : j < L.length) (o : Option Fv) (x : Int), r.fs[j]? = some o → r.cells[j]? = some x → L[j] = if o.isSome = true then x else -1) := fun j hj o x h1 h2 => by
      have h3 : L[j]? = some (if o.isSome = true then x else -1) := by
        rw [hL, shC, List.getElem?_map, List.getElem?_zip_eq_some (z := (o.map Fv.cs, x)) |>.2 ⟨by show (r.fs.map _)[j]? = _; rw [List.getElem?_map, h1]; rfl, h2⟩]
        simp
      rw [List.getElem?_eq_getElem hj] at h3
      exact Option.some.inj h3
    replace hL := Lib.hid hL
    have HR1 : Hid (R ≤ w1.heap.size) := Nat.le_of_lt HR.out.lt
    have HRL : Hid (R < w1.heap.size) := HR.out.lt
    clear H HR
    go_wp2_with fail
    refine HFL.out.mono ?_
    rintro e w2 ⟨rfl, rfl⟩
    clear HFL x2
    go_wp2_with fail
    go_loopw [42] (fun iv wr => ∃ (j : Nat) (D : Option Addr) (c' : Nat), j ≤ r.nf ∧ iv = .int .i64 (j : Int) ∧ Hid (Step (fun k => k = Y) w2 wr ∧ Blk wr Y 68 #[.string (str r.l), .slice A1 r.nt c1, .slice A2 r.nv c2, .slice D j c', .slice A4 ow.length c4] ∧ wr.ownsRow w2.heap.size 3 1 (.slice D j c') j (i64s (L.take j)))) (fun iv _ => r.nf + 1 - (Go.RowKit.intOf iv).toNat)
    case atStart => exact ⟨0, none, 0, Nat.zero_le _, rfl, Step.refl, HY.out.2.1, by rw [List.take_zero]; exact World.ownsRow_nil _ _ _ _⟩
    case round =>
      obtain ⟨j, D, c', hj, rfl, HJ⟩ := hrel
      by_cases hlt : j < r.nf
      · have q1 : (j : Int) < (r.nf : Int) := by omega
        have hw1 := IntWalk.i64_in ((j : Int) + 1) (by omega)
        have hjl : j < L.length := by rw [HLl.out]; exact hlt
        have hFw := HW.out.fn.step HJ.out.1 (fun k hk => HNY.out k ⟨_, by simp [Rc.sets], hk⟩)
        have hx2 := (HW.out.blk.step HJ.out.1 (HNY.out _ ⟨foot r.S r.Av, by simp [Rc.sets], .inl rfl⟩)).cell 2
        have x2 : wr.cell? ⟨r.S, 2, none⟩ = some (.pointer (some ⟨r.Fu, 0, none⟩)) := hx2
        have hjf : j < r.fs.length := by rw [← HW.out.fn.lf]; exact hlt
        have hjc : j < r.cells.length := by rw [← HW.out.fn.lc]; exact hlt
        have hg := HLg.out j hjl r.fs[j] r.cells[j] (List.getElem?_eq_getElem hjf) (List.getElem?_eq_getElem hjc)
        have hst : Calls Try.prog 47 #[.pointer (some ⟨r.Fu, 0, none⟩), .int .i64 (j : Int)] wr fun e w' => ∃ (y z : Int), e = .returned (.tuple #[.int .i64 y, .int .i64 z]) ∧ w' = wr ∧ (z = 0 ∧ y = L[j] ∨ z = 47 ∧ L[j] = -1) := by
          cases hq : r.fs[j] with
          | none =>
            rw [hq] at hg
            refine (f_stands_dead (j : Int) hFw ?_).mono ?_
            · rw [lvF, if_pos ⟨by omega, by omega⟩, Int.toNat_natCast, List.getD_eq_getElem?_getD, List.getElem?_eq_getElem hjf, hq]
              rfl
            · rintro e w' ⟨rfl, rfl⟩
              exact ⟨0, 47, rfl, rfl, .inr ⟨rfl, hg⟩⟩
          | some f =>
            rw [hq] at hg
            refine (f_stands_ok j f r.cells[j] hFw (by rw [List.getElem?_eq_getElem hjf, hq]) (List.getElem?_eq_getElem hjc)).mono ?_
            rintro e w' ⟨rfl, rfl⟩
            exact ⟨_, 0, rfl, rfl, .inl ⟨rfl, hg.symm⟩⟩
        have HST := Lib.hid hst
        obtain ⟨x, hx⟩ : ∃ x, x = L[j] := ⟨_, rfl⟩
        rw [← hx] at HST
        have HTK : Hid (L.take (j + 1) = L.take j ++ [x]) := by rw [Hid, hx]; exact List.take_succ_eq_append_getElem hjl
        have hBY := HJ.out.2.1
        have hown := HJ.out.2.2
        have hne : blkOf D ≠ some Y := by
          have := own_tag hown hBY (by decide)
          rwa [ownBlock_slice] at this
        have hsz := HJ.out.1.size
        have hone : ∀ u ∈ #[Value.int .i64 x].toList, u.oneCell' = true := by simp [Value.oneCell']
        have hm1 : j + 1 ≤ maxLen := by unfold maxLen; omega
        have hrn := reads_new wr #[.int .i64 x] 3 1 1 rfl
        have y3 := hBY.cell 3
        simp at y3
        have nY := hBY.lt
        clear hst hx hg hjf hjc hFw hx2 hjl
        go_wp2_with fail
        refine HST.out.mono ?_
        rintro e w3 ⟨y, z, rfl, rfl, hyz⟩
        clear HST
        rcases hyz with ⟨rfl, rfl⟩ | ⟨rfl, hx1⟩
        · go_wp2_with (at_builtin; refine wpList_append_src _ rfl _ _ (by rfl) E_int (by rfl) (hown.alloc _) (by rfl) hrn hone hm1 (by omega) (by simp; omega) ?_; intro D' k' w5 hown1 hgrow hat; have hb1 := (hBY.alloc (.cells #[.int .i64 y] 3)).grown hgrow hne; have z3 := hb1.cell 3; have f3 := hb1.frozen 3; simp at z3)
          have hfin := sh_round HJ.out.1 hBY hown hgrow hown1
          rw [← HTK.out] at hfin
          exact ⟨⟨j + 1, D', k', by omega, by rw [Int.natCast_add]; rfl, hfin⟩, by simp [Go.RowKit.intOf]; omega⟩
        · subst hx1
          go_wp2_with (at_builtin; refine wpList_append_src _ rfl _ _ (by rfl) E_int (by rfl) (hown.alloc _) (by rfl) hrn hone hm1 (by omega) (by simp; omega) ?_; intro D' k' w5 hown1 hgrow hat; have hb1 := (hBY.alloc (.cells #[.int .i64 (-1)] 3)).grown hgrow hne; have z3 := hb1.cell 3; have f3 := hb1.frozen 3; simp at z3)
          have hfin := sh_round HJ.out.1 hBY hown hgrow hown1
          rw [← HTK.out] at hfin
          exact ⟨⟨j + 1, D', k', by omega, by rw [Int.natCast_add]; rfl, hfin⟩, by simp [Go.RowKit.intOf]; omega⟩
      · have q1 : ¬ (j : Int) < (r.nf : Int) := by omega
        have hjn : j = r.nf := by omega
        have hBY := HJ.out.2.1
        have y0 := hBY.cell 0
        have y1 := hBY.cell 1
        have y2 := hBY.cell 2
        have y3 := hBY.cell 3
        have y4 := hBY.cell 4
        simp at y0 y1 y2 y3 y4
        have hBR := HRc.out.step HJ.out.1 (fun e => by have := HRY.out; omega)
        have r0 := hBR.cell 0
        have r1 := hBR.cell 1
        have r2 := hBR.cell 2
        have r3 := hBR.cell 3
        have r4 := hBR.cell 4
        simp at r0 r1 r2 r3 r4
        have f0 := hBR.frozen 0
        have f1 := hBR.frozen 1
        have f2 := hBR.frozen 2
        have f3 := hBR.frozen 3
        have f4 := hBR.frozen 4
        have HBR := Lib.hid hBR
        have HBY := Lib.hid hBY
        rw [hR.out] at r0 r1 r2 r3 r4 f0 f1 f2 f3 f4
        clear hBR hBY
        go_wp2_with fail
        obtain ⟨W, hW⟩ : ∃ W, W = (((((wr.setCell ⟨w.heap.size, 0, none⟩ (.string (str r.l))).setCell ⟨w.heap.size, 1, none⟩ (.slice A1 r.nt c1)).setCell ⟨w.heap.size, 2, none⟩ (.slice A2 r.nv c2)).setCell ⟨w.heap.size, 3, none⟩ (.slice D r.nf c')).setCell ⟨w.heap.size, 4, none⟩ (.slice A4 ow.length c4)) := ⟨_, rfl⟩
        have hbr := HBR.out
        rw [hR.out] at hbr
        have hbW : Blk W w.heap.size 68 #[.string (str r.l), .slice A1 r.nt c1, .slice A2 r.nv c2, .slice D r.nf c', .slice A4 ow.length c4] := by
          rw [hW]
          simpa using ((((hbr.set_ 0 (.string (str r.l))).set_ 1 (.slice A1 r.nt c1)).set_ 2 (.slice A2 r.nv c2)).set_ 3 (.slice D r.nf c')).set_ 4 (.slice A4 ow.length c4)
        have hsW : Step (fun k => k = w.heap.size) wr W := by
          rw [hW]
          exact ((((Step.setCell (F := fun k => k = w.heap.size) (p := ⟨w.heap.size, 0, none⟩) Step.refl (.inl rfl) _).setCell (p := ⟨w.heap.size, 1, none⟩) (.inl rfl) _).setCell (p := ⟨w.heap.size, 2, none⟩) (.inl rfl) _).setCell (p := ⟨w.heap.size, 3, none⟩) (.inl rfl) _).setCell (p := ⟨w.heap.size, 4, none⟩) (.inl rfl) _
        have q0 := hbW.cell 0
        have q1' := hbW.cell 1
        have q2 := hbW.cell 2
        have q3 := hbW.cell 3
        have q4 := hbW.cell 4
        simp at q0 q1' q2 q3 q4
        rw [← hW]
        have HBW := Lib.hid hbr
        have HSW := Lib.hid hsW
        clear hW hbW hsW hbr r0 r1 r2 r3 r4 f0 f1 f2 f3 f4 y0 y1 y2 y3 y4
        refine bodyPost_ret (v := .agg #[.string (str r.l), .slice A1 r.nt c1, .slice A2 r.nv c2, .slice D r.nf c', .slice A4 ow.length c4]) (by simp [results, Try.results25, go_sem, q0, q1', q2, q3, q4]) rfl ?_
        clear q0 q1' q2 q3 q4
        have lR : w.heap.size ≤ w1.heap.size := by have := HR1.out; have := hR.out; omega
        have lY := HY.out.1
        have l2 := HY.out.2.2.2.2.2.size
        have o1 := own_step (own_step HY.out.2.2.1 HJ.out.1 (fun k hk e => own_tag HY.out.2.2.1 HY.out.2.1 (by decide) (by rw [← e]; exact hk))) HSW.out (fun k hk e => by
          have := own_ge HY.out.2.2.1 k hk
          have := hR.out
          have := HRL.out
          omega)
        have o2 := own_step (own_step HY.out.2.2.2.1 HJ.out.1 (fun k hk e => own_tag HY.out.2.2.2.1 HY.out.2.1 (by decide) (by rw [← e]; exact hk))) HSW.out (fun k hk e => by
          have := own_ge HY.out.2.2.2.1 k hk
          have := hR.out
          have := HRL.out
          omega)
        have o4 := own_step (own_step HY.out.2.2.2.2.1 HJ.out.1 (fun k hk e => own_tag HY.out.2.2.2.2.1 HY.out.2.1 (by decide) (by rw [← e]; exact hk))) HSW.out (fun k hk e => by
          have := own_ge HY.out.2.2.2.2.1 k hk
          have := hR.out
          have := HRL.out
          omega)
        have o3 := own_step HJ.out.2.2 HSW.out (fun k hk e => by
          have := own_ge HJ.out.2.2 k hk
          have := hR.out
          have := HRL.out
          omega)
        rw [hjn, ← HLl.out, List.take_length, hL.out] at o3
        rw [← hL.out, HLl.out] at o3
        rw [hL.out] at o3
        refine ⟨⟨r.l, A1, r.nt, c1, A2, r.nv, c2, D, r.nf, c', A4, ow.length, c4⟩, rfl, ⟨rfl, sh_row o1 lR, HW.out.tb.len, sh_row o2 lR, HW.out.vl, sh_row o3 (Nat.le_trans lR l2), ?_, sh_row o4 lR, rfl⟩, ?_⟩
        · rw [← HLl.out, hL.out]; rfl
        · exact ((S1.out.trans HY.out.2.2.2.2.2).trans' HJ.out.1 (fun i hi => .inr (by rw [hi]; exact Nat.le_trans lR lY))).trans' HSW.out (fun i hi => .inr (by rw [hi]; exact Nat.le_refl _))
end Go.Proofs.Ytmheofkakcomdaa
