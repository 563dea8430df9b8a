/-
  frames.Stacks: Leave.
-/
import Derived.Test.YtokchoocelmdoaaFpF
set_option linter.unusedVariables false
set_option linter.unusedSimpArgs false
namespace Go.Proofs.Ytokchoocelmdoaa
open Go.RowKit

section
variable {w w' : World} {I : Nat → Prop} {g : Nat} {xs ys : List Int} {ls : List Lb} {fs : List Fm} {most : Int}
/-- The values have turned: the other rows are where they were. -/
theorem FsAt.vals' {D1 D2 D3 : Option Addr} {c1 c2 c3 : Nat} (h : FsAt w g D1 c1 D2 c2 D3 c3 xs ls fs most) (hI : ∀ k, I k ↔ FI g D1 D2 D3 k) (t : Turned w 0 g D1 (.slice D2 ls.length c2) (.slice D3 fs.length c3) most ys w') :
    ∃ D' c', FsAt w' g D' c' D2 c2 D3 c3 ys ls fs most ∧ Upd w I (FI g D' D2 D3) w' := by
  obtain ⟨D', c', hs, st, hD⟩ := t
  refine ⟨D', c', ⟨hs, own_step h.lo st (fun k hk e => ?_), own_step h.fo st (fun k hk e => ?_)⟩, st.mono fun k _ hk => (hI k).2 ?_, fun k hk => ?_⟩
  · rw [ownBlock_slice] at hk
    rcases e with rfl | e
    · exact h.ne2 hk
    · exact h.n12 k e hk
  · rw [ownBlock_slice] at hk
    rcases e with rfl | e
    · exact h.ne3 hk
    · exact h.n13 k e hk
  · rcases hk with rfl | hk
    · exact .inl rfl
    · exact .inr (.inl hk)
  · rcases hk with e | e | e | e
    · exact .inl ((hI k).2 (.inl e))
    · rcases hD k e with e | e
      · exact .inl ((hI k).2 (.inr (.inl e)))
      · exact .inr e
    · exact .inl ((hI k).2 (.inr (.inr (.inl e))))
    · exact .inl ((hI k).2 (.inr (.inr (.inr e))))
theorem fs_leave_none (h : Fs w I g xs ls [] most) : Calls Try.prog 32 #[.pointer (some ⟨g, 0, none⟩)] w fun e w' => e = .returned (.int .i64 1) ∧ w = w' := by
  have HT := Lib.hid (fs_top_none h)
  clear h
  go_enter Try.func32, Try.ntmps32
  go_wp2_with fail
  refine HT.out.mono ?_
  rintro e w' ⟨rfl, rfl⟩
  go_wp2
  go_ret
  exact ⟨rfl, rfl⟩
set_option maxRecDepth 100000 in
set_option maxHeartbeats 1600000 in
theorem fs_leave_err (pre : List Fm) (f : Fm) (h : Fs w I g xs ls (pre ++ [f]) most) (hl : pre.length ≤ 10000) (hx : xs.length ≤ 1000000) (hr : f.rs.size ≤ 1000000) (hbad : xs.length < f.h + f.rs.size) :
    Calls Try.prog 32 #[.pointer (some ⟨g, 0, none⟩)] w fun e w' => e = .returned (.int .i64 21) ∧ Step (fun _ => False) w w' := by
  obtain ⟨D1, c1, D2, c2, D3, c3, h, hI⟩ := h
  obtain ⟨gf, rfl, hlt, k1, k2, k3, k4, k5⟩ := h.fcell (k := pre.length) (by simp)
  simp only [List.getElem_concat_length] at k1 k4 k5
  have HT := fsat_top h (by simp) (by simp; omega)
  rw [show (pre ++ [f]).length - 1 = pre.length by simp] at HT
  replace HT := Lib.hid HT
  have H := Lib.hid h
  have HI := Lib.hid hI
  clear h hI k2 k3
  go_enter Try.func32, Try.ntmps32
  go_wp2_with fail
  refine HT.out.mono ?_
  rintro e W ⟨rfl, hs⟩
  have k1' := (hs.cell (p := ⟨gf, pre.length * 11 + 1, none⟩) hlt id).trans k1
  have k5' := (hs.cell (p := ⟨gf, pre.length * 11 + 10, none⟩) hlt id).trans k5
  have H2 := Lib.hid (H.out.quiet hs)
  have HS := Lib.hid hs
  clear hs k1 k4 k5 HT
  have d1 := cls_cell (F := fun _ => False) (w0 := W) k1' id
  have d5 := cls_cell (F := fun _ => False) (w0 := W) k5' id
  go_wp2_with fail
  refine Mix.wp_region_mix [12] [12] (Step (fun _ => False) W) (by kernel_rfl) (by kernel_rfl) Step.refl.drew (fun hcls => ?_)
  refine Mix.wpL_reads 12 (by rfl) ?_
  simp only [List.take_succ_cons, List.drop_succ_cons, List.take_zero, List.drop_zero]
  repeat (go_big_quiet_step (fail))
  refine wpQuiet_nil ?_
  refine Mix.wpL_op (by rfl) (fun K hK => ?_)
  go_simp
  refine (fs_keep_fails f.h f.rs.size (I := I) ⟨D1, c1, D2, c2, _, c3, H2.out.quiet Step.refl.drew, HI.out⟩ hx hbad hr).mono ?_
  rintro e U ⟨rfl, hw⟩
  obtain rfl := hw
  refine hK _ _ (fun hlt => Mix.cl (Step.refl.drew)) ?_
  clear hK K
  refine Mix.wpL_reads 1 (by rfl) ?_
  simp only [List.take_succ_cons, List.drop_succ_cons, List.take_zero, List.drop_zero]
  repeat (go_big_quiet_step (fail))
  refine wpQuiet_nil ?_
  refine Mix.wpL_end ?_
  clear d1 d5 k1' k5'
  go_wp2
  go_ret
  exact ⟨rfl, HS.out.drew⟩
set_option maxRecDepth 100000 in
set_option maxHeartbeats 3200000 in
theorem fs_leave (pre : List Fm) (f : Fm) (h : Fs w I g xs ls (pre ++ [f]) most) (hl : pre.length ≤ 10000) (hx : xs.length ≤ 1000000) (hr : f.rs.size ≤ 1000000) (hgood : f.h + f.rs.size ≤ xs.length) (hlb : f.lb ≤ ls.length) (hl2 : ls.length ≤ 100000) :
    Calls Try.prog 32 #[.pointer (some ⟨g, 0, none⟩)] w fun e w' => e = .returned (.int .i64 0) ∧ FsUp w I g (keepF xs f.h f.rs.size) (ls.take f.lb) pre most w' := by
  obtain ⟨D1, c1, D2, c2, D3, c3, h, hI⟩ := h
  obtain ⟨gf, rfl, hlt, k1, k2, k3, k4, k5⟩ := h.fcell (k := pre.length) (by simp)
  simp only [List.getElem_concat_length] at k1 k4 k5
  have HT := fsat_top h (by simp) (by simp; omega)
  rw [show (pre ++ [f]).length - 1 = pre.length by simp] at HT
  replace HT := Lib.hid HT
  have H := Lib.hid h
  have HI := Lib.hid hI
  clear h hI k2 k3 k4
  go_enter Try.func32, Try.ntmps32
  go_wp2_with fail
  refine HT.out.mono ?_
  rintro e W ⟨rfl, hs⟩
  have k1' := (hs.cell (p := ⟨gf, pre.length * 11 + 1, none⟩) hlt id).trans k1
  have k5' := (hs.cell (p := ⟨gf, pre.length * 11 + 10, none⟩) hlt id).trans k5
  have H2 := Lib.hid (H.out.quiet hs)
  have HS := Lib.hid hs
  clear hs k1 k5 HT H
  have hgF : ¬ (gf = g ∨ blkOf D1 = some gf) := fun e => by
    rcases e with e | e
    · exact H2.out.ne3 (by rw [← e]; rfl)
    · exact H2.out.n13 gf e rfl
  have d1 := cls_cell (F := fun k => k = g ∨ blkOf D1 = some k) (w0 := W) k1' hgF
  have d5 := cls_cell (F := fun k => k = g ∨ blkOf D1 = some k) (w0 := W) k5' hgF
  go_wp2_with fail
  refine Mix.wp_region_mix [12] [12] (Step (fun k => k = g ∨ blkOf D1 = some k) W) (by kernel_rfl) (by kernel_rfl) Step.refl.drew (fun hcls => ?_)
  refine Mix.wpL_reads 12 (by rfl) ?_
  simp only [List.take_succ_cons, List.drop_succ_cons, List.take_zero, List.drop_zero]
  repeat (go_big_quiet_step (fail))
  refine wpQuiet_nil ?_
  refine Mix.wpL_op (by rfl) (fun K hK => ?_)
  go_simp
  refine (keep_any W.drew 0 g D1 c1 xs _ _ most f.h f.rs.size (H2.out.quiet Step.refl.drew).st hx hgood).mono ?_
  rintro e U ⟨rfl, t⟩
  obtain ⟨D1', c1', h3, u3⟩ := (H2.out.quiet Step.refl.drew).vals' HI.out t
  have hst : Step (fun k => k = g ∨ blkOf D1 = some k) W U := by
    obtain ⟨_, _, _, st, _⟩ := t
    exact Step.refl.drew.trans st
  refine hK _ _ (fun hlt => Mix.cl (hst)) ?_
  clear hK K
  refine Mix.wpL_reads 1 (by rfl) ?_
  simp only [List.take_succ_cons, List.drop_succ_cons, List.take_zero, List.drop_zero]
  repeat (go_big_quiet_step (fail))
  refine wpQuiet_nil ?_
  refine Mix.wpL_end ?_
  have H3 := Lib.hid h3
  have U3 := Lib.hid (u3.after (HS.out.drew))
  obtain ⟨gf', e', hlt3, k1, k2, k3, k4, k5⟩ := h3.fcell (k := pre.length) (by simp)
  injection e' with e'
  injection e' with e'
  subst e'
  simp only [List.getElem_concat_length] at k4
  have a1 := h3.st.blk.cell 1
  have fz := h3.st.blk.frozen 1
  simp at a1
  have hcap := own_cap h3.lo
  have i0 : (0 : Int) ≤ (f.lb : Int) := by omega
  have i1 : (f.lb : Int) ≤ (c2 : Int) := by omega
  have sl := slice_hn E_lb D2 ls.length c2 .i64 (f.lb : Int) f.lb rfl (by omega)
  clear d1 d5 k1' k5' k1 k2 k3 k5 h3 u3 t H2 HS hcls hst hgF
  have d1 := cls_cell (F := fun _ => False) (w0 := U) k4 id
  have d5 := cls_cell (F := fun _ => False) (w0 := U) a1 id
  go_wp2_with fail
  refine Mix.wp_region_mix [12] [] (Step (fun _ => False) U) (by kernel_rfl) (by kernel_rfl) Step.refl.drew (fun hcls => ?_)
  refine Mix.wpL_reads 12 (by rfl) ?_
  simp only [List.take_succ_cons, List.drop_succ_cons, List.take_zero, List.drop_zero]
  repeat (go_big_quiet_step (fail))
  refine wpQuiet_nil ?_
  refine Mix.wpL_op (by rfl) (fun K hK => ?_)
  go_simp
  refine hK _ _ (fun hlt => absurd hlt (by decide)) ?_
  clear hK K
  refine Mix.wpL_end ?_
  have HLB : Hid (f.lb = (ls.take f.lb).length) := by unfold Hid; rw [List.length_take]; omega
  have hz : FsUp U (FI g D1' D2 (some ⟨gf, 0, none⟩)) g (keepF xs f.h f.rs.size) (ls.take f.lb) (pre ++ [f]) most (U.setCell ⟨g, 1, none⟩ (.slice D2 f.lb c2)).drew := FsUp.quiet (H3.out.labels (fun _ => Iff.rfl) (D' := D2) (c' := c2) (n' := f.lb) Step.refl HLB.out (by
    have := own_take H3.out.lo (k := f.lb) hlb
    rwa [← lbs_take] at this) (fun k hk => .inl hk)) Step.refl.drew
  clear d1 d5 a1 fz k4 sl HLB hcls hcap i0 i1 H3
  generalize (U.setCell ⟨g, 1, none⟩ (.slice D2 f.lb c2)).drew = V at *
  obtain ⟨I2, ⟨E1, b1, E2, b2, E3, b3, h4, hI4⟩, u4⟩ := hz
  have U4 := Lib.hid (U3.out.trans u4)
  have H4 := Lib.hid h4
  have HI4 := Lib.hid hI4
  have a1 := h4.st.blk.cell 2
  have fz := h4.st.blk.frozen 2
  simp at a1
  have hcap := own_cap h4.fo
  rw [List.length_append] at hcap
  simp at hcap
  have i0 : (0 : Int) ≤ (pre.length : Int) := by omega
  have i2 : (pre.length : Int) + 1 - 1 = (pre.length : Int) := by omega
  have i3 : (pre.length : Int) ≤ (b3 : Int) := by omega
  have hw := IntWalk.i64_in (pre.length : Int) (by omega)
  have sl := slice_hn E_fm E3 (pre.length + 1) b3 .i64 (pre.length : Int) pre.length rfl (by omega)
  have d5 := cls_cell (F := fun _ => False) (w0 := V) a1 id
  clear u4 h4 hI4 U3 HI
  go_wp2_with fail
  refine Mix.wp_region_mix [14] [] (Step (fun _ => False) V) (by kernel_rfl) (by kernel_rfl) Step.refl.drew (fun hcls => ?_)
  refine Mix.wpL_reads 14 (by rfl) ?_
  simp only [List.take_succ_cons, List.drop_succ_cons, List.take_zero, List.drop_zero]
  repeat (go_big_quiet_step (fail))
  refine wpQuiet_nil ?_
  refine Mix.wpL_op (by rfl) (fun K hK => ?_)
  go_simp
  refine hK _ _ (fun hlt => absurd hlt (by decide)) ?_
  clear hK K
  refine Mix.wpL_end ?_
  go_wp2
  go_ret
  refine ⟨rfl, FsUp.trans U4.out (FsUp.quiet (H4.out.frames HI4.out (D' := E3) (c' := b3) (n' := pre.length) Step.refl rfl (by
    have := own_take H4.out.fo (k := pre.length) (by simp)
    rwa [← fms_take, List.take_left] at this) (fun k hk => .inl hk)) Step.refl.drew)⟩
end
end Go.Proofs.Ytokchoocelmdoaa
