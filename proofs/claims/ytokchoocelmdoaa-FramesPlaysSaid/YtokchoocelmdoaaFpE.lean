/-
  frames.Stacks: Shut.
-/
import Derived.Test.YtokchoocelmdoaaFpD
set_option linter.unusedVariables false
set_option linter.unusedSimpArgs false
namespace Go.Proofs.Ytokchoocelmdoaa
open Go.RowKit

section
variable {w : World} {I : Nat → Prop} {g : Nat} {xs : List Int} {ls : List Lb} {fs : List Fm} {most : Int}
/-- A write into a block that is new to the caller, and none of the stacks' own. -/
theorem FsUp.poke {V V' V'' : World} {N : Nat} (hs : Step (fun _ => False) w V) (hI : In w I) (u : FsUp V I g xs ls fs most V') (k : Step (fun i => i = N) V' V'') (hN : w.heap.size ≤ N) (hNV : N < V.heap.size) : FsUp w I g xs ls fs most V'' := by
  obtain ⟨I', h, u⟩ := u
  refine ⟨I', h.keep k (fun i hi e => ?_), ?_⟩
  · subst e
    rcases u.2 i hi with e | e
    · have := hI i e; omega
    · omega
  · exact (u.after hs).write k (fun i e => by rw [e]; exact hN)
set_option maxRecDepth 100000 in
set_option maxHeartbeats 1600000 in
theorem fs_shut_none (h : Fs w I g xs ls fs most) (hok : Okf ls fs) (hl : fs.length ≤ 100000) (hl2 : ls.length ≤ 100000) (h0 : ownN ls fs = 0) :
    Calls Try.prog 26 #[.pointer (some ⟨g, 0, none⟩)] w fun e w' => e = .returned (.tuple #[.agg #[.int .i64 0, .int .i64 0, .int .i64 0, .int .i64 0, .bool false], .bool false]) ∧ Step (fun _ => False) w w' := by
  have N1 := Lib.hid (Blk.new w 60 #[.int .i64 0, .int .i64 0, .int .i64 0, .int .i64 0, .bool false])
  have S1 : Hid (Step (fun _ => False) w (w.alloc (.cells #[.int .i64 0, .int .i64 0, .int .i64 0, .int .i64 0, .bool false] 60))) := Step.refl.alloc _
  have HO := fs_own (h.quiet S1.out) hok hl hl2
  rw [h0] at HO
  replace HO := Lib.hid HO
  clear h hok
  go_enter Try.func26, Try.ntmps26
  go_wp2_with fail
  refine HO.out.mono ?_
  rintro e W ⟨rfl, hs⟩
  have N2 := Lib.hid (N1.out.step hs id)
  have S2 := Lib.hid (S1.out.trans hs)
  clear hs N1 S1 HO
  obtain ⟨N, hN⟩ : ∃ N, N = w.heap.size := ⟨_, rfl⟩
  have HN : Hid (w.heap.size ≤ N) := by rw [hN]; exact Nat.le_refl _
  rw [← hN] at N2 ⊢
  clear hN
  have f0 := N2.out.frozen
  have e0 := N2.out.cell 0
  have e1 := N2.out.cell 1
  have e2 := N2.out.cell 2
  have e3 := N2.out.cell 3
  have e4 := N2.out.cell 4
  simp at e0 e1 e2 e3 e4
  go_wp2
  have bz := lb_new (x := .int .i64 0) (y := .int .i64 0) (z := .int .i64 0) (u := .int .i64 0) (v := .bool false) N2.out
  have z0 := bz.cell 0
  have z1 := bz.cell 1
  have z2 := bz.cell 2
  have z3 := bz.cell 3
  have z4 := bz.cell 4
  simp at z0 z1 z2 z3 z4
  refine bodyPost_ret (v := .tuple #[.agg #[.int .i64 0, .int .i64 0, .int .i64 0, .int .i64 0, .bool false], .bool false]) ?_ rfl ⟨rfl, lb_step S2.out (.inr HN.out)⟩
  simp [results, Try.results26, go_sem, z0, z1, z2, z3, z4]
set_option maxRecDepth 100000 in
set_option maxHeartbeats 3200000 in
theorem fs_shut (pre : List Lb) (x : Lb) (h : Fs w I g xs (pre ++ [x]) fs most) (hok : Okf (pre ++ [x]) fs) (hl : fs.length ≤ 100000) (hl2 : pre.length ≤ 10000) (h0 : ownN (pre ++ [x]) fs ≠ 0) :
    Calls Try.prog 26 #[.pointer (some ⟨g, 0, none⟩)] w fun e w' => e = .returned (.tuple #[.agg #[.int .i64 x.st, .int .i64 x.dst, .int .i64 x.ar, .int .i64 (x.h : Int), .bool x.lp], .bool true]) ∧ FsUp w I g xs pre fs most w' := by
  have N1 := Lib.hid (Blk.new w 60 #[.int .i64 0, .int .i64 0, .int .i64 0, .int .i64 0, .bool false])
  have S1 : Hid (Step (fun _ => False) w (w.alloc (.cells #[.int .i64 0, .int .i64 0, .int .i64 0, .int .i64 0, .bool false] 60))) := Step.refl.alloc _
  have HO := Lib.hid (fs_own (h.quiet S1.out) hok hl (by simp; omega))
  have q0 : ((ownN (pre ++ [x]) fs : Int) == 0) = false := beq_eq_false_iff_ne.2 (by omega)
  obtain ⟨D1, c1, D2, c2, D3, c3, h, hI⟩ := h
  have HI := Lib.hid hI
  have H0 := Lib.hid h
  have H0I : Hid (In w I) := fun k hk => h.inn k ((hI k).1 hk)
  have hgl := h.st.blk.lt
  have hne : g ≠ w.heap.size := by omega
  have hcap := own_cap h.lo
  rw [List.length_append] at hcap
  simp at hcap
  clear h hI hok h0
  go_enter Try.func26, Try.ntmps26
  go_wp2_with fail
  refine HO.out.mono ?_
  rintro e W ⟨rfl, hs⟩
  have N2 := Lib.hid (N1.out.step hs id)
  have S2 := Lib.hid (S1.out.trans hs)
  clear hs N1 S1 HO
  obtain ⟨N, hN⟩ : ∃ N, N = w.heap.size := ⟨_, rfl⟩
  have HN : Hid (w.heap.size ≤ N) := by rw [hN]; exact Nat.le_refl _
  have HNW : N < W.heap.size := by have := N2.out.lt; rw [hN]; exact this
  rw [← hN] at N2 hne ⊢
  clear hN
  have H := Lib.hid (H0.out.quiet S2.out)
  obtain ⟨gl, rfl, hlt, k0, k1, k2, k3, k4⟩ := H.out.lcell (k := pre.length) (by simp)
  simp only [List.getElem_concat_length] at k0 k1 k2 k3 k4
  have a1 := H.out.st.blk.cell 1
  simp at a1
  have i0 : (0 : Int) ≤ (pre.length : Int) := by omega
  have i1 : (pre.length : Int) < (pre.length : Int) + 1 := by omega
  have i2 : (pre.length : Int) + 1 - 1 = (pre.length : Int) := by omega
  have i3 : (pre.length : Int) ≤ (c2 : Int) := by omega
  have hw := IntWalk.i64_in (pre.length : Int) (by omega)
  have d0 := cls_cell (F := fun _ => False) (w0 := W) k0 id
  have d1 := cls_cell (F := fun _ => False) (w0 := W) k1 id
  have d2 := cls_cell (F := fun _ => False) (w0 := W) k2 id
  have d3 := cls_cell (F := fun _ => False) (w0 := W) k3 id
  have d4 := cls_cell (F := fun _ => False) (w0 := W) k4 id
  have d5 := cls_cell (F := fun _ => False) (w0 := W) a1 id
  go_wp2_with fail
  refine Mix.wp_region_mix [12, 13] [12] (Step (fun _ => False) W) (by kernel_rfl) (by kernel_rfl) Step.refl.drew (fun hcls => ?_)
  refine Mix.wpL_reads 12 (by rfl) ?_
  simp only [List.take_succ_cons, List.drop_succ_cons, List.take_zero, List.drop_zero]
  repeat (go_big_quiet_step (fail))
  refine wpQuiet_nil ?_
  refine Mix.wpL_op (by rfl) (fun K hK => ?_)
  go_simp
  refine hK _ _ (fun hlt => Mix.cl (Step.drew (Step.alloc Step.refl _))) ?_
  clear hK K
  refine Mix.wpL_op (by rfl) (fun K hK => ?_)
  go_simp
  refine hK _ _ (fun hlt => absurd hlt (by decide)) ?_
  clear hK K
  refine Mix.wpL_end ?_
  clear d0 d1 d2 d3 d4 d5
  have sl := slice_hn E_lb (some ⟨gl, 0, none⟩) (pre.length + 1) c2 .i64 (pre.length : Int) pre.length rfl (by omega)
  have M1 := Lib.hid ((Blk.new W 60 #[.int .i64 x.st, .int .i64 x.dst, .int .i64 x.ar, .int .i64 (x.h : Int), .bool x.lp]).drew)
  have S3 : Hid (Step (fun _ => False) W (W.alloc (.cells #[.int .i64 x.st, .int .i64 x.dst, .int .i64 x.ar, .int .i64 (x.h : Int), .bool x.lp] 60)).drew) := (Step.refl.alloc _).drew
  have HL := Lib.hid (own_take H.out.lo (k := pre.length) (by simp))
  obtain ⟨V, hV⟩ : ∃ V, V = (W.alloc (.cells #[.int .i64 x.st, .int .i64 x.dst, .int .i64 x.ar, .int .i64 (x.h : Int), .bool x.lp] 60)).drew := ⟨_, rfl⟩
  obtain ⟨M, hM⟩ : ∃ M, M = W.heap.size := ⟨_, rfl⟩
  rw [← hV, ← hM]
  rw [← hV] at M1 S3
  have hgM : g ≠ M := by have := H.out.st.blk.lt; omega
  have hNM : N ≠ M := by omega
  rw [← hM] at M1
  clear hV hM k0 k1 k2 k3 k4 a1
  have H3 := Lib.hid (H.out.quiet S3.out)
  have N3 := Lib.hid (N2.out.step S3.out id)
  have HL3 := Lib.hid (own_step HL.out S3.out (fun _ _ => id))
  have a1 := H3.out.st.blk.cell 1
  simp at a1
  have d5 := cls_cell (F := fun _ => False) (w0 := V) a1 id
  have fz := H3.out.st.blk.frozen 1
  clear HL H0
  go_wp2_with fail
  refine Mix.wp_region_mix [14] [] (Step (fun _ => False) V) (by kernel_rfl) (by kernel_rfl) Step.refl.drew (fun hcls => ?_)
  refine Mix.wpL_reads 14 (by rfl) ?_
  simp only [List.take_succ_cons, List.drop_succ_cons, List.take_zero, List.drop_zero]
  repeat (go_big_quiet_step (fail))
  refine wpQuiet_nil ?_
  refine Mix.wpL_op (by rfl) (fun K hK => ?_)
  go_simp
  refine hK _ _ (fun hlt => absurd hlt (by decide)) ?_
  clear hK K
  refine Mix.wpL_end ?_
  have hz : FsUp V I g xs pre fs most (V.setCell ⟨g, 1, none⟩ (.slice (some ⟨gl, 0, none⟩) pre.length c2)).drew := FsUp.quiet (H3.out.labels HI.out (D' := some ⟨gl, 0, none⟩) (c' := c2) (n' := pre.length) Step.refl rfl (by
    have := HL3.out
    rwa [← lbs_take, List.take_left] at this) (fun k hk => .inl hk)) Step.refl.drew
  have HZ := Lib.hid hz
  have M4 := Blk.drew (M1.out.far (p := ⟨g, 1, none⟩) (fun e => hgM e.symm) (.slice (some ⟨gl, 0, none⟩) pre.length c2))
  have N4 := Blk.drew (N3.out.far (p := ⟨g, 1, none⟩) hne.symm (.slice (some ⟨gl, 0, none⟩) pre.length c2))
  clear hz d5 a1 fz hcls
  generalize (V.setCell ⟨g, 1, none⟩ (.slice (some ⟨gl, 0, none⟩) pre.length c2)).drew = U at *
  have e0 := M4.cell 0
  have e1 := M4.cell 1
  have e2 := M4.cell 2
  have e3 := M4.cell 3
  have e4 := M4.cell 4
  simp at e0 e1 e2 e3 e4
  have p0 := N4.cell 0
  have p1 := N4.cell 1
  have p2 := N4.cell 2
  have p3 := N4.cell 3
  have p4 := N4.cell 4
  have f0 := N4.frozen
  simp at p0 p1 p2 p3 p4
  go_wp2
  have bz := lb_new (x := .int .i64 x.st) (y := .int .i64 x.dst) (z := .int .i64 x.ar) (u := .int .i64 (x.h : Int)) (v := .bool x.lp) N4
  have z0 := bz.cell 0
  have z1 := bz.cell 1
  have z2 := bz.cell 2
  have z3 := bz.cell 3
  have z4 := bz.cell 4
  simp at z0 z1 z2 z3 z4
  refine bodyPost_ret (v := .tuple #[.agg #[.int .i64 x.st, .int .i64 x.dst, .int .i64 x.ar, .int .i64 (x.h : Int), .bool x.lp], .bool true]) ?_ rfl ⟨rfl, ?_⟩
  · simp [results, Try.results26, go_sem, z0, z1, z2, z3, z4]
  · refine FsUp.poke (S2.out.trans S3.out) (fun k hk => H0I.out k hk) HZ.out (lb_step (F := fun i => i = N) Step.refl (.inl rfl)) HN.out ?_
    have := S3.out.size
    omega
end
end Go.Proofs.Ytokchoocelmdoaa
