/-
  creellaw47: do, the other kinds.
-/
import Derived.Test.YtflgpjdpofmbkaaCsQ
set_option linter.unusedVariables false
set_option linter.unusedSimpArgs false
namespace Go.Proofs.Ytflgpjdpofmbkaa
open Go.RowKit
section
variable (T : Nat → Prop) (w : World) (B X : Nat) (a : Ad) (s : Mo) (tk vr : Int) (am : Ad) (m : Mo)

set_option maxRecDepth 100000 in
set_option maxHeartbeats 12800000 in
theorem do1 (h : St T w B X a s tk vr am m) (hB : B ≤ w.heap.size) (hl : s.small 900) (o : Opx) (ho : o.ok w (Old T w))  :
    Calls Try.prog 9 #[.pointer (some ⟨X, 0, none⟩), .agg (mdC am m), .agg #[.int .i64 1, .string (str o.s), .int .u32 (o.n : Int), .int .u32 (o.n2 : Int), .string (str o.t.p), .string (str o.t.r), .string (str o.lo), .slice o.A o.bo.length o.c, .int .u8 (o.vt : Int), .int .u64 (o.vn : Int), .bool o.mu]] w (DOut T w B X a s) := by
  have hlm := h.al.small hl
  obtain ⟨l0, l1, l2, l5, l6, l8, l9, l10, l16⟩ := hl
  obtain ⟨k0, k1, k2, k5, k6, k8, k9, k10, k16⟩ := hlm
  have hl' : s.small 1000 := ⟨by omega, by omega, by omega, by omega, by omega, by omega, by omega, by omega, by omega⟩
  have HLS := Lib.hid hl'
  have HA := Lib.hid h.al
  have HH := Lib.hid h
  have HO := Lib.hid ho
  have hn1 := ho.n
  have hn2 := ho.n2
  have hw64 := IntWalk.u64_in (o.n : Int) (by omega)
  obtain ⟨v1, hv1⟩ : ∃ v1, v1 = w.alloc (.cells (mdC am m) 41) := ⟨_, rfl⟩
  obtain ⟨v2, hv2⟩ : ∃ v2, v2 = v1.alloc (.cells #[.int .i64 1, .string (str o.s), .int .u32 (o.n : Int), .int .u32 (o.n2 : Int), .string (str o.t.p), .string (str o.t.r), .string (str o.lo), .slice o.A o.bo.length o.c, .int .u8 (o.vt : Int), .int .u64 (o.vn : Int), .bool o.mu] 52) := ⟨_, rfl⟩
  obtain ⟨v3, hv3⟩ : ∃ v3, v3 = v2.alloc (.cells #[.slice none 0 0, .slice none 0 0, .slice none 0 0, .slice none 0 0, .slice none 0 0, .slice none 0 0, .slice none 0 0, .int .i64 0, .slice none 0 0, .slice none 0 0, .slice none 0 0, .bool false, .int .u32 0, .int .u32 0, .int .u32 0, .int .u32 0, .slice none 0 0] 41) := ⟨_, rfl⟩
  obtain ⟨v4, hv4⟩ : ∃ v4, v4 = v3.alloc (.cells #[Value.int .u8 35, .int .u64 (o.n : Int), .int .u64 0, .slice none 0 0] 59) := ⟨_, rfl⟩
  have e0 : w.heap.size = w.heap.size := rfl
  have e1 : v1.heap.size = w.heap.size + 1 := by rw [hv1]; simp [e0]
  have s1 : Step (fun _ => False) w v1 := by rw [hv1]; exact Step.alloc Step.refl _
  have e2 : v2.heap.size = w.heap.size + 1 + 1 := by rw [hv2]; simp [e1]
  have s2 : Step (fun _ => False) v1 v2 := by rw [hv2]; exact Step.alloc Step.refl _
  have e3 : v3.heap.size = w.heap.size + 1 + 1 + 1 := by rw [hv3]; simp [e2]
  have s3 : Step (fun _ => False) v2 v3 := by rw [hv3]; exact Step.alloc Step.refl _
  have e4 : v4.heap.size = w.heap.size + 1 + 1 + 1 + 1 := by rw [hv4]; simp [e3]
  have s4 : Step (fun _ => False) v3 v4 := by rw [hv4]; exact Step.alloc Step.refl _
  have HB : Hid (Blk v4 (w.heap.size) 41 (mdC am m)) := by
    have h1 : Blk v1 w.heap.size 41 (mdC am m) := by rw [hv1]; exact Blk.new w _ _
    exact (((h1.step s2 id).step s3 id).step s4 id)
  have HX : Hid (Blk v4 (w.heap.size + 1) 52 #[.int .i64 1, .string (str o.s), .int .u32 (o.n : Int), .int .u32 (o.n2 : Int), .string (str o.t.p), .string (str o.t.r), .string (str o.lo), .slice o.A o.bo.length o.c, .int .u8 (o.vt : Int), .int .u64 (o.vn : Int), .bool o.mu]) := by
    have h1 : Blk v2 v1.heap.size 52 #[.int .i64 1, .string (str o.s), .int .u32 (o.n : Int), .int .u32 (o.n2 : Int), .string (str o.t.p), .string (str o.t.r), .string (str o.lo), .slice o.A o.bo.length o.c, .int .u8 (o.vt : Int), .int .u64 (o.vn : Int), .bool o.mu] := by rw [hv2]; exact Blk.new v1 _ _
    rw [e1] at h1
    exact ((h1.step s3 id).step s4 id)
  have HZ : Hid (Blk v4 (w.heap.size + 1 + 1) 41 #[.slice none 0 0, .slice none 0 0, .slice none 0 0, .slice none 0 0, .slice none 0 0, .slice none 0 0, .slice none 0 0, .int .i64 0, .slice none 0 0, .slice none 0 0, .slice none 0 0, .bool false, .int .u32 0, .int .u32 0, .int .u32 0, .int .u32 0, .slice none 0 0]) := by
    have h1 : Blk v3 v2.heap.size 41 #[.slice none 0 0, .slice none 0 0, .slice none 0 0, .slice none 0 0, .slice none 0 0, .slice none 0 0, .slice none 0 0, .int .i64 0, .slice none 0 0, .slice none 0 0, .slice none 0 0, .bool false, .int .u32 0, .int .u32 0, .int .u32 0, .int .u32 0, .slice none 0 0] := by rw [hv3]; exact Blk.new v2 _ _
    rw [e2] at h1
    exact (h1.step s4 id)
  have HG : Hid (Blk v4 (w.heap.size + 1 + 1 + 1) 59 #[Value.int .u8 35, .int .u64 (o.n : Int), .int .u64 0, .slice none 0 0]) := by
    have h1 : Blk v4 v3.heap.size 59 #[Value.int .u8 35, .int .u64 (o.n : Int), .int .u64 0, .slice none 0 0] := by rw [hv4]; exact Blk.new v3 _ _
    rw [e3] at h1
    exact h1
  have HS : Hid (Step (fun _ => False) w v4) := s1 |>.trans s2 |>.trans s3 |>.trans s4
  have HE1 := Lib.hid hv1
  have HE2 := Lib.hid hv2
  have HE3 := Lib.hid hv3
  have HE4 := Lib.hid hv4
  clear e1 s1 hv1 e2 s2 hv2 e3 s3 hv3 e4 s4 hv4 e0
  have x0 := HX.out.cell 0
  have x2 := HX.out.cell 2
  have x3 := HX.out.cell 3
  simp at x0 x2 x3
  rw [HE4.out, HE3.out, HE2.out, HE1.out] at x0 x2 x3
  have hszv : v4.heap.size = w.heap.size + 1 + 1 + 1 + 1 := by rw [HE4.out, HE3.out, HE2.out, HE1.out]; simp
  have hB3 : B ≤ v4.heap.size := by omega
  have HM3 := Lib.hid (h.mkr.quiet HS.out)
  have hin : ∀ k, ftA X a k → k < w.heap.size := h.mkr.in_
  have hkm := room_ok v4 B X a s tk vr HM3.out o.n o.n2 o.n o.n2
  have HKM := Lib.hid hkm
  have HIN := Lib.hid hin
  obtain ⟨MA, hMA⟩ : ∃ MA, MA = mdC am m := ⟨_, rfl⟩
  rw [← hMA] at HE1 HB ⊢
  have HMA := Lib.hid hMA
  have H17 : Hid (MA.size = 17) := by rw [Hid, hMA]; rfl
  have H1 : Hid (MA.all (·.oneCell') = true) := by rw [Hid, hMA]; exact mdC_one am m
  clear hMA
  clear h hkm hin ho hl' 
  go_enter Try.func9, Try.ntmps9
  go_wp2_with (first | (refine ld_mod rfl _ rfl _ rfl MA (by first | exact HB.out | (rw [← HE1.out, ← HE2.out, ← HE3.out, ← HE4.out]; exact HB.out)) H17.out ?_))
  rw [← HE1.out]
  rw [← HE2.out]
  rw [← HE3.out]
  rw [← HE4.out]
  clear x0 x2 x3
  refine HKM.out.mono ?_
  rintro e w4 ⟨rfl, hm, hu⟩
  have HB4 := Lib.hid (HB.out.step hu.1 (fun e => Nat.lt_irrefl _ (HIN.out _ e)))
  have HX4 := Lib.hid (HX.out.step hu.1 (fun e => by have := HIN.out _ e; omega))
  have HZ4 := Lib.hid (HZ.out.step hu.1 (fun e => by have := HIN.out _ e; omega))
  have HG4 := Lib.hid (HG.out.step hu.1 (fun e => by have := HIN.out _ e; omega))
  have HU := Lib.hid hu
  have HMK := Lib.hid hm
  have HRF4 := Lib.hid (HH.out.rf4 HS.out hu)
  have HS4 : Hid (Step (fun k => ftA X a k) w w4) := (HS.out.mono (fun _ _ h => h.elim)).trans hu.1
  have hsz4 := hu.1.size
  have hin4 : Hid (∀ k, ftA X a k → k < w4.heap.size) := hm.in_
  clear hu hm
  have y0 := HX4.out.cell 0
  have y2 := HX4.out.cell 2
  have y3 := HX4.out.cell 3
  simp at y0 y2 y3
  have hZl := HB4.out.lt
  have c12 := HB4.out.cell 12
  have z12 := HB4.out.frozen 12
  have c13 := HB4.out.cell 13
  have z13 := HB4.out.frozen 13
  have c14 := HB4.out.cell 14
  have z14 := HB4.out.frozen 14
  have c15 := HB4.out.cell 15
  have z15 := HB4.out.frozen 15
  rw [HMA.out] at c12 c13 c14 c15
  simp [mdC] at c12 c13 c14 c15
  go_wp2_with fail
  have dy2 := cls_cell (F := fun k => k = w.heap.size) y2 (by show ¬ (w.heap.size + 1 = w.heap.size); omega)
  have dy3 := cls_cell (F := fun k => k = w.heap.size) y3 (by show ¬ (w.heap.size + 1 = w.heap.size); omega)
  clear y2 y3
  have hc0 : Step (fun k => k = w.heap.size) w4 w4.drew := Step.refl.drew
  have hc1 : Step (fun k => k = w.heap.size) w4 (w4.drew.setCell ⟨w.heap.size, 12, none⟩ (.int .u32 (o.n : Int))) := Step.setCell (F := fun k => k = w.heap.size) hc0 (.inl rfl) _
  have hc2 : Step (fun k => k = w.heap.size) w4 ((w4.drew.setCell ⟨w.heap.size, 12, none⟩ (.int .u32 (o.n : Int))).setCell ⟨w.heap.size, 13, none⟩ (.int .u32 (o.n2 : Int))) := Step.setCell (F := fun k => k = w.heap.size) hc1 (.inl rfl) _
  have hc3 : Step (fun k => k = w.heap.size) w4 (((w4.drew.setCell ⟨w.heap.size, 12, none⟩ (.int .u32 (o.n : Int))).setCell ⟨w.heap.size, 13, none⟩ (.int .u32 (o.n2 : Int))).setCell ⟨w.heap.size, 14, none⟩ (.int .u32 (o.n : Int))) := Step.setCell (F := fun k => k = w.heap.size) hc2 (.inl rfl) _
  have hc4 : Step (fun k => k = w.heap.size) w4 ((((w4.drew.setCell ⟨w.heap.size, 12, none⟩ (.int .u32 (o.n : Int))).setCell ⟨w.heap.size, 13, none⟩ (.int .u32 (o.n2 : Int))).setCell ⟨w.heap.size, 14, none⟩ (.int .u32 (o.n : Int))).setCell ⟨w.heap.size, 15, none⟩ (.int .u32 (o.n2 : Int))) := Step.setCell (F := fun k => k = w.heap.size) hc3 (.inl rfl) _
  refine Mix.wp_region_mix [10, 13, 16, 19] [10, 13, 16] (Step (fun k => k = w.heap.size) w4) (by kernel_rfl) (by kernel_rfl) (Step.refl.drew) (fun hcls => ?_)
  refine Mix.wpL_reads 10 (by rfl) ?_
  simp only [List.take_succ_cons, List.drop_succ_cons, List.take_zero, List.drop_zero]
  repeat (go_big_quiet_step (fail))
  refine wpQuiet_nil ?_
  refine Mix.wpL_op (by rfl) (fun K hK => ?_)
  go_simp
  refine hK _ _ (fun hlt => Mix.cl (hc1)) ?_
  clear hK K
  refine Mix.wpL_reads 2 (by rfl) ?_
  simp only [List.take_succ_cons, List.drop_succ_cons, List.take_zero, List.drop_zero]
  repeat (go_big_quiet_step (fail))
  refine wpQuiet_nil ?_
  refine Mix.wpL_op (by rfl) (fun K hK => ?_)
  go_simp
  refine hK _ _ (fun hlt => Mix.cl (hc2)) ?_
  clear hK K
  refine Mix.wpL_reads 2 (by rfl) ?_
  simp only [List.take_succ_cons, List.drop_succ_cons, List.take_zero, List.drop_zero]
  repeat (go_big_quiet_step (fail))
  refine wpQuiet_nil ?_
  refine Mix.wpL_op (by rfl) (fun K hK => ?_)
  go_simp
  refine hK _ _ (fun hlt => Mix.cl (hc3)) ?_
  clear hK K
  refine Mix.wpL_reads 2 (by rfl) ?_
  simp only [List.take_succ_cons, List.drop_succ_cons, List.take_zero, List.drop_zero]
  repeat (go_big_quiet_step (fail))
  refine wpQuiet_nil ?_
  refine Mix.wpL_op (by rfl) (fun K hK => ?_)
  go_simp
  refine hK _ _ (fun hlt => absurd hlt (by decide)) ?_
  clear hK K
  refine Mix.wpL_end ?_
  obtain ⟨W3, hW3⟩ : ∃ W3, W3 = (((((w4.setCell ⟨w.heap.size, 12, none⟩ (.int .u32 (o.n : Int))).setCell ⟨w.heap.size, 13, none⟩ (.int .u32 (o.n2 : Int))).setCell ⟨w.heap.size, 14, none⟩ (.int .u32 (o.n : Int))).setCell ⟨w.heap.size, 15, none⟩ (.int .u32 (o.n2 : Int))).drew) := ⟨_, rfl⟩
  obtain ⟨MB, hMB⟩ : ∃ MB, MB = mdC am { m with d1 := o.n, d2 := o.n2, d3 := o.n, d4 := o.n2 } := ⟨_, rfl⟩
  have HMB := Lib.hid hMB
  have H17b : Hid (MB.size = 17) := by rw [Hid, hMB]; rfl
  have H1b : Hid (MB.all (·.oneCell') = true) := by rw [Hid, hMB]; exact mdC_one _ _
  have HB3 : Hid (Blk W3 w.heap.size 41 MB) := by
    have := (((((HB4.out : Blk w4 _ _ _).set_ 12 (.int .u32 (o.n : Int))).set_ 13 (.int .u32 (o.n2 : Int))).set_ 14 (.int .u32 (o.n : Int))).set_ 15 (.int .u32 (o.n2 : Int)))
    rw [HMA.out] at this
    rw [hW3, hMB]
    simp [mdC] at this
    simp [mdC]
    exact this
  have HZ3 : Hid (Blk W3 (w.heap.size + 1 + 1) 41 #[.slice none 0 0, .slice none 0 0, .slice none 0 0, .slice none 0 0, .slice none 0 0, .slice none 0 0, .slice none 0 0, .int .i64 0, .slice none 0 0, .slice none 0 0, .slice none 0 0, .bool false, .int .u32 0, .int .u32 0, .int .u32 0, .int .u32 0, .slice none 0 0]) := by rw [hW3]; exact HZ4.out.step hc4 (by show ¬ (w.heap.size + 1 + 1 = w.heap.size); omega)
  have HSV : Hid (Step (fun k => k = w.heap.size) w4 W3) := by rw [hW3]; exact hc4
  rw [← hW3]
  clear hW3 hMB hc0 hc1 hc2 hc3 hc4 c12 z12 c13 z13 c14 z14 c15 z15 dy2 dy3
  go_wp2_with (first | (refine ld_mod rfl _ rfl _ rfl MB HB3.out H17b.out ?_) | (refine st_mod rfl _ _ rfl rfl (w.heap.size + 1 + 1) rfl MB rfl HZ3.out rfl H17b.out H1b.out ?_))
  refine bodyPost_ret (v := .tuple #[.agg MB, .bool true]) (res_mod2 Try.results9 (w.heap.size + 1 + 1) rfl rfl (Blk.row HZ3.out MB) H17b.out) rfl ?_
  have h46 : Step (fun k => w.heap.size ≤ k ∧ k < v4.heap.size) w4 (W3.setRow (w.heap.size + 1 + 1) MB) := (HSV.out.mono (F' := fun k => w.heap.size ≤ k ∧ k < v4.heap.size) (fun k _ e => by omega)).trans (Step.setRow (F := fun k => w.heap.size ≤ k ∧ k < v4.heap.size) Step.refl (.inl (by omega)) MB)
  have hr5 := (HRF4.out.step h46 (fun k hk e => by have := hk.2; omega)).mono (S' := fun k => Old T w k ∨ (v4.heap.size ≤ k ∧ ¬ ftA X a k)) (fun _ _ => .inl)
  have hr6 : Rf _ (fun k => Old T w k ∨ (v4.heap.size ≤ k ∧ ¬ ftA X a k)) am { m with d1 := o.n, d2 := o.n2, d3 := o.n, d4 := o.n2 } := ⟨hr5.r0, hr5.r1, hr5.r2, hr5.r5, hr5.r6, hr5.r8, hr5.r9, hr5.r10, hr5.r16⟩
  have hfin := HH.out.fin2 HS.out HMK.out HU.out hr6 h46 (by exact Inn.mono (Inn.same (HH.out.inn4 HS.out HU.out) rfl rfl) (fun k _ hk => Or.inl hk)) (by exact Inn.mono (Inn.same ((HH.out.inm4 HS.out HU.out).step h46 (fun k hk e => by have := hk.2; omega)) rfl rfl) (fun k _ hk => Or.inl hk)) (⟨HA.out.q0, HA.out.q1, HA.out.q2, HA.out.q5, HA.out.q6, HA.out.q10, HA.out.q16, HA.out.st, rfl, rfl, rfl, rfl, HA.out.q8, HA.out.q9⟩)
  exact ⟨_, _, _, _, _, _, _, by rw [HMB.out], hfin.1, hfin.2, Grow.refl s⟩

set_option maxRecDepth 100000 in
set_option maxHeartbeats 12800000 in
theorem do11 (h : St T w B X a s tk vr am m) (hB : B ≤ w.heap.size) (hl : s.small 900) (o : Opx) (ho : o.ok w (Old T w))  :
    Calls Try.prog 9 #[.pointer (some ⟨X, 0, none⟩), .agg (mdC am m), .agg #[.int .i64 11, .string (str o.s), .int .u32 (o.n : Int), .int .u32 (o.n2 : Int), .string (str o.t.p), .string (str o.t.r), .string (str o.lo), .slice o.A o.bo.length o.c, .int .u8 (o.vt : Int), .int .u64 (o.vn : Int), .bool o.mu]] w (DOut T w B X a s) := by
  have hlm := h.al.small hl
  obtain ⟨l0, l1, l2, l5, l6, l8, l9, l10, l16⟩ := hl
  obtain ⟨k0, k1, k2, k5, k6, k8, k9, k10, k16⟩ := hlm
  have hl' : s.small 1000 := ⟨by omega, by omega, by omega, by omega, by omega, by omega, by omega, by omega, by omega⟩
  have HLS := Lib.hid hl'
  have HA := Lib.hid h.al
  have HH := Lib.hid h
  have HO := Lib.hid ho
  have hn1 := ho.n
  have hn2 := ho.n2
  have hw64 := IntWalk.u64_in (o.n : Int) (by omega)
  obtain ⟨v1, hv1⟩ : ∃ v1, v1 = w.alloc (.cells (mdC am m) 41) := ⟨_, rfl⟩
  obtain ⟨v2, hv2⟩ : ∃ v2, v2 = v1.alloc (.cells #[.int .i64 11, .string (str o.s), .int .u32 (o.n : Int), .int .u32 (o.n2 : Int), .string (str o.t.p), .string (str o.t.r), .string (str o.lo), .slice o.A o.bo.length o.c, .int .u8 (o.vt : Int), .int .u64 (o.vn : Int), .bool o.mu] 52) := ⟨_, rfl⟩
  obtain ⟨v3, hv3⟩ : ∃ v3, v3 = v2.alloc (.cells #[.slice none 0 0, .slice none 0 0, .slice none 0 0, .slice none 0 0, .slice none 0 0, .slice none 0 0, .slice none 0 0, .int .i64 0, .slice none 0 0, .slice none 0 0, .slice none 0 0, .bool false, .int .u32 0, .int .u32 0, .int .u32 0, .int .u32 0, .slice none 0 0] 41) := ⟨_, rfl⟩
  obtain ⟨v4, hv4⟩ : ∃ v4, v4 = v3.alloc (.cells #[Value.int .u8 35, .int .u64 (o.n : Int), .int .u64 0, .slice none 0 0] 59) := ⟨_, rfl⟩
  have e0 : w.heap.size = w.heap.size := rfl
  have e1 : v1.heap.size = w.heap.size + 1 := by rw [hv1]; simp [e0]
  have s1 : Step (fun _ => False) w v1 := by rw [hv1]; exact Step.alloc Step.refl _
  have e2 : v2.heap.size = w.heap.size + 1 + 1 := by rw [hv2]; simp [e1]
  have s2 : Step (fun _ => False) v1 v2 := by rw [hv2]; exact Step.alloc Step.refl _
  have e3 : v3.heap.size = w.heap.size + 1 + 1 + 1 := by rw [hv3]; simp [e2]
  have s3 : Step (fun _ => False) v2 v3 := by rw [hv3]; exact Step.alloc Step.refl _
  have e4 : v4.heap.size = w.heap.size + 1 + 1 + 1 + 1 := by rw [hv4]; simp [e3]
  have s4 : Step (fun _ => False) v3 v4 := by rw [hv4]; exact Step.alloc Step.refl _
  have HB : Hid (Blk v4 (w.heap.size) 41 (mdC am m)) := by
    have h1 : Blk v1 w.heap.size 41 (mdC am m) := by rw [hv1]; exact Blk.new w _ _
    exact (((h1.step s2 id).step s3 id).step s4 id)
  have HX : Hid (Blk v4 (w.heap.size + 1) 52 #[.int .i64 11, .string (str o.s), .int .u32 (o.n : Int), .int .u32 (o.n2 : Int), .string (str o.t.p), .string (str o.t.r), .string (str o.lo), .slice o.A o.bo.length o.c, .int .u8 (o.vt : Int), .int .u64 (o.vn : Int), .bool o.mu]) := by
    have h1 : Blk v2 v1.heap.size 52 #[.int .i64 11, .string (str o.s), .int .u32 (o.n : Int), .int .u32 (o.n2 : Int), .string (str o.t.p), .string (str o.t.r), .string (str o.lo), .slice o.A o.bo.length o.c, .int .u8 (o.vt : Int), .int .u64 (o.vn : Int), .bool o.mu] := by rw [hv2]; exact Blk.new v1 _ _
    rw [e1] at h1
    exact ((h1.step s3 id).step s4 id)
  have HZ : Hid (Blk v4 (w.heap.size + 1 + 1) 41 #[.slice none 0 0, .slice none 0 0, .slice none 0 0, .slice none 0 0, .slice none 0 0, .slice none 0 0, .slice none 0 0, .int .i64 0, .slice none 0 0, .slice none 0 0, .slice none 0 0, .bool false, .int .u32 0, .int .u32 0, .int .u32 0, .int .u32 0, .slice none 0 0]) := by
    have h1 : Blk v3 v2.heap.size 41 #[.slice none 0 0, .slice none 0 0, .slice none 0 0, .slice none 0 0, .slice none 0 0, .slice none 0 0, .slice none 0 0, .int .i64 0, .slice none 0 0, .slice none 0 0, .slice none 0 0, .bool false, .int .u32 0, .int .u32 0, .int .u32 0, .int .u32 0, .slice none 0 0] := by rw [hv3]; exact Blk.new v2 _ _
    rw [e2] at h1
    exact (h1.step s4 id)
  have HG : Hid (Blk v4 (w.heap.size + 1 + 1 + 1) 59 #[Value.int .u8 35, .int .u64 (o.n : Int), .int .u64 0, .slice none 0 0]) := by
    have h1 : Blk v4 v3.heap.size 59 #[Value.int .u8 35, .int .u64 (o.n : Int), .int .u64 0, .slice none 0 0] := by rw [hv4]; exact Blk.new v3 _ _
    rw [e3] at h1
    exact h1
  have HS : Hid (Step (fun _ => False) w v4) := s1 |>.trans s2 |>.trans s3 |>.trans s4
  have HE1 := Lib.hid hv1
  have HE2 := Lib.hid hv2
  have HE3 := Lib.hid hv3
  have HE4 := Lib.hid hv4
  clear e1 s1 hv1 e2 s2 hv2 e3 s3 hv3 e4 s4 hv4 e0
  have x0 := HX.out.cell 0
  have x2 := HX.out.cell 2
  simp at x0 x2
  rw [HE4.out, HE3.out, HE2.out, HE1.out] at x0 x2
  have hszv : v4.heap.size = w.heap.size + 1 + 1 + 1 + 1 := by rw [HE4.out, HE3.out, HE2.out, HE1.out]; simp
  have hB3 : B ≤ v4.heap.size := by omega
  have HM3 := Lib.hid (h.mkr.quiet HS.out)
  have hin : ∀ k, ftA X a k → k < w.heap.size := h.mkr.in_
  have hkm := start_ok v4 B X a s tk vr HM3.out o.n hn1
  have HKM := Lib.hid hkm
  have HIN := Lib.hid hin
  obtain ⟨MA, hMA⟩ : ∃ MA, MA = mdC am m := ⟨_, rfl⟩
  rw [← hMA] at HE1 HB ⊢
  have HMA := Lib.hid hMA
  have H17 : Hid (MA.size = 17) := by rw [Hid, hMA]; rfl
  have H1 : Hid (MA.all (·.oneCell') = true) := by rw [Hid, hMA]; exact mdC_one am m
  clear hMA
  clear h hkm hin ho hl' 
  go_enter Try.func9, Try.ntmps9
  go_wp2_with (first | (refine ld_mod rfl _ rfl _ rfl MA (by first | exact HB.out | (rw [← HE1.out, ← HE2.out, ← HE3.out, ← HE4.out]; exact HB.out)) H17.out ?_))
  rw [← HE1.out]
  rw [← HE2.out]
  rw [← HE3.out]
  rw [← HE4.out]
  clear x0 x2
  refine HKM.out.mono ?_
  rintro e w4 ⟨rfl, hm, hu⟩
  have HB4 := Lib.hid (HB.out.step hu.1 (fun e => Nat.lt_irrefl _ (HIN.out _ e)))
  have HX4 := Lib.hid (HX.out.step hu.1 (fun e => by have := HIN.out _ e; omega))
  have HZ4 := Lib.hid (HZ.out.step hu.1 (fun e => by have := HIN.out _ e; omega))
  have HG4 := Lib.hid (HG.out.step hu.1 (fun e => by have := HIN.out _ e; omega))
  have HU := Lib.hid hu
  have HMK := Lib.hid hm
  have HRF4 := Lib.hid (HH.out.rf4 HS.out hu)
  have HS4 : Hid (Step (fun k => ftA X a k) w w4) := (HS.out.mono (fun _ _ h => h.elim)).trans hu.1
  have hsz4 := hu.1.size
  have hin4 : Hid (∀ k, ftA X a k → k < w4.heap.size) := hm.in_
  clear hu hm
  have y0 := HX4.out.cell 0
  have y2 := HX4.out.cell 2
  simp at y0 y2
  have c7 := HB4.out.cell 7
  have z7 := HB4.out.frozen 7
  rw [HMA.out] at c7
  simp [mdC] at c7
  have hw3 := IntWalk.i64_in (o.n : Int) (by omega)
  have hc : Step (fun k => k = w.heap.size) w4 (w4.setCell ⟨w.heap.size, 7, none⟩ (.int .i64 (o.n : Int))) := Step.setCell (F := fun k => k = w.heap.size) Step.refl (.inl rfl) _
  obtain ⟨W3, hW3⟩ : ∃ W3, W3 = (w4.setCell ⟨w.heap.size, 7, none⟩ (.int .i64 (o.n : Int))) := ⟨_, rfl⟩
  obtain ⟨MB, hMB⟩ : ∃ MB, MB = mdC am { m with st := (o.n : Int) } := ⟨_, rfl⟩
  have HMB := Lib.hid hMB
  have H17b : Hid (MB.size = 17) := by rw [Hid, hMB]; rfl
  have H1b : Hid (MB.all (·.oneCell') = true) := by rw [Hid, hMB]; exact mdC_one _ _
  have HB3 : Hid (Blk W3 w.heap.size 41 MB) := by
    have := ((HB4.out : Blk w4 _ _ _).set_ 7 (.int .i64 (o.n : Int)))
    rw [HMA.out] at this
    rw [hW3, hMB]
    simp [mdC] at this
    simp [mdC]
    exact this
  have HZ3 : Hid (Blk W3 (w.heap.size + 1 + 1) 41 #[.slice none 0 0, .slice none 0 0, .slice none 0 0, .slice none 0 0, .slice none 0 0, .slice none 0 0, .slice none 0 0, .int .i64 0, .slice none 0 0, .slice none 0 0, .slice none 0 0, .bool false, .int .u32 0, .int .u32 0, .int .u32 0, .int .u32 0, .slice none 0 0]) := by rw [hW3]; exact HZ4.out.step hc (by show ¬ (w.heap.size + 1 + 1 = w.heap.size); omega)
  have HSV : Hid (Step (fun k => k = w.heap.size) w4 W3) := by rw [hW3]; exact hc
  have HW3 := Lib.hid hW3
  clear hW3 hMB hc
  go_wp2_with (first | (refine ld_mod rfl _ rfl _ rfl MB (by rw [← HW3.out]; exact HB3.out) H17b.out ?_) | (refine st_mod rfl _ _ rfl rfl (w.heap.size + 1 + 1) rfl MB rfl (by rw [← HW3.out]; exact HZ3.out) rfl H17b.out H1b.out ?_))
  rw [← HW3.out]
  refine bodyPost_ret (v := .tuple #[.agg MB, .bool true]) (res_mod2 Try.results9 (w.heap.size + 1 + 1) rfl rfl (Blk.row HZ3.out MB) H17b.out) rfl ?_
  have h46 : Step (fun k => w.heap.size ≤ k ∧ k < v4.heap.size) w4 (W3.setRow (w.heap.size + 1 + 1) MB) := (HSV.out.mono (F' := fun k => w.heap.size ≤ k ∧ k < v4.heap.size) (fun k _ e => by omega)).trans (Step.setRow (F := fun k => w.heap.size ≤ k ∧ k < v4.heap.size) Step.refl (.inl (by omega)) MB)
  have hr5 := (HRF4.out.step h46 (fun k hk e => by have := hk.2; omega)).mono (S' := fun k => Old T w k ∨ (v4.heap.size ≤ k ∧ ¬ ftA X a k)) (fun _ _ => .inl)
  have hr6 : Rf _ (fun k => Old T w k ∨ (v4.heap.size ≤ k ∧ ¬ ftA X a k)) am { m with st := (o.n : Int) } := ⟨hr5.r0, hr5.r1, hr5.r2, hr5.r5, hr5.r6, hr5.r8, hr5.r9, hr5.r10, hr5.r16⟩
  have hfin := HH.out.fin2 HS.out HMK.out HU.out hr6 h46 (by exact Inn.mono (Inn.same (HH.out.inn4 HS.out HU.out) rfl rfl) (fun k _ hk => Or.inl hk)) (by exact Inn.mono (Inn.same ((HH.out.inm4 HS.out HU.out).step h46 (fun k hk e => by have := hk.2; omega)) rfl rfl) (fun k _ hk => Or.inl hk)) (⟨HA.out.q0, HA.out.q1, HA.out.q2, HA.out.q5, HA.out.q6, HA.out.q10, HA.out.q16, rfl, HA.out.d1, HA.out.d2, HA.out.d3, HA.out.d4, HA.out.q8, HA.out.q9⟩)
  exact ⟨_, _, _, _, _, _, _, by rw [HMB.out], hfin.1, hfin.2, Grow.refl s⟩

set_option maxRecDepth 100000 in
set_option maxHeartbeats 12800000 in
theorem do_other (h : St T w B X a s tk vr am m) (hB : B ≤ w.heap.size) (o : Opx) (hn1 : o.n < 4294967296) (hk : ∀ j : Int, j = 0 ∨ j = 1 ∨ (10 ≤ j ∧ j ≤ 13) → o.k ≠ j)
    (hnum : ∀ w1 : World, B ≤ w1.heap.size → Step (fun _ => False) w w1 → St (Old T w) w1 B X a s tk vr am m → Calls Try.prog 28 #[.pointer (some ⟨X, 0, none⟩), .agg (mdC am m), .agg #[.int .i64 o.k, .string (str o.s), .int .u32 (o.n : Int), .int .u32 (o.n2 : Int), .string (str o.t.p), .string (str o.t.r), .string (str o.lo), .slice o.A o.bo.length o.c, .int .u8 (o.vt : Int), .int .u64 (o.vn : Int), .bool o.mu]] w1 (DOut (Old T w) w1 B X a s)) :
    Calls Try.prog 9 #[.pointer (some ⟨X, 0, none⟩), .agg (mdC am m), .agg #[.int .i64 o.k, .string (str o.s), .int .u32 (o.n : Int), .int .u32 (o.n2 : Int), .string (str o.t.p), .string (str o.t.r), .string (str o.lo), .slice o.A o.bo.length o.c, .int .u8 (o.vt : Int), .int .u64 (o.vn : Int), .bool o.mu]] w (DOut T w B X a s) := by
  have HH := Lib.hid h
  have hw64 := IntWalk.u64_in (o.n : Int) (by omega)
  have q0 : (o.k == 0) = false := beq_eq_false_iff_ne.2 (hk 0 (by omega))
  have q1 : (o.k == 1) = false := beq_eq_false_iff_ne.2 (hk 1 (by omega))
  have q10 : (o.k == 10) = false := beq_eq_false_iff_ne.2 (hk 10 (by omega))
  have q11 : (o.k == 11) = false := beq_eq_false_iff_ne.2 (hk 11 (by omega))
  have q12 : (o.k == 12) = false := beq_eq_false_iff_ne.2 (hk 12 (by omega))
  have q13 : (o.k == 13) = false := beq_eq_false_iff_ne.2 (hk 13 (by omega))
  obtain ⟨v1, hv1⟩ : ∃ v1, v1 = w.alloc (.cells (mdC am m) 41) := ⟨_, rfl⟩
  obtain ⟨v2, hv2⟩ : ∃ v2, v2 = v1.alloc (.cells #[.int .i64 o.k, .string (str o.s), .int .u32 (o.n : Int), .int .u32 (o.n2 : Int), .string (str o.t.p), .string (str o.t.r), .string (str o.lo), .slice o.A o.bo.length o.c, .int .u8 (o.vt : Int), .int .u64 (o.vn : Int), .bool o.mu] 52) := ⟨_, rfl⟩
  obtain ⟨v3, hv3⟩ : ∃ v3, v3 = v2.alloc (.cells #[.slice none 0 0, .slice none 0 0, .slice none 0 0, .slice none 0 0, .slice none 0 0, .slice none 0 0, .slice none 0 0, .int .i64 0, .slice none 0 0, .slice none 0 0, .slice none 0 0, .bool false, .int .u32 0, .int .u32 0, .int .u32 0, .int .u32 0, .slice none 0 0] 41) := ⟨_, rfl⟩
  obtain ⟨v4, hv4⟩ : ∃ v4, v4 = v3.alloc (.cells #[Value.int .u8 35, .int .u64 (o.n : Int), .int .u64 0, .slice none 0 0] 59) := ⟨_, rfl⟩
  have e0 : w.heap.size = w.heap.size := rfl
  have e1 : v1.heap.size = w.heap.size + 1 := by rw [hv1]; simp [e0]
  have s1 : Step (fun _ => False) w v1 := by rw [hv1]; exact Step.alloc Step.refl _
  have e2 : v2.heap.size = w.heap.size + 1 + 1 := by rw [hv2]; simp [e1]
  have s2 : Step (fun _ => False) v1 v2 := by rw [hv2]; exact Step.alloc Step.refl _
  have e3 : v3.heap.size = w.heap.size + 1 + 1 + 1 := by rw [hv3]; simp [e2]
  have s3 : Step (fun _ => False) v2 v3 := by rw [hv3]; exact Step.alloc Step.refl _
  have e4 : v4.heap.size = w.heap.size + 1 + 1 + 1 + 1 := by rw [hv4]; simp [e3]
  have s4 : Step (fun _ => False) v3 v4 := by rw [hv4]; exact Step.alloc Step.refl _
  have HB : Hid (Blk v4 (w.heap.size) 41 (mdC am m)) := by
    have h1 : Blk v1 w.heap.size 41 (mdC am m) := by rw [hv1]; exact Blk.new w _ _
    exact (((h1.step s2 id).step s3 id).step s4 id)
  have HX : Hid (Blk v4 (w.heap.size + 1) 52 #[.int .i64 o.k, .string (str o.s), .int .u32 (o.n : Int), .int .u32 (o.n2 : Int), .string (str o.t.p), .string (str o.t.r), .string (str o.lo), .slice o.A o.bo.length o.c, .int .u8 (o.vt : Int), .int .u64 (o.vn : Int), .bool o.mu]) := by
    have h1 : Blk v2 v1.heap.size 52 #[.int .i64 o.k, .string (str o.s), .int .u32 (o.n : Int), .int .u32 (o.n2 : Int), .string (str o.t.p), .string (str o.t.r), .string (str o.lo), .slice o.A o.bo.length o.c, .int .u8 (o.vt : Int), .int .u64 (o.vn : Int), .bool o.mu] := by rw [hv2]; exact Blk.new v1 _ _
    rw [e1] at h1
    exact ((h1.step s3 id).step s4 id)
  have HZ : Hid (Blk v4 (w.heap.size + 1 + 1) 41 #[.slice none 0 0, .slice none 0 0, .slice none 0 0, .slice none 0 0, .slice none 0 0, .slice none 0 0, .slice none 0 0, .int .i64 0, .slice none 0 0, .slice none 0 0, .slice none 0 0, .bool false, .int .u32 0, .int .u32 0, .int .u32 0, .int .u32 0, .slice none 0 0]) := by
    have h1 : Blk v3 v2.heap.size 41 #[.slice none 0 0, .slice none 0 0, .slice none 0 0, .slice none 0 0, .slice none 0 0, .slice none 0 0, .slice none 0 0, .int .i64 0, .slice none 0 0, .slice none 0 0, .slice none 0 0, .bool false, .int .u32 0, .int .u32 0, .int .u32 0, .int .u32 0, .slice none 0 0] := by rw [hv3]; exact Blk.new v2 _ _
    rw [e2] at h1
    exact (h1.step s4 id)
  have HG : Hid (Blk v4 (w.heap.size + 1 + 1 + 1) 59 #[Value.int .u8 35, .int .u64 (o.n : Int), .int .u64 0, .slice none 0 0]) := by
    have h1 : Blk v4 v3.heap.size 59 #[Value.int .u8 35, .int .u64 (o.n : Int), .int .u64 0, .slice none 0 0] := by rw [hv4]; exact Blk.new v3 _ _
    rw [e3] at h1
    exact h1
  have HS : Hid (Step (fun _ => False) w v4) := s1 |>.trans s2 |>.trans s3 |>.trans s4
  have HE1 := Lib.hid hv1
  have HE2 := Lib.hid hv2
  have HE3 := Lib.hid hv3
  have HE4 := Lib.hid hv4
  clear e1 s1 hv1 e2 s2 hv2 e3 s3 hv3 e4 s4 hv4 e0
  have hszv : v4.heap.size = w.heap.size + 1 + 1 + 1 + 1 := by rw [HE4.out, HE3.out, HE2.out, HE1.out]; simp
  have hst4 : St (Old T w) v4 B X a s tk vr am m := ⟨h.mkr.quiet HS.out, fun k hk => h.sep k hk.1, h.innO.step HS.out (fun _ _ => id), h.old.step HS.out (fun _ _ => id), h.inmO.step HS.out (fun _ _ => id), h.al⟩
  have hnm := hnum v4 (by omega) HS.out hst4
  obtain ⟨MA, hMA⟩ : ∃ MA, MA = mdC am m := ⟨_, rfl⟩
  rw [← hMA] at HE1 HB ⊢
  have HMA := Lib.hid hMA
  have H17 : Hid (MA.size = 17) := by rw [Hid, hMA]; rfl
  have H1 : Hid (MA.all (·.oneCell') = true) := by rw [Hid, hMA]; exact mdC_one am m
  clear hMA
  rw [show mdC am m = MA from HMA.out.symm] at hnm
  have HNM := Lib.hid hnm
  have HIN : Hid (∀ k, ftA X a k → k < w.heap.size) := h.mkr.in_
  have x0 := HX.out.cell 0
  have x1 := HX.out.cell 1
  have x2 := HX.out.cell 2
  have x3 := HX.out.cell 3
  have x4 := HX.out.cell 4
  have x5 := HX.out.cell 5
  have x6 := HX.out.cell 6
  have x7 := HX.out.cell 7
  have x8 := HX.out.cell 8
  have x9 := HX.out.cell 9
  have x10 := HX.out.cell 10
  simp at x0 x1 x2 x3 x4 x5 x6 x7 x8 x9 x10
  rw [HE4.out, HE3.out, HE2.out, HE1.out] at x0 x1 x2 x3 x4 x5 x6 x7 x8 x9 x10
  clear h hk hnm hst4 hnum
  go_enter Try.func9, Try.ntmps9
  go_wp2_with (first | (refine ld_mod rfl _ rfl _ rfl MA (by first | exact HB.out | (rw [← HE1.out, ← HE2.out, ← HE3.out, ← HE4.out]; exact HB.out)) H17.out ?_))
  rw [← HE1.out]
  rw [← HE2.out]
  rw [← HE3.out]
  rw [← HE4.out]
  clear x0 x1 x2 x3 x4 x5 x6 x7 x8 x9 x10
  refine HNM.out.mono ?_
  rintro e w5 ⟨a1, s1, tk1, vr1, am1, m1, b1, rfl, hst, hup, hgr⟩
  obtain ⟨MB, hMB⟩ : ∃ MB, MB = mdC am1 m1 := ⟨_, rfl⟩
  have HMB := Lib.hid hMB
  rw [← hMB]
  have H17b : Hid (MB.size = 17) := by rw [Hid, hMB]; rfl
  have H1b : Hid (MB.all (·.oneCell') = true) := by rw [Hid, hMB]; exact mdC_one _ _
  have HZ5 := Lib.hid (HZ.out.step hup.1 (fun e => by have := HIN.out _ e; omega))
  have HST := Lib.hid hst
  have HUP := Lib.hid hup
  have HGR := Lib.hid hgr
  clear hMB hst hup hgr
  go_wp2_with (first | (refine st_mod rfl _ _ rfl rfl (w.heap.size + 1 + 1) rfl MB rfl HZ5.out rfl H17b.out H1b.out ?_))
  refine bodyPost_ret (v := .tuple #[.agg MB, .bool b1]) (res_mod2 Try.results9 (w.heap.size + 1 + 1) rfl rfl (Blk.row HZ5.out MB) H17b.out) rfl ?_
  have h56 : Step (fun k => w.heap.size ≤ k ∧ k < v4.heap.size) w5 (w5.setRow (w.heap.size + 1 + 1) MB) := Step.setRow (F := fun k => w.heap.size ≤ k ∧ k < v4.heap.size) Step.refl (.inl (by omega)) MB
  have hap : ∀ k, ftA X a1 k → ¬ (w.heap.size ≤ k ∧ k < v4.heap.size) := fun k hk e => by
    rcases HUP.out.2 k hk with h1 | h1
    · have := HIN.out k h1; omega
    · omega
  have hS : ∀ k, New (Old T w) v4 X a1 k → ¬ (w.heap.size ≤ k ∧ k < v4.heap.size) := fun k hk e => by
    rcases hk with h1 | h1
    · have := h1.1.2; omega
    · omega
  have hN : ∀ k, New (Old T w) v4 X a1 k → New T w X a1 k := fun k hk => by
    rcases hk with h1 | h1
    · exact .inl h1.1
    · exact .inr ⟨by omega, h1.2⟩
  have hsepN : ∀ k, New T w X a1 k → ¬ ftA X a1 k := fun k hk e => by
    rcases hk with h1 | h1
    · rcases HUP.out.2 k e with h2 | h2
      · exact HH.out.sep k h1.1 h2
      · have := h1.2; omega
    · exact h1.2 e
  refine ⟨a1, s1, tk1, vr1, am1, m1, b1, by rw [HMB.out], ⟨HST.out.mkr.step h56 hap, hsepN, (HST.out.inn.step h56 hS).mono (fun k _ => hN k), (HST.out.rf.step h56 hS).mono (fun k _ => hN k), (HST.out.inm.step h56 hS).mono (fun k _ => hN k), HST.out.al⟩, (Upd.after HS.out HUP.out).write h56 (fun k hk => hk.1), HGR.out⟩
end
end Go.Proofs.Ytflgpjdpofmbkaa
