/-
  creellaw47: number, the other kinds.
-/
import Derived.Test.YtflgpjdpofmbkaaCsN
set_option linter.unusedVariables false
set_option linter.unusedSimpArgs false
namespace Go.Proofs.Ytflgpjdpofmbkaa
open Go.RowKit
theorem ins_end {w : World} {S : Nat → Prop} {bo : List Ig} (h : ∀ g ∈ bo, g.n = g.L.length ∧ Reads w S 1 g.A g.n (u32s g.L)) : ∀ g ∈ bo ++ [endI], g.n = g.L.length ∧ Reads w S 1 g.A g.n (u32s g.L) := fun g hg => by
  rcases List.mem_append.1 hg with h3 | h3
  · exact h g h3
  · obtain rfl := List.mem_singleton.1 h3
    exact ⟨rfl, Reads.nil_⟩
theorem end_bd {o : Opx} {w : World} {S : Nat → Prop} (h : o.ok w S) : o.lo.length ≤ 100000 ∧ (o.bo ++ [endI]).length ≤ 100000 ∧ ∀ g ∈ o.bo ++ [endI], g.n ≤ 100000 := by
  have h1 := h.lo
  have h2 := h.bl
  refine ⟨by omega, by simp; omega, fun g hg => ?_⟩
  rcases List.mem_append.1 hg with h3 | h3
  · exact h.gb g h3
  · obtain rfl := List.mem_singleton.1 h3
    exact Nat.zero_le _
section
variable (T : Nat → Prop) (w : World) (B X : Nat) (a : Ad) (s : Mo) (tk vr : Int) (am : Ad) (m : Mo)

set_option maxRecDepth 100000 in
set_option maxHeartbeats 12800000 in
theorem num8 (h : St T w B X a s tk vr am m) (hB : B ≤ w.heap.size) (hl : s.small 900) (o : Opx) (ho : o.ok w (Old T w))  :
    Calls Try.prog 28 #[.pointer (some ⟨X, 0, none⟩), .agg (mdC am m), .agg #[.int .i64 8, .string (str o.s), .int .u32 (o.n : Int), .int .u32 (o.n2 : Int), .string (str o.t.p), .string (str o.t.r), .string (str o.lo), .slice o.A o.bo.length o.c, .int .u8 (o.vt : Int), .int .u64 (o.vn : Int), .bool o.mu]] w (DOut T w B X a s) := by
  have hlm := h.al.small hl
  obtain ⟨l0, l1, l2, l5, l6, l8, l9, l10, l16⟩ := hl
  obtain ⟨k0, k1, k2, k5, k6, k8, k9, k10, k16⟩ := hlm
  have hl' : s.small 1000 := ⟨by omega, by omega, by omega, by omega, by omega, by omega, by omega, by omega, by omega⟩
  have hlm' : m.small 1000 := ⟨by omega, by omega, by omega, by omega, by omega, by omega, by omega, by omega, by omega⟩
  have HA := Lib.hid h.al
  have HH := Lib.hid h
  have HO := Lib.hid ho
  have HLS := Lib.hid hl'
  have HLM := Lib.hid hlm'
  obtain ⟨v1, hv1⟩ : ∃ v1, v1 = w.alloc (.cells (mdC am m) 41) := ⟨_, rfl⟩
  obtain ⟨v2, hv2⟩ : ∃ v2, v2 = v1.alloc (.cells #[.int .i64 8, .string (str o.s), .int .u32 (o.n : Int), .int .u32 (o.n2 : Int), .string (str o.t.p), .string (str o.t.r), .string (str o.lo), .slice o.A o.bo.length o.c, .int .u8 (o.vt : Int), .int .u64 (o.vn : Int), .bool o.mu] 52) := ⟨_, rfl⟩
  obtain ⟨v3, hv3⟩ : ∃ v3, v3 = v2.alloc (.cells #[.slice none 0 0, .slice none 0 0, .slice none 0 0, .slice none 0 0, .slice none 0 0, .slice none 0 0, .slice none 0 0, .int .i64 0, .slice none 0 0, .slice none 0 0, .slice none 0 0, .bool false, .int .u32 0, .int .u32 0, .int .u32 0, .int .u32 0, .slice none 0 0] 41) := ⟨_, rfl⟩
  have e0 : w.heap.size = w.heap.size := rfl
  have e1 : v1.heap.size = w.heap.size + 1 := by rw [hv1]; simp [e0]
  have s1 : Step (fun _ => False) w v1 := by rw [hv1]; exact Step.alloc Step.refl _
  have e2 : v2.heap.size = w.heap.size + 1 + 1 := by rw [hv2]; simp [e1]
  have s2 : Step (fun _ => False) v1 v2 := by rw [hv2]; exact Step.alloc Step.refl _
  have e3 : v3.heap.size = w.heap.size + 1 + 1 + 1 := by rw [hv3]; simp [e2]
  have s3 : Step (fun _ => False) v2 v3 := by rw [hv3]; exact Step.alloc Step.refl _
  have HB : Hid (Blk v3 (w.heap.size) 41 (mdC am m)) := by
    have h1 : Blk v1 w.heap.size 41 (mdC am m) := by rw [hv1]; exact Blk.new w _ _
    exact ((h1.step s2 id).step s3 id)
  have HX : Hid (Blk v3 (w.heap.size + 1) 52 #[.int .i64 8, .string (str o.s), .int .u32 (o.n : Int), .int .u32 (o.n2 : Int), .string (str o.t.p), .string (str o.t.r), .string (str o.lo), .slice o.A o.bo.length o.c, .int .u8 (o.vt : Int), .int .u64 (o.vn : Int), .bool o.mu]) := by
    have h1 : Blk v2 v1.heap.size 52 #[.int .i64 8, .string (str o.s), .int .u32 (o.n : Int), .int .u32 (o.n2 : Int), .string (str o.t.p), .string (str o.t.r), .string (str o.lo), .slice o.A o.bo.length o.c, .int .u8 (o.vt : Int), .int .u64 (o.vn : Int), .bool o.mu] := by rw [hv2]; exact Blk.new v1 _ _
    rw [e1] at h1
    exact (h1.step s3 id)
  have HZ : Hid (Blk v3 (w.heap.size + 1 + 1) 41 #[.slice none 0 0, .slice none 0 0, .slice none 0 0, .slice none 0 0, .slice none 0 0, .slice none 0 0, .slice none 0 0, .int .i64 0, .slice none 0 0, .slice none 0 0, .slice none 0 0, .bool false, .int .u32 0, .int .u32 0, .int .u32 0, .int .u32 0, .slice none 0 0]) := by
    have h1 : Blk v3 v2.heap.size 41 #[.slice none 0 0, .slice none 0 0, .slice none 0 0, .slice none 0 0, .slice none 0 0, .slice none 0 0, .slice none 0 0, .int .i64 0, .slice none 0 0, .slice none 0 0, .slice none 0 0, .bool false, .int .u32 0, .int .u32 0, .int .u32 0, .int .u32 0, .slice none 0 0] := by rw [hv3]; exact Blk.new v2 _ _
    rw [e2] at h1
    exact h1
  have HS : Hid (Step (fun _ => False) w v3) := s1 |>.trans s2 |>.trans s3
  have HE1 := Lib.hid hv1
  have HE2 := Lib.hid hv2
  have HE3 := Lib.hid hv3
  clear e1 s1 hv1 e2 s2 hv2 e3 s3 hv3 e0
  have hsz3 : v3.heap.size = w.heap.size + 1 + 1 + 1 := by rw [HE3.out, HE2.out, HE1.out]; simp
  have hB3 : B ≤ v3.heap.size := by omega
  have HM3 := Lib.hid (h.mkr.quiet HS.out)
  have hin : ∀ k, ftA X a k → k < w.heap.size := h.mkr.in_
  have hkm := func_ok v3 B X a s tk vr HM3.out hB3 hl' o.t o.lo ho.lo o.bo ho.bl o.A o.c _ (ho.bo.step HS.out (fun _ _ => id))
  have HKM := Lib.hid hkm
  have HIN := Lib.hid hin
  obtain ⟨MA, hMA⟩ : ∃ MA, MA = mdC am m := ⟨_, rfl⟩
  rw [← hMA] at HE1 HB ⊢
  have HMA := Lib.hid hMA
  have H17 : Hid (MA.size = 17) := by rw [Hid, hMA]; rfl
  have H1 : Hid (MA.all (·.oneCell') = true) := by rw [Hid, hMA]; exact mdC_one am m
  clear hMA
  have x0 := HX.out.cell 0
  have x4 := HX.out.cell 4
  have x5 := HX.out.cell 5
  have x6 := HX.out.cell 6
  have x7 := HX.out.cell 7
  simp at x0 x4 x5 x6 x7
  rw [HE3.out, HE2.out, HE1.out] at x0 x4 x5 x6 x7
  clear h hkm hin ho hl' hlm'
  go_enter Try.func28, Try.ntmps28
  go_wp2_with (first | (refine ld_mod rfl _ rfl _ rfl MA (by first | exact HB.out | (rw [← HE1.out, ← HE2.out, ← HE3.out]; exact HB.out)) H17.out ?_))
  rw [← HE1.out]
  rw [← HE2.out]
  rw [← HE3.out]
  clear x0 x4 x5 x6 x7
  refine HKM.out.mono ?_
  rintro e w4 ⟨⟨z, rfl, -⟩, a1, LA, lc, BA, bc, hm, hu, hla, hba⟩
  have HB4 := Lib.hid (HB.out.step hu.1 (fun e => Nat.lt_irrefl _ (HIN.out _ e)))
  have HX4 := Lib.hid (HX.out.step hu.1 (fun e => by have := HIN.out _ e; omega))
  have HZ4 := Lib.hid (HZ.out.step hu.1 (fun e => by have := HIN.out _ e; omega))
  have HS4 : Hid (Step (fun k => ftA X a k) w w4) := (HS.out.mono (fun _ _ h => h.elim)).trans hu.1
  have HU := Lib.hid hu
  have HMK := Lib.hid hm
  have hrf4 := HH.out.rf4 HS.out hu
  have hrr := rfunc_ok w4 am m _ hrf4 HLM.out o.t o.lo HO.out.lo o.bo HO.out.bl o.A o.c _ ((HO.out.bo.step HS.out (fun _ _ => id)).step hu.1 (fun k hk => HH.out.sep k hk.1))
  rw [show mdC am m = MA from HMA.out.symm] at hrr
  have HRR := Lib.hid hrr
  have hsz4 := hu.1.size
  have y0 := HX4.out.cell 0
  have y4 := HX4.out.cell 4
  have y5 := HX4.out.cell 5
  have y6 := HX4.out.cell 6
  have y7 := HX4.out.cell 7
  simp at y0 y4 y5 y6 y7
  clear hu hm hrf4 hrr 
  have HOb4 := Lib.hid ((HO.out.step HS.out (fun _ _ => id)).step HU.out.1 (fun k hk => HH.out.sep k hk.1))
  have HLA := Lib.hid hla
  have HBA := Lib.hid hba
  clear hla hba
  go_wp2_with (first | (refine ld_mod rfl _ rfl _ rfl MA HB4.out H17.out ?_))
  clear y0 y4 y5 y6 y7
  refine HRR.out.mono ?_
  rintro e w5 ⟨am2, LA2, lc2, BA2, bc2, z2, rfl, hrf5, hla2, hba2, hs5⟩
  obtain ⟨MB, hMB⟩ : ∃ MB, MB = mdC am2 { m with ts := tyL m.ts o.t, fs := m.fs ++ [tyI m.ts o.t], cs := m.cs ++ [⟨o.lo, o.bo ++ [endI], LA2, lc2, BA2, bc2⟩] } := ⟨_, rfl⟩
  have HMB := Lib.hid hMB
  rw [← hMB]
  have H17b : Hid (MB.size = 17) := by rw [HMB.out]; rfl
  have H1b : Hid (MB.all (·.oneCell') = true) := by rw [HMB.out]; exact mdC_one _ _
  have HB5 := Lib.hid (HB4.out.step hs5 id)
  have HZ5 := Lib.hid (HZ4.out.step hs5 id)
  have HS5 := Lib.hid hs5
  have HRF5 := Lib.hid hrf5
  obtain ⟨w6, hw6⟩ : ∃ w6, w6 = w5.setRow w.heap.size MB := ⟨_, rfl⟩
  have HB6 : Hid (Blk w6 w.heap.size 41 MB) := by rw [hw6]; exact HB5.out.row _
  have hs56 : Step (fun k => k = w.heap.size) w5 w6 := by rw [hw6]; exact Step.setRow (F := fun k => k = w.heap.size) Step.refl (.inl rfl) _
  have HZ6 : Hid (Blk w6 (w.heap.size + 1 + 1) 41 #[.slice none 0 0, .slice none 0 0, .slice none 0 0, .slice none 0 0, .slice none 0 0, .slice none 0 0, .slice none 0 0, .int .i64 0, .slice none 0 0, .slice none 0 0, .slice none 0 0, .bool false, .int .u32 0, .int .u32 0, .int .u32 0, .int .u32 0, .slice none 0 0]) := HZ5.out.step hs56 (by show ¬ (w.heap.size + 1 + 1 = w.heap.size); omega)
  have HS56 := Lib.hid hs56
  have HW6 := Lib.hid hw6
  clear hMB hs5 hrf5 hw6 hs56
  have HLA2 := Lib.hid hla2
  have HBA2 := Lib.hid hba2
  clear hla2 hba2
  obtain ⟨bb, hbb⟩ : ∃ bb, ((z : Int) == z2) = bb := ⟨_, rfl⟩
  cases bb
  all_goals
    go_wp2_with (first | (refine st_mod rfl _ _ rfl rfl w.heap.size rfl MB rfl HB5.out H17.out H17b.out H1b.out ?_; rw [← HW6.out]) | (refine ld_mod rfl _ rfl _ rfl MB HB6.out H17b.out ?_) | (refine st_mod rfl _ _ rfl rfl (w.heap.size + 1 + 1) rfl MB rfl HZ6.out rfl H17b.out H1b.out ?_))
    refine bodyPost_ret (v := .tuple #[.agg MB, .bool _]) (res_mod2 Try.results28 (w.heap.size + 1 + 1) rfl rfl (Blk.row HZ6.out MB) H17b.out) rfl ?_
    have h56 : Step (fun k => w.heap.size ≤ k ∧ k < v3.heap.size) w5 (w6.setRow (w.heap.size + 1 + 1) MB) := (HS56.out.mono (F' := fun k => w.heap.size ≤ k ∧ k < v3.heap.size) (fun k _ e => by omega)).trans (Step.setRow (F := fun k => w.heap.size ≤ k ∧ k < v3.heap.size) Step.refl (.inl (by omega)) MB)
    have hfin := HH.out.fin HS.out HMK.out HU.out HRF5.out HS5.out h56 (by exact Inn.addCd (x := ⟨o.lo, o.bo ++ [endI], LA, lc, BA, bc⟩) (Inn.mono (HH.out.inn4 HS.out HU.out) (fun k _ hk => Or.inl hk)) (HLA.out.mono fun k _ hk => Or.inr hk) (HBA.out.mono fun k _ hk => Or.inr hk) (ins_end (fun g h3 => ⟨(HOb4.out.ins g h3).1, ((HOb4.out.ins g h3).2).mono fun k _ hk => Or.inl hk⟩)) (end_bd HO.out) rfl rfl) (by exact Inn.addCd (x := ⟨o.lo, o.bo ++ [endI], LA2, lc2, BA2, bc2⟩) (Inn.mono ((HH.out.inm4 HS.out HU.out).step HS5.out (fun _ _ => id)) (fun k _ hk => Or.inl hk)) (HLA2.out.mono fun k _ hk => Or.inr hk) (HBA2.out.mono fun k _ hk => Or.inr hk) (ins_end (fun g h3 => ⟨(HOb4.out.ins g h3).1, ((HOb4.out.ins g h3).2.step HS5.out (fun _ _ => id)).mono fun k _ hk => Or.inl hk⟩)) (end_bd HO.out) rfl rfl) (⟨by show tyL _ _ = tyL _ _; rw [HA.out.q0], HA.out.q1, by show _ ++ [_] = _ ++ [_]; rw [HA.out.q0, HA.out.q2], HA.out.q5, HA.out.q6, HA.out.q10, HA.out.q16, HA.out.st, HA.out.d1, HA.out.d2, HA.out.d3, HA.out.d4, HA.out.q8, by show List.map Cd.er (_ ++ [_]) = List.map Cd.er (_ ++ [_]); rw [List.map_append, List.map_append, HA.out.q9]; rfl⟩)
    exact ⟨_, _, _, _, _, _, _, by rw [HMB.out], hfin.1, hfin.2, fun n ⟨h0, h1, h2, h3, h4, h5, h6, h7, h8⟩ => ⟨by show (tyL _ _).length ≤ n + 1; exact Nat.le_trans (tyL_len _ _) (Nat.succ_le_succ h0), Nat.le_succ_of_le h1, by show (_ ++ [_]).length ≤ n + 1; rw [List.length_append]; exact Nat.succ_le_succ h2, Nat.le_succ_of_le h3, Nat.le_succ_of_le h4, Nat.le_succ_of_le h5, by show (_ ++ [_]).length ≤ n + 1; rw [List.length_append]; exact Nat.succ_le_succ h6, Nat.le_succ_of_le h7, Nat.le_succ_of_le h8⟩⟩

set_option maxRecDepth 100000 in
set_option maxHeartbeats 12800000 in
theorem num9y (h : St T w B X a s tk vr am m) (hB : B ≤ w.heap.size) (hl : s.small 900) (o : Opx) (ho : o.ok w (Old T w))  :
    Calls Try.prog 28 #[.pointer (some ⟨X, 0, none⟩), .agg (mdC am m), .agg #[.int .i64 9, .string (str o.s), .int .u32 (o.n : Int), .int .u32 (o.n2 : Int), .string (str o.t.p), .string (str o.t.r), .string (str o.lo), .slice o.A o.bo.length o.c, .int .u8 126, .int .u64 (o.vn : Int), .bool o.mu]] w (DOut T w B X a s) := by
  have hlm := h.al.small hl
  obtain ⟨l0, l1, l2, l5, l6, l8, l9, l10, l16⟩ := hl
  obtain ⟨k0, k1, k2, k5, k6, k8, k9, k10, k16⟩ := hlm
  have hl' : s.small 1000 := ⟨by omega, by omega, by omega, by omega, by omega, by omega, by omega, by omega, by omega⟩
  have hlm' : m.small 1000 := ⟨by omega, by omega, by omega, by omega, by omega, by omega, by omega, by omega, by omega⟩
  have HA := Lib.hid h.al
  have HH := Lib.hid h
  have HO := Lib.hid ho
  have HLS := Lib.hid hl'
  have HLM := Lib.hid hlm'
  obtain ⟨v1, hv1⟩ : ∃ v1, v1 = w.alloc (.cells (mdC am m) 41) := ⟨_, rfl⟩
  obtain ⟨v2, hv2⟩ : ∃ v2, v2 = v1.alloc (.cells #[.int .i64 9, .string (str o.s), .int .u32 (o.n : Int), .int .u32 (o.n2 : Int), .string (str o.t.p), .string (str o.t.r), .string (str o.lo), .slice o.A o.bo.length o.c, .int .u8 126, .int .u64 (o.vn : Int), .bool o.mu] 52) := ⟨_, rfl⟩
  obtain ⟨v3, hv3⟩ : ∃ v3, v3 = v2.alloc (.cells #[.slice none 0 0, .slice none 0 0, .slice none 0 0, .slice none 0 0, .slice none 0 0, .slice none 0 0, .slice none 0 0, .int .i64 0, .slice none 0 0, .slice none 0 0, .slice none 0 0, .bool false, .int .u32 0, .int .u32 0, .int .u32 0, .int .u32 0, .slice none 0 0] 41) := ⟨_, rfl⟩
  have e0 : w.heap.size = w.heap.size := rfl
  have e1 : v1.heap.size = w.heap.size + 1 := by rw [hv1]; simp [e0]
  have s1 : Step (fun _ => False) w v1 := by rw [hv1]; exact Step.alloc Step.refl _
  have e2 : v2.heap.size = w.heap.size + 1 + 1 := by rw [hv2]; simp [e1]
  have s2 : Step (fun _ => False) v1 v2 := by rw [hv2]; exact Step.alloc Step.refl _
  have e3 : v3.heap.size = w.heap.size + 1 + 1 + 1 := by rw [hv3]; simp [e2]
  have s3 : Step (fun _ => False) v2 v3 := by rw [hv3]; exact Step.alloc Step.refl _
  have HB : Hid (Blk v3 (w.heap.size) 41 (mdC am m)) := by
    have h1 : Blk v1 w.heap.size 41 (mdC am m) := by rw [hv1]; exact Blk.new w _ _
    exact ((h1.step s2 id).step s3 id)
  have HX : Hid (Blk v3 (w.heap.size + 1) 52 #[.int .i64 9, .string (str o.s), .int .u32 (o.n : Int), .int .u32 (o.n2 : Int), .string (str o.t.p), .string (str o.t.r), .string (str o.lo), .slice o.A o.bo.length o.c, .int .u8 126, .int .u64 (o.vn : Int), .bool o.mu]) := by
    have h1 : Blk v2 v1.heap.size 52 #[.int .i64 9, .string (str o.s), .int .u32 (o.n : Int), .int .u32 (o.n2 : Int), .string (str o.t.p), .string (str o.t.r), .string (str o.lo), .slice o.A o.bo.length o.c, .int .u8 126, .int .u64 (o.vn : Int), .bool o.mu] := by rw [hv2]; exact Blk.new v1 _ _
    rw [e1] at h1
    exact (h1.step s3 id)
  have HZ : Hid (Blk v3 (w.heap.size + 1 + 1) 41 #[.slice none 0 0, .slice none 0 0, .slice none 0 0, .slice none 0 0, .slice none 0 0, .slice none 0 0, .slice none 0 0, .int .i64 0, .slice none 0 0, .slice none 0 0, .slice none 0 0, .bool false, .int .u32 0, .int .u32 0, .int .u32 0, .int .u32 0, .slice none 0 0]) := by
    have h1 : Blk v3 v2.heap.size 41 #[.slice none 0 0, .slice none 0 0, .slice none 0 0, .slice none 0 0, .slice none 0 0, .slice none 0 0, .slice none 0 0, .int .i64 0, .slice none 0 0, .slice none 0 0, .slice none 0 0, .bool false, .int .u32 0, .int .u32 0, .int .u32 0, .int .u32 0, .slice none 0 0] := by rw [hv3]; exact Blk.new v2 _ _
    rw [e2] at h1
    exact h1
  have HS : Hid (Step (fun _ => False) w v3) := s1 |>.trans s2 |>.trans s3
  have HE1 := Lib.hid hv1
  have HE2 := Lib.hid hv2
  have HE3 := Lib.hid hv3
  clear e1 s1 hv1 e2 s2 hv2 e3 s3 hv3 e0
  have hsz3 : v3.heap.size = w.heap.size + 1 + 1 + 1 := by rw [HE3.out, HE2.out, HE1.out]; simp
  have hB3 : B ≤ v3.heap.size := by omega
  have HM3 := Lib.hid (h.mkr.quiet HS.out)
  have hin : ∀ k, ftA X a k → k < w.heap.size := h.mkr.in_
  have hkm := glob_y v3 B X a s tk vr HM3.out hB3 (by omega) o.vn o.mu
  have HKM := Lib.hid hkm
  have HIN := Lib.hid hin
  obtain ⟨MA, hMA⟩ : ∃ MA, MA = mdC am m := ⟨_, rfl⟩
  rw [← hMA] at HE1 HB ⊢
  have HMA := Lib.hid hMA
  have H17 : Hid (MA.size = 17) := by rw [Hid, hMA]; rfl
  have H1 : Hid (MA.all (·.oneCell') = true) := by rw [Hid, hMA]; exact mdC_one am m
  clear hMA
  have x0 := HX.out.cell 0
  have x8 := HX.out.cell 8
  have x9 := HX.out.cell 9
  have x10 := HX.out.cell 10
  simp at x0 x8 x9 x10
  rw [HE3.out, HE2.out, HE1.out] at x0 x8 x9 x10
  clear h hkm hin ho hl' hlm'
  go_enter Try.func28, Try.ntmps28
  go_wp2_with (first | (refine ld_mod rfl _ rfl _ rfl MA (by first | exact HB.out | (rw [← HE1.out, ← HE2.out, ← HE3.out]; exact HB.out)) H17.out ?_))
  rw [← HE1.out]
  rw [← HE2.out]
  rw [← HE3.out]
  clear x0 x8 x9 x10
  refine HKM.out.mono ?_
  rintro e w4 ⟨⟨z, rfl⟩, a1, hm, hu⟩
  have HB4 := Lib.hid (HB.out.step hu.1 (fun e => Nat.lt_irrefl _ (HIN.out _ e)))
  have HX4 := Lib.hid (HX.out.step hu.1 (fun e => by have := HIN.out _ e; omega))
  have HZ4 := Lib.hid (HZ.out.step hu.1 (fun e => by have := HIN.out _ e; omega))
  have HS4 : Hid (Step (fun k => ftA X a k) w w4) := (HS.out.mono (fun _ _ h => h.elim)).trans hu.1
  have HU := Lib.hid hu
  have HMK := Lib.hid hm
  have hrf4 := HH.out.rf4 HS.out hu
  have hrr := rglob_y w4 am m _ hrf4 (by omega) (by omega) o.vn o.mu
  rw [show mdC am m = MA from HMA.out.symm] at hrr
  have HRR := Lib.hid hrr
  have hsz4 := hu.1.size
  have y0 := HX4.out.cell 0
  have y8 := HX4.out.cell 8
  have y9 := HX4.out.cell 9
  have y10 := HX4.out.cell 10
  simp at y0 y8 y9 y10
  clear hu hm hrf4 hrr 
  go_wp2_with (first | (refine ld_mod rfl _ rfl _ rfl MA HB4.out H17.out ?_))
  clear y0 y8 y9 y10
  refine HRR.out.mono ?_
  rintro e w5 ⟨am2, z2, rfl, hrf5, hs5⟩
  obtain ⟨MB, hMB⟩ : ∃ MB, MB = mdC am2 { m with gs := m.gs ++ [⟨126, o.mu, 66, o.vn⟩] } := ⟨_, rfl⟩
  have HMB := Lib.hid hMB
  rw [← hMB]
  have H17b : Hid (MB.size = 17) := by rw [HMB.out]; rfl
  have H1b : Hid (MB.all (·.oneCell') = true) := by rw [HMB.out]; exact mdC_one _ _
  have HB5 := Lib.hid (HB4.out.step hs5 id)
  have HZ5 := Lib.hid (HZ4.out.step hs5 id)
  have HS5 := Lib.hid hs5
  have HRF5 := Lib.hid hrf5
  obtain ⟨w6, hw6⟩ : ∃ w6, w6 = w5.setRow w.heap.size MB := ⟨_, rfl⟩
  have HB6 : Hid (Blk w6 w.heap.size 41 MB) := by rw [hw6]; exact HB5.out.row _
  have hs56 : Step (fun k => k = w.heap.size) w5 w6 := by rw [hw6]; exact Step.setRow (F := fun k => k = w.heap.size) Step.refl (.inl rfl) _
  have HZ6 : Hid (Blk w6 (w.heap.size + 1 + 1) 41 #[.slice none 0 0, .slice none 0 0, .slice none 0 0, .slice none 0 0, .slice none 0 0, .slice none 0 0, .slice none 0 0, .int .i64 0, .slice none 0 0, .slice none 0 0, .slice none 0 0, .bool false, .int .u32 0, .int .u32 0, .int .u32 0, .int .u32 0, .slice none 0 0]) := HZ5.out.step hs56 (by show ¬ (w.heap.size + 1 + 1 = w.heap.size); omega)
  have HS56 := Lib.hid hs56
  have HW6 := Lib.hid hw6
  clear hMB hs5 hrf5 hw6 hs56
  obtain ⟨bb, hbb⟩ : ∃ bb, ((z : Int) == z2) = bb := ⟨_, rfl⟩
  cases bb
  all_goals
    go_wp2_with (first | (refine st_mod rfl _ _ rfl rfl w.heap.size rfl MB rfl HB5.out H17.out H17b.out H1b.out ?_; rw [← HW6.out]) | (refine ld_mod rfl _ rfl _ rfl MB HB6.out H17b.out ?_) | (refine st_mod rfl _ _ rfl rfl (w.heap.size + 1 + 1) rfl MB rfl HZ6.out rfl H17b.out H1b.out ?_))
    refine bodyPost_ret (v := .tuple #[.agg MB, .bool _]) (res_mod2 Try.results28 (w.heap.size + 1 + 1) rfl rfl (Blk.row HZ6.out MB) H17b.out) rfl ?_
    have h56 : Step (fun k => w.heap.size ≤ k ∧ k < v3.heap.size) w5 (w6.setRow (w.heap.size + 1 + 1) MB) := (HS56.out.mono (F' := fun k => w.heap.size ≤ k ∧ k < v3.heap.size) (fun k _ e => by omega)).trans (Step.setRow (F := fun k => w.heap.size ≤ k ∧ k < v3.heap.size) Step.refl (.inl (by omega)) MB)
    have hfin := HH.out.fin HS.out HMK.out HU.out HRF5.out HS5.out h56 (by exact Inn.mono (Inn.same (HH.out.inn4 HS.out HU.out) rfl rfl) (fun k _ hk => Or.inl hk)) (by exact Inn.mono (Inn.same ((HH.out.inm4 HS.out HU.out).step HS5.out (fun _ _ => id)) rfl rfl) (fun k _ hk => Or.inl hk)) (⟨HA.out.q0, HA.out.q1, HA.out.q2, by show _ ++ [_] = _ ++ [_]; rw [HA.out.q5], HA.out.q6, HA.out.q10, HA.out.q16, HA.out.st, HA.out.d1, HA.out.d2, HA.out.d3, HA.out.d4, HA.out.q8, HA.out.q9⟩)
    exact ⟨_, _, _, _, _, _, _, by rw [HMB.out], hfin.1, hfin.2, fun n ⟨h0, h1, h2, h3, h4, h5, h6, h7, h8⟩ => ⟨Nat.le_succ_of_le h0, Nat.le_succ_of_le h1, Nat.le_succ_of_le h2, by show (_ ++ [_]).length ≤ n + 1; rw [List.length_append]; exact Nat.succ_le_succ h3, Nat.le_succ_of_le h4, Nat.le_succ_of_le h5, Nat.le_succ_of_le h6, Nat.le_succ_of_le h7, Nat.le_succ_of_le h8⟩⟩

set_option maxRecDepth 100000 in
set_option maxHeartbeats 12800000 in
theorem num9n (h : St T w B X a s tk vr am m) (hB : B ≤ w.heap.size) (hl : s.small 900) (o : Opx) (ho : o.ok w (Old T w)) (ht : ¬ o.vt = 126) :
    Calls Try.prog 28 #[.pointer (some ⟨X, 0, none⟩), .agg (mdC am m), .agg #[.int .i64 9, .string (str o.s), .int .u32 (o.n : Int), .int .u32 (o.n2 : Int), .string (str o.t.p), .string (str o.t.r), .string (str o.lo), .slice o.A o.bo.length o.c, .int .u8 (o.vt : Int), .int .u64 (o.vn : Int), .bool o.mu]] w (DOut T w B X a s) := by
  have hlm := h.al.small hl
  obtain ⟨l0, l1, l2, l5, l6, l8, l9, l10, l16⟩ := hl
  obtain ⟨k0, k1, k2, k5, k6, k8, k9, k10, k16⟩ := hlm
  have hl' : s.small 1000 := ⟨by omega, by omega, by omega, by omega, by omega, by omega, by omega, by omega, by omega⟩
  have hlm' : m.small 1000 := ⟨by omega, by omega, by omega, by omega, by omega, by omega, by omega, by omega, by omega⟩
  have HA := Lib.hid h.al
  have HH := Lib.hid h
  have HO := Lib.hid ho
  have HLS := Lib.hid hl'
  have HLM := Lib.hid hlm'
  obtain ⟨v1, hv1⟩ : ∃ v1, v1 = w.alloc (.cells (mdC am m) 41) := ⟨_, rfl⟩
  obtain ⟨v2, hv2⟩ : ∃ v2, v2 = v1.alloc (.cells #[.int .i64 9, .string (str o.s), .int .u32 (o.n : Int), .int .u32 (o.n2 : Int), .string (str o.t.p), .string (str o.t.r), .string (str o.lo), .slice o.A o.bo.length o.c, .int .u8 (o.vt : Int), .int .u64 (o.vn : Int), .bool o.mu] 52) := ⟨_, rfl⟩
  obtain ⟨v3, hv3⟩ : ∃ v3, v3 = v2.alloc (.cells #[.slice none 0 0, .slice none 0 0, .slice none 0 0, .slice none 0 0, .slice none 0 0, .slice none 0 0, .slice none 0 0, .int .i64 0, .slice none 0 0, .slice none 0 0, .slice none 0 0, .bool false, .int .u32 0, .int .u32 0, .int .u32 0, .int .u32 0, .slice none 0 0] 41) := ⟨_, rfl⟩
  have e0 : w.heap.size = w.heap.size := rfl
  have e1 : v1.heap.size = w.heap.size + 1 := by rw [hv1]; simp [e0]
  have s1 : Step (fun _ => False) w v1 := by rw [hv1]; exact Step.alloc Step.refl _
  have e2 : v2.heap.size = w.heap.size + 1 + 1 := by rw [hv2]; simp [e1]
  have s2 : Step (fun _ => False) v1 v2 := by rw [hv2]; exact Step.alloc Step.refl _
  have e3 : v3.heap.size = w.heap.size + 1 + 1 + 1 := by rw [hv3]; simp [e2]
  have s3 : Step (fun _ => False) v2 v3 := by rw [hv3]; exact Step.alloc Step.refl _
  have HB : Hid (Blk v3 (w.heap.size) 41 (mdC am m)) := by
    have h1 : Blk v1 w.heap.size 41 (mdC am m) := by rw [hv1]; exact Blk.new w _ _
    exact ((h1.step s2 id).step s3 id)
  have HX : Hid (Blk v3 (w.heap.size + 1) 52 #[.int .i64 9, .string (str o.s), .int .u32 (o.n : Int), .int .u32 (o.n2 : Int), .string (str o.t.p), .string (str o.t.r), .string (str o.lo), .slice o.A o.bo.length o.c, .int .u8 (o.vt : Int), .int .u64 (o.vn : Int), .bool o.mu]) := by
    have h1 : Blk v2 v1.heap.size 52 #[.int .i64 9, .string (str o.s), .int .u32 (o.n : Int), .int .u32 (o.n2 : Int), .string (str o.t.p), .string (str o.t.r), .string (str o.lo), .slice o.A o.bo.length o.c, .int .u8 (o.vt : Int), .int .u64 (o.vn : Int), .bool o.mu] := by rw [hv2]; exact Blk.new v1 _ _
    rw [e1] at h1
    exact (h1.step s3 id)
  have HZ : Hid (Blk v3 (w.heap.size + 1 + 1) 41 #[.slice none 0 0, .slice none 0 0, .slice none 0 0, .slice none 0 0, .slice none 0 0, .slice none 0 0, .slice none 0 0, .int .i64 0, .slice none 0 0, .slice none 0 0, .slice none 0 0, .bool false, .int .u32 0, .int .u32 0, .int .u32 0, .int .u32 0, .slice none 0 0]) := by
    have h1 : Blk v3 v2.heap.size 41 #[.slice none 0 0, .slice none 0 0, .slice none 0 0, .slice none 0 0, .slice none 0 0, .slice none 0 0, .slice none 0 0, .int .i64 0, .slice none 0 0, .slice none 0 0, .slice none 0 0, .bool false, .int .u32 0, .int .u32 0, .int .u32 0, .int .u32 0, .slice none 0 0] := by rw [hv3]; exact Blk.new v2 _ _
    rw [e2] at h1
    exact h1
  have HS : Hid (Step (fun _ => False) w v3) := s1 |>.trans s2 |>.trans s3
  have HE1 := Lib.hid hv1
  have HE2 := Lib.hid hv2
  have HE3 := Lib.hid hv3
  clear e1 s1 hv1 e2 s2 hv2 e3 s3 hv3 e0
  have hsz3 : v3.heap.size = w.heap.size + 1 + 1 + 1 := by rw [HE3.out, HE2.out, HE1.out]; simp
  have hB3 : B ≤ v3.heap.size := by omega
  have HM3 := Lib.hid (h.mkr.quiet HS.out)
  have hin : ∀ k, ftA X a k → k < w.heap.size := h.mkr.in_
  have hkm := glob_n v3 B X a s tk vr HM3.out hB3 (by omega) o.vt o.vn o.mu ht
  have HKM := Lib.hid hkm
  have HIN := Lib.hid hin
  obtain ⟨MA, hMA⟩ : ∃ MA, MA = mdC am m := ⟨_, rfl⟩
  rw [← hMA] at HE1 HB ⊢
  have HMA := Lib.hid hMA
  have H17 : Hid (MA.size = 17) := by rw [Hid, hMA]; rfl
  have H1 : Hid (MA.all (·.oneCell') = true) := by rw [Hid, hMA]; exact mdC_one am m
  clear hMA
  have x0 := HX.out.cell 0
  have x8 := HX.out.cell 8
  have x9 := HX.out.cell 9
  have x10 := HX.out.cell 10
  simp at x0 x8 x9 x10
  rw [HE3.out, HE2.out, HE1.out] at x0 x8 x9 x10
  clear h hkm hin ho hl' hlm'
  go_enter Try.func28, Try.ntmps28
  go_wp2_with (first | (refine ld_mod rfl _ rfl _ rfl MA (by first | exact HB.out | (rw [← HE1.out, ← HE2.out, ← HE3.out]; exact HB.out)) H17.out ?_))
  rw [← HE1.out]
  rw [← HE2.out]
  rw [← HE3.out]
  clear x0 x8 x9 x10
  refine HKM.out.mono ?_
  rintro e w4 ⟨⟨z, rfl⟩, a1, hm, hu⟩
  have HB4 := Lib.hid (HB.out.step hu.1 (fun e => Nat.lt_irrefl _ (HIN.out _ e)))
  have HX4 := Lib.hid (HX.out.step hu.1 (fun e => by have := HIN.out _ e; omega))
  have HZ4 := Lib.hid (HZ.out.step hu.1 (fun e => by have := HIN.out _ e; omega))
  have HS4 : Hid (Step (fun k => ftA X a k) w w4) := (HS.out.mono (fun _ _ h => h.elim)).trans hu.1
  have HU := Lib.hid hu
  have HMK := Lib.hid hm
  have hrf4 := HH.out.rf4 HS.out hu
  have hrr := rglob_n w4 am m _ hrf4 (by omega) (by omega) o.vt o.vn o.mu ht
  rw [show mdC am m = MA from HMA.out.symm] at hrr
  have HRR := Lib.hid hrr
  have hsz4 := hu.1.size
  have y0 := HX4.out.cell 0
  have y8 := HX4.out.cell 8
  have y9 := HX4.out.cell 9
  have y10 := HX4.out.cell 10
  simp at y0 y8 y9 y10
  clear hu hm hrf4 hrr 
  go_wp2_with (first | (refine ld_mod rfl _ rfl _ rfl MA HB4.out H17.out ?_))
  clear y0 y8 y9 y10
  refine HRR.out.mono ?_
  rintro e w5 ⟨am2, z2, rfl, hrf5, hs5⟩
  obtain ⟨MB, hMB⟩ : ∃ MB, MB = mdC am2 { m with gs := m.gs ++ [⟨o.vt, o.mu, 65, o.vn⟩] } := ⟨_, rfl⟩
  have HMB := Lib.hid hMB
  rw [← hMB]
  have H17b : Hid (MB.size = 17) := by rw [HMB.out]; rfl
  have H1b : Hid (MB.all (·.oneCell') = true) := by rw [HMB.out]; exact mdC_one _ _
  have HB5 := Lib.hid (HB4.out.step hs5 id)
  have HZ5 := Lib.hid (HZ4.out.step hs5 id)
  have HS5 := Lib.hid hs5
  have HRF5 := Lib.hid hrf5
  obtain ⟨w6, hw6⟩ : ∃ w6, w6 = w5.setRow w.heap.size MB := ⟨_, rfl⟩
  have HB6 : Hid (Blk w6 w.heap.size 41 MB) := by rw [hw6]; exact HB5.out.row _
  have hs56 : Step (fun k => k = w.heap.size) w5 w6 := by rw [hw6]; exact Step.setRow (F := fun k => k = w.heap.size) Step.refl (.inl rfl) _
  have HZ6 : Hid (Blk w6 (w.heap.size + 1 + 1) 41 #[.slice none 0 0, .slice none 0 0, .slice none 0 0, .slice none 0 0, .slice none 0 0, .slice none 0 0, .slice none 0 0, .int .i64 0, .slice none 0 0, .slice none 0 0, .slice none 0 0, .bool false, .int .u32 0, .int .u32 0, .int .u32 0, .int .u32 0, .slice none 0 0]) := HZ5.out.step hs56 (by show ¬ (w.heap.size + 1 + 1 = w.heap.size); omega)
  have HS56 := Lib.hid hs56
  have HW6 := Lib.hid hw6
  clear hMB hs5 hrf5 hw6 hs56
  obtain ⟨bb, hbb⟩ : ∃ bb, ((z : Int) == z2) = bb := ⟨_, rfl⟩
  cases bb
  all_goals
    go_wp2_with (first | (refine st_mod rfl _ _ rfl rfl w.heap.size rfl MB rfl HB5.out H17.out H17b.out H1b.out ?_; rw [← HW6.out]) | (refine ld_mod rfl _ rfl _ rfl MB HB6.out H17b.out ?_) | (refine st_mod rfl _ _ rfl rfl (w.heap.size + 1 + 1) rfl MB rfl HZ6.out rfl H17b.out H1b.out ?_))
    refine bodyPost_ret (v := .tuple #[.agg MB, .bool _]) (res_mod2 Try.results28 (w.heap.size + 1 + 1) rfl rfl (Blk.row HZ6.out MB) H17b.out) rfl ?_
    have h56 : Step (fun k => w.heap.size ≤ k ∧ k < v3.heap.size) w5 (w6.setRow (w.heap.size + 1 + 1) MB) := (HS56.out.mono (F' := fun k => w.heap.size ≤ k ∧ k < v3.heap.size) (fun k _ e => by omega)).trans (Step.setRow (F := fun k => w.heap.size ≤ k ∧ k < v3.heap.size) Step.refl (.inl (by omega)) MB)
    have hfin := HH.out.fin HS.out HMK.out HU.out HRF5.out HS5.out h56 (by exact Inn.mono (Inn.same (HH.out.inn4 HS.out HU.out) rfl rfl) (fun k _ hk => Or.inl hk)) (by exact Inn.mono (Inn.same ((HH.out.inm4 HS.out HU.out).step HS5.out (fun _ _ => id)) rfl rfl) (fun k _ hk => Or.inl hk)) (⟨HA.out.q0, HA.out.q1, HA.out.q2, by show _ ++ [_] = _ ++ [_]; rw [HA.out.q5], HA.out.q6, HA.out.q10, HA.out.q16, HA.out.st, HA.out.d1, HA.out.d2, HA.out.d3, HA.out.d4, HA.out.q8, HA.out.q9⟩)
    exact ⟨_, _, _, _, _, _, _, by rw [HMB.out], hfin.1, hfin.2, fun n ⟨h0, h1, h2, h3, h4, h5, h6, h7, h8⟩ => ⟨Nat.le_succ_of_le h0, Nat.le_succ_of_le h1, Nat.le_succ_of_le h2, by show (_ ++ [_]).length ≤ n + 1; rw [List.length_append]; exact Nat.succ_le_succ h3, Nat.le_succ_of_le h4, Nat.le_succ_of_le h5, Nat.le_succ_of_le h6, Nat.le_succ_of_le h7, Nat.le_succ_of_le h8⟩⟩

set_option maxRecDepth 100000 in
set_option maxHeartbeats 3200000 in
theorem num_other (h : St T w B X a s tk vr am m) (o : Opx) (hk : ∀ j : Int, 2 ≤ j → j ≤ 9 → o.k ≠ j) :
    Calls Try.prog 28 #[.pointer (some ⟨X, 0, none⟩), .agg (mdC am m), .agg #[.int .i64 o.k, .string (str o.s), .int .u32 (o.n : Int), .int .u32 (o.n2 : Int), .string (str o.t.p), .string (str o.t.r), .string (str o.lo), .slice o.A o.bo.length o.c, .int .u8 (o.vt : Int), .int .u64 (o.vn : Int), .bool o.mu]] w (DOut T w B X a s) := by
  have HH := Lib.hid h
  have q2 : (o.k == 2) = false := beq_eq_false_iff_ne.2 (hk 2 (by decide) (by decide))
  have q3 : (o.k == 3) = false := beq_eq_false_iff_ne.2 (hk 3 (by decide) (by decide))
  have q4 : (o.k == 4) = false := beq_eq_false_iff_ne.2 (hk 4 (by decide) (by decide))
  have q5 : (o.k == 5) = false := beq_eq_false_iff_ne.2 (hk 5 (by decide) (by decide))
  have q6 : (o.k == 6) = false := beq_eq_false_iff_ne.2 (hk 6 (by decide) (by decide))
  have q7 : (o.k == 7) = false := beq_eq_false_iff_ne.2 (hk 7 (by decide) (by decide))
  have q8 : (o.k == 8) = false := beq_eq_false_iff_ne.2 (hk 8 (by decide) (by decide))
  have q9 : (o.k == 9) = false := beq_eq_false_iff_ne.2 (hk 9 (by decide) (by decide))
  obtain ⟨v1, hv1⟩ : ∃ v1, v1 = w.alloc (.cells (mdC am m) 41) := ⟨_, rfl⟩
  obtain ⟨v2, hv2⟩ : ∃ v2, v2 = v1.alloc (.cells #[.int .i64 o.k, .string (str o.s), .int .u32 (o.n : Int), .int .u32 (o.n2 : Int), .string (str o.t.p), .string (str o.t.r), .string (str o.lo), .slice o.A o.bo.length o.c, .int .u8 (o.vt : Int), .int .u64 (o.vn : Int), .bool o.mu] 52) := ⟨_, rfl⟩
  obtain ⟨v3, hv3⟩ : ∃ v3, v3 = v2.alloc (.cells #[.slice none 0 0, .slice none 0 0, .slice none 0 0, .slice none 0 0, .slice none 0 0, .slice none 0 0, .slice none 0 0, .int .i64 0, .slice none 0 0, .slice none 0 0, .slice none 0 0, .bool false, .int .u32 0, .int .u32 0, .int .u32 0, .int .u32 0, .slice none 0 0] 41) := ⟨_, rfl⟩
  have e0 : w.heap.size = w.heap.size := rfl
  have e1 : v1.heap.size = w.heap.size + 1 := by rw [hv1]; simp [e0]
  have s1 : Step (fun _ => False) w v1 := by rw [hv1]; exact Step.alloc Step.refl _
  have e2 : v2.heap.size = w.heap.size + 1 + 1 := by rw [hv2]; simp [e1]
  have s2 : Step (fun _ => False) v1 v2 := by rw [hv2]; exact Step.alloc Step.refl _
  have e3 : v3.heap.size = w.heap.size + 1 + 1 + 1 := by rw [hv3]; simp [e2]
  have s3 : Step (fun _ => False) v2 v3 := by rw [hv3]; exact Step.alloc Step.refl _
  have HB : Hid (Blk v3 (w.heap.size) 41 (mdC am m)) := by
    have h1 : Blk v1 w.heap.size 41 (mdC am m) := by rw [hv1]; exact Blk.new w _ _
    exact ((h1.step s2 id).step s3 id)
  have HX : Hid (Blk v3 (w.heap.size + 1) 52 #[.int .i64 o.k, .string (str o.s), .int .u32 (o.n : Int), .int .u32 (o.n2 : Int), .string (str o.t.p), .string (str o.t.r), .string (str o.lo), .slice o.A o.bo.length o.c, .int .u8 (o.vt : Int), .int .u64 (o.vn : Int), .bool o.mu]) := by
    have h1 : Blk v2 v1.heap.size 52 #[.int .i64 o.k, .string (str o.s), .int .u32 (o.n : Int), .int .u32 (o.n2 : Int), .string (str o.t.p), .string (str o.t.r), .string (str o.lo), .slice o.A o.bo.length o.c, .int .u8 (o.vt : Int), .int .u64 (o.vn : Int), .bool o.mu] := by rw [hv2]; exact Blk.new v1 _ _
    rw [e1] at h1
    exact (h1.step s3 id)
  have HZ : Hid (Blk v3 (w.heap.size + 1 + 1) 41 #[.slice none 0 0, .slice none 0 0, .slice none 0 0, .slice none 0 0, .slice none 0 0, .slice none 0 0, .slice none 0 0, .int .i64 0, .slice none 0 0, .slice none 0 0, .slice none 0 0, .bool false, .int .u32 0, .int .u32 0, .int .u32 0, .int .u32 0, .slice none 0 0]) := by
    have h1 : Blk v3 v2.heap.size 41 #[.slice none 0 0, .slice none 0 0, .slice none 0 0, .slice none 0 0, .slice none 0 0, .slice none 0 0, .slice none 0 0, .int .i64 0, .slice none 0 0, .slice none 0 0, .slice none 0 0, .bool false, .int .u32 0, .int .u32 0, .int .u32 0, .int .u32 0, .slice none 0 0] := by rw [hv3]; exact Blk.new v2 _ _
    rw [e2] at h1
    exact h1
  have HS : Hid (Step (fun _ => False) w v3) := s1 |>.trans s2 |>.trans s3
  have HE1 := Lib.hid hv1
  have HE2 := Lib.hid hv2
  have HE3 := Lib.hid hv3
  clear e1 s1 hv1 e2 s2 hv2 e3 s3 hv3 e0
  have hsz3 : v3.heap.size = w.heap.size + 1 + 1 + 1 := by rw [HE3.out, HE2.out, HE1.out]; simp
  obtain ⟨MA, hMA⟩ : ∃ MA, MA = mdC am m := ⟨_, rfl⟩
  rw [← hMA] at HE1 HB ⊢
  have HMA := Lib.hid hMA
  have H17 : Hid (MA.size = 17) := by rw [Hid, hMA]; rfl
  have H1 : Hid (MA.all (·.oneCell') = true) := by rw [Hid, hMA]; exact mdC_one am m
  clear hMA
  have x0 := HX.out.cell 0
  simp at x0
  rw [HE3.out, HE2.out, HE1.out] at x0
  clear h hk
  go_enter Try.func28, Try.ntmps28
  go_wp2_with (first | (refine ld_mod rfl _ rfl _ rfl MA (by first | exact HB.out | (rw [← HE1.out, ← HE2.out, ← HE3.out]; exact HB.out)) H17.out ?_) | (refine st_mod rfl _ _ rfl rfl (w.heap.size + 1 + 1) rfl MA rfl (by first | exact HZ.out | (rw [← HE1.out, ← HE2.out, ← HE3.out]; exact HZ.out)) rfl H17.out H1.out ?_))
  rw [← HE1.out]
  rw [← HE2.out]
  rw [← HE3.out]
  refine bodyPost_ret (v := .tuple #[.agg MA, .bool true]) (res_mod2 Try.results28 (w.heap.size + 1 + 1) rfl rfl (Blk.row HZ.out MA) H17.out) rfl ?_
  have hfin := HH.out.fin HS.out (HH.out.mkr.quiet HS.out) Upd.refl ((HH.out.old.step HS.out (fun _ _ => id)).mono (S' := fun k => Old T w k ∨ v3.heap.size ≤ k) (fun _ _ => .inl)) Step.refl (Step.setRow (F := fun k => w.heap.size ≤ k ∧ k < v3.heap.size) (g := w.heap.size + 1 + 1) Step.refl (.inl (by omega)) MA)
    ((HH.out.innO.step HS.out (fun _ _ => id)).mono (fun _ _ => .inl)) ((HH.out.inmO.step HS.out (fun _ _ => id)).mono (fun _ _ => .inl)) HH.out.al
  exact ⟨_, _, _, _, _, _, _, by rw [HMA.out], hfin.1, hfin.2, Grow.refl s⟩
end
end Go.Proofs.Ytflgpjdpofmbkaa
