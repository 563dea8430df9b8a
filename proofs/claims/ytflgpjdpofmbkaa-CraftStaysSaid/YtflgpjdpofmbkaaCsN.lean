/-
  creellaw47: number.
-/
import Derived.Test.YtflgpjdpofmbkaaCsL
set_option linter.unusedVariables false
set_option linter.unusedSimpArgs false
namespace Go.Proofs.Ytflgpjdpofmbkaa
open Go.RowKit

/-- A call, as the law's argument has it. -/
structure Opx where
  k : Int
  s : List UInt8
  n : Nat
  n2 : Nat
  t : Ft
  lo : List UInt8
  bo : List Ig
  A : Option Addr
  c : Nat
  vt : Nat
  vn : Nat
  mu : Bool
def Opx.cells (o : Opx) : Array Value := #[.int .i64 o.k, .string (str o.s), .int .u32 (o.n : Int), .int .u32 (o.n2 : Int), .string (str o.t.p), .string (str o.t.r), .string (str o.lo), .slice o.A o.bo.length o.c, .int .u8 (o.vt : Int), .int .u64 (o.vn : Int), .bool o.mu]
structure Opx.ok (o : Opx) (w : World) (S : Nat → Prop) : Prop where
  n : o.n < 4294967296
  n2 : o.n2 < 4294967296
  vt : o.vt < 256
  lo : o.lo.length ≤ 1000
  bl : o.bo.length ≤ 1000
  bo : Reads w S 4 o.A o.bo.length (igs o.bo)
  ins : ∀ g ∈ o.bo, g.n = g.L.length ∧ Reads w S 1 g.A g.n (u32s g.L)
  gb : ∀ g ∈ o.bo, g.n ≤ 100000
theorem Opx.ok.step {o : Opx} {w w' : World} {S F : Nat → Prop} (h : o.ok w S) (hs : Step F w w') (hd : ∀ k, S k → ¬ F k) : o.ok w' S := ⟨h.n, h.n2, h.vt, h.lo, h.bl, h.bo.step hs hd, fun g hg => ⟨(h.ins g hg).1, (h.ins g hg).2.step hs hd⟩, h.gb⟩
theorem Opx.ok.mono {o : Opx} {w : World} {S S' : Nat → Prop} (h : o.ok w S) (hS : ∀ k, k < w.heap.size → S k → S' k) : o.ok w S' := ⟨h.n, h.n2, h.vt, h.lo, h.bl, h.bo.mono hS, fun g hg => ⟨(h.ins g hg).1, (h.ins g hg).2.mono hS⟩, h.gb⟩
section
variable (T : Nat → Prop) (w : World) (B X : Nat) (a : Ad) (s : Mo) (tk vr : Int) (am : Ad) (m : Mo)

set_option maxRecDepth 100000 in
set_option maxHeartbeats 12800000 in
theorem num2 (h : St T w B X a s tk vr am m) (hB : B ≤ w.heap.size) (hl : s.small 900) (o : Opx) (ho : o.ok w (Old T w))  :
    Calls Try.prog 28 #[.pointer (some ⟨X, 0, none⟩), .agg (mdC am m), .agg #[.int .i64 2, .string (str o.s), .int .u32 (o.n : Int), .int .u32 (o.n2 : Int), .string (str o.t.p), .string (str o.t.r), .string (str o.lo), .slice o.A o.bo.length o.c, .int .u8 (o.vt : Int), .int .u64 (o.vn : Int), .bool o.mu]] w (DOut T w B X a s) := by
  have hlm := h.al.small hl
  obtain ⟨l0, l1, l2, l5, l6, l8, l9, l10, l16⟩ := hl
  obtain ⟨k0, k1, k2, k5, k6, k8, k9, k10, k16⟩ := hlm
  have hl' : s.small 1000 := ⟨by omega, by omega, by omega, by omega, by omega, by omega, by omega, by omega, by omega⟩
  have hlm' : m.small 1000 := ⟨by omega, by omega, by omega, by omega, by omega, by omega, by omega, by omega, by omega⟩
  have HA := Lib.hid h.al
  have HH := Lib.hid h
  have HO := Lib.hid ho
  have HLS := Lib.hid hl'
  have HLM := Lib.hid hlm'
  obtain ⟨v1, hv1⟩ : ∃ v1, v1 = w.alloc (.cells (mdC am m) 41) := ⟨_, rfl⟩
  obtain ⟨v2, hv2⟩ : ∃ v2, v2 = v1.alloc (.cells #[.int .i64 2, .string (str o.s), .int .u32 (o.n : Int), .int .u32 (o.n2 : Int), .string (str o.t.p), .string (str o.t.r), .string (str o.lo), .slice o.A o.bo.length o.c, .int .u8 (o.vt : Int), .int .u64 (o.vn : Int), .bool o.mu] 52) := ⟨_, rfl⟩
  obtain ⟨v3, hv3⟩ : ∃ v3, v3 = v2.alloc (.cells #[.slice none 0 0, .slice none 0 0, .slice none 0 0, .slice none 0 0, .slice none 0 0, .slice none 0 0, .slice none 0 0, .int .i64 0, .slice none 0 0, .slice none 0 0, .slice none 0 0, .bool false, .int .u32 0, .int .u32 0, .int .u32 0, .int .u32 0, .slice none 0 0] 41) := ⟨_, rfl⟩
  have e0 : w.heap.size = w.heap.size := rfl
  have e1 : v1.heap.size = w.heap.size + 1 := by rw [hv1]; simp [e0]
  have s1 : Step (fun _ => False) w v1 := by rw [hv1]; exact Step.alloc Step.refl _
  have e2 : v2.heap.size = w.heap.size + 1 + 1 := by rw [hv2]; simp [e1]
  have s2 : Step (fun _ => False) v1 v2 := by rw [hv2]; exact Step.alloc Step.refl _
  have e3 : v3.heap.size = w.heap.size + 1 + 1 + 1 := by rw [hv3]; simp [e2]
  have s3 : Step (fun _ => False) v2 v3 := by rw [hv3]; exact Step.alloc Step.refl _
  have HB : Hid (Blk v3 (w.heap.size) 41 (mdC am m)) := by
    have h1 : Blk v1 w.heap.size 41 (mdC am m) := by rw [hv1]; exact Blk.new w _ _
    exact ((h1.step s2 id).step s3 id)
  have HX : Hid (Blk v3 (w.heap.size + 1) 52 #[.int .i64 2, .string (str o.s), .int .u32 (o.n : Int), .int .u32 (o.n2 : Int), .string (str o.t.p), .string (str o.t.r), .string (str o.lo), .slice o.A o.bo.length o.c, .int .u8 (o.vt : Int), .int .u64 (o.vn : Int), .bool o.mu]) := by
    have h1 : Blk v2 v1.heap.size 52 #[.int .i64 2, .string (str o.s), .int .u32 (o.n : Int), .int .u32 (o.n2 : Int), .string (str o.t.p), .string (str o.t.r), .string (str o.lo), .slice o.A o.bo.length o.c, .int .u8 (o.vt : Int), .int .u64 (o.vn : Int), .bool o.mu] := by rw [hv2]; exact Blk.new v1 _ _
    rw [e1] at h1
    exact (h1.step s3 id)
  have HZ : Hid (Blk v3 (w.heap.size + 1 + 1) 41 #[.slice none 0 0, .slice none 0 0, .slice none 0 0, .slice none 0 0, .slice none 0 0, .slice none 0 0, .slice none 0 0, .int .i64 0, .slice none 0 0, .slice none 0 0, .slice none 0 0, .bool false, .int .u32 0, .int .u32 0, .int .u32 0, .int .u32 0, .slice none 0 0]) := by
    have h1 : Blk v3 v2.heap.size 41 #[.slice none 0 0, .slice none 0 0, .slice none 0 0, .slice none 0 0, .slice none 0 0, .slice none 0 0, .slice none 0 0, .int .i64 0, .slice none 0 0, .slice none 0 0, .slice none 0 0, .bool false, .int .u32 0, .int .u32 0, .int .u32 0, .int .u32 0, .slice none 0 0] := by rw [hv3]; exact Blk.new v2 _ _
    rw [e2] at h1
    exact h1
  have HS : Hid (Step (fun _ => False) w v3) := s1 |>.trans s2 |>.trans s3
  have HE1 := Lib.hid hv1
  have HE2 := Lib.hid hv2
  have HE3 := Lib.hid hv3
  clear e1 s1 hv1 e2 s2 hv2 e3 s3 hv3 e0
  have hsz3 : v3.heap.size = w.heap.size + 1 + 1 + 1 := by rw [HE3.out, HE2.out, HE1.out]; simp
  have hB3 : B ≤ v3.heap.size := by omega
  have HM3 := Lib.hid (h.mkr.quiet HS.out)
  have hin : ∀ k, ftA X a k → k < w.heap.size := h.mkr.in_
  have hkm := type_ok v3 B X a s tk vr HM3.out hB3 (by omega) o.t
  have HKM := Lib.hid hkm
  have HIN := Lib.hid hin
  obtain ⟨MA, hMA⟩ : ∃ MA, MA = mdC am m := ⟨_, rfl⟩
  rw [← hMA] at HE1 HB ⊢
  have HMA := Lib.hid hMA
  have H17 : Hid (MA.size = 17) := by rw [Hid, hMA]; rfl
  have H1 : Hid (MA.all (·.oneCell') = true) := by rw [Hid, hMA]; exact mdC_one am m
  clear hMA
  have x0 := HX.out.cell 0
  have x4 := HX.out.cell 4
  have x5 := HX.out.cell 5
  simp at x0 x4 x5
  rw [HE3.out, HE2.out, HE1.out] at x0 x4 x5
  clear h hkm hin ho hl' hlm'
  go_enter Try.func28, Try.ntmps28
  go_wp2_with (first | (refine ld_mod rfl _ rfl _ rfl MA (by first | exact HB.out | (rw [← HE1.out, ← HE2.out, ← HE3.out]; exact HB.out)) H17.out ?_))
  rw [← HE1.out]
  rw [← HE2.out]
  rw [← HE3.out]
  clear x0 x4 x5
  refine HKM.out.mono ?_
  rintro e w4 ⟨rfl, A1, c1, hm, hu⟩
  have HB4 := Lib.hid (HB.out.step hu.1 (fun e => Nat.lt_irrefl _ (HIN.out _ e)))
  have HX4 := Lib.hid (HX.out.step hu.1 (fun e => by have := HIN.out _ e; omega))
  have HZ4 := Lib.hid (HZ.out.step hu.1 (fun e => by have := HIN.out _ e; omega))
  have HS4 : Hid (Step (fun k => ftA X a k) w w4) := (HS.out.mono (fun _ _ h => h.elim)).trans hu.1
  have HU := Lib.hid hu
  have HMK := Lib.hid hm
  have hrf4 := HH.out.rf4 HS.out hu
  have hrr := rtype_ok w4 am m _ hrf4 (by omega) o.t
  rw [show mdC am m = MA from HMA.out.symm] at hrr
  have HRR := Lib.hid hrr
  have hsz4 := hu.1.size
  have y0 := HX4.out.cell 0
  have y4 := HX4.out.cell 4
  have y5 := HX4.out.cell 5
  simp at y0 y4 y5
  clear hu hm hrf4 hrr 
  go_wp2_with (first | (refine ld_mod rfl _ rfl _ rfl MA HB4.out H17.out ?_))
  clear y0 y4 y5
  refine HRR.out.mono ?_
  rintro e w5 ⟨D5, c5, rfl, hrf5, hs5⟩
  obtain ⟨MB, hMB⟩ : ∃ MB, MB = mdC { am with A0 := D5, c0 := c5 } { m with ts := tyL m.ts o.t } := ⟨_, rfl⟩
  have HMB := Lib.hid hMB
  rw [← hMB]
  have H17b : Hid (MB.size = 17) := by rw [HMB.out]; rfl
  have H1b : Hid (MB.all (·.oneCell') = true) := by rw [HMB.out]; exact mdC_one _ _
  have HB5 := Lib.hid (HB4.out.step hs5 id)
  have HZ5 := Lib.hid (HZ4.out.step hs5 id)
  have HS5 := Lib.hid hs5
  have HRF5 := Lib.hid hrf5
  obtain ⟨w6, hw6⟩ : ∃ w6, w6 = w5.setRow w.heap.size MB := ⟨_, rfl⟩
  have HB6 : Hid (Blk w6 w.heap.size 41 MB) := by rw [hw6]; exact HB5.out.row _
  have hs56 : Step (fun k => k = w.heap.size) w5 w6 := by rw [hw6]; exact Step.setRow (F := fun k => k = w.heap.size) Step.refl (.inl rfl) _
  have HZ6 : Hid (Blk w6 (w.heap.size + 1 + 1) 41 #[.slice none 0 0, .slice none 0 0, .slice none 0 0, .slice none 0 0, .slice none 0 0, .slice none 0 0, .slice none 0 0, .int .i64 0, .slice none 0 0, .slice none 0 0, .slice none 0 0, .bool false, .int .u32 0, .int .u32 0, .int .u32 0, .int .u32 0, .slice none 0 0]) := HZ5.out.step hs56 (by show ¬ (w.heap.size + 1 + 1 = w.heap.size); omega)
  have HS56 := Lib.hid hs56
  have HW6 := Lib.hid hw6
  clear hMB hs5 hrf5 hw6 hs56
  have hqq : ((tyI s.ts o.t : Nat) : Int) = ((tyI m.ts o.t : Nat) : Int) := by rw [HA.out.q0]
  rw [hqq]
  clear hqq
  all_goals
    go_wp2_with (first | (refine st_mod rfl _ _ rfl rfl w.heap.size rfl MB rfl HB5.out H17.out H17b.out H1b.out ?_; rw [← HW6.out]) | (refine ld_mod rfl _ rfl _ rfl MB HB6.out H17b.out ?_) | (refine st_mod rfl _ _ rfl rfl (w.heap.size + 1 + 1) rfl MB rfl HZ6.out rfl H17b.out H1b.out ?_))
    refine bodyPost_ret (v := .tuple #[.agg MB, .bool _]) (res_mod2 Try.results28 (w.heap.size + 1 + 1) rfl rfl (Blk.row HZ6.out MB) H17b.out) rfl ?_
    have h56 : Step (fun k => w.heap.size ≤ k ∧ k < v3.heap.size) w5 (w6.setRow (w.heap.size + 1 + 1) MB) := (HS56.out.mono (F' := fun k => w.heap.size ≤ k ∧ k < v3.heap.size) (fun k _ e => by omega)).trans (Step.setRow (F := fun k => w.heap.size ≤ k ∧ k < v3.heap.size) Step.refl (.inl (by omega)) MB)
    have hfin := HH.out.fin HS.out HMK.out HU.out HRF5.out HS5.out h56 (by exact Inn.mono (Inn.same (HH.out.inn4 HS.out HU.out) rfl rfl) (fun k _ hk => Or.inl hk)) (by exact Inn.mono (Inn.same ((HH.out.inm4 HS.out HU.out).step HS5.out (fun _ _ => id)) rfl rfl) (fun k _ hk => Or.inl hk)) (⟨by show tyL _ _ = tyL _ _; rw [HA.out.q0], HA.out.q1, HA.out.q2, HA.out.q5, HA.out.q6, HA.out.q10, HA.out.q16, HA.out.st, HA.out.d1, HA.out.d2, HA.out.d3, HA.out.d4, HA.out.q8, HA.out.q9⟩)
    exact ⟨_, _, _, _, _, _, _, by rw [HMB.out], hfin.1, hfin.2, fun n ⟨h0, h1, h2, h3, h4, h5, h6, h7, h8⟩ => ⟨by show (tyL _ _).length ≤ n + 1; exact Nat.le_trans (tyL_len _ _) (Nat.succ_le_succ h0), Nat.le_succ_of_le h1, Nat.le_succ_of_le h2, Nat.le_succ_of_le h3, Nat.le_succ_of_le h4, Nat.le_succ_of_le h5, Nat.le_succ_of_le h6, Nat.le_succ_of_le h7, Nat.le_succ_of_le h8⟩⟩

set_option maxRecDepth 100000 in
set_option maxHeartbeats 12800000 in
theorem num3l (h : St T w B X a s tk vr am m) (hB : B ≤ w.heap.size) (hl : s.small 900) (o : Opx) (ho : o.ok w (Old T w)) (hf : 0 < s.fs.length) :
    Calls Try.prog 28 #[.pointer (some ⟨X, 0, none⟩), .agg (mdC am m), .agg #[.int .i64 3, .string (str o.s), .int .u32 (o.n : Int), .int .u32 (o.n2 : Int), .string (str o.t.p), .string (str o.t.r), .string (str o.lo), .slice o.A o.bo.length o.c, .int .u8 (o.vt : Int), .int .u64 (o.vn : Int), .bool o.mu]] w (DOut T w B X a s) := by
  have hlm := h.al.small hl
  obtain ⟨l0, l1, l2, l5, l6, l8, l9, l10, l16⟩ := hl
  obtain ⟨k0, k1, k2, k5, k6, k8, k9, k10, k16⟩ := hlm
  have hl' : s.small 1000 := ⟨by omega, by omega, by omega, by omega, by omega, by omega, by omega, by omega, by omega⟩
  have hlm' : m.small 1000 := ⟨by omega, by omega, by omega, by omega, by omega, by omega, by omega, by omega, by omega⟩
  have HA := Lib.hid h.al
  have HH := Lib.hid h
  have HO := Lib.hid ho
  have HLS := Lib.hid hl'
  have HLM := Lib.hid hlm'
  obtain ⟨v1, hv1⟩ : ∃ v1, v1 = w.alloc (.cells (mdC am m) 41) := ⟨_, rfl⟩
  obtain ⟨v2, hv2⟩ : ∃ v2, v2 = v1.alloc (.cells #[.int .i64 3, .string (str o.s), .int .u32 (o.n : Int), .int .u32 (o.n2 : Int), .string (str o.t.p), .string (str o.t.r), .string (str o.lo), .slice o.A o.bo.length o.c, .int .u8 (o.vt : Int), .int .u64 (o.vn : Int), .bool o.mu] 52) := ⟨_, rfl⟩
  obtain ⟨v3, hv3⟩ : ∃ v3, v3 = v2.alloc (.cells #[.slice none 0 0, .slice none 0 0, .slice none 0 0, .slice none 0 0, .slice none 0 0, .slice none 0 0, .slice none 0 0, .int .i64 0, .slice none 0 0, .slice none 0 0, .slice none 0 0, .bool false, .int .u32 0, .int .u32 0, .int .u32 0, .int .u32 0, .slice none 0 0] 41) := ⟨_, rfl⟩
  have e0 : w.heap.size = w.heap.size := rfl
  have e1 : v1.heap.size = w.heap.size + 1 := by rw [hv1]; simp [e0]
  have s1 : Step (fun _ => False) w v1 := by rw [hv1]; exact Step.alloc Step.refl _
  have e2 : v2.heap.size = w.heap.size + 1 + 1 := by rw [hv2]; simp [e1]
  have s2 : Step (fun _ => False) v1 v2 := by rw [hv2]; exact Step.alloc Step.refl _
  have e3 : v3.heap.size = w.heap.size + 1 + 1 + 1 := by rw [hv3]; simp [e2]
  have s3 : Step (fun _ => False) v2 v3 := by rw [hv3]; exact Step.alloc Step.refl _
  have HB : Hid (Blk v3 (w.heap.size) 41 (mdC am m)) := by
    have h1 : Blk v1 w.heap.size 41 (mdC am m) := by rw [hv1]; exact Blk.new w _ _
    exact ((h1.step s2 id).step s3 id)
  have HX : Hid (Blk v3 (w.heap.size + 1) 52 #[.int .i64 3, .string (str o.s), .int .u32 (o.n : Int), .int .u32 (o.n2 : Int), .string (str o.t.p), .string (str o.t.r), .string (str o.lo), .slice o.A o.bo.length o.c, .int .u8 (o.vt : Int), .int .u64 (o.vn : Int), .bool o.mu]) := by
    have h1 : Blk v2 v1.heap.size 52 #[.int .i64 3, .string (str o.s), .int .u32 (o.n : Int), .int .u32 (o.n2 : Int), .string (str o.t.p), .string (str o.t.r), .string (str o.lo), .slice o.A o.bo.length o.c, .int .u8 (o.vt : Int), .int .u64 (o.vn : Int), .bool o.mu] := by rw [hv2]; exact Blk.new v1 _ _
    rw [e1] at h1
    exact (h1.step s3 id)
  have HZ : Hid (Blk v3 (w.heap.size + 1 + 1) 41 #[.slice none 0 0, .slice none 0 0, .slice none 0 0, .slice none 0 0, .slice none 0 0, .slice none 0 0, .slice none 0 0, .int .i64 0, .slice none 0 0, .slice none 0 0, .slice none 0 0, .bool false, .int .u32 0, .int .u32 0, .int .u32 0, .int .u32 0, .slice none 0 0]) := by
    have h1 : Blk v3 v2.heap.size 41 #[.slice none 0 0, .slice none 0 0, .slice none 0 0, .slice none 0 0, .slice none 0 0, .slice none 0 0, .slice none 0 0, .int .i64 0, .slice none 0 0, .slice none 0 0, .slice none 0 0, .bool false, .int .u32 0, .int .u32 0, .int .u32 0, .int .u32 0, .slice none 0 0] := by rw [hv3]; exact Blk.new v2 _ _
    rw [e2] at h1
    exact h1
  have HS : Hid (Step (fun _ => False) w v3) := s1 |>.trans s2 |>.trans s3
  have HE1 := Lib.hid hv1
  have HE2 := Lib.hid hv2
  have HE3 := Lib.hid hv3
  clear e1 s1 hv1 e2 s2 hv2 e3 s3 hv3 e0
  have hsz3 : v3.heap.size = w.heap.size + 1 + 1 + 1 := by rw [HE3.out, HE2.out, HE1.out]; simp
  have hB3 : B ≤ v3.heap.size := by omega
  have HM3 := Lib.hid (h.mkr.quiet HS.out)
  have hin : ∀ k, ftA X a k → k < w.heap.size := h.mkr.in_
  have hkm := take_late v3 B X a s tk vr HM3.out o.s o.t hf
  have HKM := Lib.hid hkm
  have HIN := Lib.hid hin
  obtain ⟨MA, hMA⟩ : ∃ MA, MA = mdC am m := ⟨_, rfl⟩
  rw [← hMA] at HE1 HB ⊢
  have HMA := Lib.hid hMA
  have H17 : Hid (MA.size = 17) := by rw [Hid, hMA]; rfl
  have H1 : Hid (MA.all (·.oneCell') = true) := by rw [Hid, hMA]; exact mdC_one am m
  clear hMA
  have x0 := HX.out.cell 0
  have x1 := HX.out.cell 1
  have x4 := HX.out.cell 4
  have x5 := HX.out.cell 5
  simp at x0 x1 x4 x5
  rw [HE3.out, HE2.out, HE1.out] at x0 x1 x4 x5
  clear h hkm hin ho hl' hlm'
  go_enter Try.func28, Try.ntmps28
  go_wp2_with (first | (refine ld_mod rfl _ rfl _ rfl MA (by first | exact HB.out | (rw [← HE1.out, ← HE2.out, ← HE3.out]; exact HB.out)) H17.out ?_))
  rw [← HE1.out]
  rw [← HE2.out]
  rw [← HE3.out]
  clear x0 x1 x4 x5
  refine HKM.out.mono ?_
  rintro e w4 ⟨rfl, hs4⟩
  have hu : Upd v3 (ftA X a) (ftA X a) w4 := Upd.after hs4 Upd.refl
  have hm : Mk w4 B X a s tk vr := HM3.out.quiet hs4
  have HB4 := Lib.hid (HB.out.step hu.1 (fun e => Nat.lt_irrefl _ (HIN.out _ e)))
  have HX4 := Lib.hid (HX.out.step hu.1 (fun e => by have := HIN.out _ e; omega))
  have HZ4 := Lib.hid (HZ.out.step hu.1 (fun e => by have := HIN.out _ e; omega))
  have HS4 : Hid (Step (fun k => ftA X a k) w w4) := (HS.out.mono (fun _ _ h => h.elim)).trans hu.1
  have HU := Lib.hid hu
  have HMK := Lib.hid hm
  have hrf4 := HH.out.rf4 HS.out hu
  have hrr := rtake_late w4 am m _ hrf4 o.s o.t (by rw [HA.out.q2]; exact hf)
  rw [show mdC am m = MA from HMA.out.symm] at hrr
  have HRR := Lib.hid hrr
  have hsz4 := hu.1.size
  have y0 := HX4.out.cell 0
  have y1 := HX4.out.cell 1
  have y4 := HX4.out.cell 4
  have y5 := HX4.out.cell 5
  simp at y0 y1 y4 y5
  clear hu hm hrf4 hrr hs4
  go_wp2_with (first | (refine ld_mod rfl _ rfl _ rfl MA HB4.out H17.out ?_))
  clear y0 y1 y4 y5
  refine HRR.out.mono ?_
  rintro e w5 ⟨rfl, hs5⟩
  obtain ⟨MB, hMB⟩ : ∃ MB, MB = MA := ⟨_, rfl⟩
  have HMB : Hid (MB = mdC am m) := hMB.trans HMA.out
  have hrf5 := ((HH.out.rf4 HS.out HU.out).step hs5 (fun _ _ => id)).mono (S' := fun k => Old T w k ∨ w4.heap.size ≤ k) (fun _ _ => .inl)
  rw [← hMB]
  have H17b : Hid (MB.size = 17) := by rw [HMB.out]; rfl
  have H1b : Hid (MB.all (·.oneCell') = true) := by rw [HMB.out]; exact mdC_one _ _
  have HB5 := Lib.hid (HB4.out.step hs5 id)
  have HZ5 := Lib.hid (HZ4.out.step hs5 id)
  have HS5 := Lib.hid hs5
  have HRF5 := Lib.hid hrf5
  obtain ⟨w6, hw6⟩ : ∃ w6, w6 = w5.setRow w.heap.size MB := ⟨_, rfl⟩
  have HB6 : Hid (Blk w6 w.heap.size 41 MB) := by rw [hw6]; exact HB5.out.row _
  have hs56 : Step (fun k => k = w.heap.size) w5 w6 := by rw [hw6]; exact Step.setRow (F := fun k => k = w.heap.size) Step.refl (.inl rfl) _
  have HZ6 : Hid (Blk w6 (w.heap.size + 1 + 1) 41 #[.slice none 0 0, .slice none 0 0, .slice none 0 0, .slice none 0 0, .slice none 0 0, .slice none 0 0, .slice none 0 0, .int .i64 0, .slice none 0 0, .slice none 0 0, .slice none 0 0, .bool false, .int .u32 0, .int .u32 0, .int .u32 0, .int .u32 0, .slice none 0 0]) := HZ5.out.step hs56 (by show ¬ (w.heap.size + 1 + 1 = w.heap.size); omega)
  have HS56 := Lib.hid hs56
  have HW6 := Lib.hid hw6
  clear hMB hs5 hrf5 hw6 hs56
  skip
  all_goals
    go_wp2_with (first | (refine st_mod rfl _ _ rfl rfl w.heap.size rfl MB rfl HB5.out H17.out H17b.out H1b.out ?_; rw [← HW6.out]) | (refine ld_mod rfl _ rfl _ rfl MB HB6.out H17b.out ?_) | (refine st_mod rfl _ _ rfl rfl (w.heap.size + 1 + 1) rfl MB rfl HZ6.out rfl H17b.out H1b.out ?_))
    refine bodyPost_ret (v := .tuple #[.agg MB, .bool _]) (res_mod2 Try.results28 (w.heap.size + 1 + 1) rfl rfl (Blk.row HZ6.out MB) H17b.out) rfl ?_
    have h56 : Step (fun k => w.heap.size ≤ k ∧ k < v3.heap.size) w5 (w6.setRow (w.heap.size + 1 + 1) MB) := (HS56.out.mono (F' := fun k => w.heap.size ≤ k ∧ k < v3.heap.size) (fun k _ e => by omega)).trans (Step.setRow (F := fun k => w.heap.size ≤ k ∧ k < v3.heap.size) Step.refl (.inl (by omega)) MB)
    have hfin := HH.out.fin HS.out HMK.out HU.out HRF5.out HS5.out h56 (by exact Inn.mono (Inn.same (HH.out.inn4 HS.out HU.out) rfl rfl) (fun k _ hk => Or.inl hk)) (by exact Inn.mono (Inn.same ((HH.out.inm4 HS.out HU.out).step HS5.out (fun _ _ => id)) rfl rfl) (fun k _ hk => Or.inl hk)) (HA.out)
    exact ⟨_, _, _, _, _, _, _, by rw [HMB.out], hfin.1, hfin.2, Grow.refl s⟩

set_option maxRecDepth 100000 in
set_option maxHeartbeats 12800000 in
theorem num3 (h : St T w B X a s tk vr am m) (hB : B ≤ w.heap.size) (hl : s.small 900) (o : Opx) (ho : o.ok w (Old T w)) (hf : s.fs.length = 0) :
    Calls Try.prog 28 #[.pointer (some ⟨X, 0, none⟩), .agg (mdC am m), .agg #[.int .i64 3, .string (str o.s), .int .u32 (o.n : Int), .int .u32 (o.n2 : Int), .string (str o.t.p), .string (str o.t.r), .string (str o.lo), .slice o.A o.bo.length o.c, .int .u8 (o.vt : Int), .int .u64 (o.vn : Int), .bool o.mu]] w (DOut T w B X a s) := by
  have hlm := h.al.small hl
  obtain ⟨l0, l1, l2, l5, l6, l8, l9, l10, l16⟩ := hl
  obtain ⟨k0, k1, k2, k5, k6, k8, k9, k10, k16⟩ := hlm
  have hl' : s.small 1000 := ⟨by omega, by omega, by omega, by omega, by omega, by omega, by omega, by omega, by omega⟩
  have hlm' : m.small 1000 := ⟨by omega, by omega, by omega, by omega, by omega, by omega, by omega, by omega, by omega⟩
  have HA := Lib.hid h.al
  have HH := Lib.hid h
  have HO := Lib.hid ho
  have HLS := Lib.hid hl'
  have HLM := Lib.hid hlm'
  obtain ⟨v1, hv1⟩ : ∃ v1, v1 = w.alloc (.cells (mdC am m) 41) := ⟨_, rfl⟩
  obtain ⟨v2, hv2⟩ : ∃ v2, v2 = v1.alloc (.cells #[.int .i64 3, .string (str o.s), .int .u32 (o.n : Int), .int .u32 (o.n2 : Int), .string (str o.t.p), .string (str o.t.r), .string (str o.lo), .slice o.A o.bo.length o.c, .int .u8 (o.vt : Int), .int .u64 (o.vn : Int), .bool o.mu] 52) := ⟨_, rfl⟩
  obtain ⟨v3, hv3⟩ : ∃ v3, v3 = v2.alloc (.cells #[.slice none 0 0, .slice none 0 0, .slice none 0 0, .slice none 0 0, .slice none 0 0, .slice none 0 0, .slice none 0 0, .int .i64 0, .slice none 0 0, .slice none 0 0, .slice none 0 0, .bool false, .int .u32 0, .int .u32 0, .int .u32 0, .int .u32 0, .slice none 0 0] 41) := ⟨_, rfl⟩
  have e0 : w.heap.size = w.heap.size := rfl
  have e1 : v1.heap.size = w.heap.size + 1 := by rw [hv1]; simp [e0]
  have s1 : Step (fun _ => False) w v1 := by rw [hv1]; exact Step.alloc Step.refl _
  have e2 : v2.heap.size = w.heap.size + 1 + 1 := by rw [hv2]; simp [e1]
  have s2 : Step (fun _ => False) v1 v2 := by rw [hv2]; exact Step.alloc Step.refl _
  have e3 : v3.heap.size = w.heap.size + 1 + 1 + 1 := by rw [hv3]; simp [e2]
  have s3 : Step (fun _ => False) v2 v3 := by rw [hv3]; exact Step.alloc Step.refl _
  have HB : Hid (Blk v3 (w.heap.size) 41 (mdC am m)) := by
    have h1 : Blk v1 w.heap.size 41 (mdC am m) := by rw [hv1]; exact Blk.new w _ _
    exact ((h1.step s2 id).step s3 id)
  have HX : Hid (Blk v3 (w.heap.size + 1) 52 #[.int .i64 3, .string (str o.s), .int .u32 (o.n : Int), .int .u32 (o.n2 : Int), .string (str o.t.p), .string (str o.t.r), .string (str o.lo), .slice o.A o.bo.length o.c, .int .u8 (o.vt : Int), .int .u64 (o.vn : Int), .bool o.mu]) := by
    have h1 : Blk v2 v1.heap.size 52 #[.int .i64 3, .string (str o.s), .int .u32 (o.n : Int), .int .u32 (o.n2 : Int), .string (str o.t.p), .string (str o.t.r), .string (str o.lo), .slice o.A o.bo.length o.c, .int .u8 (o.vt : Int), .int .u64 (o.vn : Int), .bool o.mu] := by rw [hv2]; exact Blk.new v1 _ _
    rw [e1] at h1
    exact (h1.step s3 id)
  have HZ : Hid (Blk v3 (w.heap.size + 1 + 1) 41 #[.slice none 0 0, .slice none 0 0, .slice none 0 0, .slice none 0 0, .slice none 0 0, .slice none 0 0, .slice none 0 0, .int .i64 0, .slice none 0 0, .slice none 0 0, .slice none 0 0, .bool false, .int .u32 0, .int .u32 0, .int .u32 0, .int .u32 0, .slice none 0 0]) := by
    have h1 : Blk v3 v2.heap.size 41 #[.slice none 0 0, .slice none 0 0, .slice none 0 0, .slice none 0 0, .slice none 0 0, .slice none 0 0, .slice none 0 0, .int .i64 0, .slice none 0 0, .slice none 0 0, .slice none 0 0, .bool false, .int .u32 0, .int .u32 0, .int .u32 0, .int .u32 0, .slice none 0 0] := by rw [hv3]; exact Blk.new v2 _ _
    rw [e2] at h1
    exact h1
  have HS : Hid (Step (fun _ => False) w v3) := s1 |>.trans s2 |>.trans s3
  have HE1 := Lib.hid hv1
  have HE2 := Lib.hid hv2
  have HE3 := Lib.hid hv3
  clear e1 s1 hv1 e2 s2 hv2 e3 s3 hv3 e0
  have hsz3 : v3.heap.size = w.heap.size + 1 + 1 + 1 := by rw [HE3.out, HE2.out, HE1.out]; simp
  have hB3 : B ≤ v3.heap.size := by omega
  have HM3 := Lib.hid (h.mkr.quiet HS.out)
  have hin : ∀ k, ftA X a k → k < w.heap.size := h.mkr.in_
  have hkm := take_ok v3 B X a s tk vr HM3.out hB3 hl' o.s o.t hf
  have HKM := Lib.hid hkm
  have HIN := Lib.hid hin
  obtain ⟨MA, hMA⟩ : ∃ MA, MA = mdC am m := ⟨_, rfl⟩
  rw [← hMA] at HE1 HB ⊢
  have HMA := Lib.hid hMA
  have H17 : Hid (MA.size = 17) := by rw [Hid, hMA]; rfl
  have H1 : Hid (MA.all (·.oneCell') = true) := by rw [Hid, hMA]; exact mdC_one am m
  clear hMA
  have x0 := HX.out.cell 0
  have x1 := HX.out.cell 1
  have x4 := HX.out.cell 4
  have x5 := HX.out.cell 5
  simp at x0 x1 x4 x5
  rw [HE3.out, HE2.out, HE1.out] at x0 x1 x4 x5
  clear h hkm hin ho hl' hlm'
  go_enter Try.func28, Try.ntmps28
  go_wp2_with (first | (refine ld_mod rfl _ rfl _ rfl MA (by first | exact HB.out | (rw [← HE1.out, ← HE2.out, ← HE3.out]; exact HB.out)) H17.out ?_))
  rw [← HE1.out]
  rw [← HE2.out]
  rw [← HE3.out]
  clear x0 x1 x4 x5
  refine HKM.out.mono ?_
  rintro e w4 ⟨⟨z, rfl⟩, a1, tk1, hm, hu⟩
  have HB4 := Lib.hid (HB.out.step hu.1 (fun e => Nat.lt_irrefl _ (HIN.out _ e)))
  have HX4 := Lib.hid (HX.out.step hu.1 (fun e => by have := HIN.out _ e; omega))
  have HZ4 := Lib.hid (HZ.out.step hu.1 (fun e => by have := HIN.out _ e; omega))
  have HS4 : Hid (Step (fun k => ftA X a k) w w4) := (HS.out.mono (fun _ _ h => h.elim)).trans hu.1
  have HU := Lib.hid hu
  have HMK := Lib.hid hm
  have hrf4 := HH.out.rf4 HS.out hu
  have hrr := rtake_ok w4 am m _ hrf4 (by omega) (by omega) o.s o.t (by rw [HA.out.q2]; exact hf)
  rw [show mdC am m = MA from HMA.out.symm] at hrr
  have HRR := Lib.hid hrr
  have hsz4 := hu.1.size
  have y0 := HX4.out.cell 0
  have y1 := HX4.out.cell 1
  have y4 := HX4.out.cell 4
  have y5 := HX4.out.cell 5
  simp at y0 y1 y4 y5
  clear hu hm hrf4 hrr 
  go_wp2_with (first | (refine ld_mod rfl _ rfl _ rfl MA HB4.out H17.out ?_))
  clear y0 y1 y4 y5
  refine HRR.out.mono ?_
  rintro e w5 ⟨am2, z2, rfl, hrf5, hs5⟩
  obtain ⟨MB, hMB⟩ : ∃ MB, MB = mdC am2 { m with ts := tyL m.ts o.t, is := m.is ++ [⟨envL, o.s, 0, tyI m.ts o.t, 0, false⟩] } := ⟨_, rfl⟩
  have HMB := Lib.hid hMB
  rw [← hMB]
  have H17b : Hid (MB.size = 17) := by rw [HMB.out]; rfl
  have H1b : Hid (MB.all (·.oneCell') = true) := by rw [HMB.out]; exact mdC_one _ _
  have HB5 := Lib.hid (HB4.out.step hs5 id)
  have HZ5 := Lib.hid (HZ4.out.step hs5 id)
  have HS5 := Lib.hid hs5
  have HRF5 := Lib.hid hrf5
  obtain ⟨w6, hw6⟩ : ∃ w6, w6 = w5.setRow w.heap.size MB := ⟨_, rfl⟩
  have HB6 : Hid (Blk w6 w.heap.size 41 MB) := by rw [hw6]; exact HB5.out.row _
  have hs56 : Step (fun k => k = w.heap.size) w5 w6 := by rw [hw6]; exact Step.setRow (F := fun k => k = w.heap.size) Step.refl (.inl rfl) _
  have HZ6 : Hid (Blk w6 (w.heap.size + 1 + 1) 41 #[.slice none 0 0, .slice none 0 0, .slice none 0 0, .slice none 0 0, .slice none 0 0, .slice none 0 0, .slice none 0 0, .int .i64 0, .slice none 0 0, .slice none 0 0, .slice none 0 0, .bool false, .int .u32 0, .int .u32 0, .int .u32 0, .int .u32 0, .slice none 0 0]) := HZ5.out.step hs56 (by show ¬ (w.heap.size + 1 + 1 = w.heap.size); omega)
  have HS56 := Lib.hid hs56
  have HW6 := Lib.hid hw6
  clear hMB hs5 hrf5 hw6 hs56
  obtain ⟨bb, hbb⟩ : ∃ bb, ((z : Int) == z2) = bb := ⟨_, rfl⟩
  cases bb
  all_goals
    go_wp2_with (first | (refine st_mod rfl _ _ rfl rfl w.heap.size rfl MB rfl HB5.out H17.out H17b.out H1b.out ?_; rw [← HW6.out]) | (refine ld_mod rfl _ rfl _ rfl MB HB6.out H17b.out ?_) | (refine st_mod rfl _ _ rfl rfl (w.heap.size + 1 + 1) rfl MB rfl HZ6.out rfl H17b.out H1b.out ?_))
    refine bodyPost_ret (v := .tuple #[.agg MB, .bool _]) (res_mod2 Try.results28 (w.heap.size + 1 + 1) rfl rfl (Blk.row HZ6.out MB) H17b.out) rfl ?_
    have h56 : Step (fun k => w.heap.size ≤ k ∧ k < v3.heap.size) w5 (w6.setRow (w.heap.size + 1 + 1) MB) := (HS56.out.mono (F' := fun k => w.heap.size ≤ k ∧ k < v3.heap.size) (fun k _ e => by omega)).trans (Step.setRow (F := fun k => w.heap.size ≤ k ∧ k < v3.heap.size) Step.refl (.inl (by omega)) MB)
    have hfin := HH.out.fin HS.out HMK.out HU.out HRF5.out HS5.out h56 (by exact Inn.mono (Inn.same (HH.out.inn4 HS.out HU.out) rfl rfl) (fun k _ hk => Or.inl hk)) (by exact Inn.mono (Inn.same ((HH.out.inm4 HS.out HU.out).step HS5.out (fun _ _ => id)) rfl rfl) (fun k _ hk => Or.inl hk)) (⟨by show tyL _ _ = tyL _ _; rw [HA.out.q0], by show _ ++ [_] = _ ++ [_]; rw [HA.out.q0, HA.out.q1], HA.out.q2, HA.out.q5, HA.out.q6, HA.out.q10, HA.out.q16, HA.out.st, HA.out.d1, HA.out.d2, HA.out.d3, HA.out.d4, HA.out.q8, HA.out.q9⟩)
    exact ⟨_, _, _, _, _, _, _, by rw [HMB.out], hfin.1, hfin.2, fun n ⟨h0, h1, h2, h3, h4, h5, h6, h7, h8⟩ => ⟨by show (tyL _ _).length ≤ n + 1; exact Nat.le_trans (tyL_len _ _) (Nat.succ_le_succ h0), by show (_ ++ [_]).length ≤ n + 1; rw [List.length_append]; exact Nat.succ_le_succ h1, Nat.le_succ_of_le h2, Nat.le_succ_of_le h3, Nat.le_succ_of_le h4, Nat.le_succ_of_le h5, Nat.le_succ_of_le h6, Nat.le_succ_of_le h7, Nat.le_succ_of_le h8⟩⟩

set_option maxRecDepth 100000 in
set_option maxHeartbeats 12800000 in
theorem num4l (h : St T w B X a s tk vr am m) (hB : B ≤ w.heap.size) (hl : s.small 900) (o : Opx) (ho : o.ok w (Old T w)) (hg : 0 < s.gs.length) :
    Calls Try.prog 28 #[.pointer (some ⟨X, 0, none⟩), .agg (mdC am m), .agg #[.int .i64 4, .string (str o.s), .int .u32 (o.n : Int), .int .u32 (o.n2 : Int), .string (str o.t.p), .string (str o.t.r), .string (str o.lo), .slice o.A o.bo.length o.c, .int .u8 (o.vt : Int), .int .u64 (o.vn : Int), .bool o.mu]] w (DOut T w B X a s) := by
  have hlm := h.al.small hl
  obtain ⟨l0, l1, l2, l5, l6, l8, l9, l10, l16⟩ := hl
  obtain ⟨k0, k1, k2, k5, k6, k8, k9, k10, k16⟩ := hlm
  have hl' : s.small 1000 := ⟨by omega, by omega, by omega, by omega, by omega, by omega, by omega, by omega, by omega⟩
  have hlm' : m.small 1000 := ⟨by omega, by omega, by omega, by omega, by omega, by omega, by omega, by omega, by omega⟩
  have HA := Lib.hid h.al
  have HH := Lib.hid h
  have HO := Lib.hid ho
  have HLS := Lib.hid hl'
  have HLM := Lib.hid hlm'
  obtain ⟨v1, hv1⟩ : ∃ v1, v1 = w.alloc (.cells (mdC am m) 41) := ⟨_, rfl⟩
  obtain ⟨v2, hv2⟩ : ∃ v2, v2 = v1.alloc (.cells #[.int .i64 4, .string (str o.s), .int .u32 (o.n : Int), .int .u32 (o.n2 : Int), .string (str o.t.p), .string (str o.t.r), .string (str o.lo), .slice o.A o.bo.length o.c, .int .u8 (o.vt : Int), .int .u64 (o.vn : Int), .bool o.mu] 52) := ⟨_, rfl⟩
  obtain ⟨v3, hv3⟩ : ∃ v3, v3 = v2.alloc (.cells #[.slice none 0 0, .slice none 0 0, .slice none 0 0, .slice none 0 0, .slice none 0 0, .slice none 0 0, .slice none 0 0, .int .i64 0, .slice none 0 0, .slice none 0 0, .slice none 0 0, .bool false, .int .u32 0, .int .u32 0, .int .u32 0, .int .u32 0, .slice none 0 0] 41) := ⟨_, rfl⟩
  have e0 : w.heap.size = w.heap.size := rfl
  have e1 : v1.heap.size = w.heap.size + 1 := by rw [hv1]; simp [e0]
  have s1 : Step (fun _ => False) w v1 := by rw [hv1]; exact Step.alloc Step.refl _
  have e2 : v2.heap.size = w.heap.size + 1 + 1 := by rw [hv2]; simp [e1]
  have s2 : Step (fun _ => False) v1 v2 := by rw [hv2]; exact Step.alloc Step.refl _
  have e3 : v3.heap.size = w.heap.size + 1 + 1 + 1 := by rw [hv3]; simp [e2]
  have s3 : Step (fun _ => False) v2 v3 := by rw [hv3]; exact Step.alloc Step.refl _
  have HB : Hid (Blk v3 (w.heap.size) 41 (mdC am m)) := by
    have h1 : Blk v1 w.heap.size 41 (mdC am m) := by rw [hv1]; exact Blk.new w _ _
    exact ((h1.step s2 id).step s3 id)
  have HX : Hid (Blk v3 (w.heap.size + 1) 52 #[.int .i64 4, .string (str o.s), .int .u32 (o.n : Int), .int .u32 (o.n2 : Int), .string (str o.t.p), .string (str o.t.r), .string (str o.lo), .slice o.A o.bo.length o.c, .int .u8 (o.vt : Int), .int .u64 (o.vn : Int), .bool o.mu]) := by
    have h1 : Blk v2 v1.heap.size 52 #[.int .i64 4, .string (str o.s), .int .u32 (o.n : Int), .int .u32 (o.n2 : Int), .string (str o.t.p), .string (str o.t.r), .string (str o.lo), .slice o.A o.bo.length o.c, .int .u8 (o.vt : Int), .int .u64 (o.vn : Int), .bool o.mu] := by rw [hv2]; exact Blk.new v1 _ _
    rw [e1] at h1
    exact (h1.step s3 id)
  have HZ : Hid (Blk v3 (w.heap.size + 1 + 1) 41 #[.slice none 0 0, .slice none 0 0, .slice none 0 0, .slice none 0 0, .slice none 0 0, .slice none 0 0, .slice none 0 0, .int .i64 0, .slice none 0 0, .slice none 0 0, .slice none 0 0, .bool false, .int .u32 0, .int .u32 0, .int .u32 0, .int .u32 0, .slice none 0 0]) := by
    have h1 : Blk v3 v2.heap.size 41 #[.slice none 0 0, .slice none 0 0, .slice none 0 0, .slice none 0 0, .slice none 0 0, .slice none 0 0, .slice none 0 0, .int .i64 0, .slice none 0 0, .slice none 0 0, .slice none 0 0, .bool false, .int .u32 0, .int .u32 0, .int .u32 0, .int .u32 0, .slice none 0 0] := by rw [hv3]; exact Blk.new v2 _ _
    rw [e2] at h1
    exact h1
  have HS : Hid (Step (fun _ => False) w v3) := s1 |>.trans s2 |>.trans s3
  have HE1 := Lib.hid hv1
  have HE2 := Lib.hid hv2
  have HE3 := Lib.hid hv3
  clear e1 s1 hv1 e2 s2 hv2 e3 s3 hv3 e0
  have hsz3 : v3.heap.size = w.heap.size + 1 + 1 + 1 := by rw [HE3.out, HE2.out, HE1.out]; simp
  have hB3 : B ≤ v3.heap.size := by omega
  have HM3 := Lib.hid (h.mkr.quiet HS.out)
  have hin : ∀ k, ftA X a k → k < w.heap.size := h.mkr.in_
  have hkm := wBase_late HM3.out hg
  have HKM := Lib.hid hkm
  have HIN := Lib.hid hin
  obtain ⟨MA, hMA⟩ : ∃ MA, MA = mdC am m := ⟨_, rfl⟩
  rw [← hMA] at HE1 HB ⊢
  have HMA := Lib.hid hMA
  have H17 : Hid (MA.size = 17) := by rw [Hid, hMA]; rfl
  have H1 : Hid (MA.all (·.oneCell') = true) := by rw [Hid, hMA]; exact mdC_one am m
  clear hMA
  have x0 := HX.out.cell 0
  simp at x0
  rw [HE3.out, HE2.out, HE1.out] at x0
  clear h hkm hin ho hl' hlm'
  go_enter Try.func28, Try.ntmps28
  go_wp2_with (first | (refine ld_mod rfl _ rfl _ rfl MA (by first | exact HB.out | (rw [← HE1.out, ← HE2.out, ← HE3.out]; exact HB.out)) H17.out ?_))
  rw [← HE1.out]
  rw [← HE2.out]
  rw [← HE3.out]
  clear x0
  refine HKM.out.mono ?_
  rintro e w4 ⟨rfl, hw4⟩
  have hs4 : Step (fun _ => False) v3 w4 := by rw [hw4]; exact Step.refl
  clear hw4
  have hu : Upd v3 (ftA X a) (ftA X a) w4 := Upd.after hs4 Upd.refl
  have hm : Mk w4 B X a s tk vr := HM3.out.quiet hs4
  have HB4 := Lib.hid (HB.out.step hu.1 (fun e => Nat.lt_irrefl _ (HIN.out _ e)))
  have HX4 := Lib.hid (HX.out.step hu.1 (fun e => by have := HIN.out _ e; omega))
  have HZ4 := Lib.hid (HZ.out.step hu.1 (fun e => by have := HIN.out _ e; omega))
  have HS4 : Hid (Step (fun k => ftA X a k) w w4) := (HS.out.mono (fun _ _ h => h.elim)).trans hu.1
  have HU := Lib.hid hu
  have HMK := Lib.hid hm
  have hrf4 := HH.out.rf4 HS.out hu
  have hrr := want_late w4 am m _ hrf4 (by omega) [101, 110, 118] [95, 95, 109, 101, 109, 111, 114, 121, 95, 98, 97, 115, 101] false (by rw [str_toList]; rfl) (by rw [HA.out.q5]; exact hg)
  rw [show mdC am m = MA from HMA.out.symm] at hrr
  have HRR := Lib.hid hrr
  have hsz4 := hu.1.size
  have y0 := HX4.out.cell 0
  simp at y0
  clear hu hm hrf4 hrr hs4
  go_wp2_with (first | (refine ld_mod rfl _ rfl _ rfl MA HB4.out H17.out ?_))
  clear y0
  refine HRR.out.mono ?_
  rintro e w5 ⟨rfl, hs5⟩
  obtain ⟨MB, hMB⟩ : ∃ MB, MB = MA := ⟨_, rfl⟩
  have HMB : Hid (MB = mdC am m) := hMB.trans HMA.out
  have hrf5 := ((HH.out.rf4 HS.out HU.out).step hs5 (fun _ _ => id)).mono (S' := fun k => Old T w k ∨ w4.heap.size ≤ k) (fun _ _ => .inl)
  rw [← hMB]
  have H17b : Hid (MB.size = 17) := by rw [HMB.out]; rfl
  have H1b : Hid (MB.all (·.oneCell') = true) := by rw [HMB.out]; exact mdC_one _ _
  have HB5 := Lib.hid (HB4.out.step hs5 id)
  have HZ5 := Lib.hid (HZ4.out.step hs5 id)
  have HS5 := Lib.hid hs5
  have HRF5 := Lib.hid hrf5
  obtain ⟨w6, hw6⟩ : ∃ w6, w6 = w5.setRow w.heap.size MB := ⟨_, rfl⟩
  have HB6 : Hid (Blk w6 w.heap.size 41 MB) := by rw [hw6]; exact HB5.out.row _
  have hs56 : Step (fun k => k = w.heap.size) w5 w6 := by rw [hw6]; exact Step.setRow (F := fun k => k = w.heap.size) Step.refl (.inl rfl) _
  have HZ6 : Hid (Blk w6 (w.heap.size + 1 + 1) 41 #[.slice none 0 0, .slice none 0 0, .slice none 0 0, .slice none 0 0, .slice none 0 0, .slice none 0 0, .slice none 0 0, .int .i64 0, .slice none 0 0, .slice none 0 0, .slice none 0 0, .bool false, .int .u32 0, .int .u32 0, .int .u32 0, .int .u32 0, .slice none 0 0]) := HZ5.out.step hs56 (by show ¬ (w.heap.size + 1 + 1 = w.heap.size); omega)
  have HS56 := Lib.hid hs56
  have HW6 := Lib.hid hw6
  clear hMB hs5 hrf5 hw6 hs56
  skip
  all_goals
    go_wp2_with (first | (refine st_mod rfl _ _ rfl rfl w.heap.size rfl MB rfl HB5.out H17.out H17b.out H1b.out ?_; rw [← HW6.out]) | (refine ld_mod rfl _ rfl _ rfl MB HB6.out H17b.out ?_) | (refine st_mod rfl _ _ rfl rfl (w.heap.size + 1 + 1) rfl MB rfl HZ6.out rfl H17b.out H1b.out ?_))
    refine bodyPost_ret (v := .tuple #[.agg MB, .bool _]) (res_mod2 Try.results28 (w.heap.size + 1 + 1) rfl rfl (Blk.row HZ6.out MB) H17b.out) rfl ?_
    have h56 : Step (fun k => w.heap.size ≤ k ∧ k < v3.heap.size) w5 (w6.setRow (w.heap.size + 1 + 1) MB) := (HS56.out.mono (F' := fun k => w.heap.size ≤ k ∧ k < v3.heap.size) (fun k _ e => by omega)).trans (Step.setRow (F := fun k => w.heap.size ≤ k ∧ k < v3.heap.size) Step.refl (.inl (by omega)) MB)
    have hfin := HH.out.fin HS.out HMK.out HU.out HRF5.out HS5.out h56 (by exact Inn.mono (Inn.same (HH.out.inn4 HS.out HU.out) rfl rfl) (fun k _ hk => Or.inl hk)) (by exact Inn.mono (Inn.same ((HH.out.inm4 HS.out HU.out).step HS5.out (fun _ _ => id)) rfl rfl) (fun k _ hk => Or.inl hk)) (HA.out)
    exact ⟨_, _, _, _, _, _, _, by rw [HMB.out], hfin.1, hfin.2, Grow.refl s⟩

set_option maxRecDepth 100000 in
set_option maxHeartbeats 12800000 in
theorem num4 (h : St T w B X a s tk vr am m) (hB : B ≤ w.heap.size) (hl : s.small 900) (o : Opx) (ho : o.ok w (Old T w)) (hg : s.gs.length = 0) :
    Calls Try.prog 28 #[.pointer (some ⟨X, 0, none⟩), .agg (mdC am m), .agg #[.int .i64 4, .string (str o.s), .int .u32 (o.n : Int), .int .u32 (o.n2 : Int), .string (str o.t.p), .string (str o.t.r), .string (str o.lo), .slice o.A o.bo.length o.c, .int .u8 (o.vt : Int), .int .u64 (o.vn : Int), .bool o.mu]] w (DOut T w B X a s) := by
  have hlm := h.al.small hl
  obtain ⟨l0, l1, l2, l5, l6, l8, l9, l10, l16⟩ := hl
  obtain ⟨k0, k1, k2, k5, k6, k8, k9, k10, k16⟩ := hlm
  have hl' : s.small 1000 := ⟨by omega, by omega, by omega, by omega, by omega, by omega, by omega, by omega, by omega⟩
  have hlm' : m.small 1000 := ⟨by omega, by omega, by omega, by omega, by omega, by omega, by omega, by omega, by omega⟩
  have HA := Lib.hid h.al
  have HH := Lib.hid h
  have HO := Lib.hid ho
  have HLS := Lib.hid hl'
  have HLM := Lib.hid hlm'
  obtain ⟨v1, hv1⟩ : ∃ v1, v1 = w.alloc (.cells (mdC am m) 41) := ⟨_, rfl⟩
  obtain ⟨v2, hv2⟩ : ∃ v2, v2 = v1.alloc (.cells #[.int .i64 4, .string (str o.s), .int .u32 (o.n : Int), .int .u32 (o.n2 : Int), .string (str o.t.p), .string (str o.t.r), .string (str o.lo), .slice o.A o.bo.length o.c, .int .u8 (o.vt : Int), .int .u64 (o.vn : Int), .bool o.mu] 52) := ⟨_, rfl⟩
  obtain ⟨v3, hv3⟩ : ∃ v3, v3 = v2.alloc (.cells #[.slice none 0 0, .slice none 0 0, .slice none 0 0, .slice none 0 0, .slice none 0 0, .slice none 0 0, .slice none 0 0, .int .i64 0, .slice none 0 0, .slice none 0 0, .slice none 0 0, .bool false, .int .u32 0, .int .u32 0, .int .u32 0, .int .u32 0, .slice none 0 0] 41) := ⟨_, rfl⟩
  have e0 : w.heap.size = w.heap.size := rfl
  have e1 : v1.heap.size = w.heap.size + 1 := by rw [hv1]; simp [e0]
  have s1 : Step (fun _ => False) w v1 := by rw [hv1]; exact Step.alloc Step.refl _
  have e2 : v2.heap.size = w.heap.size + 1 + 1 := by rw [hv2]; simp [e1]
  have s2 : Step (fun _ => False) v1 v2 := by rw [hv2]; exact Step.alloc Step.refl _
  have e3 : v3.heap.size = w.heap.size + 1 + 1 + 1 := by rw [hv3]; simp [e2]
  have s3 : Step (fun _ => False) v2 v3 := by rw [hv3]; exact Step.alloc Step.refl _
  have HB : Hid (Blk v3 (w.heap.size) 41 (mdC am m)) := by
    have h1 : Blk v1 w.heap.size 41 (mdC am m) := by rw [hv1]; exact Blk.new w _ _
    exact ((h1.step s2 id).step s3 id)
  have HX : Hid (Blk v3 (w.heap.size + 1) 52 #[.int .i64 4, .string (str o.s), .int .u32 (o.n : Int), .int .u32 (o.n2 : Int), .string (str o.t.p), .string (str o.t.r), .string (str o.lo), .slice o.A o.bo.length o.c, .int .u8 (o.vt : Int), .int .u64 (o.vn : Int), .bool o.mu]) := by
    have h1 : Blk v2 v1.heap.size 52 #[.int .i64 4, .string (str o.s), .int .u32 (o.n : Int), .int .u32 (o.n2 : Int), .string (str o.t.p), .string (str o.t.r), .string (str o.lo), .slice o.A o.bo.length o.c, .int .u8 (o.vt : Int), .int .u64 (o.vn : Int), .bool o.mu] := by rw [hv2]; exact Blk.new v1 _ _
    rw [e1] at h1
    exact (h1.step s3 id)
  have HZ : Hid (Blk v3 (w.heap.size + 1 + 1) 41 #[.slice none 0 0, .slice none 0 0, .slice none 0 0, .slice none 0 0, .slice none 0 0, .slice none 0 0, .slice none 0 0, .int .i64 0, .slice none 0 0, .slice none 0 0, .slice none 0 0, .bool false, .int .u32 0, .int .u32 0, .int .u32 0, .int .u32 0, .slice none 0 0]) := by
    have h1 : Blk v3 v2.heap.size 41 #[.slice none 0 0, .slice none 0 0, .slice none 0 0, .slice none 0 0, .slice none 0 0, .slice none 0 0, .slice none 0 0, .int .i64 0, .slice none 0 0, .slice none 0 0, .slice none 0 0, .bool false, .int .u32 0, .int .u32 0, .int .u32 0, .int .u32 0, .slice none 0 0] := by rw [hv3]; exact Blk.new v2 _ _
    rw [e2] at h1
    exact h1
  have HS : Hid (Step (fun _ => False) w v3) := s1 |>.trans s2 |>.trans s3
  have HE1 := Lib.hid hv1
  have HE2 := Lib.hid hv2
  have HE3 := Lib.hid hv3
  clear e1 s1 hv1 e2 s2 hv2 e3 s3 hv3 e0
  have hsz3 : v3.heap.size = w.heap.size + 1 + 1 + 1 := by rw [HE3.out, HE2.out, HE1.out]; simp
  have hB3 : B ≤ v3.heap.size := by omega
  have HM3 := Lib.hid (h.mkr.quiet HS.out)
  have hin : ∀ k, ftA X a k → k < w.heap.size := h.mkr.in_
  have hkm := wBase_ok HM3.out hB3 hg (by omega)
  have HKM := Lib.hid hkm
  have HIN := Lib.hid hin
  obtain ⟨MA, hMA⟩ : ∃ MA, MA = mdC am m := ⟨_, rfl⟩
  rw [← hMA] at HE1 HB ⊢
  have HMA := Lib.hid hMA
  have H17 : Hid (MA.size = 17) := by rw [Hid, hMA]; rfl
  have H1 : Hid (MA.all (·.oneCell') = true) := by rw [Hid, hMA]; exact mdC_one am m
  clear hMA
  have x0 := HX.out.cell 0
  simp at x0
  rw [HE3.out, HE2.out, HE1.out] at x0
  clear h hkm hin ho hl' hlm'
  go_enter Try.func28, Try.ntmps28
  go_wp2_with (first | (refine ld_mod rfl _ rfl _ rfl MA (by first | exact HB.out | (rw [← HE1.out, ← HE2.out, ← HE3.out]; exact HB.out)) H17.out ?_))
  rw [← HE1.out]
  rw [← HE2.out]
  rw [← HE3.out]
  clear x0
  refine HKM.out.mono ?_
  rintro e w4 ⟨⟨z, rfl⟩, a1, v2', hm, hu⟩
  have HB4 := Lib.hid (HB.out.step hu.1 (fun e => Nat.lt_irrefl _ (HIN.out _ e)))
  have HX4 := Lib.hid (HX.out.step hu.1 (fun e => by have := HIN.out _ e; omega))
  have HZ4 := Lib.hid (HZ.out.step hu.1 (fun e => by have := HIN.out _ e; omega))
  have HS4 : Hid (Step (fun k => ftA X a k) w w4) := (HS.out.mono (fun _ _ h => h.elim)).trans hu.1
  have HU := Lib.hid hu
  have HMK := Lib.hid hm
  have hrf4 := HH.out.rf4 HS.out hu
  have hrr := want_ok w4 am m _ hrf4 (by omega) [101, 110, 118] [95, 95, 109, 101, 109, 111, 114, 121, 95, 98, 97, 115, 101] false (by rw [str_toList]; rfl) (by rw [HA.out.q5]; exact hg)
  rw [show mdC am m = MA from HMA.out.symm] at hrr
  have HRR := Lib.hid hrr
  have hsz4 := hu.1.size
  have y0 := HX4.out.cell 0
  simp at y0
  clear hu hm hrf4 hrr 
  go_wp2_with (first | (refine ld_mod rfl _ rfl _ rfl MA HB4.out H17.out ?_))
  clear y0
  refine HRR.out.mono ?_
  rintro e w5 ⟨am2, z2, rfl, hrf5, hs5⟩
  obtain ⟨MB, hMB⟩ : ∃ MB, MB = mdC am2 { m with is := m.is ++ [⟨[101, 110, 118], [95, 95, 109, 101, 109, 111, 114, 121, 95, 98, 97, 115, 101], 3, 0, 127, false⟩] } := ⟨_, rfl⟩
  have HMB := Lib.hid hMB
  rw [← hMB]
  have H17b : Hid (MB.size = 17) := by rw [HMB.out]; rfl
  have H1b : Hid (MB.all (·.oneCell') = true) := by rw [HMB.out]; exact mdC_one _ _
  have HB5 := Lib.hid (HB4.out.step hs5 id)
  have HZ5 := Lib.hid (HZ4.out.step hs5 id)
  have HS5 := Lib.hid hs5
  have HRF5 := Lib.hid hrf5
  obtain ⟨w6, hw6⟩ : ∃ w6, w6 = w5.setRow w.heap.size MB := ⟨_, rfl⟩
  have HB6 : Hid (Blk w6 w.heap.size 41 MB) := by rw [hw6]; exact HB5.out.row _
  have hs56 : Step (fun k => k = w.heap.size) w5 w6 := by rw [hw6]; exact Step.setRow (F := fun k => k = w.heap.size) Step.refl (.inl rfl) _
  have HZ6 : Hid (Blk w6 (w.heap.size + 1 + 1) 41 #[.slice none 0 0, .slice none 0 0, .slice none 0 0, .slice none 0 0, .slice none 0 0, .slice none 0 0, .slice none 0 0, .int .i64 0, .slice none 0 0, .slice none 0 0, .slice none 0 0, .bool false, .int .u32 0, .int .u32 0, .int .u32 0, .int .u32 0, .slice none 0 0]) := HZ5.out.step hs56 (by show ¬ (w.heap.size + 1 + 1 = w.heap.size); omega)
  have HS56 := Lib.hid hs56
  have HW6 := Lib.hid hw6
  clear hMB hs5 hrf5 hw6 hs56
  obtain ⟨bb, hbb⟩ : ∃ bb, ((z : Int) == z2) = bb := ⟨_, rfl⟩
  cases bb
  all_goals
    go_wp2_with (first | (refine st_mod rfl _ _ rfl rfl w.heap.size rfl MB rfl HB5.out H17.out H17b.out H1b.out ?_; rw [← HW6.out]) | (refine ld_mod rfl _ rfl _ rfl MB HB6.out H17b.out ?_) | (refine st_mod rfl _ _ rfl rfl (w.heap.size + 1 + 1) rfl MB rfl HZ6.out rfl H17b.out H1b.out ?_))
    refine bodyPost_ret (v := .tuple #[.agg MB, .bool _]) (res_mod2 Try.results28 (w.heap.size + 1 + 1) rfl rfl (Blk.row HZ6.out MB) H17b.out) rfl ?_
    have h56 : Step (fun k => w.heap.size ≤ k ∧ k < v3.heap.size) w5 (w6.setRow (w.heap.size + 1 + 1) MB) := (HS56.out.mono (F' := fun k => w.heap.size ≤ k ∧ k < v3.heap.size) (fun k _ e => by omega)).trans (Step.setRow (F := fun k => w.heap.size ≤ k ∧ k < v3.heap.size) Step.refl (.inl (by omega)) MB)
    have hfin := HH.out.fin HS.out HMK.out HU.out HRF5.out HS5.out h56 (by exact Inn.mono (Inn.same (HH.out.inn4 HS.out HU.out) rfl rfl) (fun k _ hk => Or.inl hk)) (by exact Inn.mono (Inn.same ((HH.out.inm4 HS.out HU.out).step HS5.out (fun _ _ => id)) rfl rfl) (fun k _ hk => Or.inl hk)) (⟨HA.out.q0, by show _ ++ [_] = _ ++ [_]; rw [HA.out.q1], HA.out.q2, HA.out.q5, HA.out.q6, HA.out.q10, HA.out.q16, HA.out.st, HA.out.d1, HA.out.d2, HA.out.d3, HA.out.d4, HA.out.q8, HA.out.q9⟩)
    exact ⟨_, _, _, _, _, _, _, by rw [HMB.out], hfin.1, hfin.2, fun n ⟨h0, h1, h2, h3, h4, h5, h6, h7, h8⟩ => ⟨Nat.le_succ_of_le h0, by show (_ ++ [_]).length ≤ n + 1; rw [List.length_append]; exact Nat.succ_le_succ h1, Nat.le_succ_of_le h2, Nat.le_succ_of_le h3, Nat.le_succ_of_le h4, Nat.le_succ_of_le h5, Nat.le_succ_of_le h6, Nat.le_succ_of_le h7, Nat.le_succ_of_le h8⟩⟩

set_option maxRecDepth 100000 in
set_option maxHeartbeats 12800000 in
theorem num5l (h : St T w B X a s tk vr am m) (hB : B ≤ w.heap.size) (hl : s.small 900) (o : Opx) (ho : o.ok w (Old T w)) (hg : 0 < s.gs.length) :
    Calls Try.prog 28 #[.pointer (some ⟨X, 0, none⟩), .agg (mdC am m), .agg #[.int .i64 5, .string (str o.s), .int .u32 (o.n : Int), .int .u32 (o.n2 : Int), .string (str o.t.p), .string (str o.t.r), .string (str o.lo), .slice o.A o.bo.length o.c, .int .u8 (o.vt : Int), .int .u64 (o.vn : Int), .bool o.mu]] w (DOut T w B X a s) := by
  have hlm := h.al.small hl
  obtain ⟨l0, l1, l2, l5, l6, l8, l9, l10, l16⟩ := hl
  obtain ⟨k0, k1, k2, k5, k6, k8, k9, k10, k16⟩ := hlm
  have hl' : s.small 1000 := ⟨by omega, by omega, by omega, by omega, by omega, by omega, by omega, by omega, by omega⟩
  have hlm' : m.small 1000 := ⟨by omega, by omega, by omega, by omega, by omega, by omega, by omega, by omega, by omega⟩
  have HA := Lib.hid h.al
  have HH := Lib.hid h
  have HO := Lib.hid ho
  have HLS := Lib.hid hl'
  have HLM := Lib.hid hlm'
  obtain ⟨v1, hv1⟩ : ∃ v1, v1 = w.alloc (.cells (mdC am m) 41) := ⟨_, rfl⟩
  obtain ⟨v2, hv2⟩ : ∃ v2, v2 = v1.alloc (.cells #[.int .i64 5, .string (str o.s), .int .u32 (o.n : Int), .int .u32 (o.n2 : Int), .string (str o.t.p), .string (str o.t.r), .string (str o.lo), .slice o.A o.bo.length o.c, .int .u8 (o.vt : Int), .int .u64 (o.vn : Int), .bool o.mu] 52) := ⟨_, rfl⟩
  obtain ⟨v3, hv3⟩ : ∃ v3, v3 = v2.alloc (.cells #[.slice none 0 0, .slice none 0 0, .slice none 0 0, .slice none 0 0, .slice none 0 0, .slice none 0 0, .slice none 0 0, .int .i64 0, .slice none 0 0, .slice none 0 0, .slice none 0 0, .bool false, .int .u32 0, .int .u32 0, .int .u32 0, .int .u32 0, .slice none 0 0] 41) := ⟨_, rfl⟩
  have e0 : w.heap.size = w.heap.size := rfl
  have e1 : v1.heap.size = w.heap.size + 1 := by rw [hv1]; simp [e0]
  have s1 : Step (fun _ => False) w v1 := by rw [hv1]; exact Step.alloc Step.refl _
  have e2 : v2.heap.size = w.heap.size + 1 + 1 := by rw [hv2]; simp [e1]
  have s2 : Step (fun _ => False) v1 v2 := by rw [hv2]; exact Step.alloc Step.refl _
  have e3 : v3.heap.size = w.heap.size + 1 + 1 + 1 := by rw [hv3]; simp [e2]
  have s3 : Step (fun _ => False) v2 v3 := by rw [hv3]; exact Step.alloc Step.refl _
  have HB : Hid (Blk v3 (w.heap.size) 41 (mdC am m)) := by
    have h1 : Blk v1 w.heap.size 41 (mdC am m) := by rw [hv1]; exact Blk.new w _ _
    exact ((h1.step s2 id).step s3 id)
  have HX : Hid (Blk v3 (w.heap.size + 1) 52 #[.int .i64 5, .string (str o.s), .int .u32 (o.n : Int), .int .u32 (o.n2 : Int), .string (str o.t.p), .string (str o.t.r), .string (str o.lo), .slice o.A o.bo.length o.c, .int .u8 (o.vt : Int), .int .u64 (o.vn : Int), .bool o.mu]) := by
    have h1 : Blk v2 v1.heap.size 52 #[.int .i64 5, .string (str o.s), .int .u32 (o.n : Int), .int .u32 (o.n2 : Int), .string (str o.t.p), .string (str o.t.r), .string (str o.lo), .slice o.A o.bo.length o.c, .int .u8 (o.vt : Int), .int .u64 (o.vn : Int), .bool o.mu] := by rw [hv2]; exact Blk.new v1 _ _
    rw [e1] at h1
    exact (h1.step s3 id)
  have HZ : Hid (Blk v3 (w.heap.size + 1 + 1) 41 #[.slice none 0 0, .slice none 0 0, .slice none 0 0, .slice none 0 0, .slice none 0 0, .slice none 0 0, .slice none 0 0, .int .i64 0, .slice none 0 0, .slice none 0 0, .slice none 0 0, .bool false, .int .u32 0, .int .u32 0, .int .u32 0, .int .u32 0, .slice none 0 0]) := by
    have h1 : Blk v3 v2.heap.size 41 #[.slice none 0 0, .slice none 0 0, .slice none 0 0, .slice none 0 0, .slice none 0 0, .slice none 0 0, .slice none 0 0, .int .i64 0, .slice none 0 0, .slice none 0 0, .slice none 0 0, .bool false, .int .u32 0, .int .u32 0, .int .u32 0, .int .u32 0, .slice none 0 0] := by rw [hv3]; exact Blk.new v2 _ _
    rw [e2] at h1
    exact h1
  have HS : Hid (Step (fun _ => False) w v3) := s1 |>.trans s2 |>.trans s3
  have HE1 := Lib.hid hv1
  have HE2 := Lib.hid hv2
  have HE3 := Lib.hid hv3
  clear e1 s1 hv1 e2 s2 hv2 e3 s3 hv3 e0
  have hsz3 : v3.heap.size = w.heap.size + 1 + 1 + 1 := by rw [HE3.out, HE2.out, HE1.out]; simp
  have hB3 : B ≤ v3.heap.size := by omega
  have HM3 := Lib.hid (h.mkr.quiet HS.out)
  have hin : ∀ k, ftA X a k → k < w.heap.size := h.mkr.in_
  have hkm := wSlots_late HM3.out hg
  have HKM := Lib.hid hkm
  have HIN := Lib.hid hin
  obtain ⟨MA, hMA⟩ : ∃ MA, MA = mdC am m := ⟨_, rfl⟩
  rw [← hMA] at HE1 HB ⊢
  have HMA := Lib.hid hMA
  have H17 : Hid (MA.size = 17) := by rw [Hid, hMA]; rfl
  have H1 : Hid (MA.all (·.oneCell') = true) := by rw [Hid, hMA]; exact mdC_one am m
  clear hMA
  have x0 := HX.out.cell 0
  simp at x0
  rw [HE3.out, HE2.out, HE1.out] at x0
  clear h hkm hin ho hl' hlm'
  go_enter Try.func28, Try.ntmps28
  go_wp2_with (first | (refine ld_mod rfl _ rfl _ rfl MA (by first | exact HB.out | (rw [← HE1.out, ← HE2.out, ← HE3.out]; exact HB.out)) H17.out ?_))
  rw [← HE1.out]
  rw [← HE2.out]
  rw [← HE3.out]
  clear x0
  refine HKM.out.mono ?_
  rintro e w4 ⟨rfl, hw4⟩
  have hs4 : Step (fun _ => False) v3 w4 := by rw [hw4]; exact Step.refl
  clear hw4
  have hu : Upd v3 (ftA X a) (ftA X a) w4 := Upd.after hs4 Upd.refl
  have hm : Mk w4 B X a s tk vr := HM3.out.quiet hs4
  have HB4 := Lib.hid (HB.out.step hu.1 (fun e => Nat.lt_irrefl _ (HIN.out _ e)))
  have HX4 := Lib.hid (HX.out.step hu.1 (fun e => by have := HIN.out _ e; omega))
  have HZ4 := Lib.hid (HZ.out.step hu.1 (fun e => by have := HIN.out _ e; omega))
  have HS4 : Hid (Step (fun k => ftA X a k) w w4) := (HS.out.mono (fun _ _ h => h.elim)).trans hu.1
  have HU := Lib.hid hu
  have HMK := Lib.hid hm
  have hrf4 := HH.out.rf4 HS.out hu
  have hrr := want_late w4 am m _ hrf4 (by omega) [101, 110, 118] [95, 95, 116, 97, 98, 108, 101, 95, 98, 97, 115, 101] false (by rw [str_toList]; rfl) (by rw [HA.out.q5]; exact hg)
  rw [show mdC am m = MA from HMA.out.symm] at hrr
  have HRR := Lib.hid hrr
  have hsz4 := hu.1.size
  have y0 := HX4.out.cell 0
  simp at y0
  clear hu hm hrf4 hrr hs4
  go_wp2_with (first | (refine ld_mod rfl _ rfl _ rfl MA HB4.out H17.out ?_))
  clear y0
  refine HRR.out.mono ?_
  rintro e w5 ⟨rfl, hs5⟩
  obtain ⟨MB, hMB⟩ : ∃ MB, MB = MA := ⟨_, rfl⟩
  have HMB : Hid (MB = mdC am m) := hMB.trans HMA.out
  have hrf5 := ((HH.out.rf4 HS.out HU.out).step hs5 (fun _ _ => id)).mono (S' := fun k => Old T w k ∨ w4.heap.size ≤ k) (fun _ _ => .inl)
  rw [← hMB]
  have H17b : Hid (MB.size = 17) := by rw [HMB.out]; rfl
  have H1b : Hid (MB.all (·.oneCell') = true) := by rw [HMB.out]; exact mdC_one _ _
  have HB5 := Lib.hid (HB4.out.step hs5 id)
  have HZ5 := Lib.hid (HZ4.out.step hs5 id)
  have HS5 := Lib.hid hs5
  have HRF5 := Lib.hid hrf5
  obtain ⟨w6, hw6⟩ : ∃ w6, w6 = w5.setRow w.heap.size MB := ⟨_, rfl⟩
  have HB6 : Hid (Blk w6 w.heap.size 41 MB) := by rw [hw6]; exact HB5.out.row _
  have hs56 : Step (fun k => k = w.heap.size) w5 w6 := by rw [hw6]; exact Step.setRow (F := fun k => k = w.heap.size) Step.refl (.inl rfl) _
  have HZ6 : Hid (Blk w6 (w.heap.size + 1 + 1) 41 #[.slice none 0 0, .slice none 0 0, .slice none 0 0, .slice none 0 0, .slice none 0 0, .slice none 0 0, .slice none 0 0, .int .i64 0, .slice none 0 0, .slice none 0 0, .slice none 0 0, .bool false, .int .u32 0, .int .u32 0, .int .u32 0, .int .u32 0, .slice none 0 0]) := HZ5.out.step hs56 (by show ¬ (w.heap.size + 1 + 1 = w.heap.size); omega)
  have HS56 := Lib.hid hs56
  have HW6 := Lib.hid hw6
  clear hMB hs5 hrf5 hw6 hs56
  skip
  all_goals
    go_wp2_with (first | (refine st_mod rfl _ _ rfl rfl w.heap.size rfl MB rfl HB5.out H17.out H17b.out H1b.out ?_; rw [← HW6.out]) | (refine ld_mod rfl _ rfl _ rfl MB HB6.out H17b.out ?_) | (refine st_mod rfl _ _ rfl rfl (w.heap.size + 1 + 1) rfl MB rfl HZ6.out rfl H17b.out H1b.out ?_))
    refine bodyPost_ret (v := .tuple #[.agg MB, .bool _]) (res_mod2 Try.results28 (w.heap.size + 1 + 1) rfl rfl (Blk.row HZ6.out MB) H17b.out) rfl ?_
    have h56 : Step (fun k => w.heap.size ≤ k ∧ k < v3.heap.size) w5 (w6.setRow (w.heap.size + 1 + 1) MB) := (HS56.out.mono (F' := fun k => w.heap.size ≤ k ∧ k < v3.heap.size) (fun k _ e => by omega)).trans (Step.setRow (F := fun k => w.heap.size ≤ k ∧ k < v3.heap.size) Step.refl (.inl (by omega)) MB)
    have hfin := HH.out.fin HS.out HMK.out HU.out HRF5.out HS5.out h56 (by exact Inn.mono (Inn.same (HH.out.inn4 HS.out HU.out) rfl rfl) (fun k _ hk => Or.inl hk)) (by exact Inn.mono (Inn.same ((HH.out.inm4 HS.out HU.out).step HS5.out (fun _ _ => id)) rfl rfl) (fun k _ hk => Or.inl hk)) (HA.out)
    exact ⟨_, _, _, _, _, _, _, by rw [HMB.out], hfin.1, hfin.2, Grow.refl s⟩

set_option maxRecDepth 100000 in
set_option maxHeartbeats 12800000 in
theorem num5 (h : St T w B X a s tk vr am m) (hB : B ≤ w.heap.size) (hl : s.small 900) (o : Opx) (ho : o.ok w (Old T w)) (hg : s.gs.length = 0) :
    Calls Try.prog 28 #[.pointer (some ⟨X, 0, none⟩), .agg (mdC am m), .agg #[.int .i64 5, .string (str o.s), .int .u32 (o.n : Int), .int .u32 (o.n2 : Int), .string (str o.t.p), .string (str o.t.r), .string (str o.lo), .slice o.A o.bo.length o.c, .int .u8 (o.vt : Int), .int .u64 (o.vn : Int), .bool o.mu]] w (DOut T w B X a s) := by
  have hlm := h.al.small hl
  obtain ⟨l0, l1, l2, l5, l6, l8, l9, l10, l16⟩ := hl
  obtain ⟨k0, k1, k2, k5, k6, k8, k9, k10, k16⟩ := hlm
  have hl' : s.small 1000 := ⟨by omega, by omega, by omega, by omega, by omega, by omega, by omega, by omega, by omega⟩
  have hlm' : m.small 1000 := ⟨by omega, by omega, by omega, by omega, by omega, by omega, by omega, by omega, by omega⟩
  have HA := Lib.hid h.al
  have HH := Lib.hid h
  have HO := Lib.hid ho
  have HLS := Lib.hid hl'
  have HLM := Lib.hid hlm'
  obtain ⟨v1, hv1⟩ : ∃ v1, v1 = w.alloc (.cells (mdC am m) 41) := ⟨_, rfl⟩
  obtain ⟨v2, hv2⟩ : ∃ v2, v2 = v1.alloc (.cells #[.int .i64 5, .string (str o.s), .int .u32 (o.n : Int), .int .u32 (o.n2 : Int), .string (str o.t.p), .string (str o.t.r), .string (str o.lo), .slice o.A o.bo.length o.c, .int .u8 (o.vt : Int), .int .u64 (o.vn : Int), .bool o.mu] 52) := ⟨_, rfl⟩
  obtain ⟨v3, hv3⟩ : ∃ v3, v3 = v2.alloc (.cells #[.slice none 0 0, .slice none 0 0, .slice none 0 0, .slice none 0 0, .slice none 0 0, .slice none 0 0, .slice none 0 0, .int .i64 0, .slice none 0 0, .slice none 0 0, .slice none 0 0, .bool false, .int .u32 0, .int .u32 0, .int .u32 0, .int .u32 0, .slice none 0 0] 41) := ⟨_, rfl⟩
  have e0 : w.heap.size = w.heap.size := rfl
  have e1 : v1.heap.size = w.heap.size + 1 := by rw [hv1]; simp [e0]
  have s1 : Step (fun _ => False) w v1 := by rw [hv1]; exact Step.alloc Step.refl _
  have e2 : v2.heap.size = w.heap.size + 1 + 1 := by rw [hv2]; simp [e1]
  have s2 : Step (fun _ => False) v1 v2 := by rw [hv2]; exact Step.alloc Step.refl _
  have e3 : v3.heap.size = w.heap.size + 1 + 1 + 1 := by rw [hv3]; simp [e2]
  have s3 : Step (fun _ => False) v2 v3 := by rw [hv3]; exact Step.alloc Step.refl _
  have HB : Hid (Blk v3 (w.heap.size) 41 (mdC am m)) := by
    have h1 : Blk v1 w.heap.size 41 (mdC am m) := by rw [hv1]; exact Blk.new w _ _
    exact ((h1.step s2 id).step s3 id)
  have HX : Hid (Blk v3 (w.heap.size + 1) 52 #[.int .i64 5, .string (str o.s), .int .u32 (o.n : Int), .int .u32 (o.n2 : Int), .string (str o.t.p), .string (str o.t.r), .string (str o.lo), .slice o.A o.bo.length o.c, .int .u8 (o.vt : Int), .int .u64 (o.vn : Int), .bool o.mu]) := by
    have h1 : Blk v2 v1.heap.size 52 #[.int .i64 5, .string (str o.s), .int .u32 (o.n : Int), .int .u32 (o.n2 : Int), .string (str o.t.p), .string (str o.t.r), .string (str o.lo), .slice o.A o.bo.length o.c, .int .u8 (o.vt : Int), .int .u64 (o.vn : Int), .bool o.mu] := by rw [hv2]; exact Blk.new v1 _ _
    rw [e1] at h1
    exact (h1.step s3 id)
  have HZ : Hid (Blk v3 (w.heap.size + 1 + 1) 41 #[.slice none 0 0, .slice none 0 0, .slice none 0 0, .slice none 0 0, .slice none 0 0, .slice none 0 0, .slice none 0 0, .int .i64 0, .slice none 0 0, .slice none 0 0, .slice none 0 0, .bool false, .int .u32 0, .int .u32 0, .int .u32 0, .int .u32 0, .slice none 0 0]) := by
    have h1 : Blk v3 v2.heap.size 41 #[.slice none 0 0, .slice none 0 0, .slice none 0 0, .slice none 0 0, .slice none 0 0, .slice none 0 0, .slice none 0 0, .int .i64 0, .slice none 0 0, .slice none 0 0, .slice none 0 0, .bool false, .int .u32 0, .int .u32 0, .int .u32 0, .int .u32 0, .slice none 0 0] := by rw [hv3]; exact Blk.new v2 _ _
    rw [e2] at h1
    exact h1
  have HS : Hid (Step (fun _ => False) w v3) := s1 |>.trans s2 |>.trans s3
  have HE1 := Lib.hid hv1
  have HE2 := Lib.hid hv2
  have HE3 := Lib.hid hv3
  clear e1 s1 hv1 e2 s2 hv2 e3 s3 hv3 e0
  have hsz3 : v3.heap.size = w.heap.size + 1 + 1 + 1 := by rw [HE3.out, HE2.out, HE1.out]; simp
  have hB3 : B ≤ v3.heap.size := by omega
  have HM3 := Lib.hid (h.mkr.quiet HS.out)
  have hin : ∀ k, ftA X a k → k < w.heap.size := h.mkr.in_
  have hkm := wSlots_ok HM3.out hB3 hg (by omega)
  have HKM := Lib.hid hkm
  have HIN := Lib.hid hin
  obtain ⟨MA, hMA⟩ : ∃ MA, MA = mdC am m := ⟨_, rfl⟩
  rw [← hMA] at HE1 HB ⊢
  have HMA := Lib.hid hMA
  have H17 : Hid (MA.size = 17) := by rw [Hid, hMA]; rfl
  have H1 : Hid (MA.all (·.oneCell') = true) := by rw [Hid, hMA]; exact mdC_one am m
  clear hMA
  have x0 := HX.out.cell 0
  simp at x0
  rw [HE3.out, HE2.out, HE1.out] at x0
  clear h hkm hin ho hl' hlm'
  go_enter Try.func28, Try.ntmps28
  go_wp2_with (first | (refine ld_mod rfl _ rfl _ rfl MA (by first | exact HB.out | (rw [← HE1.out, ← HE2.out, ← HE3.out]; exact HB.out)) H17.out ?_))
  rw [← HE1.out]
  rw [← HE2.out]
  rw [← HE3.out]
  clear x0
  refine HKM.out.mono ?_
  rintro e w4 ⟨⟨z, rfl⟩, a1, v2', hm, hu⟩
  have HB4 := Lib.hid (HB.out.step hu.1 (fun e => Nat.lt_irrefl _ (HIN.out _ e)))
  have HX4 := Lib.hid (HX.out.step hu.1 (fun e => by have := HIN.out _ e; omega))
  have HZ4 := Lib.hid (HZ.out.step hu.1 (fun e => by have := HIN.out _ e; omega))
  have HS4 : Hid (Step (fun k => ftA X a k) w w4) := (HS.out.mono (fun _ _ h => h.elim)).trans hu.1
  have HU := Lib.hid hu
  have HMK := Lib.hid hm
  have hrf4 := HH.out.rf4 HS.out hu
  have hrr := want_ok w4 am m _ hrf4 (by omega) [101, 110, 118] [95, 95, 116, 97, 98, 108, 101, 95, 98, 97, 115, 101] false (by rw [str_toList]; rfl) (by rw [HA.out.q5]; exact hg)
  rw [show mdC am m = MA from HMA.out.symm] at hrr
  have HRR := Lib.hid hrr
  have hsz4 := hu.1.size
  have y0 := HX4.out.cell 0
  simp at y0
  clear hu hm hrf4 hrr 
  go_wp2_with (first | (refine ld_mod rfl _ rfl _ rfl MA HB4.out H17.out ?_))
  clear y0
  refine HRR.out.mono ?_
  rintro e w5 ⟨am2, z2, rfl, hrf5, hs5⟩
  obtain ⟨MB, hMB⟩ : ∃ MB, MB = mdC am2 { m with is := m.is ++ [⟨[101, 110, 118], [95, 95, 116, 97, 98, 108, 101, 95, 98, 97, 115, 101], 3, 0, 127, false⟩] } := ⟨_, rfl⟩
  have HMB := Lib.hid hMB
  rw [← hMB]
  have H17b : Hid (MB.size = 17) := by rw [HMB.out]; rfl
  have H1b : Hid (MB.all (·.oneCell') = true) := by rw [HMB.out]; exact mdC_one _ _
  have HB5 := Lib.hid (HB4.out.step hs5 id)
  have HZ5 := Lib.hid (HZ4.out.step hs5 id)
  have HS5 := Lib.hid hs5
  have HRF5 := Lib.hid hrf5
  obtain ⟨w6, hw6⟩ : ∃ w6, w6 = w5.setRow w.heap.size MB := ⟨_, rfl⟩
  have HB6 : Hid (Blk w6 w.heap.size 41 MB) := by rw [hw6]; exact HB5.out.row _
  have hs56 : Step (fun k => k = w.heap.size) w5 w6 := by rw [hw6]; exact Step.setRow (F := fun k => k = w.heap.size) Step.refl (.inl rfl) _
  have HZ6 : Hid (Blk w6 (w.heap.size + 1 + 1) 41 #[.slice none 0 0, .slice none 0 0, .slice none 0 0, .slice none 0 0, .slice none 0 0, .slice none 0 0, .slice none 0 0, .int .i64 0, .slice none 0 0, .slice none 0 0, .slice none 0 0, .bool false, .int .u32 0, .int .u32 0, .int .u32 0, .int .u32 0, .slice none 0 0]) := HZ5.out.step hs56 (by show ¬ (w.heap.size + 1 + 1 = w.heap.size); omega)
  have HS56 := Lib.hid hs56
  have HW6 := Lib.hid hw6
  clear hMB hs5 hrf5 hw6 hs56
  obtain ⟨bb, hbb⟩ : ∃ bb, ((z : Int) == z2) = bb := ⟨_, rfl⟩
  cases bb
  all_goals
    go_wp2_with (first | (refine st_mod rfl _ _ rfl rfl w.heap.size rfl MB rfl HB5.out H17.out H17b.out H1b.out ?_; rw [← HW6.out]) | (refine ld_mod rfl _ rfl _ rfl MB HB6.out H17b.out ?_) | (refine st_mod rfl _ _ rfl rfl (w.heap.size + 1 + 1) rfl MB rfl HZ6.out rfl H17b.out H1b.out ?_))
    refine bodyPost_ret (v := .tuple #[.agg MB, .bool _]) (res_mod2 Try.results28 (w.heap.size + 1 + 1) rfl rfl (Blk.row HZ6.out MB) H17b.out) rfl ?_
    have h56 : Step (fun k => w.heap.size ≤ k ∧ k < v3.heap.size) w5 (w6.setRow (w.heap.size + 1 + 1) MB) := (HS56.out.mono (F' := fun k => w.heap.size ≤ k ∧ k < v3.heap.size) (fun k _ e => by omega)).trans (Step.setRow (F := fun k => w.heap.size ≤ k ∧ k < v3.heap.size) Step.refl (.inl (by omega)) MB)
    have hfin := HH.out.fin HS.out HMK.out HU.out HRF5.out HS5.out h56 (by exact Inn.mono (Inn.same (HH.out.inn4 HS.out HU.out) rfl rfl) (fun k _ hk => Or.inl hk)) (by exact Inn.mono (Inn.same ((HH.out.inm4 HS.out HU.out).step HS5.out (fun _ _ => id)) rfl rfl) (fun k _ hk => Or.inl hk)) (⟨HA.out.q0, by show _ ++ [_] = _ ++ [_]; rw [HA.out.q1], HA.out.q2, HA.out.q5, HA.out.q6, HA.out.q10, HA.out.q16, HA.out.st, HA.out.d1, HA.out.d2, HA.out.d3, HA.out.d4, HA.out.q8, HA.out.q9⟩)
    exact ⟨_, _, _, _, _, _, _, by rw [HMB.out], hfin.1, hfin.2, fun n ⟨h0, h1, h2, h3, h4, h5, h6, h7, h8⟩ => ⟨Nat.le_succ_of_le h0, by show (_ ++ [_]).length ≤ n + 1; rw [List.length_append]; exact Nat.succ_le_succ h1, Nat.le_succ_of_le h2, Nat.le_succ_of_le h3, Nat.le_succ_of_le h4, Nat.le_succ_of_le h5, Nat.le_succ_of_le h6, Nat.le_succ_of_le h7, Nat.le_succ_of_le h8⟩⟩

set_option maxRecDepth 100000 in
set_option maxHeartbeats 12800000 in
theorem num6l (h : St T w B X a s tk vr am m) (hB : B ≤ w.heap.size) (hl : s.small 900) (o : Opx) (ho : o.ok w (Old T w)) (hg : 0 < s.gs.length) :
    Calls Try.prog 28 #[.pointer (some ⟨X, 0, none⟩), .agg (mdC am m), .agg #[.int .i64 6, .string (str o.s), .int .u32 (o.n : Int), .int .u32 (o.n2 : Int), .string (str o.t.p), .string (str o.t.r), .string (str o.lo), .slice o.A o.bo.length o.c, .int .u8 (o.vt : Int), .int .u64 (o.vn : Int), .bool o.mu]] w (DOut T w B X a s) := by
  have hlm := h.al.small hl
  obtain ⟨l0, l1, l2, l5, l6, l8, l9, l10, l16⟩ := hl
  obtain ⟨k0, k1, k2, k5, k6, k8, k9, k10, k16⟩ := hlm
  have hl' : s.small 1000 := ⟨by omega, by omega, by omega, by omega, by omega, by omega, by omega, by omega, by omega⟩
  have hlm' : m.small 1000 := ⟨by omega, by omega, by omega, by omega, by omega, by omega, by omega, by omega, by omega⟩
  have HA := Lib.hid h.al
  have HH := Lib.hid h
  have HO := Lib.hid ho
  have HLS := Lib.hid hl'
  have HLM := Lib.hid hlm'
  obtain ⟨v1, hv1⟩ : ∃ v1, v1 = w.alloc (.cells (mdC am m) 41) := ⟨_, rfl⟩
  obtain ⟨v2, hv2⟩ : ∃ v2, v2 = v1.alloc (.cells #[.int .i64 6, .string (str o.s), .int .u32 (o.n : Int), .int .u32 (o.n2 : Int), .string (str o.t.p), .string (str o.t.r), .string (str o.lo), .slice o.A o.bo.length o.c, .int .u8 (o.vt : Int), .int .u64 (o.vn : Int), .bool o.mu] 52) := ⟨_, rfl⟩
  obtain ⟨v3, hv3⟩ : ∃ v3, v3 = v2.alloc (.cells #[.slice none 0 0, .slice none 0 0, .slice none 0 0, .slice none 0 0, .slice none 0 0, .slice none 0 0, .slice none 0 0, .int .i64 0, .slice none 0 0, .slice none 0 0, .slice none 0 0, .bool false, .int .u32 0, .int .u32 0, .int .u32 0, .int .u32 0, .slice none 0 0] 41) := ⟨_, rfl⟩
  have e0 : w.heap.size = w.heap.size := rfl
  have e1 : v1.heap.size = w.heap.size + 1 := by rw [hv1]; simp [e0]
  have s1 : Step (fun _ => False) w v1 := by rw [hv1]; exact Step.alloc Step.refl _
  have e2 : v2.heap.size = w.heap.size + 1 + 1 := by rw [hv2]; simp [e1]
  have s2 : Step (fun _ => False) v1 v2 := by rw [hv2]; exact Step.alloc Step.refl _
  have e3 : v3.heap.size = w.heap.size + 1 + 1 + 1 := by rw [hv3]; simp [e2]
  have s3 : Step (fun _ => False) v2 v3 := by rw [hv3]; exact Step.alloc Step.refl _
  have HB : Hid (Blk v3 (w.heap.size) 41 (mdC am m)) := by
    have h1 : Blk v1 w.heap.size 41 (mdC am m) := by rw [hv1]; exact Blk.new w _ _
    exact ((h1.step s2 id).step s3 id)
  have HX : Hid (Blk v3 (w.heap.size + 1) 52 #[.int .i64 6, .string (str o.s), .int .u32 (o.n : Int), .int .u32 (o.n2 : Int), .string (str o.t.p), .string (str o.t.r), .string (str o.lo), .slice o.A o.bo.length o.c, .int .u8 (o.vt : Int), .int .u64 (o.vn : Int), .bool o.mu]) := by
    have h1 : Blk v2 v1.heap.size 52 #[.int .i64 6, .string (str o.s), .int .u32 (o.n : Int), .int .u32 (o.n2 : Int), .string (str o.t.p), .string (str o.t.r), .string (str o.lo), .slice o.A o.bo.length o.c, .int .u8 (o.vt : Int), .int .u64 (o.vn : Int), .bool o.mu] := by rw [hv2]; exact Blk.new v1 _ _
    rw [e1] at h1
    exact (h1.step s3 id)
  have HZ : Hid (Blk v3 (w.heap.size + 1 + 1) 41 #[.slice none 0 0, .slice none 0 0, .slice none 0 0, .slice none 0 0, .slice none 0 0, .slice none 0 0, .slice none 0 0, .int .i64 0, .slice none 0 0, .slice none 0 0, .slice none 0 0, .bool false, .int .u32 0, .int .u32 0, .int .u32 0, .int .u32 0, .slice none 0 0]) := by
    have h1 : Blk v3 v2.heap.size 41 #[.slice none 0 0, .slice none 0 0, .slice none 0 0, .slice none 0 0, .slice none 0 0, .slice none 0 0, .slice none 0 0, .int .i64 0, .slice none 0 0, .slice none 0 0, .slice none 0 0, .bool false, .int .u32 0, .int .u32 0, .int .u32 0, .int .u32 0, .slice none 0 0] := by rw [hv3]; exact Blk.new v2 _ _
    rw [e2] at h1
    exact h1
  have HS : Hid (Step (fun _ => False) w v3) := s1 |>.trans s2 |>.trans s3
  have HE1 := Lib.hid hv1
  have HE2 := Lib.hid hv2
  have HE3 := Lib.hid hv3
  clear e1 s1 hv1 e2 s2 hv2 e3 s3 hv3 e0
  have hsz3 : v3.heap.size = w.heap.size + 1 + 1 + 1 := by rw [HE3.out, HE2.out, HE1.out]; simp
  have hB3 : B ≤ v3.heap.size := by omega
  have HM3 := Lib.hid (h.mkr.quiet HS.out)
  have hin : ∀ k, ftA X a k → k < w.heap.size := h.mkr.in_
  have hkm := wData_late HM3.out o.s hg
  have HKM := Lib.hid hkm
  have HIN := Lib.hid hin
  obtain ⟨MA, hMA⟩ : ∃ MA, MA = mdC am m := ⟨_, rfl⟩
  rw [← hMA] at HE1 HB ⊢
  have HMA := Lib.hid hMA
  have H17 : Hid (MA.size = 17) := by rw [Hid, hMA]; rfl
  have H1 : Hid (MA.all (·.oneCell') = true) := by rw [Hid, hMA]; exact mdC_one am m
  clear hMA
  have x0 := HX.out.cell 0
  have x1 := HX.out.cell 1
  simp at x0 x1
  rw [HE3.out, HE2.out, HE1.out] at x0 x1
  clear h hkm hin ho hl' hlm'
  go_enter Try.func28, Try.ntmps28
  go_wp2_with (first | (refine ld_mod rfl _ rfl _ rfl MA (by first | exact HB.out | (rw [← HE1.out, ← HE2.out, ← HE3.out]; exact HB.out)) H17.out ?_))
  rw [← HE1.out]
  rw [← HE2.out]
  rw [← HE3.out]
  clear x0 x1
  refine HKM.out.mono ?_
  rintro e w4 ⟨rfl, hw4⟩
  have hs4 : Step (fun _ => False) v3 w4 := by rw [hw4]; exact Step.refl
  clear hw4
  have hu : Upd v3 (ftA X a) (ftA X a) w4 := Upd.after hs4 Upd.refl
  have hm : Mk w4 B X a s tk vr := HM3.out.quiet hs4
  have HB4 := Lib.hid (HB.out.step hu.1 (fun e => Nat.lt_irrefl _ (HIN.out _ e)))
  have HX4 := Lib.hid (HX.out.step hu.1 (fun e => by have := HIN.out _ e; omega))
  have HZ4 := Lib.hid (HZ.out.step hu.1 (fun e => by have := HIN.out _ e; omega))
  have HS4 : Hid (Step (fun k => ftA X a k) w w4) := (HS.out.mono (fun _ _ h => h.elim)).trans hu.1
  have HU := Lib.hid hu
  have HMK := Lib.hid hm
  have hrf4 := HH.out.rf4 HS.out hu
  have hrr := want_late w4 am m _ hrf4 (by omega) [71, 79, 84, 46, 109, 101, 109] o.s true (by rw [str_toList]; rfl) (by rw [HA.out.q5]; exact hg)
  rw [show mdC am m = MA from HMA.out.symm] at hrr
  have HRR := Lib.hid hrr
  have hsz4 := hu.1.size
  have y0 := HX4.out.cell 0
  have y1 := HX4.out.cell 1
  simp at y0 y1
  clear hu hm hrf4 hrr hs4
  go_wp2_with (first | (refine ld_mod rfl _ rfl _ rfl MA HB4.out H17.out ?_))
  clear y0 y1
  refine HRR.out.mono ?_
  rintro e w5 ⟨rfl, hs5⟩
  obtain ⟨MB, hMB⟩ : ∃ MB, MB = MA := ⟨_, rfl⟩
  have HMB : Hid (MB = mdC am m) := hMB.trans HMA.out
  have hrf5 := ((HH.out.rf4 HS.out HU.out).step hs5 (fun _ _ => id)).mono (S' := fun k => Old T w k ∨ w4.heap.size ≤ k) (fun _ _ => .inl)
  rw [← hMB]
  have H17b : Hid (MB.size = 17) := by rw [HMB.out]; rfl
  have H1b : Hid (MB.all (·.oneCell') = true) := by rw [HMB.out]; exact mdC_one _ _
  have HB5 := Lib.hid (HB4.out.step hs5 id)
  have HZ5 := Lib.hid (HZ4.out.step hs5 id)
  have HS5 := Lib.hid hs5
  have HRF5 := Lib.hid hrf5
  obtain ⟨w6, hw6⟩ : ∃ w6, w6 = w5.setRow w.heap.size MB := ⟨_, rfl⟩
  have HB6 : Hid (Blk w6 w.heap.size 41 MB) := by rw [hw6]; exact HB5.out.row _
  have hs56 : Step (fun k => k = w.heap.size) w5 w6 := by rw [hw6]; exact Step.setRow (F := fun k => k = w.heap.size) Step.refl (.inl rfl) _
  have HZ6 : Hid (Blk w6 (w.heap.size + 1 + 1) 41 #[.slice none 0 0, .slice none 0 0, .slice none 0 0, .slice none 0 0, .slice none 0 0, .slice none 0 0, .slice none 0 0, .int .i64 0, .slice none 0 0, .slice none 0 0, .slice none 0 0, .bool false, .int .u32 0, .int .u32 0, .int .u32 0, .int .u32 0, .slice none 0 0]) := HZ5.out.step hs56 (by show ¬ (w.heap.size + 1 + 1 = w.heap.size); omega)
  have HS56 := Lib.hid hs56
  have HW6 := Lib.hid hw6
  clear hMB hs5 hrf5 hw6 hs56
  skip
  all_goals
    go_wp2_with (first | (refine st_mod rfl _ _ rfl rfl w.heap.size rfl MB rfl HB5.out H17.out H17b.out H1b.out ?_; rw [← HW6.out]) | (refine ld_mod rfl _ rfl _ rfl MB HB6.out H17b.out ?_) | (refine st_mod rfl _ _ rfl rfl (w.heap.size + 1 + 1) rfl MB rfl HZ6.out rfl H17b.out H1b.out ?_))
    refine bodyPost_ret (v := .tuple #[.agg MB, .bool _]) (res_mod2 Try.results28 (w.heap.size + 1 + 1) rfl rfl (Blk.row HZ6.out MB) H17b.out) rfl ?_
    have h56 : Step (fun k => w.heap.size ≤ k ∧ k < v3.heap.size) w5 (w6.setRow (w.heap.size + 1 + 1) MB) := (HS56.out.mono (F' := fun k => w.heap.size ≤ k ∧ k < v3.heap.size) (fun k _ e => by omega)).trans (Step.setRow (F := fun k => w.heap.size ≤ k ∧ k < v3.heap.size) Step.refl (.inl (by omega)) MB)
    have hfin := HH.out.fin HS.out HMK.out HU.out HRF5.out HS5.out h56 (by exact Inn.mono (Inn.same (HH.out.inn4 HS.out HU.out) rfl rfl) (fun k _ hk => Or.inl hk)) (by exact Inn.mono (Inn.same ((HH.out.inm4 HS.out HU.out).step HS5.out (fun _ _ => id)) rfl rfl) (fun k _ hk => Or.inl hk)) (HA.out)
    exact ⟨_, _, _, _, _, _, _, by rw [HMB.out], hfin.1, hfin.2, Grow.refl s⟩

set_option maxRecDepth 100000 in
set_option maxHeartbeats 12800000 in
theorem num6 (h : St T w B X a s tk vr am m) (hB : B ≤ w.heap.size) (hl : s.small 900) (o : Opx) (ho : o.ok w (Old T w)) (hg : s.gs.length = 0) :
    Calls Try.prog 28 #[.pointer (some ⟨X, 0, none⟩), .agg (mdC am m), .agg #[.int .i64 6, .string (str o.s), .int .u32 (o.n : Int), .int .u32 (o.n2 : Int), .string (str o.t.p), .string (str o.t.r), .string (str o.lo), .slice o.A o.bo.length o.c, .int .u8 (o.vt : Int), .int .u64 (o.vn : Int), .bool o.mu]] w (DOut T w B X a s) := by
  have hlm := h.al.small hl
  obtain ⟨l0, l1, l2, l5, l6, l8, l9, l10, l16⟩ := hl
  obtain ⟨k0, k1, k2, k5, k6, k8, k9, k10, k16⟩ := hlm
  have hl' : s.small 1000 := ⟨by omega, by omega, by omega, by omega, by omega, by omega, by omega, by omega, by omega⟩
  have hlm' : m.small 1000 := ⟨by omega, by omega, by omega, by omega, by omega, by omega, by omega, by omega, by omega⟩
  have HA := Lib.hid h.al
  have HH := Lib.hid h
  have HO := Lib.hid ho
  have HLS := Lib.hid hl'
  have HLM := Lib.hid hlm'
  obtain ⟨v1, hv1⟩ : ∃ v1, v1 = w.alloc (.cells (mdC am m) 41) := ⟨_, rfl⟩
  obtain ⟨v2, hv2⟩ : ∃ v2, v2 = v1.alloc (.cells #[.int .i64 6, .string (str o.s), .int .u32 (o.n : Int), .int .u32 (o.n2 : Int), .string (str o.t.p), .string (str o.t.r), .string (str o.lo), .slice o.A o.bo.length o.c, .int .u8 (o.vt : Int), .int .u64 (o.vn : Int), .bool o.mu] 52) := ⟨_, rfl⟩
  obtain ⟨v3, hv3⟩ : ∃ v3, v3 = v2.alloc (.cells #[.slice none 0 0, .slice none 0 0, .slice none 0 0, .slice none 0 0, .slice none 0 0, .slice none 0 0, .slice none 0 0, .int .i64 0, .slice none 0 0, .slice none 0 0, .slice none 0 0, .bool false, .int .u32 0, .int .u32 0, .int .u32 0, .int .u32 0, .slice none 0 0] 41) := ⟨_, rfl⟩
  have e0 : w.heap.size = w.heap.size := rfl
  have e1 : v1.heap.size = w.heap.size + 1 := by rw [hv1]; simp [e0]
  have s1 : Step (fun _ => False) w v1 := by rw [hv1]; exact Step.alloc Step.refl _
  have e2 : v2.heap.size = w.heap.size + 1 + 1 := by rw [hv2]; simp [e1]
  have s2 : Step (fun _ => False) v1 v2 := by rw [hv2]; exact Step.alloc Step.refl _
  have e3 : v3.heap.size = w.heap.size + 1 + 1 + 1 := by rw [hv3]; simp [e2]
  have s3 : Step (fun _ => False) v2 v3 := by rw [hv3]; exact Step.alloc Step.refl _
  have HB : Hid (Blk v3 (w.heap.size) 41 (mdC am m)) := by
    have h1 : Blk v1 w.heap.size 41 (mdC am m) := by rw [hv1]; exact Blk.new w _ _
    exact ((h1.step s2 id).step s3 id)
  have HX : Hid (Blk v3 (w.heap.size + 1) 52 #[.int .i64 6, .string (str o.s), .int .u32 (o.n : Int), .int .u32 (o.n2 : Int), .string (str o.t.p), .string (str o.t.r), .string (str o.lo), .slice o.A o.bo.length o.c, .int .u8 (o.vt : Int), .int .u64 (o.vn : Int), .bool o.mu]) := by
    have h1 : Blk v2 v1.heap.size 52 #[.int .i64 6, .string (str o.s), .int .u32 (o.n : Int), .int .u32 (o.n2 : Int), .string (str o.t.p), .string (str o.t.r), .string (str o.lo), .slice o.A o.bo.length o.c, .int .u8 (o.vt : Int), .int .u64 (o.vn : Int), .bool o.mu] := by rw [hv2]; exact Blk.new v1 _ _
    rw [e1] at h1
    exact (h1.step s3 id)
  have HZ : Hid (Blk v3 (w.heap.size + 1 + 1) 41 #[.slice none 0 0, .slice none 0 0, .slice none 0 0, .slice none 0 0, .slice none 0 0, .slice none 0 0, .slice none 0 0, .int .i64 0, .slice none 0 0, .slice none 0 0, .slice none 0 0, .bool false, .int .u32 0, .int .u32 0, .int .u32 0, .int .u32 0, .slice none 0 0]) := by
    have h1 : Blk v3 v2.heap.size 41 #[.slice none 0 0, .slice none 0 0, .slice none 0 0, .slice none 0 0, .slice none 0 0, .slice none 0 0, .slice none 0 0, .int .i64 0, .slice none 0 0, .slice none 0 0, .slice none 0 0, .bool false, .int .u32 0, .int .u32 0, .int .u32 0, .int .u32 0, .slice none 0 0] := by rw [hv3]; exact Blk.new v2 _ _
    rw [e2] at h1
    exact h1
  have HS : Hid (Step (fun _ => False) w v3) := s1 |>.trans s2 |>.trans s3
  have HE1 := Lib.hid hv1
  have HE2 := Lib.hid hv2
  have HE3 := Lib.hid hv3
  clear e1 s1 hv1 e2 s2 hv2 e3 s3 hv3 e0
  have hsz3 : v3.heap.size = w.heap.size + 1 + 1 + 1 := by rw [HE3.out, HE2.out, HE1.out]; simp
  have hB3 : B ≤ v3.heap.size := by omega
  have HM3 := Lib.hid (h.mkr.quiet HS.out)
  have hin : ∀ k, ftA X a k → k < w.heap.size := h.mkr.in_
  have hkm := wData_ok HM3.out hB3 o.s hg (by omega)
  have HKM := Lib.hid hkm
  have HIN := Lib.hid hin
  obtain ⟨MA, hMA⟩ : ∃ MA, MA = mdC am m := ⟨_, rfl⟩
  rw [← hMA] at HE1 HB ⊢
  have HMA := Lib.hid hMA
  have H17 : Hid (MA.size = 17) := by rw [Hid, hMA]; rfl
  have H1 : Hid (MA.all (·.oneCell') = true) := by rw [Hid, hMA]; exact mdC_one am m
  clear hMA
  have x0 := HX.out.cell 0
  have x1 := HX.out.cell 1
  simp at x0 x1
  rw [HE3.out, HE2.out, HE1.out] at x0 x1
  clear h hkm hin ho hl' hlm'
  go_enter Try.func28, Try.ntmps28
  go_wp2_with (first | (refine ld_mod rfl _ rfl _ rfl MA (by first | exact HB.out | (rw [← HE1.out, ← HE2.out, ← HE3.out]; exact HB.out)) H17.out ?_))
  rw [← HE1.out]
  rw [← HE2.out]
  rw [← HE3.out]
  clear x0 x1
  refine HKM.out.mono ?_
  rintro e w4 ⟨⟨z, rfl⟩, a1, v2', hm, hu⟩
  have HB4 := Lib.hid (HB.out.step hu.1 (fun e => Nat.lt_irrefl _ (HIN.out _ e)))
  have HX4 := Lib.hid (HX.out.step hu.1 (fun e => by have := HIN.out _ e; omega))
  have HZ4 := Lib.hid (HZ.out.step hu.1 (fun e => by have := HIN.out _ e; omega))
  have HS4 : Hid (Step (fun k => ftA X a k) w w4) := (HS.out.mono (fun _ _ h => h.elim)).trans hu.1
  have HU := Lib.hid hu
  have HMK := Lib.hid hm
  have hrf4 := HH.out.rf4 HS.out hu
  have hrr := want_ok w4 am m _ hrf4 (by omega) [71, 79, 84, 46, 109, 101, 109] o.s true (by rw [str_toList]; rfl) (by rw [HA.out.q5]; exact hg)
  rw [show mdC am m = MA from HMA.out.symm] at hrr
  have HRR := Lib.hid hrr
  have hsz4 := hu.1.size
  have y0 := HX4.out.cell 0
  have y1 := HX4.out.cell 1
  simp at y0 y1
  clear hu hm hrf4 hrr 
  go_wp2_with (first | (refine ld_mod rfl _ rfl _ rfl MA HB4.out H17.out ?_))
  clear y0 y1
  refine HRR.out.mono ?_
  rintro e w5 ⟨am2, z2, rfl, hrf5, hs5⟩
  obtain ⟨MB, hMB⟩ : ∃ MB, MB = mdC am2 { m with is := m.is ++ [⟨[71, 79, 84, 46, 109, 101, 109], o.s, 3, 0, 127, true⟩] } := ⟨_, rfl⟩
  have HMB := Lib.hid hMB
  rw [← hMB]
  have H17b : Hid (MB.size = 17) := by rw [HMB.out]; rfl
  have H1b : Hid (MB.all (·.oneCell') = true) := by rw [HMB.out]; exact mdC_one _ _
  have HB5 := Lib.hid (HB4.out.step hs5 id)
  have HZ5 := Lib.hid (HZ4.out.step hs5 id)
  have HS5 := Lib.hid hs5
  have HRF5 := Lib.hid hrf5
  obtain ⟨w6, hw6⟩ : ∃ w6, w6 = w5.setRow w.heap.size MB := ⟨_, rfl⟩
  have HB6 : Hid (Blk w6 w.heap.size 41 MB) := by rw [hw6]; exact HB5.out.row _
  have hs56 : Step (fun k => k = w.heap.size) w5 w6 := by rw [hw6]; exact Step.setRow (F := fun k => k = w.heap.size) Step.refl (.inl rfl) _
  have HZ6 : Hid (Blk w6 (w.heap.size + 1 + 1) 41 #[.slice none 0 0, .slice none 0 0, .slice none 0 0, .slice none 0 0, .slice none 0 0, .slice none 0 0, .slice none 0 0, .int .i64 0, .slice none 0 0, .slice none 0 0, .slice none 0 0, .bool false, .int .u32 0, .int .u32 0, .int .u32 0, .int .u32 0, .slice none 0 0]) := HZ5.out.step hs56 (by show ¬ (w.heap.size + 1 + 1 = w.heap.size); omega)
  have HS56 := Lib.hid hs56
  have HW6 := Lib.hid hw6
  clear hMB hs5 hrf5 hw6 hs56
  obtain ⟨bb, hbb⟩ : ∃ bb, ((z : Int) == z2) = bb := ⟨_, rfl⟩
  cases bb
  all_goals
    go_wp2_with (first | (refine st_mod rfl _ _ rfl rfl w.heap.size rfl MB rfl HB5.out H17.out H17b.out H1b.out ?_; rw [← HW6.out]) | (refine ld_mod rfl _ rfl _ rfl MB HB6.out H17b.out ?_) | (refine st_mod rfl _ _ rfl rfl (w.heap.size + 1 + 1) rfl MB rfl HZ6.out rfl H17b.out H1b.out ?_))
    refine bodyPost_ret (v := .tuple #[.agg MB, .bool _]) (res_mod2 Try.results28 (w.heap.size + 1 + 1) rfl rfl (Blk.row HZ6.out MB) H17b.out) rfl ?_
    have h56 : Step (fun k => w.heap.size ≤ k ∧ k < v3.heap.size) w5 (w6.setRow (w.heap.size + 1 + 1) MB) := (HS56.out.mono (F' := fun k => w.heap.size ≤ k ∧ k < v3.heap.size) (fun k _ e => by omega)).trans (Step.setRow (F := fun k => w.heap.size ≤ k ∧ k < v3.heap.size) Step.refl (.inl (by omega)) MB)
    have hfin := HH.out.fin HS.out HMK.out HU.out HRF5.out HS5.out h56 (by exact Inn.mono (Inn.same (HH.out.inn4 HS.out HU.out) rfl rfl) (fun k _ hk => Or.inl hk)) (by exact Inn.mono (Inn.same ((HH.out.inm4 HS.out HU.out).step HS5.out (fun _ _ => id)) rfl rfl) (fun k _ hk => Or.inl hk)) (⟨HA.out.q0, by show _ ++ [_] = _ ++ [_]; rw [HA.out.q1], HA.out.q2, HA.out.q5, HA.out.q6, HA.out.q10, HA.out.q16, HA.out.st, HA.out.d1, HA.out.d2, HA.out.d3, HA.out.d4, HA.out.q8, HA.out.q9⟩)
    exact ⟨_, _, _, _, _, _, _, by rw [HMB.out], hfin.1, hfin.2, fun n ⟨h0, h1, h2, h3, h4, h5, h6, h7, h8⟩ => ⟨Nat.le_succ_of_le h0, by show (_ ++ [_]).length ≤ n + 1; rw [List.length_append]; exact Nat.succ_le_succ h1, Nat.le_succ_of_le h2, Nat.le_succ_of_le h3, Nat.le_succ_of_le h4, Nat.le_succ_of_le h5, Nat.le_succ_of_le h6, Nat.le_succ_of_le h7, Nat.le_succ_of_le h8⟩⟩

set_option maxRecDepth 100000 in
set_option maxHeartbeats 12800000 in
theorem num7l (h : St T w B X a s tk vr am m) (hB : B ≤ w.heap.size) (hl : s.small 900) (o : Opx) (ho : o.ok w (Old T w)) (hg : 0 < s.gs.length) :
    Calls Try.prog 28 #[.pointer (some ⟨X, 0, none⟩), .agg (mdC am m), .agg #[.int .i64 7, .string (str o.s), .int .u32 (o.n : Int), .int .u32 (o.n2 : Int), .string (str o.t.p), .string (str o.t.r), .string (str o.lo), .slice o.A o.bo.length o.c, .int .u8 (o.vt : Int), .int .u64 (o.vn : Int), .bool o.mu]] w (DOut T w B X a s) := by
  have hlm := h.al.small hl
  obtain ⟨l0, l1, l2, l5, l6, l8, l9, l10, l16⟩ := hl
  obtain ⟨k0, k1, k2, k5, k6, k8, k9, k10, k16⟩ := hlm
  have hl' : s.small 1000 := ⟨by omega, by omega, by omega, by omega, by omega, by omega, by omega, by omega, by omega⟩
  have hlm' : m.small 1000 := ⟨by omega, by omega, by omega, by omega, by omega, by omega, by omega, by omega, by omega⟩
  have HA := Lib.hid h.al
  have HH := Lib.hid h
  have HO := Lib.hid ho
  have HLS := Lib.hid hl'
  have HLM := Lib.hid hlm'
  obtain ⟨v1, hv1⟩ : ∃ v1, v1 = w.alloc (.cells (mdC am m) 41) := ⟨_, rfl⟩
  obtain ⟨v2, hv2⟩ : ∃ v2, v2 = v1.alloc (.cells #[.int .i64 7, .string (str o.s), .int .u32 (o.n : Int), .int .u32 (o.n2 : Int), .string (str o.t.p), .string (str o.t.r), .string (str o.lo), .slice o.A o.bo.length o.c, .int .u8 (o.vt : Int), .int .u64 (o.vn : Int), .bool o.mu] 52) := ⟨_, rfl⟩
  obtain ⟨v3, hv3⟩ : ∃ v3, v3 = v2.alloc (.cells #[.slice none 0 0, .slice none 0 0, .slice none 0 0, .slice none 0 0, .slice none 0 0, .slice none 0 0, .slice none 0 0, .int .i64 0, .slice none 0 0, .slice none 0 0, .slice none 0 0, .bool false, .int .u32 0, .int .u32 0, .int .u32 0, .int .u32 0, .slice none 0 0] 41) := ⟨_, rfl⟩
  have e0 : w.heap.size = w.heap.size := rfl
  have e1 : v1.heap.size = w.heap.size + 1 := by rw [hv1]; simp [e0]
  have s1 : Step (fun _ => False) w v1 := by rw [hv1]; exact Step.alloc Step.refl _
  have e2 : v2.heap.size = w.heap.size + 1 + 1 := by rw [hv2]; simp [e1]
  have s2 : Step (fun _ => False) v1 v2 := by rw [hv2]; exact Step.alloc Step.refl _
  have e3 : v3.heap.size = w.heap.size + 1 + 1 + 1 := by rw [hv3]; simp [e2]
  have s3 : Step (fun _ => False) v2 v3 := by rw [hv3]; exact Step.alloc Step.refl _
  have HB : Hid (Blk v3 (w.heap.size) 41 (mdC am m)) := by
    have h1 : Blk v1 w.heap.size 41 (mdC am m) := by rw [hv1]; exact Blk.new w _ _
    exact ((h1.step s2 id).step s3 id)
  have HX : Hid (Blk v3 (w.heap.size + 1) 52 #[.int .i64 7, .string (str o.s), .int .u32 (o.n : Int), .int .u32 (o.n2 : Int), .string (str o.t.p), .string (str o.t.r), .string (str o.lo), .slice o.A o.bo.length o.c, .int .u8 (o.vt : Int), .int .u64 (o.vn : Int), .bool o.mu]) := by
    have h1 : Blk v2 v1.heap.size 52 #[.int .i64 7, .string (str o.s), .int .u32 (o.n : Int), .int .u32 (o.n2 : Int), .string (str o.t.p), .string (str o.t.r), .string (str o.lo), .slice o.A o.bo.length o.c, .int .u8 (o.vt : Int), .int .u64 (o.vn : Int), .bool o.mu] := by rw [hv2]; exact Blk.new v1 _ _
    rw [e1] at h1
    exact (h1.step s3 id)
  have HZ : Hid (Blk v3 (w.heap.size + 1 + 1) 41 #[.slice none 0 0, .slice none 0 0, .slice none 0 0, .slice none 0 0, .slice none 0 0, .slice none 0 0, .slice none 0 0, .int .i64 0, .slice none 0 0, .slice none 0 0, .slice none 0 0, .bool false, .int .u32 0, .int .u32 0, .int .u32 0, .int .u32 0, .slice none 0 0]) := by
    have h1 : Blk v3 v2.heap.size 41 #[.slice none 0 0, .slice none 0 0, .slice none 0 0, .slice none 0 0, .slice none 0 0, .slice none 0 0, .slice none 0 0, .int .i64 0, .slice none 0 0, .slice none 0 0, .slice none 0 0, .bool false, .int .u32 0, .int .u32 0, .int .u32 0, .int .u32 0, .slice none 0 0] := by rw [hv3]; exact Blk.new v2 _ _
    rw [e2] at h1
    exact h1
  have HS : Hid (Step (fun _ => False) w v3) := s1 |>.trans s2 |>.trans s3
  have HE1 := Lib.hid hv1
  have HE2 := Lib.hid hv2
  have HE3 := Lib.hid hv3
  clear e1 s1 hv1 e2 s2 hv2 e3 s3 hv3 e0
  have hsz3 : v3.heap.size = w.heap.size + 1 + 1 + 1 := by rw [HE3.out, HE2.out, HE1.out]; simp
  have hB3 : B ≤ v3.heap.size := by omega
  have HM3 := Lib.hid (h.mkr.quiet HS.out)
  have hin : ∀ k, ftA X a k → k < w.heap.size := h.mkr.in_
  have hkm := wSlot_late HM3.out o.s hg
  have HKM := Lib.hid hkm
  have HIN := Lib.hid hin
  obtain ⟨MA, hMA⟩ : ∃ MA, MA = mdC am m := ⟨_, rfl⟩
  rw [← hMA] at HE1 HB ⊢
  have HMA := Lib.hid hMA
  have H17 : Hid (MA.size = 17) := by rw [Hid, hMA]; rfl
  have H1 : Hid (MA.all (·.oneCell') = true) := by rw [Hid, hMA]; exact mdC_one am m
  clear hMA
  have x0 := HX.out.cell 0
  have x1 := HX.out.cell 1
  simp at x0 x1
  rw [HE3.out, HE2.out, HE1.out] at x0 x1
  clear h hkm hin ho hl' hlm'
  go_enter Try.func28, Try.ntmps28
  go_wp2_with (first | (refine ld_mod rfl _ rfl _ rfl MA (by first | exact HB.out | (rw [← HE1.out, ← HE2.out, ← HE3.out]; exact HB.out)) H17.out ?_))
  rw [← HE1.out]
  rw [← HE2.out]
  rw [← HE3.out]
  clear x0 x1
  refine HKM.out.mono ?_
  rintro e w4 ⟨rfl, hw4⟩
  have hs4 : Step (fun _ => False) v3 w4 := by rw [hw4]; exact Step.refl
  clear hw4
  have hu : Upd v3 (ftA X a) (ftA X a) w4 := Upd.after hs4 Upd.refl
  have hm : Mk w4 B X a s tk vr := HM3.out.quiet hs4
  have HB4 := Lib.hid (HB.out.step hu.1 (fun e => Nat.lt_irrefl _ (HIN.out _ e)))
  have HX4 := Lib.hid (HX.out.step hu.1 (fun e => by have := HIN.out _ e; omega))
  have HZ4 := Lib.hid (HZ.out.step hu.1 (fun e => by have := HIN.out _ e; omega))
  have HS4 : Hid (Step (fun k => ftA X a k) w w4) := (HS.out.mono (fun _ _ h => h.elim)).trans hu.1
  have HU := Lib.hid hu
  have HMK := Lib.hid hm
  have hrf4 := HH.out.rf4 HS.out hu
  have hrr := want_late w4 am m _ hrf4 (by omega) [71, 79, 84, 46, 102, 117, 110, 99] o.s true (by rw [str_toList]; rfl) (by rw [HA.out.q5]; exact hg)
  rw [show mdC am m = MA from HMA.out.symm] at hrr
  have HRR := Lib.hid hrr
  have hsz4 := hu.1.size
  have y0 := HX4.out.cell 0
  have y1 := HX4.out.cell 1
  simp at y0 y1
  clear hu hm hrf4 hrr hs4
  go_wp2_with (first | (refine ld_mod rfl _ rfl _ rfl MA HB4.out H17.out ?_))
  clear y0 y1
  refine HRR.out.mono ?_
  rintro e w5 ⟨rfl, hs5⟩
  obtain ⟨MB, hMB⟩ : ∃ MB, MB = MA := ⟨_, rfl⟩
  have HMB : Hid (MB = mdC am m) := hMB.trans HMA.out
  have hrf5 := ((HH.out.rf4 HS.out HU.out).step hs5 (fun _ _ => id)).mono (S' := fun k => Old T w k ∨ w4.heap.size ≤ k) (fun _ _ => .inl)
  rw [← hMB]
  have H17b : Hid (MB.size = 17) := by rw [HMB.out]; rfl
  have H1b : Hid (MB.all (·.oneCell') = true) := by rw [HMB.out]; exact mdC_one _ _
  have HB5 := Lib.hid (HB4.out.step hs5 id)
  have HZ5 := Lib.hid (HZ4.out.step hs5 id)
  have HS5 := Lib.hid hs5
  have HRF5 := Lib.hid hrf5
  obtain ⟨w6, hw6⟩ : ∃ w6, w6 = w5.setRow w.heap.size MB := ⟨_, rfl⟩
  have HB6 : Hid (Blk w6 w.heap.size 41 MB) := by rw [hw6]; exact HB5.out.row _
  have hs56 : Step (fun k => k = w.heap.size) w5 w6 := by rw [hw6]; exact Step.setRow (F := fun k => k = w.heap.size) Step.refl (.inl rfl) _
  have HZ6 : Hid (Blk w6 (w.heap.size + 1 + 1) 41 #[.slice none 0 0, .slice none 0 0, .slice none 0 0, .slice none 0 0, .slice none 0 0, .slice none 0 0, .slice none 0 0, .int .i64 0, .slice none 0 0, .slice none 0 0, .slice none 0 0, .bool false, .int .u32 0, .int .u32 0, .int .u32 0, .int .u32 0, .slice none 0 0]) := HZ5.out.step hs56 (by show ¬ (w.heap.size + 1 + 1 = w.heap.size); omega)
  have HS56 := Lib.hid hs56
  have HW6 := Lib.hid hw6
  clear hMB hs5 hrf5 hw6 hs56
  skip
  all_goals
    go_wp2_with (first | (refine st_mod rfl _ _ rfl rfl w.heap.size rfl MB rfl HB5.out H17.out H17b.out H1b.out ?_; rw [← HW6.out]) | (refine ld_mod rfl _ rfl _ rfl MB HB6.out H17b.out ?_) | (refine st_mod rfl _ _ rfl rfl (w.heap.size + 1 + 1) rfl MB rfl HZ6.out rfl H17b.out H1b.out ?_))
    refine bodyPost_ret (v := .tuple #[.agg MB, .bool _]) (res_mod2 Try.results28 (w.heap.size + 1 + 1) rfl rfl (Blk.row HZ6.out MB) H17b.out) rfl ?_
    have h56 : Step (fun k => w.heap.size ≤ k ∧ k < v3.heap.size) w5 (w6.setRow (w.heap.size + 1 + 1) MB) := (HS56.out.mono (F' := fun k => w.heap.size ≤ k ∧ k < v3.heap.size) (fun k _ e => by omega)).trans (Step.setRow (F := fun k => w.heap.size ≤ k ∧ k < v3.heap.size) Step.refl (.inl (by omega)) MB)
    have hfin := HH.out.fin HS.out HMK.out HU.out HRF5.out HS5.out h56 (by exact Inn.mono (Inn.same (HH.out.inn4 HS.out HU.out) rfl rfl) (fun k _ hk => Or.inl hk)) (by exact Inn.mono (Inn.same ((HH.out.inm4 HS.out HU.out).step HS5.out (fun _ _ => id)) rfl rfl) (fun k _ hk => Or.inl hk)) (HA.out)
    exact ⟨_, _, _, _, _, _, _, by rw [HMB.out], hfin.1, hfin.2, Grow.refl s⟩

set_option maxRecDepth 100000 in
set_option maxHeartbeats 12800000 in
theorem num7 (h : St T w B X a s tk vr am m) (hB : B ≤ w.heap.size) (hl : s.small 900) (o : Opx) (ho : o.ok w (Old T w)) (hg : s.gs.length = 0) :
    Calls Try.prog 28 #[.pointer (some ⟨X, 0, none⟩), .agg (mdC am m), .agg #[.int .i64 7, .string (str o.s), .int .u32 (o.n : Int), .int .u32 (o.n2 : Int), .string (str o.t.p), .string (str o.t.r), .string (str o.lo), .slice o.A o.bo.length o.c, .int .u8 (o.vt : Int), .int .u64 (o.vn : Int), .bool o.mu]] w (DOut T w B X a s) := by
  have hlm := h.al.small hl
  obtain ⟨l0, l1, l2, l5, l6, l8, l9, l10, l16⟩ := hl
  obtain ⟨k0, k1, k2, k5, k6, k8, k9, k10, k16⟩ := hlm
  have hl' : s.small 1000 := ⟨by omega, by omega, by omega, by omega, by omega, by omega, by omega, by omega, by omega⟩
  have hlm' : m.small 1000 := ⟨by omega, by omega, by omega, by omega, by omega, by omega, by omega, by omega, by omega⟩
  have HA := Lib.hid h.al
  have HH := Lib.hid h
  have HO := Lib.hid ho
  have HLS := Lib.hid hl'
  have HLM := Lib.hid hlm'
  obtain ⟨v1, hv1⟩ : ∃ v1, v1 = w.alloc (.cells (mdC am m) 41) := ⟨_, rfl⟩
  obtain ⟨v2, hv2⟩ : ∃ v2, v2 = v1.alloc (.cells #[.int .i64 7, .string (str o.s), .int .u32 (o.n : Int), .int .u32 (o.n2 : Int), .string (str o.t.p), .string (str o.t.r), .string (str o.lo), .slice o.A o.bo.length o.c, .int .u8 (o.vt : Int), .int .u64 (o.vn : Int), .bool o.mu] 52) := ⟨_, rfl⟩
  obtain ⟨v3, hv3⟩ : ∃ v3, v3 = v2.alloc (.cells #[.slice none 0 0, .slice none 0 0, .slice none 0 0, .slice none 0 0, .slice none 0 0, .slice none 0 0, .slice none 0 0, .int .i64 0, .slice none 0 0, .slice none 0 0, .slice none 0 0, .bool false, .int .u32 0, .int .u32 0, .int .u32 0, .int .u32 0, .slice none 0 0] 41) := ⟨_, rfl⟩
  have e0 : w.heap.size = w.heap.size := rfl
  have e1 : v1.heap.size = w.heap.size + 1 := by rw [hv1]; simp [e0]
  have s1 : Step (fun _ => False) w v1 := by rw [hv1]; exact Step.alloc Step.refl _
  have e2 : v2.heap.size = w.heap.size + 1 + 1 := by rw [hv2]; simp [e1]
  have s2 : Step (fun _ => False) v1 v2 := by rw [hv2]; exact Step.alloc Step.refl _
  have e3 : v3.heap.size = w.heap.size + 1 + 1 + 1 := by rw [hv3]; simp [e2]
  have s3 : Step (fun _ => False) v2 v3 := by rw [hv3]; exact Step.alloc Step.refl _
  have HB : Hid (Blk v3 (w.heap.size) 41 (mdC am m)) := by
    have h1 : Blk v1 w.heap.size 41 (mdC am m) := by rw [hv1]; exact Blk.new w _ _
    exact ((h1.step s2 id).step s3 id)
  have HX : Hid (Blk v3 (w.heap.size + 1) 52 #[.int .i64 7, .string (str o.s), .int .u32 (o.n : Int), .int .u32 (o.n2 : Int), .string (str o.t.p), .string (str o.t.r), .string (str o.lo), .slice o.A o.bo.length o.c, .int .u8 (o.vt : Int), .int .u64 (o.vn : Int), .bool o.mu]) := by
    have h1 : Blk v2 v1.heap.size 52 #[.int .i64 7, .string (str o.s), .int .u32 (o.n : Int), .int .u32 (o.n2 : Int), .string (str o.t.p), .string (str o.t.r), .string (str o.lo), .slice o.A o.bo.length o.c, .int .u8 (o.vt : Int), .int .u64 (o.vn : Int), .bool o.mu] := by rw [hv2]; exact Blk.new v1 _ _
    rw [e1] at h1
    exact (h1.step s3 id)
  have HZ : Hid (Blk v3 (w.heap.size + 1 + 1) 41 #[.slice none 0 0, .slice none 0 0, .slice none 0 0, .slice none 0 0, .slice none 0 0, .slice none 0 0, .slice none 0 0, .int .i64 0, .slice none 0 0, .slice none 0 0, .slice none 0 0, .bool false, .int .u32 0, .int .u32 0, .int .u32 0, .int .u32 0, .slice none 0 0]) := by
    have h1 : Blk v3 v2.heap.size 41 #[.slice none 0 0, .slice none 0 0, .slice none 0 0, .slice none 0 0, .slice none 0 0, .slice none 0 0, .slice none 0 0, .int .i64 0, .slice none 0 0, .slice none 0 0, .slice none 0 0, .bool false, .int .u32 0, .int .u32 0, .int .u32 0, .int .u32 0, .slice none 0 0] := by rw [hv3]; exact Blk.new v2 _ _
    rw [e2] at h1
    exact h1
  have HS : Hid (Step (fun _ => False) w v3) := s1 |>.trans s2 |>.trans s3
  have HE1 := Lib.hid hv1
  have HE2 := Lib.hid hv2
  have HE3 := Lib.hid hv3
  clear e1 s1 hv1 e2 s2 hv2 e3 s3 hv3 e0
  have hsz3 : v3.heap.size = w.heap.size + 1 + 1 + 1 := by rw [HE3.out, HE2.out, HE1.out]; simp
  have hB3 : B ≤ v3.heap.size := by omega
  have HM3 := Lib.hid (h.mkr.quiet HS.out)
  have hin : ∀ k, ftA X a k → k < w.heap.size := h.mkr.in_
  have hkm := wSlot_ok HM3.out hB3 o.s hg (by omega)
  have HKM := Lib.hid hkm
  have HIN := Lib.hid hin
  obtain ⟨MA, hMA⟩ : ∃ MA, MA = mdC am m := ⟨_, rfl⟩
  rw [← hMA] at HE1 HB ⊢
  have HMA := Lib.hid hMA
  have H17 : Hid (MA.size = 17) := by rw [Hid, hMA]; rfl
  have H1 : Hid (MA.all (·.oneCell') = true) := by rw [Hid, hMA]; exact mdC_one am m
  clear hMA
  have x0 := HX.out.cell 0
  have x1 := HX.out.cell 1
  simp at x0 x1
  rw [HE3.out, HE2.out, HE1.out] at x0 x1
  clear h hkm hin ho hl' hlm'
  go_enter Try.func28, Try.ntmps28
  go_wp2_with (first | (refine ld_mod rfl _ rfl _ rfl MA (by first | exact HB.out | (rw [← HE1.out, ← HE2.out, ← HE3.out]; exact HB.out)) H17.out ?_))
  rw [← HE1.out]
  rw [← HE2.out]
  rw [← HE3.out]
  clear x0 x1
  refine HKM.out.mono ?_
  rintro e w4 ⟨⟨z, rfl⟩, a1, v2', hm, hu⟩
  have HB4 := Lib.hid (HB.out.step hu.1 (fun e => Nat.lt_irrefl _ (HIN.out _ e)))
  have HX4 := Lib.hid (HX.out.step hu.1 (fun e => by have := HIN.out _ e; omega))
  have HZ4 := Lib.hid (HZ.out.step hu.1 (fun e => by have := HIN.out _ e; omega))
  have HS4 : Hid (Step (fun k => ftA X a k) w w4) := (HS.out.mono (fun _ _ h => h.elim)).trans hu.1
  have HU := Lib.hid hu
  have HMK := Lib.hid hm
  have hrf4 := HH.out.rf4 HS.out hu
  have hrr := want_ok w4 am m _ hrf4 (by omega) [71, 79, 84, 46, 102, 117, 110, 99] o.s true (by rw [str_toList]; rfl) (by rw [HA.out.q5]; exact hg)
  rw [show mdC am m = MA from HMA.out.symm] at hrr
  have HRR := Lib.hid hrr
  have hsz4 := hu.1.size
  have y0 := HX4.out.cell 0
  have y1 := HX4.out.cell 1
  simp at y0 y1
  clear hu hm hrf4 hrr 
  go_wp2_with (first | (refine ld_mod rfl _ rfl _ rfl MA HB4.out H17.out ?_))
  clear y0 y1
  refine HRR.out.mono ?_
  rintro e w5 ⟨am2, z2, rfl, hrf5, hs5⟩
  obtain ⟨MB, hMB⟩ : ∃ MB, MB = mdC am2 { m with is := m.is ++ [⟨[71, 79, 84, 46, 102, 117, 110, 99], o.s, 3, 0, 127, true⟩] } := ⟨_, rfl⟩
  have HMB := Lib.hid hMB
  rw [← hMB]
  have H17b : Hid (MB.size = 17) := by rw [HMB.out]; rfl
  have H1b : Hid (MB.all (·.oneCell') = true) := by rw [HMB.out]; exact mdC_one _ _
  have HB5 := Lib.hid (HB4.out.step hs5 id)
  have HZ5 := Lib.hid (HZ4.out.step hs5 id)
  have HS5 := Lib.hid hs5
  have HRF5 := Lib.hid hrf5
  obtain ⟨w6, hw6⟩ : ∃ w6, w6 = w5.setRow w.heap.size MB := ⟨_, rfl⟩
  have HB6 : Hid (Blk w6 w.heap.size 41 MB) := by rw [hw6]; exact HB5.out.row _
  have hs56 : Step (fun k => k = w.heap.size) w5 w6 := by rw [hw6]; exact Step.setRow (F := fun k => k = w.heap.size) Step.refl (.inl rfl) _
  have HZ6 : Hid (Blk w6 (w.heap.size + 1 + 1) 41 #[.slice none 0 0, .slice none 0 0, .slice none 0 0, .slice none 0 0, .slice none 0 0, .slice none 0 0, .slice none 0 0, .int .i64 0, .slice none 0 0, .slice none 0 0, .slice none 0 0, .bool false, .int .u32 0, .int .u32 0, .int .u32 0, .int .u32 0, .slice none 0 0]) := HZ5.out.step hs56 (by show ¬ (w.heap.size + 1 + 1 = w.heap.size); omega)
  have HS56 := Lib.hid hs56
  have HW6 := Lib.hid hw6
  clear hMB hs5 hrf5 hw6 hs56
  obtain ⟨bb, hbb⟩ : ∃ bb, ((z : Int) == z2) = bb := ⟨_, rfl⟩
  cases bb
  all_goals
    go_wp2_with (first | (refine st_mod rfl _ _ rfl rfl w.heap.size rfl MB rfl HB5.out H17.out H17b.out H1b.out ?_; rw [← HW6.out]) | (refine ld_mod rfl _ rfl _ rfl MB HB6.out H17b.out ?_) | (refine st_mod rfl _ _ rfl rfl (w.heap.size + 1 + 1) rfl MB rfl HZ6.out rfl H17b.out H1b.out ?_))
    refine bodyPost_ret (v := .tuple #[.agg MB, .bool _]) (res_mod2 Try.results28 (w.heap.size + 1 + 1) rfl rfl (Blk.row HZ6.out MB) H17b.out) rfl ?_
    have h56 : Step (fun k => w.heap.size ≤ k ∧ k < v3.heap.size) w5 (w6.setRow (w.heap.size + 1 + 1) MB) := (HS56.out.mono (F' := fun k => w.heap.size ≤ k ∧ k < v3.heap.size) (fun k _ e => by omega)).trans (Step.setRow (F := fun k => w.heap.size ≤ k ∧ k < v3.heap.size) Step.refl (.inl (by omega)) MB)
    have hfin := HH.out.fin HS.out HMK.out HU.out HRF5.out HS5.out h56 (by exact Inn.mono (Inn.same (HH.out.inn4 HS.out HU.out) rfl rfl) (fun k _ hk => Or.inl hk)) (by exact Inn.mono (Inn.same ((HH.out.inm4 HS.out HU.out).step HS5.out (fun _ _ => id)) rfl rfl) (fun k _ hk => Or.inl hk)) (⟨HA.out.q0, by show _ ++ [_] = _ ++ [_]; rw [HA.out.q1], HA.out.q2, HA.out.q5, HA.out.q6, HA.out.q10, HA.out.q16, HA.out.st, HA.out.d1, HA.out.d2, HA.out.d3, HA.out.d4, HA.out.q8, HA.out.q9⟩)
    exact ⟨_, _, _, _, _, _, _, by rw [HMB.out], hfin.1, hfin.2, fun n ⟨h0, h1, h2, h3, h4, h5, h6, h7, h8⟩ => ⟨Nat.le_succ_of_le h0, by show (_ ++ [_]).length ≤ n + 1; rw [List.length_append]; exact Nat.succ_le_succ h1, Nat.le_succ_of_le h2, Nat.le_succ_of_le h3, Nat.le_succ_of_le h4, Nat.le_succ_of_le h5, Nat.le_succ_of_le h6, Nat.le_succ_of_le h7, Nat.le_succ_of_le h8⟩⟩
end
end Go.Proofs.Ytflgpjdpofmbkaa
