/-
  creellaw47: do.
-/
import Derived.Test.YtflgpjdpofmbkaaCsO
set_option linter.unusedVariables false
set_option linter.unusedSimpArgs false
namespace Go.Proofs.Ytflgpjdpofmbkaa
open Go.RowKit

theorem St.fin2 {T : Nat → Prop} {w v w4 w6 : World} {B X : Nat} {a a' am am' : Ad} {s s' m m' : Mo} {tk vr tk' vr' : Int} (h : St T w B X a s tk vr am m) (hv : Step (fun _ => False) w v)
    (hm : Mk w4 B X a' s' tk' vr') (hu : Upd v (ftA X a) (ftA X a') w4) (hr : Rf w6 (fun k => Old T w k ∨ (v.heap.size ≤ k ∧ ¬ ftA X a' k)) am' m')
    (h46 : Step (fun k => w.heap.size ≤ k ∧ k < v.heap.size) w4 w6) (hi : Inn w4 (fun k => Old T w k ∨ (¬ ftA X a' k ∧ v.heap.size ≤ k)) s') (hi' : Inn w6 (fun k => Old T w k ∨ (v.heap.size ≤ k ∧ ¬ ftA X a' k)) m')
    (al : Alike s' m') : St (New T w X a') w6 B X a' s' tk' vr' am' m' ∧ Upd w (ftA X a) (ftA X a') w6 := by
  have hin : ∀ k, ftA X a k → k < w.heap.size := h.mkr.in_
  have hnew : ∀ k, ftA X a' k → ftA X a k ∨ v.heap.size ≤ k := hu.2
  have hvz := hv.size
  have hold : ∀ k, Old T w k → ¬ ftA X a' k := fun k hk e => by
    rcases hnew k e with h1 | h1
    · exact h.sep k hk.1 h1
    · have := hk.2; omega
  have hap : ∀ k, ftA X a' k → ¬ (w.heap.size ≤ k ∧ k < v.heap.size) := fun k hk e => by
    rcases hnew k hk with h1 | h1
    · have := hin k h1; omega
    · omega
  have hT : ∀ k, Old T w k ∨ (¬ ftA X a' k ∧ v.heap.size ≤ k) → ¬ (w.heap.size ≤ k ∧ k < v.heap.size) := fun k hk e => by
    rcases hk with h1 | h1
    · have := h1.2; omega
    · omega
  have hN : ∀ k, Old T w k ∨ (v.heap.size ≤ k ∧ ¬ ftA X a' k) → New T w X a' k := fun k hk => by
    rcases hk with h1 | h1
    · exact .inl h1
    · exact .inr ⟨by omega, h1.2⟩
  refine ⟨⟨hm.step h46 hap, fun k hk => ?_, (hi.step h46 hT).mono (fun k _ hk => ?_), hr.mono (fun k _ hk => hN k hk), hi'.mono (fun k _ hk => hN k hk), al⟩, (Upd.after hv hu).write h46 (fun k hk => hk.1)⟩
  · rcases hk with h1 | h1
    · exact hold k h1
    · exact h1.2
  · rcases hk with h1 | h1
    · exact .inl h1
    · exact .inr ⟨by omega, h1.1⟩
section
variable {w : World} {S : Nat → Prop} {a : Ad} {s : Mo}
theorem Rf.set0 (h : Rf w S a s) {D : Option Addr} {c' : Nat} {l : List (Ft)} (ho : Reads w S 2 D l.length (fts l)) : Rf w S { a with A0 := D, c0 := c' } { s with ts := l } :=
  ⟨ho, h.r1, h.r2, h.r5, h.r6, h.r8, h.r9, h.r10, h.r16⟩
theorem Rf.set1 (h : Rf w S a s) {D : Option Addr} {c' : Nat} {l : List (Im)} (ho : Reads w S 9 D l.length (ims l)) : Rf w S { a with A1 := D, c1 := c' } { s with is := l } :=
  ⟨h.r0, ho, h.r2, h.r5, h.r6, h.r8, h.r9, h.r10, h.r16⟩
theorem Rf.set5 (h : Rf w S a s) {D : Option Addr} {c' : Nat} {l : List (Gl)} (ho : Reads w S 6 D l.length (gls l)) : Rf w S { a with A5 := D, c5 := c' } { s with gs := l } :=
  ⟨h.r0, h.r1, h.r2, ho, h.r6, h.r8, h.r9, h.r10, h.r16⟩
theorem Rf.set6 (h : Rf w S a s) {D : Option Addr} {c' : Nat} {l : List (Ex)} (ho : Reads w S 3 D l.length (exs l)) : Rf w S { a with A6 := D, c6 := c' } { s with es := l } :=
  ⟨h.r0, h.r1, h.r2, h.r5, ho, h.r8, h.r9, h.r10, h.r16⟩
theorem Rf.set8 (h : Rf w S a s) {D : Option Addr} {c' : Nat} {l : List (El)} (ho : Reads w S 5 D l.length (elsL l)) : Rf w S { a with A8 := D, c8 := c' } { s with els := l } :=
  ⟨h.r0, h.r1, h.r2, h.r5, h.r6, ho, h.r9, h.r10, h.r16⟩
theorem Rf.set10 (h : Rf w S a s) {D : Option Addr} {c' : Nat} {l : List (Da)} (ho : Reads w S 5 D l.length (das l)) : Rf w S { a with A10 := D, c10 := c' } { s with ds := l } :=
  ⟨h.r0, h.r1, h.r2, h.r5, h.r6, h.r8, h.r9, ho, h.r16⟩
theorem Rf.set16 (h : Rf w S a s) {D : Option Addr} {c' : Nat} {l : List (List UInt8)} (ho : Reads w S 1 D l.length (strs l)) : Rf w S { a with A16 := D, c16 := c' } { s with nd := l } :=
  ⟨h.r0, h.r1, h.r2, h.r5, h.r6, h.r8, h.r9, h.r10, ho⟩
end
section
variable (T : Nat → Prop) (w : World) (B X : Nat) (a : Ad) (s : Mo) (tk vr : Int) (am : Ad) (m : Mo)

set_option maxRecDepth 100000 in
set_option maxHeartbeats 12800000 in
theorem do0 (h : St T w B X a s tk vr am m) (hB : B ≤ w.heap.size) (hl : s.small 900) (o : Opx) (ho : o.ok w (Old T w))  :
    Calls Try.prog 9 #[.pointer (some ⟨X, 0, none⟩), .agg (mdC am m), .agg #[.int .i64 0, .string (str o.s), .int .u32 (o.n : Int), .int .u32 (o.n2 : Int), .string (str o.t.p), .string (str o.t.r), .string (str o.lo), .slice o.A o.bo.length o.c, .int .u8 (o.vt : Int), .int .u64 (o.vn : Int), .bool o.mu]] w (DOut T w B X a s) := by
  have hlm := h.al.small hl
  obtain ⟨l0, l1, l2, l5, l6, l8, l9, l10, l16⟩ := hl
  obtain ⟨k0, k1, k2, k5, k6, k8, k9, k10, k16⟩ := hlm
  have hl' : s.small 1000 := ⟨by omega, by omega, by omega, by omega, by omega, by omega, by omega, by omega, by omega⟩
  have HLS := Lib.hid hl'
  have HA := Lib.hid h.al
  have HH := Lib.hid h
  have HO := Lib.hid ho
  have hn1 := ho.n
  have hn2 := ho.n2
  have hw64 := IntWalk.u64_in (o.n : Int) (by omega)
  obtain ⟨v1, hv1⟩ : ∃ v1, v1 = w.alloc (.cells (mdC am m) 41) := ⟨_, rfl⟩
  obtain ⟨v2, hv2⟩ : ∃ v2, v2 = v1.alloc (.cells #[.int .i64 0, .string (str o.s), .int .u32 (o.n : Int), .int .u32 (o.n2 : Int), .string (str o.t.p), .string (str o.t.r), .string (str o.lo), .slice o.A o.bo.length o.c, .int .u8 (o.vt : Int), .int .u64 (o.vn : Int), .bool o.mu] 52) := ⟨_, rfl⟩
  obtain ⟨v3, hv3⟩ : ∃ v3, v3 = v2.alloc (.cells #[.slice none 0 0, .slice none 0 0, .slice none 0 0, .slice none 0 0, .slice none 0 0, .slice none 0 0, .slice none 0 0, .int .i64 0, .slice none 0 0, .slice none 0 0, .slice none 0 0, .bool false, .int .u32 0, .int .u32 0, .int .u32 0, .int .u32 0, .slice none 0 0] 41) := ⟨_, rfl⟩
  obtain ⟨v4, hv4⟩ : ∃ v4, v4 = v3.alloc (.cells #[Value.int .u8 35, .int .u64 (o.n : Int), .int .u64 0, .slice none 0 0] 59) := ⟨_, rfl⟩
  have e0 : w.heap.size = w.heap.size := rfl
  have e1 : v1.heap.size = w.heap.size + 1 := by rw [hv1]; simp [e0]
  have s1 : Step (fun _ => False) w v1 := by rw [hv1]; exact Step.alloc Step.refl _
  have e2 : v2.heap.size = w.heap.size + 1 + 1 := by rw [hv2]; simp [e1]
  have s2 : Step (fun _ => False) v1 v2 := by rw [hv2]; exact Step.alloc Step.refl _
  have e3 : v3.heap.size = w.heap.size + 1 + 1 + 1 := by rw [hv3]; simp [e2]
  have s3 : Step (fun _ => False) v2 v3 := by rw [hv3]; exact Step.alloc Step.refl _
  have e4 : v4.heap.size = w.heap.size + 1 + 1 + 1 + 1 := by rw [hv4]; simp [e3]
  have s4 : Step (fun _ => False) v3 v4 := by rw [hv4]; exact Step.alloc Step.refl _
  have HB : Hid (Blk v4 (w.heap.size) 41 (mdC am m)) := by
    have h1 : Blk v1 w.heap.size 41 (mdC am m) := by rw [hv1]; exact Blk.new w _ _
    exact (((h1.step s2 id).step s3 id).step s4 id)
  have HX : Hid (Blk v4 (w.heap.size + 1) 52 #[.int .i64 0, .string (str o.s), .int .u32 (o.n : Int), .int .u32 (o.n2 : Int), .string (str o.t.p), .string (str o.t.r), .string (str o.lo), .slice o.A o.bo.length o.c, .int .u8 (o.vt : Int), .int .u64 (o.vn : Int), .bool o.mu]) := by
    have h1 : Blk v2 v1.heap.size 52 #[.int .i64 0, .string (str o.s), .int .u32 (o.n : Int), .int .u32 (o.n2 : Int), .string (str o.t.p), .string (str o.t.r), .string (str o.lo), .slice o.A o.bo.length o.c, .int .u8 (o.vt : Int), .int .u64 (o.vn : Int), .bool o.mu] := by rw [hv2]; exact Blk.new v1 _ _
    rw [e1] at h1
    exact ((h1.step s3 id).step s4 id)
  have HZ : Hid (Blk v4 (w.heap.size + 1 + 1) 41 #[.slice none 0 0, .slice none 0 0, .slice none 0 0, .slice none 0 0, .slice none 0 0, .slice none 0 0, .slice none 0 0, .int .i64 0, .slice none 0 0, .slice none 0 0, .slice none 0 0, .bool false, .int .u32 0, .int .u32 0, .int .u32 0, .int .u32 0, .slice none 0 0]) := by
    have h1 : Blk v3 v2.heap.size 41 #[.slice none 0 0, .slice none 0 0, .slice none 0 0, .slice none 0 0, .slice none 0 0, .slice none 0 0, .slice none 0 0, .int .i64 0, .slice none 0 0, .slice none 0 0, .slice none 0 0, .bool false, .int .u32 0, .int .u32 0, .int .u32 0, .int .u32 0, .slice none 0 0] := by rw [hv3]; exact Blk.new v2 _ _
    rw [e2] at h1
    exact (h1.step s4 id)
  have HG : Hid (Blk v4 (w.heap.size + 1 + 1 + 1) 59 #[Value.int .u8 35, .int .u64 (o.n : Int), .int .u64 0, .slice none 0 0]) := by
    have h1 : Blk v4 v3.heap.size 59 #[Value.int .u8 35, .int .u64 (o.n : Int), .int .u64 0, .slice none 0 0] := by rw [hv4]; exact Blk.new v3 _ _
    rw [e3] at h1
    exact h1
  have HS : Hid (Step (fun _ => False) w v4) := s1 |>.trans s2 |>.trans s3 |>.trans s4
  have HE1 := Lib.hid hv1
  have HE2 := Lib.hid hv2
  have HE3 := Lib.hid hv3
  have HE4 := Lib.hid hv4
  clear e1 s1 hv1 e2 s2 hv2 e3 s3 hv3 e4 s4 hv4 e0
  have x0 := HX.out.cell 0
  have x1 := HX.out.cell 1
  simp at x0 x1
  rw [HE4.out, HE3.out, HE2.out, HE1.out] at x0 x1
  have h4s : v4.heap.size = w.heap.size + 1 + 1 + 1 + 1 := by rw [HE4.out, HE3.out, HE2.out, HE1.out]; simp
  obtain ⟨v5, hv5⟩ : ∃ v5, v5 = v4.alloc (.cells #[Value.string (str o.s)] 9) := ⟨_, rfl⟩
  have s5 : Step (fun _ => False) v4 v5 := by rw [hv5]; exact Step.alloc Step.refl _
  have hrd : Reads v5 (fun k => k = w.heap.size + 1 + 1 + 1 + 1) 1 (some ⟨w.heap.size + 1 + 1 + 1 + 1, 0, none⟩) 1 #[Value.string (str o.s)].toList := by
    have := reads_new v4 #[Value.string (str o.s)] 9 1 1 rfl
    rw [h4s] at this
    rw [hv5]
    exact this
  have HE5 := Lib.hid hv5
  replace HB := Lib.hid (HB.out.step s5 id)
  replace HX := Lib.hid (HX.out.step s5 id)
  replace HZ := Lib.hid (HZ.out.step s5 id)
  replace HG := Lib.hid (HG.out.step s5 id)
  replace HS := Lib.hid (HS.out.trans s5)
  clear hv5 s5
  have hszv : v5.heap.size = w.heap.size + 1 + 1 + 1 + 1 + 1 := by rw [HE5.out, HE4.out, HE3.out, HE2.out, HE1.out]; simp
  have hB3 : B ≤ v5.heap.size := by omega
  have HM3 := Lib.hid (h.mkr.quiet HS.out)
  have hin : ∀ k, ftA X a k → k < w.heap.size := h.mkr.in_
  have hkm := need_ok v5 B X a s tk vr HM3.out hB3 o.s _ 1 _ hrd (by omega)
  have HKM := Lib.hid hkm
  have HIN := Lib.hid hin
  obtain ⟨MA, hMA⟩ : ∃ MA, MA = mdC am m := ⟨_, rfl⟩
  rw [← hMA] at HE1 HB ⊢
  have HMA := Lib.hid hMA
  have H17 : Hid (MA.size = 17) := by rw [Hid, hMA]; rfl
  have H1 : Hid (MA.all (·.oneCell') = true) := by rw [Hid, hMA]; exact mdC_one am m
  clear hMA
  clear h hkm hin ho hl' hrd
  go_enter Try.func9, Try.ntmps9
  go_wp2_with (first | (refine ld_mod rfl _ rfl _ rfl MA (by first | exact HB.out | (rw [← HE1.out, ← HE2.out, ← HE3.out, ← HE4.out, ← HE5.out]; exact HB.out)) H17.out ?_))
  rw [← HE1.out]
  rw [← HE2.out]
  rw [← HE3.out]
  rw [← HE4.out]
  rw [← HE5.out]
  clear x0 x1
  refine HKM.out.mono ?_
  rintro e w4 ⟨rfl, A1, c1, hm, hu⟩
  have HB4 := Lib.hid (HB.out.step hu.1 (fun e => Nat.lt_irrefl _ (HIN.out _ e)))
  have HX4 := Lib.hid (HX.out.step hu.1 (fun e => by have := HIN.out _ e; omega))
  have HZ4 := Lib.hid (HZ.out.step hu.1 (fun e => by have := HIN.out _ e; omega))
  have HG4 := Lib.hid (HG.out.step hu.1 (fun e => by have := HIN.out _ e; omega))
  have HU := Lib.hid hu
  have HMK := Lib.hid hm
  have HRF4 := Lib.hid (HH.out.rf4 HS.out hu)
  have HS4 : Hid (Step (fun k => ftA X a k) w w4) := (HS.out.mono (fun _ _ h => h.elim)).trans hu.1
  have hsz4 := hu.1.size
  have hin4 : Hid (∀ k, ftA X { a with A16 := A1, c16 := c1 } k → k < w4.heap.size) := hm.in_
  clear hu hm
  have y0 := HX4.out.cell 0
  have y1 := HX4.out.cell 1
  simp at y0 y1
  have c0 := HB4.out.cell 16
  rw [HMA.out] at c0
  simp [mdC] at c0
  obtain ⟨N, hN⟩ : ∃ N, N = m.nd.length := ⟨_, rfl⟩
  have HN := Lib.hid hN
  rw [← hN] at c0 k16
  clear hN
  have dz := cls_cell (F := fun _ => False) c0 id
  have dyy1 := cls_cell (F := fun _ => False) y1 id
  have hsrc := HRF4.out.r16
  rw [← HN.out] at hsrc
  have hone1 := strs_one m.nd
  have hone2 : ∀ u ∈ #[Value.string (str o.s)].toList, u.oneCell' = true := by simp [Value.oneCell']
  have hm1 : 0 + N ≤ maxLen := by unfold maxLen; omega
  have hm2 : N + 1 ≤ maxLen := by unfold maxLen; omega
  go_wp2_with fail
  clear c0 y1
  have hz1 : (w4.alloc (.cells #[Value.string (str o.s)] 9)).heap.size = w4.heap.size + 1 := by simp
  have hz0 : (w4.alloc (.cells #[] 9)).heap.size = w4.heap.size + 1 := by simp
  have hfA : (w4.alloc (.cells #[] 9)).drew.ownsRow w4.heap.size 9 1 (.slice (some ⟨w4.heap.size, 0, none⟩) 0 0) 0 [] := own_drew (own_fresh 1 (Nat.le_refl _))
  have hrA := hsrc.step (F := fun _ => False) (Step.drew (Step.alloc Step.refl (.cells #[] 9))) (fun _ _ => id)
  have hfB : ((w4.alloc (.cells #[] 9)).alloc (.cells #[Value.string (str o.s)] 9)).drew.ownsRow w4.heap.size 9 1 (.slice (some ⟨w4.heap.size, 0, none⟩) 0 0) 0 [] := own_drew ((own_fresh 1 (Nat.le_refl _)).alloc _)
  have hrB := hsrc.step (F := fun _ => False) (Step.drew (Step.alloc (Step.alloc Step.refl (.cells #[] 9)) (.cells #[Value.string (str o.s)] 9))) (fun _ _ => id)
  have hxB := (reads_new (w4.alloc (.cells #[] 9)) #[Value.string (str o.s)] 9 1 1 rfl).drew
  have hfC : ((w4.alloc (.cells #[Value.string (str o.s)] 9)).alloc (.cells #[] 9)).drew.ownsRow w4.heap.size 9 1 (.slice (some ⟨w4.heap.size + 1, 0, none⟩) 0 0) 0 [] := by
    have := own_drew (own_fresh (w := w4.alloc (.cells #[Value.string (str o.s)] 9)) (e := 9) (base := w4.heap.size) 1 (by omega))
    rwa [hz1] at this
  have hrC := hsrc.step (F := fun _ => False) (Step.drew (Step.alloc (Step.alloc Step.refl (.cells #[Value.string (str o.s)] 9)) (.cells #[] 9))) (fun _ _ => id)
  have hxC := ((reads_new w4 #[Value.string (str o.s)] 9 1 1 rfl).step (F := fun _ => False) (Step.alloc Step.refl (.cells #[] 9)) (fun _ _ => id)).drew
  rw [hz0] at hxB
  refine Mxt.wp_region_tree [0, 4, 7, 8, 11] [0, 4, 7, 8] (.fork (.op 0 (.reads [1, 2, 3] (.fork (.op 4 (.reads [5, 6] (.op 7 (.op 8 (.reads [9, 10] (.op 11 .leaf)))))) (.reads [5, 6] (.op 7 (.op 4 (.op 8 (.reads [9, 10] (.op 11 .leaf))))))))) (.reads [5, 6] (.op 7 (.reads [1, 2, 3] (.op 0 (.op 4 (.op 8 (.reads [9, 10] (.op 11 .leaf))))))))) (Step (fun _ => False) w4) (by kernel_rfl) (by kernel_rfl) Step.refl.drew (fun hcls => ?_)
  refine Mxt.wpTL_fork ?_ ?_
  · refine Mxt.wpTL_op (by rfl) (fun K hK => ?_)
    go_simp
    refine hK _ _ (fun hlt => Mix.cl (Step.drew (Step.alloc Step.refl _))) ?_
    clear hK K
    refine Mxt.wpTL_reads ?_
    simp only [List.flatMap_cons, List.flatMap_nil, List.getElem?_cons_succ, List.getElem?_cons_zero, Option.toList_some, List.cons_append, List.nil_append]
    repeat (go_big_quiet_step (fail))
    refine wpQuiet_nil ?_
    refine Mxt.wpTL_fork ?_ ?_
    · refine Mxt.wpTL_op (by rfl) (fun K hK => ?_)
      refine step_append_new (w0 := w4) (by rfl) _ _ (by rfl) E_strs (Step.drew (Step.alloc Step.refl _)) (by rfl) (hfA) (by rfl) (hrA) hone1 hm1 (by omega) ?_
      intro D1 c1 W1 hown1 hS1 hgrow1 hat1
      refine hK _ _ (fun hlt => Mix.cl hS1) ?_
      clear hK K
      simp only [Act.put, List.setIfInBounds_toArray, List.set_cons_succ, List.set_cons_zero, Nat.zero_add]
      simp only [Nat.zero_add] at hown1
      refine Mxt.wpTL_reads ?_
      simp only [List.flatMap_cons, List.flatMap_nil, List.getElem?_cons_succ, List.getElem?_cons_zero, Option.toList_some, List.cons_append, List.nil_append]
      repeat (go_big_quiet_step (fail))
      refine wpQuiet_nil ?_
      refine Mxt.wpTL_op (by rfl) (fun K hK => ?_)
      go_simp
      refine hK _ _ (fun hlt => Mix.cl (Step.alloc hS1 _)) ?_
      clear hK K
      refine Mxt.wpTL_op (by rfl) (fun K hK => ?_)
      refine step_append_new (w0 := w4) (by rfl) _ _ (by rfl) E_strs (Step.alloc hS1 _) (by rfl) (hown1.alloc _) (by rfl) (reads_new W1 #[Value.string (str o.s)] 9 1 1 rfl) hone2 hm2 (by omega) ?_
      intro D2 c2 W2 hown2 hS2 hgrow2 hat2
      refine hK _ _ (fun hlt => Mix.cl hS2) ?_
      clear hK K
      simp only [Act.put, List.setIfInBounds_toArray, List.set_cons_succ, List.set_cons_zero, Nat.zero_add]
      refine Mxt.wpTL_reads ?_
      simp only [List.flatMap_cons, List.flatMap_nil, List.getElem?_cons_succ, List.getElem?_cons_zero, Option.toList_some, List.cons_append, List.nil_append]
      repeat (go_big_quiet_step (fail))
      refine wpQuiet_nil ?_
      have hB2 := HB4.out.step hS2 id
      have z0 := hB2.frozen 16
      have c0 := hB2.cell 16
      rw [HMA.out] at c0
      simp [mdC] at c0
      refine Mxt.wpTL_op (by rfl) (fun K hK => ?_)
      go_simp
      refine hK _ _ (fun hlt => absurd hlt (by decide)) ?_
      clear hK K z0 c0
      refine Mxt.wpTL_leaf ?_
      as_aux_lemma =>
      obtain ⟨W3, hW3⟩ : ∃ W3, W3 = W2.setCell ⟨w.heap.size, 16, none⟩ (.slice D2 (N + 1) c2) := ⟨_, rfl⟩
      obtain ⟨MB, hMB⟩ : ∃ MB, MB = mdC { am with A16 := D2, c16 := c2 } { m with nd := m.nd ++ [o.s] } := ⟨_, rfl⟩
      have HMB := Lib.hid hMB
      have H17b : Hid (MB.size = 17) := by rw [Hid, hMB]; rfl
      have H1b : Hid (MB.all (·.oneCell') = true) := by rw [Hid, hMB]; exact mdC_one _ _
      have HB3 : Hid (Blk W3 (w.heap.size) 41 MB) := by
        have := hB2.set_ 16 (.slice D2 (N + 1) c2)
        rw [← hW3, HMA.out] at this
        simp [mdC] at this
        rw [hMB]
        simp [mdC]
        rw [← HN.out]
        exact this
      have HZ3 : Hid (Blk W3 (w.heap.size + 1 + 1) 41 #[.slice none 0 0, .slice none 0 0, .slice none 0 0, .slice none 0 0, .slice none 0 0, .slice none 0 0, .slice none 0 0, .int .i64 0, .slice none 0 0, .slice none 0 0, .slice none 0 0, .bool false, .int .u32 0, .int .u32 0, .int .u32 0, .int .u32 0, .slice none 0 0]) := by rw [hW3]; exact (HZ4.out.step hS2 id).far (by show (w.heap.size + 1 + 1 : Nat) ≠ w.heap.size; omega) _
      have HO3 : Hid (W3.ownsRow w4.heap.size 9 1 (.slice D2 (N + 1) c2) (N + 1) (strs (m.nd ++ [o.s]))) := by
        rw [hW3, strs_last]
        exact own_set hown2 (otag hown2 hB2 (by decide) |> fun h e => h (by rwa [ownBlock_slice] at e)) _
      skip
      have HSV : Hid (Step (fun k => k = w.heap.size) w4 W3) := by rw [hW3]; exact Step.setCell (F := fun k => k = w.heap.size) (hS2.mono (fun _ _ h => h.elim)) (.inl rfl) _
      have c0 := HB3.out.cell 16
      rw [hMB] at c0
      simp [mdC] at c0
      rw [← hW3]
      clear hW3 hB2 hown1 hown2 hS1 hS2 hgrow1 hgrow2 hat1 hat2 hMB
      clear c0
      go_wp2_with (first | (refine ld_mod rfl _ rfl _ rfl MB HB3.out H17b.out ?_) | (refine st_mod rfl _ _ rfl rfl (w.heap.size + 1 + 1) rfl MB rfl HZ3.out rfl H17b.out H1b.out ?_))
      refine bodyPost_ret (v := .tuple #[.agg MB, .bool true]) (res_mod2 Try.results9 (w.heap.size + 1 + 1) rfl rfl (Blk.row HZ3.out MB) H17b.out) rfl ?_
      have h46 : Step (fun k => w.heap.size ≤ k ∧ k < v5.heap.size) w4 (W3.setRow (w.heap.size + 1 + 1) MB) := (HSV.out.mono (F' := fun k => w.heap.size ≤ k ∧ k < v5.heap.size) (fun k _ e => by omega)).trans (Step.setRow (F := fun k => w.heap.size ≤ k ∧ k < v5.heap.size) Step.refl (.inl (by omega)) MB)
      have ho' := own_step HO3.out (Step.setRow (F := fun k => k = w.heap.size + 1 + 1) Step.refl (.inl rfl) MB) (fun k hk e => by subst e; exact own_tag HO3.out HZ3.out (by decide) hk)
      have hr6 := ((HRF4.out.step h46 (fun k hk e => by have := hk.2; omega)).mono (S' := fun k => Old T w k ∨ (v5.heap.size ≤ k ∧ ¬ ftA X { a with A16 := A1, c16 := c1 } k)) (fun _ _ => .inl)).set16 (D := D2) (c' := c2) (l := m.nd ++ [o.s]) (by
        rw [List.length_append, ← HN.out]
        exact (Reads.of_own ho').mono fun k _ hk => .inr ⟨by have := own_ge ho' k hk; omega, fun e => by have h1 := hin4.out k e; have h2 := own_ge ho' k hk; omega⟩)
      have hfin := HH.out.fin2 HS.out HMK.out HU.out hr6 h46 (by exact Inn.mono (Inn.same (HH.out.inn4 HS.out HU.out) rfl rfl) (fun k _ hk => Or.inl hk)) (by exact Inn.mono (Inn.same ((HH.out.inm4 HS.out HU.out).step h46 (fun k hk e => by have := hk.2; omega)) rfl rfl) (fun k _ hk => Or.inl hk)) (⟨HA.out.q0, HA.out.q1, HA.out.q2, HA.out.q5, HA.out.q6, HA.out.q10, by show _ ++ [_] = _ ++ [_]; rw [HA.out.q16], HA.out.st, HA.out.d1, HA.out.d2, HA.out.d3, HA.out.d4, HA.out.q8, HA.out.q9⟩)
      exact ⟨_, _, _, _, _, _, _, by rw [HMB.out], hfin.1, hfin.2, fun n ⟨h0, h1, h2, h3, h4, h5, h6, h7, h8⟩ => ⟨Nat.le_succ_of_le h0, Nat.le_succ_of_le h1, Nat.le_succ_of_le h2, Nat.le_succ_of_le h3, Nat.le_succ_of_le h4, Nat.le_succ_of_le h5, Nat.le_succ_of_le h6, Nat.le_succ_of_le h7, by show (_ ++ [_]).length ≤ n + 1; rw [List.length_append]; exact Nat.succ_le_succ h8⟩⟩
    · refine Mxt.wpTL_reads ?_
      simp only [List.flatMap_cons, List.flatMap_nil, List.getElem?_cons_succ, List.getElem?_cons_zero, Option.toList_some, List.cons_append, List.nil_append]
      repeat (go_big_quiet_step (fail))
      refine wpQuiet_nil ?_
      refine Mxt.wpTL_op (by rfl) (fun K hK => ?_)
      go_simp
      refine hK _ _ (fun hlt => Mix.cl (Step.drew (Step.alloc (Step.alloc Step.refl _) _))) ?_
      clear hK K
      refine Mxt.wpTL_op (by rfl) (fun K hK => ?_)
      refine step_append_new (w0 := w4) (by rfl) _ _ (by rfl) E_strs (Step.drew (Step.alloc (Step.alloc Step.refl _) _)) (by rfl) (hfB) (by rfl) (hrB) hone1 hm1 (by omega) ?_
      intro D1 c1 W1 hown1 hS1 hgrow1 hat1
      refine hK _ _ (fun hlt => Mix.cl hS1) ?_
      clear hK K
      simp only [Act.put, List.setIfInBounds_toArray, List.set_cons_succ, List.set_cons_zero, Nat.zero_add]
      simp only [Nat.zero_add] at hown1
      have hx1 := hxB.step (Step.grown (F := fun k => blkOf (some (⟨w4.heap.size, 0, none⟩ : Addr)) = some k) Step.refl hgrow1 (fun k hk => .inl hk)) (fun k hk e => by simp [blkOf] at e; omega)
      refine Mxt.wpTL_op (by rfl) (fun K hK => ?_)
      refine step_append_new (w0 := w4) (by rfl) _ _ (by rfl) E_strs (hS1) (by rfl) (hown1) (by rfl) (hx1) hone2 hm2 (by omega) ?_
      intro D2 c2 W2 hown2 hS2 hgrow2 hat2
      refine hK _ _ (fun hlt => Mix.cl hS2) ?_
      clear hK K
      simp only [Act.put, List.setIfInBounds_toArray, List.set_cons_succ, List.set_cons_zero, Nat.zero_add]
      refine Mxt.wpTL_reads ?_
      simp only [List.flatMap_cons, List.flatMap_nil, List.getElem?_cons_succ, List.getElem?_cons_zero, Option.toList_some, List.cons_append, List.nil_append]
      repeat (go_big_quiet_step (fail))
      refine wpQuiet_nil ?_
      have hB2 := HB4.out.step hS2 id
      have z0 := hB2.frozen 16
      have c0 := hB2.cell 16
      rw [HMA.out] at c0
      simp [mdC] at c0
      refine Mxt.wpTL_op (by rfl) (fun K hK => ?_)
      go_simp
      refine hK _ _ (fun hlt => absurd hlt (by decide)) ?_
      clear hK K z0 c0
      refine Mxt.wpTL_leaf ?_
      as_aux_lemma =>
      obtain ⟨W3, hW3⟩ : ∃ W3, W3 = W2.setCell ⟨w.heap.size, 16, none⟩ (.slice D2 (N + 1) c2) := ⟨_, rfl⟩
      obtain ⟨MB, hMB⟩ : ∃ MB, MB = mdC { am with A16 := D2, c16 := c2 } { m with nd := m.nd ++ [o.s] } := ⟨_, rfl⟩
      have HMB := Lib.hid hMB
      have H17b : Hid (MB.size = 17) := by rw [Hid, hMB]; rfl
      have H1b : Hid (MB.all (·.oneCell') = true) := by rw [Hid, hMB]; exact mdC_one _ _
      have HB3 : Hid (Blk W3 (w.heap.size) 41 MB) := by
        have := hB2.set_ 16 (.slice D2 (N + 1) c2)
        rw [← hW3, HMA.out] at this
        simp [mdC] at this
        rw [hMB]
        simp [mdC]
        rw [← HN.out]
        exact this
      have HZ3 : Hid (Blk W3 (w.heap.size + 1 + 1) 41 #[.slice none 0 0, .slice none 0 0, .slice none 0 0, .slice none 0 0, .slice none 0 0, .slice none 0 0, .slice none 0 0, .int .i64 0, .slice none 0 0, .slice none 0 0, .slice none 0 0, .bool false, .int .u32 0, .int .u32 0, .int .u32 0, .int .u32 0, .slice none 0 0]) := by rw [hW3]; exact (HZ4.out.step hS2 id).far (by show (w.heap.size + 1 + 1 : Nat) ≠ w.heap.size; omega) _
      have HO3 : Hid (W3.ownsRow w4.heap.size 9 1 (.slice D2 (N + 1) c2) (N + 1) (strs (m.nd ++ [o.s]))) := by
        rw [hW3, strs_last]
        exact own_set hown2 (otag hown2 hB2 (by decide) |> fun h e => h (by rwa [ownBlock_slice] at e)) _
      skip
      have HSV : Hid (Step (fun k => k = w.heap.size) w4 W3) := by rw [hW3]; exact Step.setCell (F := fun k => k = w.heap.size) (hS2.mono (fun _ _ h => h.elim)) (.inl rfl) _
      have c0 := HB3.out.cell 16
      rw [hMB] at c0
      simp [mdC] at c0
      rw [← hW3]
      clear hW3 hB2 hown1 hown2 hS1 hS2 hgrow1 hgrow2 hat1 hat2 hMB
      clear c0
      go_wp2_with (first | (refine ld_mod rfl _ rfl _ rfl MB HB3.out H17b.out ?_) | (refine st_mod rfl _ _ rfl rfl (w.heap.size + 1 + 1) rfl MB rfl HZ3.out rfl H17b.out H1b.out ?_))
      refine bodyPost_ret (v := .tuple #[.agg MB, .bool true]) (res_mod2 Try.results9 (w.heap.size + 1 + 1) rfl rfl (Blk.row HZ3.out MB) H17b.out) rfl ?_
      have h46 : Step (fun k => w.heap.size ≤ k ∧ k < v5.heap.size) w4 (W3.setRow (w.heap.size + 1 + 1) MB) := (HSV.out.mono (F' := fun k => w.heap.size ≤ k ∧ k < v5.heap.size) (fun k _ e => by omega)).trans (Step.setRow (F := fun k => w.heap.size ≤ k ∧ k < v5.heap.size) Step.refl (.inl (by omega)) MB)
      have ho' := own_step HO3.out (Step.setRow (F := fun k => k = w.heap.size + 1 + 1) Step.refl (.inl rfl) MB) (fun k hk e => by subst e; exact own_tag HO3.out HZ3.out (by decide) hk)
      have hr6 := ((HRF4.out.step h46 (fun k hk e => by have := hk.2; omega)).mono (S' := fun k => Old T w k ∨ (v5.heap.size ≤ k ∧ ¬ ftA X { a with A16 := A1, c16 := c1 } k)) (fun _ _ => .inl)).set16 (D := D2) (c' := c2) (l := m.nd ++ [o.s]) (by
        rw [List.length_append, ← HN.out]
        exact (Reads.of_own ho').mono fun k _ hk => .inr ⟨by have := own_ge ho' k hk; omega, fun e => by have h1 := hin4.out k e; have h2 := own_ge ho' k hk; omega⟩)
      have hfin := HH.out.fin2 HS.out HMK.out HU.out hr6 h46 (by exact Inn.mono (Inn.same (HH.out.inn4 HS.out HU.out) rfl rfl) (fun k _ hk => Or.inl hk)) (by exact Inn.mono (Inn.same ((HH.out.inm4 HS.out HU.out).step h46 (fun k hk e => by have := hk.2; omega)) rfl rfl) (fun k _ hk => Or.inl hk)) (⟨HA.out.q0, HA.out.q1, HA.out.q2, HA.out.q5, HA.out.q6, HA.out.q10, by show _ ++ [_] = _ ++ [_]; rw [HA.out.q16], HA.out.st, HA.out.d1, HA.out.d2, HA.out.d3, HA.out.d4, HA.out.q8, HA.out.q9⟩)
      exact ⟨_, _, _, _, _, _, _, by rw [HMB.out], hfin.1, hfin.2, fun n ⟨h0, h1, h2, h3, h4, h5, h6, h7, h8⟩ => ⟨Nat.le_succ_of_le h0, Nat.le_succ_of_le h1, Nat.le_succ_of_le h2, Nat.le_succ_of_le h3, Nat.le_succ_of_le h4, Nat.le_succ_of_le h5, Nat.le_succ_of_le h6, Nat.le_succ_of_le h7, by show (_ ++ [_]).length ≤ n + 1; rw [List.length_append]; exact Nat.succ_le_succ h8⟩⟩
  · refine Mxt.wpTL_reads ?_
    simp only [List.flatMap_cons, List.flatMap_nil, List.getElem?_cons_succ, List.getElem?_cons_zero, Option.toList_some, List.cons_append, List.nil_append]
    repeat (go_big_quiet_step (fail))
    refine wpQuiet_nil ?_
    refine Mxt.wpTL_op (by rfl) (fun K hK => ?_)
    go_simp
    refine hK _ _ (fun hlt => Mix.cl (Step.drew (Step.alloc Step.refl _))) ?_
    clear hK K
    refine Mxt.wpTL_reads ?_
    simp only [List.flatMap_cons, List.flatMap_nil, List.getElem?_cons_succ, List.getElem?_cons_zero, Option.toList_some, List.cons_append, List.nil_append]
    repeat (go_big_quiet_step (fail))
    refine wpQuiet_nil ?_
    refine Mxt.wpTL_op (by rfl) (fun K hK => ?_)
    go_simp
    refine hK _ _ (fun hlt => Mix.cl (Step.drew (Step.alloc (Step.alloc Step.refl _) _))) ?_
    clear hK K
    refine Mxt.wpTL_op (by rfl) (fun K hK => ?_)
    refine step_append_new (w0 := w4) (by rfl) _ _ (by rfl) E_strs (Step.drew (Step.alloc (Step.alloc Step.refl _) _)) (by rfl) (hfC) (by rfl) (hrC) hone1 hm1 (by omega) ?_
    intro D1 c1 W1 hown1 hS1 hgrow1 hat1
    refine hK _ _ (fun hlt => Mix.cl hS1) ?_
    clear hK K
    simp only [Act.put, List.setIfInBounds_toArray, List.set_cons_succ, List.set_cons_zero, Nat.zero_add]
    simp only [Nat.zero_add] at hown1
    have hx1 := hxC.step (Step.grown (F := fun k => blkOf (some (⟨w4.heap.size + 1, 0, none⟩ : Addr)) = some k) Step.refl hgrow1 (fun k hk => .inl hk)) (fun k hk e => by simp [blkOf] at e; omega)
    refine Mxt.wpTL_op (by rfl) (fun K hK => ?_)
    refine step_append_new (w0 := w4) (by rfl) _ _ (by rfl) E_strs (hS1) (by rfl) (hown1) (by rfl) (hx1) hone2 hm2 (by omega) ?_
    intro D2 c2 W2 hown2 hS2 hgrow2 hat2
    refine hK _ _ (fun hlt => Mix.cl hS2) ?_
    clear hK K
    simp only [Act.put, List.setIfInBounds_toArray, List.set_cons_succ, List.set_cons_zero, Nat.zero_add]
    refine Mxt.wpTL_reads ?_
    simp only [List.flatMap_cons, List.flatMap_nil, List.getElem?_cons_succ, List.getElem?_cons_zero, Option.toList_some, List.cons_append, List.nil_append]
    repeat (go_big_quiet_step (fail))
    refine wpQuiet_nil ?_
    have hB2 := HB4.out.step hS2 id
    have z0 := hB2.frozen 16
    have c0 := hB2.cell 16
    rw [HMA.out] at c0
    simp [mdC] at c0
    refine Mxt.wpTL_op (by rfl) (fun K hK => ?_)
    go_simp
    refine hK _ _ (fun hlt => absurd hlt (by decide)) ?_
    clear hK K z0 c0
    refine Mxt.wpTL_leaf ?_
    as_aux_lemma =>
    obtain ⟨W3, hW3⟩ : ∃ W3, W3 = W2.setCell ⟨w.heap.size, 16, none⟩ (.slice D2 (N + 1) c2) := ⟨_, rfl⟩
    obtain ⟨MB, hMB⟩ : ∃ MB, MB = mdC { am with A16 := D2, c16 := c2 } { m with nd := m.nd ++ [o.s] } := ⟨_, rfl⟩
    have HMB := Lib.hid hMB
    have H17b : Hid (MB.size = 17) := by rw [Hid, hMB]; rfl
    have H1b : Hid (MB.all (·.oneCell') = true) := by rw [Hid, hMB]; exact mdC_one _ _
    have HB3 : Hid (Blk W3 (w.heap.size) 41 MB) := by
      have := hB2.set_ 16 (.slice D2 (N + 1) c2)
      rw [← hW3, HMA.out] at this
      simp [mdC] at this
      rw [hMB]
      simp [mdC]
      rw [← HN.out]
      exact this
    have HZ3 : Hid (Blk W3 (w.heap.size + 1 + 1) 41 #[.slice none 0 0, .slice none 0 0, .slice none 0 0, .slice none 0 0, .slice none 0 0, .slice none 0 0, .slice none 0 0, .int .i64 0, .slice none 0 0, .slice none 0 0, .slice none 0 0, .bool false, .int .u32 0, .int .u32 0, .int .u32 0, .int .u32 0, .slice none 0 0]) := by rw [hW3]; exact (HZ4.out.step hS2 id).far (by show (w.heap.size + 1 + 1 : Nat) ≠ w.heap.size; omega) _
    have HO3 : Hid (W3.ownsRow w4.heap.size 9 1 (.slice D2 (N + 1) c2) (N + 1) (strs (m.nd ++ [o.s]))) := by
      rw [hW3, strs_last]
      exact own_set hown2 (otag hown2 hB2 (by decide) |> fun h e => h (by rwa [ownBlock_slice] at e)) _
    skip
    have HSV : Hid (Step (fun k => k = w.heap.size) w4 W3) := by rw [hW3]; exact Step.setCell (F := fun k => k = w.heap.size) (hS2.mono (fun _ _ h => h.elim)) (.inl rfl) _
    have c0 := HB3.out.cell 16
    rw [hMB] at c0
    simp [mdC] at c0
    rw [← hW3]
    clear hW3 hB2 hown1 hown2 hS1 hS2 hgrow1 hgrow2 hat1 hat2 hMB
    clear c0
    go_wp2_with (first | (refine ld_mod rfl _ rfl _ rfl MB HB3.out H17b.out ?_) | (refine st_mod rfl _ _ rfl rfl (w.heap.size + 1 + 1) rfl MB rfl HZ3.out rfl H17b.out H1b.out ?_))
    refine bodyPost_ret (v := .tuple #[.agg MB, .bool true]) (res_mod2 Try.results9 (w.heap.size + 1 + 1) rfl rfl (Blk.row HZ3.out MB) H17b.out) rfl ?_
    have h46 : Step (fun k => w.heap.size ≤ k ∧ k < v5.heap.size) w4 (W3.setRow (w.heap.size + 1 + 1) MB) := (HSV.out.mono (F' := fun k => w.heap.size ≤ k ∧ k < v5.heap.size) (fun k _ e => by omega)).trans (Step.setRow (F := fun k => w.heap.size ≤ k ∧ k < v5.heap.size) Step.refl (.inl (by omega)) MB)
    have ho' := own_step HO3.out (Step.setRow (F := fun k => k = w.heap.size + 1 + 1) Step.refl (.inl rfl) MB) (fun k hk e => by subst e; exact own_tag HO3.out HZ3.out (by decide) hk)
    have hr6 := ((HRF4.out.step h46 (fun k hk e => by have := hk.2; omega)).mono (S' := fun k => Old T w k ∨ (v5.heap.size ≤ k ∧ ¬ ftA X { a with A16 := A1, c16 := c1 } k)) (fun _ _ => .inl)).set16 (D := D2) (c' := c2) (l := m.nd ++ [o.s]) (by
      rw [List.length_append, ← HN.out]
      exact (Reads.of_own ho').mono fun k _ hk => .inr ⟨by have := own_ge ho' k hk; omega, fun e => by have h1 := hin4.out k e; have h2 := own_ge ho' k hk; omega⟩)
    have hfin := HH.out.fin2 HS.out HMK.out HU.out hr6 h46 (by exact Inn.mono (Inn.same (HH.out.inn4 HS.out HU.out) rfl rfl) (fun k _ hk => Or.inl hk)) (by exact Inn.mono (Inn.same ((HH.out.inm4 HS.out HU.out).step h46 (fun k hk e => by have := hk.2; omega)) rfl rfl) (fun k _ hk => Or.inl hk)) (⟨HA.out.q0, HA.out.q1, HA.out.q2, HA.out.q5, HA.out.q6, HA.out.q10, by show _ ++ [_] = _ ++ [_]; rw [HA.out.q16], HA.out.st, HA.out.d1, HA.out.d2, HA.out.d3, HA.out.d4, HA.out.q8, HA.out.q9⟩)
    exact ⟨_, _, _, _, _, _, _, by rw [HMB.out], hfin.1, hfin.2, fun n ⟨h0, h1, h2, h3, h4, h5, h6, h7, h8⟩ => ⟨Nat.le_succ_of_le h0, Nat.le_succ_of_le h1, Nat.le_succ_of_le h2, Nat.le_succ_of_le h3, Nat.le_succ_of_le h4, Nat.le_succ_of_le h5, Nat.le_succ_of_le h6, Nat.le_succ_of_le h7, by show (_ ++ [_]).length ≤ n + 1; rw [List.length_append]; exact Nat.succ_le_succ h8⟩⟩

set_option maxRecDepth 100000 in
set_option maxHeartbeats 12800000 in
theorem do10 (h : St T w B X a s tk vr am m) (hB : B ≤ w.heap.size) (hl : s.small 900) (o : Opx) (ho : o.ok w (Old T w))  :
    Calls Try.prog 9 #[.pointer (some ⟨X, 0, none⟩), .agg (mdC am m), .agg #[.int .i64 10, .string (str o.s), .int .u32 (o.n : Int), .int .u32 (o.n2 : Int), .string (str o.t.p), .string (str o.t.r), .string (str o.lo), .slice o.A o.bo.length o.c, .int .u8 (o.vt : Int), .int .u64 (o.vn : Int), .bool o.mu]] w (DOut T w B X a s) := by
  have hlm := h.al.small hl
  obtain ⟨l0, l1, l2, l5, l6, l8, l9, l10, l16⟩ := hl
  obtain ⟨k0, k1, k2, k5, k6, k8, k9, k10, k16⟩ := hlm
  have hl' : s.small 1000 := ⟨by omega, by omega, by omega, by omega, by omega, by omega, by omega, by omega, by omega⟩
  have HLS := Lib.hid hl'
  have HA := Lib.hid h.al
  have HH := Lib.hid h
  have HO := Lib.hid ho
  have hn1 := ho.n
  have hn2 := ho.n2
  have hw64 := IntWalk.u64_in (o.n : Int) (by omega)
  obtain ⟨k8, hk8⟩ : ∃ k8 : Nat, k8 = o.n2 % 256 := ⟨_, rfl⟩
  have q8 : (o.n2 : Int) % 256 = (k8 : Int) := by omega
  have q88 : IntKind.u8.wrap (o.n2 : Int) = (k8 : Int) := by rw [IntKind.wrap_u8]; omega
  clear hk8
  obtain ⟨v1, hv1⟩ : ∃ v1, v1 = w.alloc (.cells (mdC am m) 41) := ⟨_, rfl⟩
  obtain ⟨v2, hv2⟩ : ∃ v2, v2 = v1.alloc (.cells #[.int .i64 10, .string (str o.s), .int .u32 (o.n : Int), .int .u32 (o.n2 : Int), .string (str o.t.p), .string (str o.t.r), .string (str o.lo), .slice o.A o.bo.length o.c, .int .u8 (o.vt : Int), .int .u64 (o.vn : Int), .bool o.mu] 52) := ⟨_, rfl⟩
  obtain ⟨v3, hv3⟩ : ∃ v3, v3 = v2.alloc (.cells #[.slice none 0 0, .slice none 0 0, .slice none 0 0, .slice none 0 0, .slice none 0 0, .slice none 0 0, .slice none 0 0, .int .i64 0, .slice none 0 0, .slice none 0 0, .slice none 0 0, .bool false, .int .u32 0, .int .u32 0, .int .u32 0, .int .u32 0, .slice none 0 0] 41) := ⟨_, rfl⟩
  obtain ⟨v4, hv4⟩ : ∃ v4, v4 = v3.alloc (.cells #[Value.int .u8 35, .int .u64 (o.n : Int), .int .u64 0, .slice none 0 0] 59) := ⟨_, rfl⟩
  have e0 : w.heap.size = w.heap.size := rfl
  have e1 : v1.heap.size = w.heap.size + 1 := by rw [hv1]; simp [e0]
  have s1 : Step (fun _ => False) w v1 := by rw [hv1]; exact Step.alloc Step.refl _
  have e2 : v2.heap.size = w.heap.size + 1 + 1 := by rw [hv2]; simp [e1]
  have s2 : Step (fun _ => False) v1 v2 := by rw [hv2]; exact Step.alloc Step.refl _
  have e3 : v3.heap.size = w.heap.size + 1 + 1 + 1 := by rw [hv3]; simp [e2]
  have s3 : Step (fun _ => False) v2 v3 := by rw [hv3]; exact Step.alloc Step.refl _
  have e4 : v4.heap.size = w.heap.size + 1 + 1 + 1 + 1 := by rw [hv4]; simp [e3]
  have s4 : Step (fun _ => False) v3 v4 := by rw [hv4]; exact Step.alloc Step.refl _
  have HB : Hid (Blk v4 (w.heap.size) 41 (mdC am m)) := by
    have h1 : Blk v1 w.heap.size 41 (mdC am m) := by rw [hv1]; exact Blk.new w _ _
    exact (((h1.step s2 id).step s3 id).step s4 id)
  have HX : Hid (Blk v4 (w.heap.size + 1) 52 #[.int .i64 10, .string (str o.s), .int .u32 (o.n : Int), .int .u32 (o.n2 : Int), .string (str o.t.p), .string (str o.t.r), .string (str o.lo), .slice o.A o.bo.length o.c, .int .u8 (o.vt : Int), .int .u64 (o.vn : Int), .bool o.mu]) := by
    have h1 : Blk v2 v1.heap.size 52 #[.int .i64 10, .string (str o.s), .int .u32 (o.n : Int), .int .u32 (o.n2 : Int), .string (str o.t.p), .string (str o.t.r), .string (str o.lo), .slice o.A o.bo.length o.c, .int .u8 (o.vt : Int), .int .u64 (o.vn : Int), .bool o.mu] := by rw [hv2]; exact Blk.new v1 _ _
    rw [e1] at h1
    exact ((h1.step s3 id).step s4 id)
  have HZ : Hid (Blk v4 (w.heap.size + 1 + 1) 41 #[.slice none 0 0, .slice none 0 0, .slice none 0 0, .slice none 0 0, .slice none 0 0, .slice none 0 0, .slice none 0 0, .int .i64 0, .slice none 0 0, .slice none 0 0, .slice none 0 0, .bool false, .int .u32 0, .int .u32 0, .int .u32 0, .int .u32 0, .slice none 0 0]) := by
    have h1 : Blk v3 v2.heap.size 41 #[.slice none 0 0, .slice none 0 0, .slice none 0 0, .slice none 0 0, .slice none 0 0, .slice none 0 0, .slice none 0 0, .int .i64 0, .slice none 0 0, .slice none 0 0, .slice none 0 0, .bool false, .int .u32 0, .int .u32 0, .int .u32 0, .int .u32 0, .slice none 0 0] := by rw [hv3]; exact Blk.new v2 _ _
    rw [e2] at h1
    exact (h1.step s4 id)
  have HG : Hid (Blk v4 (w.heap.size + 1 + 1 + 1) 59 #[Value.int .u8 35, .int .u64 (o.n : Int), .int .u64 0, .slice none 0 0]) := by
    have h1 : Blk v4 v3.heap.size 59 #[Value.int .u8 35, .int .u64 (o.n : Int), .int .u64 0, .slice none 0 0] := by rw [hv4]; exact Blk.new v3 _ _
    rw [e3] at h1
    exact h1
  have HS : Hid (Step (fun _ => False) w v4) := s1 |>.trans s2 |>.trans s3 |>.trans s4
  have HE1 := Lib.hid hv1
  have HE2 := Lib.hid hv2
  have HE3 := Lib.hid hv3
  have HE4 := Lib.hid hv4
  clear e1 s1 hv1 e2 s2 hv2 e3 s3 hv3 e4 s4 hv4 e0
  have x0 := HX.out.cell 0
  have x1 := HX.out.cell 1
  have x2 := HX.out.cell 2
  have x3 := HX.out.cell 3
  simp at x0 x1 x2 x3
  rw [HE4.out, HE3.out, HE2.out, HE1.out] at x0 x1 x2 x3
  have hszv : v4.heap.size = w.heap.size + 1 + 1 + 1 + 1 := by rw [HE4.out, HE3.out, HE2.out, HE1.out]; simp
  have hB3 : B ≤ v4.heap.size := by omega
  have HM3 := Lib.hid (h.mkr.quiet HS.out)
  have hin : ∀ k, ftA X a k → k < w.heap.size := h.mkr.in_
  have hkm := give_ok v4 B X a s tk vr HM3.out hB3 o.s k8 o.n (by omega)
  have HKM := Lib.hid hkm
  have HIN := Lib.hid hin
  obtain ⟨MA, hMA⟩ : ∃ MA, MA = mdC am m := ⟨_, rfl⟩
  rw [← hMA] at HE1 HB ⊢
  have HMA := Lib.hid hMA
  have H17 : Hid (MA.size = 17) := by rw [Hid, hMA]; rfl
  have H1 : Hid (MA.all (·.oneCell') = true) := by rw [Hid, hMA]; exact mdC_one am m
  clear hMA
  clear h hkm hin ho hl' 
  go_enter Try.func9, Try.ntmps9
  go_wp2_with (first | (refine ld_mod rfl _ rfl _ rfl MA (by first | exact HB.out | (rw [← HE1.out, ← HE2.out, ← HE3.out, ← HE4.out]; exact HB.out)) H17.out ?_))
  rw [← HE1.out]
  rw [← HE2.out]
  rw [← HE3.out]
  rw [← HE4.out]
  clear x0 x1 x2 x3
  refine HKM.out.mono ?_
  rintro e w4 ⟨rfl, A1, c1, hm, hu⟩
  have HB4 := Lib.hid (HB.out.step hu.1 (fun e => Nat.lt_irrefl _ (HIN.out _ e)))
  have HX4 := Lib.hid (HX.out.step hu.1 (fun e => by have := HIN.out _ e; omega))
  have HZ4 := Lib.hid (HZ.out.step hu.1 (fun e => by have := HIN.out _ e; omega))
  have HG4 := Lib.hid (HG.out.step hu.1 (fun e => by have := HIN.out _ e; omega))
  have HU := Lib.hid hu
  have HMK := Lib.hid hm
  have HRF4 := Lib.hid (HH.out.rf4 HS.out hu)
  have HS4 : Hid (Step (fun k => ftA X a k) w w4) := (HS.out.mono (fun _ _ h => h.elim)).trans hu.1
  have hsz4 := hu.1.size
  have hin4 : Hid (∀ k, ftA X { a with A6 := A1, c6 := c1 } k → k < w4.heap.size) := hm.in_
  clear hu hm
  have y0 := HX4.out.cell 0
  have y1 := HX4.out.cell 1
  have y2 := HX4.out.cell 2
  have y3 := HX4.out.cell 3
  simp at y0 y1 y2 y3
  have c0 := HB4.out.cell 6
  rw [HMA.out] at c0
  simp [mdC] at c0
  obtain ⟨N, hN⟩ : ∃ N, N = m.es.length := ⟨_, rfl⟩
  have HN := Lib.hid hN
  rw [← hN] at c0 k6
  clear hN
  have dz := cls_cell (F := fun _ => False) c0 id
  have dyy1 := cls_cell (F := fun _ => False) y1 id
  have dyy2 := cls_cell (F := fun _ => False) y2 id
  have dyy3 := cls_cell (F := fun _ => False) y3 id
  have hsrc := HRF4.out.r6
  rw [← HN.out] at hsrc
  have hone1 := exs_one m.es
  have hone2 : ∀ u ∈ #[Value.string (str o.s), .int .u8 (k8 : Int), .int .u32 (o.n : Int)].toList, u.oneCell' = true := by simp [Value.oneCell']
  have hm1 : 0 + N ≤ maxLen := by unfold maxLen; omega
  have hm2 : N + 1 ≤ maxLen := by unfold maxLen; omega
  go_wp2_with fail
  clear c0 y1 y2 y3
  have hz1 : (w4.alloc (.cells #[Value.string (str o.s), .int .u8 (k8 : Int), .int .u32 (o.n : Int)] 76)).heap.size = w4.heap.size + 1 := by simp
  have hz0 : (w4.alloc (.cells #[] 76)).heap.size = w4.heap.size + 1 := by simp
  have hfA : (w4.alloc (.cells #[] 76)).drew.ownsRow w4.heap.size 76 3 (.slice (some ⟨w4.heap.size, 0, none⟩) 0 0) 0 [] := own_drew (own_fresh 3 (Nat.le_refl _))
  have hrA := hsrc.step (F := fun _ => False) (Step.drew (Step.alloc Step.refl (.cells #[] 76))) (fun _ _ => id)
  have hfB : ((w4.alloc (.cells #[] 76)).alloc (.cells #[Value.string (str o.s), .int .u8 (k8 : Int), .int .u32 (o.n : Int)] 76)).drew.ownsRow w4.heap.size 76 3 (.slice (some ⟨w4.heap.size, 0, none⟩) 0 0) 0 [] := own_drew ((own_fresh 3 (Nat.le_refl _)).alloc _)
  have hrB := hsrc.step (F := fun _ => False) (Step.drew (Step.alloc (Step.alloc Step.refl (.cells #[] 76)) (.cells #[Value.string (str o.s), .int .u8 (k8 : Int), .int .u32 (o.n : Int)] 76))) (fun _ _ => id)
  have hxB := (reads_new (w4.alloc (.cells #[] 76)) #[Value.string (str o.s), .int .u8 (k8 : Int), .int .u32 (o.n : Int)] 76 3 1 rfl).drew
  have hfC : ((w4.alloc (.cells #[Value.string (str o.s), .int .u8 (k8 : Int), .int .u32 (o.n : Int)] 76)).alloc (.cells #[] 76)).drew.ownsRow w4.heap.size 76 3 (.slice (some ⟨w4.heap.size + 1, 0, none⟩) 0 0) 0 [] := by
    have := own_drew (own_fresh (w := w4.alloc (.cells #[Value.string (str o.s), .int .u8 (k8 : Int), .int .u32 (o.n : Int)] 76)) (e := 76) (base := w4.heap.size) 3 (by omega))
    rwa [hz1] at this
  have hrC := hsrc.step (F := fun _ => False) (Step.drew (Step.alloc (Step.alloc Step.refl (.cells #[Value.string (str o.s), .int .u8 (k8 : Int), .int .u32 (o.n : Int)] 76)) (.cells #[] 76))) (fun _ _ => id)
  have hxC := ((reads_new w4 #[Value.string (str o.s), .int .u8 (k8 : Int), .int .u32 (o.n : Int)] 76 3 1 rfl).step (F := fun _ => False) (Step.alloc Step.refl (.cells #[] 76)) (fun _ _ => id)).drew
  rw [hz0] at hxB
  refine Mxt.wp_region_tree [0, 3, 12, 13, 15] [0, 3, 12, 13] (.fork (.op 0 (.reads [1, 2] (.fork (.op 3 (.reads [4, 5, 6, 7, 8, 9, 10, 11] (.op 12 (.op 13 (.reads [14] (.op 15 .leaf)))))) (.reads [4, 5, 6, 7, 8, 9, 10, 11] (.op 12 (.op 3 (.op 13 (.reads [14] (.op 15 .leaf))))))))) (.reads [4, 5, 6, 7, 8, 9, 10, 11] (.op 12 (.reads [1, 2] (.op 0 (.op 3 (.op 13 (.reads [14] (.op 15 .leaf))))))))) (Step (fun _ => False) w4) (by kernel_rfl) (by kernel_rfl) Step.refl.drew (fun hcls => ?_)
  refine Mxt.wpTL_fork ?_ ?_
  · refine Mxt.wpTL_op (by rfl) (fun K hK => ?_)
    go_simp
    refine hK _ _ (fun hlt => Mix.cl (Step.drew (Step.alloc Step.refl _))) ?_
    clear hK K
    refine Mxt.wpTL_reads ?_
    simp only [List.flatMap_cons, List.flatMap_nil, List.getElem?_cons_succ, List.getElem?_cons_zero, Option.toList_some, List.cons_append, List.nil_append]
    repeat (go_big_quiet_step (fail))
    refine wpQuiet_nil ?_
    refine Mxt.wpTL_fork ?_ ?_
    · refine Mxt.wpTL_op (by rfl) (fun K hK => ?_)
      refine step_append_new (w0 := w4) (by rfl) _ _ (by rfl) E_exs (Step.drew (Step.alloc Step.refl _)) (by rfl) (hfA) (by rfl) (hrA) hone1 hm1 (by omega) ?_
      intro D1 c1 W1 hown1 hS1 hgrow1 hat1
      refine hK _ _ (fun hlt => Mix.cl hS1) ?_
      clear hK K
      simp only [Act.put, List.setIfInBounds_toArray, List.set_cons_succ, List.set_cons_zero, Nat.zero_add]
      simp only [Nat.zero_add] at hown1
      refine Mxt.wpTL_reads ?_
      simp only [List.flatMap_cons, List.flatMap_nil, List.getElem?_cons_succ, List.getElem?_cons_zero, Option.toList_some, List.cons_append, List.nil_append]
      repeat (go_big_quiet_step (fail))
      refine wpQuiet_nil ?_
      refine Mxt.wpTL_op (by rfl) (fun K hK => ?_)
      go_simp
      refine hK _ _ (fun hlt => Mix.cl (Step.alloc hS1 _)) ?_
      clear hK K
      refine Mxt.wpTL_op (by rfl) (fun K hK => ?_)
      refine step_append_new (w0 := w4) (by rfl) _ _ (by rfl) E_exs (Step.alloc hS1 _) (by rfl) (hown1.alloc _) (by rfl) (reads_new W1 #[Value.string (str o.s), .int .u8 (k8 : Int), .int .u32 (o.n : Int)] 76 3 1 rfl) hone2 hm2 (by omega) ?_
      intro D2 c2 W2 hown2 hS2 hgrow2 hat2
      refine hK _ _ (fun hlt => Mix.cl hS2) ?_
      clear hK K
      simp only [Act.put, List.setIfInBounds_toArray, List.set_cons_succ, List.set_cons_zero, Nat.zero_add]
      refine Mxt.wpTL_reads ?_
      simp only [List.flatMap_cons, List.flatMap_nil, List.getElem?_cons_succ, List.getElem?_cons_zero, Option.toList_some, List.cons_append, List.nil_append]
      repeat (go_big_quiet_step (fail))
      refine wpQuiet_nil ?_
      have hB2 := HB4.out.step hS2 id
      have z0 := hB2.frozen 6
      have c0 := hB2.cell 6
      rw [HMA.out] at c0
      simp [mdC] at c0
      refine Mxt.wpTL_op (by rfl) (fun K hK => ?_)
      go_simp
      refine hK _ _ (fun hlt => absurd hlt (by decide)) ?_
      clear hK K z0 c0
      refine Mxt.wpTL_leaf ?_
      as_aux_lemma =>
      obtain ⟨W3, hW3⟩ : ∃ W3, W3 = W2.setCell ⟨w.heap.size, 6, none⟩ (.slice D2 (N + 1) c2) := ⟨_, rfl⟩
      obtain ⟨MB, hMB⟩ : ∃ MB, MB = mdC { am with A6 := D2, c6 := c2 } { m with es := m.es ++ [(⟨o.s, k8, o.n⟩ : Ex)] } := ⟨_, rfl⟩
      have HMB := Lib.hid hMB
      have H17b : Hid (MB.size = 17) := by rw [Hid, hMB]; rfl
      have H1b : Hid (MB.all (·.oneCell') = true) := by rw [Hid, hMB]; exact mdC_one _ _
      have HB3 : Hid (Blk W3 (w.heap.size) 41 MB) := by
        have := hB2.set_ 6 (.slice D2 (N + 1) c2)
        rw [← hW3, HMA.out] at this
        simp [mdC] at this
        rw [hMB]
        simp [mdC]
        rw [← HN.out]
        exact this
      have HZ3 : Hid (Blk W3 (w.heap.size + 1 + 1) 41 #[.slice none 0 0, .slice none 0 0, .slice none 0 0, .slice none 0 0, .slice none 0 0, .slice none 0 0, .slice none 0 0, .int .i64 0, .slice none 0 0, .slice none 0 0, .slice none 0 0, .bool false, .int .u32 0, .int .u32 0, .int .u32 0, .int .u32 0, .slice none 0 0]) := by rw [hW3]; exact (HZ4.out.step hS2 id).far (by show (w.heap.size + 1 + 1 : Nat) ≠ w.heap.size; omega) _
      have HO3 : Hid (W3.ownsRow w4.heap.size 76 3 (.slice D2 (N + 1) c2) (N + 1) (exs (m.es ++ [(⟨o.s, k8, o.n⟩ : Ex)]))) := by
        rw [hW3, exs_last]
        exact own_set hown2 (otag hown2 hB2 (by decide) |> fun h e => h (by rwa [ownBlock_slice] at e)) _
      skip
      have HSV : Hid (Step (fun k => k = w.heap.size) w4 W3) := by rw [hW3]; exact Step.setCell (F := fun k => k = w.heap.size) (hS2.mono (fun _ _ h => h.elim)) (.inl rfl) _
      have c0 := HB3.out.cell 6
      rw [hMB] at c0
      simp [mdC] at c0
      rw [← hW3]
      clear hW3 hB2 hown1 hown2 hS1 hS2 hgrow1 hgrow2 hat1 hat2 hMB
      clear c0
      go_wp2_with (first | (refine ld_mod rfl _ rfl _ rfl MB HB3.out H17b.out ?_) | (refine st_mod rfl _ _ rfl rfl (w.heap.size + 1 + 1) rfl MB rfl HZ3.out rfl H17b.out H1b.out ?_))
      refine bodyPost_ret (v := .tuple #[.agg MB, .bool true]) (res_mod2 Try.results9 (w.heap.size + 1 + 1) rfl rfl (Blk.row HZ3.out MB) H17b.out) rfl ?_
      have h46 : Step (fun k => w.heap.size ≤ k ∧ k < v4.heap.size) w4 (W3.setRow (w.heap.size + 1 + 1) MB) := (HSV.out.mono (F' := fun k => w.heap.size ≤ k ∧ k < v4.heap.size) (fun k _ e => by omega)).trans (Step.setRow (F := fun k => w.heap.size ≤ k ∧ k < v4.heap.size) Step.refl (.inl (by omega)) MB)
      have ho' := own_step HO3.out (Step.setRow (F := fun k => k = w.heap.size + 1 + 1) Step.refl (.inl rfl) MB) (fun k hk e => by subst e; exact own_tag HO3.out HZ3.out (by decide) hk)
      have hr6 := ((HRF4.out.step h46 (fun k hk e => by have := hk.2; omega)).mono (S' := fun k => Old T w k ∨ (v4.heap.size ≤ k ∧ ¬ ftA X { a with A6 := A1, c6 := c1 } k)) (fun _ _ => .inl)).set6 (D := D2) (c' := c2) (l := m.es ++ [(⟨o.s, k8, o.n⟩ : Ex)]) (by
        rw [List.length_append, ← HN.out]
        exact (Reads.of_own ho').mono fun k _ hk => .inr ⟨by have := own_ge ho' k hk; omega, fun e => by have h1 := hin4.out k e; have h2 := own_ge ho' k hk; omega⟩)
      have hfin := HH.out.fin2 HS.out HMK.out HU.out hr6 h46 (by exact Inn.mono (Inn.same (HH.out.inn4 HS.out HU.out) rfl rfl) (fun k _ hk => Or.inl hk)) (by exact Inn.mono (Inn.same ((HH.out.inm4 HS.out HU.out).step h46 (fun k hk e => by have := hk.2; omega)) rfl rfl) (fun k _ hk => Or.inl hk)) (⟨HA.out.q0, HA.out.q1, HA.out.q2, HA.out.q5, by show _ ++ [_] = _ ++ [_]; rw [HA.out.q6], HA.out.q10, HA.out.q16, HA.out.st, HA.out.d1, HA.out.d2, HA.out.d3, HA.out.d4, HA.out.q8, HA.out.q9⟩)
      exact ⟨_, _, _, _, _, _, _, by rw [HMB.out], hfin.1, hfin.2, fun n ⟨h0, h1, h2, h3, h4, h5, h6, h7, h8⟩ => ⟨Nat.le_succ_of_le h0, Nat.le_succ_of_le h1, Nat.le_succ_of_le h2, Nat.le_succ_of_le h3, by show (_ ++ [_]).length ≤ n + 1; rw [List.length_append]; exact Nat.succ_le_succ h4, Nat.le_succ_of_le h5, Nat.le_succ_of_le h6, Nat.le_succ_of_le h7, Nat.le_succ_of_le h8⟩⟩
    · refine Mxt.wpTL_reads ?_
      simp only [List.flatMap_cons, List.flatMap_nil, List.getElem?_cons_succ, List.getElem?_cons_zero, Option.toList_some, List.cons_append, List.nil_append]
      repeat (go_big_quiet_step (fail))
      refine wpQuiet_nil ?_
      refine Mxt.wpTL_op (by rfl) (fun K hK => ?_)
      go_simp
      refine hK _ _ (fun hlt => Mix.cl (Step.drew (Step.alloc (Step.alloc Step.refl _) _))) ?_
      clear hK K
      refine Mxt.wpTL_op (by rfl) (fun K hK => ?_)
      refine step_append_new (w0 := w4) (by rfl) _ _ (by rfl) E_exs (Step.drew (Step.alloc (Step.alloc Step.refl _) _)) (by rfl) (hfB) (by rfl) (hrB) hone1 hm1 (by omega) ?_
      intro D1 c1 W1 hown1 hS1 hgrow1 hat1
      refine hK _ _ (fun hlt => Mix.cl hS1) ?_
      clear hK K
      simp only [Act.put, List.setIfInBounds_toArray, List.set_cons_succ, List.set_cons_zero, Nat.zero_add]
      simp only [Nat.zero_add] at hown1
      have hx1 := hxB.step (Step.grown (F := fun k => blkOf (some (⟨w4.heap.size, 0, none⟩ : Addr)) = some k) Step.refl hgrow1 (fun k hk => .inl hk)) (fun k hk e => by simp [blkOf] at e; omega)
      refine Mxt.wpTL_op (by rfl) (fun K hK => ?_)
      refine step_append_new (w0 := w4) (by rfl) _ _ (by rfl) E_exs (hS1) (by rfl) (hown1) (by rfl) (hx1) hone2 hm2 (by omega) ?_
      intro D2 c2 W2 hown2 hS2 hgrow2 hat2
      refine hK _ _ (fun hlt => Mix.cl hS2) ?_
      clear hK K
      simp only [Act.put, List.setIfInBounds_toArray, List.set_cons_succ, List.set_cons_zero, Nat.zero_add]
      refine Mxt.wpTL_reads ?_
      simp only [List.flatMap_cons, List.flatMap_nil, List.getElem?_cons_succ, List.getElem?_cons_zero, Option.toList_some, List.cons_append, List.nil_append]
      repeat (go_big_quiet_step (fail))
      refine wpQuiet_nil ?_
      have hB2 := HB4.out.step hS2 id
      have z0 := hB2.frozen 6
      have c0 := hB2.cell 6
      rw [HMA.out] at c0
      simp [mdC] at c0
      refine Mxt.wpTL_op (by rfl) (fun K hK => ?_)
      go_simp
      refine hK _ _ (fun hlt => absurd hlt (by decide)) ?_
      clear hK K z0 c0
      refine Mxt.wpTL_leaf ?_
      as_aux_lemma =>
      obtain ⟨W3, hW3⟩ : ∃ W3, W3 = W2.setCell ⟨w.heap.size, 6, none⟩ (.slice D2 (N + 1) c2) := ⟨_, rfl⟩
      obtain ⟨MB, hMB⟩ : ∃ MB, MB = mdC { am with A6 := D2, c6 := c2 } { m with es := m.es ++ [(⟨o.s, k8, o.n⟩ : Ex)] } := ⟨_, rfl⟩
      have HMB := Lib.hid hMB
      have H17b : Hid (MB.size = 17) := by rw [Hid, hMB]; rfl
      have H1b : Hid (MB.all (·.oneCell') = true) := by rw [Hid, hMB]; exact mdC_one _ _
      have HB3 : Hid (Blk W3 (w.heap.size) 41 MB) := by
        have := hB2.set_ 6 (.slice D2 (N + 1) c2)
        rw [← hW3, HMA.out] at this
        simp [mdC] at this
        rw [hMB]
        simp [mdC]
        rw [← HN.out]
        exact this
      have HZ3 : Hid (Blk W3 (w.heap.size + 1 + 1) 41 #[.slice none 0 0, .slice none 0 0, .slice none 0 0, .slice none 0 0, .slice none 0 0, .slice none 0 0, .slice none 0 0, .int .i64 0, .slice none 0 0, .slice none 0 0, .slice none 0 0, .bool false, .int .u32 0, .int .u32 0, .int .u32 0, .int .u32 0, .slice none 0 0]) := by rw [hW3]; exact (HZ4.out.step hS2 id).far (by show (w.heap.size + 1 + 1 : Nat) ≠ w.heap.size; omega) _
      have HO3 : Hid (W3.ownsRow w4.heap.size 76 3 (.slice D2 (N + 1) c2) (N + 1) (exs (m.es ++ [(⟨o.s, k8, o.n⟩ : Ex)]))) := by
        rw [hW3, exs_last]
        exact own_set hown2 (otag hown2 hB2 (by decide) |> fun h e => h (by rwa [ownBlock_slice] at e)) _
      skip
      have HSV : Hid (Step (fun k => k = w.heap.size) w4 W3) := by rw [hW3]; exact Step.setCell (F := fun k => k = w.heap.size) (hS2.mono (fun _ _ h => h.elim)) (.inl rfl) _
      have c0 := HB3.out.cell 6
      rw [hMB] at c0
      simp [mdC] at c0
      rw [← hW3]
      clear hW3 hB2 hown1 hown2 hS1 hS2 hgrow1 hgrow2 hat1 hat2 hMB
      clear c0
      go_wp2_with (first | (refine ld_mod rfl _ rfl _ rfl MB HB3.out H17b.out ?_) | (refine st_mod rfl _ _ rfl rfl (w.heap.size + 1 + 1) rfl MB rfl HZ3.out rfl H17b.out H1b.out ?_))
      refine bodyPost_ret (v := .tuple #[.agg MB, .bool true]) (res_mod2 Try.results9 (w.heap.size + 1 + 1) rfl rfl (Blk.row HZ3.out MB) H17b.out) rfl ?_
      have h46 : Step (fun k => w.heap.size ≤ k ∧ k < v4.heap.size) w4 (W3.setRow (w.heap.size + 1 + 1) MB) := (HSV.out.mono (F' := fun k => w.heap.size ≤ k ∧ k < v4.heap.size) (fun k _ e => by omega)).trans (Step.setRow (F := fun k => w.heap.size ≤ k ∧ k < v4.heap.size) Step.refl (.inl (by omega)) MB)
      have ho' := own_step HO3.out (Step.setRow (F := fun k => k = w.heap.size + 1 + 1) Step.refl (.inl rfl) MB) (fun k hk e => by subst e; exact own_tag HO3.out HZ3.out (by decide) hk)
      have hr6 := ((HRF4.out.step h46 (fun k hk e => by have := hk.2; omega)).mono (S' := fun k => Old T w k ∨ (v4.heap.size ≤ k ∧ ¬ ftA X { a with A6 := A1, c6 := c1 } k)) (fun _ _ => .inl)).set6 (D := D2) (c' := c2) (l := m.es ++ [(⟨o.s, k8, o.n⟩ : Ex)]) (by
        rw [List.length_append, ← HN.out]
        exact (Reads.of_own ho').mono fun k _ hk => .inr ⟨by have := own_ge ho' k hk; omega, fun e => by have h1 := hin4.out k e; have h2 := own_ge ho' k hk; omega⟩)
      have hfin := HH.out.fin2 HS.out HMK.out HU.out hr6 h46 (by exact Inn.mono (Inn.same (HH.out.inn4 HS.out HU.out) rfl rfl) (fun k _ hk => Or.inl hk)) (by exact Inn.mono (Inn.same ((HH.out.inm4 HS.out HU.out).step h46 (fun k hk e => by have := hk.2; omega)) rfl rfl) (fun k _ hk => Or.inl hk)) (⟨HA.out.q0, HA.out.q1, HA.out.q2, HA.out.q5, by show _ ++ [_] = _ ++ [_]; rw [HA.out.q6], HA.out.q10, HA.out.q16, HA.out.st, HA.out.d1, HA.out.d2, HA.out.d3, HA.out.d4, HA.out.q8, HA.out.q9⟩)
      exact ⟨_, _, _, _, _, _, _, by rw [HMB.out], hfin.1, hfin.2, fun n ⟨h0, h1, h2, h3, h4, h5, h6, h7, h8⟩ => ⟨Nat.le_succ_of_le h0, Nat.le_succ_of_le h1, Nat.le_succ_of_le h2, Nat.le_succ_of_le h3, by show (_ ++ [_]).length ≤ n + 1; rw [List.length_append]; exact Nat.succ_le_succ h4, Nat.le_succ_of_le h5, Nat.le_succ_of_le h6, Nat.le_succ_of_le h7, Nat.le_succ_of_le h8⟩⟩
  · refine Mxt.wpTL_reads ?_
    simp only [List.flatMap_cons, List.flatMap_nil, List.getElem?_cons_succ, List.getElem?_cons_zero, Option.toList_some, List.cons_append, List.nil_append]
    repeat (go_big_quiet_step (fail))
    refine wpQuiet_nil ?_
    refine Mxt.wpTL_op (by rfl) (fun K hK => ?_)
    go_simp
    refine hK _ _ (fun hlt => Mix.cl (Step.drew (Step.alloc Step.refl _))) ?_
    clear hK K
    refine Mxt.wpTL_reads ?_
    simp only [List.flatMap_cons, List.flatMap_nil, List.getElem?_cons_succ, List.getElem?_cons_zero, Option.toList_some, List.cons_append, List.nil_append]
    repeat (go_big_quiet_step (fail))
    refine wpQuiet_nil ?_
    refine Mxt.wpTL_op (by rfl) (fun K hK => ?_)
    go_simp
    refine hK _ _ (fun hlt => Mix.cl (Step.drew (Step.alloc (Step.alloc Step.refl _) _))) ?_
    clear hK K
    refine Mxt.wpTL_op (by rfl) (fun K hK => ?_)
    refine step_append_new (w0 := w4) (by rfl) _ _ (by rfl) E_exs (Step.drew (Step.alloc (Step.alloc Step.refl _) _)) (by rfl) (hfC) (by rfl) (hrC) hone1 hm1 (by omega) ?_
    intro D1 c1 W1 hown1 hS1 hgrow1 hat1
    refine hK _ _ (fun hlt => Mix.cl hS1) ?_
    clear hK K
    simp only [Act.put, List.setIfInBounds_toArray, List.set_cons_succ, List.set_cons_zero, Nat.zero_add]
    simp only [Nat.zero_add] at hown1
    have hx1 := hxC.step (Step.grown (F := fun k => blkOf (some (⟨w4.heap.size + 1, 0, none⟩ : Addr)) = some k) Step.refl hgrow1 (fun k hk => .inl hk)) (fun k hk e => by simp [blkOf] at e; omega)
    refine Mxt.wpTL_op (by rfl) (fun K hK => ?_)
    refine step_append_new (w0 := w4) (by rfl) _ _ (by rfl) E_exs (hS1) (by rfl) (hown1) (by rfl) (hx1) hone2 hm2 (by omega) ?_
    intro D2 c2 W2 hown2 hS2 hgrow2 hat2
    refine hK _ _ (fun hlt => Mix.cl hS2) ?_
    clear hK K
    simp only [Act.put, List.setIfInBounds_toArray, List.set_cons_succ, List.set_cons_zero, Nat.zero_add]
    refine Mxt.wpTL_reads ?_
    simp only [List.flatMap_cons, List.flatMap_nil, List.getElem?_cons_succ, List.getElem?_cons_zero, Option.toList_some, List.cons_append, List.nil_append]
    repeat (go_big_quiet_step (fail))
    refine wpQuiet_nil ?_
    have hB2 := HB4.out.step hS2 id
    have z0 := hB2.frozen 6
    have c0 := hB2.cell 6
    rw [HMA.out] at c0
    simp [mdC] at c0
    refine Mxt.wpTL_op (by rfl) (fun K hK => ?_)
    go_simp
    refine hK _ _ (fun hlt => absurd hlt (by decide)) ?_
    clear hK K z0 c0
    refine Mxt.wpTL_leaf ?_
    as_aux_lemma =>
    obtain ⟨W3, hW3⟩ : ∃ W3, W3 = W2.setCell ⟨w.heap.size, 6, none⟩ (.slice D2 (N + 1) c2) := ⟨_, rfl⟩
    obtain ⟨MB, hMB⟩ : ∃ MB, MB = mdC { am with A6 := D2, c6 := c2 } { m with es := m.es ++ [(⟨o.s, k8, o.n⟩ : Ex)] } := ⟨_, rfl⟩
    have HMB := Lib.hid hMB
    have H17b : Hid (MB.size = 17) := by rw [Hid, hMB]; rfl
    have H1b : Hid (MB.all (·.oneCell') = true) := by rw [Hid, hMB]; exact mdC_one _ _
    have HB3 : Hid (Blk W3 (w.heap.size) 41 MB) := by
      have := hB2.set_ 6 (.slice D2 (N + 1) c2)
      rw [← hW3, HMA.out] at this
      simp [mdC] at this
      rw [hMB]
      simp [mdC]
      rw [← HN.out]
      exact this
    have HZ3 : Hid (Blk W3 (w.heap.size + 1 + 1) 41 #[.slice none 0 0, .slice none 0 0, .slice none 0 0, .slice none 0 0, .slice none 0 0, .slice none 0 0, .slice none 0 0, .int .i64 0, .slice none 0 0, .slice none 0 0, .slice none 0 0, .bool false, .int .u32 0, .int .u32 0, .int .u32 0, .int .u32 0, .slice none 0 0]) := by rw [hW3]; exact (HZ4.out.step hS2 id).far (by show (w.heap.size + 1 + 1 : Nat) ≠ w.heap.size; omega) _
    have HO3 : Hid (W3.ownsRow w4.heap.size 76 3 (.slice D2 (N + 1) c2) (N + 1) (exs (m.es ++ [(⟨o.s, k8, o.n⟩ : Ex)]))) := by
      rw [hW3, exs_last]
      exact own_set hown2 (otag hown2 hB2 (by decide) |> fun h e => h (by rwa [ownBlock_slice] at e)) _
    skip
    have HSV : Hid (Step (fun k => k = w.heap.size) w4 W3) := by rw [hW3]; exact Step.setCell (F := fun k => k = w.heap.size) (hS2.mono (fun _ _ h => h.elim)) (.inl rfl) _
    have c0 := HB3.out.cell 6
    rw [hMB] at c0
    simp [mdC] at c0
    rw [← hW3]
    clear hW3 hB2 hown1 hown2 hS1 hS2 hgrow1 hgrow2 hat1 hat2 hMB
    clear c0
    go_wp2_with (first | (refine ld_mod rfl _ rfl _ rfl MB HB3.out H17b.out ?_) | (refine st_mod rfl _ _ rfl rfl (w.heap.size + 1 + 1) rfl MB rfl HZ3.out rfl H17b.out H1b.out ?_))
    refine bodyPost_ret (v := .tuple #[.agg MB, .bool true]) (res_mod2 Try.results9 (w.heap.size + 1 + 1) rfl rfl (Blk.row HZ3.out MB) H17b.out) rfl ?_
    have h46 : Step (fun k => w.heap.size ≤ k ∧ k < v4.heap.size) w4 (W3.setRow (w.heap.size + 1 + 1) MB) := (HSV.out.mono (F' := fun k => w.heap.size ≤ k ∧ k < v4.heap.size) (fun k _ e => by omega)).trans (Step.setRow (F := fun k => w.heap.size ≤ k ∧ k < v4.heap.size) Step.refl (.inl (by omega)) MB)
    have ho' := own_step HO3.out (Step.setRow (F := fun k => k = w.heap.size + 1 + 1) Step.refl (.inl rfl) MB) (fun k hk e => by subst e; exact own_tag HO3.out HZ3.out (by decide) hk)
    have hr6 := ((HRF4.out.step h46 (fun k hk e => by have := hk.2; omega)).mono (S' := fun k => Old T w k ∨ (v4.heap.size ≤ k ∧ ¬ ftA X { a with A6 := A1, c6 := c1 } k)) (fun _ _ => .inl)).set6 (D := D2) (c' := c2) (l := m.es ++ [(⟨o.s, k8, o.n⟩ : Ex)]) (by
      rw [List.length_append, ← HN.out]
      exact (Reads.of_own ho').mono fun k _ hk => .inr ⟨by have := own_ge ho' k hk; omega, fun e => by have h1 := hin4.out k e; have h2 := own_ge ho' k hk; omega⟩)
    have hfin := HH.out.fin2 HS.out HMK.out HU.out hr6 h46 (by exact Inn.mono (Inn.same (HH.out.inn4 HS.out HU.out) rfl rfl) (fun k _ hk => Or.inl hk)) (by exact Inn.mono (Inn.same ((HH.out.inm4 HS.out HU.out).step h46 (fun k hk e => by have := hk.2; omega)) rfl rfl) (fun k _ hk => Or.inl hk)) (⟨HA.out.q0, HA.out.q1, HA.out.q2, HA.out.q5, by show _ ++ [_] = _ ++ [_]; rw [HA.out.q6], HA.out.q10, HA.out.q16, HA.out.st, HA.out.d1, HA.out.d2, HA.out.d3, HA.out.d4, HA.out.q8, HA.out.q9⟩)
    exact ⟨_, _, _, _, _, _, _, by rw [HMB.out], hfin.1, hfin.2, fun n ⟨h0, h1, h2, h3, h4, h5, h6, h7, h8⟩ => ⟨Nat.le_succ_of_le h0, Nat.le_succ_of_le h1, Nat.le_succ_of_le h2, Nat.le_succ_of_le h3, by show (_ ++ [_]).length ≤ n + 1; rw [List.length_append]; exact Nat.succ_le_succ h4, Nat.le_succ_of_le h5, Nat.le_succ_of_le h6, Nat.le_succ_of_le h7, Nat.le_succ_of_le h8⟩⟩

set_option maxRecDepth 100000 in
set_option maxHeartbeats 12800000 in
theorem do13 (h : St T w B X a s tk vr am m) (hB : B ≤ w.heap.size) (hl : s.small 900) (o : Opx) (ho : o.ok w (Old T w))  :
    Calls Try.prog 9 #[.pointer (some ⟨X, 0, none⟩), .agg (mdC am m), .agg #[.int .i64 13, .string (str o.s), .int .u32 (o.n : Int), .int .u32 (o.n2 : Int), .string (str o.t.p), .string (str o.t.r), .string (str o.lo), .slice o.A o.bo.length o.c, .int .u8 (o.vt : Int), .int .u64 (o.vn : Int), .bool o.mu]] w (DOut T w B X a s) := by
  have hlm := h.al.small hl
  obtain ⟨l0, l1, l2, l5, l6, l8, l9, l10, l16⟩ := hl
  obtain ⟨k0, k1, k2, k5, k6, k8, k9, k10, k16⟩ := hlm
  have hl' : s.small 1000 := ⟨by omega, by omega, by omega, by omega, by omega, by omega, by omega, by omega, by omega⟩
  have HLS := Lib.hid hl'
  have HA := Lib.hid h.al
  have HH := Lib.hid h
  have HO := Lib.hid ho
  have hn1 := ho.n
  have hn2 := ho.n2
  have hw64 := IntWalk.u64_in (o.n : Int) (by omega)
  obtain ⟨v1, hv1⟩ : ∃ v1, v1 = w.alloc (.cells (mdC am m) 41) := ⟨_, rfl⟩
  obtain ⟨v2, hv2⟩ : ∃ v2, v2 = v1.alloc (.cells #[.int .i64 13, .string (str o.s), .int .u32 (o.n : Int), .int .u32 (o.n2 : Int), .string (str o.t.p), .string (str o.t.r), .string (str o.lo), .slice o.A o.bo.length o.c, .int .u8 (o.vt : Int), .int .u64 (o.vn : Int), .bool o.mu] 52) := ⟨_, rfl⟩
  obtain ⟨v3, hv3⟩ : ∃ v3, v3 = v2.alloc (.cells #[.slice none 0 0, .slice none 0 0, .slice none 0 0, .slice none 0 0, .slice none 0 0, .slice none 0 0, .slice none 0 0, .int .i64 0, .slice none 0 0, .slice none 0 0, .slice none 0 0, .bool false, .int .u32 0, .int .u32 0, .int .u32 0, .int .u32 0, .slice none 0 0] 41) := ⟨_, rfl⟩
  obtain ⟨v4, hv4⟩ : ∃ v4, v4 = v3.alloc (.cells #[Value.int .u8 35, .int .u64 (o.n : Int), .int .u64 0, .slice none 0 0] 59) := ⟨_, rfl⟩
  have e0 : w.heap.size = w.heap.size := rfl
  have e1 : v1.heap.size = w.heap.size + 1 := by rw [hv1]; simp [e0]
  have s1 : Step (fun _ => False) w v1 := by rw [hv1]; exact Step.alloc Step.refl _
  have e2 : v2.heap.size = w.heap.size + 1 + 1 := by rw [hv2]; simp [e1]
  have s2 : Step (fun _ => False) v1 v2 := by rw [hv2]; exact Step.alloc Step.refl _
  have e3 : v3.heap.size = w.heap.size + 1 + 1 + 1 := by rw [hv3]; simp [e2]
  have s3 : Step (fun _ => False) v2 v3 := by rw [hv3]; exact Step.alloc Step.refl _
  have e4 : v4.heap.size = w.heap.size + 1 + 1 + 1 + 1 := by rw [hv4]; simp [e3]
  have s4 : Step (fun _ => False) v3 v4 := by rw [hv4]; exact Step.alloc Step.refl _
  have HB : Hid (Blk v4 (w.heap.size) 41 (mdC am m)) := by
    have h1 : Blk v1 w.heap.size 41 (mdC am m) := by rw [hv1]; exact Blk.new w _ _
    exact (((h1.step s2 id).step s3 id).step s4 id)
  have HX : Hid (Blk v4 (w.heap.size + 1) 52 #[.int .i64 13, .string (str o.s), .int .u32 (o.n : Int), .int .u32 (o.n2 : Int), .string (str o.t.p), .string (str o.t.r), .string (str o.lo), .slice o.A o.bo.length o.c, .int .u8 (o.vt : Int), .int .u64 (o.vn : Int), .bool o.mu]) := by
    have h1 : Blk v2 v1.heap.size 52 #[.int .i64 13, .string (str o.s), .int .u32 (o.n : Int), .int .u32 (o.n2 : Int), .string (str o.t.p), .string (str o.t.r), .string (str o.lo), .slice o.A o.bo.length o.c, .int .u8 (o.vt : Int), .int .u64 (o.vn : Int), .bool o.mu] := by rw [hv2]; exact Blk.new v1 _ _
    rw [e1] at h1
    exact ((h1.step s3 id).step s4 id)
  have HZ : Hid (Blk v4 (w.heap.size + 1 + 1) 41 #[.slice none 0 0, .slice none 0 0, .slice none 0 0, .slice none 0 0, .slice none 0 0, .slice none 0 0, .slice none 0 0, .int .i64 0, .slice none 0 0, .slice none 0 0, .slice none 0 0, .bool false, .int .u32 0, .int .u32 0, .int .u32 0, .int .u32 0, .slice none 0 0]) := by
    have h1 : Blk v3 v2.heap.size 41 #[.slice none 0 0, .slice none 0 0, .slice none 0 0, .slice none 0 0, .slice none 0 0, .slice none 0 0, .slice none 0 0, .int .i64 0, .slice none 0 0, .slice none 0 0, .slice none 0 0, .bool false, .int .u32 0, .int .u32 0, .int .u32 0, .int .u32 0, .slice none 0 0] := by rw [hv3]; exact Blk.new v2 _ _
    rw [e2] at h1
    exact (h1.step s4 id)
  have HG : Hid (Blk v4 (w.heap.size + 1 + 1 + 1) 59 #[Value.int .u8 35, .int .u64 (o.n : Int), .int .u64 0, .slice none 0 0]) := by
    have h1 : Blk v4 v3.heap.size 59 #[Value.int .u8 35, .int .u64 (o.n : Int), .int .u64 0, .slice none 0 0] := by rw [hv4]; exact Blk.new v3 _ _
    rw [e3] at h1
    exact h1
  have HS : Hid (Step (fun _ => False) w v4) := s1 |>.trans s2 |>.trans s3 |>.trans s4
  have HE1 := Lib.hid hv1
  have HE2 := Lib.hid hv2
  have HE3 := Lib.hid hv3
  have HE4 := Lib.hid hv4
  clear e1 s1 hv1 e2 s2 hv2 e3 s3 hv3 e4 s4 hv4 e0
  have x0 := HX.out.cell 0
  have x2 := HX.out.cell 2
  have x1 := HX.out.cell 1
  simp at x0 x2 x1
  rw [HE4.out, HE3.out, HE2.out, HE1.out] at x0 x2 x1
  have hszv : v4.heap.size = w.heap.size + 1 + 1 + 1 + 1 := by rw [HE4.out, HE3.out, HE2.out, HE1.out]; simp
  have hB3 : B ≤ v4.heap.size := by omega
  have HM3 := Lib.hid (h.mkr.quiet HS.out)
  have hin : ∀ k, ftA X a k → k < w.heap.size := h.mkr.in_
  have hkm := bytes_ok v4 B X a s tk vr HM3.out hB3 o.s o.n hn1 (by omega)
  have HKM := Lib.hid hkm
  have HIN := Lib.hid hin
  obtain ⟨MA, hMA⟩ : ∃ MA, MA = mdC am m := ⟨_, rfl⟩
  rw [← hMA] at HE1 HB ⊢
  have HMA := Lib.hid hMA
  have H17 : Hid (MA.size = 17) := by rw [Hid, hMA]; rfl
  have H1 : Hid (MA.all (·.oneCell') = true) := by rw [Hid, hMA]; exact mdC_one am m
  clear hMA
  clear h hkm hin ho hl' 
  go_enter Try.func9, Try.ntmps9
  go_wp2_with (first | (refine ld_mod rfl _ rfl _ rfl MA (by first | exact HB.out | (rw [← HE1.out, ← HE2.out, ← HE3.out, ← HE4.out]; exact HB.out)) H17.out ?_))
  rw [← HE1.out]
  rw [← HE2.out]
  rw [← HE3.out]
  rw [← HE4.out]
  clear x0 x2 x1
  refine HKM.out.mono ?_
  rintro e w4 ⟨rfl, A1, c1, hm, hu⟩
  have HB4 := Lib.hid (HB.out.step hu.1 (fun e => Nat.lt_irrefl _ (HIN.out _ e)))
  have HX4 := Lib.hid (HX.out.step hu.1 (fun e => by have := HIN.out _ e; omega))
  have HZ4 := Lib.hid (HZ.out.step hu.1 (fun e => by have := HIN.out _ e; omega))
  have HG4 := Lib.hid (HG.out.step hu.1 (fun e => by have := HIN.out _ e; omega))
  have HU := Lib.hid hu
  have HMK := Lib.hid hm
  have HRF4 := Lib.hid (HH.out.rf4 HS.out hu)
  have HS4 : Hid (Step (fun k => ftA X a k) w w4) := (HS.out.mono (fun _ _ h => h.elim)).trans hu.1
  have hsz4 := hu.1.size
  have hin4 : Hid (∀ k, ftA X { a with A10 := A1, c10 := c1 } k → k < w4.heap.size) := hm.in_
  clear hu hm
  have y0 := HX4.out.cell 0
  have y2 := HX4.out.cell 2
  have y1 := HX4.out.cell 1
  simp at y0 y2 y1
  have g0 := HG4.out.cell 0
  have g1 := HG4.out.cell 1
  have g2 := HG4.out.cell 2
  have g3 := HG4.out.cell 3
  simp at g0 g1 g2 g3
  have c0 := HB4.out.cell 10
  rw [HMA.out] at c0
  simp [mdC] at c0
  obtain ⟨N, hN⟩ : ∃ N, N = m.ds.length := ⟨_, rfl⟩
  have HN := Lib.hid hN
  rw [← hN] at c0 k10
  clear hN
  have dz := cls_cell (F := fun _ => False) c0 id
  have dyy2 := cls_cell (F := fun _ => False) y2 id
  have dyy1 := cls_cell (F := fun _ => False) y1 id
  have dyg0 := cls_cell (F := fun _ => False) g0 id
  have dyg1 := cls_cell (F := fun _ => False) g1 id
  have dyg2 := cls_cell (F := fun _ => False) g2 id
  have dyg3 := cls_cell (F := fun _ => False) g3 id
  have hsrc := HRF4.out.r10
  rw [← HN.out] at hsrc
  have hone1 := das_one m.ds
  have hone2 : ∀ u ∈ #[Value.int .u8 35, .int .u64 (o.n : Int), .int .u64 0, .slice none 0 0, .string (str o.s)].toList, u.oneCell' = true := by simp [Value.oneCell']
  have hm1 : 0 + N ≤ maxLen := by unfold maxLen; omega
  have hm2 : N + 1 ≤ maxLen := by unfold maxLen; omega
  go_wp2_with fail
  clear c0 y2 y1 g0 g1 g2 g3
  have hz1 : (w4.alloc (.cells #[Value.int .u8 35, .int .u64 (o.n : Int), .int .u64 0, .slice none 0 0, .string (str o.s)] 86)).heap.size = w4.heap.size + 1 := by simp
  have hz0 : (w4.alloc (.cells #[] 86)).heap.size = w4.heap.size + 1 := by simp
  have hfA : (w4.alloc (.cells #[] 86)).drew.ownsRow w4.heap.size 86 5 (.slice (some ⟨w4.heap.size, 0, none⟩) 0 0) 0 [] := own_drew (own_fresh 5 (Nat.le_refl _))
  have hrA := hsrc.step (F := fun _ => False) (Step.drew (Step.alloc Step.refl (.cells #[] 86))) (fun _ _ => id)
  have hfB : ((w4.alloc (.cells #[] 86)).alloc (.cells #[Value.int .u8 35, .int .u64 (o.n : Int), .int .u64 0, .slice none 0 0, .string (str o.s)] 86)).drew.ownsRow w4.heap.size 86 5 (.slice (some ⟨w4.heap.size, 0, none⟩) 0 0) 0 [] := own_drew ((own_fresh 5 (Nat.le_refl _)).alloc _)
  have hrB := hsrc.step (F := fun _ => False) (Step.drew (Step.alloc (Step.alloc Step.refl (.cells #[] 86)) (.cells #[Value.int .u8 35, .int .u64 (o.n : Int), .int .u64 0, .slice none 0 0, .string (str o.s)] 86))) (fun _ _ => id)
  have hxB := (reads_new (w4.alloc (.cells #[] 86)) #[Value.int .u8 35, .int .u64 (o.n : Int), .int .u64 0, .slice none 0 0, .string (str o.s)] 86 5 1 rfl).drew
  have hfC : ((w4.alloc (.cells #[Value.int .u8 35, .int .u64 (o.n : Int), .int .u64 0, .slice none 0 0, .string (str o.s)] 86)).alloc (.cells #[] 86)).drew.ownsRow w4.heap.size 86 5 (.slice (some ⟨w4.heap.size + 1, 0, none⟩) 0 0) 0 [] := by
    have := own_drew (own_fresh (w := w4.alloc (.cells #[Value.int .u8 35, .int .u64 (o.n : Int), .int .u64 0, .slice none 0 0, .string (str o.s)] 86)) (e := 86) (base := w4.heap.size) 5 (by omega))
    rwa [hz1] at this
  have hrC := hsrc.step (F := fun _ => False) (Step.drew (Step.alloc (Step.alloc Step.refl (.cells #[Value.int .u8 35, .int .u64 (o.n : Int), .int .u64 0, .slice none 0 0, .string (str o.s)] 86)) (.cells #[] 86))) (fun _ _ => id)
  have hxC := ((reads_new w4 #[Value.int .u8 35, .int .u64 (o.n : Int), .int .u64 0, .slice none 0 0, .string (str o.s)] 86 5 1 rfl).step (F := fun _ => False) (Step.alloc Step.refl (.cells #[] 86)) (fun _ _ => id)).drew
  rw [hz0] at hxB
  refine Mxt.wp_region_tree [0, 3, 8, 9, 11] [0, 3, 8, 9] (.fork (.op 0 (.reads [1, 2] (.fork (.op 3 (.reads [4, 5, 6, 7] (.op 8 (.op 9 (.reads [10] (.op 11 .leaf)))))) (.reads [4, 5, 6, 7] (.op 8 (.op 3 (.op 9 (.reads [10] (.op 11 .leaf))))))))) (.reads [4, 5, 6, 7] (.op 8 (.reads [1, 2] (.op 0 (.op 3 (.op 9 (.reads [10] (.op 11 .leaf))))))))) (Step (fun _ => False) w4) (by kernel_rfl) (by kernel_rfl) Step.refl.drew (fun hcls => ?_)
  refine Mxt.wpTL_fork ?_ ?_
  · refine Mxt.wpTL_op (by rfl) (fun K hK => ?_)
    go_simp
    refine hK _ _ (fun hlt => Mix.cl (Step.drew (Step.alloc Step.refl _))) ?_
    clear hK K
    refine Mxt.wpTL_reads ?_
    simp only [List.flatMap_cons, List.flatMap_nil, List.getElem?_cons_succ, List.getElem?_cons_zero, Option.toList_some, List.cons_append, List.nil_append]
    repeat (go_big_quiet_step (fail))
    refine wpQuiet_nil ?_
    refine Mxt.wpTL_fork ?_ ?_
    · refine Mxt.wpTL_op (by rfl) (fun K hK => ?_)
      refine step_append_new (w0 := w4) (by rfl) _ _ (by rfl) E_das (Step.drew (Step.alloc Step.refl _)) (by rfl) (hfA) (by rfl) (hrA) hone1 hm1 (by omega) ?_
      intro D1 c1 W1 hown1 hS1 hgrow1 hat1
      refine hK _ _ (fun hlt => Mix.cl hS1) ?_
      clear hK K
      simp only [Act.put, List.setIfInBounds_toArray, List.set_cons_succ, List.set_cons_zero, Nat.zero_add]
      simp only [Nat.zero_add] at hown1
      refine Mxt.wpTL_reads ?_
      simp only [List.flatMap_cons, List.flatMap_nil, List.getElem?_cons_succ, List.getElem?_cons_zero, Option.toList_some, List.cons_append, List.nil_append]
      repeat (go_big_quiet_step (fail))
      refine wpQuiet_nil ?_
      refine Mxt.wpTL_op (by rfl) (fun K hK => ?_)
      go_simp
      refine hK _ _ (fun hlt => Mix.cl (Step.alloc hS1 _)) ?_
      clear hK K
      refine Mxt.wpTL_op (by rfl) (fun K hK => ?_)
      refine step_append_new (w0 := w4) (by rfl) _ _ (by rfl) E_das (Step.alloc hS1 _) (by rfl) (hown1.alloc _) (by rfl) (reads_new W1 #[Value.int .u8 35, .int .u64 (o.n : Int), .int .u64 0, .slice none 0 0, .string (str o.s)] 86 5 1 rfl) hone2 hm2 (by omega) ?_
      intro D2 c2 W2 hown2 hS2 hgrow2 hat2
      refine hK _ _ (fun hlt => Mix.cl hS2) ?_
      clear hK K
      simp only [Act.put, List.setIfInBounds_toArray, List.set_cons_succ, List.set_cons_zero, Nat.zero_add]
      refine Mxt.wpTL_reads ?_
      simp only [List.flatMap_cons, List.flatMap_nil, List.getElem?_cons_succ, List.getElem?_cons_zero, Option.toList_some, List.cons_append, List.nil_append]
      repeat (go_big_quiet_step (fail))
      refine wpQuiet_nil ?_
      have hB2 := HB4.out.step hS2 id
      have z0 := hB2.frozen 10
      have c0 := hB2.cell 10
      rw [HMA.out] at c0
      simp [mdC] at c0
      refine Mxt.wpTL_op (by rfl) (fun K hK => ?_)
      go_simp
      refine hK _ _ (fun hlt => absurd hlt (by decide)) ?_
      clear hK K z0 c0
      refine Mxt.wpTL_leaf ?_
      as_aux_lemma =>
      obtain ⟨W3, hW3⟩ : ∃ W3, W3 = W2.setCell ⟨w.heap.size, 10, none⟩ (.slice D2 (N + 1) c2) := ⟨_, rfl⟩
      obtain ⟨MB, hMB⟩ : ∃ MB, MB = mdC { am with A10 := D2, c10 := c2 } { m with ds := m.ds ++ [(⟨o.n, o.s⟩ : Da)] } := ⟨_, rfl⟩
      have HMB := Lib.hid hMB
      have H17b : Hid (MB.size = 17) := by rw [Hid, hMB]; rfl
      have H1b : Hid (MB.all (·.oneCell') = true) := by rw [Hid, hMB]; exact mdC_one _ _
      have HB3 : Hid (Blk W3 (w.heap.size) 41 MB) := by
        have := hB2.set_ 10 (.slice D2 (N + 1) c2)
        rw [← hW3, HMA.out] at this
        simp [mdC] at this
        rw [hMB]
        simp [mdC]
        rw [← HN.out]
        exact this
      have HZ3 : Hid (Blk W3 (w.heap.size + 1 + 1) 41 #[.slice none 0 0, .slice none 0 0, .slice none 0 0, .slice none 0 0, .slice none 0 0, .slice none 0 0, .slice none 0 0, .int .i64 0, .slice none 0 0, .slice none 0 0, .slice none 0 0, .bool false, .int .u32 0, .int .u32 0, .int .u32 0, .int .u32 0, .slice none 0 0]) := by rw [hW3]; exact (HZ4.out.step hS2 id).far (by show (w.heap.size + 1 + 1 : Nat) ≠ w.heap.size; omega) _
      have HO3 : Hid (W3.ownsRow w4.heap.size 86 5 (.slice D2 (N + 1) c2) (N + 1) (das (m.ds ++ [(⟨o.n, o.s⟩ : Da)]))) := by
        rw [hW3, das_last]
        exact own_set hown2 (otag hown2 hB2 (by decide) |> fun h e => h (by rwa [ownBlock_slice] at e)) _
      skip
      have HSV : Hid (Step (fun k => k = w.heap.size) w4 W3) := by rw [hW3]; exact Step.setCell (F := fun k => k = w.heap.size) (hS2.mono (fun _ _ h => h.elim)) (.inl rfl) _
      have c0 := HB3.out.cell 10
      rw [hMB] at c0
      simp [mdC] at c0
      rw [← hW3]
      clear hW3 hB2 hown1 hown2 hS1 hS2 hgrow1 hgrow2 hat1 hat2 hMB
      clear c0
      go_wp2_with (first | (refine ld_mod rfl _ rfl _ rfl MB HB3.out H17b.out ?_) | (refine st_mod rfl _ _ rfl rfl (w.heap.size + 1 + 1) rfl MB rfl HZ3.out rfl H17b.out H1b.out ?_))
      refine bodyPost_ret (v := .tuple #[.agg MB, .bool true]) (res_mod2 Try.results9 (w.heap.size + 1 + 1) rfl rfl (Blk.row HZ3.out MB) H17b.out) rfl ?_
      have h46 : Step (fun k => w.heap.size ≤ k ∧ k < v4.heap.size) w4 (W3.setRow (w.heap.size + 1 + 1) MB) := (HSV.out.mono (F' := fun k => w.heap.size ≤ k ∧ k < v4.heap.size) (fun k _ e => by omega)).trans (Step.setRow (F := fun k => w.heap.size ≤ k ∧ k < v4.heap.size) Step.refl (.inl (by omega)) MB)
      have ho' := own_step HO3.out (Step.setRow (F := fun k => k = w.heap.size + 1 + 1) Step.refl (.inl rfl) MB) (fun k hk e => by subst e; exact own_tag HO3.out HZ3.out (by decide) hk)
      have hr6 := ((HRF4.out.step h46 (fun k hk e => by have := hk.2; omega)).mono (S' := fun k => Old T w k ∨ (v4.heap.size ≤ k ∧ ¬ ftA X { a with A10 := A1, c10 := c1 } k)) (fun _ _ => .inl)).set10 (D := D2) (c' := c2) (l := m.ds ++ [(⟨o.n, o.s⟩ : Da)]) (by
        rw [List.length_append, ← HN.out]
        exact (Reads.of_own ho').mono fun k _ hk => .inr ⟨by have := own_ge ho' k hk; omega, fun e => by have h1 := hin4.out k e; have h2 := own_ge ho' k hk; omega⟩)
      have hfin := HH.out.fin2 HS.out HMK.out HU.out hr6 h46 (by exact Inn.mono (Inn.same (HH.out.inn4 HS.out HU.out) rfl rfl) (fun k _ hk => Or.inl hk)) (by exact Inn.mono (Inn.same ((HH.out.inm4 HS.out HU.out).step h46 (fun k hk e => by have := hk.2; omega)) rfl rfl) (fun k _ hk => Or.inl hk)) (⟨HA.out.q0, HA.out.q1, HA.out.q2, HA.out.q5, HA.out.q6, by show _ ++ [_] = _ ++ [_]; rw [HA.out.q10], HA.out.q16, HA.out.st, HA.out.d1, HA.out.d2, HA.out.d3, HA.out.d4, HA.out.q8, HA.out.q9⟩)
      exact ⟨_, _, _, _, _, _, _, by rw [HMB.out], hfin.1, hfin.2, fun n ⟨h0, h1, h2, h3, h4, h5, h6, h7, h8⟩ => ⟨Nat.le_succ_of_le h0, Nat.le_succ_of_le h1, Nat.le_succ_of_le h2, Nat.le_succ_of_le h3, Nat.le_succ_of_le h4, Nat.le_succ_of_le h5, Nat.le_succ_of_le h6, by show (_ ++ [_]).length ≤ n + 1; rw [List.length_append]; exact Nat.succ_le_succ h7, Nat.le_succ_of_le h8⟩⟩
    · refine Mxt.wpTL_reads ?_
      simp only [List.flatMap_cons, List.flatMap_nil, List.getElem?_cons_succ, List.getElem?_cons_zero, Option.toList_some, List.cons_append, List.nil_append]
      repeat (go_big_quiet_step (fail))
      refine wpQuiet_nil ?_
      refine Mxt.wpTL_op (by rfl) (fun K hK => ?_)
      go_simp
      refine hK _ _ (fun hlt => Mix.cl (Step.drew (Step.alloc (Step.alloc Step.refl _) _))) ?_
      clear hK K
      refine Mxt.wpTL_op (by rfl) (fun K hK => ?_)
      refine step_append_new (w0 := w4) (by rfl) _ _ (by rfl) E_das (Step.drew (Step.alloc (Step.alloc Step.refl _) _)) (by rfl) (hfB) (by rfl) (hrB) hone1 hm1 (by omega) ?_
      intro D1 c1 W1 hown1 hS1 hgrow1 hat1
      refine hK _ _ (fun hlt => Mix.cl hS1) ?_
      clear hK K
      simp only [Act.put, List.setIfInBounds_toArray, List.set_cons_succ, List.set_cons_zero, Nat.zero_add]
      simp only [Nat.zero_add] at hown1
      have hx1 := hxB.step (Step.grown (F := fun k => blkOf (some (⟨w4.heap.size, 0, none⟩ : Addr)) = some k) Step.refl hgrow1 (fun k hk => .inl hk)) (fun k hk e => by simp [blkOf] at e; omega)
      refine Mxt.wpTL_op (by rfl) (fun K hK => ?_)
      refine step_append_new (w0 := w4) (by rfl) _ _ (by rfl) E_das (hS1) (by rfl) (hown1) (by rfl) (hx1) hone2 hm2 (by omega) ?_
      intro D2 c2 W2 hown2 hS2 hgrow2 hat2
      refine hK _ _ (fun hlt => Mix.cl hS2) ?_
      clear hK K
      simp only [Act.put, List.setIfInBounds_toArray, List.set_cons_succ, List.set_cons_zero, Nat.zero_add]
      refine Mxt.wpTL_reads ?_
      simp only [List.flatMap_cons, List.flatMap_nil, List.getElem?_cons_succ, List.getElem?_cons_zero, Option.toList_some, List.cons_append, List.nil_append]
      repeat (go_big_quiet_step (fail))
      refine wpQuiet_nil ?_
      have hB2 := HB4.out.step hS2 id
      have z0 := hB2.frozen 10
      have c0 := hB2.cell 10
      rw [HMA.out] at c0
      simp [mdC] at c0
      refine Mxt.wpTL_op (by rfl) (fun K hK => ?_)
      go_simp
      refine hK _ _ (fun hlt => absurd hlt (by decide)) ?_
      clear hK K z0 c0
      refine Mxt.wpTL_leaf ?_
      as_aux_lemma =>
      obtain ⟨W3, hW3⟩ : ∃ W3, W3 = W2.setCell ⟨w.heap.size, 10, none⟩ (.slice D2 (N + 1) c2) := ⟨_, rfl⟩
      obtain ⟨MB, hMB⟩ : ∃ MB, MB = mdC { am with A10 := D2, c10 := c2 } { m with ds := m.ds ++ [(⟨o.n, o.s⟩ : Da)] } := ⟨_, rfl⟩
      have HMB := Lib.hid hMB
      have H17b : Hid (MB.size = 17) := by rw [Hid, hMB]; rfl
      have H1b : Hid (MB.all (·.oneCell') = true) := by rw [Hid, hMB]; exact mdC_one _ _
      have HB3 : Hid (Blk W3 (w.heap.size) 41 MB) := by
        have := hB2.set_ 10 (.slice D2 (N + 1) c2)
        rw [← hW3, HMA.out] at this
        simp [mdC] at this
        rw [hMB]
        simp [mdC]
        rw [← HN.out]
        exact this
      have HZ3 : Hid (Blk W3 (w.heap.size + 1 + 1) 41 #[.slice none 0 0, .slice none 0 0, .slice none 0 0, .slice none 0 0, .slice none 0 0, .slice none 0 0, .slice none 0 0, .int .i64 0, .slice none 0 0, .slice none 0 0, .slice none 0 0, .bool false, .int .u32 0, .int .u32 0, .int .u32 0, .int .u32 0, .slice none 0 0]) := by rw [hW3]; exact (HZ4.out.step hS2 id).far (by show (w.heap.size + 1 + 1 : Nat) ≠ w.heap.size; omega) _
      have HO3 : Hid (W3.ownsRow w4.heap.size 86 5 (.slice D2 (N + 1) c2) (N + 1) (das (m.ds ++ [(⟨o.n, o.s⟩ : Da)]))) := by
        rw [hW3, das_last]
        exact own_set hown2 (otag hown2 hB2 (by decide) |> fun h e => h (by rwa [ownBlock_slice] at e)) _
      skip
      have HSV : Hid (Step (fun k => k = w.heap.size) w4 W3) := by rw [hW3]; exact Step.setCell (F := fun k => k = w.heap.size) (hS2.mono (fun _ _ h => h.elim)) (.inl rfl) _
      have c0 := HB3.out.cell 10
      rw [hMB] at c0
      simp [mdC] at c0
      rw [← hW3]
      clear hW3 hB2 hown1 hown2 hS1 hS2 hgrow1 hgrow2 hat1 hat2 hMB
      clear c0
      go_wp2_with (first | (refine ld_mod rfl _ rfl _ rfl MB HB3.out H17b.out ?_) | (refine st_mod rfl _ _ rfl rfl (w.heap.size + 1 + 1) rfl MB rfl HZ3.out rfl H17b.out H1b.out ?_))
      refine bodyPost_ret (v := .tuple #[.agg MB, .bool true]) (res_mod2 Try.results9 (w.heap.size + 1 + 1) rfl rfl (Blk.row HZ3.out MB) H17b.out) rfl ?_
      have h46 : Step (fun k => w.heap.size ≤ k ∧ k < v4.heap.size) w4 (W3.setRow (w.heap.size + 1 + 1) MB) := (HSV.out.mono (F' := fun k => w.heap.size ≤ k ∧ k < v4.heap.size) (fun k _ e => by omega)).trans (Step.setRow (F := fun k => w.heap.size ≤ k ∧ k < v4.heap.size) Step.refl (.inl (by omega)) MB)
      have ho' := own_step HO3.out (Step.setRow (F := fun k => k = w.heap.size + 1 + 1) Step.refl (.inl rfl) MB) (fun k hk e => by subst e; exact own_tag HO3.out HZ3.out (by decide) hk)
      have hr6 := ((HRF4.out.step h46 (fun k hk e => by have := hk.2; omega)).mono (S' := fun k => Old T w k ∨ (v4.heap.size ≤ k ∧ ¬ ftA X { a with A10 := A1, c10 := c1 } k)) (fun _ _ => .inl)).set10 (D := D2) (c' := c2) (l := m.ds ++ [(⟨o.n, o.s⟩ : Da)]) (by
        rw [List.length_append, ← HN.out]
        exact (Reads.of_own ho').mono fun k _ hk => .inr ⟨by have := own_ge ho' k hk; omega, fun e => by have h1 := hin4.out k e; have h2 := own_ge ho' k hk; omega⟩)
      have hfin := HH.out.fin2 HS.out HMK.out HU.out hr6 h46 (by exact Inn.mono (Inn.same (HH.out.inn4 HS.out HU.out) rfl rfl) (fun k _ hk => Or.inl hk)) (by exact Inn.mono (Inn.same ((HH.out.inm4 HS.out HU.out).step h46 (fun k hk e => by have := hk.2; omega)) rfl rfl) (fun k _ hk => Or.inl hk)) (⟨HA.out.q0, HA.out.q1, HA.out.q2, HA.out.q5, HA.out.q6, by show _ ++ [_] = _ ++ [_]; rw [HA.out.q10], HA.out.q16, HA.out.st, HA.out.d1, HA.out.d2, HA.out.d3, HA.out.d4, HA.out.q8, HA.out.q9⟩)
      exact ⟨_, _, _, _, _, _, _, by rw [HMB.out], hfin.1, hfin.2, fun n ⟨h0, h1, h2, h3, h4, h5, h6, h7, h8⟩ => ⟨Nat.le_succ_of_le h0, Nat.le_succ_of_le h1, Nat.le_succ_of_le h2, Nat.le_succ_of_le h3, Nat.le_succ_of_le h4, Nat.le_succ_of_le h5, Nat.le_succ_of_le h6, by show (_ ++ [_]).length ≤ n + 1; rw [List.length_append]; exact Nat.succ_le_succ h7, Nat.le_succ_of_le h8⟩⟩
  · refine Mxt.wpTL_reads ?_
    simp only [List.flatMap_cons, List.flatMap_nil, List.getElem?_cons_succ, List.getElem?_cons_zero, Option.toList_some, List.cons_append, List.nil_append]
    repeat (go_big_quiet_step (fail))
    refine wpQuiet_nil ?_
    refine Mxt.wpTL_op (by rfl) (fun K hK => ?_)
    go_simp
    refine hK _ _ (fun hlt => Mix.cl (Step.drew (Step.alloc Step.refl _))) ?_
    clear hK K
    refine Mxt.wpTL_reads ?_
    simp only [List.flatMap_cons, List.flatMap_nil, List.getElem?_cons_succ, List.getElem?_cons_zero, Option.toList_some, List.cons_append, List.nil_append]
    repeat (go_big_quiet_step (fail))
    refine wpQuiet_nil ?_
    refine Mxt.wpTL_op (by rfl) (fun K hK => ?_)
    go_simp
    refine hK _ _ (fun hlt => Mix.cl (Step.drew (Step.alloc (Step.alloc Step.refl _) _))) ?_
    clear hK K
    refine Mxt.wpTL_op (by rfl) (fun K hK => ?_)
    refine step_append_new (w0 := w4) (by rfl) _ _ (by rfl) E_das (Step.drew (Step.alloc (Step.alloc Step.refl _) _)) (by rfl) (hfC) (by rfl) (hrC) hone1 hm1 (by omega) ?_
    intro D1 c1 W1 hown1 hS1 hgrow1 hat1
    refine hK _ _ (fun hlt => Mix.cl hS1) ?_
    clear hK K
    simp only [Act.put, List.setIfInBounds_toArray, List.set_cons_succ, List.set_cons_zero, Nat.zero_add]
    simp only [Nat.zero_add] at hown1
    have hx1 := hxC.step (Step.grown (F := fun k => blkOf (some (⟨w4.heap.size + 1, 0, none⟩ : Addr)) = some k) Step.refl hgrow1 (fun k hk => .inl hk)) (fun k hk e => by simp [blkOf] at e; omega)
    refine Mxt.wpTL_op (by rfl) (fun K hK => ?_)
    refine step_append_new (w0 := w4) (by rfl) _ _ (by rfl) E_das (hS1) (by rfl) (hown1) (by rfl) (hx1) hone2 hm2 (by omega) ?_
    intro D2 c2 W2 hown2 hS2 hgrow2 hat2
    refine hK _ _ (fun hlt => Mix.cl hS2) ?_
    clear hK K
    simp only [Act.put, List.setIfInBounds_toArray, List.set_cons_succ, List.set_cons_zero, Nat.zero_add]
    refine Mxt.wpTL_reads ?_
    simp only [List.flatMap_cons, List.flatMap_nil, List.getElem?_cons_succ, List.getElem?_cons_zero, Option.toList_some, List.cons_append, List.nil_append]
    repeat (go_big_quiet_step (fail))
    refine wpQuiet_nil ?_
    have hB2 := HB4.out.step hS2 id
    have z0 := hB2.frozen 10
    have c0 := hB2.cell 10
    rw [HMA.out] at c0
    simp [mdC] at c0
    refine Mxt.wpTL_op (by rfl) (fun K hK => ?_)
    go_simp
    refine hK _ _ (fun hlt => absurd hlt (by decide)) ?_
    clear hK K z0 c0
    refine Mxt.wpTL_leaf ?_
    as_aux_lemma =>
    obtain ⟨W3, hW3⟩ : ∃ W3, W3 = W2.setCell ⟨w.heap.size, 10, none⟩ (.slice D2 (N + 1) c2) := ⟨_, rfl⟩
    obtain ⟨MB, hMB⟩ : ∃ MB, MB = mdC { am with A10 := D2, c10 := c2 } { m with ds := m.ds ++ [(⟨o.n, o.s⟩ : Da)] } := ⟨_, rfl⟩
    have HMB := Lib.hid hMB
    have H17b : Hid (MB.size = 17) := by rw [Hid, hMB]; rfl
    have H1b : Hid (MB.all (·.oneCell') = true) := by rw [Hid, hMB]; exact mdC_one _ _
    have HB3 : Hid (Blk W3 (w.heap.size) 41 MB) := by
      have := hB2.set_ 10 (.slice D2 (N + 1) c2)
      rw [← hW3, HMA.out] at this
      simp [mdC] at this
      rw [hMB]
      simp [mdC]
      rw [← HN.out]
      exact this
    have HZ3 : Hid (Blk W3 (w.heap.size + 1 + 1) 41 #[.slice none 0 0, .slice none 0 0, .slice none 0 0, .slice none 0 0, .slice none 0 0, .slice none 0 0, .slice none 0 0, .int .i64 0, .slice none 0 0, .slice none 0 0, .slice none 0 0, .bool false, .int .u32 0, .int .u32 0, .int .u32 0, .int .u32 0, .slice none 0 0]) := by rw [hW3]; exact (HZ4.out.step hS2 id).far (by show (w.heap.size + 1 + 1 : Nat) ≠ w.heap.size; omega) _
    have HO3 : Hid (W3.ownsRow w4.heap.size 86 5 (.slice D2 (N + 1) c2) (N + 1) (das (m.ds ++ [(⟨o.n, o.s⟩ : Da)]))) := by
      rw [hW3, das_last]
      exact own_set hown2 (otag hown2 hB2 (by decide) |> fun h e => h (by rwa [ownBlock_slice] at e)) _
    skip
    have HSV : Hid (Step (fun k => k = w.heap.size) w4 W3) := by rw [hW3]; exact Step.setCell (F := fun k => k = w.heap.size) (hS2.mono (fun _ _ h => h.elim)) (.inl rfl) _
    have c0 := HB3.out.cell 10
    rw [hMB] at c0
    simp [mdC] at c0
    rw [← hW3]
    clear hW3 hB2 hown1 hown2 hS1 hS2 hgrow1 hgrow2 hat1 hat2 hMB
    clear c0
    go_wp2_with (first | (refine ld_mod rfl _ rfl _ rfl MB HB3.out H17b.out ?_) | (refine st_mod rfl _ _ rfl rfl (w.heap.size + 1 + 1) rfl MB rfl HZ3.out rfl H17b.out H1b.out ?_))
    refine bodyPost_ret (v := .tuple #[.agg MB, .bool true]) (res_mod2 Try.results9 (w.heap.size + 1 + 1) rfl rfl (Blk.row HZ3.out MB) H17b.out) rfl ?_
    have h46 : Step (fun k => w.heap.size ≤ k ∧ k < v4.heap.size) w4 (W3.setRow (w.heap.size + 1 + 1) MB) := (HSV.out.mono (F' := fun k => w.heap.size ≤ k ∧ k < v4.heap.size) (fun k _ e => by omega)).trans (Step.setRow (F := fun k => w.heap.size ≤ k ∧ k < v4.heap.size) Step.refl (.inl (by omega)) MB)
    have ho' := own_step HO3.out (Step.setRow (F := fun k => k = w.heap.size + 1 + 1) Step.refl (.inl rfl) MB) (fun k hk e => by subst e; exact own_tag HO3.out HZ3.out (by decide) hk)
    have hr6 := ((HRF4.out.step h46 (fun k hk e => by have := hk.2; omega)).mono (S' := fun k => Old T w k ∨ (v4.heap.size ≤ k ∧ ¬ ftA X { a with A10 := A1, c10 := c1 } k)) (fun _ _ => .inl)).set10 (D := D2) (c' := c2) (l := m.ds ++ [(⟨o.n, o.s⟩ : Da)]) (by
      rw [List.length_append, ← HN.out]
      exact (Reads.of_own ho').mono fun k _ hk => .inr ⟨by have := own_ge ho' k hk; omega, fun e => by have h1 := hin4.out k e; have h2 := own_ge ho' k hk; omega⟩)
    have hfin := HH.out.fin2 HS.out HMK.out HU.out hr6 h46 (by exact Inn.mono (Inn.same (HH.out.inn4 HS.out HU.out) rfl rfl) (fun k _ hk => Or.inl hk)) (by exact Inn.mono (Inn.same ((HH.out.inm4 HS.out HU.out).step h46 (fun k hk e => by have := hk.2; omega)) rfl rfl) (fun k _ hk => Or.inl hk)) (⟨HA.out.q0, HA.out.q1, HA.out.q2, HA.out.q5, HA.out.q6, by show _ ++ [_] = _ ++ [_]; rw [HA.out.q10], HA.out.q16, HA.out.st, HA.out.d1, HA.out.d2, HA.out.d3, HA.out.d4, HA.out.q8, HA.out.q9⟩)
    exact ⟨_, _, _, _, _, _, _, by rw [HMB.out], hfin.1, hfin.2, fun n ⟨h0, h1, h2, h3, h4, h5, h6, h7, h8⟩ => ⟨Nat.le_succ_of_le h0, Nat.le_succ_of_le h1, Nat.le_succ_of_le h2, Nat.le_succ_of_le h3, Nat.le_succ_of_le h4, Nat.le_succ_of_le h5, Nat.le_succ_of_le h6, by show (_ ++ [_]).length ≤ n + 1; rw [List.length_append]; exact Nat.succ_le_succ h7, Nat.le_succ_of_le h8⟩⟩
end
end Go.Proofs.Ytflgpjdpofmbkaa
