/-
  craft: Take, Global, Elem; the calls that take a global.
-/
import Derived.Test.YtflgpjdpofmbkaaCsD
set_option linter.unusedVariables false
set_option linter.unusedSimpArgs false
namespace Go.Proofs.Ytflgpjdpofmbkaa
open Go.RowKit

def envL : List UInt8 := [101, 110, 118]
theorem new_of {X k : Nat} {a : Ad} {A' : Option Addr} {c' : Nat} (e : ftA X { a with A8 := A', c8 := c' } k) (hn : ¬ ftA X a k) : blkOf A' = some k := by
  unfold ftA at e hn
  simp only at e
  rcases e with e | e | e | e | e | e | e | e | e | e
  all_goals first | exact e | exact absurd (by simp [e]) hn
section
variable (w : World) (B X : Nat) (a : Ad) (s : Mo) (tk vr : Int)

set_option maxRecDepth 100000 in
set_option maxHeartbeats 3200000 in
theorem take_late (h : Mk w B X a s tk vr) (nm : List UInt8) (x : Ft) (hf : 0 < s.fs.length) :
    Calls Try.prog 12 #[.pointer (some ⟨X, 0, none⟩), .string (str nm), .agg #[Value.string (str x.p), .string (str x.r)]] w fun e w' => e = .returned (.tuple #[.int .u32 0, .bool false]) ∧ Step (fun _ => False) w w' := by
  have c2 := (h.quiet (Step.alloc Step.refl (.cells #[Value.string (str x.p), .string (str x.r)] 46))).blk.cell 2
  simp [mkC] at c2
  have g0 : (0 : Int) < (s.fs.length : Int) := by omega
  clear h
  go_enter Try.func12, Try.ntmps12
  go_wp2_with fail
  go_ret2
  exact ⟨rfl, Step.alloc Step.refl _⟩

set_option maxRecDepth 100000 in
set_option maxHeartbeats 3200000 in
theorem take_ok (h : Mk w B X a s tk vr) (hB : B ≤ w.heap.size) (hl : s.small 1000) (nm : List UInt8) (x : Ft) (hf : s.fs.length = 0) :
    Calls Try.prog 12 #[.pointer (some ⟨X, 0, none⟩), .string (str nm), .agg #[Value.string (str x.p), .string (str x.r)]] w fun e w' => (∃ z, e = .returned (.tuple #[.int .u32 z, .bool true])) ∧ ∃ a' tk', Mk w' B X a' { s with ts := tyL s.ts x, is := s.is ++ [⟨envL, nm, 0, tyI s.ts x, 0, false⟩] } tk' vr ∧ Upd w (ftA X a) (ftA X a') w' := by
  obtain ⟨l0, l1, l2, l5, l6, l8, l9, l10, l16⟩ := hl
  obtain ⟨v1, hv1⟩ : ∃ v1, v1 = w.alloc (.cells #[Value.string (str x.p), .string (str x.r)] 46) := ⟨_, rfl⟩
  have HX : Hid (Blk v1 w.heap.size 46 #[Value.string (str x.p), .string (str x.r)]) := by rw [hv1]; exact Blk.new w _ _
  have HS : Hid (Step (fun _ => False) w v1) := by rw [hv1]; exact Step.alloc Step.refl _
  have hXw := h.blk.lt
  have hsz : v1.heap.size = w.heap.size + 1 := by rw [hv1]; simp
  have HV := Lib.hid (h.quiet HS.out)
  have hlo1 : ∀ k, blkOf a.A1 = some k → k < w.heap.size := fun k hk => own_lt h.o1 k (by rwa [ownBlock_slice])
  have hlo0 : ∀ k, blkOf a.A0 = some k → k < w.heap.size := fun k hk => own_lt h.o0 k (by rwa [ownBlock_slice])
  have hfin : Hid (∀ k, ftA X a k → k < w.heap.size) := h.in_
  have HE := Lib.hid hv1
  have HTy : Hid (∀ wz, Step (fun _ => False) v1 wz → _) := fun wz hz => type_ok wz B X a s tk vr (HV.out.quiet hz) (by have := hz.size; omega) l0 x
  have hle := tyI_le s.ts x
  obtain ⟨q, hq⟩ : ∃ q, q = tyI s.ts x := ⟨_, rfl⟩
  rw [← hq] at HTy hle ⊢
  obtain ⟨L', hL'⟩ : ∃ L', L' = tyL s.ts x := ⟨_, rfl⟩
  rw [← hL'] at HTy ⊢
  have c2 := HV.out.blk.cell 2
  have c1 := HV.out.blk.cell 1
  have x0 := HX.out.cell 0
  have x1 := HX.out.cell 1
  simp [mkC] at c2 c1 x0 x1
  have g0 : ¬ (0 : Int) < (s.fs.length : Int) := by omega
  rw [hf] at c2 g0
  rw [hv1] at c2
  clear h hv1 hq hL'
  go_enter Try.func12, Try.ntmps12
  go_wp2_with fail
  rw [← HE.out]
  obtain ⟨LK, hLK⟩ : ∃ LK : List (Addr × Value), LK = [(⟨X, 1, none⟩, .slice a.A1 s.is.length a.c1), (⟨w.heap.size, 0, none⟩, .string (str x.p)), (⟨w.heap.size, 1, none⟩, .string (str x.r))] := ⟨_, rfl⟩
  have HKp : Hid (Keeps LK v1) := by rw [hLK]; exact Keeps.cons c1 (Keeps.cons x0 (Keeps.cons x1 (Keeps.nil _)))
  have d0 : ∀ i : Mix.Cls (Keeps LK), i.val.cell? ⟨X, 1, none⟩ = some (.slice a.A1 s.is.length a.c1) := fun i => i.prop (⟨X, 1, none⟩, .slice a.A1 s.is.length a.c1) (by rw [hLK]; simp)
  have d1 : ∀ i : Mix.Cls (Keeps LK), i.val.cell? ⟨w.heap.size, 0, none⟩ = some (.string (str x.p)) := fun i => i.prop (⟨w.heap.size, 0, none⟩, .string (str x.p)) (by rw [hLK]; simp)
  have d2 : ∀ i : Mix.Cls (Keeps LK), i.val.cell? ⟨w.heap.size, 1, none⟩ = some (.string (str x.r)) := fun i => i.prop (⟨w.heap.size, 1, none⟩, .string (str x.r)) (by rw [hLK]; simp)
  have HLK : Hid (∀ F : Nat → Prop, ¬ F X → ¬ F w.heap.size → ∀ p ∈ LK, ¬ F p.1.block) := fun F h0 h1 p hp => by
    rw [hLK] at hp
    simp at hp
    rcases hp with rfl | rfl | rfl
    · exact h0
    · exact h1
    · exact h1
  have HL2 := Lib.hid hLK
  clear hLK c1 c2 x0 x1
  refine Mix.wp_region_mix [9, 11, 12, 16] [9, 11, 12] (Keeps LK) (by kernel_rfl) (by kernel_rfl) (HKp.out) (fun hcls => ?_)
  refine Mix.wpL_reads 9 (by rfl) ?_
  simp only [List.take_succ_cons, List.drop_succ_cons, List.take_zero, List.drop_zero]
  repeat (go_big_quiet_step (fail))
  refine wpQuiet_nil ?_
  refine Mix.wpL_op (by rfl) (fun K hK => ?_)
  go_simp
  refine (HTy.out _ Step.refl.drew).mono ?_
  rintro e w3 ⟨rfl, A1, e1, hmk, hup⟩
  have hsz3 := hup.1.size
  have hbl : ¬ ftA X a w.heap.size := fun e => Nat.lt_irrefl _ (hfin.out _ e)
  have HK3 : Hid (Keeps LK w3) := by
    have y1 := hmk.blk.cell 1
    have z := HX.out.step (Step.refl.drew.trans' hup.1 (F := fun k => ftA X a k) (fun k hk => .inl hk)) hbl
    have z0 := z.cell 0
    have z1 := z.cell 1
    simp [mkC] at y1 z0 z1
    rw [HL2.out]
    exact Keeps.cons y1 (Keeps.cons z0 (Keeps.cons z1 (Keeps.nil _)))
  have HVc := Lib.hid hmk
  have HUc := Lib.hid (Upd.after HS.out (Upd.after Step.refl.drew hup))
  refine hK _ _ (fun hlt => Mix.cl (HK3.out)) ?_
  clear hK K
  clear hmk hup
  refine Mix.wpL_reads 1 (by rfl) ?_
  simp only [List.take_succ_cons, List.drop_succ_cons, List.take_zero, List.drop_zero]
  repeat (go_big_quiet_step (fail))
  refine wpQuiet_nil ?_
  have hB2 : B ≤ (w3.alloc (.cells #[Value.string { data := #[101, 110, 118] }, .string (str nm), .int .u8 0, .int .u32 (q : Int), .int .u32 0, .int .u32 0, .bool false, .int .u8 0, .bool false] 67)).heap.size := by simp; simp at hsz3; omega
  have HKc := HK3
  have hone : ∀ u ∈ #[Value.string { data := #[101, 110, 118] }, .string (str nm), .int .u8 0, .int .u32 (q : Int), .int .u32 0, .int .u32 0, .bool false, .int .u8 0, .bool false].toList, u.oneCell' = true := by simp [Value.oneCell']
  have hm1 : s.is.length + 1 ≤ maxLen := by unfold maxLen; omega
  have HKa : Hid (Keeps LK (w3.alloc (.cells #[Value.string { data := #[101, 110, 118] }, .string (str nm), .int .u8 0, .int .u32 (q : Int), .int .u32 0, .int .u32 0, .bool false, .int .u8 0, .bool false] 67))) := HKc.out.step (F := fun _ => False) (Step.alloc Step.refl _) (fun _ _ => id)
  refine Mix.wpL_op (by rfl) (fun K hK => ?_)
  go_simp
  refine hK _ _ (fun hlt => Mix.cl (HKa.out)) ?_
  clear hK K
  have HVa : Hid (Mk (w3.alloc (.cells #[Value.string { data := #[101, 110, 118] }, .string (str nm), .int .u8 0, .int .u32 (q : Int), .int .u32 0, .int .u32 0, .bool false, .int .u8 0, .bool false] 67)) B X { a with A0 := A1, c0 := e1 } { s with ts := L' } tk vr) := HVc.out.quiet (Step.alloc Step.refl _)
  refine Mix.wpL_op (by rfl) (fun K hK => ?_)
  refine step_append_src _ (by rfl) _ _ (by rfl) E_ims (by rfl) HVa.out.o1 (by rfl) (reads_new w3 #[Value.string { data := #[101, 110, 118] }, .string (str nm), .int .u8 0, .int .u32 (q : Int), .int .u32 0, .int .u32 0, .bool false, .int .u8 0, .bool false] 67 9 1 rfl) hone hm1 (by show (s.is.length + 1) * 56 ≤ _; omega) hB2 ?_
  intro D' c' w8 hown8 hgrow hat
  have hs8 : Step (fun k => blkOf a.A1 = some k) (w3.alloc (.cells #[Value.string { data := #[101, 110, 118] }, .string (str nm), .int .u8 0, .int .u32 (q : Int), .int .u32 0, .int .u32 0, .bool false, .int .u8 0, .bool false] 67)) w8 := Step.refl.grown hgrow (fun k hk => .inl hk)
  rw [show ims s.is ++ #[Value.string { data := #[101, 110, 118] }, .string (str nm), .int .u8 0, .int .u32 (q : Int), .int .u32 0, .int .u32 0, .bool false, .int .u8 0, .bool false].toList = ims (s.is ++ [(⟨envL, nm, 0, q, 0, false⟩ : Im)]) by rw [ims_last] <;> rfl, show s.is.length + 1 = (s.is ++ [(⟨envL, nm, 0, q, 0, false⟩ : Im)]).length by simp] at hown8
  have hput := HVa.out.put1 hs8 hown8 (fun k hk => by
    rcases hat with e | e
    · exact .inl (by rw [← e]; exact hk)
    · exact .inr (by rw [e] at hk; injection hk with hk; exact Nat.le_of_eq hk))
  replace hput := Lib.hid hput
  rw [show (s.is ++ [(⟨envL, nm, 0, q, 0, false⟩ : Im)]).length = s.is.length + 1 by simp] at hput
  have HK8 : Hid (Keeps LK w8) := HKa.out.step hs8 (HLK.out (fun k => blkOf a.A1 = some k) (otag HVc.out.o1 HVc.out.blk (by decide)) (fun e => absurd (hlo1 _ e) (Nat.lt_irrefl _)))
  obtain ⟨z8, c8⟩ := HVa.out.z1 hgrow
  go_simp
  refine hK _ _ (fun hlt => Mix.cl (HK8.out)) ?_
  clear hK K
  clear hown8 hgrow hat hs8 hone
  refine Mix.wpL_reads 3 (by rfl) ?_
  simp only [List.take_succ_cons, List.drop_succ_cons, List.take_zero, List.drop_zero]
  repeat (go_big_quiet_step (fail))
  refine wpQuiet_nil ?_
  refine Mix.wpL_op (by rfl) (fun K hK => ?_)
  go_simp
  refine hK _ _ (fun hlt => absurd hlt (by decide)) ?_
  clear hK K
  refine Mix.wpL_end ?_
  clear d0 d1 d2
  have y17 := hput.out.1.blk.cell 17
  have f17 := hput.out.1.blk.frozen 17
  simp [mkC] at y17
  go_wp2_with fail
  go_ret2
  have hq := hput.out.1.set_tk (wrap64 (tk + 1))
  exact ⟨⟨_, rfl⟩, _, ⟨_, hq.1⟩, HUc.out.trans (Upd.after (Step.alloc Step.refl _) (hput.out.2.trans hq.2))⟩

set_option maxRecDepth 100000 in
set_option maxHeartbeats 3200000 in
theorem glob_y (h : Mk w B X a s tk vr) (hB : B ≤ w.heap.size) (hl : s.gs.length ≤ 1000) (n : Nat) (m : Bool)  :
    Calls Try.prog 45 #[.pointer (some ⟨X, 0, none⟩), .agg #[Value.int .u8 126, .int .u64 (n : Int)], .bool m] w fun e w' => (∃ z, e = .returned (.int .u32 z)) ∧ ∃ a', Mk w' B X a' { s with gs := s.gs ++ [⟨126, m, 66, n⟩] } tk vr ∧ Upd w (ftA X a) (ftA X a') w' := by
  obtain ⟨v1, hv1⟩ : ∃ v1, v1 = w.alloc (.cells #[Value.int .u8 126, .int .u64 (n : Int)] 50) := ⟨_, rfl⟩
  have HX : Hid (Blk v1 w.heap.size 50 #[Value.int .u8 126, .int .u64 (n : Int)]) := by rw [hv1]; exact Blk.new w _ _
  have HS : Hid (Step (fun _ => False) w v1) := by rw [hv1]; exact Step.alloc Step.refl _
  have hXw := h.blk.lt
  have hsz : v1.heap.size = w.heap.size + 1 := by rw [hv1]; simp
  have HV := Lib.hid (h.quiet HS.out)
  have hlo5 : ∀ k, blkOf a.A5 = some k → k < w.heap.size := fun k hk => own_lt h.o5 k (by rwa [ownBlock_slice])
  have HE := Lib.hid hv1
  have c5 := HV.out.blk.cell 5
  have x0 := HX.out.cell 0
  have x1 := HX.out.cell 1
  simp [mkC] at c5 x0 x1
  rw [hv1] at x0
  have HSZ := Lib.hid hsz
  clear h hv1 hsz
  go_enter Try.func45, Try.ntmps45
  go_wp2_with fail
  rw [← HE.out]
  rw [← HE.out] at x0
  obtain ⟨LK, hLK⟩ : ∃ LK : List (Addr × Value), LK = [(⟨X, 5, none⟩, .slice a.A5 s.gs.length a.c5), (⟨w.heap.size, 0, none⟩, .int .u8 126), (⟨w.heap.size, 1, none⟩, .int .u64 (n : Int))] := ⟨_, rfl⟩
  have HKp : Hid (Keeps LK v1) := by rw [hLK]; exact Keeps.cons c5 (Keeps.cons x0 (Keeps.cons x1 (Keeps.nil _)))
  have d0 : ∀ i : Mix.Cls (Keeps LK), i.val.cell? ⟨X, 5, none⟩ = some (.slice a.A5 s.gs.length a.c5) := fun i => i.prop (⟨X, 5, none⟩, .slice a.A5 s.gs.length a.c5) (by rw [hLK]; simp)
  have d1 : ∀ i : Mix.Cls (Keeps LK), i.val.cell? ⟨w.heap.size, 0, none⟩ = some (.int .u8 126) := fun i => i.prop (⟨w.heap.size, 0, none⟩, .int .u8 126) (by rw [hLK]; simp)
  have d2 : ∀ i : Mix.Cls (Keeps LK), i.val.cell? ⟨w.heap.size, 1, none⟩ = some (.int .u64 (n : Int)) := fun i => i.prop (⟨w.heap.size, 1, none⟩, .int .u64 (n : Int)) (by rw [hLK]; simp)
  have HLK : Hid (∀ F : Nat → Prop, ¬ F X → ¬ F w.heap.size → ∀ p ∈ LK, ¬ F p.1.block) := fun F h0 h1 p hp => by
    rw [hLK] at hp
    simp at hp
    rcases hp with rfl | rfl | rfl
    · exact h0
    · exact h1
    · exact h1
  clear hLK c5 x0 x1
  refine Mix.wp_region_mix [15, 16, 20] [15, 16] (Keeps LK) (by kernel_rfl) (by kernel_rfl) (HKp.out) (fun hcls => ?_)
  refine Mix.wpL_reads 15 (by rfl) ?_
  simp only [List.take_succ_cons, List.drop_succ_cons, List.take_zero, List.drop_zero]
  repeat (go_big_quiet_step (fail))
  refine wpQuiet_nil ?_
  have hB2 : B ≤ (v1.drew.alloc (.cells #[Value.int .u8 126, .bool m, .int .u8 66, .int .u64 (n : Int), .int .u64 0, .slice none 0 0] 73)).heap.size := by have := HSZ.out; simp; omega
  have HKc : Hid (Keeps LK v1.drew) := HKp.out
  have HVc : Hid (Mk v1.drew B X a s tk vr) := HV.out.quiet Step.refl.drew
  have hone : ∀ u ∈ #[Value.int .u8 126, .bool m, .int .u8 66, .int .u64 (n : Int), .int .u64 0, .slice none 0 0].toList, u.oneCell' = true := by simp [Value.oneCell']
  have hm1 : s.gs.length + 1 ≤ maxLen := by unfold maxLen; omega
  have HKa : Hid (Keeps LK (v1.drew.alloc (.cells #[Value.int .u8 126, .bool m, .int .u8 66, .int .u64 (n : Int), .int .u64 0, .slice none 0 0] 73))) := HKc.out.step (F := fun _ => False) (Step.alloc Step.refl _) (fun _ _ => id)
  refine Mix.wpL_op (by rfl) (fun K hK => ?_)
  go_simp
  refine hK _ _ (fun hlt => Mix.cl (HKa.out)) ?_
  clear hK K
  have HVa : Hid (Mk (v1.drew.alloc (.cells #[Value.int .u8 126, .bool m, .int .u8 66, .int .u64 (n : Int), .int .u64 0, .slice none 0 0] 73)) B X a s tk vr) := HVc.out.quiet (Step.alloc Step.refl _)
  refine Mix.wpL_op (by rfl) (fun K hK => ?_)
  refine step_append_src _ (by rfl) _ _ (by rfl) E_gls (by rfl) HVa.out.o5 (by rfl) (reads_new v1.drew #[Value.int .u8 126, .bool m, .int .u8 66, .int .u64 (n : Int), .int .u64 0, .slice none 0 0] 73 6 1 rfl) hone hm1 (by show (s.gs.length + 1) * 56 ≤ _; omega) hB2 ?_
  intro D' c' w8 hown8 hgrow hat
  have hs8 : Step (fun k => blkOf a.A5 = some k) (v1.drew.alloc (.cells #[Value.int .u8 126, .bool m, .int .u8 66, .int .u64 (n : Int), .int .u64 0, .slice none 0 0] 73)) w8 := Step.refl.grown hgrow (fun k hk => .inl hk)
  rw [show gls s.gs ++ #[Value.int .u8 126, .bool m, .int .u8 66, .int .u64 (n : Int), .int .u64 0, .slice none 0 0].toList = gls (s.gs ++ [(⟨126, m, 66, n⟩ : Gl)]) by rw [gls_last] <;> rfl, show s.gs.length + 1 = (s.gs ++ [(⟨126, m, 66, n⟩ : Gl)]).length by simp] at hown8
  have hput := HVa.out.put5 hs8 hown8 (fun k hk => by
    rcases hat with e | e
    · exact .inl (by rw [← e]; exact hk)
    · exact .inr (by rw [e] at hk; injection hk with hk; exact Nat.le_of_eq hk))
  replace hput := Lib.hid hput
  rw [show (s.gs ++ [(⟨126, m, 66, n⟩ : Gl)]).length = s.gs.length + 1 by simp] at hput
  have HK8 : Hid (Keeps LK w8) := HKa.out.step hs8 (HLK.out (fun k => blkOf a.A5 = some k) (otag HVc.out.o5 HVc.out.blk (by decide)) (fun e => absurd (hlo5 _ e) (Nat.lt_irrefl _)))
  obtain ⟨z8, c8⟩ := HVa.out.z5 hgrow
  go_simp
  refine hK _ _ (fun hlt => Mix.cl (HK8.out)) ?_
  clear hK K
  clear hown8 hgrow hat hs8 hone
  refine Mix.wpL_reads 3 (by rfl) ?_
  simp only [List.take_succ_cons, List.drop_succ_cons, List.take_zero, List.drop_zero]
  repeat (go_big_quiet_step (fail))
  refine wpQuiet_nil ?_
  refine Mix.wpL_op (by rfl) (fun K hK => ?_)
  go_simp
  refine hK _ _ (fun hlt => absurd hlt (by decide)) ?_
  clear hK K
  refine Mix.wpL_end ?_
  clear d0 d1 d2
  have y18 := hput.out.1.blk.cell 18
  have y5 := hput.out.1.blk.cell 5
  simp [mkC] at y18 y5
  go_wp2_with fail
  go_quiet (fail)
  go_wp2_with fail
  go_ret
  exact ⟨⟨_, rfl⟩, _, hput.out.1.quiet (Step.refl.drewN _), (Upd.after (HS.out.trans (Step.alloc Step.refl.drew _)) hput.out.2).drewN _⟩

set_option maxRecDepth 100000 in
set_option maxHeartbeats 3200000 in
theorem glob_n (h : Mk w B X a s tk vr) (hB : B ≤ w.heap.size) (hl : s.gs.length ≤ 1000) (t n : Nat) (m : Bool) (ht : ¬ t = 126) :
    Calls Try.prog 45 #[.pointer (some ⟨X, 0, none⟩), .agg #[Value.int .u8 (t : Int), .int .u64 (n : Int)], .bool m] w fun e w' => (∃ z, e = .returned (.int .u32 z)) ∧ ∃ a', Mk w' B X a' { s with gs := s.gs ++ [⟨t, m, 65, n⟩] } tk vr ∧ Upd w (ftA X a) (ftA X a') w' := by
  have e1 : ((t : Int) == 126) = false := beq_eq_false_iff_ne.2 (by omega)
  have e2 : ¬ (t : Int) = 126 := by omega
  obtain ⟨v1, hv1⟩ : ∃ v1, v1 = w.alloc (.cells #[Value.int .u8 (t : Int), .int .u64 (n : Int)] 50) := ⟨_, rfl⟩
  have HX : Hid (Blk v1 w.heap.size 50 #[Value.int .u8 (t : Int), .int .u64 (n : Int)]) := by rw [hv1]; exact Blk.new w _ _
  have HS : Hid (Step (fun _ => False) w v1) := by rw [hv1]; exact Step.alloc Step.refl _
  have hXw := h.blk.lt
  have hsz : v1.heap.size = w.heap.size + 1 := by rw [hv1]; simp
  have HV := Lib.hid (h.quiet HS.out)
  have hlo5 : ∀ k, blkOf a.A5 = some k → k < w.heap.size := fun k hk => own_lt h.o5 k (by rwa [ownBlock_slice])
  have HE := Lib.hid hv1
  have c5 := HV.out.blk.cell 5
  have x0 := HX.out.cell 0
  have x1 := HX.out.cell 1
  simp [mkC] at c5 x0 x1
  rw [hv1] at x0
  have HSZ := Lib.hid hsz
  clear h hv1 hsz
  go_enter Try.func45, Try.ntmps45
  go_wp2_with fail
  rw [← HE.out]
  rw [← HE.out] at x0
  obtain ⟨LK, hLK⟩ : ∃ LK : List (Addr × Value), LK = [(⟨X, 5, none⟩, .slice a.A5 s.gs.length a.c5), (⟨w.heap.size, 0, none⟩, .int .u8 (t : Int)), (⟨w.heap.size, 1, none⟩, .int .u64 (n : Int))] := ⟨_, rfl⟩
  have HKp : Hid (Keeps LK v1) := by rw [hLK]; exact Keeps.cons c5 (Keeps.cons x0 (Keeps.cons x1 (Keeps.nil _)))
  have d0 : ∀ i : Mix.Cls (Keeps LK), i.val.cell? ⟨X, 5, none⟩ = some (.slice a.A5 s.gs.length a.c5) := fun i => i.prop (⟨X, 5, none⟩, .slice a.A5 s.gs.length a.c5) (by rw [hLK]; simp)
  have d1 : ∀ i : Mix.Cls (Keeps LK), i.val.cell? ⟨w.heap.size, 0, none⟩ = some (.int .u8 (t : Int)) := fun i => i.prop (⟨w.heap.size, 0, none⟩, .int .u8 (t : Int)) (by rw [hLK]; simp)
  have d2 : ∀ i : Mix.Cls (Keeps LK), i.val.cell? ⟨w.heap.size, 1, none⟩ = some (.int .u64 (n : Int)) := fun i => i.prop (⟨w.heap.size, 1, none⟩, .int .u64 (n : Int)) (by rw [hLK]; simp)
  have HLK : Hid (∀ F : Nat → Prop, ¬ F X → ¬ F w.heap.size → ∀ p ∈ LK, ¬ F p.1.block) := fun F h0 h1 p hp => by
    rw [hLK] at hp
    simp at hp
    rcases hp with rfl | rfl | rfl
    · exact h0
    · exact h1
    · exact h1
  clear hLK c5 x0 x1
  refine Mix.wp_region_mix [15, 16, 20] [15, 16] (Keeps LK) (by kernel_rfl) (by kernel_rfl) (HKp.out) (fun hcls => ?_)
  refine Mix.wpL_reads 15 (by rfl) ?_
  simp only [List.take_succ_cons, List.drop_succ_cons, List.take_zero, List.drop_zero]
  repeat (go_big_quiet_step (fail))
  refine wpQuiet_nil ?_
  have hB2 : B ≤ (v1.drew.alloc (.cells #[Value.int .u8 (t : Int), .bool m, .int .u8 65, .int .u64 (n : Int), .int .u64 0, .slice none 0 0] 73)).heap.size := by have := HSZ.out; simp; omega
  have HKc : Hid (Keeps LK v1.drew) := HKp.out
  have HVc : Hid (Mk v1.drew B X a s tk vr) := HV.out.quiet Step.refl.drew
  have hone : ∀ u ∈ #[Value.int .u8 (t : Int), .bool m, .int .u8 65, .int .u64 (n : Int), .int .u64 0, .slice none 0 0].toList, u.oneCell' = true := by simp [Value.oneCell']
  have hm1 : s.gs.length + 1 ≤ maxLen := by unfold maxLen; omega
  have HKa : Hid (Keeps LK (v1.drew.alloc (.cells #[Value.int .u8 (t : Int), .bool m, .int .u8 65, .int .u64 (n : Int), .int .u64 0, .slice none 0 0] 73))) := HKc.out.step (F := fun _ => False) (Step.alloc Step.refl _) (fun _ _ => id)
  refine Mix.wpL_op (by rfl) (fun K hK => ?_)
  go_simp
  refine hK _ _ (fun hlt => Mix.cl (HKa.out)) ?_
  clear hK K
  have HVa : Hid (Mk (v1.drew.alloc (.cells #[Value.int .u8 (t : Int), .bool m, .int .u8 65, .int .u64 (n : Int), .int .u64 0, .slice none 0 0] 73)) B X a s tk vr) := HVc.out.quiet (Step.alloc Step.refl _)
  refine Mix.wpL_op (by rfl) (fun K hK => ?_)
  refine step_append_src _ (by rfl) _ _ (by rfl) E_gls (by rfl) HVa.out.o5 (by rfl) (reads_new v1.drew #[Value.int .u8 (t : Int), .bool m, .int .u8 65, .int .u64 (n : Int), .int .u64 0, .slice none 0 0] 73 6 1 rfl) hone hm1 (by show (s.gs.length + 1) * 56 ≤ _; omega) hB2 ?_
  intro D' c' w8 hown8 hgrow hat
  have hs8 : Step (fun k => blkOf a.A5 = some k) (v1.drew.alloc (.cells #[Value.int .u8 (t : Int), .bool m, .int .u8 65, .int .u64 (n : Int), .int .u64 0, .slice none 0 0] 73)) w8 := Step.refl.grown hgrow (fun k hk => .inl hk)
  rw [show gls s.gs ++ #[Value.int .u8 (t : Int), .bool m, .int .u8 65, .int .u64 (n : Int), .int .u64 0, .slice none 0 0].toList = gls (s.gs ++ [(⟨t, m, 65, n⟩ : Gl)]) by rw [gls_last] <;> rfl, show s.gs.length + 1 = (s.gs ++ [(⟨t, m, 65, n⟩ : Gl)]).length by simp] at hown8
  have hput := HVa.out.put5 hs8 hown8 (fun k hk => by
    rcases hat with e | e
    · exact .inl (by rw [← e]; exact hk)
    · exact .inr (by rw [e] at hk; injection hk with hk; exact Nat.le_of_eq hk))
  replace hput := Lib.hid hput
  rw [show (s.gs ++ [(⟨t, m, 65, n⟩ : Gl)]).length = s.gs.length + 1 by simp] at hput
  have HK8 : Hid (Keeps LK w8) := HKa.out.step hs8 (HLK.out (fun k => blkOf a.A5 = some k) (otag HVc.out.o5 HVc.out.blk (by decide)) (fun e => absurd (hlo5 _ e) (Nat.lt_irrefl _)))
  obtain ⟨z8, c8⟩ := HVa.out.z5 hgrow
  go_simp
  refine hK _ _ (fun hlt => Mix.cl (HK8.out)) ?_
  clear hK K
  clear hown8 hgrow hat hs8 hone
  refine Mix.wpL_reads 3 (by rfl) ?_
  simp only [List.take_succ_cons, List.drop_succ_cons, List.take_zero, List.drop_zero]
  repeat (go_big_quiet_step (fail))
  refine wpQuiet_nil ?_
  refine Mix.wpL_op (by rfl) (fun K hK => ?_)
  go_simp
  refine hK _ _ (fun hlt => absurd hlt (by decide)) ?_
  clear hK K
  refine Mix.wpL_end ?_
  clear d0 d1 d2
  have y18 := hput.out.1.blk.cell 18
  have y5 := hput.out.1.blk.cell 5
  simp [mkC] at y18 y5
  go_wp2_with fail
  go_quiet (fail)
  go_wp2_with fail
  go_ret
  exact ⟨⟨_, rfl⟩, _, hput.out.1.quiet (Step.refl.drewN _), (Upd.after (HS.out.trans (Step.alloc Step.refl.drew _)) hput.out.2).drewN _⟩

set_option maxRecDepth 100000 in
set_option maxHeartbeats 3200000 in
theorem elem_ok (h : Mk w B X a s tk vr) (hB : B ≤ w.heap.size) (hl : s.els.length ≤ 1000) (g f c : Nat) (hg : g < 4294967296) (A : Option Addr) (S : Nat → Prop) (hr : Reads w S 1 A 1 (u32s [f])) :
    Calls Try.prog 26 #[.pointer (some ⟨X, 0, none⟩), .int .u32 (g : Int), .slice A 1 c] w fun e w' => e = .returned (.pointer (some ⟨X, 0, none⟩)) ∧ ∃ a' D e1, Mk w' B X a' { s with els := s.els ++ [⟨g, f, D, e1⟩] } tk vr ∧ Upd w (ftA X a) (ftA X a') w' ∧ Reads w' (fun k => ¬ ftA X a' k ∧ w.heap.size ≤ k) 1 D 1 (u32s [f]) := by
  have hXw := h.blk.lt
  have HV := Lib.hid h
  have hlo8 : ∀ k, blkOf a.A8 = some k → k < w.heap.size := fun k hk => own_lt h.o8 k (by rwa [ownBlock_slice])
  have hfin : Hid (∀ k, ftA X a k → k < w.heap.size) := h.in_
  have HCl : Hid (∀ wz, Step (fun _ => False) w wz → _) := fun wz hz => clone_u32s wz A 1 c S _ (hr.step hz (fun _ _ => id)) (by decide) (u32s_one _)
  have hw := IntWalk.u64_in (g : Int) (by omega)
  have c8 := h.blk.cell 8
  simp [mkC] at c8
  clear h hr
  go_enter Try.func26, Try.ntmps26
  go_wp2_with fail
  obtain ⟨LK, hLK⟩ : ∃ LK : List (Addr × Value), LK = [(⟨X, 8, none⟩, .slice a.A8 s.els.length a.c8)] := ⟨_, rfl⟩
  have HKp : Hid (Keeps LK w) := by rw [hLK]; exact Keeps.cons c8 (Keeps.nil _)
  have d0 : ∀ i : Mix.Cls (Keeps LK), i.val.cell? ⟨X, 8, none⟩ = some (.slice a.A8 s.els.length a.c8) := fun i => i.prop (⟨X, 8, none⟩, .slice a.A8 s.els.length a.c8) (by rw [hLK]; simp)
  have HLK : Hid (∀ F : Nat → Prop, ¬ F X → ∀ p ∈ LK, ¬ F p.1.block) := fun F h0 p hp => by
    rw [hLK] at hp
    simp at hp
    rcases hp with rfl
    · exact h0
  clear hLK c8
  refine Mix.wp_region_mix [10, 12, 13, 17] [10, 12, 13] (Keeps LK) (by kernel_rfl) (by kernel_rfl) (HKp.out) (fun hcls => ?_)
  refine Mix.wpL_reads 10 (by rfl) ?_
  simp only [List.take_succ_cons, List.drop_succ_cons, List.take_zero, List.drop_zero]
  repeat (go_big_quiet_step (fail))
  refine wpQuiet_nil ?_
  refine Mix.wpL_op (by rfl) (fun K hK => ?_)
  go_simp
  refine (HCl.out _ Step.refl.drew).mono ?_
  rintro e w3 ⟨D, e1, rfl, hown, hs⟩
  have hS3 : Step (fun _ => False) w w3 := Step.refl.drew.trans hs
  have hsz3 := hS3.size
  have HK3 : Hid (Keeps LK w3) := HKp.out.step hS3 (fun _ _ => id)
  have HVc := Lib.hid (HV.out.quiet hS3)
  have HD := Lib.hid hown
  have HS3 := Lib.hid hS3
  refine hK _ _ (fun hlt => Mix.cl (HK3.out)) ?_
  clear hK K
  clear hown hs hS3
  refine Mix.wpL_reads 1 (by rfl) ?_
  simp only [List.take_succ_cons, List.drop_succ_cons, List.take_zero, List.drop_zero]
  repeat (go_big_quiet_step (fail))
  refine wpQuiet_nil ?_
  have hB2 : B ≤ (w3.alloc (.cells #[Value.int .u8 35, .int .u64 (g : Int), .int .u64 0, .slice none 0 0, .slice D 1 e1] 79)).heap.size := by simp; omega
  have HKc := HK3
  have hone : ∀ u ∈ #[Value.int .u8 35, .int .u64 (g : Int), .int .u64 0, .slice none 0 0, .slice D 1 e1].toList, u.oneCell' = true := by simp [Value.oneCell']
  have hm1 : s.els.length + 1 ≤ maxLen := by unfold maxLen; omega
  have HKa : Hid (Keeps LK (w3.alloc (.cells #[Value.int .u8 35, .int .u64 (g : Int), .int .u64 0, .slice none 0 0, .slice D 1 e1] 79))) := HKc.out.step (F := fun _ => False) (Step.alloc Step.refl _) (fun _ _ => id)
  refine Mix.wpL_op (by rfl) (fun K hK => ?_)
  go_simp
  refine hK _ _ (fun hlt => Mix.cl (HKa.out)) ?_
  clear hK K
  have HVa : Hid (Mk (w3.alloc (.cells #[Value.int .u8 35, .int .u64 (g : Int), .int .u64 0, .slice none 0 0, .slice D 1 e1] 79)) B X a s tk vr) := HVc.out.quiet (Step.alloc Step.refl _)
  refine Mix.wpL_op (by rfl) (fun K hK => ?_)
  refine step_append_src _ (by rfl) _ _ (by rfl) E_elsL (by rfl) HVa.out.o8 (by rfl) (reads_new w3 #[Value.int .u8 35, .int .u64 (g : Int), .int .u64 0, .slice none 0 0, .slice D 1 e1] 79 5 1 rfl) hone hm1 (by show (s.els.length + 1) * 72 ≤ _; omega) hB2 ?_
  intro D' c' w8 hown8 hgrow hat
  have hs8 : Step (fun k => blkOf a.A8 = some k) (w3.alloc (.cells #[Value.int .u8 35, .int .u64 (g : Int), .int .u64 0, .slice none 0 0, .slice D 1 e1] 79)) w8 := Step.refl.grown hgrow (fun k hk => .inl hk)
  rw [show elsL s.els ++ #[Value.int .u8 35, .int .u64 (g : Int), .int .u64 0, .slice none 0 0, .slice D 1 e1].toList = elsL (s.els ++ [(⟨g, f, D, e1⟩ : El)]) by rw [elsL_last] <;> rfl, show s.els.length + 1 = (s.els ++ [(⟨g, f, D, e1⟩ : El)]).length by simp] at hown8
  have hput := HVa.out.put8 hs8 hown8 (fun k hk => by
    rcases hat with e | e
    · exact .inl (by rw [← e]; exact hk)
    · exact .inr (by rw [e] at hk; injection hk with hk; exact Nat.le_of_eq hk))
  replace hput := Lib.hid hput
  rw [show (s.els ++ [(⟨g, f, D, e1⟩ : El)]).length = s.els.length + 1 by simp] at hput
  have HK8 : Hid (Keeps LK w8) := HKa.out.step hs8 (HLK.out (fun k => blkOf a.A8 = some k) (otag HVc.out.o8 HVc.out.blk (by decide)))
  obtain ⟨z8, c8⟩ := HVa.out.z8 hgrow
  go_simp
  refine hK _ _ (fun hlt => Mix.cl (HK8.out)) ?_
  clear hK K
  have HD8 := Lib.hid (own_step (HD.out.alloc (.cells #[Value.int .u8 35, .int .u64 (g : Int), .int .u64 0, .slice none 0 0, .slice D 1 e1] 79)) hs8 (fun k hk e => own_tag2 HD.out HVc.out.o8 (by decide) k hk (by rwa [ownBlock_slice])))
  clear hown8 hgrow hat hs8 hone
  refine Mix.wpL_reads 3 (by rfl) ?_
  simp only [List.take_succ_cons, List.drop_succ_cons, List.take_zero, List.drop_zero]
  repeat (go_big_quiet_step (fail))
  refine wpQuiet_nil ?_
  refine Mix.wpL_op (by rfl) (fun K hK => ?_)
  go_simp
  refine hK _ _ (fun hlt => absurd hlt (by decide)) ?_
  clear hK K
  refine Mix.wpL_end ?_
  clear d0
  have HD9 := own_set (p := ⟨X, 8, none⟩) HD8.out (by rw [ownBlock_slice]; intro e; have hh : w.heap.size ≤ X := own_ge HD.out X (by rwa [ownBlock_slice]); omega) (.slice D' (s.els.length + 1) c')
  replace HD9 := Lib.hid HD9
  go_wp2_with fail
  go_ret
  refine ⟨rfl, _, D, e1, hput.out.1, Upd.after (HS3.out.trans (Step.alloc Step.refl _)) hput.out.2, ?_⟩
  refine (Reads.of_own HD9.out).mono fun k hk hb => ?_
  have hge : w.heap.size ≤ k := own_ge HD.out k hb
  refine ⟨fun e => ?_, hge⟩
  rw [ownBlock_slice] at hb
  have hA := own_tag2 HD9.out hput.out.1.o8 (by decide) k (by rwa [ownBlock_slice])
  rw [ownBlock_slice] at hA
  have hn : ¬ ftA X a k := fun e => by have := hfin.out k e; omega
  exact hA (new_of e hn)

end
end Go.Proofs.Ytflgpjdpofmbkaa
