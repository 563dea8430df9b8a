/-
  creelref47: count, Type, add.
-/
import Derived.Test.YtflgpjdpofmbkaaCsG
set_option linter.unusedVariables false
set_option linter.unusedSimpArgs false
namespace Go.Proofs.Ytflgpjdpofmbkaa
open Go.RowKit
section
variable (w : World) (a : Ad) (s : Mo) (S : Nat → Prop)

set_option maxRecDepth 100000 in
set_option maxHeartbeats 3200000 in
theorem count_ok (hR : Rf w S a s) (hl : s.is.length ≤ 1000) (kd : Nat) :
    Calls Try.prog 52 #[.agg (mdC a s), .int .u8 (kd : Int)] w fun e w' => (∃ z, e = .returned (.int .i64 z)) ∧ Step (fun _ => False) w w' := by
  obtain ⟨v1, hv1⟩ : ∃ v1, v1 = w.alloc (.cells (mdC a s) 41) := ⟨_, rfl⟩
  have HB : Hid (Blk v1 w.heap.size 41 (mdC a s)) := by rw [hv1]; exact Blk.new w _ _
  have HS : Hid (Step (fun _ => False) w v1) := by rw [hv1]; exact Step.alloc Step.refl _
  have HR := Lib.hid (hR.r1.step HS.out (fun _ _ => id))
  have HE := Lib.hid hv1
  obtain ⟨MA, hMA⟩ : ∃ MA, MA = mdC a s := ⟨_, rfl⟩
  rw [← hMA] at HE HB ⊢
  have HMA := Lib.hid hMA
  clear hR hv1 hMA
  go_enter Try.func52, Try.ntmps52
  go_wp2_with fail
  rw [← HE.out]
  go_loopw [5, 6] (fun nv iv wr => ∃ (z : Int) (j : Nat), j ≤ s.is.length ∧ nv = .int .i64 z ∧ iv = .int .i64 (j : Int) ∧ Hid (Step (fun _ => False) v1 wr)) (fun _ iv _ => s.is.length + 1 - (intOf iv).toNat)
  case atStart => exact ⟨0, 0, Nat.zero_le _, rfl, rfl, Step.refl⟩
  case round =>
    obtain ⟨z, j, hj, rfl, rfl, HSj⟩ := hrel
    have c1 := (HB.out.step HSj.out id).cell 1
    rw [HMA.out] at c1
    simp [mdC] at c1
    by_cases hlt : j < s.is.length
    · have g1 : (j : Int) < (s.is.length : Int) := by omega
      have i0 : (0 : Int) ≤ (j : Int) := by omega
      have hw1 := IntWalk.i64_in ((j : Int) + 1) (by omega)
      obtain ⟨bk, off, hA, _, hbl, hc⟩ := reads_row Im.cells 9 (by decide) Im.len (HR.out.step HSj.out (fun _ _ => id)) (k := j) hlt
      rw [hA] at c1
      have t2 := hc 2 _ rfl
      clear hc hA
      obtain ⟨b, hb⟩ : ∃ b, (((s.is[j].k : Nat) : Int) == (kd : Int)) = b := ⟨_, rfl⟩
      obtain ⟨q, hq⟩ : ∃ q, q = s.is[j].k := ⟨_, rfl⟩
      rw [← hq] at hb t2
      clear hq
      cases b
      · go_wp2_with fail
        go_roundw
        case rel => exact ⟨_, j + 1, by omega, rfl, by rw [Int.natCast_add]; rfl, HSj⟩
        case measure => simp [intOf]; omega
      · go_wp2_with fail
        go_roundw
        case rel => exact ⟨_, j + 1, by omega, rfl, by rw [Int.natCast_add]; rfl, HSj⟩
        case measure => simp [intOf]; omega
    · obtain rfl : j = s.is.length := by omega
      go_wp2_with fail
      go_ret
      exact ⟨⟨_, rfl⟩, HS.out.trans HSj.out⟩

set_option maxRecDepth 100000 in
set_option maxHeartbeats 12800000 in
theorem rtype_ok (hR : Rf w S a s) (hl : s.ts.length ≤ 1000) (x : Ft) :
    Calls Try.prog 37 #[.agg (mdC a s), .agg #[Value.string (str x.p), .string (str x.r)]] w fun e w' => ∃ D c', e = .returned (.tuple #[.agg (mdC { a with A0 := D, c0 := c' } { s with ts := tyL s.ts x }), .int .u32 ((tyI s.ts x : Nat) : Int)]) ∧ Rf w' (fun k => S k ∨ w.heap.size ≤ k) { a with A0 := D, c0 := c' } { s with ts := tyL s.ts x } ∧ Step (fun _ => False) w w' := by
  obtain ⟨v1, hv1⟩ : ∃ v1, v1 = w.alloc (.cells (mdC a s) 41) := ⟨_, rfl⟩
  obtain ⟨v2, hv2⟩ : ∃ v2, v2 = v1.alloc (.cells #[Value.string (str x.p), .string (str x.r)] 46) := ⟨_, rfl⟩
  obtain ⟨v3, hv3⟩ : ∃ v3, v3 = v2.alloc (.cells #[.slice none 0 0, .slice none 0 0, .slice none 0 0, .slice none 0 0, .slice none 0 0, .slice none 0 0, .slice none 0 0, .int .i64 0, .slice none 0 0, .slice none 0 0, .slice none 0 0, .bool false, .int .u32 0, .int .u32 0, .int .u32 0, .int .u32 0, .slice none 0 0] 41) := ⟨_, rfl⟩
  have e1 : v1.heap.size = w.heap.size + 1 := by rw [hv1]; simp
  have e2 : v2.heap.size = w.heap.size + 1 + 1 := by rw [hv2]; simp [e1]
  have hs12 : Step (fun _ => False) v1 v2 := by rw [hv2]; exact Step.alloc Step.refl _
  have hs23 : Step (fun _ => False) v2 v3 := by rw [hv3]; exact Step.alloc Step.refl _
  have HB : Hid (Blk v3 w.heap.size 41 (mdC a s)) := ((by rw [hv1]; exact Blk.new w _ _ : Blk v1 w.heap.size 41 (mdC a s)).step hs12 id).step hs23 id
  have HX : Hid (Blk v3 (w.heap.size + 1) 46 #[Value.string (str x.p), .string (str x.r)]) := by
    have h1 : Blk v2 v1.heap.size 46 #[Value.string (str x.p), .string (str x.r)] := by rw [hv2]; exact Blk.new v1 _ _
    rw [e1] at h1
    exact h1.step hs23 id
  have HZ : Hid (Blk v3 (w.heap.size + 1 + 1) 41 #[.slice none 0 0, .slice none 0 0, .slice none 0 0, .slice none 0 0, .slice none 0 0, .slice none 0 0, .slice none 0 0, .int .i64 0, .slice none 0 0, .slice none 0 0, .slice none 0 0, .bool false, .int .u32 0, .int .u32 0, .int .u32 0, .int .u32 0, .slice none 0 0]) := by
    have h1 : Blk v3 v2.heap.size 41 #[.slice none 0 0, .slice none 0 0, .slice none 0 0, .slice none 0 0, .slice none 0 0, .slice none 0 0, .slice none 0 0, .int .i64 0, .slice none 0 0, .slice none 0 0, .slice none 0 0, .bool false, .int .u32 0, .int .u32 0, .int .u32 0, .int .u32 0, .slice none 0 0] := by rw [hv3]; exact Blk.new v2 _ _
    rwa [e2] at h1
  have HS : Hid (Step (fun _ => False) w v3) := ((by rw [hv1]; exact Step.alloc Step.refl _ : Step (fun _ => False) w v1).trans hs12).trans hs23
  have HRf := Lib.hid hR
  have HR := Lib.hid (hR.r0.step HS.out (fun _ _ => id))
  have HL : Hid (tyI s.ts x = 0 + tyI (s.ts.drop 0) x) := by rw [Hid, List.drop_zero]; omega
  have hle := tyI_le s.ts x
  have HTL : Hid (tyL s.ts x = if tyI s.ts x < s.ts.length then s.ts else s.ts ++ [x]) := by rw [Hid, tyL]
  obtain ⟨q, hq⟩ : ∃ q, q = tyI s.ts x := ⟨_, rfl⟩
  obtain ⟨L', hL'⟩ : ∃ L', L' = tyL s.ts x := ⟨_, rfl⟩
  rw [← hq] at HL hle HTL ⊢
  rw [← hL'] at HTL ⊢
  obtain ⟨N, hN⟩ : ∃ N, N = s.ts.length := ⟨_, rfl⟩
  have HN := Lib.hid hN
  rw [← hN] at hle HTL HR hl
  have HE1 := Lib.hid hv1
  have HE2 := Lib.hid hv2
  have HE3 := Lib.hid hv3
  obtain ⟨MA, hMA⟩ : ∃ MA, MA = mdC a s := ⟨_, rfl⟩
  rw [← hMA] at HE1 HB ⊢
  have HMA := Lib.hid hMA
  have H17 : Hid (MA.size = 17) := by rw [Hid, hMA]; rfl
  have H1 : Hid (MA.all (·.oneCell') = true) := by rw [Hid, hMA]; exact mdC_one a s
  obtain ⟨RR, hRR⟩ : ∃ RR : Value → World → Prop, RR = fun e w' => ∃ D c', e = .tuple #[.agg (mdC { a with A0 := D, c0 := c' } { s with ts := L' }), .int .u32 (q : Int)] ∧ Rf w' (fun k => S k ∨ w.heap.size ≤ k) { a with A0 := D, c0 := c' } { s with ts := L' } ∧ Step (fun _ => False) w w' := ⟨_, rfl⟩
  have HRR := Lib.hid hRR
  refine (show Calls Try.prog 37 #[.agg MA, .agg #[Value.string (str x.p), .string (str x.r)]] w (fun e w' => ∃ v, e = .returned v ∧ RR v w') from ?_ ).mono ?h2
  case h2 =>
    rintro e w' ⟨v, rfl, hv⟩
    rw [HRR.out] at hv
    obtain ⟨D, c', rfl, hv⟩ := hv
    exact ⟨D, c', rfl, hv⟩
  clear hR hv1 hv2 hv3 hMA hq hL' hRR hN hs12 hs23
  go_enter Try.func37, Try.ntmps37
  go_wp2_with fail
  rw [← HE1.out]
  rw [← HE2.out]
  rw [← HE3.out]
  go_loopw [6] (fun iv wr => ∃ j : Nat, j ≤ N ∧ iv = .int .i64 (j : Int) ∧ Hid (q = j + tyI (s.ts.drop j) x) ∧ Hid (Step (fun _ => False) v3 wr)) (fun iv _ => N + 1 - (intOf iv).toNat)
  case atStart => exact ⟨0, Nat.zero_le _, rfl, HL, Step.refl⟩
  case round =>
    obtain ⟨j, hj, rfl, HQ, HSj⟩ := hrel
    have HBj := Lib.hid (HB.out.step HSj.out id)
    have c0 : wr.cell? ⟨w.heap.size, 0, none⟩ = some (.slice a.A0 s.ts.length a.c0) := by have := HBj.out.cell 0; rw [HMA.out] at this; simpa [mdC] using this
    have hXj := HX.out.step HSj.out id
    have x0 := hXj.cell 0
    have x1 := hXj.cell 1
    simp at x0 x1
    have HZj := Lib.hid (HZ.out.step HSj.out id)
    rw [← HN.out] at c0
    clear hXj
    by_cases hlt : j < N
    · have g1 : (j : Int) < (N : Int) := by omega
      have i0 : (0 : Int) ≤ (j : Int) := by omega
      have hw1 := IntWalk.i64_in ((j : Int) + 1) (by omega)
      have hjl : j < s.ts.length := by rw [← HN.out]; exact hlt
      have hd := tyI_drop s.ts x j hjl
      have hr := HR.out.step HSj.out (fun _ _ => id)
      rw [HN.out] at hr
      obtain ⟨bk, off, hA, _, hbl, hc⟩ := reads_row Ft.cells 2 (by decide) Ft.len hr (k := j) hjl
      rw [hA] at c0
      obtain ⟨y, hy⟩ : ∃ y, y = s.ts[j] := ⟨_, rfl⟩
      rw [← hy] at hc hd
      clear hy
      have t0 := hc 0 _ rfl
      have t1 := hc 1 _ rfl
      simp only [Nat.add_zero] at t0
      have HA := Lib.hid hA
      clear hc hr hA
      by_cases he : y.p = x.p ∧ y.r = x.r
      · have f1 := eqS y.p x.p he.1
        have f2 := eqS y.r x.r he.2
        rw [if_pos he] at hd
        have HQ2 : Hid (q = j) := by have := HQ.out; rw [hd] at this; exact this
        have HP := Lib.hid he
        have hw3 := IntWalk.u32_in (j : Int) (by omega)
        clear hd he HQ
        go_wp2_with fail
        go_quiet (fail)
        obtain ⟨wq, hwq⟩ : ∃ wq, wq = wr.drewN nq := ⟨_, rfl⟩
        have HSq : Hid (Step (fun _ => False) v3 wq) := by rw [hwq]; exact HSj.out.drewN _
        have HZq : Hid (Blk wq (w.heap.size + 1 + 1) 41 #[.slice none 0 0, .slice none 0 0, .slice none 0 0, .slice none 0 0, .slice none 0 0, .slice none 0 0, .slice none 0 0, .int .i64 0, .slice none 0 0, .slice none 0 0, .slice none 0 0, .bool false, .int .u32 0, .int .u32 0, .int .u32 0, .int .u32 0, .slice none 0 0]) := by rw [hwq]; exact HZj.out.drewN _
        have HBq : Hid (Blk wq w.heap.size 41 MA) := by rw [hwq]; exact HBj.out.drewN _
        rw [← hwq]
        clear hwq c0 t0 t1 x0 x1
        go_wp2_with (first | (refine ld_mod rfl _ rfl _ rfl MA HBq.out H17.out ?_) | (refine st_mod rfl _ _ rfl rfl ((w.heap.size + 1 + 1)) rfl MA rfl HZq.out rfl H17.out H1.out ?_))
        refine bodyPost_ret (v := .tuple #[.agg MA, .int .u32 (j : Int)]) (res_mod2 Try.results37 ((w.heap.size + 1 + 1)) rfl rfl (Blk.row HZq.out MA) H17.out) rfl ?_
        have hLs : L' = s.ts := by rw [HTL.out, if_pos (by rw [HQ2.out]; exact hlt)]
        have hst := (HS.out.trans HSq.out).setRow (g := w.heap.size + 1 + 1) (.inr (by omega)) MA
        refine ⟨_, rfl, ?_⟩
        rw [HRR.out]
        refine ⟨a.A0, a.c0, ?_, ?_, ?_⟩
        · rw [hLs, HQ2.out, HMA.out]
        · rw [hLs]
          exact (HRf.out.step hst (fun _ _ => id)).mono (fun _ _ => .inl)
        · exact hst
      · have hd2 : tyI (s.ts.drop j) x = tyI (s.ts.drop (j + 1)) x + 1 := by rw [hd, if_neg he]
        have HQ2 : Hid (q = j + 1 + tyI (s.ts.drop (j + 1)) x) := by have := HQ.out; rw [hd2] at this; rw [Hid]; omega
        clear hd hd2 HQ
        by_cases h1 : y.p = x.p
        · have h2 : ¬ y.r = x.r := fun h2 => he ⟨h1, h2⟩
          clear he
          have f1 := eqS y.p x.p h1
          have f2 := neS y.r x.r h2
          replace h1 := Lib.hid h1
          replace h2 := Lib.hid h2
          go_wp2_with fail
          go_quiet (fail)
          go_wp2_with fail
          go_roundw
          case rel => exact ⟨j + 1, by omega, by rw [Int.natCast_add]; rfl, HQ2, HSj.out.drewN _⟩
          case measure => simp [intOf]; omega
        · clear he
          by_cases h2 : y.r = x.r
          · have f1 := neS y.p x.p h1
            have f2 := eqS y.r x.r h2
            replace h1 := Lib.hid h1
            replace h2 := Lib.hid h2
            go_wp2_with fail
            go_quiet (fail)
            go_wp2_with fail
            go_roundw
            case rel => exact ⟨j + 1, by omega, by rw [Int.natCast_add]; rfl, HQ2, HSj.out.drewN _⟩
            case measure => simp [intOf]; omega
          · have f1 := neS y.p x.p h1
            have f2 := neS y.r x.r h2
            replace h1 := Lib.hid h1
            replace h2 := Lib.hid h2
            go_wp2_with fail
            go_quiet (fail)
            go_wp2_with fail
            go_roundw
            case rel => exact ⟨j + 1, by omega, by rw [Int.natCast_add]; rfl, HQ2, HSj.out.drewN _⟩
            case measure => simp [intOf]; omega
    · obtain rfl : j = N := by omega
      have hqn : q = j := by have := HQ.out; rw [List.drop_of_length_le (by rw [← HN.out]; omega), tyI] at this; exact this
      have HQ2 := Lib.hid hqn
      have HSw := Lib.hid (HS.out.trans HSj.out)
      clear hqn HQ
      have hsrc := HR.out.step HSj.out (fun _ _ => id)
      have hone1 := fts_one s.ts
      have hone2 : ∀ u ∈ #[Value.string (str x.p), .string (str x.r)].toList, u.oneCell' = true := by simp [Value.oneCell']
      have hm1 : 0 + j ≤ maxLen := by unfold maxLen; omega
      have hm2 : j + 1 ≤ maxLen := by unfold maxLen; omega
      have hBs := HBj.out
      go_wp2_with fail
      have dd0 := cls_cell (F := fun _ => False) c0 id
      have dx0 := cls_cell (F := fun _ => False) x0 id
      have dx1 := cls_cell (F := fun _ => False) x1 id
      clear x0 x1 c0
      have hz1 : (wr.alloc (.cells #[Value.string (str x.p), .string (str x.r)] 46)).heap.size = wr.heap.size + 1 := by simp
      have hz0 : (wr.alloc (.cells #[] 46)).heap.size = wr.heap.size + 1 := by simp
      have hfA : (wr.alloc (.cells #[] 46)).drew.ownsRow wr.heap.size 46 2 (.slice (some ⟨wr.heap.size, 0, none⟩) 0 0) 0 [] := own_drew (own_fresh 2 (Nat.le_refl _))
      have hrA := hsrc.step (F := fun _ => False) (Step.drew (Step.alloc Step.refl (.cells #[] 46))) (fun _ _ => id)
      have hfB : ((wr.alloc (.cells #[] 46)).alloc (.cells #[Value.string (str x.p), .string (str x.r)] 46)).drew.ownsRow wr.heap.size 46 2 (.slice (some ⟨wr.heap.size, 0, none⟩) 0 0) 0 [] := own_drew ((own_fresh 2 (Nat.le_refl _)).alloc _)
      have hrB := hsrc.step (F := fun _ => False) (Step.drew (Step.alloc (Step.alloc Step.refl (.cells #[] 46)) (.cells #[Value.string (str x.p), .string (str x.r)] 46))) (fun _ _ => id)
      have hxB := (reads_new (wr.alloc (.cells #[] 46)) #[Value.string (str x.p), .string (str x.r)] 46 2 1 rfl).drew
      have hfC : ((wr.alloc (.cells #[Value.string (str x.p), .string (str x.r)] 46)).alloc (.cells #[] 46)).drew.ownsRow wr.heap.size 46 2 (.slice (some ⟨wr.heap.size + 1, 0, none⟩) 0 0) 0 [] := by
        have := own_drew (own_fresh (w := wr.alloc (.cells #[Value.string (str x.p), .string (str x.r)] 46)) (e := 46) (base := wr.heap.size) 2 (by omega))
        rwa [hz1] at this
      have hrC := hsrc.step (F := fun _ => False) (Step.drew (Step.alloc (Step.alloc Step.refl (.cells #[Value.string (str x.p), .string (str x.r)] 46)) (.cells #[] 46))) (fun _ _ => id)
      have hxC := ((reads_new wr #[Value.string (str x.p), .string (str x.r)] 46 2 1 rfl).step (F := fun _ => False) (Step.alloc Step.refl (.cells #[] 46)) (fun _ _ => id)).drew
      rw [hz0] at hxB
      refine Mxt.wp_region_tree [0, 3, 5, 6, 8] [0, 3, 5, 6] (.fork (.op 0 (.reads [1, 2] (.fork (.op 3 (.reads [4] (.op 5 (.op 6 (.reads [7] (.op 8 .leaf)))))) (.reads [4] (.op 5 (.op 3 (.op 6 (.reads [7] (.op 8 .leaf))))))))) (.reads [4] (.op 5 (.reads [1, 2] (.op 0 (.op 3 (.op 6 (.reads [7] (.op 8 .leaf))))))))) (Step (fun _ => False) wr) (by kernel_rfl) (by kernel_rfl) Step.refl.drew (fun hcls => ?_)
      refine Mxt.wpTL_fork ?_ ?_
      · refine Mxt.wpTL_op (by rfl) (fun K hK => ?_)
        go_simp
        refine hK _ _ (fun hlt => Mix.cl (Step.drew (Step.alloc Step.refl _))) ?_
        clear hK K
        refine Mxt.wpTL_reads ?_
        simp only [List.flatMap_cons, List.flatMap_nil, List.getElem?_cons_succ, List.getElem?_cons_zero, Option.toList_some, List.cons_append, List.nil_append]
        repeat (go_big_quiet_step (fail))
        refine wpQuiet_nil ?_
        refine Mxt.wpTL_fork ?_ ?_
        · refine Mxt.wpTL_op (by rfl) (fun K hK => ?_)
          refine step_append_new (w0 := wr) (by rfl) _ _ (by rfl) E_fts (Step.drew (Step.alloc Step.refl _)) (by rfl) (hfA) (by rfl) (hrA) hone1 hm1 (by omega) ?_
          intro D1 c1 W1 hown1 hS1 hgrow1 hat1
          refine hK _ _ (fun hlt => Mix.cl hS1) ?_
          clear hK K
          simp only [Act.put, List.setIfInBounds_toArray, List.set_cons_succ, List.set_cons_zero, Nat.zero_add]
          simp only [Nat.zero_add] at hown1
          refine Mxt.wpTL_reads ?_
          simp only [List.flatMap_cons, List.flatMap_nil, List.getElem?_cons_succ, List.getElem?_cons_zero, Option.toList_some, List.cons_append, List.nil_append]
          repeat (go_big_quiet_step (fail))
          refine wpQuiet_nil ?_
          refine Mxt.wpTL_op (by rfl) (fun K hK => ?_)
          go_simp
          refine hK _ _ (fun hlt => Mix.cl (Step.alloc hS1 _)) ?_
          clear hK K
          refine Mxt.wpTL_op (by rfl) (fun K hK => ?_)
          refine step_append_new (w0 := wr) (by rfl) _ _ (by rfl) E_fts (Step.alloc hS1 _) (by rfl) (hown1.alloc _) (by rfl) (reads_new W1 #[Value.string (str x.p), .string (str x.r)] 46 2 1 rfl) hone2 hm2 (by omega) ?_
          intro D2 c2 W2 hown2 hS2 hgrow2 hat2
          refine hK _ _ (fun hlt => Mix.cl hS2) ?_
          clear hK K
          simp only [Act.put, List.setIfInBounds_toArray, List.set_cons_succ, List.set_cons_zero, Nat.zero_add]
          refine Mxt.wpTL_reads ?_
          simp only [List.flatMap_cons, List.flatMap_nil, List.getElem?_cons_succ, List.getElem?_cons_zero, Option.toList_some, List.cons_append, List.nil_append]
          repeat (go_big_quiet_step (fail))
          refine wpQuiet_nil ?_
          have hB2 := HBj.out.step hS2 id
          have z0 := hB2.frozen 0
          have c0 := hB2.cell 0
          rw [HMA.out] at c0
          simp [mdC] at c0
          refine Mxt.wpTL_op (by rfl) (fun K hK => ?_)
          go_simp
          refine hK _ _ (fun hlt => absurd hlt (by decide)) ?_
          clear hK K z0 c0
          refine Mxt.wpTL_leaf ?_
          as_aux_lemma =>
          obtain ⟨W3, hW3⟩ : ∃ W3, W3 = W2.setCell ⟨w.heap.size, 0, none⟩ (.slice D2 (j + 1) c2) := ⟨_, rfl⟩
          obtain ⟨MB, hMB⟩ : ∃ MB, MB = mdC { a with A0 := D2, c0 := c2 } { s with ts := s.ts ++ [x] } := ⟨_, rfl⟩
          have HMB := Lib.hid hMB
          have H17b : Hid (MB.size = 17) := by rw [Hid, hMB]; rfl
          have H1b : Hid (MB.all (·.oneCell') = true) := by rw [Hid, hMB]; exact mdC_one _ _
          have HB3 : Hid (Blk W3 (w.heap.size) 41 MB) := by
            have := hB2.set_ 0 (.slice D2 (j + 1) c2)
            rw [← hW3, HMA.out] at this
            simp [mdC] at this
            rw [hMB]
            simp [mdC]
            rw [← HN.out]
            exact this
          have HZ3 : Hid (Blk W3 ((w.heap.size + 1 + 1)) 41 #[.slice none 0 0, .slice none 0 0, .slice none 0 0, .slice none 0 0, .slice none 0 0, .slice none 0 0, .slice none 0 0, .int .i64 0, .slice none 0 0, .slice none 0 0, .slice none 0 0, .bool false, .int .u32 0, .int .u32 0, .int .u32 0, .int .u32 0, .slice none 0 0]) := by rw [hW3]; exact (HZj.out.step hS2 id).far (by show ((w.heap.size + 1 + 1) : Nat) ≠ w.heap.size; omega) _
          have HO3 : Hid (W3.ownsRow w.heap.size 46 2 (.slice D2 (j + 1) c2) (j + 1) (fts (s.ts ++ [x]))) := by
            rw [hW3, fts_last]
            exact own_set (own_base hown2 (fun k hk => by have h1 := own_ge hown2 k hk; have h2 := HSw.out.size; omega)) (otag hown2 hB2 (by decide) |> fun h e => h (by rwa [ownBlock_slice] at e)) _
          have HS3 : Hid (Step (fun _ => False) w W3) := by rw [hW3]; exact (HSw.out.trans hS2).setCell (.inr (by simp)) _
          have c0 := HB3.out.cell 0
          rw [hMB] at c0
          simp [mdC] at c0
          rw [← hW3]
          clear hW3 hB2 hown1 hown2 hS1 hS2 hgrow1 hgrow2 hat1 hat2 hMB
          rw [← HN.out] at c0
          go_wp2_with fail
          have hw4 := IntWalk.i64_in ((j : Int) + 1 - 1) (by omega)
          have hw5 := IntWalk.u32_in (j : Int) (by omega)
          have hWR : w.heap.size ≠ w.heap.size + 1 + 1 := by omega
          have d0 := cls_cell (F := fun k => k = w.heap.size + 1 + 1) c0 hWR
          clear c0
          refine Mix.wp_region_mix [6] [6] (Step (fun k => k = w.heap.size + 1 + 1) W3) (by kernel_rfl) (by kernel_rfl) (Step.refl.drew) (fun hcls => ?_)
          refine Mix.wpL_reads 6 (by rfl) ?_
          simp only [List.take_succ_cons, List.drop_succ_cons, List.take_zero, List.drop_zero]
          repeat (first | (refine BigFrame.wpQuiet_want (by rfl) (fun K hK => quiet_ld_mod _ rfl (w.heap.size) rfl MB (fun w1 ⟨i, e⟩ => by rw [e]; exact HB3.out.step i.prop hWR) H17b.out (hK _ ?_)); clear hK K; simp only [Act.put, List.setIfInBounds_toArray, List.set_cons_succ, List.set_cons_zero]) | (go_big_quiet_step (fail)))
          refine wpQuiet_nil ?_
          refine Mix.wpL_op (by rfl) (fun K hK => ?_)
          refine wp_st_mod _ _ rfl rfl (w.heap.size + 1 + 1) rfl MB rfl HZ3.out rfl H17b.out H1b.out ?_
          refine hK _ _ (fun hlt => Mix.cl (Step.setRow (F := fun k => k = w.heap.size + 1 + 1) (g := w.heap.size + 1 + 1) Step.refl.drew (.inl rfl) _)) ?_
          clear hK K
          refine Mix.wpL_reads 1 (by rfl) ?_
          simp only [List.take_succ_cons, List.drop_succ_cons, List.take_zero, List.drop_zero]
          repeat (go_big_quiet_step (fail))
          refine wpQuiet_nil ?_
          refine Mix.wpL_end ?_
          clear d0
          go_wp2_with fail
          refine bodyPost_ret (v := .tuple #[.agg MB, .int .u32 (j : Int)]) (res_mod2 Try.results37 (w.heap.size + 1 + 1) rfl rfl (Blk.row (HZ3.out : Blk W3.drew _ _ _) MB) H17b.out) rfl ?_
          have hLs : L' = s.ts ++ [x] := by rw [HTL.out, if_neg (by rw [HQ2.out]; exact hlt)]
          have hst := (HS3.out.drew).setRow (g := w.heap.size + 1 + 1) (.inr (by omega)) MB
          refine ⟨_, rfl, ?_⟩
          rw [HRR.out]
          refine ⟨D2, c2, ?_, ?_, ?_⟩
          · rw [hLs, HQ2.out, HMB.out]
          · have ho := own_step HO3.out (Step.setRow (F := fun k => k = w.heap.size + 1 + 1) Step.refl.drew (.inl rfl) MB) (fun k hk e => by subst e; exact own_tag HO3.out HZ3.out (by decide) hk)
            rw [hLs]
            refine HRf.out.with0 hst ?_
            rw [List.length_append, ← HN.out]
            exact (Reads.of_own ho).mono fun k _ hk => own_ge ho k hk
          · exact hst
        · refine Mxt.wpTL_reads ?_
          simp only [List.flatMap_cons, List.flatMap_nil, List.getElem?_cons_succ, List.getElem?_cons_zero, Option.toList_some, List.cons_append, List.nil_append]
          repeat (go_big_quiet_step (fail))
          refine wpQuiet_nil ?_
          refine Mxt.wpTL_op (by rfl) (fun K hK => ?_)
          go_simp
          refine hK _ _ (fun hlt => Mix.cl (Step.drew (Step.alloc (Step.alloc Step.refl _) _))) ?_
          clear hK K
          refine Mxt.wpTL_op (by rfl) (fun K hK => ?_)
          refine step_append_new (w0 := wr) (by rfl) _ _ (by rfl) E_fts (Step.drew (Step.alloc (Step.alloc Step.refl _) _)) (by rfl) (hfB) (by rfl) (hrB) hone1 hm1 (by omega) ?_
          intro D1 c1 W1 hown1 hS1 hgrow1 hat1
          refine hK _ _ (fun hlt => Mix.cl hS1) ?_
          clear hK K
          simp only [Act.put, List.setIfInBounds_toArray, List.set_cons_succ, List.set_cons_zero, Nat.zero_add]
          simp only [Nat.zero_add] at hown1
          have hx1 := hxB.step (Step.grown (F := fun k => blkOf (some (⟨wr.heap.size, 0, none⟩ : Addr)) = some k) Step.refl hgrow1 (fun k hk => .inl hk)) (fun k hk e => by simp [blkOf] at e; omega)
          refine Mxt.wpTL_op (by rfl) (fun K hK => ?_)
          refine step_append_new (w0 := wr) (by rfl) _ _ (by rfl) E_fts (hS1) (by rfl) (hown1) (by rfl) (hx1) hone2 hm2 (by omega) ?_
          intro D2 c2 W2 hown2 hS2 hgrow2 hat2
          refine hK _ _ (fun hlt => Mix.cl hS2) ?_
          clear hK K
          simp only [Act.put, List.setIfInBounds_toArray, List.set_cons_succ, List.set_cons_zero, Nat.zero_add]
          refine Mxt.wpTL_reads ?_
          simp only [List.flatMap_cons, List.flatMap_nil, List.getElem?_cons_succ, List.getElem?_cons_zero, Option.toList_some, List.cons_append, List.nil_append]
          repeat (go_big_quiet_step (fail))
          refine wpQuiet_nil ?_
          have hB2 := HBj.out.step hS2 id
          have z0 := hB2.frozen 0
          have c0 := hB2.cell 0
          rw [HMA.out] at c0
          simp [mdC] at c0
          refine Mxt.wpTL_op (by rfl) (fun K hK => ?_)
          go_simp
          refine hK _ _ (fun hlt => absurd hlt (by decide)) ?_
          clear hK K z0 c0
          refine Mxt.wpTL_leaf ?_
          as_aux_lemma =>
          obtain ⟨W3, hW3⟩ : ∃ W3, W3 = W2.setCell ⟨w.heap.size, 0, none⟩ (.slice D2 (j + 1) c2) := ⟨_, rfl⟩
          obtain ⟨MB, hMB⟩ : ∃ MB, MB = mdC { a with A0 := D2, c0 := c2 } { s with ts := s.ts ++ [x] } := ⟨_, rfl⟩
          have HMB := Lib.hid hMB
          have H17b : Hid (MB.size = 17) := by rw [Hid, hMB]; rfl
          have H1b : Hid (MB.all (·.oneCell') = true) := by rw [Hid, hMB]; exact mdC_one _ _
          have HB3 : Hid (Blk W3 (w.heap.size) 41 MB) := by
            have := hB2.set_ 0 (.slice D2 (j + 1) c2)
            rw [← hW3, HMA.out] at this
            simp [mdC] at this
            rw [hMB]
            simp [mdC]
            rw [← HN.out]
            exact this
          have HZ3 : Hid (Blk W3 ((w.heap.size + 1 + 1)) 41 #[.slice none 0 0, .slice none 0 0, .slice none 0 0, .slice none 0 0, .slice none 0 0, .slice none 0 0, .slice none 0 0, .int .i64 0, .slice none 0 0, .slice none 0 0, .slice none 0 0, .bool false, .int .u32 0, .int .u32 0, .int .u32 0, .int .u32 0, .slice none 0 0]) := by rw [hW3]; exact (HZj.out.step hS2 id).far (by show ((w.heap.size + 1 + 1) : Nat) ≠ w.heap.size; omega) _
          have HO3 : Hid (W3.ownsRow w.heap.size 46 2 (.slice D2 (j + 1) c2) (j + 1) (fts (s.ts ++ [x]))) := by
            rw [hW3, fts_last]
            exact own_set (own_base hown2 (fun k hk => by have h1 := own_ge hown2 k hk; have h2 := HSw.out.size; omega)) (otag hown2 hB2 (by decide) |> fun h e => h (by rwa [ownBlock_slice] at e)) _
          have HS3 : Hid (Step (fun _ => False) w W3) := by rw [hW3]; exact (HSw.out.trans hS2).setCell (.inr (by simp)) _
          have c0 := HB3.out.cell 0
          rw [hMB] at c0
          simp [mdC] at c0
          rw [← hW3]
          clear hW3 hB2 hown1 hown2 hS1 hS2 hgrow1 hgrow2 hat1 hat2 hMB
          rw [← HN.out] at c0
          go_wp2_with fail
          have hw4 := IntWalk.i64_in ((j : Int) + 1 - 1) (by omega)
          have hw5 := IntWalk.u32_in (j : Int) (by omega)
          have hWR : w.heap.size ≠ w.heap.size + 1 + 1 := by omega
          have d0 := cls_cell (F := fun k => k = w.heap.size + 1 + 1) c0 hWR
          clear c0
          refine Mix.wp_region_mix [6] [6] (Step (fun k => k = w.heap.size + 1 + 1) W3) (by kernel_rfl) (by kernel_rfl) (Step.refl.drew) (fun hcls => ?_)
          refine Mix.wpL_reads 6 (by rfl) ?_
          simp only [List.take_succ_cons, List.drop_succ_cons, List.take_zero, List.drop_zero]
          repeat (first | (refine BigFrame.wpQuiet_want (by rfl) (fun K hK => quiet_ld_mod _ rfl (w.heap.size) rfl MB (fun w1 ⟨i, e⟩ => by rw [e]; exact HB3.out.step i.prop hWR) H17b.out (hK _ ?_)); clear hK K; simp only [Act.put, List.setIfInBounds_toArray, List.set_cons_succ, List.set_cons_zero]) | (go_big_quiet_step (fail)))
          refine wpQuiet_nil ?_
          refine Mix.wpL_op (by rfl) (fun K hK => ?_)
          refine wp_st_mod _ _ rfl rfl (w.heap.size + 1 + 1) rfl MB rfl HZ3.out rfl H17b.out H1b.out ?_
          refine hK _ _ (fun hlt => Mix.cl (Step.setRow (F := fun k => k = w.heap.size + 1 + 1) (g := w.heap.size + 1 + 1) Step.refl.drew (.inl rfl) _)) ?_
          clear hK K
          refine Mix.wpL_reads 1 (by rfl) ?_
          simp only [List.take_succ_cons, List.drop_succ_cons, List.take_zero, List.drop_zero]
          repeat (go_big_quiet_step (fail))
          refine wpQuiet_nil ?_
          refine Mix.wpL_end ?_
          clear d0
          go_wp2_with fail
          refine bodyPost_ret (v := .tuple #[.agg MB, .int .u32 (j : Int)]) (res_mod2 Try.results37 (w.heap.size + 1 + 1) rfl rfl (Blk.row (HZ3.out : Blk W3.drew _ _ _) MB) H17b.out) rfl ?_
          have hLs : L' = s.ts ++ [x] := by rw [HTL.out, if_neg (by rw [HQ2.out]; exact hlt)]
          have hst := (HS3.out.drew).setRow (g := w.heap.size + 1 + 1) (.inr (by omega)) MB
          refine ⟨_, rfl, ?_⟩
          rw [HRR.out]
          refine ⟨D2, c2, ?_, ?_, ?_⟩
          · rw [hLs, HQ2.out, HMB.out]
          · have ho := own_step HO3.out (Step.setRow (F := fun k => k = w.heap.size + 1 + 1) Step.refl.drew (.inl rfl) MB) (fun k hk e => by subst e; exact own_tag HO3.out HZ3.out (by decide) hk)
            rw [hLs]
            refine HRf.out.with0 hst ?_
            rw [List.length_append, ← HN.out]
            exact (Reads.of_own ho).mono fun k _ hk => own_ge ho k hk
          · exact hst
      · refine Mxt.wpTL_reads ?_
        simp only [List.flatMap_cons, List.flatMap_nil, List.getElem?_cons_succ, List.getElem?_cons_zero, Option.toList_some, List.cons_append, List.nil_append]
        repeat (go_big_quiet_step (fail))
        refine wpQuiet_nil ?_
        refine Mxt.wpTL_op (by rfl) (fun K hK => ?_)
        go_simp
        refine hK _ _ (fun hlt => Mix.cl (Step.drew (Step.alloc Step.refl _))) ?_
        clear hK K
        refine Mxt.wpTL_reads ?_
        simp only [List.flatMap_cons, List.flatMap_nil, List.getElem?_cons_succ, List.getElem?_cons_zero, Option.toList_some, List.cons_append, List.nil_append]
        repeat (go_big_quiet_step (fail))
        refine wpQuiet_nil ?_
        refine Mxt.wpTL_op (by rfl) (fun K hK => ?_)
        go_simp
        refine hK _ _ (fun hlt => Mix.cl (Step.drew (Step.alloc (Step.alloc Step.refl _) _))) ?_
        clear hK K
        refine Mxt.wpTL_op (by rfl) (fun K hK => ?_)
        refine step_append_new (w0 := wr) (by rfl) _ _ (by rfl) E_fts (Step.drew (Step.alloc (Step.alloc Step.refl _) _)) (by rfl) (hfC) (by rfl) (hrC) hone1 hm1 (by omega) ?_
        intro D1 c1 W1 hown1 hS1 hgrow1 hat1
        refine hK _ _ (fun hlt => Mix.cl hS1) ?_
        clear hK K
        simp only [Act.put, List.setIfInBounds_toArray, List.set_cons_succ, List.set_cons_zero, Nat.zero_add]
        simp only [Nat.zero_add] at hown1
        have hx1 := hxC.step (Step.grown (F := fun k => blkOf (some (⟨wr.heap.size + 1, 0, none⟩ : Addr)) = some k) Step.refl hgrow1 (fun k hk => .inl hk)) (fun k hk e => by simp [blkOf] at e; omega)
        refine Mxt.wpTL_op (by rfl) (fun K hK => ?_)
        refine step_append_new (w0 := wr) (by rfl) _ _ (by rfl) E_fts (hS1) (by rfl) (hown1) (by rfl) (hx1) hone2 hm2 (by omega) ?_
        intro D2 c2 W2 hown2 hS2 hgrow2 hat2
        refine hK _ _ (fun hlt => Mix.cl hS2) ?_
        clear hK K
        simp only [Act.put, List.setIfInBounds_toArray, List.set_cons_succ, List.set_cons_zero, Nat.zero_add]
        refine Mxt.wpTL_reads ?_
        simp only [List.flatMap_cons, List.flatMap_nil, List.getElem?_cons_succ, List.getElem?_cons_zero, Option.toList_some, List.cons_append, List.nil_append]
        repeat (go_big_quiet_step (fail))
        refine wpQuiet_nil ?_
        have hB2 := HBj.out.step hS2 id
        have z0 := hB2.frozen 0
        have c0 := hB2.cell 0
        rw [HMA.out] at c0
        simp [mdC] at c0
        refine Mxt.wpTL_op (by rfl) (fun K hK => ?_)
        go_simp
        refine hK _ _ (fun hlt => absurd hlt (by decide)) ?_
        clear hK K z0 c0
        refine Mxt.wpTL_leaf ?_
        as_aux_lemma =>
        obtain ⟨W3, hW3⟩ : ∃ W3, W3 = W2.setCell ⟨w.heap.size, 0, none⟩ (.slice D2 (j + 1) c2) := ⟨_, rfl⟩
        obtain ⟨MB, hMB⟩ : ∃ MB, MB = mdC { a with A0 := D2, c0 := c2 } { s with ts := s.ts ++ [x] } := ⟨_, rfl⟩
        have HMB := Lib.hid hMB
        have H17b : Hid (MB.size = 17) := by rw [Hid, hMB]; rfl
        have H1b : Hid (MB.all (·.oneCell') = true) := by rw [Hid, hMB]; exact mdC_one _ _
        have HB3 : Hid (Blk W3 (w.heap.size) 41 MB) := by
          have := hB2.set_ 0 (.slice D2 (j + 1) c2)
          rw [← hW3, HMA.out] at this
          simp [mdC] at this
          rw [hMB]
          simp [mdC]
          rw [← HN.out]
          exact this
        have HZ3 : Hid (Blk W3 ((w.heap.size + 1 + 1)) 41 #[.slice none 0 0, .slice none 0 0, .slice none 0 0, .slice none 0 0, .slice none 0 0, .slice none 0 0, .slice none 0 0, .int .i64 0, .slice none 0 0, .slice none 0 0, .slice none 0 0, .bool false, .int .u32 0, .int .u32 0, .int .u32 0, .int .u32 0, .slice none 0 0]) := by rw [hW3]; exact (HZj.out.step hS2 id).far (by show ((w.heap.size + 1 + 1) : Nat) ≠ w.heap.size; omega) _
        have HO3 : Hid (W3.ownsRow w.heap.size 46 2 (.slice D2 (j + 1) c2) (j + 1) (fts (s.ts ++ [x]))) := by
          rw [hW3, fts_last]
          exact own_set (own_base hown2 (fun k hk => by have h1 := own_ge hown2 k hk; have h2 := HSw.out.size; omega)) (otag hown2 hB2 (by decide) |> fun h e => h (by rwa [ownBlock_slice] at e)) _
        have HS3 : Hid (Step (fun _ => False) w W3) := by rw [hW3]; exact (HSw.out.trans hS2).setCell (.inr (by simp)) _
        have c0 := HB3.out.cell 0
        rw [hMB] at c0
        simp [mdC] at c0
        rw [← hW3]
        clear hW3 hB2 hown1 hown2 hS1 hS2 hgrow1 hgrow2 hat1 hat2 hMB
        rw [← HN.out] at c0
        go_wp2_with fail
        have hw4 := IntWalk.i64_in ((j : Int) + 1 - 1) (by omega)
        have hw5 := IntWalk.u32_in (j : Int) (by omega)
        have hWR : w.heap.size ≠ w.heap.size + 1 + 1 := by omega
        have d0 := cls_cell (F := fun k => k = w.heap.size + 1 + 1) c0 hWR
        clear c0
        refine Mix.wp_region_mix [6] [6] (Step (fun k => k = w.heap.size + 1 + 1) W3) (by kernel_rfl) (by kernel_rfl) (Step.refl.drew) (fun hcls => ?_)
        refine Mix.wpL_reads 6 (by rfl) ?_
        simp only [List.take_succ_cons, List.drop_succ_cons, List.take_zero, List.drop_zero]
        repeat (first | (refine BigFrame.wpQuiet_want (by rfl) (fun K hK => quiet_ld_mod _ rfl (w.heap.size) rfl MB (fun w1 ⟨i, e⟩ => by rw [e]; exact HB3.out.step i.prop hWR) H17b.out (hK _ ?_)); clear hK K; simp only [Act.put, List.setIfInBounds_toArray, List.set_cons_succ, List.set_cons_zero]) | (go_big_quiet_step (fail)))
        refine wpQuiet_nil ?_
        refine Mix.wpL_op (by rfl) (fun K hK => ?_)
        refine wp_st_mod _ _ rfl rfl (w.heap.size + 1 + 1) rfl MB rfl HZ3.out rfl H17b.out H1b.out ?_
        refine hK _ _ (fun hlt => Mix.cl (Step.setRow (F := fun k => k = w.heap.size + 1 + 1) (g := w.heap.size + 1 + 1) Step.refl.drew (.inl rfl) _)) ?_
        clear hK K
        refine Mix.wpL_reads 1 (by rfl) ?_
        simp only [List.take_succ_cons, List.drop_succ_cons, List.take_zero, List.drop_zero]
        repeat (go_big_quiet_step (fail))
        refine wpQuiet_nil ?_
        refine Mix.wpL_end ?_
        clear d0
        go_wp2_with fail
        refine bodyPost_ret (v := .tuple #[.agg MB, .int .u32 (j : Int)]) (res_mod2 Try.results37 (w.heap.size + 1 + 1) rfl rfl (Blk.row (HZ3.out : Blk W3.drew _ _ _) MB) H17b.out) rfl ?_
        have hLs : L' = s.ts ++ [x] := by rw [HTL.out, if_neg (by rw [HQ2.out]; exact hlt)]
        have hst := (HS3.out.drew).setRow (g := w.heap.size + 1 + 1) (.inr (by omega)) MB
        refine ⟨_, rfl, ?_⟩
        rw [HRR.out]
        refine ⟨D2, c2, ?_, ?_, ?_⟩
        · rw [hLs, HQ2.out, HMB.out]
        · have ho := own_step HO3.out (Step.setRow (F := fun k => k = w.heap.size + 1 + 1) Step.refl.drew (.inl rfl) MB) (fun k hk e => by subst e; exact own_tag HO3.out HZ3.out (by decide) hk)
          rw [hLs]
          refine HRf.out.with0 hst ?_
          rw [List.length_append, ← HN.out]
          exact (Reads.of_own ho).mono fun k _ hk => own_ge ho k hk
        · exact hst
end
end Go.Proofs.Ytflgpjdpofmbkaa
