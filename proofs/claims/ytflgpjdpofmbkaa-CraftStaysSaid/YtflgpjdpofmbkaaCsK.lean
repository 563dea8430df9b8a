/-
  creelref47: Func.
-/
import Derived.Test.YtflgpjdpofmbkaaCsJ
set_option linter.unusedVariables false
set_option linter.unusedSimpArgs false
namespace Go.Proofs.Ytflgpjdpofmbkaa
open Go.RowKit
/-- The loop over the locals (the document's): round j. -/
structure Fr (w v : World) (lo : List UInt8) (C : Nat) (D3 : Option Addr) (c3 N : Nat) (bx : List Value) (j : Nat) (LA : Option Addr) (lc : Nat) : Prop where
  cb : Blk v C 83 #[.slice LA j lc, .slice D3 (N + 1) c3]
  lo : v.ownsRow w.heap.size 101 2 (.slice LA j lc) j (locs (lo.take j))
  bo : v.ownsRow w.heap.size 59 4 (.slice D3 (N + 1) c3) (N + 1) bx
  st : Step (fun _ => False) w v
  ge : w.heap.size ≤ C
section
variable {w v v2 : World} {lo : List UInt8} {C : Nat} {D3 : Option Addr} {c3 N : Nat} {bx : List Value} {j : Nat} {LA : Option Addr} {lc : Nat}
theorem Fr.quiet (h : Fr w v lo C D3 c3 N bx j LA lc) (hs : Step (fun _ => False) v v2) : Fr w v2 lo C D3 c3 N bx j LA lc :=
  ⟨h.cb.step hs id, own_below h.lo hs, own_below h.bo hs, h.st.trans hs, h.ge⟩
theorem Fr.put (h : Fr w v lo C D3 c3 N bx j LA lc) {D : Option Addr} {c' : Nat} (hs : Step (fun k => blkOf LA = some k) v v2)
    (ho : v2.ownsRow w.heap.size 101 2 (.slice D (j + 1) c') (j + 1) (locs (lo.take (j + 1)))) : Fr w (v2.setCell ⟨C, 0, none⟩ (.slice D (j + 1) c')) lo C D3 c3 N bx (j + 1) D c' := by
  have hC : Step (fun k => k = C) v2 (v2.setCell ⟨C, 0, none⟩ (.slice D (j + 1) c')) := Step.setCell (F := fun k => k = C) Step.refl (.inl rfl) _
  have hcl := h.cb.lt
  have hL : ∀ k, blkOf LA = some k → w.heap.size ≤ k := fun k hk => own_ge h.lo k (by rwa [ownBlock_slice])
  have hcb := h.cb.step hs (otag h.lo h.cb (by decide))
  refine ⟨?_, own_step ho hC (fun k hk e => ?_), own_step (own_step h.bo hs (fun k hk e => own_tag2 h.bo h.lo (by decide) k hk (by rwa [ownBlock_slice]))) hC (fun k hk e => ?_),
    (h.st.trans' hs (fun k hk => .inr (hL k hk))).trans' hC (fun k hk => .inr (by have h2 := h.ge; omega)), h.ge⟩
  · have := hcb.set_ 0 (.slice D (j + 1) c')
    simpa using this
  · subst e; exact own_tag ho hcb (by decide) hk
  · subst e; exact own_tag h.bo h.cb (by decide) hk
end
theorem Rf.set2 {w : World} {S : Nat → Prop} {a : Ad} {s : Mo} (h : Rf w S a s) {D : Option Addr} {c' : Nat} {l : List Nat} (ho : Reads w S 1 D l.length (u32s l)) : Rf w S { a with A2 := D, c2 := c' } { s with fs := l } :=
  ⟨h.r0, h.r1, ho, h.r5, h.r6, h.r8, h.r9, h.r10, h.r16⟩
theorem Rf.set9 {w : World} {S : Nat → Prop} {a : Ad} {s : Mo} (h : Rf w S a s) {D : Option Addr} {c' : Nat} {l : List Cd} (ho : Reads w S 2 D l.length (cdsL l)) : Rf w S { a with A9 := D, c9 := c' } { s with cs := l } :=
  ⟨h.r0, h.r1, h.r2, h.r5, h.r6, h.r8, ho, h.r10, h.r16⟩
section
variable (w : World) (a : Ad) (s : Mo) (S : Nat → Prop)

set_option maxRecDepth 100000 in
set_option maxHeartbeats 25600000 in
theorem rfunc_ok (hR0 : Rf w S a s) (hl : s.small 1000) (x : Ft) (lo : List UInt8) (hlo : lo.length ≤ 1000) (bo : List Ig) (hbo : bo.length ≤ 1000) (A : Option Addr) (c : Nat) (S9 : Nat → Prop) (hr : Reads w S9 4 A bo.length (igs bo)) :
    Calls Try.prog 44 #[.agg (mdC a s), .agg #[Value.string (str x.p), .string (str x.r)], .string (str lo), .slice A bo.length c] w fun e w' => ∃ a' LA lc BA bc z, e = .returned (.tuple #[.agg (mdC a' { s with ts := tyL s.ts x, fs := s.fs ++ [tyI s.ts x], cs := s.cs ++ [⟨lo, bo ++ [endI], LA, lc, BA, bc⟩] }), .int .u32 z]) ∧ Rf w' (fun k => S k ∨ w.heap.size ≤ k) a' { s with ts := tyL s.ts x, fs := s.fs ++ [tyI s.ts x], cs := s.cs ++ [⟨lo, bo ++ [endI], LA, lc, BA, bc⟩] } ∧ Reads w' (fun k => w.heap.size ≤ k) 2 LA lo.length (locs lo) ∧ Reads w' (fun k => w.heap.size ≤ k) 4 BA (bo ++ [endI]).length (igs (bo ++ [endI])) ∧ Step (fun _ => False) w w' := by
  have hR : Rf w (fun k => S k ∧ k < w.heap.size) a s := hR0.mono fun k hk h => ⟨h, hk⟩
  clear hR0
  obtain ⟨l0, l1, l2, l5, l6, l8, l9, l10, l16⟩ := hl
  obtain ⟨NF, hNF⟩ : ∃ NF, NF = s.fs.length := ⟨_, rfl⟩
  obtain ⟨NC, hNC⟩ : ∃ NC, NC = s.cs.length := ⟨_, rfl⟩
  have HNF := Lib.hid hNF
  have HNC := Lib.hid hNC
  rw [← hNF] at l2
  rw [← hNC] at l9
  obtain ⟨v1, hv1⟩ : ∃ v1, v1 = w.alloc (.cells (mdC a s) 41) := ⟨_, rfl⟩
  obtain ⟨v2, hv2⟩ : ∃ v2, v2 = v1.alloc (.cells #[Value.string (str x.p), .string (str x.r)] 46) := ⟨_, rfl⟩
  obtain ⟨v3, hv3⟩ : ∃ v3, v3 = v2.alloc (.cells #[.slice none 0 0, .slice none 0 0, .slice none 0 0, .slice none 0 0, .slice none 0 0, .slice none 0 0, .slice none 0 0, .int .i64 0, .slice none 0 0, .slice none 0 0, .slice none 0 0, .bool false, .int .u32 0, .int .u32 0, .int .u32 0, .int .u32 0, .slice none 0 0] 41) := ⟨_, rfl⟩
  have e0 : w.heap.size = w.heap.size := rfl
  have e1 : v1.heap.size = w.heap.size + 1 := by rw [hv1]; simp [e0]
  have s1 : Step (fun _ => False) w v1 := by rw [hv1]; exact Step.alloc Step.refl _
  have e2 : v2.heap.size = w.heap.size + 1 + 1 := by rw [hv2]; simp [e1]
  have s2 : Step (fun _ => False) v1 v2 := by rw [hv2]; exact Step.alloc Step.refl _
  have e3 : v3.heap.size = w.heap.size + 1 + 1 + 1 := by rw [hv3]; simp [e2]
  have s3 : Step (fun _ => False) v2 v3 := by rw [hv3]; exact Step.alloc Step.refl _
  have HB : Hid (Blk v3 (w.heap.size) 41 (mdC a s)) := by
    have h1 : Blk v1 w.heap.size 41 (mdC a s) := by rw [hv1]; exact Blk.new w _ _
    exact ((h1.step s2 id).step s3 id)
  have HX : Hid (Blk v3 (w.heap.size + 1) 46 #[Value.string (str x.p), .string (str x.r)]) := by
    have h1 : Blk v2 v1.heap.size 46 #[Value.string (str x.p), .string (str x.r)] := by rw [hv2]; exact Blk.new v1 _ _
    rw [e1] at h1
    exact (h1.step s3 id)
  have HZ : Hid (Blk v3 (w.heap.size + 1 + 1) 41 #[.slice none 0 0, .slice none 0 0, .slice none 0 0, .slice none 0 0, .slice none 0 0, .slice none 0 0, .slice none 0 0, .int .i64 0, .slice none 0 0, .slice none 0 0, .slice none 0 0, .bool false, .int .u32 0, .int .u32 0, .int .u32 0, .int .u32 0, .slice none 0 0]) := by
    have h1 : Blk v3 v2.heap.size 41 #[.slice none 0 0, .slice none 0 0, .slice none 0 0, .slice none 0 0, .slice none 0 0, .slice none 0 0, .slice none 0 0, .int .i64 0, .slice none 0 0, .slice none 0 0, .slice none 0 0, .bool false, .int .u32 0, .int .u32 0, .int .u32 0, .int .u32 0, .slice none 0 0] := by rw [hv3]; exact Blk.new v2 _ _
    rw [e2] at h1
    exact h1
  have HS : Hid (Step (fun _ => False) w v3) := s1 |>.trans s2 |>.trans s3
  have HE1 := Lib.hid hv1
  have HE2 := Lib.hid hv2
  have HE3 := Lib.hid hv3
  clear e1 s1 hv1 e2 s2 hv2 e3 s3 hv3 e0
  have hTy := rtype_ok v3 a s _ (hR.step HS.out (fun _ _ => id)) l0 x
  have hsz3 : v3.heap.size = w.heap.size + 1 + 1 + 1 := by rw [HE3.out, HE2.out, HE1.out]; simp
  have HRb := Lib.hid hr
  obtain ⟨MA, hMA⟩ : ∃ MA, MA = mdC a s := ⟨_, rfl⟩
  rw [← hMA] at HE1 HB ⊢
  have HMA := Lib.hid hMA
  have H17 : Hid (MA.size = 17) := by rw [Hid, hMA]; rfl
  have H1 : Hid (MA.all (·.oneCell') = true) := by rw [Hid, hMA]; exact mdC_one a s
  clear hMA
  rw [show mdC a s = MA from HMA.out.symm] at hTy
  obtain ⟨bx, hbx⟩ : ∃ bx, bx = igs (bo ++ [endI]) := ⟨_, rfl⟩
  have HBX := Lib.hid hbx
  obtain ⟨q, hq⟩ : ∃ q, q = tyI s.ts x := ⟨_, rfl⟩
  obtain ⟨L', hL'⟩ : ∃ L', L' = tyL s.ts x := ⟨_, rfl⟩
  rw [← hq, ← hL'] at hTy
  rw [← hq, ← hL']
  have HTy := Lib.hid hTy
  obtain ⟨N, hN⟩ : ∃ N, N = bo.length := ⟨_, rfl⟩
  rw [← hN] at HRb hbo
  obtain ⟨M, hM⟩ : ∃ M, M = lo.length := ⟨_, rfl⟩
  rw [← hM] at hlo
  have HN := Lib.hid hN
  have HM := Lib.hid hM
  have hsM := str_size lo
  rw [← hM] at hsM
  obtain ⟨RR, hRR⟩ : ∃ RR : Value → World → Prop, RR = fun e w' => ∃ a' LA lc BA bc z, e = (.tuple #[.agg (mdC a' { s with ts := L', fs := s.fs ++ [q], cs := s.cs ++ [⟨lo, bo ++ [endI], LA, lc, BA, bc⟩] }), .int .u32 z]) ∧ Rf w' (fun k => S k ∨ w.heap.size ≤ k) a' { s with ts := L', fs := s.fs ++ [q], cs := s.cs ++ [⟨lo, bo ++ [endI], LA, lc, BA, bc⟩] } ∧ Reads w' (fun k => w.heap.size ≤ k) 2 LA lo.length (locs lo) ∧ Reads w' (fun k => w.heap.size ≤ k) 4 BA (bo ++ [endI]).length (igs (bo ++ [endI])) ∧ Step (fun _ => False) w w' := ⟨_, rfl⟩
  have HRR := Lib.hid hRR
  refine (show Calls Try.prog 44 #[.agg MA, .agg #[Value.string (str x.p), .string (str x.r)], .string (str lo), .slice A N c] w (fun e w' => ∃ v, e = .returned v ∧ RR v w') from ?_ ).mono ?h2 |> fun hh => by rw [hN] at hh; exact hh
  case h2 =>
    rintro e w' ⟨v, rfl, hv⟩
    rw [HRR.out] at hv
    obtain ⟨a', LA, lc, BA, bc, z, rfl, hv⟩ := hv
    exact ⟨a', LA, lc, BA, bc, z, rfl, hv⟩
  have hHX := HX.out
  rw [HE3.out, HE2.out, HE1.out] at hHX
  have x0 := hHX.cell 0
  have x1 := hHX.cell 1
  simp at x0 x1
  clear hR hr hN hM hRR hbx hq hL' hTy hHX hNF hNC
  go_enter Try.func44, Try.ntmps44
  go_wp2_with (first | (refine ld_mod rfl _ rfl _ rfl MA (by first | exact HB.out | (rw [← HE1.out, ← HE2.out, ← HE3.out]; exact HB.out)) H17.out ?_))
  rw [← HE1.out]
  rw [← HE2.out]
  rw [← HE3.out]
  clear x0 x1
  refine HTy.out.mono ?_
  rintro e w4 ⟨D4, c4, rfl, hrf4, hs4⟩
  obtain ⟨MB, hMB⟩ : ∃ MB, MB = mdC { a with A0 := D4, c0 := c4 } { s with ts := L' } := ⟨_, rfl⟩
  rw [← hMB]
  have HMB := Lib.hid hMB
  have H17b : Hid (MB.size = 17) := by rw [Hid, hMB]; rfl
  have H1b : Hid (MB.all (·.oneCell') = true) := by rw [Hid, hMB]; exact mdC_one _ _
  have HB4 := Lib.hid (HB.out.step hs4 id)
  have HZ4 := Lib.hid (HZ.out.step hs4 id)
  have HS4 := Lib.hid (HS.out.trans hs4)
  obtain ⟨w5, hw5⟩ : ∃ w5, w5 = w4.setRow w.heap.size MB := ⟨_, rfl⟩
  have HB5 : Hid (Blk w5 w.heap.size 41 MB) := by rw [hw5]; exact HB4.out.row _
  have hs45 : Step (fun k => k = w.heap.size) w4 w5 := by rw [hw5]; exact Step.setRow (F := fun k => k = w.heap.size) Step.refl (.inl rfl) _
  have HZ5 : Hid (Blk w5 (w.heap.size + 1 + 1) 41 #[.slice none 0 0, .slice none 0 0, .slice none 0 0, .slice none 0 0, .slice none 0 0, .slice none 0 0, .slice none 0 0, .int .i64 0, .slice none 0 0, .slice none 0 0, .slice none 0 0, .bool false, .int .u32 0, .int .u32 0, .int .u32 0, .int .u32 0, .slice none 0 0]) := HZ4.out.step hs45 (by show ¬ (w.heap.size + 1 + 1 = w.heap.size); omega)
  have HS5 : Hid (Step (fun _ => False) w w5) := HS4.out.trans' hs45 (fun k hk => .inr (by omega))
  have hsz34 := hs4.size
  rw [hsz3] at hsz34
  have HRf5 := Lib.hid (hrf4.step hs45 (fun k hk e => by rcases hk with h1 | h1 <;> omega))
  have HRb5 := Lib.hid (HRb.out.step HS5.out (fun _ _ => id))
  have HW5 := Lib.hid hw5
  have hsz5 : w.heap.size + 1 + 1 + 1 ≤ w5.heap.size := by rw [hw5]; simpa using hsz34
  clear hMB hs4 hrf4 hs45 hw5 HTy
  have hfr0 : (w5.alloc (.cells #[] 59)).ownsRow w5.heap.size 59 4 (.slice (some ⟨w5.heap.size, 0, none⟩) 0 0) 0 [] := own_fresh 4 (Nat.le_refl _)
  have hr0 := HRb5.out.step (F := fun _ => False) (Step.refl.alloc (.cells #[] 59)) (fun _ _ => id)
  have hone0 := igs_one bo
  have hm0 : 0 + N ≤ maxLen := by unfold maxLen; omega
  have hone : ∀ u ∈ #[Value.int .u8 11, .int .u64 0, .int .u64 0, .slice none 0 0].toList, u.oneCell' = true := by simp [Value.oneCell']
  have hm1 : N + 1 ≤ maxLen := by unfold maxLen; omega
  go_wp2_with (first | (refine st_mod rfl _ _ rfl rfl w.heap.size rfl MB rfl HB4.out H17.out H17b.out H1b.out ?_; rw [← HW5.out]) | (at_builtin; refine wpList_append_src _ rfl _ _ (by rfl) E_igs (by rfl) (hown2.alloc _) (by rfl) (reads_new _ #[Value.int .u8 11, .int .u64 0, .int .u64 0, .slice none 0 0] 59 4 1 rfl) hone hm1 (by omega) (by simp; omega) ?_; intro D3 c3 w7 hown3 hgrow3 hat3) | (at_builtin; refine wpList_append_src _ rfl _ _ (by rfl) E_igs (by rfl) hfr0 (by rfl) hr0 hone0 hm0 (by omega) (by simp) ?_; intro D2 c2 w6 hown2 hgrow2 hat2; rw [Nat.zero_add] at hown2; have h6 := hgrow2.size; simp at h6))
  have hF0 : Hid (Fr w5 (w7.alloc (.cells #[.slice none 0 0, .slice D3 (N + 1) c3] 83)) lo w7.heap.size D3 c3 N bx 0 none 0) := by
    have hs6 : Step (fun _ => False) w5 w6 := grow_step (Step.refl.alloc _) hgrow2 hfr0 (Nat.le_refl _)
    have hs7 : Step (fun _ => False) w5 w7 := grow_step (hs6.alloc _) hgrow3 (hown2.alloc _) (Nat.le_refl _)
    have e1 : [] ++ igs bo ++ #[Value.int .u8 11, .int .u64 0, .int .u64 0, .slice none 0 0].toList = bx := by rw [HBX.out, igs_last]; rfl
    rw [e1] at hown3
    exact ⟨Blk.new w7 _ _, World.ownsRow_nil _ _ _ _, hown3.alloc _, hs7.alloc _, hs7.size⟩
  obtain ⟨w8, hw8⟩ : ∃ w8, w8 = w7.alloc (.cells #[.slice none 0 0, .slice D3 (N + 1) c3] 83) := ⟨_, rfl⟩
  rw [← hw8] at hF0 ⊢
  clear hown2 hown3 hgrow2 hgrow3 hat2 hat3 hfr0 hr0 hone0 hm0 hone hm1 h6 hw8 HRb5
  obtain ⟨C, hC⟩ : ∃ C, C = w7.heap.size := ⟨_, rfl⟩
  rw [← hC] at hF0 ⊢
  clear hC
  go_loopw [12] (fun iv wr => ∃ (j : Nat) (LA : Option Addr) (lc : Nat), j ≤ M ∧ iv = .int .i64 (j : Int) ∧ Hid (Fr w5 wr lo C D3 c3 N bx j LA lc)) (fun iv _ => M + 1 - (intOf iv).toNat)
  case atStart => exact ⟨0, none, 0, by omega, rfl, hF0⟩
  case round =>
    clear hF0
    obtain ⟨j, LA, lc, hj, rfl, HF⟩ := hrel
    by_cases hlt : j < M
    · have g1 : (j : Int) < (M : Int) := by omega
      have hw1 := IntWalk.i64_in ((j : Int) + 1) (by omega)
      have hjl : j < lo.length := by rw [← HM.out]; exact hlt
      have hidx := index_str (P := Try.prog) (t := 9) Try.underlying9 lo j hjl
      have cc := HF.out.cb.cell 0
      have zf := HF.out.cb.frozen 0
      simp at cc
      have hone : ∀ u ∈ #[Value.int .u32 1, .int .u8 (lo[j].toNat : Int)].toList, u.oneCell' = true := by simp [Value.oneCell']
      have hm1 : j + 1 ≤ maxLen := by unfold maxLen; omega
      have hszr := HF.out.st.size
      go_wp2_with fail
      obtain ⟨LK, hLK⟩ : ∃ LK : List (Addr × Value), LK = [(⟨C, 0, none⟩, .slice LA j lc)] := ⟨_, rfl⟩
      have HKp : Hid (Keeps LK wr) := by rw [hLK]; exact Keeps.cons cc (Keeps.nil _)
      have d0 : ∀ i : Mix.Cls (Keeps LK), i.val.cell? ⟨C, 0, none⟩ = some (.slice LA j lc) := fun i => i.prop (⟨C, 0, none⟩, .slice LA j lc) (by rw [hLK]; simp)
      have HLK : Hid (∀ F : Nat → Prop, ¬ F C → ∀ p ∈ LK, ¬ F p.1.block) := fun F h0 p hp => by
        rw [hLK] at hp
        simp at hp
        subst hp
        exact h0
      clear hLK cc zf
      refine Mix.wp_region_mix [6, 7, 9] [6, 7] (Keeps LK) (by kernel_rfl) (by kernel_rfl) (HKp.out) (fun hcls => ?_)
      refine Mix.wpL_reads 6 (by rfl) ?_
      simp only [List.take_succ_cons, List.drop_succ_cons, List.take_zero, List.drop_zero]
      repeat (go_big_quiet_step (fail))
      refine wpQuiet_nil ?_
      refine Mix.wpL_op (by rfl) (fun K hK => ?_)
      go_simp
      have HKa : Hid (Keeps LK (wr.drew.alloc (.cells #[Value.int .u32 1, .int .u8 (lo[j].toNat : Int)] 101))) := HKp.out.step (F := fun _ => False) (Step.alloc Step.refl.drew _) (fun _ _ => id)
      refine hK _ _ (fun hlt => Mix.cl (HKa.out)) ?_
      clear hK K
      refine Mix.wpL_op (by rfl) (fun K hK => ?_)
      refine step_append_src _ (by rfl) _ _ (by rfl) E_locs (by rfl) ((own_drew HF.out.lo).alloc _) (by rfl) (reads_new wr.drew #[Value.int .u32 1, .int .u8 (lo[j].toNat : Int)] 101 2 1 rfl) hone hm1 (by show (j + 1) * 8 ≤ _; omega) (by simp; omega) ?_
      intro D' c' w8 hown8 hgrow hat
      have hs8 : Step (fun k => blkOf LA = some k) wr w8 := (Step.alloc Step.refl.drew _).grown hgrow (fun k hk => .inl hk)
      have HK8 : Hid (Keeps LK w8) := HKp.out.step hs8 (HLK.out (fun k => blkOf LA = some k) (otag HF.out.lo HF.out.cb (by decide)))
      rw [show locs (lo.take j) ++ #[Value.int .u32 1, .int .u8 (lo[j].toNat : Int)].toList = locs (lo.take (j + 1)) by rw [locs_take lo j hjl]; rfl] at hown8
      have HF8 := Lib.hid (HF.out.put hs8 hown8)
      have hcb8 := HF.out.cb.step hs8 (otag HF.out.lo HF.out.cb (by decide))
      have f8 := hcb8.frozen 0
      have c8 := hcb8.cell 0
      simp at c8
      go_simp
      refine hK _ _ (fun hlt => Mix.cl (HK8.out)) ?_
      clear hK K
      clear hown8 hgrow hat hs8 hone hcb8
      refine Mix.wpL_reads 1 (by rfl) ?_
      simp only [List.take_succ_cons, List.drop_succ_cons, List.take_zero, List.drop_zero]
      repeat (go_big_quiet_step (fail))
      refine wpQuiet_nil ?_
      refine Mix.wpL_op (by rfl) (fun K hK => ?_)
      go_simp
      refine hK _ _ (fun hlt => absurd hlt (by decide)) ?_
      clear hK K
      refine Mix.wpL_end ?_
      clear d0
      go_wp2_with fail
      go_roundw
      case rel => exact ⟨j + 1, D', c', by omega, by rw [Int.natCast_add]; rfl, HF8⟩
      case measure => simp [intOf]; omega
    · obtain rfl : j = M := by omega
      as_aux_lemma =>
      have hsr := HF.out.st
      have HSr := Lib.hid (HS5.out.trans hsr)
      have HBr := Lib.hid (HB5.out.step hsr id)
      have HZr := Lib.hid (HZ5.out.step hsr id)
      have HRr := Lib.hid (HRf5.out.step hsr (fun _ _ => id))
      have hszr : w.heap.size + 1 + 1 + 1 ≤ wr.heap.size := Nat.le_trans hsz5 hsr.size
      have hfr0 : (wr.alloc (.cells #[] 36)).ownsRow wr.heap.size 36 1 (.slice (some ⟨wr.heap.size, 0, none⟩) 0 0) 0 [] := own_fresh 1 (Nat.le_refl _)
      have hr0 := HRr.out.r2.step (F := fun _ => False) (Step.refl.alloc (.cells #[] 36)) (fun _ _ => id)
      rw [show Mo.fs { s with ts := L' } = s.fs from rfl, ← HNF.out] at hr0
      have hone0 := u32s_one s.fs
      have hm0 : 0 + NF ≤ maxLen := by unfold maxLen; omega
      have hone : ∀ u ∈ #[Value.int .u32 (q : Int)].toList, u.oneCell' = true := by simp [Value.oneCell']
      have hm1 : NF + 1 ≤ maxLen := by unfold maxLen; omega
      have hlt0 : w.heap.size < wr.heap.size := by omega
      have c2 := HBr.out.cell 2
      rw [HMB.out] at c2
      simp [mdC] at c2
      rw [← HNF.out] at c2
      clear hsr
      go_wp2_with (first | (at_builtin; refine wpList_append_src _ rfl _ _ (by rfl) E_u32s (by rfl) (hownA.alloc _) (by rfl) (reads_new _ #[Value.int .u32 (q : Int)] 36 1 1 rfl) hone hm1 (by omega) (by simp; omega) ?_; intro D9 c9 wB hownB hgrowB hatB; have sA : Step (fun _ => False) wr wA := grow_step (Step.refl.alloc _) hgrowA hfr0 (Nat.le_refl _); have sB : Step (fun _ => False) wr wB := grow_step (sA.alloc _) hgrowB (hownA.alloc _) (Nat.le_refl _); have zB := (HBr.out.step sB id).frozen 2; have cB := (HBr.out.step sB id).cell 2; rw [HMB.out] at cB; simp [mdC] at cB) | (at_builtin; refine wpList_append_src _ rfl _ _ (by rfl) E_u32s (by rfl) hfr0 (by rfl) hr0 hone0 hm0 (by omega) (by simp) ?_; intro DA cA wA hownA hgrowA hatA; rw [Nat.zero_add] at hownA; have h6 := hgrowA.size; simp at h6))
      clear hfr0 hr0 hone0 hm0 hone hm1 zB cB sA c2
      obtain ⟨w9, hw9⟩ : ∃ w9, w9 = wB.setCell ⟨w.heap.size, 2, none⟩ (.slice D9 (NF + 1) c9) := ⟨_, rfl⟩
      rw [← hw9]
      obtain ⟨MC, hMC⟩ : ∃ MC, MC = mdC { a with A0 := D4, c0 := c4, A2 := D9, c2 := c9 } { s with ts := L', fs := s.fs ++ [q] } := ⟨_, rfl⟩
      have HMC := Lib.hid hMC
      have hBB := HBr.out.step sB id
      have HB9 : Hid (Blk w9 w.heap.size 41 MC) := by
        have := hBB.set_ 2 (.slice D9 (NF + 1) c9)
        rw [← hw9, HMB.out] at this
        simp [mdC] at this
        rw [hMC]
        simp [mdC]
        rw [← HNF.out]
        exact this
      have HZ9 : Hid (Blk w9 (w.heap.size + 1 + 1) 41 #[.slice none 0 0, .slice none 0 0, .slice none 0 0, .slice none 0 0, .slice none 0 0, .slice none 0 0, .slice none 0 0, .int .i64 0, .slice none 0 0, .slice none 0 0, .slice none 0 0, .bool false, .int .u32 0, .int .u32 0, .int .u32 0, .int .u32 0, .slice none 0 0]) := by rw [hw9]; exact (HZr.out.step sB id).far (by show w.heap.size + 1 + 1 ≠ w.heap.size; omega) _
      have HS9 : Hid (Step (fun _ => False) w w9) := by rw [hw9]; exact (HSr.out.trans sB).setCell (.inr (Nat.le_refl _)) _
      have hsZ : Step (fun k => k = w.heap.size) wr w9 := by rw [hw9]; exact Step.setCell (F := fun k => k = w.heap.size) (sB.mono (fun _ _ h => h.elim)) (.inl rfl) _
      obtain ⟨Sx, hSx⟩ : ∃ Sx : Nat → Prop, Sx = fun k => (S k ∧ k < w.heap.size) ∨ w.heap.size + 1 + 1 + 1 ≤ k := ⟨_, rfl⟩
      have hxZ : ∀ k, Sx k → ¬ k = w.heap.size := fun k hk e => by rw [hSx] at hk; rcases hk with h1 | h1 <;> omega
      have HXZ : Hid (∀ k, Sx k → ¬ (k = w.heap.size ∨ k = w.heap.size + 1 + 1)) := fun k hk e => by rw [hSx] at hk; rcases hk with h1 | h1 <;> rcases e with e | e <;> omega
      have HXF : Hid (∀ k, Sx k → S k ∨ w.heap.size ≤ k) := fun k hk => by
        rw [hSx] at hk
        rcases hk with h1 | h1
        · exact .inl h1.1
        · exact .inr (by omega)
      have HO9 : Hid (w9.ownsRow wr.heap.size 36 1 (.slice D9 (NF + 1) c9) (NF + 1) (u32s (s.fs ++ [q]))) := by
        rw [hw9, u32s_last]
        exact own_set hownB (otag hownB hBB (by decide) |> fun h e => h (by rwa [ownBlock_slice] at e)) _
      have HR9 : Hid (Rf w9 Sx { a with A0 := D4, c0 := c4, A2 := D9, c2 := c9 } { s with ts := L', fs := s.fs ++ [q] }) := by
        refine Rf.set2 ((HRr.out.mono (S' := Sx) (fun k _ hk => by rw [hSx]; rcases hk with h1 | h1; exact .inl h1; exact .inr (by omega))).step hsZ hxZ) ?_
        rw [List.length_append, ← HNF.out]
        exact (Reads.of_own HO9.out).mono fun k _ hk => by rw [hSx]; exact .inr (Nat.le_trans hszr (own_ge HO9.out k hk))
      have HSx9 : Hid (∀ k, w9.heap.size ≤ k → Sx k) := fun k hk => by rw [hSx]; exact .inr (Nat.le_trans hszr (Nat.le_trans hsZ.size hk))
      have hcr := HF.out.cb
      have hCge := HF.out.ge
      have hcb9 : Blk w9 C 83 #[.slice LA j lc, .slice D3 (N + 1) c3] := by rw [hw9]; exact (hcr.step sB id).far (by show C ≠ w.heap.size; omega) _
      have HL9 : Hid (Reads w9 (fun k => w.heap.size + 1 + 1 + 1 ≤ k) 2 LA lo.length (locs lo)) := by
        have h1 := own_step HF.out.lo hsZ (fun k hk e => by have := own_ge HF.out.lo k hk; omega)
        rw [← HM.out]
        rw [HM.out, List.take_length, ← HM.out] at h1
        exact (Reads.of_own h1).mono fun k _ hk => Nat.le_trans hsz5 (own_ge h1 k hk)
      have HBo9 : Hid (Reads w9 (fun k => w.heap.size + 1 + 1 + 1 ≤ k) 4 D3 (N + 1) bx) := by
        have h1 := own_step HF.out.bo hsZ (fun k hk e => by have := own_ge HF.out.bo k hk; omega)
        exact (Reads.of_own h1).mono fun k _ hk => Nat.le_trans hsz5 (own_ge h1 k hk)
      have hlt9 : w.heap.size < w9.heap.size := by have := HS9.out.size; have := hsZ.size; omega
      have c9f := HB9.out.cell 9
      rw [hMC] at c9f
      simp [mdC] at c9f
      rw [← HNC.out] at c9f
      have k0 := hcb9.cell 0
      have k1 := hcb9.cell 1
      simp at k0 k1
      have d9 := cls_cell (F := fun _ => False) c9f id
      have dk0 := cls_cell (F := fun _ => False) k0 id
      have dk1 := cls_cell (F := fun _ => False) k1 id
      have hsrc := HR9.out.r9
      rw [show Mo.cs { s with ts := L', fs := s.fs ++ [q] } = s.cs from rfl, ← HNC.out] at hsrc
      have hone1 := cdsL_one s.cs
      have hone2 : ∀ u ∈ #[Value.slice LA j lc, .slice D3 (N + 1) c3].toList, u.oneCell' = true := by simp [Value.oneCell']
      have hm1 : 0 + NC ≤ maxLen := by unfold maxLen; omega
      have hm2 : NC + 1 ≤ maxLen := by unfold maxLen; omega
      clear c9f k0 k1 hcb9 hcr hBB hMC hownB hgrowB hgrowA hownA hatA hatB sB h6 hw9 hSx hsZ hxZ hCge
      go_wp2_with fail
      have hz1 : (w9.alloc (.cells #[Value.slice LA j lc, .slice D3 (N + 1) c3] 83)).heap.size = w9.heap.size + 1 := by simp
      have hz0 : (w9.alloc (.cells #[] 83)).heap.size = w9.heap.size + 1 := by simp
      have hfA : (w9.alloc (.cells #[] 83)).drew.ownsRow w9.heap.size 83 2 (.slice (some ⟨w9.heap.size, 0, none⟩) 0 0) 0 [] := own_drew (own_fresh 2 (Nat.le_refl _))
      have hrA := hsrc.step (F := fun _ => False) (Step.drew (Step.alloc Step.refl (.cells #[] 83))) (fun _ _ => id)
      have hfB : ((w9.alloc (.cells #[] 83)).alloc (.cells #[Value.slice LA j lc, .slice D3 (N + 1) c3] 83)).drew.ownsRow w9.heap.size 83 2 (.slice (some ⟨w9.heap.size, 0, none⟩) 0 0) 0 [] := own_drew ((own_fresh 2 (Nat.le_refl _)).alloc _)
      have hrB := hsrc.step (F := fun _ => False) (Step.drew (Step.alloc (Step.alloc Step.refl (.cells #[] 83)) (.cells #[Value.slice LA j lc, .slice D3 (N + 1) c3] 83))) (fun _ _ => id)
      have hxB := (reads_new (w9.alloc (.cells #[] 83)) #[Value.slice LA j lc, .slice D3 (N + 1) c3] 83 2 1 rfl).drew
      have hfC : ((w9.alloc (.cells #[Value.slice LA j lc, .slice D3 (N + 1) c3] 83)).alloc (.cells #[] 83)).drew.ownsRow w9.heap.size 83 2 (.slice (some ⟨w9.heap.size + 1, 0, none⟩) 0 0) 0 [] := by
        have := own_drew (own_fresh (w := w9.alloc (.cells #[Value.slice LA j lc, .slice D3 (N + 1) c3] 83)) (e := 83) (base := w9.heap.size) 2 (by omega))
        rwa [hz1] at this
      have hrC := hsrc.step (F := fun _ => False) (Step.drew (Step.alloc (Step.alloc Step.refl (.cells #[Value.slice LA j lc, .slice D3 (N + 1) c3] 83)) (.cells #[] 83))) (fun _ _ => id)
      have hxC := ((reads_new w9 #[Value.slice LA j lc, .slice D3 (N + 1) c3] 83 2 1 rfl).step (F := fun _ => False) (Step.alloc Step.refl (.cells #[] 83)) (fun _ _ => id)).drew
      rw [hz0] at hxB
      refine Mxt.wp_region_tree [0, 3, 5, 6, 8] [0, 3, 5, 6] (.fork (.op 0 (.reads [1, 2] (.fork (.op 3 (.reads [4] (.op 5 (.op 6 (.reads [7] (.op 8 .leaf)))))) (.reads [4] (.op 5 (.op 3 (.op 6 (.reads [7] (.op 8 .leaf))))))))) (.reads [4] (.op 5 (.reads [1, 2] (.op 0 (.op 3 (.op 6 (.reads [7] (.op 8 .leaf))))))))) (Step (fun _ => False) w9) (by kernel_rfl) (by kernel_rfl) Step.refl.drew (fun hcls => ?_)
      refine Mxt.wpTL_fork ?_ ?_
      · refine Mxt.wpTL_op (by rfl) (fun K hK => ?_)
        go_simp
        refine hK _ _ (fun hlt => Mix.cl (Step.drew (Step.alloc Step.refl _))) ?_
        clear hK K
        refine Mxt.wpTL_reads ?_
        simp only [List.flatMap_cons, List.flatMap_nil, List.getElem?_cons_succ, List.getElem?_cons_zero, Option.toList_some, List.cons_append, List.nil_append]
        repeat (go_big_quiet_step (fail))
        refine wpQuiet_nil ?_
        refine Mxt.wpTL_fork ?_ ?_
        · refine Mxt.wpTL_op (by rfl) (fun K hK => ?_)
          refine step_append_new (w0 := w9) (by rfl) _ _ (by rfl) E_cdsL (Step.drew (Step.alloc Step.refl _)) (by rfl) (hfA) (by rfl) (hrA) hone1 hm1 (by omega) ?_
          intro D1 c1 W1 hown1 hS1 hgrow1 hat1
          refine hK _ _ (fun hlt => Mix.cl hS1) ?_
          clear hK K
          simp only [Act.put, List.setIfInBounds_toArray, List.set_cons_succ, List.set_cons_zero, Nat.zero_add]
          simp only [Nat.zero_add] at hown1
          refine Mxt.wpTL_reads ?_
          simp only [List.flatMap_cons, List.flatMap_nil, List.getElem?_cons_succ, List.getElem?_cons_zero, Option.toList_some, List.cons_append, List.nil_append]
          repeat (go_big_quiet_step (fail))
          refine wpQuiet_nil ?_
          refine Mxt.wpTL_op (by rfl) (fun K hK => ?_)
          go_simp
          refine hK _ _ (fun hlt => Mix.cl (Step.alloc hS1 _)) ?_
          clear hK K
          refine Mxt.wpTL_op (by rfl) (fun K hK => ?_)
          refine step_append_new (w0 := w9) (by rfl) _ _ (by rfl) E_cdsL (Step.alloc hS1 _) (by rfl) (hown1.alloc _) (by rfl) (reads_new W1 #[Value.slice LA j lc, .slice D3 (N + 1) c3] 83 2 1 rfl) hone2 hm2 (by omega) ?_
          intro D2 c2 W2 hown2 hS2 hgrow2 hat2
          refine hK _ _ (fun hlt => Mix.cl hS2) ?_
          clear hK K
          simp only [Act.put, List.setIfInBounds_toArray, List.set_cons_succ, List.set_cons_zero, Nat.zero_add]
          refine Mxt.wpTL_reads ?_
          simp only [List.flatMap_cons, List.flatMap_nil, List.getElem?_cons_succ, List.getElem?_cons_zero, Option.toList_some, List.cons_append, List.nil_append]
          repeat (go_big_quiet_step (fail))
          refine wpQuiet_nil ?_
          have hB2 := HB9.out.step hS2 id
          have z0 := hB2.frozen 9
          have c0 := hB2.cell 9
          rw [HMC.out] at c0
          simp [mdC] at c0
          refine Mxt.wpTL_op (by rfl) (fun K hK => ?_)
          go_simp
          refine hK _ _ (fun hlt => absurd hlt (by decide)) ?_
          clear hK K z0 c0
          refine Mxt.wpTL_leaf ?_
          as_aux_lemma =>
          obtain ⟨W3, hW3⟩ : ∃ W3, W3 = W2.setCell ⟨w.heap.size, 9, none⟩ (.slice D2 (NC + 1) c2) := ⟨_, rfl⟩
          obtain ⟨MD, hMD⟩ : ∃ MD, MD = mdC { { a with A0 := D4, c0 := c4, A2 := D9, c2 := c9 } with A9 := D2, c9 := c2 } { { s with ts := L', fs := s.fs ++ [q] } with cs := s.cs ++ [(⟨lo, bo ++ [endI], LA, lc, D3, c3⟩ : Cd)] } := ⟨_, rfl⟩
          have HMD := Lib.hid hMD
          have H17d : Hid (MD.size = 17) := by rw [Hid, hMD]; rfl
          have H1d : Hid (MD.all (·.oneCell') = true) := by rw [Hid, hMD]; exact mdC_one _ _
          have HB3 : Hid (Blk W3 (w.heap.size) 41 MD) := by
            have := hB2.set_ 9 (.slice D2 (NC + 1) c2)
            rw [← hW3, HMC.out] at this
            simp [mdC] at this
            rw [hMD]
            simp [mdC]
            rw [← HNC.out]
            exact this
          have HZ3 : Hid (Blk W3 (w.heap.size + 1 + 1) 41 #[.slice none 0 0, .slice none 0 0, .slice none 0 0, .slice none 0 0, .slice none 0 0, .slice none 0 0, .slice none 0 0, .int .i64 0, .slice none 0 0, .slice none 0 0, .slice none 0 0, .bool false, .int .u32 0, .int .u32 0, .int .u32 0, .int .u32 0, .slice none 0 0]) := by rw [hW3]; exact (HZ9.out.step hS2 id).far (by show (w.heap.size + 1 + 1 : Nat) ≠ w.heap.size; omega) _
          have HO3 : Hid (W3.ownsRow w9.heap.size 83 2 (.slice D2 (NC + 1) c2) (NC + 1) (cdsL (s.cs ++ [(⟨lo, bo ++ [endI], LA, lc, D3, c3⟩ : Cd)]))) := by
            rw [hW3, cdsL_last, show Cd.cells (⟨lo, bo ++ [endI], LA, lc, D3, c3⟩ : Cd) = [Value.slice LA j lc, .slice D3 (N + 1) c3] by simp [Cd.cells, ← HM.out, HN.out]]
            exact own_set hown2 (otag hown2 hB2 (by decide) |> fun h e => h (by rwa [ownBlock_slice] at e)) _
          have HS3 : Hid (Step (fun _ => False) w W3) := by rw [hW3]; exact (HS9.out.trans hS2).setCell (.inr (by simp)) _
          have HSV : Hid (Step (fun k => k = w.heap.size) w9 W3) := by rw [hW3]; exact Step.setCell (F := fun k => k = w.heap.size) (hS2.mono (fun _ _ h => h.elim)) (.inl rfl) _
          have c0 := HB3.out.cell 9
          rw [hMD] at c0
          simp [mdC] at c0
          rw [← hW3]
          clear hW3 hB2 hown1 hown2 hS1 hS2 hgrow1 hgrow2 hat1 hat2 hMD
          clear c0
          have c0 := HB3.out.cell 2
          rw [HMD.out] at c0
          simp [mdC] at c0
          rw [← HNF.out] at c0
          have HRt : Hid (Rf W3 Sx { a with A0 := D4, c0 := c4, A2 := D9, c2 := c9, A9 := D2, c9 := c2 } { s with ts := L', fs := s.fs ++ [q], cs := s.cs ++ [(⟨lo, bo ++ [endI], LA, lc, D3, c3⟩ : Cd)] }) := by
            refine Rf.set9 (HR9.out.step HSV.out (fun k hk e => HXZ.out k hk (.inl e))) ?_
            rw [List.length_append, ← HNC.out]
            exact (Reads.of_own HO3.out).mono fun k _ hk => HSx9.out k (own_ge HO3.out k hk)
          have hl2 := l1
          have hWR : w.heap.size ≠ w.heap.size + 1 + 1 := by omega
          have hCn := count_ok W3.drew { a with A0 := D4, c0 := c4, A2 := D9, c2 := c9, A9 := D2, c9 := c2 } { s with ts := L', fs := s.fs ++ [q], cs := s.cs ++ [(⟨lo, bo ++ [endI], LA, lc, D3, c3⟩ : Cd)] } _ (HRt.out.step Step.refl.drew (fun _ _ => id)) hl2 0
          rw [show mdC { a with A0 := D4, c0 := c4, A2 := D9, c2 := c9, A9 := D2, c9 := c2 } { s with ts := L', fs := s.fs ++ [q], cs := s.cs ++ [(⟨lo, bo ++ [endI], LA, lc, D3, c3⟩ : Cd)] } = MD from HMD.out.symm] at hCn
          have HCn := Lib.hid hCn
          clear hCn
          go_wp2_with fail
          have d0 := cls_cell (F := fun k => k = w.heap.size + 1 + 1) c0 hWR
          clear c0
          refine Mix.wp_region_mix [2, 9] [2, 9] (Step (fun k => k = w.heap.size + 1 + 1) W3) (by kernel_rfl) (by kernel_rfl) (Step.refl.drew) (fun hcls => ?_)
          refine Mix.wpL_reads 2 (by rfl) ?_
          simp only [List.take_succ_cons, List.drop_succ_cons, List.take_zero, List.drop_zero]
          repeat (first | (refine BigFrame.wpQuiet_want (by rfl) (fun K hK => quiet_ld_mod _ rfl (w.heap.size) rfl MD (fun w1 ⟨i, e⟩ => by rw [e]; exact HB3.out.step i.prop hWR) H17d.out (hK _ ?_)); clear hK K; simp only [Act.put, List.setIfInBounds_toArray, List.set_cons_succ, List.set_cons_zero]) | (go_big_quiet_step (fail)))
          refine wpQuiet_nil ?_
          refine Mix.wpL_op (by rfl) (fun K hK => ?_)
          go_simp
          refine HCn.out.mono ?_
          rintro e w4 ⟨⟨z4, rfl⟩, hs4⟩
          have HS34 : Hid (Step (fun _ => False) W3 w4) := Step.refl.drew.trans hs4
          have HZ4 := Lib.hid (HZ3.out.step HS34.out id)
          have HF4 : Hid (Step (fun k => k = w.heap.size + 1 + 1) W3 w4) := HS34.out.mono (fun _ _ h => h.elim)
          clear hs4
          refine hK _ _ (fun hlt => Mix.cl (HF4.out)) ?_
          clear hK K
          refine Mix.wpL_reads 6 (by rfl) ?_
          simp only [List.take_succ_cons, List.drop_succ_cons, List.take_zero, List.drop_zero]
          repeat (go_big_quiet_step (fail))
          refine wpQuiet_nil ?_
          refine Mix.wpL_op (by rfl) (fun K hK => ?_)
          refine wp_st_mod _ _ rfl rfl (w.heap.size + 1 + 1) rfl MD rfl HZ4.out rfl H17d.out H1d.out ?_
          refine hK _ _ (fun hlt => Mix.cl (Step.setRow (F := fun k => k = w.heap.size + 1 + 1) (g := w.heap.size + 1 + 1) HF4.out (.inl rfl) _)) ?_
          clear hK K
          refine Mix.wpL_reads 1 (by rfl) ?_
          simp only [List.take_succ_cons, List.drop_succ_cons, List.take_zero, List.drop_zero]
          repeat (go_big_quiet_step (fail))
          refine wpQuiet_nil ?_
          refine Mix.wpL_end ?_
          clear d0
          go_wp2_with fail
          have hst := (HS3.out.trans HS34.out).setRow (g := w.heap.size + 1 + 1) (.inr (by omega)) MD
          refine bodyPost_ret (v := .tuple #[.agg MD, .int .u32 _]) (res_mod2 Try.results44 (w.heap.size + 1 + 1) rfl rfl (Blk.row HZ4.out MD) H17d.out) rfl ?_
          refine ⟨_, rfl, ?_⟩
          rw [HRR.out]
          have hsF : Step (fun k => k = w.heap.size ∨ k = w.heap.size + 1 + 1) w9 (w4.setRow (w.heap.size + 1 + 1) MD) := ((HSV.out.mono (fun _ _ h => .inl h)).trans (HS34.out.mono (fun _ _ h => h.elim))).trans (Step.setRow (F := fun k => k = w.heap.size ∨ k = w.heap.size + 1 + 1) Step.refl (.inl (.inr rfl)) _)
          refine ⟨_, LA, lc, D3, c3, _, by rw [HMD.out], ?_, ?_, ?_, hst⟩
          · have h1 := HRt.out.step (Step.setRow (F := fun k => k = w.heap.size + 1 + 1) (HS34.out.mono (fun _ _ h => h.elim)) (.inl rfl) MD) (fun k hk e => HXZ.out k hk (.inr e))
            exact h1.mono (fun k _ hk => HXF.out k hk)
          · exact (HL9.out.step hsF (fun k hk e => by rcases e with e | e <;> omega)).mono fun k _ hk => by omega
          · rw [← HBX.out, show (bo ++ [endI]).length = N + 1 by rw [HN.out]; simp]
            exact (HBo9.out.step hsF (fun k hk e => by rcases e with e | e <;> omega)).mono fun k _ hk => by omega
        · refine Mxt.wpTL_reads ?_
          simp only [List.flatMap_cons, List.flatMap_nil, List.getElem?_cons_succ, List.getElem?_cons_zero, Option.toList_some, List.cons_append, List.nil_append]
          repeat (go_big_quiet_step (fail))
          refine wpQuiet_nil ?_
          refine Mxt.wpTL_op (by rfl) (fun K hK => ?_)
          go_simp
          refine hK _ _ (fun hlt => Mix.cl (Step.drew (Step.alloc (Step.alloc Step.refl _) _))) ?_
          clear hK K
          refine Mxt.wpTL_op (by rfl) (fun K hK => ?_)
          refine step_append_new (w0 := w9) (by rfl) _ _ (by rfl) E_cdsL (Step.drew (Step.alloc (Step.alloc Step.refl _) _)) (by rfl) (hfB) (by rfl) (hrB) hone1 hm1 (by omega) ?_
          intro D1 c1 W1 hown1 hS1 hgrow1 hat1
          refine hK _ _ (fun hlt => Mix.cl hS1) ?_
          clear hK K
          simp only [Act.put, List.setIfInBounds_toArray, List.set_cons_succ, List.set_cons_zero, Nat.zero_add]
          simp only [Nat.zero_add] at hown1
          have hx1 := hxB.step (Step.grown (F := fun k => blkOf (some (⟨w9.heap.size, 0, none⟩ : Addr)) = some k) Step.refl hgrow1 (fun k hk => .inl hk)) (fun k hk e => by simp [blkOf] at e; omega)
          refine Mxt.wpTL_op (by rfl) (fun K hK => ?_)
          refine step_append_new (w0 := w9) (by rfl) _ _ (by rfl) E_cdsL (hS1) (by rfl) (hown1) (by rfl) (hx1) hone2 hm2 (by omega) ?_
          intro D2 c2 W2 hown2 hS2 hgrow2 hat2
          refine hK _ _ (fun hlt => Mix.cl hS2) ?_
          clear hK K
          simp only [Act.put, List.setIfInBounds_toArray, List.set_cons_succ, List.set_cons_zero, Nat.zero_add]
          refine Mxt.wpTL_reads ?_
          simp only [List.flatMap_cons, List.flatMap_nil, List.getElem?_cons_succ, List.getElem?_cons_zero, Option.toList_some, List.cons_append, List.nil_append]
          repeat (go_big_quiet_step (fail))
          refine wpQuiet_nil ?_
          have hB2 := HB9.out.step hS2 id
          have z0 := hB2.frozen 9
          have c0 := hB2.cell 9
          rw [HMC.out] at c0
          simp [mdC] at c0
          refine Mxt.wpTL_op (by rfl) (fun K hK => ?_)
          go_simp
          refine hK _ _ (fun hlt => absurd hlt (by decide)) ?_
          clear hK K z0 c0
          refine Mxt.wpTL_leaf ?_
          as_aux_lemma =>
          obtain ⟨W3, hW3⟩ : ∃ W3, W3 = W2.setCell ⟨w.heap.size, 9, none⟩ (.slice D2 (NC + 1) c2) := ⟨_, rfl⟩
          obtain ⟨MD, hMD⟩ : ∃ MD, MD = mdC { { a with A0 := D4, c0 := c4, A2 := D9, c2 := c9 } with A9 := D2, c9 := c2 } { { s with ts := L', fs := s.fs ++ [q] } with cs := s.cs ++ [(⟨lo, bo ++ [endI], LA, lc, D3, c3⟩ : Cd)] } := ⟨_, rfl⟩
          have HMD := Lib.hid hMD
          have H17d : Hid (MD.size = 17) := by rw [Hid, hMD]; rfl
          have H1d : Hid (MD.all (·.oneCell') = true) := by rw [Hid, hMD]; exact mdC_one _ _
          have HB3 : Hid (Blk W3 (w.heap.size) 41 MD) := by
            have := hB2.set_ 9 (.slice D2 (NC + 1) c2)
            rw [← hW3, HMC.out] at this
            simp [mdC] at this
            rw [hMD]
            simp [mdC]
            rw [← HNC.out]
            exact this
          have HZ3 : Hid (Blk W3 (w.heap.size + 1 + 1) 41 #[.slice none 0 0, .slice none 0 0, .slice none 0 0, .slice none 0 0, .slice none 0 0, .slice none 0 0, .slice none 0 0, .int .i64 0, .slice none 0 0, .slice none 0 0, .slice none 0 0, .bool false, .int .u32 0, .int .u32 0, .int .u32 0, .int .u32 0, .slice none 0 0]) := by rw [hW3]; exact (HZ9.out.step hS2 id).far (by show (w.heap.size + 1 + 1 : Nat) ≠ w.heap.size; omega) _
          have HO3 : Hid (W3.ownsRow w9.heap.size 83 2 (.slice D2 (NC + 1) c2) (NC + 1) (cdsL (s.cs ++ [(⟨lo, bo ++ [endI], LA, lc, D3, c3⟩ : Cd)]))) := by
            rw [hW3, cdsL_last, show Cd.cells (⟨lo, bo ++ [endI], LA, lc, D3, c3⟩ : Cd) = [Value.slice LA j lc, .slice D3 (N + 1) c3] by simp [Cd.cells, ← HM.out, HN.out]]
            exact own_set hown2 (otag hown2 hB2 (by decide) |> fun h e => h (by rwa [ownBlock_slice] at e)) _
          have HS3 : Hid (Step (fun _ => False) w W3) := by rw [hW3]; exact (HS9.out.trans hS2).setCell (.inr (by simp)) _
          have HSV : Hid (Step (fun k => k = w.heap.size) w9 W3) := by rw [hW3]; exact Step.setCell (F := fun k => k = w.heap.size) (hS2.mono (fun _ _ h => h.elim)) (.inl rfl) _
          have c0 := HB3.out.cell 9
          rw [hMD] at c0
          simp [mdC] at c0
          rw [← hW3]
          clear hW3 hB2 hown1 hown2 hS1 hS2 hgrow1 hgrow2 hat1 hat2 hMD
          clear c0
          have c0 := HB3.out.cell 2
          rw [HMD.out] at c0
          simp [mdC] at c0
          rw [← HNF.out] at c0
          have HRt : Hid (Rf W3 Sx { a with A0 := D4, c0 := c4, A2 := D9, c2 := c9, A9 := D2, c9 := c2 } { s with ts := L', fs := s.fs ++ [q], cs := s.cs ++ [(⟨lo, bo ++ [endI], LA, lc, D3, c3⟩ : Cd)] }) := by
            refine Rf.set9 (HR9.out.step HSV.out (fun k hk e => HXZ.out k hk (.inl e))) ?_
            rw [List.length_append, ← HNC.out]
            exact (Reads.of_own HO3.out).mono fun k _ hk => HSx9.out k (own_ge HO3.out k hk)
          have hl2 := l1
          have hWR : w.heap.size ≠ w.heap.size + 1 + 1 := by omega
          have hCn := count_ok W3.drew { a with A0 := D4, c0 := c4, A2 := D9, c2 := c9, A9 := D2, c9 := c2 } { s with ts := L', fs := s.fs ++ [q], cs := s.cs ++ [(⟨lo, bo ++ [endI], LA, lc, D3, c3⟩ : Cd)] } _ (HRt.out.step Step.refl.drew (fun _ _ => id)) hl2 0
          rw [show mdC { a with A0 := D4, c0 := c4, A2 := D9, c2 := c9, A9 := D2, c9 := c2 } { s with ts := L', fs := s.fs ++ [q], cs := s.cs ++ [(⟨lo, bo ++ [endI], LA, lc, D3, c3⟩ : Cd)] } = MD from HMD.out.symm] at hCn
          have HCn := Lib.hid hCn
          clear hCn
          go_wp2_with fail
          have d0 := cls_cell (F := fun k => k = w.heap.size + 1 + 1) c0 hWR
          clear c0
          refine Mix.wp_region_mix [2, 9] [2, 9] (Step (fun k => k = w.heap.size + 1 + 1) W3) (by kernel_rfl) (by kernel_rfl) (Step.refl.drew) (fun hcls => ?_)
          refine Mix.wpL_reads 2 (by rfl) ?_
          simp only [List.take_succ_cons, List.drop_succ_cons, List.take_zero, List.drop_zero]
          repeat (first | (refine BigFrame.wpQuiet_want (by rfl) (fun K hK => quiet_ld_mod _ rfl (w.heap.size) rfl MD (fun w1 ⟨i, e⟩ => by rw [e]; exact HB3.out.step i.prop hWR) H17d.out (hK _ ?_)); clear hK K; simp only [Act.put, List.setIfInBounds_toArray, List.set_cons_succ, List.set_cons_zero]) | (go_big_quiet_step (fail)))
          refine wpQuiet_nil ?_
          refine Mix.wpL_op (by rfl) (fun K hK => ?_)
          go_simp
          refine HCn.out.mono ?_
          rintro e w4 ⟨⟨z4, rfl⟩, hs4⟩
          have HS34 : Hid (Step (fun _ => False) W3 w4) := Step.refl.drew.trans hs4
          have HZ4 := Lib.hid (HZ3.out.step HS34.out id)
          have HF4 : Hid (Step (fun k => k = w.heap.size + 1 + 1) W3 w4) := HS34.out.mono (fun _ _ h => h.elim)
          clear hs4
          refine hK _ _ (fun hlt => Mix.cl (HF4.out)) ?_
          clear hK K
          refine Mix.wpL_reads 6 (by rfl) ?_
          simp only [List.take_succ_cons, List.drop_succ_cons, List.take_zero, List.drop_zero]
          repeat (go_big_quiet_step (fail))
          refine wpQuiet_nil ?_
          refine Mix.wpL_op (by rfl) (fun K hK => ?_)
          refine wp_st_mod _ _ rfl rfl (w.heap.size + 1 + 1) rfl MD rfl HZ4.out rfl H17d.out H1d.out ?_
          refine hK _ _ (fun hlt => Mix.cl (Step.setRow (F := fun k => k = w.heap.size + 1 + 1) (g := w.heap.size + 1 + 1) HF4.out (.inl rfl) _)) ?_
          clear hK K
          refine Mix.wpL_reads 1 (by rfl) ?_
          simp only [List.take_succ_cons, List.drop_succ_cons, List.take_zero, List.drop_zero]
          repeat (go_big_quiet_step (fail))
          refine wpQuiet_nil ?_
          refine Mix.wpL_end ?_
          clear d0
          go_wp2_with fail
          have hst := (HS3.out.trans HS34.out).setRow (g := w.heap.size + 1 + 1) (.inr (by omega)) MD
          refine bodyPost_ret (v := .tuple #[.agg MD, .int .u32 _]) (res_mod2 Try.results44 (w.heap.size + 1 + 1) rfl rfl (Blk.row HZ4.out MD) H17d.out) rfl ?_
          refine ⟨_, rfl, ?_⟩
          rw [HRR.out]
          have hsF : Step (fun k => k = w.heap.size ∨ k = w.heap.size + 1 + 1) w9 (w4.setRow (w.heap.size + 1 + 1) MD) := ((HSV.out.mono (fun _ _ h => .inl h)).trans (HS34.out.mono (fun _ _ h => h.elim))).trans (Step.setRow (F := fun k => k = w.heap.size ∨ k = w.heap.size + 1 + 1) Step.refl (.inl (.inr rfl)) _)
          refine ⟨_, LA, lc, D3, c3, _, by rw [HMD.out], ?_, ?_, ?_, hst⟩
          · have h1 := HRt.out.step (Step.setRow (F := fun k => k = w.heap.size + 1 + 1) (HS34.out.mono (fun _ _ h => h.elim)) (.inl rfl) MD) (fun k hk e => HXZ.out k hk (.inr e))
            exact h1.mono (fun k _ hk => HXF.out k hk)
          · exact (HL9.out.step hsF (fun k hk e => by rcases e with e | e <;> omega)).mono fun k _ hk => by omega
          · rw [← HBX.out, show (bo ++ [endI]).length = N + 1 by rw [HN.out]; simp]
            exact (HBo9.out.step hsF (fun k hk e => by rcases e with e | e <;> omega)).mono fun k _ hk => by omega
      · refine Mxt.wpTL_reads ?_
        simp only [List.flatMap_cons, List.flatMap_nil, List.getElem?_cons_succ, List.getElem?_cons_zero, Option.toList_some, List.cons_append, List.nil_append]
        repeat (go_big_quiet_step (fail))
        refine wpQuiet_nil ?_
        refine Mxt.wpTL_op (by rfl) (fun K hK => ?_)
        go_simp
        refine hK _ _ (fun hlt => Mix.cl (Step.drew (Step.alloc Step.refl _))) ?_
        clear hK K
        refine Mxt.wpTL_reads ?_
        simp only [List.flatMap_cons, List.flatMap_nil, List.getElem?_cons_succ, List.getElem?_cons_zero, Option.toList_some, List.cons_append, List.nil_append]
        repeat (go_big_quiet_step (fail))
        refine wpQuiet_nil ?_
        refine Mxt.wpTL_op (by rfl) (fun K hK => ?_)
        go_simp
        refine hK _ _ (fun hlt => Mix.cl (Step.drew (Step.alloc (Step.alloc Step.refl _) _))) ?_
        clear hK K
        refine Mxt.wpTL_op (by rfl) (fun K hK => ?_)
        refine step_append_new (w0 := w9) (by rfl) _ _ (by rfl) E_cdsL (Step.drew (Step.alloc (Step.alloc Step.refl _) _)) (by rfl) (hfC) (by rfl) (hrC) hone1 hm1 (by omega) ?_
        intro D1 c1 W1 hown1 hS1 hgrow1 hat1
        refine hK _ _ (fun hlt => Mix.cl hS1) ?_
        clear hK K
        simp only [Act.put, List.setIfInBounds_toArray, List.set_cons_succ, List.set_cons_zero, Nat.zero_add]
        simp only [Nat.zero_add] at hown1
        have hx1 := hxC.step (Step.grown (F := fun k => blkOf (some (⟨w9.heap.size + 1, 0, none⟩ : Addr)) = some k) Step.refl hgrow1 (fun k hk => .inl hk)) (fun k hk e => by simp [blkOf] at e; omega)
        refine Mxt.wpTL_op (by rfl) (fun K hK => ?_)
        refine step_append_new (w0 := w9) (by rfl) _ _ (by rfl) E_cdsL (hS1) (by rfl) (hown1) (by rfl) (hx1) hone2 hm2 (by omega) ?_
        intro D2 c2 W2 hown2 hS2 hgrow2 hat2
        refine hK _ _ (fun hlt => Mix.cl hS2) ?_
        clear hK K
        simp only [Act.put, List.setIfInBounds_toArray, List.set_cons_succ, List.set_cons_zero, Nat.zero_add]
        refine Mxt.wpTL_reads ?_
        simp only [List.flatMap_cons, List.flatMap_nil, List.getElem?_cons_succ, List.getElem?_cons_zero, Option.toList_some, List.cons_append, List.nil_append]
        repeat (go_big_quiet_step (fail))
        refine wpQuiet_nil ?_
        have hB2 := HB9.out.step hS2 id
        have z0 := hB2.frozen 9
        have c0 := hB2.cell 9
        rw [HMC.out] at c0
        simp [mdC] at c0
        refine Mxt.wpTL_op (by rfl) (fun K hK => ?_)
        go_simp
        refine hK _ _ (fun hlt => absurd hlt (by decide)) ?_
        clear hK K z0 c0
        refine Mxt.wpTL_leaf ?_
        as_aux_lemma =>
        obtain ⟨W3, hW3⟩ : ∃ W3, W3 = W2.setCell ⟨w.heap.size, 9, none⟩ (.slice D2 (NC + 1) c2) := ⟨_, rfl⟩
        obtain ⟨MD, hMD⟩ : ∃ MD, MD = mdC { { a with A0 := D4, c0 := c4, A2 := D9, c2 := c9 } with A9 := D2, c9 := c2 } { { s with ts := L', fs := s.fs ++ [q] } with cs := s.cs ++ [(⟨lo, bo ++ [endI], LA, lc, D3, c3⟩ : Cd)] } := ⟨_, rfl⟩
        have HMD := Lib.hid hMD
        have H17d : Hid (MD.size = 17) := by rw [Hid, hMD]; rfl
        have H1d : Hid (MD.all (·.oneCell') = true) := by rw [Hid, hMD]; exact mdC_one _ _
        have HB3 : Hid (Blk W3 (w.heap.size) 41 MD) := by
          have := hB2.set_ 9 (.slice D2 (NC + 1) c2)
          rw [← hW3, HMC.out] at this
          simp [mdC] at this
          rw [hMD]
          simp [mdC]
          rw [← HNC.out]
          exact this
        have HZ3 : Hid (Blk W3 (w.heap.size + 1 + 1) 41 #[.slice none 0 0, .slice none 0 0, .slice none 0 0, .slice none 0 0, .slice none 0 0, .slice none 0 0, .slice none 0 0, .int .i64 0, .slice none 0 0, .slice none 0 0, .slice none 0 0, .bool false, .int .u32 0, .int .u32 0, .int .u32 0, .int .u32 0, .slice none 0 0]) := by rw [hW3]; exact (HZ9.out.step hS2 id).far (by show (w.heap.size + 1 + 1 : Nat) ≠ w.heap.size; omega) _
        have HO3 : Hid (W3.ownsRow w9.heap.size 83 2 (.slice D2 (NC + 1) c2) (NC + 1) (cdsL (s.cs ++ [(⟨lo, bo ++ [endI], LA, lc, D3, c3⟩ : Cd)]))) := by
          rw [hW3, cdsL_last, show Cd.cells (⟨lo, bo ++ [endI], LA, lc, D3, c3⟩ : Cd) = [Value.slice LA j lc, .slice D3 (N + 1) c3] by simp [Cd.cells, ← HM.out, HN.out]]
          exact own_set hown2 (otag hown2 hB2 (by decide) |> fun h e => h (by rwa [ownBlock_slice] at e)) _
        have HS3 : Hid (Step (fun _ => False) w W3) := by rw [hW3]; exact (HS9.out.trans hS2).setCell (.inr (by simp)) _
        have HSV : Hid (Step (fun k => k = w.heap.size) w9 W3) := by rw [hW3]; exact Step.setCell (F := fun k => k = w.heap.size) (hS2.mono (fun _ _ h => h.elim)) (.inl rfl) _
        have c0 := HB3.out.cell 9
        rw [hMD] at c0
        simp [mdC] at c0
        rw [← hW3]
        clear hW3 hB2 hown1 hown2 hS1 hS2 hgrow1 hgrow2 hat1 hat2 hMD
        clear c0
        have c0 := HB3.out.cell 2
        rw [HMD.out] at c0
        simp [mdC] at c0
        rw [← HNF.out] at c0
        have HRt : Hid (Rf W3 Sx { a with A0 := D4, c0 := c4, A2 := D9, c2 := c9, A9 := D2, c9 := c2 } { s with ts := L', fs := s.fs ++ [q], cs := s.cs ++ [(⟨lo, bo ++ [endI], LA, lc, D3, c3⟩ : Cd)] }) := by
          refine Rf.set9 (HR9.out.step HSV.out (fun k hk e => HXZ.out k hk (.inl e))) ?_
          rw [List.length_append, ← HNC.out]
          exact (Reads.of_own HO3.out).mono fun k _ hk => HSx9.out k (own_ge HO3.out k hk)
        have hl2 := l1
        have hWR : w.heap.size ≠ w.heap.size + 1 + 1 := by omega
        have hCn := count_ok W3.drew { a with A0 := D4, c0 := c4, A2 := D9, c2 := c9, A9 := D2, c9 := c2 } { s with ts := L', fs := s.fs ++ [q], cs := s.cs ++ [(⟨lo, bo ++ [endI], LA, lc, D3, c3⟩ : Cd)] } _ (HRt.out.step Step.refl.drew (fun _ _ => id)) hl2 0
        rw [show mdC { a with A0 := D4, c0 := c4, A2 := D9, c2 := c9, A9 := D2, c9 := c2 } { s with ts := L', fs := s.fs ++ [q], cs := s.cs ++ [(⟨lo, bo ++ [endI], LA, lc, D3, c3⟩ : Cd)] } = MD from HMD.out.symm] at hCn
        have HCn := Lib.hid hCn
        clear hCn
        go_wp2_with fail
        have d0 := cls_cell (F := fun k => k = w.heap.size + 1 + 1) c0 hWR
        clear c0
        refine Mix.wp_region_mix [2, 9] [2, 9] (Step (fun k => k = w.heap.size + 1 + 1) W3) (by kernel_rfl) (by kernel_rfl) (Step.refl.drew) (fun hcls => ?_)
        refine Mix.wpL_reads 2 (by rfl) ?_
        simp only [List.take_succ_cons, List.drop_succ_cons, List.take_zero, List.drop_zero]
        repeat (first | (refine BigFrame.wpQuiet_want (by rfl) (fun K hK => quiet_ld_mod _ rfl (w.heap.size) rfl MD (fun w1 ⟨i, e⟩ => by rw [e]; exact HB3.out.step i.prop hWR) H17d.out (hK _ ?_)); clear hK K; simp only [Act.put, List.setIfInBounds_toArray, List.set_cons_succ, List.set_cons_zero]) | (go_big_quiet_step (fail)))
        refine wpQuiet_nil ?_
        refine Mix.wpL_op (by rfl) (fun K hK => ?_)
        go_simp
        refine HCn.out.mono ?_
        rintro e w4 ⟨⟨z4, rfl⟩, hs4⟩
        have HS34 : Hid (Step (fun _ => False) W3 w4) := Step.refl.drew.trans hs4
        have HZ4 := Lib.hid (HZ3.out.step HS34.out id)
        have HF4 : Hid (Step (fun k => k = w.heap.size + 1 + 1) W3 w4) := HS34.out.mono (fun _ _ h => h.elim)
        clear hs4
        refine hK _ _ (fun hlt => Mix.cl (HF4.out)) ?_
        clear hK K
        refine Mix.wpL_reads 6 (by rfl) ?_
        simp only [List.take_succ_cons, List.drop_succ_cons, List.take_zero, List.drop_zero]
        repeat (go_big_quiet_step (fail))
        refine wpQuiet_nil ?_
        refine Mix.wpL_op (by rfl) (fun K hK => ?_)
        refine wp_st_mod _ _ rfl rfl (w.heap.size + 1 + 1) rfl MD rfl HZ4.out rfl H17d.out H1d.out ?_
        refine hK _ _ (fun hlt => Mix.cl (Step.setRow (F := fun k => k = w.heap.size + 1 + 1) (g := w.heap.size + 1 + 1) HF4.out (.inl rfl) _)) ?_
        clear hK K
        refine Mix.wpL_reads 1 (by rfl) ?_
        simp only [List.take_succ_cons, List.drop_succ_cons, List.take_zero, List.drop_zero]
        repeat (go_big_quiet_step (fail))
        refine wpQuiet_nil ?_
        refine Mix.wpL_end ?_
        clear d0
        go_wp2_with fail
        have hst := (HS3.out.trans HS34.out).setRow (g := w.heap.size + 1 + 1) (.inr (by omega)) MD
        refine bodyPost_ret (v := .tuple #[.agg MD, .int .u32 _]) (res_mod2 Try.results44 (w.heap.size + 1 + 1) rfl rfl (Blk.row HZ4.out MD) H17d.out) rfl ?_
        refine ⟨_, rfl, ?_⟩
        rw [HRR.out]
        have hsF : Step (fun k => k = w.heap.size ∨ k = w.heap.size + 1 + 1) w9 (w4.setRow (w.heap.size + 1 + 1) MD) := ((HSV.out.mono (fun _ _ h => .inl h)).trans (HS34.out.mono (fun _ _ h => h.elim))).trans (Step.setRow (F := fun k => k = w.heap.size ∨ k = w.heap.size + 1 + 1) Step.refl (.inl (.inr rfl)) _)
        refine ⟨_, LA, lc, D3, c3, _, by rw [HMD.out], ?_, ?_, ?_, hst⟩
        · have h1 := HRt.out.step (Step.setRow (F := fun k => k = w.heap.size + 1 + 1) (HS34.out.mono (fun _ _ h => h.elim)) (.inl rfl) MD) (fun k hk e => HXZ.out k hk (.inr e))
          exact h1.mono (fun k _ hk => HXF.out k hk)
        · exact (HL9.out.step hsF (fun k hk e => by rcases e with e | e <;> omega)).mono fun k _ hk => by omega
        · rw [← HBX.out, show (bo ++ [endI]).length = N + 1 by rw [HN.out]; simp]
          exact (HBo9.out.step hsF (fun k hk e => by rcases e with e | e <;> omega)).mono fun k _ hk => by omega
end
end Go.Proofs.Ytflgpjdpofmbkaa
