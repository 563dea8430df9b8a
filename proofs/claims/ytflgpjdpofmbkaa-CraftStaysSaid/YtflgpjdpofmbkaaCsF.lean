/-
  craft: Func.
-/
import Derived.Test.YtflgpjdpofmbkaaCsE
import Derived.Test.YtflgpjdpofmbkaaMxp
set_option linter.unusedVariables false
set_option linter.unusedSimpArgs false
namespace Go.Proofs.Ytflgpjdpofmbkaa
open Go.RowKit

def endI : Ig := ⟨11, 0, 0, 0, 0, none, []⟩
theorem Reads.upd {w w' : World} {I I' : Nat → Prop} {size n : Nat} {A : Option Addr} {xs : List Value} (h : Reads w (fun k => ¬ I k) size A n xs) (hu : Upd w I I' w') : Reads w' (fun k => ¬ I' k) size A n xs := by
  have h1 : Reads w (fun k => ¬ I k ∧ k < w.heap.size) size A n xs := h.mono fun k hk hn => ⟨hn, hk⟩
  exact (h1.step hu.1 (fun k hk => hk.1)).mono fun k _ hk e => by
    rcases hu.2 k e with h2 | h2
    · exact hk.1 h2
    · omega
theorem locs_take (l : List UInt8) (j : Nat) (h : j < l.length) : locs (l.take (j + 1)) = locs (l.take j) ++ locC l[j] := by
  rw [List.take_succ_eq_append_getElem h, locs_last]
/-- A row of a type that no row of a maker has lies apart from it. -/
theorem Mk.off {w : World} {B X : Nat} {a : Ad} {s : Mo} {tk vr : Int} (h : Mk w B X a s tk vr) {b n c m size : Nat} {e : TypeId} {D : Option Addr} {xs : List Value} (ho : w.ownsRow b e size (.slice D m c) n xs)
    (he : e ≠ 61 ∧ e ≠ 46 ∧ e ≠ 67 ∧ e ≠ 36 ∧ e ≠ 73 ∧ e ≠ 76 ∧ e ≠ 79 ∧ e ≠ 83 ∧ e ≠ 86 ∧ e ≠ 9) : Apart (ftA X a) (fun k => blkOf D = some k) := fun k hk hd => by
  obtain ⟨e0, e1, e2, e3, e4, e5, e6, e7, e8, e9⟩ := he
  have hd' : (Value.slice D m c).ownBlock = some k := by rwa [ownBlock_slice]
  rcases hk with rfl | hk | hk | hk | hk | hk | hk | hk | hk | hk
  · exact own_tag ho h.blk e0 hd'
  · exact own_tag2 ho h.o0 e1 k hd' (by rwa [ownBlock_slice])
  · exact own_tag2 ho h.o1 e2 k hd' (by rwa [ownBlock_slice])
  · exact own_tag2 ho h.o2 e3 k hd' (by rwa [ownBlock_slice])
  · exact own_tag2 ho h.o5 e4 k hd' (by rwa [ownBlock_slice])
  · exact own_tag2 ho h.o6 e5 k hd' (by rwa [ownBlock_slice])
  · exact own_tag2 ho h.o8 e6 k hd' (by rwa [ownBlock_slice])
  · exact own_tag2 ho h.o9 e7 k hd' (by rwa [ownBlock_slice])
  · exact own_tag2 ho h.o10 e8 k hd' (by rwa [ownBlock_slice])
  · exact own_tag2 ho h.o16 e9 k hd' (by rwa [ownBlock_slice])

/-- The loop over the locals: round j. -/
structure Fl (w v : World) (B X : Nat) (a : Ad) (s : Mo) (tk vr : Int) (x : Ft) (lo : List UInt8) (C : Nat) (D3 : Option Addr) (c3 N : Nat) (bx : List Value) (j : Nat) (LA : Option Addr) (lc : Nat) : Prop where
  mm : Mk v B X a s tk vr
  hx : Blk v w.heap.size 46 #[Value.string (str x.p), .string (str x.r)]
  cb : Blk v C 83 #[.slice LA j lc, .slice D3 (N + 1) c3]
  lo : v.ownsRow w.heap.size 101 2 (.slice LA j lc) j (locs (lo.take j))
  bo : v.ownsRow w.heap.size 59 4 (.slice D3 (N + 1) c3) (N + 1) bx
  st : Step (fun _ => False) w v
  ge : w.heap.size < C
  fin : ∀ k, ftA X a k → k < w.heap.size
section
variable {w v v2 : World} {B X : Nat} {a : Ad} {s : Mo} {tk vr : Int} {x : Ft} {lo : List UInt8} {C : Nat} {D3 : Option Addr} {c3 N : Nat} {bx : List Value} {j : Nat} {LA : Option Addr} {lc : Nat}
theorem Fl.quiet (h : Fl w v B X a s tk vr x lo C D3 c3 N bx j LA lc) (hs : Step (fun _ => False) v v2) : Fl w v2 B X a s tk vr x lo C D3 c3 N bx j LA lc :=
  ⟨h.mm.quiet hs, h.hx.step hs id, h.cb.step hs id, own_below h.lo hs, own_below h.bo hs, h.st.trans hs, h.ge, h.fin⟩
theorem Fl.put (h : Fl w v B X a s tk vr x lo C D3 c3 N bx j LA lc) {D : Option Addr} {c' : Nat} (hs : Step (fun k => blkOf LA = some k) v v2)
    (ho : v2.ownsRow w.heap.size 101 2 (.slice D (j + 1) c') (j + 1) (locs (lo.take (j + 1)))) : Fl w (v2.setCell ⟨C, 0, none⟩ (.slice D (j + 1) c')) B X a s tk vr x lo C D3 c3 N bx (j + 1) D c' := by
  have hC : Step (fun k => k = C) v2 (v2.setCell ⟨C, 0, none⟩ (.slice D (j + 1) c')) := Step.setCell (F := fun k => k = C) Step.refl (.inl rfl) _
  have hcl := h.cb.lt
  have hL : ∀ k, blkOf LA = some k → w.heap.size ≤ k := fun k hk => own_ge h.lo k (by rwa [ownBlock_slice])
  have hcb := h.cb.step hs (otag h.lo h.cb (by decide))
  refine ⟨(h.mm.step hs (h.mm.off h.lo (by decide))).step hC (fun k hk e => by subst e; have h1 := h.fin _ hk; have h2 := h.ge; omega),
    (h.hx.step hs (otag h.lo h.hx (by decide))).step hC (fun e => by have h2 := h.ge; omega), ?_, own_step ho hC (fun k hk e => ?_), own_step (own_step h.bo hs (fun k hk e => own_tag2 h.bo h.lo (by decide) k hk (by rwa [ownBlock_slice]))) hC (fun k hk e => ?_),
    (h.st.trans' hs (fun k hk => .inr (hL k hk))).trans' hC (fun k hk => .inr (by have h2 := h.ge; omega)), h.ge, h.fin⟩
  · have := hcb.set_ 0 (.slice D (j + 1) c')
    simpa using this
  · subst e; exact own_tag ho hcb (by decide) hk
  · subst e; exact own_tag h.bo h.cb (by decide) hk
end
section
variable (w : World) (B X : Nat) (a : Ad) (s : Mo) (tk vr : Int)

set_option maxRecDepth 100000 in
set_option maxHeartbeats 12800000 in
theorem func_ok (h : Mk w B X a s tk vr) (hB : B ≤ w.heap.size) (hl : s.small 1000) (x : Ft) (lo : List UInt8) (hlo : lo.length ≤ 1000) (bo : List Ig) (hbo : bo.length ≤ 1000) (A : Option Addr) (c : Nat) (S : Nat → Prop) (hr : Reads w S 4 A bo.length (igs bo)) :
    Calls Try.prog 11 #[.pointer (some ⟨X, 0, none⟩), .agg #[Value.string (str x.p), .string (str x.r)], .string (str lo), .slice A bo.length c] w fun e w' => (∃ z, e = .returned (.int .u32 z) ∧ (tk = 0 → s.fs.length = 0 → z = 0)) ∧ ∃ a' LA lc BA bc, Mk w' B X a' { s with ts := tyL s.ts x, fs := s.fs ++ [tyI s.ts x], cs := s.cs ++ [⟨lo, bo ++ [endI], LA, lc, BA, bc⟩] } tk vr ∧ Upd w (ftA X a) (ftA X a') w' ∧ Reads w' (fun k => ¬ ftA X a' k ∧ w.heap.size ≤ k) 2 LA lo.length (locs lo) ∧ Reads w' (fun k => ¬ ftA X a' k ∧ w.heap.size ≤ k) 4 BA (bo ++ [endI]).length (igs (bo ++ [endI])) := by
  obtain ⟨l0, l1, l2, l5, l6, l8, l9, l10, l16⟩ := hl
  obtain ⟨v1, hv1⟩ : ∃ v1, v1 = w.alloc (.cells #[Value.string (str x.p), .string (str x.r)] 46) := ⟨_, rfl⟩
  have HX : Hid (Blk v1 w.heap.size 46 #[Value.string (str x.p), .string (str x.r)]) := by rw [hv1]; exact Blk.new w _ _
  have HS : Hid (Step (fun _ => False) w v1) := by rw [hv1]; exact Step.alloc Step.refl _
  have hXw := h.blk.lt
  have HSZ : Hid (v1.heap.size = w.heap.size + 1) := by rw [Hid, hv1]; simp
  have HV := Lib.hid (h.quiet HS.out)
  have hlo2 : ∀ k, blkOf a.A2 = some k → k < w.heap.size := fun k hk => own_lt h.o2 k (by rwa [ownBlock_slice])
  have hlo9 : ∀ k, blkOf a.A9 = some k → k < w.heap.size := fun k hk => own_lt h.o9 k (by rwa [ownBlock_slice])
  have hfin : Hid (∀ k, ftA X a k → k < w.heap.size) := h.in_
  have HE := Lib.hid hv1
  have HCl := Lib.hid (clone_igs v1 A bo.length c S (igs bo) (hr.step HS.out (fun _ _ => id)) (by omega) (igs_one _))
  obtain ⟨bx, hbx⟩ : ∃ bx, bx = igs (bo ++ [endI]) := ⟨_, rfl⟩
  have HBX := Lib.hid hbx
  obtain ⟨N, hN⟩ : ∃ N, N = bo.length := ⟨_, rfl⟩
  rw [← hN] at HCl hbo
  obtain ⟨M, hM⟩ : ∃ M, M = lo.length := ⟨_, rfl⟩
  rw [← hM] at hlo
  have HN := Lib.hid hN
  have HM := Lib.hid hM
  have hsM := str_size lo
  rw [← hM] at hsM
  obtain ⟨RR, hRR⟩ : ∃ RR : Value → World → Prop, RR = fun e w' => (∃ z, e = .int .u32 z ∧ (tk = 0 → s.fs.length = 0 → z = 0)) ∧ ∃ a' LA lc BA bc, Mk w' B X a' { s with ts := tyL s.ts x, fs := s.fs ++ [tyI s.ts x], cs := s.cs ++ [⟨lo, bo ++ [endI], LA, lc, BA, bc⟩] } tk vr ∧ Upd w (ftA X a) (ftA X a') w' ∧ Reads w' (fun k => ¬ ftA X a' k ∧ w.heap.size ≤ k) 2 LA lo.length (locs lo) ∧ Reads w' (fun k => ¬ ftA X a' k ∧ w.heap.size ≤ k) 4 BA (bo ++ [endI]).length (igs (bo ++ [endI])) := ⟨_, rfl⟩
  have HRR := Lib.hid hRR
  refine (show Calls Try.prog 11 #[.pointer (some ⟨X, 0, none⟩), .agg #[Value.string (str x.p), .string (str x.r)], .string (str lo), .slice A N c] w (fun e w' => ∃ v, e = .returned v ∧ RR v w') from ?_ ).mono ?h2 |> fun hh => by rw [hN] at hh; exact hh
  case h2 =>
    rintro e w' ⟨v, rfl, hv⟩
    rw [HRR.out] at hv
    obtain ⟨⟨z, rfl, hz⟩, hv⟩ := hv
    exact ⟨⟨z, rfl, hz⟩, hv⟩
  clear h hr hv1 hN hM hRR hbx
  go_enter Try.func11, Try.ntmps11
  go_wp2_with fail
  rw [← HE.out]
  refine HCl.out.mono ?_
  rintro e w2 ⟨D2, c2, rfl, hown2, hs2⟩
  have hone : ∀ u ∈ #[Value.int .u8 11, .int .u64 0, .int .u64 0, .slice none 0 0].toList, u.oneCell' = true := by simp [Value.oneCell']
  have hm1 : N + 1 ≤ maxLen := by unfold maxLen; omega
  have hsz2 := hs2.size
  go_wp2_with (at_builtin; refine wpList_append_src _ rfl _ _ (by rfl) E_igs (by rfl) (hown2.alloc _) (by rfl) (reads_new _ #[Value.int .u8 11, .int .u64 0, .int .u64 0, .slice none 0 0] 59 4 1 rfl) hone hm1 (by omega) (by simp; omega) ?_; intro D3 c3 w3 hown3 hgrow hat)
  have hF0 : Hid (Fl w (w3.alloc (.cells #[.slice none 0 0, .slice D3 (N + 1) c3] 83)) B X a s tk vr x lo w3.heap.size D3 c3 N bx 0 none 0) := by
    have hs3 : Step (fun _ => False) v1 w3 := grow_step (hs2.alloc _) hgrow (hown2.alloc _) (Nat.le_refl _)
    have hsz3 := hs3.size
    have hsA := HS.out.trans hs3
    have e1 : igs bo ++ #[Value.int .u8 11, .int .u64 0, .int .u64 0, .slice none 0 0].toList = bx := by rw [HBX.out, igs_last]; rfl
    rw [e1] at hown3
    refine ⟨(HV.out.quiet hs3).quiet (Step.alloc Step.refl _), (HX.out.step hs3 id).alloc _, Blk.new w3 _ _, World.ownsRow_nil _ _ _ _, (own_base hown3 (fun k hk => ?_)).alloc _, hsA.alloc _, ?_, hfin.out⟩
    · have h1 := own_ge hown3 k hk
      have h2 := HS.out.size
      omega
    · have h2 := HSZ.out
      omega
  obtain ⟨w5, hw5⟩ : ∃ w5, w5 = w3.alloc (.cells #[.slice none 0 0, .slice D3 (N + 1) c3] 83) := ⟨_, rfl⟩
  rw [← hw5] at hF0
  clear hown2 hs2 hown3 hgrow hat hone hm1 hsz2
  go_wp2_with fail
  rw [← hw5]
  clear hw5
  obtain ⟨C, hC⟩ : ∃ C, C = w3.heap.size := ⟨_, rfl⟩
  rw [← hC] at hF0 ⊢
  clear hC
  go_loopw [19, 10] (fun iv kv wr => ∃ (j : Nat) (LA : Option Addr) (lc : Nat), j ≤ M ∧ iv = .int .i64 (j : Int) ∧ Hid (Fl w wr B X a s tk vr x lo C D3 c3 N bx j LA lc)) (fun iv _ _ => M + 1 - (intOf iv).toNat)
  case atStart => exact ⟨0, none, 0, by omega, rfl, hF0⟩
  case round =>
    clear hF0
    obtain ⟨j, LA, lc, hj, rfl, HF⟩ := hrel
    by_cases hlt : j < M
    · have g1 : (j : Int) < (M : Int) := by omega
      have hw1 := IntWalk.i64_in ((j : Int) + 1) (by omega)
      have hjl : j < lo.length := by rw [← HM.out]; exact hlt
      have hidx := index_str (P := Try.prog) (t := 9) Try.underlying9 lo j hjl
      have cc := HF.out.cb.cell 0
      have zf := HF.out.cb.frozen 0
      simp at cc
      have hone : ∀ u ∈ #[Value.int .u32 1, .int .u8 (lo[j].toNat : Int)].toList, u.oneCell' = true := by simp [Value.oneCell']
      have hm1 : j + 1 ≤ maxLen := by unfold maxLen; omega
      have hszr := HF.out.st.size
      go_wp2_with fail
      obtain ⟨LK, hLK⟩ : ∃ LK : List (Addr × Value), LK = [(⟨C, 0, none⟩, .slice LA j lc)] := ⟨_, rfl⟩
      have HKp : Hid (Keeps LK wr) := by rw [hLK]; exact Keeps.cons cc (Keeps.nil _)
      have d0 : ∀ i : Mix.Cls (Keeps LK), i.val.cell? ⟨C, 0, none⟩ = some (.slice LA j lc) := fun i => i.prop (⟨C, 0, none⟩, .slice LA j lc) (by rw [hLK]; simp)
      have HLK : Hid (∀ F : Nat → Prop, ¬ F C → ∀ p ∈ LK, ¬ F p.1.block) := fun F h0 p hp => by
        rw [hLK] at hp
        simp at hp
        subst hp
        exact h0
      clear hLK cc zf
      refine Mix.wp_region_mix [6, 7, 9] [6, 7] (Keeps LK) (by kernel_rfl) (by kernel_rfl) (HKp.out) (fun hcls => ?_)
      refine Mix.wpL_reads 6 (by rfl) ?_
      simp only [List.take_succ_cons, List.drop_succ_cons, List.take_zero, List.drop_zero]
      repeat (go_big_quiet_step (fail))
      refine wpQuiet_nil ?_
      refine Mix.wpL_op (by rfl) (fun K hK => ?_)
      go_simp
      have HKa : Hid (Keeps LK (wr.drew.alloc (.cells #[Value.int .u32 1, .int .u8 (lo[j].toNat : Int)] 101))) := HKp.out.step (F := fun _ => False) (Step.alloc Step.refl.drew _) (fun _ _ => id)
      refine hK _ _ (fun hlt => Mix.cl (HKa.out)) ?_
      clear hK K
      refine Mix.wpL_op (by rfl) (fun K hK => ?_)
      refine step_append_src _ (by rfl) _ _ (by rfl) E_locs (by rfl) ((own_drew HF.out.lo).alloc _) (by rfl) (reads_new wr.drew #[Value.int .u32 1, .int .u8 (lo[j].toNat : Int)] 101 2 1 rfl) hone hm1 (by show (j + 1) * 8 ≤ _; omega) (by simp; omega) ?_
      intro D' c' w8 hown8 hgrow hat
      have hs8 : Step (fun k => blkOf LA = some k) wr w8 := (Step.alloc Step.refl.drew _).grown hgrow (fun k hk => .inl hk)
      have HK8 : Hid (Keeps LK w8) := HKp.out.step hs8 (HLK.out (fun k => blkOf LA = some k) (otag HF.out.lo HF.out.cb (by decide)))
      rw [show locs (lo.take j) ++ #[Value.int .u32 1, .int .u8 (lo[j].toNat : Int)].toList = locs (lo.take (j + 1)) by rw [locs_take lo j hjl]; rfl] at hown8
      have HF8 := Lib.hid (HF.out.put hs8 hown8)
      have hcb8 := HF.out.cb.step hs8 (otag HF.out.lo HF.out.cb (by decide))
      have f8 := hcb8.frozen 0
      have c8 := hcb8.cell 0
      simp at c8
      go_simp
      refine hK _ _ (fun hlt => Mix.cl (HK8.out)) ?_
      clear hK K
      clear hown8 hgrow hat hs8 hone hcb8
      refine Mix.wpL_reads 1 (by rfl) ?_
      simp only [List.take_succ_cons, List.drop_succ_cons, List.take_zero, List.drop_zero]
      repeat (go_big_quiet_step (fail))
      refine wpQuiet_nil ?_
      refine Mix.wpL_op (by rfl) (fun K hK => ?_)
      go_simp
      refine hK _ _ (fun hlt => absurd hlt (by decide)) ?_
      clear hK K
      refine Mix.wpL_end ?_
      clear d0
      go_wp2_with fail
      go_roundw
      case rel => exact ⟨j + 1, D', c', by omega, by rw [Int.natCast_add]; rfl, HF8⟩
      case measure => simp [intOf]; omega
    · obtain rfl : j = M := by omega
      clear HCl
      obtain ⟨q, hq⟩ : ∃ q, q = tyI s.ts x := ⟨_, rfl⟩
      obtain ⟨L', hL'⟩ : ∃ L', L' = tyL s.ts x := ⟨_, rfl⟩
      have hle := tyI_le s.ts x
      have hszr := HF.out.st.size
      have HTy : Hid (∀ wz, Step (fun _ => False) wr wz → _) := fun wz hz => type_ok wz B X a s tk vr (HF.out.mm.quiet hz) (by have := hz.size; omega) l0 x
      rw [← hq] at hle HTy
      rw [← hL'] at HTy
      rw [← hq, ← hL'] at HRR
      have c2 := HF.out.mm.blk.cell 2
      have x0 := HF.out.hx.cell 0
      have x1 := HF.out.hx.cell 1
      simp [mkC] at c2 x0 x1
      clear hq hL'
      go_wp2_with fail
      obtain ⟨LK, hLK⟩ : ∃ LK : List (Addr × Value), LK = [(⟨X, 2, none⟩, .slice a.A2 s.fs.length a.c2), (⟨w.heap.size, 0, none⟩, .string (str x.p)), (⟨w.heap.size, 1, none⟩, .string (str x.r))] := ⟨_, rfl⟩
      have HKp : Hid (Keeps LK wr) := by rw [hLK]; exact Keeps.cons c2 (Keeps.cons x0 (Keeps.cons x1 (Keeps.nil _)))
      have d0 : ∀ i : Mix.Cls (Keeps LK), i.val.cell? ⟨X, 2, none⟩ = some (.slice a.A2 s.fs.length a.c2) := fun i => i.prop (⟨X, 2, none⟩, .slice a.A2 s.fs.length a.c2) (by rw [hLK]; simp)
      have d1 : ∀ i : Mix.Cls (Keeps LK), i.val.cell? ⟨w.heap.size, 0, none⟩ = some (.string (str x.p)) := fun i => i.prop (⟨w.heap.size, 0, none⟩, .string (str x.p)) (by rw [hLK]; simp)
      have d2 : ∀ i : Mix.Cls (Keeps LK), i.val.cell? ⟨w.heap.size, 1, none⟩ = some (.string (str x.r)) := fun i => i.prop (⟨w.heap.size, 1, none⟩, .string (str x.r)) (by rw [hLK]; simp)
      have HLK : Hid (∀ F : Nat → Prop, ¬ F X → ¬ F w.heap.size → ∀ p ∈ LK, ¬ F p.1.block) := fun F h0 h1 p hp => by
        rw [hLK] at hp
        simp at hp
        rcases hp with rfl | rfl | rfl
        · exact h0
        · exact h1
        · exact h1
      have HL2 := Lib.hid hLK
      clear hLK c2 x0 x1
      refine Mix.wp_region_mix [8, 9, 10, 14] [8, 9, 10] (Keeps LK) (by kernel_rfl) (by kernel_rfl) (HKp.out) (fun hcls => ?_)
      refine Mix.wpL_reads 8 (by rfl) ?_
      simp only [List.take_succ_cons, List.drop_succ_cons, List.take_zero, List.drop_zero]
      repeat (go_big_quiet_step (fail))
      refine wpQuiet_nil ?_
      refine Mix.wpL_op (by rfl) (fun K hK => ?_)
      go_simp
      refine (HTy.out _ Step.refl.drew).mono ?_
      rintro e w5 ⟨rfl, A1, e1, hmk, hup⟩
      have hsz5 := hup.1.size
      have hbl : ¬ ftA X a w.heap.size := fun e => Nat.lt_irrefl _ (hfin.out _ e)
      have HK3 : Hid (Keeps LK w5) := by
        have y1 := hmk.blk.cell 2
        have z := HF.out.hx.step (Step.refl.drew.trans' hup.1 (F := fun k => ftA X a k) (fun k hk => .inl hk)) hbl
        have z0 := z.cell 0
        have z1 := z.cell 1
        simp [mkC] at y1 z0 z1
        rw [HL2.out]
        exact Keeps.cons y1 (Keeps.cons z0 (Keeps.cons z1 (Keeps.nil _)))
      have HVc := Lib.hid hmk
      have HUc := Lib.hid (Upd.after Step.refl.drew hup)
      refine hK _ _ (fun hlt => Mix.cl (HK3.out)) ?_
      clear hK K
      clear hmk hup
      have hB2 : B ≤ (w5.alloc (.cells #[Value.int .u32 (q : Int)] 36)).heap.size := by simp; simp at hsz5; omega
      have HKc := HK3
      have hone : ∀ u ∈ #[Value.int .u32 (q : Int)].toList, u.oneCell' = true := by simp [Value.oneCell']
      have hm1 : s.fs.length + 1 ≤ maxLen := by unfold maxLen; omega
      have HKa : Hid (Keeps LK (w5.alloc (.cells #[Value.int .u32 (q : Int)] 36))) := HKc.out.step (F := fun _ => False) (Step.alloc Step.refl _) (fun _ _ => id)
      refine Mix.wpL_op (by rfl) (fun K hK => ?_)
      go_simp
      refine hK _ _ (fun hlt => Mix.cl (HKa.out)) ?_
      clear hK K
      have HVa : Hid (Mk (w5.alloc (.cells #[Value.int .u32 (q : Int)] 36)) B X { a with A0 := A1, c0 := e1 } { s with ts := L' } tk vr) := HVc.out.quiet (Step.alloc Step.refl _)
      refine Mix.wpL_op (by rfl) (fun K hK => ?_)
      refine step_append_src _ (by rfl) _ _ (by rfl) E_u32s (by rfl) HVa.out.o2 (by rfl) (reads_new w5 #[Value.int .u32 (q : Int)] 36 1 1 rfl) hone hm1 (by show (s.fs.length + 1) * 4 ≤ _; omega) hB2 ?_
      intro D7 e7 w8 hown8 hgrow hat
      have hs8 : Step (fun k => blkOf a.A2 = some k) (w5.alloc (.cells #[Value.int .u32 (q : Int)] 36)) w8 := Step.refl.grown hgrow (fun k hk => .inl hk)
      rw [show u32s s.fs ++ #[Value.int .u32 (q : Int)].toList = u32s (s.fs ++ [q]) by rw [u32s_last] <;> rfl, show s.fs.length + 1 = (s.fs ++ [q]).length by simp] at hown8
      have hput := HVa.out.put2 hs8 hown8 (fun k hk => by
        rcases hat with e | e
        · exact .inl (by rw [← e]; exact hk)
        · exact .inr (by rw [e] at hk; injection hk with hk; exact Nat.le_of_eq hk))
      replace hput := Lib.hid hput
      rw [show (s.fs ++ [q]).length = s.fs.length + 1 by simp] at hput
      have HK8 : Hid (Keeps LK w8) := HKa.out.step hs8 (HLK.out (fun k => blkOf a.A2 = some k) (otag HVc.out.o2 HVc.out.blk (by decide)) (fun e => absurd (hlo2 _ e) (Nat.lt_irrefl _)))
      obtain ⟨z8, c8⟩ := HVa.out.z2 hgrow
      go_simp
      refine hK _ _ (fun hlt => Mix.cl (HK8.out)) ?_
      clear hK K
      clear hown8 hgrow hat hs8 hone
      refine Mix.wpL_reads 3 (by rfl) ?_
      simp only [List.take_succ_cons, List.drop_succ_cons, List.take_zero, List.drop_zero]
      repeat (go_big_quiet_step (fail))
      refine wpQuiet_nil ?_
      refine Mix.wpL_op (by rfl) (fun K hK => ?_)
      go_simp
      refine hK _ _ (fun hlt => absurd hlt (by decide)) ?_
      clear hK K
      refine Mix.wpL_end ?_
      clear d0 d1 d2
      have HU7 := Lib.hid (HUc.out.trans (Upd.after (Step.alloc Step.refl _) hput.out.2))
      have HV7 := Lib.hid hput.out.1
      clear hput HUc HVc HLK HL2 HKp HK3 HKc HTy HV
      obtain ⟨w7, hw7⟩ : ∃ w7, w7 = w8.setCell ⟨X, 2, none⟩ (.slice D7 (s.fs.length + 1) e7) := ⟨_, rfl⟩
      rw [← hw7] at HU7 HV7 ⊢
      clear hw7
      have hsz7 := HU7.out.1.size
      have hge := HF.out.ge
      have hcb := HF.out.cb.step HU7.out.1 (fun e => by have := hfin.out _ e; omega)
      have C0 := hcb.cell 0
      have C1 := hcb.cell 1
      have c9 := HV7.out.blk.cell 9
      simp [mkC] at C0 C1 c9
      clear hcb
      obtain ⟨LK0, hLK0⟩ : ∃ l : List (Addr × Value), l = [] := ⟨_, rfl⟩
      clear hLK0
      go_wp2_with fail
      obtain ⟨LK, hLK⟩ : ∃ LK : List (Addr × Value), LK = [(⟨X, 9, none⟩, .slice a.A9 s.cs.length a.c9), (⟨C, 0, none⟩, .slice LA j lc), (⟨C, 1, none⟩, .slice D3 (N + 1) c3)] := ⟨_, rfl⟩
      have HKp : Hid (Keeps LK w7) := by rw [hLK]; exact Keeps.cons c9 (Keeps.cons C0 (Keeps.cons C1 (Keeps.nil _)))
      have d0 : ∀ i : Mix.Cls (Keeps LK), i.val.cell? ⟨X, 9, none⟩ = some (.slice a.A9 s.cs.length a.c9) := fun i => i.prop (⟨X, 9, none⟩, .slice a.A9 s.cs.length a.c9) (by rw [hLK]; simp)
      have d1 : ∀ i : Mix.Cls (Keeps LK), i.val.cell? ⟨C, 0, none⟩ = some (.slice LA j lc) := fun i => i.prop (⟨C, 0, none⟩, .slice LA j lc) (by rw [hLK]; simp)
      have d2 : ∀ i : Mix.Cls (Keeps LK), i.val.cell? ⟨C, 1, none⟩ = some (.slice D3 (N + 1) c3) := fun i => i.prop (⟨C, 1, none⟩, .slice D3 (N + 1) c3) (by rw [hLK]; simp)
      have HLK : Hid (∀ F : Nat → Prop, ¬ F X → ¬ F C → ∀ p ∈ LK, ¬ F p.1.block) := fun F h0 h1 p hp => by
        rw [hLK] at hp
        simp at hp
        rcases hp with rfl | rfl | rfl
        · exact h0
        · exact h1
        · exact h1
      clear hLK c9 C0 C1
      refine Mix.wp_region_mix [7, 8, 12] [7, 8] (Keeps LK) (by kernel_rfl) (by kernel_rfl) (HKp.out) (fun hcls => ?_)
      refine Mix.wpL_reads 7 (by rfl) ?_
      simp only [List.take_succ_cons, List.drop_succ_cons, List.take_zero, List.drop_zero]
      repeat (go_big_quiet_step (fail))
      refine wpQuiet_nil ?_
      have hB2 : B ≤ (w7.drew.alloc (.cells #[Value.slice LA j lc, .slice D3 (N + 1) c3] 83)).heap.size := by simp; omega
      have HKc : Hid (Keeps LK w7.drew) := HKp.out
      have HVc : Hid (Mk w7.drew B X { a with A0 := A1, c0 := e1, A2 := D7, c2 := e7 } { s with ts := L', fs := s.fs ++ [q] } tk vr) := HV7.out.quiet Step.refl.drew
      have hone : ∀ u ∈ #[Value.slice LA j lc, .slice D3 (N + 1) c3].toList, u.oneCell' = true := by simp [Value.oneCell']
      have hm1 : s.cs.length + 1 ≤ maxLen := by unfold maxLen; omega
      have HKa : Hid (Keeps LK (w7.drew.alloc (.cells #[Value.slice LA j lc, .slice D3 (N + 1) c3] 83))) := HKc.out.step (F := fun _ => False) (Step.alloc Step.refl _) (fun _ _ => id)
      refine Mix.wpL_op (by rfl) (fun K hK => ?_)
      go_simp
      refine hK _ _ (fun hlt => Mix.cl (HKa.out)) ?_
      clear hK K
      have HVa : Hid (Mk (w7.drew.alloc (.cells #[Value.slice LA j lc, .slice D3 (N + 1) c3] 83)) B X { a with A0 := A1, c0 := e1, A2 := D7, c2 := e7 } { s with ts := L', fs := s.fs ++ [q] } tk vr) := HVc.out.quiet (Step.alloc Step.refl _)
      refine Mix.wpL_op (by rfl) (fun K hK => ?_)
      refine step_append_src _ (by rfl) _ _ (by rfl) E_cdsL (by rfl) HVa.out.o9 (by rfl) (reads_new w7.drew #[Value.slice LA j lc, .slice D3 (N + 1) c3] 83 2 1 rfl) hone hm1 (by show (s.cs.length + 1) * 48 ≤ _; omega) hB2 ?_
      intro D' c' w9 hown8 hgrow hat
      have hs8 : Step (fun k => blkOf a.A9 = some k) (w7.drew.alloc (.cells #[Value.slice LA j lc, .slice D3 (N + 1) c3] 83)) w9 := Step.refl.grown hgrow (fun k hk => .inl hk)
      rw [show cdsL s.cs ++ #[Value.slice LA j lc, .slice D3 (N + 1) c3].toList = cdsL (s.cs ++ [(⟨lo, bo ++ [endI], LA, lc, D3, c3⟩ : Cd)]) by rw [cdsL_last]; have h1 := HM.out; have h2 := HN.out; simp [Cd.cells, ← h1, ← h2], show s.cs.length + 1 = (s.cs ++ [(⟨lo, bo ++ [endI], LA, lc, D3, c3⟩ : Cd)]).length by simp] at hown8
      have hput := HVa.out.put9 hs8 hown8 (fun k hk => by
        rcases hat with e | e
        · exact .inl (by rw [← e]; exact hk)
        · exact .inr (by rw [e] at hk; injection hk with hk; exact Nat.le_of_eq hk))
      replace hput := Lib.hid hput
      rw [show (s.cs ++ [(⟨lo, bo ++ [endI], LA, lc, D3, c3⟩ : Cd)]).length = s.cs.length + 1 by simp] at hput
      have HK8 : Hid (Keeps LK w9) := HKa.out.step hs8 (HLK.out (fun k => blkOf a.A9 = some k) (otag HVc.out.o9 HVc.out.blk (by decide)) (fun e => by have := hlo9 _ e; have := hge; omega))
      obtain ⟨z8, c8⟩ := HVa.out.z9 hgrow
      go_simp
      refine hK _ _ (fun hlt => Mix.cl (HK8.out)) ?_
      clear hK K
      clear hown8 hgrow hat hs8 hone
      refine Mix.wpL_reads 3 (by rfl) ?_
      simp only [List.take_succ_cons, List.drop_succ_cons, List.take_zero, List.drop_zero]
      repeat (go_big_quiet_step (fail))
      refine wpQuiet_nil ?_
      refine Mix.wpL_op (by rfl) (fun K hK => ?_)
      go_simp
      refine hK _ _ (fun hlt => absurd hlt (by decide)) ?_
      clear hK K
      refine Mix.wpL_end ?_
      clear d0 d1 d2
      have HU9 := Lib.hid (HU7.out.trans (Upd.after (Step.alloc Step.refl.drew _) hput.out.2))
      have HV9 := Lib.hid hput.out.1
      have y17 := HV9.out.blk.cell 17
      have y2 := HV9.out.blk.cell 2
      simp [mkC] at y17 y2
      clear hput HKp HKc HK8 HLK HVa HKa HVc HU7 HV7
      obtain ⟨wz, hwz⟩ : ∃ wz, wz = w9.setCell ⟨X, 9, none⟩ (.slice D' (s.cs.length + 1) c') := ⟨_, rfl⟩
      rw [← hwz] at HU9 HV9 y17 y2 ⊢
      clear hwz
      go_wp2_with fail
      go_quiet (fail)
      go_wp2_with fail
      go_ret
      refine ⟨_, rfl, ?_⟩
      rw [HRR.out]
      refine ⟨⟨_, rfl, fun h1 h2 => by rw [h1, h2]; first | rfl | decide | (simp [wrap64])⟩, _, LA, lc, D3, c3, HV9.out.quiet (Step.refl.drewN _), (Upd.after HF.out.st HU9.out).drewN _, ?_, ?_⟩
      · have ho := own_step HF.out.lo HU9.out.1 (fun k hk e => HF.out.mm.off HF.out.lo (by decide) k e (by rwa [ownBlock_slice] at hk))
        have h1 := HM.out
        rw [← h1]
        rw [h1, List.take_length, ← h1] at ho
        exact ((Reads.of_own ho).mono fun k _ hk => ⟨fun e => HV9.out.off ho (by decide) k e (by rwa [ownBlock_slice] at hk), own_ge ho k hk⟩).step (Step.refl.drewN _) (fun _ _ => id)
      · have ho := own_step HF.out.bo HU9.out.1 (fun k hk e => HF.out.mm.off HF.out.bo (by decide) k e (by rwa [ownBlock_slice] at hk))
        have h1 := HN.out
        rw [HBX.out] at ho
        rw [show (bo ++ [endI]).length = N + 1 by rw [h1]; simp]
        exact ((Reads.of_own ho).mono fun k _ hk => ⟨fun e => HV9.out.off ho (by decide) k e (by rwa [ownBlock_slice] at hk), own_ge ho k hk⟩).step (Step.refl.drewN _) (fun _ _ => id)

end
end Go.Proofs.Ytflgpjdpofmbkaa
