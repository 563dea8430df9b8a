/-
  craft: slices.Index of a type; Type.
-/
import Derived.Test.YtflgpjdpofmbkaaCsC
set_option linter.unusedVariables false
set_option linter.unusedSimpArgs false
namespace Go.Proofs.Ytflgpjdpofmbkaa
open Go.RowKit

/-- Where a type stands in a list; behind its end, if it isn't there. -/
def tyI : List Ft → Ft → Nat
  | [], _ => 0
  | y :: l, x => if y.p = x.p ∧ y.r = x.r then 0 else tyI l x + 1
def tyL (l : List Ft) (x : Ft) : List Ft := if tyI l x < l.length then l else l ++ [x]
theorem tyI_le (l : List Ft) (x : Ft) : tyI l x ≤ l.length := by
  induction l with
  | nil => simp [tyI]
  | cons y l ih => rw [tyI]; split <;> simp <;> omega
theorem tyI_drop (l : List Ft) (x : Ft) (j : Nat) (h : j < l.length) : tyI (l.drop j) x = if l[j].p = x.p ∧ l[j].r = x.r then 0 else tyI (l.drop (j + 1)) x + 1 := by
  rw [List.drop_eq_getElem_cons h, tyI]
theorem tyL_len (l : List Ft) (x : Ft) : (tyL l x).length ≤ l.length + 1 := by
  unfold tyL
  split <;> simp

theorem eqS (a b : List UInt8) (h : a = b) : ((str a).toList == (str b).toList) = true := by subst h; simp
theorem neS (a b : List UInt8) (h : ¬ a = b) : ((str a).toList == (str b).toList) = false := by rw [str_toList, str_toList]; exact beq_eq_false_iff_ne.2 h

set_option maxRecDepth 100000 in
set_option maxHeartbeats 3200000 in
theorem index_ok (w : World) (A : Option Addr) (n c : Nat) (ts : List Ft) (x : Ft) (S : Nat → Prop) (HN : Hid (n = ts.length)) (hn : n ≤ 1000) (h : Reads w S 2 A n (fts ts)) :
    Calls Try.prog 49 #[.slice A n c, .agg #[.string (str x.p), .string (str x.r)]] w fun e w' => e = .returned (.int .i64 (if tyI ts x < n then (tyI ts x : Nat) else (-1 : Int))) ∧ Step (fun _ => False) w w' := by
  obtain ⟨v1, hv1⟩ : ∃ v1, v1 = w.alloc (.cells #[.string (str x.p), .string (str x.r)] 46) := ⟨_, rfl⟩
  have HX : Hid (Blk v1 w.heap.size 46 #[.string (str x.p), .string (str x.r)]) := by rw [hv1]; exact Blk.new w _ _
  have HS : Hid (Step (fun _ => False) w v1) := by rw [hv1]; exact Step.alloc Step.refl _
  have HR := Lib.hid (h.step HS.out (fun _ _ => id))
  have HE := Lib.hid hv1
  have HL : Hid (tyI ts x = 0 + tyI (ts.drop 0) x) := by rw [Hid, List.drop_zero]; omega
  obtain ⟨q, hq⟩ : ∃ q, q = tyI ts x := ⟨_, rfl⟩
  rw [← hq] at HL ⊢
  obtain ⟨R, hR⟩ : ∃ R : Int, R = (if q < n then (q : Int) else -1) := ⟨_, rfl⟩
  rw [← hR]
  have HR2 := Lib.hid hR
  clear h hv1 hq hR
  go_enter Try.func49, Try.ntmps49
  go_wp2_with fail
  rw [← HE.out]
  go_loopw [8, 5] (fun iv kv wr => ∃ j : Nat, j ≤ n ∧ iv = .int .i64 (j : Int) ∧ Hid (q = j + tyI (ts.drop j) x) ∧ Hid (Step (fun _ => False) v1 wr)) (fun iv _ _ => n + 1 - (intOf iv).toNat)
  case atStart => exact ⟨0, by omega, rfl, HL, Step.refl⟩
  case round =>
    obtain ⟨j, hj, rfl, HQ, HSj⟩ := hrel
    by_cases hlt : j < n
    · have g1 : (j : Int) < (n : Int) := by omega
      have i0 : (0 : Int) ≤ (j : Int) := by omega
      have hw1 := IntWalk.i64_in ((j : Int) + 1) (by omega)
      have hjl : j < ts.length := by rw [← HN.out]; exact hlt
      have hd := tyI_drop ts x j hjl
      obtain ⟨bk, off, rfl, _, hbl, hc⟩ := reads_row Ft.cells 2 (by decide) Ft.len (HR.out.step HSj.out (fun _ _ => id)) (k := j) hjl
      obtain ⟨y, hy⟩ : ∃ y, y = ts[j] := ⟨_, rfl⟩
      rw [← hy] at hc hd
      clear hy
      have t0 := hc 0 _ rfl
      have t1 := hc 1 _ rfl
      simp only [Nat.add_zero] at t0
      have x0 := (HX.out.step HSj.out id).cell 0
      have x1 := (HX.out.step HSj.out id).cell 1
      simp at x0 x1
      clear hc
      by_cases he : y.p = x.p ∧ y.r = x.r
      · have e1 := eqS x.p y.p he.1.symm
        have e2 := eqS x.r y.r he.2.symm
        rw [if_pos he] at hd
        have HQ2 : Hid (q = j) := by have := HQ.out; rw [hd] at this; exact this
        have HP := Lib.hid he
        clear hd he HQ
        go_wp2_with fail
        go_quiet (fail)
        go_wp2_with fail
        go_ret
        have hz : R = (j : Int) := by rw [HR2.out, HQ2.out, if_pos hlt]
        rw [hz]
        exact ⟨rfl, (HS.out.trans HSj.out).drewN _⟩
      · have hd2 : tyI (ts.drop j) x = tyI (ts.drop (j + 1)) x + 1 := by rw [hd, if_neg he]
        have HQ2 : Hid (q = j + 1 + tyI (ts.drop (j + 1)) x) := by have := HQ.out; rw [hd2] at this; rw [Hid]; omega
        clear hd hd2 HQ
        by_cases h1 : y.p = x.p
        · have e1 := eqS x.p y.p h1.symm
          have e2 := neS x.r y.r (fun h2 => he ⟨h1, h2.symm⟩)
          replace h1 := Lib.hid h1
          clear he
          go_wp2_with fail
          go_quiet (fail)
          go_wp2_with fail
          go_roundw
          case rel => exact ⟨j + 1, by omega, by rw [Int.natCast_add]; rfl, HQ2, HSj.out.drewN _⟩
          case measure => simp [intOf]; omega
        · have e1 := neS x.p y.p (fun h2 => h1 h2.symm)
          replace h1 := Lib.hid h1
          clear he
          by_cases h2 : y.r = x.r
          · have e2 := eqS x.r y.r h2.symm
            replace h2 := Lib.hid h2
            go_wp2_with fail
            go_quiet (fail)
            go_wp2_with fail
            go_roundw
            case rel => exact ⟨j + 1, by omega, by rw [Int.natCast_add]; rfl, HQ2, HSj.out.drewN _⟩
            case measure => simp [intOf]; omega
          · have e2 := neS x.r y.r (fun h3 => h2 h3.symm)
            replace h2 := Lib.hid h2
            go_wp2_with fail
            go_quiet (fail)
            go_wp2_with fail
            go_roundw
            case rel => exact ⟨j + 1, by omega, by rw [Int.natCast_add]; rfl, HQ2, HSj.out.drewN _⟩
            case measure => simp [intOf]; omega
    · obtain rfl : j = n := by omega
      have hq : q = j := by have := HQ.out; rw [List.drop_of_length_le (by rw [← HN.out]; omega), tyI] at this; exact this
      go_wp2_with fail
      go_ret
      have hz : R = -1 := by rw [HR2.out, hq, if_neg (by omega)]
      rw [hz]
      exact ⟨rfl, HS.out.trans HSj.out⟩

/-- So many cells are as they are. -/
def Keeps (l : List (Addr × Value)) (w : World) : Prop := ∀ p ∈ l, w.cell? p.1 = some p.2
theorem Keeps.step {l : List (Addr × Value)} {w w' : World} {F : Nat → Prop} (h : Keeps l w) (hs : Step F w w') (hd : ∀ p ∈ l, ¬ F p.1.block) : Keeps l w' := fun p hp => (hs.cell (World.block_lt_of_cell? w p.1 (h p hp)) (hd p hp)).trans (h p hp)
theorem Keeps.nil (w : World) : Keeps [] w := fun p hp => by cases hp
theorem Keeps.cons {l : List (Addr × Value)} {w : World} {p : Addr} {v : Value} (h1 : w.cell? p = some v) (h : Keeps l w) : Keeps ((p, v) :: l) w := fun q hq => by
  rcases List.mem_cons.1 hq with rfl | hq
  · exact h1
  · exact h q hq

set_option maxRecDepth 100000 in
set_option maxHeartbeats 3200000 in
theorem type_ok (w : World) (B X : Nat) (a : Ad) (s : Mo) (tk vr : Int) (h : Mk w B X a s tk vr) (hB : B ≤ w.heap.size) (hl : s.ts.length ≤ 1000) (x : Ft) :
    Calls Try.prog 36 #[.pointer (some ⟨X, 0, none⟩), .agg #[.string (str x.p), .string (str x.r)]] w fun e w' => e = .returned (.int .u32 ((tyI s.ts x : Nat) : Int)) ∧ ∃ A' c', Mk w' B X { a with A0 := A', c0 := c' } { s with ts := tyL s.ts x } tk vr ∧ Upd w (ftA X a) (ftA X { a with A0 := A', c0 := c' }) w' := by
  obtain ⟨v1, hv1⟩ : ∃ v1, v1 = w.alloc (.cells #[.string (str x.p), .string (str x.r)] 46) := ⟨_, rfl⟩
  have HX : Hid (Blk v1 w.heap.size 46 #[.string (str x.p), .string (str x.r)]) := by rw [hv1]; exact Blk.new w _ _
  have HS : Hid (Step (fun _ => False) w v1) := by rw [hv1]; exact Step.alloc Step.refl _
  have hXw := h.blk.lt
  have hsz : v1.heap.size = w.heap.size + 1 := by rw [hv1]; simp
  have HV := Lib.hid (h.quiet HS.out)
  have hlo0 : ∀ k, blkOf a.A0 = some k → k < w.heap.size := fun k hk => own_lt h.o0 k (by rwa [ownBlock_slice])
  have HE := Lib.hid hv1
  have hIx : ∀ wz, Step (fun _ => False) v1 wz → _ := fun wz hz => index_ok wz a.A0 s.ts.length a.c0 s.ts x _ rfl hl (Reads.of_own (HV.out.quiet hz).o0)
  have HIx := Lib.hid hIx
  have hle := tyI_le s.ts x
  obtain ⟨q, hq⟩ : ∃ q, q = tyI s.ts x := ⟨_, rfl⟩
  rw [← hq] at HIx hle ⊢
  have HQ := Lib.hid hq
  obtain ⟨L', hL'⟩ : ∃ L', L' = tyL s.ts x := ⟨_, rfl⟩
  rw [← hL']
  have HL' := Lib.hid hL'
  have c0 := HV.out.blk.cell 0
  have x0 := HX.out.cell 0
  have x1 := HX.out.cell 1
  simp [mkC] at c0 x0 x1
  have hw := IntWalk.u32_in (q : Int) (by omega)
  clear h hv1 hq hIx hL'
  go_enter Try.func36, Try.ntmps36
  go_wp2_with fail
  rw [← HE.out]
  obtain ⟨LK, hLK⟩ : ∃ LK : List (Addr × Value), LK = [(⟨X, 0, none⟩, .slice a.A0 s.ts.length a.c0), (⟨w.heap.size, 0, none⟩, .string (str x.p)), (⟨w.heap.size, 1, none⟩, .string (str x.r))] := ⟨_, rfl⟩
  have HKp : Hid (Keeps LK v1) := by rw [hLK]; exact Keeps.cons c0 (Keeps.cons x0 (Keeps.cons x1 (Keeps.nil _)))
  have d0 : ∀ i : Mix.Cls (Keeps LK), i.val.cell? ⟨X, 0, none⟩ = some (.slice a.A0 s.ts.length a.c0) := fun i => i.prop (⟨X, 0, none⟩, .slice a.A0 s.ts.length a.c0) (by rw [hLK]; simp)
  have d1 : ∀ i : Mix.Cls (Keeps LK), i.val.cell? ⟨w.heap.size, 0, none⟩ = some (.string (str x.p)) := fun i => i.prop (⟨w.heap.size, 0, none⟩, .string (str x.p)) (by rw [hLK]; simp)
  have d2 : ∀ i : Mix.Cls (Keeps LK), i.val.cell? ⟨w.heap.size, 1, none⟩ = some (.string (str x.r)) := fun i => i.prop (⟨w.heap.size, 1, none⟩, .string (str x.r)) (by rw [hLK]; simp)
  have HLK : Hid (∀ F : Nat → Prop, ¬ F X → ¬ F w.heap.size → ∀ p ∈ LK, ¬ F p.1.block) := fun F h1 h2 p hp => by
    rw [hLK] at hp
    simp at hp
    rcases hp with rfl | rfl | rfl
    · exact h1
    · exact h2
    · exact h2
  clear hLK c0 x0 x1
  refine Mix.wp_region_mix [6] [6] (Keeps LK) (by kernel_rfl) (by kernel_rfl) (HKp.out) (fun hcls => ?_)
  refine Mix.wpL_reads 6 (by rfl) ?_
  simp only [List.take_succ_cons, List.drop_succ_cons, List.take_zero, List.drop_zero]
  repeat (go_big_quiet_step (fail))
  refine wpQuiet_nil ?_
  refine Mix.wpL_op (by rfl) (fun K hK => ?_)
  go_simp
  refine (HIx.out _ Step.refl.drew).mono ?_
  rintro e w3 ⟨rfl, hs⟩
  have HS3 : Hid (Step (fun _ => False) v1 w3) := Step.refl.drew.trans hs
  have HK3 : Hid (Keeps LK w3) := HKp.out.step HS3.out (fun _ _ => id)
  refine hK _ _ (fun hlt => Mix.cl (HK3.out)) ?_
  clear hK K
  clear hs
  refine Mix.wpL_reads 1 (by rfl) ?_
  simp only [List.take_succ_cons, List.drop_succ_cons, List.take_zero, List.drop_zero]
  repeat (go_big_quiet_step (fail))
  refine wpQuiet_nil ?_
  refine Mix.wpL_end ?_
  have HV3 := Lib.hid (HV.out.quiet HS3.out)
  have HX3 := Lib.hid (HX.out.step HS3.out id)
  by_cases hf : q < s.ts.length
  · have hi : (if q < s.ts.length then (q : Int) else -1) = (q : Int) := if_pos hf
    have g0 : (0 : Int) ≤ (q : Int) := by omega
    have hts : Hid (L' = s.ts) := by show L' = s.ts; rw [HL'.out]; unfold tyL; rw [← HQ.out, if_pos hf]
    rw [hi]
    clear hi
    go_wp2_with fail
    go_ret
    rw [hts.out]
    exact ⟨rfl, a.A0, a.c0, HV3.out, Upd.after (HS.out.trans HS3.out) Upd.refl⟩
  · have hi : (if q < s.ts.length then (q : Int) else -1) = -1 := if_neg hf
    have hqn : q = s.ts.length := by omega
    have hts : Hid (L' = s.ts ++ [x]) := by show L' = _; rw [HL'.out]; unfold tyL; rw [← HQ.out, if_neg hf]
    rw [hi]
    clear hi
    go_wp2_with fail
    have HKc : Hid (Keeps LK w3.drew) := HK3.out
    have HVc : Hid (Mk w3.drew B X a s tk vr) := HV3.out.quiet Step.refl.drew
    have h31 := HS3.out.size
    have hB2 : B ≤ (w3.drew.alloc (.cells #[Value.string (str x.p), .string (str x.r)] 46)).heap.size := by simp; omega
    refine Mix.wp_region_mix [7, 8, 12] [7, 8] (Keeps LK) (by kernel_rfl) (by kernel_rfl) (HK3.out) (fun hcls => ?_)
    refine Mix.wpL_reads 7 (by rfl) ?_
    simp only [List.take_succ_cons, List.drop_succ_cons, List.take_zero, List.drop_zero]
    repeat (go_big_quiet_step (fail))
    refine wpQuiet_nil ?_
    have hone : ∀ u ∈ #[Value.string (str x.p), .string (str x.r)].toList, u.oneCell' = true := by simp [Value.oneCell']
    have hm1 : s.ts.length + 1 ≤ maxLen := by unfold maxLen; omega
    have HKa : Hid (Keeps LK (w3.drew.alloc (.cells #[Value.string (str x.p), .string (str x.r)] 46))) := HKc.out.step (F := fun _ => False) (Step.alloc Step.refl _) (fun _ _ => id)
    refine Mix.wpL_op (by rfl) (fun K hK => ?_)
    go_simp
    refine hK _ _ (fun hlt => Mix.cl (HKa.out)) ?_
    clear hK K
    have HVa : Hid (Mk (w3.drew.alloc (.cells #[Value.string (str x.p), .string (str x.r)] 46)) B X a s tk vr) := HVc.out.quiet (Step.alloc Step.refl _)
    refine Mix.wpL_op (by rfl) (fun K hK => ?_)
    refine step_append_src _ (by rfl) _ _ (by rfl) E_fts (by rfl) HVa.out.o0 (by rfl) (reads_new w3.drew #[Value.string (str x.p), .string (str x.r)] 46 2 1 rfl) hone hm1 (by omega) hB2 ?_
    intro D' c' w8 hown8 hgrow hat
    have hs8 : Step (fun k => blkOf a.A0 = some k) (w3.drew.alloc (.cells #[Value.string (str x.p), .string (str x.r)] 46)) w8 := Step.refl.grown hgrow (fun k hk => .inl hk)
    rw [show fts s.ts ++ #[Value.string (str x.p), .string (str x.r)].toList = fts (s.ts ++ [x]) by rw [fts_last] <;> rfl, show s.ts.length + 1 = (s.ts ++ [x]).length by simp] at hown8
    have hput := HVa.out.put0 hs8 hown8 (fun k hk => by
      rcases hat with e | e
      · exact .inl (by rw [← e]; exact hk)
      · exact .inr (by rw [e] at hk; injection hk with hk; exact Nat.le_of_eq hk))
    replace hput := Lib.hid hput
    rw [show (s.ts ++ [x]).length = s.ts.length + 1 by simp] at hput
    have HK8 : Hid (Keeps LK w8) := HKa.out.step hs8 (HLK.out (fun k => blkOf a.A0 = some k) (otag HVc.out.o0 HVc.out.blk (by decide)) (fun e => absurd (hlo0 _ e) (Nat.lt_irrefl _)))
    obtain ⟨z8, c8⟩ := HVa.out.z0 hgrow
    go_simp
    refine hK _ _ (fun hlt => Mix.cl (HK8.out)) ?_
    clear hK K
    clear hown8 hgrow hat hs8 hone
    refine Mix.wpL_reads 3 (by rfl) ?_
    simp only [List.take_succ_cons, List.drop_succ_cons, List.take_zero, List.drop_zero]
    repeat (go_big_quiet_step (fail))
    refine wpQuiet_nil ?_
    refine Mix.wpL_op (by rfl) (fun K hK => ?_)
    go_simp
    refine hK _ _ (fun hlt => absurd hlt (by decide)) ?_
    clear hK K
    refine Mix.wpL_end ?_
    clear d0 d1 d2
    obtain ⟨c9, hc9⟩ : ∃ z, z = z := ⟨0, rfl⟩
    have y0 := hput.out.1.blk.cell 0
    simp [mkC] at y0
    have hw4 := IntWalk.i64_in ((s.ts.length : Int) + 1 - 1) (by omega)
    go_wp2_with fail
    go_ret
    rw [hts.out]
    exact ⟨rfl, D', c', hput.out.1, Upd.after (HS.out.trans (HS3.out.trans (Step.alloc Step.refl.drew _))) hput.out.2⟩
end Go.Proofs.Ytflgpjdpofmbkaa
