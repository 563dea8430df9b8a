/-
  FramesPlays: do, all but Open and Shut (printed by gen_fps.py).
-/
import Derived.Test.YtokchoocelmdoaaFpQ
import Derived.Test.YtokchoocelmdoaaFpR
set_option linter.unusedVariables false
set_option linter.unusedSimpArgs false
namespace Go.Proofs.Ytokchoocelmdoaa
open Go.RowKit

section
variable {w w1 w2 w' : World} {I I' : Nat → Prop} {g c : Nat} {A : Option Addr} {l l' : List It} {fs fs' : List Fm} {most n v st dst : Int}
theorem SDo.after {e : Ending} (hs : Step (fun _ => False) w w1) (h : SDo w1 I g A l most e w') : SDo w I g A l most e w' := by
  obtain ⟨A', c', I', h1, h2, h3⟩ := h
  refine ⟨A', c', I', h1, h2, ⟨((hs.mono fun _ _ e => e.elim).trans h3.1), fun k hk => ?_⟩⟩
  rcases h3.2 k hk with e | e
  · exact .inl e
  · exact .inr (Nat.le_trans hs.size e)
theorem SAny.after {e : Ending} {m : Nat} (hs : Step (fun _ => False) w w1) (h : SAny w1 I g A m most e w') : SAny w I g A m most e w' := by
  obtain ⟨l', h1, h2⟩ := h
  exact ⟨l', h1, h2.after hs⟩
theorem Sta.inI (H : Sta w I g A c l most) : In w I := by
  obtain ⟨fs, hf⟩ := H.fst
  exact hf.1.in_
set_option maxRecDepth 100000 in
set_option maxHeartbeats 3200000 in
theorem do_else (k : Int) (q0 : (k == 0) = false) (q1 : (k == 1) = false) (q2 : (k == 2) = false) (q3 : (k == 3) = false) (q4 : (k == 4) = false) (q5 : (k == 5) = false) (q6 : (k == 6) = false) (q7 : (k == 7) = false) (H : Sta w I g A c l most) (hz : l.length ≤ 1000) :
    Calls Try.prog 7 #[.pointer (some ⟨g, 0, none⟩), .slice A l.length c, .agg #[.int .i64 k, .int .i64 n, .int .u64 v, .int .i64 st, .int .i64 dst], .int .i64 most] w (SAny w I g A (l.length + 1) most) := by
  have s1 : Step (fun _ => False) w (w.alloc (.cells #[.int .i64 k, .int .i64 n, .int .u64 v, .int .i64 st, .int .i64 dst] 30)) := Step.refl.alloc _
  have B1 := Lib.hid (Blk.new w 30 #[.int .i64 k, .int .i64 n, .int .u64 v, .int .i64 st, .int .i64 dst])
  have HV := Lib.hid (r_values (c := c) (Reads.of_own (H.quiet s1).own) (by omega))
  have S1 := Lib.hid s1
  have HH := Lib.hid H
  clear s1 H
  go_enter Try.func7, Try.ntmps7
  go_wp2_with fail
  refine HV.out.mono ?_
  rintro e V ⟨Dv, cv, rfl, hvo, hs⟩
  obtain ⟨N, hN⟩ : ∃ N, N = w.heap.size := ⟨_, rfl⟩
  rw [← hN] at B1 ⊢
  have HN : Hid (w.heap.size ≤ N) := by rw [hN]; exact Nat.le_refl _
  have B2 := Lib.hid (B1.out.step hs id)
  have SV := Lib.hid (S1.out.trans hs)
  have HVO := Lib.hid hvo
  have HI := HH.out.inI
  have HNI : Hid (¬ I N) := fun e => by have := HI N e; omega
  have HX := Lib.hid (HH.out.quiet SV.out)
  clear hs hvo B1 S1 HV HI hN
  have y0 := B2.out.cell 0
  have y1 := B2.out.cell 1
  have y2 := B2.out.cell 2
  have y3 := B2.out.cell 3
  have y4 := B2.out.cell 4
  simp at y0 y1 y2 y3 y4
  go_wp2_with fail
  go_ret2
  exact ⟨l, Nat.le_succ _, sdo_same HH.out SV.out⟩
set_option maxRecDepth 100000 in
set_option maxHeartbeats 3200000 in
theorem do_enter {np : Nat} (h3 : bits BinOp.and IntKind.i64 n 3 = (np : Int)) (hnp : np ≤ 3) (hlow : TailV l np ∨ (valsI l).length < np) (H : Sta w I g A c l most) (hz : l.length ≤ 1000) :
    Calls Try.prog 7 #[.pointer (some ⟨g, 0, none⟩), .slice A l.length c, .agg #[.int .i64 3, .int .i64 n, .int .u64 v, .int .i64 st, .int .i64 dst], .int .i64 most] w (SAny w I g A (l.length + 1) most) := by
  have s1 : Step (fun _ => False) w (w.alloc (.cells #[.int .i64 3, .int .i64 n, .int .u64 v, .int .i64 st, .int .i64 dst] 30)) := Step.refl.alloc _
  have B1 := Lib.hid (Blk.new w 30 #[.int .i64 3, .int .i64 n, .int .u64 v, .int .i64 st, .int .i64 dst])
  have HV := Lib.hid (r_values (c := c) (Reads.of_own (H.quiet s1).own) (by omega))
  have S1 := Lib.hid s1
  have HH := Lib.hid H
  clear s1 H
  go_enter Try.func7, Try.ntmps7
  go_wp2_with fail
  refine HV.out.mono ?_
  rintro e V ⟨Dv, cv, rfl, hvo, hs⟩
  obtain ⟨N, hN⟩ : ∃ N, N = w.heap.size := ⟨_, rfl⟩
  rw [← hN] at B1 ⊢
  have HN : Hid (w.heap.size ≤ N) := by rw [hN]; exact Nat.le_refl _
  have B2 := Lib.hid (B1.out.step hs id)
  have SV := Lib.hid (S1.out.trans hs)
  have HVO := Lib.hid hvo
  have HI := HH.out.inI
  have HNI : Hid (¬ I N) := fun e => by have := HI N e; omega
  have HX := Lib.hid (HH.out.quiet SV.out)
  clear hs hvo B1 S1 HV HI hN
  have y0 := B2.out.cell 0
  have y1 := B2.out.cell 1
  have y2 := B2.out.cell 2
  have y3 := B2.out.cell 3
  have y4 := B2.out.cell 4
  simp at y0 y1 y2 y3 y4
  go_wp2_with fail
  refine (enter_walk h3 hnp HX.out hz hlow).mono ?_
  rintro e U ⟨l', h1, A', c', I', rfl, h2, h3⟩
  have HD : Hid (SDo V I g A l' most (.returned (.tuple #[.slice A' l'.length c', .bool true])) U) := ⟨A', c', I', rfl, h2, h3⟩
  clear h2 h3 y0 y1 y2 y3 y4
  go_wp2_with fail
  go_ret2
  exact ⟨l', by exact h1, HD.out.after SV.out⟩
set_option maxRecDepth 100000 in
set_option maxHeartbeats 3200000 in
theorem do_leave  (H : Sta w I g A c l most) (hz : l.length ≤ 1000) :
    Calls Try.prog 7 #[.pointer (some ⟨g, 0, none⟩), .slice A l.length c, .agg #[.int .i64 4, .int .i64 n, .int .u64 v, .int .i64 st, .int .i64 dst], .int .i64 most] w (SAny w I g A (l.length + 1) most) := by
  have s1 : Step (fun _ => False) w (w.alloc (.cells #[.int .i64 4, .int .i64 n, .int .u64 v, .int .i64 st, .int .i64 dst] 30)) := Step.refl.alloc _
  have B1 := Lib.hid (Blk.new w 30 #[.int .i64 4, .int .i64 n, .int .u64 v, .int .i64 st, .int .i64 dst])
  have HV := Lib.hid (r_values (c := c) (Reads.of_own (H.quiet s1).own) (by omega))
  have S1 := Lib.hid s1
  have HH := Lib.hid H
  clear s1 H
  go_enter Try.func7, Try.ntmps7
  go_wp2_with fail
  refine HV.out.mono ?_
  rintro e V ⟨Dv, cv, rfl, hvo, hs⟩
  obtain ⟨N, hN⟩ : ∃ N, N = w.heap.size := ⟨_, rfl⟩
  rw [← hN] at B1 ⊢
  have HN : Hid (w.heap.size ≤ N) := by rw [hN]; exact Nat.le_refl _
  have B2 := Lib.hid (B1.out.step hs id)
  have SV := Lib.hid (S1.out.trans hs)
  have HVO := Lib.hid hvo
  have HI := HH.out.inI
  have HNI : Hid (¬ I N) := fun e => by have := HI N e; omega
  have HX := Lib.hid (HH.out.quiet SV.out)
  clear hs hvo B1 S1 HV HI hN
  have y0 := B2.out.cell 0
  have y1 := B2.out.cell 1
  have y2 := B2.out.cell 2
  have y3 := B2.out.cell 3
  have y4 := B2.out.cell 4
  simp at y0 y1 y2 y3 y4
  go_wp2_with fail
  refine (leave_walk HX.out hz).mono ?_
  rintro e U ⟨l', h1, A', c', I', rfl, h2, h3⟩
  have HD : Hid (SDo V I g A l' most (.returned (.tuple #[.slice A' l'.length c', .bool true])) U) := ⟨A', c', I', rfl, h2, h3⟩
  clear h2 h3 y0 y1 y2 y3 y4
  go_wp2_with fail
  go_ret2
  exact ⟨l', by exact Nat.le_succ_of_le h1, HD.out.after SV.out⟩
set_option maxRecDepth 100000 in
set_option maxHeartbeats 3200000 in
theorem do_branch (m : Nat) (hm : IntKind.u64.wrap n = (m : Int)) (hm2 : m < 18446744073709551616) (H : Sta w I g A c l most) (hz : l.length ≤ 1000) :
    Calls Try.prog 7 #[.pointer (some ⟨g, 0, none⟩), .slice A l.length c, .agg #[.int .i64 7, .int .i64 n, .int .u64 v, .int .i64 st, .int .i64 dst], .int .i64 most] w (SAny w I g A (l.length + 1) most) := by
  have s1 : Step (fun _ => False) w (w.alloc (.cells #[.int .i64 7, .int .i64 n, .int .u64 v, .int .i64 st, .int .i64 dst] 30)) := Step.refl.alloc _
  have B1 := Lib.hid (Blk.new w 30 #[.int .i64 7, .int .i64 n, .int .u64 v, .int .i64 st, .int .i64 dst])
  have HV := Lib.hid (r_values (c := c) (Reads.of_own (H.quiet s1).own) (by omega))
  have S1 := Lib.hid s1
  have HH := Lib.hid H
  clear s1 H
  go_enter Try.func7, Try.ntmps7
  go_wp2_with fail
  refine HV.out.mono ?_
  rintro e V ⟨Dv, cv, rfl, hvo, hs⟩
  obtain ⟨N, hN⟩ : ∃ N, N = w.heap.size := ⟨_, rfl⟩
  rw [← hN] at B1 ⊢
  have HN : Hid (w.heap.size ≤ N) := by rw [hN]; exact Nat.le_refl _
  have B2 := Lib.hid (B1.out.step hs id)
  have SV := Lib.hid (S1.out.trans hs)
  have HVO := Lib.hid hvo
  have HI := HH.out.inI
  have HNI : Hid (¬ I N) := fun e => by have := HI N e; omega
  have HX := Lib.hid (HH.out.quiet SV.out)
  clear hs hvo B1 S1 HV HI hN
  have y0 := B2.out.cell 0
  have y1 := B2.out.cell 1
  have y2 := B2.out.cell 2
  have y3 := B2.out.cell 3
  have y4 := B2.out.cell 4
  simp at y0 y1 y2 y3 y4
  go_wp2_with fail
  refine (branch_walk m hm2 HX.out hz).mono ?_
  rintro e U ⟨l', h1, A', c', I', rfl, h2, h3⟩
  have HD : Hid (SDo V I g A l' most (.returned (.tuple #[.slice A' l'.length c', .bool true])) U) := ⟨A', c', I', rfl, h2, h3⟩
  clear h2 h3 y0 y1 y2 y3 y4
  go_wp2_with fail
  go_ret2
  exact ⟨l', by exact Nat.le_succ_of_le h1, HD.out.after SV.out⟩
set_option maxRecDepth 100000 in
set_option maxHeartbeats 3200000 in
theorem do_push (H : Sta w I g A c l most) (hz : l.length ≤ 1000) :
    Calls Try.prog 7 #[.pointer (some ⟨g, 0, none⟩), .slice A l.length c, .agg #[.int .i64 0, .int .i64 n, .int .u64 v, .int .i64 st, .int .i64 dst], .int .i64 most] w (SAny w I g A (l.length + 1) most) := by
  have s1 : Step (fun _ => False) w (w.alloc (.cells #[.int .i64 0, .int .i64 n, .int .u64 v, .int .i64 st, .int .i64 dst] 30)) := Step.refl.alloc _
  have B1 := Lib.hid (Blk.new w 30 #[.int .i64 0, .int .i64 n, .int .u64 v, .int .i64 st, .int .i64 dst])
  have HV := Lib.hid (r_values (c := c) (Reads.of_own (H.quiet s1).own) (by omega))
  have S1 := Lib.hid s1
  have HH := Lib.hid H
  clear s1 H
  go_enter Try.func7, Try.ntmps7
  go_wp2_with fail
  refine HV.out.mono ?_
  rintro e V ⟨Dv, cv, rfl, hvo, hs⟩
  obtain ⟨N, hN⟩ : ∃ N, N = w.heap.size := ⟨_, rfl⟩
  rw [← hN] at B1 ⊢
  have HN : Hid (w.heap.size ≤ N) := by rw [hN]; exact Nat.le_refl _
  have B2 := Lib.hid (B1.out.step hs id)
  have SV := Lib.hid (S1.out.trans hs)
  have HVO := Lib.hid hvo
  have HI := HH.out.inI
  have HNI : Hid (¬ I N) := fun e => by have := HI N e; omega
  have HX := Lib.hid (HH.out.quiet SV.out)
  clear hs hvo B1 S1 HV HI hN
  have y0 := B2.out.cell 0
  have y1 := B2.out.cell 1
  have y2 := B2.out.cell 2
  have y3 := B2.out.cell 3
  have y4 := B2.out.cell 4
  simp at y0 y1 y2 y3 y4
  obtain ⟨fs, hf⟩ := HX.out.fst
  have hvl := vals_len (l := l)
  have HP := Lib.hid (fs_push v hf.1 (by omega))
  have HFAR := Lib.hid (hf.far HX.out.own)
  have HKY := Lib.hid hf.2
  have HO := Lib.hid HX.out.own
  have HG := Lib.hid HX.out.good
  clear hf
  go_wp2_with fail
  refine HP.out.mono ?_
  rintro e U ⟨rfl, I', h', u⟩
  have B3 := B2.out.step u.1 HNI.out
  have y2' := B3.cell 2
  simp at y2'
  have HO1 := Lib.hid (own_step HO.out u.1 (fun k hk => HFAR.out k (by rwa [ownBlock_slice] at hk)))
  have HFS := Lib.hid h'
  have HU := Lib.hid u
  have hpu := r_push (w := U.alloc (.cells #[.int .u64 v] 28)) (c := c) (cv := 1) (l := l) (v := [v]) (V := some ⟨U.heap.size, 0, none⟩) (A := A) (Reads.of_own (HO1.out.alloc _)) (reads_new U #[.int .u64 v] 28 1 1 rfl) (by omega) (by simp)
  have HPU := Lib.hid hpu
  clear u h' B3 y0 y1 y2 y3 y4 hpu
  go_wp2_with fail
  refine HPU.out.mono ?_
  rintro e X ⟨D, c', rfl, hn⟩
  have HNW := Lib.hid hn
  have HLL : Hid ((l ++ [v].map valIt).length = l.length + 1) := by unfold Hid; simp
  clear hn y2'
  go_wp2_with fail
  go_ret2
  have hst : Step (fun _ => False) U X := (Step.refl.alloc _).trans HNW.out.2
  have e1 : valsI (l ++ [v].map valIt) = valsI l ++ [v] := by rw [valsI_append, valsI_map]
  have e2 : labsI 0 (l ++ [v].map valIt) = labsI 0 l := by rw [labsI_append, (allV_map _).labs, List.append_nil]
  have e3 : frsI 0 0 (l ++ [v].map valIt) = frsI 0 0 l := by rw [frsI_append, (allV_map _).frs, List.append_nil]
  have h9 : Fst X I' g (l ++ [v].map valIt) fs most := by
    refine ⟨?_, by rw [e3]; exact HKY.out⟩
    rw [e1, e2]
    exact HFS.out.quiet hst
  refine SAny.after SV.out ⟨l ++ [v].map valIt, by rw [HLL.out]; exact Nat.le_refl _, ?_⟩
  have hd := sdo (A := A) (I' := I') HU.out h9 (hst.mono fun _ _ e => e.elim) (own_base HNW.out.1 (fun _ _ => Nat.zero_le _)) (fun k hk => .inr (Nat.le_trans HU.out.1.size (Nat.le_trans (Nat.le_succ _) (by have := own_ge HNW.out.1 k (by rwa [ownBlock_slice]); simpa using this)))) (good_app HG.out (good_map _))
  first | exact hd | (rw [HLL.out] at hd; exact hd)
set_option maxRecDepth 100000 in
set_option maxHeartbeats 3200000 in
theorem do_pop_none (hv0 : valsI l = []) (H : Sta w I g A c l most) (hz : l.length ≤ 1000) :
    Calls Try.prog 7 #[.pointer (some ⟨g, 0, none⟩), .slice A l.length c, .agg #[.int .i64 1, .int .i64 n, .int .u64 v, .int .i64 st, .int .i64 dst], .int .i64 most] w (SAny w I g A (l.length + 1) most) := by
  have s1 : Step (fun _ => False) w (w.alloc (.cells #[.int .i64 1, .int .i64 n, .int .u64 v, .int .i64 st, .int .i64 dst] 30)) := Step.refl.alloc _
  have B1 := Lib.hid (Blk.new w 30 #[.int .i64 1, .int .i64 n, .int .u64 v, .int .i64 st, .int .i64 dst])
  have HV := Lib.hid (r_values (c := c) (Reads.of_own (H.quiet s1).own) (by omega))
  have S1 := Lib.hid s1
  have HH := Lib.hid H
  clear s1 H
  go_enter Try.func7, Try.ntmps7
  go_wp2_with fail
  refine HV.out.mono ?_
  rintro e V ⟨Dv, cv, rfl, hvo, hs⟩
  obtain ⟨N, hN⟩ : ∃ N, N = w.heap.size := ⟨_, rfl⟩
  rw [← hN] at B1 ⊢
  have HN : Hid (w.heap.size ≤ N) := by rw [hN]; exact Nat.le_refl _
  have B2 := Lib.hid (B1.out.step hs id)
  have SV := Lib.hid (S1.out.trans hs)
  have HVO := Lib.hid hvo
  have HI := HH.out.inI
  have HNI : Hid (¬ I N) := fun e => by have := HI N e; omega
  have HX := Lib.hid (HH.out.quiet SV.out)
  clear hs hvo B1 S1 HV HI hN
  have y0 := B2.out.cell 0
  have y1 := B2.out.cell 1
  have y2 := B2.out.cell 2
  have y3 := B2.out.cell 3
  have y4 := B2.out.cell 4
  simp at y0 y1 y2 y3 y4
  obtain ⟨fs, hf⟩ := HX.out.fst
  have hp := hf.1
  rw [hv0] at hp
  have HP := Lib.hid (fs_pop_none hp)
  have hv0l : (valsI l).length = 0 := by rw [hv0]; rfl
  clear hf hp hv0 HVO
  go_wp2_with fail
  refine HP.out.mono ?_
  rintro e U ⟨rfl, hw⟩
  obtain rfl := hw
  go_wp2_with fail
  go_ret2
  exact ⟨l, Nat.le_succ _, sdo_same HH.out SV.out⟩
set_option maxRecDepth 100000 in
set_option maxHeartbeats 3200000 in
theorem do_pop (ht : TailV l 1) (H : Sta w I g A c l most) (hz : l.length ≤ 1000) :
    Calls Try.prog 7 #[.pointer (some ⟨g, 0, none⟩), .slice A l.length c, .agg #[.int .i64 1, .int .i64 n, .int .u64 v, .int .i64 st, .int .i64 dst], .int .i64 most] w (SAny w I g A (l.length + 1) most) := by
  have s1 : Step (fun _ => False) w (w.alloc (.cells #[.int .i64 1, .int .i64 n, .int .u64 v, .int .i64 st, .int .i64 dst] 30)) := Step.refl.alloc _
  have B1 := Lib.hid (Blk.new w 30 #[.int .i64 1, .int .i64 n, .int .u64 v, .int .i64 st, .int .i64 dst])
  have HV := Lib.hid (r_values (c := c) (Reads.of_own (H.quiet s1).own) (by omega))
  have S1 := Lib.hid s1
  have HH := Lib.hid H
  clear s1 H
  go_enter Try.func7, Try.ntmps7
  go_wp2_with fail
  refine HV.out.mono ?_
  rintro e V ⟨Dv, cv, rfl, hvo, hs⟩
  obtain ⟨N, hN⟩ : ∃ N, N = w.heap.size := ⟨_, rfl⟩
  rw [← hN] at B1 ⊢
  have HN : Hid (w.heap.size ≤ N) := by rw [hN]; exact Nat.le_refl _
  have B2 := Lib.hid (B1.out.step hs id)
  have SV := Lib.hid (S1.out.trans hs)
  have HVO := Lib.hid hvo
  have HI := HH.out.inI
  have HNI : Hid (¬ I N) := fun e => by have := HI N e; omega
  have HX := Lib.hid (HH.out.quiet SV.out)
  clear hs hvo B1 S1 HV HI hN
  have y0 := B2.out.cell 0
  have y1 := B2.out.cell 1
  have y2 := B2.out.cell 2
  have y3 := B2.out.cell 3
  have y4 := B2.out.cell 4
  simp at y0 y1 y2 y3 y4
  obtain ⟨fs, hf⟩ := HX.out.fst
  have hvl := vals_len (l := l)
  obtain ⟨t1, t2, t3, t4⟩ := ht.split
  obtain ⟨ys, x, hyx⟩ : ∃ ys x, valsI l = ys ++ [x] := ⟨(valsI l).dropLast, (valsI l).getLast (by intro e; rw [e] at t1; simp at t1), (List.dropLast_concat_getLast _).symm⟩
  have hyl : (valsI l).length = ys.length + 1 := by rw [hyx]; simp
  have hp := hf.1
  rw [hyx] at hp
  have HP := Lib.hid (fs_pop ys x hp (by omega))
  have HT2 : Hid (valsI (l.take (l.length - 1)) = ys) := by unfold Hid; rw [t2, hyl, Nat.add_sub_cancel, hyx, List.take_left]
  have HT3 := Lib.hid t3
  have HT4 := Lib.hid t4
  have HTV := Lib.hid ht
  have HFAR := Lib.hid (hf.far HX.out.own)
  have HKY := Lib.hid hf.2
  have HO := Lib.hid HX.out.own
  have HG := Lib.hid HX.out.good
  have hvo := HVO.out
  rw [hyl, hyx] at hvo
  replace HVO := Lib.hid hvo
  have n0 : (((ys.length : Int) + 1) == 0) = false := beq_eq_false_iff_ne.2 (by omega)
  have hyle : ys.length ≤ 1000 := by omega
  clear hf hp t1 t2 t3 t4 ht hyx hvo
  rw [hyl]
  clear hyl hvl
  go_wp2_with fail
  refine HP.out.mono ?_
  rintro e U ⟨rfl, I', h', u⟩
  have HO1 := Lib.hid (own_step HO.out u.1 (fun k hk => HFAR.out k (by rwa [ownBlock_slice] at hk)))
  have HFS := Lib.hid h'
  have HU := Lib.hid u
  have hvf : ∀ k, blkOf Dv = some k → ¬ I k := fun k hk e => by
    have h1 := own_ge HVO.out k (by rwa [ownBlock_slice])
    have h2 := HH.out.inI k e
    have h3 : w.heap.size ≤ (w.alloc (.cells #[.int .i64 1, .int .i64 n, .int .u64 v, .int .i64 st, .int .i64 dst] 30)).heap.size := by simp
    omega
  have hvr := ((Reads.of_own HVO.out).step u.1 (fun k hk => hvf k (by rwa [ownBlock_slice] at hk)))
  obtain ⟨ad, u0, rfl, _, _, e0, x0⟩ := hvr.at_ (k := ys.length) (by omega)
  have hu0 : u0 = .int .u64 x := by
    rw [u64s_append, List.getElem?_append_right (by rw [u64s_length]; exact Nat.le_refl _), u64s_length, Nat.sub_self] at e0
    exact (Option.some.inj e0).symm
  subst hu0
  have i0 : (0 : Int) ≤ (ys.length : Int) := by omega
  have i1 : (ys.length : Int) < (ys.length : Int) + 1 := by omega
  have i2 : (ys.length : Int) + 1 - 1 = (ys.length : Int) := by omega
  have hw := IntWalk.i64_in (ys.length : Int) (by omega)
  have d0 := cls_cell (F := fun _ => False) (w0 := U) x0 id
  have HDX := Lib.hid (r_drop (c := c) (w := U.drew) 1 HO1.out (by omega) HTV.out.1 HTV.out.get)
  clear u h' y0 y1 y2 y3 y4 hvf hvr e0 x0
  go_wp2_with fail
  refine Mix.wp_region_mix [1] [1] (Step (fun _ => False) U) (by kernel_rfl) (by kernel_rfl) Step.refl.drew (fun hcls => ?_)
  refine Mix.wpL_reads 1 (by rfl) ?_
  simp only [List.take_succ_cons, List.drop_succ_cons, List.take_zero, List.drop_zero]
  repeat (go_big_quiet_step (fail))
  refine wpQuiet_nil ?_
  refine Mix.wpL_op (by rfl) (fun K hK => ?_)
  go_simp
  refine HDX.out.mono ?_
  rintro e X ⟨D, c', rfl, hro, hs, hDA⟩
  have hst := Step.refl.drew.trans hs
  refine hK _ _ (fun hlt => Mix.cl (hst)) ?_
  clear hK K
  refine Mix.wpL_reads 13 (by rfl) ?_
  simp only [List.take_succ_cons, List.drop_succ_cons, List.take_zero, List.drop_zero]
  repeat (go_big_quiet_step (fail))
  refine wpQuiet_nil ?_
  refine Mix.wpL_end ?_
  have HST := Lib.hid hst
  have HDA := Lib.hid hDA
  have HRO := Lib.hid hro
  clear hs hst hro hDA d0
  go_wp2_with fail
  go_ret2
  have hll : (l.take (l.length - 1)).length = l.length - 1 := by rw [List.length_take]; omega
  have h9 : Fst X I' g (l.take (l.length - 1)) fs most := by
    refine ⟨?_, by rw [HT4.out]; exact HKY.out⟩
    rw [HT2.out, HT3.out]
    exact HFS.out.quiet HST.out
  refine SAny.after SV.out ⟨l.take (l.length - 1), by rw [hll]; omega, ?_⟩
  have hd := sdo (A := A) (I' := I') (c' := c') HU.out h9 (HST.out.mono fun _ _ e => e.elim) (by rw [hll]; exact HRO.out) (fun k hk => (HDA.out k hk).imp_right (Nat.le_trans HU.out.1.size)) (good_take HG.out _)
  rw [hll] at hd
  exact hd
set_option maxRecDepth 100000 in
set_option maxHeartbeats 3200000 in
theorem do_take_bad (hb : n < 0 ∨ ¬ n < 0 ∧ ((valsI l).length : Int) < n) (H : Sta w I g A c l most) (hz : l.length ≤ 1000) :
    Calls Try.prog 7 #[.pointer (some ⟨g, 0, none⟩), .slice A l.length c, .agg #[.int .i64 2, .int .i64 n, .int .u64 v, .int .i64 st, .int .i64 dst], .int .i64 most] w (SAny w I g A (l.length + 1) most) := by
  have s1 : Step (fun _ => False) w (w.alloc (.cells #[.int .i64 2, .int .i64 n, .int .u64 v, .int .i64 st, .int .i64 dst] 30)) := Step.refl.alloc _
  have B1 := Lib.hid (Blk.new w 30 #[.int .i64 2, .int .i64 n, .int .u64 v, .int .i64 st, .int .i64 dst])
  have HV := Lib.hid (r_values (c := c) (Reads.of_own (H.quiet s1).own) (by omega))
  have S1 := Lib.hid s1
  have HH := Lib.hid H
  clear s1 H
  go_enter Try.func7, Try.ntmps7
  go_wp2_with fail
  refine HV.out.mono ?_
  rintro e V ⟨Dv, cv, rfl, hvo, hs⟩
  obtain ⟨N, hN⟩ : ∃ N, N = w.heap.size := ⟨_, rfl⟩
  rw [← hN] at B1 ⊢
  have HN : Hid (w.heap.size ≤ N) := by rw [hN]; exact Nat.le_refl _
  have B2 := Lib.hid (B1.out.step hs id)
  have SV := Lib.hid (S1.out.trans hs)
  have HVO := Lib.hid hvo
  have HI := HH.out.inI
  have HNI : Hid (¬ I N) := fun e => by have := HI N e; omega
  have HX := Lib.hid (HH.out.quiet SV.out)
  clear hs hvo B1 S1 HV HI hN
  have y0 := B2.out.cell 0
  have y1 := B2.out.cell 1
  have y2 := B2.out.cell 2
  have y3 := B2.out.cell 3
  have y4 := B2.out.cell 4
  simp at y0 y1 y2 y3 y4
  obtain ⟨fs, hf⟩ := HX.out.fst
  have hvl := vals_len (l := l)
  have HP := Lib.hid (fs_take_fails n hf.1 (by omega) (by omega))
  clear hf HVO
  rcases hb with hb | ⟨hb0, hb⟩
  · have b0 : decide (n < 0) = true := decide_eq_true hb
    go_wp2_with fail
    refine HP.out.mono ?_
    rintro e U ⟨rfl, hw⟩
    obtain rfl := hw
    go_wp2_with fail
    go_ret2
    exact ⟨l, Nat.le_succ _, sdo_same HH.out SV.out⟩
  · have b0 : decide (n < 0) = false := decide_eq_false (by omega)
    have b1 : decide (((valsI l).length : Int) < n) = true := decide_eq_true hb
    go_wp2_with fail
    refine HP.out.mono ?_
    rintro e U ⟨rfl, hw⟩
    obtain rfl := hw
    go_wp2_with fail
    go_ret2
    exact ⟨l, Nat.le_succ _, sdo_same HH.out SV.out⟩
set_option maxRecDepth 100000 in
set_option maxHeartbeats 3200000 in
theorem do_take (m : Nat) (ht : TailV l m) (H : Sta w I g A c l most) (hz : l.length ≤ 1000) :
    Calls Try.prog 7 #[.pointer (some ⟨g, 0, none⟩), .slice A l.length c, .agg #[.int .i64 2, .int .i64 (m : Int), .int .u64 v, .int .i64 st, .int .i64 dst], .int .i64 most] w (SAny w I g A (l.length + 1) most) := by
  have s1 : Step (fun _ => False) w (w.alloc (.cells #[.int .i64 2, .int .i64 (m : Int), .int .u64 v, .int .i64 st, .int .i64 dst] 30)) := Step.refl.alloc _
  have B1 := Lib.hid (Blk.new w 30 #[.int .i64 2, .int .i64 (m : Int), .int .u64 v, .int .i64 st, .int .i64 dst])
  have HV := Lib.hid (r_values (c := c) (Reads.of_own (H.quiet s1).own) (by omega))
  have S1 := Lib.hid s1
  have HH := Lib.hid H
  clear s1 H
  go_enter Try.func7, Try.ntmps7
  go_wp2_with fail
  refine HV.out.mono ?_
  rintro e V ⟨Dv, cv, rfl, hvo, hs⟩
  obtain ⟨N, hN⟩ : ∃ N, N = w.heap.size := ⟨_, rfl⟩
  rw [← hN] at B1 ⊢
  have HN : Hid (w.heap.size ≤ N) := by rw [hN]; exact Nat.le_refl _
  have B2 := Lib.hid (B1.out.step hs id)
  have SV := Lib.hid (S1.out.trans hs)
  have HVO := Lib.hid hvo
  have HI := HH.out.inI
  have HNI : Hid (¬ I N) := fun e => by have := HI N e; omega
  have HX := Lib.hid (HH.out.quiet SV.out)
  clear hs hvo B1 S1 HV HI hN
  have y0 := B2.out.cell 0
  have y1 := B2.out.cell 1
  have y2 := B2.out.cell 2
  have y3 := B2.out.cell 3
  have y4 := B2.out.cell 4
  simp at y0 y1 y2 y3 y4
  obtain ⟨fs, hf⟩ := HX.out.fst
  have hvl := vals_len (l := l)
  obtain ⟨t1, t2, t3, t4⟩ := ht.split
  have HP := Lib.hid (fs_take m hf.1 (by omega) t1)
  have HT2 := Lib.hid t2
  have HT3 := Lib.hid t3
  have HT4 := Lib.hid t4
  have HTV := Lib.hid ht
  have HFAR := Lib.hid (hf.far HX.out.own)
  have HKY := Lib.hid hf.2
  have HO := Lib.hid HX.out.own
  have HG := Lib.hid HX.out.good
  have HZL : Hid (((valsI l).drop ((valsI l).length - m)).length = m) := by unfold Hid; rw [List.length_drop]; omega
  have b0 : decide ((m : Int) < 0) = false := decide_eq_false (by omega)
  have b1 : decide (((valsI l).length : Int) < (m : Int)) = false := decide_eq_false (by omega)
  have b2 : decide ((valsI l).length < m) = false := decide_eq_false (by omega)
  have hwv := IntWalk.i64_in (((valsI l).length : Int) - (m : Int)) (by omega)
  have i3 : (0 : Int) ≤ ((valsI l).length : Int) - (m : Int) := by omega
  have i4 : ((valsI l).length : Int) - (m : Int) ≤ ((valsI l).length : Int) := by omega
  generalize valsI l = vs at *
  clear hf t2 t3 t4 ht
  go_wp2_with fail
  refine HP.out.mono ?_
  rintro e U ⟨Ax, cx, rfl, hxo, I', h', u⟩
  have B3 := B2.out.step u.1 HNI.out
  have y1' := B3.cell 1
  simp at y1'
  have HO1 := Lib.hid (own_step HO.out u.1 (fun k hk => HFAR.out k (by rwa [ownBlock_slice] at hk)))
  have HFS := Lib.hid h'
  have HU := Lib.hid u
  have HXO := Lib.hid hxo
  have hvf : ∀ k, blkOf Dv = some k → ¬ I k := fun k hk e => by
    have h1 := own_ge HVO.out k (by rwa [ownBlock_slice])
    have h2 := HH.out.inI k e
    have h3 : w.heap.size ≤ (w.alloc (.cells #[.int .i64 2, .int .i64 (m : Int), .int .u64 v, .int .i64 st, .int .i64 dst] 30)).heap.size := by simp
    omega
  have HVR := Lib.hid ((Reads.of_own HVO.out).step u.1 (fun k hk => hvf k (by rwa [ownBlock_slice] at hk)))
  have HDX := Lib.hid (r_drop (c := c) (w := U) m HO1.out (by omega) HTV.out.1 HTV.out.get)
  have hcv := own_cap HVO.out
  have B3h := Lib.hid B3
  clear u h' y0 y1 y2 y3 y4 hvf hxo B3
  go_wp2_with fail
  refine HDX.out.mono ?_
  rintro e X ⟨D, c', rfl, hro, hs, hDA⟩
  have y1 := (B3h.out.step hs id).cell 1
  simp at y1
  have sv := slice_ln E_u64 Dv vs.length cv .i64 ((vs.length : Int) - (m : Int)) (vs.length - m) m (cv - (vs.length - m)) (by omega) (by omega) (by omega) rfl
  have hvr := (HVR.out.step hs (fun _ _ => id)).cut (k := vs.length - m) (cap := cv) (by omega) hcv
  rw [show vs.length - (vs.length - m) = m by omega, Nat.mul_one, ← u64s_drop] at hvr
  have hvr2 : Reads X (fun k => (Value.slice Dv vs.length cv).ownBlock = some k) 1 (cutA Dv cv (vs.length - m) 1) m (u64s (vs.drop (vs.length - m))) := by simpa [cutA] using hvr
  have hxr := (Reads.of_own HXO.out).step hs (fun _ _ => id)
  have HSA := Lib.hid (same_eq' X _ _ Ax (cutA Dv cv (vs.length - m) 1) m m cx (cv - (vs.length - m)) (vs.drop (vs.length - m)) m m _ _ hxr hvr2 rfl rfl HZL.out.symm HZL.out.symm rfl rfl (by rw [HZL.out]; omega))
  have HST := Lib.hid hs
  have HDA := Lib.hid hDA
  have HRO := Lib.hid hro
  clear hs hro hDA hvr hvr2 hxr y1' HDX
  go_wp2_with fail
  refine HSA.out.mono ?_
  rintro e Y ⟨rfl, q, rfl⟩
  go_wp2_with fail
  go_ret2
  have hll : (l.take (l.length - m)).length = l.length - m := by rw [List.length_take]; omega
  have h9 : Fst (X.drewN q) I' g (l.take (l.length - m)) fs most := by
    refine ⟨?_, by rw [HT4.out]; exact HKY.out⟩
    rw [HT2.out, HT3.out]
    exact (HFS.out.quiet HST.out).quiet (Step.refl.drewN q)
  refine SAny.after SV.out ⟨l.take (l.length - m), by rw [hll]; omega, ?_⟩
  have hd := sdo (A := A) (I' := I') (c' := c') HU.out h9 ((HST.out.drewN q).mono fun _ _ e => e.elim) (by rw [hll]; exact own_step HRO.out (Step.refl.drewN q) (F := fun _ => False) (fun _ _ => id)) (fun k hk => (HDA.out k hk).imp_right (Nat.le_trans HU.out.1.size)) (good_take HG.out _)
  rw [hll] at hd
  exact hd
end
end Go.Proofs.Ytokchoocelmdoaa
