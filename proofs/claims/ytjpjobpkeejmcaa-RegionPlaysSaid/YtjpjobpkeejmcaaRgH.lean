/-
  region: slices.Clone, Pieces, Clone, slices.Equal, Same.
-/
import Derived.Test.YtjpjobpkeejmcaaRgG
import Derived.WalkSpells
set_option linter.unusedVariables false
set_option linter.unusedSimpArgs false
namespace Go.Proofs.Ytjpjobpkeejmcaa
open Go.RowKit

set_option maxRecDepth 100000 in
set_option maxHeartbeats 3200000 in
theorem sclone_walk (w : World) (A : Option Addr) (n c B : Nat) (xs : List Value) (h : w.ownsRow B 47 3 (.slice A n c) n xs) (hn : n ≤ 1000000) (h1 : ∀ u ∈ xs, u.oneCell' = true) :
    Calls Try.prog 28 #[.slice A n c] w fun e w' => ∃ D' c', e = .returned (.slice D' n c') ∧ w'.ownsRow w.heap.size 47 3 (.slice D' n c') n xs ∧ Step (fun _ => False) w w' := by
  have q34 : ∀ (w : World) (a : Option Addr) (n c n' c' : Nat), (binOp .eql 34 (.slice a n c) (.slice none n' c')).run Try.prog w = .ok (.bool a.isNone) w := fun w a n c n' c' => Lib.run_eql_slice_nil w _ _ a n c n' c' Try.underlying34
  cases A with
  | none =>
    have h0 : n = 0 ∧ c = 0 ∧ xs = [] := by
      obtain ⟨hl, ⟨hv, h3⟩ | ⟨g, cap, cur, hv, _⟩⟩ := h
      · injection hv with _ e2 e3
        subst h3
        exact ⟨rfl, e3, List.eq_nil_of_length_eq_zero (by simpa using hl)⟩
      · injection hv with e1
        cases e1
    obtain ⟨rfl, rfl, rfl⟩ := h0
    clear h
    go_enter Try.func28, Try.ntmps28
    go_wp2_with fail
    go_ret
    exact ⟨none, 0, rfl, World.ownsRow_nil _ _ _ _, Step.refl⟩
  | some ad =>
    have hrd := (Reads.of_own h).step (Step.refl.alloc (F := fun _ => False) (.cells #[] 47)) (fun _ _ => id)
    have hfr := own_fresh (w := w) (e := 47) (base := w.heap.size) 3 (Nat.le_refl _)
    have hm : 0 + n ≤ maxLen := by unfold maxLen; omega
    have hsz : w.heap.size ≤ (w.alloc (.cells #[] 47)).heap.size := by simp
    clear h
    go_enter Try.func28, Try.ntmps28
    go_wp2_with (at_builtin; refine wpList_append_src _ rfl _ _ (by rfl) E_pc (by rfl) hfr (by rfl) hrd h1 hm (by omega) hsz ?_; intro D3 c3 w3 hown hgrow hat)
    go_ret
    rw [Nat.zero_add, List.nil_append] at hown
    exact ⟨D3, c3, rfl, hown, grow_step (Step.refl.alloc _) hgrow hfr (Nat.le_refl _)⟩

set_option maxRecDepth 100000 in
set_option maxHeartbeats 3200000 in
theorem pieces_walk (w : World) (X : Nat) (A : Option Addr) (c fm sz B : Nat) (ps : List Pc) (h : Rm w X A c fm sz B ps) (hn : ps.length ≤ 1000000) :
    Calls Try.prog 12 #[.pointer (some ⟨X, 0, none⟩)] w fun e w' => ∃ D' c', e = .returned (.slice D' ps.length c') ∧ w'.ownsRow w.heap.size 47 3 (.slice D' ps.length c') ps.length (pcs ps) ∧ Step (fun _ => False) w w' := by
  have x2 := h.c2
  have HC := Lib.hid (sclone_walk w A ps.length c B (pcs ps) h.own hn (pcs_one ps))
  clear h
  generalize ps.length = n at x2 HC ⊢
  go_enter Try.func12, Try.ntmps12
  go_wp2_with fail
  refine HC.out.mono ?_
  rintro e w5 ⟨D', c', rfl, hown, hS⟩
  go_wp2_with fail
  go_ret
  exact ⟨D', c', rfl, hown, hS⟩

set_option maxRecDepth 100000 in
set_option maxHeartbeats 3200000 in
theorem rclone_walk (w : World) (X : Nat) (A : Option Addr) (c fm sz B : Nat) (ps : List Pc) (h : Rm w X A c fm sz B ps) (hn : ps.length ≤ 1000000) (hB : B ≤ w.heap.size) :
    Calls Try.prog 14 #[.pointer (some ⟨X, 0, none⟩)] w fun e w' => ∃ X' A' c', e = .returned (.pointer (some ⟨X', 0, none⟩)) ∧ Rm w' X' A' c' fm sz B ps ∧ w.heap.size ≤ X' ∧ (∀ k, blkOf A' = some k → w.heap.size ≤ k) ∧ Step (fun _ => False) w w' := by
  have x0 := h.c0
  have x1 := h.c1
  have x2 := h.c2
  have HC : Hid (∀ w', Step (fun _ => False) w w' → Calls Try.prog 28 #[.slice A ps.length c] w' fun e w'' => ∃ D' c', e = .returned (.slice D' ps.length c') ∧ w''.ownsRow w'.heap.size 47 3 (.slice D' ps.length c') ps.length (pcs ps) ∧ Step (fun _ => False) w' w'') := fun w' hs => sclone_walk w' A ps.length c B (pcs ps) (h.quiet hs).own hn (pcs_one ps)
  clear h
  obtain ⟨n, hnn⟩ : ∃ n, n = ps.length := ⟨_, rfl⟩
  rw [← hnn] at x2 HC
  have HN := Lib.hid hnn
  clear hnn
  have d0 := cls_cell (F := fun _ => False) (w0 := w) x0 id
  have d1 := cls_cell (F := fun _ => False) (w0 := w) x1 id
  have d2 := cls_cell (F := fun _ => False) (w0 := w) x2 id
  clear x0 x1 x2
  go_enter Try.func14, Try.ntmps14
  go_wp2_with fail
  refine Mix.wp_region_mix [12, 14] [12, 14] (Step (fun _ => False) w) (by kernel_rfl) (by kernel_rfl) Step.refl.drew (fun hcls => ?_)
  refine Mix.wpL_reads 12 (by rfl) ?_
  simp only [List.take_succ_cons, List.drop_succ_cons, List.take_zero, List.drop_zero]
  repeat (go_big_quiet_step (fail))
  refine wpQuiet_nil ?_
  refine Mix.wpL_op (by rfl) (fun K hK => ?_)
  go_simp
  refine (HC.out _ Step.refl.drew).mono ?_
  rintro e wd ⟨D', c', rfl, hown, hSd⟩
  have HSd := Lib.hid (Step.refl.drew.trans hSd)
  have HO := Lib.hid hown
  refine hK _ _ (fun hlt => Mix.cl HSd.out) ?_
  clear hK K hSd hown
  refine Mix.wpL_reads 1 (by rfl) ?_
  simp only [List.take_succ_cons, List.drop_succ_cons, List.take_zero, List.drop_zero]
  repeat (go_big_quiet_step (fail))
  refine wpQuiet_nil ?_
  refine Mix.wpL_op (by rfl) (fun K hK => ?_)
  go_simp
  refine hK _ _ (fun hlt => Mix.cl (HSd.out.alloc _)) ?_
  clear hK K
  refine Mix.wpL_reads 1 (by rfl) ?_
  simp only [List.take_succ_cons, List.drop_succ_cons, List.take_zero, List.drop_zero]
  repeat (go_big_quiet_step (fail))
  refine wpQuiet_nil ?_
  refine Mix.wpL_end ?_
  go_wp2_with fail
  go_ret
  have hge := HSd.out.size
  rw [HN.out] at HO
  have hO := HO.out
  refine ⟨wd.heap.size, D', c', rfl, ⟨by rw [← HN.out]; exact Blk.new wd _ _, own_base (hO.alloc _) (fun q hq => Nat.le_trans hB (own_ge hO q hq))⟩, hge, fun k hk => own_ge hO k (by rwa [ownBlock_slice]), HSd.out.alloc _⟩

set_option maxRecDepth 100000 in
set_option maxHeartbeats 3200000 in
theorem sequal_walk (w : World) (A1 A2 : Option Addr) (c1 c2 n : Nat) (ps : List Pc) (S1 S2 : Nat → Prop) (hN : n = ps.length) (h1 : Reads w S1 3 A1 n (pcs ps)) (h2 : Reads w S2 3 A2 n (pcs ps)) (hn : n ≤ 1000000) :
    Calls Try.prog 29 #[.slice A1 n c1, .slice A2 n c2] w fun e w' => e = .returned (.bool true) ∧ Step (fun _ => False) w w' := by
  have HR1 := Lib.hid h1
  have HR2 := Lib.hid h2
  have HN := Lib.hid hN
  have n4 : ((n : Int) != (n : Int)) = false := by simp
  clear h1 h2 hN
  go_enter Try.func29, Try.ntmps29
  go_wp2_with fail
  go_loopw [13] (fun iv wr => ∃ (j : Nat), j ≤ n ∧ iv = .int .i64 (j : Int) ∧ Hid (Step (fun _ => False) w wr)) (fun iv _ => n + 1 - (intOf iv).toNat)
  case atStart => exact ⟨0, by omega, rfl, Step.refl⟩
  case round =>
    obtain ⟨j, hj, rfl, HSj⟩ := hrel
    by_cases hlt : j < n
    · have g1 : (j : Int) < (n : Int) := by omega
      have i0 : (0 : Int) ≤ (j : Int) := by omega
      have hw1 := IntWalk.i64_in ((j : Int) + 1) (by omega)
      have hjl : j < ps.length := by rw [← HN.out]; exact hlt
      obtain ⟨bk, off, rfl, _, hbl, hc⟩ := reads_row Pc.cells 3 (by decide) Pc.three (HR1.out.step HSj.out (fun _ _ => id)) (k := j) hjl
      obtain ⟨bz, ofz, rfl, _, hbz, hcz⟩ := reads_row Pc.cells 3 (by decide) Pc.three (HR2.out.step HSj.out (fun _ _ => id)) (k := j) hjl
      generalize ps[j] = p at hc hcz
      obtain ⟨a, l, o⟩ := p
      have c0 := hc 0 _ rfl
      have c1 := hc 1 _ rfl
      have c2 := hc 2 _ rfl
      have e0 := hcz 0 _ rfl
      have e1 := hcz 1 _ rfl
      have e2 := hcz 2 _ rfl
      simp only [Nat.add_zero] at c0 c1 c2 e0 e1 e2
      clear hc hcz
      go_wp2_with fail
      go_quiet (fail)
      go_wp2_with fail
      go_roundw
      case rel => exact ⟨j + 1, by omega, by rw [Int.natCast_add]; rfl, HSj.out.drewN _⟩
      case measure => simp [intOf]; omega
    · obtain rfl : j = n := by omega
      go_wp2_with fail
      go_ret
      exact ⟨rfl, HSj.out⟩
set_option maxRecDepth 100000 in
set_option maxHeartbeats 1600000 in
theorem sequal_no (w : World) (A1 A2 : Option Addr) (c1 c2 n m : Nat) (hne : ¬ n = m) :
    Calls Try.prog 29 #[.slice A1 n c1, .slice A2 m c2] w fun e w' => e = .returned (.bool false) ∧ Step (fun _ => False) w w' := by
  have h1 : ((n : Int) != (m : Int)) = true := bne_iff_ne.2 (by omega)
  have h2 : (n != m) = true := bne_iff_ne.2 hne
  go_enter Try.func29, Try.ntmps29
  go_wp2_with fail
  go_ret
  exact ⟨rfl, Step.refl⟩

set_option maxRecDepth 100000 in
set_option maxHeartbeats 3200000 in
theorem rsame_room (w : World) (X1 X2 : Nat) (A1 A2 : Option Addr) (c1 c2 fm sz B1 B2 n m : Nat) (ps qs : List Pc) (b : Bool) (h1 : Rm w X1 A1 c1 fm sz B1 ps) (h2 : Rm w X2 A2 c2 fm sz B2 qs) (hn : n = ps.length) (hm : m = qs.length)
    (HE : ∀ w', Step (fun _ => False) w w' → Calls Try.prog 29 #[.slice A1 n c1, .slice A2 m c2] w' fun e w'' => e = .returned (.bool b) ∧ Step (fun _ => False) w' w'') :
    Calls Try.prog 15 #[.pointer (some ⟨X1, 0, none⟩), .pointer (some ⟨X2, 0, none⟩)] w fun e w' => e = .returned (.bool b) ∧ Step (fun _ => False) w w' := by
  have x0 := h1.c0
  have x1 := h1.c1
  have x2 := h1.c2
  have y0 := h2.c0
  have y1 := h2.c1
  have y2 := h2.c2
  rw [← hn] at x2
  rw [← hm] at y2
  have HEE := Lib.hid HE
  have d0 := cls_cell (F := fun _ => False) (w0 := w) x0 id
  have d1 := cls_cell (F := fun _ => False) (w0 := w) x1 id
  have d2 := cls_cell (F := fun _ => False) (w0 := w) x2 id
  have e0 := cls_cell (F := fun _ => False) (w0 := w) y0 id
  have e1 := cls_cell (F := fun _ => False) (w0 := w) y1 id
  have e2 := cls_cell (F := fun _ => False) (w0 := w) y2 id
  clear h1 h2 HE x0 x1 x2 y0 y1 y2 hn hm
  go_enter Try.func15, Try.ntmps15
  go_wp2_with fail
  refine Mix.wp_region_mix [29] [29] (Step (fun _ => False) w) (by kernel_rfl) (by kernel_rfl) Step.refl.drew (fun hcls => ?_)
  refine Mix.wpL_reads 29 (by rfl) ?_
  simp only [List.take_succ_cons, List.drop_succ_cons, List.take_zero, List.drop_zero]
  repeat (go_big_quiet_step (fail))
  refine wpQuiet_nil ?_
  refine Mix.wpL_op (by rfl) (fun K hK => ?_)
  go_simp
  refine (HEE.out _ Step.refl.drew).mono ?_
  rintro e wd ⟨rfl, hSd⟩
  have HSd := Lib.hid (Step.refl.drew.trans hSd)
  refine hK _ _ (fun hlt => Mix.cl HSd.out) ?_
  clear hK K hSd
  refine Mix.wpL_reads 2 (by rfl) ?_
  simp only [List.take_succ_cons, List.drop_succ_cons, List.take_zero, List.drop_zero]
  repeat (go_big_quiet_step (fail))
  refine wpQuiet_nil ?_
  refine Mix.wpL_end ?_
  go_wp2_with fail
  go_ret
  exact ⟨rfl, HSd.out⟩
theorem rsame_yes (w : World) (X1 X2 : Nat) (A1 A2 : Option Addr) (c1 c2 fm sz B1 B2 : Nat) (ps : List Pc) (h1 : Rm w X1 A1 c1 fm sz B1 ps) (h2 : Rm w X2 A2 c2 fm sz B2 ps) (hn : ps.length ≤ 1000000) :
    Calls Try.prog 15 #[.pointer (some ⟨X1, 0, none⟩), .pointer (some ⟨X2, 0, none⟩)] w fun e w' => e = .returned (.bool true) ∧ Step (fun _ => False) w w' :=
  rsame_room w X1 X2 A1 A2 c1 c2 fm sz B1 B2 _ _ ps ps true h1 h2 rfl rfl (fun w' hs => sequal_walk w' A1 A2 c1 c2 _ ps _ _ rfl (h1.quiet hs).rd (h2.quiet hs).rd hn)
theorem rsame_no (w : World) (X1 X2 : Nat) (A1 A2 : Option Addr) (c1 c2 fm sz B1 B2 : Nat) (ps qs : List Pc) (h1 : Rm w X1 A1 c1 fm sz B1 ps) (h2 : Rm w X2 A2 c2 fm sz B2 qs) (hne : ¬ ps.length = qs.length) :
    Calls Try.prog 15 #[.pointer (some ⟨X1, 0, none⟩), .pointer (some ⟨X2, 0, none⟩)] w fun e w' => e = .returned (.bool false) ∧ Step (fun _ => False) w w' :=
  rsame_room w X1 X2 A1 A2 c1 c2 fm sz B1 B2 _ _ ps qs false h1 h2 rfl rfl (fun w' _ => sequal_no w' A1 A2 c1 c2 _ _ hne)
end Go.Proofs.Ytjpjobpkeejmcaa
