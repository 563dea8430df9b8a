/-
  store: memory Shrink; table Cut, List; journal Keep.
-/
import Derived.Test.YtmheofkakcomdaaSbE
set_option linter.unusedVariables false
set_option linter.unusedSimpArgs false
namespace Go.Proofs.Ytmheofkakcomdaa
open Go.RowKit
set_option maxRecDepth 100000 in
set_option maxHeartbeats 3200000 in
theorem m_shrink {w : World} {B M n c : Nat} {A : Option Addr} {most : Int} {l : List UInt8} (k : Nat) (h : Mm w B M A n c most l) (hB : B ≤ w.heap.size) (p : Nat) (hp : n = p * 65536) (hk : k < p) : Calls Try.prog 65 #[.pointer (some ⟨M, 0, none⟩), .int .i64 (k : Int)] w fun e w' => e = .returned (.tuple #[]) ∧
    ∃ A' c', Mm w' B M A' (k * 65536) c' most (l.take (k * 65536)) ∧ Upd w (foot M A) (foot M A') w' := by
  have hsm := h.small
  have x0 := (h.blk.cell 0).trans (show _ = some (Value.slice A n c) from rfl)
  have HP := Lib.hid (m_pages h p hp)
  have i0 : (0 : Int) ≤ (k : Int) := by omega
  have i1 : (k : Int) < (p : Int) := by omega
  have wm : IntKind.i64.wrap ((k : Int) * 65536) = ((k * 65536 : Nat) : Int) := by rw [IntWalk.i64_in _ (by omega)]; omega
  obtain ⟨N, hN⟩ : ∃ N, N = k * 65536 := ⟨_, rfl⟩
  rw [← hN] at wm ⊢
  have hNn : N ≤ n := by omega
  have sh := slice_hn E_u8 A n c .i64 (N : Int) N rfl (by have := own_cap h.own; omega)
  have hfA := own_fresh (w := w) (e := 5) (base := B) 1 hB
  have hrd := (Reads.of_own (own_take h.own hNn)).step (F := fun _ => False) (Step.alloc Step.refl (.cells #[] 5)) (fun _ _ => id)
  rw [Nat.mul_one, ← u8s_take] at hrd
  have hone := u8s_one (l.take N)
  have hm1 : 0 + N ≤ maxLen := by unfold maxLen; omega
  have hbk := h.blk
  have H := Lib.hid h
  have HLn : Hid (N = (l.take N).length) := by rw [Hid, List.length_take, ← h.len]; omega
  have nM := h.blk.lt
  clear h hp hk hN
  go_enter Try.func65, Try.ntmps65
  go_wp2_with fail
  refine HP.out.mono ?_
  rintro e w2 ⟨rfl, rfl⟩
  clear HP
  go_wp2_with (at_builtin; refine wpList_append_src _ rfl _ _ (by rfl) E_u8 (by rfl) hfA (by rfl) hrd hone hm1 (by omega) (by simp; omega) ?_; intro D' c' w1 hown1 hgrow hat; simp only [Nat.zero_add, List.nil_append] at hown1; simp only [Nat.zero_add]; have hst : Step (fun k => blkOf (some (⟨w2.heap.size, 0, none⟩ : Addr)) = some k) (w2.alloc (.cells #[] 5)) w1 := Step.refl.grown hgrow (fun k hk => .inl hk); have hs1 := (Step.refl.alloc (F := fun _ => False) (.cells #[] 5)).trans' hst (fun i hi => .inr (by simp [blkOf] at hi; omega)); have hb1 := hbk.step hs1 id; have z0 := hb1.cell 0; have f0 := hb1.frozen 0; simp at z0)
  go_end0
  have hput := H.out.put (hs1.mono fun _ _ h => h.elim) hown1 HLn.out (Nat.le_trans hNn hsm) (fun k hk => by
    right
    rcases hat with e | e
    · rw [e] at hk; simp [blkOf] at hk; omega
    · rw [e] at hk; simp at hk; omega)
  exact ⟨rfl, D', c', hput.1, hput.2⟩
set_option maxRecDepth 100000 in
set_option maxHeartbeats 3200000 in
theorem t_cut {w : World} {B T n c : Nat} {A : Option Addr} {most : Int} {l : List Int} (k : Nat) (h : Tb w B T A n c most l) (hB : B ≤ w.heap.size) (hk : k < n) : Calls Try.prog 67 #[.pointer (some ⟨T, 0, none⟩), .int .i64 (k : Int)] w fun e w' => e = .returned (.tuple #[]) ∧
    ∃ A' c', Tb w' B T A' k c' most (l.take k) ∧ Upd w (foot T A) (foot T A') w' := by
  have hle := h.le
  have hml := h.most_le
  have x0 := (h.blk.cell 0).trans (show _ = some (Value.slice A n c) from rfl)
  have i0 : (0 : Int) ≤ (k : Int) := by omega
  have i1 : (k : Int) < (n : Int) := by omega
  have sh := slice_hn E_int A n c .i64 (k : Int) k rfl (by have := own_cap h.own; omega)
  have hfA := own_fresh (w := w) (e := 3) (base := B) 1 hB
  have hrd := (Reads.of_own (own_take h.own (k := k) (by omega))).step (F := fun _ => False) (Step.alloc Step.refl (.cells #[] 3)) (fun _ _ => id)
  rw [Nat.mul_one, ← i64s_take] at hrd
  have hone := i64s_one (l.take k)
  have hm1 : 0 + k ≤ maxLen := by unfold maxLen; omega
  have hbk := h.blk
  have H := Lib.hid h
  have HLn : Hid (k = (l.take k).length) := by rw [Hid, List.length_take, ← h.len]; omega
  have nM := h.blk.lt
  have hk8 : k ≤ 1048576 := by omega
  have hkm : (k : Int) ≤ most := by omega
  clear h hk
  go_enter Try.func67, Try.ntmps67
  go_wp2_with (at_builtin; refine wpList_append_src _ rfl _ _ (by rfl) E_int (by rfl) hfA (by rfl) hrd hone hm1 (by omega) (by simp; omega) ?_; intro D' c' w1 hown1 hgrow hat; simp only [Nat.zero_add, List.nil_append] at hown1; simp only [Nat.zero_add]; have hst : Step (fun k => blkOf (some (⟨w.heap.size, 0, none⟩ : Addr)) = some k) (w.alloc (.cells #[] 3)) w1 := Step.refl.grown hgrow (fun k hk => .inl hk); have hs1 := (Step.refl.alloc (F := fun _ => False) (.cells #[] 3)).trans' hst (fun i hi => .inr (by simp [blkOf] at hi; omega)); have hb1 := hbk.step hs1 id; have z0 := hb1.cell 0; have f0 := hb1.frozen 0; simp at z0)
  go_end0
  have hput := H.out.put (hs1.mono fun _ _ h => h.elim) hown1 HLn.out hkm (fun k hk => by
    right
    rcases hat with e | e
    · rw [e] at hk; simp [blkOf] at hk; omega
    · rw [e] at hk; simp at hk; omega)
  exact ⟨rfl, D', c', hput.1, hput.2⟩
set_option maxRecDepth 100000 in
set_option maxHeartbeats 3200000 in
theorem t_list {w : World} {B T n c : Nat} {A : Option Addr} {most : Int} {l : List Int} (h : Tb w B T A n c most l) : Calls Try.prog 44 #[.pointer (some ⟨T, 0, none⟩)] w fun e w' => ∃ D c', e = .returned (.slice D n c') ∧ w'.ownsRow w.heap.size 3 1 (.slice D n c') n (i64s l) ∧ Step (fun _ => False) w w' := by
  have hle := h.le
  have hml := h.most_le
  have x0 := (h.blk.cell 0).trans (show _ = some (Value.slice A n c) from rfl)
  have hfA := own_fresh (w := w) (e := 3) (base := w.heap.size) 1 (Nat.le_refl _)
  have hrd := (Reads.of_own h.own).step (F := fun _ => False) (Step.alloc Step.refl (.cells #[] 3)) (fun _ _ => id)
  have hone := i64s_one l
  have hm1 : 0 + n ≤ maxLen := by unfold maxLen; omega
  have nM := h.blk.lt
  have hk8 : n ≤ 1048576 := by omega
  clear h
  go_enter Try.func44, Try.ntmps44
  go_wp2_with (at_builtin; refine wpList_append_src _ rfl _ _ (by rfl) E_int (by rfl) hfA (by rfl) hrd hone hm1 (by omega) (by simp) ?_; intro D' c' w1 hown1 hgrow hat; simp only [Nat.zero_add, List.nil_append] at hown1; simp only [Nat.zero_add]; have hst : Step (fun k => blkOf (some (⟨w.heap.size, 0, none⟩ : Addr)) = some k) (w.alloc (.cells #[] 3)) w1 := Step.refl.grown hgrow (fun k hk => .inl hk); have hs1 := (Step.refl.alloc (F := fun _ => False) (.cells #[] 3)).trans' hst (fun i hi => .inr (by simp [blkOf] at hi; omega)))
  go_ret
  exact ⟨D', c', rfl, hown1, hs1⟩
theorem j_keep_err {w : World} {B J : Nat} {Al : Option Addr} {nl cl : Nat} {Am : Option Addr} {cm : Nat} {es : List En} {ms : List Int} (h : Jn w B J Al nl cl Am 0 cm es ms) :
    Calls Try.prog 52 #[.pointer (some ⟨J, 0, none⟩)] w fun e w' => e = .returned (.int .i64 1) ∧ w' = w := by
  have HO := jopen_any w B J Al nl cl Am 0 cm es ms h
  rw [show decide (0 < 0) = false from rfl] at HO
  replace HO := Lib.hid HO
  clear h
  go_enter Try.func52, Try.ntmps52
  go_wp2_with fail
  refine HO.out.mono ?_
  rintro e w' ⟨rfl, rfl⟩
  go_wp2_with fail
  go_ret
  exact ⟨rfl, rfl⟩
set_option maxRecDepth 100000 in
set_option maxHeartbeats 3200000 in
theorem j_keep_ok {w : World} {B J : Nat} {Al : Option Addr} {nl cl : Nat} {Am : Option Addr} {nm cm : Nat} {es : List En} {ms : List Int} {a : Int} (h : Jn w B J Al nl cl Am (nm + 1) cm es (ms ++ [a])) (hm : nm ≤ 1000000) :
    Calls Try.prog 52 #[.pointer (some ⟨J, 0, none⟩)] w fun e w' => e = .returned (.int .i64 0) ∧ ∃ Al' nl' cl' es', Jn w' B J Al' nl' cl' Am nm cm es' ms ∧ (0 < nm → es' = es) ∧ (nm = 0 → es' = []) ∧ Upd w (jfoot J Al Am) (jfoot J Al' Am) w' := by
  have HO := jopen_any w B J Al nl cl Am (nm + 1) cm es _ h
  rw [show decide (0 < nm + 1) = true from decide_eq_true (by omega)] at HO
  replace HO := Lib.hid HO
  have H := Lib.hid h
  obtain ⟨z, hz⟩ := h.blk
  have x1 := (hz.cell 1).trans (show _ = some (Value.slice Am (nm + 1) cm) from rfl)
  have hnm : nm = ms.length := by simpa using h.lm
  have w1 : IntKind.i64.wrap (((nm + 1 : Nat) : Int) - 1) = (nm : Int) := by rw [show ((nm + 1 : Nat) : Int) - 1 = (nm : Int) by omega]; exact IntWalk.i64_in _ (by omega)
  have hcapm := own_cap h.om
  have sh := slice_hn E_int Am (nm + 1) cm .i64 (nm : Int) nm rfl (by omega)
  have hom : w.ownsRow B 3 1 (.slice Am nm cm) nm (i64s ms) := by
    have h1 := own_take h.om (k := nm) (by omega)
    rwa [Nat.mul_one, i64s_append, hnm, ← i64s_length ms, List.take_left, i64s_length, ← hnm] at h1
  have HOM := Lib.hid hom
  obtain ⟨n1, hn1⟩ : ∃ n1, n1 = nm + 1 := ⟨_, rfl⟩
  rw [← hn1] at x1 w1 sh H
  have HNM := Lib.hid hnm
  have HN1 := Lib.hid hn1
  have d1 := cls_cell (F := fun _ => False) (w0 := w) x1 id
  clear h hnm hcapm hom hn1
  go_enter Try.func52, Try.ntmps52
  go_wp2_with fail
  refine HO.out.mono ?_
  rintro e w' ⟨rfl, rfl⟩
  clear HO
  go_wp2_with fail
  clear x1
  refine Mix.wp_region_mix [14] [] (Step (fun _ => False) w') (by kernel_rfl) (by kernel_rfl) (Step.refl.drew) (fun hcls => ?_)
  refine Mix.wpL_reads 14 (by rfl) ?_
  simp only [List.take_succ_cons, List.drop_succ_cons, List.take_zero, List.drop_zero]
  repeat (go_big_quiet_step (fail))
  refine wpQuiet_nil ?_
  clear d1
  have z1 := (hz.drew).cell 1
  have f1 := (hz.drew).frozen 1
  simp at z1
  refine Mix.wpL_op (by rfl) (fun K hK => ?_)
  go_simp
  refine hK _ _ (fun hlt => absurd hlt (by decide)) ?_
  clear hK K
  refine Mix.wpL_end ?_
  have hp := H.out.putm (Step.refl (F := fun k => blkOf Am = some k)) (ms' := ms) HOM.out HNM.out (fun k hk => .inl hk)
  obtain ⟨U, hU⟩ : ∃ U, U = (w'.setCell ⟨J, 1, none⟩ (.slice Am nm cm)).drew := ⟨_, rfl⟩
  have HJU : Hid (Jn U B J Al nl cl Am nm cm es ms) := by rw [Hid, hU]; exact hp.1.drewm
  have HUU : Hid (Upd w' (jfoot J Al Am) (jfoot J Al Am) U) := by rw [Hid, hU]; exact hp.2.drew
  rw [← hU]
  have HO2 := Lib.hid (jopen_any U B J Al nl cl Am nm cm es ms HJU.out)
  clear hU hp z1 f1 w1 sh hz HN1 hcls
  by_cases h0 : 0 < nm
  · have HO3 := HO2.out
    rw [decide_eq_true h0] at HO3
    replace HO3 := Lib.hid HO3
    replace h0 := Lib.hid h0
    clear HO2
    go_wp2_with fail
    refine HO3.out.mono ?_
    rintro e w4 ⟨rfl, rfl⟩
    go_wp2_with fail
    go_ret
    exact ⟨rfl, Al, nl, cl, es, HJU.out, fun _ => rfl, fun h => by have := h0.out; omega, HUU.out⟩
  · have HO3 := HO2.out
    rw [decide_eq_false h0] at HO3
    replace HO3 := Lib.hid HO3
    obtain ⟨z5, hz5⟩ := HJU.out.blk
    have f0 := hz5.frozen 0
    have z0 := (hz5.cell 0).trans (show _ = some (Value.slice Al nl cl) from rfl)
    have hp := HJU.out.putl (w1 := U) (Step.refl (F := fun k => blkOf Al = some k)) (es' := []) (World.ownsRow_nil _ _ _ _) rfl (fun k hk => by simp [blkOf] at hk)
    have HP := Lib.hid hp
    replace h0 := Lib.hid h0
    clear HO2 hp hz5
    go_wp2_with fail
    refine HO3.out.mono ?_
    rintro e w4 ⟨rfl, rfl⟩
    go_wp2_with fail
    go_ret
    exact ⟨rfl, none, 0, 0, [], HP.out.1, fun h => absurd h h0.out, fun _ => rfl, HUU.out.trans HP.out.2⟩
end Go.Proofs.Ytmheofkakcomdaa
