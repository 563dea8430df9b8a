/-
  scan.Bytes of what is there.
-/
import Derived.Test.YtfemeendkjcffaaCrA
set_option linter.unusedVariables false
set_option linter.unusedSimpArgs false
namespace Go.Proofs.Ytfemeendkjcffaa
open Go.RowKit

set_option maxRecDepth 100000 in
set_option maxHeartbeats 3200000 in
theorem bytes_ok (w : World) (X : Nat) (S : Nat → Prop) (D : Option Addr) (c : Nat) (bs : List UInt8) (k n : Nat) (h : Scn w X S D c bs k) (hn : k + n ≤ bs.length) (G : List UInt8) (hG : G = (bs.drop k).take n) :
    Calls Try.prog 179 #[.pointer (some ⟨X, 0, none⟩), .int .i64 (n : Int)] w fun e w' => ∃ D' c', e = .returned (.slice D' n c') ∧ w'.ownsRow w.heap.size 5 1 (.slice D' n c') n (u8s G) ∧ Scn w' X S D c bs (k + n) ∧ Step (fun i => i = X) w w' := by
  have HS := Lib.hid h
  have x1 := h.c1
  have hsh := h.short
  have hcap := h.cap
  have HL : Hid (∀ q, Calls Try.prog 79 #[.pointer (some ⟨X, 0, none⟩)] (w.drewN q) fun e w' => e = .returned (.int .i64 ((bs.length : Int) - (k : Int))) ∧ ∃ q', w' = (w.drewN q).drewN q') := fun q => left_walk _ X S D c bs k (HS.out.quiet (Step.refl.drewN q))
  have g0 : (0 : Int) ≤ (n : Int) := by omega
  have g0' : decide ((0 : Int) ≤ (n : Int)) = true := decide_eq_true g0
  have g1 : (n : Int) ≤ (bs.length : Int) - (k : Int) := by omega
  have g1' : decide ((n : Int) ≤ (bs.length : Int) - (k : Int)) = true := decide_eq_true g1
  have hw := IntWalk.i64_in ((k : Int) + (n : Int)) (by omega)
  clear h
  go_enter Try.func179, Try.ntmps179
  go_wp2_with fail
  refine (aunless_ok _ _ _).mono ?_
  rintro e wS ⟨rfl, hwS⟩
  obtain rfl : w = wS := hwS.symm
  go_wp2_with fail
  go_quiet (first | (go_at_call 79; exact Calls.quiet_of (HL.out _)) | (go_at_call 143; exact Calls.quiet_of_same (aunless_ok _ _ _)))
  have HS1 := Lib.hid (HS.out.quiet (Step.refl.drewN nq))
  have hT1 : Step (fun i => i = X) w (w.drewN nq) := Step.refl.drewN nq
  obtain ⟨W, hW⟩ : ∃ W, W = w.drewN nq := ⟨_, rfl⟩
  rw [← hW] at HS1 hT1 ⊢
  have HT1 := Lib.hid hT1
  clear hT1 hW HL HS x1
  have x1 := HS1.out.c1
  have z1 := HS1.out.nz 1
  have HS2 := Lib.hid (HS1.out.set_ (k' := k + n) (by omega))
  have HT2 := Lib.hid (HT1.out.setCell (p := ⟨X, 1, none⟩) (.inl rfl) (.int .i64 ((k + n : Nat) : Int)))
  have e1 : ((k + n : Nat) : Int) = (k : Int) + (n : Int) := by omega
  rw [e1] at HS2 HT2
  go_wp2_with fail
  obtain ⟨V, hV⟩ : ∃ V, V = W.setCell ⟨X, 1, none⟩ (.int .i64 ((k : Int) + (n : Int))) := ⟨_, rfl⟩
  rw [← hV] at HS2 HT2 ⊢
  clear hV x1 z1 HS1 HT1
  have y0 := HS2.out.c0
  have y1 := HS2.out.c1
  rw [e1] at y1
  have d0 := cls_cell (F := fun _ => False) (w0 := V) y0 id
  have d1 := cls_cell (F := fun _ => False) (w0 := V) y1 id
  have hw2 : IntKind.i64.wrap ((k : Int) + (n : Int) - (n : Int)) = (k : Int) := by rw [IntKind.wrap_i64]; omega
  have hw3 : (k : Int) + (n : Int) - (n : Int) = (k : Int) := by omega
  have hsl := slice_lhn (P := Try.prog) E_u8 D bs.length c .i64 .i64 (k : Int) ((k : Int) + (n : Int)) k (k + n) n (c - k) rfl (by omega) (by omega) (by omega) (by omega) rfl
  have hrt : Reads V S 1 (cutA D c k 1) n (u8s G) := by
    have h4 := (HS2.out.rd.cut (k := k) (by omega) hcap).take (k := n) (by omega)
    rw [Nat.mul_one, Nat.mul_one, ← u8s_drop, ← u8s_take, ← hG] at h4
    unfold cutA
    rw [Nat.mul_one]
    exact h4
  have HRt := Lib.hid hrt
  obtain ⟨A, hA⟩ : ∃ A, A = cutA D c k 1 := ⟨_, rfl⟩
  rw [← hA] at hsl HRt
  clear hA hrt y0 y1 hG
  refine Mix.wp_region_mix [0, 16] [0, 16] (Step (fun _ => False) V) (by kernel_rfl) (by kernel_rfl) Step.refl.drew (fun hcls => ?_)
  refine Mix.wpL_op (by rfl) (fun K hK => ?_)
  go_simp
  refine hK _ _ (fun hlt => Mix.cl (by first | exact (Step.refl.alloc _).drew | exact (Step.refl.drew).alloc _)) ?_
  clear hK K
  refine Mix.wpL_reads 15 (by rfl) ?_
  simp only [List.take_succ_cons, List.drop_succ_cons, List.take_zero, List.drop_zero]
  repeat (go_big_quiet_step (fail))
  refine wpQuiet_nil ?_
  have hfr := own_drew (own_fresh (w := V) (e := 5) (base := V.heap.size) 1 (Nat.le_refl _))
  have hrd := (HRt.out.step (Step.refl.alloc (F := fun _ => False) (w := V) (.cells #[] 5)) (fun _ _ => id)).drew
  have hone := u8s_one G
  have hm : 0 + n ≤ maxLen := by unfold maxLen; omega
  refine Mix.wpL_op (by rfl) (fun K hK => ?_)
  refine step_append_src _ (by rfl) _ _ (by rfl) E_u8 (by rfl) hfr (by rfl) hrd hone hm (by omega) (by simp) ?_
  intro D9 c9 w9 hown hgrow hat
  rw [Nat.zero_add, List.nil_append] at hown
  have HO9 := Lib.hid hown
  have HG9 : Hid (Step (fun _ => False) V w9) := grow_step (Step.drew (Step.refl.alloc _)) hgrow hfr (Nat.le_refl _)
  refine hK _ _ (fun hlt => Mix.cl HG9.out) ?_
  clear hK K hgrow hown hfr hrd
  simp only [Act.put, List.setIfInBounds_toArray, List.set_cons_succ, List.set_cons_zero]
  refine Mix.wpL_reads 1 (by rfl) ?_
  simp only [List.take_succ_cons, List.drop_succ_cons, List.take_zero, List.drop_zero]
  repeat (go_big_quiet_step (fail))
  refine wpQuiet_nil ?_
  refine Mix.wpL_end ?_
  go_wp2_with fail
  refine bodyPost_ret (v := .slice D9 n c9) (by simp [results, Try.results179, go_sem]) rfl ?_
  refine ⟨D9, c9, rfl, own_base HO9.out (fun q hq => Nat.le_trans HT2.out.size (own_ge HO9.out q hq)), HS2.out.quiet HG9.out, HT2.out.trans' HG9.out (fun _ h => h.elim)⟩
end Go.Proofs.Ytfemeendkjcffaa
