/-
  scan: Byte, Index, Count, Int, ValType, Global, End of any bytes, one contract each.
-/
import Derived.Test.YtfemeendkjcffaaReA
set_option linter.unusedVariables false
set_option linter.unusedSimpArgs false
namespace Go.Proofs.Ytfemeendkjcffaa
open Go.RowKit

theorem byte_any (w : World) (X : Nat) (S : Nat → Prop) (D : Option Addr) (c : Nat) (bs : List UInt8) (k : Nat) (h : Scn w X S D c bs k) : Calls Try.prog 144 #[.pointer (some ⟨X, 0, none⟩)] w (Pg X S D c bs w (byF bs k) fun b => .int .u8 (b : Int)) := by
  by_cases hk : k < bs.length
  · rw [byF, dif_pos hk]
    exact byte_ok w X S D c bs k h hk
  · rw [byF, dif_neg hk]
    exact byte_err w X S D c bs k h hk
theorem int32_any (w : World) (X : Nat) (S : Nat → Prop) (D : Option Addr) (c : Nat) (bs : List UInt8) (k : Nat) (h : Scn w X S D c bs k) : Calls Try.prog 190 #[.pointer (some ⟨X, 0, none⟩), .int .i64 32] w (Pg X S D c bs w (s32F bs k) fun v => .int .i64 v) := by
  by_cases hv : (rdS 5 8 15 (bs.drop k)).2.2 = 0
  · rw [s32F, if_pos hv]
    exact int32_ok w X S D c bs k h _ _ (by rw [← hv])
  · rw [s32F, if_neg hv]
    exact int32_err w X S D c bs k h _ hv rfl
theorem int64_any (w : World) (X : Nat) (S : Nat → Prop) (D : Option Addr) (c : Nat) (bs : List UInt8) (k : Nat) (h : Scn w X S D c bs k) : Calls Try.prog 190 #[.pointer (some ⟨X, 0, none⟩), .int .i64 64] w (Pg X S D c bs w (s64F bs k) fun v => .int .i64 v) := by
  by_cases hv : (rdS 10 1 127 (bs.drop k)).2.2 = 0
  · rw [s64F, if_pos hv]
    exact int64_ok w X S D c bs k h _ _ (by rw [← hv])
  · rw [s64F, if_neg hv]
    exact int64_err w X S D c bs k h _ hv rfl

set_option maxRecDepth 100000 in
set_option maxHeartbeats 1600000 in
theorem index_any (w : World) (X : Nat) (S : Nat → Prop) (D : Option Addr) (c : Nat) (bs : List UInt8) (k : Nat) (h : Scn w X S D c bs k) : Calls Try.prog 175 #[.pointer (some ⟨X, 0, none⟩)] w (Pg X S D c bs w (idxF bs k) fun v => .int .u32 (v : Int)) := by
  by_cases hv : (rdU (bs.drop k)).2.2 = 0
  · rw [idxF, if_pos hv]
    exact index_ok w X S D c bs k h _ _ (by rw [← hv]) (rdU_lt _ hv)
  · rw [idxF, if_neg hv]
    have HU := Lib.hid (uint_err w X S D c bs k h _ hv rfl)
    clear h
    obtain ⟨y, hy⟩ : ∃ y, y = (rdU (bs.drop k)).2.2 := ⟨_, rfl⟩
    rw [← hy] at HU ⊢
    clear hy hv
    show Calls Try.prog 175 #[.pointer (some ⟨X, 0, none⟩)] w fun e w' => e = .panicked (stopP (y : Int) (k : Int)) ∧ Step (fun i => i = X) w w'
    go_enter Try.func175, Try.ntmps175
    go_wp2_with fail
    refine HU.out.mono ?_
    rintro e w5 ⟨rfl, hS5⟩
    exact ⟨rfl, rfl, hS5⟩

set_option maxRecDepth 100000 in
set_option maxHeartbeats 1600000 in
theorem count_any (w : World) (X : Nat) (S : Nat → Prop) (D : Option Addr) (c : Nat) (bs : List UInt8) (k : Nat) (h : Scn w X S D c bs k) : Calls Try.prog 168 #[.pointer (some ⟨X, 0, none⟩)] w (Pg X S D c bs w (cntF bs k) fun v => .int .i64 (v : Int)) := by
  have HI := Lib.hid (index_any w X S D c bs k h)
  have x1 := h.c1
  clear h
  cases hr : idxF bs k with
  | er y a =>
    rw [hr] at HI
    rw [cntF, hr]
    show Calls Try.prog 168 #[.pointer (some ⟨X, 0, none⟩)] w fun e w' => e = .panicked (stopP (y : Int) (a : Int)) ∧ Step (fun i => i = X) w w'
    clear hr
    go_enter Try.func168, Try.ntmps168
    go_wp2_with fail
    refine HI.out.mono ?_
    rintro e w5 ⟨rfl, hS5⟩
    exact ⟨rfl, rfl, hS5⟩
  | ok v k' =>
    have hlt := idxF_lt hr
    rw [hr] at HI
    rw [cntF, hr]
    simp only
    have hw := IntWalk.i64_in (v : Int) (by omega)
    by_cases hv : v ≤ 10000
    · rw [if_pos hv]
      show Calls Try.prog 168 #[.pointer (some ⟨X, 0, none⟩)] w fun e w' => e = .returned (.int .i64 (v : Int)) ∧ Scn w' X S D c bs k' ∧ Step (fun i => i = X) w w'
      have g1' : decide ((v : Int) ≤ 10000) = true := decide_eq_true (by omega)
      clear hr
      go_enter Try.func168, Try.ntmps168
      go_wp2_with fail
      refine HI.out.mono ?_
      rintro e w5 ⟨rfl, hs, ht⟩
      go_wp2_with fail
      refine (aunless_ok _ _ _).mono ?_
      rintro e w6 ⟨rfl, hw6⟩
      subst w6
      go_wp2_with fail
      go_ret
      exact ⟨rfl, hs, ht⟩
    · rw [if_neg hv]
      show Calls Try.prog 168 #[.pointer (some ⟨X, 0, none⟩)] w fun e w' => e = .panicked (stopP ((29 : Nat) : Int) (k : Int)) ∧ Step (fun i => i = X) w w'
      have g1' : decide ((v : Int) ≤ 10000) = false := decide_eq_false (by omega)
      clear hr
      go_enter Try.func168, Try.ntmps168
      go_wp2_with fail
      refine HI.out.mono ?_
      rintro e w5 ⟨rfl, hs, ht⟩
      go_wp2_with fail
      refine (unless_err _ _ _).mono ?_
      rintro e w6 ⟨rfl, hS6⟩
      exact ⟨rfl, rfl, ht.trans' hS6 (fun _ hf => hf.elim)⟩

set_option maxRecDepth 100000 in
set_option maxHeartbeats 1600000 in
theorem vtype_any (w : World) (X : Nat) (S : Nat → Prop) (D : Option Addr) (c : Nat) (bs : List UInt8) (k : Nat) (h : Scn w X S D c bs k) : Calls Try.prog 198 #[.pointer (some ⟨X, 0, none⟩)] w (Pg X S D c bs w (vtyF bs k) fun v => .int .u8 (v : Int)) := by
  have HI := Lib.hid (byte_any w X S D c bs k h)
  have x1 := h.c1
  clear h
  cases hr : byF bs k with
  | er y a =>
    rw [hr] at HI
    rw [vtyF, hr]
    show Calls Try.prog 198 #[.pointer (some ⟨X, 0, none⟩)] w fun e w' => e = .panicked (stopP (y : Int) (a : Int)) ∧ Step (fun i => i = X) w w'
    clear hr
    go_enter Try.func198, Try.ntmps198
    go_wp2_with fail
    refine HI.out.mono ?_
    rintro e w5 ⟨rfl, hS5⟩
    exact ⟨rfl, rfl, hS5⟩
  | ok v k' =>
    have hlt := byF_lt hr
    rw [hr] at HI
    rw [vtyF, hr]
    simp only
    have HV : Hid (∀ w, Calls Try.prog 163 #[.int .u8 (v : Int)] w fun e w' => e = .returned (.int .i64 (valF v : Nat)) ∧ w' = w) := fun w => value_walk w v hlt
    by_cases hv : valF v = 0
    · rw [if_pos hv]
      rw [hv] at HV
      show Calls Try.prog 198 #[.pointer (some ⟨X, 0, none⟩)] w fun e w' => e = .returned (.int .u8 (v : Int)) ∧ Scn w' X S D c bs k' ∧ Step (fun i => i = X) w w'
      clear hr
      go_enter Try.func198, Try.ntmps198
      go_wp2_with fail
      refine HI.out.mono ?_
      rintro e w5 ⟨rfl, hs, ht⟩
      go_wp2_with fail
      refine (HV.out _).mono ?_
      rintro e w6 ⟨rfl, hw6⟩
      subst w6
      go_wp2_with fail
      refine (aunless_ok _ _ _).mono ?_
      rintro e w6 ⟨rfl, hw6⟩
      subst w6
      go_wp2_with fail
      go_ret
      exact ⟨rfl, hs, ht⟩
    · rw [if_neg hv]
      obtain ⟨r, hr'⟩ : ∃ r, r = valF v := ⟨_, rfl⟩
      rw [← hr'] at HV hv ⊢
      show Calls Try.prog 198 #[.pointer (some ⟨X, 0, none⟩)] w fun e w' => e = .panicked (stopP (r : Int) (k : Int)) ∧ Step (fun i => i = X) w w'
      have g1' : ((r : Int) == 0) = false := by simp; omega
      clear hr hr'
      go_enter Try.func198, Try.ntmps198
      go_wp2_with fail
      refine HI.out.mono ?_
      rintro e w5 ⟨rfl, hs, ht⟩
      go_wp2_with fail
      refine (HV.out _).mono ?_
      rintro e w6 ⟨rfl, hw6⟩
      subst w6
      go_wp2_with fail
      refine (unless_err _ _ _).mono ?_
      rintro e w6 ⟨rfl, hS6⟩
      exact ⟨rfl, rfl, ht.trans' hS6 (fun _ hf => hf.elim)⟩

set_option maxRecDepth 100000 in
set_option maxHeartbeats 1600000 in
theorem end_err (w : World) (X : Nat) (S : Nat → Prop) (D : Option Addr) (c : Nat) (bs : List UInt8) (k : Nat) (h : Scn w X S D c bs k) (hk : ¬ k = bs.length) :
    Calls Try.prog 169 #[.pointer (some ⟨X, 0, none⟩)] w fun e w' => e = .panicked (stopP 14 (k : Int)) ∧ Step (fun i => i = X) w w' := by
  have HS := Lib.hid h
  have x1 := h.c1
  have hle := h.le
  have hz : ((bs.length : Int) - (k : Int) == 0) = false := by simp; omega
  have d1 := cls_cell (F := fun _ => False) (w0 := w) x1 id
  have HDn : Hid (∀ w', Scn w' X S D c bs k → Calls Try.prog 199 #[.pointer (some ⟨X, 0, none⟩)] w' fun e w'' => e = .returned (.bool false) ∧ Step (fun _ => False) w' w'') := fun w' h' => by
    have HL := Lib.hid (left_walk w' X S D c bs k h')
    clear h' d1 x1
    go_enter Try.func199, Try.ntmps199
    go_wp2_with fail
    refine HL.out.mono ?_
    rintro e w5 ⟨rfl, q, hw5⟩
    go_wp2_with fail
    go_ret
    subst w5
    exact ⟨rfl, Step.refl.drewN q⟩
  clear h x1
  go_enter Try.func169, Try.ntmps169
  go_wp2_with fail
  refine Mix.wp_region_die [1, 6] [1] [0, 1, 2, 3, 4, 5] 6 (Step (fun _ => False) w) (by kernel_rfl) (by kernel_rfl) (by rfl) Step.refl.drew (fun c a d v w h => by cases d <;> exact h) (fun hcls => ?_)
  refine Mix.wpM_reads [0] [1, 2, 3, 4, 5] (by kernel_rfl) ?_
  simp only [List.flatMap_cons, List.flatMap_nil, List.getElem?_cons_succ, List.getElem?_cons_zero, Option.toList_some, List.cons_append, List.nil_append]
  repeat (go_big_quiet_step (fail))
  refine wpQuiet_nil ?_
  refine Mix.wpM_op (by rfl) (by rfl) (fun K hK => ?_)
  go_simp
  refine (HDn.out _ (HS.out.quiet Step.refl.drew)).mono ?_
  rintro e wa ⟨rfl, hSa⟩
  have hq := Step.refl.drew.trans hSa
  refine hK _ _ (fun hlt => Mix.cl hq) ?_
  clear hK K hSa
  refine Mix.wpM_reads [2, 3, 4, 5] [] (by kernel_rfl) ?_
  simp only [List.flatMap_cons, List.flatMap_nil, List.getElem?_cons_succ, List.getElem?_cons_zero, Option.toList_some, List.cons_append, List.nil_append]
  repeat (go_big_quiet_step (fail))
  refine wpQuiet_nil ?_
  refine Mix.wpM_die ⟨by rfl, ?_⟩
  go_simp
  refine (unless_err _ _ _).mono ?_
  rintro e w5 ⟨rfl, hS5⟩
  exact ⟨rfl, rfl, (hq.trans hS5).mono fun _ _ hf => hf.elim⟩
theorem end_any (w : World) (X : Nat) (S : Nat → Prop) (D : Option Addr) (c : Nat) (bs : List UInt8) (k : Nat) (h : Scn w X S D c bs k) : Calls Try.prog 169 #[.pointer (some ⟨X, 0, none⟩)] w (Pg X S D c bs w (endF bs k) fun _ => .tuple #[]) := by
  by_cases hk : k = bs.length
  · rw [endF, if_pos hk]
    subst hk
    refine (send_ok w X S D c bs h).mono ?_
    rintro e w' ⟨rfl, q, rfl⟩
    exact ⟨rfl, h.quiet (Step.refl.drewN q), Step.refl.drewN q⟩
  · rw [endF, if_neg hk]
    exact end_err w X S D c bs k h hk
end Go.Proofs.Ytfemeendkjcffaa
