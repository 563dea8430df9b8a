/-
  scan: what is given up: abort.Now, Unless; Byte, Uint, Int, Index, Count, ValType, Global, End of any bytes.
-/
import Derived.Test.YtfemeendkjcffaaGl
import Derived.Test.YtfemeendkjcffaaGbB
import Derived.Test.YtfemeendkjcffaaMxd
set_option linter.unusedVariables false
set_option linter.unusedSimpArgs false
namespace Go.Proofs.Ytfemeendkjcffaa
open Go.RowKit

set_option maxRecDepth 100000 in
set_option maxHeartbeats 1600000 in
theorem now_err (w : World) (y a : Int) : Calls Try.prog 191 #[.int .i64 y, .int .i64 a] w fun e w' => e = .panicked (stopP y a) ∧ Step (fun _ => False) w w' := by
  go_enter Try.func191, Try.ntmps191
  go_wp2_with fail
  exact ⟨rfl, rfl, Step.refl⟩

set_option maxRecDepth 100000 in
set_option maxHeartbeats 1600000 in
theorem unless_err (w : World) (y a : Int) : Calls Try.prog 143 #[.bool false, .int .i64 y, .int .i64 a] w fun e w' => e = .panicked (stopP y a) ∧ Step (fun _ => False) w w' := by
  go_enter Try.func143, Try.ntmps143
  go_wp2_with fail
  refine (now_err _ _ _).mono ?_
  rintro e w' ⟨rfl, hS⟩
  exact ⟨rfl, rfl, hS⟩

/-- What reading comes to: a value and the place behind it, or why it is given up, and where. -/
inductive Rs (α : Type) where
  | ok (v : α) (k : Nat)
  | er (y a : Nat)
/-- .. of the program. -/
def Pg (X : Nat) (S : Nat → Prop) (D : Option Addr) (c : Nat) (bs : List UInt8) (w : World) {α : Type} (r : Rs α) (val : α → Value) (e : Ending) (w' : World) : Prop :=
  match r with
  | .ok v k => e = .returned (val v) ∧ Scn w' X S D c bs k ∧ Step (fun i => i = X) w w'
  | .er y a => e = .panicked (stopP (y : Int) (a : Int)) ∧ Step (fun i => i = X) w w'

def byF (bs : List UInt8) (k : Nat) : Rs Nat := if h : k < bs.length then .ok bs[k].toNat (k + 1) else .er 2 k
def idxF (bs : List UInt8) (k : Nat) : Rs Nat := if (rdU (bs.drop k)).2.2 = 0 then .ok (rdU (bs.drop k)).1 (k + (rdU (bs.drop k)).2.1) else .er (rdU (bs.drop k)).2.2 k
def s32F (bs : List UInt8) (k : Nat) : Rs Int := if (rdS 5 8 15 (bs.drop k)).2.2 = 0 then .ok (rdS 5 8 15 (bs.drop k)).1 (k + (rdS 5 8 15 (bs.drop k)).2.1) else .er (rdS 5 8 15 (bs.drop k)).2.2 k
def s64F (bs : List UInt8) (k : Nat) : Rs Int := if (rdS 10 1 127 (bs.drop k)).2.2 = 0 then .ok (rdS 10 1 127 (bs.drop k)).1 (k + (rdS 10 1 127 (bs.drop k)).2.1) else .er (rdS 10 1 127 (bs.drop k)).2.2 k
def cntF (bs : List UInt8) (k : Nat) : Rs Nat := match idxF bs k with
  | .ok v k' => if v ≤ 10000 then .ok v k' else .er 29 k
  | .er y a => .er y a
def vtyF (bs : List UInt8) (k : Nat) : Rs Nat := match byF bs k with
  | .ok t k' => if valF t = 0 then .ok t k' else .er (valF t) k
  | .er y a => .er y a
def gtyF (bs : List UInt8) (k : Nat) : Rs (Nat × Bool) := match vtyF bs k with
  | .ok t k' => (match byF bs k' with
    | .ok m k2 => if m ≤ 1 then .ok (t, decide (m = 1)) k2 else .er 10 k'
    | .er y a => .er y a)
  | .er y a => .er y a
def endF (bs : List UInt8) (k : Nat) : Rs Unit := if k = bs.length then .ok () k else .er 14 k

theorem rdU_lt (t : List UInt8) (h : (rdU t).2.2 = 0) : (rdU t).1 < 4294967296 := by
  rw [rdU] at h ⊢
  split at h
  · rename_i h1
    rw [if_pos h1]
    split at h
    · cases h
    · rename_i h2
      rw [if_neg h2]
      obtain ⟨l1, l2, l3⟩ := grpN_le 5 t 0 h1
      rw [Nat.zero_add] at l2 l3
      have hl : (t.take (grpN 5 t 0).1).length = (grpN 5 t 0).1 := by rw [List.length_take]; exact Nat.min_eq_left l3
      generalize (grpN 5 t 0).1 = n at *
      simp only
      by_cases h5 : n = 5
      · subst h5
        obtain ⟨e1, e2⟩ := valL_last (t.take 5) 4 (by rw [hl])
        have e3 : (t.take 5).getD 4 0 = t.getD 4 0 := by
          rw [List.getD_eq_getElem?_getD, List.getD_eq_getElem?_getD, List.getElem?_take, if_pos (by decide)]
        rw [e3] at e1
        have e4 : (t.getD 4 0).toNat < 16 := by
          rcases Nat.lt_or_ge (t.getD 4 0).toNat 16 with h3 | h3
          · exact h3
          · exact absurd ⟨rfl, h3⟩ h2
        rw [e1]
        have e5 : valL ((t.take 5).take 4) < 268435456 := e2
        have e6 : (128 : Nat) ^ 4 = 268435456 := rfl
        rw [e6]
        omega
      · have h6 := valL_lt (t.take n)
        rw [hl] at h6
        have h7 : (128 : Nat) ^ n ≤ 128 ^ 4 := Nat.pow_le_pow_right (by decide) (by omega)
        have h8 : (128 : Nat) ^ 4 = 268435456 := rfl
        omega
  · rename_i h1
    exact absurd h (by simpa using h1)
theorem byF_lt {bs : List UInt8} {k v k' : Nat} (h : byF bs k = .ok v k') : v < 256 := by
  rw [byF] at h
  split at h
  · injection h with h1 h2
    rw [← h1]
    exact UInt8.toNat_lt _
  · cases h
theorem idxF_lt {bs : List UInt8} {k v k' : Nat} (h : idxF bs k = .ok v k') : v < 4294967296 := by
  rw [idxF] at h
  split at h
  · rename_i h1
    injection h with h2 h3
    rw [← h2]
    exact rdU_lt _ h1
  · cases h

set_option maxRecDepth 100000 in
set_option maxHeartbeats 1600000 in
theorem byte_err (w : World) (X : Nat) (S : Nat → Prop) (D : Option Addr) (c : Nat) (bs : List UInt8) (k : Nat) (h : Scn w X S D c bs k) (hk : ¬ k < bs.length) :
    Calls Try.prog 144 #[.pointer (some ⟨X, 0, none⟩)] w fun e w' => e = .panicked (stopP 2 (k : Int)) ∧ Step (fun i => i = X) w w' := by
  have HS := Lib.hid h
  have x1 := h.c1
  have hle := h.le
  have hg : ¬ (0 : Int) < (bs.length : Int) - (k : Int) := by omega
  have hg' : decide ((0 : Int) < (bs.length : Int) - (k : Int)) = false := decide_eq_false hg
  have d1 := cls_cell (F := fun _ => False) (w0 := w) x1 id
  clear h x1
  go_enter Try.func144, Try.ntmps144
  go_wp2_with fail
  refine Mix.wp_region_die [1, 7] [1] [0, 1, 2, 3, 4, 5, 6] 7 (Step (fun _ => False) w) (by kernel_rfl) (by kernel_rfl) (by rfl) Step.refl.drew (fun c a d v w h => by cases d <;> exact h) (fun hcls => ?_)
  refine Mix.wpM_reads [0] [1, 2, 3, 4, 5, 6] (by kernel_rfl) ?_
  simp only [List.flatMap_cons, List.flatMap_nil, List.getElem?_cons_succ, List.getElem?_cons_zero, Option.toList_some, List.cons_append, List.nil_append]
  repeat (go_big_quiet_step (fail))
  refine wpQuiet_nil ?_
  refine Mix.wpM_op (by rfl) (by rfl) (fun K hK => ?_)
  go_simp
  refine (left_walk _ X S D c bs k (HS.out.quiet Step.refl.drew)).mono ?_
  rintro e wa ⟨rfl, q, hwa⟩
  have hq : Step (fun _ => False) w wa := by rw [hwa]; exact Step.refl.drew.drewN q
  refine hK _ _ (fun hlt => Mix.cl hq) ?_
  clear hK K hwa
  refine Mix.wpM_reads [2, 3, 4, 5, 6] [] (by kernel_rfl) ?_
  simp only [List.flatMap_cons, List.flatMap_nil, List.getElem?_cons_succ, List.getElem?_cons_zero, Option.toList_some, List.cons_append, List.nil_append]
  repeat (go_big_quiet_step (fail))
  refine wpQuiet_nil ?_
  refine Mix.wpM_die ⟨by rfl, ?_⟩
  go_simp
  refine (unless_err _ _ _).mono ?_
  rintro e w5 ⟨rfl, hS5⟩
  exact ⟨rfl, rfl, (hq.trans hS5).mono fun _ _ hf => hf.elim⟩

set_option maxRecDepth 100000 in
set_option maxHeartbeats 1600000 in
theorem uint_err (w : World) (X : Nat) (S : Nat → Prop) (D : Option Addr) (c : Nat) (bs : List UInt8) (k : Nat) (h : Scn w X S D c bs k) (y : Nat) (hy : ¬ y = 0) (hv : (rdU (bs.drop k)).2.2 = y) :
    Calls Try.prog 201 #[.pointer (some ⟨X, 0, none⟩), .int .i64 32] w fun e w' => e = .panicked (stopP (y : Int) (k : Int)) ∧ Step (fun i => i = X) w w' := by
  have HS := Lib.hid h
  have hle := h.le
  have HR : Hid (∀ q, Calls Try.prog 208 #[.slice D bs.length c, .int .i64 (k : Int), .int .i64 32] (w.drewN q) fun e w' => e = .returned (.tuple #[.int .u64 0, .int .i64 0, .int .i64 (y : Int)]) ∧ w' = w.drewN q) := fun q => by
    have := readuint_walk (w.drewN q) D c k bs S (HS.out.quiet (Step.refl.drewN q)).rd hle HS.out.cap HS.out.short
    rw [rdV, if_neg (by rw [hv]; exact hy), hv] at this
    exact this
  have x0 := h.c0
  have x1 := h.c1
  have hyb : ((y : Int) == 0) = false := by simp; omega
  clear h hv
  go_enter Try.func201, Try.ntmps201
  go_wp2_with fail
  go_quiet ((go_at_call 208; exact Calls.quiet_of_same (HR.out _)))
  have HS1 := Lib.hid (HS.out.quiet (Step.refl.drewN nq))
  have hT1 : Step (fun i => i = X) w (w.drewN nq) := Step.refl.drewN nq
  obtain ⟨W, hW⟩ : ∃ W, W = w.drewN nq := ⟨_, rfl⟩
  rw [← hW] at HS1 hT1 ⊢
  have HT1 := Lib.hid hT1
  clear hT1 hW HR HS x0 x1
  have x1 := HS1.out.c1
  go_wp2_with fail
  refine (unless_err _ _ _).mono ?_
  rintro e w5 ⟨rfl, hS5⟩
  exact ⟨rfl, rfl, HT1.out.trans' hS5 (fun _ hf => hf.elim)⟩

set_option maxRecDepth 100000 in
set_option maxHeartbeats 1600000 in
theorem int32_err (w : World) (X : Nat) (S : Nat → Prop) (D : Option Addr) (c : Nat) (bs : List UInt8) (k : Nat) (h : Scn w X S D c bs k) (y : Nat) (hy : ¬ y = 0) (hv : (rdS 5 8 15 (bs.drop k)).2.2 = y) :
    Calls Try.prog 190 #[.pointer (some ⟨X, 0, none⟩), .int .i64 32] w fun e w' => e = .panicked (stopP (y : Int) (k : Int)) ∧ Step (fun i => i = X) w w' := by
  have HS := Lib.hid h
  have hle := h.le
  have HR : Hid (∀ q, Calls Try.prog 203 #[.slice D bs.length c, .int .i64 (k : Int), .int .i64 32] (w.drewN q) fun e w' => e = .returned (.tuple #[.int .i64 0, .int .i64 0, .int .i64 (y : Int)]) ∧ w' = w.drewN q) := fun q => by
    have := readint32_walk (w.drewN q) D c k bs S (HS.out.quiet (Step.refl.drewN q)).rd hle HS.out.cap HS.out.short
    rw [rsV, if_neg (by rw [hv]; exact hy), hv] at this
    exact this
  have x0 := h.c0
  have x1 := h.c1
  have hyb : ((y : Int) == 0) = false := by simp; omega
  clear h hv
  go_enter Try.func190, Try.ntmps190
  go_wp2_with fail
  go_quiet ((go_at_call 203; exact Calls.quiet_of_same (HR.out _)))
  have HS1 := Lib.hid (HS.out.quiet (Step.refl.drewN nq))
  have hT1 : Step (fun i => i = X) w (w.drewN nq) := Step.refl.drewN nq
  obtain ⟨W, hW⟩ : ∃ W, W = w.drewN nq := ⟨_, rfl⟩
  rw [← hW] at HS1 hT1 ⊢
  have HT1 := Lib.hid hT1
  clear hT1 hW HR HS x0 x1
  have x1 := HS1.out.c1
  go_wp2_with fail
  refine (unless_err _ _ _).mono ?_
  rintro e w5 ⟨rfl, hS5⟩
  exact ⟨rfl, rfl, HT1.out.trans' hS5 (fun _ hf => hf.elim)⟩

set_option maxRecDepth 100000 in
set_option maxHeartbeats 1600000 in
theorem int64_err (w : World) (X : Nat) (S : Nat → Prop) (D : Option Addr) (c : Nat) (bs : List UInt8) (k : Nat) (h : Scn w X S D c bs k) (y : Nat) (hy : ¬ y = 0) (hv : (rdS 10 1 127 (bs.drop k)).2.2 = y) :
    Calls Try.prog 190 #[.pointer (some ⟨X, 0, none⟩), .int .i64 64] w fun e w' => e = .panicked (stopP (y : Int) (k : Int)) ∧ Step (fun i => i = X) w w' := by
  have HS := Lib.hid h
  have hle := h.le
  have HR : Hid (∀ q, Calls Try.prog 203 #[.slice D bs.length c, .int .i64 (k : Int), .int .i64 64] (w.drewN q) fun e w' => e = .returned (.tuple #[.int .i64 0, .int .i64 0, .int .i64 (y : Int)]) ∧ w' = w.drewN q) := fun q => by
    have := readint64_walk (w.drewN q) D c k bs S (HS.out.quiet (Step.refl.drewN q)).rd hle HS.out.cap HS.out.short
    rw [rsV, if_neg (by rw [hv]; exact hy), hv] at this
    exact this
  have x0 := h.c0
  have x1 := h.c1
  have hyb : ((y : Int) == 0) = false := by simp; omega
  clear h hv
  go_enter Try.func190, Try.ntmps190
  go_wp2_with fail
  go_quiet ((go_at_call 203; exact Calls.quiet_of_same (HR.out _)))
  have HS1 := Lib.hid (HS.out.quiet (Step.refl.drewN nq))
  have hT1 : Step (fun i => i = X) w (w.drewN nq) := Step.refl.drewN nq
  obtain ⟨W, hW⟩ : ∃ W, W = w.drewN nq := ⟨_, rfl⟩
  rw [← hW] at HS1 hT1 ⊢
  have HT1 := Lib.hid hT1
  clear hT1 hW HR HS x0 x1
  have x1 := HS1.out.c1
  go_wp2_with fail
  refine (unless_err _ _ _).mono ?_
  rintro e w5 ⟨rfl, hS5⟩
  exact ⟨rfl, rfl, HT1.out.trans' hS5 (fun _ hf => hf.elim)⟩

end Go.Proofs.Ytfemeendkjcffaa
