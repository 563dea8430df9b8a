/-
  Sc: ScA, ScB.
-/
import Derived.Test.YtfemeendkjcffaaByt
import Derived.Test.YtfemeendkjcffaaRd
import Derived.StillTailTactics
import Derived.BigQuiet
set_option linter.unusedVariables false
set_option linter.unusedSimpArgs false
/-! scan: a scanner in memory; Left, At, Byte. -/
namespace Go.Proofs.Ytfemeendkjcffaa
open Go.RowKit

/-- A scanner of bytes bs, at a place. -/
structure Scn (w : World) (X : Nat) (S : Nat → Prop) (D : Option Addr) (c : Nat) (bs : List UInt8) (k : Nat) : Prop where
  blk : Blk w X 198 #[.slice D bs.length c, .int .i64 (k : Int)]
  rd : Reads w S 1 D bs.length (u8s bs)
  out : ¬ S X
  le : k ≤ bs.length
  short : bs.length ≤ 1000000
  cap : bs.length ≤ c
  low : ∀ j, S j → j < w.heap.size

section
variable {w w' : World} {X : Nat} {S : Nat → Prop} {D : Option Addr} {c : Nat} {bs : List UInt8} {k : Nat}
theorem Scn.step {F : Nat → Prop} (h : Scn w X S D c bs k) (hs : Step F w w') (hX : ¬ F X) (hS : ∀ i, S i → ¬ F i) : Scn w' X S D c bs k :=
  ⟨h.blk.step hs hX, h.rd.step hs hS, h.out, h.le, h.short, h.cap, fun j hj => Nat.lt_of_lt_of_le (h.low j hj) hs.size⟩
theorem Scn.quiet (h : Scn w X S D c bs k) (hs : Step (fun _ => False) w w') : Scn w' X S D c bs k := h.step hs id (fun _ _ => id)
theorem Scn.alloc (h : Scn w X S D c bs k) (o : Obj) : Scn (w.alloc o) X S D c bs k := h.quiet (Step.refl.alloc o)
theorem Scn.set_ (h : Scn w X S D c bs k) {k' : Nat} (hk : k' ≤ bs.length) : Scn (w.setCell ⟨X, 1, none⟩ (.int .i64 (k' : Int))) X S D c bs k' :=
  ⟨by have := h.blk.set_ 1 (.int .i64 (k' : Int)); simpa using this, h.rd.step (Step.refl.setCell (p := ⟨X, 1, none⟩) (F := fun i => i = X) (.inl rfl) _) (fun i hi e => h.out (e ▸ hi)), h.out, hk, h.short, h.cap, fun j hj => Nat.lt_of_lt_of_le (h.low j hj) (Step.refl.setCell (w := w) (p := ⟨X, 1, none⟩) (F := fun i => i = X) (.inl rfl) (.int .i64 (k' : Int))).size⟩
theorem Scn.c0 (h : Scn w X S D c bs k) : w.cell? ⟨X, 0, none⟩ = some (.slice D bs.length c) := by have := h.blk.cell 0; simpa using this
theorem Scn.c1 (h : Scn w X S D c bs k) : w.cell? ⟨X, 1, none⟩ = some (.int .i64 (k : Int)) := by have := h.blk.cell 1; simpa using this
theorem Scn.lt (h : Scn w X S D c bs k) : X < w.heap.size := h.blk.lt
theorem Scn.nz (h : Scn w X S D c bs k) (i : Nat) : w.frozen? ⟨X, i, none⟩ = false := h.blk.frozen i
end

section
variable (w : World) (X : Nat) (S : Nat → Prop) (D : Option Addr) (c : Nat) (bs : List UInt8) (k : Nat)
set_option maxRecDepth 100000 in
set_option maxHeartbeats 1600000 in
theorem left_walk (h : Scn w X S D c bs k) : Calls Try.prog 79 #[.pointer (some ⟨X, 0, none⟩)] w fun e w' => e = .returned (.int .i64 ((bs.length : Int) - (k : Int))) ∧ ∃ q, w' = w.drewN q := by
  have x0 := h.c0
  have x1 := h.c1
  have hle := h.le
  have hsh := h.short
  have hw := IntWalk.i64_in ((bs.length : Int) - (k : Int)) (by omega)
  clear h
  go_enter Try.func79, Try.ntmps79
  go_wp2_with fail
  go_quiet (fail)
  go_wp2_with fail
  go_ret
  exact ⟨rfl, nq, rfl⟩

set_option maxRecDepth 100000 in
set_option maxHeartbeats 1600000 in
theorem at_walk (h : Scn w X S D c bs k) : Calls Try.prog 52 #[.pointer (some ⟨X, 0, none⟩)] w fun e w' => e = .returned (.int .i64 (k : Int)) ∧ w' = w := by
  have x1 := h.c1
  clear h
  go_enter Try.func52, Try.ntmps52
  go_wp2_with fail
  go_ret
  exact ⟨rfl, rfl⟩
end

set_option maxRecDepth 100000 in
set_option maxHeartbeats 1600000 in
theorem aunless_ok (w : World) (a b : Int) : Calls Try.prog 143 #[.bool true, .int .i64 a, .int .i64 b] w fun e w' => e = .returned (.tuple #[]) ∧ w' = w := by
  go_enter Try.func143, Try.ntmps143
  go_wp2_with fail
  go_end0
  exact ⟨rfl, rfl⟩

set_option maxRecDepth 100000 in
set_option maxHeartbeats 1600000 in
theorem byte_ok (w : World) (X : Nat) (S : Nat → Prop) (D : Option Addr) (c : Nat) (bs : List UInt8) (k : Nat) (h : Scn w X S D c bs k) (hk : k < bs.length) :
    Calls Try.prog 144 #[.pointer (some ⟨X, 0, none⟩)] w fun e w' => e = .returned (.int .u8 (bs[k].toNat : Int)) ∧ Scn w' X S D c bs (k + 1) ∧ Step (fun i => i = X) w w' := by
  have HS := Lib.hid h
  have x1 := h.c1
  have hg : (0 : Int) < (bs.length : Int) - (k : Int) := by omega
  have hg' : decide ((0 : Int) < (bs.length : Int) - (k : Int)) = true := decide_eq_true hg
  have HL : Hid (∀ q, Calls Try.prog 79 #[.pointer (some ⟨X, 0, none⟩)] (w.drewN q) fun e w' => e = .returned (.int .i64 ((bs.length : Int) - (k : Int))) ∧ ∃ q', w' = (w.drewN q).drewN q') := fun q => left_walk _ X S D c bs k (HS.out.quiet (Step.refl.drewN q))
  have hsh := h.short
  have hw := IntWalk.i64_in ((k : Int) + 1) (by omega)
  clear h
  go_enter Try.func144, Try.ntmps144
  go_wp2_with fail
  go_quiet (first | (go_at_call 79; exact Calls.quiet_of (HL.out _)) | (go_at_call 143; exact Calls.quiet_of_same (aunless_ok _ _ _)))
  have HS1 := Lib.hid (HS.out.quiet (Step.refl.drewN nq))
  have hT1 : Step (fun i => i = X) w (w.drewN nq) := Step.refl.drewN nq
  obtain ⟨W, hW⟩ : ∃ W, W = w.drewN nq := ⟨_, rfl⟩
  rw [← hW] at HS1 hT1 ⊢
  have HT1 := Lib.hid hT1
  clear hT1 hW HL HS x1
  have x1 := HS1.out.c1
  have z1 := HS1.out.nz 1
  have HS2 := Lib.hid (HS1.out.set_ (k' := k + 1) (by omega))
  have HT2 := Lib.hid (HT1.out.setCell (p := ⟨X, 1, none⟩) (.inl rfl) (.int .i64 ((k + 1 : Nat) : Int)))
  rw [show (((k + 1 : Nat) : Int)) = (k : Int) + 1 by omega] at HS2 HT2
  have y0 := HS2.out.c0
  have y1 := HS2.out.c1
  obtain ⟨ad, u, hD, _, hbl, hu, hc⟩ := HS2.out.rd.at_ hk
  rw [u8s_get bs k hk] at hu
  injection hu with hu
  subst hu
  subst hD
  have e1 : ((k + 1 : Nat) : Int) = (k : Int) + 1 := by omega
  rw [e1] at y1
  have hw2 : IntKind.i64.wrap ((k : Int) + 1 - 1) = (k : Int) := by rw [IntKind.wrap_i64]; omega
  have g1 : (k : Int) < (bs.length : Int) := by omega
  go_wp2_with fail
  go_quiet (fail)
  go_wp2_with fail
  go_ret
  exact ⟨rfl, HS2.out.quiet (Step.refl.drewN _), HT2.out.drewN _⟩
end Go.Proofs.Ytfemeendkjcffaa
/-! scan: Uint, Int, Index, Count. -/
namespace Go.Proofs.Ytfemeendkjcffaa
open Go.RowKit

theorem rdU_le (t : List UInt8) {v n : Nat} (h : rdU t = (v, n, 0)) : n ≤ t.length ∧ v < 34359738368 := by
  rw [rdU] at h
  split at h
  · rename_i h0
    have h2 := grpN_le 5 t 0 h0
    split at h
    · simp at h
    · simp only [Prod.mk.injEq] at h
      obtain ⟨h3, h4, _⟩ := h
      have h5 := valL_lt (t.take (grpN 5 t 0).1)
      have h6 : (t.take (grpN 5 t 0).1).length ≤ 5 := by rw [List.length_take]; omega
      have h7 : 128 ^ (t.take (grpN 5 t 0).1).length ≤ 128 ^ 5 := Nat.pow_le_pow_right (by decide) h6
      rw [h3] at h5
      refine ⟨by omega, Nat.lt_of_lt_of_le h5 h7⟩
  · rename_i h0
    simp only [Prod.mk.injEq] at h
    exact absurd h.2.2 h0
theorem rdS_le (m d mx : Nat) (t : List UInt8) {v : Int} {n : Nat} (h : rdS m d mx t = (v, n, 0)) : n ≤ t.length := by
  rw [rdS] at h
  split at h
  · rename_i h0
    have h2 := grpN_le m t 0 h0
    split at h
    · simp at h
    · simp only [Prod.mk.injEq] at h
      omega
  · rename_i h0
    simp only [Prod.mk.injEq] at h
    exact absurd h.2.2 h0

set_option maxRecDepth 100000 in
set_option maxHeartbeats 1600000 in
theorem uint_ok (w : World) (X : Nat) (S : Nat → Prop) (D : Option Addr) (c : Nat) (bs : List UInt8) (k : Nat) (h : Scn w X S D c bs k) (v : Nat) (n : Nat) (hv : rdU (bs.drop k) = (v, n, 0)) :
    Calls Try.prog 201 #[.pointer (some ⟨X, 0, none⟩), .int .i64 32] w fun e w' => e = .returned (.int .u64 (v : Int)) ∧ Scn w' X S D c bs (k + n) ∧ Step (fun i => i = X) w w' := by
  have HS := Lib.hid h
  have hn := (rdU_le _ hv).1
  rw [List.length_drop] at hn
  have hle := h.le
  have HR : Hid (∀ q, Calls Try.prog 208 #[.slice D bs.length c, .int .i64 (k : Int), .int .i64 32] (w.drewN q) fun e w' => e = .returned (.tuple #[.int .u64 (v : Int), .int .i64 ((k : Int) + (n : Int)), .int .i64 0]) ∧ w' = w.drewN q) := fun q => by
    have := readuint_walk (w.drewN q) D c k bs S (HS.out.quiet (Step.refl.drewN q)).rd hle HS.out.cap HS.out.short
    rw [hv] at this
    exact this
  have x0 := h.c0
  have x1 := h.c1
  clear h hv
  go_enter Try.func201, Try.ntmps201
  go_wp2_with fail
  go_quiet ((go_at_call 208; exact Calls.quiet_of_same (HR.out _)))
  have HS1 := Lib.hid (HS.out.quiet (Step.refl.drewN nq))
  have hT1 : Step (fun i => i = X) w (w.drewN nq) := Step.refl.drewN nq
  obtain ⟨W, hW⟩ : ∃ W, W = w.drewN nq := ⟨_, rfl⟩
  rw [← hW] at HS1 hT1 ⊢
  have HT1 := Lib.hid hT1
  clear hT1 hW HR HS x0 x1
  have x1 := HS1.out.c1
  have z1 := HS1.out.nz 1
  have HS2 := Lib.hid (HS1.out.set_ (k' := k + n) (by omega))
  have HT2 := Lib.hid (HT1.out.setCell (p := ⟨X, 1, none⟩) (.inl rfl) (.int .i64 ((k + n : Nat) : Int)))
  rw [show (((k + n : Nat) : Int)) = (k : Int) + (n : Int) by omega] at HS2 HT2
  go_wp2_with fail
  refine (aunless_ok _ _ _).mono ?_
  rintro e w5 ⟨rfl, hw5⟩
  obtain rfl : w5 = W := hw5
  go_wp2_with fail
  go_ret
  exact ⟨rfl, HS2.out, HT2.out⟩

set_option maxRecDepth 100000 in
set_option maxHeartbeats 1600000 in
theorem int32_ok (w : World) (X : Nat) (S : Nat → Prop) (D : Option Addr) (c : Nat) (bs : List UInt8) (k : Nat) (h : Scn w X S D c bs k) (v : Int) (n : Nat) (hv : rdS 5 8 15 (bs.drop k) = (v, n, 0)) :
    Calls Try.prog 190 #[.pointer (some ⟨X, 0, none⟩), .int .i64 32] w fun e w' => e = .returned (.int .i64 v) ∧ Scn w' X S D c bs (k + n) ∧ Step (fun i => i = X) w w' := by
  have HS := Lib.hid h
  have hn := rdS_le 5 8 15 _ hv
  rw [List.length_drop] at hn
  have hle := h.le
  have HR : Hid (∀ q, Calls Try.prog 203 #[.slice D bs.length c, .int .i64 (k : Int), .int .i64 32] (w.drewN q) fun e w' => e = .returned (.tuple #[.int .i64 v, .int .i64 ((k : Int) + (n : Int)), .int .i64 0]) ∧ w' = w.drewN q) := fun q => by
    have := readint32_walk (w.drewN q) D c k bs S (HS.out.quiet (Step.refl.drewN q)).rd hle HS.out.cap HS.out.short
    rw [hv] at this
    exact this
  have x0 := h.c0
  have x1 := h.c1
  clear h hv
  go_enter Try.func190, Try.ntmps190
  go_wp2_with fail
  go_quiet ((go_at_call 203; exact Calls.quiet_of_same (HR.out _)))
  have HS1 := Lib.hid (HS.out.quiet (Step.refl.drewN nq))
  have hT1 : Step (fun i => i = X) w (w.drewN nq) := Step.refl.drewN nq
  obtain ⟨W, hW⟩ : ∃ W, W = w.drewN nq := ⟨_, rfl⟩
  rw [← hW] at HS1 hT1 ⊢
  have HT1 := Lib.hid hT1
  clear hT1 hW HR HS x0 x1
  have x1 := HS1.out.c1
  have z1 := HS1.out.nz 1
  have HS2 := Lib.hid (HS1.out.set_ (k' := k + n) (by omega))
  have HT2 := Lib.hid (HT1.out.setCell (p := ⟨X, 1, none⟩) (.inl rfl) (.int .i64 ((k + n : Nat) : Int)))
  rw [show (((k + n : Nat) : Int)) = (k : Int) + (n : Int) by omega] at HS2 HT2
  go_wp2_with fail
  refine (aunless_ok _ _ _).mono ?_
  rintro e w5 ⟨rfl, hw5⟩
  obtain rfl : w5 = W := hw5
  go_wp2_with fail
  go_ret
  exact ⟨rfl, HS2.out, HT2.out⟩

set_option maxRecDepth 100000 in
set_option maxHeartbeats 1600000 in
theorem int64_ok (w : World) (X : Nat) (S : Nat → Prop) (D : Option Addr) (c : Nat) (bs : List UInt8) (k : Nat) (h : Scn w X S D c bs k) (v : Int) (n : Nat) (hv : rdS 10 1 127 (bs.drop k) = (v, n, 0)) :
    Calls Try.prog 190 #[.pointer (some ⟨X, 0, none⟩), .int .i64 64] w fun e w' => e = .returned (.int .i64 v) ∧ Scn w' X S D c bs (k + n) ∧ Step (fun i => i = X) w w' := by
  have HS := Lib.hid h
  have hn := rdS_le 10 1 127 _ hv
  rw [List.length_drop] at hn
  have hle := h.le
  have HR : Hid (∀ q, Calls Try.prog 203 #[.slice D bs.length c, .int .i64 (k : Int), .int .i64 64] (w.drewN q) fun e w' => e = .returned (.tuple #[.int .i64 v, .int .i64 ((k : Int) + (n : Int)), .int .i64 0]) ∧ w' = w.drewN q) := fun q => by
    have := readint64_walk (w.drewN q) D c k bs S (HS.out.quiet (Step.refl.drewN q)).rd hle HS.out.cap HS.out.short
    rw [hv] at this
    exact this
  have x0 := h.c0
  have x1 := h.c1
  clear h hv
  go_enter Try.func190, Try.ntmps190
  go_wp2_with fail
  go_quiet ((go_at_call 203; exact Calls.quiet_of_same (HR.out _)))
  have HS1 := Lib.hid (HS.out.quiet (Step.refl.drewN nq))
  have hT1 : Step (fun i => i = X) w (w.drewN nq) := Step.refl.drewN nq
  obtain ⟨W, hW⟩ : ∃ W, W = w.drewN nq := ⟨_, rfl⟩
  rw [← hW] at HS1 hT1 ⊢
  have HT1 := Lib.hid hT1
  clear hT1 hW HR HS x0 x1
  have x1 := HS1.out.c1
  have z1 := HS1.out.nz 1
  have HS2 := Lib.hid (HS1.out.set_ (k' := k + n) (by omega))
  have HT2 := Lib.hid (HT1.out.setCell (p := ⟨X, 1, none⟩) (.inl rfl) (.int .i64 ((k + n : Nat) : Int)))
  rw [show (((k + n : Nat) : Int)) = (k : Int) + (n : Int) by omega] at HS2 HT2
  go_wp2_with fail
  refine (aunless_ok _ _ _).mono ?_
  rintro e w5 ⟨rfl, hw5⟩
  obtain rfl : w5 = W := hw5
  go_wp2_with fail
  go_ret
  exact ⟨rfl, HS2.out, HT2.out⟩

set_option maxRecDepth 100000 in
set_option maxHeartbeats 1600000 in
theorem index_ok (w : World) (X : Nat) (S : Nat → Prop) (D : Option Addr) (c : Nat) (bs : List UInt8) (k : Nat) (h : Scn w X S D c bs k) (v n : Nat) (hv : rdU (bs.drop k) = (v, n, 0)) (hlt : v < 4294967296) :
    Calls Try.prog 175 #[.pointer (some ⟨X, 0, none⟩)] w fun e w' => e = .returned (.int .u32 (v : Int)) ∧ Scn w' X S D c bs (k + n) ∧ Step (fun i => i = X) w w' := by
  have hw := IntWalk.u32_in (v : Int) (by omega)
  go_enter Try.func175, Try.ntmps175
  go_wp2_with fail
  refine (uint_ok w X S D c bs k h v n hv).mono ?_
  rintro e w5 ⟨rfl, hs, ht⟩
  go_wp2_with fail
  go_ret
  exact ⟨rfl, hs, ht⟩

set_option maxRecDepth 100000 in
set_option maxHeartbeats 1600000 in
theorem count_ok (w : World) (X : Nat) (S : Nat → Prop) (D : Option Addr) (c : Nat) (bs : List UInt8) (k : Nat) (h : Scn w X S D c bs k) (v n : Nat) (hv : rdU (bs.drop k) = (v, n, 0)) (hlt : v ≤ 10000) :
    Calls Try.prog 168 #[.pointer (some ⟨X, 0, none⟩)] w fun e w' => e = .returned (.int .i64 (v : Int)) ∧ Scn w' X S D c bs (k + n) ∧ Step (fun i => i = X) w w' := by
  have hw := IntWalk.i64_in (v : Int) (by omega)
  have g1 : (v : Int) ≤ 10000 := by omega
  have g1' : decide ((v : Int) ≤ 10000) = true := decide_eq_true g1
  have x1 := h.c1
  go_enter Try.func168, Try.ntmps168
  go_wp2_with fail
  refine (index_ok w X S D c bs k h v n hv (by omega)).mono ?_
  rintro e w5 ⟨rfl, hs, ht⟩
  go_wp2_with fail
  refine (aunless_ok _ _ _).mono ?_
  rintro e w6 ⟨rfl, hw6⟩
  obtain rfl : w6 = w5 := hw6
  go_wp2_with fail
  go_ret
  exact ⟨rfl, hs, ht⟩
end Go.Proofs.Ytfemeendkjcffaa
