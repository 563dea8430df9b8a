/-
  creelref05: the reference's scanner: Fail, Byte, Num, Index, Count, ValType.
-/
import Derived.Test.YtfemeendkjcffaaReG
import Derived.Test.YtfemeendkjcffaaSc
import Derived.Test.YtfemeendkjcffaaInA
set_option linter.unusedVariables false
set_option linter.unusedSimpArgs false
namespace Go.Proofs.Ytfemeendkjcffaa
open Go.RowKit

/-- The state of the reference's scanner: the place, why, where. -/
structure Rst where
  k : Nat
  y : Nat
  a : Nat
structure Rf (w : World) (X : Nat) (S : Nat → Prop) (D : Option Addr) (c : Nat) (bs : List UInt8) (s : Rst) : Prop where
  blk : Blk w X 83 #[.slice D bs.length c, .int .i64 (s.k : Int), .int .i64 (s.y : Int), .int .i64 (s.a : Int)]
  rd : Reads w S 1 D bs.length (u8s bs)
  out : ¬ S X
  le : s.k ≤ bs.length
  short : bs.length ≤ 1000000
  low : ∀ j, S j → j < w.heap.size

section
variable {w w' : World} {X : Nat} {S : Nat → Prop} {D : Option Addr} {c : Nat} {bs : List UInt8} {s : Rst}
theorem Rf.step {F : Nat → Prop} (h : Rf w X S D c bs s) (hs : Step F w w') (hX : ¬ F X) (hS : ∀ i, S i → ¬ F i) : Rf w' X S D c bs s :=
  ⟨h.blk.step hs hX, h.rd.step hs hS, h.out, h.le, h.short, fun j hj => Nat.lt_of_lt_of_le (h.low j hj) hs.size⟩
theorem Rf.quiet (h : Rf w X S D c bs s) (hs : Step (fun _ => False) w w') : Rf w' X S D c bs s := h.step hs id (fun _ _ => id)
theorem Rf.alloc (h : Rf w X S D c bs s) (o : Obj) : Rf (w.alloc o) X S D c bs s := h.quiet (Step.refl.alloc o)
theorem Rf.c0 (h : Rf w X S D c bs s) : w.cell? ⟨X, 0, none⟩ = some (.slice D bs.length c) := by have := h.blk.cell 0; simpa using this
theorem Rf.c1 (h : Rf w X S D c bs s) : w.cell? ⟨X, 1, none⟩ = some (.int .i64 (s.k : Int)) := by have := h.blk.cell 1; simpa using this
theorem Rf.c2 (h : Rf w X S D c bs s) : w.cell? ⟨X, 2, none⟩ = some (.int .i64 (s.y : Int)) := by have := h.blk.cell 2; simpa using this
theorem Rf.c3 (h : Rf w X S D c bs s) : w.cell? ⟨X, 3, none⟩ = some (.int .i64 (s.a : Int)) := by have := h.blk.cell 3; simpa using this
theorem Rf.lt (h : Rf w X S D c bs s) : X < w.heap.size := h.blk.lt
theorem Rf.nz (h : Rf w X S D c bs s) (i : Nat) : w.frozen? ⟨X, i, none⟩ = false := h.blk.frozen i
theorem Rf.setK (h : Rf w X S D c bs s) {k' : Nat} (hk : k' ≤ bs.length) : Rf (w.setCell ⟨X, 1, none⟩ (.int .i64 (k' : Int))) X S D c bs { s with k := k' } :=
  ⟨by have := h.blk.set_ 1 (.int .i64 (k' : Int)); simpa using this, h.rd.step (Step.refl.setCell (p := ⟨X, 1, none⟩) (F := fun i => i = X) (.inl rfl) _) (fun i hi e => h.out (e ▸ hi)), h.out, hk, h.short,
    fun j hj => Nat.lt_of_lt_of_le (h.low j hj) (Step.refl.setCell (w := w) (p := ⟨X, 1, none⟩) (F := fun i => i = X) (.inl rfl) (.int .i64 (k' : Int))).size⟩
theorem Rf.setF (h : Rf w X S D c bs s) (y a : Nat) : Rf ((w.setCell ⟨X, 2, none⟩ (.int .i64 (y : Int))).setCell ⟨X, 3, none⟩ (.int .i64 (a : Int))) X S D c bs { s with y := y, a := a } :=
  have hT : Step (fun i => i = X) w ((w.setCell ⟨X, 2, none⟩ (.int .i64 (y : Int))).setCell ⟨X, 3, none⟩ (.int .i64 (a : Int))) := (Step.refl.setCell (p := ⟨X, 2, none⟩) (F := fun i => i = X) (.inl rfl) _).setCell (p := ⟨X, 3, none⟩) (.inl rfl) _
  ⟨by have := (h.blk.set_ 2 (.int .i64 (y : Int))).set_ 3 (.int .i64 (a : Int)); simpa using this, h.rd.step hT (fun i hi e => h.out (e ▸ hi)), h.out, h.le, h.short,
    fun j hj => Nat.lt_of_lt_of_le (h.low j hj) hT.size⟩
end

/-- What the reference's reader comes to: a value, and the scanner's state behind. -/
def failS (y a : Nat) (s : Rst) : Rst := if s.y = 0 then { s with y := y, a := a } else s
def rbyF (bs : List UInt8) (s : Rst) : Nat × Rst := if s.y = 0 then (if h : s.k < bs.length then (bs[s.k].toNat, { s with k := s.k + 1 }) else (0, failS 2 s.k s)) else (0, s)
def rnumF (bs : List UInt8) (B m : Nat) (sg : Bool) (s : Rst) : Nat × Rst :=
  if s.y = 0 then (if (rrF B m sg (bs.drop s.k)).2.2 = 0 then ((rrF B m sg (bs.drop s.k)).1, { s with k := s.k + (rrF B m sg (bs.drop s.k)).2.1 }) else (0, failS (rrF B m sg (bs.drop s.k)).2.2 s.k s)) else (0, s)
def ridxF (bs : List UInt8) (s : Rst) : Nat × Rst := rnumF bs 32 5 false s
def rcntS (bs : List UInt8) (s : Rst) : Rst := if 10000 < (ridxF bs s).1 then failS 29 s.k (ridxF bs s).2 else (ridxF bs s).2
def rcntF (bs : List UInt8) (s : Rst) : Nat × Rst := (if (rcntS bs s).y = 0 then (ridxF bs s).1 else 0, rcntS bs s)
def rvtyF (bs : List UInt8) (s : Rst) : Nat × Rst := ((rbyF bs s).1, if (rbyF bs s).2.y = 0 ∧ ¬ valF (rbyF bs s).1 = 0 then failS (valF (rbyF bs s).1) s.k (rbyF bs s).2 else (rbyF bs s).2)

theorem rbyF_lt (bs : List UInt8) (s : Rst) : (rbyF bs s).1 < 256 := by
  rw [rbyF]
  split
  · split
    · exact UInt8.toNat_lt _
    · exact Nat.zero_lt_succ _
  · exact Nat.zero_lt_succ _
theorem ridxF_lt (bs : List UInt8) (s : Rst) : (ridxF bs s).1 < 4294967296 := by
  rw [ridxF, rnumF]
  split
  · split
    · rename_i h
      rw [rrF_u] at h ⊢
      exact rdU_lt _ h
    · exact Nat.zero_lt_succ _
  · exact Nat.zero_lt_succ _

/-- A call of the reference's scanner. -/
def Rg (X : Nat) (S : Nat → Prop) (D : Option Addr) (c : Nat) (bs : List UInt8) (w : World) (v : Value) (s : Rst) (e : Ending) (w' : World) : Prop :=
  e = .returned v ∧ Rf w' X S D c bs s ∧ Step (fun i => i = X) w w'

set_option maxRecDepth 100000 in
set_option maxHeartbeats 1600000 in
theorem rfail_walk (w : World) (X : Nat) (S : Nat → Prop) (D : Option Addr) (c : Nat) (bs : List UInt8) (s : Rst) (h : Rf w X S D c bs s) (y a : Nat) :
    Calls Try.prog 146 #[.pointer (some ⟨X, 0, none⟩), .int .i64 (y : Int), .int .i64 (a : Int)] w (Rg X S D c bs w (.tuple #[]) (failS y a s)) := by
  have HS := Lib.hid h
  have x2 := h.c2
  have x3 := h.c3
  have z2 := h.nz 2
  have z3 := h.nz 3
  have hlt := h.lt
  clear h
  obtain ⟨k, y0, a0⟩ := s
  simp only at x2 x3
  by_cases hy : y0 = 0
  · subst hy
    have HR := Lib.hid (HS.out.setF y a)
    have HT : Hid (Step (fun i => i = X) w ((w.setCell ⟨X, 2, none⟩ (.int .i64 (y : Int))).setCell ⟨X, 3, none⟩ (.int .i64 (a : Int)))) := (Step.refl.setCell (p := ⟨X, 2, none⟩) (F := fun i => i = X) (.inl rfl) _).setCell (p := ⟨X, 3, none⟩) (.inl rfl) _
    go_enter Try.func146, Try.ntmps146
    go_wp2_with fail
    go_end0
    exact ⟨rfl, HR.out, HT.out⟩
  · have hy' : ((y0 : Int) == 0) = false := by simp; omega
    have e1 : failS y a ⟨k, y0, a0⟩ = ⟨k, y0, a0⟩ := by rw [failS, if_neg hy]
    rw [e1]
    clear hy e1
    go_enter Try.func146, Try.ntmps146
    go_wp2_with fail
    go_end0
    exact ⟨rfl, HS.out, Step.refl⟩

set_option maxRecDepth 100000 in
set_option maxHeartbeats 1600000 in
theorem rbyte_walk (w : World) (X : Nat) (S : Nat → Prop) (D : Option Addr) (c : Nat) (bs : List UInt8) (s : Rst) (h : Rf w X S D c bs s) :
    Calls Try.prog 147 #[.pointer (some ⟨X, 0, none⟩)] w (Rg X S D c bs w (.int .i64 ((rbyF bs s).1 : Int)) (rbyF bs s).2) := by
  have HS := Lib.hid h
  have x0 := h.c0
  have x1 := h.c1
  have x2 := h.c2
  have hle := h.le
  have hsh := h.short
  clear h
  obtain ⟨k, y0, a0⟩ := s
  simp only at x1 x2 hle
  by_cases hy : y0 = 0
  · subst hy
    by_cases hk : k < bs.length
    · have e1 : rbyF bs ⟨k, 0, a0⟩ = (bs[k].toNat, ⟨k + 1, 0, a0⟩) := by rw [rbyF, if_pos rfl, dif_pos hk]
      rw [e1]
      clear e1
      have g1 : ¬ (bs.length : Int) ≤ (k : Int) := by omega
      have g1' : decide ((bs.length : Int) ≤ (k : Int)) = false := decide_eq_false g1
      have hw := IntWalk.i64_in ((k : Int) + 1) (by omega)
      go_enter Try.func147, Try.ntmps147
      go_wp2_with fail
      go_quiet (fail)
      have HS1 := Lib.hid (HS.out.quiet (Step.refl.drewN nq))
      have hT1 : Step (fun i => i = X) w (w.drewN nq) := Step.refl.drewN nq
      obtain ⟨W, hW⟩ : ∃ W, W = w.drewN nq := ⟨_, rfl⟩
      rw [← hW] at HS1 hT1 ⊢
      have HT1 := Lib.hid hT1
      clear hT1 hW HS x0 x1 x2
      have x1 := HS1.out.c1
      have z1 := HS1.out.nz 1
      simp only at x1
      have HS2 := Lib.hid (HS1.out.setK (k' := k + 1) (by omega))
      have HT2 := Lib.hid (HT1.out.setCell (p := ⟨X, 1, none⟩) (.inl rfl) (.int .i64 ((k + 1 : Nat) : Int)))
      have y0 := HS2.out.c0
      have y1 := HS2.out.c1
      simp only at y1
      rw [show (((k + 1 : Nat) : Int)) = (k : Int) + 1 by omega] at HS2 HT2 y0 y1
      obtain ⟨ad, u, hD, _, hbl, hu, hc⟩ := HS2.out.rd.at_ hk
      rw [u8s_get bs k hk] at hu
      injection hu with hu
      subst hu
      subst hD
      have hw2 : IntKind.i64.wrap ((k : Int) + 1 - 1) = (k : Int) := by rw [IntKind.wrap_i64]; omega
      have g2 : (k : Int) < (bs.length : Int) := by omega
      have hb := UInt8.toNat_lt bs[k]
      have hw3 := IntWalk.i64_in (bs[k].toNat : Int) (by omega)
      go_wp2_with fail
      go_quiet (fail)
      go_wp2_with fail
      go_ret
      exact ⟨rfl, HS2.out.quiet (Step.refl.drewN _), HT2.out.drewN _⟩
    · have e1 : rbyF bs ⟨k, 0, a0⟩ = (0, failS 2 k ⟨k, 0, a0⟩) := by rw [rbyF, if_pos rfl, dif_neg hk]
      rw [e1]
      clear e1
      have g1 : (bs.length : Int) ≤ (k : Int) := by omega
      have g1' : decide ((bs.length : Int) ≤ (k : Int)) = true := decide_eq_true g1
      go_enter Try.func147, Try.ntmps147
      go_wp2_with fail
      go_quiet (fail)
      have HS1 := Lib.hid (HS.out.quiet (Step.refl.drewN nq))
      have hT1 : Step (fun i => i = X) w (w.drewN nq) := Step.refl.drewN nq
      obtain ⟨W, hW⟩ : ∃ W, W = w.drewN nq := ⟨_, rfl⟩
      rw [← hW] at HS1 hT1 ⊢
      have HT1 := Lib.hid hT1
      clear hT1 hW HS x0 x1 x2
      have x1 := HS1.out.c1
      simp only at x1
      go_wp2_with fail
      refine (rfail_walk _ X S D c bs _ HS1.out 2 k).mono ?_
      rintro e w5 ⟨rfl, hS5, hT5⟩
      go_wp2_with fail
      go_ret
      exact ⟨rfl, hS5, HT1.out.trans hT5⟩
  · have hy' : ((y0 : Int) == 0) = false := by simp; omega
    have e1 : rbyF bs ⟨k, y0, a0⟩ = (0, ⟨k, y0, a0⟩) := by rw [rbyF, if_neg hy]
    rw [e1]
    clear hy e1
    go_enter Try.func147, Try.ntmps147
    go_wp2_with fail
    go_ret
    exact ⟨rfl, HS.out, Step.refl⟩

theorem rr_le (t : List UInt8) (B m : Nat) (sg : Bool) : (rrF B m sg t).2.2 = 0 → (rrF B m sg t).2.1 ≤ t.length := by
  rw [rrF]
  split
  · rename_i h
    obtain ⟨l1, l2, l3⟩ := grpN_le m t 0 h
    rw [Nat.zero_add] at l3
    intro _
    dsimp only
    split
    · exact l3
    · exact Nat.zero_le _
  · intro h
    first | (exact absurd h (by assumption)) | exact Nat.zero_le _

set_option maxRecDepth 100000 in
set_option maxHeartbeats 1600000 in
theorem rnum_walk (w : World) (X : Nat) (S : Nat → Prop) (D : Option Addr) (c : Nat) (bs : List UInt8) (s : Rst) (h : Rf w X S D c bs s) (B m : Nat) (sg : Bool) (hB : Wide B m) :
    Calls Try.prog 194 #[.pointer (some ⟨X, 0, none⟩), .int .i64 (B : Int), .bool sg] w (Rg X S D c bs w (.int .u64 ((rnumF bs B m sg s).1 : Int)) (rnumF bs B m sg s).2) := by
  have HS := Lib.hid h
  have x0 := h.c0
  have x1 := h.c1
  have x2 := h.c2
  have hle := h.le
  have hsh := h.short
  clear h
  obtain ⟨k, y0, a0⟩ := s
  simp only at x1 x2 hle
  by_cases hy : y0 = 0
  · subst hy
    have HRd : Hid (∀ w', Step (fun _ => False) w w' → Calls Try.prog 204 #[.slice D bs.length c, .int .i64 (k : Int), .int .i64 (B : Int), .bool sg] w' fun e w'' => e = .returned (rrQ k (rrF B m sg (bs.drop k))) ∧ Step (fun _ => False) w' w'') := fun w' h' => rread_walk w' D c k bs S (HS.out.quiet h').rd hle hsh B m sg hB
    have hrl := rr_le (bs.drop k) B m sg
    rw [List.length_drop] at hrl
    rw [rnumF, if_pos rfl]
    simp only
    generalize rrF B m sg (bs.drop k) = r at HRd hrl ⊢
    obtain ⟨v, n, e⟩ := r
    simp only at hrl ⊢
    by_cases he : e = 0
    · subst he
      rw [if_pos rfl]
      have hn := hrl rfl
      rw [show rrQ k (v, n, 0) = .tuple #[.int .u64 (v : Int), .int .i64 ((k + n : Nat) : Int), .int .i64 0] by rw [Int.natCast_add]; rfl] at HRd
      clear hrl
      have d0 := cls_cell (F := fun _ => False) (w0 := w) x0 id
      have d1 := cls_cell (F := fun _ => False) (w0 := w) x1 id
      clear x0 x1
      go_enter Try.func194, Try.ntmps194
      go_wp2_with fail
      refine Mix.wp_region_mix [10] [10] (Step (fun _ => False) w) (by kernel_rfl) (by kernel_rfl) Step.refl.drew (fun hcls => ?_)
      refine Mix.wpL_reads 10 (by rfl) ?_
      simp only [List.take_succ_cons, List.drop_succ_cons, List.take_zero, List.drop_zero]
      repeat (go_big_quiet_step (fail))
      refine wpQuiet_nil ?_
      refine Mix.wpL_op (by rfl) (fun K hK => ?_)
      go_simp
      refine (HRd.out _ Step.refl.drew).mono ?_
      rintro e wd ⟨rfl, hSd⟩
      have HSd := Lib.hid (Step.refl.drew.trans hSd)
      refine hK _ _ (fun hlt => Mix.cl HSd.out) ?_
      clear hK K hSd
      refine Mix.wpL_reads 7 (by rfl) ?_
      simp only [List.take_succ_cons, List.drop_succ_cons, List.take_zero, List.drop_zero]
      repeat (go_big_quiet_step (fail))
      refine wpQuiet_nil ?_
      refine Mix.wpL_end ?_
      have HS1 := Lib.hid (HS.out.quiet HSd.out)
      have x1 := HS1.out.c1
      have z1 := HS1.out.nz 1
      simp only at x1
      have HS2 := Lib.hid (HS1.out.setK (k' := k + n) (by omega))
      have HT1 : Step (fun i => i = X) w wd := HSd.out.mono fun _ _ hf => hf.elim
      have HT2 : Hid (Step (fun i => i = X) w (wd.setCell ⟨X, 1, none⟩ (.int .i64 ((k + n : Nat) : Int)))) := HT1.setCell (p := ⟨X, 1, none⟩) (.inl rfl) _
      clear HT1
      go_wp2_with fail
      go_ret
      exact ⟨rfl, HS2.out, HT2.out⟩
    · rw [if_neg he]
      have HRd2 : Hid (∀ w', Step (fun _ => False) w w' → Calls Try.prog 204 #[.slice D bs.length c, .int .i64 (k : Int), .int .i64 (B : Int), .bool sg] w' fun e1 w'' => e1 = .returned (.tuple #[.int .u64 0, .int .i64 0, .int .i64 (e : Int)]) ∧ Step (fun _ => False) w' w'') := fun w' h' => by
        have h1 := HRd.out w' h'
        rw [rrQ, if_neg he] at h1
        exact h1
      clear HRd
      have HRd := HRd2
      have he' : ((e : Int) == 0) = false := by simp; omega
      clear hrl HRd2 he
      have d0 := cls_cell (F := fun _ => False) (w0 := w) x0 id
      have d1 := cls_cell (F := fun _ => False) (w0 := w) x1 id
      clear x0 x1
      go_enter Try.func194, Try.ntmps194
      go_wp2_with fail
      refine Mix.wp_region_mix [10] [10] (Step (fun _ => False) w) (by kernel_rfl) (by kernel_rfl) Step.refl.drew (fun hcls => ?_)
      refine Mix.wpL_reads 10 (by rfl) ?_
      simp only [List.take_succ_cons, List.drop_succ_cons, List.take_zero, List.drop_zero]
      repeat (go_big_quiet_step (fail))
      refine wpQuiet_nil ?_
      refine Mix.wpL_op (by rfl) (fun K hK => ?_)
      go_simp
      refine (HRd.out _ Step.refl.drew).mono ?_
      rintro e wd ⟨rfl, hSd⟩
      have HSd := Lib.hid (Step.refl.drew.trans hSd)
      refine hK _ _ (fun hlt => Mix.cl HSd.out) ?_
      clear hK K hSd
      refine Mix.wpL_reads 7 (by rfl) ?_
      simp only [List.take_succ_cons, List.drop_succ_cons, List.take_zero, List.drop_zero]
      repeat (go_big_quiet_step (fail))
      refine wpQuiet_nil ?_
      refine Mix.wpL_end ?_
      have HS1 := Lib.hid (HS.out.quiet HSd.out)
      have x1 := HS1.out.c1
      have z1 := HS1.out.nz 1
      simp only at x1
      have HT1 : Hid (Step (fun i => i = X) w wd) := HSd.out.mono fun _ _ hf => hf.elim
      go_wp2_with fail
      refine (rfail_walk _ X S D c bs _ HS1.out e k).mono ?_
      rintro e w5 ⟨rfl, hS5, hT5⟩
      go_wp2_with fail
      go_ret
      exact ⟨rfl, hS5, HT1.out.trans hT5⟩
  · have hy' : ((y0 : Int) == 0) = false := by simp; omega
    have e1 : rnumF bs B m sg ⟨k, y0, a0⟩ = (0, ⟨k, y0, a0⟩) := by rw [rnumF, if_neg hy]
    rw [e1]
    clear hy e1
    go_enter Try.func194, Try.ntmps194
    go_wp2_with fail
    go_ret
    exact ⟨rfl, HS.out, Step.refl⟩

theorem rindex_walk (w : World) (X : Nat) (S : Nat → Prop) (D : Option Addr) (c : Nat) (bs : List UInt8) (s : Rst) (h : Rf w X S D c bs s) :
    Calls Try.prog 192 #[.pointer (some ⟨X, 0, none⟩)] w (Rg X S D c bs w (.int .u32 ((ridxF bs s).1 : Int)) (ridxF bs s).2) := by
  have HN := Lib.hid (rnum_walk w X S D c bs s h 32 5 false (.inl ⟨rfl, rfl⟩))
  rw [show rnumF bs 32 5 false s = ridxF bs s from rfl] at HN
  have hlt := ridxF_lt bs s
  have hw : IntKind.u32.wrap ((ridxF bs s).1 : Int) = ((ridxF bs s).1 : Int) := by rw [IntKind.wrap_u32]; omega
  clear h
  generalize ridxF bs s = r at HN hw hlt ⊢
  obtain ⟨v, s1⟩ := r
  simp only at HN hw hlt ⊢
  clear hlt
  go_enter Try.func192, Try.ntmps192
  go_wp2_with fail
  refine HN.out.mono ?_
  rintro e w5 ⟨rfl, hS5, hT5⟩
  go_wp2_with fail
  go_ret
  exact ⟨rfl, hS5, hT5⟩

set_option maxRecDepth 100000 in
set_option maxHeartbeats 1600000 in
theorem rcount_walk (w : World) (X : Nat) (S : Nat → Prop) (D : Option Addr) (c : Nat) (bs : List UInt8) (s : Rst) (h : Rf w X S D c bs s) :
    Calls Try.prog 170 #[.pointer (some ⟨X, 0, none⟩)] w (Rg X S D c bs w (.int .i64 ((rcntF bs s).1 : Int)) (rcntF bs s).2) := by
  have HN := Lib.hid (rindex_walk w X S D c bs s h)
  have x1 := h.c1
  have hlt := ridxF_lt bs s
  have hw : IntKind.i64.wrap ((ridxF bs s).1 : Int) = ((ridxF bs s).1 : Int) := IntWalk.i64_in _ (by omega)
  rw [rcntF, rcntS]
  clear h
  generalize ridxF bs s = r at HN hw hlt ⊢
  obtain ⟨v, s1⟩ := r
  obtain ⟨k, y0, a0⟩ := s
  simp only at HN hw hlt x1 ⊢
  clear hlt
  by_cases hv : 10000 < v
  · rw [if_pos hv]
    obtain ⟨s2, hs2⟩ : ∃ s2, s2 = failS 29 k s1 := ⟨_, rfl⟩
    have HF : Hid (∀ w', Rf w' X S D c bs s1 → Calls Try.prog 146 #[.pointer (some ⟨X, 0, none⟩), .int .i64 29, .int .i64 (k : Int)] w' (Rg X S D c bs w' (.tuple #[]) s2)) := fun w' h' => by rw [hs2]; exact rfail_walk w' X S D c bs s1 h' 29 k
    rw [← hs2]
    clear hs2
    have hv' : (10000 : Int) < (v : Int) := by omega
    have hv2 : decide ((10000 : Int) < (v : Int)) = true := decide_eq_true hv'
    obtain ⟨k2, y2, a2⟩ := s2
    simp only
    by_cases hy : y2 = 0
    · subst hy
      rw [if_pos rfl]
      go_enter Try.func170, Try.ntmps170
      go_wp2_with fail
      refine HN.out.mono ?_
      rintro e w5 ⟨rfl, hS5, hT5⟩
      go_wp2_with fail
      refine (HF.out _ hS5).mono ?_
      rintro e w6 ⟨rfl, hS6, hT6⟩
      have x2 := hS6.c2
      simp only at x2
      go_wp2_with fail
      go_ret
      exact ⟨rfl, hS6, hT5.trans hT6⟩
    · rw [if_neg hy]
      have hy' : ((y2 : Int) == 0) = false := by simp; omega
      clear hy
      go_enter Try.func170, Try.ntmps170
      go_wp2_with fail
      refine HN.out.mono ?_
      rintro e w5 ⟨rfl, hS5, hT5⟩
      go_wp2_with fail
      refine (HF.out _ hS5).mono ?_
      rintro e w6 ⟨rfl, hS6, hT6⟩
      have x2 := hS6.c2
      simp only at x2
      go_wp2_with fail
      go_ret
      exact ⟨rfl, hS6, hT5.trans hT6⟩
  · rw [if_neg hv]
    have hv' : ¬ (10000 : Int) < (v : Int) := by omega
    have hv2 : decide ((10000 : Int) < (v : Int)) = false := decide_eq_false hv'
    obtain ⟨k2, y2, a2⟩ := s1
    simp only
    by_cases hy : y2 = 0
    · subst hy
      rw [if_pos rfl]
      go_enter Try.func170, Try.ntmps170
      go_wp2_with fail
      refine HN.out.mono ?_
      rintro e w5 ⟨rfl, hS5, hT5⟩
      have x2 := hS5.c2
      simp only at x2
      go_wp2_with fail
      go_ret
      exact ⟨rfl, hS5, hT5⟩
    · rw [if_neg hy]
      have hy' : ((y2 : Int) == 0) = false := by simp; omega
      clear hy
      go_enter Try.func170, Try.ntmps170
      go_wp2_with fail
      refine HN.out.mono ?_
      rintro e w5 ⟨rfl, hS5, hT5⟩
      have x2 := hS5.c2
      simp only at x2
      go_wp2_with fail
      go_ret
      exact ⟨rfl, hS5, hT5⟩
end Go.Proofs.Ytfemeendkjcffaa
