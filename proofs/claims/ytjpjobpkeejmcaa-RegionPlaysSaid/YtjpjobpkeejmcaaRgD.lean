/-
  region: End, New, From, Size, Used; what a room is.
-/
import Derived.Test.YtjpjobpkeejmcaaRgC
import Derived.Test.YtjpjobpkeejmcaaOpn
set_option linter.unusedVariables false
set_option linter.unusedSimpArgs false
namespace Go.Proofs.Ytjpjobpkeejmcaa
open Go.RowKit

/-- The cells of element k of a row of structs. -/
theorem reads_row {α : Type} (c : α → List Value) (m : Nat) (hm : 0 < m) (hc : ∀ a, (c a).length = m) {w : World} {S : Nat → Prop} {A : Option Addr} {l : List α} {n : Nat} (hv : Reads w S m A n (l.flatMap c)) {k : Nat} (hk : k < l.length) :
    ∃ b off, A = some ⟨b, off, none⟩ ∧ S b ∧ b < w.heap.size ∧ ∀ j u, (c l[k])[j]? = some u → w.cell? ⟨b, off + k * m + j, none⟩ = some u := by
  have hn : 0 < n := by
    refine Nat.pos_of_ne_zero fun h => ?_
    have h1 := hv.1
    rw [flat_length c m hc, h, Nat.zero_mul] at h1
    have h2 : 0 < l.length * m := Nat.mul_pos (by omega) hm
    omega
  obtain ⟨ad, rfl, hS, hlt, hcell⟩ := hv.2 hn
  have h00 := flat_get c m hc l 0 0 (by omega) hm
  rw [Nat.zero_mul] at h00
  have h01 : (c (l[0]'(by omega)))[0]? = some ((c (l[0]'(by omega)))[0]'(by rw [hc]; exact hm)) := List.getElem?_eq_getElem _
  have h0 := hcell 0 _ (h00.trans h01)
  obtain ⟨b, off, spot⟩ := ad
  have hspot : spot = none := by
    have := World.cell?_spot h0
    simpa [Addr.add] using this
  subst hspot
  refine ⟨b, off, rfl, hS, hlt, fun j u hu => ?_⟩
  have hj : j < m := by
    have := (List.getElem?_eq_some_iff.1 hu).1
    rwa [hc] at this
  have h1 := hcell (k * m + j) u (by rw [flat_get c m hc l k j hk hj]; exact hu)
  rw [Addr.add_lit] at h1
  rw [Nat.add_assoc]
  exact h1


/-- A piece, as a record. -/
structure Pc where
  at_ : Nat
  len : Nat
  ow : Int
instance : Inhabited Pc := ⟨⟨0, 0, 0⟩⟩
def Pc.cells (p : Pc) : List Value := [.int .i64 (p.at_ : Int), .int .i64 (p.len : Int), .int .i64 p.ow]
theorem Pc.three (p : Pc) : p.cells.length = 3 := rfl
def pcs (l : List Pc) : List Value := l.flatMap Pc.cells
theorem pcs_append (l m : List Pc) : pcs (l ++ m) = pcs l ++ pcs m := by simp [pcs]
theorem pcs_len (l : List Pc) : (pcs l).length = l.length * 3 := flat_length Pc.cells 3 Pc.three l
theorem pcs_one (l : List Pc) : ∀ u ∈ pcs l, u.oneCell' = true := by
  intro u hu
  obtain ⟨f, _, hf⟩ := List.mem_flatMap.1 hu
  simp [Pc.cells] at hf
  rcases hf with rfl | rfl | rfl <;> rfl
theorem pcs_take (l : List Pc) (i : Nat) (h : i ≤ l.length) : pcs (l.take i) = (pcs l).take (i * 3) := by
  have e : pcs l = pcs (l.take i) ++ pcs (l.drop i) := by rw [← pcs_append, List.take_append_drop]
  have e2 : (pcs (l.take i)).length = i * 3 := by rw [pcs_len, List.length_take]; omega
  rw [e, ← e2, List.take_left]
theorem pcs_drop (l : List Pc) (i : Nat) (h : i ≤ l.length) : pcs (l.drop i) = (pcs l).drop (i * 3) := by
  have e : pcs l = pcs (l.take i) ++ pcs (l.drop i) := by rw [← pcs_append, List.take_append_drop]
  rw [e, show i * 3 = (pcs (l.take i)).length by rw [pcs_len, List.length_take]; omega, List.drop_left]

/-- A room: its block, and its row of pieces. -/
structure Rm (w : World) (X : Nat) (A : Option Addr) (c fm sz B : Nat) (ps : List Pc) : Prop where
  blk : Blk w X 59 #[.int .i64 (fm : Int), .int .i64 (sz : Int), .slice A ps.length c]
  own : w.ownsRow B 47 3 (.slice A ps.length c) ps.length (pcs ps)
section
variable {w w' : World} {X : Nat} {A : Option Addr} {c fm sz B : Nat} {ps : List Pc} {F : Nat → Prop}
theorem Rm.step (h : Rm w X A c fm sz B ps) (hs : Step F w w') (hX : ¬ F X) (hA : ∀ k, blkOf A = some k → ¬ F k) : Rm w' X A c fm sz B ps :=
  ⟨h.blk.step hs hX, own_step h.own hs (fun k hk => hA k (by rwa [ownBlock_slice] at hk))⟩
theorem Rm.quiet (h : Rm w X A c fm sz B ps) (hs : Step (fun _ => False) w w') : Rm w' X A c fm sz B ps := h.step hs id (fun _ _ => id)
theorem Rm.c0 (h : Rm w X A c fm sz B ps) : w.cell? ⟨X, 0, none⟩ = some (.int .i64 (fm : Int)) := by have := h.blk.cell 0; simpa using this
theorem Rm.c1 (h : Rm w X A c fm sz B ps) : w.cell? ⟨X, 1, none⟩ = some (.int .i64 (sz : Int)) := by have := h.blk.cell 1; simpa using this
theorem Rm.c2 (h : Rm w X A c fm sz B ps) : w.cell? ⟨X, 2, none⟩ = some (.slice A ps.length c) := by have := h.blk.cell 2; simpa using this
theorem Rm.lt (h : Rm w X A c fm sz B ps) : X < w.heap.size := h.blk.lt
theorem Rm.apart (h : Rm w X A c fm sz B ps) : blkOf A ≠ some X := by rw [← ownBlock_slice A ps.length c]; exact own_tag h.own h.blk (by decide)
theorem Rm.rd (h : Rm w X A c fm sz B ps) : Reads w (fun k => blkOf A = some k) 3 A ps.length (pcs ps) := (Reads.of_own h.own).mono fun k _ hk => by rwa [ownBlock_slice] at hk
theorem Rm.lt2 (h : Rm w X A c fm sz B ps) : ∀ k, blkOf A = some k → k < w.heap.size := fun k hk => own_lt h.own k (by rwa [ownBlock_slice])
theorem Rm.ge (h : Rm w X A c fm sz B ps) : ∀ k, blkOf A = some k → B ≤ k := fun k hk => own_ge h.own k (by rwa [ownBlock_slice])
end

set_option maxRecDepth 100000 in
set_option maxHeartbeats 1600000 in
theorem pend_walk (w : World) (a l : Nat) (o : Int) (h : a + l ≤ 4611686018427387904) :
    Calls Try.prog 25 #[.agg #[.int .i64 (a : Int), .int .i64 (l : Int), .int .i64 o]] w fun e w' => e = .returned (.int .i64 ((a + l : Nat) : Int)) ∧ Step (fun _ => False) w w' := by
  have hw := IntWalk.i64_in ((a : Int) + (l : Int)) (by omega)
  go_enter Try.func25, Try.ntmps25
  go_wp2_with fail
  go_ret
  exact ⟨by rw [Int.natCast_add]; rfl, Step.refl.alloc _⟩

set_option maxRecDepth 100000 in
set_option maxHeartbeats 1600000 in
theorem rnew_ok (w : World) (B fm sz : Nat) (h1 : fm ≤ sz) (h2 : sz ≤ 1073741824) (hB : B ≤ w.heap.size) :
    Calls Try.prog 7 #[.int .i64 (fm : Int), .int .i64 (sz : Int)] w fun e w' => ∃ X, e = .returned (.tuple #[.pointer (some ⟨X, 0, none⟩), .int .i64 0]) ∧ Rm w' X none 0 fm sz B [] ∧ Step (fun _ => False) w w' ∧ w.heap.size ≤ X := by
  have g1 : ¬ (fm : Int) < 0 := by omega
  have g2 : ¬ (sz : Int) < (fm : Int) := by omega
  have g3 : ¬ (1073741824 : Int) < (sz : Int) := by omega
  have g1' : decide ((fm : Int) < 0) = false := decide_eq_false g1
  have g2' : decide ((sz : Int) < (fm : Int)) = false := decide_eq_false g2
  have g3' : decide ((1073741824 : Int) < (sz : Int)) = false := decide_eq_false g3
  go_enter Try.func7, Try.ntmps7
  go_wp2_with fail
  go_ret2
  exact ⟨w.heap.size, rfl, ⟨Blk.new w _ _, World.ownsRow_nil _ _ _ _⟩, Step.refl.alloc _, Nat.le_refl _⟩
set_option maxRecDepth 100000 in
set_option maxHeartbeats 1600000 in
theorem rnew_err (w : World) (fm sz : Int) (h : fm < 0 ∨ sz < fm ∨ 1073741824 < sz) :
    Calls Try.prog 7 #[.int .i64 fm, .int .i64 sz] w fun e w' => e = .returned (.tuple #[.pointer none, .int .i64 1]) ∧ w' = w := by
  by_cases g1 : fm < 0
  · have g1' : decide (fm < 0) = true := decide_eq_true g1
    go_enter Try.func7, Try.ntmps7
    go_wp2_with fail
    go_ret2
    exact ⟨rfl, rfl⟩
  · have g1' : decide (fm < 0) = false := decide_eq_false g1
    by_cases g2 : sz < fm
    · have g2' : decide (sz < fm) = true := decide_eq_true g2
      go_enter Try.func7, Try.ntmps7
      go_wp2_with fail
      go_ret2
      exact ⟨rfl, rfl⟩
    · have g2' : decide (sz < fm) = false := decide_eq_false g2
      have g3 : 1073741824 < sz := by omega
      have g3' : decide (1073741824 < sz) = true := decide_eq_true g3
      go_enter Try.func7, Try.ntmps7
      go_wp2_with fail
      go_ret2
      exact ⟨rfl, rfl⟩

set_option maxRecDepth 100000 in
set_option maxHeartbeats 1600000 in
theorem rfrom_walk (w : World) (X : Nat) (A : Option Addr) (c fm sz B : Nat) (ps : List Pc) (h : Rm w X A c fm sz B ps) :
    Calls Try.prog 17 #[.pointer (some ⟨X, 0, none⟩)] w fun e w' => e = .returned (.int .i64 (fm : Int)) ∧ w' = w := by
  have x0 := h.c0
  clear h
  go_enter Try.func17, Try.ntmps17
  go_wp2_with fail
  go_ret
  exact ⟨rfl, rfl⟩
set_option maxRecDepth 100000 in
set_option maxHeartbeats 1600000 in
theorem rsize_walk (w : World) (X : Nat) (A : Option Addr) (c fm sz B : Nat) (ps : List Pc) (h : Rm w X A c fm sz B ps) :
    Calls Try.prog 18 #[.pointer (some ⟨X, 0, none⟩)] w fun e w' => e = .returned (.int .i64 (sz : Int)) ∧ w' = w := by
  have x0 := h.c1
  clear h
  go_enter Try.func18, Try.ntmps18
  go_wp2_with fail
  go_ret
  exact ⟨rfl, rfl⟩

/-- The sum of what is taken. -/
def sumP : List Pc → Nat
  | [] => 0
  | p :: l => p.len + sumP l
theorem sumP_append (l m : List Pc) : sumP (l ++ m) = sumP l + sumP m := by
  induction l with
  | nil => simp [sumP]
  | cons p l ih => simp [sumP, ih]; omega
theorem sumP_take (l : List Pc) (j : Nat) (h : j < l.length) : sumP (l.take (j + 1)) = sumP (l.take j) + l[j].len := by
  rw [List.take_succ_eq_append_getElem h, sumP_append]
  rfl
theorem sumP_le (l : List Pc) (m : Nat) (h : ∀ p ∈ l, p.len ≤ m) : sumP l ≤ l.length * m := by
  induction l with
  | nil => simp [sumP]
  | cons p l ih =>
    have h1 := h p (by simp)
    have h2 := ih (fun q hq => h q (by simp [hq]))
    rw [sumP, List.length_cons, Nat.add_mul]
    omega

set_option maxRecDepth 100000 in
set_option maxHeartbeats 3200000 in
theorem used_walk (w : World) (X : Nat) (A : Option Addr) (c fm sz B : Nat) (ps : List Pc) (h : Rm w X A c fm sz B ps) (hl : ∀ p ∈ ps, p.len ≤ 1073741824) (hn : ps.length ≤ 1000000) :
    Calls Try.prog 10 #[.pointer (some ⟨X, 0, none⟩)] w fun e w' => e = .returned (.int .i64 (sumP ps : Int)) ∧ Step (fun _ => False) w w' := by
  have x2 := h.c2
  have HR := Lib.hid h.rd
  have HL := Lib.hid hl
  have HS : Hid (∀ j, sumP (ps.take j) ≤ 1073741824000000) := fun j => by
    have h1 := sumP_le (ps.take j) 1073741824 (fun p hp => hl p (List.mem_of_mem_take hp))
    have h2 : (ps.take j).length ≤ 1000000 := by rw [List.length_take]; omega
    omega
  clear h hl
  obtain ⟨n, hnn⟩ : ∃ n, n = ps.length := ⟨_, rfl⟩
  rw [← hnn] at x2 hn HR
  have HN := Lib.hid hnn
  clear hnn
  go_enter Try.func10, Try.ntmps10
  go_wp2_with fail
  go_loopw [3, 11] (fun sv iv wr => ∃ (j : Nat), j ≤ n ∧ sv = .int .i64 ((sumP (ps.take j) : Nat) : Int) ∧ iv = .int .i64 (j : Int) ∧ Hid (Step (fun _ => False) w wr)) (fun _ iv _ => n + 1 - (intOf iv).toNat)
  case atStart => exact ⟨0, by omega, rfl, rfl, Step.refl⟩
  case round =>
    obtain ⟨j, hj, rfl, rfl, HSj⟩ := hrel
    by_cases hlt : j < n
    · have g1 : (j : Int) < (n : Int) := by omega
      have i0 : (0 : Int) ≤ (j : Int) := by omega
      have hw1 := IntWalk.i64_in ((j : Int) + 1) (by omega)
      have hjl : j < ps.length := by rw [← HN.out]; exact hlt
      obtain ⟨bk, off, rfl, _, hbl, hc⟩ := reads_row Pc.cells 3 (by decide) Pc.three (HR.out.step HSj.out (fun _ _ => id)) (k := j) hjl
      have HP := Lib.hid (sumP_take ps j hjl)
      have hs := HS.out j
      have hs2 := HS.out (j + 1)
      rw [HP.out] at hs2
      generalize ps[j] = p at hc HP hs2
      obtain ⟨a, l, o⟩ := p
      have c0 := hc 0 _ rfl
      have c1 := hc 1 _ rfl
      have c2 := hc 2 _ rfl
      simp only [Nat.add_zero] at c0 c1 c2 hs2
      have hw2 := IntWalk.i64_in (((sumP (ps.take j) : Nat) : Int) + (l : Int)) (by omega)
      clear hc hs hs2
      go_wp2_with fail
      go_roundw
      case rel => exact ⟨j + 1, by omega, by rw [HP.out, Int.natCast_add], by rw [Int.natCast_add]; rfl, HSj.out.alloc _⟩
      case measure => simp [intOf]; omega
    · obtain rfl : j = n := by omega
      have hLt : ps.take j = ps := by rw [HN.out]; exact List.take_length
      rw [hLt]
      go_wp2_with fail
      go_ret
      exact ⟨rfl, HSj.out⟩
end Go.Proofs.Ytjpjobpkeejmcaa
