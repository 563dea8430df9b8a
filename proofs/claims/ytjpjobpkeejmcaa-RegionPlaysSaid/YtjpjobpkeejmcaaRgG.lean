/-
  region: Take.
-/
import Derived.Test.YtjpjobpkeejmcaaRgF
set_option linter.unusedVariables false
set_option linter.unusedSimpArgs false
namespace Go.Proofs.Ytjpjobpkeejmcaa
open Go.RowKit

/-- How many begin ahead of a place. -/
def posP (a : Nat) : List Pc → Nat
  | [] => 0
  | p :: l => if p.at_ < a then posP a l + 1 else 0
theorem posP_le (a : Nat) : ∀ l : List Pc, posP a l ≤ l.length
  | [] => Nat.le_refl _
  | p :: l => by
    rw [posP]
    split
    · have := posP_le a l
      simp; omega
    · exact Nat.zero_le _
theorem posP_lt (a : Nat) : ∀ (l : List Pc) (j : Nat) (h : j < l.length), j < posP a l → l[j].at_ < a
  | p :: l, 0, _, h => by
    rw [posP] at h
    split at h
    · assumption
    · omega
  | p :: l, j + 1, hj, h => by
    rw [posP] at h
    split at h
    · exact posP_lt a l j (by simpa using hj) (by omega)
    · omega
theorem posP_at (a : Nat) : ∀ (l : List Pc) (h : posP a l < l.length), ¬ l[posP a l].at_ < a
  | p :: l, h => by
    by_cases hp : p.at_ < a
    · have e : posP a (p :: l) = posP a l + 1 := by rw [posP, if_pos hp]
      have h2 : posP a l < l.length := by rw [e] at h; simpa using h
      have := posP_at a l h2
      have e2 : (p :: l)[posP a (p :: l)] = l[posP a l] := by
        simp only [e, List.getElem_cons_succ]
      rw [e2]
      exact this
    · have e : posP a (p :: l) = 0 := by rw [posP, if_neg hp]
      have e2 : (p :: l)[posP a (p :: l)] = p := by simp only [e, List.getElem_cons_zero]
      rw [e2]
      exact hp
/-- One more, by its place. -/
def addP (p : Pc) (l : List Pc) : List Pc := l.take (posP p.at_ l) ++ p :: l.drop (posP p.at_ l)
/-- What Take tells, and what is there behind it. -/
def takeF (fm sz n al : Nat) (ow : Int) (ps : List Pc) : (Nat × Nat) × List Pc :=
  if (findF fm sz n al ps).2 = true then (((findF fm sz n al ps).1, 0), if n = 0 then ps else addP ⟨(findF fm sz n al ps).1, n, ow⟩ ps) else ((0, 44), ps)
/-- The row of a room behind a call: where it was, or new. -/
def Mv (w : World) (A A' : Option Addr) : Prop := ∀ k, blkOf A' = some k → blkOf A = some k ∨ w.heap.size ≤ k

set_option maxRecDepth 100000 in
set_option maxHeartbeats 1600000 in
theorem take_bad (w : World) (X : Nat) (n : Int) (al : Nat) (ow : Int) (h : n < 0 ∨ 20 < al) :
    Calls Try.prog 8 #[.pointer (some ⟨X, 0, none⟩), .int .i64 n, .int .u32 (al : Int), .int .i64 ow] w fun e w' => e = .returned (.tuple #[.int .i64 0, .int .i64 1]) ∧ w' = w := by
  by_cases g1 : n < 0
  · have g1' : decide (n < 0) = true := decide_eq_true g1
    go_enter Try.func8, Try.ntmps8
    go_wp2_with fail
    go_ret2
    exact ⟨rfl, rfl⟩
  · have g1' : decide (n < 0) = false := decide_eq_false g1
    have g2 : (20 : Int) < (al : Int) := by omega
    have g2' : decide ((20 : Int) < (al : Int)) = true := decide_eq_true g2
    go_enter Try.func8, Try.ntmps8
    go_wp2_with fail
    go_ret2
    exact ⟨rfl, rfl⟩

set_option maxRecDepth 100000 in
set_option maxHeartbeats 6400000 in
theorem take_walk (w : World) (X : Nat) (A : Option Addr) (c fm sz B : Nat) (ps : List Pc) (h : Rm w X A c fm sz B ps) (hB : B ≤ w.heap.size) (hfs : fm ≤ sz) (hz : sz ≤ 1073741824) (hps : ∀ p ∈ ps, p.at_ + p.len ≤ sz) (hn : ps.length ≤ 1000) (n al : Nat) (ow : Int) (hnn : n ≤ 9223372036854775807) (ha : al ≤ 20) :
    Calls Try.prog 8 #[.pointer (some ⟨X, 0, none⟩), .int .i64 (n : Int), .int .u32 (al : Int), .int .i64 ow] w fun e w' => e = .returned (.tuple #[.int .i64 ((takeF fm sz n al ow ps).1.1 : Int), .int .i64 ((takeF fm sz n al ow ps).1.2 : Int)]) ∧
      ∃ A' c', Rm w' X A' c' fm sz B (takeF fm sz n al ow ps).2 ∧ Step (fun k => k = X ∨ blkOf A = some k) w w' ∧ Mv w A A' := by
  have HF := Lib.hid (find_walk w X A c fm sz B ps h hfs hz hps (by omega) n al hnn ha)
  have hle := findL_le n al sz ha ps (upN fm al) (by have := upN_le fm al ha; omega) hps
  have hle2 : (findF fm sz n al ps).1 ≤ sz + 1048576 := hle
  have HH := Lib.hid h
  have HR := Lib.hid h.rd
  have hXl := h.lt
  have hAX := h.apart
  have g1 : ¬ (n : Int) < 0 := by omega
  have g1' : decide ((n : Int) < 0) = false := decide_eq_false g1
  have g2 : ¬ (20 : Int) < (al : Int) := by omega
  have g2' : decide ((20 : Int) < (al : Int)) = false := decide_eq_false g2
  rw [takeF]
  clear h hps hle
  generalize findF fm sz n al ps = r at HF hle2 ⊢
  obtain ⟨a, ok⟩ := r
  simp only at HF hle2 ⊢
  cases ok with
  | false =>
    rw [if_neg (by decide)]
    go_enter Try.func8, Try.ntmps8
    go_wp2_with fail
    refine HF.out.mono ?_
    rintro e w5 ⟨rfl, hS5⟩
    go_wp2_with fail
    go_ret2
    exact ⟨rfl, A, c, HH.out.quiet hS5, hS5.mono fun _ _ hf => hf.elim, fun k hk => .inl hk⟩
  | true =>
    rw [if_pos rfl]
    by_cases hn0 : n = 0
    · subst hn0
      rw [if_pos rfl]
      have q0 : ¬ (0 : Int) < ((0 : Nat) : Int) := by omega
      go_enter Try.func8, Try.ntmps8
      go_wp2_with fail
      refine HF.out.mono ?_
      rintro e w5 ⟨rfl, hS5⟩
      go_wp2_with fail
      go_ret2
      exact ⟨rfl, A, c, HH.out.quiet hS5, hS5.mono fun _ _ hf => hf.elim, fun k hk => .inl hk⟩
    · rw [if_neg hn0]
      have q0 : (0 : Int) < (n : Int) := by omega
      have q0' : decide ((0 : Int) < (n : Int)) = true := decide_eq_true q0
      obtain ⟨m, hm⟩ : ∃ m, m = ps.length := ⟨_, rfl⟩
      have HN := Lib.hid hm
      have hpl := posP_le a ps
      rw [← hm] at hn hpl HR
      obtain ⟨i, hi⟩ : ∃ i, i = posP a ps := ⟨_, rfl⟩
      have HI := Lib.hid hi
      rw [← hi] at hpl
      clear hn0 hm hi
      go_enter Try.func8, Try.ntmps8
      go_wp2_with fail
      refine HF.out.mono ?_
      rintro e w5 ⟨rfl, hS5⟩
      have HS5 := Lib.hid hS5
      clear hS5 HF
      go_wp2_with fail
      go_loopw [12] (fun iv wr => ∃ (j : Nat), j ≤ i ∧ iv = .int .i64 (j : Int) ∧ wr = w5) (fun iv _ => i + 1 - (intOf iv).toNat)
      case atStart => exact ⟨0, by omega, rfl, rfl⟩
      case round =>
        obtain ⟨j, hj, rfl, rfl⟩ := hrel
        have x2 := (HH.out.quiet HS5.out).c2
        rw [← HN.out] at x2
        by_cases hlt : j < i
        · have q1 : (j : Int) < (m : Int) := by omega
          have q1' : decide ((j : Int) < (m : Int)) = true := decide_eq_true q1
          have i0 : (0 : Int) ≤ (j : Int) := by omega
          have hw1 := IntWalk.i64_in ((j : Int) + 1) (by omega)
          have hjl : j < ps.length := by rw [← HN.out]; omega
          obtain ⟨bk, off, rfl, _, hbl, hc⟩ := reads_row Pc.cells 3 (by decide) Pc.three (HR.out.step HS5.out (fun _ _ => id)) (k := j) hjl
          have hpa := posP_lt a ps j hjl (by rw [← HI.out]; exact hlt)
          have c0 := hc 0 _ rfl
          simp only [Nat.add_zero, Pc.cells] at c0
          generalize ps[j].at_ = pa at c0 hpa
          have d1 : (pa : Int) < (a : Int) := by omega
          have d1' : decide ((pa : Int) < (a : Int)) = true := decide_eq_true d1
          have d1n : decide (pa < a) = true := decide_eq_true hpa
          clear hc
          go_wp2_with fail
          go_roundw
          case rel => exact ⟨j + 1, by omega, by rw [Int.natCast_add]; rfl, by first | rfl | trivial⟩
          case measure => simp [intOf]; omega
        · obtain rfl : j = i := by omega
          by_cases hjm : j < m
          · have q1 : (j : Int) < (m : Int) := by omega
            have q1' : decide ((j : Int) < (m : Int)) = true := decide_eq_true q1
            have i0 : (0 : Int) ≤ (j : Int) := by omega
            have hjl : j < ps.length := by rw [← HN.out]; omega
            have HAe : Hid (∃ bk off, A = some ⟨bk, off, none⟩ ∧ wr.cell? ⟨bk, off + j * 3, none⟩ = some (.int .i64 (ps[j].at_ : Int)) ∧ bk < wr.heap.size) := by
              obtain ⟨bk, off, e, _, hbl, hc⟩ := reads_row Pc.cells 3 (by decide) Pc.three (HR.out.step HS5.out (fun _ _ => id)) (k := j) hjl
              have c0 := hc 0 _ rfl
              simp only [Nat.add_zero, Pc.cells] at c0
              exact ⟨bk, off, e, c0, hbl⟩
            have hpa : ¬ ps[j].at_ < a := by
              have h5 := posP_at a ps (by rw [← HI.out]; exact hjl)
              have h6 : ps[posP a ps]'(by rw [← HI.out]; exact hjl) = ps[j] := by congr 1; exact HI.out.symm
              rw [h6] at h5
              exact h5
            generalize ps[j].at_ = pa at HAe hpa
            have d1 : ¬ (pa : Int) < (a : Int) := by omega
            have d1' : decide ((pa : Int) < (a : Int)) = false := decide_eq_false d1
            have d1n : decide (pa < a) = false := decide_eq_false hpa
            obtain ⟨bk, off, hAe, c0, hbl⟩ := HAe.out
            subst hAe
            have HXr := Lib.hid ((HH.out.quiet HS5.out))
            have hnz := HXr.out.blk.frozen 2
            have HV := Lib.hid (Blk.new wr 47 #[.int .i64 (a : Int), .int .i64 (n : Int), .int .i64 ow])
            have HIns := Lib.hid (insert_walk (wr.alloc (.cells #[.int .i64 (a : Int), .int .i64 (n : Int), .int .i64 ow] 47)) B m c j wr.heap.size (some ⟨bk, off, none⟩) (pcs ps) 47 (.int .i64 (a : Int)) (.int .i64 (n : Int)) (.int .i64 ow) (by have := HS5.out.size; simp; omega)
              (by have := (HXr.out.quiet ((Step.refl (F := fun _ => False)).alloc (.cells #[.int .i64 (a : Int), .int .i64 (n : Int), .int .i64 ow] 47))).own; rw [← HN.out] at this; exact this) (by omega) (by omega) (pcs_one ps) HV.out (fun e => by have := HXr.out.lt2 _ e; omega) (by simp [Value.oneCell']))
            go_wp2_with fail
            refine HIns.out.mono ?_
            rintro e w7 ⟨D', c', rfl, hown, hS7, hat⟩
            have hXA : ¬ blkOf ((some ⟨bk, off, none⟩)) = some X := hAX
            have hBX := (HXr.out.blk.alloc (.cells #[.int .i64 (a : Int), .int .i64 (n : Int), .int .i64 ow] 47)).step hS7 hXA
            have hz7 := hBX.frozen 2
            have cc7 := hBX.cell 2
            simp at cc7
            have hXs := hBX.set_ 2 (.slice D' (m + 1) c')
            simp at hXs
            have hDX : ∀ k, blkOf D' = some k → k ≠ X := fun k hk e => by
              rcases hat with h1 | h1
              · rw [h1] at hk; exact hAX (by rw [hk, e])
              · rw [h1] at hk; injection hk with hk; have := HXr.out.lt; simp at hk; omega
            have hst : Step (fun k => k = X) w7 (w7.setCell ⟨X, 2, none⟩ (.slice D' (m + 1) c')) := (Step.refl (F := fun k => k = X)).setCell (p := ⟨X, 2, none⟩) (.inl rfl) _
            have hown2 := own_step hown hst (fun k hk => hDX k (by rwa [ownBlock_slice] at hk))
            have hadd : (pcs ps).take (j * 3) ++ [.int .i64 (a : Int), .int .i64 (n : Int), .int .i64 ow] ++ (pcs ps).drop (j * 3) = pcs (addP ⟨a, n, ow⟩ ps) := by
              have hjl2 : j ≤ ps.length := by rw [← HN.out]; omega
              rw [addP, ← HI.out, pcs_append, show (⟨a, n, ow⟩ : Pc) :: ps.drop j = [⟨a, n, ow⟩] ++ ps.drop j from rfl, pcs_append, pcs_take ps j hjl2, pcs_drop ps j hjl2]
              simp [pcs, Pc.cells]
            have hlen : (addP ⟨a, n, ow⟩ ps).length = m + 1 := by
              rw [addP, List.length_append, List.length_cons, List.length_take, List.length_drop, ← HI.out, ← HN.out]
              omega
            rw [hadd] at hown2
            go_wp2_with fail
            go_ret2
            refine ⟨rfl, D', c', ⟨by rw [hlen]; exact hXs, by rw [hlen]; exact hown2⟩, ?_, fun k hk => ?_⟩
            · exact (((HS5.out.mono fun _ _ hf => hf.elim).alloc _).trans (hS7.mono fun _ _ hk => .inr hk)).trans (hst.mono fun _ _ hk => .inl hk)
            · rcases hat with h1 | h1
              · exact .inl (h1 ▸ hk)
              · rw [h1] at hk; injection hk with hk; right; have := HS5.out.size; simp at hk; omega
          · obtain rfl : j = m := by omega
            have HXr := Lib.hid ((HH.out.quiet HS5.out))
            have hnz := HXr.out.blk.frozen 2
            have HV := Lib.hid (Blk.new wr 47 #[.int .i64 (a : Int), .int .i64 (n : Int), .int .i64 ow])
            have HIns := Lib.hid (insert_walk (wr.alloc (.cells #[.int .i64 (a : Int), .int .i64 (n : Int), .int .i64 ow] 47)) B j c j wr.heap.size A (pcs ps) 47 (.int .i64 (a : Int)) (.int .i64 (n : Int)) (.int .i64 ow) (by have := HS5.out.size; simp; omega)
              (by have := (HXr.out.quiet ((Step.refl (F := fun _ => False)).alloc (.cells #[.int .i64 (a : Int), .int .i64 (n : Int), .int .i64 ow] 47))).own; rw [← HN.out] at this; exact this) (by omega) (by omega) (pcs_one ps) HV.out (fun e => by have := HXr.out.lt2 _ e; omega) (by simp [Value.oneCell']))
            go_wp2_with fail
            refine HIns.out.mono ?_
            rintro e w7 ⟨D', c', rfl, hown, hS7, hat⟩
            have hXA : ¬ blkOf (A) = some X := hAX
            have hBX := (HXr.out.blk.alloc (.cells #[.int .i64 (a : Int), .int .i64 (n : Int), .int .i64 ow] 47)).step hS7 hXA
            have hz7 := hBX.frozen 2
            have cc7 := hBX.cell 2
            simp at cc7
            have hXs := hBX.set_ 2 (.slice D' (j + 1) c')
            simp at hXs
            have hDX : ∀ k, blkOf D' = some k → k ≠ X := fun k hk e => by
              rcases hat with h1 | h1
              · rw [h1] at hk; exact hAX (by rw [hk, e])
              · rw [h1] at hk; injection hk with hk; have := HXr.out.lt; simp at hk; omega
            have hst : Step (fun k => k = X) w7 (w7.setCell ⟨X, 2, none⟩ (.slice D' (j + 1) c')) := (Step.refl (F := fun k => k = X)).setCell (p := ⟨X, 2, none⟩) (.inl rfl) _
            have hown2 := own_step hown hst (fun k hk => hDX k (by rwa [ownBlock_slice] at hk))
            have hadd : (pcs ps).take (j * 3) ++ [.int .i64 (a : Int), .int .i64 (n : Int), .int .i64 ow] ++ (pcs ps).drop (j * 3) = pcs (addP ⟨a, n, ow⟩ ps) := by
              have hjl2 : j ≤ ps.length := by rw [← HN.out]; omega
              rw [addP, ← HI.out, pcs_append, show (⟨a, n, ow⟩ : Pc) :: ps.drop j = [⟨a, n, ow⟩] ++ ps.drop j from rfl, pcs_append, pcs_take ps j hjl2, pcs_drop ps j hjl2]
              simp [pcs, Pc.cells]
            have hlen : (addP ⟨a, n, ow⟩ ps).length = j + 1 := by
              rw [addP, List.length_append, List.length_cons, List.length_take, List.length_drop, ← HI.out, ← HN.out]
              omega
            rw [hadd] at hown2
            go_wp2_with fail
            go_ret2
            refine ⟨rfl, D', c', ⟨by rw [hlen]; exact hXs, by rw [hlen]; exact hown2⟩, ?_, fun k hk => ?_⟩
            · exact (((HS5.out.mono fun _ _ hf => hf.elim).alloc _).trans (hS7.mono fun _ _ hk => .inr hk)).trans (hst.mono fun _ _ hk => .inl hk)
            · rcases hat with h1 | h1
              · exact .inl (h1 ▸ hk)
              · rw [h1] at hk; injection hk with hk; right; have := HS5.out.size; simp at hk; omega
end Go.Proofs.Ytjpjobpkeejmcaa
