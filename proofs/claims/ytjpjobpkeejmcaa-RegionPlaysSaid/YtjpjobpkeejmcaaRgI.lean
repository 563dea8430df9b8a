/-
  region: slices.IndexFunc, slices.DeleteFunc, Give.
-/
import Derived.Test.YtjpjobpkeejmcaaRgH
set_option linter.unusedVariables false
set_option linter.unusedSimpArgs false
namespace Go.Proofs.Ytjpjobpkeejmcaa
open Go.RowKit

/-- clear, of elements of k cells. -/
theorem run_clearN {P : Program} (w : World) (t e ty : TypeId) (z : Value) (ht : P.underlying t = some (.slice e)) (hv : ∀ w, (zeroValue e).run P w = .ok z w) (k : Nat) (hz : z.cells.size = k) (g o n c : Nat) (h1 : ∀ v ∈ (Builtin.zeroCells z.cells n).toList, v.oneCell' = true) (hn : 0 < n)
    (cur : Array Value) (tg : TypeId) (hg : w.heap[g]? = some (.cells cur tg (0, 0))) (hfit : o + n * k ≤ cur.size) :
    (Builtin.clear_ #[t] ty #[.slice (some ⟨g, o, none⟩) n c]).run P w = .ok (.tuple #[]) (w.setRow g (cur.toList.take o ++ (Builtin.zeroCells z.cells n).toList ++ cur.toList.drop (o + (Builtin.zeroCells z.cells n).toList.length)).toArray) := by
  have hl : (Builtin.zeroCells z.cells n).toList.length = n * k := by simp [Builtin.zeroCells, hz]
  have hst := run_storeCells_at P g o tg (Builtin.zeroCells z.cells n).toList 0 cur w hg (by rw [hl]; omega) h1
  obtain ⟨m, rfl⟩ : ∃ m, n = m + 1 := ⟨n - 1, by omega⟩
  simp only [Nat.add_zero] at hst
  simp [Builtin.clear_, run_underlying ht, hv, hst]

theorem pcs_set : ∀ (l : List Pc) (i : Nat) (p : Pc), i < l.length → (((pcs l).set (i * 3) (.int .i64 (p.at_ : Int))).set (i * 3 + 1) (.int .i64 (p.len : Int))).set (i * 3 + 2) (.int .i64 p.ow) = pcs (l.set i p)
  | q :: l, 0, p, _ => rfl
  | q :: l, i + 1, p, h => by
    have ih := pcs_set l i p (by simpa using h)
    have e : pcs (q :: l) = q.cells ++ pcs l := rfl
    have e2 : pcs ((q :: l).set (i + 1) p) = q.cells ++ pcs (l.set i p) := rfl
    rw [e, e2, ← ih, show (i + 1) * 3 = q.cells.length + i * 3 by rw [Pc.three]; omega, show q.cells.length + i * 3 + 1 = q.cells.length + (i * 3 + 1) by omega, show q.cells.length + i * 3 + 2 = q.cells.length + (i * 3 + 2) by omega,
      List.set_append_right _ _ (by omega), List.set_append_right _ _ (by omega), List.set_append_right _ _ (by omega), Nat.add_sub_cancel_left, Nat.add_sub_cancel_left, Nat.add_sub_cancel_left]
theorem own_setPc {w : World} {B n c g i : Nat} {R : List Pc} (h : w.ownsRow B 47 3 (.slice (some ⟨g, 0, none⟩) n c) n (pcs R)) (hi : i < R.length) (p : Pc) :
    (((w.setCell ⟨g, i * 3, none⟩ (.int .i64 (p.at_ : Int))).setCell ⟨g, i * 3 + 1, none⟩ (.int .i64 (p.len : Int))).setCell ⟨g, i * 3 + 2, none⟩ (.int .i64 p.ow)).ownsRow B 47 3 (.slice (some ⟨g, 0, none⟩) n c) n (pcs (R.set i p)) := by
  have hl := pcs_len R
  have h1 := own_setAt h (j := i * 3) (u := .int .i64 (p.at_ : Int)) (by omega)
  have h2 := own_setAt h1 (j := i * 3 + 1) (u := .int .i64 (p.len : Int)) (by rw [List.length_set]; omega)
  have h3 := own_setAt h2 (j := i * 3 + 2) (u := .int .i64 p.ow) (by rw [List.length_set, List.length_set]; omega)
  rw [pcs_set R i p hi] at h3
  exact h3

set_option maxRecDepth 100000 in
set_option maxHeartbeats 1600000 in
theorem gclo_walk (w : World) (O N : Nat) (ow : Int) (acc a l : Nat) (o : Int) (hO : Blk w O 3 #[.int .i64 ow]) (hN : Blk w N 3 #[.int .i64 (acc : Int)]) (hNO : O ≠ N) (hb : acc + l ≤ 4611686018427387904) :
    Calls Try.prog 27 #[.agg #[.int .i64 (a : Int), .int .i64 (l : Int), .int .i64 o], .pointer (some ⟨O, 0, none⟩), .pointer (some ⟨N, 0, none⟩)] w fun e w' => e = .returned (.bool (o == ow)) ∧ Blk w' N 3 #[.int .i64 ((acc + if o = ow then l else 0 : Nat) : Int)] ∧ Step (fun k => k = N) w w' := by
  have o0 := hO.cell 0
  have n0 := hN.cell 0
  have nz := hN.frozen 0
  simp at o0 n0
  have hOl := hO.lt
  have hNl := hN.lt
  have HN := Lib.hid hN
  have hw := IntWalk.i64_in ((acc : Int) + (l : Int)) (by omega)
  clear hO hN
  by_cases ho : o = ow
  · subst ho
    have hob : (o == o) = true := beq_self_eq_true o
    rw [if_pos rfl]
    go_enter Try.func27, Try.ntmps27
    go_wp2_with fail
    go_ret
    refine ⟨by rw [hob]; rfl, ?_, ?_⟩
    · have h5 := (HN.out.set_ 0 (.int .i64 ((acc : Int) + (l : Int)))).alloc (.cells #[.int .i64 (a : Int), .int .i64 (l : Int), .int .i64 o] 47)
      simp at h5
      first | exact h5 | simpa using h5
    · exact ((Step.refl (F := fun k => k = N)).setCell (p := ⟨N, 0, none⟩) (.inl rfl) _).alloc _
  · have hob : (o == ow) = false := by simpa using ho
    rw [if_neg ho]
    go_enter Try.func27, Try.ntmps27
    go_wp2_with fail
    go_ret
    exact ⟨by rw [hob]; rfl, HN.out.alloc _, (Step.refl.alloc _)⟩

/-- The closure, as a value. -/
def gclo (O N : Nat) : Value := .func (.func 27) #[] #[.pointer (some ⟨O, 0, none⟩), .pointer (some ⟨N, 0, none⟩)]
/-- The first piece of an owner; the number of pieces, where there is none. -/
def idxO (ow : Int) : List Pc → Nat
  | [] => 0
  | p :: l => if p.ow = ow then 0 else idxO ow l + 1
theorem idxO_le (ow : Int) : ∀ l : List Pc, idxO ow l ≤ l.length
  | [] => Nat.le_refl _
  | p :: l => by
    rw [idxO]
    split
    · exact Nat.zero_le _
    · have := idxO_le ow l
      simp; omega
theorem idxO_lt (ow : Int) : ∀ (l : List Pc) (j : Nat) (h : j < l.length), j < idxO ow l → ¬ l[j].ow = ow
  | p :: l, 0, _, h => by
    rw [idxO] at h
    split at h
    · omega
    · assumption
  | p :: l, j + 1, hj, h => by
    rw [idxO] at h
    split at h
    · omega
    · exact idxO_lt ow l j (by simpa using hj) (by omega)
theorem idxO_at (ow : Int) : ∀ (l : List Pc) (h : idxO ow l < l.length), (l[idxO ow l]'h).ow = ow
  | p :: l, h => by
    by_cases hp : p.ow = ow
    · have e : idxO ow (p :: l) = 0 := by rw [idxO, if_pos hp]
      have e2 : (p :: l)[idxO ow (p :: l)] = p := by simp only [e, List.getElem_cons_zero]
      rw [e2]
      exact hp
    · have e : idxO ow (p :: l) = idxO ow l + 1 := by rw [idxO, if_neg hp]
      have h2 : idxO ow l < l.length := by rw [e] at h; simpa using h
      have e2 : (p :: l)[idxO ow (p :: l)] = l[idxO ow l] := by simp only [e, List.getElem_cons_succ]
      rw [e2]
      exact idxO_at ow l h2

set_option maxRecDepth 100000 in
set_option maxHeartbeats 3200000 in
theorem sindex_walk (w : World) (A : Option Addr) (n c : Nat) (ps : List Pc) (S : Nat → Prop) (O N : Nat) (ow : Int) (hN : n = ps.length) (hr : Reads w S 3 A n (pcs ps)) (hO : Blk w O 3 #[.int .i64 ow]) (hNb : Blk w N 3 #[.int .i64 0]) (hNO : O ≠ N) (hSN : ∀ k, S k → k ≠ N) (hn : n ≤ 1000000) (hl : ∀ p ∈ ps, p.len ≤ 1073741824) :
    Calls Try.prog 34 #[.slice A n c, gclo O N] w fun e w' => Step (fun k => k = N) w w' ∧
      ((idxO ow ps < n ∧ e = .returned (.int .i64 (idxO ow ps : Int)) ∧ Blk w' N 3 #[.int .i64 (sumP (ps.take (idxO ow ps + 1) |>.filter fun p => p.ow == ow) : Int)]) ∨ (idxO ow ps = n ∧ e = .returned (.int .i64 (-1)) ∧ Blk w' N 3 #[.int .i64 0])) := by
  have hle := idxO_le ow ps
  rw [← hN] at hle
  obtain ⟨i, hi⟩ : ∃ i, i = idxO ow ps := ⟨_, rfl⟩
  have HI := Lib.hid hi
  rw [← hi] at hle ⊢
  have HN := Lib.hid hN
  have HR := Lib.hid hr
  have HL := Lib.hid hl
  have HO := Lib.hid hO
  have HB := Lib.hid hNb
  clear hi hN hr hl hO hNb
  rw [gclo]
  go_enter Try.func34, Try.ntmps34
  go_wp2_with fail
  go_loopw [8] (fun iv wr => ∃ (j : Nat), j ≤ i ∧ iv = .int .i64 (j : Int) ∧ Hid (Blk wr N 3 #[.int .i64 0]) ∧ Hid (Step (fun k => k = N) w wr)) (fun iv _ => i + 1 - (intOf iv).toNat)
  case atStart => exact ⟨0, by omega, rfl, HB, Step.refl⟩
  case round =>
    obtain ⟨j, hj, rfl, HBj, HSj⟩ := hrel
    by_cases hlt : j < n
    · have g1 : (j : Int) < (n : Int) := by omega
      have i0 : (0 : Int) ≤ (j : Int) := by omega
      have hw1 := IntWalk.i64_in ((j : Int) + 1) (by omega)
      have hjl : j < ps.length := by rw [← HN.out]; exact hlt
      obtain ⟨bk, off, rfl, _, hbl, hc⟩ := reads_row Pc.cells 3 (by decide) Pc.three (HR.out.step HSj.out (fun k hk e => hSN k hk e)) (k := j) hjl
      have hpl := HL.out ps[j] (List.getElem_mem hjl)
      by_cases hji : j < i
      · have hne := idxO_lt ow ps j hjl (by rw [← HI.out]; exact hji)
        generalize ps[j] = p at hc hpl hne
        obtain ⟨a, l, o⟩ := p
        have c0 := hc 0 _ rfl
        have c1 := hc 1 _ rfl
        have c2 := hc 2 _ rfl
        simp only [Nat.add_zero] at c0 c1 c2 hpl hne
        have hob : (o == ow) = false := by simpa using hne
        have HC : Hid (∀ w', Blk w' O 3 #[.int .i64 ow] → Blk w' N 3 #[.int .i64 0] → Calls Try.prog 27 #[.agg #[.int .i64 (a : Int), .int .i64 (l : Int), .int .i64 o], .pointer (some ⟨O, 0, none⟩), .pointer (some ⟨N, 0, none⟩)] w' fun e w'' => e = .returned (.bool false) ∧ Blk w'' N 3 #[.int .i64 0] ∧ Step (fun k => k = N) w' w'') := fun w' h1 h2 => by
          have h3 := gclo_walk w' O N ow 0 a l o h1 h2 hNO (by omega)
          rw [hob, if_neg hne] at h3
          exact h3
        have HOj := Lib.hid (HO.out.step HSj.out hNO)
        clear hc hne
        go_wp2_with fail
        refine (HC.out _ HOj.out HBj.out).mono ?_
        rintro e we ⟨rfl, hbe, hse⟩
        have HSe := Lib.hid (HSj.out.trans hse)
        go_wp2_with fail
        go_roundw
        case rel => exact ⟨j + 1, by omega, by rw [Int.natCast_add]; rfl, hbe, HSe⟩
        case measure => simp [intOf]; omega
      · obtain rfl : j = i := by omega
        have hat : ps[j].ow = ow := by
          have h5 := idxO_at ow ps (by rw [← HI.out]; exact hjl)
          have h6 : ps[idxO ow ps]'(by rw [← HI.out]; exact hjl) = ps[j] := by congr 1; exact HI.out.symm
          rw [h6] at h5
          exact h5
        have HSum : Hid (sumP ((ps.take (j + 1)).filter fun p => p.ow == ow) = ps[j].len) := by
          have h7 : (ps.take j).filter (fun p => p.ow == ow) = [] := by
            rw [List.filter_eq_nil_iff]
            intro q hq hq2
            obtain ⟨k, hk, rfl⟩ := List.getElem_of_mem hq
            rw [List.getElem_take] at hq2
            rw [List.length_take] at hk
            exact idxO_lt ow ps k (by omega) (by rw [← HI.out]; omega) (by simpa using hq2)
          rw [Hid, List.take_succ_eq_append_getElem hjl, List.filter_append, h7, List.nil_append, List.filter_cons, if_pos (by simpa using hat), List.filter_nil]
          simp [sumP]
        generalize ps[j] = p at hc hpl hat HSum
        obtain ⟨a, l, o⟩ := p
        have c0 := hc 0 _ rfl
        have c1 := hc 1 _ rfl
        have c2 := hc 2 _ rfl
        simp only [Nat.add_zero] at c0 c1 c2 hpl hat HSum
        subst hat
        have hob : (o == o) = true := beq_self_eq_true o
        have HC : Hid (∀ w', Blk w' O 3 #[.int .i64 o] → Blk w' N 3 #[.int .i64 0] → Calls Try.prog 27 #[.agg #[.int .i64 (a : Int), .int .i64 (l : Int), .int .i64 o], .pointer (some ⟨O, 0, none⟩), .pointer (some ⟨N, 0, none⟩)] w' fun e w'' => e = .returned (.bool true) ∧ Blk w'' N 3 #[.int .i64 (l : Int)] ∧ Step (fun k => k = N) w' w'') := fun w' h1 h2 => by
          have h3 := gclo_walk w' O N o 0 a l o h1 h2 hNO (by omega)
          rw [hob, if_pos rfl, Nat.zero_add] at h3
          exact h3
        have HOj := Lib.hid (HO.out.step HSj.out hNO)
        clear hc hob
        go_wp2_with fail
        refine (HC.out _ HOj.out HBj.out).mono ?_
        rintro e we ⟨rfl, hbe, hse⟩
        have HSe := Lib.hid (HSj.out.trans hse)
        go_wp2_with fail
        go_ret
        exact ⟨HSe.out, .inl ⟨hlt, rfl, by rw [HSum.out]; exact hbe⟩⟩
    · obtain rfl : j = n := by omega
      obtain rfl : j = i := by omega
      go_wp2_with fail
      go_ret
      first | exact ⟨HSj.out, .inr ⟨rfl, rfl, HBj.out⟩⟩ | exact ⟨HSj.out, rfl, HBj.out⟩
end Go.Proofs.Ytjpjobpkeejmcaa
