/-
  memory: New, Read, Write, Sum; what a memory is.
-/
import Derived.Test.YtmheofkakcomdaaRows
import Derived.Test.YtmheofkakcomdaaByt
import Derived.Test.YtmheofkakcomdaaRgA
import Derived.Laws.OwnMore
set_option linter.unusedVariables false
set_option linter.unusedSimpArgs false
namespace Go.Proofs.Ytmheofkakcomdaa
open Go.RowKit

theorem u8_size : (Try.prog.info? 5).map (·.size) = some 1 := by kernel_rfl
/-- A memory at block M: its bytes. -/
structure Mm (w : World) (B M : Nat) (A : Option Addr) (n c : Nat) (most : Int) (l : List UInt8) : Prop where
  blk : Blk w M 118 #[.slice A n c, .int .i64 most]
  own : w.ownsRow B 5 1 (.slice A n c) n (u8s l)
  len : n = l.length
  ge : B ≤ M
  small : n ≤ 16777216
section
variable {w w' : World} {B M n c : Nat} {A : Option Addr} {most : Int} {l : List UInt8}
theorem Mm.step {F : Nat → Prop} (h : Mm w B M A n c most l) (hs : Step F w w') (h1 : ¬ F M) (h2 : ∀ k, blkOf A = some k → ¬ F k) : Mm w' B M A n c most l :=
  ⟨h.blk.step hs h1, own_step h.own hs (fun k hk => h2 k (by rwa [ownBlock_slice] at hk)), h.len, h.ge, h.small⟩
theorem Mm.quiet (h : Mm w B M A n c most l) (hs : Step (fun _ => False) w w') : Mm w' B M A n c most l := h.step hs id (fun _ _ => id)
theorem Mm.ne (h : Mm w B M A n c most l) : blkOf A ≠ some M := by
  have := own_tag h.own h.blk (by decide)
  rwa [ownBlock_slice] at this
end

set_option maxRecDepth 100000 in
set_option maxHeartbeats 800000 in
theorem mnew_err (w : World) (p m : Int) (h : p < 0 ∨ m < p ∨ 256 < m) :
    Calls Try.prog 33 #[.int .i64 p, .int .i64 m] w fun e w' => e = .returned (.tuple #[.pointer none, .int .i64 26]) ∧ w' = w := by
  by_cases h1 : p < 0
  · have h1' : decide (p < 0) = true := decide_eq_true h1
    go_enter Try.func33, Try.ntmps33
    go_wp2_with fail
    go_ret2
    exact ⟨rfl, rfl⟩
  · have h1' : decide (p < 0) = false := decide_eq_false h1
    by_cases h2 : m < p
    · have h2' : decide (m < p) = true := decide_eq_true h2
      go_enter Try.func33, Try.ntmps33
      go_wp2_with fail
      go_ret2
      exact ⟨rfl, rfl⟩
    · have h2' : decide (m < p) = false := decide_eq_false h2
      have h3 : 256 < m := by omega
      have h3' : decide (256 < m) = true := decide_eq_true h3
      go_enter Try.func33, Try.ntmps33
      go_wp2_with fail
      go_ret2
      exact ⟨rfl, rfl⟩
theorem zeros_cells (n : Nat) : (madeCells (Value.int .u8 0).cells (n * 1)).toList = u8s (List.replicate n 0) := by
  rw [Nat.mul_one]
  apply List.ext_getElem?
  intro i
  by_cases hi : i < n
  · simp [madeCells, u8s, hi, Value.cells, Nat.mod_one]
  · simp [madeCells, u8s, hi]
theorem u8_info : (Try.prog.info? 5).map (fun i => (i.zero, i.size, i.bytes)) = some (some (.int .u8 0), 1, 1) := by kernel_rfl
theorem mkbytes (w : World) (N B : Nat) (hN : N ≤ 16777216) (hB : B ≤ w.heap.size) :
    ∃ w1, (Instr.makeSlice 39 (.int .i64 (N : Int)) (.int .i64 (N : Int))).run Try.prog w = .ok (.slice (some ⟨w.heap.size, 0, none⟩) N N) w1 ∧
      w1.ownsRow B 5 1 (.slice (some ⟨w.heap.size, 0, none⟩) N N) N (u8s (List.replicate N 0)) ∧ w.grownBy w1 none := by
  have hi := u8_info
  cases h : Try.prog.info? 5 with
  | none => rw [h] at hi; cases hi
  | some i =>
    rw [h] at hi
    simp only [Option.map_some, Option.some.injEq, Prod.mk.injEq] at hi
    obtain ⟨w1, hr, ho, hg⟩ := run_make_full (P := Try.prog) w B 39 5 i (.int .u8 0) 1 Try.underlying39 h hi.1 hi.2.1 .i64 .i64 N (by rw [hi.2.2]; omega) (by unfold maxLen; omega) hB
    rw [zeros_cells] at ho
    exact ⟨w1, hr, ho, hg⟩
set_option maxRecDepth 100000 in
set_option maxHeartbeats 800000 in
theorem mnew_ok (w : World) (p : Nat) (m : Int) (B : Nat) (h2 : (p : Int) ≤ m) (h3 : m ≤ 256) (hB : B ≤ w.heap.size) :
    Calls Try.prog 33 #[.int .i64 p, .int .i64 m] w fun e w' => ∃ M A c, e = .returned (.tuple #[.pointer (some ⟨M, 0, none⟩), .int .i64 0]) ∧ Mm w' B M A (p * 65536) c m (List.replicate (p * 65536) 0) ∧ Step (fun _ => False) w w' ∧ w.heap.size ≤ M ∧ (∀ k, blkOf A = some k → w.heap.size ≤ k) := by
  have g1 : decide ((p : Int) < 0) = false := decide_eq_false (by omega)
  have g2 : decide (m < (p : Int)) = false := decide_eq_false (by omega)
  have g3 : decide (256 < m) = false := decide_eq_false (by omega)
  have hw : IntKind.i64.wrap ((p : Int) * 65536) = ((p * 65536 : Nat) : Int) := by rw [Int.natCast_mul]; exact IntWalk.i64_in _ (by omega)
  obtain ⟨N, hN⟩ : ∃ N, N = p * 65536 := ⟨_, rfl⟩
  rw [← hN] at hw
  have hN2 : N ≤ 16777216 := by omega
  obtain ⟨w1, hr, ho, hg⟩ := mkbytes w N B hN2 hB
  have HO := Lib.hid ho
  have HS : Hid (Step (fun _ => False) w w1) := Step.refl.grown hg (fun _ h => by cases h)
  rw [← hN]
  clear ho hg hN
  go_enter Try.func33, Try.ntmps33
  go_wp2_with fail
  go_ret2
  exact ⟨_, _, _, rfl, ⟨Blk.new _ _ _, own_below HO.out (Step.refl.alloc _), by simp, Nat.le_trans hB HS.out.size, hN2⟩, HS.out.alloc _, HS.out.size, fun k hk => by simp [blkOf] at hk; omega⟩

set_option maxRecDepth 100000 in
set_option maxHeartbeats 800000 in
theorem mread_ok (w : World) (B M : Nat) (A : Option Addr) (n c : Nat) (most : Int) (l : List UInt8) (a k : Nat) (h : Mm w B M A n c most l) (hak : a + k ≤ n) :
    Calls Try.prog 31 #[.pointer (some ⟨M, 0, none⟩), .int .u64 (a : Int), .int .i64 (k : Int)] w fun e w' => ∃ A' c', e = .returned (.tuple #[.slice A' k c', .int .i64 0]) ∧ w'.ownsRow w.heap.size 5 1 (.slice A' k c') k (u8s ((l.drop a).take k)) ∧ Step (fun _ => False) w w' := by
  have hb := h.blk
  have ho := h.own
  have hsm := h.small
  have hcap := own_cap ho
  have c0 := hb.cell 0
  simp at c0
  have c1 := (World.cell?_alloc_lt w (.cells #[] 5) _ hb.lt).trans c0
  have g0 : decide ((k : Int) < 0) = false := decide_eq_false (by omega)
  have g1 : decide ((n : Int) < (a : Int)) = false := decide_eq_false (by omega)
  have g1n : decide (n < a) = false := decide_eq_false (by omega)
  have wn : IntKind.u64.wrap (n : Int) = (n : Int) := by rw [Go.IntKind.wrap_u64]; omega
  have wk : IntKind.u64.wrap (k : Int) = (k : Int) := by rw [Go.IntKind.wrap_u64]; omega
  have ws : IntKind.u64.wrap ((n : Int) - (a : Int)) = (n : Int) - (a : Int) := by rw [Go.IntKind.wrap_u64]; omega
  have wa : IntKind.u64.wrap ((a : Int) + (k : Int)) = (a : Int) + (k : Int) := by rw [Go.IntKind.wrap_u64]; omega
  have g2 : decide ((n : Int) - (a : Int) < (k : Int)) = false := decide_eq_false (by omega)
  have sl := slice_lhn E_u8 A n c .u64 .u64 (a : Int) ((a : Int) + (k : Int)) a (a + k) k (c - a) rfl (by omega) (by omega) (by omega) (by omega) rfl
  have hr : Reads w (fun j => blkOf A = some j) 1 (cutA A c a 1) k (u8s ((l.drop a).take k)) := by
    have h2 := (Reads.of_own ho).cut (k := a) (cap := c) (by omega) hcap
    rw [Nat.mul_one, ← u8s_drop, ownBlock_slice] at h2
    have h3 := Reads.take h2 (k := k) (by omega)
    rw [Nat.mul_one, ← u8s_take] at h3
    simpa [cutA] using h3
  have hfr : (w.alloc (.cells #[] 5)).ownsRow w.heap.size 5 1 (.slice (some ⟨w.heap.size, 0, none⟩) 0 0) 0 [] := World.ownsRow_made w #[] 0 (Nat.le_refl _) (by decide) rfl
  have hr' : Reads (w.alloc (.cells #[] 5)) (fun j => blkOf A = some j) 1 (cutA A c a 1) k (u8s ((l.drop a).take k)) := hr.step (F := fun _ => False) (Step.refl.alloc _) (fun _ _ => id)
  have hone := u8s_one ((l.drop a).take k)
  have hm : 0 + k ≤ maxLen := by unfold maxLen; omega
  have hk2 : k ≤ 16777216 := by omega
  clear hr ho h hak
  go_enter Try.func31, Try.ntmps31
  go_wp2_with (at_builtin; refine wpList_append_src _ rfl _ _ (by rfl) E_u8 (by rfl) hfr (by rfl) hr' hone hm (by omega) (by simp) ?_; intro A' c' w1 hown1 hgrow hat)
  go_ret2
  rw [Nat.zero_add] at hown1
  refine ⟨A', c', rfl, hown1, (Step.refl.alloc _).grown hgrow fun k hk => ?_⟩
  simp [blkOf] at hk
  right; omega
theorem mread_err (w : World) (B M : Nat) (A : Option Addr) (n c : Nat) (most : Int) (l : List UInt8) (a : Nat) (k : Int) (h : Mm w B M A n c most l) (ha : a < 18446744073709551616) (hk : k ≤ 9223372036854775807) (hak : k < 0 ∨ (n : Int) < (a : Int) + k) :
    Calls Try.prog 31 #[.pointer (some ⟨M, 0, none⟩), .int .u64 (a : Int), .int .i64 k] w fun e w' => e = .returned (.tuple #[.slice none 0 0, .int .i64 63]) ∧ w' = w := by
  have c0 := h.blk.cell 0
  have hsm := h.small
  simp at c0
  have wn : IntKind.u64.wrap (n : Int) = (n : Int) := by rw [Go.IntKind.wrap_u64]; omega
  by_cases h0 : k < 0
  · have g0 : decide (k < 0) = true := decide_eq_true h0
    clear h
    go_enter Try.func31, Try.ntmps31
    go_wp2_with fail
    go_ret2
    exact ⟨rfl, rfl⟩
  · have g0 : decide (k < 0) = false := decide_eq_false h0
    by_cases h1 : n < a
    · have g1 : decide ((n : Int) < (a : Int)) = true := decide_eq_true (by omega)
      have g1n : decide (n < a) = true := decide_eq_true (by omega)
      clear h
      go_enter Try.func31, Try.ntmps31
      go_wp2_with fail
      go_ret2
      exact ⟨rfl, rfl⟩
    · have g1 : decide ((n : Int) < (a : Int)) = false := decide_eq_false (by omega)
      have g1n : decide (n < a) = false := decide_eq_false (by omega)
      have wk : IntKind.u64.wrap k = k := by rw [Go.IntKind.wrap_u64]; omega
      have ws : IntKind.u64.wrap ((n : Int) - (a : Int)) = (n : Int) - (a : Int) := by rw [Go.IntKind.wrap_u64]; omega
      have g2 : decide ((n : Int) - (a : Int) < k) = true := decide_eq_true (by omega)
      clear h
      go_enter Try.func31, Try.ntmps31
      go_wp2_with fail
      go_ret2
      exact ⟨rfl, rfl⟩
theorem take_mid {α : Type} (L D : List α) (a n : Nat) (h : a + D.length ≤ n) (hn : n ≤ L.length) : (L.take a ++ D ++ L.drop (a + D.length)).take n = (L.take n).take a ++ D ++ (L.take n).drop (a + D.length) := by
  have h1 : (L.take a).length = a := by rw [List.length_take]; omega
  rw [List.take_take, Nat.min_eq_left (by omega), List.append_assoc, List.append_assoc, List.take_append, List.take_append, h1, List.take_of_length_le (l := L.take a) (by omega), List.take_of_length_le (l := D) (by omega), List.drop_take]
  congr 3
  omega
theorem wpList_copy_runM {P : Program} (w : World) {ops : Array Oper} {rest : List Oper} {o : Oper} {a : Act} {Q : Exit → Act → World → Prop} (hgd : o.guard = none) (d s : Operand) (t t' : TypeId)
    (ho : o.op = .call { callee := .builtin .copy, args := #[d, s], argTypes := #[t, t'] }) (v u : Value) (hd : a.eval d = v) (hs : a.eval s = u) {v' : Value} {w' : World}
    (hr : (Builtin.copy_ #[t, t'] o.type #[v, u]).run P w = .ok v' w') (h : wpList P ops Q rest (a.put o.dst v') w') : wpList P ops Q (o :: rest) a w :=
  wpList_plain hgd fun _ hK => by
    unfold Oper.wp execOp
    simp only [ho, resolve, invoke, builtin, Sem.run_bind, Sem.run_pure, Result.andThen_ok, List.map_toArray, List.map_cons, List.map_nil, hd, hs, hr]
    exact hK _ _ h
/-- A row with a part of it written anew. -/
theorem own_write {w : World} {B n c : Nat} {A : Option Addr} {l d : List UInt8} (h : w.ownsRow B 5 1 (.slice A n c) n (u8s l)) (a : Nat) (had : a + d.length ≤ n) (hd : 0 < d.length) :
    ∃ g cur, A = some ⟨g, 0, none⟩ ∧ Blk w g 5 cur ∧ a + d.length ≤ cur.size ∧ cur.size = c ∧ c ≤ maxLen ∧
      (w.setRow g (cur.toList.take a ++ u8s d ++ cur.toList.drop (a + (u8s d).length)).toArray).ownsRow B 5 1 (.slice A n c) n (u8s (l.take a ++ d ++ l.drop (a + d.length))) := by
  obtain ⟨g, cur, rfl, hb, hg, hnc, hm, hs, ht⟩ := own_blk h (by omega)
  have hl := own_len h
  rw [u8s_length, Nat.mul_one] at hl
  rw [Nat.mul_one] at hs ht
  have hcl : cur.toList.length = c := by simpa using hs
  refine ⟨g, cur, rfl, hg, by omega, hs, hm, own_mk hb hg.reset ?_ hnc hm ?_ ?_⟩
  · rw [u8s_length]
    simp only [List.length_append, List.length_take, List.length_drop]
    omega
  · simp [u8s_length]
    omega
  · rw [Nat.mul_one, u8s_append, u8s_append, u8s_take, u8s_drop, ← ht, ← u8s_length d]
    exact take_mid cur.toList (u8s d) a n (by rw [u8s_length]; omega) (by omega)
set_option maxRecDepth 100000 in
set_option maxHeartbeats 800000 in
theorem mwrite_ok (w : World) (B M : Nat) (A : Option Addr) (n c : Nat) (most : Int) (l d : List UInt8) (a k kc : Nat) (S : Nat → Prop) (A' : Option Addr) (h : Mm w B M A n c most l) (hr : Reads w S 1 A' k (u8s d)) (hk : k = d.length) (hak : a + k ≤ n) :
    Calls Try.prog 58 #[.pointer (some ⟨M, 0, none⟩), .int .u64 (a : Int), .slice A' k kc] w fun e w' => e = .returned (.int .i64 0) ∧ Mm w' B M A n c most (l.take a ++ d ++ l.drop (a + k)) ∧ Step (fun j => blkOf A = some j) w w' := by
  have hb := h.blk
  have ho := h.own
  have hsm := h.small
  have hne := h.ne
  have hge := h.ge
  have hcap := own_cap ho
  have hlen := h.len
  have c0 := hb.cell 0
  simp at c0
  have g1 : decide ((n : Int) < (a : Int)) = false := decide_eq_false (by omega)
  have g1n : decide (n < a) = false := decide_eq_false (by omega)
  have wn : IntKind.u64.wrap (n : Int) = (n : Int) := by rw [Go.IntKind.wrap_u64]; omega
  have wk : IntKind.u64.wrap (k : Int) = (k : Int) := by rw [Go.IntKind.wrap_u64]; omega
  have ws : IntKind.u64.wrap ((n : Int) - (a : Int)) = (n : Int) - (a : Int) := by rw [Go.IntKind.wrap_u64]; omega
  have g2 : decide ((n : Int) - (a : Int) < (k : Int)) = false := decide_eq_false (by omega)
  have sl := slice_ln E_u8 A n c .u64 (a : Int) a (n - a) (c - a) rfl (by omega) rfl rfl
  by_cases hk0 : 0 < k
  · obtain ⟨g, cur, rfl, hg, hfit, hcs, hcm, how⟩ := own_write ho a (d := d) (by omega) (by omega)
    have hgM : g ≠ M := fun e => hne (by rw [e]; rfl)
    obtain ⟨sa, rfl, hS, hlt, hcell⟩ := hr.2 hk0
    have hrun := run_copyN (P := Try.prog) w 39 39 3 5 1 g a (n - a) (c - a) sa k kc cur 5 (u8s d) k Try.underlying39 u8_size hg (by show k = min k (n - a); omega) (by rw [u8s_length]; omega) hcell (by rw [u8s_length]; exact hfit) (u8s_one d)
    have hst : Step (fun j => blkOf (some (⟨g, 0, none⟩ : Addr)) = some j) w (w.setRow g (cur.toList.take a ++ u8s d ++ cur.toList.drop (a + (u8s d).length)).toArray) := Step.setRow (F := fun j => blkOf (some (⟨g, 0, none⟩ : Addr)) = some j) (w := w) (w' := w) Step.refl (.inl rfl) _
    rw [← hk] at how
    have hM' : Mm (w.setRow g (cur.toList.take a ++ u8s d ++ cur.toList.drop (a + (u8s d).length)).toArray) B M (some ⟨g, 0, none⟩) n c most (l.take a ++ d ++ l.drop (a + k)) := ⟨hb.step hst hne, how, by simp; omega, hge, hsm⟩
    have HM := Lib.hid hM'
    have HST := Lib.hid hst
    have hcut : cutA (some ⟨g, 0, none⟩) c a 1 = some ⟨g, a, none⟩ := by
      by_cases e : c = a
      · omega
      · unfold cutA
        rw [if_neg e]
        show some ((⟨g, 0, none⟩ : Addr).add (a * 1)) = _
        rw [Addr.add_lit, Nat.zero_add, Nat.mul_one]
    rw [hcut] at sl
    obtain ⟨w1, hw1⟩ : ∃ w1, w1 = w.setRow g (cur.toList.take a ++ u8s d ++ cur.toList.drop (a + (u8s d).length)).toArray := ⟨_, rfl⟩
    rw [← hw1] at hrun HM HST
    clear hM' hst how hcell hr h ho hb hg hw1 hcut hlen hk hcs hfit
    go_enter Try.func58, Try.ntmps58
    go_wp2_with (at_builtin; refine wpList_copy_runM _ rfl _ _ _ _ (by rfl) _ _ (by rfl) (by rfl) hrun ?_)
    go_ret
    exact ⟨rfl, HM.out, HST.out⟩
  · obtain rfl : k = 0 := by omega
    obtain rfl : d = [] := List.eq_nil_of_length_eq_zero hk.symm
    have hrun := run_copy_none (P := Try.prog) w 39 39 3 5 (cutA A c a 1) A' (n - a) (c - a) 0 kc Try.underlying39 u8_size (by show min 0 (n - a) = 0; omega)
    have hM' : Mm w B M A n c most (l.take a ++ [] ++ l.drop (a + 0)) := by
      rw [List.append_nil, Nat.add_zero, List.take_append_drop]
      exact h
    have HM := Lib.hid hM'
    have g2z : decide ((n : Int) - (a : Int) < 0) = false := decide_eq_false (by omega)
    clear hM' hr h ho hb wk hk g2 hk0 hlen
    go_enter Try.func58, Try.ntmps58
    go_wp2_with (at_builtin; refine wpList_copy_runM _ rfl _ _ _ _ (by rfl) _ _ (by rfl) (by rfl) hrun ?_)
    go_ret
    exact ⟨rfl, HM.out, Step.refl⟩
set_option maxRecDepth 100000 in
set_option maxHeartbeats 800000 in
theorem mwrite_err (w : World) (B M : Nat) (A : Option Addr) (n c : Nat) (most : Int) (l : List UInt8) (a k kc : Nat) (A' : Option Addr) (h : Mm w B M A n c most l) (ha : a < 18446744073709551616) (hk : k ≤ 9223372036854775807) (hak : n < a + k) :
    Calls Try.prog 58 #[.pointer (some ⟨M, 0, none⟩), .int .u64 (a : Int), .slice A' k kc] w fun e w' => e = .returned (.int .i64 63) ∧ w' = w := by
  have c0 := h.blk.cell 0
  have hsm := h.small
  simp at c0
  have wn : IntKind.u64.wrap (n : Int) = (n : Int) := by rw [Go.IntKind.wrap_u64]; omega
  by_cases h1 : n < a
  · have g1 : decide ((n : Int) < (a : Int)) = true := decide_eq_true (by omega)
    have g1n : decide (n < a) = true := decide_eq_true (by omega)
    clear h
    go_enter Try.func58, Try.ntmps58
    go_wp2_with fail
    go_ret
    exact ⟨rfl, rfl⟩
  · have g1 : decide ((n : Int) < (a : Int)) = false := decide_eq_false (by omega)
    have g1n : decide (n < a) = false := decide_eq_false (by omega)
    have wk : IntKind.u64.wrap (k : Int) = (k : Int) := by rw [Go.IntKind.wrap_u64]; omega
    have ws : IntKind.u64.wrap ((n : Int) - (a : Int)) = (n : Int) - (a : Int) := by rw [Go.IntKind.wrap_u64]; omega
    have g2 : decide ((n : Int) - (a : Int) < (k : Int)) = true := decide_eq_true (by omega)
    clear h
    go_enter Try.func58, Try.ntmps58
    go_wp2_with fail
    go_ret
    exact ⟨rfl, rfl⟩
set_option maxRecDepth 100000 in
set_option maxHeartbeats 800000 in
theorem msum_zero (w : World) (B M : Nat) (A : Option Addr) (n c : Nat) (most : Int) (l : List UInt8) (h : Mm w B M A n c most l) (hz : ∀ b ∈ l, b = 0) :
    Calls Try.prog 32 #[.pointer (some ⟨M, 0, none⟩)] w fun e w' => e = .returned (.int .u64 0) ∧ w' = w := by
  have c0 := h.blk.cell 0
  simp at c0
  have hsm := h.small
  have HR := Lib.hid (Reads.of_own h.own)
  have HL := Lib.hid h.len
  have HZ := Lib.hid hz
  clear h hz
  go_enter Try.func32, Try.ntmps32
  go_wp2_with fail
  go_loopw [3, 11] (fun s i wr => ∃ k : Nat, k ≤ n ∧ s = .int .u64 0 ∧ i = .int .i64 (k : Int) ∧ wr = w) (fun _ i _ => n - (intOf i).toNat)
  case atStart => exact ⟨0, by omega, rfl, rfl, rfl⟩
  case round =>
    obtain ⟨k, hk, rfl, rfl, hwk⟩ := hrel
    have hwk2 := hwk.symm
    subst hwk2
    by_cases hlt : k < n
    · have g1 : (k : Int) < (n : Int) := by omega
      have i0 : (0 : Int) ≤ (k : Int) := by omega
      have hw1 := IntWalk.i64_in ((k : Int) + 1) (by omega)
      obtain ⟨ad, u, rfl, _, _, hu, hc⟩ := HR.out.at_ hlt
      have hkl : k < l.length := by rw [← HL.out]; exact hlt
      rw [u8s_get _ _ hkl, HZ.out _ (List.getElem_mem hkl)] at hu
      obtain rfl := Option.some.inj hu
      clear hu
      have hc2 : w.cell? (ad.add k) = some (.int .u8 0) := hc
      clear hc
      go_wp2_with fail
      go_roundw
      case rel => exact ⟨k + 1, by omega, rfl, by rw [Int.natCast_add]; rfl, by first | trivial | rfl⟩
      case measure => first | (simp [intOf]; done) | (simp [intOf]; omega)
    · have g1 : ¬ (k : Int) < (n : Int) := by omega
      go_wp2_with fail
      go_ret
      exact ⟨rfl, rfl⟩
end Go.Proofs.Ytmheofkakcomdaa
