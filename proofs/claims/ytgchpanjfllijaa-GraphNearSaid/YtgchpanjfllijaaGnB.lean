/-
  GraphNear: append onto a slice without room; creelref35.Sorted.
-/
import Derived.Test.YtgchpanjfllijaaGnP
import Derived.Test.YtgchpanjfllijaaGnA
import Derived.Test.YtgchpanjfllijaaMix
import Derived.Maps.AppendAt
import Derived.Sort.EncStr
set_option linter.unusedVariables false
set_option linter.unusedSimpArgs false
namespace Go.Proofs.Ytgchpanjfllijaa
open Go.RowKit

section
variable {P : Program} {t e : TypeId} {size bytes : Nat}
theorem slice_hm (E : ElemTy P t e size bytes) (D : Option Addr) (n c : Nat) (k : IntKind) (i : Int) (h : Nat) (hi : i = h) (hc : h ≤ c) :
    ∀ w : World, (Instr.slice t (.slice D n c) none (some (.int k i)) (some (.int k i))).run P w = .ok (.slice D h h) w := by
  intro w
  subst hi
  obtain ⟨ht, _, i, z, hi, _, hs, _⟩ := E
  have he : P.elem t = e := by simp [Program.elem, ht]
  rw [run_slice_hm w t D n c (by rw [ht, he]) k k h h (by omega) (by omega) (by omega), he]
  have hz := cutA_zero D h size
  unfold cutA at hz
  simp [sizeOf, typeInfo, hi, hs, sliced]
  simpa using hz
/-- 'append' onto a slice that has no room: a new row. -/
theorem run_append_cap (w : World) (base : Nat) (ty : TypeId) (E : ElemTy P t e size bytes) (D : Option Addr) (n : Nat) (xs : List Value) {S : Nat → Prop} (hr : Reads w S size D n xs) (hD : D = none → n = 0)
    (ad : Addr) (m c : Nat) (news : List Value) (hl : news.length = m * size) (hnews : ∀ j u, news[j]? = some u → w.cell? (ad.add j) = some u) (h1 : ∀ u ∈ news, u.oneCell' = true) (hm : 0 < m)
    (h63 : n + m ≤ maxLen) (hbytes : (n + m) * bytes ≤ 140737488355328) (hbase : base ≤ w.heap.size) :
    ∃ D' c' w', (Builtin.append_ #[t, t] ty #[.slice D n n, .slice (some ad) m c]).run P w = .ok (.slice D' (n + m) c') w' ∧ w'.ownsRow base e size (.slice D' (n + m) c') (n + m) (xs ++ news) ∧ w.grownBy w' none ∧ blkOf D' = some w.heap.size := by
  obtain ⟨ht, hsz, i, z, hi, hz, hsize, hby, hzs⟩ := E
  subst hsize
  subst hby
  have hlen : (xs ++ news).length = (n + m) * i.size := by rw [List.length_append, hr.1, hl, Nat.add_mul]
  have hge := grownCap_ge w (n + m) n e
  have hcm : grownCap w (n + m) n e ≤ maxLen := grownCap_le_maxLen w (n + m) n e h63
  have hown : (w.drew.alloc (.cells (xs.toArray ++ news.toArray ++ Builtin.zeroCells z.cells (grownCap w (n + m) n e - (n + m))) e)).ownsRow base e i.size (.slice (some ⟨w.heap.size, 0, none⟩) (n + m) (grownCap w (n + m) n e)) (n + m) (xs ++ news) := by
    refine ⟨hlen, .inr ⟨w.heap.size, _, _, rfl, hbase, heap_alloc_new w.drew _, hge, hcm, ?_, ?_⟩⟩
    · simp only [Array.size_append, List.size_toArray, size_zeroCells, hzs, hr.1, hl, ← Nat.add_mul]
      congr 1
      omega
    · simp only [Array.toList_append, List.append_assoc]
      rw [← List.append_assoc, ← hlen]
      exact List.take_left
  have hgr : w.grownBy (w.drew.alloc (.cells (xs.toArray ++ news.toArray ++ Builtin.zeroCells z.cells (grownCap w (n + m) n e - (n + m))) e)) none := ⟨rfl, rfl, rfl, by simp, fun k hk _ => heap_alloc_old w.drew _ hk⟩
  have hsmall : n + m ≤ 9223372036854775807 := by simp only [maxLen] at h63; omega
  cases D with
  | none =>
    obtain rfl : n = 0 := hD rfl
    have hx : xs = [] := List.eq_nil_of_length_eq_zero (by simpa using hr.1)
    subst hx
    have hrun := run_append_nil (P := P) w t ty e i z ht hi hz ad m c news hl hnews (by omega) (by omega) (by have hb := hbytes; simp only [Nat.zero_add] at hb; omega)
    simp only [Nat.zero_add, List.nil_append, Array.empty_append] at hown hgr hrun ⊢
    exact ⟨_, _, _, hrun, hown, hgr, rfl⟩
  | some b =>
    have holds : ∀ j u, xs[j]? = some u → w.cell? (b.add j) = some u := fun j u hu => by
      rcases Nat.eq_zero_or_pos n with h0 | h0
      · subst h0
        have hx : xs = [] := List.eq_nil_of_length_eq_zero (by simpa using hr.1)
        subst hx
        simp at hu
      · obtain ⟨ad', e1, _, _, hc⟩ := hr.2 h0
        injection e1 with e1
        subst e1
        exact hc j u hu
    have hrun := run_append_grow (P := P) w t ty e i z ht hi hz b n n xs hr.1 holds ad m c news hl hnews (by omega) (by omega) (growslice_fits (by omega) hbytes)
    exact ⟨_, _, _, hrun, hown, hgr, rfl⟩
theorem step_append_cap {w0 w : World} {ops : Array Oper} {o : Oper} {a : Act} {K : Act → World → Prop} {Q : Exit → Act → World → Prop} {F : Prop} (hgd : Region.wanted o (yielded ops a.tmps) = true) (s x : Operand)
    (ho : o.op = .call { callee := .builtin .append, args := #[s, x], argTypes := #[t, t] }) (E : ElemTy P t e size bytes) (hS : Step (fun _ => False) w0 w)
    {D : Option Addr} {n : Nat} {xs : List Value} (hs : a.eval s = .slice D n n) {S : Nat → Prop} (hr : Reads w S size D n xs) (hD : D = none → n = 0)
    {ad : Addr} {m c : Nat} {news : List Value} (hx : a.eval x = .slice (some ad) m c) {S' : Nat → Prop} (hrx : Reads w S' size (some ad) m news) (h1 : ∀ u ∈ news, u.oneCell' = true) (hm : 0 < m)
    (h63 : n + m ≤ maxLen) (hbytes : (n + m) * bytes ≤ 140737488355328)
    (h : ∀ D' c' w', w'.ownsRow w0.heap.size e size (.slice D' (n + m) c') (n + m) (xs ++ news) → Step (fun _ => False) w0 w' → w.grownBy w' none → blkOf D' = some w.heap.size → K (a.put o.dst (.slice D' (n + m) c')) w') :
    if Region.wanted o (yielded ops a.tmps) = true then Oper.wp P o a w K Q else F := by
  rw [if_pos hgd]
  obtain ⟨ad', e1, _, _, hcx⟩ := hrx.2 hm
  injection e1 with e1
  subst e1
  obtain ⟨D', c', w', hrun, h2, h3, h4⟩ := run_append_cap (P := P) w w0.heap.size o.type E D n xs hr hD ad m c news hrx.1 hcx h1 hm h63 hbytes hS.size
  unfold Oper.wp execOp
  simp only [ho, resolve, invoke, builtin, Sem.run_bind, Sem.run_pure, Result.andThen_ok, List.map_toArray, List.map_cons, List.map_nil, hs, hx, hrun]
  exact h D' c' w' h2 (hS.grown h3 (fun k hk => by cases hk)) h3 h4
end
/-- Go's '<' on strings. -/
theorem less_iff : ∀ (x y : List UInt8), Op.bytesLess x y = decide (x < y)
  | x, [] => by cases x <;> simp [Op.bytesLess]
  | [], b :: y => by simp [Op.bytesLess]
  | a :: x, b :: y => by
    rw [Op.bytesLess, less_iff x y]
    rw [Bool.eq_iff_iff]
    simp [List.cons_lt_cons_iff]
theorem less_t {x s : Nm} (h : x < s) : Op.bytesLess (str x).toList (str s).toList = true := by rw [str_toList, str_toList, less_iff]; exact decide_eq_true h
theorem less_f {x s : Nm} (h : ¬ x < s) : Op.bytesLess (str x).toList (str s).toList = false := by rw [str_toList, str_toList, less_iff]; exact decide_eq_false h
end Go.Proofs.Ytgchpanjfllijaa
