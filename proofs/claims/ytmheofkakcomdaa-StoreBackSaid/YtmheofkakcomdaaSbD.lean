/-
  store: bytes of noughts behind a row's end.
-/
import Derived.Test.YtmheofkakcomdaaSbC
import Derived.Lib.AppendZerosOnto
set_option linter.unusedVariables false
set_option linter.unusedSimpArgs false
namespace Go.Proofs.Ytmheofkakcomdaa
open Go.RowKit
theorem zero_list (k : Nat) : (Builtin.zeroCells (Value.int .u8 0).cells k).toList = u8s (List.replicate k 0) := by
  have e : (Value.int .u8 0).cells = #[.int .u8 0] := rfl
  rw [e]
  unfold Builtin.zeroCells u8s
  apply List.ext_getElem?
  intro i
  simp only [List.size_toArray, List.length_cons, List.length_nil, Nat.zero_add, Nat.mul_one, Array.toList_map, Array.toList_range, List.getElem?_map, Nat.mod_one, List.getElem?_replicate]
  by_cases h : i < k
  · rw [List.getElem?_range h, if_pos h]
    rfl
  · rw [List.getElem?_eq_none (by simpa using h), if_neg h]
    rfl
theorem u8_info3 : (Try.prog.info? 5).map (fun i => (i.zero, i.size, i.bytes)) = some (some (.int .u8 0), 1, 1) := u8_info
set_option maxRecDepth 100000 in
theorem own_zeros {w : World} {B n c : Nat} {A : Option Addr} {l : List UInt8} (h : w.ownsRow B 5 1 (.slice A n c) n (u8s l)) (hB : B ≤ w.heap.size) (k : Nat) (hk : n + k ≤ 16777216) :
    ∃ D c' w1, (∀ ty, (Builtin.append_ #[39, 3] ty #[.slice A n c, .int .i64 (k : Int)]).run Try.prog w = .ok (.slice D (n + k) c') w1) ∧
      w1.ownsRow B 5 1 (.slice D (n + k) c') (n + k) (u8s (l ++ List.replicate k 0)) ∧ Step (fun j => blkOf A = some j) w w1 ∧ (∀ j, blkOf D = some j → blkOf A = some j ∨ w.heap.size ≤ j) := by
  obtain ⟨i, hi⟩ : ∃ i, Try.prog.info? 5 = some i := by
    cases h : Try.prog.info? 5 with
    | none => have := u8_info; rw [h] at this; cases this
    | some i => exact ⟨i, rfl⟩
  have hii := u8_info
  rw [hi] at hii
  simp only [Option.map_some, Option.some.injEq, Prod.mk.injEq] at hii
  obtain ⟨hz, hs, hb⟩ := hii
  have hcap := own_cap h
  have hw : IntKind.i64.wrap (k : Int) = k := by rw [IntKind.wrap_i64]; omega
  have hneg : ¬ ((k : Int) < 0) := by omega
  have h48i : ¬ (281474976710656 < (k : Int) * (i.bytes : Int)) := by rw [hb]; omega
  by_cases h0 : k = 0
  · subst h0
    refine ⟨A, c, w, fun ty => ?_, by simpa using h, Step.refl, fun j hj => .inl hj⟩
    cases A with
    | none => simp [Builtin.append_, run_underlying Try.underlying39, run_underlying Try.underlying3, sizeOf, typeInfo, zeroValue, hi, hz, asInt, asIntOf, IntKind.wrap_i64, hcap]
    | some a => simp [Builtin.append_, run_underlying Try.underlying39, run_underlying Try.underlying3, sizeOf, typeInfo, zeroValue, hi, hz, asInt, asIntOf, IntKind.wrap_i64, hcap, storeCells]
  · by_cases h1 : n + k ≤ c
    · rcases h.2 with ⟨e1, e2⟩ | ⟨g, cap, cur, e1, hg1, hg, hnc, hm, hsz, ht⟩
      · injection e1 with e3 e4 e5
        omega
      · injection e1 with e3 e4 e5
        subst e3 e5
        have hzl := zero_list k
        have hul : (u8s (List.replicate k 0)).length = k := by rw [u8s_length, List.length_replicate]
        have hl := own_len h
        rw [u8s_length, Nat.mul_one] at hl
        rw [Nat.mul_one] at hsz ht
        have hcl : cur.toList.length = c := by simpa using hsz
        have hstore := Go.run_storeCells_at (P := Try.prog) g n 5 (u8s (List.replicate k 0)) 0 cur w hg (by rw [hul]; omega) (u8s_one _)
        rw [Nat.add_zero, hul] at hstore
        refine ⟨some ⟨g, 0, none⟩, c, w.setRow g (cur.toList.take n ++ u8s (List.replicate k 0) ++ cur.toList.drop (n + k)).toArray, fun ty => ?_, own_mk hg1 (Blk.reset hg) (by rw [u8s_length, List.length_append, List.length_replicate]; omega) h1 hm (by simp [hul]; omega) ?_, Step.setRow (F := fun j => blkOf (some (⟨g, 0, none⟩ : Addr)) = some j) Step.refl (g := g) (.inl rfl) _, fun j hj => .inl hj⟩
        · have hadd : (⟨g, 0, none⟩ : Addr).add n = ⟨g, n, none⟩ := by rw [Addr.add_lit, Nat.zero_add]
          simp [Builtin.append_, run_underlying Try.underlying39, run_underlying Try.underlying3, sizeOf, typeInfo, zeroValue, hi, hz, asInt, asIntOf, hw, hneg, h48i, h1, hs, h0, hadd, hzl, hstore]
        · rw [Nat.mul_one, u8s_append]
          show (cur.toList.take n ++ u8s (List.replicate k 0) ++ cur.toList.drop (n + k)).take (n + k) = _
          rw [List.take_append_of_le_length (by rw [List.length_append, List.length_take, hul]; omega), List.take_of_length_le (by rw [List.length_append, List.length_take, hul]; omega), ht]
    · have hold : (Builtin.firstCells i.size n (.slice A n c)).run Try.prog w.drew = .ok (u8s l).toArray w.drew := by
        rw [hs]
        have h2 := own_drew h
        rcases h2.2 with ⟨e1, e2⟩ | ⟨g, cap, cur, e1, hg1, hg, hnc, hm, hsz, ht⟩
        · injection e1 with e3 e4 e5
          subst e2 e3
          have hl := own_len h
          rw [Nat.zero_mul] at hl
          rw [List.length_eq_zero_iff.1 hl]
          rfl
        · injection e1 with e3 e4 e5
          subst e3
          exact run_firstCells_some w.drew 1 n ⟨g, 0, none⟩ n c (u8s l) (own_len h) (fun j v hj => by
            rw [Addr.add_lit, Nat.zero_add, (show Blk w.drew g 5 cur from hg).cell j]
            rw [← ht, List.getElem?_take] at hj
            split at hj
            · rw [← Array.getElem?_toList]; exact hj
            · cases hj)
      have hG := grownCap_ge w (n + k) c 5
      have hGm := grownCap_le_maxLen w (n + k) c 5 (by unfold maxLen; omega)
      refine ⟨_, _, _, fun ty => Lib.run_append_grow_zeros w 39 3 ty 5 i (.int .u8 0) .i64 .i64 Try.underlying39 Try.underlying3 hi hz A n c (u8s l) hold k (by omega) (by rw [hs]; decide) (by omega) (by omega) (by rw [hb]; omega) (by rw [hb]; exact growslice_fits (by omega) (by omega)), ?_, Step.refl.drew.alloc _, fun j hj => .inr ?_⟩
      · have hl := own_len h
        rw [u8s_length, Nat.mul_one] at hl
        refine own_mk hB (Blk.new w.drew 5 _) (by rw [u8s_length, List.length_append, List.length_replicate]; omega) hG hGm ?_ ?_
        · simp only [Array.size_append, List.size_toArray, u8s_length]
          rw [← Array.length_toList, ← Array.length_toList, zero_list, zero_list, u8s_length, u8s_length, List.length_replicate, List.length_replicate]
          omega
        · rw [Nat.mul_one, Array.toList_append, Array.toList_append, zero_list, u8s_append]
          rw [List.take_append_of_le_length (by simp [u8s_length]; omega), List.take_of_length_le (by simp [u8s_length]; omega)]
      · simp [blkOf] at hj
        omega
end Go.Proofs.Ytmheofkakcomdaa
