/-
  module: encode of the module that holds nothing.
-/
import Derived.Test.YteibigianodhnaaMfB
set_option linter.unusedVariables false
set_option linter.unusedSimpArgs false
namespace Go.Proofs.Yteibigianodhnaa
open Go.RowKit

theorem conv_lit (w : World) (C : Array Value) (n c : Nat) :
    (convert 45 45 (.slice (some ⟨w.heap.size, 0, none⟩) n c)).run Try.prog (w.alloc (.cells C 5)) = .ok (.slice (some ⟨w.heap.size, 0, none⟩) n c) (w.alloc (.cells C 5 (C.size, C.size + 1))) := by
  have hs := Try.underlying45
  have he := Try.underlying5
  have hsh : (w.alloc (.cells C 5)).shape? w.heap.size = some (5, C.size) := by
    have : (w.alloc (.cells C 5)).heap[w.heap.size]? = some (.cells C 5) := by
      show (w.heap.push (.cells C 5))[w.heap.size]? = _
      simp
    unfold World.shape?
    rw [this]
  have hfr : ∀ (n : Nat), (w.alloc (.cells C 5)).freeze ⟨w.heap.size, n, none⟩ 1 = w.alloc (.cells C 5 (n, n + 1)) := fun n => by
    have hm : ∀ (a : Array Obj) (x : Obj) (f : Obj → Obj), (a.push x).modify a.size f = a.push (f x) := by
      intro a x f
      apply Array.ext
      · simp
      · intro i h1 h2
        simp only [Array.getElem_modify, Array.getElem_push]
        by_cases h : a.size = i
        · subst h
          simp
        · have hi : i < a.size := by simp at h1; omega
          simp [h, hi]
    unfold World.freeze
    rw [if_neg (by decide)]
    show ({ w.alloc (.cells C 5) with heap := (w.heap.push (.cells C 5)).modify w.heap.size _ } : World) = _
    rw [hm]
    rfl
  simp [convert, run_underlying hs, run_underlying he, markStringish, hsh, hfr]
theorem conv_bytes {S : Nat → Prop} {A : Option Addr} {w : World} {n c : Nat} {l : List UInt8} (h : Reads w S 1 A n (u8s l)) : (convert 45 9 (.slice A n c)).run Try.prog w = .ok (.string (str l)) w :=
  run_conv_bytes w 45 9 5 Try.underlying45 Try.underlying5 Try.underlying9 h
def headL : List UInt8 := [0, 97, 115, 109, 1, 0, 0, 0]

set_option maxRecDepth 100000 in
set_option maxHeartbeats 1600000 in
theorem dyl0 (w : World) : Calls Try.prog 15 #[.agg #[.bool false, .int .u32 0, .int .u32 0, .int .u32 0, .int .u32 0, .slice none 0 0]] w fun e w' => e = .returned (.int .i64 0) ∧ Step (fun _ => False) w w' := by
  have HB := Lib.hid (Blk.new w 34 #[.bool false, .int .u32 0, .int .u32 0, .int .u32 0, .int .u32 0, .slice none 0 0])
  have HS := Lib.hid ((Step.refl (F := fun _ => False)).alloc (w := w) (.cells #[.bool false, .int .u32 0, .int .u32 0, .int .u32 0, .int .u32 0, .slice none 0 0] 34))
  have c0 := HB.out.cell 0
  have c1 := HB.out.cell 1
  have c2 := HB.out.cell 2
  have c3 := HB.out.cell 3
  have c4 := HB.out.cell 4
  have c5 := HB.out.cell 5
  simp at c0 c1 c2 c3 c4 c5
  have hz : bits .or .u32 0 0 = 0 := by decide
  go_enter Try.func15, Try.ntmps15
  go_wp2_with fail
  go_ret
  exact ⟨rfl, HS.out⟩

set_option maxRecDepth 100000 in
set_option maxHeartbeats 1600000 in
theorem add0 (w : World) (p : Value) (id : Int) (b : Value) : Calls Try.prog 19 #[p, .int .u8 id, .int .i64 0, b, .int .i64 0] w fun e w' => e = .returned (.tuple #[]) ∧ w' = w := by
  go_enter Try.func19, Try.ntmps19
  go_wp2_with fail
  refine (aunless_ok _ _ _).mono ?_
  rintro e wS ⟨rfl, rfl⟩
  go_wp2_with fail
  go_end0
  exact ⟨rfl, rfl⟩

set_option maxRecDepth 100000 in
set_option maxHeartbeats 1600000 in
theorem join0 (w : World) : Calls Try.prog 32 #[.slice none 0 0] w fun e w' => ∃ D, e = .returned (.slice D 8 8) ∧ Reads w' (fun k => k = w.heap.size) 1 D 8 (u8s headL) ∧ Step (fun _ => False) w w' := by
  have hcid := conv_lit w #[.int .u8 0, .int .u8 97, .int .u8 115, .int .u8 109, .int .u8 1, .int .u8 0, .int .u8 0, .int .u8 0] 8 8
  obtain ⟨V, hV⟩ : ∃ V, V = w.alloc (.cells #[.int .u8 0, .int .u8 97, .int .u8 115, .int .u8 109, .int .u8 1, .int .u8 0, .int .u8 0, .int .u8 0] 5 ((#[Value.int .u8 0, .int .u8 97, .int .u8 115, .int .u8 109, .int .u8 1, .int .u8 0, .int .u8 0, .int .u8 0] : Array Value).size, (#[Value.int .u8 0, .int .u8 97, .int .u8 115, .int .u8 109, .int .u8 1, .int .u8 0, .int .u8 0, .int .u8 0] : Array Value).size + 1)) := ⟨_, rfl⟩
  have hal : Step (fun _ => False) w V := by rw [hV]; exact Step.refl.alloc _
  have hrd : Reads V (fun k => k = w.heap.size) 1 (some ⟨w.heap.size, 0, none⟩) 8 (u8s headL) := ⟨rfl, fun _ => ⟨⟨w.heap.size, 0, none⟩, rfl, rfl, by rw [hV]; simp, fun j u hu => by
    rw [Addr.add_lit, Nat.zero_add, hV, cell_of_row _ w.heap.size j _ _ _ (heap_alloc_new w _)]
    exact (Array.getElem?_toList (xs := #[Value.int .u8 0, .int .u8 97, .int .u8 115, .int .u8 109, .int .u8 1, .int .u8 0, .int .u8 0, .int .u8 0])).symm.trans hu⟩⟩
  have HAL := Lib.hid hal
  have HRD := Lib.hid hrd
  rw [← hV] at hcid
  clear hal hrd hV
  go_enter Try.func32, Try.ntmps32
  go_wp2_with fail
  go_loopw [3, 10] (fun ov iv wr => ov = .slice (some ⟨w.heap.size, 0, none⟩) 8 8 ∧ iv = .int .i64 0 ∧ wr = V) (fun _ _ _ => 0)
  case atStart => exact ⟨rfl, rfl, rfl⟩
  case round =>
    obtain ⟨rfl, rfl, rfl⟩ := hrel
    go_wp2_with fail
    go_ret
    exact ⟨_, rfl, HRD.out, HAL.out⟩

set_option maxRecDepth 100000 in
set_option maxHeartbeats 6400000 in
theorem encode0 (w : World) : Calls Try.prog 11 #[.agg #[.slice none 0 0, .slice none 0 0, .slice none 0 0, .slice none 0 0, .slice none 0 0, .slice none 0 0, .slice none 0 0, .int .i64 (-1), .slice none 0 0, .slice none 0 0, .slice none 0 0, .bool false, .int .u32 0, .int .u32 0, .int .u32 0, .int .u32 0, .slice none 0 0]] w fun e w' => ∃ D, e = .returned (.slice D 8 8) ∧ Reads w' (fun k => w.heap.size ≤ k) 1 D 8 (u8s headL) ∧ Step (fun _ => False) w w' := by
  have HB := Lib.hid (Blk.new w 36 #[.slice none 0 0, .slice none 0 0, .slice none 0 0, .slice none 0 0, .slice none 0 0, .slice none 0 0, .slice none 0 0, .int .i64 (-1), .slice none 0 0, .slice none 0 0, .slice none 0 0, .bool false, .int .u32 0, .int .u32 0, .int .u32 0, .int .u32 0, .slice none 0 0])
  have HS := Lib.hid ((Step.refl (F := fun _ => False)).alloc (w := w) (.cells #[.slice none 0 0, .slice none 0 0, .slice none 0 0, .slice none 0 0, .slice none 0 0, .slice none 0 0, .slice none 0 0, .int .i64 (-1), .slice none 0 0, .slice none 0 0, .slice none 0 0, .bool false, .int .u32 0, .int .u32 0, .int .u32 0, .int .u32 0, .slice none 0 0] 36))
  have c2 := HB.out.cell 2
  have c9 := HB.out.cell 9
  have c7 := HB.out.cell 7
  simp at c2 c9 c7
  go_enter Try.func11, Try.ntmps11
  go_wp2_with fail
  refine (aunless_ok _ _ _).mono ?_
  rintro e wS ⟨rfl, rfl⟩
  go_wp2_with fail
  refine (aunless_ok _ _ _).mono ?_
  rintro e wS ⟨rfl, rfl⟩
  clear c2 c9 c7
  obtain ⟨v1, hv1⟩ : ∃ v1, v1 = w.alloc (.cells #[.slice none 0 0, .slice none 0 0, .slice none 0 0, .slice none 0 0, .slice none 0 0, .slice none 0 0, .slice none 0 0, .int .i64 (-1), .slice none 0 0, .slice none 0 0, .slice none 0 0, .bool false, .int .u32 0, .int .u32 0, .int .u32 0, .int .u32 0, .slice none 0 0] 36) := ⟨_, rfl⟩
  rw [← hv1] at HB HS ⊢
  clear hv1
  have HW := Lib.hid (Blk.new v1 66 #[.slice none 0 0])
  have HBb := HB.out.alloc (.cells #[.slice none 0 0] 66)
  have HSb := HS.out.alloc (.cells #[.slice none 0 0] 66)
  have HB2 := Lib.hid HBb
  have HS2 := Lib.hid HSb
  clear HBb HSb HB HS
  have c11 := HB2.out.cell 11
  have c12 := HB2.out.cell 12
  have c13 := HB2.out.cell 13
  have c14 := HB2.out.cell 14
  have c15 := HB2.out.cell 15
  have c16 := HB2.out.cell 16
  simp at c11 c12 c13 c14 c15 c16
  go_wp2_with fail
  refine (dyl0 _).mono ?_
  rintro e w2 ⟨rfl, hs⟩
  have HBs := Lib.hid (HB2.out.step hs id)
  have HWs := Lib.hid (HW.out.step hs id)
  have HSs := Lib.hid (HS2.out.trans hs)
  clear c11 c12 c13 c14 c15 c16
  clear hs HB2 HS2 HW
  have c0 := HBs.out.cell 0
  have c11 := HBs.out.cell 11
  simp at c0 c11
  go_wp2_with fail
  refine (aunless_ok _ _ _).mono ?_
  rintro e wS ⟨rfl, rfl⟩
  go_wp2_with fail
  refine (lst_ft _ _).mono ?_
  rintro e w3 ⟨⟨D0, n0, q0, rfl⟩, hs⟩
  clear c0 c11
  have HBw3 := Lib.hid (HBs.out.step hs id)
  have HWw3 := Lib.hid (HWs.out.step hs id)
  have HSw3 := Lib.hid (HSs.out.trans hs)
  clear hs HBs HWs HSs
  have c0 := HBw3.out.cell 0
  simp at c0
  go_wp2_with fail
  refine (add0 _ _ _ _).mono ?_
  rintro e wS ⟨rfl, rfl⟩
  clear c0
  have c1 := HBw3.out.cell 1
  simp at c1
  go_wp2_with fail
  refine (put_imports _).mono ?_
  rintro e w4 ⟨⟨D1, n1, q1, rfl⟩, hs⟩
  clear c1
  have HBw4 := Lib.hid (HBw3.out.step hs id)
  have HWw4 := Lib.hid (HWw3.out.step hs id)
  have HSw4 := Lib.hid (HSw3.out.trans hs)
  clear hs HBw3 HWw3 HSw3
  have c1 := HBw4.out.cell 1
  simp at c1
  go_wp2_with fail
  refine (add0 _ _ _ _).mono ?_
  rintro e wS ⟨rfl, rfl⟩
  clear c1
  have c2 := HBw4.out.cell 2
  simp at c2
  go_wp2_with fail
  refine (lst_u32 _ _).mono ?_
  rintro e w5 ⟨⟨D2, n2, q2, rfl⟩, hs⟩
  clear c2
  have HBw5 := Lib.hid (HBw4.out.step hs id)
  have HWw5 := Lib.hid (HWw4.out.step hs id)
  have HSw5 := Lib.hid (HSw4.out.trans hs)
  clear hs HBw4 HWw4 HSw4
  have c2 := HBw5.out.cell 2
  simp at c2
  go_wp2_with fail
  refine (add0 _ _ _ _).mono ?_
  rintro e wS ⟨rfl, rfl⟩
  clear c2
  have c3 := HBw5.out.cell 3
  simp at c3
  go_wp2_with fail
  refine (lst_lim _ _).mono ?_
  rintro e w6 ⟨⟨D3, n3, q3, rfl⟩, hs⟩
  clear c3
  have HBw6 := Lib.hid (HBw5.out.step hs id)
  have HWw6 := Lib.hid (HWw5.out.step hs id)
  have HSw6 := Lib.hid (HSw5.out.trans hs)
  clear hs HBw5 HWw5 HSw5
  have c3 := HBw6.out.cell 3
  simp at c3
  go_wp2_with fail
  refine (add0 _ _ _ _).mono ?_
  rintro e wS ⟨rfl, rfl⟩
  clear c3
  have c4 := HBw6.out.cell 4
  simp at c4
  go_wp2_with fail
  refine (lst_lim _ _).mono ?_
  rintro e w7 ⟨⟨D4, n4, q4, rfl⟩, hs⟩
  clear c4
  have HBw7 := Lib.hid (HBw6.out.step hs id)
  have HWw7 := Lib.hid (HWw6.out.step hs id)
  have HSw7 := Lib.hid (HSw6.out.trans hs)
  clear hs HBw6 HWw6 HSw6
  have c4 := HBw7.out.cell 4
  simp at c4
  go_wp2_with fail
  refine (add0 _ _ _ _).mono ?_
  rintro e wS ⟨rfl, rfl⟩
  clear c4
  have c5 := HBw7.out.cell 5
  simp at c5
  go_wp2_with fail
  refine (put_globals _).mono ?_
  rintro e w8 ⟨⟨D5, n5, q5, rfl⟩, hs⟩
  clear c5
  have HBw8 := Lib.hid (HBw7.out.step hs id)
  have HWw8 := Lib.hid (HWw7.out.step hs id)
  have HSw8 := Lib.hid (HSw7.out.trans hs)
  clear hs HBw7 HWw7 HSw7
  have c5 := HBw8.out.cell 5
  simp at c5
  go_wp2_with fail
  refine (add0 _ _ _ _).mono ?_
  rintro e wS ⟨rfl, rfl⟩
  clear c5
  have c6 := HBw8.out.cell 6
  simp at c6
  go_wp2_with fail
  refine (put_exports _).mono ?_
  rintro e w9 ⟨⟨D6, n6, q6, rfl⟩, hs⟩
  clear c6
  have HBw9 := Lib.hid (HBw8.out.step hs id)
  have HWw9 := Lib.hid (HWw8.out.step hs id)
  have HSw9 := Lib.hid (HSw8.out.trans hs)
  clear hs HBw8 HWw8 HSw8
  have c6 := HBw9.out.cell 6
  simp at c6
  go_wp2_with fail
  refine (add0 _ _ _ _).mono ?_
  rintro e wS ⟨rfl, rfl⟩
  clear c6
  have c8 := HBw9.out.cell 8
  have c7 := HBw9.out.cell 7
  simp at c8 c7
  go_wp2_with fail
  refine (put_elems _).mono ?_
  rintro e w10 ⟨⟨D8, n8, q8, rfl⟩, hs⟩
  clear c8 c7
  have HBw10 := Lib.hid (HBw9.out.step hs id)
  have HWw10 := Lib.hid (HWw9.out.step hs id)
  have HSw10 := Lib.hid (HSw9.out.trans hs)
  clear hs HBw9 HWw9 HSw9
  have c8 := HBw10.out.cell 8
  simp at c8
  go_wp2_with fail
  refine (add0 _ _ _ _).mono ?_
  rintro e wS ⟨rfl, rfl⟩
  clear c8
  have c9 := HBw10.out.cell 9
  simp at c9
  go_wp2_with fail
  refine (put_bodies _).mono ?_
  rintro e w11 ⟨⟨D9, n9, q9, rfl⟩, hs⟩
  clear c9
  have HBw11 := Lib.hid (HBw10.out.step hs id)
  have HWw11 := Lib.hid (HWw10.out.step hs id)
  have HSw11 := Lib.hid (HSw10.out.trans hs)
  clear hs HBw10 HWw10 HSw10
  have c9 := HBw11.out.cell 9
  simp at c9
  go_wp2_with fail
  refine (add0 _ _ _ _).mono ?_
  rintro e wS ⟨rfl, rfl⟩
  clear c9
  have c10 := HBw11.out.cell 10
  simp at c10
  go_wp2_with fail
  refine (put_datas _).mono ?_
  rintro e w12 ⟨⟨D10, n10, q10, rfl⟩, hs⟩
  clear c10
  have HBw12 := Lib.hid (HBw11.out.step hs id)
  have HWw12 := Lib.hid (HWw11.out.step hs id)
  have HSw12 := Lib.hid (HSw11.out.trans hs)
  clear hs HBw11 HWw11 HSw11
  have c10 := HBw12.out.cell 10
  simp at c10
  go_wp2_with fail
  refine (add0 _ _ _ _).mono ?_
  rintro e wS ⟨rfl, rfl⟩
  clear c10
  have c0 := HWw12.out.cell 0
  simp at c0
  go_wp2_with fail
  refine (join0 _).mono ?_
  rintro e wz ⟨D, rfl, hr, hs⟩
  go_wp2_with fail
  refine (aunless_ok _ _ _).mono ?_
  rintro e wS ⟨rfl, rfl⟩
  go_wp2_with fail
  go_ret
  exact ⟨D, rfl, hr.mono (fun k hk => by have := HSw12.out.size; omega), HSw12.out.trans hs⟩
end Go.Proofs.Yteibigianodhnaa
