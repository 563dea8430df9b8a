/-
  ops: Find, the reference's rows, the law OpsNames.
-/
import Derived.Test.YtfemeendkjcffaaOpJ
set_option linter.unusedVariables false
set_option linter.unusedSimpArgs false
namespace Go.Proofs.Ytfemeendkjcffaa
open Go.RowKit

theorem nm_t {x s : List UInt8} (h : x = s) : ((str x).toList == (str s).toList) = true := by rw [h]; exact beq_self_eq_true _
theorem nm_f {x s : List UInt8} (h : ¬ x = s) : ((str x).toList == (str s).toList) = false := by
  rw [str_toList, str_toList]
  exact beq_eq_false_iff_ne.2 h
/-- The first of some that has a name. -/
def findGo (s : List UInt8) : Nat → Nat → Nat × Bool
  | 0, _ => (0, false)
  | f + 1, op => if (infF op).name = s then (op, true) else findGo s f (op + 1)
def findF (s : List UInt8) : Nat × Bool := if s = [] then (0, false) else findGo s 256 0

set_option maxRecDepth 100000 in
set_option maxHeartbeats 1600000 in
theorem find_walk (w : World) (s : List UInt8) : Calls Try.prog 31 #[.string (str s)] w fun e w' => e = .returned (.tuple #[.int .u8 ((findF s).1 : Int), .bool (findF s).2]) ∧ Step (fun _ => False) w w' := by
  obtain ⟨r, hr⟩ : ∃ r, r = findF s := ⟨_, rfl⟩
  rw [← hr]
  rw [findF] at hr
  by_cases hs : s = []
  · rw [if_pos hs] at hr
    subst hr
    have he : (str s).toList.isEmpty = true := by rw [hs, str_toList]; rfl
    clear hs
    go_enter Try.func31, Try.ntmps31
    go_wp2_with fail
    go_loopw [4] (fun iv wr => iv = .int .i64 0 ∧ Hid (wr = w)) (fun iv _ => 257 - (intOf iv).toNat)
    case atStart => exact ⟨rfl, by first | exact Lib.hid trivial | rfl⟩
    case round =>
      obtain ⟨rfl, hq⟩ := hrel
      have hq' := hq.out
      subst hq'
      go_wp2_with fail
      go_ret2
      exact ⟨rfl, Step.refl⟩
  · rw [if_neg hs] at hr
    replace hr := Lib.hid hr
    have he : (str s).toList.isEmpty = false := by
      rw [str_toList]
      cases hx : s with
      | nil => exact absurd hx hs
      | cons => rfl
    clear hs
    go_enter Try.func31, Try.ntmps31
    go_wp2_with fail
    go_loopw [4] (fun iv wr => ∃ k : Nat, k ≤ 256 ∧ iv = .int .i64 (k : Int) ∧ Hid (r = findGo s (256 - k) k) ∧ Hid (Step (fun _ => False) w wr)) (fun iv _ => 257 - (intOf iv).toNat)
    case atStart => exact ⟨0, by omega, by rfl, hr, Step.refl⟩
    case round =>
      obtain ⟨k, hk, rfl, HR, HS⟩ := hrel
      by_cases hlt : k < 256
      · have hlt' : (k : Int) < 256 := by omega
        have hw1 := IntWalk.i64_in ((k : Int) + 1) (by omega)
        have hw2 := IntWalk.u8_in (k : Int) (by omega)
        have HO : Hid (∀ w, Calls Try.prog 25 #[.int .u8 (k : Int)] w fun e w' => e = .returned (infV (infF k)) ∧ Step (fun _ => False) w w') := fun w => of_walk w k hlt
        rw [show 256 - k = (256 - (k + 1)) + 1 by omega] at HR
        have HR := HR.out
        rw [findGo] at HR
        obtain ⟨i, hi⟩ : ∃ i, i = infF k := ⟨_, rfl⟩
        rw [← hi] at HO HR
        have hfd := field_inf i
        by_cases hn : i.name = s
        · have hE := nm_t hn
          rw [if_pos hn] at HR
          subst HR
          clear hi hn hlt hk hr
          go_wp2_with fail
          refine (HO.out _).mono ?_
          rintro e w6 ⟨rfl, hS6⟩
          have HS6 := Lib.hid (HS.out.trans hS6)
          clear hS6
          simp only [infV]
          go_wp2_with fail
          go_ret2
          exact ⟨rfl, HS6.out⟩
        · have hE := nm_f hn
          rw [if_neg hn] at HR
          have HR2 : Hid (r = findGo s (256 - (k + 1)) (k + 1)) := HR
          clear hi hn HR
          go_wp2_with fail
          refine (HO.out _).mono ?_
          rintro e w6 ⟨rfl, hS6⟩
          have HS6 := Lib.hid (HS.out.trans hS6)
          clear hS6
          simp only [infV]
          go_wp2_with fail
          go_roundw
          case rel => exact ⟨k + 1, by omega, by rw [Int.natCast_add]; rfl, HR2, HS6⟩
          case measure => simp [intOf]; omega
      · obtain rfl : k = 256 := by omega
        have hr0 : r = (0, false) := HR.out
        subst hr0
        clear hr HR hk hlt
        rw [show ((256 : Nat) : Int) = 256 from rfl]
        go_wp2_with fail
        go_ret2
        exact ⟨rfl, HS.out⟩

/-! ### Rows -/
def rowsA (k : Nat) : List Rr := (List.range k).filterMap fun op : Nat => if (ofR op).2 then some (ofR op).1 else none
theorem rowsA_t {k : Nat} (h : (ofR k).2 = true) : rowsA (k + 1) = rowsA k ++ [(ofR k).1] := by
  rw [rowsA, List.range_succ, List.filterMap_append, ← rowsA, List.filterMap_cons, if_pos h]; rfl
theorem rowsA_f {k : Nat} (h : (ofR k).2 = false) : rowsA (k + 1) = rowsA k := by
  rw [rowsA, List.range_succ, List.filterMap_append, ← rowsA, List.filterMap_cons, h]; simp
theorem rowsA_le (k : Nat) : (rowsA k).length ≤ k := by
  have := List.length_filterMap_le (fun op : Nat => if (ofR op).2 then some (ofR op).1 else none) (List.range k)
  rw [List.length_range] at this
  exact this
theorem E_rr : ElemTy Try.prog 36 24 6 72 := elem_of Try.underlying36 (z := .agg #[.int .i64 0, .string ByteArray.empty, .int .i64 0, .string ByteArray.empty, .string ByteArray.empty, .bool false]) (by kernel_rfl) rfl (by decide)
theorem rr_one (r : Rr) : ∀ u ∈ #[Value.int .i64 r.op, .string (str r.name), .int .i64 (r.imm : Int), .string (str r.takes), .string (str r.has), .bool r.free].toList, u.oneCell' = true := by
  intro u hu
  simp at hu
  rcases hu with rfl | rfl | rfl | rfl | rfl | rfl <;> rfl

set_option maxRecDepth 100000 in
set_option maxHeartbeats 1600000 in
theorem rows_walk (w : World) : Calls Try.prog 30 #[] w fun e w' => ∃ D c, e = .returned (.slice D (rowsA 256).length c) ∧ Reads w' (fun k => w.heap.size ≤ k) 6 D (rowsA 256).length ((rowsA 256).flatMap Rr.cells) ∧ Step (fun _ => False) w w' := by
  have ho0 : w.ownsRow w.heap.size 24 6 (.slice none 0 0) 0 ((rowsA 0).flatMap Rr.cells) := World.ownsRow_nil _ _ _ _
  go_enter Try.func30, Try.ntmps30
  go_wp2_with fail
  go_loopw [1, 2] (fun ov iv wr => ∃ (k cc : Nat) (D : Option Addr), k ≤ 256 ∧ ov = .slice D (rowsA k).length cc ∧ iv = .int .i64 (k : Int) ∧ Hid (Step (fun _ => False) w wr) ∧ Hid (wr.ownsRow w.heap.size 24 6 (.slice D (rowsA k).length cc) (rowsA k).length ((rowsA k).flatMap Rr.cells))) (fun _ iv _ => 257 - (intOf iv).toNat)
  case atStart => exact ⟨0, 0, none, by omega, rfl, rfl, Step.refl, ho0⟩
  case round =>
    obtain ⟨k, cc, D, hk, rfl, rfl, HS, HO⟩ := hrel
    clear ho0
    have hle := rowsA_le k
    by_cases hlt : k < 256
    · have hlt' : (k : Int) < 256 := by omega
      have hw1 := IntWalk.i64_in ((k : Int) + 1) (by omega)
      have HF : Hid (∀ w, Calls Try.prog 24 #[.int .i64 (k : Int)] w fun e w' => e = .returned (.tuple #[rrV (ofR k).1, .bool (ofR k).2]) ∧ Step (fun _ => False) w w') := fun w => ofref_walk w k (by omega)
      have hT := @rowsA_t k
      have hN := @rowsA_f k
      generalize hacc : rowsA k = acc at *
      generalize hacc2 : rowsA (k + 1) = acc2 at *
      obtain ⟨⟨r, ok⟩, hp⟩ : ∃ p, p = ofR k := ⟨_, rfl⟩
      rw [← hp] at HF hT hN
      have HA2 := Lib.hid hacc2
      clear hacc hp hacc2
      cases ok
      · have hN := hN rfl
        subst hN
        clear hT
        go_wp2_with fail
        refine (HF.out _).mono ?_
        rintro e w6 ⟨rfl, hS6⟩
        have HO6 := Lib.hid (own_step HO.out hS6 (fun _ _ => id))
        have HS6 := Lib.hid (HS.out.trans hS6)
        clear hS6 HO HS
        simp only [rrV]
        go_wp2_with fail
        go_roundw
        case rel => exact ⟨k + 1, cc, D, by omega, by rw [HA2.out], by rw [Int.natCast_add]; rfl, HS6.out.alloc _, by rw [HA2.out]; exact HO6.out.alloc _⟩
        case measure => simp [intOf]; omega
      · have hT := hT rfl
        subst hT
        clear hN
        go_wp2_with fail
        refine (HF.out _).mono ?_
        rintro e w6 ⟨rfl, hS6⟩
        have HO6 := Lib.hid ((own_step HO.out hS6 (fun _ _ => id)).alloc (.cells #[Value.int .i64 r.op, .string (str r.name), .int .i64 (r.imm : Int), .string (str r.takes), .string (str r.has), .bool r.free] 24))
        have HS6 := Lib.hid ((HS.out.trans hS6).alloc (.cells #[Value.int .i64 r.op, .string (str r.name), .int .i64 (r.imm : Int), .string (str r.takes), .string (str r.has), .bool r.free] 24))
        have hsz6 := HS6.out.size
        clear hS6 HO HS
        have hm : acc.length + 1 ≤ maxLen := by unfold maxLen; omega
        have hone := rr_one r
        have HRN : Hid (Reads ((w6.alloc (.cells #[Value.int .i64 r.op, .string (str r.name), .int .i64 (r.imm : Int), .string (str r.takes), .string (str r.has), .bool r.free] 24)).alloc (.cells #[Value.int .i64 r.op, .string (str r.name), .int .i64 (r.imm : Int), .string (str r.takes), .string (str r.has), .bool r.free] 24)) (fun k => k = w6.heap.size + 1) 6 (some ⟨w6.heap.size + 1, 0, none⟩) 1 (#[Value.int .i64 r.op, .string (str r.name), .int .i64 (r.imm : Int), .string (str r.takes), .string (str r.has), .bool r.free] : Array Value).toList) := by
          have := reads_new (w6.alloc (.cells #[Value.int .i64 r.op, .string (str r.name), .int .i64 (r.imm : Int), .string (str r.takes), .string (str r.has), .bool r.free] 24)) #[Value.int .i64 r.op, .string (str r.name), .int .i64 (r.imm : Int), .string (str r.takes), .string (str r.has), .bool r.free] 24 6 1 rfl
          rw [show (w6.alloc (.cells #[Value.int .i64 r.op, .string (str r.name), .int .i64 (r.imm : Int), .string (str r.takes), .string (str r.has), .bool r.free] 24)).heap.size = w6.heap.size + 1 by simp] at this
          exact this
        simp only [rrV]
        go_wp2_with (at_builtin; refine wpList_append_src _ rfl _ _ (by rfl) E_rr (by rfl) (HO6.out.alloc _) (by rfl) HRN.out hone hm (by omega) (by simp at hsz6 ⊢; omega) ?_; intro D' c' w8 hown8 hgrow hat)
        have HS8 := Lib.hid (grow_step (HS6.out.alloc _) hgrow (HO6.out.alloc _) (Nat.le_refl _))
        have hrw : acc.flatMap Rr.cells ++ #[Value.int .i64 r.op, .string (str r.name), .int .i64 (r.imm : Int), .string (str r.takes), .string (str r.has), .bool r.free].toList = (acc ++ [r]).flatMap Rr.cells := by rw [List.flatMap_append]; rfl
        rw [hrw] at hown8
        have hlen : acc.length + 1 = (acc ++ [r]).length := by simp
        rw [hlen] at hown8 ⊢
        exact ⟨⟨k + 1, c', D', by omega, by rw [HA2.out], by rw [Int.natCast_add]; rfl, HS8, by rw [HA2.out]; exact hown8⟩, by rw [show intOf (.int .i64 ((k : Int) + 1)) = ((k + 1 : Nat) : Int) from rfl, show intOf (.int .i64 (k : Int)) = (k : Int) from rfl]; omega⟩
    · obtain rfl : k = 256 := by omega
      go_wp2_with fail
      go_ret
      exact ⟨D, cc, rfl, (Reads.of_own HO.out).mono (fun j hj e => own_ge HO.out j e), HS.out⟩
end Go.Proofs.Ytfemeendkjcffaa
