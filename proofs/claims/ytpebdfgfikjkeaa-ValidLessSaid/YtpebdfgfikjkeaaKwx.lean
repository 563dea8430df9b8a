/-
  Kwx: KvX, KvU.
-/
import Derived.Test.YtpebdfgfikjkeaaKwm
import Derived.Test.YtpebdfgfikjkeaaKkl
import Derived.Test.YtpebdfgfikjkeaaKvT
import Derived.Test.YtpebdfgfikjkeaaKwv
set_option linter.unusedVariables false
set_option linter.unusedSimpArgs false
/-! creellaw17: texts, Small. -/
namespace Go.Proofs.Ytpebdfgfikjkeaa
open Go.RowKit
section
variable {R : Nat → Prop} {a : Md} {M : Mv}
set_option maxRecDepth 100000 in
set_option maxHeartbeats 3200000 in
theorem texts_walk (w : World) (hM : ModIn w R a M) (n0 : M.types.length ≤ 1000) (n1 : M.imports.length ≤ 1000) (n6 : M.exports.length ≤ 1000) (n16 : M.nd.length ≤ 1000) :
    Calls Try.prog 17 #[.agg (#[.slice a.A0 M.types.length a.c0, .slice a.A1 M.imports.length a.c1, .slice a.A2 M.funcs.length a.c2, .slice a.A3 M.tables.length a.c3, .slice a.A4 M.mems.length a.c4, .slice a.A5 M.globals.length a.c5, .slice a.A6 M.exports.length a.c6, .int .i64 M.start, .slice a.A8 M.elems.length a.c8, .slice a.A9 M.codes.length a.c9, .slice a.A10 M.datas.length a.c10, .bool M.has, .int .u32 (M.d1 : Int), .int .u32 (M.d2 : Int), .int .u32 (M.d3 : Int), .int .u32 (M.d4 : Int), .slice a.A16 M.nd.length a.c16])] w fun e w' => BoolOut ((∀ t ∈ M.types, t.1.length ≤ 100 ∧ t.2.length ≤ 100) ∧ ∀ x ∈ M.exports, x.n.length ≤ 300) e ∧ Step (fun _ => False) w w' := by
  have s1 : Step (fun _ => False) w (w.alloc (.cells (#[.slice a.A0 M.types.length a.c0, .slice a.A1 M.imports.length a.c1, .slice a.A2 M.funcs.length a.c2, .slice a.A3 M.tables.length a.c3, .slice a.A4 M.mems.length a.c4, .slice a.A5 M.globals.length a.c5, .slice a.A6 M.exports.length a.c6, .int .i64 M.start, .slice a.A8 M.elems.length a.c8, .slice a.A9 M.codes.length a.c9, .slice a.A10 M.datas.length a.c10, .bool M.has, .int .u32 (M.d1 : Int), .int .u32 (M.d2 : Int), .int .u32 (M.d3 : Int), .int .u32 (M.d4 : Int), .slice a.A16 M.nd.length a.c16]) 53)) := Step.refl.alloc _
  have B0 := Lib.hid (Blk.new w 53 (#[.slice a.A0 M.types.length a.c0, .slice a.A1 M.imports.length a.c1, .slice a.A2 M.funcs.length a.c2, .slice a.A3 M.tables.length a.c3, .slice a.A4 M.mems.length a.c4, .slice a.A5 M.globals.length a.c5, .slice a.A6 M.exports.length a.c6, .int .i64 M.start, .slice a.A8 M.elems.length a.c8, .slice a.A9 M.codes.length a.c9, .slice a.A10 M.datas.length a.c10, .bool M.has, .int .u32 (M.d1 : Int), .int .u32 (M.d2 : Int), .int .u32 (M.d3 : Int), .int .u32 (M.d4 : Int), .slice a.A16 M.nd.length a.c16]))
  have HM := Lib.hid (hM.step s1 (fun _ _ => id))
  have S1 := Lib.hid s1
  clear s1 hM
  go_enter Try.func17, Try.ntmps17
  go_upto_region 1 with fail
  generalize w.alloc (.cells (#[.slice a.A0 M.types.length a.c0, .slice a.A1 M.imports.length a.c1, .slice a.A2 M.funcs.length a.c2, .slice a.A3 M.tables.length a.c3, .slice a.A4 M.mems.length a.c4, .slice a.A5 M.globals.length a.c5, .slice a.A6 M.exports.length a.c6, .int .i64 M.start, .slice a.A8 M.elems.length a.c8, .slice a.A9 M.codes.length a.c9, .slice a.A10 M.datas.length a.c10, .bool M.has, .int .u32 (M.d1 : Int), .int .u32 (M.d2 : Int), .int .u32 (M.d3 : Int), .int .u32 (M.d4 : Int), .slice a.A16 M.nd.length a.c16]) 53) = V at *
  generalize w.heap.size = X at *
  go_wp2_with fail
  go_loopw [3] (fun iv wr => ∃ (j : Nat), j ≤ M.types.length ∧ iv = .int .i64 (j : Int) ∧ Hid (∀ t ∈ M.types.take j, t.1.length ≤ 100 ∧ t.2.length ≤ 100) ∧ Hid (V = wr)) (fun iv _ => M.types.length + 1 - (intOf iv).toNat)
  case atStart => exact ⟨0, by omega, rfl, (fun x hx => by rw [List.take_zero] at hx; cases hx), rfl⟩
  case round =>
    obtain ⟨j, hj, rfl, HI, HW⟩ := hrel
    have hw := HW.out
    subst hw
    have z0 := (B0.out.cell 0).trans (show _ = some (Value.slice a.A0 M.types.length a.c0) from rfl)
    by_cases hlt : j < M.types.length
    · have q1 : (j : Int) < (M.types.length : Int) := by omega
      have i0 : (0 : Int) ≤ (j : Int) := by omega
      have hw1 := IntWalk.i64_in ((j : Int) + 1) (by omega)
      obtain ⟨bk, off, hA, _, hbl, hc⟩ := reads_row ftC 2 (by decide) (fun _ => rfl) HM.out.types (k := j) hlt
      rw [hA] at z0
      clear hA
      have HU : Hid (M.types.take (j + 1) = M.types.take j ++ [M.types[j]]) := List.take_succ_eq_append_getElem hlt
      obtain ⟨x, hxe⟩ : ∃ x, x = M.types[j] := ⟨_, rfl⟩
      rw [← hxe] at hc HU
      clear hxe
      obtain ⟨p, q⟩ := x
      have c0 := hc 0 _ rfl
      have c1 := hc 1 _ rfl
      simp only [Nat.add_zero] at c0
      have hzp := str_size p
      have hzq := str_size q
      clear hc
      try simp only at c0 c1
      by_cases h0 : (100 : Int) < (p.length : Int)
      · go_wp2_with fail
        go_ret
        exact ⟨⟨false, rfl, fun h => by cases h⟩, S1.out⟩
      · skip
        by_cases h1 : (100 : Int) < (q.length : Int)
        · go_wp2_with fail
          go_ret
          exact ⟨⟨false, rfl, fun h => by cases h⟩, S1.out⟩
        · skip
          have HI2 : Hid (∀ t ∈ M.types.take (j + 1), t.1.length ≤ 100 ∧ t.2.length ≤ 100) := fun x hx => by
            rw [HU.out] at hx
            rcases List.mem_append.1 hx with hx | hx
            · exact HI.out x hx
            · rw [List.mem_singleton.1 hx]
              exact ⟨by simp only; omega, by simp only; omega⟩
          go_wp2_with fail
          go_roundw
          case rel => exact ⟨j + 1, by omega, by rw [Int.natCast_add]; rfl, HI2, trivial⟩
          case measure => simp [intOf]; omega
    · have hje : j = M.types.length := by omega
      have HItypes : Hid (∀ t ∈ M.types, t.1.length ≤ 100 ∧ t.2.length ≤ 100) := fun x hx => HI.out x (by rw [hje, List.take_length]; exact hx)
      clear HI
      have q1 : ¬ (j : Int) < (M.types.length : Int) := by omega
      clear hlt hje hj HW
      go_wp2_with fail
      go_loopw [4] (fun iv wr => ∃ (j : Nat), j ≤ M.imports.length ∧ iv = .int .i64 (j : Int) ∧ Hid (V = wr)) (fun iv _ => M.imports.length + 1 - (intOf iv).toNat)
      case atStart => exact ⟨0, by omega, rfl, rfl⟩
      case round =>
        obtain ⟨j, hj, rfl, HW⟩ := hrel
        have hw := HW.out
        subst hw
        have z0 := (B0.out.cell 1).trans (show _ = some (Value.slice a.A1 M.imports.length a.c1) from rfl)
        by_cases hlt : j < M.imports.length
        · have q1 : (j : Int) < (M.imports.length : Int) := by omega
          have i0 : (0 : Int) ≤ (j : Int) := by omega
          have hw1 := IntWalk.i64_in ((j : Int) + 1) (by omega)
          obtain ⟨bk, off, hA, _, hbl, hc⟩ := reads_row Im.cells 9 (by decide) Im.nine HM.out.imports (k := j) hlt
          rw [hA] at z0
          clear hA
          have HU : Hid (M.imports.take (j + 1) = M.imports.take j ++ [M.imports[j]]) := List.take_succ_eq_append_getElem hlt
          obtain ⟨x, hxe⟩ : ∃ x, x = M.imports[j] := ⟨_, rfl⟩
          rw [← hxe] at hc HU
          clear hxe
          obtain ⟨p, q, kk, tt, mi, ma, bo, g, gm⟩ := x
          have c0 := hc 0 _ rfl
          have c1 := hc 1 _ rfl
          simp only [Nat.add_zero] at c0
          have hzp := str_size p
          have hzq := str_size q
          clear hc
          try simp only at c0 c1
          by_cases h0 : (300 : Int) < (p.length : Int)
          · go_wp2_with fail
            go_ret
            exact ⟨⟨false, rfl, fun h => by cases h⟩, S1.out⟩
          · skip
            by_cases h1 : (300 : Int) < (q.length : Int)
            · go_wp2_with fail
              go_ret
              exact ⟨⟨false, rfl, fun h => by cases h⟩, S1.out⟩
            · skip
              go_wp2_with fail
              go_roundw
              case rel => exact ⟨j + 1, by omega, by rw [Int.natCast_add]; rfl, trivial⟩
              case measure => simp [intOf]; omega
        · have hje : j = M.imports.length := by omega
          have q1 : ¬ (j : Int) < (M.imports.length : Int) := by omega
          clear hlt hje hj HW
          go_wp2_with fail
          go_loopw [5] (fun iv wr => ∃ (j : Nat), j ≤ M.exports.length ∧ iv = .int .i64 (j : Int) ∧ Hid (∀ t ∈ M.exports.take j, t.n.length ≤ 300) ∧ Hid (V = wr)) (fun iv _ => M.exports.length + 1 - (intOf iv).toNat)
          case atStart => exact ⟨0, by omega, rfl, (fun x hx => by rw [List.take_zero] at hx; cases hx), rfl⟩
          case round =>
            obtain ⟨j, hj, rfl, HI, HW⟩ := hrel
            have hw := HW.out
            subst hw
            have z0 := (B0.out.cell 6).trans (show _ = some (Value.slice a.A6 M.exports.length a.c6) from rfl)
            by_cases hlt : j < M.exports.length
            · have q1 : (j : Int) < (M.exports.length : Int) := by omega
              have i0 : (0 : Int) ≤ (j : Int) := by omega
              have hw1 := IntWalk.i64_in ((j : Int) + 1) (by omega)
              obtain ⟨bk, off, hA, _, hbl, hc⟩ := reads_row Ex.cells 3 (by decide) Ex.three HM.out.exports (k := j) hlt
              rw [hA] at z0
              clear hA
              have HU : Hid (M.exports.take (j + 1) = M.exports.take j ++ [M.exports[j]]) := List.take_succ_eq_append_getElem hlt
              obtain ⟨x, hxe⟩ : ∃ x, x = M.exports[j] := ⟨_, rfl⟩
              rw [← hxe] at hc HU
              clear hxe
              obtain ⟨p, kk, ix⟩ := x
              have c0 := hc 0 _ rfl
              simp only [Nat.add_zero] at c0
              have hzp := str_size p
              clear hc
              try simp only at c0
              by_cases h0 : (300 : Int) < (p.length : Int)
              · go_wp2_with fail
                go_ret
                exact ⟨⟨false, rfl, fun h => by cases h⟩, S1.out⟩
              · skip
                have HI2 : Hid (∀ t ∈ M.exports.take (j + 1), t.n.length ≤ 300) := fun x hx => by
                  rw [HU.out] at hx
                  rcases List.mem_append.1 hx with hx | hx
                  · exact HI.out x hx
                  · rw [List.mem_singleton.1 hx]
                    exact (by simp only; omega)
                go_wp2_with fail
                go_roundw
                case rel => exact ⟨j + 1, by omega, by rw [Int.natCast_add]; rfl, HI2, trivial⟩
                case measure => simp [intOf]; omega
            · have hje : j = M.exports.length := by omega
              have HIexports : Hid (∀ t ∈ M.exports, t.n.length ≤ 300) := fun x hx => HI.out x (by rw [hje, List.take_length]; exact hx)
              clear HI
              have q1 : ¬ (j : Int) < (M.exports.length : Int) := by omega
              clear hlt hje hj HW
              go_wp2_with fail
              go_loopw [6] (fun iv wr => ∃ (j : Nat), j ≤ M.nd.length ∧ iv = .int .i64 (j : Int) ∧ Hid (V = wr)) (fun iv _ => M.nd.length + 1 - (intOf iv).toNat)
              case atStart => exact ⟨0, by omega, rfl, rfl⟩
              case round =>
                obtain ⟨j, hj, rfl, HW⟩ := hrel
                have hw := HW.out
                subst hw
                have z0 := (B0.out.cell 16).trans (show _ = some (Value.slice a.A16 M.nd.length a.c16) from rfl)
                by_cases hlt : j < M.nd.length
                · have q1 : (j : Int) < (M.nd.length : Int) := by omega
                  have i0 : (0 : Int) ≤ (j : Int) := by omega
                  have hw1 := IntWalk.i64_in ((j : Int) + 1) (by omega)
                  obtain ⟨bk, off, hA, _, hbl, hc⟩ := reads_row stC 1 (by decide) (fun _ => rfl) HM.out.nd (k := j) hlt
                  rw [hA] at z0
                  clear hA
                  have HU : Hid (M.nd.take (j + 1) = M.nd.take j ++ [M.nd[j]]) := List.take_succ_eq_append_getElem hlt
                  obtain ⟨x, hxe⟩ : ∃ x, x = M.nd[j] := ⟨_, rfl⟩
                  rw [← hxe] at hc HU
                  clear hxe
                  obtain ⟨p, hp⟩ : ∃ p, p = x := ⟨_, rfl⟩
                  rw [← hp] at hc
                  clear hp
                  have c0 := hc 0 _ rfl
                  simp only [Nat.add_zero] at c0
                  simp only [Nat.mul_one] at c0
                  have hzp := str_size p
                  clear hc
                  try simp only at c0
                  by_cases h0 : (300 : Int) < (p.length : Int)
                  · go_wp2_with fail
                    go_ret
                    exact ⟨⟨false, rfl, fun h => by cases h⟩, S1.out⟩
                  · skip
                    go_wp2_with fail
                    go_roundw
                    case rel => exact ⟨j + 1, by omega, by rw [Int.natCast_add]; rfl, trivial⟩
                    case measure => simp [intOf]; omega
                · have hje : j = M.nd.length := by omega
                  have q1 : ¬ (j : Int) < (M.nd.length : Int) := by omega
                  clear hlt hje hj HW
                  go_wp2_with fail
                  go_ret
                  exact ⟨⟨true, rfl, fun _ => ⟨fun p q h => HItypes.out (p, q) h, HIexports.out⟩⟩, S1.out⟩

set_option maxRecDepth 100000 in
set_option maxHeartbeats 3200000 in
theorem small_big17 (w : World) (hM : ModIn w R a M) (hcap : M.types.length ≤ 300000000000000 ∧ M.imports.length ≤ 300000000000000 ∧ M.funcs.length ≤ 300000000000000 ∧ M.tables.length ≤ 300000000000000 ∧ M.mems.length ≤ 300000000000000 ∧ M.globals.length ≤ 300000000000000 ∧ M.exports.length ≤ 300000000000000 ∧ M.elems.length ≤ 300000000000000 ∧ M.codes.length ≤ 300000000000000 ∧ M.datas.length ≤ 300000000000000) (h : ((40 : Int) < (M.types.length : Int) + (M.imports.length : Int)) ∨ (¬ (40 : Int) < (M.types.length : Int) + (M.imports.length : Int) ∧ (40 : Int) < (M.funcs.length : Int) + (M.tables.length : Int) + (M.mems.length : Int)) ∨ (¬ (40 : Int) < (M.types.length : Int) + (M.imports.length : Int) ∧ ¬ (40 : Int) < (M.funcs.length : Int) + (M.tables.length : Int) + (M.mems.length : Int) ∧ (40 : Int) < (M.globals.length : Int) + (M.exports.length : Int)) ∨ (¬ (40 : Int) < (M.types.length : Int) + (M.imports.length : Int) ∧ ¬ (40 : Int) < (M.funcs.length : Int) + (M.tables.length : Int) + (M.mems.length : Int) ∧ ¬ (40 : Int) < (M.globals.length : Int) + (M.exports.length : Int) ∧ (40 : Int) < (M.elems.length : Int) + (M.codes.length : Int) + (M.datas.length : Int)) ∨ (¬ (40 : Int) < (M.types.length : Int) + (M.imports.length : Int) ∧ ¬ (40 : Int) < (M.funcs.length : Int) + (M.tables.length : Int) + (M.mems.length : Int) ∧ ¬ (40 : Int) < (M.globals.length : Int) + (M.exports.length : Int) ∧ ¬ (40 : Int) < (M.elems.length : Int) + (M.codes.length : Int) + (M.datas.length : Int) ∧ (20 : Int) < (M.nd.length : Int))) :
    Calls Try.prog 10 #[.agg (#[.slice a.A0 M.types.length a.c0, .slice a.A1 M.imports.length a.c1, .slice a.A2 M.funcs.length a.c2, .slice a.A3 M.tables.length a.c3, .slice a.A4 M.mems.length a.c4, .slice a.A5 M.globals.length a.c5, .slice a.A6 M.exports.length a.c6, .int .i64 M.start, .slice a.A8 M.elems.length a.c8, .slice a.A9 M.codes.length a.c9, .slice a.A10 M.datas.length a.c10, .bool M.has, .int .u32 (M.d1 : Int), .int .u32 (M.d2 : Int), .int .u32 (M.d3 : Int), .int .u32 (M.d4 : Int), .slice a.A16 M.nd.length a.c16])] w fun e w' => e = .returned (.bool false) ∧ Step (fun _ => False) w w' := by
  obtain ⟨cp0, cp1, cp2, cp3, cp4, cp5, cp6, cp8, cp9, cp10⟩ := hcap
  have k1 := IntWalk.i64_in ((M.types.length : Int) + (M.imports.length : Int)) (by omega)
  have k2 := IntWalk.i64_in ((M.funcs.length : Int) + (M.tables.length : Int)) (by omega)
  have k3 := IntWalk.i64_in ((M.funcs.length : Int) + (M.tables.length : Int) + (M.mems.length : Int)) (by omega)
  have k4 := IntWalk.i64_in ((M.globals.length : Int) + (M.exports.length : Int)) (by omega)
  have k5 := IntWalk.i64_in ((M.elems.length : Int) + (M.codes.length : Int)) (by omega)
  have k6 := IntWalk.i64_in ((M.elems.length : Int) + (M.codes.length : Int) + (M.datas.length : Int)) (by omega)
  have s1 : Step (fun _ => False) w (w.alloc (.cells (#[.slice a.A0 M.types.length a.c0, .slice a.A1 M.imports.length a.c1, .slice a.A2 M.funcs.length a.c2, .slice a.A3 M.tables.length a.c3, .slice a.A4 M.mems.length a.c4, .slice a.A5 M.globals.length a.c5, .slice a.A6 M.exports.length a.c6, .int .i64 M.start, .slice a.A8 M.elems.length a.c8, .slice a.A9 M.codes.length a.c9, .slice a.A10 M.datas.length a.c10, .bool M.has, .int .u32 (M.d1 : Int), .int .u32 (M.d2 : Int), .int .u32 (M.d3 : Int), .int .u32 (M.d4 : Int), .slice a.A16 M.nd.length a.c16]) 53)) := Step.refl.alloc _
  have B0 := Lib.hid (Blk.new w 53 (#[.slice a.A0 M.types.length a.c0, .slice a.A1 M.imports.length a.c1, .slice a.A2 M.funcs.length a.c2, .slice a.A3 M.tables.length a.c3, .slice a.A4 M.mems.length a.c4, .slice a.A5 M.globals.length a.c5, .slice a.A6 M.exports.length a.c6, .int .i64 M.start, .slice a.A8 M.elems.length a.c8, .slice a.A9 M.codes.length a.c9, .slice a.A10 M.datas.length a.c10, .bool M.has, .int .u32 (M.d1 : Int), .int .u32 (M.d2 : Int), .int .u32 (M.d3 : Int), .int .u32 (M.d4 : Int), .slice a.A16 M.nd.length a.c16]))
  have HM := Lib.hid (hM.step s1 (fun _ _ => id))
  have S1 := Lib.hid s1
  clear s1 hM
  go_enter Try.func10, Try.ntmps10
  go_upto_region 1 with fail
  generalize w.alloc (.cells (#[.slice a.A0 M.types.length a.c0, .slice a.A1 M.imports.length a.c1, .slice a.A2 M.funcs.length a.c2, .slice a.A3 M.tables.length a.c3, .slice a.A4 M.mems.length a.c4, .slice a.A5 M.globals.length a.c5, .slice a.A6 M.exports.length a.c6, .int .i64 M.start, .slice a.A8 M.elems.length a.c8, .slice a.A9 M.codes.length a.c9, .slice a.A10 M.datas.length a.c10, .bool M.has, .int .u32 (M.d1 : Int), .int .u32 (M.d2 : Int), .int .u32 (M.d3 : Int), .int .u32 (M.d4 : Int), .slice a.A16 M.nd.length a.c16]) 53) = V at *
  generalize w.heap.size = X at *
  have x0 := (B0.out.cell 0).trans (show _ = some (Value.slice a.A0 M.types.length a.c0) from rfl)
  have x1 := (B0.out.cell 1).trans (show _ = some (Value.slice a.A1 M.imports.length a.c1) from rfl)
  have x2 := (B0.out.cell 2).trans (show _ = some (Value.slice a.A2 M.funcs.length a.c2) from rfl)
  have x3 := (B0.out.cell 3).trans (show _ = some (Value.slice a.A3 M.tables.length a.c3) from rfl)
  have x4 := (B0.out.cell 4).trans (show _ = some (Value.slice a.A4 M.mems.length a.c4) from rfl)
  have x5 := (B0.out.cell 5).trans (show _ = some (Value.slice a.A5 M.globals.length a.c5) from rfl)
  have x6 := (B0.out.cell 6).trans (show _ = some (Value.slice a.A6 M.exports.length a.c6) from rfl)
  have x8 := (B0.out.cell 8).trans (show _ = some (Value.slice a.A8 M.elems.length a.c8) from rfl)
  have x9 := (B0.out.cell 9).trans (show _ = some (Value.slice a.A9 M.codes.length a.c9) from rfl)
  have x10 := (B0.out.cell 10).trans (show _ = some (Value.slice a.A10 M.datas.length a.c10) from rfl)
  have x16 := (B0.out.cell 16).trans (show _ = some (Value.slice a.A16 M.nd.length a.c16) from rfl)
  rcases h with g0 | ⟨g0, g1⟩ | ⟨g0, g1, g2⟩ | ⟨g0, g1, g2, g3⟩ | ⟨g0, g1, g2, g3, g4⟩
  all_goals
    go_wp2_with fail
    go_ret
    exact ⟨rfl, S1.out⟩
set_option maxRecDepth 100000 in
set_option maxHeartbeats 3200000 in
theorem small_ok17 (w : World) (hM : ModIn w R a M) (g0 : ¬ (40 : Int) < (M.types.length : Int) + (M.imports.length : Int)) (g1 : ¬ (40 : Int) < (M.funcs.length : Int) + (M.tables.length : Int) + (M.mems.length : Int)) (g2 : ¬ (40 : Int) < (M.globals.length : Int) + (M.exports.length : Int)) (g3 : ¬ (40 : Int) < (M.elems.length : Int) + (M.codes.length : Int) + (M.datas.length : Int)) (g4 : ¬ (20 : Int) < (M.nd.length : Int)) :
    Calls Try.prog 10 #[.agg (#[.slice a.A0 M.types.length a.c0, .slice a.A1 M.imports.length a.c1, .slice a.A2 M.funcs.length a.c2, .slice a.A3 M.tables.length a.c3, .slice a.A4 M.mems.length a.c4, .slice a.A5 M.globals.length a.c5, .slice a.A6 M.exports.length a.c6, .int .i64 M.start, .slice a.A8 M.elems.length a.c8, .slice a.A9 M.codes.length a.c9, .slice a.A10 M.datas.length a.c10, .bool M.has, .int .u32 (M.d1 : Int), .int .u32 (M.d2 : Int), .int .u32 (M.d3 : Int), .int .u32 (M.d4 : Int), .slice a.A16 M.nd.length a.c16])] w fun e w' => BoolOut ((∀ t ∈ M.types, t.1.length ≤ 100 ∧ t.2.length ≤ 100) ∧ (∀ x ∈ M.exports, x.n.length ≤ 300) ∧ (∀ c ∈ M.codes, c.l.length ≤ 100 ∧ c.lo.length ≤ 20 ∧ ∀ x ∈ c.l, x.n ≤ 50) ∧ ∀ v ∈ M.elems, v.n ≤ 50) e ∧ Step (fun _ => False) w w' := by
  have k1 := IntWalk.i64_in ((M.types.length : Int) + (M.imports.length : Int)) (by omega)
  have k2 := IntWalk.i64_in ((M.funcs.length : Int) + (M.tables.length : Int)) (by omega)
  have k3 := IntWalk.i64_in ((M.funcs.length : Int) + (M.tables.length : Int) + (M.mems.length : Int)) (by omega)
  have k4 := IntWalk.i64_in ((M.globals.length : Int) + (M.exports.length : Int)) (by omega)
  have k5 := IntWalk.i64_in ((M.elems.length : Int) + (M.codes.length : Int)) (by omega)
  have k6 := IntWalk.i64_in ((M.elems.length : Int) + (M.codes.length : Int) + (M.datas.length : Int)) (by omega)
  have s1 : Step (fun _ => False) w (w.alloc (.cells (#[.slice a.A0 M.types.length a.c0, .slice a.A1 M.imports.length a.c1, .slice a.A2 M.funcs.length a.c2, .slice a.A3 M.tables.length a.c3, .slice a.A4 M.mems.length a.c4, .slice a.A5 M.globals.length a.c5, .slice a.A6 M.exports.length a.c6, .int .i64 M.start, .slice a.A8 M.elems.length a.c8, .slice a.A9 M.codes.length a.c9, .slice a.A10 M.datas.length a.c10, .bool M.has, .int .u32 (M.d1 : Int), .int .u32 (M.d2 : Int), .int .u32 (M.d3 : Int), .int .u32 (M.d4 : Int), .slice a.A16 M.nd.length a.c16]) 53)) := Step.refl.alloc _
  have B0 := Lib.hid (Blk.new w 53 (#[.slice a.A0 M.types.length a.c0, .slice a.A1 M.imports.length a.c1, .slice a.A2 M.funcs.length a.c2, .slice a.A3 M.tables.length a.c3, .slice a.A4 M.mems.length a.c4, .slice a.A5 M.globals.length a.c5, .slice a.A6 M.exports.length a.c6, .int .i64 M.start, .slice a.A8 M.elems.length a.c8, .slice a.A9 M.codes.length a.c9, .slice a.A10 M.datas.length a.c10, .bool M.has, .int .u32 (M.d1 : Int), .int .u32 (M.d2 : Int), .int .u32 (M.d3 : Int), .int .u32 (M.d4 : Int), .slice a.A16 M.nd.length a.c16]))
  have HM := Lib.hid (hM.step s1 (fun _ _ => id))
  have S1 := Lib.hid s1
  clear s1 hM
  go_enter Try.func10, Try.ntmps10
  go_upto_region 1 with fail
  generalize w.alloc (.cells (#[.slice a.A0 M.types.length a.c0, .slice a.A1 M.imports.length a.c1, .slice a.A2 M.funcs.length a.c2, .slice a.A3 M.tables.length a.c3, .slice a.A4 M.mems.length a.c4, .slice a.A5 M.globals.length a.c5, .slice a.A6 M.exports.length a.c6, .int .i64 M.start, .slice a.A8 M.elems.length a.c8, .slice a.A9 M.codes.length a.c9, .slice a.A10 M.datas.length a.c10, .bool M.has, .int .u32 (M.d1 : Int), .int .u32 (M.d2 : Int), .int .u32 (M.d3 : Int), .int .u32 (M.d4 : Int), .slice a.A16 M.nd.length a.c16]) 53) = V at *
  generalize w.heap.size = X at *
  have x0 := (B0.out.cell 0).trans (show _ = some (Value.slice a.A0 M.types.length a.c0) from rfl)
  have x1 := (B0.out.cell 1).trans (show _ = some (Value.slice a.A1 M.imports.length a.c1) from rfl)
  have x2 := (B0.out.cell 2).trans (show _ = some (Value.slice a.A2 M.funcs.length a.c2) from rfl)
  have x3 := (B0.out.cell 3).trans (show _ = some (Value.slice a.A3 M.tables.length a.c3) from rfl)
  have x4 := (B0.out.cell 4).trans (show _ = some (Value.slice a.A4 M.mems.length a.c4) from rfl)
  have x5 := (B0.out.cell 5).trans (show _ = some (Value.slice a.A5 M.globals.length a.c5) from rfl)
  have x6 := (B0.out.cell 6).trans (show _ = some (Value.slice a.A6 M.exports.length a.c6) from rfl)
  have x8 := (B0.out.cell 8).trans (show _ = some (Value.slice a.A8 M.elems.length a.c8) from rfl)
  have x9 := (B0.out.cell 9).trans (show _ = some (Value.slice a.A9 M.codes.length a.c9) from rfl)
  have x10 := (B0.out.cell 10).trans (show _ = some (Value.slice a.A10 M.datas.length a.c10) from rfl)
  have x16 := (B0.out.cell 16).trans (show _ = some (Value.slice a.A16 M.nd.length a.c16) from rfl)
  go_upto_region 3 with fail
  clear x0 x1 x2 x3 x4 x5 x6 x8 x9 x10 x16 k1 k2 k3 k4 k5 k6
  go_wp2_with fail
  go_loopw [3] (fun iv wr => ∃ (j : Nat), j ≤ M.codes.length ∧ iv = .int .i64 (j : Int) ∧ Hid (∀ c ∈ M.codes.take j, c.l.length ≤ 100 ∧ c.lo.length ≤ 20 ∧ ∀ x ∈ c.l, x.n ≤ 50) ∧ Hid (Step (fun _ => False) V wr)) (fun iv _ => M.codes.length + 1 - (intOf iv).toNat)
  case atStart => exact ⟨0, by omega, rfl, (fun x hx => by rw [List.take_zero] at hx; cases hx), Step.refl⟩
  case round =>
    obtain ⟨j, hj, rfl, HI, HS⟩ := hrel
    replace B0 := Lib.hid (B0.out.step HS.out id)
    replace HM := Lib.hid (HM.out.step HS.out (fun _ _ => id))
    replace S1 := Lib.hid (S1.out.trans HS.out)
    have z0 := (B0.out.cell 9).trans (show _ = some (Value.slice a.A9 M.codes.length a.c9) from rfl)
    by_cases hlt : j < M.codes.length
    · have q1 : (j : Int) < (M.codes.length : Int) := by omega
      have i0 : (0 : Int) ≤ (j : Int) := by omega
      have hw1 := IntWalk.i64_in ((j : Int) + 1) (by omega)
      obtain ⟨bk, off, hA, _, hbl, hc⟩ := reads_row Cv.cells 2 (by decide) Cv.two HM.out.codes (k := j) hlt
      rw [hA] at z0
      clear hA
      have HU : Hid (M.codes.take (j + 1) = M.codes.take j ++ [M.codes[j]]) := List.take_succ_eq_append_getElem hlt
      have HCv := Lib.hid (HM.out.cob M.codes[j] (List.getElem_mem hlt))
      obtain ⟨x, hxe⟩ : ∃ x, x = M.codes[j] := ⟨_, rfl⟩
      rw [← hxe] at hc HU HCv
      clear hxe
      obtain ⟨lo, l, LA, IA, lc, ic⟩ := x
      have c0 := hc 0 _ rfl
      have c1 := hc 1 _ rfl
      simp only [Nat.add_zero] at c0
      clear hc
      simp only at c0 c1
      by_cases h0 : (100 : Int) < (l.length : Int)
      · go_wp2_with fail
        go_ret
        exact ⟨⟨false, rfl, fun h => by cases h⟩, S1.out⟩
      · by_cases h1 : (20 : Int) < (lo.length : Int)
        · go_wp2_with fail
          go_ret
          exact ⟨⟨false, rfl, fun h => by cases h⟩, S1.out⟩
        · have HMU := Lib.hid (much_walk wr LA IA lo.length lc l.length ic l _ rfl (by omega) HCv.out.l)
          go_wp2_with fail
          refine HMU.out.mono ?_
          rintro e w1 ⟨⟨b, rfl, hb⟩, t1⟩
          have HS1 := Lib.hid (S1.out.trans t1)
          cases b with
          | true =>
            go_wp2_with fail
            go_ret
            exact ⟨⟨false, rfl, fun h => by cases h⟩, HS1.out⟩
          | false =>
            have HI2 : Hid (∀ c ∈ M.codes.take (j + 1), c.l.length ≤ 100 ∧ c.lo.length ≤ 20 ∧ ∀ x ∈ c.l, x.n ≤ 50) := fun x hx => by
              rw [HU.out] at hx
              rcases List.mem_append.1 hx with hx | hx
              · exact HI.out x hx
              · rw [List.mem_singleton.1 hx]
                exact ⟨by simp only; omega, by simp only; omega, hb rfl⟩
            have HS2 := Lib.hid (HS.out.trans t1)
            clear t1 hb HMU
            go_wp2_with fail
            go_roundw
            case rel => exact ⟨j + 1, by omega, by rw [Int.natCast_add]; rfl, HI2, HS2⟩
            case measure => simp [intOf]; omega
    · have hje : j = M.codes.length := by omega
      have HIcodes : Hid (∀ c ∈ M.codes, c.l.length ≤ 100 ∧ c.lo.length ≤ 20 ∧ ∀ x ∈ c.l, x.n ≤ 50) := fun x hx => HI.out x (by rw [hje, List.take_length]; exact hx)
      clear HI
      have q1 : ¬ (j : Int) < (M.codes.length : Int) := by omega
      clear hlt hje hj HS
      generalize wr = V2 at *
      go_wp2_with fail
      go_loopw [4] (fun iv wr => ∃ (j : Nat), j ≤ M.elems.length ∧ iv = .int .i64 (j : Int) ∧ Hid (∀ t ∈ M.elems.take j, t.n ≤ 50) ∧ Hid (V2 = wr)) (fun iv _ => M.elems.length + 1 - (intOf iv).toNat)
      case atStart => exact ⟨0, by omega, rfl, (fun x hx => by rw [List.take_zero] at hx; cases hx), rfl⟩
      case round =>
        obtain ⟨j, hj, rfl, HI, HW⟩ := hrel
        have hw := HW.out
        subst hw
        have z0 := (B0.out.cell 8).trans (show _ = some (Value.slice a.A8 M.elems.length a.c8) from rfl)
        by_cases hlt : j < M.elems.length
        · have q1 : (j : Int) < (M.elems.length : Int) := by omega
          have i0 : (0 : Int) ≤ (j : Int) := by omega
          have hw1 := IntWalk.i64_in ((j : Int) + 1) (by omega)
          obtain ⟨bk, off, hA, _, hbl, hc⟩ := reads_row Ev.cells 5 (by decide) Ev.five HM.out.elems (k := j) hlt
          rw [hA] at z0
          clear hA
          have HU : Hid (M.elems.take (j + 1) = M.elems.take j ++ [M.elems[j]]) := List.take_succ_eq_append_getElem hlt
          obtain ⟨x, hxe⟩ : ∃ x, x = M.elems[j] := ⟨_, rfl⟩
          rw [← hxe] at hc HU
          clear hxe
          obtain ⟨⟨op, xa, xb, xn, xc, xA, xL⟩, vn, vc, vA, vL⟩ := x
          have c3 := hc 3 _ rfl
          have c4 := hc 4 _ rfl
          clear hc
          try simp only at c3 c4
          by_cases h0 : (50 : Int) < (vn : Int)
          · go_wp2_with fail
            go_ret
            exact ⟨⟨false, rfl, fun h => by cases h⟩, S1.out⟩
          · skip
            by_cases h1 : (50 : Int) < (xn : Int)
            · go_wp2_with fail
              go_ret
              exact ⟨⟨false, rfl, fun h => by cases h⟩, S1.out⟩
            · skip
              have HI2 : Hid (∀ t ∈ M.elems.take (j + 1), t.n ≤ 50) := fun x hx => by
                rw [HU.out] at hx
                rcases List.mem_append.1 hx with hx | hx
                · exact HI.out x hx
                · rw [List.mem_singleton.1 hx]
                  exact (by simp only; omega)
              go_wp2_with fail
              go_roundw
              case rel => exact ⟨j + 1, by omega, by rw [Int.natCast_add]; rfl, HI2, trivial⟩
              case measure => simp [intOf]; omega
        · have hje : j = M.elems.length := by omega
          have HIelems : Hid (∀ t ∈ M.elems, t.n ≤ 50) := fun x hx => HI.out x (by rw [hje, List.take_length]; exact hx)
          clear HI
          have q1 : ¬ (j : Int) < (M.elems.length : Int) := by omega
          clear hlt hje hj HW
          go_wp2_with fail
          go_loopw [5] (fun iv wr => ∃ (j : Nat), j ≤ M.datas.length ∧ iv = .int .i64 (j : Int) ∧ Hid (V2 = wr)) (fun iv _ => M.datas.length + 1 - (intOf iv).toNat)
          case atStart => exact ⟨0, by omega, rfl, rfl⟩
          case round =>
            obtain ⟨j, hj, rfl, HW⟩ := hrel
            have hw := HW.out
            subst hw
            have z0 := (B0.out.cell 10).trans (show _ = some (Value.slice a.A10 M.datas.length a.c10) from rfl)
            by_cases hlt : j < M.datas.length
            · have q1 : (j : Int) < (M.datas.length : Int) := by omega
              have i0 : (0 : Int) ≤ (j : Int) := by omega
              have hw1 := IntWalk.i64_in ((j : Int) + 1) (by omega)
              obtain ⟨bk, off, hA, _, hbl, hc⟩ := reads_row Dv.cells 5 (by decide) Dv.five HM.out.datas (k := j) hlt
              rw [hA] at z0
              clear hA
              have HU : Hid (M.datas.take (j + 1) = M.datas.take j ++ [M.datas[j]]) := List.take_succ_eq_append_getElem hlt
              obtain ⟨x, hxe⟩ : ∃ x, x = M.datas[j] := ⟨_, rfl⟩
              rw [← hxe] at hc HU
              clear hxe
              obtain ⟨⟨op, xa, xb, xn, xc, xA, xL⟩, p⟩ := x
              have c3 := hc 3 _ rfl
              have c4 := hc 4 _ rfl
              have hzp := str_size p
              clear hc
              try simp only at c3 c4
              by_cases h0 : (300 : Int) < (p.length : Int)
              · go_wp2_with fail
                go_ret
                exact ⟨⟨false, rfl, fun h => by cases h⟩, S1.out⟩
              · skip
                by_cases h1 : (50 : Int) < (xn : Int)
                · go_wp2_with fail
                  go_ret
                  exact ⟨⟨false, rfl, fun h => by cases h⟩, S1.out⟩
                · skip
                  go_wp2_with fail
                  go_roundw
                  case rel => exact ⟨j + 1, by omega, by rw [Int.natCast_add]; rfl, trivial⟩
                  case measure => simp [intOf]; omega
            · have hje : j = M.datas.length := by omega
              have q1 : ¬ (j : Int) < (M.datas.length : Int) := by omega
              clear hlt hje hj HW
              go_wp2_with fail
              go_loopw [6] (fun iv wr => ∃ (j : Nat), j ≤ M.globals.length ∧ iv = .int .i64 (j : Int) ∧ Hid (V2 = wr)) (fun iv _ => M.globals.length + 1 - (intOf iv).toNat)
              case atStart => exact ⟨0, by omega, rfl, rfl⟩
              case round =>
                obtain ⟨j, hj, rfl, HW⟩ := hrel
                have hw := HW.out
                subst hw
                have z0 := (B0.out.cell 5).trans (show _ = some (Value.slice a.A5 M.globals.length a.c5) from rfl)
                by_cases hlt : j < M.globals.length
                · have q1 : (j : Int) < (M.globals.length : Int) := by omega
                  have i0 : (0 : Int) ≤ (j : Int) := by omega
                  have hw1 := IntWalk.i64_in ((j : Int) + 1) (by omega)
                  obtain ⟨bk, off, hA, _, hbl, hc⟩ := reads_row Gv.cells 6 (by decide) Gv.six HM.out.globals (k := j) hlt
                  rw [hA] at z0
                  clear hA
                  have HU : Hid (M.globals.take (j + 1) = M.globals.take j ++ [M.globals[j]]) := List.take_succ_eq_append_getElem hlt
                  obtain ⟨x, hxe⟩ : ∃ x, x = M.globals[j] := ⟨_, rfl⟩
                  rw [← hxe] at hc HU
                  clear hxe
                  obtain ⟨g, gm, ⟨op, xa, xb, xn, xc, xA, xL⟩⟩ := x
                  have c5 := hc 5 _ rfl
                  clear hc
                  try simp only at c5
                  by_cases h0 : (50 : Int) < (xn : Int)
                  · go_wp2_with fail
                    go_ret
                    exact ⟨⟨false, rfl, fun h => by cases h⟩, S1.out⟩
                  · skip
                    go_wp2_with fail
                    go_roundw
                    case rel => exact ⟨j + 1, by omega, by rw [Int.natCast_add]; rfl, trivial⟩
                    case measure => simp [intOf]; omega
                · have hje : j = M.globals.length := by omega
                  have q1 : ¬ (j : Int) < (M.globals.length : Int) := by omega
                  clear hlt hje hj HW
                  have HTX := Lib.hid (texts_walk V2 HM.out (by omega) (by omega) (by omega) (by omega))
                  have H17 : Hid ((#[.slice a.A0 M.types.length a.c0, .slice a.A1 M.imports.length a.c1, .slice a.A2 M.funcs.length a.c2, .slice a.A3 M.tables.length a.c3, .slice a.A4 M.mems.length a.c4, .slice a.A5 M.globals.length a.c5, .slice a.A6 M.exports.length a.c6, .int .i64 M.start, .slice a.A8 M.elems.length a.c8, .slice a.A9 M.codes.length a.c9, .slice a.A10 M.datas.length a.c10, .bool M.has, .int .u32 (M.d1 : Int), .int .u32 (M.d2 : Int), .int .u32 (M.d3 : Int), .int .u32 (M.d4 : Int), .slice a.A16 M.nd.length a.c16] : Array Value).size = 17) := rfl
                  generalize (#[.slice a.A0 M.types.length a.c0, .slice a.A1 M.imports.length a.c1, .slice a.A2 M.funcs.length a.c2, .slice a.A3 M.tables.length a.c3, .slice a.A4 M.mems.length a.c4, .slice a.A5 M.globals.length a.c5, .slice a.A6 M.exports.length a.c6, .int .i64 M.start, .slice a.A8 M.elems.length a.c8, .slice a.A9 M.codes.length a.c9, .slice a.A10 M.datas.length a.c10, .bool M.has, .int .u32 (M.d1 : Int), .int .u32 (M.d2 : Int), .int .u32 (M.d3 : Int), .int .u32 (M.d4 : Int), .slice a.A16 M.nd.length a.c16] : Array Value) = C at *
                  go_wp2_with (refine ld_mod rfl _ rfl _ rfl C B0.out H17.out ?_)
                  refine HTX.out.mono ?_
                  rintro e w3 ⟨⟨b, rfl, hb⟩, t3⟩
                  have HS3 := Lib.hid (S1.out.trans t3)
                  have HB := Lib.hid hb
                  clear t3 hb HTX
                  go_wp2_with fail
                  go_ret
                  exact ⟨⟨b, rfl, fun e => ⟨(HB.out e).1, (HB.out e).2, HIcodes.out, HIelems.out⟩⟩, HS3.out⟩

/-- What Small tells. -/
theorem small_walk17 (w : World) (hM : ModIn w R a M) (hcap : M.types.length ≤ 300000000000000 ∧ M.imports.length ≤ 300000000000000 ∧ M.funcs.length ≤ 300000000000000 ∧ M.tables.length ≤ 300000000000000 ∧ M.mems.length ≤ 300000000000000 ∧ M.globals.length ≤ 300000000000000 ∧ M.exports.length ≤ 300000000000000 ∧ M.elems.length ≤ 300000000000000 ∧ M.codes.length ≤ 300000000000000 ∧ M.datas.length ≤ 300000000000000) :
    Calls Try.prog 10 #[.agg (#[.slice a.A0 M.types.length a.c0, .slice a.A1 M.imports.length a.c1, .slice a.A2 M.funcs.length a.c2, .slice a.A3 M.tables.length a.c3, .slice a.A4 M.mems.length a.c4, .slice a.A5 M.globals.length a.c5, .slice a.A6 M.exports.length a.c6, .int .i64 M.start, .slice a.A8 M.elems.length a.c8, .slice a.A9 M.codes.length a.c9, .slice a.A10 M.datas.length a.c10, .bool M.has, .int .u32 (M.d1 : Int), .int .u32 (M.d2 : Int), .int .u32 (M.d3 : Int), .int .u32 (M.d4 : Int), .slice a.A16 M.nd.length a.c16])] w fun e w' => BoolOut (M.small ∧ M.types.length + M.imports.length ≤ 40 ∧ M.globals.length + M.exports.length ≤ 40) e ∧ Step (fun _ => False) w w' := by
  by_cases h : ((40 : Int) < (M.types.length : Int) + (M.imports.length : Int)) ∨ (¬ (40 : Int) < (M.types.length : Int) + (M.imports.length : Int) ∧ (40 : Int) < (M.funcs.length : Int) + (M.tables.length : Int) + (M.mems.length : Int)) ∨ (¬ (40 : Int) < (M.types.length : Int) + (M.imports.length : Int) ∧ ¬ (40 : Int) < (M.funcs.length : Int) + (M.tables.length : Int) + (M.mems.length : Int) ∧ (40 : Int) < (M.globals.length : Int) + (M.exports.length : Int)) ∨ (¬ (40 : Int) < (M.types.length : Int) + (M.imports.length : Int) ∧ ¬ (40 : Int) < (M.funcs.length : Int) + (M.tables.length : Int) + (M.mems.length : Int) ∧ ¬ (40 : Int) < (M.globals.length : Int) + (M.exports.length : Int) ∧ (40 : Int) < (M.elems.length : Int) + (M.codes.length : Int) + (M.datas.length : Int)) ∨ (¬ (40 : Int) < (M.types.length : Int) + (M.imports.length : Int) ∧ ¬ (40 : Int) < (M.funcs.length : Int) + (M.tables.length : Int) + (M.mems.length : Int) ∧ ¬ (40 : Int) < (M.globals.length : Int) + (M.exports.length : Int) ∧ ¬ (40 : Int) < (M.elems.length : Int) + (M.codes.length : Int) + (M.datas.length : Int) ∧ (20 : Int) < (M.nd.length : Int))
  · exact (small_big17 w hM hcap h).mono fun e w' ⟨h1, h2⟩ => ⟨⟨false, h1, fun h => by cases h⟩, h2⟩
  · have g : (¬ (40 : Int) < (M.types.length : Int) + (M.imports.length : Int) ∧ ¬ (40 : Int) < (M.funcs.length : Int) + (M.tables.length : Int) + (M.mems.length : Int) ∧ ¬ (40 : Int) < (M.globals.length : Int) + (M.exports.length : Int) ∧ ¬ (40 : Int) < (M.elems.length : Int) + (M.codes.length : Int) + (M.datas.length : Int) ∧ ¬ (20 : Int) < (M.nd.length : Int)) := by omega
    obtain ⟨g0, g1, g2, g3, g4⟩ := g
    exact (small_ok17 w hM g0 g1 g2 g3 g4).mono fun e w' ⟨⟨b, h1, h2⟩, h3⟩ => ⟨⟨b, h1, fun hb => ⟨⟨by omega, by omega, by omega, by omega, by omega, by omega, by omega, by omega, by omega, by omega, by omega, fun t ht => ((h2 hb).1 t ht).1, (h2 hb).2.1, (h2 hb).2.2.1, (h2 hb).2.2.2⟩, by omega, by omega⟩⟩, h3⟩
end
end Go.Proofs.Ytpebdfgfikjkeaa
/-! creellaw25: awake. -/
namespace Go.Proofs.Ytpebdfgfikjkeaa
open Go.RowKit
def m0 (s : Int) : Mv := ⟨[], [], [], [], [], [], [], s, [], [], [], false, 0, 0, 0, 0, []⟩
def a0 : Md := ⟨none, none, none, none, none, none, none, none, none, none, none, 0, 0, 0, 0, 0, 0, 0, 0, 0, 0, 0⟩
theorem m0_in (w : World) (s : Int) : ModIn w (fun _ => False) a0 (m0 s) :=
  ⟨Reads.nil_, Reads.nil_, Reads.nil_, Reads.nil_, Reads.nil_, Reads.nil_, Reads.nil_, Reads.nil_, Reads.nil_, Reads.nil_, Reads.nil_, Nat.le_refl _,
    fun x hx => (by cases hx), fun x hx => (by cases hx), fun x hx => (by cases hx), fun x hx => (by cases hx), fun x hx => (by cases hx), fun x hx => (by cases hx), fun x hx => (by cases hx), fun _ h => h.elim⟩
theorem m0_small (s : Int) : (m0 s).small :=
  ⟨Nat.zero_le _, Nat.zero_le _, Nat.zero_le _, Nat.zero_le _, Nat.zero_le _, Nat.zero_le _, Nat.zero_le _, Nat.zero_le _, Nat.zero_le _, Nat.zero_le _, Nat.zero_le _, fun x hx => (by cases hx), fun x hx => (by cases hx), fun x hx => (by cases hx), fun x hx => (by cases hx)⟩
set_option maxRecDepth 100000 in
theorem m0_yes : modF (m0 (-1)) = ⟨0, 0, 0⟩ := by kernel_rfl
set_option maxRecDepth 100000 in
theorem m0_no : modF (m0 0) = ⟨20, 8, 0⟩ := by kernel_rfl
set_option maxRecDepth 100000 in
theorem v_m0 (w : World) (s : Int) (f : Ft) (hf : modF (m0 s) = f) : Calls Try.prog 11 #[.agg #[.slice none 0 0, .slice none 0 0, .slice none 0 0, .slice none 0 0, .slice none 0 0, .slice none 0 0, .slice none 0 0, .int .i64 s, .slice none 0 0, .slice none 0 0, .slice none 0 0, .bool false, .int .u32 0, .int .u32 0, .int .u32 0, .int .u32 0, .slice none 0 0]] w fun e w' => e = .returned (.agg #[.int .i64 f.why, .int .i64 f.list, .int .i64 f.at_]) ∧ Step (fun _ => False) w w' := by
  rw [← hf]
  exact v_module (a := a0) (M := m0 s) (m0_in w s) (m0_small s)
set_option maxRecDepth 100000 in
set_option maxHeartbeats 1600000 in
theorem awake25 (w : World) : Calls Try.prog 9 #[] w fun e w' => e = .returned (.bool true) ∧ Step (fun _ => False) w w' := by
  have HV1 := Lib.hid (fun W => v_m0 W (-1) ⟨0, 0, 0⟩ m0_yes)
  have HV2 := Lib.hid (fun W => v_m0 W 0 ⟨20, 8, 0⟩ m0_no)
  go_enter Try.func9, Try.ntmps9
  go_wp2_with fail
  refine (HV1.out _).mono ?_
  rintro e w1 ⟨rfl, t1⟩
  have T1 := Lib.hid t1
  clear t1
  go_wp2_with fail
  refine (HV2.out _).mono ?_
  rintro e w2 ⟨rfl, t2⟩
  have T2 := Lib.hid t2
  clear t2
  go_wp2_with fail
  go_ret
  exact ⟨rfl, T1.out.trans T2.out⟩
end Go.Proofs.Ytpebdfgfikjkeaa
