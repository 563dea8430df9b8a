/-
  creelref31: the list of all; Count, Values, Last, Block.
-/
import Derived.Test.YtokchoocelmdoaaFpH
set_option linter.unusedVariables false
set_option linter.unusedSimpArgs false
namespace Go.Proofs.Ytokchoocelmdoaa
open Go.RowKit

/-- A value, a block, or a function. -/
structure It where
  k : Int
  v : Int
  st : Int
  dst : Int
  ar : Int
  lp : Bool
  r : Int
instance : Inhabited It := ⟨⟨0, 0, 0, 0, 0, false, 0⟩⟩
def It.cells (x : It) : List Value := [.int .i64 x.k, .int .u64 x.v, .int .i64 x.st, .int .i64 x.dst, .int .i64 x.ar, .bool x.lp, .int .i64 x.r]
theorem It.len (x : It) : x.cells.length = 7 := rfl
def its (l : List It) : List Value := l.flatMap It.cells
theorem its_length (l : List It) : (its l).length = l.length * 7 := flat_length It.cells 7 It.len l
theorem its_append (l m : List It) : its (l ++ m) = its l ++ its m := by simp [its]
theorem its_take (l : List It) (k : Nat) : its (l.take k) = (its l).take (k * 7) := flat_take It.cells 7 It.len l k
theorem its_drop (l : List It) (k : Nat) : its (l.drop k) = (its l).drop (k * 7) := flat_drop It.cells 7 It.len l k
theorem it_one (x : It) : ∀ u ∈ x.cells, u.oneCell' = true := by
  intro u hu
  simp [It.cells] at hu
  rcases hu with rfl | rfl | rfl | rfl | rfl | rfl | rfl <;> rfl
theorem its_one (l : List It) : ∀ u ∈ its l, u.oneCell' = true := by
  intro u hu
  obtain ⟨x, _, hx⟩ := List.mem_flatMap.1 hu
  exact it_one x u hx
theorem E_it : ElemTy Try.prog 26 57 7 56 := elem_of Try.underlying26 (z := .agg #[.int .i64 0, .int .u64 0, .int .i64 0, .int .i64 0, .int .i64 0, .bool false, .int .i64 0]) (by kernel_rfl) rfl (by decide)
def cntI (q : Int) (l : List It) : Nat := l.countP (fun x => x.k == q)
def valsI (l : List It) : List Int := (l.filter (fun x => x.k == 0)).map It.v
theorem cntI_le (q : Int) (l : List It) : cntI q l ≤ l.length := List.countP_le_length
theorem valsI_le (l : List It) : (valsI l).length ≤ l.length := by rw [valsI, List.length_map]; exact List.length_filter_le _ _
theorem cntI_succ (q : Int) (l : List It) (k : Nat) (h : k < l.length) : cntI q (l.take (k + 1)) = cntI q (l.take k) + (if l[k].k = q then 1 else 0) := by
  rw [List.take_succ_eq_append_getElem h, cntI, List.countP_append, List.countP_singleton]
  simp [cntI]
theorem valsI_yes (l : List It) (k : Nat) (h : k < l.length) (h0 : l[k].k = 0) : valsI (l.take (k + 1)) = valsI (l.take k) ++ [l[k].v] := by
  rw [List.take_succ_eq_append_getElem h, valsI, List.filter_append, List.map_append]
  simp [valsI, h0]
theorem valsI_no (l : List It) (k : Nat) (h : k < l.length) (h0 : l[k].k ≠ 0) : valsI (l.take (k + 1)) = valsI (l.take k) := by
  rw [List.take_succ_eq_append_getElem h, valsI, List.filter_append, List.map_append]
  simp [valsI, h0]
/-- The last of a kind among the first so many. -/
def lastU (l : List It) (q : Int) : Nat → Int
  | 0 => -1
  | n + 1 => if (l[n]?.map It.k) = some q then n else lastU l q n
theorem lastU_hit {l : List It} {q : Int} {n : Nat} (h : n < l.length) (hq : l[n].k = q) : lastU l q (n + 1) = n := by
  rw [lastU, List.getElem?_eq_getElem h, if_pos (by simp [hq])]
theorem lastU_miss {l : List It} {q : Int} {n : Nat} (h : n < l.length) (hq : l[n].k ≠ q) : lastU l q (n + 1) = lastU l q n := by
  rw [lastU, List.getElem?_eq_getElem h, if_neg (by simp [hq])]
theorem lastU_lt (l : List It) (q : Int) : ∀ n : Nat, -1 ≤ lastU l q n ∧ lastU l q n < n
  | 0 => by simp [lastU]
  | n + 1 => by
    have := lastU_lt l q n
    rw [lastU]
    split <;> omega
def lastI (l : List It) (q : Int) : Int := lastU l q l.length
/-- The n-th block above a place, among the first so many. -/
def blockU (l : List It) (b : Int) : Nat → Nat → Int
  | 0, _ => -1
  | i + 1, n => if b < (i : Int) then (if (l[i]?.map It.k) = some 1 then (if n = 0 then (i : Int) else blockU l b i (n - 1)) else blockU l b i n) else -1
def blockI (l : List It) (n : Nat) : Int := blockU l (lastI l 2) l.length n
theorem blockU_low {l : List It} {b : Int} {i n : Nat} (h : (i : Int) - 1 ≤ b) : blockU l b i n = -1 := by
  cases i with
  | zero => rfl
  | succ i => rw [blockU, if_neg (by omega)]
theorem blockU_skip {l : List It} {b : Int} {i n : Nat} (h : i < l.length) (hb : b < (i : Int)) (hq : l[i].k ≠ 1) : blockU l b (i + 1) n = blockU l b i n := by
  rw [blockU, if_pos hb, List.getElem?_eq_getElem h, if_neg (by simp [hq])]
theorem blockU_hit {l : List It} {b : Int} {i : Nat} (h : i < l.length) (hb : b < (i : Int)) (hq : l[i].k = 1) : blockU l b (i + 1) 0 = i := by
  rw [blockU, if_pos hb, List.getElem?_eq_getElem h, if_pos (by simp [hq]), if_pos rfl]
theorem blockU_next {l : List It} {b : Int} {i n : Nat} (h : i < l.length) (hb : b < (i : Int)) (hq : l[i].k = 1) : blockU l b (i + 1) (n + 1) = blockU l b i n := by
  rw [blockU, if_pos hb, List.getElem?_eq_getElem h, if_pos (by simp [hq]), if_neg (by omega), Nat.add_sub_cancel]

/-- The cells of element k of a row of structs. -/
theorem reads_cells {α : Type} (c : α → List Value) (m : Nat) (hm : 0 < m) (hc : ∀ a, (c a).length = m) {w : World} {S : Nat → Prop} {A : Option Addr} {l : List α} (hv : Reads w S m A l.length (l.flatMap c)) {k : Nat} (hk : k < l.length) :
    ∃ b off, A = some ⟨b, off, none⟩ ∧ S b ∧ b < w.heap.size ∧ ∀ j u, (c l[k])[j]? = some u → w.cell? ⟨b, off + k * m + j, none⟩ = some u := by
  obtain ⟨ad, rfl, hS, hlt, hcell⟩ := hv.2 (by omega)
  have h00 := flat_get c m hc l 0 0 (by omega) hm
  rw [Nat.zero_mul] at h00
  have h01 : (c (l[0]'(by omega)))[0]? = some ((c (l[0]'(by omega)))[0]'(by rw [hc]; exact hm)) := List.getElem?_eq_getElem _
  have h0 := hcell 0 _ (h00.trans h01)
  obtain ⟨b, off, spot⟩ := ad
  have hspot : spot = none := by
    have := World.cell?_spot h0
    simpa [Addr.add] using this
  subst hspot
  refine ⟨b, off, rfl, hS, hlt, fun j u hu => ?_⟩
  have hj : j < m := by
    have := (List.getElem?_eq_some_iff.1 hu).1
    rwa [hc] at this
  have h1 := hcell (k * m + j) u (by rw [flat_get c m hc l k j hk hj]; exact hu)
  rw [Addr.add_lit] at h1
  rw [Nat.add_assoc]
  exact h1
section
variable {w : World} {S : Nat → Prop} {A : Option Addr} {c : Nat} {l : List It}
set_option maxRecDepth 100000 in
theorem r_count (q : Int) (hv : Reads w S 7 A l.length (its l)) (hl : l.length ≤ 100000) :
    Calls Try.prog 9 #[.slice A l.length c, .int .i64 q] w fun e w' => e = .returned (.int .i64 (cntI q l : Int)) ∧ w' = w := by
  go_enter Try.func9, Try.ntmps9
  go_wp2_with fail
  go_loopw [5, 6] (fun v i wr => ∃ k m : Nat, k ≤ l.length ∧ m ≤ k ∧ v = .int .i64 (m : Int) ∧ i = .int .i64 (k : Int) ∧ Hid (cntI q (l.take k) = m) ∧ Hid (wr = w)) (fun _ i _ => l.length - (intOf i).toNat)
  case atStart => exact ⟨0, 0, Nat.zero_le _, Nat.le_refl _, rfl, rfl, rfl, rfl⟩
  case round =>
    obtain ⟨k, m, hk, hm, rfl, rfl, hc, hq⟩ := hrel
    have hq' := hq.out
    subst hq'
    by_cases hlt : k < l.length
    · obtain ⟨b, off, rfl, _, hbl, hcell⟩ := reads_cells It.cells 7 (by decide) It.len hv (k := k) hlt
      have c0 := hcell 0 _ rfl
      rw [Nat.add_zero] at c0
      have i0 : (0 : Int) ≤ (k : Int) := by omega
      have i1 : (k : Int) < (l.length : Int) := by omega
      have hs := cntI_succ q l k hlt
      rw [hc.out] at hs
      have w1 := IntWalk.i64_in ((m : Int) + 1) (by omega)
      have w2 := IntWalk.i64_in ((k : Int) + 1) (by omega)
      generalize l[k].k = z at *
      have HS := Lib.hid hs
      clear hs hcell
      by_cases hz : z = q
      · have hzb : (z == q) = true := beq_iff_eq.2 hz
        have HZ := Lib.hid hz
        clear hz
        go_wp2_with fail
        go_roundw
        case rel => exact ⟨k + 1, m + 1, by omega, by omega, by go_num, by go_num, by have := HS.out; rwa [if_pos HZ.out] at this, by first | exact Lib.hid trivial | rfl⟩
        case measure => simp [intOf]; omega
      · have hzb : (z == q) = false := beq_eq_false_iff_ne.2 hz
        have HZ := Lib.hid hz
        clear hz
        go_wp2_with fail
        go_roundw
        case rel => exact ⟨k + 1, m, by omega, by omega, rfl, by go_num, by have := HS.out; rwa [if_neg HZ.out] at this, by first | exact Lib.hid trivial | rfl⟩
        case measure => simp [intOf]; omega
    · obtain rfl : k = l.length := by omega
      have i1 : ¬ (l.length : Int) < (l.length : Int) := by omega
      have HC := hc.out
      rw [List.take_length] at HC
      replace HC := Lib.hid HC
      clear hc
      go_wp2_with fail
      go_ret
      exact ⟨by rw [HC.out]; rfl, rfl⟩
set_option maxRecDepth 100000 in
theorem r_last (q : Int) (hv : Reads w S 7 A l.length (its l)) (hl : l.length ≤ 100000) :
    Calls Try.prog 18 #[.slice A l.length c, .int .i64 q] w fun e w' => e = .returned (.int .i64 (lastI l q)) ∧ w' = w := by
  have wl := IntWalk.i64_in ((l.length : Int) - 1) (by omega)
  go_enter Try.func18, Try.ntmps18
  go_wp2_with fail
  go_loopw [5] (fun i wr => ∃ z : Int, -1 ≤ z ∧ z < l.length ∧ i = .int .i64 z ∧ Hid (lastU l q (z + 1).toNat = lastI l q) ∧ Hid (wr = w)) (fun i _ => (intOf i + 1).toNat)
  case atStart => exact ⟨(l.length : Int) - 1, by omega, by omega, rfl, by rw [show ((l.length : Int) - 1 + 1).toNat = l.length by omega]; rfl, rfl⟩
  case round =>
    obtain ⟨z, hz1, hz2, rfl, hc, hq⟩ := hrel
    have hq' := hq.out
    subst hq'
    by_cases hz : 0 ≤ z
    · obtain ⟨k, rfl⟩ : ∃ k : Nat, z = k := ⟨z.toNat, by omega⟩
      have hlt : k < l.length := by omega
      obtain ⟨b, off, rfl, _, hbl, hcell⟩ := reads_cells It.cells 7 (by decide) It.len hv (k := k) hlt
      have c0 := hcell 0 _ rfl
      rw [Nat.add_zero] at c0
      have w2 := IntWalk.i64_in ((k : Int) - 1) (by omega)
      have HC := hc.out
      rw [show ((k : Int) + 1).toNat = k + 1 by omega] at HC
      replace HC := Lib.hid HC
      by_cases hzq : l[k].k = q
      · have hh := lastU_hit hlt hzq
        rw [HC.out] at hh
        have hzb : (l[k].k == q) = true := beq_iff_eq.2 hzq
        have HH := Lib.hid hh
        generalize l[k].k = y at *
        clear hzq hh hcell hc
        go_wp2_with fail
        go_ret
        exact ⟨by rw [HH.out]; rfl, rfl⟩
      · have hh := lastU_miss hlt hzq
        rw [HC.out] at hh
        have hzb : (l[k].k == q) = false := beq_eq_false_iff_ne.2 hzq
        have HH := Lib.hid hh
        generalize l[k].k = y at *
        clear hzq hh hcell hc
        go_wp2_with fail
        go_roundw
        case rel => exact ⟨(k : Int) - 1, by omega, by omega, rfl, by rw [show ((k : Int) - 1 + 1).toNat = k by omega]; exact HH.out.symm, by first | exact Lib.hid trivial | rfl⟩
        case measure => simp [intOf]
    · obtain rfl : z = -1 := by omega
      have HC : Hid (lastI l q = -1) := hc.out.symm
      clear hc
      go_wp2_with fail
      go_ret
      exact ⟨by rw [HC.out]; rfl, rfl⟩
end
end Go.Proofs.Ytokchoocelmdoaa
