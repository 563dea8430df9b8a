/-
  Le: LeA, LeB, LeC, LeD, LeE, LeF, LeG, LeH.
-/
import Derived.Test.YtfemeendkjcffaaByt
import Derived.Test.YtfemeendkjcffaaOpn
set_option linter.unusedVariables false
set_option linter.unusedSimpArgs false
/-! leb: numbers as bytes of seven bits. -/
namespace Go.Proofs.Ytfemeendkjcffaa
open Go.RowKit

/-- A number without a sign: sevens, the lowest first; each but the last one with its highest bit. -/
def uintL : Nat → Nat → List UInt8
  | 0, _ => []
  | f + 1, v => if v < 128 then [UInt8.ofNat v] else UInt8.ofNat (v % 128 + 128) :: uintL f (v / 128)
def uintF (v : Nat) : List UInt8 := uintL 10 v
theorem uintL_len (f v : Nat) : (uintL f v).length ≤ f := by
  induction f generalizing v with
  | zero => simp [uintL]
  | succ f ih =>
    rw [uintL]
    split
    · simp
    · have := ih (v / 128); simp; omega

theorem or128 (v : Nat) : bits .or .u8 ((v : Int) % 256) 128 = ((v % 128 + 128 : Nat) : Int) := by
  have h1 : ((v : Int) % 256) = ((v % 256 : Nat) : Int) := by omega
  have h2 : ∀ x : Fin 256, x.1 ||| 128 = x.1 % 128 + 128 := by decide +kernel
  have h3 := h2 ⟨v % 256, Nat.mod_lt _ (by decide)⟩
  have h4 : (v % 256) % 128 = v % 128 := by omega
  rw [h1]
  refine (u8_or_nat (v % 256) 128 (Nat.mod_lt _ (by decide)) (by decide)).trans ?_
  rw [show (v % 256 ||| 128) = (v % 256) % 128 + 128 from h3, h4]
theorem byte_cell (n : Nat) (h : n < 256) : u8s [UInt8.ofNat n] = [Value.int .u8 (n : Int)] := by
  simp [u8s]
  omega

set_option maxRecDepth 100000 in
set_option maxHeartbeats 1600000 in
theorem uint_walk (w : World) (v : Nat) (h : v < 18446744073709551616) : Calls Try.prog 149 #[.int .u64 (v : Int)] w fun e w' => ∃ D c, e = .returned (.slice D (uintF v).length c) ∧ w'.ownsRow w.heap.size 5 1 (.slice D (uintF v).length c) (uintF v).length (u8s (uintF v)) ∧ Step (fun _ => False) w w' := by
  have ho0 : w.ownsRow w.heap.size 5 1 (.slice none 0 0) 0 (u8s []) := World.ownsRow_nil _ _ _ _
  obtain ⟨T, hT⟩ : ∃ T, T = uintF v := ⟨_, rfl⟩
  rw [← hT]
  replace hT : Hid (T = [] ++ uintL 10 v) := hT
  go_enter Try.func149, Try.ntmps149
  go_wp2_with fail
  go_loopw [0, 3] (fun vv ov wr => ∃ (v f cc : Nat) (acc : List UInt8) (D : Option Addr), v < 128 ^ f ∧ 1 ≤ f ∧ acc.length + f = 10 ∧ vv = .int .u64 (v : Int) ∧ ov = .slice D acc.length cc ∧ Hid (T = acc ++ uintL f v) ∧ Hid (Step (fun _ => False) w wr) ∧ Hid (wr.ownsRow w.heap.size 5 1 (.slice D acc.length cc) acc.length (u8s acc))) (fun vv _ _ => (intOf vv).toNat)
  case atStart => exact ⟨v, 10, 0, [], none, by omega, by omega, rfl, rfl, rfl, hT, Step.refl, ho0⟩
  case round =>
    obtain ⟨v, f, cc, acc, D, hv, hf, hl, rfl, rfl, HT, HS, HO⟩ := hrel
    clear ho0
    by_cases hlt : v < 128
    · have hlt' : ¬ (128 : Int) ≤ (v : Int) := by omega
      have hm : acc.length + 1 ≤ maxLen := by unfold maxLen; omega
      have hsz := HS.out.size
      have hone : ∀ u ∈ #[Value.int .u8 (v : Int)].toList, u.oneCell' = true := by simp [Value.oneCell']
      go_wp2_with (at_builtin; refine wpList_append_src _ rfl _ _ (by rfl) E_u8 (by rfl) (HO.out.alloc _) (by rfl) (reads_new _ #[Value.int .u8 (v : Int)] 5 1 1 rfl) hone hm (by omega) (by simp; omega) ?_; intro D' c' w8 hown8 hgrow hat)
      go_ret
      have hTl : T = acc ++ [UInt8.ofNat v] := by
        rw [HT.out]
        obtain ⟨f, rfl⟩ : ∃ g, f = g + 1 := ⟨f - 1, by omega⟩
        rw [uintL, if_pos hlt]
      have hTn : T.length = acc.length + 1 := by rw [hTl]; simp
      have hTc : u8s acc ++ #[Value.int .u8 (v : Int)].toList = u8s T := by rw [hTl, u8s_append, byte_cell v (by omega)]
      rw [hTn, ← hTc]
      exact ⟨D', c', rfl, hown8, grow_step (HS.out.alloc _) hgrow (HO.out.alloc _) (Nat.le_refl _)⟩
    · have hge : (128 : Int) ≤ (v : Int) := by omega
      have hm : acc.length + 1 ≤ maxLen := by unfold maxLen; omega
      have hsz := HS.out.size
      have hor := or128 v
      obtain ⟨x, hx⟩ : ∃ x : Int, x = ((v % 128 + 128 : Nat) : Int) := ⟨_, rfl⟩
      rw [← hx] at hor
      have HX := Lib.hid hx
      clear hx
      have hone : ∀ u ∈ #[Value.int .u8 x].toList, u.oneCell' = true := by simp [Value.oneCell']
      go_wp2_with (at_builtin; refine wpList_append_src _ rfl _ _ (by rfl) E_u8 (by rfl) (HO.out.alloc _) (by rfl) (reads_new _ #[Value.int .u8 x] 5 1 1 rfl) hone hm (by omega) (by simp; omega) ?_; intro D' c' w8 hown8 hgrow hat)
      obtain ⟨g, rfl⟩ : ∃ g, f = g + 2 := by
        rcases f with _ | _ | g
        · omega
        · exact absurd hv (by simpa using hlt)
        · exact ⟨g, rfl⟩
      have hv2 : v / 128 < 128 ^ (g + 1) := by
        rw [Nat.div_lt_iff_lt_mul (by decide)]
        rw [Nat.pow_succ] at hv
        exact hv
      have hTl : T = (acc ++ [UInt8.ofNat (v % 128 + 128)]) ++ uintL (g + 1) (v / 128) := by
        rw [HT.out, uintL, if_neg hlt, List.append_assoc]
        rfl
      have hxc : [Value.int .u8 x] = u8s [UInt8.ofNat (v % 128 + 128)] := by rw [byte_cell _ (by omega), HX.out]
      have hcs : u8s acc ++ #[Value.int .u8 x].toList = u8s (acc ++ [UInt8.ofNat (v % 128 + 128)]) := by rw [u8s_append, ← hxc]
      have hln : acc.length + 1 = (acc ++ [UInt8.ofNat (v % 128 + 128)]).length := by simp
      have HS8 := Lib.hid (grow_step (HS.out.alloc _) hgrow (HO.out.alloc _) (Nat.le_refl _))
      rw [hcs, hln] at hown8
      rw [hln]
      exact ⟨⟨v / 128, g + 1, c', acc ++ [UInt8.ofNat (v % 128 + 128)], D', hv2, by omega, by simp; omega, by rw [Int.natCast_ediv]; rfl, rfl, hTl, HS8, hown8⟩, by
        rw [show intOf (.int .u64 ((v : Int) / 128)) = (v : Int) / 128 from rfl, show intOf (.int .u64 (v : Int)) = (v : Int) from rfl]
        omega⟩
end Go.Proofs.Ytfemeendkjcffaa
/-! leb: numbers with a sign. -/
namespace Go.Proofs.Ytfemeendkjcffaa
open Go.RowKit

def b8 (v : Int) : UInt8 := UInt8.ofNat v.toNat
def intL : Nat → Int → List UInt8
  | 0, _ => []
  | f + 1, v => if -64 ≤ v ∧ v ≤ 63 then [b8 (v % 128)] else b8 (v % 128 + 128) :: intL f (v / 128)
def intF (v : Int) : List UInt8 := intL 10 v
theorem intL_len (f : Nat) (v : Int) : (intL f v).length ≤ f := by
  induction f generalizing v with
  | zero => simp [intL]
  | succ f ih =>
    rw [intL]
    split
    · simp
    · have := ih (v / 128); simp; omega
theorem b8_cell (n : Int) (h0 : 0 ≤ n) (h : n < 256) : u8s [b8 n] = [Value.int .u8 n] := by
  obtain ⟨m, rfl⟩ : ∃ m : Nat, n = m := ⟨n.toNat, by omega⟩
  rw [b8, Int.toNat_natCast]
  exact byte_cell m (by omega)
theorem or128i (v : Int) : bits .or .u8 (v % 256) 128 = v % 128 + 128 := by
  have h := or128 (v % 256).toNat
  rw [show (((v % 256).toNat : Nat) : Int) % 256 = v % 256 by omega] at h
  rw [h]
  omega
theorem and127i (v : Int) : bits .and .u8 (v % 256) 127 = v % 128 := by
  have h2 : ∀ x : Fin 256, x.1 &&& 127 = x.1 % 128 := by decide +kernel
  have h3 := h2 ⟨(v % 256).toNat, by omega⟩
  have h1 := u8_and_nat (v % 256).toNat 127 (by omega) (by decide)
  rw [show (v % 256).toNat &&& 127 = (v % 256).toNat % 128 from h3] at h1
  rw [show (((v % 256).toNat : Nat) : Int) = v % 256 by omega] at h1
  refine h1.trans ?_
  omega

set_option maxRecDepth 100000 in
set_option maxHeartbeats 1600000 in
theorem int_walk (w : World) (v : Int) (h : -9223372036854775808 ≤ v ∧ v ≤ 9223372036854775807) : Calls Try.prog 150 #[.int .i64 v] w fun e w' => ∃ D c, e = .returned (.slice D (intF v).length c) ∧ w'.ownsRow w.heap.size 5 1 (.slice D (intF v).length c) (intF v).length (u8s (intF v)) ∧ Step (fun _ => False) w w' := by
  have ho0 : w.ownsRow w.heap.size 5 1 (.slice none 0 0) 0 (u8s []) := World.ownsRow_nil _ _ _ _
  obtain ⟨T, hT⟩ : ∃ T, T = intF v := ⟨_, rfl⟩
  rw [← hT]
  replace hT : Hid (T = [] ++ intL 10 v) := hT
  have hv0 : -(64 * 128 ^ 9) ≤ v ∧ v < 64 * 128 ^ 9 := by omega
  go_enter Try.func150, Try.ntmps150
  go_wp2_with fail
  go_loopw [0, 3] (fun vv ov wr => ∃ (v : Int) (f cc : Nat) (acc : List UInt8) (D : Option Addr), (-(64 * 128 ^ f) ≤ v ∧ v < 64 * 128 ^ f) ∧ acc.length + f = 9 ∧ vv = .int .i64 v ∧ ov = .slice D acc.length cc ∧ Hid (T = acc ++ intL (f + 1) v) ∧ Hid (Step (fun _ => False) w wr) ∧ Hid (wr.ownsRow w.heap.size 5 1 (.slice D acc.length cc) acc.length (u8s acc))) (fun vv _ _ => (intOf vv).natAbs)
  case atStart => exact ⟨v, 9, 0, [], none, hv0, rfl, rfl, rfl, hT, Step.refl, ho0⟩
  case round =>
    obtain ⟨v, f, cc, acc, D, hv, hl, rfl, rfl, HT, HS, HO⟩ := hrel
    clear ho0
    have hm : acc.length + 1 ≤ maxLen := by unfold maxLen; omega
    have hsz := HS.out.size
    by_cases hlt : -64 ≤ v ∧ v ≤ 63
    · obtain ⟨l1, l2⟩ := hlt
      have hle1 : ¬ v < -64 := by omega
      have hle2 : ¬ 63 < v := by omega
      have hand := and127i v
      obtain ⟨x, hx⟩ : ∃ x : Int, x = v % 128 := ⟨_, rfl⟩
      rw [← hx] at hand
      have HX := Lib.hid hx
      clear hx
      have hone : ∀ u ∈ #[Value.int .u8 x].toList, u.oneCell' = true := by simp [Value.oneCell']
      go_wp2_with (at_builtin; refine wpList_append_src _ rfl _ _ (by rfl) E_u8 (by rfl) (HO.out.alloc _) (by rfl) (reads_new _ #[Value.int .u8 x] 5 1 1 rfl) hone hm (by omega) (by simp; omega) ?_; intro D' c' w8 hown8 hgrow hat)
      go_ret
      have hTl : T = acc ++ [b8 (v % 128)] := by
        rw [HT.out, intL, if_pos ⟨l1, l2⟩]
      have hTn : T.length = acc.length + 1 := by rw [hTl]; simp
      have hTc : u8s acc ++ #[Value.int .u8 x].toList = u8s T := by rw [hTl, u8s_append, b8_cell _ (by omega) (by omega), HX.out]
      rw [hTn, ← hTc]
      exact ⟨D', c', rfl, hown8, grow_step (HS.out.alloc _) hgrow (HO.out.alloc _) (Nat.le_refl _)⟩
    · have hge : v < -64 ∨ (¬ v < -64 ∧ 63 < v) := by omega
      obtain ⟨g, hg⟩ : ∃ g, f = g + 1 := by
        rcases f with _ | g
        · simp at hv; omega
        · exact ⟨g, rfl⟩
      have HV : Hid (-(64 * 128 ^ g) ≤ v / 128 ∧ v / 128 < 64 * 128 ^ g) := by
        rw [hg, Int.pow_succ] at hv
        generalize (128 : Int) ^ g = P at hv
        have : -(64 * P) ≤ v / 128 ∧ v / 128 < 64 * P := by omega
        exact this
      have HL := Lib.hid hlt
      have HG := Lib.hid hg
      clear hlt hg hv
      have hor := or128i v
      obtain ⟨x, hx⟩ : ∃ x : Int, x = v % 128 + 128 := ⟨_, rfl⟩
      rw [← hx] at hor
      have HX := Lib.hid hx
      clear hx
      have hone : ∀ u ∈ #[Value.int .u8 x].toList, u.oneCell' = true := by simp [Value.oneCell']
      rcases hge with g1 | ⟨g1, g2⟩ <;>
      · go_wp2_with (at_builtin; refine wpList_append_src _ rfl _ _ (by rfl) E_u8 (by rfl) (HO.out.alloc _) (by rfl) (reads_new _ #[Value.int .u8 x] 5 1 1 rfl) hone hm (by omega) (by simp; omega) ?_; intro D' c' w8 hown8 hgrow hat)
        have hTl : T = (acc ++ [b8 (v % 128 + 128)]) ++ intL (g + 1) (v / 128) := by
          rw [HT.out, HG.out, intL, if_neg HL.out, List.append_assoc]
          rfl
        have hxc : [Value.int .u8 x] = u8s [b8 (v % 128 + 128)] := by rw [b8_cell _ (by omega) (by omega), HX.out]
        have hcs : u8s acc ++ #[Value.int .u8 x].toList = u8s (acc ++ [b8 (v % 128 + 128)]) := by rw [u8s_append, ← hxc]
        have hln : acc.length + 1 = (acc ++ [b8 (v % 128 + 128)]).length := by simp
        have HS8 := Lib.hid (grow_step (HS.out.alloc _) hgrow (HO.out.alloc _) (Nat.le_refl _))
        have hgl : (acc ++ [b8 (v % 128 + 128)]).length + g = 9 := by have := HG.out; simp; omega
        rw [hcs, hln] at hown8
        rw [hln]
        exact ⟨⟨v / 128, g, c', acc ++ [b8 (v % 128 + 128)], D', HV.out, hgl, rfl, rfl, hTl, HS8, hown8⟩, by
          rw [show intOf (.int .i64 (v / 128)) = v / 128 from rfl, show intOf (.int .i64 v) = v from rfl]
          omega⟩
end Go.Proofs.Ytfemeendkjcffaa
/-! leb: the reference's bits and groups. -/
namespace Go.Proofs.Ytfemeendkjcffaa
open Go.RowKit

theorem E_bool : ElemTy Try.prog 244 4 1 1 := elem_of Try.underlying244 (z := .bool false) (by kernel_rfl) rfl (by decide)
def bools (l : List Bool) : List Value := l.map Value.bool
theorem bools_append (l m : List Bool) : bools (l ++ m) = bools l ++ bools m := by simp [bools]
theorem one_bool (b : Bool) : ∀ u ∈ #[Value.bool b].toList, u.oneCell' = true := by
  intro u hu
  simp at hu
  subst hu
  rfl
/-- The bit of a number at a place; of one below nought all are set far up. -/
def ibit (v : Int) (j : Nat) : Bool := v / 2 ^ j % 2 == 1
def ibs (n : Nat) (v : Int) : List Bool := (List.range n).map (ibit v)
theorem ibs_succ (n : Nat) (v : Int) : ibs (n + 1) v = ibs n v ++ [ibit v n] := by simp [ibs, List.range_succ]
theorem ibs_len (n : Nat) (v : Int) : (ibs n v).length = n := by simp [ibs]
theorem ibs_at {w : World} {S : Nat → Prop} {A : Option Addr} {n k : Nat} {v : Int} (h : Reads w S 1 A n (bools (ibs n v))) (hk : k < n) : ∃ ad, A = some ad ∧ S ad.block ∧ ad.block < w.heap.size ∧ w.cell? (ad.add k) = some (.bool (ibit v k)) := by
  obtain ⟨ad, u, rfl, hS, hlt, hu, hc⟩ := h.at_ hk
  refine ⟨ad, rfl, hS, hlt, ?_⟩
  rw [hc]
  simp [bools, ibs, hk] at hu
  rw [← hu]
theorem idiv_succ (v : Int) (k : Nat) : v / 2 ^ (k + 1) = v / 2 ^ k / 2 := by
  rw [Int.pow_succ, Int.ediv_ediv_of_nonneg]
  exact Int.le_of_lt (Int.pow_pos (by decide))

set_option maxRecDepth 100000 in
set_option maxHeartbeats 800000 in
theorem bits_walk (w : World) (v : Nat) (hv : v < 18446744073709551616) : Calls Try.prog 205 #[.int .u64 (v : Int)] w fun e w' => ∃ D c, e = .returned (.slice D 64 c) ∧ w'.ownsRow w.heap.size 4 1 (.slice D 64 c) 64 (bools (ibs 64 (v : Int))) ∧ Step (fun _ => False) w w' := by
  have h0 : w.ownsRow w.heap.size 4 1 (.slice none 0 0) 0 (bools (ibs 0 (v : Int))) := World.ownsRow_nil _ _ _ _
  go_enter Try.func205, Try.ntmps205
  go_wp2_with fail
  go_loopw [0, 3, 4] (fun x o i wr => ∃ (k c y : Nat) (D : Option Addr), k ≤ 64 ∧ x = .int .u64 (y : Int) ∧ o = .slice D k c ∧ i = .int .i64 (k : Int) ∧ y < 18446744073709551616 ∧ Hid ((y : Int) = (v : Int) / 2 ^ k) ∧
      Hid (wr.ownsRow w.heap.size 4 1 (.slice D k c) k (bools (ibs k (v : Int)))) ∧ Hid (Step (fun _ => False) w wr)) (fun _ _ i _ => 64 - (intOf i).toNat)
  case atStart => exact ⟨0, 0, v, none, by omega, rfl, rfl, rfl, hv, by simp [Hid], h0, Step.refl⟩
  case round =>
    obtain ⟨k, c, y, D, hk, rfl, rfl, rfl, hy, HY, HO, HS⟩ := hrel
    clear h0
    by_cases hlt : k < 64
    · have hlt' : (k : Int) < 64 := by omega
      have hm : k + 1 ≤ maxLen := by unfold maxLen; omega
      have hsz := HS.out.size
      go_wp2_with (at_builtin; refine wpList_append_src _ rfl _ _ (by rfl) E_bool (by rfl) (HO.out.alloc _) (by rfl) (reads_new _ _ _ 1 1 rfl) (one_bool _) hm (by omega) (by simp; omega) ?_; intro D' c' w1 hown1 hgrow hat)
      have hb : bools (ibs k (v : Int)) ++ #[Value.bool ((y : Int) % 2 == 1)].toList = bools (ibs (k + 1) (v : Int)) := by
        rw [ibs_succ, bools_append, HY.out]
        rfl
      rw [hb] at hown1
      go_roundw
      case rel => exact ⟨k + 1, c', y / 2, D', by omega, by go_num, rfl, by go_num, by omega, by unfold Hid; rw [idiv_succ, ← HY.out, Int.natCast_ediv]; rfl, hown1, grow_step (HS.out.alloc _) hgrow (HO.out.alloc _) (Nat.le_refl _)⟩
      case measure => simp [intOf]; omega
    · obtain rfl : k = 64 := by omega
      go_wp2_with fail
      go_ret
      exact ⟨D, c, rfl, HO.out, HS.out⟩

/-! ### Group -/
/-- The byte of a group: the i-th of n. -/
def grpB (v : Int) (n i : Nat) : Int := v / 128 ^ i % 128 + if i + 1 < n then 128 else 0
def grpL (v : Int) (n k : Nat) : List UInt8 := (List.range k).map fun i => b8 (grpB v n i)
theorem grpL_succ (v : Int) (n k : Nat) : grpL v n (k + 1) = grpL v n k ++ [b8 (grpB v n k)] := by simp [grpL, List.range_succ]
theorem grpL_len (v : Int) (n k : Nat) : (grpL v n k).length = k := by simp [grpL]
theorem grp_step (x : Int) (m : Nat) : x / 2 % 2 ^ m * 2 + x % 2 = x % 2 ^ (m + 1) := by
  have hP : (0 : Int) < 2 ^ m := Int.pow_pos (by decide)
  rw [Int.pow_succ]
  generalize (2 : Int) ^ m = P at *
  have h1 := Int.emod_add_mul_ediv x (P * 2)
  have h2 := Int.emod_nonneg x (show P * 2 ≠ 0 by omega)
  have h3 := Int.emod_lt_of_pos x (show (0 : Int) < P * 2 by omega)
  have h4 : x / 2 = x % (P * 2) / 2 + P * (x / (P * 2)) := by
    have : x = x % (P * 2) + 2 * (P * (x / (P * 2))) := by rw [← Int.mul_assoc, Int.mul_comm 2 P]; exact h1.symm
    generalize hq : P * (x / (P * 2)) = q at *
    omega
  rw [h4, Int.add_mul_emod_self_left]
  have h5 : x % (P * 2) / 2 % P = x % (P * 2) / 2 := Int.emod_eq_of_lt (by omega) (by omega)
  rw [h5]
  have h6 : x % 2 = x % (P * 2) % 2 := by
    have : x = x % (P * 2) + 2 * (P * (x / (P * 2))) := by rw [← Int.mul_assoc, Int.mul_comm 2 P]; exact h1.symm
    generalize hq : P * (x / (P * 2)) = q at *
    omega
  omega
end Go.Proofs.Ytfemeendkjcffaa
/-! leb: the reference's Group. -/
namespace Go.Proofs.Ytfemeendkjcffaa
open Go.RowKit

theorem grp_val (v : Int) (i : Nat) : v / 2 ^ (7 * i) % 2 ^ 7 = v / 128 ^ i % 128 := by
  rw [show (2 : Int) ^ (7 * i) = 128 ^ i by rw [Int.pow_mul]; rfl]
  rfl
theorem ibit_val (v : Int) (j : Nat) : v / 2 ^ j % 2 = if ibit v j then 1 else 0 := by
  unfold ibit
  have := Int.emod_two_eq (v / 2 ^ j)
  rcases this with h | h <;> rw [h] <;> rfl

theorem emod_small (x : Int) (m : Nat) (h : m ≤ 7) : x % 2 ^ (7 - m) < 128 := by
  have h1 : ∀ m : Fin 8, (0 : Int) < 2 ^ (7 - m.1) ∧ (2 : Int) ^ (7 - m.1) ≤ 128 := by decide
  have h2 := h1 ⟨m, by omega⟩
  have h3 := Int.emod_lt_of_pos x h2.1
  exact Int.lt_of_lt_of_le h3 h2.2
/-- All the bits' cells. -/
theorem ibs_all {w : World} {S : Nat → Prop} {A : Option Addr} {v : Int} (h : Reads w S 1 A 64 (bools (ibs 64 v))) : ∃ ab ao, A = some ⟨ab, ao, none⟩ ∧ ab < w.heap.size ∧ ∀ j, j < 64 → w.cell? ⟨ab, ao + j, none⟩ = some (.bool (ibit v j)) := by
  obtain ⟨⟨ab, ao, asp⟩, rfl, _, hbl, hcell⟩ := ibs_at h (k := 0) (by decide)
  obtain rfl : asp = none := by
    have := World.cell?_spot hcell
    simpa [Addr.add] using this
  refine ⟨ab, ao, rfl, hbl, fun j hj => ?_⟩
  obtain ⟨ad, hA, _, _, hc⟩ := ibs_at h hj
  injection hA with hA
  subst hA
  rw [Addr.add_lit] at hc
  exact hc

set_option maxRecDepth 100000 in
set_option maxHeartbeats 1600000 in
theorem group_walk (w : World) (v : Int) (n c : Nat) (b : Bool) (S : Nat → Prop) (A : Option Addr) (hr : Reads w S 1 A 64 (bools (ibs 64 v))) (hb : ∀ j, 64 ≤ j → j < 70 → ibit v j = b) (hn1 : 1 ≤ n) (hn2 : n ≤ 10) :
    Calls Try.prog 206 #[.slice A 64 c, .int .i64 (n : Int), .bool b] w fun e w' => ∃ D c', e = .returned (.slice D n c') ∧ w'.ownsRow w.heap.size 5 1 (.slice D n c') n (u8s (grpL v n n)) ∧ Step (fun _ => False) w w' := by
  have ho0 : w.ownsRow w.heap.size 5 1 (.slice none 0 0) 0 (u8s (grpL v n 0)) := World.ownsRow_nil _ _ _ _
  have hwn := IntWalk.i64_in ((n : Int) - 1) (by omega)
  have HB := Lib.hid hb
  obtain ⟨ab, ao, rfl, habl, hall⟩ := ibs_all hr
  replace hall := Lib.hid hall
  clear hb hr
  go_enter Try.func206, Try.ntmps206
  go_wp2_with fail
  go_loopw [7, 8] (fun ov iv wr => ∃ (i cc : Nat) (D : Option Addr), i ≤ n ∧ ov = .slice D i cc ∧ iv = .int .i64 (i : Int) ∧ Hid (Step (fun _ => False) w wr) ∧ Hid (wr.ownsRow w.heap.size 5 1 (.slice D i cc) i (u8s (grpL v n i)))) (fun _ iv _ => n + 1 - (intOf iv).toNat)
  case atStart => exact ⟨0, 0, none, by omega, rfl, rfl, Step.refl, ho0⟩
  case round =>
    obtain ⟨i, cc, D, hi, rfl, rfl, HS, HO⟩ := hrel
    clear ho0
    by_cases hlt : i < n
    · have hlt' : (i : Int) < (n : Int) := by omega
      have hm : i + 1 ≤ maxLen := by unfold maxLen; omega
      have hsz := HS.out.size
      have hw7 := IntWalk.i64_in (7 * (i : Int)) (by omega)
      have hwi := IntWalk.i64_in ((i : Int) + 1) (by omega)
      go_wp2_with fail
      go_loopw [9, 10] (fun cv kv wr' => ∃ (m : Nat) (C : Int), m ≤ 7 ∧ cv = .int .i64 C ∧ kv = .int .i64 ((m : Int) - 1) ∧ 0 ≤ C ∧ C < 128 ∧ Hid (C = v / 2 ^ (7 * i + m) % 2 ^ (7 - m)) ∧ Hid (wr' = wr)) (fun _ kv _ => (intOf kv + 1).toNat)
      case atStart => exact ⟨7, 0, by omega, rfl, rfl, by omega, by omega, by simp [Hid], by first | exact Lib.hid trivial | rfl⟩
      case round =>
        obtain ⟨m, C, hm7, rfl, rfl, hC0, hC1, HC, hq⟩ := hrel
        have hq' := hq.out
        subst hq'
        cases m with
        | succ m =>
          have e1 : (((m + 1 : Nat) : Int) - 1) = (m : Int) := by omega
          rw [e1]
          have hk0 : (0 : Int) ≤ (m : Int) := by omega
          have hwk := IntWalk.i64_in ((m : Int) - 1) (by omega)
          have hwj := IntWalk.i64_in (7 * (i : Int) + (m : Int)) (by omega)
          have hwc := IntWalk.i64_in (C * 2) (by omega)
          have hwd := IntWalk.i64_in (C * 2 + 1) (by omega)
          have hti : (7 * (i : Int) + (m : Int)).toNat = 7 * i + m := by omega
          have HN : Hid (∀ bb : Bool, ibit v (7 * i + m) = bb → C * 2 + (if bb then 1 else 0) = v / 2 ^ (7 * i + m) % 2 ^ (7 - m)) := by
            intro bb hbb
            have h1 := grp_step (v / 2 ^ (7 * i + m)) (7 - (m + 1))
            rw [← idiv_succ, show 7 * i + m + 1 = 7 * i + (m + 1) by omega, ← HC.out, ibit_val, hbb, show 7 - (m + 1) + 1 = 7 - m by omega] at h1
            exact h1
          by_cases hj : 7 * i + m < 64
          · have hj' : 7 * (i : Int) + (m : Int) < 64 := by omega
            have hj0 : 0 ≤ 7 * (i : Int) + (m : Int) := by omega
            have hcell : wr.cell? ⟨ab, ao + (7 * i + m), none⟩ = some (.bool (ibit v (7 * i + m))) := (HS.out.cell (p := ⟨ab, ao + (7 * i + m), none⟩) habl id).trans (hall.out _ hj)
            generalize hbb : ibit v (7 * i + m) = bb at *
            have HN := HN.out bb rfl
            have HN2 := Lib.hid HN
            clear hbb HN
            cases bb
            · go_wp2_with fail
              go_roundw
              case rel => exact ⟨m, C * 2, by omega, rfl, rfl, by omega, by have h1 := HN2.out; have h2 := emod_small (v / 2 ^ (7 * i + m)) m (by omega); simp at h1; omega, by have := HN2.out; simpa [Hid] using this, by first | exact Lib.hid trivial | rfl⟩
              case measure => simp [intOf]
            · go_wp2_with fail
              go_roundw
              case rel => exact ⟨m, C * 2 + 1, by omega, rfl, rfl, by omega, by have h1 := HN2.out; have h2 := emod_small (v / 2 ^ (7 * i + m)) m (by omega); simp at h1; omega, HN2, by first | exact Lib.hid trivial | rfl⟩
              case measure => simp [intOf]
          · have hj' : ¬ 7 * (i : Int) + (m : Int) < 64 := by omega
            have hbb := HB.out (7 * i + m) (by omega) (by omega)
            have HN2 := Lib.hid (HN.out b hbb)
            clear hbb HN
            cases b
            · go_wp2_with fail
              go_roundw
              case rel => exact ⟨m, C * 2, by omega, rfl, rfl, by omega, by have h1 := HN2.out; have h2 := emod_small (v / 2 ^ (7 * i + m)) m (by omega); simp at h1; omega, by have := HN2.out; simpa [Hid] using this, by first | exact Lib.hid trivial | rfl⟩
              case measure => simp [intOf]
            · go_wp2_with fail
              go_roundw
              case rel => exact ⟨m, C * 2 + 1, by omega, rfl, rfl, by omega, by have h1 := HN2.out; have h2 := emod_small (v / 2 ^ (7 * i + m)) m (by omega); simp at h1; omega, HN2, by first | exact Lib.hid trivial | rfl⟩
              case measure => simp [intOf]
        | zero =>
          have e1 : (((0 : Nat) : Int) - 1) = -1 := rfl
          rw [e1]
          have HC2 : Hid (C = v / 128 ^ i % 128) := by
            have h1 := HC.out
            rw [show 7 * i + 0 = 7 * i by omega, show 7 - 0 = 7 from rfl, grp_val] at h1
            exact h1
          clear HC
          by_cases hlast : i + 1 < n
          · have g1 : (i : Int) < (n : Int) - 1 := by omega
            have hwc := IntWalk.i64_in (C + 128) (by omega)
            have hw8 := IntWalk.u8_in (C + 128) (by omega)
            have hone : ∀ u ∈ #[Value.int .u8 (C + 128)].toList, u.oneCell' = true := by simp [Value.oneCell']
            have HE : Hid (u8s (grpL v n i) ++ #[Value.int .u8 (C + 128)].toList = u8s (grpL v n (i + 1))) := by
              rw [Hid, grpL_succ, u8s_append, grpB, if_pos hlast, ← HC2.out, b8_cell _ (by omega) (by omega)]
            clear hlast
            go_wp2_with (at_builtin; refine wpList_append_src _ rfl _ _ (by rfl) E_u8 (by rfl) (HO.out.alloc _) (by rfl) (reads_new _ #[Value.int .u8 (C + 128)] 5 1 1 rfl) hone hm (by omega) (by simp; omega) ?_; intro D' c' w8 hown8 hgrow hat)
            have HS8 := Lib.hid (grow_step (HS.out.alloc _) hgrow (HO.out.alloc _) (Nat.le_refl _))
            rw [HE.out] at hown8
            exact ⟨⟨i + 1, c', D', by omega, rfl, by rw [Int.natCast_add]; rfl, HS8, hown8⟩, by rw [show intOf (.int .i64 ((i : Int) + 1)) = ((i + 1 : Nat) : Int) from rfl, show intOf (.int .i64 (i : Int)) = (i : Int) from rfl]; omega⟩
          · have g1 : ¬ (i : Int) < (n : Int) - 1 := by omega
            have hw8 := IntWalk.u8_in C (by omega)
            have hone : ∀ u ∈ #[Value.int .u8 C].toList, u.oneCell' = true := by simp [Value.oneCell']
            have HE : Hid (u8s (grpL v n i) ++ #[Value.int .u8 C].toList = u8s (grpL v n (i + 1))) := by
              rw [Hid, grpL_succ, u8s_append, grpB, if_neg hlast, Int.add_zero, ← HC2.out, b8_cell _ (by omega) (by omega)]
            clear hlast
            go_wp2_with (at_builtin; refine wpList_append_src _ rfl _ _ (by rfl) E_u8 (by rfl) (HO.out.alloc _) (by rfl) (reads_new _ #[Value.int .u8 C] 5 1 1 rfl) hone hm (by omega) (by simp; omega) ?_; intro D' c' w8 hown8 hgrow hat)
            have HS8 := Lib.hid (grow_step (HS.out.alloc _) hgrow (HO.out.alloc _) (Nat.le_refl _))
            rw [HE.out] at hown8
            exact ⟨⟨i + 1, c', D', by omega, rfl, by rw [Int.natCast_add]; rfl, HS8, hown8⟩, by rw [show intOf (.int .i64 ((i : Int) + 1)) = ((i + 1 : Nat) : Int) from rfl, show intOf (.int .i64 (i : Int)) = (i : Int) from rfl]; omega⟩
    · obtain rfl : i = n := by omega
      go_wp2_with fail
      go_ret
      exact ⟨D, cc, rfl, HO.out, HS.out⟩
end Go.Proofs.Ytfemeendkjcffaa
/-! leb: the reference's Uint and Int. -/
namespace Go.Proofs.Ytfemeendkjcffaa
open Go.RowKit

/-! ### What the groups have to do with the bytes -/
theorem grpL_cons (v : Int) (n k : Nat) (hn : 1 ≤ n) : grpL v (n + 1) (k + 1) = b8 (v % 128 + 128) :: grpL (v / 128) n k := by
  simp only [grpL, List.range_succ_eq_map, List.map_cons, List.map_map]
  congr 1
  · rw [grpB, if_pos (by omega), Int.pow_zero, Int.ediv_one]
  · refine List.map_congr_left fun i _ => ?_
    simp only [Function.comp, grpB]
    rw [show v / 128 ^ (i + 1) = v / 128 / 128 ^ i by
      rw [Int.pow_succ, Int.mul_comm, Int.ediv_ediv_of_nonneg (by decide)]]
    simp only [Nat.succ_eq_add_one, Nat.add_lt_add_iff_right]
theorem grpL_one (v : Int) : grpL v 1 1 = [b8 (v % 128)] := by
  simp [grpL, grpB, List.range_succ]
/-- Bytes without a sign are groups: n the least number of them. -/
theorem uint_grp : ∀ (f v n : Nat), 1 ≤ n → n ≤ f → v < 128 ^ n → (∀ m, 1 ≤ m → m < n → ¬ v < 128 ^ m) → uintL f v = grpL v n n
  | 0, _, _, h1, h2, _, _ => by omega
  | f + 1, v, n, h1, h2, hv, hm => by
    rw [uintL]
    by_cases hlt : v < 128
    · rw [if_pos hlt]
      obtain rfl : n = 1 := by
        rcases Nat.lt_or_ge 1 n with h | h
        · exact absurd (show v < 128 ^ 1 from hlt) (hm 1 (by decide) h)
        · omega
      rw [grpL_one, b8, show ((v : Int) % 128).toNat = v by omega]
    · rw [if_neg hlt]
      obtain ⟨k, rfl⟩ : ∃ k, n = k + 2 := by
        rcases n with _ | _ | k
        · omega
        · exact absurd hv (by simpa using hlt)
        · exact ⟨k, rfl⟩
      have hd : ∀ m, v / 128 < 128 ^ m ↔ v < 128 ^ (m + 1) := fun m => by
        rw [Nat.div_lt_iff_lt_mul (by decide), Nat.pow_succ]
      rw [grpL_cons _ _ _ (by omega), b8, show ((v : Int) % 128 + 128).toNat = v % 128 + 128 by omega, show ((v : Int) / 128) = ((v / 128 : Nat) : Int) by omega]
      congr 1
      exact uint_grp f (v / 128) (k + 1) (by omega) (by omega) ((hd _).2 hv) fun m h1 h2 h3 => hm (m + 1) (by omega) (by omega) ((hd _).1 h3)
/-- .. and those with a sign. -/
theorem int_grp : ∀ (f : Nat) (v : Int) (n : Nat), n < f → (-(64 * 128 ^ n) ≤ v ∧ v < 64 * 128 ^ n) → (∀ m, m < n → ¬ (-(64 * 128 ^ m) ≤ v ∧ v < 64 * 128 ^ m)) → intL f v = grpL v (n + 1) (n + 1)
  | 0, _, _, h, _, _ => by omega
  | f + 1, v, n, h, hv, hm => by
    rw [intL]
    by_cases hlt : -64 ≤ v ∧ v ≤ 63
    · rw [if_pos hlt]
      obtain rfl : n = 0 := by
        rcases Nat.eq_zero_or_pos n with h | h
        · exact h
        · exact absurd (show -(64 * (128 : Int) ^ 0) ≤ v ∧ v < 64 * (128 : Int) ^ 0 by rw [Int.pow_zero]; omega) (hm 0 h)
      rw [grpL_one]
    · rw [if_neg hlt]
      obtain ⟨k, rfl⟩ : ∃ k, n = k + 1 := by
        rcases n with _ | k
        · rw [Int.pow_zero] at hv; omega
        · exact ⟨k, rfl⟩
      have hd : ∀ m : Nat, (-(64 * (128 : Int) ^ m) ≤ v / 128 ∧ v / 128 < 64 * 128 ^ m) ↔ (-(64 * (128 : Int) ^ (m + 1)) ≤ v ∧ v < 64 * 128 ^ (m + 1)) := fun m => by
        rw [Int.pow_succ]
        generalize (128 : Int) ^ m = P
        omega
      rw [grpL_cons _ _ _ (by omega)]
      congr 1
      exact int_grp f (v / 128) k (by omega) ((hd _).2 hv) fun m h1 h3 => hm (m + 1) (by omega) ((hd _).1 h3)
end Go.Proofs.Ytfemeendkjcffaa
/-! leb: the reference's Uint, walked. -/
namespace Go.Proofs.Ytfemeendkjcffaa
open Go.RowKit

theorem ibit_nat (v j : Nat) : ibit (v : Int) j = v.testBit j := by
  rw [ibit, Nat.testBit_eq_decide_div_mod_eq]
  rw [show ((v : Int) / 2 ^ j % 2) = ((v / 2 ^ j % 2 : Nat) : Int) by rw [Int.natCast_emod, Int.natCast_ediv, Int.natCast_pow]; rfl]
  rw [Bool.eq_iff_iff, beq_iff_eq, decide_eq_true_iff]
  omega
theorem bits_lt {v a : Nat} (hv : v < 2 ^ 64) : (∀ j, a ≤ j → j < 64 → ibit (v : Int) j = false) ↔ v < 2 ^ a := by
  constructor
  · intro h
    refine Nat.lt_pow_two_of_testBit v fun j hj => ?_
    rcases Nat.lt_or_ge j 64 with h1 | h1
    · rw [← ibit_nat]; exact h j hj h1
    · exact Nat.testBit_lt_two_pow (Nat.lt_of_lt_of_le hv (Nat.pow_le_pow_right (by decide : 2 > 0) h1))
  · intro h j hj _
    rw [ibit_nat]
    exact Nat.testBit_lt_two_pow (Nat.lt_of_lt_of_le h (Nat.pow_le_pow_right (by decide : 2 > 0) hj))
theorem pow7 (n : Nat) : 2 ^ (7 * n) = 128 ^ n := by rw [Nat.pow_mul]

set_option maxRecDepth 100000 in
set_option maxHeartbeats 1600000 in
theorem ruint_walk (w : World) (v : Nat) (h : v < 18446744073709551616) : Calls Try.prog 195 #[.int .u64 (v : Int)] w fun e w' => ∃ D c, e = .returned (.slice D (uintF v).length c) ∧ w'.ownsRow w.heap.size 5 1 (.slice D (uintF v).length c) (uintF v).length (u8s (uintF v)) ∧ Step (fun _ => False) w w' := by
  obtain ⟨T, hT⟩ : ∃ T, T = uintF v := ⟨_, rfl⟩
  rw [← hT]
  have HT : Hid (∀ n, 1 ≤ n → n ≤ 10 → v < 128 ^ n → (∀ m, 1 ≤ m → m < n → ¬ v < 128 ^ m) → T = grpL (v : Int) n n) := fun n h1 h2 h3 h4 => hT.trans (uint_grp 10 v n h1 h2 h3 h4)
  clear hT
  have HB : Hid (∀ j, 64 ≤ j → j < 70 → ibit (v : Int) j = false) := fun j h1 _ => by
    rw [ibit_nat]
    exact Nat.testBit_lt_two_pow (Nat.lt_of_lt_of_le h (Nat.pow_le_pow_right (by decide : 2 > 0) h1))
  have HL : Hid (∀ a, (∀ j, a ≤ j → j < 64 → ibit (v : Int) j = false) ↔ v < 2 ^ a) := fun a => bits_lt h
  go_enter Try.func195, Try.ntmps195
  go_wp2_with fail
  refine (bits_walk _ v h).mono ?_
  rintro e w1 ⟨D, c, rfl, hown, hS1⟩
  have HR := Lib.hid (Reads.of_own hown)
  have HS1 := Lib.hid hS1
  clear hown hS1
  go_wp2_with fail
  go_loopw [4] (fun nv wr => ∃ n : Nat, 1 ≤ n ∧ n ≤ 10 ∧ nv = .int .i64 (n : Int) ∧ Hid (∀ m, 1 ≤ m → m < n → ¬ v < 128 ^ m) ∧ Hid (wr = w1)) (fun nv _ => 11 - (intOf nv).toNat)
  case atStart => exact ⟨1, by omega, by omega, rfl, fun m h1 h2 => by omega, by first | exact Lib.hid trivial | rfl⟩
  case round =>
    obtain ⟨n, hn1, hn2, rfl, HM, hq⟩ := hrel
    have hq' := hq.out
    subst hq'
    by_cases hlt : n < 10
    · have hlt' : (n : Int) < 10 := by omega
      have hw7 := IntWalk.i64_in (7 * (n : Int)) (by omega)
      have hwn := IntWalk.i64_in ((n : Int) + 1) (by omega)
      go_wp2_with fail
      go_loopw [5, 6] (fun mv iv wr' => ∃ (i : Nat) (M : Bool), 7 * n ≤ i ∧ i ≤ 64 ∧ mv = .bool M ∧ iv = .int .i64 (i : Int) ∧ Hid (M = true ↔ ∃ j, 7 * n ≤ j ∧ j < i ∧ ibit (v : Int) j = true) ∧ Hid (wr' = wr)) (fun _ iv _ => 65 - (intOf iv).toNat)
      case atStart => exact ⟨7 * n, false, by omega, by omega, rfl, by simp, by simp [Hid]; omega, by first | exact Lib.hid trivial | rfl⟩
      case round =>
        obtain ⟨i, M, hi1, hi2, rfl, rfl, HX, hq⟩ := hrel
        have hq' := hq.out
        subst hq'
        have hwi := IntWalk.i64_in ((i : Int) + 1) (by omega)
        by_cases hil : i < 64
        · have hil' : (i : Int) < 64 := by omega
          have hi0 : (0 : Int) ≤ (i : Int) := by omega
          cases M
          · obtain ⟨ab, ao, rfl, habl, hall⟩ := ibs_all HR.out
            have hcell := hall i hil
            have HX2 : Hid ((ibit (v : Int) i = true) ↔ ∃ j, 7 * n ≤ j ∧ j < i + 1 ∧ ibit (v : Int) j = true) := by
              constructor
              · intro hb; exact ⟨i, hi1, by omega, hb⟩
              · rintro ⟨j, h1, h2, h3⟩
                rcases Nat.lt_or_ge j i with h4 | h4
                · exact absurd (HX.out.2 ⟨j, h1, h4, h3⟩) (by decide)
                · obtain rfl : j = i := by omega
                  exact h3
            generalize ibit (v : Int) i = bb at *
            clear hall
            go_wp2_with fail
            go_roundw
            case rel => exact ⟨i + 1, bb, by omega, by omega, rfl, by rw [Int.natCast_add]; rfl, HX2, by first | exact Lib.hid trivial | rfl⟩
            case measure => simp [intOf]; omega
          · have HX2 : Hid (true = true ↔ ∃ j, 7 * n ≤ j ∧ j < i + 1 ∧ ibit (v : Int) j = true) := by
              obtain ⟨j, h1, h2, h3⟩ := HX.out.1 rfl
              exact ⟨fun _ => ⟨j, h1, by omega, h3⟩, fun _ => rfl⟩
            go_wp2_with fail
            go_roundw
            case rel => exact ⟨i + 1, true, by omega, by omega, rfl, by rw [Int.natCast_add]; rfl, HX2, by first | exact Lib.hid trivial | rfl⟩
            case measure => simp [intOf]; omega
        · obtain rfl : i = 64 := by omega
          have HV : Hid (M = false ↔ v < 128 ^ n) := by
            rw [Hid, ← pow7, ← HL.out]
            constructor
            · intro hM j h1 h2
              cases hb : ibit (v : Int) j with
              | false => rfl
              | true => rw [HX.out.2 ⟨j, h1, h2, hb⟩] at hM; cases hM
            · intro hA
              cases hM : M with
              | false => rfl
              | true =>
                obtain ⟨j, h1, h2, h3⟩ := HX.out.1 hM
                rw [hA j h1 h2] at h3
                cases h3
          cases M
          · have hv := HV.out.1 rfl
            have hTg := HT.out n hn1 (by omega) hv HM.out
            clear hil HX
            go_wp2_with fail
            refine (group_walk _ (v : Int) n c false _ D HR.out HB.out hn1 (by omega)).mono ?_
            rintro e w5 ⟨D', c', rfl, hown5, hS5⟩
            go_wp2_with fail
            go_ret
            rw [hTg, grpL_len]
            exact ⟨D', c', rfl, own_base hown5 (fun k hk => Nat.le_trans HS1.out.size (own_ge hown5 k hk)), HS1.out.trans hS5⟩
          · have hv : ¬ v < 128 ^ n := fun hh => by have := HV.out.2 hh; cases this
            have HM2 : Hid (∀ m, 1 ≤ m → m < n + 1 → ¬ v < 128 ^ m) := fun m h1 h2 => by
              rcases Nat.lt_or_ge m n with h3 | h3
              · exact HM.out m h1 h3
              · obtain rfl : m = n := by omega
                exact hv
            clear hil HX hv HV
            go_wp2_with fail
            go_roundw
            case rel => exact ⟨n + 1, by omega, by omega, by rw [Int.natCast_add]; rfl, HM2, by first | exact Lib.hid trivial | rfl⟩
            case measure => simp [intOf]; omega
    · obtain rfl : n = 10 := by omega
      have hTg := HT.out 10 (by omega) (by omega) (Nat.lt_of_lt_of_le h (by decide)) HM.out
      go_wp2_with fail
      refine (group_walk _ (v : Int) 10 c false _ D HR.out HB.out (by omega) (by omega)).mono ?_
      rintro e w5 ⟨D', c', rfl, hown5, hS5⟩
      go_wp2_with fail
      go_ret
      rw [hTg, grpL_len]
      exact ⟨D', c', rfl, own_base hown5 (fun k hk => Nat.le_trans HS1.out.size (own_ge hown5 k hk)), HS1.out.trans hS5⟩
end Go.Proofs.Ytfemeendkjcffaa
/-! leb: the reference's Int, walked. -/
namespace Go.Proofs.Ytfemeendkjcffaa
open Go.RowKit

/-- A number's bits below 64 hang on what is left of it by 2^64 alone. -/
theorem ibit_mod (v : Int) (j : Nat) (hj : j < 64) : ibit (v % 18446744073709551616) j = ibit v j := by
  have h1 := Int.emod_add_mul_ediv v 18446744073709551616
  have hp : (18446744073709551616 : Int) = 2 ^ j * (2 ^ (63 - j) * 2) := by
    rw [← Int.mul_assoc, ← Int.pow_add, show j + (63 - j) = 63 by omega]
    rfl
  generalize hq : v / 18446744073709551616 = q at h1
  generalize v % 18446744073709551616 = u at *
  rw [ibit, ibit, ← h1, hp, Int.mul_assoc, Int.add_mul_ediv_left _ _ (show (2 : Int) ^ j ≠ 0 from Int.ne_of_gt (Int.pow_pos (by decide)))]
  generalize (2 : Int) ^ (63 - j) = P
  generalize u / 2 ^ j = y
  rw [show y + P * 2 * q = y + 2 * (P * q) by rw [Int.mul_comm P 2, Int.mul_assoc], Int.add_mul_emod_self_left]
theorem ibs_mod (v : Int) : ibs 64 (v % 18446744073709551616) = ibs 64 v := by
  unfold ibs
  refine List.map_congr_left fun j hj => ibit_mod v j (by simpa using hj)
/-- The bits of the number that mirrors one. -/
theorem ibit_neg (v : Int) (j : Nat) : ibit (-v - 1) j = !ibit v j := by
  have hP : (0 : Int) < 2 ^ j := Int.pow_pos (by decide)
  have : (-v - 1) / 2 ^ j = -(v / 2 ^ j) - 1 := by
    generalize (2 : Int) ^ j = P at *
    have h1 := Int.emod_add_mul_ediv v P
    have h2 := Int.emod_nonneg v (show P ≠ 0 by omega)
    have h3 := Int.emod_lt_of_pos v hP
    generalize v / P = q at *
    generalize v % P = r at *
    rw [← h1, show -(r + P * q) - 1 = (P - 1 - r) + P * (-q - 1) by rw [Int.mul_sub, Int.mul_neg, Int.mul_one]; omega, Int.add_mul_ediv_left _ _ (by omega), Int.ediv_eq_zero_of_lt (by omega) (by omega)]
    omega
  rw [ibit, ibit, this, Bool.eq_iff_iff]
  simp
  omega
theorem ibit_hi (v : Nat) (j : Nat) (h : v < 2 ^ j) : ibit (v : Int) j = false := by
  rw [ibit_nat]; exact Nat.testBit_lt_two_pow h
/-- Where all bits from a place on are alike. -/
theorem bits_alike {v : Int} {a : Nat} (ha : a ≤ 63) (hv : -9223372036854775808 ≤ v ∧ v ≤ 9223372036854775807) : (∀ j, a ≤ j → j < 64 → ibit v j = ibit v 63) ↔ (-(2 ^ a : Nat) ≤ v ∧ v < (2 ^ a : Nat)) := by
  rcases Int.lt_or_le v 0 with hn | hp
  · obtain ⟨x, hx⟩ : ∃ x : Nat, -v - 1 = x := ⟨(-v - 1).toNat, by omega⟩
    have hb : ∀ j, ibit v j = !ibit (x : Int) j := fun j => by rw [← hx, ibit_neg, Bool.not_not]
    have h63 : ibit (x : Int) 63 = false := ibit_hi x 63 (by omega)
    have := bits_lt (v := x) (a := a) (by omega)
    rw [show (∀ j, a ≤ j → j < 64 → ibit v j = ibit v 63) ↔ (∀ j, a ≤ j → j < 64 → ibit (x : Int) j = false) from by
      constructor
      · intro h j h1 h2
        have := h j h1 h2
        rw [hb, hb 63, h63] at this
        cases hq : ibit (x : Int) j with
        | false => rfl
        | true => rw [hq] at this; cases this
      · intro h j h1 h2
        rw [hb, hb 63, h63, h j h1 h2]]
    rw [this]
    generalize 2 ^ a = P
    omega
  · obtain ⟨x, rfl⟩ : ∃ x : Nat, v = x := ⟨v.toNat, by omega⟩
    have h63 : ibit (x : Int) 63 = false := ibit_hi x 63 (by omega)
    rw [h63, bits_lt (by omega)]
    generalize 2 ^ a = P
    omega
theorem ibit_far {v : Int} (hv : -9223372036854775808 ≤ v ∧ v ≤ 9223372036854775807) (j : Nat) (h : 63 ≤ j) : ibit v j = ibit v 63 := by
  rcases Int.lt_or_le v 0 with hn | hp
  · obtain ⟨x, hx⟩ : ∃ x : Nat, -v - 1 = x := ⟨(-v - 1).toNat, by omega⟩
    have hb : ∀ j, ibit v j = !ibit (x : Int) j := fun j => by rw [← hx, ibit_neg, Bool.not_not]
    rw [hb, hb 63, ibit_hi x 63 (by omega), ibit_hi x j (Nat.lt_of_lt_of_le (show x < 2 ^ 63 by omega) (Nat.pow_le_pow_right (by decide : 2 > 0) h))]
  · obtain ⟨x, rfl⟩ : ∃ x : Nat, v = x := ⟨v.toNat, by omega⟩
    rw [ibit_hi x 63 (by omega), ibit_hi x j (Nat.lt_of_lt_of_le (show x < 2 ^ 63 by omega) (Nat.pow_le_pow_right (by decide : 2 > 0) h))]
theorem pow64 (n : Nat) : ((2 ^ (7 * (n + 1) - 1) : Nat) : Int) = 64 * 128 ^ n := by
  rw [show 7 * (n + 1) - 1 = 6 + 7 * n by omega, Nat.pow_add, Nat.pow_mul, Int.natCast_mul, Int.natCast_pow]
  rfl
end Go.Proofs.Ytfemeendkjcffaa
/-! leb: the reference's Int, the walk. -/
namespace Go.Proofs.Ytfemeendkjcffaa
open Go.RowKit

set_option maxRecDepth 100000 in
set_option maxHeartbeats 1600000 in
theorem rint_walk (w : World) (v : Int) (h : -9223372036854775808 ≤ v ∧ v ≤ 9223372036854775807) : Calls Try.prog 196 #[.int .i64 v] w fun e w' => ∃ D c, e = .returned (.slice D (intF v).length c) ∧ w'.ownsRow w.heap.size 5 1 (.slice D (intF v).length c) (intF v).length (u8s (intF v)) ∧ Step (fun _ => False) w w' := by
  obtain ⟨T, hT⟩ : ∃ T, T = intF v := ⟨_, rfl⟩
  rw [← hT]
  have HT : Hid (∀ n, n < 10 → (-(64 * 128 ^ n) ≤ v ∧ v < 64 * 128 ^ n) → (∀ m, m < n → ¬ (-(64 * 128 ^ m) ≤ v ∧ v < 64 * 128 ^ m)) → T = grpL v (n + 1) (n + 1)) := fun n h1 h2 h3 => hT.trans (int_grp 10 v n h1 h2 h3)
  clear hT
  have HB : Hid (∀ j, 63 ≤ j → ibit v j = ibit v 63) := ibit_far h
  have HL : Hid (∀ a, a ≤ 63 → ((∀ j, a ≤ j → j < 64 → ibit v j = ibit v 63) ↔ (-(2 ^ a : Nat) ≤ v ∧ v < (2 ^ a : Nat)))) := fun a ha => bits_alike ha h
  obtain ⟨u, hu⟩ : ∃ u : Nat, (u : Int) = v % 18446744073709551616 := ⟨(v % 18446744073709551616).toNat, by omega⟩
  have hcv : IntKind.u64.wrap v = (u : Int) := by
    rw [hu, IntKind.wrap_u64]
  have hul : u < 18446744073709551616 := by omega
  have HBits : Hid (∀ w : World, Calls Try.prog 205 #[.int .u64 (u : Int)] w fun e w' => ∃ D c, e = .returned (.slice D 64 c) ∧ w'.ownsRow w.heap.size 4 1 (.slice D 64 c) 64 (bools (ibs 64 v)) ∧ Step (fun _ => False) w w') := fun w => by
    have := bits_walk w u hul
    rw [hu, ibs_mod, ← hu] at this
    exact this
  clear hu
  go_enter Try.func196, Try.ntmps196
  go_wp2_with fail
  refine (HBits.out _).mono ?_
  rintro e w1 ⟨D, c, rfl, hown, hS1⟩
  obtain ⟨ab, ao, rfl, habl, hall⟩ := ibs_all (Reads.of_own hown)
  have HR := Lib.hid (Reads.of_own hown)
  have HS1 := Lib.hid hS1
  have h63c := hall 63 (by decide)
  obtain ⟨sb, hsb⟩ : ∃ sb, sb = ibit v 63 := ⟨_, rfl⟩
  rw [← hsb] at HB HL h63c
  clear hsb
  replace hall := Lib.hid hall
  clear hown hS1 HBits
  go_wp2_with fail
  go_loopw [4] (fun nv wr => ∃ n : Nat, n ≤ 9 ∧ nv = .int .i64 ((n + 1 : Nat) : Int) ∧ Hid (∀ m, m < n → ¬ (-(64 * 128 ^ m) ≤ v ∧ v < 64 * 128 ^ m)) ∧ Hid (∃ q, wr = w1.drewN q)) (fun nv _ => 11 - (intOf nv).toNat)
  case atStart => exact ⟨0, by omega, rfl, fun m h1 => by omega, ⟨0, rfl⟩⟩
  case round =>
    obtain ⟨n, hn2, rfl, HM, hq⟩ := hrel
    obtain ⟨N, hN⟩ : ∃ N : Nat, N = n + 1 := ⟨_, rfl⟩
    rw [← hN]
    by_cases hlt : n < 9
    · have hlt' : (N : Int) < 10 := by omega
      have hw7 := IntWalk.i64_in (7 * (N : Int)) (by omega)
      have hw6 := IntWalk.i64_in (7 * (N : Int) - 1) (by omega)
      have hwn := IntWalk.i64_in ((N : Int) + 1) (by omega)
      have HN := Lib.hid hN
      clear hN
      go_wp2_with fail
      go_loopw [5, 6] (fun mv iv wr' => ∃ (i : Nat) (M : Bool), 7 * N - 1 ≤ i ∧ i ≤ 64 ∧ mv = .bool M ∧ iv = .int .i64 (i : Int) ∧ Hid (M = true ↔ ∃ j, 7 * N - 1 ≤ j ∧ j < i ∧ ibit v j ≠ sb) ∧ Hid (∃ q, wr' = w1.drewN q)) (fun _ iv _ => 65 - (intOf iv).toNat)
      case atStart => exact ⟨7 * N - 1, false, by omega, by omega, rfl, by have := HN.out; congr 1; omega, by simp [Hid]; omega, hq⟩
      case round =>
        obtain ⟨i, M, hi1, hi2, rfl, rfl, HX, hq⟩ := hrel
        have hsbc : wr.cell? ⟨ab, ao + 63, none⟩ = some (.bool sb) := by obtain ⟨q, hq⟩ := hq.out; rw [hq]; exact h63c
        have hwi := IntWalk.i64_in ((i : Int) + 1) (by omega)
        by_cases hil : i < 64
        · have hil' : (i : Int) < 64 := by omega
          have hi0 : (0 : Int) ≤ (i : Int) := by omega
          cases M
          · have hcell : wr.cell? ⟨ab, ao + i, none⟩ = some (.bool (ibit v i)) := by obtain ⟨q, hq⟩ := hq.out; rw [hq]; exact hall.out i hil
            have HX2 : Hid (((ibit v i != sb) = true) ↔ ∃ j, 7 * N - 1 ≤ j ∧ j < i + 1 ∧ ibit v j ≠ sb) := by
              rw [Hid, bne_iff_ne]
              constructor
              · intro hb; exact ⟨i, hi1, by omega, hb⟩
              · rintro ⟨j, h1, h2, h3⟩
                rcases Nat.lt_or_ge j i with h4 | h4
                · exact absurd (HX.out.2 ⟨j, h1, h4, h3⟩) (by decide)
                · obtain rfl : j = i := by omega
                  exact h3
            generalize ibit v i = bb at *
            cases bb <;> cases sb <;>
            · go_wp2_with fail
              go_quiet (fail)
              go_wp2_with fail
              go_roundw
              case rel => exact ⟨i + 1, _, by omega, by omega, rfl, by rw [Int.natCast_add]; rfl, HX2, by obtain ⟨q, hq⟩ := hq.out; exact ⟨q + nq, by rw [hq, World.drewN_drewN]⟩⟩
              case measure => simp [intOf]; omega
          · have HX2 : Hid (true = true ↔ ∃ j, 7 * N - 1 ≤ j ∧ j < i + 1 ∧ ibit v j ≠ sb) := by
              obtain ⟨j, h1, h2, h3⟩ := HX.out.1 rfl
              exact ⟨fun _ => ⟨j, h1, by omega, h3⟩, fun _ => rfl⟩
            go_wp2_with fail
            go_quiet (fail)
            go_wp2_with fail
            go_roundw
            case rel => exact ⟨i + 1, true, by omega, by omega, rfl, by rw [Int.natCast_add]; rfl, ⟨fun _ => HX2.out.1 trivial, fun _ => rfl⟩, by obtain ⟨q, hq⟩ := hq.out; exact ⟨q + nq, by rw [hq, World.drewN_drewN]⟩⟩
            case measure => simp [intOf]; omega
        · obtain rfl : i = 64 := by omega
          have HV : Hid (M = false ↔ (-(64 * 128 ^ n) ≤ v ∧ v < 64 * 128 ^ n)) := by
            rw [Hid, ← pow64, ← HN.out, ← HL.out _ (by have := HN.out; omega)]
            constructor
            · intro hM j h1 h2
              rcases Classical.em (ibit v j = sb) with hb | hb
              · exact hb
              · rw [HX.out.2 ⟨j, h1, h2, hb⟩] at hM; cases hM
            · intro hA
              cases hM : M with
              | false => rfl
              | true =>
                obtain ⟨j, h1, h2, h3⟩ := HX.out.1 hM
                exact absurd (hA j h1 h2) h3
          cases M
          · have hv := HV.out.1 rfl
            have hTg := HT.out n (by omega) hv HM.out
            rw [← HN.out] at hTg
            have HTg := Lib.hid hTg
            have HRw : Hid (Reads wr (fun k => Value.ownBlock (.slice (some ⟨ab, ao, none⟩) 64 c) = some k) 1 (some ⟨ab, ao, none⟩) 64 (bools (ibs 64 v))) := by obtain ⟨q, hq⟩ := hq.out; rw [hq]; exact HR.out
            have HSw : Hid (Step (fun _ => False) w wr) := by obtain ⟨q, hq⟩ := hq.out; rw [hq]; exact HS1.out.drewN q
            clear hil HX hv hTg HV
            go_wp2_with fail
            refine (group_walk _ v N c sb _ _ HRw.out (fun j h1 _ => HB.out j (by omega)) (by have := HN.out; omega) (by have := HN.out; omega)).mono ?_
            rintro e w5 ⟨D', c', rfl, hown5, hS5⟩
            go_wp2_with fail
            go_ret
            rw [HTg.out, grpL_len]
            exact ⟨D', c', rfl, own_base hown5 (fun k hk => Nat.le_trans HSw.out.size (own_ge hown5 k hk)), HSw.out.trans hS5⟩
          · have hv : ¬ (-(64 * 128 ^ n) ≤ v ∧ v < 64 * 128 ^ n) := fun hh => by have := HV.out.2 hh; cases this
            have HM2 : Hid (∀ m, m < n + 1 → ¬ (-(64 * 128 ^ m) ≤ v ∧ v < 64 * 128 ^ m)) := fun m h2 => by
              rcases Nat.lt_or_ge m n with h3 | h3
              · exact HM.out m h3
              · obtain rfl : m = n := by omega
                exact hv
            clear hil HX hv HV
            go_wp2_with fail
            go_roundw
            case rel => exact ⟨n + 1, by omega, by rw [show n + 1 + 1 = N + 1 by rw [HN.out], Int.natCast_add]; rfl, HM2, hq⟩
            case measure => simp [intOf]; have := HN.out; omega
    · obtain rfl : n = 9 := by omega
      have hTg := HT.out 9 (by omega) (by omega) HM.out
      have HTg := Lib.hid hTg
      have hsbc : wr.cell? ⟨ab, ao + 63, none⟩ = some (.bool sb) := by obtain ⟨q, hq⟩ := hq.out; rw [hq]; exact h63c
      have HRw : Hid (Reads wr (fun k => Value.ownBlock (.slice (some ⟨ab, ao, none⟩) 64 c) = some k) 1 (some ⟨ab, ao, none⟩) 64 (bools (ibs 64 v))) := by obtain ⟨q, hq⟩ := hq.out; rw [hq]; exact HR.out
      have HSw : Hid (Step (fun _ => False) w wr) := by obtain ⟨q, hq⟩ := hq.out; rw [hq]; exact HS1.out.drewN q
      clear hTg
      subst hN
      rw [show ((9 + 1 : Nat) : Int) = 10 from rfl]
      go_wp2_with fail
      refine (group_walk _ v 10 c sb _ _ HRw.out (fun j h1 _ => HB.out j (by omega)) (by omega) (by omega)).mono ?_
      rintro e w5 ⟨D', c', rfl, hown5, hS5⟩
      go_wp2_with fail
      go_ret
      rw [HTg.out, grpL_len]
      exact ⟨D', c', rfl, own_base hown5 (fun k hk => Nat.le_trans HSw.out.size (own_ge hown5 k hk)), HSw.out.trans hS5⟩
end Go.Proofs.Ytfemeendkjcffaa
