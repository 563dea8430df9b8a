/-
  leb: numbers with a sign.
-/
import Derived.Test.YtfemeendkjcffaaLeA
set_option linter.unusedVariables false
set_option linter.unusedSimpArgs false
namespace Go.Proofs.Ytfemeendkjcffaa
open Go.RowKit

def b8 (v : Int) : UInt8 := UInt8.ofNat v.toNat
def intL : Nat → Int → List UInt8
  | 0, _ => []
  | f + 1, v => if -64 ≤ v ∧ v ≤ 63 then [b8 (v % 128)] else b8 (v % 128 + 128) :: intL f (v / 128)
def intF (v : Int) : List UInt8 := intL 10 v
theorem intL_len (f : Nat) (v : Int) : (intL f v).length ≤ f := by
  induction f generalizing v with
  | zero => simp [intL]
  | succ f ih =>
    rw [intL]
    split
    · simp
    · have := ih (v / 128); simp; omega
theorem b8_cell (n : Int) (h0 : 0 ≤ n) (h : n < 256) : u8s [b8 n] = [Value.int .u8 n] := by
  obtain ⟨m, rfl⟩ : ∃ m : Nat, n = m := ⟨n.toNat, by omega⟩
  rw [b8, Int.toNat_natCast]
  exact byte_cell m (by omega)
theorem or128i (v : Int) : bits .or .u8 (v % 256) 128 = v % 128 + 128 := by
  have h := or128 (v % 256).toNat
  rw [show (((v % 256).toNat : Nat) : Int) % 256 = v % 256 by omega] at h
  rw [h]
  omega
theorem and127i (v : Int) : bits .and .u8 (v % 256) 127 = v % 128 := by
  have h2 : ∀ x : Fin 256, x.1 &&& 127 = x.1 % 128 := by decide +kernel
  have h3 := h2 ⟨(v % 256).toNat, by omega⟩
  have h1 := u8_and_nat (v % 256).toNat 127 (by omega) (by decide)
  rw [show (v % 256).toNat &&& 127 = (v % 256).toNat % 128 from h3] at h1
  rw [show (((v % 256).toNat : Nat) : Int) = v % 256 by omega] at h1
  refine h1.trans ?_
  omega

set_option maxRecDepth 100000 in
set_option maxHeartbeats 1600000 in
theorem int_walk (w : World) (v : Int) (h : -9223372036854775808 ≤ v ∧ v ≤ 9223372036854775807) : Calls Try.prog 150 #[.int .i64 v] w fun e w' => ∃ D c, e = .returned (.slice D (intF v).length c) ∧ w'.ownsRow w.heap.size 5 1 (.slice D (intF v).length c) (intF v).length (u8s (intF v)) ∧ Step (fun _ => False) w w' := by
  have ho0 : w.ownsRow w.heap.size 5 1 (.slice none 0 0) 0 (u8s []) := World.ownsRow_nil _ _ _ _
  obtain ⟨T, hT⟩ : ∃ T, T = intF v := ⟨_, rfl⟩
  rw [← hT]
  replace hT : Hid (T = [] ++ intL 10 v) := hT
  have hv0 : -(64 * 128 ^ 9) ≤ v ∧ v < 64 * 128 ^ 9 := by omega
  go_enter Try.func150, Try.ntmps150
  go_wp2_with fail
  go_loopw [0, 3] (fun vv ov wr => ∃ (v : Int) (f cc : Nat) (acc : List UInt8) (D : Option Addr), (-(64 * 128 ^ f) ≤ v ∧ v < 64 * 128 ^ f) ∧ acc.length + f = 9 ∧ vv = .int .i64 v ∧ ov = .slice D acc.length cc ∧ Hid (T = acc ++ intL (f + 1) v) ∧ Hid (Step (fun _ => False) w wr) ∧ Hid (wr.ownsRow w.heap.size 5 1 (.slice D acc.length cc) acc.length (u8s acc))) (fun vv _ _ => (intOf vv).natAbs)
  case atStart => exact ⟨v, 9, 0, [], none, hv0, rfl, rfl, rfl, hT, Step.refl, ho0⟩
  case round =>
    obtain ⟨v, f, cc, acc, D, hv, hl, rfl, rfl, HT, HS, HO⟩ := hrel
    clear ho0
    have hm : acc.length + 1 ≤ maxLen := by unfold maxLen; omega
    have hsz := HS.out.size
    by_cases hlt : -64 ≤ v ∧ v ≤ 63
    · obtain ⟨l1, l2⟩ := hlt
      have hle1 : ¬ v < -64 := by omega
      have hle2 : ¬ 63 < v := by omega
      have hand := and127i v
      obtain ⟨x, hx⟩ : ∃ x : Int, x = v % 128 := ⟨_, rfl⟩
      rw [← hx] at hand
      have HX := Lib.hid hx
      clear hx
      have hone : ∀ u ∈ #[Value.int .u8 x].toList, u.oneCell' = true := by simp [Value.oneCell']
      go_wp2_with (at_builtin; refine wpList_append_src _ rfl _ _ (by rfl) E_u8 (by rfl) (HO.out.alloc _) (by rfl) (reads_new _ #[Value.int .u8 x] 5 1 1 rfl) hone hm (by omega) (by simp; omega) ?_; intro D' c' w8 hown8 hgrow hat)
      go_ret
      have hTl : T = acc ++ [b8 (v % 128)] := by
        rw [HT.out, intL, if_pos ⟨l1, l2⟩]
      have hTn : T.length = acc.length + 1 := by rw [hTl]; simp
      have hTc : u8s acc ++ #[Value.int .u8 x].toList = u8s T := by rw [hTl, u8s_append, b8_cell _ (by omega) (by omega), HX.out]
      rw [hTn, ← hTc]
      exact ⟨D', c', rfl, hown8, grow_step (HS.out.alloc _) hgrow (HO.out.alloc _) (Nat.le_refl _)⟩
    · have hge : v < -64 ∨ (¬ v < -64 ∧ 63 < v) := by omega
      obtain ⟨g, hg⟩ : ∃ g, f = g + 1 := by
        rcases f with _ | g
        · simp at hv; omega
        · exact ⟨g, rfl⟩
      have HV : Hid (-(64 * 128 ^ g) ≤ v / 128 ∧ v / 128 < 64 * 128 ^ g) := by
        rw [hg, Int.pow_succ] at hv
        generalize (128 : Int) ^ g = P at hv
        have : -(64 * P) ≤ v / 128 ∧ v / 128 < 64 * P := by omega
        exact this
      have HL := Lib.hid hlt
      have HG := Lib.hid hg
      clear hlt hg hv
      have hor := or128i v
      obtain ⟨x, hx⟩ : ∃ x : Int, x = v % 128 + 128 := ⟨_, rfl⟩
      rw [← hx] at hor
      have HX := Lib.hid hx
      clear hx
      have hone : ∀ u ∈ #[Value.int .u8 x].toList, u.oneCell' = true := by simp [Value.oneCell']
      rcases hge with g1 | ⟨g1, g2⟩ <;>
      · go_wp2_with (at_builtin; refine wpList_append_src _ rfl _ _ (by rfl) E_u8 (by rfl) (HO.out.alloc _) (by rfl) (reads_new _ #[Value.int .u8 x] 5 1 1 rfl) hone hm (by omega) (by simp; omega) ?_; intro D' c' w8 hown8 hgrow hat)
        have hTl : T = (acc ++ [b8 (v % 128 + 128)]) ++ intL (g + 1) (v / 128) := by
          rw [HT.out, HG.out, intL, if_neg HL.out, List.append_assoc]
          rfl
        have hxc : [Value.int .u8 x] = u8s [b8 (v % 128 + 128)] := by rw [b8_cell _ (by omega) (by omega), HX.out]
        have hcs : u8s acc ++ #[Value.int .u8 x].toList = u8s (acc ++ [b8 (v % 128 + 128)]) := by rw [u8s_append, ← hxc]
        have hln : acc.length + 1 = (acc ++ [b8 (v % 128 + 128)]).length := by simp
        have HS8 := Lib.hid (grow_step (HS.out.alloc _) hgrow (HO.out.alloc _) (Nat.le_refl _))
        have hgl : (acc ++ [b8 (v % 128 + 128)]).length + g = 9 := by have := HG.out; simp; omega
        rw [hcs, hln] at hown8
        rw [hln]
        exact ⟨⟨v / 128, g, c', acc ++ [b8 (v % 128 + 128)], D', HV.out, hgl, rfl, rfl, hTl, HS8, hown8⟩, by
          rw [show intOf (.int .i64 (v / 128)) = v / 128 from rfl, show intOf (.int .i64 v) = v from rfl]
          omega⟩
end Go.Proofs.Ytfemeendkjcffaa
