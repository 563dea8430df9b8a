/-
  leb: numbers as bytes of seven bits.
-/
import Derived.Test.YteibigianodhnaaByt
import Derived.Test.YteibigianodhnaaOpn
set_option linter.unusedVariables false
set_option linter.unusedSimpArgs false
namespace Go.Proofs.Yteibigianodhnaa
open Go.RowKit

/-- A number without a sign: sevens, the lowest first; each but the last one with its highest bit. -/
def uintL : Nat → Nat → List UInt8
  | 0, _ => []
  | f + 1, v => if v < 128 then [UInt8.ofNat v] else UInt8.ofNat (v % 128 + 128) :: uintL f (v / 128)
def uintF (v : Nat) : List UInt8 := uintL 10 v
theorem uintL_len (f v : Nat) : (uintL f v).length ≤ f := by
  induction f generalizing v with
  | zero => simp [uintL]
  | succ f ih =>
    rw [uintL]
    split
    · simp
    · have := ih (v / 128); simp; omega

theorem or128 (v : Nat) : bits .or .u8 ((v : Int) % 256) 128 = ((v % 128 + 128 : Nat) : Int) := by
  have h1 : ((v : Int) % 256) = ((v % 256 : Nat) : Int) := by omega
  have h2 : ∀ x : Fin 256, x.1 ||| 128 = x.1 % 128 + 128 := by decide +kernel
  have h3 := h2 ⟨v % 256, Nat.mod_lt _ (by decide)⟩
  have h4 : (v % 256) % 128 = v % 128 := by omega
  rw [h1]
  refine (u8_or_nat (v % 256) 128 (Nat.mod_lt _ (by decide)) (by decide)).trans ?_
  rw [show (v % 256 ||| 128) = (v % 256) % 128 + 128 from h3, h4]
theorem byte_cell (n : Nat) (h : n < 256) : u8s [UInt8.ofNat n] = [Value.int .u8 (n : Int)] := by
  simp [u8s]
  omega

set_option maxRecDepth 100000 in
set_option maxHeartbeats 1600000 in
theorem uint_walk (w : World) (v : Nat) (h : v < 18446744073709551616) : Calls Try.prog 28 #[.int .u64 (v : Int)] w fun e w' => ∃ D c, e = .returned (.slice D (uintF v).length c) ∧ w'.ownsRow w.heap.size 5 1 (.slice D (uintF v).length c) (uintF v).length (u8s (uintF v)) ∧ Step (fun _ => False) w w' := by
  have ho0 : w.ownsRow w.heap.size 5 1 (.slice none 0 0) 0 (u8s []) := World.ownsRow_nil _ _ _ _
  obtain ⟨T, hT⟩ : ∃ T, T = uintF v := ⟨_, rfl⟩
  rw [← hT]
  replace hT : Hid (T = [] ++ uintL 10 v) := hT
  go_enter Try.func28, Try.ntmps28
  go_wp2_with fail
  go_loopw [0, 3] (fun vv ov wr => ∃ (v f cc : Nat) (acc : List UInt8) (D : Option Addr), v < 128 ^ f ∧ 1 ≤ f ∧ acc.length + f = 10 ∧ vv = .int .u64 (v : Int) ∧ ov = .slice D acc.length cc ∧ Hid (T = acc ++ uintL f v) ∧ Hid (Step (fun _ => False) w wr) ∧ Hid (wr.ownsRow w.heap.size 5 1 (.slice D acc.length cc) acc.length (u8s acc))) (fun vv _ _ => (intOf vv).toNat)
  case atStart => exact ⟨v, 10, 0, [], none, by omega, by omega, rfl, rfl, rfl, hT, Step.refl, ho0⟩
  case round =>
    obtain ⟨v, f, cc, acc, D, hv, hf, hl, rfl, rfl, HT, HS, HO⟩ := hrel
    clear ho0
    by_cases hlt : v < 128
    · have hlt' : ¬ (128 : Int) ≤ (v : Int) := by omega
      have hm : acc.length + 1 ≤ maxLen := by unfold maxLen; omega
      have hsz := HS.out.size
      have hone : ∀ u ∈ #[Value.int .u8 (v : Int)].toList, u.oneCell' = true := by simp [Value.oneCell']
      go_wp2_with (at_builtin; refine wpList_append_src _ rfl _ _ (by rfl) E_u8 (by rfl) (HO.out.alloc _) (by rfl) (reads_new _ #[Value.int .u8 (v : Int)] 5 1 1 rfl) hone hm (by omega) (by simp; omega) ?_; intro D' c' w8 hown8 hgrow hat)
      go_ret
      have hTl : T = acc ++ [UInt8.ofNat v] := by
        rw [HT.out]
        obtain ⟨f, rfl⟩ : ∃ g, f = g + 1 := ⟨f - 1, by omega⟩
        rw [uintL, if_pos hlt]
      have hTn : T.length = acc.length + 1 := by rw [hTl]; simp
      have hTc : u8s acc ++ #[Value.int .u8 (v : Int)].toList = u8s T := by rw [hTl, u8s_append, byte_cell v (by omega)]
      rw [hTn, ← hTc]
      exact ⟨D', c', rfl, hown8, grow_step (HS.out.alloc _) hgrow (HO.out.alloc _) (Nat.le_refl _)⟩
    · have hge : (128 : Int) ≤ (v : Int) := by omega
      have hm : acc.length + 1 ≤ maxLen := by unfold maxLen; omega
      have hsz := HS.out.size
      have hor := or128 v
      obtain ⟨x, hx⟩ : ∃ x : Int, x = ((v % 128 + 128 : Nat) : Int) := ⟨_, rfl⟩
      rw [← hx] at hor
      have HX := Lib.hid hx
      clear hx
      have hone : ∀ u ∈ #[Value.int .u8 x].toList, u.oneCell' = true := by simp [Value.oneCell']
      go_wp2_with (at_builtin; refine wpList_append_src _ rfl _ _ (by rfl) E_u8 (by rfl) (HO.out.alloc _) (by rfl) (reads_new _ #[Value.int .u8 x] 5 1 1 rfl) hone hm (by omega) (by simp; omega) ?_; intro D' c' w8 hown8 hgrow hat)
      obtain ⟨g, rfl⟩ : ∃ g, f = g + 2 := by
        rcases f with _ | _ | g
        · omega
        · exact absurd hv (by simpa using hlt)
        · exact ⟨g, rfl⟩
      have hv2 : v / 128 < 128 ^ (g + 1) := by
        rw [Nat.div_lt_iff_lt_mul (by decide)]
        rw [Nat.pow_succ] at hv
        exact hv
      have hTl : T = (acc ++ [UInt8.ofNat (v % 128 + 128)]) ++ uintL (g + 1) (v / 128) := by
        rw [HT.out, uintL, if_neg hlt, List.append_assoc]
        rfl
      have hxc : [Value.int .u8 x] = u8s [UInt8.ofNat (v % 128 + 128)] := by rw [byte_cell _ (by omega), HX.out]
      have hcs : u8s acc ++ #[Value.int .u8 x].toList = u8s (acc ++ [UInt8.ofNat (v % 128 + 128)]) := by rw [u8s_append, ← hxc]
      have hln : acc.length + 1 = (acc ++ [UInt8.ofNat (v % 128 + 128)]).length := by simp
      have HS8 := Lib.hid (grow_step (HS.out.alloc _) hgrow (HO.out.alloc _) (Nat.le_refl _))
      rw [hcs, hln] at hown8
      rw [hln]
      exact ⟨⟨v / 128, g + 1, c', acc ++ [UInt8.ofNat (v % 128 + 128)], D', hv2, by omega, by simp; omega, by rw [Int.natCast_ediv]; rfl, rfl, hTl, HS8, hown8⟩, by
        rw [show intOf (.int .u64 ((v : Int) / 128)) = (v : Int) / 128 from rfl, show intOf (.int .u64 (v : Int)) = (v : Int) from rfl]
        omega⟩
end Go.Proofs.Yteibigianodhnaa
