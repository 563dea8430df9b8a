/-
  elems: Right, Put.
-/
import Derived.Test.YtfemeendkjcffaaElA
import Derived.Test.YtfemeendkjcffaaSaA
import Derived.Test.YtfemeendkjcffaaPw
set_option linter.unusedVariables false
set_option linter.unusedSimpArgs false
namespace Go.Proofs.Ytfemeendkjcffaa
open Go.RowKit

/-- A table's row as the law gets it. -/
def elmX (op a b : Nat) (A : Option Addr) (n c : Nat) (f : Value) : Array Value := #[.int .u8 (op : Int), .int .u64 (a : Int), .int .u64 (b : Int), .slice A n c, f]
/-- Bytes, then labels. -/
def preE (T : List UInt8) (L : List Nat) (j : Nat) : List UInt8 := T ++ labL (L.take j)
theorem preE_zero (T : List UInt8) (L : List Nat) : preE T L 0 = T := by simp [preE, labL]
theorem preE_succ (T : List UInt8) (L : List Nat) (j : Nat) (h : j < L.length) : preE T L (j + 1) = preE T L j ++ uintF L[j] := by
  rw [preE, labL_take L j h, preE]
  simp
theorem preE_all (T : List UInt8) (L : List Nat) : preE T L L.length = T ++ labL L := by rw [preE, List.take_length]
theorem preE_len (T : List UInt8) (L : List Nat) (j : Nat) (hj : j ≤ L.length) : (preE T L j).length ≤ T.length + 10 * L.length := by
  have h2 := labL_len (L.take j)
  rw [List.length_take] at h2
  rw [preE, List.length_append]
  omega

section
variable (w : World) (op a b n c m fc : Nat) (A FA : Option Addr) (hop : op < 256) (hm : m ≤ 1000)
include hop hm

set_option maxRecDepth 100000 in
set_option maxHeartbeats 1600000 in
theorem eright_walk :
    Calls Try.prog 90 #[.agg (elmX op a b A n c (.slice FA m fc))] w fun e w' => e = .returned (.int .i64 (crtF op a b n : Nat)) ∧ Step (fun _ => False) w w' := by
  have HR : Hid (∀ w, Calls Try.prog 38 #[.agg #[.int .u8 (op : Int), .int .u64 (a : Int), .int .u64 (b : Int), .slice A n c]] w fun e w' => e = .returned (.int .i64 (crtF op a b n : Nat)) ∧ Step (fun _ => False) w w') := fun w => cright_walk w op a b n c A hop
  have g1 : ¬ (10000 : Int) < (m : Int) := by omega
  simp only [elmX]
  go_enter Try.func90, Try.ntmps90
  go_wp2_with fail
  refine (HR.out _).mono ?_
  rintro e w5 ⟨rfl, hS5⟩
  go_wp2_with fail
  go_ret
  exact ⟨rfl, (Step.refl.alloc _).trans hS5⟩

set_option maxRecDepth 100000 in
set_option maxHeartbeats 1600000 in
theorem erright_walk :
    Calls Try.prog 88 #[.agg (elmX op a b A n c (.slice FA m fc))] w fun e w' => e = .returned (.int .i64 (crtF op a b n : Nat)) ∧ Step (fun _ => False) w w' := by
  have HR : Hid (∀ w, Calls Try.prog 35 #[.agg #[.int .u8 (op : Int), .int .u64 (a : Int), .int .u64 (b : Int), .slice A n c]] w fun e w' => e = .returned (.int .i64 (crtF op a b n : Nat)) ∧ Step (fun _ => False) w w') := fun w => crright_walk w op a b n c A hop
  have g1 : ¬ (10000 : Int) < (m : Int) := by omega
  simp only [elmX]
  go_enter Try.func88, Try.ntmps88
  go_wp2_with fail
  refine (HR.out _).mono ?_
  rintro e w5 ⟨rfl, hS5⟩
  go_wp2_with fail
  go_ret
  exact ⟨rfl, (Step.refl.alloc _).trans hS5⟩

set_option maxRecDepth 100000 in
set_option maxHeartbeats 1600000 in
theorem eput_err (h : ¬ crtF op a b n = 0) :
    Calls Try.prog 89 #[.agg (elmX op a b A n c (.slice FA m fc))] w fun e w' => e = .returned (.tuple #[.slice none 0 0, .int .i64 (crtF op a b n : Nat)]) ∧ Step (fun _ => False) w w' := by
  have HR : Hid (∀ w, Calls Try.prog 90 #[.agg (elmX op a b A n c (.slice FA m fc))] w fun e w' => e = .returned (.int .i64 (crtF op a b n : Nat)) ∧ Step (fun _ => False) w w') := fun w => eright_walk w op a b n c m fc A FA hop hm
  obtain ⟨r, hr⟩ : ∃ r : Int, r = (crtF op a b n : Nat) := ⟨_, rfl⟩
  have hne : ¬ r = 0 := by omega
  have hnb : (r != 0) = true := bne_iff_ne.2 hne
  rw [← hr] at HR ⊢
  simp only [elmX] at HR ⊢
  clear hr h
  go_enter Try.func89, Try.ntmps89
  go_wp2_with fail
  refine (HR.out _).mono ?_
  rintro e w5 ⟨rfl, hS5⟩
  have HS5 := Lib.hid ((Step.refl.alloc _).trans hS5)
  clear hS5
  go_wp2_with fail
  go_ret2
  exact ⟨rfl, HS5.out⟩
end

set_option maxRecDepth 100000 in
set_option maxHeartbeats 6400000 in
theorem eput_ok (w : World) (op a c n fc : Nat) (A FA : Option Addr) (L : List Nat) (S : Nat → Prop) (hok : ConstOk op a) (ha : a < 18446744073709551616) (HN : Hid (n = L.length)) (hnb : n ≤ 1000) (hLb : ∀ x ∈ L, x < 4294967296) (hr : Reads w S 1 FA n (u32s L)) :
    Calls Try.prog 89 #[.agg (elmX op a 0 A 0 c (.slice FA n fc))] w fun e w' => ∃ D c', e = .returned (.tuple #[.slice D (eputL op a L).length c', .int .i64 0]) ∧
      w'.ownsRow w.heap.size 5 1 (.slice D (eputL op a L).length c') (eputL op a L).length (u8s (eputL op a L)) ∧ Step (fun _ => False) w w' := by
  have hop : op < 256 := by rcases hok with ⟨rfl, h⟩ | ⟨rfl, h⟩ | rfl <;> decide
  have HR : Hid (∀ w, Calls Try.prog 90 #[.agg (elmX op a 0 A 0 c (.slice FA n fc))] w fun e w' => e = .returned (.int .i64 0) ∧ Step (fun _ => False) w w') := fun w => by
    have := eright_walk w op a 0 0 c n fc A FA hop hnb
    rw [crt_ok hok] at this
    exact this
  have HP : Hid (∀ w, Calls Try.prog 36 #[.agg #[.int .u8 (op : Int), .int .u64 (a : Int), .int .u64 0, .slice A 0 c]] w fun e w' => ∃ D c', e = .returned (.tuple #[.slice D (cputL op a).length c', .int .i64 0]) ∧
      w'.ownsRow w.heap.size 5 1 (.slice D (cputL op a).length c') (cputL op a).length (u8s (cputL op a)) ∧ Step (fun _ => False) w w') := fun w => cput_ok w op a c A hok ha
  have hl1 : (cputL op a).length ≤ 12 := by have := cT_len op a; rw [cputL]; simp; omega
  obtain ⟨V, hV⟩ : ∃ V, V = cputL op a := ⟨_, rfl⟩
  have hlU := num_len n
  obtain ⟨U, hU⟩ : ∃ U, U = uintF n := ⟨_, rfl⟩
  obtain ⟨Z, hZ⟩ : ∃ Z, Z = eputL op a L := ⟨_, rfl⟩
  obtain ⟨T, hT⟩ : ∃ T, T = UInt8.ofNat 0 :: (V ++ U) := ⟨_, rfl⟩
  have HZ : Hid (Z = T ++ labL L) := by rw [Hid, hZ, eputL, hT, hV, hU, HN.out]; simp
  rw [← hV] at HP hl1
  rw [← hU] at hlU
  rw [← hZ]
  have HT := Lib.hid hT
  have hlT : T.length ≤ 23 := by rw [hT, List.length_cons, List.length_append]; omega
  have HU : Hid (uintF n = U) := hU.symm
  have HR2 := Lib.hid hr
  have hwn := IntWalk.u64_in (n : Int) (by omega)
  clear hV hU hZ hT hr
  simp only [elmX] at HR ⊢
  go_enter Try.func89, Try.ntmps89
  go_wp2_with fail
  refine (HR.out _).mono ?_
  rintro e w5 ⟨rfl, hS5⟩
  have HB5 := Lib.hid ((Blk.new w 136 #[.int .u8 (op : Int), .int .u64 (a : Int), .int .u64 0, .slice A 0 c, .slice FA n fc]).step hS5 id)
  have HS5 := Lib.hid ((Step.refl.alloc _).trans hS5)
  clear hS5
  obtain ⟨X, hX⟩ : ∃ X, X = w.heap.size := ⟨_, rfl⟩
  rw [← hX] at HB5 ⊢
  clear hX
  have x0 := HB5.out.cell 0
  have x1 := HB5.out.cell 1
  have x2 := HB5.out.cell 2
  have x3 := HB5.out.cell 3
  simp at x0 x1 x2 x3
  go_wp2_with fail
  refine (HP.out _).mono ?_
  rintro e w6 ⟨D6, c6, rfl, hown, hS⟩
  have HV6 := Lib.hid (Reads.of_own hown)
  have HB6 := Lib.hid (HB5.out.step hS id)
  have HS6 := Lib.hid (HS5.out.trans hS)
  clear hown hS HB5 x0 x1 x2 x3
  have HO6 : Hid ((w6.alloc (.cells #[Value.int .u8 0] 5)).ownsRow w.heap.size 5 1 (.slice (some ⟨w6.heap.size, 0, none⟩) 1 1) 1 #[Value.int .u8 0].toList) :=
    World.ownsRow_lit (base := w.heap.size) (e := 5) (size := 1) w6 #[Value.int .u8 0] 1 HS6.out.size (by decide) rfl
  have hrd := (HV6.out).step (Step.refl.alloc (F := fun _ => False) (w := w6) (.cells #[Value.int .u8 0] 5)) (fun _ _ => id)
  have hone := u8s_one V
  have hm : 1 + V.length ≤ maxLen := by unfold maxLen; omega
  have hsz := HS6.out.size
  have hXl := HB6.out.lt
  have hne : blkOf (some ⟨w6.heap.size, 0, none⟩) ≠ some X := by intro h; injection h with h; simp at h; omega
  go_wp2_with (at_builtin; refine wpList_append_src _ rfl _ _ (by rfl) E_u8 (by rfl) HO6.out (by rfl) hrd hone hm (by omega) (by simp; omega) ?_; intro D7 c7 w7 hown hgrow hat; have v4 := ((HB6.out.alloc (.cells #[Value.int .u8 0] 5)).grown hgrow hne).cell 4; simp at v4)
  have HS7 := Lib.hid (grow_step (HS6.out.alloc _) hgrow HO6.out (Nat.le_refl _))
  have HB7 := Lib.hid ((HB6.out.alloc (.cells #[Value.int .u8 0] 5)).grown hgrow hne)
  have HO7 := Lib.hid hown
  clear hown hgrow hat hm hone hsz hne hrd v4 HO6 HS6 HB6 HV6
  replace hXl := HB7.out.lt
  refine (uint_walk _ n (by omega)).mono ?_
  rintro e w8a ⟨D8a, c8a, rfl, hown, hS⟩
  rw [HU.out] at hown ⊢
  have HO8a := Lib.hid (own_step HO7.out hS (fun _ _ => id))
  have HR8a := Lib.hid (Reads.of_own hown)
  have HB8a := Lib.hid (HB7.out.step hS id)
  have HS8a := Lib.hid (HS7.out.trans hS)
  clear hS hown
  have hone8 : ∀ u ∈ u8s U, u.oneCell' = true := u8s_one U
  have hm8 : 1 + V.length + U.length ≤ maxLen := by unfold maxLen; omega
  have hsz8 := HS8a.out.size
  have hne8 : blkOf D7 ≠ some X := by rw [← ownBlock_slice D7 (1 + V.length) (c7)]; exact own_tag HO8a.out HB8a.out (by decide)
  go_wp2_with (at_builtin; refine wpList_append_src _ rfl _ _ (by rfl) E_u8 (by rfl) (HO8a.out) (by rfl) HR8a.out hone8 hm8 (by omega) (by first | exact hsz8 | (simp; omega)) ?_; intro D8 c8 w8 hown hgrow hat; have v4 := ((HB8a.out).grown hgrow hne8).cell 4; simp at v4)
  have HS8 := Lib.hid (grow_step (HS8a.out) hgrow (HO8a.out) (Nat.le_refl _))
  have HB8 := Lib.hid ((HB8a.out).grown hgrow hne8)
  have HO8 := Lib.hid hown
  clear hown hgrow hat hm8 hone8 hsz8
  have hc0 : #[Value.int .u8 0].toList ++ u8s V ++ u8s U = u8s (preE T L 0) := by rw [preE_zero, HT.out]; simp [u8s]
  have hn0 : 1 + V.length + U.length = (preE T L 0).length := by rw [preE_zero, HT.out]; simp; omega
  have hO8 := HO8.out
  rw [hc0, hn0] at hO8
  rw [hn0]
  have HO8' := Lib.hid hO8
  clear HO8 hO8 hc0 hn0
  go_loopw [7, 34] (fun ov iv wr => ∃ (j c2 : Nat) (D2 : Option Addr), j ≤ n ∧ ov = .slice D2 (preE T L j).length c2 ∧ iv = .int .i64 (j : Int) ∧ Hid (Step (fun _ => False) w wr) ∧ Hid (Blk wr X 136 #[.int .u8 (op : Int), .int .u64 (a : Int), .int .u64 0, .slice A 0 c, .slice FA n fc]) ∧
    Hid (wr.ownsRow w.heap.size 5 1 (.slice D2 (preE T L j).length c2) (preE T L j).length (u8s (preE T L j)))) (fun _ iv _ => n + 1 - (intOf iv).toNat)
  case atStart => exact ⟨0, c8, D8, by omega, rfl, rfl, HS8, HB8, HO8'⟩
  case round =>
    obtain ⟨j, c2, D2, hj, rfl, rfl, HS, HB, HOj⟩ := hrel
    have hpl := preE_len T L j (by rw [← HN.out]; exact hj)
    by_cases hlt : j < n
    · have g1 : (j : Int) < (n : Int) := by omega
      have hw1 := IntWalk.i64_in ((j : Int) + 1) (by omega)
      have hjl : j < L.length := by rw [← HN.out]; exact hlt
      obtain ⟨ad, u, rfl, _, hbl, hu, hc⟩ := (HR2.out.step HS.out (fun _ _ => id)).at_ hlt
      rw [u32s_get L j hjl] at hu
      injection hu with hu
      subst hu
      have HP := Lib.hid (preE_succ T L j hjl)
      have hxb := hLb L[j] (List.getElem_mem hjl)
      have hLl : L.length ≤ 1000 := by rw [← HN.out]; exact hnb
      generalize L[j] = x at *
      have hlx := num_len x
      obtain ⟨V, hV⟩ : ∃ V, V = uintF x := ⟨_, rfl⟩
      rw [← hV] at hlx HP
      have HV := Lib.hid hV.symm
      clear hV
      have hwx := IntWalk.u64_in (x : Int) (by omega)
      go_wp2_with fail
      refine (uint_walk _ x (by omega)).mono ?_
      rintro e w8a ⟨D8a, c8a, rfl, hown, hS⟩
      rw [HV.out] at hown ⊢
      have HO8a := Lib.hid (own_step HOj.out hS (fun _ _ => id))
      have HR8a := Lib.hid (Reads.of_own hown)
      have HB8a := Lib.hid (HB.out.step hS id)
      have HS8a := Lib.hid (HS.out.trans hS)
      clear hS hown
      have hone : ∀ u ∈ u8s V, u.oneCell' = true := u8s_one V
      have hm : (preE T L j).length + V.length ≤ maxLen := by unfold maxLen; omega
      have hsz := HS8a.out.size
      have hne : blkOf D2 ≠ some X := by rw [← ownBlock_slice D2 (preE T L j).length c2]; exact own_tag HO8a.out HB8a.out (by decide)
      go_wp2_with (at_builtin; refine wpList_append_src _ rfl _ _ (by rfl) E_u8 (by rfl) HO8a.out (by rfl) HR8a.out hone hm (by omega) hsz ?_; intro D9 c9 w9 hown hgrow hat)
      have HS9 := Lib.hid (grow_step HS8a.out hgrow HO8a.out (Nat.le_refl _))
      have HB9 := Lib.hid (HB8a.out.grown hgrow hne)
      have hcs : u8s (preE T L j) ++ u8s V = u8s (preE T L (j + 1)) := by rw [HP.out, u8s_append]
      have hln : (preE T L j).length + V.length = (preE T L (j + 1)).length := by rw [HP.out, List.length_append]
      rw [hcs, hln] at hown
      rw [hln]
      go_roundw
      case rel => exact ⟨j + 1, c9, D9, by omega, rfl, by rw [Int.natCast_add]; rfl, HS9, HB9, hown⟩
      case measure => simp [intOf]; omega
    · obtain rfl : j = n := by omega
      have HP : Hid (preE T L j = Z) := by rw [Hid, HZ.out, ← preE_all, HN.out]
      have hO := HOj.out
      rw [HP.out] at hO ⊢
      go_wp2_with fail
      refine bodyPost_ret (v := .tuple #[.slice D2 Z.length c2, .int .i64 0]) (by simp [results, Try.results89, go_sem]) rfl ?_
      exact ⟨D2, c2, rfl, hO, HS.out⟩
end Go.Proofs.Ytfemeendkjcffaa
