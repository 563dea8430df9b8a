/-
  globals: Put, the reference's, Same; the page's example.
-/
import Derived.Test.YtfemeendkjcffaaGlB
set_option linter.unusedVariables false
set_option linter.unusedSimpArgs false
namespace Go.Proofs.Ytfemeendkjcffaa
open Go.RowKit

set_option maxRecDepth 100000 in
set_option maxHeartbeats 1600000 in
theorem rencglobal_walk (w : World) (t : Nat) (m : Bool) (ht : t < 256) : Calls Try.prog 166 #[.agg #[.int .u8 (t : Int), .bool m]] w fun e w' => e = .returned (.string (str [UInt8.ofNat t, UInt8.ofNat (mutN m)])) ∧ Step (fun _ => False) w w' := by
  have hcs : ∀ q : Nat, q < 256 → u8s [UInt8.ofNat t, UInt8.ofNat q] = [Value.int .u8 (t : Int), .int .u8 (q : Int)] := fun q hq => by
    rw [show [UInt8.ofNat t, UInt8.ofNat q] = [UInt8.ofNat t] ++ [UInt8.ofNat q] from rfl, u8s_append, byte_cell t ht, byte_cell q hq]
    rfl
  have key : ∀ (v : World) (q : Nat), q < 256 → (convert 53 9 (.slice (some ⟨v.heap.size, 0, none⟩) 2 2)).run Try.prog (v.alloc (.cells #[.int .u8 (t : Int), .int .u8 (q : Int)] 5)) = .ok (.string (str [UInt8.ofNat t, UInt8.ofNat q])) (v.alloc (.cells #[.int .u8 (t : Int), .int .u8 (q : Int)] 5)) := fun v q hq => by
    refine conv_bytes (S := fun k => k = v.heap.size) ?_
    rw [hcs q hq]
    exact reads_new v #[.int .u8 (t : Int), .int .u8 (q : Int)] 5 1 2 rfl
  cases m
  · have hk := key (w.alloc (.cells #[.int .u8 (t : Int), .bool false] 66)) 0 (by decide)
    rw [show (w.alloc (.cells #[.int .u8 (t : Int), .bool false] 66)).heap.size = w.heap.size + 1 by simp, show (((0 : Nat) : Int)) = 0 from rfl] at hk
    rw [mutN, if_neg (by decide)]
    obtain ⟨s, hs⟩ : ∃ s, s = str [UInt8.ofNat t, UInt8.ofNat 0] := ⟨_, rfl⟩
    rw [← hs] at hk ⊢
    clear hs key hcs
    go_enter Try.func166, Try.ntmps166
    go_wp2_with fail
    go_ret
    exact ⟨rfl, (Step.refl.alloc _).alloc _⟩
  · have hk := key (w.alloc (.cells #[.int .u8 (t : Int), .bool true] 66)) 1 (by decide)
    rw [show (w.alloc (.cells #[.int .u8 (t : Int), .bool true] 66)).heap.size = w.heap.size + 1 by simp, show (((1 : Nat) : Int)) = 1 from rfl] at hk
    rw [mutN, if_pos rfl]
    obtain ⟨s, hs⟩ : ∃ s, s = str [UInt8.ofNat t, UInt8.ofNat 1] := ⟨_, rfl⟩
    rw [← hs] at hk ⊢
    clear hs key hcs
    go_enter Try.func166, Try.ntmps166
    go_wp2_with fail
    go_ret
    exact ⟨rfl, (Step.refl.alloc _).alloc _⟩

set_option maxRecDepth 100000 in
set_option maxHeartbeats 3200000 in
theorem gput_ok (w : World) (t op a c : Nat) (m : Bool) (A : Option Addr) (ht : t < 256) (hv : valF t = 0) (hok : ConstOk op a) (ha : a < 18446744073709551616) :
    Calls Try.prog 72 #[.agg (gloX t m op a 0 A 0 c)] w fun e w' => ∃ D c', e = .returned (.tuple #[.slice D (gputL t m op a).length c', .int .i64 0]) ∧
      w'.ownsRow w.heap.size 5 1 (.slice D (gputL t m op a).length c') (gputL t m op a).length (u8s (gputL t m op a)) ∧ Step (fun _ => False) w w' := by
  have hop : op < 256 := by rcases hok with ⟨rfl, h⟩ | ⟨rfl, h⟩ | rfl <;> decide
  have HR : Hid (∀ w, Calls Try.prog 73 #[.agg (gloX t m op a 0 A 0 c)] w fun e w' => e = .returned (.int .i64 0) ∧ Step (fun _ => False) w w') := fun w => by
    have := gright_walk w t op a 0 0 c m A hop ht
    rw [glbF, if_pos hv, crt_ok hok] at this
    exact this
  have HP : Hid (∀ w, Calls Try.prog 36 #[.agg #[.int .u8 (op : Int), .int .u64 (a : Int), .int .u64 0, .slice A 0 c]] w fun e w' => ∃ D c', e = .returned (.tuple #[.slice D (cputL op a).length c', .int .i64 0]) ∧
      w'.ownsRow w.heap.size 5 1 (.slice D (cputL op a).length c') (cputL op a).length (u8s (cputL op a)) ∧ Step (fun _ => False) w w') := fun w => cput_ok w op a c A hok ha
  have hl1 : (cputL op a).length ≤ 12 := by have := cT_len op a; rw [cputL]; simp; omega
  obtain ⟨T, hT⟩ : ∃ T, T = cputL op a := ⟨_, rfl⟩
  obtain ⟨Z, hZ⟩ : ∃ Z, Z = gputL t m op a := ⟨_, rfl⟩
  have HZ : Hid (Z = [UInt8.ofNat t, UInt8.ofNat (mutN m)] ++ T) := by rw [Hid, hZ, gputL, hT]; rfl
  rw [← hT] at HP hl1
  rw [← hZ]
  clear hT hZ hv
  simp only [gloX] at HR ⊢
  go_enter Try.func72, Try.ntmps72
  go_wp2_with fail
  refine (HR.out _).mono ?_
  rintro e w5 ⟨rfl, hS5⟩
  have HX5 := Lib.hid ((Blk.new w 115 #[.int .u8 (t : Int), .bool m, .int .u8 (op : Int), .int .u64 (a : Int), .int .u64 0, .slice A 0 c]).step hS5 id)
  have HS5 := Lib.hid ((Step.refl.alloc _).trans hS5)
  clear hS5
  obtain ⟨X, hX⟩ : ∃ X, X = w.heap.size := ⟨_, rfl⟩
  rw [← hX] at HX5 ⊢
  clear hX
  have x2 := HX5.out.cell 2
  have x3 := HX5.out.cell 3
  have x4 := HX5.out.cell 4
  have x5 := HX5.out.cell 5
  simp at x2 x3 x4 x5
  go_wp2_with fail
  refine (HP.out _).mono ?_
  rintro e w6 ⟨D6, c6, rfl, hown, hS⟩
  have HO6 := Lib.hid hown
  have HX6 := Lib.hid (HX5.out.step hS id)
  have HS6 := Lib.hid (HS5.out.trans hS)
  clear hown hS HX5 x2 x3 x4 x5
  have x0 := HX6.out.cell 0
  have x1 := HX6.out.cell 1
  simp at x0 x1
  go_wp2_with fail
  refine (encglobal_walk _ t m ht).mono ?_
  rintro e w7 ⟨D7, c7, rfl, hown, hS⟩
  have HE7 := Lib.hid (own_base hown (base' := w.heap.size) (fun q hq => Nat.le_trans HS6.out.size (own_ge hown q hq)))
  have HR7 := Lib.hid (Reads.of_own (own_step HO6.out hS (fun _ _ => id)))
  have HS7 := Lib.hid (HS6.out.trans hS)
  clear hown hS HO6 HX6 x0 x1
  have hone := u8s_one T
  have hm : 2 + T.length ≤ maxLen := by unfold maxLen; omega
  have hsz := HS7.out.size
  go_wp2_with (at_builtin; refine wpList_append_src _ rfl _ _ (by rfl) E_u8 (by rfl) HE7.out (by rfl) HR7.out hone hm (by omega) hsz ?_; intro D8 c8 w8 hown hgrow hat)
  have HS8 := Lib.hid (grow_step HS7.out hgrow HE7.out (Nat.le_refl _))
  have hcs : u8s [UInt8.ofNat t, UInt8.ofNat (mutN m)] ++ u8s T = u8s Z := by rw [HZ.out, u8s_append]
  have hln : 2 + T.length = Z.length := by rw [HZ.out]; simp; omega
  rw [hcs] at hown
  refine bodyPost_ret (v := .tuple #[.slice D8 (2 + T.length) c8, .int .i64 0]) (by simp [results, Try.results72, go_sem]) rfl ?_
  rw [hln] at hown ⊢
  exact ⟨D8, c8, rfl, hown, HS8.out⟩

set_option maxRecDepth 100000 in
set_option maxHeartbeats 3200000 in
theorem grput_walk (w : World) (t op a c : Nat) (m : Bool) (A : Option Addr) (ht : t < 256) (hok : ConstOk op a) (ha : a < 18446744073709551616) :
    Calls Try.prog 77 #[.agg (gloX t m op a 0 A 0 c)] w fun e w' => e = .returned (.string (str (gputL t m op a))) ∧ Step (fun _ => False) w w' := by
  have HP : Hid (∀ w, Calls Try.prog 40 #[.agg #[.int .u8 (op : Int), .int .u64 (a : Int), .int .u64 0, .slice A 0 c]] w fun e w' => e = .returned (.string (str (cputL op a))) ∧ Step (fun _ => False) w w') := fun w => crput_walk w op a c A hok ha
  have HC : Hid (∀ w, Calls Try.prog 166 #[.agg #[.int .u8 (t : Int), .bool m]] w fun e w' => e = .returned (.string (str [UInt8.ofNat t, UInt8.ofNat (mutN m)])) ∧ Step (fun _ => False) w w') := fun w => rencglobal_walk w t m ht
  have hl1 : (cputL op a).length ≤ 12 := by have := cT_len op a; rw [cputL]; simp; omega
  obtain ⟨T, hT⟩ : ∃ T, T = cputL op a := ⟨_, rfl⟩
  obtain ⟨U, hU⟩ : ∃ U, U = [UInt8.ofNat t, UInt8.ofNat (mutN m)] := ⟨_, rfl⟩
  obtain ⟨Z, hZ⟩ : ∃ Z, Z = gputL t m op a := ⟨_, rfl⟩
  have hl2 : U.length = 2 := by rw [hU]; rfl
  have ha1 : str U ++ str T = str Z := by rw [hZ, gputL, hU, hT]; exact str_append _ _
  rw [← hT] at HP hl1
  rw [← hU] at HC
  rw [← hZ]
  have hs1 := str_size T
  have hs2 : (str U).size = 2 := by rw [str_size, hl2]
  clear hT hU hZ hl2
  have HX0 := Lib.hid (Blk.new w 115 (gloX t m op a 0 A 0 c))
  have HS0 := Lib.hid ((Step.refl (F := fun _ => False)).alloc (w := w) (.cells (gloX t m op a 0 A 0 c) 115))
  go_enter Try.func77, Try.ntmps77
  go_wp2_with fail
  obtain ⟨V, hV⟩ : ∃ V, V = w.alloc (.cells (gloX t m op a 0 A 0 c) 115) := ⟨_, rfl⟩
  obtain ⟨X, hX⟩ : ∃ X, X = w.heap.size := ⟨_, rfl⟩
  rw [← hV] at HX0 HS0 ⊢
  rw [← hX] at HX0 ⊢
  clear hV hX
  have x0 := HX0.out.cell 0
  have x1 := HX0.out.cell 1
  have x2 := HX0.out.cell 2
  have x3 := HX0.out.cell 3
  have x4 := HX0.out.cell 4
  have x5 := HX0.out.cell 5
  simp [gloX] at x0 x1 x2 x3 x4 x5
  have d0 := cls_cell (F := fun _ => False) (w0 := V) x0 id
  have d1 := cls_cell (F := fun _ => False) (w0 := V) x1 id
  have d2 := cls_cell (F := fun _ => False) (w0 := V) x2 id
  have d3 := cls_cell (F := fun _ => False) (w0 := V) x3 id
  have d4 := cls_cell (F := fun _ => False) (w0 := V) x4 id
  have d5 := cls_cell (F := fun _ => False) (w0 := V) x5 id
  clear x0 x1 x2 x3 x4 x5
  refine Mix.wp_region_mix [2, 5] [2, 5] (Step (fun _ => False) V) (by kernel_rfl) (by kernel_rfl) Step.refl.drew (fun hcls => ?_)
  refine Mix.wpL_reads 2 (by rfl) ?_
  simp only [List.take_succ_cons, List.drop_succ_cons, List.take_zero, List.drop_zero]
  repeat (go_big_quiet_step (fail))
  refine wpQuiet_nil ?_
  refine Mix.wpL_op (by rfl) (fun K hK => ?_)
  go_simp
  refine (HC.out _).mono ?_
  rintro e wa ⟨rfl, hSa⟩
  have HSa := Lib.hid (Step.refl.drew.trans hSa)
  refine hK _ _ (fun hlt => Mix.cl HSa.out) ?_
  clear hK K hSa
  refine Mix.wpL_reads 2 (by rfl) ?_
  simp only [List.take_succ_cons, List.drop_succ_cons, List.take_zero, List.drop_zero]
  repeat (go_big_quiet_step (fail))
  refine wpQuiet_nil ?_
  refine Mix.wpL_op (by rfl) (fun K hK => ?_)
  go_simp
  refine (HP.out _).mono ?_
  rintro e wb ⟨rfl, hSb⟩
  have HSb := Lib.hid (HSa.out.trans hSb)
  refine hK _ _ (fun hlt => Mix.cl HSb.out) ?_
  clear hK K hSb HSa
  refine Mix.wpL_reads 2 (by rfl) ?_
  simp only [List.take_succ_cons, List.drop_succ_cons, List.take_zero, List.drop_zero]
  repeat (go_big_quiet_step (fail))
  refine wpQuiet_nil ?_
  refine Mix.wpL_end ?_
  go_wp2_with fail
  go_ret
  exact ⟨rfl, HS0.out.trans HSb.out⟩

set_option maxRecDepth 100000 in
set_option maxHeartbeats 3200000 in
theorem grsame_walk (w : World) (t op a c1 c2 : Nat) (m : Bool) (A1 A2 : Option Addr) :
    Calls Try.prog 78 #[.agg (gloX t m op a 0 A1 0 c1), .agg (gloX t m op a 0 A2 0 c2)] w fun e w' => e = .returned (.bool true) ∧ Step (fun _ => False) w w' := by
  have HSm : Hid (∀ w, Calls Try.prog 39 #[.agg #[.int .u8 (op : Int), .int .u64 (a : Int), .int .u64 0, .slice A1 0 c1], .agg #[.int .u8 (op : Int), .int .u64 (a : Int), .int .u64 0, .slice A2 0 c2]] w fun e w' => e = .returned (.bool true) ∧ Step (fun _ => False) w w') := fun w => by
    have := rsame_walk w op a 0 c1 op a 0 c2 A1 A2 [] [] (fun _ => False) (fun _ => False) ⟨by simp [u32s], fun h => absurd h (by decide)⟩ ⟨by simp [u32s], fun h => absurd h (by decide)⟩ (by decide)
    rw [same_yes] at this
    exact this
  simp only [gloX]
  go_enter Try.func78, Try.ntmps78
  go_wp2_with fail
  refine (HSm.out _).mono ?_
  rintro e w5 ⟨rfl, hS5⟩
  go_wp2_with fail
  go_ret
  exact ⟨rfl, ((Step.refl.alloc _).alloc _).trans hS5⟩

theorem gput_5 : gputL 127 true 65 5 = [127, 1, 65, 5, 11] := by kernel_rfl
set_option maxRecDepth 100000 in
set_option maxHeartbeats 1600000 in
theorem awake12 (w : World) : Calls Try.prog 70 #[] w fun e w' => e = .returned (.bool true) ∧ Step (fun _ => False) w w' := by
  have HP : Hid (∀ w, Calls Try.prog 72 #[.agg #[.int .u8 127, .bool true, .int .u8 65, .int .u64 5, .int .u64 0, .slice none 0 0]] w fun e w' => ∃ D c, e = .returned (.tuple #[.slice D 5 c, .int .i64 0]) ∧
      w'.ownsRow w.heap.size 5 1 (.slice D 5 c) 5 (u8s [127, 1, 65, 5, 11]) ∧ Step (fun _ => False) w w') := fun w => by
    have := gput_ok w 127 65 5 0 true none (by decide) (by decide) (.inr (.inl ⟨rfl, by decide⟩)) (by decide)
    rw [gput_5] at this
    exact this
  go_enter Try.func70, Try.ntmps70
  go_wp2_with fail
  refine (HP.out _).mono ?_
  rintro e w5 ⟨D, c, rfl, hown, hS⟩
  have hcv := conv_bytes (c := c) (Reads.of_own hown)
  rw [show str [127, 1, 65, 5, 11] = (⟨#[127, 1, 65, 5, 11]⟩ : ByteArray) from rfl] at hcv
  clear hown
  go_wp2_with fail
  go_ret
  exact ⟨rfl, hS⟩
end Go.Proofs.Ytfemeendkjcffaa
