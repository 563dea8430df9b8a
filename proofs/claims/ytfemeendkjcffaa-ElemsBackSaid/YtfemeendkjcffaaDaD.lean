/-
  datas: the law's closure; Right, the reference's Right, Put, Same.
-/
import Derived.Test.YtfemeendkjcffaaDaC
import Derived.Test.YtfemeendkjcffaaSaA
import Derived.Test.YtfemeendkjcffaaPw
set_option linter.unusedVariables false
set_option linter.unusedSimpArgs false
namespace Go.Proofs.Ytfemeendkjcffaa
open Go.RowKit

set_option maxRecDepth 100000 in
set_option maxHeartbeats 1600000 in
theorem dclosure_ok (w : World) (X sb : Nat) (S : Nat → Prop) (D : Option Addr) (c : Nat) (bs : List UInt8) (k : Nat) (h : Scn w X S D c bs k) (op a : Nat) (ds rest : List UInt8) (hok : ConstOk op a) (ha : a < 18446744073709551616) (hl : ds.length ≤ 1000) (hd : bs.drop k = dputL op a ds ++ rest) (hsb : Blk w sb 79 #[.pointer (some ⟨X, 0, none⟩)]) :
    Calls Try.prog 108 #[.pointer (some ⟨sb, 0, none⟩)] w fun e w' => e = .returned (.agg (datC (op : Int) (a : Int) (str ds))) ∧ Step (fun i => i = X) w w' ∧ Scn w' X S D c bs (k + (dputL op a ds).length) := by
  have HG := Lib.hid (dget_ok (w.alloc (.cells (datC 0 0 ⟨#[]⟩) 156)) X S D c bs k (h.alloc _) op a ds rest hok ha hl hd)
  have s0 := hsb.cell 0
  have hsbl := hsb.lt
  simp at s0
  have hX := h.lt
  have HB := Lib.hid (Blk.new w 156 (datC 0 0 ⟨#[]⟩))
  have hlow := h.low
  have hT0 : Hid (Step (fun i => i = X) w (w.alloc (.cells (datC 0 0 ⟨#[]⟩) 156))) := Step.refl.alloc _
  clear hsb h hd
  obtain ⟨s, hs⟩ : ∃ s, s = str ds := ⟨_, rfl⟩
  rw [← hs] at HG ⊢
  clear hs
  go_enter Try.func108, Try.ntmps108
  go_wp2_with fail
  refine HG.out.mono ?_
  rintro e w1 ⟨rfl, hs, ht⟩
  have hB1 := HB.out.step ht (show w.heap.size ≠ X by omega)
  have hone := datC_one (op : Int) (a : Int) s
  go_wp2_with (refine wpList_store_rowTo rfl 156 _ _ rfl rfl w.heap.size (datC (op : Int) (a : Int) s) rfl rfl 156 _ hB1 rfl rfl hone ?_)
  have hB2 := hB1.row (datC (op : Int) (a : Int) s)
  have r0 := hB2.cell 0
  have r1 := hB2.cell 1
  have r2 := hB2.cell 2
  have r3 := hB2.cell 3
  have r4 := hB2.cell 4
  simp [datC] at r0 r1 r2 r3 r4
  have hst : Step (fun i => i = w.heap.size) w1 (w1.setRow w.heap.size (datC (op : Int) (a : Int) s)) := Step.setRow (F := fun k => k = w.heap.size) Step.refl (g := w.heap.size) (.inl rfl) _
  refine bodyPost_ret (v := .agg (datC (op : Int) (a : Int) s)) (by simp [results, Try.results108, go_sem, datC, r0, r1, r2, r3, r4]) rfl ?_
  exact ⟨rfl, (hT0.out.trans ht).setRow (.inr (Nat.le_refl _)) _, hs.step hst (by omega) (fun j hj e => by have := hlow j hj; omega)⟩

/-- A row of bytes as the law gets it. -/
def datX (op a b : Nat) (A : Option Addr) (n c : Nat) (s : ByteArray) : Array Value := #[.int .u8 (op : Int), .int .u64 (a : Int), .int .u64 (b : Int), .slice A n c, .string s]

section
variable (w : World) (op a b n c : Nat) (A : Option Addr) (hop : op < 256)
include hop
set_option maxRecDepth 100000 in
set_option maxHeartbeats 1600000 in
theorem dright_walk (ds : List UInt8) (hl : ds.length ≤ 1000) :
    Calls Try.prog 106 #[.agg (datX op a b A n c (str ds))] w fun e w' => e = .returned (.int .i64 (crtF op a b n : Nat)) ∧ Step (fun _ => False) w w' := by
  have HR : Hid (∀ w, Calls Try.prog 38 #[.agg #[.int .u8 (op : Int), .int .u64 (a : Int), .int .u64 (b : Int), .slice A n c]] w fun e w' => e = .returned (.int .i64 (crtF op a b n : Nat)) ∧ Step (fun _ => False) w w') := fun w => cright_walk w op a b n c A hop
  have hsz := str_size ds
  have g1 : ¬ (4194304 : Int) < (ds.length : Int) := by omega
  simp only [datX]
  go_enter Try.func106, Try.ntmps106
  go_wp2_with fail
  refine (HR.out _).mono ?_
  rintro e w5 ⟨rfl, hS5⟩
  go_wp2_with fail
  go_ret
  exact ⟨rfl, (Step.refl.alloc _).trans hS5⟩
set_option maxRecDepth 100000 in
set_option maxHeartbeats 1600000 in
theorem drright_walk (s : ByteArray) :
    Calls Try.prog 104 #[.agg (datX op a b A n c s)] w fun e w' => e = .returned (.int .i64 (crtF op a b n : Nat)) ∧ Step (fun _ => False) w w' := by
  have HR : Hid (∀ w, Calls Try.prog 35 #[.agg #[.int .u8 (op : Int), .int .u64 (a : Int), .int .u64 (b : Int), .slice A n c]] w fun e w' => e = .returned (.int .i64 (crtF op a b n : Nat)) ∧ Step (fun _ => False) w w') := fun w => crright_walk w op a b n c A hop
  simp only [datX]
  go_enter Try.func104, Try.ntmps104
  go_wp2_with fail
  refine (HR.out _).mono ?_
  rintro e w5 ⟨rfl, hS5⟩
  go_wp2_with fail
  go_ret
  exact ⟨rfl, (Step.refl.alloc _).trans hS5⟩
set_option maxRecDepth 100000 in
set_option maxHeartbeats 1600000 in
theorem dput_err (ds : List UInt8) (hl : ds.length ≤ 1000) (h : ¬ crtF op a b n = 0) :
    Calls Try.prog 105 #[.agg (datX op a b A n c (str ds))] w fun e w' => e = .returned (.tuple #[.slice none 0 0, .int .i64 (crtF op a b n : Nat)]) ∧ Step (fun _ => False) w w' := by
  have HR : Hid (∀ w, Calls Try.prog 106 #[.agg (datX op a b A n c (str ds))] w fun e w' => e = .returned (.int .i64 (crtF op a b n : Nat)) ∧ Step (fun _ => False) w w') := fun w => dright_walk w op a b n c A hop ds hl
  obtain ⟨r, hr⟩ : ∃ r : Int, r = (crtF op a b n : Nat) := ⟨_, rfl⟩
  have hne : ¬ r = 0 := by omega
  have hnb : (r != 0) = true := bne_iff_ne.2 hne
  rw [← hr] at HR ⊢
  simp only [datX] at HR ⊢
  clear hr h
  go_enter Try.func105, Try.ntmps105
  go_wp2_with fail
  refine (HR.out _).mono ?_
  rintro e w5 ⟨rfl, hS5⟩
  have HS5 := Lib.hid ((Step.refl.alloc _).trans hS5)
  clear hS5
  go_wp2_with fail
  go_ret2
  exact ⟨rfl, HS5.out⟩
end

set_option maxRecDepth 100000 in
set_option maxHeartbeats 1600000 in
theorem rcount_walk (w : World) (v : Nat) (h : v < 9223372036854775808) : Calls Try.prog 173 #[.int .i64 (v : Int)] w fun e w' => e = .returned (.string (str (uintF v))) ∧ Step (fun _ => False) w w' := by
  have hw := IntWalk.u64_in (v : Int) (by omega)
  go_enter Try.func173, Try.ntmps173
  go_wp2_with fail
  refine (ruint_walk _ v (by omega)).mono ?_
  rintro e w5 ⟨D, c, rfl, hown, hS⟩
  have hcv := conv_bytes (c := c) (Reads.of_own hown)
  clear hown
  go_wp2_with fail
  go_ret
  exact ⟨rfl, hS⟩

set_option maxRecDepth 100000 in
set_option maxHeartbeats 3200000 in
theorem drput_walk (w : World) (op a c : Nat) (A : Option Addr) (ds : List UInt8) (hok : ConstOk op a) (ha : a < 18446744073709551616) (hl : ds.length ≤ 1000) :
    Calls Try.prog 110 #[.agg (datX op a 0 A 0 c (str ds))] w fun e w' => e = .returned (.string (str (dputL op a ds))) ∧ Step (fun _ => False) w w' := by
  have HP : Hid (∀ w, Calls Try.prog 40 #[.agg #[.int .u8 (op : Int), .int .u64 (a : Int), .int .u64 0, .slice A 0 c]] w fun e w' => e = .returned (.string (str (cputL op a))) ∧ Step (fun _ => False) w w') := fun w => crput_walk w op a c A hok ha
  have HC : Hid (∀ w, Calls Try.prog 173 #[.int .i64 (ds.length : Int)] w fun e w' => e = .returned (.string (str (uintF ds.length))) ∧ Step (fun _ => False) w w') := fun w => rcount_walk w ds.length (by omega)
  have hl1 : (cputL op a).length ≤ 12 := by have := cT_len op a; rw [cputL]; simp; omega
  have hl2 := num_len ds.length
  obtain ⟨T, hT⟩ : ∃ T, T = cputL op a := ⟨_, rfl⟩
  obtain ⟨U, hU⟩ : ∃ U, U = uintF ds.length := ⟨_, rfl⟩
  have hZ : dputL op a ds = UInt8.ofNat 0 :: (T ++ (U ++ ds)) := by rw [dputL, hT, hU]
  rw [← hT] at HP hl1
  rw [← hU] at HC hl2
  obtain ⟨T1, hT1⟩ : ∃ T1, T1 = UInt8.ofNat 0 :: T := ⟨_, rfl⟩
  obtain ⟨T2, hT2⟩ : ∃ T2, T2 = T1 ++ U := ⟨_, rfl⟩
  obtain ⟨Z, hZ2⟩ : ∃ Z, Z = T2 ++ ds := ⟨_, rfl⟩
  rw [hZ, show UInt8.ofNat 0 :: (T ++ (U ++ ds)) = Z by rw [hZ2, hT2, hT1]; simp]
  have hl3 : T1.length ≤ 13 := by rw [hT1]; simp; omega
  have hl4 : T2.length ≤ 23 := by rw [hT2, List.length_append]; omega
  have hs0 := str_size ds
  have hs1 := str_size T
  have hs2 := str_size U
  have hs3 := str_size T1
  have hs4 := str_size T2
  have ha1 : (⟨#[0]⟩ : ByteArray) ++ str T = str T1 := by rw [hT1]; exact str_append [0] T
  have ha2 : str T1 ++ str U = str T2 := by rw [hT2]; exact str_append _ _
  have ha3 : str T2 ++ str ds = str Z := by rw [hZ2]; exact str_append _ _
  obtain ⟨n, hn⟩ : ∃ n, n = ds.length := ⟨_, rfl⟩
  rw [← hn] at hs0 HC hl
  clear hT hU hZ hn hT1 hT2 hZ2
  have HX0 := Lib.hid (Blk.new w 156 (datX op a 0 A 0 c (str ds)))
  have HS0 := Lib.hid ((Step.refl (F := fun _ => False)).alloc (w := w) (.cells (datX op a 0 A 0 c (str ds)) 156))
  obtain ⟨sd, hsd⟩ : ∃ sd, sd = str ds := ⟨_, rfl⟩
  rw [← hsd] at hs0 ha3 HX0 HS0 ⊢
  clear hsd
  go_enter Try.func110, Try.ntmps110
  go_wp2_with fail
  obtain ⟨V, hV⟩ : ∃ V, V = w.alloc (.cells (datX op a 0 A 0 c sd) 156) := ⟨_, rfl⟩
  obtain ⟨X, hX⟩ : ∃ X, X = w.heap.size := ⟨_, rfl⟩
  rw [← hV] at HX0 HS0 ⊢
  rw [← hX] at HX0 ⊢
  clear hV hX
  have x0 := HX0.out.cell 0
  have x1 := HX0.out.cell 1
  have x2 := HX0.out.cell 2
  have x3 := HX0.out.cell 3
  have x4 := HX0.out.cell 4
  simp [datX] at x0 x1 x2 x3 x4
  have d0 := cls_cell (F := fun _ => False) (w0 := V) x0 id
  have d1 := cls_cell (F := fun _ => False) (w0 := V) x1 id
  have d2 := cls_cell (F := fun _ => False) (w0 := V) x2 id
  have d3 := cls_cell (F := fun _ => False) (w0 := V) x3 id
  have d4 := cls_cell (F := fun _ => False) (w0 := V) x4 id
  clear x0 x1 x2 x3 x4
  refine Mix.wp_region_mix [2, 7] [2, 7] (Step (fun _ => False) V) (by kernel_rfl) (by kernel_rfl) Step.refl.drew (fun hcls => ?_)
  refine Mix.wpL_reads 2 (by rfl) ?_
  simp only [List.take_succ_cons, List.drop_succ_cons, List.take_zero, List.drop_zero]
  repeat (go_big_quiet_step (fail))
  refine wpQuiet_nil ?_
  refine Mix.wpL_op (by rfl) (fun K hK => ?_)
  go_simp
  refine (HP.out _).mono ?_
  rintro e wa ⟨rfl, hSa⟩
  have HSa := Lib.hid (Step.refl.drew.trans hSa)
  refine hK _ _ (fun hlt => Mix.cl HSa.out) ?_
  clear hK K hSa
  refine Mix.wpL_reads 4 (by rfl) ?_
  simp only [List.take_succ_cons, List.drop_succ_cons, List.take_zero, List.drop_zero]
  repeat (go_big_quiet_step (fail))
  refine wpQuiet_nil ?_
  refine Mix.wpL_op (by rfl) (fun K hK => ?_)
  go_simp
  refine (HC.out _).mono ?_
  rintro e wb ⟨rfl, hSb⟩
  have HSb := Lib.hid (HSa.out.trans hSb)
  refine hK _ _ (fun hlt => Mix.cl HSb.out) ?_
  clear hK K hSb HSa
  refine Mix.wpL_reads 5 (by rfl) ?_
  simp only [List.take_succ_cons, List.drop_succ_cons, List.take_zero, List.drop_zero]
  repeat (go_big_quiet_step (fail))
  refine wpQuiet_nil ?_
  refine Mix.wpL_end ?_
  go_wp2_with fail
  go_ret
  exact ⟨rfl, HS0.out.trans HSb.out⟩

set_option maxRecDepth 100000 in
set_option maxHeartbeats 3200000 in
theorem drsame_walk (w : World) (op a c1 c2 : Nat) (A1 A2 : Option Addr) (s : ByteArray) :
    Calls Try.prog 111 #[.agg (datX op a 0 A1 0 c1 s), .agg (datX op a 0 A2 0 c2 s)] w fun e w' => e = .returned (.bool true) ∧ Step (fun _ => False) w w' := by
  have HSm : Hid (∀ w, Calls Try.prog 39 #[.agg #[.int .u8 (op : Int), .int .u64 (a : Int), .int .u64 0, .slice A1 0 c1], .agg #[.int .u8 (op : Int), .int .u64 (a : Int), .int .u64 0, .slice A2 0 c2]] w fun e w' => e = .returned (.bool true) ∧ Step (fun _ => False) w w') := fun w => by
    have := rsame_walk w op a 0 c1 op a 0 c2 A1 A2 [] [] (fun _ => False) (fun _ => False) ⟨by simp [u32s], fun h => absurd h (by decide)⟩ ⟨by simp [u32s], fun h => absurd h (by decide)⟩ (by decide)
    rw [same_yes] at this
    exact this
  have hE : (s.toList == s.toList) = true := beq_self_eq_true _
  simp only [datX]
  go_enter Try.func111, Try.ntmps111
  go_wp2_with fail
  refine (HSm.out _).mono ?_
  rintro e w5 ⟨rfl, hS5⟩
  go_wp2_with fail
  go_ret
  exact ⟨rfl, ((Step.refl.alloc _).alloc _).trans hS5⟩

set_option maxRecDepth 100000 in
set_option maxHeartbeats 6400000 in
theorem dput_ok (w : World) (op a c : Nat) (A : Option Addr) (ds : List UInt8) (hok : ConstOk op a) (ha : a < 18446744073709551616) (hl : ds.length ≤ 1000) :
    Calls Try.prog 105 #[.agg (datX op a 0 A 0 c (str ds))] w fun e w' => ∃ D c', e = .returned (.tuple #[.slice D (dputL op a ds).length c', .int .i64 0]) ∧
      w'.ownsRow w.heap.size 5 1 (.slice D (dputL op a ds).length c') (dputL op a ds).length (u8s (dputL op a ds)) ∧ Step (fun _ => False) w w' := by
  have hop : op < 256 := by rcases hok with ⟨rfl, h⟩ | ⟨rfl, h⟩ | rfl <;> decide
  have HR : Hid (∀ w, Calls Try.prog 106 #[.agg (datX op a 0 A 0 c (str ds))] w fun e w' => e = .returned (.int .i64 0) ∧ Step (fun _ => False) w w') := fun w => by
    have := dright_walk w op a 0 0 c A hop ds hl
    rw [crt_ok hok] at this
    exact this
  have HP : Hid (∀ w, Calls Try.prog 36 #[.agg #[.int .u8 (op : Int), .int .u64 (a : Int), .int .u64 0, .slice A 0 c]] w fun e w' => ∃ D c', e = .returned (.tuple #[.slice D (cputL op a).length c', .int .i64 0]) ∧
      w'.ownsRow w.heap.size 5 1 (.slice D (cputL op a).length c') (cputL op a).length (u8s (cputL op a)) ∧ Step (fun _ => False) w w') := fun w => cput_ok w op a c A hok ha
  have HU : Hid (∀ w, Calls Try.prog 149 #[.int .u64 (ds.length : Int)] w fun e w' => ∃ D c, e = .returned (.slice D (uintF ds.length).length c) ∧ w'.ownsRow w.heap.size 5 1 (.slice D (uintF ds.length).length c) (uintF ds.length).length (u8s (uintF ds.length)) ∧ Step (fun _ => False) w w') := fun w => uint_walk w ds.length (by omega)
  have hl1 : (cputL op a).length ≤ 12 := by have := cT_len op a; rw [cputL]; simp; omega
  have hl2 := num_len ds.length
  obtain ⟨T, hT⟩ : ∃ T, T = cputL op a := ⟨_, rfl⟩
  obtain ⟨U, hU⟩ : ∃ U, U = uintF ds.length := ⟨_, rfl⟩
  obtain ⟨Z, hZ⟩ : ∃ Z, Z = dputL op a ds := ⟨_, rfl⟩
  have HZ : Hid (Z = UInt8.ofNat 0 :: (T ++ (U ++ ds))) := by rw [Hid, hZ, dputL, hT, hU]
  rw [← hT] at HP hl1
  rw [← hU] at HU hl2
  rw [← hZ]
  have hs0 := str_size ds
  have hwn := IntWalk.u64_in (ds.length : Int) (by omega)
  clear hT hU hZ
  simp only [datX] at HR ⊢
  obtain ⟨sd, hsd⟩ : ∃ sd, sd = str ds := ⟨_, rfl⟩
  rw [← hsd] at hs0 HR ⊢
  have HSd := Lib.hid hsd
  clear hsd
  go_enter Try.func105, Try.ntmps105
  go_wp2_with fail
  refine (HR.out _).mono ?_
  rintro e w5 ⟨rfl, hS5⟩
  have HX5 := Lib.hid ((Blk.new w 156 #[.int .u8 (op : Int), .int .u64 (a : Int), .int .u64 0, .slice A 0 c, .string sd]).step hS5 id)
  have HS5 := Lib.hid ((Step.refl.alloc _).trans hS5)
  clear hS5
  obtain ⟨X, hX⟩ : ∃ X, X = w.heap.size := ⟨_, rfl⟩
  rw [← hX] at HX5 ⊢
  clear hX
  have x0 := HX5.out.cell 0
  have x1 := HX5.out.cell 1
  have x2 := HX5.out.cell 2
  have x3 := HX5.out.cell 3
  simp at x0 x1 x2 x3
  go_wp2_with fail
  refine (HP.out _).mono ?_
  rintro e w6 ⟨D6, c6, rfl, hown, hS⟩
  have HO6 := Lib.hid hown
  have HX6 := Lib.hid (HX5.out.step hS id)
  have HS6 := Lib.hid (HS5.out.trans hS)
  have hw6 := hS.size
  clear hown hS HX5 x0 x1 x2 x3
  go_wp2_with fail
  have x4 := HX6.out.cell 4
  simp at x4
  have d4 := cls_cell (F := fun _ => False) (w0 := w6) x4 id
  clear x4
  have hXl := HX6.out.lt
  refine Mix.wp_region_mix [0, 2, 7, 8] [0, 2, 7, 8] (Step (fun _ => False) w6) (by kernel_rfl) (by kernel_rfl) Step.refl.drew (fun hcls => ?_)
  refine Mix.wpL_op (by rfl) (fun K hK => ?_)
  go_simp
  refine hK _ _ (fun hlt => Mix.cl (by first | exact (Step.refl.alloc _).drew | exact (Step.refl.drew).alloc _)) ?_
  clear hK K
  refine Mix.wpL_reads 1 (by rfl) ?_
  simp only [List.take_succ_cons, List.drop_succ_cons, List.take_zero, List.drop_zero]
  repeat (go_big_quiet_step (fail))
  refine wpQuiet_nil ?_
  have hlit := own_drew (World.ownsRow_lit (base := w6.heap.size) (e := 5) (size := 1) w6 #[Value.int .u8 0] 1 (Nat.le_refl _) (by decide) rfl)
  have hrd := ((Reads.of_own HO6.out).step (Step.refl.alloc (F := fun _ => False) (w := w6) (.cells #[Value.int .u8 0] 5)) (fun _ _ => id)).drew
  have hone := u8s_one T
  have hm : 1 + T.length ≤ maxLen := by unfold maxLen; omega
  refine Mix.wpL_op (by rfl) (fun K hK => ?_)
  refine step_append_src _ (by rfl) _ _ (by rfl) E_u8 (by rfl) hlit (by rfl) hrd hone hm (by omega) (by simp) ?_
  intro D7 c7 w7 hown hgrow hat
  have HO7 := Lib.hid hown
  have HT7 : Hid (Step (fun _ => False) w6 w7) := grow_step (Step.drew (Step.refl.alloc _)) hgrow hlit (Nat.le_refl _)
  refine hK _ _ (fun hlt => Mix.cl HT7.out) ?_
  clear hK K hgrow hown hat hlit hrd hone hm
  simp only [Act.put, List.setIfInBounds_toArray, List.set_cons_succ, List.set_cons_zero]
  refine Mix.wpL_reads 4 (by rfl) ?_
  simp only [List.take_succ_cons, List.drop_succ_cons, List.take_zero, List.drop_zero]
  repeat (go_big_quiet_step (fail))
  refine wpQuiet_nil ?_
  refine Mix.wpL_op (by rfl) (fun K hK => ?_)
  go_simp
  refine (HU.out _).mono ?_
  rintro e w8 ⟨D8, c8, rfl, hown, hS⟩
  have HR8 := Lib.hid (Reads.of_own hown)
  have HO8 := Lib.hid (own_step HO7.out hS (fun _ _ => id))
  have HT8 := Lib.hid (HT7.out.trans hS)
  refine hK _ _ (fun hlt => Mix.cl HT8.out) ?_
  clear hK K hown hS HO7 HT7
  have hone := u8s_one U
  have hm : 1 + T.length + U.length ≤ maxLen := by unfold maxLen; omega
  have hsz := HT8.out.size
  refine Mix.wpL_op (by rfl) (fun K hK => ?_)
  refine step_append_src _ (by rfl) _ _ (by rfl) E_u8 (by rfl) HO8.out (by rfl) HR8.out hone hm (by omega) hsz ?_
  intro D9 c9 w9 hown hgrow hat
  have HO9 := Lib.hid hown
  have HT9 : Hid (Step (fun _ => False) w6 w9) := grow_step HT8.out hgrow HO8.out (Nat.le_refl _)
  refine hK _ _ (fun hlt => Mix.cl HT9.out) ?_
  clear hK K hgrow hown hat hone hm hsz HO8 HT8 HR8
  simp only [Act.put, List.setIfInBounds_toArray, List.set_cons_succ, List.set_cons_zero]
  refine Mix.wpL_reads 1 (by rfl) ?_
  simp only [List.take_succ_cons, List.drop_succ_cons, List.take_zero, List.drop_zero]
  repeat (go_big_quiet_step (fail))
  refine wpQuiet_nil ?_
  refine Mix.wpL_end ?_
  have HX9 := Lib.hid (HX6.out.step HT9.out id)
  have HS9 := Lib.hid (HS6.out.trans HT9.out)
  have hsd := HSd.out
  subst hsd
  clear d4 hcls
  have x4 := HX9.out.cell 4
  simp at x4
  have hO := own_base HO9.out (base' := w.heap.size) (fun q hq => Nat.le_trans HS6.out.size (own_ge HO9.out q hq))
  have hsz9 := HS9.out.size
  go_wp2_with (at_builtin; refine wpList_append_str _ rfl _ _ (by rfl) Try.underlying9 Try.underlying53 (by kernel_rfl) (by rfl) hO (by rfl) rfl (by unfold maxLen; omega) (by omega) hsz9 ?_; intro D10 c10 w10 hown hgrow hat)
  have HS10 := Lib.hid (grow_step HS9.out hgrow hO (Nat.le_refl _))
  have hcs : #[Value.int .u8 0].toList ++ u8s T ++ u8s U ++ u8s ds = u8s Z := by rw [HZ.out]; simp [u8s]
  have hln : 1 + T.length + U.length + ds.length = Z.length := by rw [HZ.out]; simp; omega
  rw [hcs] at hown
  refine bodyPost_ret (v := .tuple #[.slice D10 (1 + T.length + U.length + ds.length) c10, .int .i64 0]) (by simp [results, Try.results105, go_sem]) rfl ?_
  rw [hln] at hown ⊢
  exact ⟨D10, c10, rfl, hown, HS10.out⟩

theorem dput_ab : dputL 65 5 [97, 98] = [0, 65, 5, 11, 2, 97, 98] := by kernel_rfl
set_option maxRecDepth 100000 in
set_option maxHeartbeats 1600000 in
theorem awake15 (w : World) : Calls Try.prog 103 #[] w fun e w' => e = .returned (.bool true) ∧ Step (fun _ => False) w w' := by
  have HP : Hid (∀ w, Calls Try.prog 105 #[.agg #[.int .u8 65, .int .u64 5, .int .u64 0, .slice none 0 0, .string ⟨#[97, 98]⟩]] w fun e w' => ∃ D c', e = .returned (.tuple #[.slice D 7 c', .int .i64 0]) ∧
      w'.ownsRow w.heap.size 5 1 (.slice D 7 c') 7 (u8s [0, 65, 5, 11, 2, 97, 98]) ∧ Step (fun _ => False) w w') := fun w => by
    have := dput_ok w 65 5 0 none [97, 98] (.inr (.inl ⟨rfl, by decide⟩)) (by decide) (by decide)
    rw [dput_ab] at this
    exact this
  go_enter Try.func103, Try.ntmps103
  go_wp2_with fail
  refine (HP.out _).mono ?_
  rintro e w5 ⟨D, c, rfl, hown, hS⟩
  have hcv := conv_bytes (c := c) (Reads.of_own hown)
  rw [show str [0, 65, 5, 11, 2, 97, 98] = (⟨#[0, 65, 5, 11, 2, 97, 98]⟩ : ByteArray) from rfl] at hcv
  clear hown
  go_wp2_with fail
  go_ret
  exact ⟨rfl, hS⟩
end Go.Proofs.Ytfemeendkjcffaa
