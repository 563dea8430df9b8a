/-
  elems: the law ElemsPuts, its walk.
-/
import Derived.Test.YtfemeendkjcffaaElC
set_option linter.unusedVariables false
set_option linter.unusedSimpArgs false
namespace Go.Proofs.Ytfemeendkjcffaa
open Go.RowKit

set_option maxRecDepth 100000 in
set_option maxHeartbeats 1600000 in
theorem eputs_big1 (w : World) (op a b n c m fc : Nat) (A FA : Option Addr) (h1 : (100 : Int) < m) :
    Calls Try.prog 15 #[.agg (elmX op a b A n c (.slice FA m fc))] w fun e w' => e = .returned (.bool true) ∧ Step (fun _ => False) w w' := by
  have g1' : decide ((100 : Int) < (m : Int)) = true := decide_eq_true h1
  have HX0 := Lib.hid (Blk.new w 136 (elmX op a b A n c (.slice FA m fc)))
  have HS0 := Lib.hid ((Step.refl (F := fun _ => False)).alloc (w := w) (.cells (elmX op a b A n c (.slice FA m fc)) 136))
  go_enter Try.func15, Try.ntmps15
  go_wp2_with fail
  refine (awake13 _).mono ?_
  rintro e w5 ⟨rfl, hS5⟩
  have HX5 := Lib.hid (HX0.out.step hS5 id)
  have HS5 := Lib.hid (HS0.out.trans hS5)
  clear hS5 HX0 HS0
  obtain ⟨X, hX⟩ : ∃ X, X = w.heap.size := ⟨_, rfl⟩
  rw [← hX] at HX5 ⊢
  have HXe := Lib.hid hX
  clear hX
  have x0 := HX5.out.cell 0
  have x1 := HX5.out.cell 1
  have x2 := HX5.out.cell 2
  have x3 := HX5.out.cell 3
  have x4 := HX5.out.cell 4
  simp [elmX] at x0 x1 x2 x3 x4
  go_wp2_with fail
  go_ret
  exact ⟨rfl, HS5.out⟩

set_option maxRecDepth 100000 in
set_option maxHeartbeats 1600000 in
theorem eputs_big2 (w : World) (op a b n c m fc : Nat) (A FA : Option Addr) (h1 : ¬ (100 : Int) < m) (h2 : (100 : Int) < n) :
    Calls Try.prog 15 #[.agg (elmX op a b A n c (.slice FA m fc))] w fun e w' => e = .returned (.bool true) ∧ Step (fun _ => False) w w' := by
  have g1' : decide ((100 : Int) < (m : Int)) = false := decide_eq_false h1
  have g2' : decide ((100 : Int) < (n : Int)) = true := decide_eq_true h2
  have HX0 := Lib.hid (Blk.new w 136 (elmX op a b A n c (.slice FA m fc)))
  have HS0 := Lib.hid ((Step.refl (F := fun _ => False)).alloc (w := w) (.cells (elmX op a b A n c (.slice FA m fc)) 136))
  go_enter Try.func15, Try.ntmps15
  go_wp2_with fail
  refine (awake13 _).mono ?_
  rintro e w5 ⟨rfl, hS5⟩
  have HX5 := Lib.hid (HX0.out.step hS5 id)
  have HS5 := Lib.hid (HS0.out.trans hS5)
  clear hS5 HX0 HS0
  obtain ⟨X, hX⟩ : ∃ X, X = w.heap.size := ⟨_, rfl⟩
  rw [← hX] at HX5 ⊢
  have HXe := Lib.hid hX
  clear hX
  have x0 := HX5.out.cell 0
  have x1 := HX5.out.cell 1
  have x2 := HX5.out.cell 2
  have x3 := HX5.out.cell 3
  have x4 := HX5.out.cell 4
  simp [elmX] at x0 x1 x2 x3 x4
  go_wp2_with fail
  go_ret
  exact ⟨rfl, HS5.out⟩

set_option maxRecDepth 100000 in
set_option maxHeartbeats 3200000 in
theorem eputs_err (w : World) (op a b n c m fc : Nat) (A FA : Option Addr) (hop : op < 256) (l1 : m ≤ 100) (l2 : n ≤ 100) (hz : ¬ crtF op a b n = 0) :
    Calls Try.prog 15 #[.agg (elmX op a b A n c (.slice FA m fc))] w fun e w' => e = .returned (.bool true) ∧ Step (fun _ => False) w w' := by
  have g1 : ¬ (100 : Int) < m := by omega
  have g2 : ¬ (100 : Int) < n := by omega
  have g1' : decide ((100 : Int) < (m : Int)) = false := decide_eq_false g1
  have g2' : decide ((100 : Int) < (n : Int)) = false := decide_eq_false g2
  have HR : Hid (∀ w, Calls Try.prog 90 #[.agg (elmX op a b A n c (.slice FA m fc))] w fun e w' => e = .returned (.int .i64 (crtF op a b n : Nat)) ∧ Step (fun _ => False) w w') := fun w => eright_walk w op a b n c m fc A FA hop (by omega)
  have HQ : Hid (∀ w, Calls Try.prog 88 #[.agg (elmX op a b A n c (.slice FA m fc))] w fun e w' => e = .returned (.int .i64 (crtF op a b n : Nat)) ∧ Step (fun _ => False) w w') := fun w => erright_walk w op a b n c m fc A FA hop (by omega)
  have HP : Hid (∀ w, Calls Try.prog 89 #[.agg (elmX op a b A n c (.slice FA m fc))] w fun e w' => e = .returned (.tuple #[.slice none 0 0, .int .i64 (crtF op a b n : Nat)]) ∧ Step (fun _ => False) w w') := fun w => eput_err w op a b n c m fc A FA hop (by omega) hz
  obtain ⟨r, hr⟩ : ∃ r : Int, r = (crtF op a b n : Nat) := ⟨_, rfl⟩
  have hne : ¬ r = 0 := by omega
  have hnb : (r != 0) = true := bne_iff_ne.2 hne
  have hrr : (r != r) = false := by simp
  rw [← hr] at HR HQ HP
  clear hr hz
  have HX0 := Lib.hid (Blk.new w 136 (elmX op a b A n c (.slice FA m fc)))
  have HS0 := Lib.hid ((Step.refl (F := fun _ => False)).alloc (w := w) (.cells (elmX op a b A n c (.slice FA m fc)) 136))
  go_enter Try.func15, Try.ntmps15
  go_wp2_with fail
  refine (awake13 _).mono ?_
  rintro e w5 ⟨rfl, hS5⟩
  have HX5 := Lib.hid (HX0.out.step hS5 id)
  have HS5 := Lib.hid (HS0.out.trans hS5)
  clear hS5 HX0 HS0
  obtain ⟨X, hX⟩ : ∃ X, X = w.heap.size := ⟨_, rfl⟩
  rw [← hX] at HX5 ⊢
  have HXe := Lib.hid hX
  clear hX
  have x0 := HX5.out.cell 0
  have x1 := HX5.out.cell 1
  have x2 := HX5.out.cell 2
  have x3 := HX5.out.cell 3
  have x4 := HX5.out.cell 4
  simp [elmX] at x0 x1 x2 x3 x4
  go_wp2_with fail
  refine (HQ.out _).mono ?_
  rintro e w6 ⟨rfl, hS6⟩
  have HX6 := Lib.hid (HX5.out.step hS6 id)
  have HS6 := Lib.hid (HS5.out.trans hS6)
  clear hS6 HX5 HS5
  clear x0 x1 x2 x3 x4
  have x0 := HX6.out.cell 0
  have x1 := HX6.out.cell 1
  have x2 := HX6.out.cell 2
  have x3 := HX6.out.cell 3
  have x4 := HX6.out.cell 4
  simp [elmX] at x0 x1 x2 x3 x4
  go_wp2_with fail
  refine (HP.out _).mono ?_
  rintro e w7 ⟨rfl, hS7⟩
  have HX7 := Lib.hid (HX6.out.step hS7 id)
  have HS7 := Lib.hid (HS6.out.trans hS7)
  clear hS7 HX6 HS6
  clear x0 x1 x2 x3 x4
  have x0 := HX7.out.cell 0
  have x1 := HX7.out.cell 1
  have x2 := HX7.out.cell 2
  have x3 := HX7.out.cell 3
  have x4 := HX7.out.cell 4
  simp [elmX] at x0 x1 x2 x3 x4
  go_wp2_with fail
  refine (HR.out _).mono ?_
  rintro e w8 ⟨rfl, hS8⟩
  go_wp2_with fail
  go_ret
  exact ⟨rfl, HS7.out.trans hS8⟩

set_option maxRecDepth 100000 in
set_option maxHeartbeats 6400000 in
theorem eputs_ok (w : World) (op a c n fc : Nat) (A FA : Option Addr) (L : List Nat) (S : Nat → Prop) (hok : ConstOk op a) (ha : a < 18446744073709551616) (HN : Hid (n = L.length)) (l1 : n ≤ 100) (hLb : ∀ x ∈ L, x < 4294967296) (hr : Reads w S 1 FA n (u32s L)) :
    Calls Try.prog 15 #[.agg (elmX op a 0 A 0 c (.slice FA n fc))] w fun e w' => e = .returned (.bool true) ∧ Step (fun _ => False) w w' := by
  have hop : op < 256 := by rcases hok with ⟨rfl, h⟩ | ⟨rfl, h⟩ | rfl <;> decide
  have g1 : ¬ (100 : Int) < n := by omega
  have g1' : decide ((100 : Int) < (n : Int)) = false := decide_eq_false g1
  have HF0 := Lib.hid hr
  clear hr
  have HR : Hid (∀ w, Calls Try.prog 90 #[.agg (elmX op a 0 A 0 c (.slice FA n fc))] w fun e w' => e = .returned (.int .i64 0) ∧ Step (fun _ => False) w w') := fun w => by
    have := eright_walk w op a 0 0 c n fc A FA hop (by omega)
    rw [crt_ok hok] at this
    exact this
  have HQ : Hid (∀ w, Calls Try.prog 88 #[.agg (elmX op a 0 A 0 c (.slice FA n fc))] w fun e w' => e = .returned (.int .i64 0) ∧ Step (fun _ => False) w w') := fun w => by
    have := erright_walk w op a 0 0 c n fc A FA hop (by omega)
    rw [crt_ok hok] at this
    exact this
  have HP : Hid (∀ w, Reads w S 1 FA n (u32s L) → Calls Try.prog 89 #[.agg (elmX op a 0 A 0 c (.slice FA n fc))] w fun e w' => ∃ D c', e = .returned (.tuple #[.slice D (eputL op a L).length c', .int .i64 0]) ∧
      w'.ownsRow w.heap.size 5 1 (.slice D (eputL op a L).length c') (eputL op a L).length (u8s (eputL op a L)) ∧ Step (fun _ => False) w w') := fun w hr => eput_ok w op a c n fc A FA L S hok ha HN (by omega) hLb hr
  have HW : Hid (∀ w, Reads w S 1 FA n (u32s L) → Calls Try.prog 94 #[.agg (elmX op a 0 A 0 c (.slice FA n fc))] w fun e w' => e = .returned (.string (str (eputL op a L))) ∧ Step (fun _ => False) w w') := fun w hr => erput_walk w op a c n fc A FA L S hok ha HN (by omega) hLb hr
  have HM : Hid (∀ w Dz cz S2, Reads w S2 1 Dz n (u32s L) → Reads w S 1 FA n (u32s L) → Calls Try.prog 95 #[.agg (elmC (op : Int) (a : Int) (.slice Dz n cz)), .agg (elmX op a 0 A 0 c (.slice FA n fc))] w fun e w' => e = .returned (.bool true) ∧ Step (fun _ => False) w w') := fun w Dz cz S2 h2 h1 => ersame_walk w op a 0 c n cz fc none A Dz FA L S2 S HN.out (by omega) h2 h1
  have HV : Hid (∀ w0 X S' D' c' M sb, M = eputL op a L ++ [7] → Scn w0 X S' D' c' M 0 → Blk w0 sb 79 #[.pointer (some ⟨X, 0, none⟩)] → Calls Try.prog 91 #[.func (.func 92) #[] #[.pointer (some ⟨sb, 0, none⟩)]] w0 fun e w' => ∃ Dz cz, e = .returned (.tuple #[.agg (elmC (op : Int) (a : Int) (.slice Dz n cz)), .agg #[.int .i64 0, .int .i64 0]]) ∧
      ∃ wa wb, Step (fun _ => False) w0 wa ∧ Step (fun i => i = X) wa wb ∧ (wb.ownsRow wa.heap.size 51 1 (.slice Dz n cz) n (u32s L) ∧ Scn wb X S' D' c' M (eputL op a L).length) ∧ Step (fun k => w0.heap.size ≤ k ∧ k < wa.heap.size) wb w') := fun w0 X S' D' c' M sb hM hs hb =>
    evalue_ok 92 #[.pointer (some ⟨sb, 0, none⟩)] w0 (fun i => i = X) (fun Dz cz wa w' => w'.ownsRow wa.heap.size 51 1 (.slice Dz n cz) n (u32s L) ∧ Scn w' X S' D' c' M (eputL op a L).length) (op : Int) (a : Int) n (fun _ => rfl) (fun k hk => hk ▸ hs.lt) (fun w' ht => by
      have := eclosure_ok w' X sb S' D' c' M 0 (hs.quiet ht) op a L [7] hok ha (by have := HN.out; omega) hLb hM (hb.step ht id)
      rw [Nat.zero_add, ← HN.out] at this
      exact this)
  have hTl : (eputL op a L).length ≤ 3000 := by
    have h1 := cT_len op a
    have h2 := num_len L.length
    have h3 := labL_len L
    have h4 := HN.out
    rw [eputL, List.length_cons, List.length_append, List.length_append, cputL]
    simp
    omega
  obtain ⟨T, hT⟩ : ∃ T, T = eputL op a L := ⟨_, rfl⟩
  rw [← hT] at HP HW HV hTl
  have hE : ((str T).toList == (str T).toList) = true := beq_self_eq_true _
  have hrr : ((0 : Int) != 0) = false := by simp
  clear hT
  obtain ⟨xo, hxo⟩ : ∃ xo : Array Value, xo = elmX op a 0 A 0 c (.slice FA n fc) := ⟨_, rfl⟩
  clear hxo xo
  have HX0 := Lib.hid (Blk.new w 136 (elmX op a 0 A 0 c (.slice FA n fc)))
  have HS0 := Lib.hid ((Step.refl (F := fun _ => False)).alloc (w := w) (.cells (elmX op a 0 A 0 c (.slice FA n fc)) 136))
  go_enter Try.func15, Try.ntmps15
  go_wp2_with fail
  refine (awake13 _).mono ?_
  rintro e w5 ⟨rfl, hS5⟩
  have HX5 := Lib.hid (HX0.out.step hS5 id)
  have HS5 := Lib.hid (HS0.out.trans hS5)
  clear hS5 HX0 HS0
  obtain ⟨X, hX⟩ : ∃ X, X = w.heap.size := ⟨_, rfl⟩
  rw [← hX] at HX5 ⊢
  have HXe := Lib.hid hX
  clear hX
  have x0 := HX5.out.cell 0
  have x1 := HX5.out.cell 1
  have x2 := HX5.out.cell 2
  have x3 := HX5.out.cell 3
  have x4 := HX5.out.cell 4
  simp [elmX] at x0 x1 x2 x3 x4
  go_wp2_with fail
  refine (HQ.out _).mono ?_
  rintro e w6 ⟨rfl, hS6⟩
  have HX6 := Lib.hid (HX5.out.step hS6 id)
  have HS6 := Lib.hid (HS5.out.trans hS6)
  clear hS6 HX5 HS5
  clear x0 x1 x2 x3 x4
  have x0 := HX6.out.cell 0
  have x1 := HX6.out.cell 1
  have x2 := HX6.out.cell 2
  have x3 := HX6.out.cell 3
  have x4 := HX6.out.cell 4
  simp [elmX] at x0 x1 x2 x3 x4
  go_wp2_with fail
  refine (HP.out _ (HF0.out.step HS6.out (fun _ _ => id))).mono ?_
  rintro e w7 ⟨D7, c7, rfl, hown7, hS7⟩
  have HO7 := Lib.hid hown7
  have HX7 := Lib.hid (HX6.out.step hS7 id)
  have HS7 := Lib.hid (HS6.out.trans hS7)
  clear hS7 hown7 HX6 HS6
  clear x0 x1 x2 x3 x4
  have x0 := HX7.out.cell 0
  have x1 := HX7.out.cell 1
  have x2 := HX7.out.cell 2
  have x3 := HX7.out.cell 3
  have x4 := HX7.out.cell 4
  simp [elmX] at x0 x1 x2 x3 x4
  go_wp2_with fail
  refine (HR.out _).mono ?_
  rintro e wc ⟨rfl, hSc⟩
  have HO8 := Lib.hid (own_step HO7.out hSc (fun _ _ => id))
  have HX8 := Lib.hid (HX7.out.step hSc id)
  have HS8 := Lib.hid (HS7.out.trans hSc)
  have hfr := own_fresh (w := wc) (e := 5) (base := wc.heap.size) 1 (Nat.le_refl _)
  have hrd := (Reads.of_own HO8.out).step (Step.refl.alloc (F := fun _ => False) (w := wc) (.cells #[] 5)) (fun _ _ => id)
  have hone := u8s_one T
  have hm : 0 + T.length ≤ maxLen := by unfold maxLen; omega
  have hone2 : ∀ u ∈ #[Value.int .u8 7].toList, u.oneCell' = true := by simp [Value.oneCell']
  have hm2 : T.length + 1 ≤ maxLen := by unfold maxLen; omega
  clear HO7 HX7 HS7 hSc
  clear x0 x1 x2 x3 x4
  go_wp2_with first
    | (at_builtin; refine wpList_append_src _ rfl _ _ (by rfl) E_u8 (by rfl) hfr (by rfl) hrd hone hm (by omega) (by simp) ?_; intro D9 c9 w9 hown hgrow hat; rw [Nat.zero_add, List.nil_append] at hown; have HO9 := Lib.hid hown; have HG9 := Lib.hid hgrow; have HW9 := Lib.hid (grow_step ((Step.refl (F := fun _ => False)).alloc _) hgrow hfr (Nat.le_refl _)); clear hown hgrow hat)
    | (at_builtin; refine wpList_append_src _ rfl _ _ (by rfl) E_u8 (by rfl) (HO9.out.alloc _) (by rfl) (reads_new w9 #[Value.int .u8 7] 5 1 1 rfl) hone2 hm2 (by omega) (by have := HW9.out.size; simp; omega) ?_; intro D10 c10 w10 hown hgrow hat; have HO10 := Lib.hid hown; have HG10 := Lib.hid hgrow; clear hown hgrow hat)
  have HW10 := Lib.hid (grow_step (HW9.out.alloc _) HG10.out (HO9.out.alloc _) (Nat.le_refl _))
  have HS10 := Lib.hid (HS8.out.trans HW10.out)
  have HX10 := Lib.hid (HX8.out.step HW10.out id)
  have HB10 := Lib.hid (own_step HO8.out HW10.out (fun _ _ => id))
  obtain ⟨M, hM⟩ : ∃ M, M = T ++ [7] := ⟨_, rfl⟩
  have hMl : T.length + 1 = M.length := by rw [hM]; simp
  have hrM : ∃ S', Reads w10 S' 1 D10 M.length (u8s M) := by
    have h := Reads.of_own HO10.out
    rw [show u8s T ++ #[Value.int .u8 7].toList = u8s M by rw [hM]; simp [u8s], hMl] at h
    exact ⟨_, h⟩
  obtain ⟨S10, hrM⟩ := hrM
  have HMl := Lib.hid hMl
  have HMM := Lib.hid hM
  have HRM := Lib.hid hrM
  clear hM hrM hMl HO10 HG10 HO9 HG9 HW9 HW10 HX8 HO8 HS8 hfr hrd hone hone2 hm hm2
  rw [HMl.out]
  refine (over_walk _ D10 c10 M S10 HRM.out (by have := HMl.out; omega)).mono ?_
  rintro e w11 ⟨Y, S', D', c', rfl, hs11, hY, hS', ht11⟩
  have HX11 := Lib.hid ((HX10.out.step ht11 id).alloc (.cells #[.pointer (some ⟨Y, 0, none⟩)] 79))
  have HB11 := Lib.hid ((own_step HB10.out ht11 (fun _ _ => id)).alloc (.cells #[.pointer (some ⟨Y, 0, none⟩)] 79))
  have HC11 := Lib.hid (hs11.alloc (.cells #[.pointer (some ⟨Y, 0, none⟩)] 79))
  have HP11 := Lib.hid (Blk.new w11 79 #[.pointer (some ⟨Y, 0, none⟩)])
  have HS11 := Lib.hid ((HS10.out.trans ht11).alloc (.cells #[.pointer (some ⟨Y, 0, none⟩)] 79))
  have hYl : Y < w11.heap.size := hs11.lt
  have hXY : X ≠ Y := by have := HX10.out.lt; omega
  have hBY : ∀ q, Value.ownBlock (.slice D7 T.length c7) = some q → q < w10.heap.size := own_lt HB10.out
  have n12 : (w11.alloc (.cells #[.pointer (some ⟨Y, 0, none⟩)] 79)).heap.size = w11.heap.size + 1 := by simp
  have hn10 : w10.heap.size ≤ w11.heap.size := ht11.size
  have hXl : X < w10.heap.size := HX10.out.lt
  have hww : w.heap.size ≤ w10.heap.size := HS10.out.size
  clear hs11 ht11 HX10 HB10 HS10 HRM
  have hmf : ∀ (fn : Fn) (first cap : Array Value) (w : World), (Instr.makeFunc fn first cap).run Try.prog w = .ok (.func fn first cap) w := fun _ _ _ _ => rfl
  go_wp2_with fail
  refine (HV.out _ Y S' D' c' M _ HMM.out HC11.out HP11.out).mono ?_
  rintro e w12 ⟨Dz, cz, rfl, wa, wb, g1, g2, ⟨gO, g4⟩, g5⟩
  have hlow := HC11.out.low
  rw [n12] at g5 hlow
  have hwa := g1.size
  rw [n12] at hwa
  have HG12 := Lib.hid (own_step gO g5 (fun q hq hk => by have := own_ge gO q hq; omega))
  have HC12 := Lib.hid (g4.step g5 (by omega) (fun j hj hk => by have := hlow j hj; omega))
  have HP12 := Lib.hid (((HP11.out.step g1 id).step g2 (show w11.heap.size ≠ Y by omega)).step g5 (by omega))
  have HX12 := Lib.hid (((HX11.out.step g1 id).step g2 hXY).step g5 (by omega))
  have HB12 := Lib.hid (own_step (own_step (own_step HB11.out g1 (fun _ _ => id)) g2 (fun q hq e => by have := hBY q hq; omega)) g5 (fun q hq hk => by have := hBY q hq; omega))
  have HS12 : Hid (Step (fun _ => False) w w12) := ((HS11.out.trans g1).trans' g2 (fun i hi => .inr (by omega))).trans' g5 (fun i hi => .inr (by omega))
  have n5 : w11.heap.size + 1 ≤ w12.heap.size := by have h2 := g2.size; have h3 := g5.size; omega
  clear g1 g2 g4 g5 gO HC11 HP11 HX11 HB11 HS11 HV n12 hlow hwa
  simp only [elmC]
  go_wp2_with fail
  have HG13 := Lib.hid (Reads.of_own ((HG12.out.alloc (.cells (elmC (op : Int) (a : Int) (.slice Dz n cz)) 136)).alloc (.cells #[.int .i64 0, .int .i64 0] 85)))
  have HX13 := Lib.hid ((HX12.out.alloc (.cells (elmC (op : Int) (a : Int) (.slice Dz n cz)) 136)).alloc (.cells #[.int .i64 0, .int .i64 0] 85))
  have HB13 := Lib.hid ((HB12.out.alloc (.cells (elmC (op : Int) (a : Int) (.slice Dz n cz)) 136)).alloc (.cells #[.int .i64 0, .int .i64 0] 85))
  have HC13 := Lib.hid ((HC12.out.alloc (.cells (elmC (op : Int) (a : Int) (.slice Dz n cz)) 136)).alloc (.cells #[.int .i64 0, .int .i64 0] 85))
  have HP13 := Lib.hid ((HP12.out.alloc (.cells (elmC (op : Int) (a : Int) (.slice Dz n cz)) 136)).alloc (.cells #[.int .i64 0, .int .i64 0] 85))
  have HS13 := Lib.hid ((HS12.out.alloc (.cells (elmC (op : Int) (a : Int) (.slice Dz n cz)) 136)).alloc (.cells #[.int .i64 0, .int .i64 0] 85))
  have HZ13 := Lib.hid ((Blk.new w12 136 (elmC (op : Int) (a : Int) (.slice Dz n cz))).alloc (.cells #[.int .i64 0, .int .i64 0] 85))
  have HJ13 : Hid (Blk ((w12.alloc (.cells (elmC (op : Int) (a : Int) (.slice Dz n cz)) 136)).alloc (.cells #[.int .i64 0, .int .i64 0] 85)) (w12.heap.size + 1) 85 #[.int .i64 0, .int .i64 0]) := by
    have h1 := Blk.new (w12.alloc (.cells (elmC (op : Int) (a : Int) (.slice Dz n cz)) 136)) 85 #[.int .i64 0, .int .i64 0]
    rw [show (w12.alloc (.cells (elmC (op : Int) (a : Int) (.slice Dz n cz)) 136)).heap.size = w12.heap.size + 1 by simp] at h1
    exact h1
  obtain ⟨W, hW⟩ : ∃ W, W = (w12.alloc (.cells (elmC (op : Int) (a : Int) (.slice Dz n cz)) 136)).alloc (.cells #[.int .i64 0, .int .i64 0] 85) := ⟨_, rfl⟩
  rw [← hW] at HG13 HX13 HB13 HC13 HP13 HS13 HZ13 HJ13
  have hW2 := hW
  simp only [elmC] at hW2
  rw [← hW2]
  clear hW hW2 HX12 HB12 HC12 HP12 HS12
  obtain ⟨z, hz⟩ : ∃ z, z = w12.heap.size := ⟨_, rfl⟩
  rw [← hz] at HZ13 HJ13 n5 ⊢
  clear hz
  have x0 := HX13.out.cell 0
  have x1 := HX13.out.cell 1
  have x2 := HX13.out.cell 2
  have x3 := HX13.out.cell 3
  have x4 := HX13.out.cell 4
  simp [elmX] at x0 x1 x2 x3 x4
  have z0 := HZ13.out.cell 0
  have z1 := HZ13.out.cell 1
  have z2 := HZ13.out.cell 2
  have z3 := HZ13.out.cell 3
  have z4 := HZ13.out.cell 4
  simp [elmC] at z0 z1 z2 z3 z4
  have v0 := HJ13.out.cell 0
  have p0 := HP13.out.cell 0
  simp at v0 p0
  have d0 := cls_cell (F := fun _ => False) (w0 := W) x0 id
  have f0 := cls_cell (F := fun _ => False) (w0 := W) z0 id
  have d1 := cls_cell (F := fun _ => False) (w0 := W) x1 id
  have f1 := cls_cell (F := fun _ => False) (w0 := W) z1 id
  have d2 := cls_cell (F := fun _ => False) (w0 := W) x2 id
  have f2 := cls_cell (F := fun _ => False) (w0 := W) z2 id
  have d3 := cls_cell (F := fun _ => False) (w0 := W) x3 id
  have f3 := cls_cell (F := fun _ => False) (w0 := W) z3 id
  have d4 := cls_cell (F := fun _ => False) (w0 := W) x4 id
  have f4 := cls_cell (F := fun _ => False) (w0 := W) z4 id
  have e1 := cls_cell (F := fun _ => False) (w0 := W) v0 id
  have e2 := cls_cell (F := fun _ => False) (w0 := W) p0 id
  have hcv : ∀ i : Mix.Cls (Step (fun _ => False) W), (convert 53 9 (.slice D7 T.length c7)).run Try.prog i.val = .ok (.string (str T)) i.val := fun i => conv_bytes (c := c7) ((Reads.of_own HB13.out).step i.prop (fun _ _ => id))
  clear v0 p0
  clear x0 x1 x2 x3 x4
  clear z0 z1 z2 z3 z4
  refine Mix.wp_region_mix [3, 13, 17] [3, 13, 17] (Step (fun _ => False) W) (by kernel_rfl) (by kernel_rfl) Step.refl.drew (fun hcls => ?_)
  refine Mix.wpL_reads 3 (by rfl) ?_
  simp only [List.take_succ_cons, List.drop_succ_cons, List.take_zero, List.drop_zero]
  repeat (go_big_quiet_step (fail))
  refine wpQuiet_nil ?_
  refine Mix.wpL_op (by rfl) (fun K hK => ?_)
  go_simp
  refine (HW.out _ (HF0.out.step (HS13.out.trans Step.refl.drew) (fun _ _ => id))).mono ?_
  rintro e wd ⟨rfl, hSd⟩
  have HSd := Lib.hid (Step.refl.drew.trans hSd)
  refine hK _ _ (fun hlt => Mix.cl HSd.out) ?_
  clear hK K hSd
  refine Mix.wpL_reads 9 (by rfl) ?_
  simp only [List.take_succ_cons, List.drop_succ_cons, List.take_zero, List.drop_zero]
  repeat (go_big_quiet_step (fail))
  refine wpQuiet_nil ?_
  refine Mix.wpL_op (by rfl) (fun K hK => ?_)
  go_simp
  refine (HM.out _ _ _ _ (HG13.out.step HSd.out (fun _ _ => id)) (HF0.out.step (HS13.out.trans HSd.out) (fun _ _ => id))).mono ?_
  rintro e we ⟨rfl, hSe⟩
  have HSe := Lib.hid (HSd.out.trans hSe)
  refine hK _ _ (fun hlt => Mix.cl HSe.out) ?_
  clear hK K hSe HSd
  refine Mix.wpL_reads 3 (by rfl) ?_
  simp only [List.take_succ_cons, List.drop_succ_cons, List.take_zero, List.drop_zero]
  repeat (go_big_quiet_step (fail))
  refine wpQuiet_nil ?_
  have hw1 : ((M.length : Int) - (T.length : Int)) = 1 := by have := HMl.out; omega
  refine Mix.wpL_op (by rfl) (fun K hK => ?_)
  go_simp
  refine (left_walk _ Y S' D' c' M T.length (HC13.out.quiet HSe.out)).mono ?_
  rintro e wf ⟨rfl, q, rfl⟩
  have HSf := Lib.hid (HSe.out.drewN q)
  refine hK _ _ (fun hlt => Mix.cl HSf.out) ?_
  clear hK K HSe
  refine Mix.wpL_reads 3 (by rfl) ?_
  simp only [List.take_succ_cons, List.drop_succ_cons, List.take_zero, List.drop_zero]
  repeat (go_big_quiet_step (fail))
  refine wpQuiet_nil ?_
  refine Mix.wpL_end ?_
  go_wp2_with fail
  go_ret
  exact ⟨rfl, HS13.out.trans HSf.out⟩

theorem eputs_done (W : World) (op a b n c m fc : Nat) (A FA : Option Addr) (L : List Nat) (S : Nat → Prop) (hm : L.length = m) (hop : op < 256) (ha : a < 18446744073709551616) (hLb : ∀ x ∈ L, x < 4294967296) (hr : Reads W S 1 FA m (u32s L)) :
    Calls Try.prog 15 #[.agg (elmX op a b A n c (.slice FA m fc))] W fun e W' => e = .returned (.bool true) ∧ Below W.heap.size W W' := by
  have key : Calls Try.prog 15 #[.agg (elmX op a b A n c (.slice FA m fc))] W fun e W' => e = .returned (.bool true) ∧ Step (fun _ => False) W W' := by
    by_cases g1 : m ≤ 100
    · by_cases g2 : n ≤ 100
      · by_cases hz : crtF op a b n = 0
        · obtain ⟨rfl, rfl, hok⟩ := crt_zero hz
          exact eputs_ok W op a c m fc A FA L S hok ha hm.symm g1 hLb hr
        · exact eputs_err W op a b n c m fc A FA hop g1 g2 hz
      · exact eputs_big2 W op a b n c m fc A FA (by omega) (by omega)
    · exact eputs_big1 W op a b n c m fc A FA (by omega)
  exact key.mono fun _ _ hh => ⟨hh.1, hh.2.below W.heap.size (fun _ _ hf => hf.elim) (Nat.le_refl _)⟩
end Go.Proofs.Ytfemeendkjcffaa
