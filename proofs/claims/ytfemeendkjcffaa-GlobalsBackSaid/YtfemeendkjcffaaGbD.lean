/-
  globals: the law GlobalsBack, its walk.
-/
import Derived.Test.YtfemeendkjcffaaGbC
import Derived.Test.YtfemeendkjcffaaDaD
set_option linter.unusedVariables false
set_option linter.unusedSimpArgs false
namespace Go.Proofs.Ytfemeendkjcffaa
open Go.RowKit

set_option maxRecDepth 100000 in
set_option maxHeartbeats 1600000 in
theorem rcount12_walk (w : World) (v : Nat) (h : v < 9223372036854775808) : Calls Try.prog 84 #[.int .i64 (v : Int)] w fun e w' => e = .returned (.string (str (uintF v))) ∧ Step (fun _ => False) w w' := by
  have HC := Lib.hid (rcount_walk w v h)
  obtain ⟨s, hs⟩ : ∃ s, s = str (uintF v) := ⟨_, rfl⟩
  rw [← hs] at HC ⊢
  clear hs
  go_enter Try.func84, Try.ntmps84
  go_wp2_with fail
  refine HC.out.mono ?_
  rintro e w5 ⟨rfl, hS⟩
  go_wp2_with fail
  go_ret
  exact ⟨rfl, hS⟩

set_option maxRecDepth 100000 in
set_option maxHeartbeats 12800000 in
theorem gbacks_ok (w : World) (n c : Nat) (A : Option Addr) (l : List Gl) (S : Nat → Prop) (HN : Hid (n = l.length)) (l1 : n ≤ 20) (hwf : ∀ x ∈ l, x.wf) (hr : Reads w S 6 A n (gls l)) :
    Calls Try.prog 14 #[.slice A n c] w fun e w' => e = .returned (.bool true) ∧ Step (fun _ => False) w w' := by
  have HC : Hid (∀ w, Calls Try.prog 84 #[.int .i64 (n : Int)] w fun e w' => e = .returned (.string (str (uintF n))) ∧ Step (fun _ => False) w w') := fun w => rcount12_walk w n (by omega)
  have HPA : Hid (∀ w', Step (fun _ => False) w w' → Calls Try.prog 85 #[.slice A n c] w' fun e w'' => Step (fun _ => False) w' w'' ∧ ((¬ errL l = 0 ∧ e = .returned (.tuple #[.slice none 0 0, .int .i64 (errL l : Nat)])) ∨
      (errL l = 0 ∧ ∃ D c', e = .returned (.tuple #[.slice D (putsL (uintF n) l n).length c', .int .i64 0]) ∧ w''.ownsRow w'.heap.size 5 1 (.slice D (putsL (uintF n) l n).length c') (putsL (uintF n) l n).length (u8s (putsL (uintF n) l n))))) := fun w' hs => putall_walk w' n c A l S HN (by omega) hwf (hr.step hs (fun _ _ => id))
  have hlU := num_len n
  have HR := Lib.hid hr
  have HWF := Lib.hid hwf
  obtain ⟨U, hU⟩ : ∃ U, U = uintF n := ⟨_, rfl⟩
  rw [← hU] at hlU HC HPA
  have HU := Lib.hid hU
  clear hU hr hwf
  have g20 : ¬ (20 : Int) < (n : Int) := by omega
  go_enter Try.func14, Try.ntmps14
  go_wp2_with fail
  refine (awake12 _).mono ?_
  rintro e w5 ⟨rfl, hS5⟩
  have HS5 := Lib.hid hS5
  clear hS5
  go_wp2_with fail
  refine (HC.out _).mono ?_
  rintro e w6 ⟨rfl, hS6⟩
  have HS6 := Lib.hid (HS5.out.trans hS6)
  clear hS6 HS5
  go_wp2_with fail
  go_loopw [3, 4, 5] (fun cv sv iv wr => ∃ (j : Nat) (s : ByteArray), j ≤ n ∧ cv = .int .i64 ((errL (l.take j) : Nat) : Int) ∧ sv = .string s ∧ iv = .int .i64 (j : Int) ∧ Hid (errL (l.take j) = 0 → s = str (putsL U l j)) ∧ Hid (Step (fun _ => False) w wr)) (fun _ _ iv _ => n + 1 - (intOf iv).toNat)
  case atStart => exact ⟨0, str U, by omega, rfl, rfl, rfl, fun _ => by rw [putsL_zero], HS6⟩
  case round =>
    obtain ⟨j, s, hj, rfl, rfl, rfl, HSt, HS⟩ := hrel
    have hpl := putsL_len U l j (by rw [← HN.out]; exact hj)
    by_cases hlt : j < n
    · have g1 : (j : Int) < (n : Int) := by omega
      have i0 : (0 : Int) ≤ (j : Int) := by omega
      have hw1 := IntWalk.i64_in ((j : Int) + 1) (by omega)
      have hjl : j < l.length := by rw [← HN.out]; exact hlt
      obtain ⟨bk, off, rfl, _, hbl, hc⟩ := reads_row Gl.cells 6 (by decide) Gl.six (HR.out.step HS.out (fun _ _ => id)) (k := j) hjl
      have hx := HWF.out l[j] (List.getElem_mem hjl)
      have HP := Lib.hid (putsL_succ U l j hjl)
      have HET := Lib.hid (errL_take l j hjl)
      obtain ⟨x, hxe⟩ : ∃ x, x = l[j] := ⟨_, rfl⟩
      rw [← hxe] at hx hc HP HET
      clear hxe
      obtain ⟨t, op, a, b, m, cc, mu, B⟩ := x
      have c0 := hc 0 _ rfl
      have c1 := hc 1 _ rfl
      have c2 := hc 2 _ rfl
      have c3 := hc 3 _ rfl
      have c4 := hc 4 _ rfl
      have c5 := hc 5 _ rfl
      simp only [Nat.add_zero] at c0
      obtain ⟨h1, h2, h3⟩ := hx
      simp only [Gl.err, Gl.put] at HP HET
      simp only at h1 h2 h3 c0 c1 c2 c3 c4 c5
      clear hc
      have HCX : Hid (#[Value.int .u8 (t : Int), .bool mu, .int .u8 (op : Int), .int .u64 (a : Int), .int .u64 (b : Int), .slice B m cc] = gloX t mu op a b B m cc) := rfl
      by_cases hm : (100 : Int) < (m : Int)
      · go_wp2_with fail
        go_ret
        exact ⟨rfl, HS.out.alloc _⟩
      by_cases hE : errL (l.take j) = 0
      · have hs := HSt.out hE
        subst hs
        have hcv : ((errL (l.take j) : Nat) : Int) = 0 := by rw [hE]; rfl
        rw [hcv]
        clear hcv HSt
        by_cases hz : glbF t op a b m = 0
        · obtain ⟨hv, hz2⟩ := glb_zero hz
          obtain ⟨rfl, rfl, hok⟩ := crt_zero hz2
          have HE2 : Hid (errL (l.take (j + 1)) = 0) := by rw [Hid, HET.out, if_pos hE]; exact hz
          have HRt : Hid (∀ w, Calls Try.prog 71 #[.agg (gloX t mu op a 0 B 0 cc)] w fun e w' => e = .returned (.int .i64 0) ∧ Step (fun _ => False) w w') := fun w => by
            have := grright_walk w t op a 0 0 cc mu B h2 h1
            rw [hz] at this
            exact this
          have HPt := Lib.hid (fun w => grput_walk w t op a cc mu B h1 hok h3)
          have hgl := gput_len t mu op a
          obtain ⟨V, hV⟩ : ∃ V, V = gputL t mu op a := ⟨_, rfl⟩
          rw [← hV] at HPt hgl HP
          simp only [gloX] at HPt HRt
          have hz2' := str_size V
          have hz3 := str_size (putsL U l j)
          have hap : str (putsL U l j) ++ str V = str (putsL U l (j + 1)) := by rw [HP.out]; exact str_append _ _
          have HBk := Lib.hid (Blk.new wr 115 #[.int .u8 (t : Int), .bool mu, .int .u8 (op : Int), .int .u64 (a : Int), .int .u64 0, .slice B 0 cc])
          have HSa := Lib.hid (HS.out.alloc (.cells #[.int .u8 (t : Int), .bool mu, .int .u8 (op : Int), .int .u64 (a : Int), .int .u64 0, .slice B 0 cc] 115))
          clear hV hz hz2 hv HET hE HP HCX
          obtain ⟨X, hX⟩ : ∃ X, X = wr.heap.size := ⟨_, rfl⟩
          rw [← hX] at HBk
          have HXe := Lib.hid hX
          clear hX
          go_wp2_with fail
          refine (HRt.out _).mono ?_
          rintro e w8 ⟨rfl, hS8⟩
          have HB8 := Lib.hid (HBk.out.step hS8 id)
          have HS8 := Lib.hid (HSa.out.trans hS8)
          rw [← HXe.out]
          clear hS8
          have x0 := HB8.out.cell 0
          have x1 := HB8.out.cell 1
          have x2 := HB8.out.cell 2
          have x3 := HB8.out.cell 3
          have x4 := HB8.out.cell 4
          have x5 := HB8.out.cell 5
          simp at x0 x1 x2 x3 x4 x5
          go_wp2_with fail
          refine (HPt.out _).mono ?_
          rintro e w9 ⟨rfl, hS9⟩
          have HS9 := Lib.hid (HS8.out.trans hS9)
          clear hS9 x0 x1 x2 x3 x4 x5
          go_wp2_with fail
          go_roundw
          case rel => exact ⟨j + 1, str (putsL U l (j + 1)), by omega, by rw [HE2.out]; rfl, rfl, by rw [Int.natCast_add]; rfl, fun _ => rfl, HS9⟩
          case measure => simp [intOf]; omega
        · have HRt : Hid (∀ w, Calls Try.prog 71 #[.agg (gloX t mu op a b B m cc)] w fun e w' => e = .returned (.int .i64 (glbF t op a b m : Nat)) ∧ Step (fun _ => False) w w') := fun w => grright_walk w t op a b m cc mu B h2 h1
          have HE2 : Hid (errL (l.take (j + 1)) = glbF t op a b m) := by rw [Hid, HET.out, if_pos hE]
          obtain ⟨r, hr⟩ : ∃ r : Int, r = (glbF t op a b m : Nat) := ⟨_, rfl⟩
          have hne : ¬ r = 0 := by omega
          have hnb : (r == 0) = false := by simp [hne]
          rw [← hr] at HRt
          have HRR : Hid (r = ((errL (l.take (j + 1)) : Nat) : Int) ∧ ¬ errL (l.take (j + 1)) = 0) := ⟨by rw [HE2.out]; exact hr, by rw [HE2.out]; exact hz⟩
          simp only [gloX] at HRt
          clear hr hz HET HE2 HP hE HCX
          go_wp2_with fail
          refine (HRt.out _).mono ?_
          rintro e w8 ⟨rfl, hS8⟩
          have HS8 := Lib.hid ((HS.out.alloc _).trans hS8)
          clear hS8
          go_wp2_with fail
          go_roundw
          case rel => exact ⟨j + 1, _, by omega, by rw [HRR.out.1], rfl, by rw [Int.natCast_add]; rfl, fun h => absurd h HRR.out.2, HS8⟩
          case measure => simp [intOf]; omega
      · obtain ⟨r, hr⟩ : ∃ r : Int, r = (errL (l.take j) : Nat) := ⟨_, rfl⟩
        have hne : ¬ r = 0 := by omega
        have hnb : (r == 0) = false := by simp [hne]
        have HE2 : Hid (errL (l.take (j + 1)) = errL (l.take j)) := by rw [Hid, HET.out, if_neg hE]
        have HRR : Hid (r = ((errL (l.take (j + 1)) : Nat) : Int) ∧ ¬ errL (l.take (j + 1)) = 0) := ⟨by rw [HE2.out]; exact hr, by rw [HE2.out]; exact hE⟩
        rw [← hr]
        clear hr HET HE2 HP hE HSt HCX
        go_wp2_with fail
        go_roundw
        case rel => exact ⟨j + 1, _, by omega, by rw [HRR.out.1], rfl, by rw [Int.natCast_add]; rfl, fun h => absurd h HRR.out.2, HS.out.alloc _⟩
        case measure => simp [intOf]; omega
    · obtain rfl : j = n := by omega
      have hLt : l.take j = l := by rw [HN.out]; exact List.take_length
      rw [hLt] at HSt ⊢
      clear hLt HS6
      obtain ⟨r, hr⟩ : ∃ r : Int, r = (errL l : Nat) := ⟨_, rfl⟩
      rw [← hr] at HPA ⊢
      have HRr := Lib.hid hr
      clear hr
      go_wp2_with fail
      refine (HPA.out _ HS.out).mono ?_
      rintro e w7 ⟨hS7, ⟨hne, rfl⟩ | ⟨h0, D7, c7, rfl, hown⟩⟩
      · have hne2 : ¬ r = 0 := by have := HRr.out; omega
        have hnb : (r == 0) = false := by simp [hne2]
        have hnb2 : (r != 0) = true := bne_iff_ne.2 hne2
        have hrr : (r == r) = true := by simp
        clear hne
        go_wp2_with fail
        go_ret
        exact ⟨rfl, HS.out.trans hS7⟩
      · have hr0 : r = 0 := by have := HRr.out; rw [h0] at this; exact this
        subst hr0
        have hsT := HSt.out h0
        subst hsT
        have HOK : Hid (∀ x ∈ l, x.wf ∧ x.err = 0) := fun x hx => ⟨HWF.out x hx, errL_all l h0 x hx⟩
        obtain ⟨T, hT⟩ : ∃ T, T = putsL U l j := ⟨_, rfl⟩
        rw [← hT] at hown hpl ⊢
        have HT : Hid (T = putsL (uintF j) l j) := by rw [Hid, hT, HU.out]
        have HO7 := Lib.hid hown
        have HS7 := Lib.hid (HS.out.trans hS7)
        clear h0 HPA HSt HS hS7 hown HRr hT HC
        have hrd := Reads.of_own HO7.out
        go_wp2_with fail
        refine (over_walk _ D7 c7 T _ hrd (by omega)).mono ?_
        rintro e w11 ⟨Y, S', D', c', rfl, hs11, hY, hS', ht11⟩
        have HB11 := Lib.hid ((own_step HO7.out ht11 (fun _ _ => id)).alloc (.cells #[.pointer (some ⟨Y, 0, none⟩)] 79))
        have HC11 := Lib.hid (hs11.alloc (.cells #[.pointer (some ⟨Y, 0, none⟩)] 79))
        have HP11 := Lib.hid (Blk.new w11 79 #[.pointer (some ⟨Y, 0, none⟩)])
        have HS11 := Lib.hid ((HS7.out.trans ht11).alloc (.cells #[.pointer (some ⟨Y, 0, none⟩)] 79))
        have hYl : Y < w11.heap.size := hs11.lt
        have hBY : ∀ q, Value.ownBlock (.slice D7 T.length c7) = some q → q < w7.heap.size := own_lt HO7.out
        have n12 : (w11.alloc (.cells #[.pointer (some ⟨Y, 0, none⟩)] 79)).heap.size = w11.heap.size + 1 := by simp
        have hn10 : w7.heap.size ≤ w11.heap.size := ht11.size
        have hww : w.heap.size ≤ w7.heap.size := HS7.out.size
        clear hs11 ht11 hrd
        have HV : Hid (Calls Try.prog 80 #[.func (.func 86) #[] #[.pointer (some ⟨w11.heap.size, 0, none⟩)]] (w11.alloc (.cells #[.pointer (some ⟨Y, 0, none⟩)] 79)) fun e w' => ∃ Dz cz, e = .returned (.tuple #[.slice Dz j cz, .agg #[.int .i64 0, .int .i64 0]]) ∧
            ∃ wa wb, Step (fun _ => False) (w11.alloc (.cells #[.pointer (some ⟨Y, 0, none⟩)] 79)) wa ∧ Step (fun i => i = Y) wa wb ∧ wb.ownsRow wa.heap.size 115 6 (.slice Dz j cz) j (gls (l.map Gl.back)) ∧ Step (fun k => (w11.alloc (.cells #[.pointer (some ⟨Y, 0, none⟩)] 79)).heap.size ≤ k ∧ k < wa.heap.size) wb w') :=
          gbvalue_ok 86 #[.pointer (some ⟨w11.heap.size, 0, none⟩)] _ (fun i => i = Y) (fun Dz cz wa w' => w'.ownsRow wa.heap.size 115 6 (.slice Dz j cz) j (gls (l.map Gl.back))) j (fun _ => rfl) (fun k hk => hk ▸ HC11.out.lt) (fun w' ht => gbclosure_ok w' Y w11.heap.size S' D' c' T (HC11.out.quiet ht) l j HN (by omega) HOK.out HT.out (HP11.out.step ht id))
        have hmf : ∀ (fn : Fn) (first cap : Array Value) (w : World), (Instr.makeFunc fn first cap).run Try.prog w = .ok (.func fn first cap) w := fun _ _ _ _ => rfl
        go_wp2_with fail
        refine HV.out.mono ?_
        rintro e w12 ⟨Dz, cz, rfl, wa, wb, g1, g2, gO, g5⟩
        rw [n12] at g5
        have hwa := g1.size
        rw [n12] at hwa
        have HG12 := Lib.hid (own_step gO g5 (fun q hq hk => by have := own_ge gO q hq; omega))
        have HB12 := Lib.hid (own_step (own_step (own_step HB11.out g1 (fun _ _ => id)) g2 (fun q hq e => by have := hBY q hq; omega)) g5 (fun q hq hk => by have := hBY q hq; omega))
        have HS12 : Hid (Step (fun _ => False) w w12) := ((HS11.out.trans g1).trans' g2 (fun i hi => .inr (by omega))).trans' g5 (fun i hi => .inr (by omega))
        clear g1 g2 gO g5 HC11 HP11 HB11 HS11 HV n12 hwa HO7 HS7
        have hcv : (convert 53 9 (.slice D7 T.length c7)).run Try.prog (w12.alloc (.cells #[.int .i64 0, .int .i64 0] 85)) = .ok (.string (str T)) (w12.alloc (.cells #[.int .i64 0, .int .i64 0] 85)) := conv_bytes (c := c7) (Reads.of_own (HB12.out.alloc _))
        have hE : ((str T).toList == (str T).toList) = true := beq_self_eq_true _
        have hE2 : ((str T).toList != (str T).toList) = false := by simp
        have n4 : ((j : Int) != (j : Int)) = false := by simp
        go_wp2_with fail
        have HG13 := Lib.hid (Reads.of_own (HG12.out.alloc (.cells #[.int .i64 0, .int .i64 0] 85)))
        have HS13 := Lib.hid (HS12.out.alloc (.cells #[.int .i64 0, .int .i64 0] 85))
        obtain ⟨W, hW⟩ : ∃ W, W = w12.alloc (.cells #[.int .i64 0, .int .i64 0] 85) := ⟨_, rfl⟩
        rw [← hW] at HG13 HS13 ⊢
        clear hW HG12 HS12 HB12 hcv hE hE2
        go_loopw [12] (fun iv wr => ∃ (i : Nat), i ≤ j ∧ iv = .int .i64 (i : Int) ∧ Hid (Step (fun _ => False) W wr)) (fun iv _ => j + 1 - (intOf iv).toNat)
        case atStart => exact ⟨0, by omega, rfl, Step.refl⟩
        case round =>
          obtain ⟨i, hi, rfl, HSi⟩ := hrel
          by_cases hlt : i < j
          · have g1 : (i : Int) < (j : Int) := by omega
            have i0 : (0 : Int) ≤ (i : Int) := by omega
            have hw1 := IntWalk.i64_in ((i : Int) + 1) (by omega)
            have hil : i < l.length := by rw [← HN.out]; exact hlt
            obtain ⟨bk, off, rfl, _, hbl, hc⟩ := reads_row Gl.cells 6 (by decide) Gl.six (HR.out.step (HS13.out.trans HSi.out) (fun _ _ => id)) (k := i) hil
            obtain ⟨bz, ofz, rfl, _, hbz, hcz⟩ := reads_row Gl.cells 6 (by decide) Gl.six (HG13.out.step HSi.out (fun _ _ => id)) (k := i) (by rw [List.length_map]; exact hil)
            rw [List.getElem_map] at hcz
            have hx := HOK.out l[i] (List.getElem_mem hil)
            obtain ⟨x, hxe⟩ : ∃ x, x = l[i] := ⟨_, rfl⟩
            rw [← hxe] at hx hc hcz
            clear hxe
            obtain ⟨t, op, a, b, m, cc, mu, B⟩ := x
            obtain ⟨_, hz⟩ := hx
            obtain ⟨hv, hz2⟩ := glb_zero hz
            obtain ⟨hb, hm, hok⟩ := crt_zero hz2
            simp only at hb hm
            subst hb hm
            have HSm := Lib.hid (fun w => grsame_walk w t op a 0 cc mu none B)
            simp only [gloX] at HSm
            have c0 := hc 0 _ rfl
            have c1 := hc 1 _ rfl
            have c2 := hc 2 _ rfl
            have c3 := hc 3 _ rfl
            have c4 := hc 4 _ rfl
            have c5 := hc 5 _ rfl
            have e0 := hcz 0 _ rfl
            have e1 := hcz 1 _ rfl
            have e2 := hcz 2 _ rfl
            have e3 := hcz 3 _ rfl
            have e4 := hcz 4 _ rfl
            have e5 := hcz 5 _ rfl
            simp only [Nat.add_zero, Gl.back] at c0 c1 c2 c3 c4 c5 e0 e1 e2 e3 e4 e5
            have d0 := cls_cell (F := fun _ => False) (w0 := wr) c0 id
            have d1 := cls_cell (F := fun _ => False) (w0 := wr) c1 id
            have d2 := cls_cell (F := fun _ => False) (w0 := wr) c2 id
            have d3 := cls_cell (F := fun _ => False) (w0 := wr) c3 id
            have d4 := cls_cell (F := fun _ => False) (w0 := wr) c4 id
            have d5 := cls_cell (F := fun _ => False) (w0 := wr) c5 id
            have f0 := cls_cell (F := fun _ => False) (w0 := wr) e0 id
            have f1 := cls_cell (F := fun _ => False) (w0 := wr) e1 id
            have f2 := cls_cell (F := fun _ => False) (w0 := wr) e2 id
            have f3 := cls_cell (F := fun _ => False) (w0 := wr) e3 id
            have f4 := cls_cell (F := fun _ => False) (w0 := wr) e4 id
            have f5 := cls_cell (F := fun _ => False) (w0 := wr) e5 id
            clear hc hcz hz hv hz2 hok c0 c1 c2 c3 c4 c5 e0 e1 e2 e3 e4 e5
            go_wp2_with fail
            refine Mix.wp_region_mix [8] [8] (Step (fun _ => False) wr) (by kernel_rfl) (by kernel_rfl) Step.refl.drew (fun hcls => ?_)
            refine Mix.wpL_reads 8 (by rfl) ?_
            simp only [List.take_succ_cons, List.drop_succ_cons, List.take_zero, List.drop_zero]
            repeat (go_big_quiet_step (fail))
            refine wpQuiet_nil ?_
            refine Mix.wpL_op (by rfl) (fun K hK => ?_)
            go_simp
            refine (HSm.out _).mono ?_
            rintro e wd ⟨rfl, hSd⟩
            have HSd := Lib.hid (Step.refl.drew.trans hSd)
            refine hK _ _ (fun hlt => Mix.cl HSd.out) ?_
            clear hK K hSd
            refine Mix.wpL_reads 1 (by rfl) ?_
            simp only [List.take_succ_cons, List.drop_succ_cons, List.take_zero, List.drop_zero]
            repeat (go_big_quiet_step (fail))
            refine wpQuiet_nil ?_
            refine Mix.wpL_end ?_
            go_wp2_with fail
            go_roundw
            case rel => exact ⟨i + 1, by omega, by rw [Int.natCast_add]; rfl, HSi.out.trans HSd.out⟩
            case measure => simp [intOf]; omega
          · obtain rfl : i = j := by omega
            go_wp2_with fail
            go_ret
            exact ⟨rfl, HS13.out.trans HSi.out⟩
end Go.Proofs.Ytfemeendkjcffaa
