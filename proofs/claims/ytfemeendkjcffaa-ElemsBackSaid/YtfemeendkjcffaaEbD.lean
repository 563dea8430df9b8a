/-
  elems: the law ElemsBack, its walk.
-/
import Derived.Test.YtfemeendkjcffaaEbC
set_option linter.unusedVariables false
set_option linter.unusedSimpArgs false
namespace Go.Proofs.Ytfemeendkjcffaa
open Go.RowKit

set_option maxRecDepth 100000 in
set_option maxHeartbeats 1600000 in
theorem rcount13_walk (w : World) (v : Nat) (h : v < 9223372036854775808) : Calls Try.prog 100 #[.int .i64 (v : Int)] w fun e w' => e = .returned (.string (str (uintF v))) ∧ Step (fun _ => False) w w' := by
  have HC := Lib.hid (rcount_walk w v h)
  obtain ⟨s, hs⟩ : ∃ s, s = str (uintF v) := ⟨_, rfl⟩
  rw [← hs] at HC ⊢
  clear hs
  go_enter Try.func100, Try.ntmps100
  go_wp2_with fail
  refine HC.out.mono ?_
  rintro e w5 ⟨rfl, hS⟩
  go_wp2_with fail
  go_ret
  exact ⟨rfl, hS⟩

set_option maxRecDepth 100000 in
set_option maxHeartbeats 12800000 in
theorem ebacks_ok (w : World) (n c : Nat) (A : Option Addr) (l : List El) (S : Nat → Prop) (HN : Hid (n = l.length)) (l1 : n ≤ 20) (hwf : ∀ x ∈ l, x.wf) (hin : ∀ x ∈ l, x.L.length = x.m ∧ (∀ y ∈ x.L, y < 4294967296) ∧ Reads w S 1 x.FA x.m (u32s x.L)) (hr : Reads w S 5 A n (els l)) :
    Calls Try.prog 17 #[.slice A n c] w fun e w' => e = .returned (.bool true) ∧ Step (fun _ => False) w w' := by
  have HC : Hid (∀ w, Calls Try.prog 100 #[.int .i64 (n : Int)] w fun e w' => e = .returned (.string (str (uintF n))) ∧ Step (fun _ => False) w w') := fun w => rcount13_walk w n (by omega)
  have HPA : Hid ((∀ x ∈ l, x.L.length ≤ 100) → ∀ w', Step (fun _ => False) w w' → Calls Try.prog 101 #[.slice A n c] w' fun e w'' => Step (fun _ => False) w' w'' ∧ ((¬ errE l = 0 ∧ e = .returned (.tuple #[.slice none 0 0, .int .i64 (errE l : Nat)])) ∨
      (errE l = 0 ∧ ∃ D c', e = .returned (.tuple #[.slice D (putsE (uintF n) l n).length c', .int .i64 0]) ∧ w''.ownsRow w'.heap.size 5 1 (.slice D (putsE (uintF n) l n).length c') (putsE (uintF n) l n).length (u8s (putsE (uintF n) l n))))) := fun hsm w' hs => eputall_walk w' n c A l S HN (by omega) hwf hsm (fun x hx => ⟨(hin x hx).1, (hin x hx).2.1, (hin x hx).2.2.step hs (fun _ _ => id)⟩) (hr.step hs (fun _ _ => id))
  have hlU := num_len n
  have HR := Lib.hid hr
  have HWF := Lib.hid hwf
  have HIN := Lib.hid hin
  obtain ⟨U, hU⟩ : ∃ U, U = uintF n := ⟨_, rfl⟩
  rw [← hU] at hlU HC HPA
  have HU := Lib.hid hU
  clear hU hr hwf hin
  have g20 : ¬ (20 : Int) < (n : Int) := by omega
  go_enter Try.func17, Try.ntmps17
  go_wp2_with fail
  refine (awake13 _).mono ?_
  rintro e w5 ⟨rfl, hS5⟩
  have HS5 := Lib.hid hS5
  clear hS5
  go_wp2_with fail
  refine (HC.out _).mono ?_
  rintro e w6 ⟨rfl, hS6⟩
  have HS6 := Lib.hid (HS5.out.trans hS6)
  clear hS6 HS5
  go_wp2_with fail
  go_loopw [3, 4, 5] (fun cv sv iv wr => ∃ (j : Nat) (s : ByteArray), j ≤ n ∧ cv = .int .i64 ((errE (l.take j) : Nat) : Int) ∧ sv = .string s ∧ iv = .int .i64 (j : Int) ∧ Hid (errE (l.take j) = 0 → s = str (putsE U l j)) ∧ Hid (∀ x ∈ l.take j, x.L.length ≤ 100) ∧ Hid (Step (fun _ => False) w wr)) (fun _ _ iv _ => n + 1 - (intOf iv).toNat)
  case atStart => exact ⟨0, str U, by omega, rfl, rfl, rfl, fun _ => by rw [putsE_zero], (fun x hx => by rw [List.take_zero] at hx; cases hx), HS6⟩
  case round =>
    obtain ⟨j, s, hj, rfl, rfl, rfl, HSt, HSm, HS⟩ := hrel
    have hpl := putsE_len U l j (by rw [← HN.out]; exact hj) HSm.out
    by_cases hlt : j < n
    · have g1 : (j : Int) < (n : Int) := by omega
      have i0 : (0 : Int) ≤ (j : Int) := by omega
      have hw1 := IntWalk.i64_in ((j : Int) + 1) (by omega)
      have hjl : j < l.length := by rw [← HN.out]; exact hlt
      obtain ⟨bk, off, rfl, _, hbl, hc⟩ := reads_row El.cells 5 (by decide) El.six (HR.out.step HS.out (fun _ _ => id)) (k := j) hjl
      have hx := HWF.out l[j] (List.getElem_mem hjl)
      have HP := Lib.hid (putsE_succ U l j hjl)
      have HET := Lib.hid (errE_take l j hjl)
      have HSm2 : Hid (l[j].L.length ≤ 100 → ∀ x ∈ l.take (j + 1), x.L.length ≤ 100) := fun h x hx => by
        rw [List.take_succ_eq_append_getElem hjl] at hx
        rcases List.mem_append.1 hx with hx | hx
        · exact HSm.out x hx
        · rw [List.mem_singleton.1 hx]; exact h
      have hin := HIN.out l[j] (List.getElem_mem hjl)
      obtain ⟨x, hxe⟩ : ∃ x, x = l[j] := ⟨_, rfl⟩
      rw [← hxe] at hx hc hin HP HET HSm2
      clear hxe
      obtain ⟨op, a, b, m, cc, fm, fc, B, FA, L⟩ := x
      have c0 := hc 0 _ rfl
      have c1 := hc 1 _ rfl
      have c2 := hc 2 _ rfl
      have c3 := hc 3 _ rfl
      have c4 := hc 4 _ rfl
      simp only [Nat.add_zero] at c0
      obtain ⟨h1, h2⟩ := hx
      simp only [El.err, El.put] at HP HET
      simp only at h1 h2 hin c0 c1 c2 c3 c4 HSm2
      obtain ⟨hin1, hin2, hin3⟩ := hin
      have HRI := Lib.hid hin3
      have HLB := Lib.hid hin2
      have HFM : Hid (fm = L.length) := hin1.symm
      clear hc hin1 hin2 hin3
      by_cases hq : (100 : Int) < (fm : Int)
      · have hq' : decide ((100 : Int) < (fm : Int)) = true := decide_eq_true hq
        go_wp2_with fail
        go_ret
        exact ⟨rfl, HS.out.alloc _⟩
      have hq' : decide ((100 : Int) < (fm : Int)) = false := decide_eq_false hq
      by_cases hm : (100 : Int) < (m : Int)
      · have hm' : decide ((100 : Int) < (m : Int)) = true := decide_eq_true hm
        go_wp2_with fail
        go_ret
        exact ⟨rfl, HS.out.alloc _⟩
      have hm' : decide ((100 : Int) < (m : Int)) = false := decide_eq_false hm
      have hds : L.length ≤ 100 := by have := HFM.out; omega
      have HSM := Lib.hid (HSm2.out hds)
      clear HSm2
      by_cases hE : errE (l.take j) = 0
      · have hs := HSt.out hE
        subst hs
        have hcv : ((errE (l.take j) : Nat) : Int) = 0 := by rw [hE]; rfl
        rw [hcv]
        clear hcv HSt
        by_cases hz : crtF op a b m = 0
        · obtain ⟨rfl, rfl, hok⟩ := crt_zero hz
          have HE2 : Hid (errE (l.take (j + 1)) = 0) := by rw [Hid, HET.out, if_pos hE]; exact hz
          have HRt : Hid (∀ w, Calls Try.prog 88 #[.agg (elmX op a 0 B 0 cc (.slice FA fm fc))] w fun e w' => e = .returned (.int .i64 0) ∧ Step (fun _ => False) w w') := fun w => by
            have := erright_walk w op a 0 0 cc fm fc B FA h1 (by omega)
            rw [hz] at this
            exact this
          have HPt := Lib.hid (fun w' (h' : Step (fun _ => False) w w') => erput_walk w' op a cc fm fc B FA L S hok h2 HFM (by omega) HLB.out (HRI.out.step h' (fun _ _ => id)))
          have hgl := eput_len op a L hds
          obtain ⟨V, hV⟩ : ∃ V, V = eputL op a L := ⟨_, rfl⟩
          rw [← hV] at HPt hgl HP
          simp only [elmX] at HPt HRt
          have hz2' := str_size V
          have hz3 := str_size (putsE U l j)
          have hap : str (putsE U l j) ++ str V = str (putsE U l (j + 1)) := by rw [HP.out]; exact str_append _ _
          have HBk := Lib.hid (Blk.new wr 136 #[.int .u8 (op : Int), .int .u64 (a : Int), .int .u64 0, .slice B 0 cc, .slice FA fm fc])
          have HSa := Lib.hid (HS.out.alloc (.cells #[.int .u8 (op : Int), .int .u64 (a : Int), .int .u64 0, .slice B 0 cc, .slice FA fm fc] 136))
          clear hV hz HET hE HP
          obtain ⟨X, hX⟩ : ∃ X, X = wr.heap.size := ⟨_, rfl⟩
          rw [← hX] at HBk
          have HXe := Lib.hid hX
          clear hX
          go_wp2_with fail
          refine (HRt.out _).mono ?_
          rintro e w8 ⟨rfl, hS8⟩
          have HB8 := Lib.hid (HBk.out.step hS8 id)
          have HS8 := Lib.hid (HSa.out.trans hS8)
          rw [← HXe.out]
          clear hS8
          have x0 := HB8.out.cell 0
          have x1 := HB8.out.cell 1
          have x2 := HB8.out.cell 2
          have x3 := HB8.out.cell 3
          have x4 := HB8.out.cell 4
          simp at x0 x1 x2 x3 x4
          go_wp2_with fail
          refine (HPt.out _ HS8.out).mono ?_
          rintro e w9 ⟨rfl, hS9⟩
          have HS9 := Lib.hid (HS8.out.trans hS9)
          clear hS9 x0 x1 x2 x3 x4
          go_wp2_with fail
          go_roundw
          case rel => exact ⟨j + 1, str (putsE U l (j + 1)), by omega, by rw [HE2.out]; rfl, rfl, by rw [Int.natCast_add]; rfl, fun _ => rfl, HSM, HS9⟩
          case measure => simp [intOf]; omega
        · have HRt : Hid (∀ w, Calls Try.prog 88 #[.agg (elmX op a b B m cc (.slice FA fm fc))] w fun e w' => e = .returned (.int .i64 (crtF op a b m : Nat)) ∧ Step (fun _ => False) w w') := fun w => erright_walk w op a b m cc fm fc B FA h1 (by omega)
          have HE2 : Hid (errE (l.take (j + 1)) = crtF op a b m) := by rw [Hid, HET.out, if_pos hE]
          obtain ⟨r, hr⟩ : ∃ r : Int, r = (crtF op a b m : Nat) := ⟨_, rfl⟩
          have hne : ¬ r = 0 := by omega
          have hnb : (r == 0) = false := by simp [hne]
          rw [← hr] at HRt
          have HRR : Hid (r = ((errE (l.take (j + 1)) : Nat) : Int) ∧ ¬ errE (l.take (j + 1)) = 0) := ⟨by rw [HE2.out]; exact hr, by rw [HE2.out]; exact hz⟩
          simp only [elmX] at HRt
          clear hr hz HET HE2 HP hE
          go_wp2_with fail
          refine (HRt.out _).mono ?_
          rintro e w8 ⟨rfl, hS8⟩
          have HS8 := Lib.hid ((HS.out.alloc _).trans hS8)
          clear hS8
          go_wp2_with fail
          go_roundw
          case rel => exact ⟨j + 1, _, by omega, by rw [HRR.out.1], rfl, by rw [Int.natCast_add]; rfl, fun h => absurd h HRR.out.2, HSM, HS8⟩
          case measure => simp [intOf]; omega
      · obtain ⟨r, hr⟩ : ∃ r : Int, r = (errE (l.take j) : Nat) := ⟨_, rfl⟩
        have hne : ¬ r = 0 := by omega
        have hnb : (r == 0) = false := by simp [hne]
        have HE2 : Hid (errE (l.take (j + 1)) = errE (l.take j)) := by rw [Hid, HET.out, if_neg hE]
        have HRR : Hid (r = ((errE (l.take (j + 1)) : Nat) : Int) ∧ ¬ errE (l.take (j + 1)) = 0) := ⟨by rw [HE2.out]; exact hr, by rw [HE2.out]; exact hE⟩
        rw [← hr]
        clear hr HET HE2 HP hE HSt
        go_wp2_with fail
        go_roundw
        case rel => exact ⟨j + 1, _, by omega, by rw [HRR.out.1], rfl, by rw [Int.natCast_add]; rfl, fun h => absurd h HRR.out.2, HSM, HS.out.alloc _⟩
        case measure => simp [intOf]; omega
    · obtain rfl : j = n := by omega
      have hLt : l.take j = l := by rw [HN.out]; exact List.take_length
      rw [hLt] at HSt HSm ⊢
      clear hLt HS6
      obtain ⟨r, hr⟩ : ∃ r : Int, r = (errE l : Nat) := ⟨_, rfl⟩
      rw [← hr] at HPA ⊢
      have HRr := Lib.hid hr
      clear hr
      go_wp2_with fail
      refine (HPA.out HSm.out _ HS.out).mono ?_
      rintro e w7 ⟨hS7, ⟨hne, rfl⟩ | ⟨h0, D7, c7, rfl, hown⟩⟩
      · have hne2 : ¬ r = 0 := by have := HRr.out; omega
        have hnb : (r == 0) = false := by simp [hne2]
        have hnb2 : (r != 0) = true := bne_iff_ne.2 hne2
        have hrr : (r == r) = true := by simp
        clear hne
        go_wp2_with fail
        go_ret
        exact ⟨rfl, HS.out.trans hS7⟩
      · have hr0 : r = 0 := by have := HRr.out; rw [h0] at this; exact this
        subst hr0
        have hsT := HSt.out h0
        subst hsT
        have HOK : Hid (∀ x ∈ l, x.wf ∧ x.err = 0) := fun x hx => ⟨HWF.out x hx, errE_all l h0 x hx⟩
        obtain ⟨T, hT⟩ : ∃ T, T = putsE U l j := ⟨_, rfl⟩
        rw [← hT] at hown hpl ⊢
        have HT : Hid (T = putsE (uintF j) l j) := by rw [Hid, hT, HU.out]
        have HO7 := Lib.hid hown
        have HS7 := Lib.hid (HS.out.trans hS7)
        clear h0 HPA HSt HS hS7 hown HRr hT HC
        have hrd := Reads.of_own HO7.out
        go_wp2_with fail
        refine (over_walk _ D7 c7 T _ hrd (by omega)).mono ?_
        rintro e w11 ⟨Y, S', D', c', rfl, hs11, hY, hS', ht11⟩
        have HB11 := Lib.hid ((own_step HO7.out ht11 (fun _ _ => id)).alloc (.cells #[.pointer (some ⟨Y, 0, none⟩)] 79))
        have HC11 := Lib.hid (hs11.alloc (.cells #[.pointer (some ⟨Y, 0, none⟩)] 79))
        have HP11 := Lib.hid (Blk.new w11 79 #[.pointer (some ⟨Y, 0, none⟩)])
        have HS11 := Lib.hid ((HS7.out.trans ht11).alloc (.cells #[.pointer (some ⟨Y, 0, none⟩)] 79))
        have hYl : Y < w11.heap.size := hs11.lt
        have hBY : ∀ q, Value.ownBlock (.slice D7 T.length c7) = some q → q < w7.heap.size := own_lt HO7.out
        have n12 : (w11.alloc (.cells #[.pointer (some ⟨Y, 0, none⟩)] 79)).heap.size = w11.heap.size + 1 := by simp
        have hn10 : w7.heap.size ≤ w11.heap.size := ht11.size
        have hww : w.heap.size ≤ w7.heap.size := HS7.out.size
        clear hs11 ht11 hrd
        have HV : Hid (Calls Try.prog 96 #[.func (.func 102) #[] #[.pointer (some ⟨w11.heap.size, 0, none⟩)]] (w11.alloc (.cells #[.pointer (some ⟨Y, 0, none⟩)] 79)) fun e w' => ∃ Dz cz, e = .returned (.tuple #[.slice Dz j cz, .agg #[.int .i64 0, .int .i64 0]]) ∧
            ∃ wa wb, Step (fun _ => False) (w11.alloc (.cells #[.pointer (some ⟨Y, 0, none⟩)] 79)) wa ∧ Step (fun i => i = Y) wa wb ∧ (∃ lb, wb.ownsRow wa.heap.size 136 5 (.slice Dz j cz) j (els lb) ∧ Inn wb wa.heap.size l lb) ∧ Step (fun k => (w11.alloc (.cells #[.pointer (some ⟨Y, 0, none⟩)] 79)).heap.size ≤ k ∧ k < wa.heap.size) wb w') :=
          ebvalue_ok 102 #[.pointer (some ⟨w11.heap.size, 0, none⟩)] _ (fun i => i = Y) (fun Dz cz wa w' => ∃ lb, w'.ownsRow wa.heap.size 136 5 (.slice Dz j cz) j (els lb) ∧ Inn w' wa.heap.size l lb) j (fun _ => rfl) (fun k hk => hk ▸ HC11.out.lt) (fun w' ht => ebclosure_ok w' Y w11.heap.size S' D' c' T (HC11.out.quiet ht) l j HN (by omega) HOK.out HSm.out (fun x hx => ⟨(HIN.out x hx).1, (HIN.out x hx).2.1⟩) HT.out (HP11.out.step ht id))
        have hmf : ∀ (fn : Fn) (first cap : Array Value) (w : World), (Instr.makeFunc fn first cap).run Try.prog w = .ok (.func fn first cap) w := fun _ _ _ _ => rfl
        go_wp2_with fail
        refine HV.out.mono ?_
        rintro e w12 ⟨Dz, cz, rfl, wa, wb, g1, g2, ⟨lb, gO, gI⟩, g5⟩
        rw [n12] at g5
        have hwa := g1.size
        rw [n12] at hwa
        have HG12 := Lib.hid (own_step gO g5 (fun q hq hk => by have := own_ge gO q hq; omega))
        have HI12 := Lib.hid (gI.turn (fun D n c xs h => own_step h g5 (fun q hq hk => by have := own_ge h q hq; omega)))
        have HB12 := Lib.hid (own_step (own_step (own_step HB11.out g1 (fun _ _ => id)) g2 (fun q hq e => by have := hBY q hq; omega)) g5 (fun q hq hk => by have := hBY q hq; omega))
        have HS12 : Hid (Step (fun _ => False) w w12) := ((HS11.out.trans g1).trans' g2 (fun i hi => .inr (by omega))).trans' g5 (fun i hi => .inr (by omega))
        clear g1 g2 gO gI g5 HC11 HP11 HB11 HS11 HV n12 hwa HO7 HS7
        have hcv : (convert 53 9 (.slice D7 T.length c7)).run Try.prog (w12.alloc (.cells #[.int .i64 0, .int .i64 0] 85)) = .ok (.string (str T)) (w12.alloc (.cells #[.int .i64 0, .int .i64 0] 85)) := conv_bytes (c := c7) (Reads.of_own (HB12.out.alloc _))
        have hE : ((str T).toList == (str T).toList) = true := beq_self_eq_true _
        have hE2 : ((str T).toList != (str T).toList) = false := by simp
        have n4 : ((j : Int) != (j : Int)) = false := by simp
        go_wp2_with fail
        have HG13 := Lib.hid (Reads.of_own (HG12.out.alloc (.cells #[.int .i64 0, .int .i64 0] 85)))
        have HI13 := Lib.hid (HI12.out.turn (w' := w12.alloc (.cells #[.int .i64 0, .int .i64 0] 85)) (fun D n c xs h => h.alloc _))
        have HS13 := Lib.hid (HS12.out.alloc (.cells #[.int .i64 0, .int .i64 0] 85))
        obtain ⟨W, hW⟩ : ∃ W, W = w12.alloc (.cells #[.int .i64 0, .int .i64 0] 85) := ⟨_, rfl⟩
        rw [← hW] at HG13 HI13 HS13 ⊢
        clear hW HG12 HI12 HS12 HB12 hcv hE hE2
        go_loopw [12] (fun iv wr => ∃ (i : Nat), i ≤ j ∧ iv = .int .i64 (i : Int) ∧ Hid (Step (fun _ => False) W wr)) (fun iv _ => j + 1 - (intOf iv).toNat)
        case atStart => exact ⟨0, by omega, rfl, Step.refl⟩
        case round =>
          obtain ⟨i, hi, rfl, HSi⟩ := hrel
          by_cases hlt : i < j
          · have g1 : (i : Int) < (j : Int) := by omega
            have i0 : (0 : Int) ≤ (i : Int) := by omega
            have hw1 := IntWalk.i64_in ((i : Int) + 1) (by omega)
            have hil : i < l.length := by rw [← HN.out]; exact hlt
            obtain ⟨bk, off, rfl, _, hbl, hc⟩ := reads_row El.cells 5 (by decide) El.six (HR.out.step (HS13.out.trans HSi.out) (fun _ _ => id)) (k := i) hil
            obtain ⟨bz, ofz, rfl, _, hbz, hcz⟩ := reads_row El.cells 5 (by decide) El.six (HG13.out.step HSi.out (fun _ _ => id)) (k := i) (by rw [HI13.out.1]; exact hil)
            have hI := HI13.out.2 i _ _ (List.getElem?_eq_getElem hil) (List.getElem?_eq_getElem (by rw [HI13.out.1]; exact hil))
            have hsx := HSm.out l[i] (List.getElem_mem hil)
            have hin := HIN.out l[i] (List.getElem_mem hil)
            generalize lb[i]'(by rw [HI13.out.1]; exact hil) = y at hI hcz
            have hx := HOK.out l[i] (List.getElem_mem hil)
            obtain ⟨x, hxe⟩ : ∃ x, x = l[i] := ⟨_, rfl⟩
            rw [← hxe] at hx hc hI hsx hin
            clear hxe
            obtain ⟨op, a, b, m, cc, fm, fc, B, FA, L⟩ := x
            obtain ⟨_, hz⟩ := hx
            obtain ⟨hb, hm, hok⟩ := crt_zero hz
            simp only at hb hm hsx hin
            subst hb hm
            obtain ⟨hy, hyo⟩ := hI
            obtain ⟨DI, hDI⟩ : ∃ D, D = y.FA := ⟨_, rfl⟩
            obtain ⟨fI, hfI⟩ : ∃ f, f = y.fc := ⟨_, rfl⟩
            rw [← hDI, ← hfI] at hy hyo
            clear hDI hfI
            subst hy
            obtain ⟨hin1, hin2, hin3⟩ := hin
            have hr1 := (Reads.of_own hyo).step HSi.out (fun _ _ => id)
            have hr2 := hin3.step (HS13.out.trans HSi.out) (fun _ _ => id)
            have HSm := Lib.hid (fun w' (h' : Step (fun _ => False) wr w') => ersame_walk w' op a 0 cc fm fI fc none B DI FA L _ S hin1.symm (by omega) (hr1.step h' (fun _ _ => id)) (hr2.step h' (fun _ _ => id)))
            simp only [elmX] at HSm
            clear hyo hin1 hin2 hin3 hr1 hr2 hsx
            have c0 := hc 0 _ rfl
            have c1 := hc 1 _ rfl
            have c2 := hc 2 _ rfl
            have c3 := hc 3 _ rfl
            have c4 := hc 4 _ rfl
            have e0 := hcz 0 _ rfl
            have e1 := hcz 1 _ rfl
            have e2 := hcz 2 _ rfl
            have e3 := hcz 3 _ rfl
            have e4 := hcz 4 _ rfl
            simp only [Nat.add_zero, El.back] at c0 c1 c2 c3 c4 e0 e1 e2 e3 e4
            have d0 := cls_cell (F := fun _ => False) (w0 := wr) c0 id
            have d1 := cls_cell (F := fun _ => False) (w0 := wr) c1 id
            have d2 := cls_cell (F := fun _ => False) (w0 := wr) c2 id
            have d3 := cls_cell (F := fun _ => False) (w0 := wr) c3 id
            have d4 := cls_cell (F := fun _ => False) (w0 := wr) c4 id
            have f0 := cls_cell (F := fun _ => False) (w0 := wr) e0 id
            have f1 := cls_cell (F := fun _ => False) (w0 := wr) e1 id
            have f2 := cls_cell (F := fun _ => False) (w0 := wr) e2 id
            have f3 := cls_cell (F := fun _ => False) (w0 := wr) e3 id
            have f4 := cls_cell (F := fun _ => False) (w0 := wr) e4 id
            clear hc hcz hz hok c0 c1 c2 c3 c4 e0 e1 e2 e3 e4
            go_wp2_with fail
            refine Mix.wp_region_mix [8] [8] (Step (fun _ => False) wr) (by kernel_rfl) (by kernel_rfl) Step.refl.drew (fun hcls => ?_)
            refine Mix.wpL_reads 8 (by rfl) ?_
            simp only [List.take_succ_cons, List.drop_succ_cons, List.take_zero, List.drop_zero]
            repeat (go_big_quiet_step (fail))
            refine wpQuiet_nil ?_
            refine Mix.wpL_op (by rfl) (fun K hK => ?_)
            go_simp
            refine (HSm.out _ Step.refl.drew).mono ?_
            rintro e wd ⟨rfl, hSd⟩
            have HSd := Lib.hid (Step.refl.drew.trans hSd)
            refine hK _ _ (fun hlt => Mix.cl HSd.out) ?_
            clear hK K hSd
            refine Mix.wpL_reads 1 (by rfl) ?_
            simp only [List.take_succ_cons, List.drop_succ_cons, List.take_zero, List.drop_zero]
            repeat (go_big_quiet_step (fail))
            refine wpQuiet_nil ?_
            refine Mix.wpL_end ?_
            go_wp2_with fail
            go_roundw
            case rel => exact ⟨i + 1, by omega, by rw [Int.natCast_add]; rfl, HSi.out.trans HSd.out⟩
            case measure => simp [intOf]; omega
          · obtain rfl : i = j := by omega
            go_wp2_with fail
            go_ret
            exact ⟨rfl, HS13.out.trans HSi.out⟩
end Go.Proofs.Ytfemeendkjcffaa
