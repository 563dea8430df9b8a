/-
  bodies: the law BodiesBack, its walk.
-/
import Derived.Test.YtfemeendkjcffaaBrB
import Derived.Test.YtfemeendkjcffaaBoD
set_option linter.unusedVariables false
set_option linter.unusedSimpArgs false
namespace Go.Proofs.Ytfemeendkjcffaa
open Go.RowKit

set_option maxRecDepth 100000 in
set_option maxHeartbeats 1600000 in
theorem rcount14_walk (w : World) (v : Nat) (h : v < 9223372036854775808) : Calls Try.prog 129 #[.int .i64 (v : Int)] w fun e w' => e = .returned (.string (str (uintF v))) ∧ Step (fun _ => False) w w' := by
  have HC := Lib.hid (rcount_walk w v h)
  obtain ⟨s, hs⟩ : ∃ s, s = str (uintF v) := ⟨_, rfl⟩
  rw [← hs] at HC ⊢
  clear hs
  go_enter Try.func129, Try.ntmps129
  go_wp2_with fail
  refine HC.out.mono ?_
  rintro e w5 ⟨rfl, hS⟩
  go_wp2_with fail
  go_ret
  exact ⟨rfl, hS⟩

set_option maxRecDepth 100000 in
set_option maxHeartbeats 12800000 in
theorem cbacks_ok (w : World) (n c : Nat) (A : Option Addr) (l : List Cd) (S : Nat → Prop) (HN : Hid (n = l.length)) (l1 : n ≤ 20) (hwf : ∀ x ∈ l, x.wf) (hrd : ∀ x ∈ l, x.rd w S) (hr : Reads w S 2 A n (cds l)) :
    Calls Try.prog 22 #[.slice A n c] w fun e w' => e = .returned (.bool true) ∧ Step (fun _ => False) w w' := by
  have HC : Hid (∀ w, Calls Try.prog 129 #[.int .i64 (n : Int)] w fun e w' => e = .returned (.string (str (uintF n))) ∧ Step (fun _ => False) w w') := fun w => rcount14_walk w n (by omega)
  have HPA : Hid ((∀ x ∈ l, x.sm) → ∀ w', Step (fun _ => False) w w' → Calls Try.prog 130 #[.slice A n c] w' fun e w'' => Step (fun _ => False) w' w'' ∧ ((¬ ferr Cd.err l = 0 ∧ e = .returned (.tuple #[.slice none 0 0, .int .i64 (ferr Cd.err l : Nat)])) ∨
      (ferr Cd.err l = 0 ∧ ∃ D c', e = .returned (.tuple #[.slice D (fput Cd.put (uintF n) l n).length c', .int .i64 0]) ∧ w''.ownsRow w'.heap.size 5 1 (.slice D (fput Cd.put (uintF n) l n).length c') (fput Cd.put (uintF n) l n).length (u8s (fput Cd.put (uintF n) l n))))) := fun hsm w' hs => cputall_walk w' n c A l S HN (by omega) hwf hsm (fun x hx => Cd.rd_step (hrd x hx) hs) (hr.step hs (fun _ _ => id))
  have hlU := num_len n
  have HR := Lib.hid hr
  have HWF := Lib.hid hwf
  have HRD := Lib.hid hrd
  obtain ⟨U, hU⟩ : ∃ U, U = uintF n := ⟨_, rfl⟩
  rw [← hU] at hlU HC HPA
  have HU := Lib.hid hU
  clear hU hr hwf hrd
  have g20 : ¬ (20 : Int) < (n : Int) := by omega
  go_enter Try.func22, Try.ntmps22
  go_wp2_with fail
  refine (awake14 _).mono ?_
  rintro e w5 ⟨rfl, hS5⟩
  have HS5 := Lib.hid hS5
  clear hS5
  go_wp2_with fail
  refine (HC.out _).mono ?_
  rintro e w6 ⟨rfl, hS6⟩
  have HS6 := Lib.hid (HS5.out.trans hS6)
  clear hS6 HS5
  go_wp2_with fail
  go_loopw [3, 4, 5] (fun cv sv iv wr => ∃ (j : Nat) (s : ByteArray), j ≤ n ∧ cv = .int .i64 ((ferr Cd.err (l.take j) : Nat) : Int) ∧ sv = .string s ∧ iv = .int .i64 (j : Int) ∧ Hid (ferr Cd.err (l.take j) = 0 → s = str (fput Cd.put U l j)) ∧ Hid (∀ x ∈ l.take j, x.sm) ∧ Hid (Step (fun _ => False) w wr)) (fun _ _ iv _ => n + 1 - (intOf iv).toNat)
  case atStart => exact ⟨0, str U, by omega, rfl, rfl, rfl, fun _ => by rw [fput_zero], (fun x hx => by rw [List.take_zero] at hx; cases hx), HS6⟩
  case round =>
    obtain ⟨j, s, hj, rfl, rfl, rfl, HSt, HSm, HS⟩ := hrel
    have hpl := fput_len Cd.put U l 33000 j (by rw [← HN.out]; exact hj) (fun x hx => cdput_len x (HWF.out x (List.mem_of_mem_take hx)) (HSm.out x hx))
    by_cases hlt : j < n
    · have g1 : (j : Int) < (n : Int) := by omega
      have i0 : (0 : Int) ≤ (j : Int) := by omega
      have hw1 := IntWalk.i64_in ((j : Int) + 1) (by omega)
      have hjl : j < l.length := by rw [← HN.out]; exact hlt
      obtain ⟨bk, off, rfl, _, hbl, hc⟩ := reads_row Cd.cells 2 (by decide) Cd.two (HR.out.step HS.out (fun _ _ => id)) (k := j) hjl
      have hx := HWF.out l[j] (List.getElem_mem hjl)
      have hxr := HRD.out l[j] (List.getElem_mem hjl)
      have HP := Lib.hid (fput_succ Cd.put U l j hjl)
      have HET := Lib.hid (ferr_take Cd.err l j hjl)
      have HSm2 : Hid (l[j].sm → ∀ x ∈ l.take (j + 1), x.sm) := fun h x hx => by
        rw [List.take_succ_eq_append_getElem hjl] at hx
        rcases List.mem_append.1 hx with hx | hx
        · exact HSm.out x hx
        · rw [List.mem_singleton.1 hx]; exact h
      have hgl := cdput_len l[j] hx
      obtain ⟨x, hxe⟩ : ∃ x, x = l[j] := ⟨_, rfl⟩
      rw [← hxe] at hx hxr hc HP HET HSm2 hgl
      clear hxe
      obtain ⟨LA, lc, lo, IA, m, cc, is⟩ := x
      obtain ⟨k1, k2, k3⟩ := hx
      simp only at k1 k2 k3
      simp only [Cd.rd] at hxr
      simp only [Cd.err, Cd.put] at HP HET hgl
      simp only [Cd.sm] at HSm2 hgl
      have c0 := hc 0 _ rfl
      have c1 := hc 1 _ rfl
      simp only [Nat.add_zero] at c0
      simp only at c0 c1
      have HRx := Lib.hid hxr
      have HK1 : Hid (m = is.length) := k1.symm
      have HK2 := Lib.hid k2
      have hwf' : ∀ y ∈ is, y.wf := fun y hy => (k3 y hy).1
      have hin' : ∀ w', Step (fun _ => False) w w' → ∀ y ∈ is, y.L.length = y.n ∧ (∀ z ∈ y.L, z < 4294967296) ∧ Reads w' S 1 y.A y.n (u32s y.L) := fun w' h y hy => ⟨(k3 y hy).2.1, (k3 y hy).2.2, (HRx.out.2.2 y hy).step h (fun _ _ => id)⟩
      have HWf := Lib.hid hwf'
      have HIn := Lib.hid hin'
      have HBk := Lib.hid (Blk.new wr 176 #[.slice LA lo.length lc, .slice IA m cc])
      have HSa := Lib.hid (HS.out.alloc (.cells #[.slice LA lo.length lc, .slice IA m cc] 176))
      clear hc k1 k2 k3 hxr hwf' hin'
      by_cases h60 : (60 : Int) < (m : Int)
      · have h60' : decide ((60 : Int) < (m : Int)) = true := decide_eq_true h60
        go_wp2_with fail
        go_ret
        exact ⟨rfl, HSa.out⟩
      have h60' : decide ((60 : Int) < (m : Int)) = false := decide_eq_false h60
      by_cases h50 : (50 : Int) < (lo.length : Int)
      · have h50' : decide ((50 : Int) < (lo.length : Int)) = true := decide_eq_true h50
        go_wp2_with fail
        go_ret
        exact ⟨rfl, HSa.out⟩
      have h50' : decide ((50 : Int) < (lo.length : Int)) = false := decide_eq_false h50
      have HMu : Hid (∀ w', Step (fun _ => False) w w' → Calls Try.prog 119 #[.agg #[.slice LA lo.length lc, .slice IA m cc]] w' fun e w'' => (∃ b, e = .returned (.bool b) ∧ (b = false → ∀ x ∈ is, x.L.length ≤ 50)) ∧ Step (fun _ => False) w' w'') := fun w' h =>
        (much_walk w' LA IA lo.length lc m cc is S HK1 (by omega) (HRx.out.1.step h (fun _ _ => id))).mono fun e w'' ⟨⟨b, he, hb2⟩, hS⟩ => ⟨⟨b, he, fun h2 x hx => by have h3 := hb2 h2 x hx; have h4 := (HIn.out w Step.refl x hx).1; omega⟩, hS⟩
      have HRr : Hid (∀ w', Step (fun _ => False) w w' → Calls Try.prog 120 #[.agg #[.slice LA lo.length lc, .slice IA m cc]] w' fun e w'' => e = .returned (.int .i64 (rgtC lo is : Nat)) ∧ Step (fun _ => False) w' w'') := fun w' h => rright14_walk w' LA IA lc m cc lo is S HK1 (by omega) (fun y hy => (HWf.out y hy).1) (HRx.out.1.step h (fun _ _ => id)) (HRx.out.2.1.step h (fun _ _ => id)) HK2.out (by omega)
      have HPt : Hid (rgtC lo is = 0 → (∀ x ∈ is, x.L.length ≤ 50) → ∀ w', Step (fun _ => False) w w' → Calls Try.prog 127 #[.agg #[.slice LA lo.length lc, .slice IA m cc]] w' fun e w'' => e = .returned (.string (str (putC lo is))) ∧ Step (fun _ => False) w' w'') := fun hz hsm w' h => rput14_walk w' LA IA lc m cc lo is S HK1 (by omega) HWf.out (fun y hy => by have := hsm y hy; omega) (HIn.out w' h) (HRx.out.1.step h (fun _ _ => id)) (HRx.out.2.1.step h (fun _ _ => id)) HK2.out (by omega) (rgtC_zero hz).2.2.2
      have HGl : Hid ((∀ x ∈ is, x.L.length ≤ 50) → (putC lo is).length ≤ 33000) := fun h => hgl ⟨by omega, by omega, h⟩
      have HSm3 : Hid ((∀ x ∈ is, x.L.length ≤ 50) → ∀ x ∈ l.take (j + 1), x.sm) := fun h => HSm2.out ⟨by omega, by omega, h⟩
      obtain ⟨q, hq⟩ : ∃ q, q = lo.length := ⟨_, rfl⟩
      rw [← hq] at HMu HRr HPt HBk HSa c0 h50 h50'
      obtain ⟨X, hX⟩ : ∃ X, X = wr.heap.size := ⟨_, rfl⟩
      rw [← hX] at HBk
      have HXe := Lib.hid hX
      clear hq hgl HSm2 hX
      go_wp2_with fail
      refine (HMu.out _ HSa.out).mono ?_
      rintro e w8 ⟨⟨b, rfl, hbm⟩, hS8⟩
      have HB8 := Lib.hid (HBk.out.step hS8 id)
      have HS8 := Lib.hid (HSa.out.trans hS8)
      rw [← HXe.out]
      clear hS8 HBk HSa
      cases b
      rotate_left
      · go_wp2_with fail
        go_ret
        exact ⟨rfl, HS8.out⟩
      have hsm := hbm rfl
      clear hbm
      have HSM := Lib.hid (HSm3.out hsm)
      have hgl := HGl.out hsm
      have x0 := HB8.out.cell 0
      have x1 := HB8.out.cell 1
      simp at x0 x1
      by_cases hE : ferr Cd.err (l.take j) = 0
      · have hs := HSt.out hE
        subst hs
        have hcv : ((ferr Cd.err (l.take j) : Nat) : Int) = 0 := by rw [hE]; rfl
        rw [hcv]
        clear hcv HSt
        by_cases hz : rgtC lo is = 0
        · have HE2 : Hid (ferr Cd.err (l.take (j + 1)) = 0) := by rw [Hid, HET.out, if_pos hE]; exact hz
          have HPt2 := Lib.hid (HPt.out hz hsm)
          rw [hz] at HRr
          obtain ⟨V, hV⟩ : ∃ V, V = putC lo is := ⟨_, rfl⟩
          rw [← hV] at HPt2 hgl HP
          have hz2' := str_size V
          have hz3 := str_size (fput Cd.put U l j)
          have hap : str (fput Cd.put U l j) ++ str V = str (fput Cd.put U l (j + 1)) := by rw [HP.out]; exact str_append _ _
          clear hV hz HET hE HP HPt
          go_wp2_with fail
          refine (HRr.out _ HS8.out).mono ?_
          rintro e w10 ⟨rfl, hS10⟩
          have HB10 := Lib.hid (HB8.out.step hS10 id)
          have HS10 := Lib.hid (HS8.out.trans hS10)
          clear hS10 x0 x1
          have x0 := HB10.out.cell 0
          have x1 := HB10.out.cell 1
          simp at x0 x1
          go_wp2_with fail
          refine (HPt2.out _ HS10.out).mono ?_
          rintro e w9 ⟨rfl, hS9⟩
          have HS9 := Lib.hid (HS10.out.trans hS9)
          clear hS9 x0 x1
          go_wp2_with fail
          go_roundw
          case rel => exact ⟨j + 1, str (fput Cd.put U l (j + 1)), by omega, by rw [HE2.out]; rfl, rfl, by rw [Int.natCast_add]; rfl, fun _ => rfl, HSM, HS9⟩
          case measure => simp [intOf]; omega
        · have HE2 : Hid (ferr Cd.err (l.take (j + 1)) = rgtC lo is) := by rw [Hid, HET.out, if_pos hE]
          obtain ⟨r, hr⟩ : ∃ r : Int, r = (rgtC lo is : Nat) := ⟨_, rfl⟩
          have hne : ¬ r = 0 := by omega
          have hnb : (r == 0) = false := by simp [hne]
          rw [← hr] at HRr
          have HRR : Hid (r = ((ferr Cd.err (l.take (j + 1)) : Nat) : Int) ∧ ¬ ferr Cd.err (l.take (j + 1)) = 0) := ⟨by rw [HE2.out]; exact hr, by rw [HE2.out]; exact hz⟩
          clear hr hz HET HE2 HP hE HPt
          go_wp2_with fail
          refine (HRr.out _ HS8.out).mono ?_
          rintro e w10 ⟨rfl, hS10⟩
          have HS10 := Lib.hid (HS8.out.trans hS10)
          clear hS10
          go_wp2_with fail
          go_roundw
          case rel => exact ⟨j + 1, _, by omega, by rw [HRR.out.1], rfl, by rw [Int.natCast_add]; rfl, fun h => absurd h HRR.out.2, HSM, HS10⟩
          case measure => simp [intOf]; omega
      · obtain ⟨r, hr⟩ : ∃ r : Int, r = (ferr Cd.err (l.take j) : Nat) := ⟨_, rfl⟩
        have hne : ¬ r = 0 := by omega
        have hnb : (r == 0) = false := by simp [hne]
        have HE2 : Hid (ferr Cd.err (l.take (j + 1)) = ferr Cd.err (l.take j)) := by rw [Hid, HET.out, if_neg hE]
        have HRR : Hid (r = ((ferr Cd.err (l.take (j + 1)) : Nat) : Int) ∧ ¬ ferr Cd.err (l.take (j + 1)) = 0) := ⟨by rw [HE2.out]; exact hr, by rw [HE2.out]; exact hE⟩
        rw [← hr]
        clear hr HET HE2 HP hE HSt HPt HRr
        go_wp2_with fail
        go_roundw
        case rel => exact ⟨j + 1, _, by omega, by rw [HRR.out.1], rfl, by rw [Int.natCast_add]; rfl, fun h => absurd h HRR.out.2, HSM, HS8⟩
        case measure => simp [intOf]; omega
    · obtain rfl : j = n := by omega
      have hLt : l.take j = l := by rw [HN.out]; exact List.take_length
      rw [hLt] at HSt HSm ⊢
      clear hLt HS6
      obtain ⟨r, hr⟩ : ∃ r : Int, r = (ferr Cd.err l : Nat) := ⟨_, rfl⟩
      rw [← hr] at HPA ⊢
      have HRr := Lib.hid hr
      clear hr
      go_wp2_with fail
      refine (HPA.out HSm.out _ HS.out).mono ?_
      rintro e w7 ⟨hS7, ⟨hne, rfl⟩ | ⟨h0, D7, c7, rfl, hown⟩⟩
      · have hne2 : ¬ r = 0 := by have := HRr.out; omega
        have hnb : (r == 0) = false := by simp [hne2]
        have hnb2 : (r != 0) = true := bne_iff_ne.2 hne2
        have hrr : (r == r) = true := by simp
        clear hne
        go_wp2_with fail
        go_ret
        exact ⟨rfl, HS.out.trans hS7⟩
      · have hr0 : r = 0 := by have := HRr.out; rw [h0] at this; exact this
        subst hr0
        have hsT := HSt.out h0
        subst hsT
        have HOK : Hid (∀ x ∈ l, x.err = 0) := ferr_all Cd.err l h0
        obtain ⟨T, hT⟩ : ∃ T, T = fput Cd.put U l j := ⟨_, rfl⟩
        rw [← hT] at hown hpl ⊢
        have HT : Hid (T = fput Cd.put (uintF j) l j) := by rw [Hid, hT, HU.out]
        have HO7 := Lib.hid hown
        have HS7 := Lib.hid (HS.out.trans hS7)
        clear h0 HPA HSt HS hS7 hown HRr hT HC
        have hrd := Reads.of_own HO7.out
        go_wp2_with fail
        refine (over_walk _ D7 c7 T _ hrd (by omega)).mono ?_
        rintro e w11 ⟨Y, S', D', c', rfl, hs11, hY, hS', ht11⟩
        have HB11 := Lib.hid ((own_step HO7.out ht11 (fun _ _ => id)).alloc (.cells #[.pointer (some ⟨Y, 0, none⟩)] 79))
        have HC11 := Lib.hid (hs11.alloc (.cells #[.pointer (some ⟨Y, 0, none⟩)] 79))
        have HP11 := Lib.hid (Blk.new w11 79 #[.pointer (some ⟨Y, 0, none⟩)])
        have HS11 := Lib.hid ((HS7.out.trans ht11).alloc (.cells #[.pointer (some ⟨Y, 0, none⟩)] 79))
        have hYl : Y < w11.heap.size := hs11.lt
        have hBY : ∀ q, Value.ownBlock (.slice D7 T.length c7) = some q → q < w7.heap.size := own_lt HO7.out
        have n12 : (w11.alloc (.cells #[.pointer (some ⟨Y, 0, none⟩)] 79)).heap.size = w11.heap.size + 1 := by simp
        have hn10 : w7.heap.size ≤ w11.heap.size := ht11.size
        have hww : w.heap.size ≤ w7.heap.size := HS7.out.size
        clear hs11 ht11 hrd
        have HV : Hid (Calls Try.prog 131 #[.func (.func 132) #[] #[.pointer (some ⟨w11.heap.size, 0, none⟩)]] (w11.alloc (.cells #[.pointer (some ⟨Y, 0, none⟩)] 79)) fun e w' => ∃ Dz cz, e = .returned (.tuple #[.slice Dz j cz, .agg #[.int .i64 0, .int .i64 0]]) ∧
            ∃ wa wb, Step (fun _ => False) (w11.alloc (.cells #[.pointer (some ⟨Y, 0, none⟩)] 79)) wa ∧ Step (fun i => i = Y) wa wb ∧ (∃ lb, wb.ownsRow wa.heap.size 176 2 (.slice Dz j cz) j (cds lb) ∧ InnC wb wa.heap.size l lb) ∧ Step (fun k => (w11.alloc (.cells #[.pointer (some ⟨Y, 0, none⟩)] 79)).heap.size ≤ k ∧ k < wa.heap.size) wb w') :=
          cbvalue_ok 132 #[.pointer (some ⟨w11.heap.size, 0, none⟩)] _ (fun i => i = Y) (fun Dz cz wa w' => ∃ lb, w'.ownsRow wa.heap.size 176 2 (.slice Dz j cz) j (cds lb) ∧ InnC w' wa.heap.size l lb) j (fun _ => rfl) (fun k hk => hk ▸ HC11.out.lt) (fun w' ht => cbclosure_ok w' Y w11.heap.size S' D' c' T (HC11.out.quiet ht) l j HN (by omega) HWF.out HSm.out HOK.out HT.out (HP11.out.step ht id))
        have hmf : ∀ (fn : Fn) (first cap : Array Value) (w : World), (Instr.makeFunc fn first cap).run Try.prog w = .ok (.func fn first cap) w := fun _ _ _ _ => rfl
        go_wp2_with fail
        refine HV.out.mono ?_
        rintro e w12 ⟨Dz, cz, rfl, wa, wb, g1, g2, ⟨lb, gO, gJ⟩, g5⟩
        rw [n12] at g5
        have hwa := g1.size
        rw [n12] at hwa
        have HG12 := Lib.hid (own_step gO g5 (fun q hq hk => by have := own_ge gO q hq; omega))
        have HJ12 : Hid (InnC w12 wa.heap.size l lb) := gJ.turn (fun e D m c s xs _ h => own_step h g5 (fun q hq hk => by have := own_ge h q hq; omega))
        have HB12 := Lib.hid (own_step (own_step (own_step HB11.out g1 (fun _ _ => id)) g2 (fun q hq e => by have := hBY q hq; omega)) g5 (fun q hq hk => by have := hBY q hq; omega))
        have HS12 : Hid (Step (fun _ => False) w w12) := ((HS11.out.trans g1).trans' g2 (fun i hi => .inr (by omega))).trans' g5 (fun i hi => .inr (by omega))
        clear g1 g2 gO gJ g5 HC11 HP11 HB11 HS11 HV n12 hwa HO7 HS7
        have hcv : (convert 53 9 (.slice D7 T.length c7)).run Try.prog (w12.alloc (.cells #[.int .i64 0, .int .i64 0] 85)) = .ok (.string (str T)) (w12.alloc (.cells #[.int .i64 0, .int .i64 0] 85)) := conv_bytes (c := c7) (Reads.of_own (HB12.out.alloc _))
        have hE : ((str T).toList == (str T).toList) = true := beq_self_eq_true _
        have hE2 : ((str T).toList != (str T).toList) = false := by simp
        have n4 : ((j : Int) != (j : Int)) = false := by simp
        go_wp2_with fail
        have HG13 := Lib.hid (Reads.of_own (HG12.out.alloc (.cells #[.int .i64 0, .int .i64 0] 85)))
        have HJ13 : Hid (InnC (w12.alloc (.cells #[.int .i64 0, .int .i64 0] 85)) wa.heap.size l lb) := HJ12.out.turn (fun e D m c s xs _ h => h.alloc _)
        have HS13 := Lib.hid (HS12.out.alloc (.cells #[.int .i64 0, .int .i64 0] 85))
        obtain ⟨W, hW⟩ : ∃ W, W = w12.alloc (.cells #[.int .i64 0, .int .i64 0] 85) := ⟨_, rfl⟩
        rw [← hW] at HG13 HS13 HJ13 ⊢
        clear hW HG12 HS12 HB12 HJ12 hcv hE hE2
        go_loopw [12] (fun iv wr => ∃ (i : Nat), i ≤ j ∧ iv = .int .i64 (i : Int) ∧ Hid (Step (fun _ => False) W wr)) (fun iv _ => j + 1 - (intOf iv).toNat)
        case atStart => exact ⟨0, by omega, rfl, Step.refl⟩
        case round =>
          obtain ⟨i, hi, rfl, HSi⟩ := hrel
          by_cases hlt : i < j
          · have g1 : (i : Int) < (j : Int) := by omega
            have i0 : (0 : Int) ≤ (i : Int) := by omega
            have hw1 := IntWalk.i64_in ((i : Int) + 1) (by omega)
            have hil : i < l.length := by rw [← HN.out]; exact hlt
            have hib : i < lb.length := by rw [HJ13.out.1]; exact hil
            obtain ⟨bk, off, rfl, _, hbl, hc⟩ := reads_row Cd.cells 2 (by decide) Cd.two (HR.out.step (HS13.out.trans HSi.out) (fun _ _ => id)) (k := i) hil
            obtain ⟨bz, ofz, rfl, _, hbz, hcz⟩ := reads_row Cd.cells 2 (by decide) Cd.two (HG13.out.step HSi.out (fun _ _ => id)) (k := i) hib
            have hx := HWF.out l[i] (List.getElem_mem hil)
            have hxs := HSm.out l[i] (List.getElem_mem hil)
            have hxr := HRD.out l[i] (List.getElem_mem hil)
            have hJ := HJ13.out.2 i _ _ (List.getElem?_eq_getElem hil) (List.getElem?_eq_getElem hib)
            obtain ⟨x, hxe⟩ : ∃ x, x = l[i] := ⟨_, rfl⟩
            rw [← hxe] at hx hc hxs hxr hJ
            obtain ⟨y, hye⟩ : ∃ y, y = lb[i] := ⟨_, rfl⟩
            rw [← hye] at hcz hJ
            clear hxe hye
            obtain ⟨LA, lc, lo, IA, m, cc, is⟩ := x
            obtain ⟨LB, ld, lp, IB, m2, cd, it⟩ := y
            obtain ⟨j1, j2, j3⟩ := hJ
            simp only at j1 j2 j3
            subst j1 j2
            obtain ⟨k1, k2, k3⟩ := hx
            obtain ⟨s1, s2, s3⟩ := hxs
            simp only at k1 k2 k3 s1 s2 s3
            simp only [Cd.rd] at hxr
            have HSm5 := Lib.hid (fun w' (h' : Step (fun _ => False) W w') => rsame14_walk w' LA IA LB IB lc m2 cc ld cd wa.heap.size lp is it S k1.symm (by omega) (by omega) (fun y hy => by have := s3 y hy; omega) (fun y hy => ⟨(k3 y hy).2.1, (k3 y hy).2.2, (hxr.2.2 y hy).step (HS13.out.trans h') (fun _ _ => id)⟩) (hxr.1.step (HS13.out.trans h') (fun _ _ => id)) (hxr.2.1.step (HS13.out.trans h') (fun _ _ => id)) (j3.turn (fun e D m c s xs _ h => own_step h h' (fun _ _ => id))))
            have c0 := hc 0 _ rfl
            have c1 := hc 1 _ rfl
            have e0 := hcz 0 _ rfl
            have e1 := hcz 1 _ rfl
            simp only [Nat.add_zero] at c0 e0
            simp only at c0 c1 e0 e1
            obtain ⟨q, hq⟩ : ∃ q, q = lp.length := ⟨_, rfl⟩
            rw [← hq] at HSm5 c0 e0
            have d0 := cls_cell (F := fun _ => False) (w0 := wr) c0 id
            have d1 := cls_cell (F := fun _ => False) (w0 := wr) c1 id
            have f0 := cls_cell (F := fun _ => False) (w0 := wr) e0 id
            have f1 := cls_cell (F := fun _ => False) (w0 := wr) e1 id
            clear hc hcz c0 c1 e0 e1 hq j3 k1 k2 k3 s1 s2 s3 hxr
            go_wp2_with fail
            refine Mix.wp_region_mix [8] [8] (Step (fun _ => False) wr) (by kernel_rfl) (by kernel_rfl) Step.refl.drew (fun hcls => ?_)
            refine Mix.wpL_reads 8 (by rfl) ?_
            simp only [List.take_succ_cons, List.drop_succ_cons, List.take_zero, List.drop_zero]
            repeat (go_big_quiet_step (fail))
            refine wpQuiet_nil ?_
            refine Mix.wpL_op (by rfl) (fun K hK => ?_)
            go_simp
            refine (HSm5.out _ (HSi.out.trans Step.refl.drew)).mono ?_
            rintro e wd ⟨rfl, hSd⟩
            have HSd := Lib.hid (Step.refl.drew.trans hSd)
            refine hK _ _ (fun hlt => Mix.cl HSd.out) ?_
            clear hK K hSd
            refine Mix.wpL_reads 1 (by rfl) ?_
            simp only [List.take_succ_cons, List.drop_succ_cons, List.take_zero, List.drop_zero]
            repeat (go_big_quiet_step (fail))
            refine wpQuiet_nil ?_
            refine Mix.wpL_end ?_
            go_wp2_with fail
            go_roundw
            case rel => exact ⟨i + 1, by omega, by rw [Int.natCast_add]; rfl, HSi.out.trans HSd.out⟩
            case measure => simp [intOf]; omega
          · obtain rfl : i = j := by omega
            go_wp2_with fail
            go_ret
            exact ⟨rfl, HS13.out.trans HSi.out⟩
end Go.Proofs.Ytfemeendkjcffaa
