/-
  region: the law RegionBack (printed by gen_rgn.py).
-/
import Derived.Test.YtjpjobpkeejmcaaRgM
set_option linter.unusedVariables false
set_option linter.unusedSimpArgs false
namespace Go.Proofs.Ytjpjobpkeejmcaa
open Go.RowKit

theorem find_in (n al sz : Nat) : ∀ (l : List Pc) (e a : Nat), snd sz e l → ((findL n al a l).2 = true ∨ ((findL n al a l).1 ≤ sz ∧ n ≤ sz - (findL n al a l).1)) → (findL n al a l).1 + n ≤ sz
  | [], e, a, _, h => by
    rw [findL] at h ⊢
    simp only [Bool.false_eq_true, false_or] at h
    show a + n ≤ sz
    omega
  | p :: l, e, a, hs, h => by
    obtain ⟨s1, s2, s3, s4⟩ := hs
    rw [findL] at h ⊢
    by_cases hc : a ≤ p.at_ ∧ n ≤ p.at_ - a
    · rw [if_pos hc]
      show a + n ≤ sz
      omega
    · rw [if_neg hc] at h ⊢
      exact find_in n al sz l _ _ s4 h
theorem no_ow (x : Int) (l : List Pc) (h : ∀ p ∈ l, ¬ p.ow = x) : less x l = l ∧ mine x l = [] :=
  ⟨List.filter_eq_self.2 fun p hp => by simpa using h p hp, List.filter_eq_nil_iff.2 fun p hp => by simpa using h p hp⟩

set_option maxRecDepth 100000 in
set_option maxHeartbeats 12800000 in
theorem back_walk (w : World) (sz n c nn ali : Nat) (A : Option Addr) (l : List Po) (hsz : sz < 256) (hnn : nn < 256) (hali : ali < 256) (hN : n = l.length) (hr : Reads w (fun k => k < w.heap.size) 4 A n (pos l)) (hnb : n ≤ 9223372036854775807) (hal20 : ∀ o ∈ l, o.al < 4294967296) (hN64 : ∀ o ∈ l, o.n ≤ 9223372036854775807) :
    Calls Try.prog 4 #[.int .u8 (sz : Int), .slice A n c, .agg #[.int .u8 (nn : Int), .int .u8 (ali : Int)]] w fun e w' => e = .returned (.bool true) ∧ Step (fun _ => False) w w' := by
  have htm : ((ali : Int)).tmod 8 = ((ali % 8 : Nat) : Int) := by
    rw [Int.tmod_eq_emod_of_nonneg (by omega)]
    omega
  have hal : ali % 8 < 8 := Nat.mod_lt _ (by decide)
  obtain ⟨al, hale⟩ : ∃ al, al = ali % 8 := ⟨_, rfl⟩
  rw [← hale] at hal htm
  obtain ⟨hk1, _, hkc⟩ := two_pow al (by omega)
  have hk3 : 2 ^ al ≤ 128 := Nat.le_trans (Nat.pow_le_pow_right (by decide) (show al ≤ 7 by omega)) (by decide)
  have HMOD : Hid (∀ ps, (findF 0 sz nn al ps).1 % 2 ^ al = 0) := fun ps => findF_mod 0 sz nn al ps
  obtain ⟨k, hk⟩ : ∃ k, k = 2 ^ al := ⟨_, rfl⟩
  rw [← hk] at hk1 hk3 hkc HMOD
  have e1 : IntKind.i64.wrap ((2 : Int) ^ al) = (k : Int) := by rw [hkc]; exact IntWalk.i64_in _ (by clear hk hkc; omega)
  have e1' : wrap64 ((2 : Int) ^ al) = (k : Int) := by rw [hkc]; exact IntWalk.wrap64_in _ ⟨by clear hk hkc; omega, by clear hk hkc; omega⟩
  clear hk hkc hale
  have ha0 : (0 : Int) ≤ (al : Int) := by clear e1 e1'; omega
  have ha1 : (al : Int) ≤ 64 := by clear e1 e1'; omega
  have hkz : ¬ (k : Int) = 0 := by clear e1 e1'; omega
  have w1 : IntKind.i64.wrap (sz : Int) = (sz : Int) := IntWalk.i64_in _ (by clear e1 e1'; omega)
  have w2 : IntKind.i64.wrap (nn : Int) = (nn : Int) := IntWalk.i64_in _ (by clear e1 e1'; omega)
  have w3 : IntKind.u64.wrap (al : Int) = (al : Int) := IntWalk.u64_in _ (by clear e1 e1'; omega)
  have w4 : IntKind.u32.wrap (al : Int) = (al : Int) := IntWalk.u32_in _ (by clear e1 e1'; omega)
  have w5' : IntKind.u8.wrap (al : Int) = (al : Int) := IntWalk.u8_in _ (by clear e1 e1'; omega)
  have HR := Lib.hid hr
  have HN := Lib.hid hN
  have HAL := Lib.hid hal20
  have HN64 := Lib.hid hN64
  have HB0 := Lib.hid (Blk.new w 38 #[.int .u8 (nn : Int), .int .u8 (ali : Int)])
  have HAW := Lib.hid (fun w' => awake34 w')
  clear hr hN hal20 hN64
  obtain ⟨H, hH⟩ : ∃ H, H = w.heap.size := ⟨_, rfl⟩
  rw [← hH] at HB0
  have hHw : w.heap.size ≤ H := by omega
  have HH := Lib.hid hH
  clear hH
  go_enter Try.func4, Try.ntmps4
  go_wp2_with fail
  refine (HAW.out _).mono ?_
  rintro e w5 ⟨rfl, hS5⟩
  have HS5 := Lib.hid ((Step.refl.alloc (F := fun _ => False) (w := w) (.cells #[.int .u8 (nn : Int), .int .u8 (ali : Int)] 38)).trans hS5)
  have HB5 := Lib.hid (HB0.out.step hS5 id)
  rw [← HH.out]
  clear hS5 HAW HB0 HH
  have y0 := HB5.out.cell 0
  have y1 := HB5.out.cell 1
  simp at y0 y1
  go_wp2_with fail
  go_quiet (fail)
  have HS5q := Lib.hid (HS5.out.drewN nq)
  obtain ⟨V, hV⟩ : ∃ V, V = w5.drewN nq := ⟨_, rfl⟩
  rw [← hV] at HS5q ⊢
  clear hV HS5 HB5 y0 y1
  go_wp2_with fail
  have HFw := Lib.hid (few_walk (V.alloc (.cells #[.int .i64 0, .int .i64 (sz : Int)] 39)) 0 (sz : Int) A n c l _ HN.out (HR.out.step (HS5q.out.alloc _) (fun _ _ => id)) hnb)
  refine HFw.out.mono ?_
  rintro e w6 ⟨b, rfl, hb, hS6⟩
  have HS6 := Lib.hid ((HS5q.out.alloc (.cells #[.int .i64 0, .int .i64 (sz : Int)] 39)).trans hS6)
  have HBB := Lib.hid hb
  clear hS6 HFw HS5q hb
  cases b with
  | false =>
    go_wp2_with fail
    go_ret
    exact ⟨rfl, HS6.out⟩
  | true =>
  obtain ⟨f1, f2, f3, f4⟩ := HBB.out rfl
  have hn40 : n ≤ 40 := by rw [HN.out]; exact f1
  clear HBB f1 f2 f3 f4
  have HNW := Lib.hid (rnew_ok w6 w.heap.size 0 sz (by omega) (by omega) HS6.out.size)
  go_wp2_with fail
  refine HNW.out.mono ?_
  rintro e w7 ⟨X, rfl, hrm, hS7, hX7⟩
  have HS7 := Lib.hid (HS6.out.trans hS7)
  have HM7 := Lib.hid hrm
  have hXw : w.heap.size ≤ X := by have := HS6.out.size; omega
  have HQ7 : Hid (snd sz 0 [] ∧ ([] : List Pc).length ≤ 0 ∧ ∀ p ∈ ([] : List Pc), ¬ p.ow = 99) := ⟨trivial, Nat.le_refl _, fun p hp => by cases hp⟩
  clear hrm hS7 hX7 HNW HS6
  go_wp2_with fail
  go_loopw [12] (fun iv wr => ∃ (j cr : Nat) (Ar : Option Addr) (ps : List Pc), j ≤ n ∧ iv = .int .i64 (j : Int) ∧ Hid (Rm wr X Ar cr 0 sz w.heap.size ps) ∧ Hid (snd sz 0 ps ∧ ps.length ≤ j ∧ ∀ p ∈ ps, ¬ p.ow = 99) ∧ Hid (Step (fun _ => False) w wr)) (fun iv _ => n + 1 - (intOf iv).toNat)
  case atStart => exact ⟨0, 0, none, [], by omega, rfl, HM7, HQ7, HS7⟩
  case round =>
    obtain ⟨j, cr, Ar, ps, hj, rfl, HMj, HQj, HSj⟩ := hrel
    clear HM7 HQ7 HS7
    have hge : ∀ q, blkOf Ar = some q → w.heap.size ≤ q := HMj.out.ge
    have HPS : Hid (∀ p ∈ ps, p.at_ + p.len ≤ sz ∧ p.len ≤ 1073741824) := fun p hp => by
      have := snd_all ps 0 HQj.out.1 p hp
      exact ⟨this.2.2, by omega⟩
    by_cases hlt : j < n
    · have g1 : (j : Int) < (n : Int) := by omega
      have i0 : (0 : Int) ≤ (j : Int) := by omega
      have hw1 := IntWalk.i64_in ((j : Int) + 1) (by omega)
      have hjl : j < l.length := by rw [← HN.out]; exact hlt
      obtain ⟨bk, off, rfl, _, hbl, hc⟩ := reads_row Po.cells 4 (by decide) Po.four (HR.out.step HSj.out (fun _ _ => id)) (k := j) hjl
      have hpa := HAL.out l[j] (List.getElem_mem hjl)
      have hpn := HN64.out l[j] (List.getElem_mem hjl)
      generalize l[j] = p at hc hpa hpn
      obtain ⟨pk, pn, pow, pal⟩ := p
      have c0 := hc 0 _ rfl
      have c1 := hc 1 _ rfl
      have c2 := hc 2 _ rfl
      have c3 := hc 3 _ rfl
      simp only [Nat.add_zero] at c0 c1 c2 c3 hpa hpn
      clear hc
      have HGive : Hid (¬ pow = 99 → Calls Try.prog 11 #[.pointer (some ⟨X, 0, none⟩), .int .i64 pow] wr fun e w' => e = .returned (.int .i64 (sumP (mine pow ps) : Int)) ∧ Rm w' X Ar cr 0 sz w.heap.size (less pow ps) ∧ Step (fun k => k = X ∨ blkOf Ar = some k) wr w') := fun _ =>
        give_walk wr X Ar cr 0 sz _ ps HMj.out (by have := HQj.out.2.1; omega) (fun p hp => (HPS.out p hp).2) pow
      have HTake : Hid (∀ w', Step (fun _ => False) wr w' → ∃ r1 r2 : Int, Calls Try.prog 8 #[.pointer (some ⟨X, 0, none⟩), .int .i64 pn, .int .u32 (pal : Int), .int .i64 pow] w' fun e w'' => e = .returned (.tuple #[.int .i64 r1, .int .i64 r2]) ∧
          ∃ A' c' ps', Rm w'' X A' c' 0 sz w.heap.size ps' ∧ (snd sz 0 ps' ∧ ps'.length ≤ j + 1 ∧ (¬ pow = 99 → ∀ p ∈ ps', ¬ p.ow = 99)) ∧ Step (fun k => k = X ∨ blkOf Ar = some k) w' w'') := fun w' hs => by
        by_cases hbad : pn < 0 ∨ 20 < pal
        · refine ⟨0, 1, (take_bad w' X pn pal pow hbad).mono ?_⟩
          rintro e w'' ⟨rfl, rfl⟩
          exact ⟨rfl, Ar, cr, ps, HMj.out.quiet hs, ⟨HQj.out.1, by have := HQj.out.2.1; omega, fun _ => HQj.out.2.2⟩, Step.refl⟩
        · obtain ⟨m, rfl⟩ : ∃ m : Nat, pn = m := ⟨pn.toNat, by omega⟩
          refine ⟨((takeF 0 sz m pal pow ps).1.1 : Int), ((takeF 0 sz m pal pow ps).1.2 : Int), (take_walk w' X Ar cr 0 sz w.heap.size ps (HMj.out.quiet hs) (Nat.le_trans HSj.out.size hs.size) (by omega) (by omega) (fun p hp => (HPS.out p hp).1) (by have := HQj.out.2.1; omega) m pal pow (by omega) (by omega)).mono ?_⟩
          rintro e w'' ⟨rfl, A', c', hrm, hst, _⟩
          exact ⟨rfl, A', c', _, hrm, ⟨take_snd 0 sz m pal pow ps HQj.out.1, by have := take_len 0 sz m pal pow ps; have := HQj.out.2.1; omega, fun h99 => take_ow 0 sz m pal pow 99 ps h99 HQj.out.2.2⟩, hst⟩
      by_cases h99 : pow = 99
      · have d2' : (pow != 99) = false := by simp [h99]
        have d2n : (pow == 99) = true := by simp [h99]
        have RELQ : Hid (snd sz 0 ps ∧ ps.length ≤ j + 1 ∧ ∀ p ∈ ps, ¬ p.ow = 99) := ⟨HQj.out.1, by have := HQj.out.2.1; omega, HQj.out.2.2⟩
        subst h99
        by_cases h0 : pk = 0
        · subst h0
          go_wp2_with fail
          go_roundw
          case rel => exact ⟨j + 1, cr, Ar, ps, by omega, by rw [Int.natCast_add]; rfl, HMj, RELQ, HSj⟩
          case measure => simp [intOf]; omega
        · have d1 : (pk == 0) = false := by simpa using h0
          go_wp2_with fail
          go_roundw
          case rel => exact ⟨j + 1, cr, Ar, ps, by omega, by rw [Int.natCast_add]; rfl, HMj, RELQ, HSj⟩
          case measure => simp [intOf]; omega
      · have d2 : (pow != 99) = true := bne_iff_ne.2 h99
        have d2n : (pow == 99) = false := by simpa using h99
        by_cases h0 : pk = 0
        · subst h0
          have e0 := cls_cell (F := fun _ => False) (w0 := wr) c1 id
          have e1c := cls_cell (F := fun _ => False) (w0 := wr) c2 id
          have e2 := cls_cell (F := fun _ => False) (w0 := wr) c3 id
          obtain ⟨r1, r2, hT⟩ := HTake.out wr.drew Step.refl.drew
          have HT := Lib.hid hT
          clear hT HTake
          go_wp2_with fail
          refine Mix.wp_region_mix [16] [] (Step (fun _ => False) wr) (by kernel_rfl) (by kernel_rfl) Step.refl.drew (fun hcls => ?_)
          refine Mix.wpL_reads 16 (by rfl) ?_
          simp only [List.take_succ_cons, List.drop_succ_cons, List.take_zero, List.drop_zero]
          repeat (go_big_quiet_step (fail))
          refine wpQuiet_nil ?_
          refine Mix.wpL_op (by rfl) (fun K hK => ?_)
          go_simp
          refine HT.out.mono ?_
          rintro e wd ⟨rfl, A', c', ps', hrm, hq, hst⟩
          refine hK _ _ (fun hlt => absurd hlt (by decide)) ?_
          clear hK K
          refine Mix.wpL_end ?_
          have HSd : Hid (Step (fun _ => False) w wd) := (HSj.out.drew).trans' hst (fun q hq => by
            rcases hq with hq | hq
            · exact .inr (by omega)
            · exact .inr (hge q hq))
          have RELQ : Hid (snd sz 0 ps' ∧ ps'.length ≤ j + 1 ∧ ∀ p ∈ ps', ¬ p.ow = 99) := ⟨hq.1, hq.2.1, hq.2.2 h99⟩
          have HMd := Lib.hid hrm
          clear hrm hq hst
          go_wp2_with fail
          go_roundw
          case rel => exact ⟨j + 1, c', A', ps', by omega, by rw [Int.natCast_add]; rfl, HMd, RELQ, HSd⟩
          case measure => simp [intOf]; omega
        · have d1 : (pk == 0) = false := by simpa using h0
          have HG := Lib.hid (HGive.out h99)
          go_wp2_with fail
          refine HG.out.mono ?_
          rintro e wd ⟨rfl, hrm, hst⟩
          have HSd : Hid (Step (fun _ => False) w wd) := HSj.out.trans' hst (fun q hq => by
            rcases hq with hq | hq
            · exact .inr (by omega)
            · exact .inr (hge q hq))
          have RELQ : Hid (snd sz 0 (less pow ps) ∧ (less pow ps).length ≤ j + 1 ∧ ∀ p ∈ less pow ps, ¬ p.ow = 99) := ⟨less_snd sz pow ps 0 0 (Nat.le_refl _) HQj.out.1, by have := less_len pow ps; have := HQj.out.2.1; omega, fun p hp => HQj.out.2.2 p (List.mem_filter.1 hp).1⟩
          have HMd := Lib.hid hrm
          clear hrm hst
          go_wp2_with fail
          go_roundw
          case rel => exact ⟨j + 1, cr, Ar, _, by omega, by rw [Int.natCast_add]; rfl, HMd, RELQ, HSd⟩
          case measure => simp [intOf]; omega
    · obtain rfl : j = n := by omega
      have hpl : ps.length ≤ 40 := by have := HQj.out.2.1; omega
      have HC := Lib.hid (rclone_walk wr X Ar cr 0 sz w.heap.size ps HMj.out (by omega) HSj.out.size)
      have hXl := HMj.out.lt
      have hAl : ∀ q, blkOf Ar = some q → q < wr.heap.size := HMj.out.lt2
      go_wp2_with fail
      refine HC.out.mono ?_
      rintro e w8 ⟨X2, A2, c2, rfl, hrm2, hX2, hA2, hS8⟩
      have HM8 := Lib.hid (HMj.out.quiet hS8)
      have HW8 := Lib.hid hrm2
      have HS8 := Lib.hid (HSj.out.trans hS8)
      have HAP : Hid (∀ (w' : World), Step (fun q => q = X ∨ blkOf Ar = some q) w8 w' → Rm w' X2 A2 c2 0 sz w.heap.size ps) := fun w' hs => HW8.out.step hs (fun e => by
        rcases e with e | e
        · omega
        · have := hAl X2 e; omega) (fun q hq e => by
        have := hA2 q hq
        rcases e with e | e
        · omega
        · have := hAl q e; omega)
      have hT := take_walk w8 X Ar cr 0 sz w.heap.size ps HM8.out HS8.out.size (by omega) (by omega) (fun p hp => (HPS.out p hp).1) (by omega) nn al 99 (by omega) (by omega)
      clear hrm2 hS8 HC hA2 hX2 hXl hAl HMj HSj HR HAL HN64
      cases hf : (findF 0 sz nn al ps).2 with
      | false =>
        rw [show takeF 0 sz nn al 99 ps = ((0, 44), ps) by rw [takeF, if_neg (by rw [hf]; decide)]] at hT
        have HT := Lib.hid hT
        clear hT hf
        go_wp2_with fail
        refine HT.out.mono ?_
        rintro e w9 ⟨rfl, A', c', hrm, hst, _⟩
        have HSm := Lib.hid (rsame_yes w9 X X2 A' A2 c' c2 0 sz _ _ ps hrm (HAP.out _ hst) (by omega))
        have HS9 : Hid (Step (fun _ => False) w w9) := HS8.out.trans' hst (fun q hq => by
          rcases hq with hq | hq
          · exact .inr (by omega)
          · exact .inr (hge q hq))
        clear hrm hst HT HAP
        simp only
        go_wp2_with fail
        refine HSm.out.mono ?_
        rintro e wa ⟨rfl, hSa⟩
        go_wp2_with fail
        go_ret
        exact ⟨rfl, HS9.out.trans hSa⟩
      | true =>
        have hin : (findF 0 sz nn al ps).1 + nn ≤ sz := find_in nn al sz ps 0 (upN 0 al) HQj.out.1 (findF_spec 0 sz nn al ps hf)
        have hmod := HMOD.out ps
        have HTF : Hid (∀ ow : Int, takeF 0 sz nn al ow ps = (((findF 0 sz nn al ps).1, 0), if nn = 0 then ps else addP ⟨(findF 0 sz nn al ps).1, nn, ow⟩ ps)) := fun ow => by rw [takeF, if_pos hf]
        clear hf
        generalize (findF 0 sz nn al ps).1 = a at hin hmod HTF
        have hat : ((a : Int)).tmod (k : Int) = 0 := by
          rw [Int.tmod_eq_emod_of_nonneg (Int.natCast_nonneg _), ← Int.natCast_emod, hmod]
          rfl
        have wa := IntWalk.i64_in ((a : Int) + (nn : Int)) (by clear e1 e1'; omega)
        have d1 : ¬ (a : Int) < 0 := by clear e1 e1'; omega
        have d1' : decide ((a : Int) < 0) = false := decide_eq_false d1
        have d3 : ¬ (sz : Int) < (a : Int) + (nn : Int) := by clear e1 e1'; omega
        have d3' : decide ((sz : Int) < (a : Int) + (nn : Int)) = false := decide_eq_false d3
        have n2 : ((nn : Int) == (nn : Int)) = true := beq_self_eq_true _
        have n3 : ((a : Int) == (a : Int)) = true := beq_self_eq_true _
        have n4 : ((a : Int) != (a : Int)) = false := by simp
        have HQ2 := HQj
        by_cases hz : nn = 0
        · have HT98 : Hid (takeF 0 sz nn al 98 ps = ((a, 0), ps)) := by rw [Hid, HTF.out 98, if_pos hz]
          rw [show takeF 0 sz nn al 99 ps = ((a, 0), ps) by rw [HTF.out 99, if_pos hz]] at hT
          have HL1 : Hid (less 99 (ps) = ps ∧ mine 99 (ps) = ([] : List Pc) ∧ sumP ([] : List Pc) = nn ∧ ∀ p ∈ (ps), p.len ≤ 1073741824) := ⟨(no_ow 99 ps HQ2.out.2.2).1, (no_ow 99 ps HQ2.out.2.2).2, hz.symm, fun p hp => (HPS.out p hp).2⟩
          have HT := Lib.hid hT
          have HSN98 : Hid (∀ p ∈ (ps : List Pc), p.len ≤ 1073741824) := fun p hp => (HPS.out p hp).2
          have d4 : ¬ (0 : Int) < (nn : Int) := by omega
          have d4' : decide ((0 : Int) < (nn : Int)) = false := decide_eq_false d4
          have d4n : decide (0 < nn) = false := decide_eq_false (by omega)
          clear hz
          clear hT HTF hmod hin
          go_wp2_with fail
          refine HT.out.mono ?_
          rintro e w9 ⟨rfl, A', c', hrm, hst, _⟩
          have hge' : ∀ q, blkOf A' = some q → w.heap.size ≤ q := hrm.ge
          have HW9 := Lib.hid (HAP.out _ hst)
          have HM9 := Lib.hid hrm
          have HS9 : Hid (Step (fun _ => False) w w9) := HS8.out.trans' hst (fun q hq => by
            rcases hq with hq | hq
            · exact .inr (by omega)
            · exact .inr (hge q hq))
          have hOf := of_walk w9 X A' c' 0 sz w.heap.size _ HM9.out (by omega) 99
          rw [show (List.filter (fun p : Pc => p.ow == 99) (ps)) = ([] : List Pc) from HL1.out.2.1] at hOf
          have HOf := Lib.hid hOf
          clear hrm hst HT HAP HS8 HW8 hOf HM8
          simp only
          go_wp2_with fail
          refine HOf.out.mono ?_
          rintro e wb ⟨D', cD, rfl, hown, hSb⟩
          have HSb := Lib.hid (HS9.out.trans hSb)
          have HMb := Lib.hid (HM9.out.quiet hSb)
          have HWb := Lib.hid (HW9.out.quiet hSb)
          clear hSb HS9 HM9 HW9 HOf hown
          go_wp2_with fail
          refine (give_walk wb X A' c' 0 sz w.heap.size (ps) HMb.out (by omega) HL1.out.2.2.2 99).mono ?_
          rintro e wg ⟨rfl, hrg, hSg⟩
          rw [HL1.out.2.1, HL1.out.2.2.1]
          rw [HL1.out.1] at hrg
          have HSg : Hid (Step (fun _ => False) w wg) := HSb.out.trans' hSg (fun q hq => by
            rcases hq with hq | hq
            · exact .inr (by omega)
            · exact .inr (hge' q hq))
          have hT2 := take_walk wg X A' c' 0 sz w.heap.size ps hrg HSg.out.size (by omega) (by omega) (fun p hp => (HPS.out p hp).1) (by omega) nn al 98 (by omega) (by omega)
          rw [HT98.out] at hT2
          have HT2 := Lib.hid hT2
          clear hrg hSg hT2 HT98 HSb HMb HWb
          go_wp2_with fail
          refine HT2.out.mono ?_
          rintro e wh ⟨rfl, A3, c3, hrh, hSh, _⟩
          have hge3 : ∀ q, blkOf A3 = some q → w.heap.size ≤ q := hrh.ge
          have HSh : Hid (Step (fun _ => False) w wh) := HSg.out.trans' hSh (fun q hq => by
            rcases hq with hq | hq
            · exact .inr (by omega)
            · exact .inr (hge' q hq))
          have HG2 := Lib.hid (give_walk wh X A3 c3 0 sz w.heap.size (ps) hrh (by omega) HSN98.out 98)
          clear hrh hSh HT2 HSg
          simp only
          go_wp2_with fail
          refine HG2.out.mono ?_
          rintro e wi ⟨rfl, _, hSi⟩
          have HSi : Hid (Step (fun _ => False) w wi) := HSh.out.trans' hSi (fun q hq => by
            rcases hq with hq | hq
            · exact .inr (by omega)
            · exact .inr (hge3 q hq))
          clear hSi HSh HG2
          go_wp2_with fail
          go_ret
          exact ⟨rfl, HSi.out⟩
        · have HT98 : Hid (takeF 0 sz nn al 98 ps = ((a, 0), addP ⟨a, nn, 98⟩ ps)) := by rw [Hid, HTF.out 98, if_neg hz]
          rw [show takeF 0 sz nn al 99 ps = ((a, 0), addP ⟨a, nn, 99⟩ ps) by rw [HTF.out 99, if_neg hz]] at hT
          have HL1 : Hid (less 99 (addP ⟨a, nn, 99⟩ ps) = ps ∧ mine 99 (addP ⟨a, nn, 99⟩ ps) = ([⟨a, nn, 99⟩] : List Pc) ∧ sumP ([⟨a, nn, 99⟩] : List Pc) = nn ∧ ∀ p ∈ (addP ⟨a, nn, 99⟩ ps), p.len ≤ 1073741824) := by
            have h5 := less_add ⟨a, nn, 99⟩ ps HQ2.out.2.2
            exact ⟨h5.1, h5.2, by simp [sumP], fun p hp => by
              rcases addP_mem _ _ _ hp with rfl | hp
              · show nn ≤ 1073741824
                omega
              · exact (HPS.out p hp).2⟩
          have HT := Lib.hid hT
          have HSN98 : Hid (∀ p ∈ (addP ⟨a, nn, 98⟩ ps : List Pc), p.len ≤ 1073741824) := fun p hp => by
            rcases addP_mem _ _ _ hp with rfl | hp
            · show nn ≤ 1073741824
              omega
            · exact (HPS.out p hp).2
          have d4 : (0 : Int) < (nn : Int) := by omega
          have d4' : decide ((0 : Int) < (nn : Int)) = true := decide_eq_true d4
          have d4n : decide (0 < nn) = true := decide_eq_true (by omega)
          clear hz
          clear hT HTF hmod hin
          go_wp2_with fail
          refine HT.out.mono ?_
          rintro e w9 ⟨rfl, A', c', hrm, hst, _⟩
          have hge' : ∀ q, blkOf A' = some q → w.heap.size ≤ q := hrm.ge
          have HW9 := Lib.hid (HAP.out _ hst)
          have HM9 := Lib.hid hrm
          have HS9 : Hid (Step (fun _ => False) w w9) := HS8.out.trans' hst (fun q hq => by
            rcases hq with hq | hq
            · exact .inr (by omega)
            · exact .inr (hge q hq))
          have hOf := of_walk w9 X A' c' 0 sz w.heap.size _ HM9.out (by rw [addP_len]; omega) 99
          rw [show (List.filter (fun p : Pc => p.ow == 99) (addP ⟨a, nn, 99⟩ ps)) = ([⟨a, nn, 99⟩] : List Pc) from HL1.out.2.1] at hOf
          have HOf := Lib.hid hOf
          clear hrm hst HT HAP HS8 HW8 hOf HM8
          simp only
          go_wp2_with fail
          refine HOf.out.mono ?_
          rintro e wb ⟨D', cD, rfl, hown, hSb⟩
          have HSb := Lib.hid (HS9.out.trans hSb)
          have HMb := Lib.hid (HM9.out.quiet hSb)
          have HWb := Lib.hid (HW9.out.quiet hSb)
          obtain ⟨g, hDg, _, _, hcell, _⟩ := own_row hown (Nat.zero_lt_succ _)
          have m0 := hcell 0 (.int .i64 (a : Int)) rfl
          have hgl : g < wb.heap.size := by have := own_lt hown g (by rw [ownBlock_slice, hDg]; rfl); exact this
          subst hDg
          clear hcell
          clear hSb HS9 HM9 HW9 HOf hown
          have HSm := Lib.hid (rsame_no wb X X2 A' A2 c' c2 0 sz _ _ _ ps HMb.out HWb.out (by rw [addP_len]; omega))
          rw [show ([⟨a, nn, 99⟩] : List Pc).length = 1 from rfl]
          go_wp2_with fail
          refine HSm.out.mono ?_
          rintro e wc ⟨rfl, hSc⟩
          replace HSb := Lib.hid (HSb.out.trans hSc)
          replace HMb := Lib.hid (HMb.out.quiet hSc)
          clear hSc HSm
          go_wp2_with fail
          refine (give_walk wc X A' c' 0 sz w.heap.size (addP ⟨a, nn, 99⟩ ps) HMb.out (by rw [addP_len]; omega) HL1.out.2.2.2 99).mono ?_
          rintro e wg ⟨rfl, hrg, hSg⟩
          rw [HL1.out.2.1, HL1.out.2.2.1]
          rw [HL1.out.1] at hrg
          have HSg : Hid (Step (fun _ => False) w wg) := HSb.out.trans' hSg (fun q hq => by
            rcases hq with hq | hq
            · exact .inr (by omega)
            · exact .inr (hge' q hq))
          have hT2 := take_walk wg X A' c' 0 sz w.heap.size ps hrg HSg.out.size (by omega) (by omega) (fun p hp => (HPS.out p hp).1) (by omega) nn al 98 (by omega) (by omega)
          rw [HT98.out] at hT2
          have HT2 := Lib.hid hT2
          clear hrg hSg hT2 HT98 HSb HMb HWb
          go_wp2_with fail
          refine HT2.out.mono ?_
          rintro e wh ⟨rfl, A3, c3, hrh, hSh, _⟩
          have hge3 : ∀ q, blkOf A3 = some q → w.heap.size ≤ q := hrh.ge
          have HSh : Hid (Step (fun _ => False) w wh) := HSg.out.trans' hSh (fun q hq => by
            rcases hq with hq | hq
            · exact .inr (by omega)
            · exact .inr (hge' q hq))
          have HG2 := Lib.hid (give_walk wh X A3 c3 0 sz w.heap.size (addP ⟨a, nn, 98⟩ ps) hrh (by rw [addP_len]; omega) HSN98.out 98)
          clear hrh hSh HT2 HSg
          simp only
          go_wp2_with fail
          refine HG2.out.mono ?_
          rintro e wi ⟨rfl, _, hSi⟩
          have HSi : Hid (Step (fun _ => False) w wi) := HSh.out.trans' hSi (fun q hq => by
            rcases hq with hq | hq
            · exact .inr (by omega)
            · exact .inr (hge3 q hq))
          clear hSi HSh HG2
          go_wp2_with fail
          go_ret
          exact ⟨rfl, HSi.out⟩
end Go.Proofs.Ytjpjobpkeejmcaa
