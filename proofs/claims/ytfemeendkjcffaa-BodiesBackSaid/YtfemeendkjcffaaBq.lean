/-
  Bq: BpE, BpF, BpG.
-/
import Derived.Test.YtfemeendkjcffaaBp
import Derived.Test.YtfemeendkjcffaaIs
import Derived.Test.YtfemeendkjcffaaGl
import Derived.Test.YtfemeendkjcffaaGbB
import Derived.Test.YtfemeendkjcffaaDa
import Derived.Test.YtfemeendkjcffaaPa
set_option linter.unusedVariables false
set_option linter.unusedSimpArgs false
/-! bodies: scan.Sub, abort.Within, bodies.inner of what may be. -/
namespace Go.Proofs.Ytfemeendkjcffaa
open Go.RowKit

theorem E_loc : ElemTy Try.prog 106 217 2 8 := elem_of Try.underlying106 (z := .agg #[.int .u32 0, .int .u8 0]) (by kernel_rfl) rfl (by decide)

set_option maxRecDepth 100000 in
set_option maxHeartbeats 1600000 in
theorem sub_ok (w : World) (X : Nat) (S : Nat → Prop) (D : Option Addr) (c : Nat) (bs : List UInt8) (k n : Nat) (h : Scn w X S D c bs k) (hn : k + n ≤ bs.length) (G : List UInt8) (hG : G = (bs.drop k).take n) :
    Calls Try.prog 183 #[.pointer (some ⟨X, 0, none⟩), .int .i64 (n : Int)] w fun e w' => ∃ Y S' D' c', e = .returned (.pointer (some ⟨Y, 0, none⟩)) ∧ Scn w' Y S' D' c' G 0 ∧ w.heap.size ≤ Y ∧ (∀ j, S' j → w.heap.size ≤ j) ∧ Scn w' X S D c bs (k + n) ∧ Step (fun i => i = X) w w' := by
  have HB := Lib.hid (bytes_ok w X S D c bs k n h hn G hG)
  have hsh := h.short
  have hGl : G.length = n := by rw [hG, List.length_take, List.length_drop]; omega
  clear h hG
  subst hGl
  go_enter Try.func183, Try.ntmps183
  go_wp2_with fail
  refine HB.out.mono ?_
  rintro e w1 ⟨D1, c1, rfl, hown, hs1, ht1⟩
  have HR := Lib.hid (Reads.of_own hown)
  have hsz := ht1.size
  go_wp2_with fail
  refine (over_walk _ D1 c1 G _ HR.out (by omega)).mono ?_
  rintro e w2 ⟨Y, S', D', c', rfl, hs2, hY, hS', ht2⟩
  go_wp2_with fail
  go_ret
  exact ⟨Y, S', D', c', rfl, hs2, by omega, (fun j hj => by have := hS' j hj; omega), hs1.quiet ht2, ht1.trans' ht2 (fun _ h => h.elim)⟩

set_option maxRecDepth 100000 in
set_option maxHeartbeats 1600000 in
theorem within_ok (g : FuncId) (caps : Array Value) (w : World) (F : Nat → Prop) (Q : World → Prop) (a : Int) (hF : ¬ F w.heap.size) (hcf : ∀ w : World, (callFunc g caps).run Try.prog w = .ok (.enter g caps) w)
    (H : Calls Try.prog g caps (w.alloc (.cells #[.int .i64 0, .int .i64 0] 85)) fun e w' => e = .returned (.tuple #[]) ∧ Step F (w.alloc (.cells #[.int .i64 0, .int .i64 0] 85)) w' ∧ Q w') :
    Calls Try.prog 184 #[.int .i64 a, .func (.func g) #[] caps] w fun e w' => e = .returned (.tuple #[]) ∧ ∃ w1, Step F (w.alloc (.cells #[.int .i64 0, .int .i64 0] 85)) w1 ∧ Q w1 ∧ Step (fun k => k = w.heap.size) w1 w' := by
  have HO := Lib.hid (out_ok g caps w F Q hF hcf H)
  clear H
  go_enter Try.func184, Try.ntmps184
  go_wp2_with fail
  refine HO.out.mono ?_
  rintro e w2 ⟨rfl, w1, h1, h2, h3⟩
  go_wp2_with fail
  go_end0
  exact ⟨rfl, w1, h1, h2, h3.alloc _⟩

set_option maxRecDepth 100000 in
set_option maxHeartbeats 6400000 in
theorem inner_ok (w : World) (X : Nat) (S : Nat → Prop) (D : Option Addr) (c : Nat) (bs : List UInt8) (h : Scn w X S D c bs 0) (lo : List (Nat × Nat)) (l : List Ig) (n : Nat) (HN : Hid (n = l.length)) (hnb : n ≤ 1000) (hok : ∀ x ∈ l, x.wf ∧ x.err = 0) (hin : ∀ x ∈ l, x.L.length = x.n ∧ ∀ y ∈ x.L, y < 4294967296) (hlo : lo.length ≤ 1000) (hb : ∀ g ∈ lo, g.1 < 4294967296 ∧ g.2 < 256) (hz1 : locF lo 0 ≠ none) (hz2 : errT lo = 0) (hz3 : shpF l = 0) (hd : bs = inL lo l) :
    Calls Try.prog 186 #[.pointer (some ⟨X, 0, none⟩)] w fun e w' => ∃ D1 c1 D2 c2 lb, e = .returned (.agg #[.slice D1 lo.length c1, .slice D2 n c2]) ∧ w'.ownsRow w.heap.size 217 2 (.slice D1 lo.length c1) lo.length (lo.flatMap loC) ∧ w'.ownsRow w.heap.size 50 4 (.slice D2 n c2) n (igs lb) ∧ InnI w' w.heap.size l lb ∧ Step (fun i => i = X) w w' := by
  have hd0 : bs.drop 0 = uintF lo.length ++ (lo.flatMap putG ++ l.flatMap Ig.put) := by rw [List.drop_zero, hd, inL, List.append_assoc]
  have hrd : Hid (rdU (bs.drop 0) = (lo.length, (uintF lo.length).length, 0)) := by rw [Hid, hd0]; exact (rdU_back lo.length _ (by omega)).1
  have HD : Hid (bs.drop (0 + (uintF lo.length).length) = lo.flatMap putG ++ l.flatMap Ig.put) := drop_app hd0
  have HLn : Hid (0 + (uintF lo.length).length + (lo.flatMap putG).length + (l.flatMap Ig.put).length = bs.length) := by
    have h5 := congrArg List.length hd0
    rw [List.drop_zero, List.length_append, List.length_append] at h5
    rw [Hid]
    omega
  have hxl := h.lt
  have hlow := h.low
  have HBd := Lib.hid hb
  have HET := Lib.hid (errT_all lo hz2)
  have HGB := Lib.hid (fun w' (k : Nat) (h' : Scn w' X S D c bs k) (hk : bs.drop k = l.flatMap Ig.put) => gbody_at w' X S D c bs k h' l n HN hnb hok hin hz3 [] (by rw [List.append_nil]; exact hk))
  obtain ⟨v, hv⟩ : ∃ v, locF lo 0 = some v := by
    cases h : locF lo 0 with
    | none => exact absurd h hz1
    | some v => exact ⟨v, rfl⟩
  have HCt : Hid (∀ w' A cc Sx, Reads w' Sx 2 A lo.length (lo.flatMap loC) → Calls Try.prog 66 #[.slice A lo.length cc] w' fun e w'' => e = .returned (.tuple #[.int .i64 (v : Int), .int .i64 0]) ∧ Step (fun _ => False) w' w'') := fun w' A cc Sx hr => by
    have := count_walk w' A cc lo Sx hr (fun g hg => (hb g hg).1) (by omega)
    rw [hv] at this
    exact this
  obtain ⟨k2, hk2⟩ : ∃ k2, k2 = 0 + (uintF lo.length).length := ⟨_, rfl⟩
  rw [← hk2] at HD HLn
  have HK2 := Lib.hid hk2
  have HH := Lib.hid (h.alloc (.cells #[.slice none 0 0, .slice none 0 0] 176) |>.alloc (.cells #[.slice none 0 0, .slice none 0 0] 176))
  have HB0 := Lib.hid ((Blk.new w 176 #[.slice none 0 0, .slice none 0 0]).alloc (.cells #[.slice none 0 0, .slice none 0 0] 176))
  have HB1 : Hid (Blk ((w.alloc (.cells #[.slice none 0 0, .slice none 0 0] 176)).alloc (.cells #[.slice none 0 0, .slice none 0 0] 176)) (w.heap.size + 1) 176 #[.slice none 0 0, .slice none 0 0]) := by
    have h1 := Blk.new (w.alloc (.cells #[.slice none 0 0, .slice none 0 0] 176)) 176 #[.slice none 0 0, .slice none 0 0]
    rw [show (w.alloc (.cells #[.slice none 0 0, .slice none 0 0] 176)).heap.size = w.heap.size + 1 by simp] at h1
    exact h1
  have HT0 : Hid (Step (fun i => i = X) w ((w.alloc (.cells #[.slice none 0 0, .slice none 0 0] 176)).alloc (.cells #[.slice none 0 0, .slice none 0 0] 176))) := (Step.refl.alloc _).alloc _
  clear h hd hd0 hk2 hb hz1 hz2 hz3 hok hin hv
  go_enter Try.func186, Try.ntmps186
  go_wp2_with fail
  obtain ⟨W, hW⟩ : ∃ W, W = (w.alloc (.cells #[.slice none 0 0, .slice none 0 0] 176)).alloc (.cells #[.slice none 0 0, .slice none 0 0] 176) := ⟨_, rfl⟩
  rw [← hW] at HB0 HB1 HH HT0 ⊢
  obtain ⟨R0, hR0⟩ : ∃ R0, R0 = w.heap.size := ⟨_, rfl⟩
  obtain ⟨C0, hC0⟩ : ∃ C0, C0 = w.heap.size + 1 := ⟨_, rfl⟩
  rw [← hC0] at HB1 ⊢
  rw [← hR0] at HB0
  simp only [← hR0]
  have hRC : C0 = R0 + 1 := by omega
  have hRl : w.heap.size ≤ R0 := by omega
  have hCl : w.heap.size ≤ C0 := by omega
  have hXR : X < R0 := by omega
  have hXC : X < C0 := by omega
  have hRC2 : R0 < C0 := by omega
  clear hW hR0 hC0 hRC
  refine (at_walk _ X S D c bs 0 HH.out).mono ?_
  rintro e wS ⟨rfl, hwS⟩
  subst wS
  go_wp2_with fail
  refine (count_ok _ X S D c bs 0 HH.out lo.length _ hrd.out (by omega)).mono ?_
  rintro e w9 ⟨rfl, hs, ht⟩
  have HT9 := Lib.hid (HT0.out.trans ht)
  have HB9 := Lib.hid (HB1.out.step ht (show C0 ≠ X by omega))
  have HR9 := Lib.hid (HB0.out.step ht (show R0 ≠ X by omega))
  have HO9 : Hid (w9.ownsRow w.heap.size 217 2 (.slice none 0 0) 0 ((lo.take 0).flatMap loC)) := World.ownsRow_nil _ _ _ _
  have HK9 : Hid (Scn w9 X S D c bs (k2 + ((lo.take 0).flatMap putG).length)) := by rw [HK2.out]; exact hs
  clear hs ht hrd HH HB0 HB1 HT0
  go_wp2_with fail
  go_loopw [11] (fun iv wr => ∃ (j c2 : Nat) (D2 : Option Addr), j ≤ lo.length ∧ iv = .int .i64 (j : Int) ∧ Hid (Blk wr C0 176 #[.slice D2 j c2, .slice none 0 0]) ∧ Hid (Blk wr R0 176 #[.slice none 0 0, .slice none 0 0]) ∧
    Hid (wr.ownsRow w.heap.size 217 2 (.slice D2 j c2) j ((lo.take j).flatMap loC)) ∧ Hid (Scn wr X S D c bs (k2 + ((lo.take j).flatMap putG).length)) ∧ Hid (Step (fun i => i = X) w wr)) (fun iv _ => lo.length + 1 - (intOf iv).toNat)
  case atStart => exact ⟨0, 0, none, by omega, rfl, HB9, HR9, HO9, HK9, HT9⟩
  case round =>
    obtain ⟨j, c2, D2, hj, rfl, HBj, HRj, HOj, HKj, HTj⟩ := hrel
    clear HO9 HK9 HT9 HB9 HR9
    have hDX : blkOf D2 ≠ some X := by rw [← ownBlock_slice D2 j c2]; exact own_tag HOj.out HKj.out.blk (by decide)
    have hDge : ∀ q, blkOf D2 = some q → w.heap.size ≤ q := fun q hq => own_ge HOj.out q (by rw [ownBlock_slice]; exact hq)
    have x0 := HBj.out.cell 0
    simp at x0
    by_cases hlt : j < lo.length
    · have g1 : (j : Int) < (lo.length : Int) := by omega
      have hw1 := IntWalk.i64_in ((j : Int) + 1) (by omega)
      have hg := HBd.out lo[j] (List.getElem_mem hlt)
      have hvt := HET.out lo[j] (List.getElem_mem hlt)
      have hdj : bs.drop (k2 + ((lo.take j).flatMap putG).length) = uintF lo[j].1 ++ (UInt8.ofNat lo[j].2 :: ((lo.drop (j + 1)).flatMap putG ++ l.flatMap Ig.put)) := by
        have e1 : (lo.drop j).flatMap putG = putG lo[j] ++ (lo.drop (j + 1)).flatMap putG := by rw [List.drop_eq_getElem_cons hlt, List.flatMap_cons]
        have e2 : lo.flatMap putG = (lo.take j).flatMap putG ++ (lo.drop j).flatMap putG := by rw [← List.flatMap_append, List.take_append_drop]
        have e3 : bs.drop (k2 + ((lo.take j).flatMap putG).length) = (lo.drop j).flatMap putG ++ l.flatMap Ig.put := by
          refine drop_app ?_
          rw [HD.out, e2, List.append_assoc]
        rw [e3, e1, putG]
        simp
      have HK2' : Hid (k2 + ((lo.take (j + 1)).flatMap putG).length = k2 + ((lo.take j).flatMap putG).length + (uintF lo[j].1).length + 1) := by
        rw [Hid, List.take_succ_eq_append_getElem hlt, List.flatMap_append, List.length_append]
        simp [putG]
        omega
      have HU : Hid ((lo.take (j + 1)).flatMap loC = (lo.take j).flatMap loC ++ loC lo[j]) := by
        rw [Hid, List.take_succ_eq_append_getElem hlt, List.flatMap_append]
        simp
      generalize lo[j] = g at *
      obtain ⟨gn, gt⟩ := g
      simp only [loC] at HU
      simp only at hg hvt hdj HK2'
      obtain ⟨kj, hkj⟩ : ∃ kj, kj = k2 + ((lo.take j).flatMap putG).length := ⟨_, rfl⟩
      rw [← hkj] at HKj hdj HK2'
      obtain ⟨F2, hF2⟩ : ∃ F2 : Nat → Prop, F2 = fun q => q = X ∨ blkOf D2 = some q := ⟨_, rfl⟩
      have HF2 := Lib.hid hF2
      have hFc : ¬ F2 C0 := by
        rw [hF2]
        rintro (h1 | h1)
        · omega
        · exact own_tag HOj.out HBj.out (by decide) (by rw [ownBlock_slice]; exact h1)
      have hFr : ¬ F2 R0 := by
        rw [hF2]
        rintro (h1 | h1)
        · omega
        · exact own_tag HOj.out HRj.out (by decide) (by rw [ownBlock_slice]; exact h1)
      have d0 := cls_cell (F := F2) (w0 := wr) x0 hFc
      clear hF2 hkj
      go_wp2_with fail
      clear x0
      have hgn := IntWalk.u32_in (gn : Int) (by omega)
      refine Mix.wp_region_mix [3, 5, 7, 8, 10] [3, 5, 7, 8] (Step F2 wr) (by kernel_rfl) (by kernel_rfl) Step.refl.drew (fun hcls => ?_)
      refine Mix.wpL_reads 3 (by rfl) ?_
      simp only [List.take_succ_cons, List.drop_succ_cons, List.take_zero, List.drop_zero]
      repeat (go_big_quiet_step (fail))
      refine wpQuiet_nil ?_
      refine Mix.wpL_op (by rfl) (fun K hK => ?_)
      go_simp
      refine (index_at (HKj.out.quiet Step.refl.drew) (by omega) hdj).mono ?_
      rintro e wa ⟨rfl, hsa, hta⟩
      have HKa := Lib.hid hsa
      have HTa : Hid (Step F2 wr wa) := (Step.refl.drew.trans hta).mono fun q _ hq => by rw [HF2.out]; exact .inl hq
      have HOa := Lib.hid (own_step (own_drew HOj.out) hta (fun q hq e => hDX (by rw [← ownBlock_slice D2 j c2, hq, e])))
      refine hK _ _ (fun hlt => Mix.cl HTa.out) ?_
      clear hK K hsa hta
      refine Mix.wpL_reads 1 (by rfl) ?_
      simp only [List.take_succ_cons, List.drop_succ_cons, List.take_zero, List.drop_zero]
      repeat (go_big_quiet_step (fail))
      refine wpQuiet_nil ?_
      refine Mix.wpL_op (by rfl) (fun K hK => ?_)
      go_simp
      refine (valtype_ok wa X S D c bs _ HKa.out gt _ (by omega) hvt (drop_app hdj)).mono ?_
      rintro e wb ⟨rfl, hsb, htb⟩
      have HKb := Lib.hid hsb
      have HTb : Hid (Step F2 wr wb) := HTa.out.trans (htb.mono fun q _ hq => by rw [HF2.out]; exact .inl hq)
      have HOb := Lib.hid (own_step HOa.out htb (fun q hq e => hDX (by rw [← ownBlock_slice D2 j c2, hq, e])))
      refine hK _ _ (fun hlt => Mix.cl HTb.out) ?_
      clear hK K hsb htb HKa HOa HTa
      refine Mix.wpL_reads 1 (by rfl) ?_
      simp only [List.take_succ_cons, List.drop_succ_cons, List.take_zero, List.drop_zero]
      repeat (go_big_quiet_step (fail))
      refine wpQuiet_nil ?_
      refine Mix.wpL_op (by rfl) (fun K hK => ?_)
      go_simp
      refine hK _ _ (fun hlt => Mix.cl (HTb.out.alloc _)) ?_
      clear hK K
      have HKc := Lib.hid (HKb.out.alloc (.cells #[.int .u32 (gn : Int), .int .u8 (gt : Int)] 217))
      have HOc := Lib.hid (HOb.out.alloc (.cells #[.int .u32 (gn : Int), .int .u8 (gt : Int)] 217))
      have HTc := Lib.hid (HTb.out.alloc (.cells #[.int .u32 (gn : Int), .int .u8 (gt : Int)] 217))
      have hrn := reads_new wb #[Value.int .u32 (gn : Int), .int .u8 (gt : Int)] 217 2 1 rfl
      have hone : ∀ u ∈ #[Value.int .u32 (gn : Int), .int .u8 (gt : Int)].toList, u.oneCell' = true := by simp [Value.oneCell']
      have hm : j + 1 ≤ maxLen := by unfold maxLen; omega
      have hsz : w.heap.size ≤ (wb.alloc (.cells #[.int .u32 (gn : Int), .int .u8 (gt : Int)] 217)).heap.size := Nat.le_trans HTj.out.size HTc.out.size
      refine Mix.wpL_op (by rfl) (fun K hK => ?_)
      refine step_append_src _ (by rfl) _ _ (by rfl) E_loc (by rfl) HOc.out (by rfl) hrn hone hm (by omega) hsz ?_
      intro D3 c3 wd hown hgrow hat
      have HTd : Hid (Step F2 wr wd) := HTc.out.grown hgrow (fun q hq => .inl (by rw [HF2.out]; exact .inr hq))
      refine hK _ _ (fun hlt => Mix.cl HTd.out) ?_
      clear hK K
      simp only [Act.put, List.setIfInBounds_toArray, List.set_cons_succ, List.set_cons_zero]
      have HKd := Lib.hid (HKc.out.step (F := fun q => blkOf D2 = some q) (Step.refl.grown hgrow (fun q hq => .inl hq)) hDX (fun q hq hd => by have := hlow q hq; have := hDge q hd; omega))
      have HOd := Lib.hid hown
      have HBd' := Lib.hid (HBj.out.step HTd.out hFc)
      have HRd := Lib.hid (HRj.out.step HTd.out hFr)
      have y0 := HBd'.out.cell 0
      have z0 := HBd'.out.frozen 0
      simp at y0
      have hTw : Step (fun i => i = X) w wd := HTj.out.trans' HTd.out (fun q hq => by
        rw [HF2.out] at hq
        rcases hq with hq | hq
        · exact .inl hq
        · exact .inr (hDge q hq))
      have HTw := Lib.hid hTw
      clear hown hgrow hat HKc HOc HTc hrn HKb HOb HTb hTw
      refine Mix.wpL_reads 1 (by rfl) ?_
      simp only [List.take_succ_cons, List.drop_succ_cons, List.take_zero, List.drop_zero]
      repeat (go_big_quiet_step (fail))
      refine wpQuiet_nil ?_
      refine Mix.wpL_op (by rfl) (fun K hK => ?_)
      go_simp
      refine hK _ _ (fun hlt => absurd hlt (by decide)) ?_
      clear hK K
      refine Mix.wpL_end ?_
      have HB9 := HBd'.out.set_ 0 (.slice D3 (j + 1) c3)
      simp at HB9
      have HB9 := Lib.hid HB9
      have HR9 := Lib.hid (HRd.out.far (p := ⟨C0, 0, none⟩) (show R0 ≠ C0 by omega) (.slice D3 (j + 1) c3))
      have HO9 := Lib.hid (own_set HOd.out (p := ⟨C0, 0, none⟩) (own_tag HOd.out HBd'.out (by decide)) (.slice D3 (j + 1) c3))
      have HK9 := Lib.hid (HKd.out.step (F := fun q => q = C0) ((Step.refl (F := fun q => q = C0)).setCell (p := ⟨C0, 0, none⟩) (.inl rfl) (.slice D3 (j + 1) c3)) (show X ≠ C0 by omega) (fun q hq e => by have := hlow q hq; omega))
      have HT9 := Lib.hid (HTw.out.setCell (p := ⟨C0, 0, none⟩) (.inr (by show w.heap.size ≤ C0; omega)) (.slice D3 (j + 1) c3))
      rw [show kj + (uintF gn).length + 1 = k2 + ((lo.take (j + 1)).flatMap putG).length from HK2'.out.symm] at HK9
      rw [show (lo.take j).flatMap loC ++ #[Value.int .u32 (gn : Int), .int .u8 (gt : Int)].toList = (lo.take (j + 1)).flatMap loC from HU.out.symm] at HO9
      clear y0 z0 HBd' HRd HOd HKd HTw HTd
      go_wp2_with fail
      go_roundw
      case rel => exact ⟨j + 1, c3, D3, by omega, by rw [Int.natCast_add]; rfl, HB9, HR9, HO9, HK9, HT9⟩
      case measure => simp [intOf]; omega
    · obtain rfl : j = lo.length := by omega
      have hLt : lo.take lo.length = lo := List.take_length
      rw [hLt] at HOj HKj
      have hdj : bs.drop (k2 + (lo.flatMap putG).length) = l.flatMap Ig.put := drop_app HD.out
      have HGB := Lib.hid (fun w' h' => HGB.out w' _ h' hdj)
      have HLn2 : Hid (k2 + (lo.flatMap putG).length + (l.flatMap Ig.put).length = bs.length) := HLn.out
      obtain ⟨kj, hkj⟩ : ∃ kj, kj = k2 + (lo.flatMap putG).length := ⟨_, rfl⟩
      rw [← hkj] at HKj HGB HLn2
      clear hkj hdj hLt
      go_wp2_with fail
      refine (HCt.out _ D2 c2 _ (Reads.of_own HOj.out)).mono ?_
      rintro e wa ⟨rfl, hSa⟩
      have HBa := Lib.hid (HBj.out.step hSa id)
      have HRa := Lib.hid (HRj.out.step hSa id)
      have HOa := Lib.hid (own_step HOj.out hSa (fun _ _ => id))
      have HKa := Lib.hid (HKj.out.quiet hSa)
      have HTa := Lib.hid (HTj.out.trans' hSa (fun _ h => h.elim))
      clear hSa HBj HRj HOj HKj HTj x0
      go_wp2_with fail
      refine (aunless_ok _ _ _).mono ?_
      rintro e wS ⟨rfl, hwS⟩
      subst wS
      go_wp2_with fail
      refine (HGB.out _ HKa.out).mono ?_
      rintro e wb ⟨D5, c5, lb, rfl, hown5, hJ5, hs5, hSb⟩
      have HBb := Lib.hid (HBa.out.step hSb (show C0 ≠ X by omega))
      have HRb := Lib.hid (HRa.out.step hSb (show R0 ≠ X by omega))
      have HOb := Lib.hid (own_step HOa.out hSb (fun q hq e => hDX (by rw [← ownBlock_slice D2 lo.length c2, hq, e])))
      have hbase : ∀ (e : TypeId) (D : Option Addr) (m c s : Nat) (xs : List Value), wb.ownsRow wa.heap.size e s (.slice D m c) m xs → wb.ownsRow w.heap.size e s (.slice D m c) m xs := fun e D m c s xs h => own_base h (fun q hq => Nat.le_trans HTa.out.size (own_ge h q hq))
      have HIb := Lib.hid (hbase _ _ _ _ _ _ hown5)
      have HJb : Hid (InnI wb w.heap.size l lb) := ⟨hJ5.1, fun i x y hx hy => ⟨(hJ5.2 i x y hx hy).1, hbase _ _ _ _ _ _ (hJ5.2 i x y hx hy).2⟩⟩
      have HKb : Hid (Scn wb X S D c bs bs.length) := by have h5 := hs5; rw [HLn2.out] at h5; exact h5
      have HTb := Lib.hid (HTa.out.trans hSb)
      clear hSb hown5 hJ5 hs5 hbase HBa HRa HOa HKa HTa HGB
      have y0 := HBb.out.cell 0
      have y1 := HBb.out.cell 1
      have z1 := HBb.out.frozen 1
      simp at y0 y1
      have HBc := HBb.out.set_ 1 (.slice D5 n c5)
      simp at HBc
      have HBc := Lib.hid HBc
      have hcs : ∀ (e : TypeId) (D : Option Addr) (m c s : Nat) (xs : List Value), e ≠ 176 → wb.ownsRow w.heap.size e s (.slice D m c) m xs → (wb.setCell ⟨C0, 1, none⟩ (.slice D5 n c5)).ownsRow w.heap.size e s (.slice D m c) m xs := fun e D m c s xs hne h => own_set h (p := ⟨C0, 1, none⟩) (own_tag h HBb.out hne) _
      have HOc := Lib.hid (hcs _ _ _ _ _ _ (by decide) HOb.out)
      have HIc := Lib.hid (hcs _ _ _ _ _ _ (by decide) HIb.out)
      have HJc : Hid (InnI (wb.setCell ⟨C0, 1, none⟩ (.slice D5 n c5)) w.heap.size l lb) := HJb.out.turn (fun D m c xs h => hcs _ D m c _ xs (by decide) h)
      have HRc := Lib.hid (HRb.out.far (p := ⟨C0, 1, none⟩) (show R0 ≠ C0 by omega) (.slice D5 n c5))
      have HKc := Lib.hid (HKb.out.step (F := fun q => q = C0) ((Step.refl (F := fun q => q = C0)).setCell (p := ⟨C0, 1, none⟩) (.inl rfl) (.slice D5 n c5)) (show X ≠ C0 by omega) (fun q hq e => by have := hlow q hq; omega))
      have HTc := Lib.hid (HTb.out.setCell (p := ⟨C0, 1, none⟩) (.inr (by show w.heap.size ≤ C0; omega)) (.slice D5 n c5))
      clear hcs HOb HIb HJb HRb HKb HTb
      go_wp2_with fail
      clear y0 y1 z1 HBb
      refine (send_ok _ X S D c bs HKc.out).mono ?_
      rintro e wz ⟨rfl, q, hwz⟩
      have hq9 : Step (fun _ => False) (wb.setCell ⟨C0, 1, none⟩ (.slice D5 n c5)) wz := by rw [hwz]; exact Step.refl.drewN q
      have HBd := Lib.hid (HBc.out.step hq9 id)
      have HRd := Lib.hid (HRc.out.step hq9 id)
      have HOd := Lib.hid (own_step HOc.out hq9 (fun _ _ => id))
      have HId := Lib.hid (own_step HIc.out hq9 (fun _ _ => id))
      have HJd := Lib.hid (HJc.out.turn (w' := wz) (fun D m c xs h => own_step h hq9 (fun _ _ => id)))
      have HTd := Lib.hid (HTc.out.trans' hq9 (fun _ h => h.elim))
      clear hwz hq9 HBc HRc HOc HIc HJc HTc HKc
      have y0 := HBd.out.cell 0
      have y1 := HBd.out.cell 1
      simp at y0 y1
      have r0 := HRd.out.cell 0
      have r1 := HRd.out.cell 1
      simp at r0 r1
      have f0 := HRd.out.frozen 0
      have f1 := HRd.out.frozen 1
      obtain ⟨W8, hW8⟩ : ∃ W8, W8 = (wz.setCell ⟨R0, 0, none⟩ (.slice D2 lo.length c2)).setCell ⟨R0, 1, none⟩ (.slice D5 n c5) := ⟨_, rfl⟩
      have HR8 : Hid (Blk W8 R0 176 #[.slice D2 lo.length c2, .slice D5 n c5]) := by
        have hq := (HRd.out.set_ 0 (.slice D2 lo.length c2)).set_ 1 (.slice D5 n c5)
        rw [← hW8] at hq
        simp at hq
        exact hq
      have hcs : ∀ (e : TypeId) (D : Option Addr) (m c s : Nat) (xs : List Value), e ≠ 176 → wz.ownsRow w.heap.size e s (.slice D m c) m xs → W8.ownsRow w.heap.size e s (.slice D m c) m xs := fun e D m c s xs hne h => by
        rw [hW8]
        exact own_set (own_set h (p := ⟨R0, 0, none⟩) (own_tag h HRd.out hne) _) (p := ⟨R0, 1, none⟩) (by have := own_tag h HRd.out hne; exact this) _
      have HO8 := Lib.hid (hcs _ _ _ _ _ _ (by decide) HOd.out)
      have HI8 := Lib.hid (hcs _ _ _ _ _ _ (by decide) HId.out)
      have HJ8 := Lib.hid (HJd.out.turn (fun D m c xs h => hcs _ D m c _ xs (by decide) h))
      have HT8 : Hid (Step (fun i => i = X) w W8) := by
        rw [hW8]
        exact (HTd.out.setCell (p := ⟨R0, 0, none⟩) (.inr (by show w.heap.size ≤ R0; omega)) _).setCell (p := ⟨R0, 1, none⟩) (.inr (by show w.heap.size ≤ R0; omega)) _
      have HW8 := Lib.hid hW8
      clear hW8 hcs
      go_wp2_with fail
      rw [← HW8.out]
      have q0 := HR8.out.cell 0
      have q1 := HR8.out.cell 1
      simp at q0 q1
      refine bodyPost_ret (v := .agg #[.slice D2 lo.length c2, .slice D5 n c5]) (by simp [results, Try.results186, go_sem, q0, q1]) rfl ?_
      exact ⟨D2, c2, D5, c5, lb, rfl, HO8.out, HI8.out, HJ8.out, HT8.out⟩
end Go.Proofs.Ytfemeendkjcffaa
/-! bodies: Get of what may be. -/
namespace Go.Proofs.Ytfemeendkjcffaa
open Go.RowKit

/-- What a body is read to. -/
def CodTo (B : Nat) (w' : World) (lo : List (Nat × Nat)) (l : List Ig) (n : Nat) (D1 : Option Addr) (c1 : Nat) (D2 : Option Addr) (c2 : Nat) (lb : List Ig) : Prop :=
  w'.ownsRow B 217 2 (.slice D1 lo.length c1) lo.length (lo.flatMap loC) ∧ w'.ownsRow B 50 4 (.slice D2 n c2) n (igs lb) ∧ InnI w' B l lb
theorem CodTo.turn {B B' : Nat} {w w' : World} {lo : List (Nat × Nat)} {l : List Ig} {n c1 c2 : Nat} {D1 D2 : Option Addr} {lb : List Ig} (h : CodTo B w lo l n D1 c1 D2 c2 lb)
    (ht : ∀ (e : TypeId) (D : Option Addr) (m c s : Nat) (xs : List Value), (e = 217 ∨ e = 50 ∨ e = 51) → w.ownsRow B e s (.slice D m c) m xs → w'.ownsRow B' e s (.slice D m c) m xs) : CodTo B' w' lo l n D1 c1 D2 c2 lb :=
  ⟨ht _ _ _ _ _ _ (.inl rfl) h.1, ht _ _ _ _ _ _ (.inr (.inl rfl)) h.2.1, h.2.2.1, fun i x y hx hy => ⟨(h.2.2.2 i x y hx hy).1, ht _ _ _ _ _ _ (.inr (.inr rfl)) (h.2.2.2 i x y hx hy).2⟩⟩

set_option maxRecDepth 100000 in
set_option maxHeartbeats 3200000 in
theorem getclo_ok (w : World) (Y pb C6 : Nat) (S : Nat → Prop) (D : Option Addr) (c : Nat) (bs : List UInt8) (h : Scn w Y S D c bs 0) (lo : List (Nat × Nat)) (l : List Ig) (n : Nat) (HN : Hid (n = l.length)) (hnb : n ≤ 1000) (hok : ∀ x ∈ l, x.wf ∧ x.err = 0) (hin : ∀ x ∈ l, x.L.length = x.n ∧ ∀ y ∈ x.L, y < 4294967296) (hlo : lo.length ≤ 1000) (hb : ∀ g ∈ lo, g.1 < 4294967296 ∧ g.2 < 256) (hz1 : locF lo 0 ≠ none) (hz2 : errT lo = 0) (hz3 : shpF l = 0) (hd : bs = inL lo l)
    (hp : Blk w pb 79 #[.pointer (some ⟨Y, 0, none⟩)]) (hc : Blk w C6 176 #[.slice none 0 0, .slice none 0 0]) :
    Calls Try.prog 185 #[.pointer (some ⟨pb, 0, none⟩), .pointer (some ⟨C6, 0, none⟩)] w fun e w' => e = .returned (.tuple #[]) ∧ Step (fun i => i = Y ∨ i = C6) w w' ∧ ∃ D1 c1 D2 c2 lb, Blk w' C6 176 #[.slice D1 lo.length c1, .slice D2 n c2] ∧ CodTo w.heap.size w' lo l n D1 c1 D2 c2 lb := by
  have HI := Lib.hid (inner_ok w Y S D c bs h lo l n HN hnb hok hin hlo hb hz1 hz2 hz3 hd)
  have hYC : C6 ≠ Y := fun e => by
    subst e
    exact absurd (Blk.tag hc h.blk) (by decide)
  have HC := Lib.hid hc
  have hlt := hc.lt
  have p0 := hp.cell 0
  simp at p0
  clear h hp hc hd hok hin hb hz1 hz2 hz3
  go_enter Try.func185, Try.ntmps185
  go_wp2_with fail
  refine HI.out.mono ?_
  rintro e w1 ⟨D1, c1, D2, c2, lb, rfl, h1, h2, h3, hs⟩
  have HC1 := Lib.hid (HC.out.step hs hYC)
  have r0 := HC1.out.cell 0
  have r1 := HC1.out.cell 1
  simp at r0 r1
  have f0 := HC1.out.frozen 0
  have f1 := HC1.out.frozen 1
  obtain ⟨W8, hW8⟩ : ∃ W8, W8 = (w1.setCell ⟨C6, 0, none⟩ (.slice D1 lo.length c1)).setCell ⟨C6, 1, none⟩ (.slice D2 n c2) := ⟨_, rfl⟩
  have HR8 : Hid (Blk W8 C6 176 #[.slice D1 lo.length c1, .slice D2 n c2]) := by
    have hq := (HC1.out.set_ 0 (.slice D1 lo.length c1)).set_ 1 (.slice D2 n c2)
    rw [← hW8] at hq
    simp at hq
    exact hq
  have HQ : Hid (CodTo w.heap.size W8 lo l n D1 c1 D2 c2 lb) := CodTo.turn (w := w1) ⟨h1, h2, h3⟩ (fun e D m c s xs he h => by
    have hne : e ≠ 176 := by rcases he with rfl | rfl | rfl <;> decide
    rw [hW8]
    exact own_set (own_set h (p := ⟨C6, 0, none⟩) (own_tag h HC1.out hne) _) (p := ⟨C6, 1, none⟩) (by have := own_tag h HC1.out hne; exact this) _)
  have HT8 : Hid (Step (fun i => i = Y ∨ i = C6) w W8) := by
    rw [hW8]
    exact ((hs.mono fun _ _ h => .inl h).setCell (p := ⟨C6, 0, none⟩) (.inl (.inr rfl)) _).setCell (p := ⟨C6, 1, none⟩) (.inl (.inr rfl)) _
  have HW8 := Lib.hid hW8
  clear hW8 h1 h2 h3 hs HC1 HC
  go_wp2_with fail
  go_end0
  rw [← HW8.out]
  exact ⟨rfl, HT8.out, D1, c1, D2, c2, lb, HR8.out, HQ.out⟩

set_option maxRecDepth 100000 in
set_option maxHeartbeats 6400000 in
theorem bget_ok (w : World) (X : Nat) (S : Nat → Prop) (D : Option Addr) (c : Nat) (bs : List UInt8) (k : Nat) (h : Scn w X S D c bs k) (lo : List (Nat × Nat)) (l : List Ig) (n : Nat) (HN : Hid (n = l.length)) (hnb : n ≤ 100) (hok : ∀ x ∈ l, x.wf ∧ x.err = 0) (hsm : ∀ x ∈ l, x.L.length ≤ 100) (hin : ∀ x ∈ l, x.L.length = x.n ∧ ∀ y ∈ x.L, y < 4294967296) (hlo : lo.length ≤ 1000) (hb : ∀ g ∈ lo, g.1 < 4294967296 ∧ g.2 < 256) (hz1 : locF lo 0 ≠ none) (hz2 : errT lo = 0) (hz3 : shpF l = 0) (rest : List UInt8) (hd : bs.drop k = putC lo l ++ rest) :
    Calls Try.prog 126 #[.pointer (some ⟨X, 0, none⟩)] w fun e w' => ∃ D1 c1 D2 c2 lb, e = .returned (.agg #[.slice D1 lo.length c1, .slice D2 n c2]) ∧ CodTo w.heap.size w' lo l n D1 c1 D2 c2 lb ∧ Scn w' X S D c bs (k + (putC lo l).length) ∧ Step (fun i => i = X) w w' := by
  have hlen := inL_len lo l hsm
  rw [← HN.out] at hlen
  obtain ⟨Y, hY⟩ : ∃ Y, Y = inL lo l := ⟨_, rfl⟩
  have hPC : putC lo l = uintF Y.length ++ Y := by rw [putC, ← hY]
  rw [hPC, List.append_assoc] at hd
  rw [← hY] at hlen
  obtain ⟨G, hG⟩ : ∃ G, G = bs.drop (k + (uintF Y.length).length) := ⟨_, rfl⟩
  have hGd : G = Y ++ rest := by rw [hG]; exact drop_app hd
  have hgl := num_len Y.length
  have hle : k + (uintF Y.length).length + Y.length ≤ bs.length := by
    have h1 := congrArg List.length hGd
    rw [hG, List.length_drop, List.length_append] at h1
    have h2 := congrArg List.length hd
    rw [List.length_drop, List.length_append, List.length_append] at h2
    have h3 := h.le
    omega
  have hGY : Y = (bs.drop (k + (uintF Y.length).length)).take Y.length := by rw [← hG, hGd, List.take_left]
  have HIx := Lib.hid (index_at h (v := Y.length) (by omega) hd)
  have HSb := Lib.hid (fun w' (h' : Scn w' X S D c bs (k + (uintF Y.length).length)) => sub_ok w' X S D c bs _ Y.length h' hle Y hGY)
  have HGc := Lib.hid (fun w' Yb pb C6 S' D' c' (h' : Scn w' Yb S' D' c' Y 0) hp hc => getclo_ok w' Yb pb C6 S' D' c' Y h' lo l n HN (by omega) hok hin hlo hb hz1 hz2 hz3 hY hp hc)
  have hxl := h.lt
  have hlow := h.low
  have hsh := h.short
  obtain ⟨kp, hkp⟩ : ∃ kp, kp = k + (uintF Y.length).length := ⟨_, rfl⟩
  have hkpe : k + (putC lo l).length = kp + Y.length := by rw [hPC, List.length_append, hkp]; omega
  rw [hkpe]
  rw [← hkp] at HIx HSb hle
  have hb1 : (Y.length : Int) ≤ (bs.length : Int) - (kp : Int) := by omega
  have hb2 : IntKind.u64.wrap ((bs.length : Int) - (kp : Int)) = (bs.length : Int) - (kp : Int) := IntWalk.u64_in _ (by omega)
  have hb3 : IntKind.u64.wrap (Y.length : Int) = (Y.length : Int) := IntWalk.u64_in _ (by omega)
  have hb4 : IntKind.i64.wrap (Y.length : Int) = (Y.length : Int) := IntWalk.i64_in _ (by omega)
  have hb5 : decide ((Y.length : Int) ≤ (bs.length : Int) - (kp : Int)) = true := decide_eq_true hb1
  have HH := Lib.hid (h.alloc (.cells #[.slice none 0 0, .slice none 0 0] 176))
  have HIx : Hid (∀ w', Scn w' X S D c bs k → Calls Try.prog 175 #[.pointer (some ⟨X, 0, none⟩)] w' fun e w'' => e = .returned (.int .u32 (Y.length : Int)) ∧ Scn w'' X S D c bs kp ∧ Step (fun i => i = X) w' w'') := fun w' h' => by
    have := index_at h' (v := Y.length) (by omega) hd
    rw [hkp]
    exact this
  have HB0 := Lib.hid (Blk.new w 176 #[.slice none 0 0, .slice none 0 0])
  have HT0 : Hid (Step (fun i => i = X) w (w.alloc (.cells #[.slice none 0 0, .slice none 0 0] 176))) := Step.refl.alloc _
  have hmf : ∀ (fn : Fn) (first cap : Array Value) (w : World), (Instr.makeFunc fn first cap).run Try.prog w = .ok (.func fn first cap) w := fun _ _ _ _ => rfl
  clear h hd hG hGd hGY hok hsm hin hb hz1 hz2 hz3 hkp hkpe hPC hY
  go_enter Try.func126, Try.ntmps126
  go_wp2_with fail
  obtain ⟨W, hW⟩ : ∃ W, W = w.alloc (.cells #[.slice none 0 0, .slice none 0 0] 176) := ⟨_, rfl⟩
  rw [← hW] at HB0 HH HT0 ⊢
  obtain ⟨R0, hR0⟩ : ∃ R0, R0 = w.heap.size := ⟨_, rfl⟩
  rw [← hR0] at HB0
  simp only [← hR0]
  have hRl : w.heap.size ≤ R0 := by omega
  have hXR : X < R0 := by omega
  clear hW hR0
  refine (HIx.out _ HH.out).mono ?_
  rintro e w5 ⟨rfl, hs5, ht5⟩
  have HK5 := Lib.hid hs5
  have HR5 := Lib.hid (HB0.out.step ht5 (show R0 ≠ X by omega))
  have HT5 := Lib.hid (HT0.out.trans ht5)
  clear hs5 ht5 HB0 HH HT0
  go_wp2_with fail
  refine (left_walk _ X S D c bs kp HK5.out).mono ?_
  rintro e w6 ⟨rfl, q6, hw6⟩
  have hq6 : Step (fun _ => False) w5 w6 := by rw [hw6]; exact Step.refl.drewN q6
  have HK6 := Lib.hid (HK5.out.quiet hq6)
  have HR6 := Lib.hid (HR5.out.step hq6 id)
  have HT6 := Lib.hid (HT5.out.trans' hq6 (fun _ h => h.elim))
  clear hw6 hq6 HK5 HR5 HT5
  go_wp2_with fail
  refine (at_walk _ X S D c bs kp HK6.out).mono ?_
  rintro e wS ⟨rfl, hwS⟩
  subst wS
  go_wp2_with fail
  refine (aunless_ok _ _ _).mono ?_
  rintro e wS ⟨rfl, hwS⟩
  subst wS
  go_wp2_with fail
  refine (at_walk _ X S D c bs kp HK6.out).mono ?_
  rintro e wS ⟨rfl, hwS⟩
  subst wS
  go_wp2_with fail
  refine (HSb.out _ HK6.out).mono ?_
  rintro e w7 ⟨Yb, S', D', c', rfl, hsy, hYb, hS', hs7, ht7⟩
  have HR7 := Lib.hid (HR6.out.step ht7 (show R0 ≠ X by omega))
  have HT7 := Lib.hid (HT6.out.trans ht7)
  have hw67 : w.heap.size ≤ w6.heap.size := HT6.out.size
  have hYl := hsy.lt
  have hlow7 := hs7.low
  have hlow6 := HK6.out.low
  have hRl7 := HR7.out.lt
  have hXl7 := hs7.lt
  have hYX : Yb ≠ X := by have := HK6.out.lt; omega
  have hYR : Yb ≠ R0 := fun e => by subst e; exact absurd (Blk.tag HR7.out hsy.blk) (by decide)
  obtain ⟨P5, hP5⟩ : ∃ P5, P5 = w7.heap.size := ⟨_, rfl⟩
  have e1 : (w7.alloc (.cells #[.pointer (some ⟨Yb, 0, none⟩)] 79)).heap.size = P5 + 1 := by rw [hP5]; simp
  have e2 : ((w7.alloc (.cells #[.pointer (some ⟨Yb, 0, none⟩)] 79)).alloc (.cells #[.slice none 0 0, .slice none 0 0] 176)).heap.size = P5 + 2 := by simp [e1]
  have HPb : Hid (Blk ((w7.alloc (.cells #[.pointer (some ⟨Yb, 0, none⟩)] 79)).alloc (.cells #[.slice none 0 0, .slice none 0 0] 176)) P5 79 #[.pointer (some ⟨Yb, 0, none⟩)]) := by
    have := (Blk.new w7 79 #[.pointer (some ⟨Yb, 0, none⟩)]).alloc (.cells #[.slice none 0 0, .slice none 0 0] 176)
    rw [← hP5] at this
    exact this
  have HCb : Hid (Blk ((w7.alloc (.cells #[.pointer (some ⟨Yb, 0, none⟩)] 79)).alloc (.cells #[.slice none 0 0, .slice none 0 0] 176)) (P5 + 1) 176 #[.slice none 0 0, .slice none 0 0]) := by
    have := Blk.new (w7.alloc (.cells #[.pointer (some ⟨Yb, 0, none⟩)] 79)) 176 #[.slice none 0 0, .slice none 0 0]
    rw [e1] at this
    exact this
  have HYs := Lib.hid ((hsy.alloc (.cells #[.pointer (some ⟨Yb, 0, none⟩)] 79)).alloc (.cells #[.slice none 0 0, .slice none 0 0] 176))
  have HKs := Lib.hid ((hs7.alloc (.cells #[.pointer (some ⟨Yb, 0, none⟩)] 79)).alloc (.cells #[.slice none 0 0, .slice none 0 0] 176))
  have HRs := Lib.hid ((HR7.out.alloc (.cells #[.pointer (some ⟨Yb, 0, none⟩)] 79)).alloc (.cells #[.slice none 0 0, .slice none 0 0] 176))
  have HTs := Lib.hid ((HT7.out.alloc (.cells #[.pointer (some ⟨Yb, 0, none⟩)] 79)).alloc (.cells #[.slice none 0 0, .slice none 0 0] 176))
  clear hsy hs7 ht7 HR7 HT7 HK6 HR6 HT6 HSb HIx e1
  go_wp2_with fail
  obtain ⟨V, hV⟩ : ∃ V, V = (w7.alloc (.cells #[.pointer (some ⟨Yb, 0, none⟩)] 79)).alloc (.cells #[.slice none 0 0, .slice none 0 0] 176) := ⟨_, rfl⟩
  rw [← hV] at HPb HCb HYs HKs HRs HTs e2 ⊢
  simp only [← hP5]
  clear hV
  have hST := (Step.refl (F := fun _ => False) (w := V)).alloc (.cells #[.int .i64 0, .int .i64 0] 85)
  have hsz : (V.alloc (.cells #[.int .i64 0, .int .i64 0] 85)).heap.size = P5 + 3 := by simp [e2]
  have hwV := HTs.out.size
  rw [e2] at hwV
  rw [← hP5] at hYl hlow7 hRl7 hXl7
  have HWi := Lib.hid (within_ok 185 #[.pointer (some ⟨P5, 0, none⟩), .pointer (some ⟨P5 + 1, 0, none⟩)] V (fun i => i = Yb ∨ i = P5 + 1) (fun w' => ∃ D1 c1 D2 c2 lb, Blk w' (P5 + 1) 176 #[.slice D1 lo.length c1, .slice D2 n c2] ∧ CodTo (P5 + 3) w' lo l n D1 c1 D2 c2 lb) (kp : Int) (by rw [e2]; omega) (fun _ => rfl) (by
    have h5 := HGc.out _ Yb P5 (P5 + 1) S' D' c' (HYs.out.quiet hST) (HPb.out.step hST id) (HCb.out.step hST id)
    rw [hsz] at h5
    exact h5))
  clear hP5
  refine HWi.out.mono ?_
  rintro e w9 ⟨rfl, w8, g1, ⟨D1, c1, D2, c2, lb, hc8, hq8⟩, g2⟩
  rw [e2] at g2
  have hgs := g1.size
  rw [hsz] at hgs
  have g1' : Step (fun i => i = Yb ∨ i = P5 + 1) V w8 := (hST.mono fun _ _ h => h.elim).trans g1
  have HC9 := Lib.hid (hc8.step g2 (show P5 + 1 ≠ P5 + 2 by omega))
  have HQ9 : Hid (CodTo w.heap.size w9 lo l n D1 c1 D2 c2 lb) := hq8.turn (fun e D m c s xs _ h => own_base (own_step h g2 (fun q hq e => by have := own_ge h q hq; omega)) (fun q hq => by have := own_ge h q hq; omega))
  have HK9 := Lib.hid ((HKs.out.step g1' (fun e => by rcases e with e | e; exact hYX e.symm; omega) (fun q hq e => by have h1 := hlow6 q hq; have h2 := hlow7 q hq; rcases e with e | e <;> omega)).step g2 (show X ≠ P5 + 2 by omega) (fun q hq e => by have := hlow7 q hq; omega))
  have HR9 := Lib.hid ((HRs.out.step g1' (fun e => by rcases e with e | e; exact hYR e.symm; omega)).step g2 (show R0 ≠ P5 + 2 by omega))
  have HT9 : Hid (Step (fun i => i = X) w w9) := (HTs.out.trans' g1' (fun i hi => .inr (by rcases hi with e | e <;> omega))).trans' g2 (fun i hi => .inr (by omega))
  clear hq8 hc8 g1 g2 g1' HKs HRs HTs HPb HCb HYs hST HGc HWi
  have y0 := HC9.out.cell 0
  have y1 := HC9.out.cell 1
  simp at y0 y1
  have r0 := HR9.out.cell 0
  have r1 := HR9.out.cell 1
  simp at r0 r1
  have f0 := HR9.out.frozen 0
  have f1 := HR9.out.frozen 1
  obtain ⟨W8, hW8⟩ : ∃ W8, W8 = (w9.setCell ⟨R0, 0, none⟩ (.slice D1 lo.length c1)).setCell ⟨R0, 1, none⟩ (.slice D2 n c2) := ⟨_, rfl⟩
  have HR8 : Hid (Blk W8 R0 176 #[.slice D1 lo.length c1, .slice D2 n c2]) := by
    have hq := (HR9.out.set_ 0 (.slice D1 lo.length c1)).set_ 1 (.slice D2 n c2)
    rw [← hW8] at hq
    simp at hq
    exact hq
  have hS8 : Step (fun q => q = R0) w9 W8 := by
    rw [hW8]
    exact ((Step.refl (F := fun q => q = R0)).setCell (p := ⟨R0, 0, none⟩) (.inl rfl) _).setCell (p := ⟨R0, 1, none⟩) (.inl rfl) _
  have HQ8 : Hid (CodTo w.heap.size W8 lo l n D1 c1 D2 c2 lb) := HQ9.out.turn (fun e D m c s xs he h => own_step h hS8 (fun q hq e2 => by
    have hne : e ≠ 176 := by rcases he with rfl | rfl | rfl <;> decide
    subst e2
    exact own_tag h HR9.out hne hq))
  have HK8 := Lib.hid (HK9.out.step hS8 (show X ≠ R0 by omega) (fun q hq e => by have := hlow q hq; omega))
  have HT8 : Hid (Step (fun i => i = X) w W8) := HT9.out.trans' hS8 (fun i hi => .inr (by omega))
  have HW8 := Lib.hid hW8
  clear hW8 hS8 HQ9 HK9 HT9 HR9
  go_wp2_with fail
  rw [← HW8.out]
  have q0 := HR8.out.cell 0
  have q1 := HR8.out.cell 1
  simp at q0 q1
  refine bodyPost_ret (v := .agg #[.slice D1 lo.length c1, .slice D2 n c2]) (by simp [results, Try.results126, go_sem, q0, q1]) rfl ?_
  exact ⟨D1, c1, D2, c2, lb, rfl, HQ8.out, HK8.out, HT8.out⟩
end Go.Proofs.Ytfemeendkjcffaa
/-! bodies: abort.Value of a body; the law's closure; creelref14.Same. -/
namespace Go.Proofs.Ytfemeendkjcffaa
open Go.RowKit

def codC (a b : Value) : Array Value := #[a, b]

section
variable (h : FuncId) (caps : Array Value) (w : World) (F : Nat → Prop) (Q : Option Addr → Nat → Option Addr → Nat → World → World → Prop) (n1 n2 : Nat) (hcf : ∀ w : World, (callFunc h caps).run Try.prog w = .ok (.enter h caps) w)
include hcf

set_option maxRecDepth 100000 in
set_option maxHeartbeats 1600000 in
theorem cclo_ok (fb vb : Nat) (H : Calls Try.prog h caps w fun e w' => ∃ D1 : Option Addr, ∃ c1 : Nat, ∃ D2 : Option Addr, ∃ c2 : Nat, e = .returned (.agg (codC (.slice D1 n1 c1) (.slice D2 n2 c2))) ∧ Step F w w' ∧ Q D1 c1 D2 c2 w w') (hf : Blk w fb 184 #[.func (.func h) #[] caps]) (hv : Blk w vb 176 (codC (.slice none 0 0) (.slice none 0 0))) (hFv : ¬ F vb) :
    Calls Try.prog 182 #[.pointer (some ⟨fb, 0, none⟩), .pointer (some ⟨vb, 0, none⟩)] w fun e w' => e = .returned (.tuple #[]) ∧ ∃ D1 : Option Addr, ∃ c1 : Nat, ∃ D2 : Option Addr, ∃ c2 : Nat, ∃ w1, Step F w w1 ∧ Q D1 c1 D2 c2 w w1 ∧ Blk w' vb 176 (codC (.slice D1 n1 c1) (.slice D2 n2 c2)) ∧ Step (fun k => k = vb) w1 w' := by
  have c0 := hf.cell 0
  simp at c0
  have HH := Lib.hid H
  have HV := Lib.hid hv
  clear H hf hv
  go_enter Try.func182, Try.ntmps182
  go_wp2_with fail
  refine HH.out.mono ?_
  rintro e w1 ⟨D1, c1, D2, c2, rfl, hs, hq⟩
  have HB := HV.out.step hs hFv
  have hone : (codC (.slice D1 n1 c1) (.slice D2 n2 c2)).all (·.oneCell') = true := (by simp [codC, Value.oneCell'])
  go_wp2_with (refine wpList_store_rowTo rfl 176 _ _ rfl rfl vb (codC (.slice D1 n1 c1) (.slice D2 n2 c2)) rfl rfl 176 _ HB rfl rfl hone ?_)
  go_end0
  exact ⟨rfl, D1, c1, D2, c2, w1, hs, hq, HB.row _, Step.setRow (F := fun k => k = vb) Step.refl (g := vb) (.inl rfl) _⟩

set_option maxRecDepth 100000 in
set_option maxHeartbeats 3200000 in
theorem cvalue_ok (hF : ∀ k, F k → k < w.heap.size) (H : ∀ w', Step (fun _ => False) w w' → Calls Try.prog h caps w' fun e w'' => ∃ D1 : Option Addr, ∃ c1 : Nat, ∃ D2 : Option Addr, ∃ c2 : Nat, e = .returned (.agg (codC (.slice D1 n1 c1) (.slice D2 n2 c2))) ∧ Step F w' w'' ∧ Q D1 c1 D2 c2 w' w'') :
    Calls Try.prog 124 #[.func (.func h) #[] caps] w fun e w' => ∃ D1 : Option Addr, ∃ c1 : Nat, ∃ D2 : Option Addr, ∃ c2 : Nat, e = .returned (.tuple #[.agg (codC (.slice D1 n1 c1) (.slice D2 n2 c2)), .agg #[.int .i64 0, .int .i64 0]]) ∧
      ∃ wa wb, Step (fun _ => False) w wa ∧ Step F wa wb ∧ Q D1 c1 D2 c2 wa wb ∧ Step (fun k => w.heap.size ≤ k ∧ k < wa.heap.size) wb w' := by
  have hmf : ∀ (fn : Fn) (first cap : Array Value) (w : World), (Instr.makeFunc fn first cap).run Try.prog w = .ok (.func fn first cap) w := fun _ _ _ _ => rfl
  have HH := Lib.hid H
  clear H
  obtain ⟨v1, hv1⟩ : ∃ v1, v1 = w.alloc (.cells #[.func (.func h) #[] caps] 184) := ⟨_, rfl⟩
  obtain ⟨v2, hv2⟩ : ∃ v2, v2 = v1.alloc (.cells (codC (.slice none 0 0) (.slice none 0 0)) 176) := ⟨_, rfl⟩
  obtain ⟨v3, hv3⟩ : ∃ v3, v3 = v2.alloc (.cells #[.int .i64 0, .int .i64 0] 85) := ⟨_, rfl⟩
  obtain ⟨v4, hv4⟩ : ∃ v4, v4 = v3.alloc (.cells (codC (.slice none 0 0) (.slice none 0 0)) 176) := ⟨_, rfl⟩
  obtain ⟨v5, hv5⟩ : ∃ v5, v5 = v4.alloc (.cells #[.int .i64 0, .int .i64 0] 85) := ⟨_, rfl⟩
  have s1 : v1.heap.size = w.heap.size + 1 := by rw [hv1]; simp
  have s2 : v2.heap.size = w.heap.size + 2 := by rw [hv2]; simp [s1]
  have s3 : v3.heap.size = w.heap.size + 3 := by rw [hv3]; simp [s2]
  have s4 : v4.heap.size = w.heap.size + 4 := by rw [hv4]; simp [s3]
  have s5 : v5.heap.size = w.heap.size + 5 := by rw [hv5]; simp [s4]
  have t5 : Step (fun _ => False) w v5 := by
    rw [hv5, hv4, hv3, hv2, hv1]
    exact ((((Step.refl.alloc _).alloc _).alloc _).alloc _).alloc _
  have b1 : Blk v4 w.heap.size 184 #[.func (.func h) #[] caps] := by
    rw [hv4, hv3, hv2, hv1]
    exact (((Blk.new w _ _).alloc _).alloc _).alloc _
  have b2 : Blk v4 (w.heap.size + 1) 176 (codC (.slice none 0 0) (.slice none 0 0)) := by
    have := ((Blk.new v1 176 (codC (.slice none 0 0) (.slice none 0 0))).alloc (.cells #[.int .i64 0, .int .i64 0] 85)).alloc (.cells (codC (.slice none 0 0) (.slice none 0 0)) 176)
    rw [← hv2, ← hv3, ← hv4, s1] at this
    exact this
  have b3 : Blk v4 (w.heap.size + 2) 85 #[.int .i64 0, .int .i64 0] := by
    have := (Blk.new v2 85 #[.int .i64 0, .int .i64 0]).alloc (.cells (codC (.slice none 0 0) (.slice none 0 0)) 176)
    rw [← hv3, ← hv4, s2] at this
    exact this
  have b4 : Blk v4 (w.heap.size + 3) 176 (codC (.slice none 0 0) (.slice none 0 0)) := by
    have := Blk.new v3 176 (codC (.slice none 0 0) (.slice none 0 0))
    rw [← hv4, s3] at this
    exact this
  have HO := Lib.hid (out_ok 182 #[.pointer (some ⟨w.heap.size, 0, none⟩), .pointer (some ⟨w.heap.size + 3, 0, none⟩)] v4 (fun k => F k ∨ k = w.heap.size + 3)
    (fun wz => ∃ D1 : Option Addr, ∃ c1 : Nat, ∃ D2 : Option Addr, ∃ c2 : Nat, ∃ w1, Step F v5 w1 ∧ Q D1 c1 D2 c2 v5 w1 ∧ Blk wz (w.heap.size + 3) 176 (codC (.slice D1 n1 c1) (.slice D2 n2 c2)) ∧ Step (fun k => k = w.heap.size + 3) w1 wz)
    (by rw [s4]; intro hk; rcases hk with hk | hk; · have := hF _ hk; omega
        · omega) (fun _ => rfl)
    (by
      rw [← hv5]
      refine (cclo_ok h caps v5 F Q n1 n2 hcf w.heap.size (w.heap.size + 3) (HH.out _ t5) (by rw [hv5]; exact b1.alloc _) (by rw [hv5]; exact b4.alloc _) (fun hk => by have := hF _ hk; omega)).mono ?_
      rintro e wz ⟨rfl, D1, c1, D2, c2, w1, h1, h2, h3, h4⟩
      exact ⟨rfl, (h1.mono fun _ _ hk => .inl hk).trans (h4.mono fun _ _ hk => .inr hk), D1, c1, D2, c2, w1, h1, h2, h3, h4⟩))
  rw [← hv5, s4] at HO
  have HB2 := Lib.hid b2
  have HB3 := Lib.hid b3
  have HE : Hid (v4 = (((w.alloc (.cells #[.func (.func h) #[] caps] 184)).alloc (.cells (codC (.slice none 0 0) (.slice none 0 0)) 176)).alloc (.cells #[.int .i64 0, .int .i64 0] 85)).alloc (.cells (codC (.slice none 0 0) (.slice none 0 0)) 176)) := by rw [Hid, hv4, hv3, hv2, hv1]
  have HT5 := Lib.hid t5
  have HF := Lib.hid hF
  have HS5 := Lib.hid s5
  have HV5 := Lib.hid hv5
  clear b1 b2 b3 b4 t5 s1 s2 s3 s4 s5 hv1 hv2 hv3 hv4 hv5 HH hF
  go_enter Try.func124, Try.ntmps124
  go_wp2_with fail
  have HO2 := HO.out
  rw [HE.out] at HO2
  refine HO2.mono ?_
  rintro e w6 ⟨rfl, w1, h1, ⟨D1, c1, D2, c2, wb, g1, g2, g3, g4⟩, h5⟩
  clear HO2 HO
  have HQ := Lib.hid g2
  have HT1 := Lib.hid g1
  have HT2 : Hid (Step (fun k => k = w.heap.size + 3 ∨ k = w.heap.size + 4) wb w6) := (g4.mono fun _ _ hk => .inl hk).trans (h5.mono fun _ _ hk => .inr hk)
  have hns : v5.heap.size ≤ w6.heap.size := Nat.le_trans h1.size h5.size
  have n5 := HS5.out
  have HV6 := Lib.hid ((g3.step h5 (by omega)).alloc (.cells #[.int .i64 0, .int .i64 0] 85))
  have HR6 : Hid (Blk (w6.alloc (.cells #[.int .i64 0, .int .i64 0] 85)) (w.heap.size + 1) 176 (codC (.slice none 0 0) (.slice none 0 0))) := by
    have h6 := HB2.out.alloc (.cells #[.int .i64 0, .int .i64 0] 85)
    rw [← HV5.out] at h6
    exact ((h6.step h1 (fun hk => by rcases hk with hk | hk; · have := HF.out _ hk; omega
                                     · omega)).step h5 (by omega)).alloc _
  have HP6 : Hid (Blk (w6.alloc (.cells #[.int .i64 0, .int .i64 0] 85)) (w.heap.size + 2) 85 #[.int .i64 0, .int .i64 0]) := by
    have h6 := HB3.out.alloc (.cells #[.int .i64 0, .int .i64 0] 85)
    rw [← HV5.out] at h6
    exact ((h6.step h1 (fun hk => by rcases hk with hk | hk; · have := HF.out _ hk; omega
                                     · omega)).step h5 (by omega)).alloc _
  have HN6 := Lib.hid (Blk.new w6 85 #[.int .i64 0, .int .i64 0])
  have HT6 := Lib.hid (HT2.out.alloc (.cells #[.int .i64 0, .int .i64 0] 85))
  obtain ⟨W, hW⟩ : ∃ W, W = w6.alloc (.cells #[.int .i64 0, .int .i64 0] 85) := ⟨_, rfl⟩
  obtain ⟨sN, hsN⟩ : ∃ sN, sN = w6.heap.size := ⟨_, rfl⟩
  rw [← hW] at HV6 HR6 HP6 HN6 HT6
  rw [← hsN] at HN6
  have y0 := HN6.out.cell 0
  simp at y0
  rw [hW] at y0
  rw [hsN] at y0
  clear h1 h5 g1 g2 g3 g4 HB2 HB3 HE HT2
  go_wp2_with fail
  rw [← hW, ← hsN]
  have hs6 : w.heap.size + 5 ≤ sN := by omega
  clear y0 hW hsN hns n5
  have y0 := HN6.out.cell 0
  have y1 := HN6.out.cell 1
  have x0 := HV6.out.cell 0
  have x1 := HV6.out.cell 1
  simp [codC] at x0 x1 y0 y1
  obtain ⟨F2, hF2⟩ : ∃ F2 : Nat → Prop, F2 = fun q => q = w.heap.size + 1 ∨ q = w.heap.size + 2 := ⟨_, rfl⟩
  have hFv : ¬ F2 (w.heap.size + 3) := by rw [hF2]; omega
  have hFs : ¬ F2 sN := by rw [hF2]; omega
  have HF2 := Lib.hid hF2
  clear hF2
  have d0 := cls_cell (F := F2) (w0 := W) x0 hFv
  have d1 := cls_cell (F := F2) (w0 := W) x1 hFv
  have e4 := cls_cell (F := F2) (w0 := W) y0 hFs
  have e5 := cls_cell (F := F2) (w0 := W) y1 hFs
  clear x0 x1 y0 y1
  refine Mix.wp_region_mix [2, 3] [2] (Step F2 W) (by kernel_rfl) (by kernel_rfl) Step.refl.drew (fun hcls => ?_)
  refine Mix.wpL_reads 2 (by rfl) ?_
  simp only [List.take_succ_cons, List.drop_succ_cons, List.take_zero, List.drop_zero]
  repeat (go_big_quiet_step (fail))
  refine wpQuiet_nil ?_
  have z0 := HR6.out.frozen 0
  have z1 := HR6.out.frozen 1
  have r0 := HR6.out.cell 0
  have r1 := HR6.out.cell 1
  simp [codC] at r0 r1
  refine Mix.wpL_op (by rfl) (fun K hK => ?_)
  go_simp
  obtain ⟨W7, hW7⟩ : ∃ W7, W7 = ((W.setCell ⟨w.heap.size + 1, 0, none⟩ (.slice D1 n1 c1)).setCell ⟨w.heap.size + 1, 1, none⟩ (.slice D2 n2 c2)) := ⟨_, rfl⟩
  have HR7 : Hid (Blk W7 (w.heap.size + 1) 176 (codC (.slice D1 n1 c1) (.slice D2 n2 c2))) := by
    have hq := ((HR6.out.set_ 0 (.slice D1 n1 c1)).set_ 1 (.slice D2 n2 c2))
    rw [← hW7] at hq
    simp [codC] at hq
    exact hq
  have HP7 : Hid (Blk W7 (w.heap.size + 2) 85 #[.int .i64 0, .int .i64 0]) := by
    rw [hW7]
    exact ((HP6.out.far (p := ⟨w.heap.size + 1, 0, none⟩) (show w.heap.size + 2 ≠ w.heap.size + 1 by omega) _).far (p := ⟨w.heap.size + 1, 1, none⟩) (show w.heap.size + 2 ≠ w.heap.size + 1 by omega) _)
  have HT7 : Hid (Step (fun q => q = w.heap.size + 1 ∨ q = w.heap.size + 2) W W7) := by
    rw [hW7]
    exact ((Step.refl.setCell (p := ⟨w.heap.size + 1, 0, none⟩) (.inl (.inl rfl)) _).setCell (p := ⟨w.heap.size + 1, 1, none⟩) (.inl (.inl rfl)) _)
  rw [← hW7]
  refine hK _ _ (fun hlt => Mix.cl (by rw [HF2.out]; exact HT7.out.drew)) ?_
  clear hK K z0 r0 z1 r1 hW7
  have z0 := HP7.out.frozen 0
  have z1 := HP7.out.frozen 1
  have r0 := HP7.out.cell 0
  have r1 := HP7.out.cell 1
  simp at r0 r1
  refine Mix.wpL_op (by rfl) (fun K hK => ?_)
  go_simp
  refine hK _ _ (fun hlt => absurd hlt (by decide)) ?_
  clear hK K
  refine Mix.wpL_end ?_
  obtain ⟨W8, hW8⟩ : ∃ W8, W8 = (W7.setCell ⟨w.heap.size + 2, 0, none⟩ (.int .i64 0)).setCell ⟨w.heap.size + 2, 1, none⟩ (.int .i64 0) := ⟨_, rfl⟩
  have HP8 : Hid (Blk W8 (w.heap.size + 2) 85 #[.int .i64 0, .int .i64 0]) := by
    have hq := (HP7.out.set_ 0 (.int .i64 0)).set_ 1 (.int .i64 0)
    rw [← hW8] at hq
    simp at hq
    exact hq
  have HR8 : Hid (Blk W8 (w.heap.size + 1) 176 (codC (.slice D1 n1 c1) (.slice D2 n2 c2))) := by
    rw [hW8]
    exact (HR7.out.far (p := ⟨w.heap.size + 2, 0, none⟩) (show w.heap.size + 1 ≠ w.heap.size + 2 by omega) _).far (p := ⟨w.heap.size + 2, 1, none⟩) (show w.heap.size + 1 ≠ w.heap.size + 2 by omega) _
  have HT8 : Hid (Step (fun q => q = w.heap.size + 1 ∨ q = w.heap.size + 2) W W8) := by
    rw [hW8]
    exact (HT7.out.setCell (p := ⟨w.heap.size + 2, 0, none⟩) (.inl (.inr rfl)) _).setCell (p := ⟨w.heap.size + 2, 1, none⟩) (.inl (.inr rfl)) _
  go_wp2_with fail
  rw [← hW8]
  have q0 := HR8.out.cell 0
  have q1 := HR8.out.cell 1
  have p4 := HP8.out.cell 0
  have p5 := HP8.out.cell 1
  simp [codC] at q0 q1 p4 p5
  refine bodyPost_ret (v := .tuple #[.agg (codC (.slice D1 n1 c1) (.slice D2 n2 c2)), .agg #[.int .i64 0, .int .i64 0]]) (by simp [results, Try.results124, go_sem, q0, q1, p4, p5, codC]) rfl ?_
  refine ⟨D1, c1, D2, c2, rfl, v5, wb, HT5.out, HT1.out, HQ.out, ?_⟩
  have n5 := HS5.out
  refine ((HT6.out.mono fun k _ hk => ?_).trans ((HT8.out.mono fun k _ hk => ?_))).drew
  · exact ⟨by rcases hk with rfl | rfl <;> omega, by rcases hk with rfl | rfl <;> omega⟩
  · exact ⟨by rcases hk with rfl | rfl <;> omega, by rcases hk with rfl | rfl <;> omega⟩
end

set_option maxRecDepth 100000 in
set_option maxHeartbeats 3200000 in
theorem rsame14_walk (w : World) (LA IA D1 D2 : Option Addr) (lc n c c1 c2 B : Nat) (lo : List (Nat × Nat)) (l lb : List Ig) (S : Nat → Prop) (HN : Hid (n = l.length)) (hnb : n ≤ 1000) (hlo : lo.length ≤ 1000) (hsm : ∀ x ∈ l, x.L.length ≤ 100) (hin : ∀ x ∈ l, x.L.length = x.n ∧ (∀ y ∈ x.L, y < 4294967296) ∧ Reads w S 1 x.A x.n (u32s x.L)) (hr : Reads w S 4 IA n (igs l)) (hl : Reads w S 2 LA lo.length (lo.flatMap loC)) (hq : CodTo B w lo l n D1 c1 D2 c2 lb) :
    Calls Try.prog 128 #[.agg #[.slice D1 lo.length c1, .slice D2 n c2], .agg #[.slice LA lo.length lc, .slice IA n c]] w fun e w' => e = .returned (.bool true) ∧ Step (fun _ => False) w w' := by
  obtain ⟨q1, q2, q3⟩ := hq
  have HSA : Hid (∀ w', Step (fun _ => False) w w' → Calls Try.prog 64 #[.slice D2 n c2, .slice IA n c] w' fun e w'' => e = .returned (.bool true) ∧ Step (fun _ => False) w' w'') := fun w' ht =>
    sameall_ok w' n c2 c D2 IA lb l _ S (fun _ => True) S (by rw [Hid, q3.1]; exact HN) HN (by omega) ((Reads.of_own q2).step ht (fun _ _ => id)) (hr.step ht (fun _ _ => id)) (fun i y x hy hx => by
      obtain ⟨e1, e2⟩ := q3.2 i x y hx hy
      have hxl := List.mem_of_getElem? hx
      obtain ⟨i1, i2, i3⟩ := hin x hxl
      have h3 := hsm x hxl
      rw [e1]
      simp only [Ig.back, Alike]
      refine ⟨trivial, trivial, trivial, trivial, i1.symm, i1.symm, by omega, ?_, ?_⟩
      · rw [← i1] at e2
        exact ((Reads.of_own e2).mono (fun _ _ _ => trivial)).step (F := fun _ => False) ht (fun _ _ => id)
      · rw [← i1] at i3
        exact i3.step ht (fun _ _ => id))
  have HLo := Lib.hid ((((Reads.of_own q1).mono (S' := fun _ => True) (fun _ _ _ => trivial)).step (Step.refl.alloc (F := fun _ => False) (.cells #[.slice D1 lo.length c1, .slice D2 n c2] 176)) (fun _ _ => id)).step (Step.refl.alloc (F := fun _ => False) (.cells #[.slice LA lo.length lc, .slice IA n c] 176)) (fun _ _ => id))
  have HLa := Lib.hid ((hl.step (Step.refl.alloc (F := fun _ => False) (.cells #[.slice D1 lo.length c1, .slice D2 n c2] 176)) (fun _ _ => id)).step (Step.refl.alloc (F := fun _ => False) (.cells #[.slice LA lo.length lc, .slice IA n c] 176)) (fun _ _ => id))
  have HB0 := Lib.hid ((Blk.new w 176 #[.slice D1 lo.length c1, .slice D2 n c2]).alloc (.cells #[.slice LA lo.length lc, .slice IA n c] 176))
  have HB1 : Hid (Blk ((w.alloc (.cells #[.slice D1 lo.length c1, .slice D2 n c2] 176)).alloc (.cells #[.slice LA lo.length lc, .slice IA n c] 176)) (w.heap.size + 1) 176 #[.slice LA lo.length lc, .slice IA n c]) := by
    have h1 := Blk.new (w.alloc (.cells #[.slice D1 lo.length c1, .slice D2 n c2] 176)) 176 #[.slice LA lo.length lc, .slice IA n c]
    rw [show (w.alloc (.cells #[.slice D1 lo.length c1, .slice D2 n c2] 176)).heap.size = w.heap.size + 1 by simp] at h1
    exact h1
  have HT0 : Hid (Step (fun _ => False) w ((w.alloc (.cells #[.slice D1 lo.length c1, .slice D2 n c2] 176)).alloc (.cells #[.slice LA lo.length lc, .slice IA n c] 176))) := (Step.refl.alloc _).alloc _
  have hnn : ((lo.length : Int) != (lo.length : Int)) = false := by simp
  clear q1 q2 q3 hr hl hin hsm
  go_enter Try.func128, Try.ntmps128
  go_wp2_with fail
  obtain ⟨W, hW⟩ : ∃ W, W = (w.alloc (.cells #[.slice D1 lo.length c1, .slice D2 n c2] 176)).alloc (.cells #[.slice LA lo.length lc, .slice IA n c] 176) := ⟨_, rfl⟩
  rw [← hW] at HLo HLa HB0 HB1 HT0 ⊢
  obtain ⟨X, hX⟩ : ∃ X, X = w.heap.size := ⟨_, rfl⟩
  rw [← hX] at HB0
  simp only [← hX] at HB1
  simp only [← hX]
  clear hW hX
  have x0 := HB0.out.cell 0
  have x1 := HB0.out.cell 1
  simp at x0 x1
  have y0 := HB1.out.cell 0
  have y1 := HB1.out.cell 1
  simp at y0 y1
  go_wp2_with fail
  refine (HSA.out _ HT0.out).mono ?_
  rintro e w5 ⟨rfl, hS5⟩
  have HS5 := Lib.hid hS5
  clear x0 x1 y0 y1 hS5 HSA
  go_wp2_with fail
  go_loopw [5] (fun iv wr => ∃ (j : Nat), j ≤ lo.length ∧ iv = .int .i64 (j : Int) ∧ Hid (Step (fun _ => False) W wr)) (fun iv _ => lo.length + 1 - (intOf iv).toNat)
  case atStart => exact ⟨0, by omega, rfl, HS5⟩
  case round =>
    obtain ⟨j, hj, rfl, HS⟩ := hrel
    have x0 := (HB0.out.step HS.out id).cell 0
    simp at x0
    have y0 := (HB1.out.step HS.out id).cell 0
    simp at y0
    by_cases hlt : j < lo.length
    · have g1 : (j : Int) < (lo.length : Int) := by omega
      have i0 : (0 : Int) ≤ (j : Int) := by omega
      have hw1 := IntWalk.i64_in ((j : Int) + 1) (by omega)
      obtain ⟨bk, off, rfl, _, hbl, hc⟩ := st_cells loC 2 (by decide) (fun _ => rfl) (HLo.out.step HS.out (fun _ _ => id)) hlt
      obtain ⟨bz, ofz, rfl, _, hbz, hcz⟩ := st_cells loC 2 (by decide) (fun _ => rfl) (HLa.out.step HS.out (fun _ _ => id)) hlt
      generalize lo[j] = g at *
      obtain ⟨gn, gt⟩ := g
      have c0 := hc 0 _ rfl
      have c1 := hc 1 _ rfl
      have e0 := hcz 0 _ rfl
      have e1 := hcz 1 _ rfl
      simp only [Nat.add_zero] at c0 e0
      simp only at c0 c1 e0 e1
      clear hc hcz
      go_wp2_with fail
      go_quiet (fail)
      go_wp2_with fail
      go_roundw
      case rel => exact ⟨j + 1, by omega, by rw [Int.natCast_add]; rfl, HS.out.drewN _⟩
      case measure => simp [intOf]; omega
    · obtain rfl : j = lo.length := by omega
      go_wp2_with fail
      go_ret
      exact ⟨rfl, HT0.out.trans HS.out⟩
end Go.Proofs.Ytfemeendkjcffaa
