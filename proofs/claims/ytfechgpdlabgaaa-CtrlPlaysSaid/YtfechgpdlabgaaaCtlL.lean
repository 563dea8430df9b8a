/-
  CtrlPlays: 'do': Label, Close.
-/
import Derived.Test.YtfechgpdlabgaaaCtlI
set_option linter.unusedVariables false
set_option linter.unusedSimpArgs false
namespace Go.Proofs.Ytfechgpdlabgaaa
open Go.RowKit
theorem fr_default : (default : Fr).val = .agg #[.int .u8 0, .string ⟨#[]⟩, .int .i64 0, .bool false] := rfl
theorem bk_default : (default : Bk).val = .agg #[.int .i64 0, .string ⟨#[]⟩, .string ⟨#[]⟩, .bool false] := rfl
section
variable {w : World} {I J : Nat → Prop} {g gs c : Nat} {A : Option Addr} {l pre : List Bk} {b : Bk} {t : UInt8} {s : List UInt8} {n : Nat}

set_option maxRecDepth 100000 in
set_option maxHeartbeats 1600000 in
theorem cdo_7far (H : Sta w I J g gs A c l) (hz : l.length ≤ 1000) (hn : n < 18446744073709551616) (hk : l.length ≤ n) : Calls Try.prog 57 #[.pointer (some ⟨g, 0, none⟩), .slice A l.length c, .agg #[.int .i64 7, .int .u8 (t.toNat : Int), .string (str s), .int .u64 (n : Int)]] w (CDo w I J g gs l) := by
  have s1 : Step (fun _ => False) w (w.alloc (.cells #[.int .i64 7, .int .u8 (t.toNat : Int), .string (str s), .int .u64 (n : Int)] 107)) := Step.refl.alloc _
  have b1 : Blk (w.alloc (.cells #[.int .i64 7, .int .u8 (t.toNat : Int), .string (str s), .int .u64 (n : Int)] 107)) w.heap.size 107 #[.int .i64 7, .int .u8 (t.toNat : Int), .string (str s), .int .u64 (n : Int)] := Blk.new w _ _
  have HH := Lib.hid (H.box s1)
  have hbi : ¬ I w.heap.size := fun hk => by have := H.ctl.in_ _ hk; omega
  have hbl : w.heap.size < (w.alloc (.cells #[.int .i64 7, .int .u8 (t.toNat : Int), .string (str s), .int .u64 (n : Int)] 107)).heap.size := by simp
  have S1 := Lib.hid s1
  have HB1 := Lib.hid b1
  clear s1 b1
  have HO := Lib.hid (fun w' (hs : Step (fun _ => False) (w.alloc (.cells #[.int .i64 7, .int .u8 (t.toNat : Int), .string (str s), .int .u64 (n : Int)] 107)) w') => CDo.after (J := J) S1.out (cdo_old HH.out (Upd.quiet Upd.refl hs) (HH.out.ctl.quiet hs)))
  have HP := Lib.hid (ctl_label n HH.out.ctl (by rw [fsOf_length]; omega) hn)
  have hlab : labelF (fsOf 0 l) n = ([], 22) := by unfold labelF; rw [fsOf_length, if_neg (by omega)]
  rw [hlab] at HP
  have n1 : (l.length : Int) ≤ (n : Int) := by omega
  have hw1 : IntKind.u64.wrap (l.length : Int) = (l.length : Int) := IntWalk.u64_in _ (by omega)
  have hem : ((str []).toList.isEmpty) = true := by rw [str_toList]; rfl
  clear hk hlab
  clear H
  go_enter Try.func57, Try.ntmps57
  go_wp2_with fail
  refine HP.out.mono ?_
  rintro e w2 ⟨rfl, s2⟩
  have b2 := HB1.out.step s2 id
  have c3 := b2.cell 3
  simp at c3
  have HS2 := Lib.hid s2
  have HRO := Lib.hid (HH.out.row.step s2 (fun _ _ => id))
  have hbl2 := b2.lt
  clear s2 b2 HP
  go_wp2_with fail
  go_ret2
  exact HO.out _ HS2.out

set_option maxRecDepth 100000 in
set_option maxHeartbeats 1600000 in
theorem cdo_7three (H : Sta w I J g gs A c l) (hz : l.length ≤ 1000) (hn : n < 18446744073709551616) (hk : n < l.length) (ho : (l[l.length - 1 - n]'(by omega)).op = 3) : Calls Try.prog 57 #[.pointer (some ⟨g, 0, none⟩), .slice A l.length c, .agg #[.int .i64 7, .int .u8 (t.toNat : Int), .string (str s), .int .u64 (n : Int)]] w (CDo w I J g gs l) := by
  have s1 : Step (fun _ => False) w (w.alloc (.cells #[.int .i64 7, .int .u8 (t.toNat : Int), .string (str s), .int .u64 (n : Int)] 107)) := Step.refl.alloc _
  have b1 : Blk (w.alloc (.cells #[.int .i64 7, .int .u8 (t.toNat : Int), .string (str s), .int .u64 (n : Int)] 107)) w.heap.size 107 #[.int .i64 7, .int .u8 (t.toNat : Int), .string (str s), .int .u64 (n : Int)] := Blk.new w _ _
  have HH := Lib.hid (H.box s1)
  have hbi : ¬ I w.heap.size := fun hk => by have := H.ctl.in_ _ hk; omega
  have hbl : w.heap.size < (w.alloc (.cells #[.int .i64 7, .int .u8 (t.toNat : Int), .string (str s), .int .u64 (n : Int)] 107)).heap.size := by simp
  have S1 := Lib.hid s1
  have HB1 := Lib.hid b1
  clear s1 b1
  have HO := Lib.hid (fun w' (hs : Step (fun _ => False) (w.alloc (.cells #[.int .i64 7, .int .u8 (t.toNat : Int), .string (str s), .int .u64 (n : Int)] 107)) w') => CDo.after (J := J) S1.out (cdo_old HH.out (Upd.quiet Upd.refl hs) (HH.out.ctl.quiet hs)))
  have HP := Lib.hid (ctl_label n HH.out.ctl (by rw [fsOf_length]; omega) hn)
  have hgt := fsOf_get l 0 (l.length - 1 - n) (by omega)
  have hlab : labelF (fsOf 0 l) n = ([], 0) := by
    unfold labelF
    rw [fsOf_length, if_pos hk, hgt.1, hgt.2, if_pos ho]
  rw [hlab] at HP
  have n1 : ¬ (l.length : Int) ≤ (n : Int) := by omega
  have hw1 : IntKind.u64.wrap (l.length : Int) = (l.length : Int) := IntWalk.u64_in _ (by omega)
  have hw2 := IntWalk.i64_in ((l.length : Int) - 1) (by omega)
  have hw3 := IntWalk.i64_in ((n : Int)) (by omega)
  have hw4 := IntWalk.i64_in ((l.length : Int) - 1 - (n : Int)) (by omega)
  have i0 : (0 : Int) ≤ (l.length : Int) - 1 - (n : Int) := by omega
  have i1 : (l.length : Int) - 1 - (n : Int) < (l.length : Int) := by omega
  have htn : ((l.length : Int) - 1 - (n : Int)).toNat = l.length - 1 - n := by omega
  have hem : ((str []).toList.isEmpty) = true := by rw [str_toList]; rfl
  clear hlab hgt
  clear H
  go_enter Try.func57, Try.ntmps57
  go_wp2_with fail
  refine HP.out.mono ?_
  rintro e w2 ⟨rfl, s2⟩
  have b2 := HB1.out.step s2 id
  have c3 := b2.cell 3
  simp at c3
  have HS2 := Lib.hid s2
  have HRO := Lib.hid (HH.out.row.step s2 (fun _ _ => id))
  have hbl2 := b2.lt
  clear s2 b2 HP
  obtain ⟨gb, off, rfl, _, hbb, hcb⟩ := reads_cells Bk.cells 4 (by decide) Bk.four HRO.out (k := l.length - 1 - n) (by omega)
  have k0 := hcb 0 _ rfl
  have k1 := hcb 1 _ rfl
  have k2 := hcb 2 _ rfl
  have k3 := hcb 3 _ rfl
  rw [Nat.add_zero] at k0
  generalize l[l.length - 1 - n] = b at *
  clear hcb
  have ho2 : (b.op == 3) = true := by simpa using ho
  go_wp2_with fail
  go_ret2
  exact HO.out _ (HS2.out.trans (Step.alloc Step.refl _))

set_option maxRecDepth 100000 in
set_option maxHeartbeats 1600000 in
theorem cdo_7near (H : Sta w I J g gs A c l) (hz : l.length ≤ 1000) (hn : n < 18446744073709551616) (hk : n < l.length) (ho : (l[l.length - 1 - n]'(by omega)).op ≠ 3) : Calls Try.prog 57 #[.pointer (some ⟨g, 0, none⟩), .slice A l.length c, .agg #[.int .i64 7, .int .u8 (t.toNat : Int), .string (str s), .int .u64 (n : Int)]] w (CDo w I J g gs l) := by
  have s1 : Step (fun _ => False) w (w.alloc (.cells #[.int .i64 7, .int .u8 (t.toNat : Int), .string (str s), .int .u64 (n : Int)] 107)) := Step.refl.alloc _
  have b1 : Blk (w.alloc (.cells #[.int .i64 7, .int .u8 (t.toNat : Int), .string (str s), .int .u64 (n : Int)] 107)) w.heap.size 107 #[.int .i64 7, .int .u8 (t.toNat : Int), .string (str s), .int .u64 (n : Int)] := Blk.new w _ _
  have HH := Lib.hid (H.box s1)
  have hbi : ¬ I w.heap.size := fun hk => by have := H.ctl.in_ _ hk; omega
  have hbl : w.heap.size < (w.alloc (.cells #[.int .i64 7, .int .u8 (t.toNat : Int), .string (str s), .int .u64 (n : Int)] 107)).heap.size := by simp
  have S1 := Lib.hid s1
  have HB1 := Lib.hid b1
  clear s1 b1
  have HO := Lib.hid (fun w' (hs : Step (fun _ => False) (w.alloc (.cells #[.int .i64 7, .int .u8 (t.toNat : Int), .string (str s), .int .u64 (n : Int)] 107)) w') => CDo.after (J := J) S1.out (cdo_old HH.out (Upd.quiet Upd.refl hs) (HH.out.ctl.quiet hs)))
  have HP := Lib.hid (ctl_label n HH.out.ctl (by rw [fsOf_length]; omega) hn)
  have hgt := fsOf_get l 0 (l.length - 1 - n) (by omega)
  have hlab : labelF (fsOf 0 l) n = ((l[l.length - 1 - n]'(by omega)).res, 0) := by
    unfold labelF
    rw [fsOf_length, if_pos hk, hgt.1, hgt.2, if_neg ho]
  rw [hlab] at HP
  have n1 : ¬ (l.length : Int) ≤ (n : Int) := by omega
  have hw1 : IntKind.u64.wrap (l.length : Int) = (l.length : Int) := IntWalk.u64_in _ (by omega)
  have hw2 := IntWalk.i64_in ((l.length : Int) - 1) (by omega)
  have hw3 := IntWalk.i64_in ((n : Int)) (by omega)
  have hw4 := IntWalk.i64_in ((l.length : Int) - 1 - (n : Int)) (by omega)
  have i0 : (0 : Int) ≤ (l.length : Int) - 1 - (n : Int) := by omega
  have i1 : (l.length : Int) - 1 - (n : Int) < (l.length : Int) := by omega
  have htn : ((l.length : Int) - 1 - (n : Int)).toNat = l.length - 1 - n := by omega
  have hem : ((str []).toList.isEmpty) = true := by rw [str_toList]; rfl
  clear hlab hgt
  clear H
  go_enter Try.func57, Try.ntmps57
  go_wp2_with fail
  refine HP.out.mono ?_
  rintro e w2 ⟨rfl, s2⟩
  have b2 := HB1.out.step s2 id
  have c3 := b2.cell 3
  simp at c3
  have HS2 := Lib.hid s2
  have HRO := Lib.hid (HH.out.row.step s2 (fun _ _ => id))
  have hbl2 := b2.lt
  clear s2 b2 HP
  obtain ⟨gb, off, rfl, _, hbb, hcb⟩ := reads_cells Bk.cells 4 (by decide) Bk.four HRO.out (k := l.length - 1 - n) (by omega)
  have k0 := hcb 0 _ rfl
  have k1 := hcb 1 _ rfl
  have k2 := hcb 2 _ rfl
  have k3 := hcb 3 _ rfl
  rw [Nat.add_zero] at k0
  generalize l[l.length - 1 - n] = b at *
  clear hcb
  have ho2 : (b.op == 3) = false := by simpa using ho
  go_wp2_with fail
  go_ret2
  exact HO.out _ (HS2.out.trans (Step.alloc Step.refl _))

set_option maxRecDepth 100000 in
set_option maxHeartbeats 1600000 in
theorem cdo_5n (H : Sta w I J g gs A c []) : Calls Try.prog 57 #[.pointer (some ⟨g, 0, none⟩), .slice A 0 c, .agg #[.int .i64 5, .int .u8 (t.toNat : Int), .string (str s), .int .u64 (n : Int)]] w (CDo w I J g gs []) := by
  have s1 : Step (fun _ => False) w (w.alloc (.cells #[.int .i64 5, .int .u8 (t.toNat : Int), .string (str s), .int .u64 (n : Int)] 107)) := Step.refl.alloc _
  have b1 : Blk (w.alloc (.cells #[.int .i64 5, .int .u8 (t.toNat : Int), .string (str s), .int .u64 (n : Int)] 107)) w.heap.size 107 #[.int .i64 5, .int .u8 (t.toNat : Int), .string (str s), .int .u64 (n : Int)] := Blk.new w _ _
  have HH := Lib.hid (H.box s1)
  have hbi : ¬ I w.heap.size := fun hk => by have := H.ctl.in_ _ hk; omega
  have hbl : w.heap.size < (w.alloc (.cells #[.int .i64 5, .int .u8 (t.toNat : Int), .string (str s), .int .u64 (n : Int)] 107)).heap.size := by simp
  have S1 := Lib.hid s1
  have HB1 := Lib.hid b1
  clear s1 b1
  have HC0 := Lib.hid (show Ctl (w.alloc (.cells #[.int .i64 5, .int .u8 (t.toNat : Int), .string (str s), .int .u64 (n : Int)] 107)) I g gs [] [] from HH.out.ctl)
  have HO := Lib.hid (fun w' (hs : Step (fun _ => False) (w.alloc (.cells #[.int .i64 5, .int .u8 (t.toNat : Int), .string (str s), .int .u64 (n : Int)] 107)) w') => CDo.after (J := J) S1.out (cdo_old (l := []) HH.out (Upd.quiet Upd.refl hs) (HC0.out.quiet hs)))
  have HP := Lib.hid (ctl_close_none HC0.out)
  rw [fr_default] at HP
  have HQ := Lib.hid (fun W => r22_close_none (w := W) (A := A) (c := c))
  rw [bk_default] at HQ
  clear H
  go_enter Try.func57, Try.ntmps57
  go_wp2_with fail
  refine HP.out.mono ?_
  rintro e w2 ⟨rfl, s2⟩
  go_wp2_with fail
  refine (HQ.out _).mono ?_
  rintro e w3 ⟨rfl, s3⟩
  have bF := (Blk.new w2 98 #[.int .u8 0, .string ⟨#[]⟩, .int .i64 0, .bool false]).step s3 id
  have v0 := bF.cell 0
  have v1 := bF.cell 1
  have v2 := bF.cell 2
  have v3 := bF.cell 3
  simp at v0 v1 v2 v3
  have hlt := bF.lt
  have HS3 := Lib.hid (s2.trans ((Step.alloc Step.refl _).trans s3))
  clear s2 s3 bF HP HQ
  go_wp2_with fail
  go_quiet (fail)
  go_wp2_with fail
  go_ret2
  exact HO.out _ (HS3.out.trans ((Step.alloc Step.refl _).drewN _))

set_option maxRecDepth 100000 in
set_option maxHeartbeats 1600000 in
theorem cdo_5err (o : List UInt8) (er : Int) (hl : l = pre ++ [b]) (H : Sta w I J g gs A c l) (hz : l.length ≤ 1000) (hn : (allOwn l).length ≤ 100000) (hr : b.res.length ≤ 1000) (hp : wantAllF b.own b.res.reverse 0 b.dead = (o, er)) (he : (er == 0) = false) (he2 : (er != 0) = true) :
    Calls Try.prog 57 #[.pointer (some ⟨g, 0, none⟩), .slice A l.length c, .agg #[.int .i64 5, .int .u8 (t.toNat : Int), .string (str s), .int .u64 (n : Int)]] w (CDo w I J g gs (l.set (l.length - 1) { b with own := o })) := by
  have s1 : Step (fun _ => False) w (w.alloc (.cells #[.int .i64 5, .int .u8 (t.toNat : Int), .string (str s), .int .u64 (n : Int)] 107)) := Step.refl.alloc _
  have b1 : Blk (w.alloc (.cells #[.int .i64 5, .int .u8 (t.toNat : Int), .string (str s), .int .u64 (n : Int)] 107)) w.heap.size 107 #[.int .i64 5, .int .u8 (t.toNat : Int), .string (str s), .int .u64 (n : Int)] := Blk.new w _ _
  have HH := Lib.hid (H.box s1)
  have hbi : ¬ I w.heap.size := fun hk => by have := H.ctl.in_ _ hk; omega
  have hbl : w.heap.size < (w.alloc (.cells #[.int .i64 5, .int .u8 (t.toNat : Int), .string (str s), .int .u64 (n : Int)] 107)).heap.size := by simp
  have S1 := Lib.hid s1
  have HB1 := Lib.hid b1
  clear s1 b1
  have HL := Lib.hid hl
  have htop : (fsOf 0 l)[(fsOf 0 l).length - 1]? = some ⟨b.op, b.res, (allOwn pre).length, b.dead⟩ := by rw [hl]; exact fsOf_top pre b
  have hlb : l[l.length - 1]? = some b := by rw [hl]; simp
  have hal : allOwn l = allOwn pre ++ b.own := by rw [hl, allOwn_last]
  have hbo : b.own.length ≤ 100000 := by rw [hal] at hn; simp at hn; omega
  have hA' : allOwn (l.set (l.length - 1) { b with own := o }) = allOwn pre ++ o := by rw [hl, set_last, allOwn_last]
  have hF' : fsOf 0 (l.set (l.length - 1) { b with own := o }) = fsOf 0 l := by rw [hl, set_last, fsOf_last, fsOf_last]
  have hlen : (l.set (l.length - 1) { b with own := o }).length = l.length := List.length_set
  have HA := Lib.hid hA'
  have HF := Lib.hid hF'
  have HLEN := Lib.hid hlen
  clear hA' hF' hlen
  have hq := wantAllF_shift (allOwn pre) b.dead b.res.reverse b.own
  rw [hp] at hq
  dsimp only at hq
  rw [← hal] at hq
  have HP := Lib.hid (ctl_close_err _ (allOwn pre ++ o) er HH.out.ctl (by rw [fsOf_length]; omega) (by omega) (show b.res.length ≤ 1000000 by omega) htop hq he2)
  rw [fr_default] at HP
  have HQ := Lib.hid (fun W (hs : Step (fun k => I k) (w.alloc (.cells #[.int .i64 5, .int .u8 (t.toNat : Int), .string (str s), .int .u64 (n : Int)] 107)) W) => r22_close_err (c := c) b o er (HH.out.row.step hs HH.out.far) (by omega) hlb (by omega) (by omega) hp he he2)
  rw [bk_default] at HQ
  clear hl htop hal H hq hp hlb
  go_enter Try.func57, Try.ntmps57
  go_wp2_with fail
  refine HP.out.mono ?_
  rintro e w2 ⟨rfl, I2, h2, u2⟩
  have HU2 := Lib.hid (Upd.after S1.out u2)
  have HC2 := Lib.hid h2
  have HQ2 := Lib.hid (HQ.out (w2.alloc (.cells #[.int .u8 0, .string ⟨#[]⟩, .int .i64 0, .bool false] 98)) (u2.1.alloc _))
  clear h2 u2 HQ
  go_wp2_with fail
  refine HQ2.out.mono ?_
  rintro e w3 ⟨A', c', rfl, hnew⟩
  have bF := (Blk.new w2 98 #[.int .u8 0, .string ⟨#[]⟩, .int .i64 0, .bool false]).step hnew.2 id
  have v0 := bF.cell 0
  have v1 := bF.cell 1
  have v2 := bF.cell 2
  have v3 := bF.cell 3
  simp at v0 v1 v2 v3
  have hlt := bF.lt
  have HR := cdo_new (J := J) (HU2.out.quiet (Step.alloc Step.refl _)) (by rw [HA.out, HF.out]; exact HC2.out.quiet (Step.alloc Step.refl _)) hnew
  have HR2 := Lib.hid (HR.quiet (Step.alloc Step.refl (.cells #[.int .i64 0, .string ⟨#[]⟩, .string ⟨#[]⟩, .bool false] 104)))
  rw [HLEN.out] at HR2 ⊢
  clear hnew HR bF HQ2 HP
  go_wp2_with fail
  go_quiet (fail)
  go_wp2_with fail
  go_ret2
  exact CDo.quiet HR2.out (Step.drewN Step.refl _)

set_option maxRecDepth 100000 in
set_option maxHeartbeats 1600000 in
theorem cdo_5more (o : List UInt8) (er : Int) (hl : l = pre ++ [b]) (H : Sta w I J g gs A c l) (hz : l.length ≤ 1000) (hn : (allOwn l).length ≤ 100000) (hr : b.res.length ≤ 1000) (hp : wantAllF b.own b.res.reverse 0 b.dead = (o, er)) (he : (er == 0) = true) (ho : o ≠ []) :
    Calls Try.prog 57 #[.pointer (some ⟨g, 0, none⟩), .slice A l.length c, .agg #[.int .i64 5, .int .u8 (t.toNat : Int), .string (str s), .int .u64 (n : Int)]] w (CDo w I J g gs (l.set (l.length - 1) { b with own := o })) := by
  have s1 : Step (fun _ => False) w (w.alloc (.cells #[.int .i64 5, .int .u8 (t.toNat : Int), .string (str s), .int .u64 (n : Int)] 107)) := Step.refl.alloc _
  have b1 : Blk (w.alloc (.cells #[.int .i64 5, .int .u8 (t.toNat : Int), .string (str s), .int .u64 (n : Int)] 107)) w.heap.size 107 #[.int .i64 5, .int .u8 (t.toNat : Int), .string (str s), .int .u64 (n : Int)] := Blk.new w _ _
  have HH := Lib.hid (H.box s1)
  have hbi : ¬ I w.heap.size := fun hk => by have := H.ctl.in_ _ hk; omega
  have hbl : w.heap.size < (w.alloc (.cells #[.int .i64 5, .int .u8 (t.toNat : Int), .string (str s), .int .u64 (n : Int)] 107)).heap.size := by simp
  have S1 := Lib.hid s1
  have HB1 := Lib.hid b1
  clear s1 b1
  have HL := Lib.hid hl
  have htop : (fsOf 0 l)[(fsOf 0 l).length - 1]? = some ⟨b.op, b.res, (allOwn pre).length, b.dead⟩ := by rw [hl]; exact fsOf_top pre b
  have hlb : l[l.length - 1]? = some b := by rw [hl]; simp
  have hal : allOwn l = allOwn pre ++ b.own := by rw [hl, allOwn_last]
  have hbo : b.own.length ≤ 100000 := by rw [hal] at hn; simp at hn; omega
  have hA' : allOwn (l.set (l.length - 1) { b with own := o }) = allOwn pre ++ o := by rw [hl, set_last, allOwn_last]
  have hF' : fsOf 0 (l.set (l.length - 1) { b with own := o }) = fsOf 0 l := by rw [hl, set_last, fsOf_last, fsOf_last]
  have hlen : (l.set (l.length - 1) { b with own := o }).length = l.length := List.length_set
  have HA := Lib.hid hA'
  have HF := Lib.hid hF'
  have HLEN := Lib.hid hlen
  clear hA' hF' hlen
  have hq := wantAllF_shift (allOwn pre) b.dead b.res.reverse b.own
  rw [hp] at hq
  dsimp only at hq
  rw [← hal] at hq
  have HP := Lib.hid (ctl_close_more _ (allOwn pre ++ o) er HH.out.ctl (by rw [fsOf_length]; omega) (by omega) (show b.res.length ≤ 1000000 by omega) htop hq (by rw [bne, he]; rfl) (by rw [bne_iff_ne]; have := List.length_pos_iff.2 ho; simp only [List.length_append]; omega))
  rw [fr_default] at HP
  have HQ := Lib.hid (fun W (hs : Step (fun k => I k) (w.alloc (.cells #[.int .i64 5, .int .u8 (t.toNat : Int), .string (str s), .int .u64 (n : Int)] 107)) W) => r22_close_more (c := c) b o er (HH.out.row.step hs HH.out.far) (by omega) hlb (by omega) (by omega) hp he ho)
  rw [bk_default] at HQ
  clear hl htop hal H hq hp hlb
  go_enter Try.func57, Try.ntmps57
  go_wp2_with fail
  refine HP.out.mono ?_
  rintro e w2 ⟨rfl, I2, h2, u2⟩
  have HU2 := Lib.hid (Upd.after S1.out u2)
  have HC2 := Lib.hid h2
  have HQ2 := Lib.hid (HQ.out (w2.alloc (.cells #[.int .u8 0, .string ⟨#[]⟩, .int .i64 0, .bool false] 98)) (u2.1.alloc _))
  clear h2 u2 HQ
  go_wp2_with fail
  refine HQ2.out.mono ?_
  rintro e w3 ⟨A', c', rfl, hnew⟩
  have bF := (Blk.new w2 98 #[.int .u8 0, .string ⟨#[]⟩, .int .i64 0, .bool false]).step hnew.2 id
  have v0 := bF.cell 0
  have v1 := bF.cell 1
  have v2 := bF.cell 2
  have v3 := bF.cell 3
  simp at v0 v1 v2 v3
  have hlt := bF.lt
  have HR := cdo_new (J := J) (HU2.out.quiet (Step.alloc Step.refl _)) (by rw [HA.out, HF.out]; exact HC2.out.quiet (Step.alloc Step.refl _)) hnew
  have HR2 := Lib.hid (HR.quiet (Step.alloc Step.refl (.cells #[.int .i64 0, .string ⟨#[]⟩, .string ⟨#[]⟩, .bool false] 104)))
  rw [HLEN.out] at HR2 ⊢
  clear hnew HR bF HQ2 HP
  go_wp2_with fail
  go_quiet (fail)
  go_wp2_with fail
  go_ret2
  exact CDo.quiet HR2.out (Step.drewN Step.refl _)

set_option maxRecDepth 100000 in
set_option maxHeartbeats 1600000 in
theorem cdo_5ok (o : List UInt8) (er : Int) (hl : l = pre ++ [b]) (H : Sta w I J g gs A c l) (hz : l.length ≤ 1000) (hn : (allOwn l).length ≤ 100000) (hr : b.res.length ≤ 1000) (hp : wantAllF b.own b.res.reverse 0 b.dead = (o, er)) (ho : o = []) (he : er = 0) (hop1 : 0 ≤ b.op) (hop2 : b.op ≤ 255) :
    Calls Try.prog 57 #[.pointer (some ⟨g, 0, none⟩), .slice A l.length c, .agg #[.int .i64 5, .int .u8 (t.toNat : Int), .string (str s), .int .u64 (n : Int)]] w (CDo w I J g gs (l.dropLast)) := by
  have s1 : Step (fun _ => False) w (w.alloc (.cells #[.int .i64 5, .int .u8 (t.toNat : Int), .string (str s), .int .u64 (n : Int)] 107)) := Step.refl.alloc _
  have b1 : Blk (w.alloc (.cells #[.int .i64 5, .int .u8 (t.toNat : Int), .string (str s), .int .u64 (n : Int)] 107)) w.heap.size 107 #[.int .i64 5, .int .u8 (t.toNat : Int), .string (str s), .int .u64 (n : Int)] := Blk.new w _ _
  have HH := Lib.hid (H.box s1)
  have hbi : ¬ I w.heap.size := fun hk => by have := H.ctl.in_ _ hk; omega
  have hbl : w.heap.size < (w.alloc (.cells #[.int .i64 5, .int .u8 (t.toNat : Int), .string (str s), .int .u64 (n : Int)] 107)).heap.size := by simp
  have S1 := Lib.hid s1
  have HB1 := Lib.hid b1
  clear s1 b1
  have HL := Lib.hid hl
  have htop : (fsOf 0 l)[(fsOf 0 l).length - 1]? = some ⟨b.op, b.res, (allOwn pre).length, b.dead⟩ := by rw [hl]; exact fsOf_top pre b
  have hlb : l[l.length - 1]? = some b := by rw [hl]; simp
  have hal : allOwn l = allOwn pre ++ b.own := by rw [hl, allOwn_last]
  have hbo : b.own.length ≤ 100000 := by rw [hal] at hn; simp at hn; omega
  have hA' : allOwn l.dropLast = allOwn pre := by rw [hl, List.dropLast_concat]
  have hF' : fsOf 0 l.dropLast = (fsOf 0 l).dropLast := by rw [hl, List.dropLast_concat, fsOf_drop]
  have hlen : l.dropLast.length = l.length - 1 := List.length_dropLast
  have HA := Lib.hid hA'
  have HF := Lib.hid hF'
  have HLEN := Lib.hid hlen
  clear hA' hF' hlen
  subst ho; subst he
  have hq := wantAllF_shift (allOwn pre) b.dead b.res.reverse b.own
  rw [hp] at hq
  dsimp only at hq
  rw [← hal] at hq
  have HP := Lib.hid (ctl_close_ok _ (allOwn pre ++ []) 0 HH.out.ctl (by rw [fsOf_length]; omega) (by omega) (show b.res.length ≤ 1000000 by omega) htop hq (by rfl) (by rw [List.append_nil]; simp))
  unfold Fr.val at HP
  have HQ := Lib.hid (fun W (hs : Step (fun k => I k) (w.alloc (.cells #[.int .i64 5, .int .u8 (t.toNat : Int), .string (str s), .int .u64 (n : Int)] 107)) W) => r22_close_ok (c := c) b (HH.out.row.step hs HH.out.far) (by omega) hlb (by omega) (by omega) hp)
  rw [List.append_nil] at HP
  clear hl htop hal H hq hp hlb
  go_enter Try.func57, Try.ntmps57
  go_wp2_with fail
  refine HP.out.mono ?_
  rintro e w2 ⟨rfl, I2, h2, u2⟩
  have HU2 := Lib.hid (Upd.after S1.out u2)
  have HC2 := Lib.hid h2
  have HQ2 := Lib.hid (HQ.out (w2.alloc (.cells #[.int .u8 b.op, .string (str b.res), .int .i64 ((allOwn pre).length : Int), .bool b.dead] 98)) (u2.1.alloc _))
  clear h2 u2 HQ
  go_wp2_with fail
  refine HQ2.out.mono ?_
  rintro e w3 ⟨A', c', rfl, hnew⟩
  have bF := (Blk.new w2 98 #[.int .u8 b.op, .string (str b.res), .int .i64 ((allOwn pre).length : Int), .bool b.dead]).step hnew.2 id
  have v0 := bF.cell 0
  have v1 := bF.cell 1
  have v2 := bF.cell 2
  have v3 := bF.cell 3
  simp at v0 v1 v2 v3
  have hlt := bF.lt
  have HR := cdo_new (J := J) (HU2.out.quiet (Step.alloc Step.refl _)) (by rw [HA.out, HF.out]; exact HC2.out.quiet (Step.alloc Step.refl _)) hnew
  have HR2 := Lib.hid (HR.quiet (Step.alloc Step.refl (.cells #[.int .i64 b.op, .string (str b.res), .string ⟨#[]⟩, .bool b.dead] 104)))
  rw [HLEN.out] at HR2
  clear hnew HR bF HQ2 HP
  go_wp2_with fail
  go_quiet (fail)
  go_wp2_with fail
  go_ret2
  exact CDo.quiet HR2.out (Step.drewN Step.refl _)
end
end Go.Proofs.Ytfechgpdlabgaaa
