/-
  CtrlPlays: 'do', kind by kind.
-/
import Derived.Test.YtfechgpdlabgaaaCtlH
import Derived.Test.YtfechgpdlabgaaaStkF
set_option linter.unusedVariables false
set_option linter.unusedSimpArgs false
namespace Go.Proofs.Ytfechgpdlabgaaa
open Go.RowKit

/-- A call: creellaw22.Op. -/
structure COp where
  kind : Int
  t : UInt8
  s : List UInt8
  n : Nat
def COp.cells (o : COp) : List Value := [.int .i64 o.kind, .int .u8 (o.t.toNat : Int), .string (str o.s), .int .u64 (o.n : Int)]
def COp.val (o : COp) : Value := .agg #[.int .i64 o.kind, .int .u8 (o.t.toNat : Int), .string (str o.s), .int .u64 (o.n : Int)]

theorem set_last (pre : List Bk) (b b' : Bk) : (pre ++ [b]).set ((pre ++ [b]).length - 1) b' = pre ++ [b'] := by simp
section
variable {w : World} {I J : Nat → Prop} {g gs c : Nat} {A : Option Addr} {l pre : List Bk} {b : Bk} {t : UInt8} {s : List UInt8} {n : Nat}

set_option maxRecDepth 100000 in
set_option maxHeartbeats 1600000 in
theorem cdo_2 (o : List UInt8) (u er : Int) (hl : l = pre ++ [b]) (H : Sta w I J g gs A c l) (hz : l.length ≤ 1000) (hn : (allOwn l).length ≤ 100000) (hp : popF b.own 0 b.dead = (o, u, er)) :
    Calls Try.prog 57 #[.pointer (some ⟨g, 0, none⟩), .slice A l.length c, .agg #[.int .i64 2, .int .u8 (t.toNat : Int), .string (str s), .int .u64 (n : Int)]] w (CDo w I J g gs (l.set (l.length - 1) { b with own := o })) := by
  have s1 : Step (fun _ => False) w (w.alloc (.cells #[.int .i64 2, .int .u8 (t.toNat : Int), .string (str s), .int .u64 (n : Int)] 107)) := Step.refl.alloc _
  have b1 : Blk (w.alloc (.cells #[.int .i64 2, .int .u8 (t.toNat : Int), .string (str s), .int .u64 (n : Int)] 107)) w.heap.size 107 #[.int .i64 2, .int .u8 (t.toNat : Int), .string (str s), .int .u64 (n : Int)] := Blk.new w _ _
  have HH := Lib.hid (H.box s1)
  have hbi : ¬ I w.heap.size := fun hk => by have := H.ctl.in_ _ hk; omega
  have hbl : w.heap.size < (w.alloc (.cells #[.int .i64 2, .int .u8 (t.toNat : Int), .string (str s), .int .u64 (n : Int)] 107)).heap.size := by simp
  have S1 := Lib.hid s1
  have HB1 := Lib.hid b1
  clear s1 b1
  have HL := Lib.hid hl
  have htop : (fsOf 0 l)[(fsOf 0 l).length - 1]? = some ⟨b.op, b.res, (allOwn pre).length, b.dead⟩ := by rw [hl]; exact fsOf_top pre b
  have hlb : l[l.length - 1]? = some b := by rw [hl]; simp
  have hal : allOwn l = allOwn pre ++ b.own := by rw [hl, allOwn_last]
  have hbo : b.own.length ≤ 100000 := by rw [hal] at hn; simp at hn; omega
  have hA' : allOwn (l.set (l.length - 1) { b with own := o }) = allOwn pre ++ o := by rw [hl, set_last, allOwn_last]
  have hF' : fsOf 0 (l.set (l.length - 1) { b with own := o }) = fsOf 0 l := by rw [hl, set_last, fsOf_last, fsOf_last]
  have hlen : (l.set (l.length - 1) { b with own := o }).length = l.length := List.length_set
  have hq := popF_shift (allOwn pre) b.own b.dead
  rw [hp] at hq
  have hbd := popF_t b.own 0 b.dead
  rw [hp] at hbd
  obtain ⟨hb1, hb2⟩ := hbd
  dsimp only at hb1 hb2
  have HP := Lib.hid (ctl_pop _ HH.out.ctl (by rw [fsOf_length]; omega) (by omega) htop)
  dsimp only at HP
  rw [hal, hq] at HP
  have HW := Lib.hid ((wantF_zero b.own 0 b.dead).trans hp)
  clear hq hp
  have HA := Lib.hid hA'
  have HF := Lib.hid hF'
  have HLEN := Lib.hid hlen
  clear hl hA' hF' hlen hal htop H
  go_enter Try.func57, Try.ntmps57
  go_wp2_with fail
  refine HP.out.mono ?_
  rintro e w2 ⟨rfl, I2, h2, u2⟩
  have b2 := HB1.out.step u2.1 hbi
  have HU2 := Lib.hid (Upd.after S1.out u2)
  have HC2 := Lib.hid h2
  have HRO := Lib.hid (HH.out.row.step u2.1 HH.out.far)
  have hbl2 := b2.lt
  clear b2 u2 h2
  clear HP
  go_wp2_with fail
  refine (r22_want (c := c) b 0 o u er HRO.out (by omega) hlb (by omega) HW.out).mono ?_
  rintro e w3 ⟨A', c', rfl, hnew⟩
  have HR := cdo_new (J := J) HU2.out (l' := l.set (l.length - 1) { b with own := o }) (by rw [HA.out, HF.out]; exact HC2.out) hnew
  rw [HLEN.out] at HR
  clear hnew
  go_wp2_with fail
  go_ret2
  exact HR

set_option maxRecDepth 100000 in
set_option maxHeartbeats 1600000 in
theorem cdo_3 (o : List UInt8) (u er : Int) (hl : l = pre ++ [b]) (H : Sta w I J g gs A c l) (hz : l.length ≤ 1000) (hn : (allOwn l).length ≤ 100000) (hp : wantF b.own (t.toNat : Int) 0 b.dead = (o, u, er)) :
    Calls Try.prog 57 #[.pointer (some ⟨g, 0, none⟩), .slice A l.length c, .agg #[.int .i64 3, .int .u8 (t.toNat : Int), .string (str s), .int .u64 (n : Int)]] w (CDo w I J g gs (l.set (l.length - 1) { b with own := o })) := by
  have s1 : Step (fun _ => False) w (w.alloc (.cells #[.int .i64 3, .int .u8 (t.toNat : Int), .string (str s), .int .u64 (n : Int)] 107)) := Step.refl.alloc _
  have b1 : Blk (w.alloc (.cells #[.int .i64 3, .int .u8 (t.toNat : Int), .string (str s), .int .u64 (n : Int)] 107)) w.heap.size 107 #[.int .i64 3, .int .u8 (t.toNat : Int), .string (str s), .int .u64 (n : Int)] := Blk.new w _ _
  have HH := Lib.hid (H.box s1)
  have hbi : ¬ I w.heap.size := fun hk => by have := H.ctl.in_ _ hk; omega
  have hbl : w.heap.size < (w.alloc (.cells #[.int .i64 3, .int .u8 (t.toNat : Int), .string (str s), .int .u64 (n : Int)] 107)).heap.size := by simp
  have S1 := Lib.hid s1
  have HB1 := Lib.hid b1
  clear s1 b1
  have HL := Lib.hid hl
  have htop : (fsOf 0 l)[(fsOf 0 l).length - 1]? = some ⟨b.op, b.res, (allOwn pre).length, b.dead⟩ := by rw [hl]; exact fsOf_top pre b
  have hlb : l[l.length - 1]? = some b := by rw [hl]; simp
  have hal : allOwn l = allOwn pre ++ b.own := by rw [hl, allOwn_last]
  have hbo : b.own.length ≤ 100000 := by rw [hal] at hn; simp at hn; omega
  have hA' : allOwn (l.set (l.length - 1) { b with own := o }) = allOwn pre ++ o := by rw [hl, set_last, allOwn_last]
  have hF' : fsOf 0 (l.set (l.length - 1) { b with own := o }) = fsOf 0 l := by rw [hl, set_last, fsOf_last, fsOf_last]
  have hlen : (l.set (l.length - 1) { b with own := o }).length = l.length := List.length_set
  have hq := wantF_shift (allOwn pre) b.own (t.toNat : Int) b.dead
  rw [hp] at hq
  have ht1 : (0 : Int) ≤ (t.toNat : Int) := by omega
  have ht2 : (t.toNat : Int) ≤ 255 := by have := UInt8.toNat_lt t; omega
  have hbd := wantF_t b.own (t.toNat : Int) 0 b.dead ⟨ht1, ht2⟩
  rw [hp] at hbd
  obtain ⟨hb1, hb2⟩ := hbd
  dsimp only at hb1 hb2
  have HP := Lib.hid (ctl_want _ (t.toNat : Int) HH.out.ctl (by rw [fsOf_length]; omega) (by omega) htop)
  dsimp only at HP
  rw [hal, hq] at HP
  have HW := Lib.hid hp
  clear hq hp
  have HA := Lib.hid hA'
  have HF := Lib.hid hF'
  have HLEN := Lib.hid hlen
  clear hl hA' hF' hlen hal htop H
  go_enter Try.func57, Try.ntmps57
  go_wp2_with fail
  refine HP.out.mono ?_
  rintro e w2 ⟨rfl, I2, h2, u2⟩
  have b2 := HB1.out.step u2.1 hbi
  have c1 := b2.cell 1
  simp at c1
  have HU2 := Lib.hid (Upd.after S1.out u2)
  have HC2 := Lib.hid h2
  have HRO := Lib.hid (HH.out.row.step u2.1 HH.out.far)
  have hbl2 := b2.lt
  clear b2 u2 h2
  clear HP
  go_wp2_with fail
  refine (r22_want (c := c) b (t.toNat : Int) o u er HRO.out (by omega) hlb (by omega) HW.out).mono ?_
  rintro e w3 ⟨A', c', rfl, hnew⟩
  have HR := cdo_new (J := J) HU2.out (l' := l.set (l.length - 1) { b with own := o }) (by rw [HA.out, HF.out]; exact HC2.out) hnew
  rw [HLEN.out] at HR
  clear hnew
  go_wp2_with fail
  go_ret2
  exact HR

set_option maxRecDepth 100000 in
set_option maxHeartbeats 1600000 in
theorem cdo_4 (o : List UInt8) (er : Int) (hl : l = pre ++ [b]) (H : Sta w I J g gs A c l) (hz : l.length ≤ 1000) (hn : (allOwn l).length ≤ 100000) (hs : s.length ≤ 1000) (hp : wantAllF b.own s.reverse 0 b.dead = (o, er)) :
    Calls Try.prog 57 #[.pointer (some ⟨g, 0, none⟩), .slice A l.length c, .agg #[.int .i64 4, .int .u8 (t.toNat : Int), .string (str s), .int .u64 (n : Int)]] w (CDo w I J g gs (l.set (l.length - 1) { b with own := o })) := by
  have s1 : Step (fun _ => False) w (w.alloc (.cells #[.int .i64 4, .int .u8 (t.toNat : Int), .string (str s), .int .u64 (n : Int)] 107)) := Step.refl.alloc _
  have b1 : Blk (w.alloc (.cells #[.int .i64 4, .int .u8 (t.toNat : Int), .string (str s), .int .u64 (n : Int)] 107)) w.heap.size 107 #[.int .i64 4, .int .u8 (t.toNat : Int), .string (str s), .int .u64 (n : Int)] := Blk.new w _ _
  have HH := Lib.hid (H.box s1)
  have hbi : ¬ I w.heap.size := fun hk => by have := H.ctl.in_ _ hk; omega
  have hbl : w.heap.size < (w.alloc (.cells #[.int .i64 4, .int .u8 (t.toNat : Int), .string (str s), .int .u64 (n : Int)] 107)).heap.size := by simp
  have S1 := Lib.hid s1
  have HB1 := Lib.hid b1
  clear s1 b1
  have HL := Lib.hid hl
  have htop : (fsOf 0 l)[(fsOf 0 l).length - 1]? = some ⟨b.op, b.res, (allOwn pre).length, b.dead⟩ := by rw [hl]; exact fsOf_top pre b
  have hlb : l[l.length - 1]? = some b := by rw [hl]; simp
  have hal : allOwn l = allOwn pre ++ b.own := by rw [hl, allOwn_last]
  have hbo : b.own.length ≤ 100000 := by rw [hal] at hn; simp at hn; omega
  have hA' : allOwn (l.set (l.length - 1) { b with own := o }) = allOwn pre ++ o := by rw [hl, set_last, allOwn_last]
  have hF' : fsOf 0 (l.set (l.length - 1) { b with own := o }) = fsOf 0 l := by rw [hl, set_last, fsOf_last, fsOf_last]
  have hlen : (l.set (l.length - 1) { b with own := o }).length = l.length := List.length_set
  have hq := wantAllF_shift (allOwn pre) b.dead s.reverse b.own
  rw [hp] at hq
  have HP := Lib.hid (ctl_wantAll _ s HH.out.ctl (by rw [fsOf_length]; omega) (by omega) htop (by omega))
  dsimp only at HP
  rw [hal, hq] at HP
  have HW := Lib.hid hp
  clear hq hp
  have HA := Lib.hid hA'
  have HF := Lib.hid hF'
  have HLEN := Lib.hid hlen
  clear hl hA' hF' hlen hal htop H
  go_enter Try.func57, Try.ntmps57
  go_wp2_with fail
  refine HP.out.mono ?_
  rintro e w2 ⟨rfl, I2, h2, u2⟩
  have b2 := HB1.out.step u2.1 hbi
  have c2 := b2.cell 2
  simp at c2
  have HU2 := Lib.hid (Upd.after S1.out u2)
  have HC2 := Lib.hid h2
  have HRO := Lib.hid (HH.out.row.step u2.1 HH.out.far)
  have hbl2 := b2.lt
  clear b2 u2 h2
  clear HP
  go_wp2_with fail
  refine (r22_wantAll (c := c) b s o er HRO.out (by omega) hlb (by omega) (by omega) HW.out).mono ?_
  rintro e w3 ⟨A', c', rfl, hnew⟩
  have HR := cdo_new (J := J) HU2.out (l' := l.set (l.length - 1) { b with own := o }) (by rw [HA.out, HF.out]; exact HC2.out) hnew
  rw [HLEN.out] at HR
  clear hnew
  go_wp2_with fail
  go_ret2
  exact HR

set_option maxRecDepth 100000 in
set_option maxHeartbeats 1600000 in
theorem cdo_2n (H : Sta w I J g gs A c []) : Calls Try.prog 57 #[.pointer (some ⟨g, 0, none⟩), .slice A 0 c, .agg #[.int .i64 2, .int .u8 (t.toNat : Int), .string (str s), .int .u64 (n : Int)]] w (CDo w I J g gs []) := by
  have s1 : Step (fun _ => False) w (w.alloc (.cells #[.int .i64 2, .int .u8 (t.toNat : Int), .string (str s), .int .u64 (n : Int)] 107)) := Step.refl.alloc _
  have b1 : Blk (w.alloc (.cells #[.int .i64 2, .int .u8 (t.toNat : Int), .string (str s), .int .u64 (n : Int)] 107)) w.heap.size 107 #[.int .i64 2, .int .u8 (t.toNat : Int), .string (str s), .int .u64 (n : Int)] := Blk.new w _ _
  have HH := Lib.hid (H.box s1)
  have hbi : ¬ I w.heap.size := fun hk => by have := H.ctl.in_ _ hk; omega
  have hbl : w.heap.size < (w.alloc (.cells #[.int .i64 2, .int .u8 (t.toNat : Int), .string (str s), .int .u64 (n : Int)] 107)).heap.size := by simp
  have S1 := Lib.hid s1
  have HB1 := Lib.hid b1
  clear s1 b1
  have HC0 := Lib.hid (show Ctl (w.alloc (.cells #[.int .i64 2, .int .u8 (t.toNat : Int), .string (str s), .int .u64 (n : Int)] 107)) I g gs [] [] from HH.out.ctl)
  have HO := Lib.hid (fun w' (hs : Step (fun _ => False) (w.alloc (.cells #[.int .i64 2, .int .u8 (t.toNat : Int), .string (str s), .int .u64 (n : Int)] 107)) w') => CDo.after (J := J) S1.out (cdo_old (l := []) HH.out (Upd.quiet Upd.refl hs) (HC0.out.quiet hs)))
  clear H
  go_enter Try.func57, Try.ntmps57
  go_wp2_with fail
  refine (ctl_pop_none HC0.out).mono ?_
  rintro e w2 ⟨rfl, s2⟩
  have b2 := HB1.out.step s2 id
  have c1 := b2.cell 1
  have c2 := b2.cell 2
  have c3 := b2.cell 3
  simp at c1 c2 c3
  have HS2 := Lib.hid s2
  clear s2 b2
  go_wp2_with fail
  refine (r22_want_none (c := c) 0).mono ?_
  rintro e w3 ⟨rfl, rfl⟩
  go_wp2_with fail
  go_ret2
  exact HO.out _ HS2.out

set_option maxRecDepth 100000 in
set_option maxHeartbeats 1600000 in
theorem cdo_3n (H : Sta w I J g gs A c []) : Calls Try.prog 57 #[.pointer (some ⟨g, 0, none⟩), .slice A 0 c, .agg #[.int .i64 3, .int .u8 (t.toNat : Int), .string (str s), .int .u64 (n : Int)]] w (CDo w I J g gs []) := by
  have s1 : Step (fun _ => False) w (w.alloc (.cells #[.int .i64 3, .int .u8 (t.toNat : Int), .string (str s), .int .u64 (n : Int)] 107)) := Step.refl.alloc _
  have b1 : Blk (w.alloc (.cells #[.int .i64 3, .int .u8 (t.toNat : Int), .string (str s), .int .u64 (n : Int)] 107)) w.heap.size 107 #[.int .i64 3, .int .u8 (t.toNat : Int), .string (str s), .int .u64 (n : Int)] := Blk.new w _ _
  have HH := Lib.hid (H.box s1)
  have hbi : ¬ I w.heap.size := fun hk => by have := H.ctl.in_ _ hk; omega
  have hbl : w.heap.size < (w.alloc (.cells #[.int .i64 3, .int .u8 (t.toNat : Int), .string (str s), .int .u64 (n : Int)] 107)).heap.size := by simp
  have S1 := Lib.hid s1
  have HB1 := Lib.hid b1
  clear s1 b1
  have HC0 := Lib.hid (show Ctl (w.alloc (.cells #[.int .i64 3, .int .u8 (t.toNat : Int), .string (str s), .int .u64 (n : Int)] 107)) I g gs [] [] from HH.out.ctl)
  have HO := Lib.hid (fun w' (hs : Step (fun _ => False) (w.alloc (.cells #[.int .i64 3, .int .u8 (t.toNat : Int), .string (str s), .int .u64 (n : Int)] 107)) w') => CDo.after (J := J) S1.out (cdo_old (l := []) HH.out (Upd.quiet Upd.refl hs) (HC0.out.quiet hs)))
  have ht1 : (0 : Int) ≤ (t.toNat : Int) := by omega
  have ht2 : (t.toNat : Int) ≤ 255 := by have := UInt8.toNat_lt t; omega
  clear H
  go_enter Try.func57, Try.ntmps57
  go_wp2_with fail
  refine (ctl_want_none (t.toNat : Int) HC0.out).mono ?_
  rintro e w2 ⟨rfl, s2⟩
  have b2 := HB1.out.step s2 id
  have c1 := b2.cell 1
  have c2 := b2.cell 2
  have c3 := b2.cell 3
  simp at c1 c2 c3
  have HS2 := Lib.hid s2
  clear s2 b2
  go_wp2_with fail
  refine (r22_want_none (c := c) (t.toNat : Int)).mono ?_
  rintro e w3 ⟨rfl, rfl⟩
  go_wp2_with fail
  go_ret2
  exact HO.out _ HS2.out

set_option maxRecDepth 100000 in
set_option maxHeartbeats 1600000 in
theorem cdo_4n (H : Sta w I J g gs A c []) : Calls Try.prog 57 #[.pointer (some ⟨g, 0, none⟩), .slice A 0 c, .agg #[.int .i64 4, .int .u8 (t.toNat : Int), .string (str s), .int .u64 (n : Int)]] w (CDo w I J g gs []) := by
  have s1 : Step (fun _ => False) w (w.alloc (.cells #[.int .i64 4, .int .u8 (t.toNat : Int), .string (str s), .int .u64 (n : Int)] 107)) := Step.refl.alloc _
  have b1 : Blk (w.alloc (.cells #[.int .i64 4, .int .u8 (t.toNat : Int), .string (str s), .int .u64 (n : Int)] 107)) w.heap.size 107 #[.int .i64 4, .int .u8 (t.toNat : Int), .string (str s), .int .u64 (n : Int)] := Blk.new w _ _
  have HH := Lib.hid (H.box s1)
  have hbi : ¬ I w.heap.size := fun hk => by have := H.ctl.in_ _ hk; omega
  have hbl : w.heap.size < (w.alloc (.cells #[.int .i64 4, .int .u8 (t.toNat : Int), .string (str s), .int .u64 (n : Int)] 107)).heap.size := by simp
  have S1 := Lib.hid s1
  have HB1 := Lib.hid b1
  clear s1 b1
  have HC0 := Lib.hid (show Ctl (w.alloc (.cells #[.int .i64 4, .int .u8 (t.toNat : Int), .string (str s), .int .u64 (n : Int)] 107)) I g gs [] [] from HH.out.ctl)
  have HO := Lib.hid (fun w' (hs : Step (fun _ => False) (w.alloc (.cells #[.int .i64 4, .int .u8 (t.toNat : Int), .string (str s), .int .u64 (n : Int)] 107)) w') => CDo.after (J := J) S1.out (cdo_old (l := []) HH.out (Upd.quiet Upd.refl hs) (HC0.out.quiet hs)))
  clear H
  go_enter Try.func57, Try.ntmps57
  go_wp2_with fail
  refine (ctl_wantAll_none s HC0.out).mono ?_
  rintro e w2 ⟨rfl, s2⟩
  have b2 := HB1.out.step s2 id
  have c1 := b2.cell 1
  have c2 := b2.cell 2
  have c3 := b2.cell 3
  simp at c1 c2 c3
  have HS2 := Lib.hid s2
  clear s2 b2
  go_wp2_with fail
  refine (r22_wantAll_none (c := c) s).mono ?_
  rintro e w3 ⟨rfl, rfl⟩
  go_wp2_with fail
  go_ret2
  exact HO.out _ HS2.out

set_option maxRecDepth 100000 in
set_option maxHeartbeats 1600000 in
theorem cdo_6n (H : Sta w I J g gs A c []) : Calls Try.prog 57 #[.pointer (some ⟨g, 0, none⟩), .slice A 0 c, .agg #[.int .i64 6, .int .u8 (t.toNat : Int), .string (str s), .int .u64 (n : Int)]] w (CDo w I J g gs []) := by
  have s1 : Step (fun _ => False) w (w.alloc (.cells #[.int .i64 6, .int .u8 (t.toNat : Int), .string (str s), .int .u64 (n : Int)] 107)) := Step.refl.alloc _
  have b1 : Blk (w.alloc (.cells #[.int .i64 6, .int .u8 (t.toNat : Int), .string (str s), .int .u64 (n : Int)] 107)) w.heap.size 107 #[.int .i64 6, .int .u8 (t.toNat : Int), .string (str s), .int .u64 (n : Int)] := Blk.new w _ _
  have HH := Lib.hid (H.box s1)
  have hbi : ¬ I w.heap.size := fun hk => by have := H.ctl.in_ _ hk; omega
  have hbl : w.heap.size < (w.alloc (.cells #[.int .i64 6, .int .u8 (t.toNat : Int), .string (str s), .int .u64 (n : Int)] 107)).heap.size := by simp
  have S1 := Lib.hid s1
  have HB1 := Lib.hid b1
  clear s1 b1
  have HC0 := Lib.hid (show Ctl (w.alloc (.cells #[.int .i64 6, .int .u8 (t.toNat : Int), .string (str s), .int .u64 (n : Int)] 107)) I g gs [] [] from HH.out.ctl)
  have HO := Lib.hid (fun w' (hs : Step (fun _ => False) (w.alloc (.cells #[.int .i64 6, .int .u8 (t.toNat : Int), .string (str s), .int .u64 (n : Int)] 107)) w') => CDo.after (J := J) S1.out (cdo_old (l := []) HH.out (Upd.quiet Upd.refl hs) (HC0.out.quiet hs)))
  clear H
  go_enter Try.func57, Try.ntmps57
  go_wp2_with fail
  refine (ctl_dead_none HC0.out).mono ?_
  rintro e w2 ⟨rfl, rfl⟩
  go_wp2_with fail
  go_ret2
  exact HO.out _ Step.refl
end
end Go.Proofs.Ytfechgpdlabgaaa
