/-
  CtrlPlays: 'do': Open, Dead, Push.
-/
import Derived.Test.YtfechgpdlabgaaaCtlI
import Derived.Test.YtfechgpdlabgaaaMxt
set_option linter.unusedVariables false
set_option linter.unusedSimpArgs false
namespace Go.Proofs.Ytfechgpdlabgaaa
open Go.RowKit
theorem bk_one (x : Int) (y z : ByteArray) (u : Bool) : ∀ v ∈ #[Value.int .i64 x, .string y, .string z, .bool u].toList, v.oneCell' = true := by
  intro v hv
  simp at hv
  rcases hv with rfl | rfl | rfl | rfl <;> rfl
section
variable {w : World} {I J : Nat → Prop} {g gs c : Nat} {A : Option Addr} {l pre : List Bk} {b : Bk} {t : UInt8} {s : List UInt8} {n : Nat}
/-- What two appends leave. -/
theorem twice_new {V W : World} {D : Option Addr} {m c' : Nat} {pre : List Bk} {b : Bk} {X : List Value} (h : W.ownsRow V.heap.size 104 4 (.slice D (m + 1) c') (m + 1) ([] ++ bks pre ++ X)) (hs : Step (fun _ => False) V W) (hm : m = pre.length) (hX : X = b.cells) : BkNew V D c' (pre ++ [b]) W := by
  subst hm; subst hX
  rw [List.nil_append] at h
  refine ⟨?_, hs⟩
  rw [List.length_append, List.length_singleton, bks_append]
  simpa [bks] using h

set_option maxRecDepth 100000 in
set_option maxHeartbeats 1600000 in
theorem cdo_1 (H : Sta w I J g gs A c l) (hz : l.length ≤ 1000) (hs : s.length ≤ 1000) :
    Calls Try.prog 57 #[.pointer (some ⟨g, 0, none⟩), .slice A l.length c, .agg #[.int .i64 1, .int .u8 (t.toNat : Int), .string (str s), .int .u64 (n : Int)]] w (CDo w I J g gs (l ++ [⟨(t.toNat : Int), s, [], false⟩])) := by
  have s1 : Step (fun _ => False) w (w.alloc (.cells #[.int .i64 1, .int .u8 (t.toNat : Int), .string (str s), .int .u64 (n : Int)] 107)) := Step.refl.alloc _
  have b1 : Blk (w.alloc (.cells #[.int .i64 1, .int .u8 (t.toNat : Int), .string (str s), .int .u64 (n : Int)] 107)) w.heap.size 107 #[.int .i64 1, .int .u8 (t.toNat : Int), .string (str s), .int .u64 (n : Int)] := Blk.new w _ _
  have HH := Lib.hid (H.box s1)
  have hbi : ¬ I w.heap.size := fun hk => by have := H.ctl.in_ _ hk; omega
  have hbl : w.heap.size < (w.alloc (.cells #[.int .i64 1, .int .u8 (t.toNat : Int), .string (str s), .int .u64 (n : Int)] 107)).heap.size := by simp
  have S1 := Lib.hid s1
  have HB1 := Lib.hid b1
  clear s1 b1
  have hA' : allOwn (l ++ [⟨(t.toNat : Int), s, [], false⟩]) = allOwn l := by rw [allOwn_last, List.append_nil]
  have hF' : fsOf 0 (l ++ [⟨(t.toNat : Int), s, [], false⟩]) = fsOf 0 l ++ [⟨(t.toNat : Int), s, (allOwn l).length, false⟩] := by rw [fsOf_last]
  have HP := Lib.hid (ctl_open (t.toNat : Int) s HH.out.ctl (by rw [fsOf_length]; omega))
  have HA := Lib.hid hA'
  have HF := Lib.hid hF'
  have ht1 : (0 : Int) ≤ (t.toNat : Int) := by omega
  have ht2 : (t.toNat : Int) ≤ 255 := by have := UInt8.toNat_lt t; omega
  have hone1 := bks_one l
  have hone2 := bk_one (t.toNat : Int) (str s) ⟨#[]⟩ false
  have hm1 : 0 + l.length ≤ maxLen := by unfold maxLen; omega
  have hm2 : l.length + 1 ≤ maxLen := by unfold maxLen; omega
  clear hA' hF' H
  go_enter Try.func57, Try.ntmps57
  go_wp2_with fail
  refine HP.out.mono ?_
  rintro e w2 ⟨rfl, I2, h2, u2⟩
  have b2 := HB1.out.step u2.1 hbi
  have c1 := b2.cell 1
  have c2 := b2.cell 2
  simp at c1 c2
  have HU2 := Lib.hid (Upd.after S1.out u2)
  have HC2 := Lib.hid h2
  have HRO := Lib.hid (HH.out.row.step u2.1 HH.out.far)
  have hbl2 := b2.lt
  clear b2 u2 h2
  have hsrc := HRO.out
  have d1 := cls_cell (F := fun _ => False) c1 id
  have d2 := cls_cell (F := fun _ => False) c2 id
  clear HP c1 c2
  go_wp2_with fail
  have hz1 : (w2.alloc (.cells #[.int .i64 (t.toNat : Int), .string (str s), .string ⟨#[]⟩, .bool false] 104)).heap.size = w2.heap.size + 1 := by simp
  have hz0 : (w2.alloc (.cells #[] 104)).heap.size = w2.heap.size + 1 := by simp
  have hfA : (w2.alloc (.cells #[] 104)).drew.ownsRow w2.heap.size 104 4 (.slice (some ⟨w2.heap.size, 0, none⟩) 0 0) 0 [] := own_drew (own_fresh 4 (Nat.le_refl _))
  have hrA := hsrc.step (F := fun _ => False) (Step.drew (Step.alloc Step.refl (.cells #[] 104))) (fun _ _ => id)
  have hfB : ((w2.alloc (.cells #[] 104)).alloc (.cells #[.int .i64 (t.toNat : Int), .string (str s), .string ⟨#[]⟩, .bool false] 104)).drew.ownsRow w2.heap.size 104 4 (.slice (some ⟨w2.heap.size, 0, none⟩) 0 0) 0 [] := own_drew ((own_fresh 4 (Nat.le_refl _)).alloc _)
  have hrB := hsrc.step (F := fun _ => False) (Step.drew (Step.alloc (Step.alloc Step.refl (.cells #[] 104)) (.cells #[.int .i64 (t.toNat : Int), .string (str s), .string ⟨#[]⟩, .bool false] 104))) (fun _ _ => id)
  have hxB := (reads_new (w2.alloc (.cells #[] 104)) #[.int .i64 (t.toNat : Int), .string (str s), .string ⟨#[]⟩, .bool false] 104 4 1 rfl).drew
  have hfC : ((w2.alloc (.cells #[.int .i64 (t.toNat : Int), .string (str s), .string ⟨#[]⟩, .bool false] 104)).alloc (.cells #[] 104)).drew.ownsRow w2.heap.size 104 4 (.slice (some ⟨w2.heap.size + 1, 0, none⟩) 0 0) 0 [] := by
    have := own_drew (own_fresh (w := w2.alloc (.cells #[.int .i64 (t.toNat : Int), .string (str s), .string ⟨#[]⟩, .bool false] 104)) (e := 104) (base := w2.heap.size) 4 (by omega))
    rwa [hz1] at this
  have hrC := hsrc.step (F := fun _ => False) (Step.drew (Step.alloc (Step.alloc Step.refl (.cells #[.int .i64 (t.toNat : Int), .string (str s), .string ⟨#[]⟩, .bool false] 104)) (.cells #[] 104))) (fun _ _ => id)
  have hxC := ((reads_new w2 #[.int .i64 (t.toNat : Int), .string (str s), .string ⟨#[]⟩, .bool false] 104 4 1 rfl).step (F := fun _ => False) (Step.alloc Step.refl (.cells #[] 104)) (fun _ _ => id)).drew
  rw [hz0] at hxB
  refine Mxt.wp_region_tree [0, 2, 9, 10] [0, 2, 9, 10] (.fork (.op 0 (.reads [1] (.fork (.op 2 (.reads [3, 4, 5, 6, 7, 8] (.op 9 (.op 10 (.reads [11, 12] .leaf))))) (.reads [3, 4, 5, 6, 7, 8] (.op 9 (.op 2 (.op 10 (.reads [11, 12] .leaf)))))))) (.reads [3, 4, 5, 6, 7, 8] (.op 9 (.reads [1] (.op 0 (.op 2 (.op 10 (.reads [11, 12] .leaf)))))))) (Step (fun _ => False) w2) (by kernel_rfl) (by kernel_rfl) Step.refl.drew (fun hcls => ?_)
  refine Mxt.wpTL_fork ?_ ?_
  · refine Mxt.wpTL_op (by rfl) (fun K hK => ?_)
    go_simp
    refine hK _ _ (fun hlt => Mix.cl (Step.drew (Step.alloc Step.refl _))) ?_
    clear hK K
    refine Mxt.wpTL_reads ?_
    simp only [List.flatMap_cons, List.flatMap_nil, List.getElem?_cons_succ, List.getElem?_cons_zero, Option.toList_some, List.cons_append, List.nil_append]
    repeat (go_big_quiet_step (fail))
    refine wpQuiet_nil ?_
    refine Mxt.wpTL_fork ?_ ?_
    · refine Mxt.wpTL_op (by rfl) (fun K hK => ?_)
      refine step_append_new (w0 := w2) (by rfl) _ _ (by rfl) E_bk (Step.drew (Step.alloc Step.refl _)) (by rfl) (hfA) (by rfl) (hrA) hone1 hm1 (by omega) ?_
      intro D1 c1 W1 hown1 hS1 hgrow1 hat1
      refine hK _ _ (fun hlt => Mix.cl hS1) ?_
      clear hK K
      simp only [Act.put, List.setIfInBounds_toArray, List.set_cons_succ, List.set_cons_zero, Nat.zero_add]
      simp only [Nat.zero_add] at hown1
      refine Mxt.wpTL_reads ?_
      simp only [List.flatMap_cons, List.flatMap_nil, List.getElem?_cons_succ, List.getElem?_cons_zero, Option.toList_some, List.cons_append, List.nil_append]
      repeat (go_big_quiet_step (fail))
      refine wpQuiet_nil ?_
      refine Mxt.wpTL_op (by rfl) (fun K hK => ?_)
      go_simp
      refine hK _ _ (fun hlt => Mix.cl (Step.alloc hS1 _)) ?_
      clear hK K
      refine Mxt.wpTL_op (by rfl) (fun K hK => ?_)
      refine step_append_new (w0 := w2) (by rfl) _ _ (by rfl) E_bk (Step.alloc hS1 _) (by rfl) (hown1.alloc _) (by rfl) (reads_new W1 #[.int .i64 (t.toNat : Int), .string (str s), .string ⟨#[]⟩, .bool false] 104 4 1 rfl) hone2 hm2 (by omega) ?_
      intro D2 c2 W2 hown2 hS2 hgrow2 hat2
      refine hK _ _ (fun hlt => Mix.cl hS2) ?_
      clear hK K
      simp only [Act.put, List.setIfInBounds_toArray, List.set_cons_succ, List.set_cons_zero, Nat.zero_add]
      refine Mxt.wpTL_reads ?_
      simp only [List.flatMap_cons, List.flatMap_nil, List.getElem?_cons_succ, List.getElem?_cons_zero, Option.toList_some, List.cons_append, List.nil_append]
      repeat (go_big_quiet_step (fail))
      refine wpQuiet_nil ?_
      refine Mxt.wpTL_leaf ?_
      go_wp2_with fail
      go_ret2
      have HR := cdo_new (J := J) HU2.out (by rw [HA.out, HF.out]; exact HC2.out) (twice_new (b := ⟨(t.toNat : Int), s, [], false⟩) hown2 hS2 rfl rfl)
      rw [List.length_append, List.length_singleton] at HR
      exact HR
    · refine Mxt.wpTL_reads ?_
      simp only [List.flatMap_cons, List.flatMap_nil, List.getElem?_cons_succ, List.getElem?_cons_zero, Option.toList_some, List.cons_append, List.nil_append]
      repeat (go_big_quiet_step (fail))
      refine wpQuiet_nil ?_
      refine Mxt.wpTL_op (by rfl) (fun K hK => ?_)
      go_simp
      refine hK _ _ (fun hlt => Mix.cl (Step.drew (Step.alloc (Step.alloc Step.refl _) _))) ?_
      clear hK K
      refine Mxt.wpTL_op (by rfl) (fun K hK => ?_)
      refine step_append_new (w0 := w2) (by rfl) _ _ (by rfl) E_bk (Step.drew (Step.alloc (Step.alloc Step.refl _) _)) (by rfl) (hfB) (by rfl) (hrB) hone1 hm1 (by omega) ?_
      intro D1 c1 W1 hown1 hS1 hgrow1 hat1
      refine hK _ _ (fun hlt => Mix.cl hS1) ?_
      clear hK K
      simp only [Act.put, List.setIfInBounds_toArray, List.set_cons_succ, List.set_cons_zero, Nat.zero_add]
      simp only [Nat.zero_add] at hown1
      have hx1 := hxB.step (Step.grown (F := fun k => blkOf (some (⟨w2.heap.size, 0, none⟩ : Addr)) = some k) Step.refl hgrow1 (fun k hk => .inl hk)) (fun k hk e => by simp [blkOf] at e; omega)
      refine Mxt.wpTL_op (by rfl) (fun K hK => ?_)
      refine step_append_new (w0 := w2) (by rfl) _ _ (by rfl) E_bk (hS1) (by rfl) (hown1) (by rfl) (hx1) hone2 hm2 (by omega) ?_
      intro D2 c2 W2 hown2 hS2 hgrow2 hat2
      refine hK _ _ (fun hlt => Mix.cl hS2) ?_
      clear hK K
      simp only [Act.put, List.setIfInBounds_toArray, List.set_cons_succ, List.set_cons_zero, Nat.zero_add]
      refine Mxt.wpTL_reads ?_
      simp only [List.flatMap_cons, List.flatMap_nil, List.getElem?_cons_succ, List.getElem?_cons_zero, Option.toList_some, List.cons_append, List.nil_append]
      repeat (go_big_quiet_step (fail))
      refine wpQuiet_nil ?_
      refine Mxt.wpTL_leaf ?_
      go_wp2_with fail
      go_ret2
      have HR := cdo_new (J := J) HU2.out (by rw [HA.out, HF.out]; exact HC2.out) (twice_new (b := ⟨(t.toNat : Int), s, [], false⟩) hown2 hS2 rfl rfl)
      rw [List.length_append, List.length_singleton] at HR
      exact HR
  · refine Mxt.wpTL_reads ?_
    simp only [List.flatMap_cons, List.flatMap_nil, List.getElem?_cons_succ, List.getElem?_cons_zero, Option.toList_some, List.cons_append, List.nil_append]
    repeat (go_big_quiet_step (fail))
    refine wpQuiet_nil ?_
    refine Mxt.wpTL_op (by rfl) (fun K hK => ?_)
    go_simp
    refine hK _ _ (fun hlt => Mix.cl (Step.drew (Step.alloc Step.refl _))) ?_
    clear hK K
    refine Mxt.wpTL_reads ?_
    simp only [List.flatMap_cons, List.flatMap_nil, List.getElem?_cons_succ, List.getElem?_cons_zero, Option.toList_some, List.cons_append, List.nil_append]
    repeat (go_big_quiet_step (fail))
    refine wpQuiet_nil ?_
    refine Mxt.wpTL_op (by rfl) (fun K hK => ?_)
    go_simp
    refine hK _ _ (fun hlt => Mix.cl (Step.drew (Step.alloc (Step.alloc Step.refl _) _))) ?_
    clear hK K
    refine Mxt.wpTL_op (by rfl) (fun K hK => ?_)
    refine step_append_new (w0 := w2) (by rfl) _ _ (by rfl) E_bk (Step.drew (Step.alloc (Step.alloc Step.refl _) _)) (by rfl) (hfC) (by rfl) (hrC) hone1 hm1 (by omega) ?_
    intro D1 c1 W1 hown1 hS1 hgrow1 hat1
    refine hK _ _ (fun hlt => Mix.cl hS1) ?_
    clear hK K
    simp only [Act.put, List.setIfInBounds_toArray, List.set_cons_succ, List.set_cons_zero, Nat.zero_add]
    simp only [Nat.zero_add] at hown1
    have hx1 := hxC.step (Step.grown (F := fun k => blkOf (some (⟨w2.heap.size + 1, 0, none⟩ : Addr)) = some k) Step.refl hgrow1 (fun k hk => .inl hk)) (fun k hk e => by simp [blkOf] at e; omega)
    refine Mxt.wpTL_op (by rfl) (fun K hK => ?_)
    refine step_append_new (w0 := w2) (by rfl) _ _ (by rfl) E_bk (hS1) (by rfl) (hown1) (by rfl) (hx1) hone2 hm2 (by omega) ?_
    intro D2 c2 W2 hown2 hS2 hgrow2 hat2
    refine hK _ _ (fun hlt => Mix.cl hS2) ?_
    clear hK K
    simp only [Act.put, List.setIfInBounds_toArray, List.set_cons_succ, List.set_cons_zero, Nat.zero_add]
    refine Mxt.wpTL_reads ?_
    simp only [List.flatMap_cons, List.flatMap_nil, List.getElem?_cons_succ, List.getElem?_cons_zero, Option.toList_some, List.cons_append, List.nil_append]
    repeat (go_big_quiet_step (fail))
    refine wpQuiet_nil ?_
    refine Mxt.wpTL_leaf ?_
    go_wp2_with fail
    go_ret2
    have HR := cdo_new (J := J) HU2.out (by rw [HA.out, HF.out]; exact HC2.out) (twice_new (b := ⟨(t.toNat : Int), s, [], false⟩) hown2 hS2 rfl rfl)
    rw [List.length_append, List.length_singleton] at HR
    exact HR

set_option maxRecDepth 100000 in
set_option maxHeartbeats 1600000 in
theorem cdo_6 (hl : l = pre ++ [b]) (H : Sta w I J g gs A c l) (hz : l.length ≤ 1000) (hn : (allOwn l).length ≤ 100000) :
    Calls Try.prog 57 #[.pointer (some ⟨g, 0, none⟩), .slice A l.length c, .agg #[.int .i64 6, .int .u8 (t.toNat : Int), .string (str s), .int .u64 (n : Int)]] w (CDo w I J g gs (pre ++ [{ b with own := [], dead := true }])) := by
  have s1 : Step (fun _ => False) w (w.alloc (.cells #[.int .i64 6, .int .u8 (t.toNat : Int), .string (str s), .int .u64 (n : Int)] 107)) := Step.refl.alloc _
  have b1 : Blk (w.alloc (.cells #[.int .i64 6, .int .u8 (t.toNat : Int), .string (str s), .int .u64 (n : Int)] 107)) w.heap.size 107 #[.int .i64 6, .int .u8 (t.toNat : Int), .string (str s), .int .u64 (n : Int)] := Blk.new w _ _
  have HH := Lib.hid (H.box s1)
  have hbi : ¬ I w.heap.size := fun hk => by have := H.ctl.in_ _ hk; omega
  have hbl : w.heap.size < (w.alloc (.cells #[.int .i64 6, .int .u8 (t.toNat : Int), .string (str s), .int .u64 (n : Int)] 107)).heap.size := by simp
  have S1 := Lib.hid s1
  have HB1 := Lib.hid b1
  clear s1 b1
  have HL := Lib.hid hl
  have htop : (fsOf 0 l)[(fsOf 0 l).length - 1]? = some ⟨b.op, b.res, (allOwn pre).length, b.dead⟩ := by rw [hl]; exact fsOf_top pre b
  have hlb : l[l.length - 1]? = some b := by rw [hl]; simp
  have hal : allOwn l = allOwn pre ++ b.own := by rw [hl, allOwn_last]
  have hpl : pre.length = l.length - 1 := by rw [hl]; simp
  have HTK : Hid (l.take (l.length - 1) = pre) := by unfold Hid; rw [hl]; simp
  have HA : Hid (allOwn (pre ++ [{ b with own := [], dead := true }]) = allOwn pre) := by unfold Hid; rw [allOwn_last, List.append_nil]
  have HF : Hid (fsOf 0 (pre ++ [{ b with own := [], dead := true }]) = deadF (fsOf 0 l)) := by unfold Hid; rw [hl, fsOf_dead]
  have hq := cutF_above (allOwn pre) b.own
  have HP := Lib.hid (ctl_dead _ HH.out.ctl (by rw [fsOf_length]; omega) (by omega) htop)
  dsimp only at HP
  rw [hal, hq] at HP
  have HLL : Hid ((pre ++ [{ b with own := [], dead := true }]).length = l.length - 1 + 1) := by unfold Hid; rw [List.length_append, hpl]; rfl
  have HPL := Lib.hid hpl
  have hone1 := bks_one pre
  have hone2 := bk_one b.op (str b.res) ⟨#[]⟩ true
  have hm1 : 0 + (l.length - 1) ≤ maxLen := by unfold maxLen; omega
  have hm2 : l.length - 1 + 1 ≤ maxLen := by unfold maxLen; omega
  clear hl H htop hal hq hpl
  go_enter Try.func57, Try.ntmps57
  go_wp2_with fail
  refine HP.out.mono ?_
  rintro e w2 ⟨rfl, I2, h2, u2⟩
  have b2 := HB1.out.step u2.1 hbi
  have HU2 := Lib.hid (Upd.after S1.out u2)
  have HC2 := Lib.hid h2
  have HRO := Lib.hid (HH.out.row.step u2.1 HH.out.far)
  have hbl2 := b2.lt
  clear b2 u2 h2
  have hpos : l.length - 1 < l.length := (List.getElem?_eq_some_iff.1 hlb).1
  have hbe : l[l.length - 1] = b := (List.getElem?_eq_some_iff.1 hlb).2
  obtain ⟨gb, off, rfl, _, hbb, hcb⟩ := reads_cells Bk.cells 4 (by decide) Bk.four HRO.out hpos
  rw [hbe] at hcb
  have k0 := hcb 0 _ rfl
  have k1 := hcb 1 _ rfl
  have k2 := hcb 2 _ rfl
  have k3 := hcb 3 _ rfl
  rw [Nat.add_zero] at k0
  have n0 : ((l.length : Int) == 0) = false := beq_eq_false_iff_ne.2 (by omega)
  have i0 : (0 : Int) ≤ (l.length : Int) - 1 := by omega
  have i1 : (l.length : Int) - 1 < (l.length : Int) := by omega
  have i2 : (l.length : Int) - 1 ≤ (c : Int) := by have := HH.out.cap; omega
  have hwr := IntWalk.i64_in ((l.length : Int) - 1) (by omega)
  have htn : ((l.length : Int) - 1).toNat = l.length - 1 := by omega
  have sh := slice_hn E_bk (some ⟨gb, off, none⟩) l.length c .i64 ((l.length : Int) - 1) (l.length - 1) (by omega) (by have := HH.out.cap; omega)
  clear hcb hbe
  have hsrc0 := HRO.out.take (k := l.length - 1) (by omega)
  rw [bks_take, HTK.out] at hsrc0
  clear HP
  go_wp2_with fail
  have hsrc := hsrc0.step (F := fun _ => False) (Step.alloc Step.refl (.cells #[.int .i64 b.op, .string (str b.res), .string ⟨#[]⟩, .bool true] 104)) (fun _ _ => id)
  have bV : Blk (w2.alloc (.cells #[.int .i64 b.op, .string (str b.res), .string ⟨#[]⟩, .bool true] 104)) w2.heap.size 104 #[.int .i64 b.op, .string (str b.res), .string ⟨#[]⟩, .bool true] := Blk.new w2 _ _
  have HSV : Hid (Step (fun _ => False) w2 (w2.alloc (.cells #[.int .i64 b.op, .string (str b.res), .string ⟨#[]⟩, .bool true] 104))) := Step.alloc Step.refl _
  generalize w2.alloc (.cells #[.int .i64 b.op, .string (str b.res), .string ⟨#[]⟩, .bool true] 104) = V at *
  have v0 := bV.cell 0
  have v1 := bV.cell 1
  have v2 := bV.cell 2
  have v3 := bV.cell 3
  simp at v0 v1 v2 v3
  have d0 := cls_cell (F := fun _ => False) v0 id
  have d1 := cls_cell (F := fun _ => False) v1 id
  have d2 := cls_cell (F := fun _ => False) v2 id
  have d3 := cls_cell (F := fun _ => False) v3 id
  have CTL : Hid (∀ A' c' W, BkNew V A' c' (pre ++ [{ b with own := [], dead := true }]) W → CDo w I J g gs (pre ++ [{ b with own := [], dead := true }]) (.returned (.tuple #[.slice A' (pre ++ [{ b with own := [], dead := true }]).length c', .bool true])) W) := fun A' c' W h =>
    cdo_new (HU2.out.quiet HSV.out) (by rw [HA.out, HF.out]; exact HC2.out.quiet HSV.out) h
  clear v0 v1 v2 v3 bV hsrc0 k0 k1 k2 k3 HRO
  have hz1 : (V.alloc (.cells #[.int .i64 b.op, .string (str b.res), .string ⟨#[]⟩, .bool true] 104)).heap.size = V.heap.size + 1 := by simp
  have hz0 : (V.alloc (.cells #[] 104)).heap.size = V.heap.size + 1 := by simp
  have hfA : (V.alloc (.cells #[] 104)).drew.ownsRow V.heap.size 104 4 (.slice (some ⟨V.heap.size, 0, none⟩) 0 0) 0 [] := own_drew (own_fresh 4 (Nat.le_refl _))
  have hrA := hsrc.step (F := fun _ => False) (Step.drew (Step.alloc Step.refl (.cells #[] 104))) (fun _ _ => id)
  have hfB : ((V.alloc (.cells #[] 104)).alloc (.cells #[.int .i64 b.op, .string (str b.res), .string ⟨#[]⟩, .bool true] 104)).drew.ownsRow V.heap.size 104 4 (.slice (some ⟨V.heap.size, 0, none⟩) 0 0) 0 [] := own_drew ((own_fresh 4 (Nat.le_refl _)).alloc _)
  have hrB := hsrc.step (F := fun _ => False) (Step.drew (Step.alloc (Step.alloc Step.refl (.cells #[] 104)) (.cells #[.int .i64 b.op, .string (str b.res), .string ⟨#[]⟩, .bool true] 104))) (fun _ _ => id)
  have hxB := (reads_new (V.alloc (.cells #[] 104)) #[.int .i64 b.op, .string (str b.res), .string ⟨#[]⟩, .bool true] 104 4 1 rfl).drew
  have hfC : ((V.alloc (.cells #[.int .i64 b.op, .string (str b.res), .string ⟨#[]⟩, .bool true] 104)).alloc (.cells #[] 104)).drew.ownsRow V.heap.size 104 4 (.slice (some ⟨V.heap.size + 1, 0, none⟩) 0 0) 0 [] := by
    have := own_drew (own_fresh (w := V.alloc (.cells #[.int .i64 b.op, .string (str b.res), .string ⟨#[]⟩, .bool true] 104)) (e := 104) (base := V.heap.size) 4 (by omega))
    rwa [hz1] at this
  have hrC := hsrc.step (F := fun _ => False) (Step.drew (Step.alloc (Step.alloc Step.refl (.cells #[.int .i64 b.op, .string (str b.res), .string ⟨#[]⟩, .bool true] 104)) (.cells #[] 104))) (fun _ _ => id)
  have hxC := ((reads_new V #[.int .i64 b.op, .string (str b.res), .string ⟨#[]⟩, .bool true] 104 4 1 rfl).step (F := fun _ => False) (Step.alloc Step.refl (.cells #[] 104)) (fun _ _ => id)).drew
  rw [hz0] at hxB
  refine Mxt.wp_region_tree [0, 6, 8, 9] [0, 6, 8, 9] (.fork (.op 0 (.reads [1, 2, 3, 4, 5] (.fork (.op 6 (.reads [7] (.op 8 (.op 9 (.reads [10, 11] .leaf))))) (.reads [7] (.op 8 (.op 6 (.op 9 (.reads [10, 11] .leaf)))))))) (.reads [7] (.op 8 (.reads [1, 2, 3, 4, 5] (.op 0 (.op 6 (.op 9 (.reads [10, 11] .leaf)))))))) (Step (fun _ => False) V) (by kernel_rfl) (by kernel_rfl) Step.refl.drew (fun hcls => ?_)
  refine Mxt.wpTL_fork ?_ ?_
  · refine Mxt.wpTL_op (by rfl) (fun K hK => ?_)
    go_simp
    refine hK _ _ (fun hlt => Mix.cl (Step.drew (Step.alloc Step.refl _))) ?_
    clear hK K
    refine Mxt.wpTL_reads ?_
    simp only [List.flatMap_cons, List.flatMap_nil, List.getElem?_cons_succ, List.getElem?_cons_zero, Option.toList_some, List.cons_append, List.nil_append]
    repeat (go_big_quiet_step (fail))
    refine wpQuiet_nil ?_
    refine Mxt.wpTL_fork ?_ ?_
    · refine Mxt.wpTL_op (by rfl) (fun K hK => ?_)
      refine step_append_new (w0 := V) (by rfl) _ _ (by rfl) E_bk (Step.drew (Step.alloc Step.refl _)) (by rfl) (hfA) (by rfl) (hrA) hone1 hm1 (by omega) ?_
      intro D1 c1 W1 hown1 hS1 hgrow1 hat1
      refine hK _ _ (fun hlt => Mix.cl hS1) ?_
      clear hK K
      simp only [Act.put, List.setIfInBounds_toArray, List.set_cons_succ, List.set_cons_zero, Nat.zero_add]
      simp only [Nat.zero_add] at hown1
      refine Mxt.wpTL_reads ?_
      simp only [List.flatMap_cons, List.flatMap_nil, List.getElem?_cons_succ, List.getElem?_cons_zero, Option.toList_some, List.cons_append, List.nil_append]
      repeat (go_big_quiet_step (fail))
      refine wpQuiet_nil ?_
      refine Mxt.wpTL_op (by rfl) (fun K hK => ?_)
      go_simp
      refine hK _ _ (fun hlt => Mix.cl (Step.alloc hS1 _)) ?_
      clear hK K
      refine Mxt.wpTL_op (by rfl) (fun K hK => ?_)
      refine step_append_new (w0 := V) (by rfl) _ _ (by rfl) E_bk (Step.alloc hS1 _) (by rfl) (hown1.alloc _) (by rfl) (reads_new W1 #[.int .i64 b.op, .string (str b.res), .string ⟨#[]⟩, .bool true] 104 4 1 rfl) hone2 hm2 (by omega) ?_
      intro D2 c2 W2 hown2 hS2 hgrow2 hat2
      refine hK _ _ (fun hlt => Mix.cl hS2) ?_
      clear hK K
      simp only [Act.put, List.setIfInBounds_toArray, List.set_cons_succ, List.set_cons_zero, Nat.zero_add]
      refine Mxt.wpTL_reads ?_
      simp only [List.flatMap_cons, List.flatMap_nil, List.getElem?_cons_succ, List.getElem?_cons_zero, Option.toList_some, List.cons_append, List.nil_append]
      repeat (go_big_quiet_step (fail))
      refine wpQuiet_nil ?_
      refine Mxt.wpTL_leaf ?_
      go_wp2_with fail
      go_ret2
      have HR := CTL.out _ _ _ (twice_new (b := { b with own := [], dead := true }) hown2 hS2 HPL.out.symm rfl)
      rw [HLL.out] at HR
      exact HR
    · refine Mxt.wpTL_reads ?_
      simp only [List.flatMap_cons, List.flatMap_nil, List.getElem?_cons_succ, List.getElem?_cons_zero, Option.toList_some, List.cons_append, List.nil_append]
      repeat (go_big_quiet_step (fail))
      refine wpQuiet_nil ?_
      refine Mxt.wpTL_op (by rfl) (fun K hK => ?_)
      go_simp
      refine hK _ _ (fun hlt => Mix.cl (Step.drew (Step.alloc (Step.alloc Step.refl _) _))) ?_
      clear hK K
      refine Mxt.wpTL_op (by rfl) (fun K hK => ?_)
      refine step_append_new (w0 := V) (by rfl) _ _ (by rfl) E_bk (Step.drew (Step.alloc (Step.alloc Step.refl _) _)) (by rfl) (hfB) (by rfl) (hrB) hone1 hm1 (by omega) ?_
      intro D1 c1 W1 hown1 hS1 hgrow1 hat1
      refine hK _ _ (fun hlt => Mix.cl hS1) ?_
      clear hK K
      simp only [Act.put, List.setIfInBounds_toArray, List.set_cons_succ, List.set_cons_zero, Nat.zero_add]
      simp only [Nat.zero_add] at hown1
      have hx1 := hxB.step (Step.grown (F := fun k => blkOf (some (⟨V.heap.size, 0, none⟩ : Addr)) = some k) Step.refl hgrow1 (fun k hk => .inl hk)) (fun k hk e => by simp [blkOf] at e; omega)
      refine Mxt.wpTL_op (by rfl) (fun K hK => ?_)
      refine step_append_new (w0 := V) (by rfl) _ _ (by rfl) E_bk (hS1) (by rfl) (hown1) (by rfl) (hx1) hone2 hm2 (by omega) ?_
      intro D2 c2 W2 hown2 hS2 hgrow2 hat2
      refine hK _ _ (fun hlt => Mix.cl hS2) ?_
      clear hK K
      simp only [Act.put, List.setIfInBounds_toArray, List.set_cons_succ, List.set_cons_zero, Nat.zero_add]
      refine Mxt.wpTL_reads ?_
      simp only [List.flatMap_cons, List.flatMap_nil, List.getElem?_cons_succ, List.getElem?_cons_zero, Option.toList_some, List.cons_append, List.nil_append]
      repeat (go_big_quiet_step (fail))
      refine wpQuiet_nil ?_
      refine Mxt.wpTL_leaf ?_
      go_wp2_with fail
      go_ret2
      have HR := CTL.out _ _ _ (twice_new (b := { b with own := [], dead := true }) hown2 hS2 HPL.out.symm rfl)
      rw [HLL.out] at HR
      exact HR
  · refine Mxt.wpTL_reads ?_
    simp only [List.flatMap_cons, List.flatMap_nil, List.getElem?_cons_succ, List.getElem?_cons_zero, Option.toList_some, List.cons_append, List.nil_append]
    repeat (go_big_quiet_step (fail))
    refine wpQuiet_nil ?_
    refine Mxt.wpTL_op (by rfl) (fun K hK => ?_)
    go_simp
    refine hK _ _ (fun hlt => Mix.cl (Step.drew (Step.alloc Step.refl _))) ?_
    clear hK K
    refine Mxt.wpTL_reads ?_
    simp only [List.flatMap_cons, List.flatMap_nil, List.getElem?_cons_succ, List.getElem?_cons_zero, Option.toList_some, List.cons_append, List.nil_append]
    repeat (go_big_quiet_step (fail))
    refine wpQuiet_nil ?_
    refine Mxt.wpTL_op (by rfl) (fun K hK => ?_)
    go_simp
    refine hK _ _ (fun hlt => Mix.cl (Step.drew (Step.alloc (Step.alloc Step.refl _) _))) ?_
    clear hK K
    refine Mxt.wpTL_op (by rfl) (fun K hK => ?_)
    refine step_append_new (w0 := V) (by rfl) _ _ (by rfl) E_bk (Step.drew (Step.alloc (Step.alloc Step.refl _) _)) (by rfl) (hfC) (by rfl) (hrC) hone1 hm1 (by omega) ?_
    intro D1 c1 W1 hown1 hS1 hgrow1 hat1
    refine hK _ _ (fun hlt => Mix.cl hS1) ?_
    clear hK K
    simp only [Act.put, List.setIfInBounds_toArray, List.set_cons_succ, List.set_cons_zero, Nat.zero_add]
    simp only [Nat.zero_add] at hown1
    have hx1 := hxC.step (Step.grown (F := fun k => blkOf (some (⟨V.heap.size + 1, 0, none⟩ : Addr)) = some k) Step.refl hgrow1 (fun k hk => .inl hk)) (fun k hk e => by simp [blkOf] at e; omega)
    refine Mxt.wpTL_op (by rfl) (fun K hK => ?_)
    refine step_append_new (w0 := V) (by rfl) _ _ (by rfl) E_bk (hS1) (by rfl) (hown1) (by rfl) (hx1) hone2 hm2 (by omega) ?_
    intro D2 c2 W2 hown2 hS2 hgrow2 hat2
    refine hK _ _ (fun hlt => Mix.cl hS2) ?_
    clear hK K
    simp only [Act.put, List.setIfInBounds_toArray, List.set_cons_succ, List.set_cons_zero, Nat.zero_add]
    refine Mxt.wpTL_reads ?_
    simp only [List.flatMap_cons, List.flatMap_nil, List.getElem?_cons_succ, List.getElem?_cons_zero, Option.toList_some, List.cons_append, List.nil_append]
    repeat (go_big_quiet_step (fail))
    refine wpQuiet_nil ?_
    refine Mxt.wpTL_leaf ?_
    go_wp2_with fail
    go_ret2
    have HR := CTL.out _ _ _ (twice_new (b := { b with own := [], dead := true }) hown2 hS2 HPL.out.symm rfl)
    rw [HLL.out] at HR
    exact HR
end
end Go.Proofs.Ytfechgpdlabgaaa
