/-
  creelref22: WantAll, Want.
-/
import Derived.Test.YtfechgpdlabgaaaCtlE
set_option linter.unusedVariables false
set_option linter.unusedSimpArgs false
namespace Go.Proofs.Ytfechgpdlabgaaa
open Go.RowKit

/-- A row of blocks of its own, made since w. -/
def BkNew (w : World) (A : Option Addr) (c : Nat) (l : List Bk) (w' : World) : Prop := w'.ownsRow w.heap.size 104 4 (.slice A l.length c) l.length (bks l) ∧ Step (fun _ => False) w w'

set_option maxRecDepth 100000 in
set_option maxHeartbeats 1600000 in
theorem r22_wantAll_none {w : World} {A : Option Addr} {c : Nat} (t : List UInt8) :
    Calls Try.prog 99 #[.slice A 0 c, .string (str t)] w fun e w' => e = .returned (.tuple #[.slice A 0 c, .int .i64 30]) ∧ w' = w := by
  go_enter Try.func99, Try.ntmps99
  go_wp2_with fail
  go_ret2
  exact ⟨rfl, rfl⟩
set_option maxRecDepth 100000 in
set_option maxHeartbeats 1600000 in
theorem r22_want_none {w : World} {A : Option Addr} {c : Nat} (t : Int) :
    Calls Try.prog 98 #[.slice A 0 c, .int .i64 t] w fun e w' => e = .returned (.tuple #[.slice A 0 c, .int .i64 0, .int .i64 30]) ∧ w' = w := by
  go_enter Try.func98, Try.ntmps98
  go_wp2_with fail
  go_ret3
  exact ⟨rfl, rfl⟩

set_option maxRecDepth 100000 in
set_option maxHeartbeats 1600000 in
theorem r22_wantAll {w : World} {S : Nat → Prop} {A : Option Addr} {c : Nat} {l : List Bk} (b : Bk) (t o : List UInt8) (er : Int) (hv : Reads w S 4 A l.length (bks l)) (hl : l.length ≤ 100000) (hb : l[l.length - 1]? = some b) (hn : b.own.length ≤ 1000000) (ht : t.length ≤ 1000000)
    (hw : wantAllF b.own t.reverse 0 b.dead = (o, er)) :
    Calls Try.prog 99 #[.slice A l.length c, .string (str t)] w fun e w' => ∃ A' c', e = .returned (.tuple #[.slice A' l.length c', .int .i64 er]) ∧ BkNew w A' c' (l.set (l.length - 1) { b with own := o }) w' := by
  have hpos : l.length - 1 < l.length := (List.getElem?_eq_some_iff.1 hb).1
  obtain rfl : l[l.length - 1] = b := (List.getElem?_eq_some_iff.1 hb).2
  have HV := Lib.hid hv
  obtain ⟨gb, off, rfl, _, hbl, hc⟩ := reads_cells Bk.cells 4 (by decide) Bk.four hv hpos
  have c0 := hc 0 _ rfl
  have c1 := hc 1 _ rfl
  have c2 := hc 2 _ rfl
  have c3 := hc 3 _ rfl
  rw [Nat.add_zero] at c0
  have n0 : ((l.length : Int) == 0) = false := beq_eq_false_iff_ne.2 (by omega)
  have i0 : (0 : Int) ≤ (l.length : Int) - 1 := by omega
  have i1 : (l.length : Int) - 1 < (l.length : Int) := by omega
  have hwr := IntWalk.i64_in ((l.length : Int) - 1) (by omega)
  have htn : ((l.length : Int) - 1).toNat = l.length - 1 := by omega
  generalize l[l.length - 1] = b at *
  clear hb hc hv
  have HR := Lib.hid (ref_wantAll (w.alloc (.cells #[.int .i64 b.op, .string (str b.res), .string (str b.own), .bool b.dead] 104)) b.own t 0 b.dead hn ht)
  rw [hw] at HR
  have HW := Lib.hid hw
  clear hw
  go_enter Try.func99, Try.ntmps99
  go_wp2_with fail
  refine HR.out.mono ?_
  rintro e w1 ⟨rfl, q, hq⟩
  have b1 : Blk w1 w.heap.size 104 #[.int .i64 b.op, .string (str b.res), .string (str b.own), .bool b.dead] := by rw [hq]; exact (Blk.new w _ _).drewN q
  have s1 : Step (fun _ => False) w w1 := by rw [hq]; exact (Step.refl.alloc _).drewN q
  have m0 := b1.cell 0
  have m1 := b1.cell 1
  have m2 := b1.cell 2
  have m3 := b1.cell 3
  have mf := b1.frozen
  simp at m0 m1 m2 m3
  have s2 : Step (fun _ => False) w (w1.setCell ⟨w.heap.size, 2, none⟩ (.string (str o))) := s1.setCell (p := ⟨w.heap.size, 2, none⟩) (.inr (Nat.le_refl _)) _
  have HWITH := Lib.hid (r22_with (c := c) { b with own := o } (HV.out.step s2 (fun _ _ => id)) hl (by omega))
  have hlt : w.heap.size < w1.heap.size := b1.lt
  have S2 := Lib.hid s2
  clear hq b1 s1 s2 HR
  go_wp2_with fail
  refine HWITH.out.mono ?_
  rintro e w2 ⟨A', c', rfl, ho, s3⟩
  have hle := S2.out.size
  go_wp2_with fail
  go_ret2
  refine ⟨A', c', rfl, ?_, S2.out.trans s3⟩
  rw [List.length_set]
  exact own_base ho (fun k hk => Nat.le_trans hle (own_ge ho k hk))

set_option maxRecDepth 100000 in
set_option maxHeartbeats 1600000 in
theorem r22_want {w : World} {S : Nat → Prop} {A : Option Addr} {c : Nat} {l : List Bk} (b : Bk) (t : Int) (o : List UInt8) (got er : Int) (hv : Reads w S 4 A l.length (bks l)) (hl : l.length ≤ 100000) (hb : l[l.length - 1]? = some b) (hn : b.own.length ≤ 1000000)
    (hw : wantF b.own t 0 b.dead = (o, got, er)) :
    Calls Try.prog 98 #[.slice A l.length c, .int .i64 t] w fun e w' => ∃ A' c', e = .returned (.tuple #[.slice A' l.length c', .int .i64 got, .int .i64 er]) ∧ BkNew w A' c' (l.set (l.length - 1) { b with own := o }) w' := by
  have hpos : l.length - 1 < l.length := (List.getElem?_eq_some_iff.1 hb).1
  obtain rfl : l[l.length - 1] = b := (List.getElem?_eq_some_iff.1 hb).2
  have HV := Lib.hid hv
  obtain ⟨gb, off, rfl, _, hbl, hc⟩ := reads_cells Bk.cells 4 (by decide) Bk.four hv hpos
  have c0 := hc 0 _ rfl
  have c1 := hc 1 _ rfl
  have c2 := hc 2 _ rfl
  have c3 := hc 3 _ rfl
  rw [Nat.add_zero] at c0
  have n0 : ((l.length : Int) == 0) = false := beq_eq_false_iff_ne.2 (by omega)
  have i0 : (0 : Int) ≤ (l.length : Int) - 1 := by omega
  have i1 : (l.length : Int) - 1 < (l.length : Int) := by omega
  have hwr := IntWalk.i64_in ((l.length : Int) - 1) (by omega)
  have htn : ((l.length : Int) - 1).toNat = l.length - 1 := by omega
  generalize l[l.length - 1] = b at *
  clear hb hc hv
  have HR := Lib.hid (ref_want (w.alloc (.cells #[.int .i64 b.op, .string (str b.res), .string (str b.own), .bool b.dead] 104)) b.own t 0 b.dead hn)
  rw [hw] at HR
  have HW := Lib.hid hw
  clear hw
  go_enter Try.func98, Try.ntmps98
  go_wp2_with fail
  refine HR.out.mono ?_
  rintro e w1 ⟨rfl, q, hq⟩
  have b1 : Blk w1 w.heap.size 104 #[.int .i64 b.op, .string (str b.res), .string (str b.own), .bool b.dead] := by rw [hq]; exact (Blk.new w _ _).drewN q
  have s1 : Step (fun _ => False) w w1 := by rw [hq]; exact (Step.refl.alloc _).drewN q
  have m0 := b1.cell 0
  have m1 := b1.cell 1
  have m2 := b1.cell 2
  have m3 := b1.cell 3
  have mf := b1.frozen
  simp at m0 m1 m2 m3
  have s2 : Step (fun _ => False) w (w1.setCell ⟨w.heap.size, 2, none⟩ (.string (str o))) := s1.setCell (p := ⟨w.heap.size, 2, none⟩) (.inr (Nat.le_refl _)) _
  have HWITH := Lib.hid (r22_with (c := c) { b with own := o } (HV.out.step s2 (fun _ _ => id)) hl (by omega))
  have hlt : w.heap.size < w1.heap.size := b1.lt
  have S2 := Lib.hid s2
  clear hq b1 s1 s2 HR
  go_wp2_with fail
  refine HWITH.out.mono ?_
  rintro e w2 ⟨A', c', rfl, ho, s3⟩
  have hle := S2.out.size
  go_wp2_with fail
  go_ret3
  refine ⟨A', c', rfl, ?_, S2.out.trans s3⟩
  rw [List.length_set]
  exact own_base ho (fun k hk => Nat.le_trans hle (own_ge ho k hk))
end Go.Proofs.Ytfechgpdlabgaaa
