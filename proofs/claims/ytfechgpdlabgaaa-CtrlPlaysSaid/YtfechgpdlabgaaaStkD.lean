/-
  opstack.Stack: Cut, Clone; the reference's Pop, Want, WantAll.
-/
import Derived.Test.YtfechgpdlabgaaaStkC
set_option linter.unusedVariables false
set_option linter.unusedSimpArgs false
namespace Go.Proofs.Ytfechgpdlabgaaa
open Go.RowKit

def cutF (l : List UInt8) (n : Int) : List UInt8 := if 0 ≤ n ∧ n < l.length then l.take n.toNat else l

set_option maxRecDepth 100000 in
set_option maxHeartbeats 800000 in
theorem stk_cut (w : World) (B g : Nat) (D : Option Addr) (c : Nat) (l : List UInt8) (n : Int) (h : StkAt w B g D c l) (hn : l.length ≤ 1000000) :
    Calls Try.prog 71 #[.pointer (some ⟨g, 0, none⟩), .int .i64 n] w fun e w' => e = .returned (.tuple #[]) ∧ StkTo w B g D (cutF l n) w' := by
  have ho := h.own
  have c0 := h.blk.cell 0
  have f0 := h.blk.frozen 0
  simp at c0
  by_cases h0 : n < 0
  · have HC : Hid (cutF l n = l) := by unfold Hid cutF; rw [if_neg (by omega)]
    have HS : Hid (StkTo w B g D l w) := StkTo.same h
    go_enter Try.func71, Try.ntmps71
    go_wp2
    go_end0
    rw [HC.out]
    exact ⟨rfl, HS.out⟩
  · obtain ⟨k, rfl⟩ := Int.eq_ofNat_of_zero_le (show 0 ≤ n by omega)
    by_cases hk : k < l.length
    · have HC : Hid (cutF l (k : Int) = l.take k) := by unfold Hid cutF; rw [if_pos (by omega)]; rfl
      have i1 : (k : Int) < (l.length : Int) := by omega
      have sh := slice_hn E_u8 D l.length c .i64 (k : Int) k rfl (by have := own_cap ho; omega)
      have HT : Hid (StkTo w B g D (l.take k) (w.setCell ⟨g, 0, none⟩ (.slice D k c))) := by
        refine stk_of h Step.refl (by simp; omega) ?_ fun j hj => .inl hj
        have h3 := own_take ho (k := k) (by omega)
        rwa [Nat.mul_one, ← u8s_take] at h3
      go_enter Try.func71, Try.ntmps71
      go_wp2
      go_end0
      rw [HC.out]
      exact ⟨rfl, HT.out⟩
    · have HC : Hid (cutF l (k : Int) = l) := by unfold Hid cutF; rw [if_neg (by omega)]
      have HS : Hid (StkTo w B g D l w) := StkTo.same h
      have i1 : ¬ (k : Int) < (l.length : Int) := by omega
      go_enter Try.func71, Try.ntmps71
      go_wp2
      go_end0
      rw [HC.out]
      exact ⟨rfl, HS.out⟩

/-- Clone: another one, all new. -/
def CloneTo (w : World) (l : List UInt8) (e : Ending) (w' : World) : Prop :=
  ∃ g D c, e = .returned (.pointer (some ⟨g, 0, none⟩)) ∧ w.heap.size ≤ g ∧ StkAt w' w.heap.size g D c l ∧ Step (fun _ => False) w w'

set_option maxRecDepth 100000 in
set_option maxHeartbeats 800000 in
theorem stk_clone (w : World) (B g : Nat) (D : Option Addr) (c : Nat) (l : List UInt8) (h : StkAt w B g D c l) (hn : l.length ≤ 1000000) :
    Calls Try.prog 30 #[.pointer (some ⟨g, 0, none⟩)] w (CloneTo w l) := by
  go_enter Try.func30, Try.ntmps30
  go_wp2_with fail
  refine (stk_list w B g D c l h hn).mono ?_
  rintro e w1 ⟨A, c', rfl, ho, hs⟩
  go_wp2_with fail
  go_ret
  have hz := hs.size
  refine ⟨w1.heap.size, A, c', rfl, hz, ⟨Blk.new _ _ _, ho.alloc _, by simp; omega⟩, hs.alloc _⟩

/-! ### The reference -/
def RefTo (w : World) (r : List UInt8 × Int × Int) (e : Ending) (w' : World) : Prop :=
  e = .returned (.tuple #[.string (str r.1), .int .i64 r.2.1, .int .i64 r.2.2]) ∧ ∃ m, w' = w.drewN m

set_option maxRecDepth 100000 in
set_option maxHeartbeats 800000 in
theorem ref_pop (w : World) (l : List UInt8) (floor : Int) (free : Bool) (hn : l.length ≤ 1000000) :
    Calls Try.prog 68 #[.string (str l), .int .i64 floor, .bool free] w (RefTo w (popF l floor free)) := by
  have hss : (str l).size = l.length := str_size l
  by_cases hle : (l.length : Int) ≤ max floor 0
  · have HP : Hid (popF l floor free = (l, 0, if free then 0 else 21)) := by unfold Hid popF; rw [if_pos hle]
    rcases Int.lt_or_le floor 0 with hf | hf
    · have hl0 : l = [] := List.eq_nil_of_length_eq_zero (by omega)
      subst hl0
      cases free
      all_goals
        go_enter Try.func68, Try.ntmps68
        go_wp2
        go_ret3
        rw [RefTo, HP.out]
        exact ⟨rfl, 0, rfl⟩
    have hle' : ¬ floor < (l.length : Int) := by omega
    have hf' : ¬ floor < 0 := by omega
    cases free
    all_goals
      go_enter Try.func68, Try.ntmps68
      go_wp2
      go_ret3
      rw [RefTo, HP.out]
      exact ⟨rfl, 0, rfl⟩
  · have hpos : 0 < l.length := by omega
    have hget : l.getD (l.length - 1) 0 = l[l.length - 1] := by simp [List.getD, List.getElem?_eq_getElem (show l.length - 1 < l.length by omega)]
    have HP : Hid (popF l floor free = (l.take (l.length - 1), (l[l.length - 1].toNat : Int), 0)) := by unfold Hid popF; rw [if_neg hle, hget]
    have hfl : floor < (l.length : Int) := by omega
    have i0 : (0 : Int) ≤ (l.length : Int) - 1 := by omega
    have i1 : (l.length : Int) - 1 ≤ (l.length : Int) := by omega
    have hw := IntWalk.i64_in ((l.length : Int) - 1) (by omega)
    have hnil : l ≠ [] := by rintro rfl; simp at hpos
    have hix := index_strn Try.underlying9 l ((l.length : Int) - 1) (l.length - 1) (by omega) (by omega)
    have hsl := str_slice_h Try.underlying9 l .i64 ((l.length : Int) - 1) (l.length - 1) (by omega) (by omega)
    clear hget
    have hb1 : (0 : Int) ≤ (l[l.length - 1].toNat : Int) := by omega
    have hb2 : (l[l.length - 1].toNat : Int) ≤ 255 := by have := UInt8.toNat_lt l[l.length - 1]; omega
    rcases Int.lt_or_le floor 0 with hf | hf
    all_goals
      go_enter Try.func68, Try.ntmps68
      go_wp2_with fail
      go_quiet (fail)
      go_wp2
      go_ret3
      rw [RefTo, HP.out]
      exact ⟨rfl, _, rfl⟩

set_option maxRecDepth 100000 in
set_option maxHeartbeats 800000 in
theorem ref_want (w : World) (l : List UInt8) (t floor : Int) (free : Bool) (hn : l.length ≤ 1000000) :
    Calls Try.prog 69 #[.string (str l), .int .i64 t, .int .i64 floor, .bool free] w (RefTo w (wantF l t floor free)) := by
  have hp := ref_pop w l floor free hn
  have hr : wantF l t floor free = (if (popF l floor free).2.2 ≠ 0 then ((popF l floor free).1, 0, (popF l floor free).2.2) else if (popF l floor free).2.1 = 0 then ((popF l floor free).1, t, 0) else if t = 0 ∨ (popF l floor free).2.1 = t then ((popF l floor free).1, (popF l floor free).2.1, 0) else ((popF l floor free).1, 0, 21)) := rfl
  generalize popF l floor free = r at hp hr
  obtain ⟨l1, got, er⟩ := r
  dsimp only at hr
  have HP := Lib.hid hp
  clear hp
  by_cases h1 : er = 0
  case neg =>
    rw [if_pos h1] at hr
    have HR := Lib.hid hr
    have e1 : (er != 0) = true := by simpa using h1
    clear hr h1
    go_enter Try.func69, Try.ntmps69
    go_wp2_with fail
    refine HP.out.mono ?_
    rintro e w1 ⟨rfl, m, rfl⟩
    go_wp2_with fail
    go_ret3
    rw [RefTo, HR.out]
    exact ⟨rfl, m, rfl⟩
  subst h1
  rw [if_neg (by simp)] at hr
  by_cases h2 : got = 0
  case pos =>
    rw [if_pos h2] at hr
    subst h2
    have HR := Lib.hid hr
    clear hr
    go_enter Try.func69, Try.ntmps69
    go_wp2_with fail
    refine HP.out.mono ?_
    rintro e w1 ⟨rfl, m, rfl⟩
    go_wp2_with fail
    go_ret3
    rw [RefTo, HR.out]
    exact ⟨rfl, m, rfl⟩
  rw [if_neg h2] at hr
  have e2 : (got == 0) = false := by simpa using h2
  by_cases h3 : t = 0
  case pos =>
    subst h3
    rw [if_pos (.inl rfl)] at hr
    have HR := Lib.hid hr
    clear hr h2
    go_enter Try.func69, Try.ntmps69
    go_wp2_with fail
    refine HP.out.mono ?_
    rintro e w1 ⟨rfl, m, rfl⟩
    go_wp2_with fail
    go_ret3
    rw [RefTo, HR.out]
    exact ⟨rfl, m, rfl⟩
  have e3 : (t == 0) = false := by simpa using h3
  by_cases h4 : got = t
  case pos =>
    subst h4
    rw [if_pos (.inr rfl)] at hr
    have HR := Lib.hid hr
    clear hr h2 h3
    go_enter Try.func69, Try.ntmps69
    go_wp2_with fail
    refine HP.out.mono ?_
    rintro e w1 ⟨rfl, m, rfl⟩
    go_wp2_with fail
    go_ret3
    rw [RefTo, HR.out]
    exact ⟨rfl, m, rfl⟩
  have e4 : (got == t) = false := by simpa using h4
  rw [if_neg (by rintro (h | h); exact h3 h; exact h4 h)] at hr
  have HR := Lib.hid hr
  clear hr h2 h3 h4
  go_enter Try.func69, Try.ntmps69
  go_wp2_with fail
  refine HP.out.mono ?_
  rintro e w1 ⟨rfl, m, rfl⟩
  go_wp2_with fail
  go_ret3
  rw [RefTo, HR.out]
  exact ⟨rfl, m, rfl⟩

def RefAllTo (w : World) (r : List UInt8 × Int) (e : Ending) (w' : World) : Prop :=
  e = .returned (.tuple #[.string (str r.1), .int .i64 r.2]) ∧ ∃ m, w' = w.drewN m

set_option maxRecDepth 100000 in
set_option maxHeartbeats 800000 in
theorem ref_wantAll (w : World) (l t : List UInt8) (floor : Int) (free : Bool) (hn : l.length ≤ 1000000) (hnt : t.length ≤ 1000000) :
    Calls Try.prog 70 #[.string (str l), .string (str t), .int .i64 floor, .bool free] w (RefAllTo w (wantAllF l t.reverse floor free)) := by
  have hss : (str t).size = t.length := str_size t
  have hw0 := IntWalk.i64_in ((t.length : Int) - 1) (by omega)
  go_enter Try.func70, Try.ntmps70
  go_wp2_with fail
  go_loopw [0, 10] (fun v i wr => ∃ (k : Nat) (l1 : List UInt8) (q : Nat), k ≤ t.length ∧ v = .string (str l1) ∧ i = .int .i64 ((k : Int) - 1) ∧ Hid (wr = w.drewN q) ∧
      l1.length ≤ l.length ∧ Hid (wantAllF l t.reverse floor free = wantAllF l1 (t.take k).reverse floor free)) (fun _ i _ => (intOf i + 1).toNat)
  case atStart => exact ⟨t.length, l, 0, Nat.le_refl _, rfl, rfl, rfl, Nat.le_refl _, by unfold Hid; rw [List.take_length]⟩
  case round =>
    obtain ⟨k, l1, q, hk, rfl, hi, hq, hl1, HW⟩ := hrel
    rcases k with _ | j
    · obtain rfl : u10 = .int .i64 (-1) := by rw [hi]; rfl
      clear hi
      go_wp2_with fail
      go_ret2
      rw [RefAllTo, HW.out]
      exact ⟨rfl, q, hq.out⟩
    · obtain rfl : u10 = .int .i64 (j : Int) := by rw [hi]; congr 1; omega
      have hj : j < t.length := by omega
      have hrev : (t.take (j + 1)).reverse = t[j] :: (t.take j).reverse := by rw [List.take_succ_eq_append_getElem hj]; simp
      rw [hrev] at HW
      have HX := index_str Try.underlying9 t j hj (P := Try.prog)
      have hwj := IntWalk.i64_in ((j : Int) - 1) (by omega)
      have hb1 : (0 : Int) ≤ (t[j].toNat : Int) := by omega
      have hb2 : (t[j].toNat : Int) ≤ 255 := by have := UInt8.toNat_lt t[j]; omega
      have hp := ref_want wr l1 (t[j].toNat : Int) floor free (by omega)
      have hwl := wantF_fst l1 (t[j].toNat : Int) floor free
      have hpl := popF_le l1 floor free
      rw [← hwl] at hpl
      have hunf : wantAllF l1 (t[j] :: (t.take j).reverse) floor free = if (wantF l1 t[j].toNat floor free).2.2 ≠ 0 then ((wantF l1 t[j].toNat floor free).1, (wantF l1 t[j].toNat floor free).2.2) else wantAllF (wantF l1 t[j].toNat floor free).1 (t.take j).reverse floor free := rfl
      rw [hunf] at HW
      clear hi hrev hunf hwl
      generalize wantF l1 (t[j].toNat : Int) floor free = r at hp HW hpl
      obtain ⟨l2, got, er⟩ := r
      dsimp only at HW hpl
      have HP := Lib.hid hp
      clear hp
      by_cases he : er = 0
      · subst he
        rw [if_neg (by simp)] at HW
        go_wp2_with fail
        refine HP.out.mono ?_
        rintro e w2 ⟨rfl, m, rfl⟩
        go_wp2_with fail
        go_roundw
        case rel => exact ⟨j, l2, q + m, by omega, rfl, rfl, by unfold Hid; rw [hq.out, World.drewN_drewN], by omega, HW⟩
        case measure => simp [intOf]
      · have e1 : (er != 0) = true := by simpa using he
        rw [if_pos he] at HW
        clear he
        go_wp2_with fail
        refine HP.out.mono ?_
        rintro e w2 ⟨rfl, m, rfl⟩
        go_wp2_with fail
        go_ret2
        rw [RefAllTo, HW.out]
        exact ⟨rfl, q + m, by rw [hq.out, World.drewN_drewN]⟩
end Go.Proofs.Ytfechgpdlabgaaa
