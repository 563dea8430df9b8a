/-
  ops: the reference's types, floats, Check; and what the tables have to do with each other.
-/
import Derived.Test.YtfemeendkjcffaaOpE
import Derived.Test.YtfemeendkjcffaaOpH
set_option linter.unusedVariables false
set_option linter.unusedSimpArgs false
namespace Go.Proofs.Ytfemeendkjcffaa
open Go.RowKit

def typF (s : List UInt8) : List UInt8 := s.map fun c => if c = 119 then 127 else 126

set_option maxRecDepth 100000 in
set_option maxHeartbeats 1600000 in
theorem types_walk (w : World) (s : List UInt8) (hs : s.length ≤ 1000) : Calls Try.prog 29 #[.string (str s)] w fun e w' => e = .returned (.string (str (typF s))) ∧ w' = w := by
  obtain ⟨r, hr⟩ : ∃ r, r = typF s := ⟨_, rfl⟩
  rw [← hr]
  have hr := Lib.hid hr
  have hsz := str_size s
  go_enter Try.func29, Try.ntmps29
  go_wp2_with fail
  go_loopw [3, 4] (fun ov iv wr => ∃ (k : Nat) (o : List UInt8), k ≤ s.length ∧ ov = .string (str o) ∧ iv = .int .i64 (k : Int) ∧ Hid (o = typF (s.take k)) ∧ Hid (wr = w)) (fun ov iv _ => s.length + 1 - (intOf iv).toNat)
  case atStart => exact ⟨0, [], by omega, rfl, rfl, rfl, by first | exact Lib.hid trivial | rfl⟩
  case round =>
    obtain ⟨k, o, hk, rfl, rfl, HO, hq⟩ := hrel
    have hq' := hq.out
    subst hq'
    have hw1 := IntWalk.i64_in ((k : Int) + 1) (by omega)
    by_cases hlt : k < s.length
    · have hlt' : (k : Int) < (s.length : Int) := by omega
      have hix := index_str Try.underlying9 s k hlt (P := Try.prog)
      have hsz1 : ¬ 9223372036854775807 < (str o).size + 1 := by
        rw [str_size, HO.out, typF, List.length_map, List.length_take]
        omega
      have hsz2 := str_size [127]
      have hsz3 := str_size [126]
      by_cases hc : s[k] = 119
      · have HN : Hid (o ++ [127] = typF (s.take (k + 1))) := by
          rw [Hid, List.take_succ_eq_append_getElem hlt, typF, List.map_append, ← typF, ← HO.out, List.map_cons, List.map_nil, if_pos hc]
        rw [hc, show ((119 : UInt8).toNat : Int) = 119 from rfl] at hix
        clear hc HO
        go_wp2_with fail
        go_roundw
        case rel => exact ⟨k + 1, o ++ [127], by omega, by rw [← str_append]; rfl, by rw [Int.natCast_add]; rfl, HN, by first | exact Lib.hid trivial | rfl⟩
        case measure => simp [intOf]; omega
      · have HN : Hid (o ++ [126] = typF (s.take (k + 1))) := by
          rw [Hid, List.take_succ_eq_append_getElem hlt, typF, List.map_append, ← typF, ← HO.out, List.map_cons, List.map_nil, if_neg hc]
        have hne : ¬ ((s[k].toNat : Int) = 119) := by
          intro hx
          refine hc (UInt8.toNat_inj.1 ?_)
          have : (119 : UInt8).toNat = 119 := rfl
          omega
        obtain ⟨c, hcc⟩ : ∃ c : Int, c = (s[k].toNat : Int) := ⟨_, rfl⟩
        rw [← hcc] at hix hne
        clear hc HO hcc
        go_wp2_with fail
        go_roundw
        case rel => exact ⟨k + 1, o ++ [126], by omega, by rw [← str_append]; rfl, by rw [Int.natCast_add]; rfl, HN, by first | exact Lib.hid trivial | rfl⟩
        case measure => simp [intOf]; omega
    · obtain rfl : k = s.length := by omega
      rw [List.take_length] at HO
      have ho : o = r := HO.out.trans hr.out.symm
      subst ho
      go_wp2_with fail
      go_ret
      exact ⟨rfl, rfl⟩

/-! ### Float -/
def fltP : List (Nat × Nat) := [(42, 43), (56, 57), (67, 68), (91, 102), (139, 166), (168, 171), (174, 191)]
def pairC (p : Nat × Nat) : List Value := [.int .i64 (p.1 : Int), .int .i64 (p.2 : Int)]
theorem flt_len : fltP.length = 7 := rfl

set_option maxRecDepth 100000 in
set_option maxHeartbeats 1600000 in
theorem float_walk (w : World) (op : Nat) (h : op < 256) : Calls Try.prog 139 #[.int .i64 (op : Int)] w fun e w' => e = .returned (.bool (fltF op)) ∧ Step (fun _ => False) w w' := by
  obtain ⟨r, hr⟩ : ∃ r, r = fltF op := ⟨_, rfl⟩
  rw [← hr]
  replace hr : Hid (r = (fltP.drop 0).any fun x => decide (x.1 ≤ op) && decide (op ≤ x.2)) := hr
  have HR1 : Hid (Reads (w.alloc (.cells ((fltP.flatMap pairC).toArray) 3)) (fun k => k = w.heap.size) 2 (some ⟨w.heap.size, 0, none⟩) fltP.length (fltP.flatMap pairC)) := reads_new w ((fltP.flatMap pairC).toArray) 3 2 7 rfl
  have HS1 : Hid (Step (fun _ => False) w (w.alloc (.cells ((fltP.flatMap pairC).toArray) 3))) := Step.refl.alloc _
  obtain ⟨N, hN⟩ : ∃ N, N = w.heap.size := ⟨_, rfl⟩
  obtain ⟨w1, hw1⟩ : ∃ w1, w1 = w.alloc (.cells ((fltP.flatMap pairC).toArray) 3) := ⟨_, rfl⟩
  rw [← hw1, ← hN] at HR1
  rw [← hw1] at HS1
  go_enter Try.func139, Try.ntmps139
  go_wp2_with (refine Great.wpList_buildSliceTo rfl 233 3 14 _ rfl N hN.symm _ rfl Try.underlying233 ((fltP.flatMap pairC).toArray) (by kernel_rfl) ?_)
  rw [← hw1, ← hN]
  clear hw1 hN
  go_loopw [4] (fun iv wr => ∃ k : Nat, k ≤ 7 ∧ iv = .int .i64 ((k * 2 : Nat) : Int) ∧ Hid (wr = w1) ∧ Hid (r = (fltP.drop k).any fun x => decide (x.1 ≤ op) && decide (op ≤ x.2))) (fun iv _ => 15 - (intOf iv).toNat)
  case atStart => exact ⟨0, by omega, by rfl, by first | exact Lib.hid trivial | rfl, hr⟩
  case round =>
    obtain ⟨k, hk, rfl, hq, HC⟩ := hrel
    have hq' := hq.out
    subst hq'
    have HC := HC.out
    by_cases hlt : k < 7
    · have hkl : k < fltP.length := hlt
      obtain ⟨b, off, hA, hb1, hb2, hc⟩ := st_cells pairC 2 (by decide) (fun _ => rfl) HR1.out hkl
      injection hA with hA
      injection hA with hA1 hA2
      subst hA1
      subst hA2
      rw [List.drop_eq_getElem_cons hkl, List.any_cons] at HC
      obtain ⟨⟨lo, hi⟩, hg⟩ : ∃ g, g = fltP[k] := ⟨_, rfl⟩
      rw [← hg] at HC hc
      have c0 := hc 0 _ rfl
      have c1 := hc 1 _ rfl
      simp only [Nat.zero_add, Nat.add_zero] at c0 c1
      have hk2 : ((k * 2 : Nat) : Int) < 14 := by omega
      have hw2 := IntWalk.i64_in (((k * 2 : Nat) : Int) + 2) (by omega)
      have hw1 := IntWalk.i64_in (((k * 2 : Nat) : Int) + 1) (by omega)
      have hk3 : ((k * 2 : Nat) : Int) + 1 < 14 := by omega
      obtain ⟨j, hj⟩ : ∃ j, j = k * 2 := ⟨_, rfl⟩
      have HJ : Hid (j = k * 2) := hj
      rw [← hj] at c0 c1 hk2 hk3 hw1 hw2 ⊢
      have ht : (((j : Nat) : Int) + 1).toNat = j + 1 := by omega
      clear hc hg hj
      by_cases hlo : lo ≤ op
      · by_cases hhi : op ≤ hi
        · have hr0 : r = true := by rw [HC]; simp [hlo, hhi]
          subst hr0
          have i1 : (lo : Int) ≤ (op : Int) := by omega
          have i2 : (op : Int) ≤ (hi : Int) := by omega
          clear HC hlo hhi
          go_wp2_with fail
          go_ret
          exact ⟨rfl, HS1.out⟩
        · have HC2 : Hid (r = (fltP.drop (k + 1)).any fun x => decide (x.1 ≤ op) && decide (op ≤ x.2)) := by rw [Hid, HC]; simp [hhi]
          have i1 : (lo : Int) ≤ (op : Int) := by omega
          have i2 : ¬ (op : Int) ≤ (hi : Int) := by omega
          clear HC hlo hhi
          go_wp2_with fail
          go_roundw
          case rel => exact ⟨k + 1, by omega, by rw [show (k + 1) * 2 = j + 2 by have := HJ.out; omega, Int.natCast_add]; rfl, by first | exact Lib.hid trivial | rfl, HC2⟩
          case measure => simp [intOf]; omega
      · have HC2 : Hid (r = (fltP.drop (k + 1)).any fun x => decide (x.1 ≤ op) && decide (op ≤ x.2)) := by rw [Hid, HC]; simp [hlo]
        have i1 : ¬ (lo : Int) ≤ (op : Int) := by omega
        clear HC hlo
        go_wp2_with fail
        go_roundw
        case rel => exact ⟨k + 1, by omega, by rw [show (k + 1) * 2 = j + 2 by have := HJ.out; omega, Int.natCast_add]; rfl, by first | exact Lib.hid trivial | rfl, HC2⟩
        case measure => simp [intOf]; omega
    · obtain rfl : k = 7 := by omega
      have hr0 : r = false := by rw [HC]; rfl
      subst hr0
      clear HC hk hlt
      rw [show ((7 * 2 : Nat) : Int) = 14 from rfl]
      go_wp2_with fail
      go_ret
      exact ⟨rfl, HS1.out⟩

/-! ### Check of the reference -/
def chkR (op : Nat) : Nat := if fltF op then 8 else if (ofR op).2 then 0 else 9

set_option maxRecDepth 100000 in
set_option maxHeartbeats 1600000 in
theorem rcheck_walk (w : World) (op : Nat) (h : op < 256) : Calls Try.prog 27 #[.int .i64 (op : Int)] w fun e w' => e = .returned (.int .i64 (chkR op : Nat)) ∧ Step (fun _ => False) w w' := by
  have HF : Hid (∀ w, Calls Try.prog 139 #[.int .i64 (op : Int)] w fun e w' => e = .returned (.bool (fltF op)) ∧ Step (fun _ => False) w w') := fun w => float_walk w op h
  have HO : Hid (∀ w, Calls Try.prog 24 #[.int .i64 (op : Int)] w fun e w' => e = .returned (.tuple #[rrV (ofR op).1, .bool (ofR op).2]) ∧ Step (fun _ => False) w w') := fun w => ofref_walk w op (by omega)
  obtain ⟨r, hr⟩ : ∃ r, r = chkR op := ⟨_, rfl⟩
  rw [← hr]
  rw [chkR] at hr
  obtain ⟨f, hf⟩ : ∃ f, f = fltF op := ⟨_, rfl⟩
  rw [← hf] at HF hr
  obtain ⟨⟨rr, ok⟩, hok⟩ : ∃ p, p = ofR op := ⟨_, rfl⟩
  rw [← hok] at HO hr
  clear hf hok
  cases f
  · cases ok
    · have hr0 : r = 9 := hr
      subst hr0
      clear hr
      go_enter Try.func27, Try.ntmps27
      go_wp2_with fail
      refine (HF.out _).mono ?_
      rintro e w5 ⟨rfl, hS5⟩
      have HS5 := Lib.hid hS5
      clear hS5
      go_wp2_with fail
      refine (HO.out _).mono ?_
      rintro e w6 ⟨rfl, hS6⟩
      have HS6 := Lib.hid hS6
      clear hS6
      simp only [rrV]
      go_wp2_with fail
      go_ret
      exact ⟨rfl, (HS5.out.trans HS6.out).alloc _⟩
    · have hr0 : r = 0 := hr
      subst hr0
      clear hr
      go_enter Try.func27, Try.ntmps27
      go_wp2_with fail
      refine (HF.out _).mono ?_
      rintro e w5 ⟨rfl, hS5⟩
      have HS5 := Lib.hid hS5
      clear hS5
      go_wp2_with fail
      refine (HO.out _).mono ?_
      rintro e w6 ⟨rfl, hS6⟩
      have HS6 := Lib.hid hS6
      clear hS6
      simp only [rrV]
      go_wp2_with fail
      go_ret
      exact ⟨rfl, (HS5.out.trans HS6.out).alloc _⟩
  · have hr0 : r = 8 := hr
    subst hr0
    clear hr
    go_enter Try.func27, Try.ntmps27
    go_wp2_with fail
    refine (HF.out _).mono ?_
    rintro e w5 ⟨rfl, hS5⟩
    have HS5 := Lib.hid hS5
    clear hS5
    go_wp2_with fail
    go_ret
    exact ⟨rfl, HS5.out⟩

/-! ### The tables agree -/
def tellB (op : Nat) : Bool :=
  chkF op == chkR op && (if (ofR op).2 then decide (infF op = ⟨(ofR op).1.name, (ofR op).1.imm, typF (ofR op).1.takes, typF (ofR op).1.has, (ofR op).1.free⟩) && decide ((ofR op).1.takes.length ≤ 1000) && decide ((ofR op).1.has.length ≤ 1000) && decide ((ofR op).1.name.length ≤ 1000) else decide (infF op = Inf.no))
theorem tell_all : (List.range 256).all tellB = true := by kernel_rfl
theorem tell_at (op : Nat) (h : op < 256) : tellB op = true := List.all_eq_true.1 tell_all op (List.mem_range.2 h)
end Go.Proofs.Ytfemeendkjcffaa
