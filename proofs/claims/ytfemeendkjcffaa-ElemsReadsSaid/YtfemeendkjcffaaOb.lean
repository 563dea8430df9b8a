/-
  Ob: OpF, OpG, OpH, OpI.
-/
import Derived.Test.YtfemeendkjcffaaOpA
import Derived.Test.YtfemeendkjcffaaOpC
import Derived.Test.YtfemeendkjcffaaOpE
import Derived.Great.Walk
import Derived.Deep.QuietTactic
import Derived.BigQuiet
set_option linter.unusedVariables false
set_option linter.unusedSimpArgs false
/-! ops: the reference's groups, words, types, floats. -/
namespace Go.Proofs.Ytfemeendkjcffaa
open Go.RowKit

def grpC : Array Value := (grpT.flatMap Rr.cells).toArray
theorem grp_len : grpT.length = 35 := by kernel_rfl

set_option maxRecDepth 100000 in
set_option maxHeartbeats 1600000 in
theorem groups_walk (w : World) : Calls Try.prog 134 #[] w fun e w' => e = .returned (.slice (some ⟨w.heap.size, 0, none⟩) 35 35) ∧ w' = w.alloc (.cells grpC 24) := by
  go_enter Try.func134, Try.ntmps134
  go_wp2_with (refine Great.wpList_buildSliceTo rfl 36 24 35 _ rfl w.heap.size rfl _ rfl Try.underlying36 grpC (by kernel_rfl) ?_)
  go_ret
  exact ⟨rfl, rfl⟩
end Go.Proofs.Ytfemeendkjcffaa
/-! ops: the reference's word. -/
namespace Go.Proofs.Ytfemeendkjcffaa
open Go.RowKit

/-! ### word -/
def wordGo (s : List UInt8) : Nat → Nat → Option Nat → Nat → Int → List UInt8 × Bool
  | 0, _, _, _, _ => ([], false)
  | f + 1, i, head, frm, n =>
    if i < s.length ∧ s[i]? ≠ some 32 then wordGo s f (i + 1) head frm n
    else match head with
      | none => wordGo s f (i + 1) (some i) (i + 1) n
      | some hd => if n = 0 then (s.take hd ++ (s.drop frm).take (i - frm), true) else wordGo s f (i + 1) (some hd) (i + 1) (n - 1)
theorem wordGo_succ (s : List UInt8) (f i : Nat) (head : Option Nat) (frm : Nat) (n : Int) : wordGo s (f + 1) i head frm n =
    if i < s.length ∧ s[i]? ≠ some 32 then wordGo s f (i + 1) head frm n
    else match head with
      | none => wordGo s f (i + 1) (some i) (i + 1) n
      | some hd => if n = 0 then (s.take hd ++ (s.drop frm).take (i - frm), true) else wordGo s f (i + 1) (some hd) (i + 1) (n - 1) := by cases head <;> rfl
def wordF (s : List UInt8) (n : Int) : List UInt8 × Bool := wordGo s (s.length + 1) 0 none 0 n
def headI : Option Nat → Int
  | none => -1
  | some h => h

set_option maxRecDepth 100000 in
set_option maxHeartbeats 1600000 in
theorem word_walk (w : World) (s : List UInt8) (n : Int) (hs : s.length ≤ 1000) (hn : 0 ≤ n ∧ n ≤ 1000) :
    Calls Try.prog 135 #[.string (str s), .int .i64 n] w fun e w' => e = .returned (.tuple #[.string (str (wordF s n).1), .bool (wordF s n).2]) ∧ ∃ m, w' = w.drewN m := by
  obtain ⟨r, hr⟩ : ∃ r, r = wordF s n := ⟨_, rfl⟩
  rw [← hr]
  have hr := Lib.hid hr
  have hsz := str_size s
  go_enter Try.func135, Try.ntmps135
  go_wp2_with fail
  go_loopw [1, 6, 7, 8] (fun nv hv fv iv wr => ∃ (k fr : Nat) (h : Option Nat) (n : Int), k ≤ s.length + 1 ∧ fr ≤ k ∧ (∀ a, h = some a → a ≤ k ∧ a ≤ s.length) ∧ 0 ≤ n ∧ n ≤ 1000 ∧ nv = .int .i64 n ∧ hv = .int .i64 (headI h) ∧ fv = .int .i64 (fr : Int) ∧ iv = .int .i64 (k : Int) ∧ Hid (r = wordGo s (s.length + 1 - k) k h fr n) ∧ Hid (∃ m, wr = w.drewN m)) (fun nv hv fv iv _ => s.length + 2 - (intOf iv).toNat)
  case atStart => exact ⟨0, 0, none, n, by omega, by omega, by simp, hn.1, hn.2, rfl, rfl, rfl, rfl, hr, Lib.hid ⟨0, rfl⟩⟩
  case round =>
    obtain ⟨k, fr, h, n, hk, hfr, hh, hn0, hn1, rfl, rfl, rfl, rfl, HR, hq⟩ := hrel
    have hw1 := IntWalk.i64_in ((k : Int) + 1) (by omega)
    by_cases hend : k = s.length + 1
    · have h0 : s.length + 1 - k = 0 := by omega
      rw [h0] at HR
      have hr' : r = ([], false) := HR.out
      subst hr'
      have hgt : ¬ (k : Int) ≤ (s.length : Int) := by omega
      clear h0 HR hh
      go_wp2_with fail
      go_ret2
      exact ⟨rfl, hq.out⟩
    · have hle : (k : Int) ≤ (s.length : Int) := by omega
      have hf : s.length + 1 - k = (s.length - k) + 1 := by omega
      have hf2 : s.length + 1 - (k + 1) = s.length - k := by omega
      rw [hf] at HR
      have HR := HR.out
      rw [wordGo_succ] at HR
      by_cases hc : k < s.length ∧ s[k]? ≠ some 32
      · rw [if_pos hc] at HR
        have hlt : (k : Int) < (s.length : Int) := by omega
        have hix := index_str Try.underlying9 s k hc.1 (P := Try.prog)
        have hne : ((s[k].toNat : Int) != 32) = true := by
          rw [bne_iff_ne]
          intro hx
          refine hc.2 ?_
          rw [List.getElem?_eq_getElem hc.1]
          have : s[k].toNat = (32 : UInt8).toNat := by
            have : (32 : UInt8).toNat = 32 := rfl
            omega
          rw [UInt8.toNat_inj.1 this]
        obtain ⟨c, hcc⟩ : ∃ c : Int, c = (s[k].toNat : Int) := ⟨_, rfl⟩
        rw [← hcc] at hix hne
        have HH : Hid (∀ a, h = some a → a ≤ k + 1 ∧ a ≤ s.length) := fun a ha => ⟨by have := (hh a ha).1; omega, (hh a ha).2⟩
        have HR2 : Hid (r = wordGo s (s.length + 1 - (k + 1)) (k + 1) h fr n) := by rw [hf2]; exact HR
        clear hcc hc HR hf hf2 hh
        go_wp2_with fail
        go_roundw
        case rel => exact ⟨k + 1, fr, h, n, by omega, by omega, HH.out, hn0, hn1, rfl, rfl, rfl, by rw [Int.natCast_add]; rfl, HR2, hq⟩
        case measure => simp [intOf]; omega
      · rw [if_neg hc] at HR
        have hd32 : k = s.length ∨ (k < s.length ∧ s[k]? = some 32) := by
          rcases Nat.lt_or_ge k s.length with h1 | h1
          · exact .inr ⟨h1, Classical.not_not.1 fun h2 => hc ⟨h1, h2⟩⟩
          · exact .inl (by omega)
        clear hc
        cases h with
        | none =>
          have HR2 : Hid (r = wordGo s (s.length + 1 - (k + 1)) (k + 1) (some k) (k + 1) n) := by rw [hf2]; exact HR
          clear HR hf hf2 hh
          rw [show headI none = -1 from rfl]
          rcases hd32 with hd | ⟨hd, hd2⟩
          · have hlt : ¬ (k : Int) < (s.length : Int) := by omega
            have HK : Hid (k ≤ s.length) := by rw [hd]; exact Nat.le_refl _
            clear hd
            go_wp2_with fail
            go_roundw
            case rel => exact ⟨k + 1, k + 1, some k, n, by omega, by omega, fun a ha => by injection ha with ha; omega, hn0, hn1, rfl, rfl, by rw [Int.natCast_add]; rfl, by rw [Int.natCast_add]; rfl, HR2, hq⟩
            case measure => simp [intOf]; omega
          · have hlt : (k : Int) < (s.length : Int) := by omega
            have hix := index_str Try.underlying9 s k hd (P := Try.prog)
            rw [List.getElem?_eq_getElem hd] at hd2
            rw [Option.some.inj hd2] at hix
            rw [show ((32 : UInt8).toNat : Int) = 32 from rfl] at hix
            clear hd2
            go_wp2_with fail
            go_roundw
            case rel => exact ⟨k + 1, k + 1, some k, n, by omega, by omega, fun a ha => by injection ha with ha; omega, hn0, hn1, rfl, rfl, by rw [Int.natCast_add]; rfl, by rw [Int.natCast_add]; rfl, HR2, hq⟩
            case measure => simp [intOf]; omega
        | some a =>
          have hh := hh a rfl
          rw [show headI (some a) = (a : Int) from rfl]
          have ha0 : ¬ (a : Int) < 0 := by omega
          by_cases hz : n = 0
          · subst hz
            have HR2 : Hid (r = (s.take a ++ (s.drop fr).take (k - fr), true)) := HR
            have hkl : k ≤ s.length := by omega
            have hs1 := str_slice_h Try.underlying9 s .i64 (a : Int) a rfl hh.2 (P := Try.prog)
            have hs2 := str_slice_lh Try.underlying9 s .i64 .i64 (fr : Int) (k : Int) fr k rfl rfl hfr hkl (P := Try.prog)
            obtain ⟨x1, hx1⟩ : ∃ x1, x1 = s.take a := ⟨_, rfl⟩
            obtain ⟨x2, hx2⟩ : ∃ x2, x2 = (s.drop fr).take (k - fr) := ⟨_, rfl⟩
            have hsz1 : ¬ 9223372036854775807 < (str x1).size + (str x2).size := by
              rw [str_size, str_size, hx1, hx2, List.length_take, List.length_take]
              omega
            rw [← hx1, ← hx2] at HR2
            rw [← hx1] at hs1
            rw [← hx2] at hs2
            clear HR hf hf2 hx1 hx2
            rcases hd32 with hd | ⟨hd, hd2⟩
            · have hlt : ¬ (k : Int) < (s.length : Int) := by omega
              clear hd
              go_wp2_with fail
              go_quiet (fail)
              go_wp2_with fail
              go_ret2
              exact ⟨by rw [HR2.out, str_append]; rfl, by obtain ⟨m, hm⟩ := hq.out; rw [hm]; exact quiet_ex⟩
            · have hlt : (k : Int) < (s.length : Int) := by omega
              have hix := index_str Try.underlying9 s k hd (P := Try.prog)
              rw [List.getElem?_eq_getElem hd] at hd2
              rw [Option.some.inj hd2] at hix
              rw [show ((32 : UInt8).toNat : Int) = 32 from rfl] at hix
              clear hd2
              go_wp2_with fail
              go_quiet (fail)
              go_wp2_with fail
              go_ret2
              exact ⟨by rw [HR2.out, str_append]; rfl, by obtain ⟨m, hm⟩ := hq.out; rw [hm]; exact quiet_ex⟩
          · rw [show (match (some a : Option Nat) with | none => wordGo s (s.length - k) (k + 1) (some k) (k + 1) n | some hd => if n = 0 then (s.take hd ++ (s.drop fr).take (k - fr), true) else wordGo s (s.length - k) (k + 1) (some hd) (k + 1) (n - 1)) = wordGo s (s.length - k) (k + 1) (some a) (k + 1) (n - 1) from if_neg hz] at HR
            have HR2 : Hid (r = wordGo s (s.length + 1 - (k + 1)) (k + 1) (some a) (k + 1) (n - 1)) := by rw [hf2]; exact HR
            have hw2 := IntWalk.i64_in (n - 1) (by omega)
            have hnz : ¬ n = 0 := hz
            clear HR hf hf2 hz
            rcases hd32 with hd | ⟨hd, hd2⟩
            · have hlt : ¬ (k : Int) < (s.length : Int) := by omega
              clear hd
              go_wp2_with fail
              go_roundw
              case rel => exact ⟨k + 1, k + 1, some a, n - 1, by omega, by omega, by simp; omega, by omega, by omega, rfl, rfl, by rw [Int.natCast_add]; rfl, by rw [Int.natCast_add]; rfl, HR2, hq⟩
              case measure => simp [intOf]; omega
            · have hlt : (k : Int) < (s.length : Int) := by omega
              have hix := index_str Try.underlying9 s k hd (P := Try.prog)
              rw [List.getElem?_eq_getElem hd] at hd2
              rw [Option.some.inj hd2] at hix
              rw [show ((32 : UInt8).toNat : Int) = 32 from rfl] at hix
              clear hd2
              go_wp2_with fail
              go_roundw
              case rel => exact ⟨k + 1, k + 1, some a, n - 1, by omega, by omega, by simp; omega, by omega, by omega, rfl, rfl, by rw [Int.natCast_add]; rfl, by rw [Int.natCast_add]; rfl, HR2, hq⟩
              case measure => simp [intOf]; omega
end Go.Proofs.Ytfemeendkjcffaa
/-! ops: the reference's Of. -/
namespace Go.Proofs.Ytfemeendkjcffaa
open Go.RowKit

/-- The cells of element k of a row of structs. -/
theorem st_cells {α : Type} (c : α → List Value) (m : Nat) (hm : 0 < m) (hc : ∀ a, (c a).length = m) {w : World} {S : Nat → Prop} {A : Option Addr} {l : List α} (hv : Reads w S m A l.length (l.flatMap c)) {k : Nat} (hk : k < l.length) :
    ∃ b off, A = some ⟨b, off, none⟩ ∧ S b ∧ b < w.heap.size ∧ ∀ j u, (c l[k])[j]? = some u → w.cell? ⟨b, off + k * m + j, none⟩ = some u := by
  obtain ⟨ad, rfl, hS, hlt, hcell⟩ := hv.2 (by omega)
  have h00 := flat_get c m hc l 0 0 (by omega) hm
  rw [Nat.zero_mul] at h00
  have h01 : (c (l[0]'(by omega)))[0]? = some ((c (l[0]'(by omega)))[0]'(by rw [hc]; exact hm)) := List.getElem?_eq_getElem _
  have h0 := hcell 0 _ (h00.trans h01)
  obtain ⟨b, off, spot⟩ := ad
  have hspot : spot = none := by
    have := World.cell?_spot h0
    simpa [Addr.add] using this
  subst hspot
  refine ⟨b, off, rfl, hS, hlt, fun j u hu => ?_⟩
  have hj : j < m := by
    have := (List.getElem?_eq_some_iff.1 hu).1
    rwa [hc] at this
  have h1 := hcell (k * m + j) u (by rw [flat_get c m hc l k j hk hj]; exact hu)
  rw [Addr.add_lit] at h1
  rw [Nat.add_assoc]
  exact h1

def rrV (i : Rr) : Value := .agg #[.int .i64 i.op, .string (str i.name), .int .i64 (i.imm : Int), .string (str i.takes), .string (str i.has), .bool i.free]
def rrA (i : Rr) : Array Value := #[.int .i64 i.op, .string (str i.name), .int .i64 (i.imm : Int), .string (str i.takes), .string (str i.has), .bool i.free]
theorem rrA_one (i : Rr) : (rrA i).all (·.oneCell') = true := by simp [rrA, Value.oneCell']
def ofGo (op : Int) : Nat → Rr × Bool
  | 0 => (Rr.no, false)
  | i + 1 => if (grpT[i]?.getD Rr.no).op > op then ofGo op i else if (wordF (grpT[i]?.getD Rr.no).name (op - (grpT[i]?.getD Rr.no).op)).2 then ({ grpT[i]?.getD Rr.no with op := op, name := (wordF (grpT[i]?.getD Rr.no).name (op - (grpT[i]?.getD Rr.no).op)).1 }, true) else (Rr.no, false)
def ofR (op : Int) : Rr × Bool := ofGo op 35
theorem grp_ops (k : Nat) (h : k < 35) : 0 ≤ (grpT[k]?.getD Rr.no).op ∧ (grpT[k]?.getD Rr.no).op ≤ 255 ∧ (grpT[k]?.getD Rr.no).name.length ≤ 1000 := by
  have : ∀ k : Fin 35, 0 ≤ (grpT[k.1]?.getD Rr.no).op ∧ (grpT[k.1]?.getD Rr.no).op ≤ 255 ∧ (grpT[k.1]?.getD Rr.no).name.length ≤ 1000 := by decide
  exact this ⟨k, h⟩

set_option maxRecDepth 100000 in
set_option maxHeartbeats 1600000 in
theorem ofref_walk (w : World) (op : Int) (h : 0 ≤ op ∧ op ≤ 255) : Calls Try.prog 24 #[.int .i64 op] w fun e w' => e = .returned (.tuple #[rrV (ofR op).1, .bool (ofR op).2]) ∧ Step (fun _ => False) w w' := by
  obtain ⟨r, hr⟩ : ∃ r, r = ofR op := ⟨_, rfl⟩
  rw [← hr]
  have hr : Hid (r = ofGo op 35) := hr
  obtain ⟨N, hN⟩ : ∃ N, N = w.heap.size := ⟨_, rfl⟩
  go_enter Try.func24, Try.ntmps24
  go_wp2_with fail
  refine (groups_walk _).mono ?_
  rintro e w1 ⟨rfl, hw1⟩
  have hB1 : Blk w1 N 24 (rrA Rr.no) := by rw [hw1, hN]; exact (Blk.new w 24 (rrA Rr.no)).alloc _
  have hS1 : Step (fun _ => False) w w1 := by rw [hw1]; exact (Step.refl.alloc _).alloc _
  have hR1 : Reads w1 (fun k => k = N + 1) 6 (some ⟨N + 1, 0, none⟩) grpT.length (grpT.flatMap Rr.cells) := by
    have := reads_new (w.alloc (.cells (rrA Rr.no) 24)) grpC 24 6 35 (by kernel_rfl)
    rw [show (w.alloc (.cells (rrA Rr.no) 24)).heap.size = N + 1 by rw [hN]; simp, show grpC.toList = grpT.flatMap Rr.cells from rfl] at this
    rw [hw1]
    exact this
  have HF : Hid (Step (fun _ => False) w w1 ∧ Blk w1 N 24 (rrA Rr.no) ∧ Reads w1 (fun k => k = N + 1) 6 (some ⟨N + 1, 0, none⟩) grpT.length (grpT.flatMap Rr.cells)) := ⟨hS1, hB1, hR1⟩
  have hsz : (w.alloc (.cells #[.int .i64 0, .string ⟨#[]⟩, .int .i64 0, .string ⟨#[]⟩, .string ⟨#[]⟩, .bool false] 24)).heap.size = N + 1 := by rw [hN]; simp
  have HNw : Hid (w.heap.size ≤ N) := Nat.le_of_eq hN.symm
  rw [← hN]
  clear hw1 hB1 hS1 hR1 hN
  go_wp2_with fail
  go_loopw [5] (fun iv wr => ∃ k : Nat, k ≤ 35 ∧ iv = .int .i64 ((k : Int) - 1) ∧ Hid (r = ofGo op k) ∧ Hid (Step (fun _ => False) w wr ∧ Blk wr N 24 (rrA Rr.no) ∧ Reads wr (fun k => k = N + 1) 6 (some ⟨N + 1, 0, none⟩) grpT.length (grpT.flatMap Rr.cells))) (fun iv _ => (intOf iv + 1).toNat)
  case atStart => exact ⟨35, by omega, by rfl, hr, HF⟩
  case round =>
    obtain ⟨k, hk, rfl, HR, HQ⟩ := hrel
    cases k with
    | zero =>
      have hr0 : r = (Rr.no, false) := HR.out
      subst hr0
      have hlt : ¬ (0 : Int) ≤ ((0 : Nat) : Int) - 1 := by omega
      have hB := HQ.out.2.1
      have hz := hB.row (rrA Rr.no)
      have z0 := hz.cell 0
      have z1 := hz.cell 1
      have z2 := hz.cell 2
      have z3 := hz.cell 3
      have z4 := hz.cell 4
      have z5 := hz.cell 5
      simp [rrA] at z0 z1 z2 z3 z4 z5
      clear hz HR
      go_wp2_with first
        | (refine wpList_store_rowTo rfl 24 _ _ rfl rfl N (rrA Rr.no) rfl rfl 24 _ hB rfl rfl (rrA_one Rr.no) ?_)
      exact bodyPost_ret (v := .tuple #[rrV Rr.no, .bool false]) (by simp [results, Try.results24, go_sem, rrV, rrA, z0, z1, z2, z3, z4, z5]) rfl ⟨rfl, HQ.out.1.setRow (.inr HNw.out) _⟩
    | succ k =>
      have HR := HR.out
      rw [ofGo] at HR
      have hkl : k < grpT.length := by rw [grp_len]; omega
      have hgo := grp_ops k (by omega)
      rw [List.getElem?_eq_getElem hkl, Option.getD_some] at hgo HR
      obtain ⟨b, off, hA, hb1, hb2, hc⟩ := st_cells Rr.cells 6 (by decide) Rr.six HQ.out.2.2 hkl
      injection hA with hA
      injection hA with hA1 hA2
      subst hA1
      subst hA2
      obtain ⟨g, hg⟩ : ∃ g, g = grpT[k] := ⟨_, rfl⟩
      rw [← hg] at hgo HR hc
      have c0 := hc 0 _ rfl
      have c1 := hc 1 _ rfl
      have c2 := hc 2 _ rfl
      have c3 := hc 3 _ rfl
      have c4 := hc 4 _ rfl
      have c5 := hc 5 _ rfl
      simp only [Nat.zero_add, Nat.add_zero] at c0 c1 c2 c3 c4 c5
      have e1 : (((k + 1 : Nat) : Int) - 1) = (k : Int) := by omega
      rw [e1]
      have hk0 : (0 : Int) ≤ (k : Int) := by omega
      have hk35 : (k : Int) < 35 := by omega
      have hw1 := IntWalk.i64_in ((k : Int) - 1) (by omega)
      by_cases hgt : g.op > op
      · rw [if_pos hgt] at HR
        have HR2 : Hid (r = ofGo op k) := HR
        have hgt' : op < g.op := hgt
        clear hg hc HR hgt
        go_wp2_with fail
        go_roundw
        case rel => exact ⟨k, by omega, rfl, HR2, HQ⟩
        case measure => simp [intOf]
      · rw [if_neg hgt] at HR
        have hgt' : ¬ op < g.op := hgt
        have hw2 := IntWalk.i64_in (op - g.op) (by omega)
        obtain ⟨p, hp⟩ : ∃ p, p = wordF g.name (op - g.op) := ⟨_, rfl⟩
        rw [← hp] at HR
        have HW : Hid (∀ w : World, Calls Try.prog 135 #[.string (str g.name), .int .i64 (op - g.op)] w fun e w' => e = .returned (.tuple #[.string (str p.1), .bool p.2]) ∧ ∃ m, w' = w.drewN m) := fun w => by
          rw [hp]
          exact word_walk w g.name (op - g.op) hgo.2.2 (by omega)
        obtain ⟨nm, ok⟩ := p
        clear hg hc hgt hgo hp e1
        cases ok
        · have hr0 : r = (Rr.no, false) := HR
          subst hr0
          clear HR
          go_wp2_with fail
          go_quiet ((go_at_call 135; exact Calls.quiet_of (HW.out _)))
          have hB : Blk (wr.drewN nq) N 24 (rrA Rr.no) := HQ.out.2.1
          have hz := hB.row (rrA Rr.no)
          have z0 := hz.cell 0
          have z1 := hz.cell 1
          have z2 := hz.cell 2
          have z3 := hz.cell 3
          have z4 := hz.cell 4
          have z5 := hz.cell 5
          simp [rrA] at z0 z1 z2 z3 z4 z5
          have HS : Hid (Step (fun _ => False) w (wr.drewN nq)) := HQ.out.1.drewN nq
          clear hz
          go_wp2_with first
            | (refine wpList_store_rowTo rfl 24 _ _ rfl rfl N (rrA Rr.no) rfl rfl 24 _ hB rfl rfl (rrA_one Rr.no) ?_)
          exact bodyPost_ret (v := .tuple #[rrV Rr.no, .bool false]) (by simp [results, Try.results24, go_sem, rrV, rrA, z0, z1, z2, z3, z4, z5]) rfl ⟨rfl, HS.out.setRow (.inr HNw.out) _⟩
        · have hr0 : r = ({ g with op := op, name := nm }, true) := HR
          subst hr0
          clear HR
          go_wp2_with fail
          go_quiet ((go_at_call 135; exact Calls.quiet_of (HW.out _)))
          have HS : Hid (Step (fun _ => False) w (wr.drewN nq)) := HQ.out.1.drewN nq
          have HB : Hid (Blk (wr.drewN nq) N 24 (rrA Rr.no)) := HQ.out.2.1
          have d0 : (wr.drewN nq).cell? ⟨N + 1, k * 6, none⟩ = some (.int .i64 g.op) := c0
          have d1 : (wr.drewN nq).cell? ⟨N + 1, k * 6 + 1, none⟩ = some (.string (str g.name)) := c1
          have d2 : (wr.drewN nq).cell? ⟨N + 1, k * 6 + 2, none⟩ = some (.int .i64 (g.imm : Int)) := c2
          have d3 : (wr.drewN nq).cell? ⟨N + 1, k * 6 + 3, none⟩ = some (.string (str g.takes)) := c3
          have d4 : (wr.drewN nq).cell? ⟨N + 1, k * 6 + 4, none⟩ = some (.string (str g.has)) := c4
          have d5 : (wr.drewN nq).cell? ⟨N + 1, k * 6 + 5, none⟩ = some (.bool g.free) := c5
          have hNX : N + 1 < (wr.drewN nq).heap.size := hb2
          obtain ⟨W, hW⟩ : ∃ W, W = wr.drewN nq := ⟨_, rfl⟩
          rw [← hW] at d0 d1 d2 d3 d4 d5 hNX HS HB ⊢
          clear c0 c1 c2 c3 c4 c5 HQ hW
          obtain ⟨gN, hgN⟩ : ∃ gN : Rr, gN = { g with op := op, name := nm } := ⟨_, rfl⟩
          have hB := HB.out.alloc (.cells (rrA { g with op := op, name := nm }) 24)
          have hz := hB.row (rrA { g with op := op, name := nm })
          have z0 := hz.cell 0
          have z1 := hz.cell 1
          have z2 := hz.cell 2
          have z3 := hz.cell 3
          have z4 := hz.cell 4
          have z5 := hz.cell 5
          simp [rrA] at z0 z1 z2 z3 z4 z5
          clear hz hB hgN gN
          go_wp2_with first
            | (refine wpList_store_rowTo rfl 24 _ _ rfl rfl N (rrA { g with op := op, name := nm }) rfl rfl 24 _ (HB.out.alloc _) rfl rfl (rrA_one _) ?_)
          exact bodyPost_ret (v := .tuple #[rrV { g with op := op, name := nm }, .bool true]) (by simp [results, Try.results24, go_sem, rrV, rrA, z0, z1, z2, z3, z4, z5]) rfl ⟨rfl, (HS.out.alloc _).setRow (.inr HNw.out) _⟩
end Go.Proofs.Ytfemeendkjcffaa
/-! ops: the reference's types, floats, Check; and what the tables have to do with each other. -/
namespace Go.Proofs.Ytfemeendkjcffaa
open Go.RowKit

def typF (s : List UInt8) : List UInt8 := s.map fun c => if c = 119 then 127 else 126

set_option maxRecDepth 100000 in
set_option maxHeartbeats 1600000 in
theorem types_walk (w : World) (s : List UInt8) (hs : s.length ≤ 1000) : Calls Try.prog 29 #[.string (str s)] w fun e w' => e = .returned (.string (str (typF s))) ∧ w' = w := by
  obtain ⟨r, hr⟩ : ∃ r, r = typF s := ⟨_, rfl⟩
  rw [← hr]
  have hr := Lib.hid hr
  have hsz := str_size s
  go_enter Try.func29, Try.ntmps29
  go_wp2_with fail
  go_loopw [3, 4] (fun ov iv wr => ∃ (k : Nat) (o : List UInt8), k ≤ s.length ∧ ov = .string (str o) ∧ iv = .int .i64 (k : Int) ∧ Hid (o = typF (s.take k)) ∧ Hid (wr = w)) (fun ov iv _ => s.length + 1 - (intOf iv).toNat)
  case atStart => exact ⟨0, [], by omega, rfl, rfl, rfl, by first | exact Lib.hid trivial | rfl⟩
  case round =>
    obtain ⟨k, o, hk, rfl, rfl, HO, hq⟩ := hrel
    have hq' := hq.out
    subst hq'
    have hw1 := IntWalk.i64_in ((k : Int) + 1) (by omega)
    by_cases hlt : k < s.length
    · have hlt' : (k : Int) < (s.length : Int) := by omega
      have hix := index_str Try.underlying9 s k hlt (P := Try.prog)
      have hsz1 : ¬ 9223372036854775807 < (str o).size + 1 := by
        rw [str_size, HO.out, typF, List.length_map, List.length_take]
        omega
      have hsz2 := str_size [127]
      have hsz3 := str_size [126]
      by_cases hc : s[k] = 119
      · have HN : Hid (o ++ [127] = typF (s.take (k + 1))) := by
          rw [Hid, List.take_succ_eq_append_getElem hlt, typF, List.map_append, ← typF, ← HO.out, List.map_cons, List.map_nil, if_pos hc]
        rw [hc, show ((119 : UInt8).toNat : Int) = 119 from rfl] at hix
        clear hc HO
        go_wp2_with fail
        go_roundw
        case rel => exact ⟨k + 1, o ++ [127], by omega, by rw [← str_append]; rfl, by rw [Int.natCast_add]; rfl, HN, by first | exact Lib.hid trivial | rfl⟩
        case measure => simp [intOf]; omega
      · have HN : Hid (o ++ [126] = typF (s.take (k + 1))) := by
          rw [Hid, List.take_succ_eq_append_getElem hlt, typF, List.map_append, ← typF, ← HO.out, List.map_cons, List.map_nil, if_neg hc]
        have hne : ¬ ((s[k].toNat : Int) = 119) := by
          intro hx
          refine hc (UInt8.toNat_inj.1 ?_)
          have : (119 : UInt8).toNat = 119 := rfl
          omega
        obtain ⟨c, hcc⟩ : ∃ c : Int, c = (s[k].toNat : Int) := ⟨_, rfl⟩
        rw [← hcc] at hix hne
        clear hc HO hcc
        go_wp2_with fail
        go_roundw
        case rel => exact ⟨k + 1, o ++ [126], by omega, by rw [← str_append]; rfl, by rw [Int.natCast_add]; rfl, HN, by first | exact Lib.hid trivial | rfl⟩
        case measure => simp [intOf]; omega
    · obtain rfl : k = s.length := by omega
      rw [List.take_length] at HO
      have ho : o = r := HO.out.trans hr.out.symm
      subst ho
      go_wp2_with fail
      go_ret
      exact ⟨rfl, rfl⟩

/-! ### Float -/
def fltP : List (Nat × Nat) := [(42, 43), (56, 57), (67, 68), (91, 102), (139, 166), (168, 171), (174, 191)]
def pairC (p : Nat × Nat) : List Value := [.int .i64 (p.1 : Int), .int .i64 (p.2 : Int)]
theorem flt_len : fltP.length = 7 := rfl

set_option maxRecDepth 100000 in
set_option maxHeartbeats 1600000 in
theorem float_walk (w : World) (op : Nat) (h : op < 256) : Calls Try.prog 139 #[.int .i64 (op : Int)] w fun e w' => e = .returned (.bool (fltF op)) ∧ Step (fun _ => False) w w' := by
  obtain ⟨r, hr⟩ : ∃ r, r = fltF op := ⟨_, rfl⟩
  rw [← hr]
  replace hr : Hid (r = (fltP.drop 0).any fun x => decide (x.1 ≤ op) && decide (op ≤ x.2)) := hr
  have HR1 : Hid (Reads (w.alloc (.cells ((fltP.flatMap pairC).toArray) 3)) (fun k => k = w.heap.size) 2 (some ⟨w.heap.size, 0, none⟩) fltP.length (fltP.flatMap pairC)) := reads_new w ((fltP.flatMap pairC).toArray) 3 2 7 rfl
  have HS1 : Hid (Step (fun _ => False) w (w.alloc (.cells ((fltP.flatMap pairC).toArray) 3))) := Step.refl.alloc _
  obtain ⟨N, hN⟩ : ∃ N, N = w.heap.size := ⟨_, rfl⟩
  obtain ⟨w1, hw1⟩ : ∃ w1, w1 = w.alloc (.cells ((fltP.flatMap pairC).toArray) 3) := ⟨_, rfl⟩
  rw [← hw1, ← hN] at HR1
  rw [← hw1] at HS1
  go_enter Try.func139, Try.ntmps139
  go_wp2_with (refine Great.wpList_buildSliceTo rfl 233 3 14 _ rfl N hN.symm _ rfl Try.underlying233 ((fltP.flatMap pairC).toArray) (by kernel_rfl) ?_)
  rw [← hw1, ← hN]
  clear hw1 hN
  go_loopw [4] (fun iv wr => ∃ k : Nat, k ≤ 7 ∧ iv = .int .i64 ((k * 2 : Nat) : Int) ∧ Hid (wr = w1) ∧ Hid (r = (fltP.drop k).any fun x => decide (x.1 ≤ op) && decide (op ≤ x.2))) (fun iv _ => 15 - (intOf iv).toNat)
  case atStart => exact ⟨0, by omega, by rfl, by first | exact Lib.hid trivial | rfl, hr⟩
  case round =>
    obtain ⟨k, hk, rfl, hq, HC⟩ := hrel
    have hq' := hq.out
    subst hq'
    have HC := HC.out
    by_cases hlt : k < 7
    · have hkl : k < fltP.length := hlt
      obtain ⟨b, off, hA, hb1, hb2, hc⟩ := st_cells pairC 2 (by decide) (fun _ => rfl) HR1.out hkl
      injection hA with hA
      injection hA with hA1 hA2
      subst hA1
      subst hA2
      rw [List.drop_eq_getElem_cons hkl, List.any_cons] at HC
      obtain ⟨⟨lo, hi⟩, hg⟩ : ∃ g, g = fltP[k] := ⟨_, rfl⟩
      rw [← hg] at HC hc
      have c0 := hc 0 _ rfl
      have c1 := hc 1 _ rfl
      simp only [Nat.zero_add, Nat.add_zero] at c0 c1
      have hk2 : ((k * 2 : Nat) : Int) < 14 := by omega
      have hw2 := IntWalk.i64_in (((k * 2 : Nat) : Int) + 2) (by omega)
      have hw1 := IntWalk.i64_in (((k * 2 : Nat) : Int) + 1) (by omega)
      have hk3 : ((k * 2 : Nat) : Int) + 1 < 14 := by omega
      obtain ⟨j, hj⟩ : ∃ j, j = k * 2 := ⟨_, rfl⟩
      have HJ : Hid (j = k * 2) := hj
      rw [← hj] at c0 c1 hk2 hk3 hw1 hw2 ⊢
      have ht : (((j : Nat) : Int) + 1).toNat = j + 1 := by omega
      clear hc hg hj
      by_cases hlo : lo ≤ op
      · by_cases hhi : op ≤ hi
        · have hr0 : r = true := by rw [HC]; simp [hlo, hhi]
          subst hr0
          have i1 : (lo : Int) ≤ (op : Int) := by omega
          have i2 : (op : Int) ≤ (hi : Int) := by omega
          clear HC hlo hhi
          go_wp2_with fail
          go_ret
          exact ⟨rfl, HS1.out⟩
        · have HC2 : Hid (r = (fltP.drop (k + 1)).any fun x => decide (x.1 ≤ op) && decide (op ≤ x.2)) := by rw [Hid, HC]; simp [hhi]
          have i1 : (lo : Int) ≤ (op : Int) := by omega
          have i2 : ¬ (op : Int) ≤ (hi : Int) := by omega
          clear HC hlo hhi
          go_wp2_with fail
          go_roundw
          case rel => exact ⟨k + 1, by omega, by rw [show (k + 1) * 2 = j + 2 by have := HJ.out; omega, Int.natCast_add]; rfl, by first | exact Lib.hid trivial | rfl, HC2⟩
          case measure => simp [intOf]; omega
      · have HC2 : Hid (r = (fltP.drop (k + 1)).any fun x => decide (x.1 ≤ op) && decide (op ≤ x.2)) := by rw [Hid, HC]; simp [hlo]
        have i1 : ¬ (lo : Int) ≤ (op : Int) := by omega
        clear HC hlo
        go_wp2_with fail
        go_roundw
        case rel => exact ⟨k + 1, by omega, by rw [show (k + 1) * 2 = j + 2 by have := HJ.out; omega, Int.natCast_add]; rfl, by first | exact Lib.hid trivial | rfl, HC2⟩
        case measure => simp [intOf]; omega
    · obtain rfl : k = 7 := by omega
      have hr0 : r = false := by rw [HC]; rfl
      subst hr0
      clear HC hk hlt
      rw [show ((7 * 2 : Nat) : Int) = 14 from rfl]
      go_wp2_with fail
      go_ret
      exact ⟨rfl, HS1.out⟩

/-! ### Check of the reference -/
def chkR (op : Nat) : Nat := if fltF op then 8 else if (ofR op).2 then 0 else 9

set_option maxRecDepth 100000 in
set_option maxHeartbeats 1600000 in
theorem rcheck_walk (w : World) (op : Nat) (h : op < 256) : Calls Try.prog 27 #[.int .i64 (op : Int)] w fun e w' => e = .returned (.int .i64 (chkR op : Nat)) ∧ Step (fun _ => False) w w' := by
  have HF : Hid (∀ w, Calls Try.prog 139 #[.int .i64 (op : Int)] w fun e w' => e = .returned (.bool (fltF op)) ∧ Step (fun _ => False) w w') := fun w => float_walk w op h
  have HO : Hid (∀ w, Calls Try.prog 24 #[.int .i64 (op : Int)] w fun e w' => e = .returned (.tuple #[rrV (ofR op).1, .bool (ofR op).2]) ∧ Step (fun _ => False) w w') := fun w => ofref_walk w op (by omega)
  obtain ⟨r, hr⟩ : ∃ r, r = chkR op := ⟨_, rfl⟩
  rw [← hr]
  rw [chkR] at hr
  obtain ⟨f, hf⟩ : ∃ f, f = fltF op := ⟨_, rfl⟩
  rw [← hf] at HF hr
  obtain ⟨⟨rr, ok⟩, hok⟩ : ∃ p, p = ofR op := ⟨_, rfl⟩
  rw [← hok] at HO hr
  clear hf hok
  cases f
  · cases ok
    · have hr0 : r = 9 := hr
      subst hr0
      clear hr
      go_enter Try.func27, Try.ntmps27
      go_wp2_with fail
      refine (HF.out _).mono ?_
      rintro e w5 ⟨rfl, hS5⟩
      have HS5 := Lib.hid hS5
      clear hS5
      go_wp2_with fail
      refine (HO.out _).mono ?_
      rintro e w6 ⟨rfl, hS6⟩
      have HS6 := Lib.hid hS6
      clear hS6
      simp only [rrV]
      go_wp2_with fail
      go_ret
      exact ⟨rfl, (HS5.out.trans HS6.out).alloc _⟩
    · have hr0 : r = 0 := hr
      subst hr0
      clear hr
      go_enter Try.func27, Try.ntmps27
      go_wp2_with fail
      refine (HF.out _).mono ?_
      rintro e w5 ⟨rfl, hS5⟩
      have HS5 := Lib.hid hS5
      clear hS5
      go_wp2_with fail
      refine (HO.out _).mono ?_
      rintro e w6 ⟨rfl, hS6⟩
      have HS6 := Lib.hid hS6
      clear hS6
      simp only [rrV]
      go_wp2_with fail
      go_ret
      exact ⟨rfl, (HS5.out.trans HS6.out).alloc _⟩
  · have hr0 : r = 8 := hr
    subst hr0
    clear hr
    go_enter Try.func27, Try.ntmps27
    go_wp2_with fail
    refine (HF.out _).mono ?_
    rintro e w5 ⟨rfl, hS5⟩
    have HS5 := Lib.hid hS5
    clear hS5
    go_wp2_with fail
    go_ret
    exact ⟨rfl, HS5.out⟩

/-! ### The tables agree -/
def tellB (op : Nat) : Bool :=
  chkF op == chkR op && (if (ofR op).2 then decide (infF op = ⟨(ofR op).1.name, (ofR op).1.imm, typF (ofR op).1.takes, typF (ofR op).1.has, (ofR op).1.free⟩) && decide ((ofR op).1.takes.length ≤ 1000) && decide ((ofR op).1.has.length ≤ 1000) && decide ((ofR op).1.name.length ≤ 1000) else decide (infF op = Inf.no))
theorem tell_all : (List.range 256).all tellB = true := by kernel_rfl
theorem tell_at (op : Nat) (h : op < 256) : tellB op = true := List.all_eq_true.1 tell_all op (List.mem_range.2 h)
end Go.Proofs.Ytfemeendkjcffaa
