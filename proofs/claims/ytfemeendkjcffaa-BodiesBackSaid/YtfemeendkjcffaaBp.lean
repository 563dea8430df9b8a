/-
  Bp: BpA, BpB, BpC, BpD.
-/
import Derived.Test.YtfemeendkjcffaaInsJ
import Derived.Test.YtfemeendkjcffaaIs
import Derived.Test.YtfemeendkjcffaaBoA
import Derived.Test.YtfemeendkjcffaaMxt
import Derived.Test.YtfemeendkjcffaaDa
set_option linter.unusedVariables false
set_option linter.unusedSimpArgs false
/-! bodies: which ones may be; Right, creelref14.Much, Shape. -/
namespace Go.Proofs.Ytfemeendkjcffaa
open Go.RowKit

/-- The first of the locals' types that may not be. -/
def errT : List (Nat × Nat) → Nat
  | [] => 0
  | g :: l => if valF g.2 = 0 then errT l else valF g.2
theorem errT_cons (g : Nat × Nat) (l : List (Nat × Nat)) : errT (g :: l) = if valF g.2 = 0 then errT l else valF g.2 := rfl
theorem errT_all (l : List (Nat × Nat)) (h : errT l = 0) : ∀ g ∈ l, valF g.2 = 0 := by
  induction l with
  | nil => intro g hg; cases hg
  | cons a l ih =>
    rw [errT_cons] at h
    by_cases ha : valF a.2 = 0
    · rw [if_pos ha] at h
      intro g hg
      rcases List.mem_cons.1 hg with rfl | hg
      · exact ha
      · exact ih h g hg
    · rw [if_neg ha] at h
      exact absurd h ha
def shpC (lo : List (Nat × Nat)) (l : List Ig) : Nat := if locF lo 0 = none then 23 else if errT lo = 0 then shpF l else errT lo

set_option maxRecDepth 100000 in
set_option maxHeartbeats 3200000 in
theorem much_walk (w : World) (LA IA : Option Addr) (ln lc n c : Nat) (l : List Ig) (S : Nat → Prop) (HN : Hid (n = l.length)) (hnb : n ≤ 1000) (hr : Reads w S 4 IA n (igs l)) :
    Calls Try.prog 119 #[.agg #[.slice LA ln lc, .slice IA n c]] w fun e w' => (∃ b, e = .returned (.bool b) ∧ (b = false → ∀ x ∈ l, x.n ≤ 50)) ∧ Step (fun _ => False) w w' := by
  have HR := Lib.hid (hr.step (Step.refl.alloc (F := fun _ => False) (.cells #[.slice LA ln lc, .slice IA n c] 176)) (fun _ _ => id))
  have HB := Lib.hid (Blk.new w 176 #[.slice LA ln lc, .slice IA n c])
  have HT := Lib.hid (Step.refl.alloc (F := fun _ => False) (w := w) (.cells #[.slice LA ln lc, .slice IA n c] 176))
  clear hr
  go_enter Try.func119, Try.ntmps119
  go_wp2_with fail
  obtain ⟨W, hW⟩ : ∃ W, W = w.alloc (.cells #[.slice LA ln lc, .slice IA n c] 176) := ⟨_, rfl⟩
  rw [← hW] at HR HB HT ⊢
  obtain ⟨X, hX⟩ : ∃ X, X = w.heap.size := ⟨_, rfl⟩
  rw [← hX] at HB ⊢
  clear hW hX
  go_loopw [3] (fun iv wr => ∃ (j : Nat), j ≤ n ∧ iv = .int .i64 (j : Int) ∧ Hid (∀ x ∈ l.take j, x.n ≤ 50) ∧ Hid (Step (fun _ => False) W wr)) (fun iv _ => n + 1 - (intOf iv).toNat)
  case atStart => exact ⟨0, by omega, rfl, (fun x hx => by rw [List.take_zero] at hx; cases hx), Step.refl⟩
  case round =>
    obtain ⟨j, hj, rfl, HI, HS⟩ := hrel
    have x1 := (HB.out.step HS.out id).cell 1
    simp at x1
    by_cases hlt : j < n
    · have g1 : (j : Int) < (n : Int) := by omega
      have i0 : (0 : Int) ≤ (j : Int) := by omega
      have hw1 := IntWalk.i64_in ((j : Int) + 1) (by omega)
      have hjl : j < l.length := by rw [← HN.out]; exact hlt
      obtain ⟨bk, off, rfl, _, hbl, hc⟩ := reads_row Ig.cells 4 (by decide) Ig.four (HR.out.step HS.out (fun _ _ => id)) (k := j) hjl
      have HU : Hid (l.take (j + 1) = l.take j ++ [l[j]]) := List.take_succ_eq_append_getElem hjl
      obtain ⟨x, hxe⟩ : ∃ x, x = l[j] := ⟨_, rfl⟩
      rw [← hxe] at hc HU
      clear hxe
      obtain ⟨op, a, b, m, cc, B1, L⟩ := x
      have c3 := hc 3 _ rfl
      simp only at c3
      clear hc
      by_cases hq : (50 : Int) < (m : Int)
      · have hq' : decide ((50 : Int) < (m : Int)) = true := decide_eq_true hq
        go_wp2_with fail
        go_ret
        exact ⟨⟨true, rfl, fun h => by cases h⟩, HT.out.trans HS.out⟩
      · have hq' : decide ((50 : Int) < (m : Int)) = false := decide_eq_false hq
        have HI2 : Hid (∀ x ∈ l.take (j + 1), x.n ≤ 50) := fun x hx => by
          rw [HU.out] at hx
          rcases List.mem_append.1 hx with hx | hx
          · exact HI.out x hx
          · rw [List.mem_singleton.1 hx]
            show m ≤ 50
            omega
        go_wp2_with fail
        go_roundw
        case rel => exact ⟨j + 1, by omega, by rw [Int.natCast_add]; rfl, HI2, HS⟩
        case measure => simp [intOf]; omega
    · obtain rfl : j = n := by omega
      have HI2 : Hid (∀ x ∈ l, x.n ≤ 50) := fun x hx => HI.out x (by rw [HN.out, List.take_length]; exact hx)
      go_wp2_with fail
      go_ret
      exact ⟨⟨false, rfl, fun _ => HI2.out⟩, HT.out.trans HS.out⟩

set_option maxRecDepth 100000 in
set_option maxHeartbeats 3200000 in
theorem rshape14_walk (w : World) (LA IA : Option Addr) (lc n c : Nat) (lo : List (Nat × Nat)) (l : List Ig) (S : Nat → Prop) (HN : Hid (n = l.length)) (hnb : n ≤ 1000) (hr : Reads w S 4 IA n (igs l)) (hl : Reads w S 2 LA lo.length (lo.flatMap loC)) (hb : ∀ g ∈ lo, g.1 < 4294967296 ∧ g.2 < 256) (hlo : lo.length ≤ 100000) :
    Calls Try.prog 123 #[.agg #[.slice LA lo.length lc, .slice IA n c]] w fun e w' => e = .returned (.int .i64 (shpC lo l : Nat)) ∧ Step (fun _ => False) w w' := by
  have HR := Lib.hid (hr.step (Step.refl.alloc (F := fun _ => False) (.cells #[.slice LA lo.length lc, .slice IA n c] 176)) (fun _ _ => id))
  have HL := Lib.hid (hl.step (Step.refl.alloc (F := fun _ => False) (.cells #[.slice LA lo.length lc, .slice IA n c] 176)) (fun _ _ => id))
  have HB := Lib.hid (Blk.new w 176 #[.slice LA lo.length lc, .slice IA n c])
  have HT := Lib.hid (Step.refl.alloc (F := fun _ => False) (w := w) (.cells #[.slice LA lo.length lc, .slice IA n c] 176))
  have HBd := Lib.hid hb
  obtain ⟨R, hR⟩ : ∃ R, R = shpC lo l := ⟨_, rfl⟩
  rw [← hR]
  have HR0 := Lib.hid hR
  clear hR
  clear hr hl hb
  go_enter Try.func123, Try.ntmps123
  go_wp2_with fail
  obtain ⟨W, hW⟩ : ∃ W, W = w.alloc (.cells #[.slice LA lo.length lc, .slice IA n c] 176) := ⟨_, rfl⟩
  rw [← hW] at HR HB HT HL ⊢
  obtain ⟨X, hX⟩ : ∃ X, X = w.heap.size := ⟨_, rfl⟩
  rw [← hX] at HB ⊢
  clear hW hX
  refine (locals_walk W LA lc lo S HL.out (fun g hg => (HBd.out g hg).1) hlo).mono ?_
  rintro e w5 ⟨rfl, hw5⟩
  subst w5
  by_cases hcn : locF lo 0 = none
  · rw [hcn]
    have HR2 : Hid (R = 23) := by rw [Hid, HR0.out, shpC, if_pos hcn]
    simp only [locV]
    clear hcn
    go_wp2_with fail
    go_ret
    exact ⟨by rw [HR2.out]; rfl, HT.out⟩
  obtain ⟨v, hv⟩ : ∃ v, locF lo 0 = some v := by
    cases h : locF lo 0 with
    | none => exact absurd h hcn
    | some v => exact ⟨v, rfl⟩
  have HC : Hid (R = if errT lo = 0 then shpF l else errT lo) := by rw [Hid, HR0.out, shpC, if_neg hcn]
  rw [hv]
  simp only [locV]
  have hv0 : ¬ (v : Int) < 0 := by omega
  clear hv hcn
  go_wp2_with fail
  go_loopw [3] (fun iv wr => ∃ (j : Nat), j ≤ lo.length ∧ iv = .int .i64 (j : Int) ∧ Hid (errT (lo.drop j) = errT lo) ∧ Hid (Step (fun _ => False) W wr)) (fun iv _ => lo.length + 1 - (intOf iv).toNat)
  case atStart => exact ⟨0, by omega, rfl, rfl, Step.refl⟩
  case round =>
    obtain ⟨j, hj, rfl, HI, HS⟩ := hrel
    have x0 := (HB.out.step HS.out id).cell 0
    have x1 := (HB.out.step HS.out id).cell 1
    simp at x0 x1
    by_cases hlt : j < lo.length
    · have g1 : (j : Int) < (lo.length : Int) := by omega
      have i0 : (0 : Int) ≤ (j : Int) := by omega
      have hw1 := IntWalk.i64_in ((j : Int) + 1) (by omega)
      obtain ⟨bk, off, rfl, _, hbl, hc⟩ := st_cells loC 2 (by decide) (fun _ => rfl) (HL.out.step HS.out (fun _ _ => id)) hlt
      have hg := HBd.out lo[j] (List.getElem_mem hlt)
      have hI := HI.out
      rw [List.drop_eq_getElem_cons hlt, errT_cons] at hI
      generalize lo[j] = g at *
      obtain ⟨gn, gt⟩ := g
      have c1 := hc 1 _ rfl
      simp only at c1 hg hI
      have hw2 := IntWalk.i64_in (gt : Int) (by omega)
      have HV : Hid (∀ w, Calls Try.prog 148 #[.int .i64 (gt : Int)] w fun e w' => e = .returned (.int .i64 (valF gt : Nat)) ∧ w' = w) := fun w => rvalue_walk w gt (by omega)
      obtain ⟨r, hr⟩ : ∃ r : Int, r = (valF gt : Nat) := ⟨_, rfl⟩
      rw [← hr] at HV
      by_cases hz : valF gt = 0
      · have hr0 : r = 0 := by omega
        rw [if_pos hz] at hI
        have HI2 := Lib.hid hI
        subst hr0
        clear hc hz hI HI hr
        go_wp2_with fail
        refine (HV.out _).mono ?_
        rintro e w6 ⟨rfl, hw6⟩
        subst w6
        go_wp2_with fail
        go_roundw
        case rel => exact ⟨j + 1, by omega, by rw [Int.natCast_add]; rfl, HI2, HS⟩
        case measure => simp [intOf]; omega
      · have hne : ¬ r = 0 := by omega
        have hnb2 : (r != 0) = true := bne_iff_ne.2 hne
        rw [if_neg hz] at hI
        have HQ : Hid ((R : Int) = r) := by rw [Hid, HC.out, if_neg (by rw [← hI]; exact hz), ← hI, hr]
        clear hc hz hI HI hr
        go_wp2_with fail
        refine (HV.out _).mono ?_
        rintro e w6 ⟨rfl, hw6⟩
        subst w6
        go_wp2_with fail
        go_ret
        exact ⟨by rw [HQ.out]; rfl, HT.out.trans HS.out⟩
    · obtain rfl : j = lo.length := by omega
      have hI := HI.out
      rw [List.drop_length] at hI
      have HQ : Hid (R = shpF l) := by rw [Hid, HC.out, if_pos (by rw [← hI]; rfl)]
      clear hI
      go_wp2_with fail
      refine (rshape_walk wr n c IA l S HN hnb (HR.out.step HS.out (fun _ _ => id))).mono ?_
      rintro e w7 ⟨rfl, hS7⟩
      go_wp2_with fail
      go_ret
      exact ⟨by rw [HQ.out]; rfl, (HT.out.trans HS.out).trans hS7⟩

set_option maxRecDepth 100000 in
set_option maxHeartbeats 3200000 in
theorem bright_walk (w : World) (LA IA : Option Addr) (lc n c : Nat) (lo : List (Nat × Nat)) (l : List Ig) (S : Nat → Prop) (HN : Hid (n = l.length)) (hnb : n ≤ 1000) (hop : ∀ x ∈ l, x.op < 256) (hr : Reads w S 4 IA n (igs l)) (hl : Reads w S 2 LA lo.length (lo.flatMap loC)) (hb : ∀ g ∈ lo, g.1 < 4294967296 ∧ g.2 < 256) (hlo : lo.length ≤ 1000) :
    Calls Try.prog 122 #[.agg #[.slice LA lo.length lc, .slice IA n c]] w fun e w' => e = .returned (.int .i64 (shpC lo l : Nat)) ∧ Step (fun _ => False) w w' := by
  have HR := Lib.hid (hr.step (Step.refl.alloc (F := fun _ => False) (.cells #[.slice LA lo.length lc, .slice IA n c] 176)) (fun _ _ => id))
  have HL := Lib.hid (hl.step (Step.refl.alloc (F := fun _ => False) (.cells #[.slice LA lo.length lc, .slice IA n c] 176)) (fun _ _ => id))
  have HB := Lib.hid (Blk.new w 176 #[.slice LA lo.length lc, .slice IA n c])
  have HT := Lib.hid (Step.refl.alloc (F := fun _ => False) (w := w) (.cells #[.slice LA lo.length lc, .slice IA n c] 176))
  have HBd := Lib.hid hb
  have HOp := Lib.hid hop
  have g10 : ¬ (10000 : Int) < (lo.length : Int) := by omega
  obtain ⟨R, hR⟩ : ∃ R, R = shpC lo l := ⟨_, rfl⟩
  rw [← hR]
  have HR0 := Lib.hid hR
  clear hR
  clear hr hl hb hop
  go_enter Try.func122, Try.ntmps122
  go_wp2_with fail
  obtain ⟨W, hW⟩ : ∃ W, W = w.alloc (.cells #[.slice LA lo.length lc, .slice IA n c] 176) := ⟨_, rfl⟩
  rw [← hW] at HR HB HT HL ⊢
  obtain ⟨X, hX⟩ : ∃ X, X = w.heap.size := ⟨_, rfl⟩
  rw [← hX] at HB ⊢
  clear hW hX
  refine (count_walk W LA lc lo S HL.out (fun g hg => (HBd.out g hg).1) (by omega)).mono ?_
  rintro e w5 ⟨rfl, hS5⟩
  by_cases hcn : locF lo 0 = none
  · rw [hcn]
    have HR2 : Hid (R = 23) := by rw [Hid, HR0.out, shpC, if_pos hcn]
    simp only [cntV]
    clear hcn
    go_wp2_with fail
    go_ret
    exact ⟨by rw [HR2.out]; rfl, HT.out.trans hS5⟩
  obtain ⟨v, hv⟩ : ∃ v, locF lo 0 = some v := by
    cases h : locF lo 0 with
    | none => exact absurd h hcn
    | some v => exact ⟨v, rfl⟩
  have HC : Hid (R = if errT lo = 0 then shpF l else errT lo) := by rw [Hid, HR0.out, shpC, if_neg hcn]
  rw [hv]
  simp only [cntV]
  have HS5 := Lib.hid hS5
  have x0 := (HB.out.step HS5.out id).cell 0
  simp at x0
  clear hv hcn hS5
  go_wp2_with fail
  clear x0
  go_loopw [24] (fun iv wr => ∃ (j : Nat), j ≤ lo.length ∧ iv = .int .i64 (j : Int) ∧ Hid (errT (lo.drop j) = errT lo) ∧ Hid (Step (fun _ => False) W wr)) (fun iv _ => lo.length + 1 - (intOf iv).toNat)
  case atStart => exact ⟨0, by omega, rfl, rfl, HS5⟩
  case round =>
    obtain ⟨j, hj, rfl, HI, HS⟩ := hrel
    have x1 := (HB.out.step HS.out id).cell 1
    simp at x1
    by_cases hlt : j < lo.length
    · have g1 : (j : Int) < (lo.length : Int) := by omega
      have i0 : (0 : Int) ≤ (j : Int) := by omega
      have hw1 := IntWalk.i64_in ((j : Int) + 1) (by omega)
      obtain ⟨bk, off, rfl, _, hbl, hc⟩ := st_cells loC 2 (by decide) (fun _ => rfl) (HL.out.step HS.out (fun _ _ => id)) hlt
      have hg := HBd.out lo[j] (List.getElem_mem hlt)
      have hI := HI.out
      rw [List.drop_eq_getElem_cons hlt, errT_cons] at hI
      generalize lo[j] = g at *
      obtain ⟨gn, gt⟩ := g
      have c0 := hc 0 _ rfl
      have c1 := hc 1 _ rfl
      simp only [Nat.add_zero] at c0
      simp only at c0 c1 hg hI
      have HV : Hid (∀ w, Calls Try.prog 163 #[.int .u8 (gt : Int)] w fun e w' => e = .returned (.int .i64 (valF gt : Nat)) ∧ w' = w) := fun w => value_walk w gt (by omega)
      obtain ⟨r, hr⟩ : ∃ r : Int, r = (valF gt : Nat) := ⟨_, rfl⟩
      rw [← hr] at HV
      by_cases hz : valF gt = 0
      · have hr0 : r = 0 := by omega
        rw [if_pos hz] at hI
        have HI2 := Lib.hid hI
        subst hr0
        clear hc hz hI HI hr
        go_wp2_with fail
        refine (HV.out _).mono ?_
        rintro e w6 ⟨rfl, hw6⟩
        subst w6
        go_wp2_with fail
        go_roundw
        case rel => exact ⟨j + 1, by omega, by rw [Int.natCast_add]; rfl, HI2, HS.out.alloc _⟩
        case measure => simp [intOf]; omega
      · have hne : ¬ r = 0 := by omega
        have hnb2 : (r != 0) = true := bne_iff_ne.2 hne
        rw [if_neg hz] at hI
        have HQ : Hid ((R : Int) = r) := by rw [Hid, HC.out, if_neg (by rw [← hI]; exact hz), ← hI, hr]
        clear hc hz hI HI hr
        go_wp2_with fail
        refine (HV.out _).mono ?_
        rintro e w6 ⟨rfl, hw6⟩
        subst w6
        go_wp2_with fail
        go_ret
        exact ⟨by rw [HQ.out]; rfl, (HT.out.trans HS.out).alloc _⟩
    · obtain rfl : j = lo.length := by omega
      have hI := HI.out
      rw [List.drop_length] at hI
      have HQ : Hid (R = shpF l) := by rw [Hid, HC.out, if_pos (by rw [← hI]; rfl)]
      clear hI
      go_wp2_with fail
      refine (shape_walk wr n c IA l S HN hnb HOp.out (HR.out.step HS.out (fun _ _ => id))).mono ?_
      rintro e w7 ⟨rfl, hS7⟩
      go_wp2_with fail
      go_ret
      exact ⟨by rw [HQ.out]; rfl, (HT.out.trans HS.out).trans hS7⟩
end Go.Proofs.Ytfemeendkjcffaa
/-! bodies: creelref14.Right, Put; bodies.Put. -/
namespace Go.Proofs.Ytfemeendkjcffaa
open Go.RowKit

def rgtC (lo : List (Nat × Nat)) (l : List Ig) : Nat := if shpC lo l = 0 then errI l else shpC lo l
theorem rgtC_zero {lo : List (Nat × Nat)} {l : List Ig} (h : rgtC lo l = 0) : locF lo 0 ≠ none ∧ errT lo = 0 ∧ shpF l = 0 ∧ errI l = 0 := by
  rw [rgtC] at h
  split at h
  · rename_i h1
    rw [shpC] at h1
    split at h1
    · cases h1
    · rename_i h2
      split at h1
      · rename_i h3; exact ⟨h2, h3, h1, h⟩
      · rename_i h3; exact absurd h1 h3
  · rename_i h1; exact absurd h h1
def putG (g : Nat × Nat) : List UInt8 := uintF g.1 ++ [UInt8.ofNat g.2]
theorem putG_len (g : Nat × Nat) : (putG g).length ≤ 11 := by
  have := num_len g.1
  rw [putG, List.length_append]
  simp
  omega
def putsG (U : List UInt8) (lo : List (Nat × Nat)) (j : Nat) : List UInt8 := U ++ (lo.take j).flatMap putG
theorem putsG_zero (U : List UInt8) (lo : List (Nat × Nat)) : putsG U lo 0 = U := by simp [putsG]
theorem putsG_succ (U : List UInt8) (lo : List (Nat × Nat)) (j : Nat) (h : j < lo.length) : putsG U lo (j + 1) = putsG U lo j ++ uintF lo[j].1 ++ [UInt8.ofNat lo[j].2] := by
  rw [putsG, List.take_succ_eq_append_getElem h, List.flatMap_append, putsG]
  simp [putG]
theorem putsG_all (U : List UInt8) (lo : List (Nat × Nat)) : putsG U lo lo.length = U ++ lo.flatMap putG := by rw [putsG, List.take_length]
theorem putsG_len (U : List UInt8) (lo : List (Nat × Nat)) (j : Nat) (hj : j ≤ lo.length) : (putsG U lo j).length ≤ U.length + 11 * j := by
  induction j with
  | zero => rw [putsG_zero]; omega
  | succ j ih =>
    rw [putsG_succ U lo j (by omega), List.append_assoc, List.length_append, show uintF lo[j].1 ++ [UInt8.ofNat lo[j].2] = putG lo[j] from rfl]
    have h1 := ih (by omega)
    have h2 := putG_len lo[j]
    omega
def inL (lo : List (Nat × Nat)) (l : List Ig) : List UInt8 := (uintF lo.length ++ lo.flatMap putG) ++ l.flatMap Ig.put
def putC (lo : List (Nat × Nat)) (l : List Ig) : List UInt8 := uintF (inL lo l).length ++ inL lo l
theorem inL_len (lo : List (Nat × Nat)) (l : List Ig) (hs : ∀ x ∈ l, x.L.length ≤ 100) : (inL lo l).length ≤ 10 + 11 * lo.length + 1031 * l.length := by
  have h1 := putsG_len (uintF lo.length) lo lo.length (Nat.le_refl _)
  have h2 := num_len lo.length
  have h3 := putsI_len (uintF lo.length ++ lo.flatMap putG) l l.length (Nat.le_refl _) (fun x hx => hs x (List.mem_of_mem_take hx))
  rw [putsG_all] at h1
  rw [putsI_all] at h3
  rw [inL]
  omega

set_option maxRecDepth 100000 in
set_option maxHeartbeats 3200000 in
theorem rright14_walk (w : World) (LA IA : Option Addr) (lc n c : Nat) (lo : List (Nat × Nat)) (l : List Ig) (S : Nat → Prop) (HN : Hid (n = l.length)) (hnb : n ≤ 1000) (hop : ∀ x ∈ l, x.op < 256) (hr : Reads w S 4 IA n (igs l)) (hl : Reads w S 2 LA lo.length (lo.flatMap loC)) (hb : ∀ g ∈ lo, g.1 < 4294967296 ∧ g.2 < 256) (hlo : lo.length ≤ 1000) :
    Calls Try.prog 120 #[.agg #[.slice LA lo.length lc, .slice IA n c]] w fun e w' => e = .returned (.int .i64 (rgtC lo l : Nat)) ∧ Step (fun _ => False) w w' := by
  have HG : Hid (∀ w', Step (fun _ => False) w w' → Calls Try.prog 123 #[.agg #[.slice LA lo.length lc, .slice IA n c]] w' fun e w'' => e = .returned (.int .i64 (shpC lo l : Nat)) ∧ Step (fun _ => False) w' w'') := fun w' h => rshape14_walk w' LA IA lc n c lo l S HN hnb (hr.step h (fun _ _ => id)) (hl.step h (fun _ _ => id)) hb (by omega)
  have HR := Lib.hid hr
  have HOp := Lib.hid hop
  obtain ⟨R, hR⟩ : ∃ R, R = rgtC lo l := ⟨_, rfl⟩
  rw [← hR]
  have HR0 := Lib.hid hR
  obtain ⟨q, hq⟩ : ∃ q, q = lo.length := ⟨_, rfl⟩
  rw [← hq] at HG ⊢
  obtain ⟨sh, hsh⟩ : ∃ sh : Int, sh = (shpC lo l : Nat) := ⟨_, rfl⟩
  rw [← hsh] at HG
  have HSh := Lib.hid hsh
  have HB := Lib.hid (Blk.new w 176 #[.slice LA q lc, .slice IA n c])
  have HT := Lib.hid (Step.refl.alloc (F := fun _ => False) (w := w) (.cells #[.slice LA q lc, .slice IA n c] 176))
  clear hR hq hr hl hb hop hsh
  go_enter Try.func120, Try.ntmps120
  go_wp2_with fail
  obtain ⟨W, hW⟩ : ∃ W, W = w.alloc (.cells #[.slice LA q lc, .slice IA n c] 176) := ⟨_, rfl⟩
  rw [← hW] at HB HT ⊢
  obtain ⟨X, hX⟩ : ∃ X, X = w.heap.size := ⟨_, rfl⟩
  rw [← hX] at HB ⊢
  clear hW hX
  have x0 := HB.out.cell 0
  have x1 := HB.out.cell 1
  simp at x0 x1
  go_wp2_with fail
  refine (HG.out _ HT.out).mono ?_
  rintro e w5 ⟨rfl, hS5⟩
  have HS5 := Lib.hid hS5
  clear x0 x1 hS5
  by_cases hz : sh = 0
  · have HE : Hid (R = errI l) := by rw [Hid, HR0.out, rgtC, if_pos (by have := HSh.out; omega)]
    subst hz
    go_wp2_with fail
    go_loopw [4] (fun iv wr => ∃ (j : Nat), j ≤ n ∧ iv = .int .i64 (j : Int) ∧ Hid (errI (l.take j) = 0) ∧ Hid (Step (fun _ => False) W wr)) (fun iv _ => n + 1 - (intOf iv).toNat)
    case atStart => exact ⟨0, by omega, rfl, rfl, HS5⟩
    case round =>
      obtain ⟨j, hj, rfl, HI, HS⟩ := hrel
      have x1 := (HB.out.step HS.out id).cell 1
      simp at x1
      by_cases hlt : j < n
      · have g1 : (j : Int) < (n : Int) := by omega
        have i0 : (0 : Int) ≤ (j : Int) := by omega
        have hw1 := IntWalk.i64_in ((j : Int) + 1) (by omega)
        have hjl : j < l.length := by rw [← HN.out]; exact hlt
        obtain ⟨bk, off, rfl, _, hbl, hc⟩ := reads_row Ig.cells 4 (by decide) Ig.four (HR.out.step (HT.out.trans HS.out) (fun _ _ => id)) (k := j) hjl
        have hx := HOp.out l[j] (List.getElem_mem hjl)
        have HET := Lib.hid (errI_take l j hjl)
        have HEA := Lib.hid (errI_of_take l (j + 1))
        obtain ⟨x, hxe⟩ : ∃ x, x = l[j] := ⟨_, rfl⟩
        rw [← hxe] at hx hc HET
        clear hxe
        obtain ⟨op, a, b, m, cc, B1, L⟩ := x
        have c0 := hc 0 _ rfl
        have c1 := hc 1 _ rfl
        have c2 := hc 2 _ rfl
        have c3 := hc 3 _ rfl
        simp only [Nat.add_zero] at c0
        simp only [Ig.err] at HET
        simp only at hx c0 c1 c2 c3
        have HRt := Lib.hid (fun w => rright_walk w op a b m cc B1 hx)
        simp only [insV] at HRt
        obtain ⟨r, hr⟩ : ∃ r : Int, r = (rgtF op a b m : Nat) := ⟨_, rfl⟩
        rw [← hr] at HRt
        by_cases hz : rgtF op a b m = 0
        · have HE2 : Hid (errI (l.take (j + 1)) = 0) := by rw [Hid, HET.out, if_pos HI.out]; exact hz
          have hr0 : r = 0 := by omega
          subst hr0
          clear hr hz HET HEA hc
          go_wp2_with fail
          refine (HRt.out _).mono ?_
          rintro e w8 ⟨rfl, hS8⟩
          go_wp2_with fail
          go_roundw
          case rel => exact ⟨j + 1, by omega, by rw [Int.natCast_add]; rfl, HE2, HS.out.trans hS8⟩
          case measure => simp [intOf]; omega
        · have hne : ¬ r = 0 := by omega
          have hnb2 : (r != 0) = true := bne_iff_ne.2 hne
          have HQ : Hid ((R : Int) = r) := by
            have h5 : errI (l.take (j + 1)) = rgtF op a b m := by rw [HET.out, if_pos HI.out]
            rw [Hid, HE.out, HEA.out (by rw [h5]; exact hz), h5, hr]
          clear hr hz HET HEA hc
          go_wp2_with fail
          refine (HRt.out _).mono ?_
          rintro e w8 ⟨rfl, hS8⟩
          go_wp2_with fail
          go_ret
          exact ⟨by rw [HQ.out]; rfl, (HT.out.trans HS.out).trans hS8⟩
      · obtain rfl : j = n := by omega
        have hI := HI.out
        rw [show l.take j = l by rw [HN.out]; exact List.take_length] at hI
        have HQ : Hid (R = 0) := by rw [Hid, HE.out, hI]
        clear hI
        go_wp2_with fail
        go_ret
        exact ⟨by rw [HQ.out]; rfl, HT.out.trans HS.out⟩
  · have hnb2 : (sh != 0) = true := bne_iff_ne.2 hz
    have HQ : Hid ((R : Int) = sh) := by rw [Hid, HR0.out, rgtC, if_neg (by have := HSh.out; omega), HSh.out]
    clear HSh
    go_wp2_with fail
    go_ret
    exact ⟨by rw [HQ.out]; rfl, HT.out.trans HS5.out⟩
end Go.Proofs.Ytfemeendkjcffaa
/-! bodies: creelref14.Put. -/
namespace Go.Proofs.Ytfemeendkjcffaa
open Go.RowKit

set_option maxRecDepth 100000 in
set_option maxHeartbeats 6400000 in
theorem rput14_walk (w : World) (LA IA : Option Addr) (lc n c : Nat) (lo : List (Nat × Nat)) (l : List Ig) (S : Nat → Prop) (HN : Hid (n = l.length)) (hnb : n ≤ 100) (hwf : ∀ x ∈ l, x.wf) (hsm : ∀ x ∈ l, x.L.length ≤ 100) (hin : ∀ x ∈ l, x.L.length = x.n ∧ (∀ y ∈ x.L, y < 4294967296) ∧ Reads w S 1 x.A x.n (u32s x.L)) (hr : Reads w S 4 IA n (igs l)) (hl : Reads w S 2 LA lo.length (lo.flatMap loC)) (hb : ∀ g ∈ lo, g.1 < 4294967296 ∧ g.2 < 256) (hlo : lo.length ≤ 1000) (he : errI l = 0) :
    Calls Try.prog 127 #[.agg #[.slice LA lo.length lc, .slice IA n c]] w fun e w' => e = .returned (.string (str (putC lo l))) ∧ Step (fun _ => False) w w' := by
  have hwr0 : putsI (putsG (uintF lo.length) lo lo.length) l n = inL lo l := by rw [HN.out, putsI_all, putsG_all, inL]
  have hlen := inL_len lo l hsm
  rw [← HN.out] at hlen
  have HR := Lib.hid (hr.step (Step.refl.alloc (F := fun _ => False) (.cells #[.slice LA lo.length lc, .slice IA n c] 176)) (fun _ _ => id))
  have HL := Lib.hid (hl.step (Step.refl.alloc (F := fun _ => False) (.cells #[.slice LA lo.length lc, .slice IA n c] 176)) (fun _ _ => id))
  have HB := Lib.hid (Blk.new w 176 #[.slice LA lo.length lc, .slice IA n c])
  have HT := Lib.hid (Step.refl.alloc (F := fun _ => False) (w := w) (.cells #[.slice LA lo.length lc, .slice IA n c] 176))
  have HBd := Lib.hid hb
  have HWF := Lib.hid hwf
  have HSM := Lib.hid hsm
  have HIN := Lib.hid hin
  have HE := Lib.hid (errI_all l he)
  obtain ⟨Y, hY⟩ : ∃ Y, Y = inL lo l := ⟨_, rfl⟩
  have HZ : Hid (str (uintF Y.length) ++ str Y = str (putC lo l)) := by rw [Hid, str_append, putC, ← hY]
  rw [← hY] at hwr0 hlen
  have HY := Lib.hid hwr0
  have hlU := num_len lo.length
  have HCU := Lib.hid (fun w => rcount_walk w lo.length (by omega))
  obtain ⟨U, hU⟩ : ∃ U, U = uintF lo.length := ⟨_, rfl⟩
  rw [← hU] at hlU HCU HY
  clear hr hl hb hwf hsm hin hY hU hwr0 he
  go_enter Try.func127, Try.ntmps127
  go_wp2_with fail
  obtain ⟨W, hW⟩ : ∃ W, W = w.alloc (.cells #[.slice LA lo.length lc, .slice IA n c] 176) := ⟨_, rfl⟩
  rw [← hW] at HR HB HT HL ⊢
  obtain ⟨X, hX⟩ : ∃ X, X = w.heap.size := ⟨_, rfl⟩
  rw [← hX] at HB ⊢
  clear hW hX
  refine (HCU.out _).mono ?_
  rintro e w5 ⟨rfl, hS5⟩
  have HS5 := Lib.hid hS5
  have hU0 : Hid (str U = str (putsG U lo 0)) := by rw [Hid, putsG_zero]
  clear hS5 HCU
  go_wp2_with fail
  go_loopw [3, 4] (fun sv iv wr => ∃ (j : Nat), j ≤ lo.length ∧ sv = .string (str (putsG U lo j)) ∧ iv = .int .i64 (j : Int) ∧ Hid (Step (fun _ => False) W wr)) (fun _ iv _ => lo.length + 1 - (intOf iv).toNat)
  case atStart => exact ⟨0, by omega, by rw [hU0.out], rfl, HS5⟩
  case round =>
    obtain ⟨j, hj, rfl, rfl, HS⟩ := hrel
    have x0 := (HB.out.step HS.out id).cell 0
    have x1 := (HB.out.step HS.out id).cell 1
    simp at x0 x1
    by_cases hlt : j < lo.length
    · have g1 : (j : Int) < (lo.length : Int) := by omega
      have i0 : (0 : Int) ≤ (j : Int) := by omega
      have hw1 := IntWalk.i64_in ((j : Int) + 1) (by omega)
      obtain ⟨bk, off, rfl, _, hbl, hc⟩ := st_cells loC 2 (by decide) (fun _ => rfl) (HL.out.step HS.out (fun _ _ => id)) hlt
      have hg := HBd.out lo[j] (List.getElem_mem hlt)
      have hps := putsG_succ U lo j hlt
      have hpl := putsG_len U lo j (by omega)
      generalize lo[j] = g at *
      obtain ⟨gn, gt⟩ := g
      have c0 := hc 0 _ rfl
      have c1 := hc 1 _ rfl
      simp only [Nat.add_zero] at c0
      simp only at c0 c1 hg hps
      have hw2 := IntWalk.i64_in (gn : Int) (by omega)
      have hgl := num_len gn
      have HC := Lib.hid (fun w => rcount_walk w gn (by omega))
      obtain ⟨V1, hV1⟩ : ∃ V1, V1 = uintF gn := ⟨_, rfl⟩
      rw [← hV1] at HC hps hgl
      obtain ⟨P, hP⟩ : ∃ P, P = putsG U lo j := ⟨_, rfl⟩
      rw [← hP] at hps hpl ⊢
      have hs1 := str_size P
      have hs2 := str_size V1
      have hs3 : (str [UInt8.ofNat gt]).size = 1 := rfl
      have hs4 := str_size (P ++ V1)
      rw [List.length_append] at hs4
      have ha1 : str P ++ str V1 = str (P ++ V1) := str_append _ _
      have ha2 : str (P ++ V1) ++ str [UInt8.ofNat gt] = str (P ++ V1 ++ [UInt8.ofNat gt]) := str_append _ _
      have HP := Lib.hid hps
      have HCv : Hid (∀ (V V' : World), Step (fun _ => False) (V.alloc (.cells #[.int .u8 (gt : Int)] 5)) V' → (convert 53 9 (.slice (some ⟨V.heap.size, 0, none⟩) 1 1)).run Try.prog V' = .ok (.string (str [UInt8.ofNat gt])) V') := fun V V' hs => by
        refine conv_bytes (S := fun k => k = V.heap.size) ?_
        rw [byte_cell gt (by omega)]
        exact (reads_new V #[Value.int .u8 (gt : Int)] 5 1 1 rfl).step hs (fun _ _ => id)
      obtain ⟨P2, hP2⟩ : ∃ P2, P2 = P ++ V1 := ⟨_, rfl⟩
      rw [← hP2] at hs4 ha1 ha2 HP
      obtain ⟨P3, hP3⟩ : ∃ P3, P3 = P2 ++ [UInt8.ofNat gt] := ⟨_, rfl⟩
      rw [← hP3] at ha2 HP
      clear hc hP hV1 hps hP2 hP3
      have d0 := cls_cell (F := fun _ => False) (w0 := wr) x0 id
      have d2 := cls_cell (F := fun _ => False) (w0 := wr) c0 id
      have d3 := cls_cell (F := fun _ => False) (w0 := wr) c1 id
      go_wp2_with fail
      clear x0 x1 c0 c1
      refine Mxt.wp_region_tree [8, 16, 17] [8, 16, 17] (.reads [0, 1, 2, 3, 4, 5, 6, 7, 10, 11, 12, 13, 14, 15] (.fork (.op 8 (.op 16 (.op 17 (.reads [9, 18, 19] .leaf)))) (.op 16 (.fork (.op 8 (.op 17 (.reads [9, 18, 19] .leaf))) (.op 17 (.op 8 (.reads [9, 18, 19] .leaf))))))) (Step (fun _ => False) wr) (by kernel_rfl) (by kernel_rfl) Step.refl.drew (fun hcls => ?_)
      refine Mxt.wpTL_reads ?_
      simp only [List.flatMap_cons, List.flatMap_nil, List.getElem?_cons_succ, List.getElem?_cons_zero, Option.toList_some, List.cons_append, List.nil_append]
      repeat (go_big_quiet_step (fail))
      refine wpQuiet_nil ?_
      refine Mxt.wpTL_fork ?_ ?_
      · refine Mxt.wpTL_op (by rfl) (fun K hK => ?_)
        go_simp
        refine (HC.out _).mono ?_
        rintro e wa ⟨rfl, hSa⟩
        have HSa := Lib.hid ((Step.refl.drew).trans hSa)
        refine hK _ _ (fun hlt => Mix.cl HSa.out) ?_
        clear hK K
        refine Mxt.wpTL_op (by rfl) (fun K hK => ?_)
        go_simp
        refine hK _ _ (fun hlt => Mix.cl ((HSa.out).alloc _)) ?_
        clear hK K
        have hcv := HCv.out wa _ (Step.refl)
        refine Mxt.wpTL_op (by rfl) (fun K hK => ?_)
        go_simp
        refine hK _ _ (fun hlt => Mix.cl (HSa.out.alloc _)) ?_
        clear hK K hcv
        refine Mxt.wpTL_reads ?_
        simp only [List.flatMap_cons, List.flatMap_nil, List.getElem?_cons_succ, List.getElem?_cons_zero, Option.toList_some, List.cons_append, List.nil_append]
        repeat (go_big_quiet_step (fail))
        refine wpQuiet_nil ?_
        refine Mxt.wpTL_leaf ?_
        go_wp2_with fail
        go_roundw
        case rel => exact ⟨j + 1, by omega, by rw [HP.out], by rw [Int.natCast_add]; rfl, HS.out.trans (HSa.out.alloc _)⟩
        case measure => simp [intOf]; omega
      · refine Mxt.wpTL_op (by rfl) (fun K hK => ?_)
        go_simp
        refine hK _ _ (fun hlt => Mix.cl ((Step.refl.drew).alloc _)) ?_
        clear hK K
        refine Mxt.wpTL_fork ?_ ?_
        · refine Mxt.wpTL_op (by rfl) (fun K hK => ?_)
          go_simp
          refine (HC.out _).mono ?_
          rintro e wa ⟨rfl, hSa⟩
          have HSa := Lib.hid (((Step.refl.alloc _).drew).trans hSa)
          refine hK _ _ (fun hlt => Mix.cl HSa.out) ?_
          clear hK K
          have hcv := HCv.out wr _ ((Step.refl.drew).trans hSa)
          refine Mxt.wpTL_op (by rfl) (fun K hK => ?_)
          go_simp
          refine hK _ _ (fun hlt => Mix.cl (HSa.out)) ?_
          clear hK K hcv
          refine Mxt.wpTL_reads ?_
          simp only [List.flatMap_cons, List.flatMap_nil, List.getElem?_cons_succ, List.getElem?_cons_zero, Option.toList_some, List.cons_append, List.nil_append]
          repeat (go_big_quiet_step (fail))
          refine wpQuiet_nil ?_
          refine Mxt.wpTL_leaf ?_
          go_wp2_with fail
          go_roundw
          case rel => exact ⟨j + 1, by omega, by rw [HP.out], by rw [Int.natCast_add]; rfl, HS.out.trans (HSa.out)⟩
          case measure => simp [intOf]; omega
        · have hcv := HCv.out wr _ (Step.refl.drew)
          refine Mxt.wpTL_op (by rfl) (fun K hK => ?_)
          go_simp
          refine hK _ _ (fun hlt => Mix.cl ((Step.refl.alloc _).drew)) ?_
          clear hK K hcv
          refine Mxt.wpTL_op (by rfl) (fun K hK => ?_)
          go_simp
          refine (HC.out _).mono ?_
          rintro e wa ⟨rfl, hSa⟩
          have HSa := Lib.hid (((Step.refl.alloc _).drew).trans hSa)
          refine hK _ _ (fun hlt => Mix.cl HSa.out) ?_
          clear hK K
          refine Mxt.wpTL_reads ?_
          simp only [List.flatMap_cons, List.flatMap_nil, List.getElem?_cons_succ, List.getElem?_cons_zero, Option.toList_some, List.cons_append, List.nil_append]
          repeat (go_big_quiet_step (fail))
          refine wpQuiet_nil ?_
          refine Mxt.wpTL_leaf ?_
          go_wp2_with fail
          go_roundw
          case rel => exact ⟨j + 1, by omega, by rw [HP.out], by rw [Int.natCast_add]; rfl, HS.out.trans (HSa.out)⟩
          case measure => simp [intOf]; omega
    · obtain rfl : j = lo.length := by omega
      obtain ⟨V, hV⟩ : ∃ V, V = putsG U lo lo.length := ⟨_, rfl⟩
      rw [← hV] at HY ⊢
      have hVl := putsG_len U lo lo.length (by omega)
      rw [← hV] at hVl
      have hV0 : Hid (str V = str (putsI V l 0)) := by rw [Hid, putsI_zero]
      clear hV hU0
      go_wp2_with fail
      clear x0 x1
      go_loopw [3, 5] (fun sv iv wq => ∃ (i : Nat), i ≤ n ∧ sv = .string (str (putsI V l i)) ∧ iv = .int .i64 (i : Int) ∧ Hid (Step (fun _ => False) W wq)) (fun _ iv _ => n + 1 - (intOf iv).toNat)
      case atStart => exact ⟨0, by omega, by rw [hV0.out], rfl, HS⟩
      case round =>
        obtain ⟨i, hi, rfl, rfl, HSq⟩ := hrel
        have x1 := (HB.out.step HSq.out id).cell 1
        simp at x1
        have hql := putsI_len V l i (by rw [← HN.out]; exact hi) (fun x hx => HSM.out x (List.mem_of_mem_take hx))
        by_cases hlt2 : i < n
        · have g1 : (i : Int) < (n : Int) := by omega
          have i0 : (0 : Int) ≤ (i : Int) := by omega
          have hw1 := IntWalk.i64_in ((i : Int) + 1) (by omega)
          have hil : i < l.length := by rw [← HN.out]; exact hlt2
          obtain ⟨bk, off, rfl, _, hbl, hc⟩ := reads_row Ig.cells 4 (by decide) Ig.four (HR.out.step HSq.out (fun _ _ => id)) (k := i) hil
          have hx := HWF.out l[i] (List.getElem_mem hil)
          have hds := HSM.out l[i] (List.getElem_mem hil)
          have hin := HIN.out l[i] (List.getElem_mem hil)
          have hez := HE.out l[i] (List.getElem_mem hil)
          have HP := Lib.hid (putsI_succ V l i hil)
          obtain ⟨x, hxe⟩ : ∃ x, x = l[i] := ⟨_, rfl⟩
          rw [← hxe] at hx hc hin HP hds hez
          clear hxe
          obtain ⟨op, a, b, m, cc, B1, L⟩ := x
          have c0 := hc 0 _ rfl
          have c1 := hc 1 _ rfl
          have c2 := hc 2 _ rfl
          have c3 := hc 3 _ rfl
          simp only [Nat.add_zero] at c0
          obtain ⟨h1, h2⟩ := hx
          simp only [Ig.err, Ig.put] at HP hez
          simp only at h1 h2 hin hds c0 c1 c2 c3
          obtain ⟨hin1, hin2, hin3⟩ := hin
          have HFM : Hid (m = L.length) := hin1.symm
          have HPt := Lib.hid (fun w' (h' : Step (fun _ => False) w w') => rput_all w' op a b cc B1 L S (by have := hin3.step h' (fun _ _ => id); rw [HFM.out] at this; exact this) h1 h2 hin2 (by rw [← HFM.out]; exact hez))
          rw [← HFM.out] at HPt
          have hgl := igput_len op a b L hds
          obtain ⟨V2, hV2⟩ : ∃ V2, V2 = putL op a b L := ⟨_, rfl⟩
          rw [← hV2] at HPt hgl HP
          have hz2' := str_size V2
          have hz3 := str_size (putsI V l i)
          have hap : str (putsI V l i) ++ str V2 = str (putsI V l (i + 1)) := by rw [HP.out]; exact str_append _ _
          clear hV2 HP hc hin1 hin2 hin3 hez
          go_wp2_with fail
          refine (HPt.out _ (HT.out.trans HSq.out)).mono ?_
          rintro e w9 ⟨rfl, hS9⟩
          go_wp2_with fail
          go_roundw
          case rel => exact ⟨i + 1, by omega, rfl, by rw [Int.natCast_add]; rfl, HSq.out.trans hS9⟩
          case measure => simp [intOf]; omega
        · obtain rfl : i = n := by omega
          have hy : putsI V l i = Y := HY.out
          rw [hy] at hql ⊢
          have hw3 := IntWalk.i64_in (Y.length : Int) (by omega)
          have HCY := Lib.hid (fun w => rcount_walk w Y.length (by omega))
          have hgl := num_len Y.length
          obtain ⟨Q, hQ⟩ : ∃ Q, Q = uintF Y.length := ⟨_, rfl⟩
          rw [← hQ] at HCY hgl HZ
          have hz1 := str_size Y
          have hz2 := str_size Q
          have hap := HZ.out
          clear hQ hy HY
          go_wp2_with fail
          refine (HCY.out _).mono ?_
          rintro e w9 ⟨rfl, hS9⟩
          go_wp2_with fail
          go_ret
          exact ⟨rfl, (HT.out.trans HSq.out).trans hS9⟩
end Go.Proofs.Ytfemeendkjcffaa
/-! bodies: Put. -/
namespace Go.Proofs.Ytfemeendkjcffaa
open Go.RowKit

set_option maxRecDepth 100000 in
set_option maxHeartbeats 3200000 in
theorem bput_err (w : World) (LA IA : Option Addr) (lc n c : Nat) (lo : List (Nat × Nat)) (l : List Ig) (S : Nat → Prop) (HN : Hid (n = l.length)) (hnb : n ≤ 100) (hwf : ∀ x ∈ l, x.wf) (hsm : ∀ x ∈ l, x.L.length ≤ 100) (hin : ∀ x ∈ l, x.L.length = x.n ∧ (∀ y ∈ x.L, y < 4294967296) ∧ Reads w S 1 x.A x.n (u32s x.L)) (hr : Reads w S 4 IA n (igs l)) (hl : Reads w S 2 LA lo.length (lo.flatMap loC)) (hb : ∀ g ∈ lo, g.1 < 4294967296 ∧ g.2 < 256) (hlo : lo.length ≤ 1000) (hz : ¬ rgtC lo l = 0) :
    Calls Try.prog 121 #[.agg #[.slice LA lo.length lc, .slice IA n c]] w fun e w' => e = .returned (.tuple #[.slice none 0 0, .int .i64 (rgtC lo l : Nat)]) ∧ Step (fun _ => False) w w' := by
  have HG : Hid (∀ w', Step (fun _ => False) w w' → Calls Try.prog 122 #[.agg #[.slice LA lo.length lc, .slice IA n c]] w' fun e w'' => e = .returned (.int .i64 (shpC lo l : Nat)) ∧ Step (fun _ => False) w' w'') := fun w' h => bright_walk w' LA IA lc n c lo l S HN (by omega) (fun x hx => (hwf x hx).1) (hr.step h (fun _ _ => id)) (hl.step h (fun _ _ => id)) hb (by omega)
  obtain ⟨R, hR⟩ : ∃ R, R = rgtC lo l := ⟨_, rfl⟩
  rw [← hR] at hz ⊢
  have HR0 := Lib.hid hR
  have HP : Hid (shpC lo l = 0 → ∀ w', Step (fun _ => False) w w' → Calls Try.prog 61 #[.slice IA n c] w' fun e w'' => e = .returned (.tuple #[.slice none 0 0, .int .i64 (R : Nat)]) ∧ Step (fun _ => False) w' w'') := fun h0 w' h => by
    have he : R = errI l := by rw [hR, rgtC, if_pos h0]
    refine (pbody_walk w' n c IA l S HN (by omega) hwf hsm (fun x hx => ⟨(hin x hx).1, (hin x hx).2.1, (hin x hx).2.2.step h (fun _ _ => id)⟩) (hr.step h (fun _ _ => id)) ?_).mono ?_
    · rw [shpC] at h0
      split at h0
      · cases h0
      · rename_i h1
        split at h0
        · exact h0
        · rename_i h2; exact absurd h0 h2
    · rintro e w'' ⟨hS, ⟨_, rfl⟩ | ⟨h1, _⟩⟩
      · exact ⟨by rw [he], hS⟩
      · exact absurd (he.trans h1) hz
  obtain ⟨q, hq⟩ : ∃ q, q = lo.length := ⟨_, rfl⟩
  rw [← hq] at HG ⊢
  obtain ⟨sh, hsh⟩ : ∃ sh : Int, sh = (shpC lo l : Nat) := ⟨_, rfl⟩
  rw [← hsh] at HG
  have HSh := Lib.hid hsh
  have HB := Lib.hid (Blk.new w 176 #[.slice LA q lc, .slice IA n c])
  have HT := Lib.hid (Step.refl.alloc (F := fun _ => False) (w := w) (.cells #[.slice LA q lc, .slice IA n c] 176))
  have hRn : ((R : Int) != 0) = true := bne_iff_ne.2 (by omega)
  clear hR hq hr hl hb hsh hwf hsm hin
  go_enter Try.func121, Try.ntmps121
  go_wp2_with fail
  obtain ⟨W, hW⟩ : ∃ W, W = w.alloc (.cells #[.slice LA q lc, .slice IA n c] 176) := ⟨_, rfl⟩
  rw [← hW] at HB HT ⊢
  obtain ⟨X, hX⟩ : ∃ X, X = w.heap.size := ⟨_, rfl⟩
  rw [← hX] at HB ⊢
  clear hW hX
  have x0 := HB.out.cell 0
  have x1 := HB.out.cell 1
  simp at x0 x1
  go_wp2_with fail
  refine (HG.out _ HT.out).mono ?_
  rintro e w5 ⟨rfl, hS5⟩
  have HS5 := Lib.hid hS5
  have x1' := (HB.out.step hS5 id).cell 1
  simp at x1'
  clear x0 x1 hS5
  by_cases h0 : sh = 0
  · have HP2 := Lib.hid (HP.out (by have := HSh.out; omega))
    subst h0
    clear HP HSh
    go_wp2_with fail
    refine (HP2.out _ (HT.out.trans HS5.out)).mono ?_
    rintro e w6 ⟨rfl, hS6⟩
    go_wp2_with fail
    go_ret2
    exact ⟨rfl, (HT.out.trans HS5.out).trans hS6⟩
  · have hnb2 : (sh != 0) = true := bne_iff_ne.2 h0
    have HQ : Hid ((R : Int) = sh) := by rw [Hid, HR0.out, rgtC, if_neg (by have := HSh.out; omega), HSh.out]
    clear HSh HP
    go_wp2_with fail
    go_ret2
    exact ⟨by rw [HQ.out]; rfl, HT.out.trans HS5.out⟩

set_option maxRecDepth 100000 in
set_option maxHeartbeats 6400000 in
theorem bput_walk (w : World) (LA IA : Option Addr) (lc n c : Nat) (lo : List (Nat × Nat)) (l : List Ig) (S : Nat → Prop) (HN : Hid (n = l.length)) (hnb : n ≤ 100) (hwf : ∀ x ∈ l, x.wf) (hsm : ∀ x ∈ l, x.L.length ≤ 100) (hin : ∀ x ∈ l, x.L.length = x.n ∧ (∀ y ∈ x.L, y < 4294967296) ∧ Reads w S 1 x.A x.n (u32s x.L)) (hr : Reads w S 4 IA n (igs l)) (hl : Reads w S 2 LA lo.length (lo.flatMap loC)) (hb : ∀ g ∈ lo, g.1 < 4294967296 ∧ g.2 < 256) (hlo : lo.length ≤ 1000) (hz : rgtC lo l = 0) :
    Calls Try.prog 121 #[.agg #[.slice LA lo.length lc, .slice IA n c]] w fun e w' => ∃ D c', e = .returned (.tuple #[.slice D (putC lo l).length c', .int .i64 0]) ∧ w'.ownsRow w.heap.size 5 1 (.slice D (putC lo l).length c') (putC lo l).length (u8s (putC lo l)) ∧ Step (fun _ => False) w w' := by
  obtain ⟨hz1, hz2, hz3, hz4⟩ := rgtC_zero hz
  have HG : Hid (∀ w', Step (fun _ => False) w w' → Calls Try.prog 122 #[.agg #[.slice LA lo.length lc, .slice IA n c]] w' fun e w'' => e = .returned (.int .i64 0) ∧ Step (fun _ => False) w' w'') := fun w' h => by
    have h5 := bright_walk w' LA IA lc n c lo l S HN (by omega) (fun x hx => (hwf x hx).1) (hr.step h (fun _ _ => id)) (hl.step h (fun _ _ => id)) hb (by omega)
    rw [show shpC lo l = 0 by rw [shpC, if_neg hz1, if_pos hz2, hz3]] at h5
    exact h5
  have HPB : Hid (∀ w', Step (fun _ => False) w w' → Calls Try.prog 61 #[.slice IA n c] w' fun e w'' => ∃ D c', e = .returned (.tuple #[.slice D (putsI [] l n).length c', .int .i64 0]) ∧ w''.ownsRow w'.heap.size 5 1 (.slice D (putsI [] l n).length c') (putsI [] l n).length (u8s (putsI [] l n)) ∧ Step (fun _ => False) w' w'') := fun w' h => by
    refine (pbody_walk w' n c IA l S HN (by omega) hwf hsm (fun x hx => ⟨(hin x hx).1, (hin x hx).2.1, (hin x hx).2.2.step h (fun _ _ => id)⟩) (hr.step h (fun _ _ => id)) hz3).mono ?_
    rintro e w'' ⟨hS, ⟨h1, _⟩ | ⟨_, D, c', rfl, hown⟩⟩
    · exact absurd hz4 h1
    · exact ⟨D, c', rfl, hown, hS⟩
  have hlen := inL_len lo l hsm
  rw [← HN.out] at hlen
  have hpI : putsI [] l n = l.flatMap Ig.put := by rw [HN.out, putsI_all, List.nil_append]
  obtain ⟨Bd, hBd⟩ : ∃ Bd, Bd = l.flatMap Ig.put := ⟨_, rfl⟩
  rw [hpI, ← hBd] at HPB
  have HInl : Hid (putsG (uintF lo.length) lo lo.length ++ Bd = inL lo l) := by rw [Hid, putsG_all, hBd, inL]
  obtain ⟨Y, hY⟩ : ∃ Y, Y = inL lo l := ⟨_, rfl⟩
  have hPC : putC lo l = uintF Y.length ++ Y := by rw [putC, ← hY]
  rw [← hY] at HInl hlen
  obtain ⟨Z, hZ⟩ : ∃ Z, Z = putC lo l := ⟨_, rfl⟩
  rw [← hZ] at hPC ⊢
  have HPC := Lib.hid hPC
  have HBd := Lib.hid hb
  have hlU := num_len lo.length
  have HCU := Lib.hid (fun w => uint_walk w lo.length (by omega))
  obtain ⟨U, hU⟩ : ∃ U, U = uintF lo.length := ⟨_, rfl⟩
  rw [← hU] at hlU HCU HInl
  have HL := Lib.hid hl
  have HB := Lib.hid (Blk.new w 176 #[.slice LA lo.length lc, .slice IA n c])
  have HT := Lib.hid (Step.refl.alloc (F := fun _ => False) (w := w) (.cells #[.slice LA lo.length lc, .slice IA n c] 176))
  have hwU := IntWalk.u64_in (lo.length : Int) (by omega)
  clear hr hl hb hwf hsm hin hU hz hz1 hz2 hz3 hz4 hpI hBd hY hPC hZ
  go_enter Try.func121, Try.ntmps121
  go_wp2_with fail
  obtain ⟨W, hW⟩ : ∃ W, W = w.alloc (.cells #[.slice LA lo.length lc, .slice IA n c] 176) := ⟨_, rfl⟩
  rw [← hW] at HB HT ⊢
  obtain ⟨X, hX⟩ : ∃ X, X = w.heap.size := ⟨_, rfl⟩
  rw [← hX] at HB ⊢
  have HX := Lib.hid hX
  clear hW hX
  have x0 := HB.out.cell 0
  have x1 := HB.out.cell 1
  simp at x0 x1
  go_wp2_with fail
  refine (HG.out _ HT.out).mono ?_
  rintro e w5 ⟨rfl, hS5⟩
  have HS5 := Lib.hid (HT.out.trans hS5)
  have HB5 := Lib.hid (HB.out.step hS5 id)
  clear x0 x1 hS5
  have x1 := HB5.out.cell 1
  simp at x1
  go_wp2_with fail
  refine (HPB.out _ HS5.out).mono ?_
  rintro e w6 ⟨D6, c6, rfl, hown6, hS6⟩
  have HO6 := Lib.hid (own_base hown6 (base' := w.heap.size) (fun q hq => Nat.le_trans HS5.out.size (own_ge hown6 q hq)))
  have HS6 := Lib.hid (HS5.out.trans hS6)
  have HB6 := Lib.hid (HB5.out.step hS6 id)
  clear x1 hS6 hown6 HB5 HS5 HPB HG HT HB
  have x0 := HB6.out.cell 0
  simp at x0
  go_wp2_with fail
  refine (HCU.out _).mono ?_
  rintro e w7 ⟨D7, c7, rfl, hown7, hS7⟩
  have HO7 : Hid (w7.ownsRow w.heap.size 5 1 (.slice D7 (putsG U lo 0).length c7) (putsG U lo 0).length (u8s (putsG U lo 0))) := by rw [Hid, putsG_zero]; exact own_base hown7 (base' := w.heap.size) (fun q hq => Nat.le_trans HS6.out.size (own_ge hown7 q hq))
  have HB7 := Lib.hid (HB6.out.step hS7 id)
  have HP7 := Lib.hid (own_step HO6.out hS7 (fun _ _ => id))
  have HS7 := Lib.hid (HS6.out.trans hS7)
  have hD67 : ∀ q, Value.ownBlock (.slice D6 Bd.length c6) = some q → blkOf D7 ≠ some q := fun q hq e => by
    have h1 := own_lt HO6.out q hq
    have h2 := own_ge hown7 q (by rw [ownBlock_slice]; exact e)
    omega
  rw [show U.length = (putsG U lo 0).length by rw [putsG_zero]]
  clear x0 hS7 hown7 HB6 HS6 HO6 HCU
  have x0 := HB7.out.cell 0
  simp at x0
  go_wp2_with fail
  clear x0
  go_loopw [7, 32] (fun ov iv wr => ∃ (j c2 : Nat) (D2 : Option Addr), j ≤ lo.length ∧ ov = .slice D2 (putsG U lo j).length c2 ∧ iv = .int .i64 (j : Int) ∧ Hid (Step (fun _ => False) w wr) ∧ Hid (wr.ownsRow w.heap.size 5 1 (.slice D6 Bd.length c6) Bd.length (u8s Bd)) ∧ Hid (∀ q, Value.ownBlock (.slice D6 Bd.length c6) = some q → blkOf D2 ≠ some q) ∧
    Hid (wr.ownsRow w.heap.size 5 1 (.slice D2 (putsG U lo j).length c2) (putsG U lo j).length (u8s (putsG U lo j)))) (fun _ iv _ => lo.length + 1 - (intOf iv).toNat)
  case atStart => exact ⟨0, c7, D7, by omega, rfl, rfl, HS7, HP7, hD67, HO7⟩
  case round =>
    obtain ⟨j, c2, D2, hj, rfl, rfl, HS0, HP0, HD6, HO0⟩ := hrel
    have hpl := putsG_len U lo j hj
    by_cases hlt : j < lo.length
    · have g1 : (j : Int) < (lo.length : Int) := by omega
      have i0 : (0 : Int) ≤ (j : Int) := by omega
      have hw1 := IntWalk.i64_in ((j : Int) + 1) (by omega)
      obtain ⟨bk, off, rfl, _, hbl, hc⟩ := st_cells loC 2 (by decide) (fun _ => rfl) (HL.out.step HS0.out (fun _ _ => id)) hlt
      have hg := HBd.out lo[j] (List.getElem_mem hlt)
      have hps := putsG_succ U lo j hlt
      generalize lo[j] = g at *
      obtain ⟨gn, gt⟩ := g
      have c0 := hc 0 _ rfl
      have c1 := hc 1 _ rfl
      simp only [Nat.add_zero] at c0
      simp only at c0 c1 hg hps
      have hw2 := IntWalk.u64_in (gn : Int) (by omega)
      have hgl := num_len gn
      obtain ⟨V1, hV1⟩ : ∃ V1, V1 = uintF gn := ⟨_, rfl⟩
      rw [← hV1] at hps hgl
      have HV1 : Hid (uintF gn = V1) := hV1.symm
      obtain ⟨P, hP⟩ : ∃ P, P = putsG U lo j := ⟨_, rfl⟩
      rw [← hP] at hps hpl HO0 ⊢
      have hone1 : ∀ u ∈ u8s V1, u.oneCell' = true := u8s_one V1
      have hone2 : ∀ u ∈ #[Value.int .u8 (gt : Int)].toList, u.oneCell' = true := by simp [Value.oneCell']
      have hm1 : P.length + V1.length ≤ maxLen := by unfold maxLen; omega
      have hm2 : P.length + V1.length + 1 ≤ maxLen := by unfold maxLen; omega
      have HCS : Hid (u8s P ++ u8s V1 ++ #[Value.int .u8 (gt : Int)].toList = u8s (putsG U lo (j + 1))) := by rw [Hid, hps, u8s_append, u8s_append, byte_cell gt (by omega)]
      have HLN : Hid (P.length + V1.length + 1 = (putsG U lo (j + 1)).length) := by rw [Hid, hps]; simp; omega
      have HBV := Lib.hid (Blk.new wr 217 #[.int .u32 (gn : Int), .int .u8 (gt : Int)])
      have HSV := Lib.hid (HS0.out.alloc (.cells #[.int .u32 (gn : Int), .int .u8 (gt : Int)] 217))
      have HPV := Lib.hid (HP0.out.alloc (.cells #[.int .u32 (gn : Int), .int .u8 (gt : Int)] 217))
      have HO := Lib.hid (HO0.out.alloc (.cells #[.int .u32 (gn : Int), .int .u8 (gt : Int)] 217))
      have hgV : ∀ q, blkOf D2 = some q → q ≠ wr.heap.size := fun q hq e => by have := own_lt HO0.out q (by rw [ownBlock_slice]; exact hq); omega
      clear hc hP hV1 hps
      go_wp2_with fail
      obtain ⟨V, hV⟩ : ∃ V, V = wr.alloc (.cells #[.int .u32 (gn : Int), .int .u8 (gt : Int)] 217) := ⟨_, rfl⟩
      rw [← hV] at HBV HSV HPV HO ⊢
      obtain ⟨F2, hF2⟩ : ∃ F2 : Nat → Prop, F2 = fun q => blkOf D2 = some q := ⟨_, rfl⟩
      have hFv : ¬ F2 wr.heap.size := by rw [hF2]; exact fun e => hgV _ e rfl
      have HF2 := Lib.hid hF2
      have HW2 : Hid (∀ w', Step F2 V w' → Step (fun _ => False) w w') := fun w' h => HSV.out.trans' h (fun i hi => .inr (own_ge HO.out i (by rw [ownBlock_slice]; rw [hF2] at hi; exact hi)))
      have HS := HSV
      have y0 := HBV.out.cell 0
      have y1 := HBV.out.cell 1
      simp at y0 y1
      have d0 := cls_cell (F := F2) (w0 := V) y0 hFv
      have d1 := cls_cell (F := F2) (w0 := V) y1 hFv
      clear c0 c1 y0 y1 hF2 hV HS0 HP0 HO0 HBV hgV hFv
      obtain ⟨X9, hX9⟩ : ∃ X9, X9 = wr.heap.size := ⟨_, rfl⟩
      rw [← hX9] at d0 d1 ⊢
      clear hX9
      refine Mxt.wp_region_tree [4, 5, 8, 9] [4, 5, 8, 9] (.reads [0, 1, 2, 3, 6, 7] (.fork (.op 4 (.fork (.op 5 (.op 8 (.op 9 (.reads [10] .leaf)))) (.op 8 (.op 5 (.op 9 (.reads [10] .leaf)))))) (.op 8 (.op 4 (.op 5 (.op 9 (.reads [10] .leaf))))))) (Step F2 V) (by kernel_rfl) (by kernel_rfl) Step.refl.drew (fun hcls => ?_)
      refine Mxt.wpTL_reads ?_
      simp only [List.flatMap_cons, List.flatMap_nil, List.getElem?_cons_succ, List.getElem?_cons_zero, Option.toList_some, List.cons_append, List.nil_append]
      repeat (go_big_quiet_step (fail))
      refine wpQuiet_nil ?_
      refine Mxt.wpTL_fork ?_ ?_
      · refine Mxt.wpTL_op (by rfl) (fun K hK => ?_)
        go_simp
        refine (uint_walk _ gn (by omega)).mono ?_
        rintro e wa ⟨Da, ca, rfl, howna, hSa⟩
        rw [HV1.out] at howna
        simp only [HV1.out]
        have HSa := Lib.hid ((Step.refl.drew).trans hSa)
        have HRa := Lib.hid (Reads.of_own howna)
        refine hK _ _ (fun hlt => Mix.cl (HSa.out.mono fun _ _ hf => hf.elim)) ?_
        clear hK K howna
        have HOn := Lib.hid (own_step HO.out HSa.out (fun _ _ => id))
        have HRn := HRa
        have HTn : Hid (Step F2 V wa) := HSa.out.mono fun _ _ hf => hf.elim
        have HBn : Hid (w.heap.size ≤ wa.heap.size) := Nat.le_trans HS.out.size HSa.out.size
        have HNn : Hid (V.heap.size ≤ wa.heap.size) := HSa.out.size
        refine Mxt.wpTL_fork ?_ ?_
        · refine Mxt.wpTL_op (by rfl) (fun K hK => ?_)
          refine step_append_src _ (by rfl) _ _ (by rfl) E_u8 (by rfl) HOn.out (by rfl) HRn.out hone1 hm1 (by omega) HBn.out ?_
          intro Db cb wb hownb hgrowb hatb
          have HOb := Lib.hid hownb
          have HTb : Hid (Step F2 V wb) := HTn.out.grown hgrowb (fun q hq => .inl (by rw [HF2.out]; exact hq))
          have HGb := Lib.hid hgrowb
          have HAb := Lib.hid hatb
          refine hK _ _ (fun hlt => Mix.cl HTb.out) ?_
          clear hK K hownb hgrowb hatb
          simp only [Act.put, List.setIfInBounds_toArray, List.set_cons_succ, List.set_cons_zero, Nat.zero_add]
          refine Mxt.wpTL_op (by rfl) (fun K hK => ?_)
          go_simp
          refine hK _ _ (fun hlt => Mix.cl (HTb.out.alloc _)) ?_
          clear hK K
          have HOm := Lib.hid (HOb.out.alloc (.cells #[Value.int .u8 (gt : Int)] 5))
          have HRm := Lib.hid (reads_new wb #[Value.int .u8 (gt : Int)] 5 1 1 rfl)
          have HTm := Lib.hid (HTb.out.alloc (.cells #[Value.int .u8 (gt : Int)] 5))
          have HBm : Hid (w.heap.size ≤ (wb.alloc (.cells #[Value.int .u8 (gt : Int)] 5)).heap.size) := Nat.le_trans HS.out.size HTm.out.size
          have hDm : ∀ q, blkOf Db = some q → F2 q ∨ V.heap.size ≤ q := fun q hq => by
            rcases HAb.out with h | h
            · exact .inl (by rw [HF2.out]; show blkOf D2 = some q; rw [← h]; exact hq)
            · exact .inr (by rw [h] at hq; injection hq with hq; have := HNn.out; omega)
          refine Mxt.wpTL_op (by rfl) (fun K hK => ?_)
          refine step_append_src _ (by rfl) _ _ (by rfl) E_u8 (by rfl) HOm.out (by rfl) HRm.out hone2 hm2 (by omega) HBm.out ?_
          intro Dd cd wd hownd hgrowd hatd
          have HTd : Hid (Step F2 V wd) := HTm.out.grown hgrowd (fun q hq => hDm q hq)
          refine hK _ _ (fun hlt => Mix.cl HTd.out) ?_
          clear hK K
          simp only [Act.put, List.setIfInBounds_toArray, List.set_cons_succ, List.set_cons_zero, Nat.zero_add]
          have hd6 : ∀ q, Value.ownBlock (.slice D6 Bd.length c6) = some q → blkOf Dd ≠ some q := fun q hq e => by
            have hlt := own_lt HPV.out q hq
            rcases hatd with h | h
            · rcases hDm q (by rw [← h]; exact e) with h1 | h1
              · rw [HF2.out] at h1; exact HD6.out q hq h1
              · omega
            · rw [h] at e
              injection e with e
              have := HTm.out.size
              omega
          have HPd := Lib.hid (own_step HPV.out HTd.out (fun q hq h1 => by rw [HF2.out] at h1; exact HD6.out q hq h1))
          have HD6d := Lib.hid hd6
          rw [HCS.out] at hownd
          rw [HLN.out] at hownd
          have HOd := Lib.hid hownd
          clear hownd hgrowd hatd
          refine Mxt.wpTL_reads ?_
          simp only [List.flatMap_cons, List.flatMap_nil, List.getElem?_cons_succ, List.getElem?_cons_zero, Option.toList_some, List.cons_append, List.nil_append]
          repeat (go_big_quiet_step (fail))
          refine wpQuiet_nil ?_
          refine Mxt.wpTL_leaf ?_
          rw [HLN.out]
          go_wp2_with fail
          go_roundw
          case rel => exact ⟨j + 1, cd, Dd, by omega, rfl, by rw [Int.natCast_add]; rfl, HW2.out _ HTd.out, HPd.out, HD6d.out, HOd.out⟩
          case measure => simp [intOf]; omega
        · refine Mxt.wpTL_op (by rfl) (fun K hK => ?_)
          go_simp
          refine hK _ _ (fun hlt => Mix.cl ((HTn.out).alloc _)) ?_
          clear hK K
          have HRx := Lib.hid (reads_new wa #[Value.int .u8 (gt : Int)] 5 1 1 rfl)
          have HNn : Hid (V.heap.size ≤ (wa.alloc (.cells #[Value.int .u8 (gt : Int)] 5)).heap.size) := ((HSa.out).alloc _).size
          have hgx : ∀ q, blkOf D2 = some q → q < wa.heap.size := fun q hq => own_lt HOn.out q (by rw [ownBlock_slice]; exact hq)
          have HOn := Lib.hid (HOn.out.alloc (.cells #[Value.int .u8 (gt : Int)] 5))
          have HRn := Lib.hid (HRn.out.step (Step.refl.alloc (F := fun _ => False) (.cells #[Value.int .u8 (gt : Int)] 5)) (fun _ _ => id))
          have HTn := Lib.hid (HTn.out.alloc (.cells #[Value.int .u8 (gt : Int)] 5))
          have HBn : Hid (w.heap.size ≤ (wa.alloc (.cells #[Value.int .u8 (gt : Int)] 5)).heap.size) := Nat.le_trans HS.out.size HTn.out.size
          refine Mxt.wpTL_op (by rfl) (fun K hK => ?_)
          refine step_append_src _ (by rfl) _ _ (by rfl) E_u8 (by rfl) HOn.out (by rfl) HRn.out hone1 hm1 (by omega) HBn.out ?_
          intro Db cb wb hownb hgrowb hatb
          have HOb := Lib.hid hownb
          have HTb : Hid (Step F2 V wb) := HTn.out.grown hgrowb (fun q hq => .inl (by rw [HF2.out]; exact hq))
          have HGb := Lib.hid hgrowb
          have HAb := Lib.hid hatb
          refine hK _ _ (fun hlt => Mix.cl HTb.out) ?_
          clear hK K hownb hgrowb hatb
          simp only [Act.put, List.setIfInBounds_toArray, List.set_cons_succ, List.set_cons_zero, Nat.zero_add]
          have HOm := HOb
          have HRm := Lib.hid (HRx.out.step (F := fun q => blkOf D2 = some q) (Step.refl.grown HGb.out (fun q hq => .inl hq)) (fun q hq hd => by have := hgx q hd; omega))
          have HTm := HTb
          have HBm : Hid (w.heap.size ≤ wb.heap.size) := Nat.le_trans HS.out.size HTm.out.size
          have hDm : ∀ q, blkOf Db = some q → F2 q ∨ V.heap.size ≤ q := fun q hq => by
            rcases HAb.out with h | h
            · exact .inl (by rw [HF2.out]; show blkOf D2 = some q; rw [← h]; exact hq)
            · exact .inr (by rw [h] at hq; injection hq with hq; have := HNn.out; omega)
          refine Mxt.wpTL_op (by rfl) (fun K hK => ?_)
          refine step_append_src _ (by rfl) _ _ (by rfl) E_u8 (by rfl) HOm.out (by rfl) HRm.out hone2 hm2 (by omega) HBm.out ?_
          intro Dd cd wd hownd hgrowd hatd
          have HTd : Hid (Step F2 V wd) := HTm.out.grown hgrowd (fun q hq => hDm q hq)
          refine hK _ _ (fun hlt => Mix.cl HTd.out) ?_
          clear hK K
          simp only [Act.put, List.setIfInBounds_toArray, List.set_cons_succ, List.set_cons_zero, Nat.zero_add]
          have hd6 : ∀ q, Value.ownBlock (.slice D6 Bd.length c6) = some q → blkOf Dd ≠ some q := fun q hq e => by
            have hlt := own_lt HPV.out q hq
            rcases hatd with h | h
            · rcases hDm q (by rw [← h]; exact e) with h1 | h1
              · rw [HF2.out] at h1; exact HD6.out q hq h1
              · omega
            · rw [h] at e
              injection e with e
              have := HTm.out.size
              omega
          have HPd := Lib.hid (own_step HPV.out HTd.out (fun q hq h1 => by rw [HF2.out] at h1; exact HD6.out q hq h1))
          have HD6d := Lib.hid hd6
          rw [HCS.out] at hownd
          rw [HLN.out] at hownd
          have HOd := Lib.hid hownd
          clear hownd hgrowd hatd
          refine Mxt.wpTL_reads ?_
          simp only [List.flatMap_cons, List.flatMap_nil, List.getElem?_cons_succ, List.getElem?_cons_zero, Option.toList_some, List.cons_append, List.nil_append]
          repeat (go_big_quiet_step (fail))
          refine wpQuiet_nil ?_
          refine Mxt.wpTL_leaf ?_
          rw [HLN.out]
          go_wp2_with fail
          go_roundw
          case rel => exact ⟨j + 1, cd, Dd, by omega, rfl, by rw [Int.natCast_add]; rfl, HW2.out _ HTd.out, HPd.out, HD6d.out, HOd.out⟩
          case measure => simp [intOf]; omega
      · refine Mxt.wpTL_op (by rfl) (fun K hK => ?_)
        go_simp
        refine hK _ _ (fun hlt => Mix.cl ((Step.refl.alloc _).drew)) ?_
        clear hK K
        have HRx := Lib.hid (reads_new V #[Value.int .u8 (gt : Int)] 5 1 1 rfl)
        have hgx : ∀ q, blkOf D2 = some q → q < V.heap.size := fun q hq => own_lt HO.out q (by rw [ownBlock_slice]; exact hq)
        refine Mxt.wpTL_op (by rfl) (fun K hK => ?_)
        go_simp
        refine (uint_walk _ gn (by omega)).mono ?_
        rintro e wa ⟨Da, ca, rfl, howna, hSa⟩
        rw [HV1.out] at howna
        simp only [HV1.out]
        have HSa := Lib.hid (((Step.refl.alloc _).drew).trans hSa)
        have HRa := Lib.hid (Reads.of_own howna)
        refine hK _ _ (fun hlt => Mix.cl (HSa.out.mono fun _ _ hf => hf.elim)) ?_
        clear hK K howna
        have HNn : Hid (V.heap.size ≤ wa.heap.size) := HSa.out.size
        have HOn := Lib.hid (own_step HO.out HSa.out (fun _ _ => id))
        have HRn := HRa
        have HRx := Lib.hid (HRx.out.step (Step.refl.drew.trans hSa) (fun _ _ => id))
        have HTn : Hid (Step F2 V wa) := HSa.out.mono fun _ _ hf => hf.elim
        have HBn : Hid (w.heap.size ≤ wa.heap.size) := Nat.le_trans HS.out.size HSa.out.size
        refine Mxt.wpTL_op (by rfl) (fun K hK => ?_)
        refine step_append_src _ (by rfl) _ _ (by rfl) E_u8 (by rfl) HOn.out (by rfl) HRn.out hone1 hm1 (by omega) HBn.out ?_
        intro Db cb wb hownb hgrowb hatb
        have HOb := Lib.hid hownb
        have HTb : Hid (Step F2 V wb) := HTn.out.grown hgrowb (fun q hq => .inl (by rw [HF2.out]; exact hq))
        have HGb := Lib.hid hgrowb
        have HAb := Lib.hid hatb
        refine hK _ _ (fun hlt => Mix.cl HTb.out) ?_
        clear hK K hownb hgrowb hatb
        simp only [Act.put, List.setIfInBounds_toArray, List.set_cons_succ, List.set_cons_zero, Nat.zero_add]
        have HOm := HOb
        have HRm := Lib.hid (HRx.out.step (F := fun q => blkOf D2 = some q) (Step.refl.grown HGb.out (fun q hq => .inl hq)) (fun q hq hd => by have := hgx q hd; omega))
        have HTm := HTb
        have HBm : Hid (w.heap.size ≤ wb.heap.size) := Nat.le_trans HS.out.size HTm.out.size
        have hDm : ∀ q, blkOf Db = some q → F2 q ∨ V.heap.size ≤ q := fun q hq => by
          rcases HAb.out with h | h
          · exact .inl (by rw [HF2.out]; show blkOf D2 = some q; rw [← h]; exact hq)
          · exact .inr (by rw [h] at hq; injection hq with hq; have := HNn.out; omega)
        refine Mxt.wpTL_op (by rfl) (fun K hK => ?_)
        refine step_append_src _ (by rfl) _ _ (by rfl) E_u8 (by rfl) HOm.out (by rfl) HRm.out hone2 hm2 (by omega) HBm.out ?_
        intro Dd cd wd hownd hgrowd hatd
        have HTd : Hid (Step F2 V wd) := HTm.out.grown hgrowd (fun q hq => hDm q hq)
        refine hK _ _ (fun hlt => Mix.cl HTd.out) ?_
        clear hK K
        simp only [Act.put, List.setIfInBounds_toArray, List.set_cons_succ, List.set_cons_zero, Nat.zero_add]
        have hd6 : ∀ q, Value.ownBlock (.slice D6 Bd.length c6) = some q → blkOf Dd ≠ some q := fun q hq e => by
          have hlt := own_lt HPV.out q hq
          rcases hatd with h | h
          · rcases hDm q (by rw [← h]; exact e) with h1 | h1
            · rw [HF2.out] at h1; exact HD6.out q hq h1
            · omega
          · rw [h] at e
            injection e with e
            have := HTm.out.size
            omega
        have HPd := Lib.hid (own_step HPV.out HTd.out (fun q hq h1 => by rw [HF2.out] at h1; exact HD6.out q hq h1))
        have HD6d := Lib.hid hd6
        rw [HCS.out] at hownd
        rw [HLN.out] at hownd
        have HOd := Lib.hid hownd
        clear hownd hgrowd hatd
        refine Mxt.wpTL_reads ?_
        simp only [List.flatMap_cons, List.flatMap_nil, List.getElem?_cons_succ, List.getElem?_cons_zero, Option.toList_some, List.cons_append, List.nil_append]
        repeat (go_big_quiet_step (fail))
        refine wpQuiet_nil ?_
        refine Mxt.wpTL_leaf ?_
        rw [HLN.out]
        go_wp2_with fail
        go_roundw
        case rel => exact ⟨j + 1, cd, Dd, by omega, rfl, by rw [Int.natCast_add]; rfl, HW2.out _ HTd.out, HPd.out, HD6d.out, HOd.out⟩
        case measure => simp [intOf]; omega
    · obtain rfl : j = lo.length := by omega
      have hm3 : (putsG U lo lo.length).length + Bd.length ≤ maxLen := by
        have := congrArg List.length HInl.out
        rw [List.length_append] at this
        unfold maxLen
        omega
      have hone3 := u8s_one Bd
      have HRb := Lib.hid (Reads.of_own HP0.out)
      have hsz := HS0.out.size
      have hYl : (putsG U lo lo.length).length + Bd.length = Y.length := by rw [← List.length_append, HInl.out]
      have HYl := Lib.hid hYl
      have HYc : Hid (u8s (putsG U lo lo.length) ++ u8s Bd = u8s Y) := by rw [Hid, ← u8s_append, HInl.out]
      have hb3 : (putsG U lo lo.length).length + Bd.length ≤ 200000 := by omega
      obtain ⟨P, hP⟩ : ∃ P, P = putsG U lo lo.length := ⟨_, rfl⟩
      rw [← hP] at HO0 hm3 HYl HYc hb3 ⊢
      clear hP hpl hYl HInl
      go_wp2_with (at_builtin; refine wpList_append_src _ rfl _ _ (by rfl) E_u8 (by rfl) HO0.out (by rfl) HRb.out hone3 hm3 (by omega) hsz ?_; intro D9 c9 w9 hown9 hgrow9 hat9; rw [HYc.out, HYl.out] at hown9; rw [HYl.out]; have hw9 := IntWalk.u64_in (Y.length : Int) (by omega))
      have hg9 : ∀ q, blkOf D2 = some q → w.heap.size ≤ q := fun q hq => own_ge HO0.out q (by rw [ownBlock_slice]; exact hq)
      have HS9 := Lib.hid (HS0.out.grown hgrow9 (fun q hq => .inr (hg9 q hq)))
      have HO9 := Lib.hid hown9
      have hgl := num_len Y.length
      clear hown9 hgrow9 hat9 HO0 HP0 HD6 HRb hg9
      refine (uint_walk _ Y.length (by omega)).mono ?_
      rintro e wa ⟨Da, ca, rfl, howna, hSa⟩
      have HRa := Lib.hid ((Reads.of_own HO9.out).step hSa (fun _ _ => id))
      have HOa := Lib.hid (own_base howna (base' := w.heap.size) (fun q hq => Nat.le_trans HS9.out.size (own_ge howna q hq)))
      have HSa := Lib.hid (HS9.out.trans hSa)
      have hone4 := u8s_one Y
      have hm4 : (uintF Y.length).length + Y.length ≤ maxLen := by unfold maxLen; omega
      have hsz2 := HSa.out.size
      have HZc : Hid (u8s (uintF Y.length) ++ u8s Y = u8s Z) := by rw [Hid, ← u8s_append, HPC.out]
      have HZl : Hid ((uintF Y.length).length + Y.length = Z.length) := by rw [Hid, HPC.out, List.length_append]
      clear howna hSa HS9 HO9
      go_wp2_with (at_builtin; refine wpList_append_src _ rfl _ _ (by rfl) E_u8 (by rfl) HOa.out (by rfl) HRa.out hone4 hm4 (by omega) hsz2 ?_; intro Dz cz wz hownz hgrowz hatz; rw [HZc.out, HZl.out] at hownz; rw [HZl.out])
      have hgz : ∀ q, blkOf Da = some q → w.heap.size ≤ q := fun q hq => own_ge HOa.out q (by rw [ownBlock_slice]; exact hq)
      refine bodyPost_ret (v := .tuple #[.slice Dz Z.length cz, .int .i64 0]) (by simp [results, Try.results121, go_sem]) rfl ?_
      exact ⟨Dz, cz, rfl, hownz, HSa.out.grown hgrowz (fun q hq => .inr (hgz q hq))⟩
end Go.Proofs.Ytfemeendkjcffaa
