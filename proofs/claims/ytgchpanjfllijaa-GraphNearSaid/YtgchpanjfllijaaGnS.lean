/-
  GraphNear: slices.Sort of names, by the shelf's contract; of no name (printed by gen_gns.py).
-/
import Derived.Test.YtgchpanjfllijaaGnP
import Derived.Shelf.Sort.Plain
import Derived.Shelf.Slices.In.SortNone2
import Derived.Sort.OwnSorted
set_option linter.unusedVariables false
set_option linter.unusedSimpArgs false
namespace Go.Proofs.Ytgchpanjfllijaa
open Go.RowKit Go.Sort Go.Proofs Go.Shelf

def rnF : Nat → Nat := fun n => match n with
  | 190 => 20 
  | 125 => 23 
  | 258 => 22 
  | 128 => 33 
  | 129 => 34 
  | 302 => 24 
  | 303 => 25 
  | 304 => 26 
  | 305 => 27 
  | 306 => 28 
  | 307 => 29 
  | 308 => 30 
  | 309 => 31 
  | 310 => 32 
  | 333 => 35 
  | 329 => 36 
  | 330 => 37 
  | 334 => 38 
  | 335 => 39 
  | 336 => 40 
  | 344 => 41 
  | n => n
def rnT : Nat → Nat := fun n => match n with
  | 31 => 28 
  | 9 => 9 
  | 3 => 3 
  | 46 => 55 
  | 0 => 0 
  | 51 => 66 
  | 53 => 68 
  | 4 => 4 
  | 183 => 58 
  | 182 => 57 
  | 131 => 63 
  | 5 => 5 
  | 218 => 69 
  | 222 => 73 
  | 228 => 76 
  | 229 => 77 
  | n => n
def rn190 : Ren := { f := rnF, t := rnT, g := fun n => n }
theorem lays190 : Lays.n190 Try.prog rn190 :=
  {
    mixed := by kernel_rfl,
    f125 := (Try.func23).trans (congrArg some (by kernel_rfl)),
    f128 := (Try.func33).trans (congrArg some (by kernel_rfl)),
    f129 := (Try.func34).trans (congrArg some (by kernel_rfl)),
    f190 := (Try.func20).trans (congrArg some (by kernel_rfl)),
    f258 := (Try.func22).trans (congrArg some (by kernel_rfl)),
    f302 := (Try.func24).trans (congrArg some (by kernel_rfl)),
    f303 := (Try.func25).trans (congrArg some (by kernel_rfl)),
    f304 := (Try.func26).trans (congrArg some (by kernel_rfl)),
    f305 := (Try.func27).trans (congrArg some (by kernel_rfl)),
    f306 := (Try.func28).trans (congrArg some (by kernel_rfl)),
    f307 := (Try.func29).trans (congrArg some (by kernel_rfl)),
    f308 := (Try.func30).trans (congrArg some (by kernel_rfl)),
    f309 := (Try.func31).trans (congrArg some (by kernel_rfl)),
    f310 := (Try.func32).trans (congrArg some (by kernel_rfl)),
    f329 := (Try.func36).trans (congrArg some (by kernel_rfl)),
    f330 := (Try.func37).trans (congrArg some (by kernel_rfl)),
    f333 := (Try.func35).trans (congrArg some (by kernel_rfl)),
    f334 := (Try.func38).trans (congrArg some (by kernel_rfl)),
    f335 := (Try.func39).trans (congrArg some (by kernel_rfl)),
    f336 := (Try.func40).trans (congrArg some (by kernel_rfl)),
    f344 := (Try.func41).trans (congrArg some (by kernel_rfl)),
    t0 := Try.underlying0,
    a0 := Try.isAgg0,
    z0 := Try.sizeOf0,
    v0 := Try.zeroValue0,
    t3 := Try.underlying3,
    a3 := Try.isAgg3,
    z3 := Try.sizeOf3,
    v3 := Try.zeroValue3,
    t4 := Try.underlying4,
    a4 := Try.isAgg4,
    z4 := Try.sizeOf4,
    v4 := Try.zeroValue4,
    t5 := Try.underlying5,
    a5 := Try.isAgg5,
    z5 := Try.sizeOf5,
    v5 := Try.zeroValue5,
    t9 := Try.underlying9,
    a9 := Try.isAgg9,
    z9 := Try.sizeOf9,
    v9 := Try.zeroValue9,
    t31 := Try.underlying28,
    a31 := Try.isAgg28,
    z31 := Try.sizeOf28,
    v31 := Try.zeroValue28,
    t46 := Try.underlying55,
    a46 := Try.isAgg55,
    z46 := Try.sizeOf55,
    v46 := Try.zeroValue55,
    t51 := Try.underlying66,
    a51 := Try.isAgg66,
    z51 := Try.sizeOf66,
    v51 := Try.zeroValue66,
    t53 := Try.underlying68,
    a53 := Try.isAgg68,
    z53 := Try.sizeOf68,
    v53 := Try.zeroValue68,
    t131 := Try.underlying63,
    a131 := Try.isAgg63,
    z131 := Try.sizeOf63,
    v131 := Try.zeroValue63,
    t182 := Try.underlying57,
    a182 := Try.isAgg57,
    z182 := Try.sizeOf57,
    v182 := Try.zeroValue57,
    t183 := Try.underlying58,
    a183 := Try.isAgg58,
    z183 := Try.sizeOf58,
    v183 := Try.zeroValue58,
    t218 := Try.underlying69,
    a218 := Try.isAgg69,
    z218 := Try.sizeOf69,
    v218 := Try.zeroValue69,
    t222 := Try.underlying73,
    a222 := Try.isAgg73,
    z222 := Try.sizeOf73,
    v222 := Try.zeroValue73,
    t228 := Try.underlying76,
    a228 := Try.isAgg76,
    z228 := Try.sizeOf76,
    v228 := Try.zeroValue76,
    t229 := Try.underlying77,
    a229 := Try.isAgg77,
    z229 := Try.sizeOf77,
    v229 := Try.zeroValue77 }
theorem strs_enc (l : List Nm) : strs l = l.map encStr := rfl
theorem sl_sort_none (w : World) (p : Option Addr) (cap : Nat) : Calls Try.prog 20 #[.slice p 0 cap] w fun e w' => e = .returned (.tuple #[]) ∧ w' = w := Any.slices_Sort_string_none lays190 p cap w
theorem sl_sort {w : World} {B c : Nat} {D : Option Addr} {l : List Nm} (ho : w.ownsRow B 9 1 (.slice D l.length c) l.length (strs l)) (hl : l.length ≤ 1000000) :
    Calls Try.prog 20 #[.slice D l.length c] w fun e w' => e = .returned (.tuple #[]) ∧ w'.ownsRow B 9 1 (.slice D l.length c) l.length (strs (l.mergeSort Go.leB)) ∧ Step (fun k => blkOf D = some k) w w' := by
  rcases ho.2 with ⟨hnil, h0⟩ | ⟨g, cap, cur, hv, hbase, hb, h1, h2, h3, h4⟩
  · injection hnil with e1 e2 e3
    obtain rfl : l = [] := List.length_eq_zero_iff.1 e2
    subst e1
    refine (sl_sort_none w none c).mono ?_
    rintro e w' ⟨rfl, rfl⟩
    refine ⟨rfl, ?_, Step.refl⟩
    have e : ([] : List Nm).mergeSort Go.leB = [] := by simp
    rw [e]
    exact ho
  · injection hv with e1 e2 e3
    subst e1
    subst e3
    refine (Any.slices_Sort_string lays190 g 0 c l w (holds_of_block hb (by simpa [strs_enc] using h4)) (Array.getElem?_eq_some_iff.1 hb).1 (by omega)).mono ?_
    rintro e w' ⟨rfl, n, os, rfl⟩
    refine ⟨rfl, ?_, ?_⟩
    · have := ownsRow_sorted (w := w) (base := B) (n := n) (os := os) (ts := l.mergeSort Go.leB) (ss := l) (by simp) hbase hb h1 h2 (by simpa using h3)
      exact this
    · exact (Step.refl : Step (fun k => blkOf (some (⟨g, 0, none⟩ : Addr)) = some k) w w).grown (grownBy_sorted _) (fun k hk => .inl (by injection hk with hk; rw [hk]; rfl))
end Go.Proofs.Ytgchpanjfllijaa
