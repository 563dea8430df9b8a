/-
  store: Owners: the keys, rising; by the shelf's contracts (printed by gen_gsh.py).
-/
import Derived.Test.YtmheofkakcomdaaGsD
import Derived.Shelf.SlIterI.Nil
import Derived.Shelf.SortM.Plain
import Derived.Shelf.SortM.SortNone
set_option linter.unusedVariables false
set_option linter.unusedSimpArgs false
namespace Go.Proofs.Ytmheofkakcomdaa
open Go.RowKit Go.Sort Go.Proofs Go.Shelf
def keysAF : Nat → Nat := fun n => match n with
  | 7 => 41 
  | 10 => 64 
  | n => n
def keysAT : Nat → Nat := fun n => match n with
  | 23 => 76 
  | 26 => 3 
  | 3 => 51 
  | 28 => 96 
  | 0 => 0 
  | 27 => 95 
  | 33 => 108 
  | 4 => 4 
  | n => n
def keysAR : Ren := { f := keysAF, t := keysAT, g := fun n => n }
theorem keysAL : SlLaysZI.n7 Try.prog keysAR :=
  {
    mixed := by kernel_rfl,
    f7 := ⟨Try.f41.name, of_decide_eq_true (by kernel_rfl), (Try.func41).trans (congrArg some (by kernel_rfl))⟩,
    f10 := ⟨Try.f64.name, of_decide_eq_true (by kernel_rfl), (Try.func64).trans (congrArg some (by kernel_rfl))⟩,
    t0 := Try.underlying0,
    a0 := Try.isAgg0,
    z0 := Try.sizeOf0,
    v0 := Try.zeroValue0,
    t4 := Try.underlying4,
    a4 := Try.isAgg4,
    z4 := Try.sizeOf4,
    v4 := Try.zeroValue4,
    t23 := Try.underlying76,
    a23 := Try.isAgg76,
    z23 := Try.sizeOf76,
    v23 := Try.zeroValue76,
    t26 := Try.underlying3,
    a26 := Try.isAgg3,
    z26 := Try.sizeOf3,
    v26 := Try.zeroValue3,
    t27 := Try.underlying95,
    a27 := Try.isAgg95,
    z27 := Try.sizeOf95,
    v27 := Try.zeroValue95,
    t28 := Try.underlying96,
    a28 := Try.isAgg96,
    z28 := Try.sizeOf96,
    v28 := Try.zeroValue96,
    t33 := Try.underlying108,
    a33 := Try.isAgg108,
    z33 := Try.sizeOf108,
    v33 := Try.zeroValue108 }
def sortedAF : Nat → Nat := fun n => match n with
  | 6 => 40 
  | 8 => 62 
  | 9 => 63 
  | 11 => 74 
  | 13 => 76 
  | 12 => 75 
  | 23 => 87 
  | 24 => 88 
  | 14 => 78 
  | 15 => 79 
  | 16 => 80 
  | 17 => 81 
  | 18 => 82 
  | 19 => 83 
  | 20 => 84 
  | 21 => 85 
  | 22 => 86 
  | 25 => 89 
  | 26 => 90 
  | 27 => 91 
  | 28 => 92 
  | 29 => 93 
  | 30 => 94 
  | 31 => 95 
  | n => n
def sortedAT : Nat → Nat := fun n => match n with
  | 26 => 3 
  | 28 => 96 
  | 24 => 33 
  | 0 => 0 
  | 3 => 3 
  | 37 => 134 
  | 48 => 144 
  | 50 => 36 
  | 4 => 4 
  | 40 => 137 
  | 39 => 136 
  | 45 => 105 
  | 5 => 5 
  | 9 => 9 
  | 51 => 146 
  | 55 => 149 
  | 57 => 151 
  | 58 => 152 
  | 33 => 108 
  | n => n
def sortedAR : Ren := { f := sortedAF, t := sortedAT, g := fun n => n }
theorem sortedAL : SlLaysZI.n6 Try.prog sortedAR :=
  {
    mixed := by kernel_rfl,
    f6 := ⟨Try.f40.name, of_decide_eq_true (by kernel_rfl), (Try.func40).trans (congrArg some (by kernel_rfl))⟩,
    f8 := ⟨Try.f62.name, of_decide_eq_true (by kernel_rfl), (Try.func62).trans (congrArg some (by kernel_rfl))⟩,
    f11 := ⟨Try.f74.name, of_decide_eq_true (by kernel_rfl), (Try.func74).trans (congrArg some (by kernel_rfl))⟩,
    t0 := Try.underlying0,
    a0 := Try.isAgg0,
    z0 := Try.sizeOf0,
    v0 := Try.zeroValue0,
    t24 := Try.underlying33,
    a24 := Try.isAgg33,
    z24 := Try.sizeOf33,
    v24 := Try.zeroValue33,
    t26 := Try.underlying3,
    a26 := Try.isAgg3,
    z26 := Try.sizeOf3,
    v26 := Try.zeroValue3,
    t28 := Try.underlying96,
    a28 := Try.isAgg96,
    z28 := Try.sizeOf96,
    v28 := Try.zeroValue96,
    i26 := by kernel_rfl }
def sortAF : Nat → Nat := fun n => match n with
  | 5 => 63 
  | 8 => 76 
  | 7 => 75 
  | 19 => 87 
  | 20 => 88 
  | 10 => 78 
  | 11 => 79 
  | 12 => 80 
  | 13 => 81 
  | 14 => 82 
  | 15 => 83 
  | 16 => 84 
  | 17 => 85 
  | 18 => 86 
  | 30 => 89 
  | 31 => 90 
  | 32 => 91 
  | 33 => 92 
  | 34 => 93 
  | 35 => 94 
  | 40 => 95 
  | n => n
def sortAT : Nat → Nat := fun n => match n with
  | 23 => 33 
  | 25 => 3 
  | 3 => 3 
  | 32 => 134 
  | 22 => 33 
  | 0 => 0 
  | 44 => 144 
  | 46 => 36 
  | 4 => 4 
  | 36 => 137 
  | 35 => 136 
  | 41 => 105 
  | 5 => 5 
  | 9 => 9 
  | 53 => 146 
  | 57 => 149 
  | 63 => 151 
  | 64 => 152 
  | n => n
def sortAR : Ren := { f := sortAF, t := sortAT, g := fun n => n }
theorem sortAL : SlLaysM.n5 Try.prog sortAR :=
  {
    mixed := by kernel_rfl,
    f5 := ⟨Try.f63.name, of_decide_eq_true (by kernel_rfl), (Try.func63).trans (congrArg some (by kernel_rfl))⟩,
    f7 := ⟨Try.f75.name, of_decide_eq_true (by kernel_rfl), (Try.func75).trans (congrArg some (by kernel_rfl))⟩,
    f8 := (Try.func76).trans (congrArg some (by kernel_rfl)),
    f10 := ⟨Try.f78.name, of_decide_eq_true (by kernel_rfl), (Try.func78).trans (congrArg some (by kernel_rfl))⟩,
    f11 := ⟨Try.f79.name, of_decide_eq_true (by kernel_rfl), (Try.func79).trans (congrArg some (by kernel_rfl))⟩,
    f12 := ⟨Try.f80.name, of_decide_eq_true (by kernel_rfl), (Try.func80).trans (congrArg some (by kernel_rfl))⟩,
    f13 := ⟨Try.f81.name, of_decide_eq_true (by kernel_rfl), (Try.func81).trans (congrArg some (by kernel_rfl))⟩,
    f14 := ⟨Try.f82.name, of_decide_eq_true (by kernel_rfl), (Try.func82).trans (congrArg some (by kernel_rfl))⟩,
    f15 := ⟨Try.f83.name, of_decide_eq_true (by kernel_rfl), (Try.func83).trans (congrArg some (by kernel_rfl))⟩,
    f16 := ⟨Try.f84.name, of_decide_eq_true (by kernel_rfl), (Try.func84).trans (congrArg some (by kernel_rfl))⟩,
    f17 := ⟨Try.f85.name, of_decide_eq_true (by kernel_rfl), (Try.func85).trans (congrArg some (by kernel_rfl))⟩,
    f18 := ⟨Try.f86.name, of_decide_eq_true (by kernel_rfl), (Try.func86).trans (congrArg some (by kernel_rfl))⟩,
    f19 := (Try.func87).trans (congrArg some (by kernel_rfl)),
    f20 := (Try.func88).trans (congrArg some (by kernel_rfl)),
    f30 := ⟨Try.f89.name, of_decide_eq_true (by kernel_rfl), (Try.func89).trans (congrArg some (by kernel_rfl))⟩,
    f31 := (Try.func90).trans (congrArg some (by kernel_rfl)),
    f32 := (Try.func91).trans (congrArg some (by kernel_rfl)),
    f33 := ⟨Try.f92.name, of_decide_eq_true (by kernel_rfl), (Try.func92).trans (congrArg some (by kernel_rfl))⟩,
    f34 := ⟨Try.f93.name, of_decide_eq_true (by kernel_rfl), (Try.func93).trans (congrArg some (by kernel_rfl))⟩,
    f35 := ⟨Try.f94.name, of_decide_eq_true (by kernel_rfl), (Try.func94).trans (congrArg some (by kernel_rfl))⟩,
    f40 := ⟨Try.f95.name, of_decide_eq_true (by kernel_rfl), (Try.func95).trans (congrArg some (by kernel_rfl))⟩,
    t0 := Try.underlying0,
    a0 := Try.isAgg0,
    z0 := Try.sizeOf0,
    v0 := Try.zeroValue0,
    t3 := Try.underlying3,
    a3 := Try.isAgg3,
    z3 := Try.sizeOf3,
    v3 := Try.zeroValue3,
    t4 := Try.underlying4,
    a4 := Try.isAgg4,
    z4 := Try.sizeOf4,
    v4 := Try.zeroValue4,
    t5 := Try.underlying5,
    a5 := Try.isAgg5,
    z5 := Try.sizeOf5,
    v5 := Try.zeroValue5,
    t9 := Try.underlying9,
    a9 := Try.isAgg9,
    z9 := Try.sizeOf9,
    v9 := Try.zeroValue9,
    t22 := Try.underlying33,
    a22 := Try.isAgg33,
    z22 := Try.sizeOf33,
    v22 := Try.zeroValue33,
    t23 := Try.underlying33,
    a23 := Try.isAgg33,
    z23 := Try.sizeOf33,
    v23 := Try.zeroValue33,
    t25 := Try.underlying3,
    a25 := Try.isAgg3,
    z25 := Try.sizeOf3,
    v25 := Try.zeroValue3,
    t32 := Try.underlying134,
    a32 := Try.isAgg134,
    z32 := Try.sizeOf134,
    v32 := Try.zeroValue134,
    t35 := Try.underlying136,
    a35 := Try.isAgg136,
    z35 := Try.sizeOf136,
    v35 := Try.zeroValue136,
    t36 := Try.underlying137,
    a36 := Try.isAgg137,
    z36 := Try.sizeOf137,
    v36 := Try.zeroValue137,
    t41 := Try.underlying105,
    a41 := Try.isAgg105,
    z41 := Try.sizeOf105,
    v41 := Try.zeroValue105,
    t44 := Try.underlying144,
    a44 := Try.isAgg144,
    z44 := Try.sizeOf144,
    v44 := Try.zeroValue144,
    t46 := Try.underlying36,
    a46 := Try.isAgg36,
    z46 := Try.sizeOf36,
    v46 := Try.zeroValue36,
    t53 := Try.underlying146,
    a53 := Try.isAgg146,
    z53 := Try.sizeOf146,
    v53 := Try.zeroValue146,
    t57 := Try.underlying149,
    a57 := Try.isAgg149,
    z57 := Try.sizeOf149,
    v57 := Try.zeroValue149,
    t63 := Try.underlying151,
    a63 := Try.isAgg151,
    z63 := Try.sizeOf151,
    v63 := Try.zeroValue151,
    t64 := Try.underlying152,
    a64 := Try.isAgg152,
    z64 := Try.sizeOf152,
    v64 := Try.zeroValue152 }

theorem sortsA (m : Nat) : AnyZI.SortsIn Try.prog sortedAR Fence.wide m :=
  ⟨fun blk off cap ss W hH hblk hsz => callsIn_wide.2 (AnyM.slices_Sort_int sortAL blk off cap ss W hH hblk hsz),
   fun p cap W => callsIn_wide.2 (AnyM.slices_Sort_int_none sortAL p cap W)⟩
section
variable {w : World} {B : Nat} {s : Sg}
set_option maxRecDepth 100000 in
set_option maxHeartbeats 3200000 in
theorem s_owners (h : Gw w B s) (hn : s.nn ≤ 1000) :
    Calls Try.prog 23 #[.pointer (some ⟨s.S, 0, none⟩)] w fun e w' => ∃ (v : Value) (ss : List Int), e = .returned v ∧ ss.Perm (intKeys s.D) ∧ w'.ownsRow w.heap.size 3 1 v ss.length ((ss.mergeSort (fun x y => decide (x ≤ y))).map encZ) ∧ Step (fun _ => False) w w' := by
  refine (callsIn_wide (n := 6)).1 ?_
  have hown := h.mp.1
  have hbl := hown.lt
  have hsz : Maps.size s.D ≤ 1000 := Nat.le_trans hown.size_le hn
  have hseq : SeqGives Fence.wide 2 Try.prog 64 #[.pointer (some ⟨w.heap.size, 0, none⟩)] encZ (fun ss => ss.Perm (intKeys s.D)) (Maps.size s.D) (w.alloc (.cells #[.map (some s.K)] 76)) :=
    AnyZI.keys_gives (ρ := keysAR) { keysAL with } Fence.wide _ trivial rfl (by omega) w.heap.size s.K s.nn s.D _ (by simp) (by simp) (by
      obtain ⟨es, clock, hb, Ft, hs, hD⟩ := hown
      exact ⟨es, clock, (Below.heap_alloc _ _ s.K hbl).trans hb, Ft, hs, hD⟩)
  have cK : ∀ mb W, CallsIn Fence.wide 5 Try.prog 41 #[.map mb] W fun e w' => e = .returned (.func (.func 64) #[] #[.pointer (some ⟨W.heap.size, 0, none⟩)]) ∧ w' = W.alloc (.cells #[.map mb] 76) := fun mb W => AnyZI.keys_in keysAL Fence.wide 5 trivial rfl mb W
  have cS := AnyZI.sorted_in sortedAL Fence.wide 5 trivial trivial trivial trivial rfl (by omega) (sortsA _) (enters_of Try.func63 (by kernel_rfl) rfl) 64 #[.pointer (some ⟨w.heap.size, 0, none⟩)] trivial (enters_of Try.func64 (by kernel_rfl) rfl) _ _ (by unfold maxLen; omega) (by omega) _ hseq
  change CallsIn _ _ Try.prog 40 _ _ _ at cS
  have hfK : Fence.wide.fn 41 := trivial
  have hfS : Fence.wide.fn 40 := trivial
  have x4 := (h.blk.cell 4).trans (show _ = some (Value.map (some s.K)) from rfl)
  clear h hown hseq
  refine callsIn_of_wp Try.func23 rfl trivial ?_ rfl
  simp only [Try.ntmps23, List.size_toArray, List.length_cons, List.length_nil, Nat.reduceAdd, Nat.reduceSub, Array.replicate_succ, Array.replicate_zero, List.push_toArray, List.append_toArray, List.nil_append, List.cons_append]
  gi_wp2_with (first
    | (gi_at_call 41; refine (cK _ _).mono ?_; rintro e w' ⟨rfl, rfl⟩)
    | (gi_at_call 40; refine cS.mono ?_; rintro e w' ⟨v, ss, rfl, hS, hrow, hnil, hb⟩))
  go_ret
  exact ⟨v, ss, rfl, hS, ownsRow_base_a hrow (by simp), Step.ofBelow (((Below.refl _ w).alloc (Nat.le_refl _) _).trans (hb.mono (by simp)))⟩
end
end Go.Proofs.Ytmheofkakcomdaa
