/-
  frames.Stacks: own, Pop, Open, Shut.
-/
import Derived.Test.YtokchoocelmdoaaFpB
set_option linter.unusedVariables false
set_option linter.unusedSimpArgs false
namespace Go.Proofs.Ytokchoocelmdoaa
open Go.RowKit

/-- How many blocks of the inmost function are open. -/
def ownN (ls : List Lb) (fs : List Fm) : Nat := ls.length - (match fs.getLast? with | none => 0 | some f => f.lb)
theorem ownN_some {ls : List Lb} {fs : List Fm} (h : 0 < fs.length) : ownN ls fs = ls.length - (fs[fs.length - 1]'(by omega)).lb := by
  rw [ownN, List.getLast?_eq_getElem?, List.getElem?_eq_getElem (by omega)]
/-- The marks of the functions lie within the stacks. -/
def Okf (ls : List Lb) (fs : List Fm) : Prop := ∀ f ∈ fs, f.lb ≤ ls.length
section
variable {w : World} {I : Nat → Prop} {g : Nat} {xs : List Int} {ls : List Lb} {fs : List Fm} {most : Int}
set_option maxRecDepth 100000 in
theorem fs_own (h : Fs w I g xs ls fs most) (hok : Okf ls fs) (hl : fs.length ≤ 100000) (hl2 : ls.length ≤ 100000) : Calls Try.prog 34 #[.pointer (some ⟨g, 0, none⟩)] w fun e w' => e = .returned (.int .i64 (ownN ls fs : Int)) ∧ Step (fun _ => False) w w' := by
  rcases Nat.eq_zero_or_pos fs.length with hz | hp
  · obtain rfl : fs = [] := List.length_eq_zero_iff.1 hz
    have HT := Lib.hid (fs_top_none h)
    obtain ⟨D1, c1, D2, c2, D3, c3, h, hI⟩ := h
    have c0 := h.st.blk.cell 1
    simp at c0
    clear h hI hz hok
    go_enter Try.func34, Try.ntmps34
    go_wp2_with fail
    refine HT.out.mono ?_
    rintro e w' ⟨rfl, rfl⟩
    go_wp2
    go_ret
    exact ⟨rfl, Step.refl⟩
  · obtain ⟨D1, c1, D2, c2, D3, c3, h, hI⟩ := h
    obtain ⟨gf, rfl, hlt, k1, k2, k3, k4, k5⟩ := h.fcell (k := fs.length - 1) (by omega)
    have HT := Lib.hid (fsat_top h hp hl)
    have HE := Lib.hid (ownN_some (ls := ls) hp)
    have hm := hok _ (List.getElem_mem (show fs.length - 1 < fs.length by omega))
    have c0 := h.st.blk.cell 1
    simp at c0
    have hw := IntWalk.i64_in ((ls.length : Int) - ((fs[fs.length - 1]'(by omega)).lb : Int)) (by omega)
    have HC : Hid (((ls.length - (fs[fs.length - 1]'(by omega)).lb : Nat) : Int) = (ls.length : Int) - ((fs[fs.length - 1]'(by omega)).lb : Int)) := Int.ofNat_sub hm
    generalize fs[fs.length - 1]'(by omega) = f at *
    have hgl := h.st.blk.lt
    clear h hI hok k1 k2 k3 k5 hm
    go_enter Try.func34, Try.ntmps34
    go_wp2_with fail
    refine HT.out.mono ?_
    rintro e w' ⟨rfl, hs⟩
    have c0' := (hs.cell (p := ⟨g, 1, none⟩) hgl id).trans c0
    have k4' := (hs.cell (p := ⟨gf, (fs.length - 1) * 11 + 9, none⟩) hlt id).trans k4
    have HS := Lib.hid hs
    clear hs c0 k4
    go_wp2_with fail
    go_quiet (fail)
    go_wp2
    go_ret
    exact ⟨by rw [HE.out, HC.out]; rfl, HS.out.drewN _⟩
theorem fs_pop_none (h : Fs w I g [] ls fs most) : Calls Try.prog 20 #[.pointer (some ⟨g, 0, none⟩)] w fun e w' => e = .returned (.tuple #[.int .u64 0, .bool false]) ∧ w = w' := by
  obtain ⟨D1, c1, D2, c2, D3, c3, h, hI⟩ := h
  have c0 := h.st.blk.cell 0
  simp at c0
  clear h hI
  go_enter Try.func20, Try.ntmps20
  go_wp2
  go_ret2
  exact ⟨rfl, rfl⟩
set_option maxRecDepth 100000 in
set_option maxHeartbeats 800000 in
theorem fs_pop (ys : List Int) (x : Int) (h : Fs w I g (ys ++ [x]) ls fs most) (hx : ys.length ≤ 1000000) : Calls Try.prog 20 #[.pointer (some ⟨g, 0, none⟩)] w fun e w' => e = .returned (.tuple #[.int .u64 x, .bool true]) ∧ FsUp w I g ys ls fs most w' := by
  obtain ⟨D1, c1, D2, c2, D3, c3, h, hI⟩ := h
  have c0 := h.st.blk.cell 0
  have f0 := h.st.blk.frozen 0
  simp at c0
  have hcap := own_cap h.st.own
  have hlen : (ys ++ [x]).length = ys.length + 1 := by simp
  obtain ⟨g1, rfl, _, hlt, hc, _⟩ := own_row h.st.own (by omega)
  have cx := hc ys.length (.int .u64 x) (by simp [u64s])
  rw [hlen] at hcap
  have n0 : (((ys.length : Int) + 1) == 0) = false := beq_eq_false_iff_ne.2 (by omega)
  have i0 : (0 : Int) ≤ (ys.length : Int) := by omega
  have i1 : (ys.length : Int) < (ys.length : Int) + 1 := by omega
  have i2 : (ys.length : Int) + 1 - 1 = (ys.length : Int) := by omega
  have i3 : (ys.length : Int) ≤ (c1 : Int) := by omega
  have hw := IntWalk.i64_in (ys.length : Int) (by omega)
  have ho := own_take h.st.own (k := ys.length) (by omega)
  rw [Nat.mul_one, ← u64s_take, List.take_left] at ho
  have H := Lib.hid h
  have HI := Lib.hid hI
  have HO := Lib.hid ho
  have nw := World.new_ne w _ c0
  have sl := slice_hn E_u64 (some ⟨g1, 0, none⟩) (ys.length + 1) c1 .i64 (ys.length : Int) ys.length rfl (by omega)
  clear h hI hc ho hlen hx hcap
  go_enter Try.func20, Try.ntmps20
  go_wp2_with fail
  have d0 := cls_cell (F := fun _ => False) (w0 := w) c0 id
  have d1 := cls_cell (F := fun _ => False) (w0 := w) cx id
  refine Mix.wp_region_mix [] [] (Step (fun _ => False) w) (by kernel_rfl) (by kernel_rfl) Step.refl.drew (fun hcls => ?_)
  refine Mix.wpL_reads 13 (by rfl) ?_
  simp only [List.take_succ_cons, List.drop_succ_cons, List.take_zero, List.drop_zero]
  repeat (go_big_quiet_step (fail))
  refine wpQuiet_nil ?_
  refine Mix.wpL_end ?_
  go_wp2_with fail
  clear d0 d1
  have d0 := cls_cell (F := fun _ => False) (w0 := w.drew) c0 id
  refine Mix.wp_region_mix [14] [] (Step (fun _ => False) w.drew) (by kernel_rfl) (by kernel_rfl) Step.refl.drew (fun hcls => ?_)
  refine Mix.wpL_reads 14 (by rfl) ?_
  simp only [List.take_succ_cons, List.drop_succ_cons, List.take_zero, List.drop_zero]
  repeat (go_big_quiet_step (fail))
  refine wpQuiet_nil ?_
  refine Mix.wpL_op (by rfl) (fun K hK => ?_)
  go_simp
  refine hK _ _ (fun hlt => absurd hlt (by decide)) ?_
  clear hK K
  refine Mix.wpL_end ?_
  go_wp2
  go_ret2
  refine ⟨rfl, ?_⟩
  have t := turned_of H.out.st (w1 := w) (D' := some ⟨g1, 0, none⟩) (c' := c1) (n' := ys.length) (ys := ys) Step.refl rfl HO.out (fun k hk => .inl hk)
  refine FsUp.quiet (H.out.vals HI.out t) ?_
  first | exact Step.refl | exact Step.refl.drew | exact Step.refl.drew.drew
end
end Go.Proofs.Ytokchoocelmdoaa
