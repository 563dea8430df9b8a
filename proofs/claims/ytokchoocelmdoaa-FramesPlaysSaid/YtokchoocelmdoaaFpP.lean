/-
  FramesPlays: leave.
-/
import Derived.Test.YtokchoocelmdoaaFpO
set_option linter.unusedVariables false
set_option linter.unusedSimpArgs false
namespace Go.Proofs.Ytokchoocelmdoaa
open Go.RowKit

section
variable {w w1 w2 w' : World} {I I' : Nat → Prop} {g c : Nat} {A : Option Addr} {l l' : List It} {fs fs' : List Fm} {most : Int}
theorem back_len {a n : Nat} (hn : n ≤ (valsI (l.drop a)).length) : (backI l a n).length ≤ l.length := by
  have h1 := valsI_le (l.drop a)
  rw [List.length_drop] at h1
  rw [backI, List.length_append, List.length_map, List.length_drop, List.length_take]
  omega
theorem vals_len : (valsI l).length ≤ l.length := valsI_le l
theorem labs_len : (labsI 0 l).length ≤ l.length := by rw [labsI_length]; exact cntI_le 1 l
theorem Fst.len (h : Fst w I g l fs most) (hg : Good l) : fs.length ≤ l.length := by rw [h.flen hg]; exact cntI_le 2 l
/-- Some call leaves the list so, no longer than 'n'. -/
def SAny (w : World) (I : Nat → Prop) (g : Nat) (A : Option Addr) (n : Nat) (most : Int) (e : Ending) (w' : World) : Prop := ∃ l', l'.length ≤ n ∧ SDo w I g A l' most e w'
theorem sdo_same (H : Sta w I g A c l most) (hs : Step (fun _ => False) w w') : SDo w I g A l most (.returned (.tuple #[.slice A l.length c, .bool true])) w' := by
  obtain ⟨fs, hf⟩ := H.fst
  exact sdo Upd.refl (hf.quiet hs) (hs.mono fun _ _ e => e.elim) (own_step H.own hs (fun _ _ => id)) (fun _ e => .inl e) H.good
set_option maxRecDepth 100000 in
set_option maxHeartbeats 1600000 in
theorem leave_walk (H : Sta w I g A c l most) (hz : l.length ≤ 1000) :
    Calls Try.prog 24 #[.pointer (some ⟨g, 0, none⟩), .slice A l.length c] w (SAny w I g A l.length most) := by
  obtain ⟨fs, hf⟩ := H.fst
  have HR := Reads.of_own H.own
  have hcap := own_cap H.own
  by_cases hneg : lastI l 2 < 0
  · obtain rfl := hf.none H.good hneg
    have HL := r_last (c := c) 2 HR (by omega)
    have HE := Lib.hid (fs_leave_none hf.1)
    have HD := Lib.hid (sdo_same H (Step.refl : Step (fun _ => False) w w))
    have g0 : decide (lastI l 2 < 0) = true := decide_eq_true hneg
    generalize lastI l 2 = at_ at *
    replace HL := Lib.hid HL
    clear H hf HR hcap hneg
    go_enter Try.func24, Try.ntmps24
    go_wp2_with fail
    refine HL.out.mono ?_
    rintro e w' ⟨rfl, hw⟩
    obtain rfl := hw.symm
    clear hw
    go_wp2_with fail
    refine HE.out.mono ?_
    rintro e w' ⟨rfl, hw⟩
    obtain rfl := hw
    go_wp2_with fail
    go_ret2
    exact ⟨l, Nat.le_refl _, HD.out⟩
  · obtain ⟨a, ha, e1, e2, e3⟩ := lastI_some (Int.not_lt.1 hneg)
    obtain ⟨pre, f, rfl, k1, k2, k3, k4⟩ := hf.split ha e2 H.good e3
    have HL := r_last (c := c) 2 HR (by omega)
    rw [e1] at HL
    replace HL := Lib.hid HL
    have hvl := vals_len (l := l)
    have hll := labs_len (l := l)
    have hfl := hf.len H.good
    rw [List.length_append] at hfl
    simp at hfl
    have hr1 := (H.good _ (List.getElem_mem ha)).2.2
    rw [← k2] at hr1
    have hvs := congrArg List.length (vals_split (l := l) a)
    rw [List.length_append] at hvs
    have g0 : decide ((a : Int) < 0) = false := decide_eq_false (by omega)
    have i0 : (0 : Int) ≤ (a : Int) := by omega
    have i1 : (a : Int) < (l.length : Int) := by omega
    have hcl : cntI 1 (l.take a) ≤ (labsI 0 l).length := by rw [labsI_length, ← List.take_append_drop a l, cntI_append, List.take_append_drop]; omega
    by_cases hfew : (valsI (l.drop a)).length < f.rs.size
    · have HE := Lib.hid (fs_leave_err pre f hf.1 (by omega) (by omega) (by omega) (by rw [k4]; omega))
      have HB : Hid (∀ W, Step (fun _ => False) w W → Calls Try.prog 33 #[.slice A l.length c, .int .i64 (a : Int), .int .i64 (f.rs.size : Int)] W fun e w' => e = .returned (.tuple #[.slice A l.length c, .bool false]) ∧ Step (fun _ => False) W w') := fun W hW =>
        r_back_few a f.rs.size (HR.step hW (fun _ _ => id)) (by omega) (by omega) hcap hfew
      have HC : Hid (∀ W, Step (fun _ => False) w W → ∃ b off, A = some ⟨b, off, none⟩ ∧ W.cell? ⟨b, off + a * 7 + 6, none⟩ = some (.int .i64 (f.rs.size : Int))) := fun W hW => by
        obtain ⟨b, off, e4, _, _, hc⟩ := reads_cells It.cells 7 (by decide) It.len (HR.step hW (fun _ _ => id)) (k := a) ha
        exact ⟨b, off, e4, by rw [k2]; exact hc 6 _ rfl⟩
      have HD : Hid (∀ W, Step (fun _ => False) w W → SDo w I g A l most (.returned (.tuple #[.slice A l.length c, .bool true])) W) := fun W hW => sdo_same H hW
      clear H hf HR e1 e2 e3 k1 k2 k3 k4 hneg hfew hvs hr1 hcl
      go_enter Try.func24, Try.ntmps24
      go_wp2_with fail
      refine HL.out.mono ?_
      rintro e w' ⟨rfl, hw⟩
      obtain rfl := hw.symm
      clear hw
      go_wp2_with fail
      refine HE.out.mono ?_
      rintro e W ⟨rfl, hs⟩
      have HS := Lib.hid hs
      obtain ⟨b, off, rfl, c6⟩ := HC.out W hs
      clear hs HC
      go_wp2_with fail
      refine (HB.out W HS.out).mono ?_
      rintro e U ⟨rfl, hs⟩
      have HU := Lib.hid (HS.out.trans hs)
      clear hs c6
      go_wp2_with fail
      go_ret2
      exact ⟨l, Nat.le_refl _, HD.out _ HU.out⟩
    · have hgood : f.rs.size ≤ (valsI (l.drop a)).length := by omega
      have HE := fs_leave pre f hf.1 (by omega) (by omega) (by omega) (by rw [k4]; omega) (by rw [k3]; exact hcl) (by omega)
      rw [k4, k3, keep_vals hgood] at HE
      have hlt : (labsI 0 l).take (cntI 1 (l.take a)) = labsI 0 (l.take a) := by
        have e : labsI 0 l = labsI 0 (l.take a) ++ labsI (0 + (valsI (l.take a)).length) (l.drop a) := by rw [← labsI_append, List.take_append_drop]
        rw [e, ← labsI_length (l.take a) 0, List.take_left]
      rw [hlt, ← (back_labs (l := l) (a := a) (n := f.rs.size)).1] at HE
      replace HE := Lib.hid HE
      have HK : Hid (pre.map Fm.key = frsI 0 0 (backI l a f.rs.size)) := by unfold Hid; rw [back_labs.2]; exact k1
      have HFAR := Lib.hid (hf.far H.own)
      have HO := Lib.hid H.own
      have HG := Lib.hid (back_good (a := a) (n := f.rs.size) H.good)
      have HBL := Lib.hid (back_len hgood)
      have HC : Hid (∀ W, Reads W (fun k => blkOf A = some k) 7 A l.length (its l) → ∃ b off, A = some ⟨b, off, none⟩ ∧ W.cell? ⟨b, off + a * 7 + 6, none⟩ = some (.int .i64 (f.rs.size : Int))) := fun W hW => by
        obtain ⟨b, off, e4, _, _, hc⟩ := reads_cells It.cells 7 (by decide) It.len hW (k := a) ha
        exact ⟨b, off, e4, by rw [k2]; exact hc 6 _ rfl⟩
      have HB : Hid (∀ W, Reads W (fun k => blkOf A = some k) 7 A l.length (its l) → Calls Try.prog 33 #[.slice A l.length c, .int .i64 (a : Int), .int .i64 (f.rs.size : Int)] W fun e w' => ∃ D c', e = .returned (.tuple #[.slice D (backI l a f.rs.size).length c', .bool true]) ∧ ItNew W D c' (backI l a f.rs.size) w') := fun W hW =>
        r_back a f.rs.size hW (by omega) (by omega) hcap hgood
      generalize backI l a f.rs.size = bk at *
      clear H hf HR e1 e2 e3 k1 k2 k3 k4 hneg hfew hvs hr1 hcl hgood hlt
      go_enter Try.func24, Try.ntmps24
      go_wp2_with fail
      refine HL.out.mono ?_
      rintro e w' ⟨rfl, hw⟩
      obtain rfl := hw.symm
      clear hw
      go_wp2_with fail
      refine HE.out.mono ?_
      rintro e W ⟨rfl, I', h', u⟩
      have HO1 := Lib.hid (own_step HO.out u.1 (fun k hk => HFAR.out k (by rwa [ownBlock_slice] at hk)))
      have HH := Lib.hid h'
      have HU := Lib.hid u
      have hrd := (Reads.of_own HO1.out).mono (S' := fun k => blkOf A = some k) (fun k _ hk => by rwa [ownBlock_slice] at hk)
      have HB1 := Lib.hid (HB.out W hrd)
      obtain ⟨b, off, rfl, c6⟩ := HC.out W hrd
      clear h' u hrd HC HB
      go_wp2_with fail
      refine HB1.out.mono ?_
      rintro e U ⟨D, c', rfl, hn⟩
      have HN := Lib.hid hn
      clear hn c6
      go_wp2_with fail
      go_ret2
      exact ⟨bk, HBL.out, sdo (I' := I') HU.out ⟨HH.out.quiet HN.out.2, HK.out⟩ (HN.out.2.mono fun _ _ e => e.elim) (own_base HN.out.1 (fun _ _ => Nat.zero_le _)) (fun k hk => .inr (Nat.le_trans HU.out.1.size (own_ge HN.out.1 k (by rwa [ownBlock_slice])))) HG.out⟩
end
end Go.Proofs.Ytokchoocelmdoaa
