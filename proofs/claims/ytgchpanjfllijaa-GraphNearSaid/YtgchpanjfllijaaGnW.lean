/-
  GraphNear: graph.Who.
-/
import Derived.Test.YtgchpanjfllijaaGnS
import Derived.Test.YtgchpanjfllijaaGnC
import Derived.Maps.RangeWalk
import Derived.Sort.KeysCollected
set_option linter.unusedVariables false
set_option linter.unusedSimpArgs false
namespace Go.Proofs.Ytgchpanjfllijaa
open Go.RowKit Go.Sort Go.Proofs

theorem coll_le {rows : List Rw} {D0 : DataW Value} {left : Lit → Bool} {ss : List Nm} (hC : Collected D0 left ss) (hf : ∀ x, Maps.has D0 (kl x) = (edgeF rows x).isSome) : ss.length ≤ rows.length := by
  have := sub_length ss (rows.map Rw.name) hC.1 (fun x hx => by
    have h1 := ((hC.2 x).1 hx).1
    have h2 := (hf x).symm.trans h1
    rw [edgeF_eq, Option.isSome_map] at h2
    obtain ⟨r, hr⟩ := Option.isSome_iff_exists.1 h2
    obtain ⟨h3, h4⟩ := fnd_some hr
    exact List.mem_map.2 ⟨r, h3, h4⟩)
  rwa [List.length_map] at this
set_option maxRecDepth 100000 in
set_option maxHeartbeats 3200000 in
theorem who_walk {rows : List Rw} {be ne : Nat} (hrows : rows.length ≤ 15) (hnd : ∀ r ∈ rows, r.needs.length ≤ 15) (hone : Once rows) (s : Nm) {w : World} (hT : ∀ r ∈ rows, Told w w.heap.size r) (hM : MapIs Try.prog w 9 be ne (edgeF rows)) :
    Calls Try.prog 16 #[.map (some be), .string (str s)] w fun e w' => ∃ D c m, e = .returned (.slice D m c) ∧ m = (sortF (whoF rows s)).length ∧ Reads w' (fun k => k < w'.heap.size) 1 D m (strs (sortF (whoF rows s))) ∧ Step (fun _ => False) w w' := by
  obtain ⟨D0, hown, hf⟩ := hM
  have HF := Lib.hid hf
  have HT := Lib.hid hT
  have HND := Lib.hid hnd
  have HON := Lib.hid hone
  have hbl := hown.lt
  have law := Maps.string_keyed (P := Try.prog) Try.underlying9
  obtain ⟨p, hp⟩ : ∃ p : Nm → Bool, p = fun x => (nds rows x).contains s := ⟨_, rfl⟩
  have HP := Lib.hid hp
  clear hf hT hnd hone hp
  go_enter Try.func16, Try.ntmps16
  go_wp2_with (first
    | (at_range; refine wpList_range_own _ rfl _ 25 rfl 9 28 law Try.underlying25 Rv be ne D0 rfl hown ?_; intro w0 hrg0 hg0 hs0)
    | fail)
  go_frame
  go_loopw [5] (fun ov wr => ∃ (left : Lit → Bool) (cnt m c : Nat) (D : Option Addr) (ss : List Nm), wr.ranges Try.prog 9 Rv be w.heap.size ne D0 left cnt ∧ ov = .slice D m c ∧ Hid (Collected D0 left ss) ∧ Hid ((ss.filter p).length = m) ∧ Hid (wr.ownsRow w.heap.size 9 1 (.slice D m c) m (strs (ss.filter p))) ∧ Hid (Step (fun _ => False) w wr)) (fun _ wr => wr.rangeLeft be w.heap.size)
  case atStart => exact ⟨_, _, 0, 0, none, [], hrg0, rfl, Collected.start D0, rfl, World.ownsRow_nil _ _ _ _, Step.refl.grown hg0 (fun k hk => by cases hk)⟩
  case round =>
    obtain ⟨left, cnt, m, c, D, ss, hrg, rfl, HC, HM, HO, HS⟩ := hrel
    have hssl := coll_le HC.out (fun x => (HF.out x).1)
    have hml : m ≤ 15 := by have := HM.out; have := List.length_filter_le p ss; omega
    clear hrg0 hg0 hs0
    go_wp2_with (first
      | (at_next; refine wpList_next_ranges _ rfl _ rfl 9 law Rv (fun x : Nm => Value.string (str x)) (fun v : Value => v) (fun key kl hk => by obtain ⟨x, hx, _⟩ := Maps.keyOf_str Try.underlying9 hk; exact ⟨x, hx⟩) (fun v y hv => ⟨v, rfl⟩) be w.heap.size ne _ _ _ rfl hrg ?_ ?_)
      | fail)
    · intro hc0 hl0
      have hso := sl_sort (w := wr) (l := ss.filter p) (D := D) (c := c) (B := w.heap.size) (by rw [HM.out]; exact HO.out) (by rw [HM.out]; omega)
      rw [HM.out] at hso
      replace hso := Lib.hid hso
      have HL := Lib.hid hl0
      clear hl0 hrg
      go_wp2_with fail
      refine hso.out.mono ?_
      rintro e w' ⟨rfl, ho, hs⟩
      have hw := who_law HON.out HC.out.1 (fun x => by
        rw [HC.out.2 x, HL.out]
        have := (HF.out x).1
        rw [kl] at this
        rw [this]
        simp) s
      rw [← HP.out] at hw
      rw [hw] at ho
      have HOo := Lib.hid ho
      have HSo := Lib.hid hs
      have HW := Lib.hid hw
      clear ho hs hw
      go_wp2_with fail
      go_ret
      refine ⟨D, c, m, rfl, ?_, (Reads.of_own HOo.out).mono (fun k hk _ => hk), HS.out.trans' HSo.out (fun k hk => .inr (own_ge HO.out k (by rwa [ownBlock_slice])))⟩
      rw [← HW.out, List.length_mergeSort, HM.out]
    · intro x c1 kl1 yd yp w2 cnt2 hkey hlk hv hat hrg2 hlt hg2 hs2 hen
      obtain ⟨x', ex, rfl, hxl⟩ := Maps.keyOf_str Try.underlying9 hkey
      obtain rfl : x = x' := encStr_inj ex
      have hhas : Maps.has D0 (.string x) = true := Maps.has_true_of_atKey hat
      have hfx := HF.out x
      rw [kl] at hfx
      obtain ⟨v0, hv0⟩ := Option.isSome_iff_exists.1 (hfx.1.symm.trans hhas)
      have hyd : yd = .held c1 := by
        unfold Rv at hv
        injection hv with hv
        injection hv with hv
        exact hv.symm
      have hc1 : c1 = v0 := by
        have h1 := hfx.2 c1
        rw [hv0, hat, hyd] at h1
        injection h1 with h1
      subst hc1
      rw [edgeF_eq] at hv0
      obtain ⟨r, hr, hrv⟩ := Option.map_eq_some_iff.1 hv0
      subst hrv
      have hrm := (fnd_some hr).1
      have hnx := nds_some hr
      have hrl := HND.out r hrm
      have HS2 : Hid (Step (fun _ => False) w w2) := HS.out.grown hg2 (fun k hk => by injection hk with hk; right; omega)
      have HO2 : Hid (w2.ownsRow w.heap.size 9 1 (.slice D m c) m (strs (ss.filter p))) := own_step HO.out (F := fun k => k = w.heap.size) (Step.refl.grown hg2 (fun k hk => .inl (by injection hk with hk; exact hk.symm))) (fun k hk e => by
        have := row_ne_iter HO.out hrg
        rw [hk, e] at this
        exact this rfl)
      have HSC := Lib.hid (sl_contains (w := w2) (c := r.cap) s ((HT.out r hrm).1.step HS2.out (fun _ _ => id)) (by omega))
      have hpx : p x = r.needs.contains s := by
        rw [HP.out]
        show (nds rows x).contains s = _
        rw [hnx]
      have HPX := Lib.hid hpx
      have HC2 := Lib.hid (HC.out.step hlk hat)
      clear hs2 hat hhas hfx hv hyd hnx hpx hkey ex hlk hv0 hr
      unfold Rw.val at hen
      go_wp2_with fail
      refine HSC.out.mono ?_
      rintro e w6 ⟨rfl, hw6⟩
      obtain rfl := hw6.symm
      clear hw6
      cases hcs : r.needs.contains s with
      | true =>
        have hone1 : ∀ u ∈ #[Value.string (str x)].toList, u.oneCell' = true := strs_one [x]
        have hm1 : m + 1 ≤ maxLen := by unfold maxLen; omega
        have hsz := HS2.out.size
        have HFL : Hid ((ss ++ [x]).filter p = ss.filter p ++ [x]) := by
          unfold Hid
          rw [List.filter_append]
          congr 1
          have hpt : p x = true := HPX.out.trans hcs
          simp [hpt]
        clear hcs
        go_wp2_with (at_builtin; refine wpList_append_src _ rfl _ _ (by rfl) E_str (by rfl) (HO2.out.alloc _) (by rfl) (reads_new _ #[Value.string (str x)] 9 1 1 rfl) hone1 hm1 (by omega) (by simp; omega) ?_; intro D3 c3 w3 hown3 hgrow3 hat3)
        have hrg3 := (hrg2.alloc (.cells #[Value.string (str x)] 9)).kept hgrow3 (by
          have := row_ne_low HO2.out hbl
          rwa [ownBlock_slice] at this) (by
          have := row_ne_iter HO2.out hrg2
          rwa [ownBlock_slice] at this)
        have HO3 := Lib.hid hown3
        have HG3 := Lib.hid hgrow3
        clear hown3 hgrow3 hat3
        go_roundw
        case rel => exact ⟨_, cnt2, m + 1, c3, D3, ss ++ [x], hrg3, rfl, HC2.out, by rw [HFL.out, List.length_append, HM.out]; rfl, by
          show w3.ownsRow _ _ _ _ _ _
          rw [HFL.out, strs_append]
          exact HO3.out, grow_step (HS2.out.alloc _) HG3.out (HO2.out.alloc _) (Nat.le_refl _)⟩
        case measure => rw [hrg3.left_eq, hrg.left_eq]; exact hlt
      | false =>
        have HFL : Hid ((ss ++ [x]).filter p = ss.filter p) := by
          unfold Hid
          rw [List.filter_append]
          have hpt : p x = false := HPX.out.trans hcs
          simp [hpt]
        clear hcs
        go_wp2_with fail
        go_roundw
        case rel => exact ⟨_, cnt2, m, c, D, ss ++ [x], hrg2, rfl, HC2.out, by rw [HFL.out]; exact HM.out, by rw [HFL.out]; exact HO2.out, HS2.out⟩
        case measure => rw [hrg2.left_eq, hrg.left_eq]; exact hlt
end Go.Proofs.Ytgchpanjfllijaa
