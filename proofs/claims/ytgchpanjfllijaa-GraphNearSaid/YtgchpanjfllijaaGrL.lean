/-
  Graph: Cyclic; the statement GraphBehind, walked.
-/
import Derived.Test.YtgchpanjfllijaaGrK
set_option linter.unusedVariables false
set_option linter.unusedSimpArgs false
namespace Go.Proofs.Ytgchpanjfllijaa
open Go.RowKit

theorem Told.next {w w' : World} {r : Rw} (h : Told w w.heap.size r) (hs : Step (fun _ => False) w w') : Told w' w'.heap.size r :=
  ⟨(h.1.step hs (fun _ _ => id)).mono (fun k hk _ => hk), h.2⟩
/-- Does a name need itself, at last? -/
def cyc (rows : List Rw) (s : Nm) : Bool := (nds rows s).any fun t => (nearOf rows t).contains s
theorem near_le {rows : List Rw} (s : Nm) (hr : rows.length ≤ 15) (hn : ∀ r ∈ rows, r.needs.length ≤ 15) : (nearOf rows s).length ≤ 226 := by
  obtain ⟨h1, h2⟩ := near_law s hr hn
  have := sub_length _ (univ rows s) h1 (fun x hx => ((h2 x).1 hx).univ)
  have := univ_le (s := s) hr hn
  omega

set_option maxRecDepth 100000 in
set_option maxHeartbeats 1600000 in
theorem cyclic_walk {rows : List Rw} {be ne : Nat} (hrows : rows.length ≤ 15) (hnd : ∀ r ∈ rows, r.needs.length ≤ 15) (s : Nm) (hs : s.length ≤ maxLen) {w : World} (hT : ∀ r ∈ rows, Told w w.heap.size r) (hM : MapIs Try.prog w 9 be ne (edgeF rows)) :
    Calls Try.prog 14 #[.map (some be), .string (str s)] w fun e w' => e = .returned (.bool (cyc rows s)) ∧ Step (fun _ => False) w w' := by
  have HM := Lib.hid hM
  have HT := Lib.hid hT
  have HND := Lib.hid hnd
  obtain ⟨A, cA, hlook, hRA, hl15, htl⟩ := edge_look hM hT hnd s hs
  obtain ⟨b, hb⟩ : ∃ b, b = cyc rows s := ⟨_, rfl⟩
  rw [← hb]
  have HB := Lib.hid hb
  have HTL := Lib.hid htl
  have HRA := Lib.hid hRA
  clear hM hT hnd hb htl hRA
  have HB : Hid (b = (nds rows s).any fun t => (nearOf rows t).contains s) := HB
  generalize nds rows s = ts at *
  go_enter Try.func14, Try.ntmps14
  go_wp2_with fail
  go_loopw [11] (fun i wr => ∃ (k : Nat), k ≤ ts.length ∧ i = .int .i64 (k : Int) ∧ Hid (Step (fun _ => False) w wr) ∧ Hid (b = (ts.drop k).any fun t => (nearOf rows t).contains s)) (fun i _ => ts.length - (intOf i).toNat)
  case atStart => exact ⟨0, by omega, rfl, Lib.hid Step.refl, HB⟩
  case round =>
    obtain ⟨k, hk, rfl, HS, HC⟩ := hrel
    by_cases hlt : k < ts.length
    · have hst := HRA.out.step HS.out (fun _ _ => id)
      obtain ⟨ad, u, rfl, _, hbl, hu, hc⟩ := hst.at_ hlt
      rw [strs_get ts k hlt] at hu
      injection hu with hu
      subst hu
      have htl := HTL.out _ (List.getElem_mem hlt)
      have hdrop : ts.drop k = ts[k] :: ts.drop (k + 1) := List.drop_eq_getElem_cons hlt
      rw [hdrop, List.any_cons] at HC
      have i0 : (0 : Int) ≤ (k : Int) := by omega
      have i1 : (k : Int) < (ts.length : Int) := by omega
      have hw := IntWalk.i64_in ((k : Int) + 1) (by omega)
      generalize ts[k] = t at *
      go_wp2_with fail
      refine (near_walk hrows HND.out t htl (fun r hr => (HT.out r hr).next HS.out) (HM.out.step HS.out id)).mono ?_
      rintro e w2 ⟨hS2, D, c, rfl, hD⟩
      have HD := Lib.hid hD
      have HS2 := Lib.hid (HS.out.trans hS2)
      have hnl := near_le t hrows HND.out
      clear hS2 hD
      go_wp2_with fail
      refine (sl_contains s HD.out (by omega)).mono ?_
      rintro e w6 ⟨rfl, hw6⟩
      obtain rfl : w2 = w6 := hw6.symm
      cases hct : (nearOf rows t).contains s with
      | true =>
        rw [hct, Bool.true_or] at HC
        have hq := HC.out
        subst hq
        go_wp2_with fail
        go_ret
        exact ⟨rfl, HS2.out⟩
      | false =>
        rw [hct, Bool.false_or] at HC
        go_wp2_with fail
        exact ⟨⟨k + 1, by omega, by rw [Int.natCast_add]; rfl, HS2, HC⟩, by rw [show intOf (.int .i64 ((k : Int) + 1)) = ((k + 1 : Nat) : Int) from rfl, show intOf (.int .i64 (k : Int)) = (k : Int) from rfl]; omega⟩
    · obtain rfl : k = ts.length := by omega
      rw [List.drop_length, List.any_nil] at HC
      have hq := HC.out
      subst hq
      go_wp2_with fail
      go_ret
      exact ⟨rfl, HS.out⟩

/-- What an order tells. -/
theorem order_says {rows : List Rw} {root : Nm} {d : List Nm} (hr : rows.length ≤ 15) (hn : ∀ r ∈ rows, r.needs.length ≤ 15) (h : visF rows (rows.length + 1) [] [] root = .ok d) :
    d.length ≤ 15 ∧ d.length = (nearOf rows root).length ∧ Behind rows d ∧ ∀ x ∈ d, (nearOf rows root).contains x = true ∧ ∃ k, ∃ h : k < rows.length, fnd rows x = some rows[k] ∧ findI rows x = (k : Int) := by
  have hi : Inv rows [] [] := ⟨⟨List.nodup_nil, by simp⟩, ⟨List.nodup_nil, by simp⟩, by simp⟩
  obtain ⟨i1, _⟩ := visF_inv _ [] [] root d hi (by simp) h
  obtain ⟨⟨b1, b2⟩, _, b3⟩ := visF_ok (root := root) _ [] [] root d (by simp) (by simp) hi.wy ⟨fun i h => absurd h (by simp), by simp⟩ .refl h
  obtain ⟨n1, n2⟩ := near_law root hr hn
  have hall : ∀ x, Reach rows root x → x ∈ d := fun x hx => by
    induction hx with
    | refl => exact b3
    | step _ ht ih =>
      obtain ⟨j, hj, rfl⟩ := List.mem_iff_getElem.1 ih
      exact List.mem_of_mem_take (b1 j hj _ ht)
  have l1 := sub_length d (nearOf rows root) i1.dn.nodup (fun x hx => (n2 x).2 (b2 x hx))
  have l2 := sub_length (nearOf rows root) d n1 (fun x hx => hall x ((n2 x).1 hx))
  refine ⟨by have := i1.dn.le; omega, by omega, b1, fun x hx => ⟨List.contains_iff_mem.2 ((n2 x).2 (b2 x hx)), ?_⟩⟩
  rcases fnd_findI (rows := rows) (s := x) with ⟨hn, _⟩ | ⟨k, hk, hs, hf, _⟩
  · obtain ⟨r, hr, e⟩ := i1.dn.told x hx
    have := (List.find?_eq_none.1 hn) r hr
    simp [e] at this
  · exact ⟨k, hk, hs, hf⟩
/-- What an error tells. -/
theorem error_says {rows : List Rw} {root : Nm} {x : Nm × Int} (hr : rows.length ≤ 15) (hn : ∀ r ∈ rows, r.needs.length ≤ 15) (h : visF rows (rows.length + 1) [] [] root = .error x) :
    (nearOf rows root).contains x.1 = true ∧ x.1 ∈ univ rows root ∧ ((x.2 = 40 ∧ findI rows x.1 = -1) ∨ (x.2 = 41 ∧ cyc rows x.1 = true)) := by
  obtain ⟨h1, h2⟩ := visF_err (root := root) _ [] [] root x (by simp) .refl h
  obtain ⟨n1, n2⟩ := near_law root hr hn
  refine ⟨List.contains_iff_mem.2 ((n2 _).2 h1), h1.univ, ?_⟩
  rcases h2 with ⟨e, hf⟩ | ⟨e, t, ht, hr'⟩
  · refine .inl ⟨e, ?_⟩
    rcases fnd_findI (rows := rows) (s := x.1) with ⟨_, h⟩ | ⟨k, hk, hs, _, _⟩
    · exact h
    · rw [hs] at hf; cases hf
  · exact .inr ⟨e, List.any_eq_true.2 ⟨t, ht, List.contains_iff_mem.2 (((near_law t hr hn).2 _).2 hr')⟩⟩
end Go.Proofs.Ytgchpanjfllijaa
