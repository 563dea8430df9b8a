/-
  Graph: what rows tell, each name's first one ('made' of the law).
-/
import Derived.Test.YtgchpanjfllijaaGrB
import Derived.Test.YtgchpanjfllijaaMix
set_option linter.unusedVariables false
set_option linter.unusedSimpArgs false
namespace Go.Proofs.Ytgchpanjfllijaa
open Go.RowKit

theorem E_row : ElemTy Try.prog 22 41 2 40 := elem_of Try.underlying22 (z := .agg #[.string ByteArray.empty, .slice none 0 0]) (by kernel_rfl) rfl (by decide)

def addRow (acc : List Rw) (r : Rw) : List Rw := if findI acc r.name < 0 then acc ++ [r] else acc
def rowsOf (l : List Rw) : List Rw := l.foldl addRow []
def Rw.val (r : Rw) : Value := .slice r.A r.needs.length r.cap
def edgeF (rows : List Rw) : Nm → Option Value := fun s => (rows.find? (fun r => r.name == s)).map Rw.val

theorem rowsOf_succ (l : List Rw) (k : Nat) (h : k < l.length) : rowsOf (l.take (k + 1)) = addRow (rowsOf (l.take k)) l[k] := by
  unfold rowsOf
  rw [List.take_succ_eq_append_getElem h, List.foldl_append]
  rfl
theorem addRow_le (acc : List Rw) (r : Rw) : (addRow acc r).length ≤ acc.length + 1 := by
  unfold addRow
  split <;> simp
theorem rowsOf_le : ∀ (l : List Rw) (k : Nat), k ≤ l.length → (rowsOf (l.take k)).length ≤ k
  | l, 0, _ => by simp [rowsOf]
  | l, k + 1, h => by
    rw [rowsOf_succ l k (by omega)]
    have := addRow_le (rowsOf (l.take k)) (l[k]'(by omega))
    have := rowsOf_le l k (by omega)
    omega
theorem addRow_mem {acc : List Rw} {r x : Rw} (h : x ∈ addRow acc r) : x ∈ acc ∨ x = r := by
  unfold addRow at h
  split at h
  · simpa using h
  · exact .inl h
theorem foldl_addRow_mem : ∀ (l acc : List Rw) (x : Rw), x ∈ l.foldl addRow acc → x ∈ acc ∨ x ∈ l
  | [], acc, x, h => .inl h
  | r :: l, acc, x, h => by
    rcases foldl_addRow_mem l (addRow acc r) x h with h | h
    · rcases addRow_mem h with h | rfl
      · exact .inl h
      · exact .inr (by simp)
    · exact .inr (by simp [h])
theorem rowsOf_mem {l : List Rw} {x : Rw} (h : x ∈ rowsOf l) : x ∈ l := by
  rcases foldl_addRow_mem l [] x h with h | h
  · exact absurd h (by simp)
  · exact h
theorem findI_neg {l : List Rw} {s : Nm} (h : findI l s < 0) : ∀ r ∈ l, ¬ r.name = s := by
  intro r hr he
  unfold findI at h
  have : (l.findIdx? (fun r => r.name == s)).isSome := by
    rw [List.findIdx?_isSome]
    exact List.any_eq_true.2 ⟨r, hr, by rw [he]; exact beq_self_eq_true _⟩
  obtain ⟨i, hi⟩ := Option.isSome_iff_exists.1 this
  rw [hi] at h
  simp at h
  omega
theorem edgeF_put {acc : List Rw} {r : Rw} (h : findI acc r.name < 0) : putF (edgeF acc) r.name r.val = edgeF (acc ++ [r]) := by
  funext s
  have hn := findI_neg h
  unfold putF edgeF
  rw [List.find?_append]
  by_cases hs : s = r.name
  · subst hs
    rw [if_pos rfl, List.find?_eq_none.2 (fun x hx => by simpa using hn x hx)]
    simp
  · rw [if_neg hs]
    cases hf : acc.find? (fun r => r.name == s) with
    | some x => simp
    | none => simp [show (r.name == s) = false from beq_eq_false_iff_ne.2 fun e => hs e.symm]

/-- What 'made' hands over. -/
def Made (w : World) (l : List Rw) (e : Ending) (w' : World) : Prop :=
  Step (fun _ => False) w w' ∧ (e = .returned (.tuple #[.map none, .slice none 0 0, .bool false]) ∨
    ∃ D c n, e = .returned (.tuple #[.map (some w.heap.size), .slice D (rowsOf l).length c, .bool true]) ∧ MapIs Try.prog w' 9 w.heap.size n (edgeF (rowsOf l)) ∧ n ≤ 15 ∧
      w'.ownsRow (w.heap.size + 1) 41 2 (.slice D (rowsOf l).length c) (rowsOf l).length (rws (rowsOf l)) ∧ l.length ≤ 15 ∧ ∀ r ∈ l, r.needs.length ≤ 15)

set_option maxRecDepth 100000 in
set_option maxHeartbeats 3200000 in
theorem made_walk {w : World} {A : Option Addr} {c : Nat} {l : List Rw} (hv : Reads w (fun k => k < w.heap.size) 2 A l.length (rws l)) (hl : l.length ≤ 9223372036854775807) (hnm : ∀ r ∈ l, r.name.length ≤ maxLen ∧ r.needs.length ≤ 9223372036854775807) :
    Calls Try.prog 7 #[.slice A l.length c] w (Made w l) := by
  have hs1 : Step (fun _ => False) w (w.alloc (.map #[] 0)) := Step.refl.alloc _
  have hmm := @run_makeMap Try.prog
  by_cases h15 : (15 : Int) < l.length
  · go_enter Try.func7, Try.ntmps7
    go_wp2_with fail
    go_ret3
    exact ⟨hs1, .inl rfl⟩
  · have hm0 := MapIs.made Try.prog w 9
    have hz0 : (w.alloc (.map #[] 0)).heap.size = w.heap.size + 1 := by simp
    have ho0 : (w.alloc (.map #[] 0)).ownsRow (w.heap.size + 1) 41 2 (.slice none 0 0) 0 (rws (rowsOf (l.take 0))) := World.ownsRow_nil _ _ _ _
    go_enter Try.func7, Try.ntmps7
    go_wp2_with fail
    go_loopw [6, 7] (fun rv i wr => ∃ (k cc n : Nat) (D : Option Addr), k ≤ l.length ∧ rv = .slice D (rowsOf (l.take k)).length cc ∧ i = .int .i64 (k : Int) ∧ n ≤ k ∧ Hid (Step (fun _ => False) w wr) ∧
      Hid (wr.ownsRow (w.heap.size + 1) 41 2 (.slice D (rowsOf (l.take k)).length cc) (rowsOf (l.take k)).length (rws (rowsOf (l.take k)))) ∧ Hid (MapIs Try.prog wr 9 w.heap.size n (edgeF (rowsOf (l.take k)))) ∧ Hid (∀ r ∈ l.take k, r.needs.length ≤ 15)) (fun _ i _ => l.length - (intOf i).toNat)
    case atStart => exact ⟨0, 0, 0, none, by omega, rfl, rfl, by omega, Lib.hid hs1, Lib.hid ho0, Lib.hid hm0, Lib.hid (by simp)⟩
    case round =>
      obtain ⟨k, cc, n, D, hk, rfl, rfl, hnk, HS, HO, HM, HN⟩ := hrel
      clear hm0 ho0 hs1
      have hle := rowsOf_le l k hk
      by_cases hlt : k < l.length
      · have hsucc := Lib.hid (rowsOf_succ l k hlt)
        obtain ⟨b, off, rfl, _, hbl, hc0, hc1⟩ := rw_cells (hv.step HS.out (fun _ _ => id)) hlt
        have i0 : (0 : Int) ≤ (k : Int) := by omega
        have i1 : (k : Int) < (l.length : Int) := by omega
        have hw := IntWalk.i64_in ((k : Int) + 1) (by omega)
        have hr := hnm l[k] (List.getElem_mem hlt)
        have hN' : Hid (l[k].needs.length ≤ 15 → ∀ r ∈ l.take (k + 1), r.needs.length ≤ 15) := Lib.hid fun h r hr => by
          rw [List.take_succ_eq_append_getElem hlt] at hr
          rcases List.mem_append.1 hr with hr | hr
          · exact HN.out r hr
          · simp at hr; subst hr; exact h
        generalize hacc : rowsOf (l.take k) = acc at *
        generalize hacc2 : rowsOf (l.take (k + 1)) = acc2 at *
        generalize l[k] = r at *
        by_cases hd : (15 : Int) < r.needs.length
        · go_wp2_with fail
          go_ret3
          exact ⟨HS.out, .inl rfl⟩
        · go_wp2_with fail
          refine (r35_find r.name (Reads.of_own HO.out) (by omega)).mono ?_
          rintro e w6 ⟨rfl, hw6⟩
          obtain rfl : wr = w6 := hw6.symm
          generalize hz : findI acc r.name = z at *
          by_cases hneg : z < 0
          · have hadd : acc2 = acc ++ [r] := by rw [hsucc.out]; unfold addRow; rw [hz, if_pos hneg]
            subst hadd
            have hb : b ≠ w.heap.size := by omega
            have d0 := cls_cell (F := fun k => k = w.heap.size) (w0 := wr) hc0 hb
            have d1 := cls_cell (F := fun k => k = w.heap.size) (w0 := wr) hc1 hb
            obtain ⟨w7, hrun, hM7, hS7⟩ := (HM.out.step (F := fun _ => False) (Step.refl.drew) id).put (t := 25) (e := 28) Try.underlying9 Try.underlying25 (by unfold maxLen; omega) r.name hr.1 r.val
            rw [show r.val = .slice r.A r.needs.length r.cap from rfl] at hrun
            go_wp2_with fail
            refine Mix.wp_region_mix [11] [] (Step (fun k => k = w.heap.size) wr) (by kernel_rfl) (by kernel_rfl) Step.refl.drew (fun hcls => ?_)
            refine Mix.wpL_reads 11 (by rfl) ?_
            simp only [List.take_succ_cons, List.drop_succ_cons, List.take_zero, List.drop_zero]
            repeat (go_big_quiet_step (fail))
            refine wpQuiet_nil ?_
            refine Mix.wpL_op (by rfl) (fun K hK => ?_)
            go_simp
            refine hK _ _ (fun hlt => absurd hlt (by decide)) ?_
            clear hK K hcls d0 d1 hrun
            refine Mix.wpL_end ?_
            rw [edgeF_put (by rw [hz]; exact hneg)] at hM7
            have HO7 := Lib.hid (own_step (own_drew HO.out) hS7 (fun k hk e => by have := own_ge HO.out k hk; omega))
            have HS7 := Lib.hid (HS.out.trans' (Step.refl.drew.trans' hS7 (fun _ h => .inl h)) (fun i hi => .inr (by omega)))
            have hc8 : w7.cell? ⟨b, off + k * 2, none⟩ = some (.string (str r.name)) := (hS7.cell hbl hb).trans hc0
            have hc9 : w7.cell? ⟨b, off + k * 2 + 1, none⟩ = some (.slice r.A r.needs.length r.cap) := (hS7.cell hbl hb).trans hc1
            have HM7 := Lib.hid hM7
            clear hM7 hS7 HM HO HS hc0 hc1
            have hm : acc.length + 1 ≤ maxLen := by unfold maxLen; omega
            have hsz := HS7.out.size
            have hone : ∀ u ∈ #[Value.string (str r.name), .slice r.A r.needs.length r.cap].toList, u.oneCell' = true := rws_one [r]
            go_wp2_with (at_builtin; refine wpList_append_src _ rfl _ _ (by rfl) E_row (by rfl) (HO7.out.alloc _) (by rfl) (reads_new _ #[Value.string (str r.name), .slice r.A r.needs.length r.cap] 41 2 1 rfl) hone hm (by omega) (by simp; omega) ?_; intro D' c' w8 hown8 hgrow hat)
            have hDb : ¬ blkOf D = some w.heap.size := fun e => by have := own_ge HO7.out w.heap.size (by rw [ownBlock_slice]; exact e); omega
            have hg8 : Step (fun k => blkOf D = some k) w7 w8 := Step.grown (Step.refl.alloc _) hgrow (fun k hk => .inl hk)
            have HM8 := Lib.hid (HM7.out.step hg8 hDb)
            have HS8 := Lib.hid (grow_step (HS7.out.alloc _) hgrow (HO7.out.alloc _) (Nat.le_succ _))
            have hrw : rws acc ++ #[Value.string (str r.name), .slice r.A r.needs.length r.cap].toList = rws (acc ++ [r]) := by rw [rws_append]; rfl
            rw [hrw] at hown8
            have hlen : acc.length + 1 = (acc ++ [r]).length := by simp
            rw [hlen] at hown8 ⊢
            exact ⟨⟨k + 1, c', n + 1, D', by omega, by rw [hacc2], by rw [Int.natCast_add]; rfl, by omega, HS8, by rw [hacc2]; exact hown8, by rw [hacc2]; exact HM8, Lib.hid (hN'.out (by omega))⟩, by rw [show intOf (.int .i64 ((k : Int) + 1)) = ((k + 1 : Nat) : Int) from rfl, show intOf (.int .i64 (k : Int)) = (k : Int) from rfl]; omega⟩
          · have hadd : acc2 = acc := by rw [hsucc.out]; unfold addRow; rw [hz, if_neg hneg]
            subst hadd
            go_wp2_with fail
            exact ⟨⟨k + 1, cc, n, D, by omega, by rw [hacc2], by rw [Int.natCast_add]; rfl, by omega, HS, by rw [hacc2]; exact HO, by rw [hacc2]; exact HM, Lib.hid (hN'.out (by omega))⟩, by rw [show intOf (.int .i64 ((k : Int) + 1)) = ((k + 1 : Nat) : Int) from rfl, show intOf (.int .i64 (k : Int)) = (k : Int) from rfl]; omega⟩
      · obtain rfl : k = l.length := by omega
        rw [List.take_length] at HO HM HN ⊢
        go_wp2_with fail
        go_ret3
        exact ⟨HS.out, .inr ⟨D, cc, n, rfl, HM.out, by omega, HO.out, by omega, HN.out⟩⟩
end Go.Proofs.Ytgchpanjfllijaa
