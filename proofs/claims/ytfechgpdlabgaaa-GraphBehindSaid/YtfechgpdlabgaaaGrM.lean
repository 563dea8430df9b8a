/-
  Graph: the statement GraphBehind, walked.
-/
import Derived.Test.YtfechgpdlabgaaaGrL
import Derived.Deep.QuietTactic
import Derived.BigQuiet
set_option linter.unusedVariables false
set_option linter.unusedSimpArgs false
namespace Go.Proofs.Ytfechgpdlabgaaa
open Go.RowKit

def OrdCap (w : World) (r : Ro) (e : Ending) (w' : World) : Prop := Step (fun _ => False) w w' ∧ match r with
  | .ok d => ∃ D c, e = .returned (.tuple #[.slice D d.length c, .string (str []), .int .i64 0]) ∧ Reads w' (fun k => k < w'.heap.size) 1 D d.length (strs d) ∧ d.length ≤ c
  | .error x => e = .returned (.tuple #[.slice none 0 0, .string (str x.1), .int .i64 x.2])

set_option maxRecDepth 100000 in
set_option maxHeartbeats 1600000 in
theorem order_cap {rows : List Rw} {be ne : Nat} (hrows : rows.length ≤ 15) (hnd : ∀ r ∈ rows, r.needs.length ≤ 15) (s : Nm) (hs : s.length ≤ maxLen) {w : World} (hT : ∀ r ∈ rows, Told w w.heap.size r) (hM : MapIs Try.prog w 9 be ne (edgeF rows)) :
    Calls Try.prog 22 #[.map (some be), .string (str s)] w (OrdCap w (visF rows (rows.length + 1) [] [] s)) := by
  have hmm := @run_makeMap Try.prog
  have hi : Inv rows [] [] := ⟨⟨List.nodup_nil, by simp⟩, ⟨List.nodup_nil, by simp⟩, by simp⟩
  have hS1 : Step (fun _ => False) w ((w.alloc (.map #[] 0)).alloc (.cells #[.map (some be), .map (some w.heap.size), .slice none 0 0] 126)) := (Step.refl.alloc _).alloc _
  have hV : Hid (VisAt ((w.alloc (.map #[] 0)).alloc (.cells #[.map (some be), .map (some w.heap.size), .slice none 0 0] 126)) w.heap.size be ne rows none 0 [] []) := by
    refine Lib.hid ⟨hM.lt, ?_, hM.step hS1 id, ?_, World.ownsRow_nil _ _ _ _⟩
    · have := Blk.new (w.alloc (.map #[] 0)) 126 #[.map (some be), .map (some w.heap.size), .slice none 0 0]
      simpa using this
    · have := (MapIs.made Try.prog w 9).step (F := fun _ => False) (Step.refl.alloc (.cells #[.map (some be), .map (some w.heap.size), .slice none 0 0] 126)) id
      exact this
  have HT := Lib.hid (fun r hr => (hT r hr).step hS1 (fun _ _ => id))
  have hz : (w.alloc (.map #[] 0)).heap.size = w.heap.size + 1 := by simp
  have HS1 := Lib.hid hS1
  have HI := Lib.hid hi
  clear hT hS1 hi hM
  go_enter Try.func22, Try.ntmps22
  go_wp2_with fail
  refine (visit_walk hrows hnd (rows.length + 1) [] [] s _ _ _ HI.out (by simp) hs HT.out hV.out).mono ?_
  rintro e w7 ⟨hS7, hRR⟩
  have HS7 : Hid (Step (fun _ => False) w w7) := Lib.hid (HS1.out.trans' hS7 (fun i hi => .inr hi))
  cases hv : visF rows (rows.length + 1) [] [] s with
  | ok d =>
    rw [hv] at hRR
    obtain ⟨rfl, D, c, hV7⟩ := hRR
    have c2 := hV7.blk.cell 2
    simp at c2
    have HO := Lib.hid hV7.own
    have HV0 := Lib.hid hv
    clear hV7 hS7 hv hV HS1
    go_wp2_with fail
    go_ret3
    refine ⟨HS7.out, ?_⟩
    rw [HV0.out]
    exact ⟨D, c, rfl, (Reads.of_own HO.out).mono (fun k hk _ => hk), own_cap HO.out⟩
  | error x =>
    rw [hv] at hRR
    subst hRR
    have hcode := visF_code _ [] [] s x hv
    obtain ⟨x1, x2⟩ := x
    have hne : ¬ x2 = 0 := by rcases hcode with h | h <;> dsimp only at h <;> omega
    have HV0 := Lib.hid hv
    clear hS7 hv hV HS1
    go_wp2_with fail
    go_ret3
    refine ⟨HS7.out, ?_⟩
    rw [HV0.out]
    rfl

set_option maxRecDepth 100000 in
set_option maxHeartbeats 3200000 in
theorem behind_walk (w : World) (A : Option Addr) (c : Nat) (l : List Rw) (root : Nm) (hv : Reads w (fun k => k < w.heap.size) 2 A l.length (rws l)) (hl : l.length ≤ 9223372036854775807)
    (hT : ∀ r ∈ l, Told w w.heap.size r) (hn : ∀ r ∈ l, r.needs.length ≤ 9223372036854775807) (hroot : root.length ≤ maxLen) :
    Calls Try.prog 7 #[.slice A l.length c, .string (str root)] w fun e w' => e = .returned (.bool true) ∧ Below w.heap.size w w' := by
  have HT := Lib.hid hT
  have HV := Lib.hid hv
  have HN := Lib.hid hn
  clear hT hv hn
  go_enter Try.func7, Try.ntmps7
  go_wp2_with fail
  refine (awake35 w).mono ?_
  rintro e w1 ⟨rfl, hS1⟩
  have HV1 := Lib.hid ((HV.out.step hS1 (fun _ _ => id)).mono (S' := fun k => k < w1.heap.size) (fun k hk _ => hk))
  have HS1 := Lib.hid hS1
  clear hS1
  go_wp2_with fail
  refine (made_walk HV1.out hl (fun r hr => ⟨(HT.out r hr).2.2.1, HN.out r hr⟩)).mono ?_
  rintro e w2 ⟨hS2, rfl | ⟨D, cc, n, rfl, hM, hn15, hO, hl15, hnd⟩⟩
  · go_wp2_with fail
    go_ret
    exact ⟨rfl, (HS1.out.trans hS2).below w.heap.size (fun _ _ h => h.elim) (Nat.le_refl _)⟩
  · have hrows := rowsOf_len l hl15
    have HND : Hid (∀ r ∈ rowsOf l, r.needs.length ≤ 15) := Lib.hid fun r hr => hnd r (rowsOf_mem hr)
    have HS2 := Lib.hid (HS1.out.trans hS2)
    have HT2 : Hid (∀ r ∈ rowsOf l, Told w2 w2.heap.size r) := Lib.hid fun r hr => (HT.out r (rowsOf_mem hr)).next HS2.out
    have HM := Lib.hid hM
    have HO := Lib.hid hO
    have HR2 := Lib.hid ((Reads.of_own hO).mono (S' := fun k => k < w2.heap.size) (fun k hk _ => hk))
    generalize rowsOf l = rows at *
    clear hM hO hnd hS2
    have hle2 := HS2.out.size
    go_wp2_with fail
    refine (order_cap hrows HND.out root hroot HT2.out HM.out).mono ?_
    rintro e w3 ⟨hS3, hR3⟩
    have HS3 := Lib.hid (HS2.out.trans hS3)
    have HT3 : Hid (∀ r ∈ rows, Told w3 w3.heap.size r) := Lib.hid fun r hr => (HT2.out r hr).next hS3
    have HM3 := Lib.hid (HM.out.step hS3 id)
    have HR3 := Lib.hid ((HR2.out.step hS3 (fun _ _ => id)).mono (S' := fun k => k < w3.heap.size) (fun k hk _ => hk))
    have hnl := near_le root hrows HND.out
    cases hR : visF rows (rows.length + 1) [] [] root with
    | error x =>
      rw [hR] at hR3
      dsimp only at hR3
      subst hR3
      obtain ⟨e1, e3, e2⟩ := error_says hrows HND.out hR
      have hxl : x.1.length ≤ maxLen := by
        rcases List.mem_cons.1 e3 with e | e
        · rw [e]; exact hroot
        · obtain ⟨r, hr, ht⟩ := List.mem_flatMap.1 e
          exact (HT2.out r hr).2.2.2 _ ht
      obtain ⟨x1, x2⟩ := x
      dsimp only at e1 e2 hxl
      clear hS3 hR e3
      go_wp2_with fail
      refine (near_walk hrows HND.out root hroot HT3.out HM3.out).mono ?_
      rintro e w4 ⟨hS4, D4, c4, rfl, hD4⟩
      have HS4 := Lib.hid (HS3.out.trans hS4)
      have HT4 : Hid (∀ r ∈ rows, Told w4 w4.heap.size r) := Lib.hid fun r hr => (HT3.out r hr).next hS4
      have HM4 := Lib.hid (HM3.out.step hS4 id)
      have HR4 := Lib.hid ((HR3.out.step hS4 (fun _ _ => id)).mono (S' := fun k => k < w4.heap.size) (fun k hk _ => hk))
      have HD4 := Lib.hid hD4
      clear hD4 hS4
      rcases e2 with ⟨rfl, e2⟩ | ⟨rfl, e2⟩
      · go_wp2_with fail
        refine (r35_has x1 HD4.out (by omega)).mono ?_
        rintro e w6 ⟨rfl, hw6⟩
        obtain rfl : w4 = w6 := hw6.symm
        rw [e1]
        go_wp2_with fail
        refine (r35_find x1 HR4.out (by omega)).mono ?_
        rintro e w6 ⟨rfl, hw6⟩
        obtain rfl : w4 = w6 := hw6.symm
        rw [e2]
        go_wp2_with fail
        go_ret
        exact ⟨rfl, HS4.out.below w.heap.size (fun _ _ h => h.elim) (Nat.le_refl _)⟩
      · go_wp2_with fail
        refine (r35_has x1 HD4.out (by omega)).mono ?_
        rintro e w6 ⟨rfl, hw6⟩
        obtain rfl : w4 = w6 := hw6.symm
        rw [e1]
        go_wp2_with fail
        refine (cyclic_walk hrows HND.out x1 hxl HT4.out HM4.out).mono ?_
        rintro e w5 ⟨rfl, hS5⟩
        rw [e2]
        have HS5 := Lib.hid (HS4.out.trans hS5)
        clear hS5
        go_wp2_with fail
        go_ret
        exact ⟨rfl, HS5.out.below w.heap.size (fun _ _ h => h.elim) (Nat.le_refl _)⟩
    | ok d =>
      rw [hR] at hR3
      obtain ⟨D3, c3, rfl, hD3, hc3⟩ := hR3
      obtain ⟨hdl, hlen, hB, hall⟩ := order_says hrows HND.out hR
      have HB := Lib.hid hB
      have HA := Lib.hid hall
      have HD3 := Lib.hid hD3
      clear hS3 hR hD3 hB hall
      go_wp2_with fail
      refine (near_walk hrows HND.out root hroot HT3.out HM3.out).mono ?_
      rintro e w4 ⟨hS4, D4, c4, rfl, hD4⟩
      have HS4 := Lib.hid (HS3.out.trans hS4)
      have HT4 : Hid (∀ r ∈ rows, Told w4 w4.heap.size r) := Lib.hid fun r hr => (HT3.out r hr).next hS4
      have HR4 := Lib.hid ((HR3.out.step hS4 (fun _ _ => id)).mono (S' := fun k => k < w4.heap.size) (fun k hk _ => hk))
      have HO4 := Lib.hid ((HD3.out.step hS4 (fun _ _ => id)).mono (S' := fun k => k < w4.heap.size) (fun k hk _ => hk))
      have HD4 := Lib.hid hD4
      clear hD4 hS4
      generalize nearOf rows root = near at *
      go_wp2_with fail
      go_loopw [12] (fun i wr => ∃ (k : Nat), k ≤ d.length ∧ i = .int .i64 (k : Int) ∧ Hid (Step (fun _ => False) w4 wr)) (fun i _ => d.length - (intOf i).toNat)
      case atStart => exact ⟨0, by omega, rfl, Lib.hid Step.refl⟩
      case round =>
        obtain ⟨k, hk, rfl, HS⟩ := hrel
        by_cases hlt : k < d.length
        · have i0 : (0 : Int) ≤ (k : Int) := by omega
          have i1 : (k : Int) < (d.length : Int) := by omega
          have hw := IntWalk.i64_in ((k : Int) + 1) (by omega)
          obtain ⟨hx1, j, hj, hx2, hx3⟩ := HA.out _ (List.getElem_mem hlt)
          have hx4 := Lib.hid (HB.out k hlt)
          obtain ⟨ad, u, rfl, _, hbl, hu, hc⟩ := (HO4.out.step HS.out (fun _ _ => id)).at_ hlt
          rw [strs_get d k hlt] at hu
          injection hu with hu
          subst hu
          rw [nds_some hx2] at hx4
          have hrj := Lib.hid (HT4.out _ (List.getElem_mem hj))
          have hrn := HND.out _ (List.getElem_mem hj)
          have HRk := Lib.hid (HR4.out.step HS.out (fun _ _ => id))
          obtain ⟨b, off, rfl, _, hbl2, _, hc14⟩ := rw_cells HR4.out hj
          have hc1 := (HS.out.cell (p := ⟨b, off + j * 2 + 1, none⟩) hbl2 id).trans hc14
          have HC14 := Lib.hid hc14
          clear hc14
          have j0 : (0 : Int) ≤ (j : Int) := by omega
          have j1 : (j : Int) < (rows.length : Int) := by omega
          have j2 : ¬ (j : Int) < 0 := by omega
          generalize rows[j] = r at *
          generalize d[k] = x at *
          go_wp2_with fail
          refine (r35_find x HRk.out (by omega)).mono ?_
          rintro e w6 ⟨rfl, hw6⟩
          obtain rfl : wr = w6 := hw6.symm
          rw [hx3]
          go_wp2_with fail
          refine (r35_has x (HD4.out.step HS.out (fun _ _ => id)) (by omega)).mono ?_
          rintro e w6 ⟨rfl, hw6⟩
          obtain rfl : wr = w6 := hw6.symm
          rw [hx1]
          go_wp2_with fail
          have sh := slice_hn E_str (some ad) d.length c3 .i64 (k : Int) k rfl (by omega)
          have hkl : (d.take k).length = k := by rw [List.length_take]; omega
          have hRt := (HO4.out.take (Nat.le_of_lt hlt))
          rw [Nat.mul_one, strs_take] at hRt
          have HRt : Hid (Reads w4 (fun k => k < w4.heap.size) 1 (some ad) (d.take k).length (strs (d.take k))) := Lib.hid (by rw [hkl]; exact hRt)
          have hhas : Hid (∀ (W : World) (t : Nm), Step (fun _ => False) w4 W → t ∈ r.needs → Calls Try.prog 34 #[.slice (some ad) k c3, .string (str t)] W fun e w' => e = .returned (.bool true) ∧ w' = W) := Lib.hid fun W t hW ht => by
            have h := r35_has (c := c3) t (HRt.out.step hW (fun _ _ => id)) (by omega)
            rw [hkl, List.contains_iff_mem.2 (hx4.out t ht)] at h
            exact h
          clear hRt hkl hx4 HRt
          go_loopw [14] (fun i wr => ∃ (m : Nat), m ≤ r.needs.length ∧ i = .int .i64 (m : Int) ∧ Hid (Step (fun _ => False) w4 wr)) (fun i _ => r.needs.length - (intOf i).toNat)
          case atStart => exact ⟨0, by omega, rfl, HS⟩
          case round =>
            obtain ⟨m, hm, rfl, HS2⟩ := hrel
            have hc2 := (HS2.out.cell (p := ⟨b, off + j * 2 + 1, none⟩) hbl2 id).trans HC14.out
            by_cases hlt2 : m < r.needs.length
            · obtain ⟨ad2, u, had2, _, hbl3, hu, hc5⟩ := (hrj.out.1.step HS2.out (fun _ _ => id)).at_ hlt2
              rw [strs_get r.needs m hlt2] at hu
              injection hu with hu
              subst hu
              rw [had2] at hc2
              have m0 : (0 : Int) ≤ (m : Int) := by omega
              have m1 : (m : Int) < (r.needs.length : Int) := by omega
              have hw2 := IntWalk.i64_in ((m : Int) + 1) (by omega)
              have HH : Hid (∀ n, Calls Try.prog 34 #[.slice (some ad) k c3, .string (str r.needs[m])] (wr.drewN n) fun e w' => e = .returned (.bool true) ∧ w' = wr.drewN n) := Lib.hid fun n => hhas.out _ _ (HS2.out.drewN n) (List.getElem_mem hlt2)
              generalize r.needs[m] = t at *
              go_wp2_with (go_quiet ((go_at_call 34; exact Calls.quiet_of_same (HH.out _))))
              go_roundw
              case rel => exact ⟨m + 1, by omega, by rw [Int.natCast_add]; rfl, Lib.hid (HS2.out.drewN _)⟩
              case measure => simp [intOf]; omega
            · obtain rfl : m = r.needs.length := by omega
              go_wp2_with fail
              go_roundw
              case rel => exact ⟨k + 1, by omega, by rw [Int.natCast_add]; rfl, HS2⟩
              case measure => simp [intOf]; omega
        · obtain rfl : k = d.length := by omega
          go_wp2_with fail
          go_ret
          exact ⟨rfl, (HS4.out.trans HS.out).below w.heap.size (fun _ _ h => h.elim) (Nat.le_refl _)⟩
end Go.Proofs.Ytfechgpdlabgaaa
