/-
  Graph: visit and Order of the program.
-/
import Derived.Test.YtgchpanjfllijaaGrE
set_option linter.unusedVariables false
set_option linter.unusedSimpArgs false
namespace Go.Proofs.Ytgchpanjfllijaa
open Go.RowKit

/-- The state of each name. -/
def stF (way done : List Nm) : Nm → Option Value := fun x => if way.contains x then some (.int .i64 1) else if done.contains x then some (.int .i64 2) else none
theorem stF_one {way done : List Nm} (s : Nm) : putF (stF way done) s (.int .i64 1) = stF (way ++ [s]) done := by
  funext x
  unfold putF stF
  by_cases hx : x = s
  · simp [hx]
  · simp [hx]
theorem stF_two {way done : List Nm} {s : Nm} (hs : way.contains s = false) : putF (stF (way ++ [s]) done) s (.int .i64 2) = stF way (done ++ [s]) := by
  funext x
  unfold putF stF
  by_cases hx : x = s
  · subst hx
    rw [if_pos rfl, hs]
    simp
  · simp [hx]

/-- The program's walk: below N nothing of it lies but the edges (block be). -/
structure VisAt (w : World) (N be ne : Nat) (rows : List Rw) (D : Option Addr) (c : Nat) (way done : List Nm) : Prop where
  lt : be < N
  blk : Blk w (N + 1) 47 #[.map (some be), .map (some N), .slice D done.length c]
  edges : MapIs Try.prog w 9 be ne (edgeF rows)
  state : MapIs Try.prog w 9 N (2 * done.length + way.length) (stF way done)
  own : w.ownsRow (N + 2) 9 1 (.slice D done.length c) done.length (strs done)

def ProgTo (w : World) (N be ne : Nat) (rows : List Rw) (way : List Nm) (r : Ro) (e : Ending) (w' : World) : Prop := Step (fun k => N ≤ k) w w' ∧ match r with
  | .ok d => e = .returned (.tuple #[.string (str []), .int .i64 0]) ∧ ∃ D c, VisAt w' N be ne rows D c way d
  | .error x => e = .returned (.tuple #[.string (str x.1), .int .i64 x.2])

set_option maxRecDepth 100000 in
set_option maxHeartbeats 3200000 in
theorem visit_walk {rows : List Rw} {N be ne : Nat} (hrows : rows.length ≤ 15) (hnd : ∀ r ∈ rows, r.needs.length ≤ 15) : ∀ (f : Nat) (way done : List Nm) (s : Nm) (w : World) (D : Option Addr) (c : Nat),
    Inv rows way done → rows.length + 1 ≤ way.length + f → s.length ≤ maxLen → (∀ r ∈ rows, Told w N r) → VisAt w N be ne rows D c way done →
    Calls Try.prog 18 #[.pointer (some ⟨N + 1, 0, none⟩), .string (str s)] w (ProgTo w N be ne rows way (visF rows f way done s))
  | 0, way, done, s, w, D, c, hi, hf, hs, hT, h => by
    have := hi.wy.le
    omega
  | f + 1, way, done, s, w, D, c, hi, hf, hs, hT, h => by
    have IH := Lib.hid (visit_walk (N := N) (be := be) (ne := ne) hrows hnd f)
    have hwl := hi.wy.le
    have hdl := hi.dn.le
    have c0 := h.blk.cell 0
    have c1 := h.blk.cell 1
    have c2 := h.blk.cell 2
    simp at c0 c1 c2
    have hlk := h.state.look (t := 45) (e := 3) Try.underlying9 Try.underlying45 (z := .int .i64 0) (by kernel_rfl) s hs
    have hlk2 := h.edges.look_ok (t := 25) (e := 28) Try.underlying9 Try.underlying25 (z := .slice none 0 0) (by kernel_rfl) s hs
    have HI := Lib.hid hi
    have HT := Lib.hid hT
    have HV := Lib.hid h
    clear hi hT h
    obtain ⟨R, hR⟩ : ∃ R, R = visF rows (f + 1) way done s := ⟨_, rfl⟩
    rw [← hR]
    rw [edgeF_eq] at hlk2
    by_cases hd : done.contains s = true
    · have hw' : way.contains s = false := by simpa using HI.out.apart s (List.contains_iff_mem.1 hd)
      rw [visF, if_pos hd] at hR
      rw [stF, hw', hd] at hlk
      simp only [Bool.false_eq_true, if_false, if_true, Option.getD_some] at hlk
      subst hR
      go_enter Try.func18, Try.ntmps18
      go_wp2_with fail
      go_ret2
      exact ⟨Step.refl, rfl, D, c, HV.out⟩
    · have hd' : done.contains s = false := by simpa using hd
      by_cases hw : way.contains s = true
      · rw [visF, if_neg hd, if_pos hw] at hR
        rw [stF, hw] at hlk
        simp only [if_true, Option.getD_some] at hlk
        subst hR
        go_enter Try.func18, Try.ntmps18
        go_wp2_with fail
        go_ret2
        exact ⟨Step.refl, rfl⟩
      · have hw' : way.contains s = false := by simpa using hw
        rw [stF, hw', hd'] at hlk
        simp only [Bool.false_eq_true, if_false, Option.getD_none] at hlk
        cases hs0 : fnd rows s with
        | none =>
          rw [visF, if_neg hd, if_neg hw, hs0] at hR
          rw [hs0] at hlk2
          simp only [Option.map_none, Option.isSome_none, Option.getD_none] at hlk2
          subst hR
          go_enter Try.func18, Try.ntmps18
          go_wp2_with fail
          go_ret2
          exact ⟨Step.refl, rfl⟩
        | some r =>
          rw [visF_f hd' hw' hs0] at hR
          rw [hs0] at hlk2
          simp only [Option.map_some, Option.isSome_some, Option.getD_some, Rw.val] at hlk2
          have hr := (fnd_some hs0).1
          have hTi := HT.out r hr
          have hlr := hnd r hr
          have hsd : s ∉ done := fun e => hd (List.contains_iff_mem.2 e)
          have hsw : s ∉ way := fun e => hw (List.contains_iff_mem.2 e)
          have HI2 := Lib.hid (HI.out.push hsw hsd ⟨_, fnd_some hs0⟩)
          obtain ⟨w1, hrun, hM1, hS1⟩ := HV.out.state.put (t := 45) (e := 3) Try.underlying9 Try.underlying45 (by unfold maxLen; omega) s hs (.int .i64 1)
          rw [stF_one] at hM1
          have HV1 : Hid (VisAt w1 N be ne rows D c (way ++ [s]) done) := Lib.hid ⟨HV.out.lt, HV.out.blk.step hS1 (by omega), HV.out.edges.step hS1 (by have := HV.out.lt; omega), by rw [List.length_append]; exact hM1, own_step HV.out.own hS1 (fun k hk e => by have := own_ge HV.out.own k hk; omega)⟩
          have HS1 : Hid (Step (fun k => N ≤ k) w w1) := Lib.hid (hS1.mono (fun k _ e => by omega))
          have HW := Lib.hid hw'
          obtain ⟨way', hway'⟩ : ∃ x, x = way ++ [s] := ⟨_, rfl⟩
          have hwl' : way'.length = way.length + 1 := by rw [hway']; simp
          have HWY := Lib.hid hway'
          rw [← hway'] at hR HI2 HV1
          clear hs0 hd hw hd' hw' hM1 hS1 hsd hsw hway'
          go_enter Try.func18, Try.ntmps18
          go_wp2_with fail
          go_loopw [42] (fun i wr => ∃ (k c : Nat) (D : Option Addr) (dk : List Nm), k ≤ r.needs.length ∧ i = .int .i64 (k : Int) ∧ Hid (Step (fun k => N ≤ k) w wr) ∧
            Hid (VisAt wr N be ne rows D c way' dk) ∧ Hid (exFold (visF rows f way') done r.needs = exFold (visF rows f way') dk (r.needs.drop k)) ∧ Hid (Inv rows way' dk)) (fun i _ => r.needs.length - (intOf i).toNat)
          case atStart => exact ⟨0, c, D, done, by omega, rfl, HS1, HV1, Lib.hid rfl, HI2⟩
          case round =>
            obtain ⟨k, c, D, dk, hk, rfl, HS, HV, HF, HI3⟩ := hrel
            by_cases hlt : k < r.needs.length
            · have hst := (hTi.1.step HS.out (fun k hk hh => by omega))
              obtain ⟨ad, u, had, _, hbl2, hu, hc⟩ := hst.at_ hlt
              rw [had]
              rw [strs_get r.needs k hlt] at hu
              injection hu with hu
              subst hu
              have hdrop : r.needs.drop k = r.needs[k] :: r.needs.drop (k + 1) := List.drop_eq_getElem_cons hlt
              have htl := hTi.2.2.2 _ (List.getElem_mem hlt)
              rw [hdrop, exFold] at HF
              have j0 : (0 : Int) ≤ (k : Int) := by omega
              have j1 : (k : Int) < (r.needs.length : Int) := by omega
              have hw := IntWalk.i64_in ((k : Int) + 1) (by omega)
              generalize r.needs[k] = t at *
              go_wp2_with fail
              refine (IH.out way' dk t wr D c HI3.out (by omega) htl (fun r hr => (HT.out r hr).step HS.out (fun k hk hh => by omega)) HV.out).mono ?_
              rintro e w7 ⟨hS7, hRR⟩
              have HS7 := Lib.hid (HS.out.trans hS7)
              cases hv : visF rows f way' dk t with
              | ok d1 =>
                rw [hv] at hRR HF
                obtain ⟨rfl, D7, c7, hV7⟩ := hRR
                have HV7 := Lib.hid hV7
                have HI7 := Lib.hid (visF_inv f way' dk t d1 HI3.out (by omega) hv).1
                clear hV7 hS7 HI3 HS HV
                go_wp2_with fail
                exact ⟨⟨k + 1, c7, D7, d1, by omega, by rw [Int.natCast_add]; rfl, HS7, HV7, HF, HI7⟩, by rw [show intOf (.int .i64 ((k : Int) + 1)) = ((k + 1 : Nat) : Int) from rfl, show intOf (.int .i64 (k : Int)) = (k : Int) from rfl]; omega⟩
              | error x =>
                rw [hv] at hRR HF
                subst hRR
                have hcode := visF_code f way' dk t x hv
                rw [HF.out] at hR
                obtain ⟨x1, x2⟩ := x
                subst hR
                have hne : ¬ x2 = 0 := by rcases hcode with h | h <;> dsimp only at h <;> omega
                go_wp2_with fail
                go_ret2
                exact ⟨HS7.out, rfl⟩
            · obtain rfl : k = r.needs.length := by omega
              rw [List.drop_length, exFold] at HF
              rw [HF.out] at hR
              subst hR
              have hdk := HI3.out.dn.le
              obtain ⟨w2, hrun2, hM2, hS2⟩ := HV.out.state.put (t := 45) (e := 3) Try.underlying9 Try.underlying45 (by unfold maxLen; omega) s hs (.int .i64 2)
              rw [HWY.out, stF_two HW.out] at hM2
              have c0' := HV.out.blk.cell 1
              simp at c0'
              have hB2 := HV.out.blk.step hS2 (by omega)
              have c2' := hB2.cell 2
              simp at c2'
              have f2 := hB2.frozen 2
              have HO2 := Lib.hid (own_step HV.out.own hS2 (fun k hk e => by have := own_ge HV.out.own k hk; omega))
              have HE2 := Lib.hid (HV.out.edges.step hS2 (by have := HV.out.lt; omega))
              have HM2 := Lib.hid hM2
              have HB2 := Lib.hid hB2
              have HS2 := Lib.hid (HS.out.trans (hS2.mono (fun k _ (e : k = N) => show N ≤ k by omega)))
              have hlN := HV.out.lt
              have hsz2 := hB2.lt
              clear hM2 hB2 hS2 HV HF HS
              have hm1 : dk.length + 1 ≤ maxLen := by unfold maxLen; omega
              have one1 : ∀ u ∈ #[Value.string (str s)].toList, u.oneCell' = true := strs_one [s]
              have HL : Hid (dk.length + 1 = (dk ++ [s]).length) := Lib.hid (by simp)
              have hstr : strs dk ++ #[Value.string (str s)].toList = strs (dk ++ [s]) := by rw [strs_append]; rfl
              go_wp2_with (at_builtin; refine wpList_append_src _ rfl _ _ (by rfl) E_str (by rfl) (HO2.out.alloc _) (by rfl) (reads_new _ #[Value.string (str s)] 9 1 1 rfl) one1 hm1 (by omega) (by simp; omega) ?_; intro D3 c3 w3 hown3 hgrow3 hat3; rw [hstr] at hown3; have HO3 := Lib.hid hown3; have HG3 := Lib.hid hgrow3; have hB3 := ((HB2.out.alloc _).grown hgrow3 (fun e => by have := own_ge HO2.out (N + 1) (by rw [ownBlock_slice]; exact e); omega)); have f3 := hB3.frozen 2; have c3' := hB3.cell 2; simp at c3'; have HB3 := Lib.hid hB3; clear hown3 hgrow3 hat3 hB3)
              go_ret2
              have hO3 := HO3.out
              rw [HL.out] at hO3 ⊢
              have hS6 : Step (fun k => blkOf D = some k ∨ k = N + 1) w2 (w3.setCell ⟨N + 1, 2, none⟩ (.slice D3 (dk ++ [s]).length c3)) := (Step.grown (Step.refl.alloc _) HG3.out (fun k hk => .inl (.inl hk))).setCell (.inl (.inr rfl)) _
              have hge : ∀ k, blkOf D = some k → N + 2 ≤ k := fun k hk => own_ge HO2.out k (by rw [ownBlock_slice]; exact hk)
              have hge3 : ∀ k, Value.ownBlock (.slice D3 (dk ++ [s]).length c3) = some k → N + 2 ≤ k := fun k hk => own_ge hO3 k hk
              refine ⟨HS2.out.trans (hS6.mono (fun k _ hk => by rcases hk with hk | rfl; have := hge k hk; omega; omega)), rfl, D3, c3, hlN, HB3.out.set_ 2 _, HE2.out.step hS6 (fun hk => by rcases hk with hk | hk; have := hge _ hk; omega; omega), ?_, own_set hO3 (fun e => by have := hge3 (N + 1) e; omega) _⟩
              have hn : 2 * dk.length + (way ++ [s]).length + 1 = 2 * (dk ++ [s]).length + way.length := by simp; omega
              rw [← hn]
              exact HM2.out.step hS6 (fun hk => by rcases hk with hk | hk; have := hge _ hk; omega; omega)

def OrdTo (w : World) (r : Ro) (e : Ending) (w' : World) : Prop := Step (fun _ => False) w w' ∧ match r with
  | .ok d => ∃ D c, e = .returned (.tuple #[.slice D d.length c, .string (str []), .int .i64 0]) ∧ Reads w' (fun k => k < w'.heap.size) 1 D d.length (strs d)
  | .error x => e = .returned (.tuple #[.slice none 0 0, .string (str x.1), .int .i64 x.2])

set_option maxRecDepth 100000 in
set_option maxHeartbeats 1600000 in
theorem order_walk {rows : List Rw} {be ne : Nat} (hrows : rows.length ≤ 15) (hnd : ∀ r ∈ rows, r.needs.length ≤ 15) (s : Nm) (hs : s.length ≤ maxLen) {w : World} (hT : ∀ r ∈ rows, Told w w.heap.size r) (hM : MapIs Try.prog w 9 be ne (edgeF rows)) :
    Calls Try.prog 8 #[.map (some be), .string (str s)] w (OrdTo w (visF rows (rows.length + 1) [] [] s)) := by
  have hmm := @run_makeMap Try.prog
  have hi : Inv rows [] [] := ⟨⟨List.nodup_nil, by simp⟩, ⟨List.nodup_nil, by simp⟩, by simp⟩
  have hS1 : Step (fun _ => False) w ((w.alloc (.map #[] 0)).alloc (.cells #[.map (some be), .map (some w.heap.size), .slice none 0 0] 47)) := (Step.refl.alloc _).alloc _
  have hV : Hid (VisAt ((w.alloc (.map #[] 0)).alloc (.cells #[.map (some be), .map (some w.heap.size), .slice none 0 0] 47)) w.heap.size be ne rows none 0 [] []) := by
    refine Lib.hid ⟨hM.lt, ?_, hM.step hS1 id, ?_, World.ownsRow_nil _ _ _ _⟩
    · have := Blk.new (w.alloc (.map #[] 0)) 47 #[.map (some be), .map (some w.heap.size), .slice none 0 0]
      simpa using this
    · have := (MapIs.made Try.prog w 9).step (F := fun _ => False) (Step.refl.alloc (.cells #[.map (some be), .map (some w.heap.size), .slice none 0 0] 47)) id
      exact this
  have HT := Lib.hid (fun r hr => (hT r hr).step hS1 (fun _ _ => id))
  have hz : (w.alloc (.map #[] 0)).heap.size = w.heap.size + 1 := by simp
  have HS1 := Lib.hid hS1
  have HI := Lib.hid hi
  clear hT hS1 hi hM
  go_enter Try.func8, Try.ntmps8
  go_wp2_with fail
  refine (visit_walk hrows hnd (rows.length + 1) [] [] s _ _ _ HI.out (by simp) hs HT.out hV.out).mono ?_
  rintro e w7 ⟨hS7, hRR⟩
  have HS7 : Hid (Step (fun _ => False) w w7) := Lib.hid (HS1.out.trans' hS7 (fun i hi => .inr hi))
  cases hv : visF rows (rows.length + 1) [] [] s with
  | ok d =>
    rw [hv] at hRR
    obtain ⟨rfl, D, c, hV7⟩ := hRR
    have c2 := hV7.blk.cell 2
    simp at c2
    have HO := Lib.hid hV7.own
    have HV0 := Lib.hid hv
    clear hV7 hS7 hv hV HS1
    go_wp2_with fail
    go_ret3
    refine ⟨HS7.out, ?_⟩
    rw [HV0.out]
    exact ⟨D, c, rfl, (Reads.of_own HO.out).mono (fun k hk _ => hk)⟩
  | error x =>
    rw [hv] at hRR
    subst hRR
    have hcode := visF_code _ [] [] s x hv
    obtain ⟨x1, x2⟩ := x
    have hne : ¬ x2 = 0 := by rcases hcode with h | h <;> dsimp only at h <;> omega
    have HV0 := Lib.hid hv
    clear hS7 hv hV HS1
    go_wp2_with fail
    go_ret3
    refine ⟨HS7.out, ?_⟩
    rw [HV0.out]
    rfl
end Go.Proofs.Ytgchpanjfllijaa
