/-
  Graph: the reference's Visit.
-/
import Derived.Test.YtgchpanjfllijaaGrD
set_option linter.unusedVariables false
set_option linter.unusedSimpArgs false
namespace Go.Proofs.Ytgchpanjfllijaa
open Go.RowKit

def RefTo (w : World) (r : Ro) (e : Ending) (w' : World) : Prop := Step (fun _ => False) w w' ∧ match r with
  | .ok d => ∃ D c, e = .returned (.tuple #[.slice D d.length c, .string (str []), .int .i64 0]) ∧ Reads w' (fun k => k < w'.heap.size) 1 D d.length (strs d)
  | .error x => ∃ v, e = .returned (.tuple #[v, .string (str x.1), .int .i64 x.2])

theorem exFold_code {g : List Nm → Nm → Ro} (hg : ∀ d t x, g d t = .error x → x.2 = 40 ∨ x.2 = 41) : ∀ (ts d : List Nm) (x : Nm × Int), exFold g d ts = .error x → x.2 = 40 ∨ x.2 = 41
  | [], d, x, h => by
    unfold exFold at h
    cases h
  | t :: ts, d, x, h => by
    unfold exFold at h
    split at h
    · exact exFold_code hg ts _ x h
    · rename_i y h1
      injection h with h
      subst h
      exact hg d t y h1
theorem visF_code {rows : List Rw} : ∀ (f : Nat) (way done : List Nm) (s : Nm) (x : Nm × Int), visF rows f way done s = .error x → x.2 = 40 ∨ x.2 = 41
  | 0, way, done, s, x, h => by
    unfold visF at h
    cases h
  | f + 1, way, done, s, x, h => by
    unfold visF at h
    split at h
    · cases h
    · split at h
      · injection h with h
        subst h
        exact .inr rfl
      · split at h
        · injection h with h
          subst h
          exact .inl rfl
        · rename_i r _
          split at h
          · cases h
          · rename_i y h1
            injection h with h
            subst h
            exact exFold_code (fun d t x h => visF_code f _ d t x h) _ _ _ h1

theorem visF_f {rows : List Rw} {f : Nat} {way done : List Nm} {s : Nm} {r : Rw} (hd : done.contains s = false) (hw : way.contains s = false) (hr : fnd rows s = some r) :
    visF rows (f + 1) way done s = match exFold (visF rows f (way ++ [s])) done r.needs with
      | .ok d => .ok (d ++ [s])
      | .error x => .error x := by
  rw [visF, hd, hw, hr]
  rfl

set_option maxRecDepth 100000 in
set_option maxHeartbeats 3200000 in
theorem r35_visit {rows : List Rw} {B : Nat} (hrows : rows.length ≤ 15) (hnd : ∀ r ∈ rows, r.needs.length ≤ 15) (A : Option Addr) (c : Nat) : ∀ (f : Nat) (way done : List Nm) (s : Nm) (w : World) (W D : Option Addr) (cw cd : Nat),
    Inv rows way done → rows.length + 1 ≤ way.length + f → B ≤ w.heap.size → (∀ r ∈ rows, Told w B r) → Reads w (fun k => k < w.heap.size) 2 A rows.length (rws rows) →
    Reads w (fun k => k < w.heap.size) 1 W way.length (strs way) → Reads w (fun k => k < w.heap.size) 1 D done.length (strs done) →
    Calls Try.prog 9 #[.slice A rows.length c, .slice W way.length cw, .slice D done.length cd, .string (str s)] w (RefTo w (visF rows f way done s))
  | 0, way, done, s, w, W, D, cw, cd, hi, hf, hB, hT, hA, hW, hD => by
    have := hi.wy.le
    omega
  | f + 1, way, done, s, w, W, D, cw, cd, hi, hf, hB, hT, hA, hW, hD => by
    have IH := Lib.hid (r35_visit (B := B) hrows hnd A c f)
    have hwl := hi.wy.le
    have hdl := hi.dn.le
    have HI := Lib.hid hi
    have HT := Lib.hid hT
    clear hi hT
    obtain ⟨R, hR⟩ : ∃ R, R = visF rows (f + 1) way done s := ⟨_, rfl⟩
    rw [← hR]
    go_enter Try.func9, Try.ntmps9
    go_wp2_with fail
    refine (r35_has s hD (by omega)).mono ?_
    rintro e w6 ⟨rfl, hw6⟩
    obtain rfl : w = w6 := hw6.symm
    by_cases hd : done.contains s = true
    · rw [visF, if_pos hd] at hR
      rw [hd]
      subst hR
      go_wp2_with fail
      go_ret3
      exact ⟨Step.refl, D, cd, rfl, hD⟩
    · have hd' : done.contains s = false := by simpa using hd
      rw [hd']
      go_wp2_with fail
      refine (r35_has s hW (by omega)).mono ?_
      rintro e w6 ⟨rfl, hw6⟩
      obtain rfl : w = w6 := hw6.symm
      by_cases hw : way.contains s = true
      · rw [visF, if_neg hd, if_pos hw] at hR
        rw [hw]
        subst hR
        go_wp2_with fail
        go_ret3
        exact ⟨Step.refl, _, rfl⟩
      · have hw' : way.contains s = false := by simpa using hw
        rw [hw']
        go_wp2_with fail
        refine (r35_find s hA (by omega)).mono ?_
        rintro e w6 ⟨rfl, hw6⟩
        obtain rfl : w = w6 := hw6.symm
        rcases fnd_findI (rows := rows) (s := s) with ⟨hn, hi⟩ | ⟨i, hi, hs, hfi, hnm⟩
        · rw [visF, if_neg hd, if_neg hw, hn] at hR
          rw [hi]
          subst hR
          go_wp2_with fail
          go_ret3
          exact ⟨Step.refl, _, rfl⟩
        · rw [visF_f hd' hw' hs] at hR
          rw [hfi]
          obtain ⟨b, off, rfl, hbS, hbl, _, hc1⟩ := rw_cells hA hi
          have i0 : ¬ ((i : Int) < 0) := by omega
          have hTi := HT.out _ (List.getElem_mem hi)
          have hlr := hnd _ (List.getElem_mem hi)
          have hsd : s ∉ done := fun e => hd (List.contains_iff_mem.2 e)
          have hsw : s ∉ way := fun e => hw (List.contains_iff_mem.2 e)
          have HI2 := Lib.hid (HI.out.push hsw hsd ⟨_, fnd_some hs⟩)
          obtain ⟨way', hway'⟩ : ∃ x, x = way ++ [s] := ⟨_, rfl⟩
          rw [← hway'] at hR HI2
          have hlen : way.length + 1 = way'.length := by rw [hway']; simp
          have hstr : strs way ++ #[Value.string (str s)].toList = strs way' := by rw [hway', strs_append]; rfl
          generalize hrr : rows[i] = r at *
          clear hway' hsd hsw
          have hfr := own_fresh (w := w) (e := 9) (base := w.heap.size) 1 (Nat.le_refl _)
          have hm : 0 + way.length ≤ maxLen := by unfold maxLen; omega
          have hm1 : way.length + 1 ≤ maxLen := by unfold maxLen; omega
          have hWa := Lib.hid (hW.step (F := fun _ => False) (Step.refl.alloc (.cells #[] 9)) (fun _ _ => id))
          have one := strs_one way
          have one1 : ∀ u ∈ #[Value.string (str s)].toList, u.oneCell' = true := strs_one [s]
          have tok1 : Hid (0 = 0) := rfl
          go_wp2_with (first
            | (at_builtin; have _t := tok1; refine wpList_append_src _ rfl _ _ (by rfl) E_str (by rfl) hfr (by rfl) hWa.out one hm (by omega) (by simp) ?_; intro D1 c1 w1 hown1 hgrow1 hat1; rw [Nat.zero_add, List.nil_append] at hown1; rw [Nat.zero_add]; have HO1 := Lib.hid hown1; have HG1 := Lib.hid hgrow1; clear tok1 hown1 hgrow1 hat1 hWa)
            | (at_builtin; refine wpList_append_src _ rfl _ _ (by rfl) E_str (by rfl) (HO1.out.alloc _) (by rfl) (reads_new _ #[Value.string (str s)] 9 1 1 rfl) one1 hm1 (by omega) (by have := HG1.out.size; simp at this; simp; omega) ?_; intro D2 c2 w2 hown2 hgrow2 hat2; rw [hstr, hlen] at hown2; rw [hlen]; have HO2 := Lib.hid hown2; have HG2 := Lib.hid hgrow2; clear hown2 hgrow2 hat2))
          have hS2 : Step (fun _ => False) w w2 := grow_step (((grow_step (Step.refl.alloc _) HG1.out hfr (Nat.le_refl _))).alloc _) HG2.out (HO1.out.alloc _) (Nat.le_refl _)
          have HS2 := Lib.hid hS2
          have HW2 := Lib.hid ((Reads.of_own HO2.out).mono (S' := fun k => k < w2.heap.size) (fun k hk _ => hk))
          have HD2 := Lib.hid ((hD.step hS2 (fun _ _ => id)).mono (S' := fun k => k < w2.heap.size) (fun k hk _ => hk))
          clear hfr one one1 HO1 HG1 HO2 HG2 hm hm1 _t hstr hS2 hrr
          go_loopw [2, 12] (fun dv i wr => ∃ (k cd : Nat) (D : Option Addr) (dk : List Nm), k ≤ r.needs.length ∧ dv = .slice D dk.length cd ∧ i = .int .i64 (k : Int) ∧ Hid (Step (fun _ => False) w wr) ∧
            Hid (Reads wr (fun k => k < wr.heap.size) 1 D2 way'.length (strs way')) ∧ Hid (Reads wr (fun k => k < wr.heap.size) 1 D dk.length (strs dk)) ∧ Hid (exFold (visF rows f way') done r.needs = exFold (visF rows f way') dk (r.needs.drop k)) ∧ Hid (Inv rows way' dk)) (fun _ i _ => r.needs.length - (intOf i).toNat)
          case atStart => exact ⟨0, cd, D, done, by omega, rfl, rfl, HS2, HW2, HD2, Lib.hid rfl, HI2⟩
          case round =>
            obtain ⟨k, cd, D, dk, hk, rfl, rfl, HS, HW, HD, HF, HI3⟩ := hrel
            have hc2 := (HS.out.cell (p := ⟨b, off + i * 2 + 1, none⟩) hbl id).trans hc1
            by_cases hlt : k < r.needs.length
            · have hst := (hTi.1.step HS.out (fun _ _ => id))
              obtain ⟨ad, u, had, _, hbl2, hu, hc⟩ := hst.at_ hlt
              rw [had] at hc2
              rw [strs_get r.needs k hlt] at hu
              injection hu with hu
              subst hu
              have hdrop : r.needs.drop k = r.needs[k] :: r.needs.drop (k + 1) := List.drop_eq_getElem_cons hlt
              rw [hdrop, exFold] at HF
              have j0 : (0 : Int) ≤ (k : Int) := by omega
              have j1 : (k : Int) < (r.needs.length : Int) := by omega
              have hw := IntWalk.i64_in ((k : Int) + 1) (by omega)
              generalize r.needs[k] = t at *
              go_wp2_with fail
              refine (IH.out way' dk t wr _ _ _ _ HI3.out (by omega) (by have := HS.out.size; omega) (fun r hr => (HT.out r hr).step HS.out (fun _ _ => id)) ((hA.step HS.out (fun _ _ => id)).mono (fun k hk _ => hk)) HW.out HD.out).mono ?_
              rintro e w7 ⟨hS7, hRR⟩
              have HS7 := Lib.hid (HS.out.trans hS7)
              cases hv : visF rows f way' dk t with
              | ok d1 =>
                rw [hv] at hRR HF
                obtain ⟨D7, c7, rfl, hD7⟩ := hRR
                have HD7 := Lib.hid hD7
                have HI7 := Lib.hid (visF_inv f way' dk t d1 HI3.out (by omega) hv).1
                have HW7 := Lib.hid ((HW.out.step hS7 (fun _ _ => id)).mono (S' := fun k => k < w7.heap.size) (fun k hk _ => hk))
                clear hD7 hS7 HW HD HI3 HS
                go_wp2_with fail
                exact ⟨⟨k + 1, c7, D7, d1, by omega, rfl, by rw [Int.natCast_add]; rfl, HS7, HW7, HD7, HF, HI7⟩, by rw [show intOf (.int .i64 ((k : Int) + 1)) = ((k + 1 : Nat) : Int) from rfl, show intOf (.int .i64 (k : Int)) = (k : Int) from rfl]; omega⟩
              | error x =>
                rw [hv] at hRR HF
                obtain ⟨v, rfl⟩ := hRR
                have hcode := visF_code f way' dk t x hv
                rw [HF.out] at hR
                obtain ⟨x1, x2⟩ := x
                subst hR
                have hne : ¬ x2 = 0 := by rcases hcode with h | h <;> dsimp only at h <;> omega
                go_wp2_with fail
                go_ret3
                exact ⟨HS7.out, _, rfl⟩
            · obtain rfl : k = r.needs.length := by omega
              rw [List.drop_length, exFold] at HF
              rw [HF.out] at hR
              subst hR
              have hfr := own_fresh (w := wr) (e := 9) (base := wr.heap.size) 1 (Nat.le_refl _)
              have hdk := HI3.out.dn.le
              have hm : 0 + dk.length ≤ maxLen := by unfold maxLen; omega
              have hm1 : dk.length + 1 ≤ maxLen := by unfold maxLen; omega
              have hWa := Lib.hid (HD.out.step (F := fun _ => False) (Step.refl.alloc (.cells #[] 9)) (fun _ _ => id))
              have one := strs_one dk
              have one1 : ∀ u ∈ #[Value.string (str s)].toList, u.oneCell' = true := strs_one [s]
              have tok1 : Hid (0 = 0) := rfl
              have HL : Hid (dk.length + 1 = (dk ++ [s]).length) := Lib.hid (by simp)
              have hstr : strs dk ++ #[Value.string (str s)].toList = strs (dk ++ [s]) := by rw [strs_append]; rfl
              go_wp2_with (first
                | (at_builtin; have _t := tok1; refine wpList_append_src _ rfl _ _ (by rfl) E_str (by rfl) hfr (by rfl) hWa.out one hm (by omega) (by simp) ?_; intro D1 c1 w1 hown1 hgrow1 hat1; rw [Nat.zero_add, List.nil_append] at hown1; rw [Nat.zero_add]; have HO1 := Lib.hid hown1; have HG1 := Lib.hid hgrow1; clear tok1 hown1 hgrow1 hat1 hWa)
                | (at_builtin; refine wpList_append_src _ rfl _ _ (by rfl) E_str (by rfl) (HO1.out.alloc _) (by rfl) (reads_new _ #[Value.string (str s)] 9 1 1 rfl) one1 hm1 (by omega) (by have := HG1.out.size; simp at this; simp; omega) ?_; intro D3 c3 w3 hown3 hgrow3 hat3; rw [hstr] at hown3; have HO3 := Lib.hid hown3; have HG3 := Lib.hid hgrow3; clear hown3 hgrow3 hat3))
              go_ret3
              have hS3 : Step (fun _ => False) wr w3 := grow_step (((grow_step (Step.refl.alloc _) HG1.out hfr (Nat.le_refl _))).alloc _) HG3.out (HO1.out.alloc _) (Nat.le_refl _)
              have HO3 := HO3.out
              have hlen := HL.out
              rw [hlen] at HO3 ⊢
              exact ⟨HS.out.trans hS3, D3, c3, rfl, (Reads.of_own HO3).mono (fun k hk _ => hk)⟩
end Go.Proofs.Ytgchpanjfllijaa
