/-
  Graph: slices.Index and Contains on strings; graph.Near and Cyclic.
-/
import Derived.Test.YtgchpanjfllijaaGrJ
import Derived.Test.YtgchpanjfllijaaGrH
set_option linter.unusedVariables false
set_option linter.unusedSimpArgs false
namespace Go.Proofs.Ytgchpanjfllijaa
open Go.RowKit

def idxI (l : List Nm) (s : Nm) : Int := match l.findIdx? (fun x => x == s) with
  | some i => (i : Int)
  | none => -1
theorem idxI_none {l : List Nm} {s : Nm} (h : ∀ j (h' : j < l.length), ¬ s = l[j]) : idxI l s = -1 := by
  unfold idxI
  have : l.findIdx? (fun x => x == s) = none := by
    rw [List.findIdx?_eq_none_iff]
    intro r hr
    obtain ⟨j, hj, rfl⟩ := List.mem_iff_getElem.1 hr
    exact beq_eq_false_iff_ne.2 fun e => h j hj e.symm
  rw [this]
theorem idxI_at {l : List Nm} {s : Nm} {k : Nat} (hk : k < l.length) (h : ∀ j (_ : j < k) (h' : j < l.length), ¬ s = l[j]) (he : s = l[k]) : idxI l s = (k : Int) := by
  unfold idxI
  have : l.findIdx? (fun x => x == s) = some k := by
    rw [List.findIdx?_eq_some_iff_getElem]
    exact ⟨hk, by rw [he]; exact beq_self_eq_true _, fun j hj => by simpa using fun e => h j hj (by omega) e.symm⟩
  rw [this]
theorem idxI_has (l : List Nm) (s : Nm) : decide (0 ≤ idxI l s) = l.contains s := by
  unfold idxI
  cases hf : l.findIdx? (fun x => x == s) with
  | none =>
    rw [List.findIdx?_eq_none_iff] at hf
    have : l.contains s = false := by
      rw [← Bool.not_eq_true, List.contains_iff_mem]
      exact fun h => by have := hf s h; simp at this
    rw [this]
    rfl
  | some k =>
    rw [List.findIdx?_eq_some_iff_getElem] at hf
    obtain ⟨h, h1, _⟩ := hf
    have : l.contains s = true := List.contains_iff_mem.2 ((beq_iff_eq.1 h1) ▸ List.getElem_mem h)
    rw [this]
    simp

set_option maxRecDepth 100000 in
set_option maxHeartbeats 1600000 in
theorem sl_index {w : World} {S : Nat → Prop} {A : Option Addr} {c : Nat} {l : List Nm} (s : Nm) (hv : Reads w S 1 A l.length (strs l)) (hl : l.length ≤ 1000000) :
    Calls Try.prog 21 #[.slice A l.length c, .string (str s)] w fun e w' => e = .returned (.int .i64 (idxI l s)) ∧ w' = w := by
  obtain ⟨b, hb⟩ : ∃ b, b = idxI l s := ⟨_, rfl⟩
  rw [← hb]
  go_enter Try.func21, Try.ntmps21
  go_wp2_with fail
  go_loopw [8] (fun i wr => ∃ k : Nat, k ≤ l.length ∧ i = .int .i64 (k : Int) ∧ Hid (wr = w) ∧ Hid (∀ j (h : j < k) (h' : j < l.length), ¬ s = l[j])) (fun i _ => l.length - (intOf i).toNat)
  case atStart => exact ⟨0, Nat.zero_le _, rfl, by first | exact Lib.hid trivial | rfl, Lib.hid fun j h => absurd h (Nat.not_lt_zero _)⟩
  case round =>
    obtain ⟨k, hk, rfl, hq, HC⟩ := hrel
    have hq' := hq.out
    subst hq'
    by_cases hlt : k < l.length
    · obtain ⟨ad, u, rfl, _, hbl, hu, hc⟩ := hv.at_ hlt
      rw [strs_get l k hlt] at hu
      injection hu with hu
      subst hu
      have i0 : (0 : Int) ≤ (k : Int) := by omega
      have i1 : (k : Int) < (l.length : Int) := by omega
      have hw := IntWalk.i64_in ((k : Int) + 1) (by omega)
      by_cases he : s = l[k]
      · have hE := seq_t he
        have hr' : b = (k : Int) := hb.trans (idxI_at hlt HC.out he)
        generalize l[k] = x at *
        clear hb he
        subst hr'
        go_wp2_with fail
        go_ret
        exact ⟨rfl, rfl⟩
      · have hE := seq_f he
        have HC2 : Hid (∀ j (h : j < k + 1) (h' : j < l.length), ¬ s = l[j]) := Lib.hid fun j h h' => by
          rcases Nat.lt_succ_iff_lt_or_eq.1 h with h | rfl
          · exact HC.out j h h'
          · exact he
        generalize l[k] = x at *
        clear hb he
        go_wp2_with fail
        exact ⟨⟨k + 1, by omega, by rw [Int.natCast_add]; rfl, by first | exact Lib.hid trivial | rfl, HC2⟩, by rw [show intOf (.int .i64 ((k : Int) + 1)) = ((k + 1 : Nat) : Int) from rfl, show intOf (.int .i64 (k : Int)) = (k : Int) from rfl]; omega⟩
    · obtain rfl : k = l.length := by omega
      have hr' : b = -1 := hb.trans (idxI_none fun j h' => HC.out j h' h')
      clear hb
      subst hr'
      go_wp2_with fail
      go_ret
      exact ⟨rfl, rfl⟩

set_option maxRecDepth 100000 in
set_option maxHeartbeats 1600000 in
theorem sl_contains {w : World} {S : Nat → Prop} {A : Option Addr} {c : Nat} {l : List Nm} (s : Nm) (hv : Reads w S 1 A l.length (strs l)) (hl : l.length ≤ 1000000) :
    Calls Try.prog 19 #[.slice A l.length c, .string (str s)] w fun e w' => e = .returned (.bool (l.contains s)) ∧ w' = w := by
  rw [← idxI_has]
  obtain ⟨z, hz⟩ : ∃ z, z = idxI l s := ⟨_, rfl⟩
  rw [← hz]
  go_enter Try.func19, Try.ntmps19
  go_wp2_with fail
  refine (sl_index s hv hl).mono ?_
  rintro e w6 ⟨rfl, hw6⟩
  obtain rfl : w = w6 := hw6.symm
  rw [← hz]
  clear hz
  go_wp2_with fail
  go_ret
  exact ⟨rfl, rfl⟩

/-- What the edges tell of a name. -/
theorem edge_look {rows : List Rw} {w0 w : World} {be ne B : Nat} (hM : MapIs Try.prog w 9 be ne (edgeF rows)) (hT : ∀ r ∈ rows, Told w0 B r) (hnd : ∀ r ∈ rows, r.needs.length ≤ 15) (x : Nm) (hx : x.length ≤ maxLen) :
    ∃ A c, (Instr.lookup 25 (.map (some be)) (.string (str x)) false).run Try.prog w = .ok (.slice A (nds rows x).length c) w ∧ Reads w0 (fun k => k < B) 1 A (nds rows x).length (strs (nds rows x)) ∧ (nds rows x).length ≤ 15 ∧ ∀ t ∈ nds rows x, t.length ≤ maxLen := by
  have h := hM.look (t := 25) (e := 28) Try.underlying9 Try.underlying25 (z := .slice none 0 0) (by kernel_rfl) x hx
  rw [edgeF_eq] at h
  cases hf : fnd rows x with
  | none =>
    rw [hf] at h
    rw [nds_none hf]
    exact ⟨none, 0, h, Reads.nil_, by simp, by simp⟩
  | some r =>
    rw [hf] at h
    rw [nds_some hf]
    have hr := (fnd_some hf).1
    exact ⟨r.A, r.cap, h, (hT r hr).1, hnd r hr, (hT r hr).2.2.2⟩
theorem reach_len {rows : List Rw} {w : World} {B : Nat} (hT : ∀ r ∈ rows, Told w B r) {s x : Nm} (hs : s.length ≤ maxLen) (h : Reach rows s x) : x.length ≤ maxLen := by
  cases h with
  | refl => exact hs
  | step _ ht =>
    unfold nds at ht
    split at ht
    · rename_i r hr
      exact (hT r (fnd_some hr).1).2.2.2 _ ht
    · cases ht
theorem own_one (w : World) {B : Nat} (s : Nm) (hB : B ≤ w.heap.size) : (w.alloc (.cells #[.string (str s)] 9)).ownsRow B 9 1 (.slice (some ⟨w.heap.size, 0, none⟩) 1 1) 1 (strs [s]) :=
  ⟨rfl, .inr ⟨w.heap.size, 1, #[.string (str s)], rfl, hB, heap_alloc_new w _, Nat.le_refl _, by decide, rfl, rfl⟩⟩

set_option maxRecDepth 100000 in
set_option maxHeartbeats 1600000 in
theorem near_walk {rows : List Rw} {be ne : Nat} (hrows : rows.length ≤ 15) (hnd : ∀ r ∈ rows, r.needs.length ≤ 15) (s : Nm) (hs : s.length ≤ maxLen) {w : World} (hT : ∀ r ∈ rows, Told w w.heap.size r) (hM : MapIs Try.prog w 9 be ne (edgeF rows)) :
    Calls Try.prog 11 #[.map (some be), .string (str s)] w fun e w' => Step (fun _ => False) w w' ∧ ∃ D c, e = .returned (.slice D (nearOf rows s).length c) ∧ Reads w' (fun k => k < w'.heap.size) 1 D (nearOf rows s).length (strs (nearOf rows s)) := by
  have HM := Lib.hid hM
  have HT := Lib.hid hT
  have HND := Lib.hid hnd
  have HO := Lib.hid (own_one w (B := w.heap.size) s (Nat.le_refl _))
  have HS : Hid (Step (fun _ => False) w (w.alloc (.cells #[.string (str s)] 9))) := Lib.hid (Step.refl.alloc _)
  clear hM hT hnd
  go_enter Try.func11, Try.ntmps11
  go_wp2_with fail
  go_loopw [5, 6] (fun ov i wr => ∃ (k c : Nat) (D : Option Addr) (o : List Nm), k ≤ o.length ∧ ov = .slice D o.length c ∧ i = .int .i64 (k : Int) ∧ Hid (Step (fun _ => False) w wr) ∧
    Hid (wr.ownsRow w.heap.size 9 1 (.slice D o.length c) o.length (strs o)) ∧ Hid (Nr rows s o) ∧ Hid (nearF rows (227 - k) k o = nearOf rows s)) (fun _ i _ => 227 - (intOf i).toNat)
  case atStart => exact ⟨0, 1, some ⟨w.heap.size, 0, none⟩, [s], by simp, rfl, rfl, HS, HO, Lib.hid (nr_start rows s), Lib.hid rfl⟩
  case round =>
    obtain ⟨k, c, D, o, hk, rfl, rfl, HS1, HO1, HN1, HF1⟩ := hrel
    clear HS HO
    have hol := HN1.out.le hrows HND.out
    by_cases hlt : k < o.length
    · obtain ⟨ad, u, had, _, hbl, hu, hc⟩ := (Reads.of_own HO1.out).at_ hlt
      rw [strs_get o k hlt] at hu
      injection hu with hu
      subst hu
      have hx := HN1.out.reach _ (List.getElem_mem hlt)
      have HF2 := Lib.hid ((nearF_step hlt (by omega)).symm.trans HF1.out)
      obtain ⟨A, cA, hlook, hRA, hl15, htl⟩ := edge_look (HM.out.step HS1.out id) HT.out HND.out o[k] (reach_len HT.out hs hx)
      have i0 : (0 : Int) ≤ (k : Int) := by omega
      have i1 : (k : Int) < (o.length : Int) := by omega
      have hw := IntWalk.i64_in ((k : Int) + 1) (by omega)
      generalize o[k] = x at *
      have HX := Lib.hid hx
      have HTL := Lib.hid htl
      have HRA := Lib.hid hRA
      have hmem : Hid (∀ t ∈ nds rows x, t ∈ nds rows x) := Lib.hid fun _ h => h
      generalize hts : nds rows x = ts at *
      clear hx htl hRA
      subst had
      go_wp2_with fail
      go_loopw [5, 24] (fun ov j wr' => ∃ (m c : Nat) (D : Option Addr) (p : List Nm), m ≤ ts.length ∧ ov = .slice D p.length c ∧ j = .int .i64 (m : Int) ∧ Hid (Step (fun _ => False) w wr') ∧
        Hid (wr'.ownsRow w.heap.size 9 1 (.slice D p.length c) p.length (strs p)) ∧ Hid (Nr rows s p) ∧ Hid (ts.foldl add1 o = (ts.drop m).foldl add1 p) ∧ Hid (k + 1 ≤ p.length)) (fun _ j _ => ts.length - (intOf j).toNat)
      case atStart => exact ⟨0, c, some ad, o, by omega, rfl, rfl, HS1, HO1, HN1, Lib.hid rfl, Lib.hid hlt⟩
      case round =>
        obtain ⟨m, c, D, p, hm, rfl, rfl, HS2, HO2, HN2, HF3, HK2⟩ := hrel
        have hpl := HN2.out.le hrows HND.out
        by_cases hlt2 : m < ts.length
        · have hst := HRA.out.step HS2.out (fun _ _ => id)
          obtain ⟨ad2, u, rfl, _, hbl2, hu, hc2⟩ := hst.at_ hlt2
          rw [strs_get ts m hlt2] at hu
          injection hu with hu
          subst hu
          have hmm := hmem.out _ (List.getElem_mem hlt2)
          have hdrop : ts.drop m = ts[m] :: ts.drop (m + 1) := List.drop_eq_getElem_cons hlt2
          rw [hdrop, List.foldl_cons] at HF3
          have j0 : (0 : Int) ≤ (m : Int) := by omega
          have j1 : (m : Int) < (ts.length : Int) := by omega
          have hw2 := IntWalk.i64_in ((m : Int) + 1) (by omega)
          have HN3 := Lib.hid (HN2.out.add HX.out (by rw [hts]; exact hmm))
          generalize ts[m] = t at *
          go_wp2_with fail
          refine (sl_contains t (Reads.of_own HO2.out) (by omega)).mono ?_
          rintro e w6 ⟨rfl, hw6⟩
          obtain rfl : wr = w6 := hw6.symm
          by_cases hct : p.contains t = true
          · rw [hct]
            rw [add1, if_pos hct] at HF3 HN3
            go_wp2_with fail
            go_roundw
            case rel => exact ⟨m + 1, c, D, p, by omega, rfl, by rw [Int.natCast_add]; rfl, HS2, HO2, HN3, HF3, HK2⟩
            case measure => simp [intOf]; omega
          · have hct' : p.contains t = false := by simpa using hct
            rw [hct']
            rw [add1, if_neg hct] at HF3 HN3
            have hm1 : p.length + 1 ≤ maxLen := by unfold maxLen; omega
            have one1 : ∀ u ∈ #[Value.string (str t)].toList, u.oneCell' = true := strs_one [t]
            have HL : Hid (p.length + 1 = (p ++ [t]).length) := Lib.hid (by simp)
            have hstr : strs p ++ #[Value.string (str t)].toList = strs (p ++ [t]) := by rw [strs_append]; rfl
            have hsz := HS2.out.size
            go_wp2_with (at_builtin; refine wpList_append_src _ rfl _ _ (by rfl) E_str (by rfl) (HO2.out.alloc _) (by rfl) (reads_new _ #[Value.string (str t)] 9 1 1 rfl) one1 hm1 (by omega) (by simp; omega) ?_; intro D3 c3 w3 hown3 hgrow3 hat3; rw [hstr] at hown3; have HO3 := Lib.hid hown3; have HG3 := Lib.hid hgrow3; clear hown3 hgrow3 hat3)
            have HO3 := HO3.out
            rw [HL.out] at HO3 ⊢
            have HS4 := Lib.hid (grow_step (HS2.out.alloc _) HG3.out (HO2.out.alloc _) (Nat.le_refl _))
            go_roundw
            case rel => exact ⟨m + 1, c3, D3, p ++ [t], by omega, rfl, by rw [Int.natCast_add]; rfl, HS4, HO3, HN3, HF3, Lib.hid (by have := HK2.out; simp; omega)⟩
            case measure => simp [intOf]; omega
        · obtain rfl : m = ts.length := by omega
          rw [List.drop_length, List.foldl_nil] at HF3
          go_wp2_with fail
          go_roundw
          case rel => exact ⟨k + 1, c, D, p, HK2.out, rfl, by rw [Int.natCast_add]; rfl, HS2, HO2, HN2, Lib.hid (by rw [← HF3.out]; exact HF2.out)⟩
          case measure => simp [intOf]; omega
    · obtain rfl : k = o.length := by omega
      rw [nearF_end (Nat.le_refl _) (by omega)] at HF1
      go_wp2_with fail
      go_ret
      refine ⟨HS1.out, ?_⟩
      rw [← HF1.out]
      exact ⟨D, c, rfl, (Reads.of_own HO1.out).mono (fun k hk _ => hk)⟩
end Go.Proofs.Ytgchpanjfllijaa
