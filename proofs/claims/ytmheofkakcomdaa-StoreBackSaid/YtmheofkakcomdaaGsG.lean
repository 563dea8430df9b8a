/-
  store's reference: Set, Free.
-/
import Derived.Test.YtmheofkakcomdaaGsF
set_option linter.unusedVariables false
set_option linter.unusedSimpArgs false
namespace Go.Proofs.Ytmheofkakcomdaa
open Go.RowKit
theorem E_rv : ElemTy Try.prog 32 44 6 40 := elem_of Try.underlying32 (z := .agg #[.int .u8 0, .bool false, .int .u8 0, .int .u64 0, .int .i64 0, .bool false]) (by kernel_rfl) rfl (by decide)
theorem gaF_some {l : List Vr} {a : Int} {g : Vr} (hg : gaF l a = some g) : ∃ k : Nat, a = (k : Int) ∧ ∃ hk : k < l.length, g = l[k] := by
  rw [gaF] at hg
  split at hg
  · rename_i hc
    split at hg
    · injection hg with hg
      have hk : a.toNat < l.length := by omega
      refine ⟨a.toNat, by omega, hk, ?_⟩
      rw [← hg, List.getD_eq_getElem?_getD, List.getElem?_eq_getElem hk]
      rfl
    · cases hg
  · cases hg
/-- A global's value in an owned row. -/
theorem row_setv {w : World} {B g c k vt n : Nat} {t : TypeId} {l : List Vr} (h : w.ownsRow B t 6 (.slice (some ⟨g, 0, none⟩) l.length c) l.length (vrs l)) (hk : k < l.length) :
    ((w.setCell ⟨g, k * 6 + 2, none⟩ (.int .u8 (vt : Int))).setCell ⟨g, k * 6 + 3, none⟩ (.int .u64 (n : Int))).ownsRow B t 6 (.slice (some ⟨g, 0, none⟩) l.length c) l.length (vrs (l.set k { l[k] with vt := vt, n := n })) := by
  have hl : (vrs l).length = l.length * 6 := flat_length Vr.cells 6 Vr.six l
  have o1 := own_setAt (j := k * 6 + 2) (u := .int .u8 (vt : Int)) h (by rw [hl]; omega)
  have o2 := own_setAt (j := k * 6 + 3) (u := .int .u64 (n : Int)) o1 (by rw [List.length_set, hl]; omega)
  have e1 : (vrs l).set (k * 6 + 2) (.int .u8 (vt : Int)) = vrs (l.set k { l[k] with vt := vt }) := flat_set Vr.cells 6 Vr.six l k 2 _ _ hk (by decide) rfl
  have hk2 : k < (l.set k { l[k] with vt := vt }).length := by rw [List.length_set]; exact hk
  have e2 : (vrs (l.set k { l[k] with vt := vt })).set (k * 6 + 3) (.int .u64 (n : Int)) = vrs ((l.set k { l[k] with vt := vt }).set k { l[k] with vt := vt, n := n }) := flat_set Vr.cells 6 Vr.six _ k 3 _ _ hk2 (by decide) (by rw [List.getElem_set_self]; rfl)
  rw [List.set_set] at e2
  rw [e1, e2] at o2
  exact o2
section
variable {w : World} {B : Nat}
set_option maxRecDepth 100000 in
set_option maxHeartbeats 3200000 in
theorem r_set (A : Option Addr) (c : Nat) (l : List Vr) (a : Int) (vt n : Nat) (ho : w.ownsRow B 44 6 (.slice A l.length c) l.length (vrs l)) (ha : l.length ≤ 1000) (hB : B ≤ w.heap.size) :
    Calls Try.prog 11 #[.slice A l.length c, .int .i64 a, .agg #[.int .u8 (vt : Int), .int .u64 (n : Int)]] w fun e w' => ∃ D c', e = .returned (.tuple #[.slice D (sgL l a vt n).length c', .int .i64 (sgF l a vt : Nat)]) ∧ w'.ownsRow B 44 6 (.slice D (sgL l a vt n).length c') (sgL l a vt n).length (vrs (sgL l a vt n)) ∧ Step (fun _ => False) w w' := by
  obtain ⟨V, hV⟩ : ∃ V, V = w.alloc (.cells #[.int .u8 (vt : Int), .int .u64 (n : Int)] 38) := ⟨_, rfl⟩
  have st : Step (fun _ => False) w V := by rw [hV]; exact Step.refl.alloc _
  have HX := Lib.hid (Blk.new w 38 #[.int .u8 (vt : Int), .int .u64 (n : Int)])
  rw [← hV] at HX
  have HO := Lib.hid (own_below ho st)
  have S1 := Lib.hid st
  have HBV := Lib.hid (Nat.le_trans hB st.size)
  have HLV := Lib.hid (r_live V _ A c l a (Reads.of_own HO.out) ha)
  have hF : sgF l a vt = match gaF l a with
    | none => 47
    | some g => if g.mu = false then 24 else if g.t = vt then 0 else 7 := rfl
  have hL : sgL l a vt n = match gaF l a with
    | none => l
    | some g => if g.mu = false then l else if g.t = vt then l.set a.toNat { g with vt := vt, n := n } else l := rfl
  obtain ⟨X, hX⟩ : ∃ X, X = w.heap.size := ⟨_, rfl⟩
  rw [← hX] at HX
  cases hg : gaF l a with
  | none =>
    rw [hg] at hF hL HLV
    simp only at hF hL
    have HE := Lib.hid (And.intro hF hL)
    clear hF hL st ho hB hg
    have HLW : Hid (Calls Try.prog 20 #[.slice A l.length c, .int .i64 a] V fun e w' => e = .returned (.bool false) ∧ V = w') := HLV.out
    clear HLV
    go_enter Try.func11, Try.ntmps11
    go_wp2_with fail
    rw [← hV]
    refine HLW.out.mono ?_
    rintro e w2 ⟨rfl, rfl⟩
    clear hV hX
    go_wp2_with fail
    go_ret2
    exact ⟨A, c, by rw [HE.out.1, HE.out.2]; rfl, by rw [HE.out.2]; exact HO.out, S1.out⟩
  | some g =>
    obtain ⟨k, rfl, hk, hgv⟩ := gaF_some hg
    rw [hg] at hF hL HLV
    simp only at hF hL
    have HLW : Hid (Calls Try.prog 20 #[.slice A l.length c, .int .i64 (k : Int)] V fun e w' => e = .returned (.bool true) ∧ V = w') := HLV.out
    obtain ⟨bk, off, hA, _, hbl, hc⟩ := reads_row Vr.cells 6 (by decide) Vr.six (Reads.of_own HO.out) hk
    have HRD := Lib.hid ((Reads.of_own HO.out).mono (S' := fun j => j < V.heap.size) (fun j hj _ => hj))
    have HA := Lib.hid hA
    rw [← hgv] at hc
    have HGV := Lib.hid hgv
    have g1 : (k : Int) < (l.length : Int) := by omega
    have g0 : (0 : Int) ≤ (k : Int) := by omega
    obtain ⟨t, mu, vt0, n0, o, lv⟩ := g
    have c0 := hc 0 _ rfl
    have c1 := hc 1 _ rfl
    simp only [Nat.add_zero] at c0
    simp only at c0 c1 hF hL
    clear hc hg hgv HLV ho hB st
    subst hA
    cases mu with
    | false =>
      rw [if_pos rfl] at hF hL
      have HE := Lib.hid (And.intro hF hL)
      clear hF hL
      go_enter Try.func11, Try.ntmps11
      go_wp2_with fail
      rw [← hV]
      refine HLW.out.mono ?_
      rintro e w2 ⟨rfl, rfl⟩
      clear hV hX
      go_wp2_with fail
      go_ret2
      exact ⟨_, c, by rw [HE.out.1, HE.out.2]; rfl, by rw [HE.out.2]; exact HO.out, S1.out⟩
    | true =>
      rw [if_neg (by decide)] at hF hL
      have v0 := HX.out.cell 0
      simp at v0
      by_cases htv : t = vt
      · rw [if_pos htv] at hF hL
        have HE := Lib.hid (And.intro hF hL)
        have e2 : ((t : Int) != (vt : Int)) = false := by rw [htv]; simp
        clear hF hL htv
        go_enter Try.func11, Try.ntmps11
        go_wp2_with fail
        rw [← hV, ← hX]
        refine HLW.out.mono ?_
        rintro e w2 ⟨rfl, rfl⟩
        clear hV hX
        go_wp2_with fail
        go_quiet (fail)
        obtain ⟨V2, hV2⟩ : ∃ V2, V2 = V.drewN nq := ⟨_, rfl⟩
        have st2 : Step (fun _ => False) V V2 := by rw [hV2]; exact Step.refl.drewN nq
        rw [← hV2]
        replace HX := Lib.hid (HX.out.step st2 id)
        replace S1 := Lib.hid (S1.out.trans st2)
        replace HBV := Lib.hid (Nat.le_trans HBV.out st2.size)
        have hsrc := HRD.out.step st2 (fun _ _ => id)
        clear st2 hV2 c0 c1 v0 HO
        have hone : ∀ u ∈ vrs l, u.oneCell' = true := vrs_one l
        have hm : 0 + l.length ≤ maxLen := by unfold maxLen; omega
        have hof : (V2.alloc (.cells #[] 44)).ownsRow V2.heap.size 44 6 (.slice (some ⟨V2.heap.size, 0, none⟩) 0 0) 0 [] := own_fresh 6 (Nat.le_refl _)
        have hrs := hsrc.step (F := fun _ => False) (Step.refl.alloc (.cells #[] 44)) (fun _ _ => id)
        go_upto_region 8 with (at_builtin; refine wpList_append_src _ rfl _ _ (by rfl) E_rv (by rfl) hof (by rfl) hrs hone hm (by omega) (by simp) ?_; intro D' c' w3 hown hgrow hat)
        have T3 := Lib.hid (grow_step (Step.refl.alloc (F := fun _ => False) (w := V2) (.cells #[] 44)) hgrow hof (Nat.le_refl _))
        simp only [Nat.zero_add, List.nil_append] at hown ⊢
        have HO3 := Lib.hid hown
        replace HX := Lib.hid (HX.out.step T3.out id)
        clear hown hgrow hat hof hrs hsrc hone hm
        have v0 := HX.out.cell 0
        have v1 := HX.out.cell 1
        simp at v0 v1
        obtain ⟨g', hD', hge, hgl, hcell, hfro⟩ := own_row HO3.out (by omega)
        subst hD'
        have b2 := hcell (k * 6 + 2) _ (by rw [vrs, flat_get Vr.cells 6 Vr.six _ _ 2 hk (by decide)]; rfl)
        have b3 := hcell (k * 6 + 3) _ (by rw [vrs, flat_get Vr.cells 6 Vr.six _ _ 3 hk (by decide)]; rfl)
        have bf2 := hfro (k * 6 + 2)
        have bf3 := hfro (k * 6 + 3)
        have HGE := Lib.hid hge
        clear hcell hfro hge
        go_wp2_with fail
        go_ret2
        have hr := row_setv (vt := vt) (n := n) HO3.out hk
        have e9 : l.set (Int.toNat (k : Int)) (⟨t, true, vt, n, o, lv⟩ : Vr) = l.set k { l[k] with vt := vt, n := n } := by rw [Int.toNat_natCast, ← HGV.out]
        have hw : w.heap.size ≤ g' := Nat.le_trans S1.out.size HGE.out
        refine ⟨some ⟨g', 0, none⟩, c', ?_, ?_, ((S1.out.trans T3.out).setCell (p := ⟨g', k * 6 + 2, none⟩) (.inr hw) _).setCell (p := ⟨g', k * 6 + 3, none⟩) (.inr hw) _⟩
        · rw [HE.out.1, HE.out.2, e9, List.length_set]
          rfl
        · rw [HE.out.2, e9, List.length_set]
          exact own_base hr (fun j hj => by have := own_ge hr j hj; have := HBV.out; omega)
      · rw [if_neg htv] at hF hL
        have HE := Lib.hid (And.intro hF hL)
        have hne : ¬ (t : Int) = (vt : Int) := by omega
        have e2 : ((t : Int) != (vt : Int)) = true := bne_iff_ne.2 hne
        have HNE := Lib.hid hne
        clear hF hL htv hne
        go_enter Try.func11, Try.ntmps11
        go_wp2_with fail
        rw [← hV, ← hX]
        refine HLW.out.mono ?_
        rintro e w2 ⟨rfl, rfl⟩
        clear hV hX
        go_wp2_with fail
        go_quiet (fail)
        go_wp2_with fail
        go_ret2
        exact ⟨_, c, by rw [HE.out.1, HE.out.2]; rfl, by rw [HE.out.2]; exact own_below HO.out (Step.refl.drewN _), S1.out.drewN _⟩
set_option maxRecDepth 100000 in
set_option maxHeartbeats 3200000 in
theorem r_free (S : Nat → Prop) (A : Option Addr) (c : Nat) (l : List Vr) (x : Int) (hr : Reads w S 6 A l.length (vrs l)) (ha : l.length ≤ 1000) :
    Calls Try.prog 17 #[.slice A l.length c, .int .i64 x] w fun e w' => ∃ D c', e = .returned (.slice D (l.map (frV x)).length c') ∧ w'.ownsRow w.heap.size 44 6 (.slice D (l.map (frV x)).length c') (l.map (frV x)).length (vrs (l.map (frV x))) ∧ Step (fun _ => False) w w' := by
  have HR := Lib.hid hr
  clear hr
  go_enter Try.func17, Try.ntmps17
  go_wp2_with fail
  go_loopw [5, 6] (fun ov iv wr => ∃ (j c : Nat) (D : Option Addr), j ≤ l.length ∧ ov = .slice D j c ∧ iv = .int .i64 (j : Int) ∧ Hid (Step (fun _ => False) w wr) ∧ Hid (wr.ownsRow w.heap.size 44 6 (.slice D j c) j (vrs ((l.take j).map (frV x))))) (fun _ iv _ => l.length + 1 - (Go.RowKit.intOf iv).toNat)
  case atStart => exact ⟨0, 0, none, Nat.zero_le _, rfl, rfl, Step.refl, by rw [List.take_zero]; exact World.ownsRow_nil _ _ _ _⟩
  case round =>
    obtain ⟨j, co, D, hj, rfl, rfl, HS, HO⟩ := hrel
    by_cases hlt : j < l.length
    · have q1 : (j : Int) < (l.length : Int) := by omega
      have i0 : (0 : Int) ≤ (j : Int) := by omega
      have hw1 := IntWalk.i64_in ((j : Int) + 1) (by omega)
      obtain ⟨bk, off, hA, _, hbl, hc⟩ := reads_row Vr.cells 6 (by decide) Vr.six (HR.out.step HS.out (fun _ _ => id)) hlt
      subst hA
      have HU : Hid (vrs ((l.take (j + 1)).map (frV x)) = vrs ((l.take j).map (frV x)) ++ Vr.cells (frV x l[j])) := by
        rw [Hid, List.take_succ_eq_append_getElem hlt, List.map_append, vrs_append]
        simp [vrs]
      have hone := vrs_one [frV x l[j]]
      generalize l[j] = v at *
      have hmx : j + 1 ≤ maxLen := by unfold maxLen; omega
      obtain ⟨t, mu, vt, n, o, lv⟩ := v
      have c0 := hc 0 _ rfl
      have c1 := hc 1 _ rfl
      have c2 := hc 2 _ rfl
      have c3 := hc 3 _ rfl
      have c4 := hc 4 _ rfl
      have c5 := hc 5 _ rfl
      simp only [Nat.add_zero] at c0
      simp only at c0 c1 c2 c3 c4 c5
      clear hc
      by_cases ho : o = x
      · have e1 : (o == x) = true := beq_iff_eq.2 ho
        rw [frV, if_pos ho] at HU hone
        replace ho := Lib.hid ho
        have HSx := Lib.hid (HS.out.alloc (.cells #[.int .u8 0, .bool false, .int .u8 0, .int .u64 0, .int .i64 x, .bool false] 44))
        have HOx := Lib.hid (HO.out.alloc (.cells #[.int .u8 0, .bool false, .int .u8 0, .int .u64 0, .int .i64 x, .bool false] 44))
        have hrn := reads_new (wr.alloc (.cells #[.int .u8 0, .bool false, .int .u8 0, .int .u64 0, .int .i64 x, .bool false] 44)) #[.int .u8 0, .bool false, .int .u8 0, .int .u64 0, .int .i64 x, .bool false] 44 6 1 rfl
        rw [show (wr.alloc (.cells #[.int .u8 0, .bool false, .int .u8 0, .int .u64 0, .int .i64 x, .bool false] 44)).heap.size = wr.heap.size + 1 by simp] at hrn
        have hsx := HSx.out.size
        go_wp2_with (at_builtin; refine wpList_append_src _ rfl _ _ (by rfl) E_rv (by rfl) (HOx.out.alloc _) (by rfl) hrn hone hmx (by omega) (by simp at hsx ⊢; omega) ?_; intro D8 c8 w8 hown8 hgrow hat)
        have HS8 := Lib.hid (grow_step (HSx.out.alloc (.cells #[.int .u8 0, .bool false, .int .u8 0, .int .u64 0, .int .i64 x, .bool false] 44)) hgrow (HOx.out.alloc _) (Nat.le_refl _))
        have HO8 : Hid (w8.ownsRow w.heap.size 44 6 (.slice D8 (j + 1) c8) (j + 1) (vrs ((l.take (j + 1)).map (frV x)))) := by rw [HU.out]; exact hown8
        clear hown8 hgrow hat hone hrn hsx hmx
        go_roundw
        case rel => exact ⟨j + 1, c8, D8, by omega, rfl, by rw [Int.natCast_add]; rfl, HS8, HO8⟩
        case measure => simp [Go.RowKit.intOf]; omega
      · have e1 : (o == x) = false := beq_eq_false_iff_ne.2 ho
        rw [frV, if_neg ho] at HU hone
        replace ho := Lib.hid ho
        have HSx := Lib.hid (HS.out.alloc (.cells #[.int .u8 (t : Int), .bool mu, .int .u8 (vt : Int), .int .u64 (n : Int), .int .i64 o, .bool lv] 44))
        have HOx := Lib.hid (HO.out.alloc (.cells #[.int .u8 (t : Int), .bool mu, .int .u8 (vt : Int), .int .u64 (n : Int), .int .i64 o, .bool lv] 44))
        have hrn := reads_new (wr.alloc (.cells #[.int .u8 (t : Int), .bool mu, .int .u8 (vt : Int), .int .u64 (n : Int), .int .i64 o, .bool lv] 44)) #[.int .u8 (t : Int), .bool mu, .int .u8 (vt : Int), .int .u64 (n : Int), .int .i64 o, .bool lv] 44 6 1 rfl
        rw [show (wr.alloc (.cells #[.int .u8 (t : Int), .bool mu, .int .u8 (vt : Int), .int .u64 (n : Int), .int .i64 o, .bool lv] 44)).heap.size = wr.heap.size + 1 by simp] at hrn
        have hsx := HSx.out.size
        go_wp2_with (at_builtin; refine wpList_append_src _ rfl _ _ (by rfl) E_rv (by rfl) (HOx.out.alloc _) (by rfl) hrn hone hmx (by omega) (by simp at hsx ⊢; omega) ?_; intro D8 c8 w8 hown8 hgrow hat)
        have HS8 := Lib.hid (grow_step (HSx.out.alloc (.cells #[.int .u8 (t : Int), .bool mu, .int .u8 (vt : Int), .int .u64 (n : Int), .int .i64 o, .bool lv] 44)) hgrow (HOx.out.alloc _) (Nat.le_refl _))
        have HO8 : Hid (w8.ownsRow w.heap.size 44 6 (.slice D8 (j + 1) c8) (j + 1) (vrs ((l.take (j + 1)).map (frV x)))) := by rw [HU.out]; exact hown8
        clear hown8 hgrow hat hone hrn hsx hmx
        go_roundw
        case rel => exact ⟨j + 1, c8, D8, by omega, rfl, by rw [Int.natCast_add]; rfl, HS8, HO8⟩
        case measure => simp [Go.RowKit.intOf]; omega
    · have hje : j = l.length := by omega
      have q1 : ¬ (j : Int) < (l.length : Int) := by omega
      subst hje
      rw [List.take_length] at HO
      go_wp2_with fail
      go_ret
      exact ⟨D, co, rfl, HO.out, HS.out⟩
end
end Go.Proofs.Ytmheofkakcomdaa
