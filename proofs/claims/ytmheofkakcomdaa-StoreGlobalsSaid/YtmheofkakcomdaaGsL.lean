/-
  store: the law StoreGlobals walked (under way).
-/
import Derived.Test.YtmheofkakcomdaaGsN
import Derived.Deep.DeepCutAuto
import Derived.Deep.CutBlock
set_option linter.unusedVariables false
set_option linter.unusedSimpArgs false
namespace Go.Proofs.Ytmheofkakcomdaa
open Go.RowKit
theorem config30 (w : World) : Calls Try.prog 8 #[] w fun e w' => e = .returned (.agg #[.int .i64 1, .int .i64 3, .int .i64 8, .int .i64 12]) ∧ Step (fun _ => False) w w' := config_any w
def mF (p : List Int × Bool) : Nat := p.1.length + (if p.2 = true then 0 else 1)
theorem risS_len (x y : Int) (p : List Int × Bool) : mF (risS x p y) = mF p + 1 := by
  obtain ⟨o, d⟩ := p
  unfold risS mF
  cases d <;> simp
  split <;> simp
theorem foldl_len (x : Int) : ∀ (l : List Int) (p : List Int × Bool), mF (l.foldl (risS x) p) = mF p + l.length
  | [], p => rfl
  | y :: l, p => by
    rw [List.foldl_cons, foldl_len x l, risS_len, List.length_cons]
    omega
theorem risF_len (l : List Int) (x : Int) : (risF l x).length = l.length + 1 := by
  have h := foldl_len x l ([], false)
  have e : mF (([], false) : List Int × Bool) = 1 := rfl
  rw [e] at h
  change mF (risP l x) = _ at h
  unfold risF
  unfold mF at h
  split
  · rename_i hd
    rw [if_pos hd] at h
    omega
  · rename_i hd
    rw [if_neg hd] at h
    rw [List.length_append, List.length_singleton]
    omega
theorem sgL_len (l : List Vr) (a : Int) (vt n : Nat) : (sgL l a vt n).length = l.length := by
  unfold sgL
  split
  · rfl
  · split
    · rfl
    · split
      · rw [List.length_set]
      · rfl
theorem sgL_vt (l : List Vr) (a : Int) (vt n : Nat) (h : ∀ v ∈ l, v.vt < 256) (hv : vt < 256) : ∀ v ∈ sgL l a vt n, v.vt < 256 := fun v hm => by
  unfold sgL at hm
  split at hm
  · exact h v hm
  · split at hm
    · exact h v hm
    · split at hm
      · rcases List.mem_or_eq_of_mem_set hm with hm | rfl
        · exact h v hm
        · exact hv
      · exact h v hm
set_option maxRecDepth 100000 in
set_option maxHeartbeats 12800000 in
theorem globals_walk (w : World) (R : Nat → Prop) (A : Option Addr) (n c : Nat) (l : List Og) (HN : Hid (n = l.length)) (hr : Reads w R 8 A n (ogs l)) (hn : n ≤ 9223372036854775807) (hwf : ∀ o ∈ l, (Lit.int .i64 o.a).wf = true ∧ (Lit.int .i64 o.b).wf = true ∧ o.vt < 256) :
    Calls Try.prog 3 #[.slice A n c] w fun e w' => e = .returned (.bool true) ∧ Step (fun _ => False) w w' := by
  have HR := Lib.hid hr
  have HWF := Lib.hid hwf
  clear hr hwf
  go_enter Try.func3, Try.ntmps3
  go_wp2_with fail
  refine (awake30 _).mono ?_
  rintro e w1 ⟨rfl, t1⟩
  have S1 := Lib.hid t1
  clear t1
  go_wp2_with fail
  refine (few30 _ _ A n c l HN (HR.out.step S1.out (fun _ _ => id)) hn).mono ?_
  rintro e w2 ⟨⟨b, rfl, hb⟩, rfl⟩
  cases b with
  | false =>
    go_wp2_with fail
    go_ret
    exact ⟨rfl, S1.out⟩
  | true =>
    have hn40 := hb rfl
    clear hb
    go_wp2_with fail
    refine (config30 _).mono ?_
    rintro e w2 ⟨rfl, t2⟩
    have S2 := Lib.hid (S1.out.trans t2)
    clear t2 S1
    go_wp2_with fail
    refine (g_new _ w.heap.size S2.out.size).mono ?_
    rintro e w3 ⟨s, rfl, hg, hvs, hnn, hf, hA, hfo, t3⟩
    have HL : Hid (Lw w w3 s none 0 none 0 []) := ⟨hg, by rw [hf]; exact fun i v h => (by cases h), by rw [hf]; exact ris_nil, by rw [hvs]; exact fun v h => (by cases h), by rw [hvs]; exact World.ownsRow_nil _ _ _ _, World.ownsRow_nil _ _ _ _, S2.out.trans t3⟩
    have HC := Lib.hid (And.intro hvs hnn)
    clear hg hvs hnn hf hA hfo t3 S2
    obtain ⟨S0, hS0⟩ : ∃ S0, S0 = s.S := ⟨_, rfl⟩
    rw [← hS0]
    have HS0 := Lib.hid hS0
    clear hS0
    go_wp2_with fail
    go_loopw [5, 6, 7] (fun u5 u6 iv wr => ∃ (j : Nat) (s : Sg) (D5 : Option Addr) (c5 : Nat) (D6 : Option Addr) (c6 : Nat) (ow : List Int), j ≤ n ∧ u5 = .slice D5 s.vs.length c5 ∧ u6 = .slice D6 ow.length c6 ∧ iv = .int .i64 (j : Int) ∧ s.vs.length ≤ j ∧ s.nn ≤ j ∧ ow.length ≤ j ∧ Hid (S0 = s.S) ∧ Hid (Lw w wr s D5 c5 D6 c6 ow)) (fun _ _ iv _ => n + 1 - (Go.RowKit.intOf iv).toNat)
    case atStart => exact ⟨0, s, none, 0, none, 0, [], Nat.zero_le _, by rw [HC.out.1]; rfl, rfl, rfl, by rw [HC.out.1]; exact Nat.le_refl _, by rw [HC.out.2]; exact Nat.le_refl _, Nat.le_refl _, HS0, HL⟩
    case round =>
      obtain ⟨j, s, D5, c5, D6, c6, ow, hj, rfl, rfl, rfl, b1, b2, b3, HS0, HL⟩ := hrel
      by_cases hlt : j < n
      · have q1 : (j : Int) < (n : Int) := by omega
        have i0 : (0 : Int) ≤ (j : Int) := by omega
        have hw1 := IntWalk.i64_in ((j : Int) + 1) (by omega)
        have hjl : j < l.length := by rw [← HN.out]; exact hlt
        obtain ⟨bk, off, hA, _, hbl, hc⟩ := reads_row Og.cells 8 (by decide) Og.eight (HR.out.step HL.out.st (fun _ _ => id)) hjl
        have HA := Lib.hid hA
        rw [hA]
        have HO := Lib.hid (HWF.out l[j] (List.getElem_mem hjl))
        clear hA
        obtain ⟨o, ho⟩ : ∃ o, o = l[j] := ⟨_, rfl⟩
        rw [← ho] at hc HO
        clear ho
        obtain ⟨k, a, b, t, mu, vt, nn, Da, dn, dc⟩ := o
        have k0 := hc 0 _ rfl
        have k1 := hc 1 _ rfl
        have k2 := hc 2 _ rfl
        have k3 := hc 3 _ rfl
        have k4 := hc 4 _ rfl
        have k5 := hc 5 _ rfl
        have k6 := hc 6 _ rfl
        have k7 := hc 7 _ rfl
        simp only [Nat.add_zero] at k0
        simp only at k0 k1 k2 k3 k4 k5 k6 k7
        clear hc
        go_upto_block 2 with fail
        obtain ⟨V, hV⟩ : ∃ V, V = wr.alloc (.cells #[.int .i64 k, .int .i64 a, .int .i64 b, .int .u8 (t : Int), .bool mu, .int .u8 (vt : Int), .int .u64 (nn : Int), .slice Da dn dc] 41) := ⟨_, rfl⟩
        obtain ⟨X, hX⟩ : ∃ X, X = wr.heap.size := ⟨_, rfl⟩
        have st : Step (fun _ => False) wr V := by rw [hV]; exact Step.refl.alloc _
        have HX := Lib.hid (Blk.new wr 41 #[.int .i64 k, .int .i64 a, .int .i64 b, .int .u8 (t : Int), .bool mu, .int .u8 (vt : Int), .int .u64 (nn : Int), .slice Da dn dc])
        rw [← hV, ← hX] at HX
        have HFT : Hid (∀ q, s.foot q → q < X) := fun q hq => by rw [hX]; exact HL.out.g.in_ q hq
        rw [← hV, ← hX]
        replace HL := Lib.hid (HL.out.quiet st)
        clear hV hX st k0 k1 k2 k3 k4 k5 k6 k7
        go_cut [5, 6] (fun u5 u6 wq => ∃ (s' : Sg) (D5 : Option Addr) (c5 : Nat) (D6 : Option Addr) (c6 : Nat) (ow : List Int), u5 = .slice D5 s'.vs.length c5 ∧ u6 = .slice D6 ow.length c6 ∧ s'.vs.length ≤ j + 1 ∧ s'.nn ≤ j + 1 ∧ ow.length ≤ j + 1 ∧ Hid (S0 = s'.S) ∧ Hid (Lw w wq s' D5 c5 D6 c6 ow) ∧ Hid (Blk wq X 41 #[.int .i64 k, .int .i64 a, .int .i64 b, .int .u8 (t : Int), .bool mu, .int .u8 (vt : Int), .int .u64 (nn : Int), .slice Da dn dc]))
        case first =>
          by_cases h4 : k = 4
          · have e4 : (k == 4) = true := beq_iff_eq.2 h4
            have x2 := HX.out.cell 2
            have x3 := HX.out.cell 3
            have x4 := HX.out.cell 4
            have x5 := HX.out.cell 5
            have x6 := HX.out.cell 6
            simp at x2 x3 x4 x5 x6
            have hadd := s_addglobal t vt nn mu b HL.out.g (by omega) HL.out.st.size
            rw [← HS0.out] at hadd
            have HAD := Lib.hid hadd
            replace h4 := Lib.hid h4
            clear hadd
            go_wp2_with fail
            refine HAD.out.mono ?_
            rintro e w4 ⟨rfl, A', c', hg, hu⟩
            rw [HS0.out] at hg hu
            have hxf : ¬ s.foot X := fun hx => by have := HFT.out X hx; omega
            have HG4 := Lib.hid hg
            have HX4 := Lib.hid (HX.out.step hu.1 hxf)
            have R5 := Lib.hid (own_step HL.out.r5 hu.1 (fun q hq => HL.out.g.row_apart HL.out.r5 (by decide) (by decide) q (by rwa [ownBlock_slice] at hq)))
            have R6 := Lib.hid (own_step HL.out.r6 hu.1 (fun q hq => HL.out.g.row_apart HL.out.r6 (by decide) (by decide) q (by rwa [ownBlock_slice] at hq)))
            have ST := Lib.hid (HL.out.st.trans' hu.1 (fun q hq => .inr (HL.out.g.gef q hq)))
            clear hg hu hxf HAD x2 x3 x4 x5 x6
            have y2 := HX4.out.cell 2
            have y3 := HX4.out.cell 3
            have y4 := HX4.out.cell 4
            have y5 := HX4.out.cell 5
            have y6 := HX4.out.cell 6
            simp at y2 y3 y4 y5 y6
            have hone : ∀ u ∈ (#[.int .u8 (t : Int), .bool mu, .int .u8 (vt : Int), .int .u64 (nn : Int), .int .i64 b, .bool true] : Array Value).toList, u.oneCell' = true := by simp [Value.oneCell']
            have hrn := reads_new w4 #[.int .u8 (t : Int), .bool mu, .int .u8 (vt : Int), .int .u64 (nn : Int), .int .i64 b, .bool true] 44 6 1 rfl
            have hmx : s.vs.length + 1 ≤ maxLen := by unfold maxLen; omega
            have hsx := ST.out.size
            go_wp2_with (at_builtin; refine wpList_append_src _ rfl _ _ (by rfl) E_rv (by rfl) (R5.out.alloc _) (by rfl) hrn hone hmx (by omega) (by simp; omega) ?_; intro D8 c8 w8 hown8 hgrow hat)
            have al : Step (fun _ => False) w4 (w4.alloc (.cells #[.int .u8 (t : Int), .bool mu, .int .u8 (vt : Int), .int .u64 (nn : Int), .int .i64 b, .bool true] 44)) := Step.refl.alloc _
            have hs8 : Step (fun q => blkOf D5 = some q) (w4.alloc (.cells #[.int .u8 (t : Int), .bool mu, .int .u8 (vt : Int), .int .u64 (nn : Int), .int .i64 b, .bool true] 44)) w8 := Step.grown Step.refl hgrow (fun q hq => .inl hq)
            have G8 := (HG4.out.quiet al).row_grow (own_below R5.out al) (by decide) (by decide) (by decide) (by decide) hs8
            have R6' := own_step (own_below R6.out al) hs8 (fun q hq e => row_row (own_below R6.out al) (own_below R5.out al) (by decide) q (by rwa [ownBlock_slice] at hq) e)
            have HX8 := Lib.hid ((HX4.out.step al id).step hs8 (fun e => by
              have h9 := own_tag (own_below R5.out al) (HX4.out.step al id) (by decide)
              rw [ownBlock_slice] at h9
              exact h9 e))
            have ST8 := (ST.out.trans al).trans' hs8 (fun q hq => .inr (own_ge R5.out q (by rwa [ownBlock_slice])))
            have HL8 : Hid (Lw w w8 { s with A := A', c := c', vs := s.vs ++ [⟨t, mu, vt, nn, b, true⟩] } D8 c8 D6 c6 ow) := ⟨G8, HL.out.ok, HL.out.ris, fun v hv => by
              rcases List.mem_append.1 hv with hv | hv
              · exact HL.out.vt v hv
              · rw [List.mem_singleton.1 hv]; exact HO.out.2.2, by
              show World.ownsRow _ _ _ 6 (.slice D8 (s.vs ++ [_]).length c8) (s.vs ++ [_]).length _
              rw [List.length_append, vrs_append]
              exact hown8, R6', ST8⟩
            clear hown8 hgrow hat al hs8 G8 R6' ST8 hone hrn hmx hsx y2 y3 y4 y5 y6
            go_meet
            exact ⟨{ s with A := A', c := c', vs := s.vs ++ [⟨t, mu, vt, nn, b, true⟩] }, D8, c8, D6, c6, ow, by rw [List.length_append]; rfl, rfl, by rw [List.length_append]; simp; omega, by show s.nn ≤ _; omega, by omega, HS0, HL8, HX8⟩
          · by_cases h5 : k = 5
            · as_aux_lemma =>
                have e4 : (k == 4) = false := beq_eq_false_iff_ne.2 h4
                have e5 : (k == 5) = true := beq_iff_eq.2 h5
                have x1 := HX.out.cell 1
                have x5 := HX.out.cell 5
                have x6 := HX.out.cell 6
                simp at x1 x5 x6
                have hset := s_setglobal a vt nn HL.out.g (by omega) HL.out.vt
                rw [← HS0.out] at hset
                have HAD := Lib.hid hset
                replace h4 := Lib.hid h4
                replace h5 := Lib.hid h5
                clear hset
                go_wp2_with fail
                refine HAD.out.mono ?_
                rintro e w4 ⟨rfl, hg, hs⟩
                rw [HS0.out] at hg
                have hxf : ¬ s.foot X := fun hx => by have := HFT.out X hx; omega
                have HG4 := Lib.hid hg
                have HX4 := Lib.hid (HX.out.step hs hxf)
                have R5 := Lib.hid (own_step HL.out.r5 hs (fun q hq => HL.out.g.row_apart HL.out.r5 (by decide) (by decide) q (by rwa [ownBlock_slice] at hq)))
                have R6 := Lib.hid (own_step HL.out.r6 hs (fun q hq => HL.out.g.row_apart HL.out.r6 (by decide) (by decide) q (by rwa [ownBlock_slice] at hq)))
                have ST := Lib.hid (HL.out.st.trans' hs (fun q hq => .inr (HL.out.g.gef q hq)))
                clear hg hs hxf HAD x1 x5 x6
                have y1 := HX4.out.cell 1
                have y5 := HX4.out.cell 5
                have y6 := HX4.out.cell 6
                simp at y1 y5 y6
                have HSR := Lib.hid (r_set (w := w4) (B := w.heap.size) D5 c5 s.vs a vt nn R5.out (by omega) ST.out.size)
                go_wp2_with fail
                refine HSR.out.mono ?_
                rintro e w5 ⟨D', c', rfl, hr5, t5⟩
                have HX8 := Lib.hid (HX4.out.step t5 id)
                have HL8 : Hid (Lw w w5 { s with vs := sgL s.vs a vt nn } D' c' D6 c6 ow) := ⟨HG4.out.quiet t5, HL.out.ok, HL.out.ris, sgL_vt s.vs a vt nn HL.out.vt HO.out.2.2, hr5, own_below R6.out t5, ST.out.trans t5⟩
                have HLN := Lib.hid (sgL_len s.vs a vt nn)
                clear hr5 t5 HSR y1 y5 y6
                go_wp2_with fail
                go_meet
                exact ⟨{ s with vs := sgL s.vs a vt nn }, D', c', D6, c6, ow, rfl, rfl, by show (sgL s.vs a vt nn).length ≤ _; rw [HLN.out]; omega, by show s.nn ≤ _; omega, by omega, HS0, HL8, HX8⟩
            · by_cases h7 : k = 7
              · have e4 : (k == 4) = false := beq_eq_false_iff_ne.2 h4
                have e5 : (k == 5) = false := beq_eq_false_iff_ne.2 h5
                have e7 : (k == 7) = true := beq_iff_eq.2 h7
                have x1 := HX.out.cell 1
                have x2 := HX.out.cell 2
                simp at x1 x2
                replace h4 := Lib.hid h4
                replace h5 := Lib.hid h5
                replace h7 := Lib.hid h7
                have al : Step (fun _ => False) V (V.alloc (.cells #[.int .i64 a] 3)) := Step.refl.alloc _
                have HLa := Lib.hid (HL.out.quiet al)
                have HXa := Lib.hid (HX.out.step al id)
                have HFa : Hid (∀ q, s.foot q → q < X) := HFT
                clear al
                by_cases hbs : (s.f b).isSome = true
                · have hadd := s_addinst_twice b HO.out.2.1 (none, 0, 0) (some ⟨V.heap.size, 0, none⟩, 1, 1) (none, 0, 0) HLa.out.g HL.out.ok hbs
                  rw [← HS0.out] at hadd
                  have HAD := Lib.hid hadd
                  have HBO : Hid (b ∈ ow) := (HL.out.ris.mem b).2 hbs
                  clear hadd hbs
                  go_wp2_with fail
                  refine HAD.out.mono ?_
                  rintro e w4 ⟨rfl, t4⟩
                  have HL4 := Lib.hid (HLa.out.quiet t4)
                  have HX4 := Lib.hid (HXa.out.step t4 id)
                  have y2 := HX4.out.cell 2
                  simp at y2
                  have hhas := r_has w4 _ D6 c6 ow b (Reads.of_own HL4.out.r6) (by omega)
                  rw [decide_eq_true HBO.out] at hhas
                  have HHA := Lib.hid hhas
                  clear t4 HAD hhas x1 x2
                  go_wp2_with fail
                  refine HHA.out.mono ?_
                  rintro e w5 ⟨rfl, rfl⟩
                  clear HHA y2
                  go_wp2_with fail
                  go_meet
                  exact ⟨s, D5, c5, D6, c6, ow, rfl, rfl, by omega, by omega, by omega, HS0, HL4, HX4⟩
                · have hnone : s.f b = none := by
                    cases hq : s.f b with
                    | none => rfl
                    | some z => rw [hq] at hbs; exact absurd rfl hbs
                  have hadd := s_addinst_ok b HO.out.2.1 (none, 0, 0) (some ⟨V.heap.size, 0, none⟩, 1, 1) (none, 0, 0) HLa.out.g (by omega) hnone
                  rw [← HS0.out] at hadd
                  have HAD := Lib.hid hadd
                  have HNB : Hid (¬ b ∈ ow) := fun h => by
                    have := (HL.out.ris.mem b).1 h
                    rw [hnone] at this
                    cases this
                  clear hadd hbs hnone
                  go_wp2_with fail
                  refine HAD.out.mono ?_
                  rintro e w4 ⟨rfl, hg, hs⟩
                  rw [HS0.out] at hg
                  have hxf : ¬ s.foot X := fun hx => by have := HFT.out X hx; omega
                  have HG4 := Lib.hid hg
                  have HX4 := Lib.hid (HXa.out.step hs hxf)
                  have R5 := Lib.hid (own_step HLa.out.r5 hs (fun q hq => HLa.out.g.row_apart HLa.out.r5 (by decide) (by decide) q (by rwa [ownBlock_slice] at hq)))
                  have R6 := Lib.hid (own_step HLa.out.r6 hs (fun q hq => HLa.out.g.row_apart HLa.out.r6 (by decide) (by decide) q (by rwa [ownBlock_slice] at hq)))
                  have ST := Lib.hid (HLa.out.st.trans' hs (fun q hq => .inr (HLa.out.g.gef q hq)))
                  clear hg hs hxf HAD x1 x2
                  have y2 := HX4.out.cell 2
                  simp at y2
                  have hhas := r_has w4 _ D6 c6 ow b (Reads.of_own R6.out) (by omega)
                  rw [decide_eq_false HNB.out] at hhas
                  have HHA := Lib.hid hhas
                  have HRI := Lib.hid (r_rising w4 _ D6 c6 ow b (Reads.of_own R6.out) (by omega))
                  clear hhas
                  go_wp2_with fail
                  refine HHA.out.mono ?_
                  rintro e w5 ⟨rfl, rfl⟩
                  clear HHA
                  go_wp2_with fail
                  refine HRI.out.mono ?_
                  rintro e w6 ⟨D', c', rfl, hr6, t6⟩
                  have HX8 := Lib.hid (HX4.out.step t6 id)
                  have HL8 := Lib.hid (show Lw w w6 { s with nn := s.nn + 1, f := putI s.f b (.agg #[.slice none 0 0, .slice (some ⟨V.heap.size, 0, none⟩) 1 1, .slice none 0 0]), D := s.D.put (kI b) (.held (.agg #[.slice none 0 0, .slice (some ⟨V.heap.size, 0, none⟩) 1 1, .slice none 0 0])) } D5 c5 D' c' (risF ow b) from
                    ⟨HG4.out.quiet t6, fun i v hv => by
                      simp only [putI] at hv
                      split at hv
                      · injection hv with hv
                        exact ⟨(none, 0, 0), (some ⟨V.heap.size, 0, none⟩, 1, 1), (none, 0, 0), hv.symm⟩
                      · exact HL.out.ok i v hv, ris_put HL.out.ris b _ HNB.out, HL.out.vt, own_below R5.out t6, own_base hr6 (fun q hq => by have := own_ge hr6 q hq; have := ST.out.size; omega), ST.out.trans t6⟩)
                  have HRL := Lib.hid (risF_len ow b)
                  clear hr6 t6 HRI y2
                  go_wp2_with fail
                  go_meet
                  exact ⟨{ s with nn := s.nn + 1, f := putI s.f b (.agg #[.slice none 0 0, .slice (some ⟨V.heap.size, 0, none⟩) 1 1, .slice none 0 0]), D := s.D.put (kI b) (.held (.agg #[.slice none 0 0, .slice (some ⟨V.heap.size, 0, none⟩) 1 1, .slice none 0 0])) }, D5, c5, D', c', risF ow b, rfl, rfl, by show s.vs.length ≤ _; omega, by show s.nn + 1 ≤ _; omega, by rw [HRL.out]; omega, HS0, HL8, HX8⟩
              · by_cases h9 : k = 9
                · have e4 : (k == 4) = false := beq_eq_false_iff_ne.2 h4
                  have e5 : (k == 5) = false := beq_eq_false_iff_ne.2 h5
                  have e7 : (k == 7) = false := beq_eq_false_iff_ne.2 h7
                  have e9 : (k == 9) = true := beq_iff_eq.2 h9
                  have x2 := HX.out.cell 2
                  simp at x2
                  replace h4 := Lib.hid h4
                  replace h5 := Lib.hid h5
                  replace h7 := Lib.hid h7
                  replace h9 := Lib.hid h9
                  by_cases hbs : (s.f b).isSome = true
                  · have hadd := s_free_ok b HO.out.2.1 HL.out.g HL.out.ok (by omega) hbs
                    rw [← HS0.out] at hadd
                    have HAD := Lib.hid hadd
                    have HBO : Hid (b ∈ ow) := (HL.out.ris.mem b).2 hbs
                    clear hadd hbs
                    go_wp2_with fail
                    refine HAD.out.mono ?_
                    rintro e w4 ⟨rfl, hg, hs⟩
                    rw [HS0.out] at hg
                    have hxf : ¬ s.foot X := fun hx => by have := HFT.out X hx; omega
                    have HG4 := Lib.hid hg
                    have HX4 := Lib.hid (HX.out.step hs hxf)
                    have R5 := Lib.hid (own_step HL.out.r5 hs (fun q hq => HL.out.g.row_apart HL.out.r5 (by decide) (by decide) q (by rwa [ownBlock_slice] at hq)))
                    have R6 := Lib.hid (own_step HL.out.r6 hs (fun q hq => HL.out.g.row_apart HL.out.r6 (by decide) (by decide) q (by rwa [ownBlock_slice] at hq)))
                    have ST := Lib.hid (HL.out.st.trans' hs (fun q hq => .inr (HL.out.g.gef q hq)))
                    clear hg hs hxf HAD x2
                    have y2 := HX4.out.cell 2
                    simp at y2
                    have hhas := r_has w4 _ D6 c6 ow b (Reads.of_own R6.out) (by omega)
                    rw [decide_eq_true HBO.out] at hhas
                    have HHA := Lib.hid hhas
                    have HWO := Lib.hid (fun (u : World) (t : Step (fun _ => False) w4 u) => r_without u _ D6 c6 ow b (Reads.of_own (own_below R6.out t)) (by omega))
                    have HFR := Lib.hid (fun (u : World) (t : Step (fun _ => False) w4 u) => r_free (w := u) _ D5 c5 s.vs b (Reads.of_own (own_below R5.out t)) (by omega))
                    have d2 := cls_cell (F := fun _ => False) (w0 := w4) y2 id
                    clear hhas
                    go_wp2_with fail
                    refine HHA.out.mono ?_
                    rintro e w5 ⟨rfl, rfl⟩
                    clear HHA
                    go_wp2_with fail
                    refine Mix.wp_region_mix [3, 7] [3, 7] (Step (fun _ => False) w4) (by kernel_rfl) (by kernel_rfl) (Step.refl.drew) (fun hcls => ?_)
                    refine Mix.wpL_reads 3 (by rfl) ?_
                    simp only [List.take_succ_cons, List.drop_succ_cons, List.take_zero, List.drop_zero]
                    repeat (go_big_quiet_step (fail))
                    refine wpQuiet_nil ?_
                    refine Mix.wpL_op (by rfl) (fun K hK => ?_)
                    go_simp
                    refine (HWO.out _ Step.refl.drew).mono ?_
                    rintro e w6 ⟨D6', c6', rfl, hr6, t6⟩
                    have T6 := Lib.hid (Step.refl.drew.trans t6)
                    have H6 := Lib.hid hr6
                    clear hr6 t6
                    refine hK _ _ (fun hlt => Mix.cl (T6.out)) ?_
                    clear hK K
                    refine Mix.wpL_reads 3 (by rfl) ?_
                    simp only [List.take_succ_cons, List.drop_succ_cons, List.take_zero, List.drop_zero]
                    repeat (go_big_quiet_step (fail))
                    refine wpQuiet_nil ?_
                    refine Mix.wpL_op (by rfl) (fun K hK => ?_)
                    go_simp
                    refine (HFR.out _ T6.out).mono ?_
                    rintro e w7 ⟨D5', c5', rfl, hr5, t7⟩
                    have T7 := Lib.hid (T6.out.trans t7)
                    have H5 := Lib.hid hr5
                    have H7 := Lib.hid t7
                    clear hr5 t7
                    refine hK _ _ (fun hlt => Mix.cl (T7.out)) ?_
                    clear hK K
                    refine Mix.wpL_reads 2 (by rfl) ?_
                    simp only [List.take_succ_cons, List.drop_succ_cons, List.take_zero, List.drop_zero]
                    repeat (go_big_quiet_step (fail))
                    refine wpQuiet_nil ?_
                    refine Mix.wpL_end ?_
                    clear d2 y2
                    have HLM : Hid ((s.vs.map (frV b)).length = s.vs.length) := List.length_map _
                    have HLW : Hid ((woF ow b).length ≤ ow.length) := List.length_filter_le _ _
                    have HX8 := Lib.hid (HX4.out.step T7.out id)
                    have HL8 := Lib.hid (show Lw w w7 { s with f := delI s.f b, D := s.D.del (kI b), vs := s.vs.map (frV b) } D5' c5' D6' c6' (woF ow b) from
                      ⟨HG4.out.quiet T7.out, fun i v hv => by
                        simp only [delI] at hv
                        split at hv
                        · cases hv
                        · exact HL.out.ok i v hv, ris_del HL.out.ris b, fun v hv => by
                        obtain ⟨v', hv', rfl⟩ := List.mem_map.1 hv
                        unfold frV
                        split
                        · show (0 : Nat) < 256
                          decide
                        · exact HL.out.vt v' hv', own_base H5.out (fun q hq => by have := own_ge H5.out q hq; have := ST.out.size; have := T6.out.size; omega), own_base (own_below H6.out H7.out) (fun q hq => by have h9 : w4.heap.size ≤ q := own_ge H6.out q hq; have := ST.out.size; omega), ST.out.trans T7.out⟩)
                    clear H5 H6 H7 T6 T7 HG4 R5 R6 HWO HFR ST
                    go_wp2_with fail
                    go_meet
                    exact ⟨{ s with f := delI s.f b, D := s.D.del (kI b), vs := s.vs.map (frV b) }, D5', c5', D6', c6', woF ow b, rfl, rfl, by show (s.vs.map (frV b)).length ≤ _; rw [HLM.out]; omega, by show s.nn ≤ _; omega, by have := HLW.out; omega, HS0, HL8, HX8⟩
                  · have hnone : s.f b = none := by
                      cases hq : s.f b with
                      | none => rfl
                      | some z => rw [hq] at hbs; exact absurd rfl hbs
                    have hadd := s_free_dead b HO.out.2.1 HL.out.g hnone
                    rw [← HS0.out] at hadd
                    have HAD := Lib.hid hadd
                    have HNB : Hid (¬ b ∈ ow) := fun h => by
                      have := (HL.out.ris.mem b).1 h
                      rw [hnone] at this
                      cases this
                    clear hadd hbs hnone
                    go_wp2_with fail
                    refine HAD.out.mono ?_
                    rintro e w4 ⟨rfl, t4⟩
                    have HL4 := Lib.hid (HL.out.quiet t4)
                    have HX4 := Lib.hid (HX.out.step t4 id)
                    have y2 := HX4.out.cell 2
                    simp at y2
                    have hhas := r_has w4 _ D6 c6 ow b (Reads.of_own HL4.out.r6) (by omega)
                    rw [decide_eq_false HNB.out] at hhas
                    have HHA := Lib.hid hhas
                    clear t4 HAD hhas x2
                    go_wp2_with fail
                    refine HHA.out.mono ?_
                    rintro e w5 ⟨rfl, rfl⟩
                    clear HHA y2
                    go_wp2_with fail
                    go_meet
                    exact ⟨s, D5, c5, D6, c6, ow, rfl, rfl, by omega, by omega, by omega, HS0, HL4, HX4⟩
                · have e4 : (k == 4) = false := beq_eq_false_iff_ne.2 h4
                  have e5 : (k == 5) = false := beq_eq_false_iff_ne.2 h5
                  have e7 : (k == 7) = false := beq_eq_false_iff_ne.2 h7
                  have e9 : (k == 9) = false := beq_eq_false_iff_ne.2 h9
                  go_wp2_with fail
                  go_meet
                  exact ⟨s, D5, c5, D6, c6, ow, rfl, rfl, by omega, by omega, by omega, HS0, HL, HX⟩
        case rest => as_aux_lemma =>
          obtain ⟨s', D5', c5', D6', c6', ow', rfl, rfl, b1', b2', b3', HS0', HL', HX'⟩ := hcut
          have x1 := HX'.out.cell 1
          simp at x1
          have hga := s_globalat a HL'.out.g (by omega)
          rw [← HS0'.out] at hga
          have HGA := Lib.hid hga
          clear hga
          go_wp2_with fail
          refine HGA.out.mono ?_
          rintro e w4 ⟨rfl, t4⟩
          have HL4 := Lib.hid (HL'.out.quiet t4)
          have HX4 := Lib.hid (HX'.out.step t4 id)
          clear t4 x1 HGA
          have y2 := HX4.out.cell 2
          simp at y2
          have nX := HX4.out.lt
          obtain ⟨ok, hok⟩ : ∃ ok, ok = (gaF s'.vs a).isSome := ⟨_, rfl⟩
          obtain ⟨G, hG⟩ : ∃ G, G = (gaF s'.vs a).getD default := ⟨_, rfl⟩
          rw [← hok, ← hG]
          have HOK := Lib.hid (And.intro hok hG)
          clear hok hG
          obtain ⟨gt, gm, gv, gn, go, gl⟩ := G
          simp only [Vr.val]
          have hins : ∀ u, Step (fun _ => False) w4 u → Calls Try.prog 19 #[.pointer (some ⟨s'.S, 0, none⟩), .int .i64 b] u fun e w' => (∃ x y z : Option Addr × Nat × Nat, e = .returned (.tuple #[.agg #[.slice x.1 x.2.1 x.2.2, .slice y.1 y.2.1 y.2.2, .slice z.1 z.2.1 z.2.2], .bool (s'.f b).isSome])) ∧ Step (fun _ => False) u w' := fun u t => s_instof b HO.out.2.1 (HL4.out.g.quiet t) HL'.out.ok
          rw [← HS0'.out] at hins
          have HIN := Lib.hid hins
          clear hins
          go_wp2_with fail
          refine (HIN.out _ (Step.refl.alloc _)).mono ?_
          rintro e w5 ⟨⟨⟨p1, p2, p3⟩, ⟨q1', q2', q3'⟩, ⟨r1, r2, r3⟩, rfl⟩, t5⟩
          simp only
          have HL5 := Lib.hid (HL4.out.quiet ((Step.refl.alloc _).trans t5))
          have HBG := Lib.hid ((Blk.new w4 56 #[.int .u8 (gt : Int), .bool gm, .int .u8 (gv : Int), .int .u64 (gn : Int), .int .i64 go, .bool gl]).step t5 id)
          have HX5 := Lib.hid (HX4.out.step ((Step.refl.alloc _).trans t5) id)
          clear t5 y2 nX HIN
          go_wp2_with fail
          obtain ⟨V5, hV5⟩ : ∃ V5, V5 = w5.alloc (.cells #[.slice p1 p2 p3, .slice q1' q2' q3', .slice r1 r2 r3] 51) := ⟨_, rfl⟩
          have st5 : Step (fun _ => False) w5 V5 := by rw [hV5]; exact Step.refl.alloc _
          rw [← hV5]
          replace HL5 := Lib.hid (HL5.out.quiet st5)
          replace HBG := Lib.hid (HBG.out.step st5 id)
          replace HX5 := Lib.hid (HX5.out.step st5 id)
          clear hV5 st5
          have y1 := HX5.out.cell 1
          have y2 := HX5.out.cell 2
          simp at y1 y2
          have d1 := cls_cell2 (F := fun _ => False) (w0 := V5) y1 id
          have d2 := cls_cell2 (F := fun _ => False) (w0 := V5) y2 id
          have g0 := HBG.out.cell 0
          have g1 := HBG.out.cell 1
          have g2 := HBG.out.cell 2
          have g3 := HBG.out.cell 3
          have g4 := HBG.out.cell 4
          simp at g0 g1 g2 g3 g4
          have d3 := cls_cell2 (F := fun _ => False) (w0 := V5) g0 id
          have d4 := cls_cell2 (F := fun _ => False) (w0 := V5) g1 id
          have d5 := cls_cell2 (F := fun _ => False) (w0 := V5) g2 id
          have d6 := cls_cell2 (F := fun _ => False) (w0 := V5) g3 id
          have d7 := cls_cell2 (F := fun _ => False) (w0 := V5) g4 id
          obtain ⟨hs, hhs⟩ : ∃ hs, hs = (s'.f b).isSome := ⟨_, rfl⟩
          rw [← hhs]
          have hgl := HL5.out.c_globals
          have how := HL5.out.c_owners (Nat.le_trans b2' (by omega))
          have hhas := HL5.out.c_has (Nat.le_trans b3' (by omega)) b
          rw [← HS0'.out] at hgl how
          rw [← hhs] at hhas
          have HGL := Lib.hid hgl
          have HOW := Lib.hid how
          have HHS := Lib.hid hhas
          have HSM := Lib.hid (HL5.out.c_same (Nat.le_trans b3' (by omega)))
          have HLI := Lib.hid (HL5.out.c_live (Nat.le_trans b1' (by omega)) a HOK.out.1)
          replace hhs := Lib.hid hhs
          have HG := Lib.hid (And.intro g0 (And.intro g1 (And.intro g2 (And.intro g3 g4))))
          clear hgl how hhas g0 g1 g2 g3 g4 y1 y2
          cases ok with
          | false =>
            have st : Step (fun _ => False) V5 V5.drew := Step.refl.drew
            refine Mxg.wp_region_masks [4, 44, 54, 59, 61] [4, 44, 54, 59, 61] (.reads [0, 1, 2, 3] (.op 4 (.reads [5, 6, 7, 8, 9, 10, 11, 12, 13, 14, 15, 16, 17, 18, 19, 20, 21, 22, 23, 24, 25, 26, 27, 28, 29, 30, 31, 32, 33, 34, 35, 36, 37, 38, 39, 40, 41, 42, 43, 45, 46] (.op 44 (.reads [47, 48, 49, 50, 51, 52, 53] (.op 54 (.reads [55, 56, 57, 58, 60] (.op 59 (.op 61 (.reads [62, 63] .leaf)))))))))) [0, 0, 0, 4, 14, 31, 63, 127, 255, 511, 1023, 511, 511, 4607, 14847, 31231, 63999, 131071, 262143, 524287, 1048575, 524287, 524287, 4718591, 15204351, 31981567, 65535999, 134217727, 268435455, 536870911, 1073741823, 2147483647, 1073741823, 1073741823, 9663676415, 31138512895, 65498251263, 134217727999, 274877906943, 549755813887, 1099511627775, 2199023255551, 4398046511103, 8796093022207, 17592186044415, 8796093022207, 43980465111039, 140737488355327, 281474976710655, 562949953421311, 1125899906842623, 1125899906842623, 1125899906842623, 5629499534213119, 16888498602639359, 36028797018963967, 72057594037927935, 144115188075855871, 288230376151711743, 576460752303423487, 288230376151711743, 2305843009213693951, 4611686018427387903, 9223372036854775807] (Step (fun _ => False) V5) (by kernel_rfl) (by kernel_rfl) (st) (fun hcls => ?_)
            refine Mxg.wpTL_reads ?_
            simp only [List.flatMap_cons, List.flatMap_nil, List.getElem?_cons_succ, List.getElem?_cons_zero, Option.toList_some, List.cons_append, List.nil_append]
            repeat (go_big_quiet_step (fail))
            refine wpQuiet_nil ?_
            refine Mxg.wpTL_op (by rfl) (fun K hK => ?_)
            go_simp
            refine (HLI.out _ st).mono ?_
            rintro e v1 ⟨rfl, rfl⟩
            refine hK _ _ (fun hlt => Mif.cl (st)) ?_
            clear hK K
            refine Mxg.wpTL_reads ?_
            simp only [List.flatMap_cons, List.flatMap_nil, List.getElem?_cons_succ, List.getElem?_cons_zero, Option.toList_some, List.cons_append, List.nil_append]
            repeat (go_big_quiet_step (fail))
            refine wpQuiet_nil ?_
            refine Mxg.wpTL_op (by rfl) (fun K hK => ?_)
            go_simp
            refine (HGL.out _ st).mono ?_
            rintro e v1 ⟨rfl, rfl⟩
            refine hK _ _ (fun hlt => Mif.cl (st)) ?_
            clear hK K
            refine Mxg.wpTL_reads ?_
            simp only [List.flatMap_cons, List.flatMap_nil, List.getElem?_cons_succ, List.getElem?_cons_zero, Option.toList_some, List.cons_append, List.nil_append]
            repeat (go_big_quiet_step (fail))
            refine wpQuiet_nil ?_
            refine Mxg.wpTL_op (by rfl) (fun K hK => ?_)
            go_simp
            refine (HHS.out _ st).mono ?_
            rintro e v1 ⟨rfl, rfl⟩
            refine hK _ _ (fun hlt => Mif.cl (st)) ?_
            clear hK K
            refine Mxg.wpTL_reads ?_
            simp only [List.flatMap_cons, List.flatMap_nil, List.getElem?_cons_succ, List.getElem?_cons_zero, Option.toList_some, List.cons_append, List.nil_append]
            repeat (go_big_quiet_step (fail))
            refine wpQuiet_nil ?_
            refine Mxg.wpTL_op (by rfl) (fun K hK => ?_)
            go_simp
            refine (HOW.out _ st).mono ?_
            rintro e v1 ⟨Do, co, rfl, hro, t8⟩
            have HRO := Lib.hid hro
            have st1 := st.trans t8
            clear hro
            refine hK _ _ (fun hlt => Mif.cl (st1)) ?_
            clear hK K
            refine Mxg.wpTL_op (by rfl) (fun K hK => ?_)
            go_simp
            refine (HSM.out _ st1 _ _ _ HRO.out).mono ?_
            rintro e v2 ⟨rfl, t9⟩
            have st2 := st1.trans t9
            refine hK _ _ (fun hlt => Mif.cl (st2)) ?_
            clear hK K
            refine Mxg.wpTL_reads ?_
            simp only [List.flatMap_cons, List.flatMap_nil, List.getElem?_cons_succ, List.getElem?_cons_zero, Option.toList_some, List.cons_append, List.nil_append]
            repeat (go_big_quiet_step (fail))
            refine wpQuiet_nil ?_
            refine Mxg.wpTL_leaf ?_
            have HL9 := Lib.hid (HL5.out.quiet st2)
            clear t8 t9 st st1 st2 hcls HRO HSM HOW HHS HGL HLI HL5 HX5 HG HOK
            go_wp2_with fail
            exact ⟨⟨j + 1, s', D5', c5', D6', c6', ow', by omega, rfl, rfl, by rw [Int.natCast_add]; rfl, b1', b2', b3', HS0', HL9⟩, by simp [Go.RowKit.intOf]; omega⟩
          | true =>
            obtain ⟨kk, hak, hkk, hgk⟩ : ∃ k : Nat, a = (k : Int) ∧ ∃ hk : k < s'.vs.length, (⟨gt, gm, gv, gn, go, gl⟩ : Vr) = s'.vs[k] := by
              obtain ⟨o1, o2⟩ := HOK.out
              cases hq : gaF s'.vs a with
              | none => rw [hq] at o1; cases o1
              | some g =>
                rw [hq] at o2
                obtain ⟨k, h1, h2, h3⟩ := gaF_some hq
                exact ⟨k, h1, h2, by rw [o2, ← h3]; rfl⟩
            obtain ⟨bv, ov, hB5, _, hbl5, hc5⟩ := reads_row Vr.cells 6 (by decide) Vr.six (Reads.of_own HL5.out.r5) hkk
            rw [← hgk] at hc5
            have z0 := hc5 0 _ rfl
            have z1 := hc5 1 _ rfl
            have z2 := hc5 2 _ rfl
            have z3 := hc5 3 _ rfl
            have z4 := hc5 4 _ rfl
            simp only [Nat.add_zero] at z0
            simp only at z0 z1 z2 z3 z4
            have f0 := cls_cell2 (F := fun _ => False) (w0 := V5) z0 id
            have f1 := cls_cell2 (F := fun _ => False) (w0 := V5) z1 id
            have f2 := cls_cell2 (F := fun _ => False) (w0 := V5) z2 id
            have f3 := cls_cell2 (F := fun _ => False) (w0 := V5) z3 id
            have f4 := cls_cell2 (F := fun _ => False) (w0 := V5) z4 id
            have HB5 := Lib.hid hB5
            rw [hB5] at HLI ⊢
            have HGK := Lib.hid hgk
            have HAK := Lib.hid hak
            have q2 : (kk : Int) < (s'.vs.length : Int) := by omega
            have i2 : (0 : Int) ≤ (kk : Int) := by omega
            rw [hak] at d1 HLI
            clear hc5 z0 z1 z2 z3 z4 hB5 hgk hak
            have st : Step (fun _ => False) V5 V5.drew := Step.refl.drew
            refine Mxg.wp_region_masks [4, 44, 54, 59, 61] [4, 44, 54, 59, 61] (.reads [0, 1, 2, 3] (.op 4 (.reads [5, 6, 7, 8, 9, 10, 11, 12, 13, 14, 15, 16, 17, 18, 19, 20, 21, 22, 23, 24, 25, 26, 27, 28, 29, 30, 31, 32, 33, 34, 35, 36, 37, 38, 39, 40, 41, 42, 43, 45, 46] (.op 44 (.reads [47, 48, 49, 50, 51, 52, 53] (.op 54 (.reads [55, 56, 57, 58, 60] (.op 59 (.op 61 (.reads [62, 63] .leaf)))))))))) [0, 0, 0, 4, 14, 31, 63, 127, 255, 511, 1023, 511, 511, 4607, 14847, 31231, 63999, 131071, 262143, 524287, 1048575, 524287, 524287, 4718591, 15204351, 31981567, 65535999, 134217727, 268435455, 536870911, 1073741823, 2147483647, 1073741823, 1073741823, 9663676415, 31138512895, 65498251263, 134217727999, 274877906943, 549755813887, 1099511627775, 2199023255551, 4398046511103, 8796093022207, 17592186044415, 8796093022207, 43980465111039, 140737488355327, 281474976710655, 562949953421311, 1125899906842623, 1125899906842623, 1125899906842623, 5629499534213119, 16888498602639359, 36028797018963967, 72057594037927935, 144115188075855871, 288230376151711743, 576460752303423487, 288230376151711743, 2305843009213693951, 4611686018427387903, 9223372036854775807] (Step (fun _ => False) V5) (by kernel_rfl) (by kernel_rfl) (st) (fun hcls => ?_)
            refine Mxg.wpTL_reads ?_
            simp only [List.flatMap_cons, List.flatMap_nil, List.getElem?_cons_succ, List.getElem?_cons_zero, Option.toList_some, List.cons_append, List.nil_append]
            repeat (go_big_quiet_step (fail))
            refine wpQuiet_nil ?_
            refine Mxg.wpTL_op (by rfl) (fun K hK => ?_)
            go_simp
            refine (HLI.out _ st).mono ?_
            rintro e v1 ⟨rfl, rfl⟩
            refine hK _ _ (fun hlt => Mif.cl (st)) ?_
            clear hK K
            refine Mxg.wpTL_reads ?_
            simp only [List.flatMap_cons, List.flatMap_nil, List.getElem?_cons_succ, List.getElem?_cons_zero, Option.toList_some, List.cons_append, List.nil_append]
            repeat (go_big_quiet_step (fail))
            refine wpQuiet_nil ?_
            refine Mxg.wpTL_op (by rfl) (fun K hK => ?_)
            go_simp
            refine (HGL.out _ st).mono ?_
            rintro e v1 ⟨rfl, rfl⟩
            refine hK _ _ (fun hlt => Mif.cl (st)) ?_
            clear hK K
            refine Mxg.wpTL_reads ?_
            simp only [List.flatMap_cons, List.flatMap_nil, List.getElem?_cons_succ, List.getElem?_cons_zero, Option.toList_some, List.cons_append, List.nil_append]
            repeat (go_big_quiet_step (fail))
            refine wpQuiet_nil ?_
            refine Mxg.wpTL_op (by rfl) (fun K hK => ?_)
            go_simp
            refine (HHS.out _ st).mono ?_
            rintro e v1 ⟨rfl, rfl⟩
            refine hK _ _ (fun hlt => Mif.cl (st)) ?_
            clear hK K
            refine Mxg.wpTL_reads ?_
            simp only [List.flatMap_cons, List.flatMap_nil, List.getElem?_cons_succ, List.getElem?_cons_zero, Option.toList_some, List.cons_append, List.nil_append]
            repeat (go_big_quiet_step (fail))
            refine wpQuiet_nil ?_
            refine Mxg.wpTL_op (by rfl) (fun K hK => ?_)
            go_simp
            refine (HOW.out _ st).mono ?_
            rintro e v1 ⟨Do, co, rfl, hro, t8⟩
            have HRO := Lib.hid hro
            have st1 := st.trans t8
            clear hro
            refine hK _ _ (fun hlt => Mif.cl (st1)) ?_
            clear hK K
            refine Mxg.wpTL_op (by rfl) (fun K hK => ?_)
            go_simp
            refine (HSM.out _ st1 _ _ _ HRO.out).mono ?_
            rintro e v2 ⟨rfl, t9⟩
            have st2 := st1.trans t9
            refine hK _ _ (fun hlt => Mif.cl (st2)) ?_
            clear hK K
            refine Mxg.wpTL_reads ?_
            simp only [List.flatMap_cons, List.flatMap_nil, List.getElem?_cons_succ, List.getElem?_cons_zero, Option.toList_some, List.cons_append, List.nil_append]
            repeat (go_big_quiet_step (fail))
            refine wpQuiet_nil ?_
            refine Mxg.wpTL_leaf ?_
            have HL9 := Lib.hid (HL5.out.quiet st2)
            clear t8 t9 st st1 st2 hcls HRO HSM HOW HHS HGL HLI HL5 HX5 HG HOK
            go_wp2_with fail
            rw [← HB5.out]
            exact ⟨⟨j + 1, s', D5', c5', D6', c6', ow', by omega, rfl, rfl, by rw [Int.natCast_add]; rfl, b1', b2', b3', HS0', HL9⟩, by simp [Go.RowKit.intOf]; omega⟩
      · have q1 : ¬ (j : Int) < (n : Int) := by omega
        go_wp2_with fail
        go_ret
        exact ⟨rfl, HL.out.st⟩
end Go.Proofs.Ytmheofkakcomdaa
