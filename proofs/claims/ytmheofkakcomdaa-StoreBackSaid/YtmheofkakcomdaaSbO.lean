/-
  store: Back.
-/
import Derived.Test.YtmheofkakcomdaaSbN
set_option linter.unusedVariables false
set_option linter.unusedSimpArgs false
namespace Go.Proofs.Ytmheofkakcomdaa
open Go.RowKit
theorem un_len {p q : Ps} {e : En} (h : Un p e q) : q.vs.length ≤ p.vs.length := by
  cases h with
  | v k o b hk => simp
  | w k o d hk => simp; omega
  | _ => exact Nat.le_refl _
section
variable {w : World} {B : Nat} {r : Rc}
set_option maxRecDepth 100000 in
set_option maxHeartbeats 1600000 in
theorem w_back_err (h : Ws w B r) (hm : r.ms = []) : Calls Try.prog 26 #[.pointer (some ⟨r.S, 0, none⟩)] w fun e w' => e = .returned (.int .i64 1) ∧ Step (fun _ => False) w w' := by
  have c5 := h.c5
  have hj := h.jn
  rw [h.nm0.2 hm, hm] at hj
  have HJ := Lib.hid (jback_err w B r.J r.Al r.nl r.cl r.Am r.cm r.es [] hj)
  clear h hj hm
  go_enter Try.func26, Try.ntmps26
  go_wp2_with fail
  refine HJ.out.mono ?_
  rintro e w' ⟨rfl, rfl⟩
  go_wp2_with fail
  go_loopw [17] (fun iv wr => iv = .int .i64 0 ∧ Hid (w' = wr)) (fun _ _ => 0)
  case atStart => exact ⟨rfl, rfl⟩
  case round =>
    obtain ⟨rfl, HW⟩ := hrel
    have hw := HW.out
    subst hw
    go_wp2_with fail
    go_ret
    exact ⟨rfl, Step.refl⟩
set_option maxRecDepth 100000 in
set_option maxHeartbeats 3200000 in
theorem w_back_ok (h : Ws w B r) (hB : B ≤ w.heap.size) (hl : r.es.length ≤ 1000000) {ms : List Int} {a : Nat} (hms : r.ms = ms ++ [(a : Int)]) (hm : ms.length ≤ 1000000) (ha : a ≤ r.es.length) (hv : r.vs.length ≤ 1000) {p0 : Ps} (hU : Uns r.ps (r.es.drop a).reverse p0) :
    Calls Try.prog 26 #[.pointer (some ⟨r.S, 0, none⟩)] w fun e w' => e = .returned (.int .i64 0) ∧ Out w B r ({ r.vw with es := r.es.take a, ms := ms }.put p0) w' := by
  have c5 := h.c5
  have hj := h.jn
  have hll := hj.ll
  have hlm := hj.lm
  rw [hms, List.length_append, List.length_singleton] at hlm
  rw [hlm, hms] at hj
  have HJ := Lib.hid (jback_ok w B r.J r.Al r.nl r.cl r.Am ms.length r.cm r.es ms a hj hB (by rw [hll]; exact ha) (by rw [hll]; exact hl) hm)
  obtain ⟨L, hL⟩ : ∃ L, L = (r.es.drop a).reverse := ⟨_, rfl⟩
  have hLn : r.nl - a = L.length := by rw [hL, List.length_reverse, List.length_drop, hll]
  rw [← hL] at HJ hU
  obtain ⟨n, hn⟩ : ∃ n, n = r.nl - a := ⟨_, rfl⟩
  rw [← hn] at HJ hLn
  have HLN := Lib.hid hLn
  have H := Lib.hid h
  have HU := Lib.hid hU
  have hn6 : n ≤ 1000000 := by rw [hn, hll]; omega
  clear h hj hll hlm hms hL hLn hU hn
  go_enter Try.func26, Try.ntmps26
  go_wp2_with fail
  refine HJ.out.mono ?_
  rintro e w1 ⟨A', c', rfl, hown, hjn, hs1⟩
  have hh := H.out.jou hjn ⟨hs1.mono fun _ _ e => .inl e, fun _ hk => .inl hk⟩
  have H1 := Lib.hid hh.1
  have U1 := Lib.hid hh.2
  have HOW := Lib.hid hown
  have HFT : Hid (∀ k, blkOf A' = some k → ¬ r.foot k) := fun k hk hf => by
    have h1 := own_ge hown k (by rwa [ownBlock_slice])
    have h2 := H.out.in_ k hf
    omega
  clear hown hjn hs1 hh HJ c5
  obtain ⟨v0, hv0⟩ : ∃ v0 : Vw, v0 = { r.vw with es := r.es.take a, ms := ms } := ⟨_, rfl⟩
  have HV0 := Lib.hid hv0
  clear hv0
  go_wp2_with fail
  go_loopw [17] (fun iv wr => ∃ (j : Nat) (rj : Rc) (pj : Ps), j ≤ n ∧ iv = .int .i64 (j : Int) ∧ Hid (Ws wr B rj ∧ rj.cst = r.cst ∧ Upd w r.foot rj.foot wr ∧ rj.vw = v0.put pj ∧ Uns pj (L.drop j) p0 ∧ wr.ownsRow w.heap.size 92 4 (.slice A' n c') n (ens L) ∧ (∀ k, blkOf A' = some k → ¬ rj.foot k) ∧ rj.vs.length ≤ 1000)) (fun iv _ => n + 1 - (Go.RowKit.intOf iv).toNat)
  case atStart =>
    refine ⟨0, _, r.ps, Nat.zero_le _, rfl, H1.out, rfl, U1.out, ?_, HU.out, HOW.out, fun k hk hf => ?_, hv⟩
    · rw [HV0.out]; rfl
    · rcases U1.out.2 k hf with h1 | h1
      · exact HFT.out k hk h1
      · exact HFT.out k hk (by
          obtain ⟨I, hI, hk2⟩ := hf
          refine ⟨I, ?_, hk2⟩
          simpa [Rc.sets] using hI)
  case round =>
    obtain ⟨j, rj, pj, hj, rfl, HR⟩ := hrel
    obtain ⟨q1, q2, q3, q4, q5, q6, q7, q8⟩ := HR.out
    by_cases hlt : j < n
    · have g1 : (j : Int) < (n : Int) := by omega
      have g0 : (0 : Int) ≤ (j : Int) := by omega
      have hw1 := IntWalk.i64_in ((j : Int) + 1) (by omega)
      have hjl : j < L.length := by rw [← HLN.out]; exact hlt
      obtain ⟨bk, off, hA, _, hbk, hc⟩ := reads_row En.cells 4 (by decide) En.four (Reads.of_own q6) hjl
      rw [List.drop_eq_getElem_cons hjl] at q5
      obtain ⟨e, he⟩ : ∃ e, e = L[j] := ⟨_, rfl⟩
      rw [← he] at hc q5
      have y0 := hc 0 _ rfl
      have y1 := hc 1 _ rfl
      have y2 := hc 2 _ rfl
      have y3 := hc 3 _ rfl
      simp only [Nat.add_zero] at y0 y1 y2 y3
      have HA := Lib.hid hA
      rw [hA]
      cases q5 with
      | @cons _ q _ _ _ hun huns =>
        have al : Step (fun _ => False) wr (wr.alloc (.cells #[.int .i64 e.kind, .int .i64 e.at_, .int .u64 e.old, .string (str e.bytes)] 92)) := Step.refl.alloc _
        have hps : rj.ps = pj := by
          show rj.vw.ps = _
          rw [q4]
          rfl
        have hun2 : Un rj.ps e q := by rw [hps]; exact hun
        have hcall := w_undo (q1.quiet al) (Nat.le_trans hB (Nat.le_trans q3.1.size al.size)) q8 hun2
        rw [cst_S q2] at hcall
        have HC := Lib.hid hcall
        have HQ := Lib.hid (And.intro q1 (And.intro q2 (And.intro q3 (And.intro q4 (And.intro huns (And.intro q6 (And.intro q7 (And.intro q8 hun2))))))))
        have HAL := Lib.hid al
        clear hcall hun hun2 huns q1 q2 q3 q4 q6 q7 q8 hps al HR he hc hA H H1 U1 HOW HFT HU
        go_wp2_with fail
        refine HC.out.mono ?_
        rintro e' w3 ⟨rfl, r', h1, h2, h3, h4⟩
        obtain ⟨q1, q2, q3, q4, q5, q6, q7, q8, q9⟩ := HQ.out
        have HN : Hid (Ws w3 B r' ∧ r'.cst = r.cst ∧ Upd w r.foot r'.foot w3 ∧ r'.vw = v0.put q ∧ Uns q (L.drop (j + 1)) p0 ∧ w3.ownsRow w.heap.size 92 4 (.slice A' n c') n (ens L) ∧ (∀ k, blkOf A' = some k → ¬ r'.foot k) ∧ r'.vs.length ≤ 1000) := by
          have u2 := Upd.after HAL.out h2
          refine ⟨h1, h3.trans q2, q3.trans u2, by rw [h4, q4, Vw.put_put], q5, own_step q6 u2.1 (fun k hk => q7 k (by rwa [ownBlock_slice] at hk)), fun k hk hf => ?_, ?_⟩
          · rcases u2.2 k hf with e1 | e1
            · exact q7 k hk e1
            · have := own_lt q6 k (by rwa [ownBlock_slice]); omega
          · have e1 : r'.vs = q.vs := congrArg Vw.vs h4
            rw [e1]
            have := un_len q9
            have e2 : rj.ps.vs = rj.vs := rfl
            rw [e2] at this
            omega
        clear h1 h2 h3 h4 q1 q2 q3 q4 q5 q6 q7 q8 q9 HC HQ HAL y0 y1 y2 y3
        go_wp2_with fail
        rw [← HA.out]
        go_roundw
        case rel => exact ⟨j + 1, r', q, by omega, by rw [Int.natCast_add]; rfl, HN.out⟩
        case measure => simp [Go.RowKit.intOf]; omega
    · have hje : j = n := by omega
      have g1 : ¬ (j : Int) < (n : Int) := by omega
      have hpe : pj = p0 := by
        rw [hje, HLN.out, List.drop_length] at q5
        cases q5
        rfl
      rw [hpe] at q4
      have HQ := Lib.hid (And.intro q1 (And.intro q2 (And.intro q3 q4)))
      clear q1 q2 q3 q4 q5 q6 q7 q8 HR hje
      go_wp2_with fail
      go_ret
      exact ⟨rfl, rj, HQ.out.1, HQ.out.2.2.1, HQ.out.2.1, HQ.out.2.2.2.trans (by rw [HV0.out])⟩
end
end Go.Proofs.Ytmheofkakcomdaa
