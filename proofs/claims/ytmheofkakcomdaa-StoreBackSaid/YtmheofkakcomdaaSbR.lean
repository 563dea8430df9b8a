/-
  store: New, as a whole store.
-/
import Derived.Test.YtmheofkakcomdaaSbG
import Derived.Test.YtmheofkakcomdaaGsI
set_option linter.unusedVariables false
set_option linter.unusedSimpArgs false
namespace Go.Proofs.Ytmheofkakcomdaa
open Go.RowKit
theorem apart_iv {I J : Nat → Prop} {a b c d : Nat} (h1 : ∀ k, I k → a ≤ k ∧ k < b) (h2 : ∀ k, J k → c ≤ k ∧ k < d) (h : b ≤ c ∨ d ≤ a) : Apart I J := fun k hi hj => by
  have := h1 k hi
  have := h2 k hj
  omega
set_option maxRecDepth 100000 in
set_option maxHeartbeats 3200000 in
theorem w_new (w : World) (B : Nat) (hB : B ≤ w.heap.size) :
    Calls Try.prog 7 #[.agg #[.int .i64 1, .int .i64 3, .int .i64 8, .int .i64 12]] w fun e w' => ∃ r : Rc, e = .returned (.tuple #[.pointer (some ⟨r.S, 0, none⟩), .int .i64 0]) ∧
      Ws w' B r ∧ r.vw = ⟨List.replicate (1 * 65536) 0, List.replicate 8 (-1), [], 0, fun _ => none, [], [], [], []⟩ ∧ r.most = 3 ∧ r.mt = 12 ∧ (∀ k, r.foot k → w.heap.size ≤ k) ∧ Step (fun _ => False) w w' := by
  have hmm := @run_makeMap Try.prog
  have HB := Lib.hid (Blk.new w 30 #[.int .i64 1, .int .i64 3, .int .i64 8, .int .i64 12])
  obtain ⟨H, hH⟩ : ∃ H, H = w.heap.size := ⟨_, rfl⟩
  rw [← hH] at HB
  have HH := Lib.hid hH
  have HM := Lib.hid (fun W (hW : B ≤ W.heap.size) => mnew_ok W 1 3 B (by decide) (by decide) hW)
  have HT := Lib.hid (fun W (hW : B ≤ W.heap.size) => tnew_ok W 8 12 B (by decide) (by decide) hW)
  clear hH
  go_enter Try.func7, Try.ntmps7
  go_wp2_with fail
  refine (HM.out _ (by simp; omega)).mono ?_
  rintro e w1 ⟨M, A, c, rfl, hm, hS, hMb, hAb⟩
  have HMm := Lib.hid hm
  have HMb : Hid (∀ k, foot M A k → w.heap.size ≤ k ∧ k < w1.heap.size) := fun k hk => ⟨by
    rcases hk with rfl | hk
    · simp at hMb; omega
    · have := hAb k hk; simp at this; omega, hm.in_ k hk⟩
  have HB1 := Lib.hid (HB.out.step hS id)
  have HS := Lib.hid ((Step.refl.alloc (F := fun _ => False) _).trans hS)
  rw [← HH.out]
  have c2 := HB1.out.cell 2
  have c3 := HB1.out.cell 3
  simp at c2 c3
  clear hS HB HH HM hm hMb hAb
  go_wp2_with fail
  refine (HT.out _ (Nat.le_trans hB HS.out.size)).mono ?_
  rintro e w2 ⟨T, At, ct, rfl, ht, hS2, htb⟩
  have HTb := Lib.hid ht
  have HTl : Hid (∀ k, foot T At k → w1.heap.size ≤ k ∧ k < w2.heap.size) := fun k hk => ⟨htb k hk, ht.in_ k hk⟩
  replace HMm := Lib.hid (HMm.out.quiet hS2)
  have HZ1 := Lib.hid HS.out.size
  have HS2 := Lib.hid (HS.out.trans hS2)
  clear hS2 HS HB1 c2 c3 HT ht htb
  go_wp2_with fail
  refine (fnew_blk _).mono ?_
  rintro e w3 ⟨rfl, hw3⟩
  obtain ⟨Fu, hFu⟩ : ∃ Fu, Fu = w2.heap.size := ⟨_, rfl⟩
  rw [← hFu]
  have hF := Blk.new w2 123 #[.slice none 0 0, .slice none 0 0]
  rw [← hw3, ← hFu] at hF
  have HF := Lib.hid hF
  have HS3 : Hid (Step (fun _ => False) w w3) := by rw [hw3]; exact HS2.out.alloc _
  have hst3 : Step (fun _ => False) w2 w3 := by rw [hw3]; exact Step.refl.alloc _
  replace HMm := Lib.hid (HMm.out.quiet hst3)
  replace HTb := Lib.hid (HTb.out.quiet hst3)
  have HZ2 : Hid (Fu = w2.heap.size ∧ w3.heap.size = w2.heap.size + 1) := ⟨hFu, by rw [hw3]; simp⟩
  clear HS2 hFu hw3 hF hst3
  obtain ⟨D, hD⟩ := MapI.made Try.prog w3 3
  obtain ⟨K9, hK9⟩ : ∃ K9, K9 = w3.heap.size := ⟨_, rfl⟩
  rw [← hK9] at hD
  have HD := Lib.hid hD
  have HFm := Lib.hid (HF.out.alloc (.map #[] 0))
  have HSm := Lib.hid (HS3.out.alloc (.map #[] 0))
  have HK9 := Lib.hid (show w.heap.size ≤ K9 by rw [hK9]; exact HS3.out.size)
  have HZ3 : Hid (K9 = w3.heap.size) := hK9
  clear hD HF
  go_wp2_with fail
  have hBa : B ≤ (w3.alloc (.map #[] 0)).heap.size := by have := HSm.out.size; omega
  refine (jnew_ok _ B hBa).mono ?_
  rintro e w4 ⟨rfl, hj, hS4⟩
  have HJ := Lib.hid hj
  have HF4 := Lib.hid (HFm.out.step hS4 id)
  have HD4 := Lib.hid (HD.out.step hS4 id)
  have HS4 := Lib.hid (HSm.out.trans hS4)
  have hst4 : Step (fun _ => False) w3 w4 := (Step.refl.alloc _).trans hS4
  replace HMm := Lib.hid (HMm.out.quiet hst4)
  replace HTb := Lib.hid (HTb.out.quiet hst4)
  have HZ4 : Hid ((w3.alloc (.map #[] 0)).heap.size = w3.heap.size + 1 ∧ (w3.alloc (.map #[] 0)).heap.size < w4.heap.size) := ⟨by simp, by have := hj.blk; obtain ⟨z, hz⟩ := this; exact hz.lt⟩
  obtain ⟨J, hJ⟩ : ∃ J, J = (w3.alloc (.map #[] 0)).heap.size := ⟨_, rfl⟩
  rw [← hJ] at HJ HZ4 ⊢
  rw [← hK9]
  clear hj hS4 hJ hK9 HS3 hBa hmm HFm HD HSm hst4
  go_wp2_with fail
  go_ret2
  have hal : Step (fun _ => False) w4 (w4.alloc (.cells #[.pointer (some ⟨M, 0, none⟩), .pointer (some ⟨T, 0, none⟩), .pointer (some ⟨Fu, 0, none⟩), .slice none 0 0, .map (some K9), .pointer (some ⟨J, 0, none⟩)] 79)) := Step.refl.alloc _
  have hsz : (w4.alloc (.cells #[.pointer (some ⟨M, 0, none⟩), .pointer (some ⟨T, 0, none⟩), .pointer (some ⟨Fu, 0, none⟩), .slice none 0 0, .map (some K9), .pointer (some ⟨J, 0, none⟩)] 79)).heap.size = w4.heap.size + 1 := by simp
  obtain ⟨z2, z2'⟩ := HZ2.out
  have z3 := HZ3.out
  obtain ⟨z4, z4'⟩ := HZ4.out
  have iS : ∀ k, foot w4.heap.size none k → w4.heap.size ≤ k ∧ k < w4.heap.size + 1 := fun k hk => by
    rcases hk with rfl | hk
    · omega
    · simp [blkOf] at hk
  have iJ : ∀ k, jfoot J none none k → J ≤ k ∧ k < J + 1 := fun k hk => by
    rcases hk with rfl | hk | hk
    · omega
    · simp [blkOf] at hk
    · simp [blkOf] at hk
  have iK : ∀ k, (fun k => k = K9) k → K9 ≤ k ∧ k < K9 + 1 := fun k hk => by
    simp only at hk
    omega
  have iF : ∀ k, ffoot Fu none none [] k → Fu ≤ k ∧ k < Fu + 1 := fun k hk => by
    rcases hk with rfl | hk | hk | ⟨f, hf, _⟩
    · omega
    · simp [blkOf] at hk
    · simp [blkOf] at hk
    · cases hf
  have iM := HMb.out
  have iT := HTl.out
  have hz1 := HZ1.out
  have hmsz := fun k (hk : foot M A k) => (iM k hk).2
  have b12 : w1.heap.size ≤ w2.heap.size := by
    have := (iT T (.inl rfl))
    omega
  have hsep : Sep (w4.alloc (.cells #[.pointer (some ⟨M, 0, none⟩), .pointer (some ⟨T, 0, none⟩), .pointer (some ⟨Fu, 0, none⟩), .slice none 0 0, .map (some K9), .pointer (some ⟨J, 0, none⟩)] 79)) [foot w4.heap.size none, foot M A, foot T At, jfoot J none none, fun k => k = K9, ffoot Fu none none []] := by
    refine ⟨fun I hI => ?_, ?_⟩
    · simp only [List.mem_cons, List.not_mem_nil, or_false] at hI
      intro k hk
      rw [hsz]
      rcases hI with rfl | rfl | rfl | rfl | rfl | rfl
      · exact (iS k hk).2
      · have := iM k hk; omega
      · have := iT k hk; omega
      · have := iJ k hk; omega
      · have := iK k hk; omega
      · have := iF k hk; omega
    · simp only [List.pairwise_cons, List.mem_cons, List.not_mem_nil, or_false]
      refine ⟨?_, ?_, ?_, ?_, ?_, ?_, List.Pairwise.nil⟩
      · rintro I (rfl | rfl | rfl | rfl | rfl)
        · exact apart_iv iS iM (by omega)
        · exact apart_iv iS iT (by omega)
        · exact apart_iv iS iJ (by omega)
        · exact apart_iv iS iK (by omega)
        · exact apart_iv iS iF (by omega)
      · rintro I (rfl | rfl | rfl | rfl)
        · exact apart_iv iM iT (by omega)
        · exact apart_iv iM iJ (by omega)
        · exact apart_iv iM iK (by omega)
        · exact apart_iv iM iF (by omega)
      · rintro I (rfl | rfl | rfl)
        · exact apart_iv iT iJ (by omega)
        · exact apart_iv iT iK (by omega)
        · exact apart_iv iT iF (by omega)
      · rintro I (rfl | rfl)
        · exact apart_iv iJ iK (by omega)
        · exact apart_iv iJ iF (by omega)
      · rintro I rfl
        exact apart_iv iK iF (by omega)
      · rintro I h
        exact h.elim
  refine ⟨⟨w4.heap.size, M, T, Fu, J, K9, A, 1 * 65536, c, 3, List.replicate (1 * 65536) 0, At, 8, ct, 12, List.replicate 8 (-1), none, 0, 0, [], none, 0, 0, [], none, 0, 0, [], 0, fun _ => none, D, none, 0, 0, none, 0, [], []⟩, rfl, ⟨Blk.new _ _ _, World.ownsRow_nil _ _ _ _, rfl, HMm.out.quiet hal, HTb.out.quiet hal, HJ.out.quiet hal, HD4.out.step hal id,
    ⟨HF4.out.step hal id, World.ownsRow_nil _ _ _ _, World.ownsRow_nil _ _ _ _, rfl, rfl, fun f hf => (by cases hf), by show B ≤ Fu; omega⟩, hsep, ⟨Nat.le_trans hB HS4.out.size, Nat.le_trans hB HK9.out⟩⟩, rfl, rfl, rfl, fun k hk => ?_, HS4.out.trans hal⟩
  obtain ⟨I, hI, hk⟩ := hk
  simp only [Rc.sets, List.mem_cons, List.not_mem_nil, or_false] at hI
  have hw4 := HS4.out.size
  rcases hI with rfl | rfl | rfl | rfl | rfl | rfl
  · have := iS k hk; omega
  · have := iM k hk; omega
  · have := iT k hk; omega
  · have := iJ k hk; omega
  · have := iK k hk; omega
  · have := iF k hk; omega
end Go.Proofs.Ytmheofkakcomdaa
