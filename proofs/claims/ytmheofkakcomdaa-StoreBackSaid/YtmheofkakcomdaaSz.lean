/-
  store: the page's example.
-/
import Derived.Test.YtmheofkakcomdaaSy
set_option linter.unusedVariables false
set_option linter.unusedSimpArgs false
namespace Go.Proofs.Ytmheofkakcomdaa
open Go.RowKit

theorem zero_back (Z : List UInt8) (x : UInt8) (a : Nat) (ha : a + 1 ≤ Z.length) (hz : ∀ b ∈ Z, b = 0) :
    ∀ b ∈ (Z.take a ++ [x] ++ Z.drop (a + 1)).take a ++ (Z.drop a).take 1 ++ (Z.take a ++ [x] ++ Z.drop (a + 1)).drop (a + 1), b = 0 := by
  have h1 : (Z.take a).length = a := by rw [List.length_take]; omega
  have e1 : (Z.take a ++ [x] ++ Z.drop (a + 1)).take a = Z.take a := by rw [List.append_assoc, List.take_left' h1]
  have e2 : (Z.take a ++ [x] ++ Z.drop (a + 1)).drop (a + 1) = Z.drop (a + 1) := List.drop_left' (by rw [List.length_append, h1]; rfl)
  intro b hb
  rw [e1, e2, List.mem_append, List.mem_append] at hb
  rcases hb with (hb | hb) | hb
  · exact hz b (List.mem_of_mem_take hb)
  · exact hz b (List.mem_of_mem_drop (List.mem_of_mem_take hb))
  · exact hz b (List.mem_of_mem_drop hb)
theorem mid_one (Z : List UInt8) (x : UInt8) (a : Nat) (ha : a + 1 ≤ Z.length) : ((Z.take a ++ [x] ++ Z.drop (a + 1)).drop a).take 1 = [x] := by
  have h1 : (Z.take a).length = a := by rw [List.length_take]; omega
  rw [List.append_assoc, List.drop_left' h1]
  rfl
theorem conv_lit (w : World) (C : Array Value) (n c : Nat) :
    (convert 39 39 (.slice (some ⟨w.heap.size, 0, none⟩) n c)).run Try.prog (w.alloc (.cells C 5)) = .ok (.slice (some ⟨w.heap.size, 0, none⟩) n c) (w.alloc (.cells C 5 (C.size, C.size + 1))) := by
  have hs := Try.underlying39
  have he := Try.underlying5
  have hsh : (w.alloc (.cells C 5)).shape? w.heap.size = some (5, C.size) := by
    have : (w.alloc (.cells C 5)).heap[w.heap.size]? = some (.cells C 5) := by
      show (w.heap.push (.cells C 5))[w.heap.size]? = _
      simp
    unfold World.shape?
    rw [this]
  have hfr : ∀ (n : Nat), (w.alloc (.cells C 5)).freeze ⟨w.heap.size, n, none⟩ 1 = w.alloc (.cells C 5 (n, n + 1)) := fun n => by
    have hm : ∀ (a : Array Obj) (x : Obj) (f : Obj → Obj), (a.push x).modify a.size f = a.push (f x) := by
      intro a x f
      apply Array.ext
      · simp
      · intro i h1 h2
        simp only [Array.getElem_modify, Array.getElem_push]
        by_cases h : a.size = i
        · subst h
          simp
        · have hi : i < a.size := by simp at h1; omega
          simp [h, hi]
    unfold World.freeze
    rw [if_neg (by decide)]
    show ({ w.alloc (.cells C 5) with heap := (w.heap.push (.cells C 5)).modify w.heap.size _ } : World) = _
    rw [hm]
    rfl
  simp [convert, run_underlying hs, run_underlying he, markStringish, hsh, hfr]
theorem config_any (w : World) : Calls Try.prog 8 #[] w fun e w' => e = .returned (.agg #[.int .i64 1, .int .i64 3, .int .i64 8, .int .i64 12]) ∧ Step (fun _ => False) w w' := by
  go_enter Try.func8, Try.ntmps8
  go_wp2_with fail
  refine bodyPost_ret (v := .agg #[.int .i64 1, .int .i64 3, .int .i64 8, .int .i64 12]) (by simp [results, Try.results8, go_sem]) rfl ?_
  exact ⟨rfl, Step.refl.alloc _⟩
set_option maxRecDepth 100000 in
set_option maxHeartbeats 3200000 in
theorem awake30 (w : World) : Calls Try.prog 5 #[] w fun e w' => e = .returned (.bool true) ∧ Step (fun _ => False) w w' := by
  go_enter Try.func5, Try.ntmps5
  go_wp2_with fail
  refine (config_any _).mono ?_
  rintro e w1 ⟨rfl, hS1⟩
  have HS1 := Lib.hid hS1
  clear hS1
  go_wp2_with fail
  refine (snew_ok w1 1 8 3 12 w1.heap.size (by decide) (by decide) (by decide) (by decide) (Nat.le_refl _)).mono ?_
  rintro e w2 ⟨S, M, T, Fu, J, A, c, At, ct, K, rfl, hst, hS2⟩
  obtain ⟨Z, hZ⟩ : ∃ Z, Z = List.replicate (1 * 65536) (0 : UInt8) := ⟨_, rfl⟩
  rw [← hZ] at hst
  have HZL : Hid (Z.length = 65536) := by show Z.length = 65536; rw [hZ, List.length_replicate]
  have HZ0 : Hid (∀ b ∈ Z, b = 0) := fun b hb => by rw [hZ] at hb; exact List.eq_of_mem_replicate hb
  obtain ⟨s, hs⟩ : ∃ s : St, s = ⟨S, M, T, Fu, J, A, 1 * 65536, c, 3, Z, At, 8, ct, 12, List.replicate 8 (-1), none, 0, 0, [], none, 0, 0, [], .slice none 0 0, .map (some K)⟩ := ⟨_, rfl⟩
  rw [← hs] at hst
  have hsS : S = s.S := by rw [hs]
  have hsM : M = s.M := by rw [hs]
  have HE : Hid (s.l = Z ∧ s.n = 65536 ∧ s.nl = 0 ∧ s.nm = 0 ∧ s.es = [] ∧ s.ms = [] ∧ s.A = A) := by show _ ∧ _; rw [hs]; exact ⟨rfl, rfl, rfl, rfl, rfl, rfl, rfl⟩
  subst hsS hsM
  have H2 := Lib.hid hst
  have HS2 := Lib.hid (HS1.out.trans hS2)
  have c0 := hst.blk.cell 0
  simp at c0
  have HT2 : Hid (Step (fun k => w1.heap.size ≤ k) w1 w2) := hS2.mono fun _ _ e => e.elim
  have hb2 := hS2.size
  clear hst hS2 hZ hs HS2
  go_wp2_with fail
  refine (sbegin_any w2 _ s H2.out hb2 (by rw [HE.out.2.2.1]; decide) (by rw [HE.out.2.2.2.1]; decide)).mono ?_
  rintro e w3 ⟨rfl, A1, c1, hst, hu⟩
  have HT3 : Hid (Step (fun k => w1.heap.size ≤ k) w1 w3) := HT2.out.trans (hu.1.mono fun k _ hk => H2.out.jn.gef k hk)
  obtain ⟨s1, hs1⟩ : ∃ s1 : St, s1 = { s with Am := A1, nm := s.nm + 1, cm := c1, ms := s.ms ++ [(s.nl : Int)] } := ⟨_, rfl⟩
  rw [← hs1] at hst
  have HE1 : Hid (s1.l = Z ∧ s1.n = 65536 ∧ s1.nl = 0 ∧ s1.nm = 1 ∧ s1.es = [] ∧ s1.ms = [0] ∧ s1.S = s.S ∧ s1.M = s.M) := by
    obtain ⟨e1, e2, e3, e4, e5, e6, _⟩ := HE.out
    show _ ∧ _
    rw [hs1]
    exact ⟨e1, e2, e3, by show s.nm + 1 = 1; rw [e4], e5, by show s.ms ++ [(s.nl : Int)] = [0]; rw [e6, e3]; rfl, rfl, rfl⟩
  have hsS := HE1.out.2.2.2.2.2.2.1
  have hsM := HE1.out.2.2.2.2.2.2.2
  rw [← hsS, ← hsM]
  rw [← hsS, ← hsM] at c0
  have H3 := Lib.hid hst
  have hb3 : w1.heap.size ≤ w3.heap.size := HT3.out.size
  clear hst hu hs1 hsS hsM HE H2 HT2 c0 hb2
  have hcid := conv_lit w3 #[.int .u8 120] 1 1
  obtain ⟨V, hV⟩ : ∃ V, V = w3.alloc (.cells #[.int .u8 120] 5 ((#[Value.int .u8 120] : Array Value).size, (#[Value.int .u8 120] : Array Value).size + 1)) := ⟨_, rfl⟩
  have hal : Step (fun _ => False) w3 V := by rw [hV]; exact Step.refl.alloc _
  have H3a := Lib.hid (H3.out.quiet hal)
  have hrd : Reads V (fun k => k = w3.heap.size) 1 (some ⟨w3.heap.size, 0, none⟩) 1 (u8s [120]) := ⟨rfl, fun _ => ⟨⟨w3.heap.size, 0, none⟩, rfl, rfl, by rw [hV]; simp, fun j u hu => by
    rw [Addr.add_lit, Nat.zero_add, hV, cell_of_row _ w3.heap.size j _ _ _ (heap_alloc_new w3 _)]
    have hj : j < 1 := (List.getElem?_eq_some_iff.1 hu).1
    obtain rfl : j = 0 := by omega
    exact hu⟩⟩
  have hS' : ∀ q, q = w3.heap.size → q < V.heap.size ∧ ¬ jfoot s1.J s1.Al s1.Am q := fun q hq => ⟨by subst hq; rw [hV]; simp, fun e => by have := H3.out.jn.in_ q e; omega⟩
  have HT3a : Hid (Step (fun k => w1.heap.size ≤ k) w1 V) := HT3.out.trans (hal.mono fun _ _ e => e.elim)
  have HW := Lib.hid (swrite_ok _ _ s1 3 1 1 _ _ [120] H3a.out hrd hS' rfl (by rw [HE1.out.2.1]; decide) (Nat.le_trans hb3 hal.size) (by rw [HE1.out.2.2.1]; decide))
  rw [← hV] at hcid
  clear hal hrd hS' hV
  go_wp2_with fail
  refine HW.out.mono ?_
  rintro e w4 ⟨rfl, Al2, nl2, cl2, es2, _, hop, hst, hu⟩
  obtain ⟨hnl2, hes2⟩ := hop (by rw [HE1.out.2.2.2.1]; decide)
  have HT4 : Hid (Step (fun k => w1.heap.size ≤ k) w1 w4) := HT3a.out.trans (hu.1.mono fun k _ hk => by
    rcases hk with hk | hk
    · exact own_ge H3a.out.mm.own k (by rwa [ownBlock_slice])
    · exact H3a.out.jn.gef k hk)
  obtain ⟨s2, hs2⟩ : ∃ s2 : St, s2 = { s1 with l := s1.l.take 3 ++ [120] ++ s1.l.drop (3 + 1), Al := Al2, nl := nl2, cl := cl2, es := es2 } := ⟨_, rfl⟩
  rw [← hs2] at hst
  have HE2 : Hid (s2.l = Z.take 3 ++ [120] ++ Z.drop (3 + 1) ∧ s2.n = 65536 ∧ s2.nl = 1 ∧ s2.nm = 1 ∧ s2.es = [⟨1, (3 : Nat), 0, (Z.drop 3).take 1⟩] ∧ s2.ms = [0] ∧ s2.S = s1.S ∧ s2.M = s1.M) := by
    obtain ⟨e1, e2, e3, e4, e5, e6, _⟩ := HE1.out
    show _ ∧ _
    rw [hs2]
    exact ⟨by show s1.l.take 3 ++ [120] ++ s1.l.drop (3 + 1) = _; rw [e1], e2, by show nl2 = 1; rw [hnl2, e3], e4, by show es2 = _; rw [hes2, e5, e1]; rfl, e6, rfl, rfl⟩
  have hsS := HE2.out.2.2.2.2.2.2.1
  have hsM := HE2.out.2.2.2.2.2.2.2
  rw [← hsS, ← hsM]
  have H4 := Lib.hid hst
  have hb4 : w1.heap.size ≤ w4.heap.size := HT4.out.size
  clear hcid hst hu hs2 hsS hsM hop hnl2 hes2 HE1 H3 H3a HT3 HT3a HW hb3
  have c0 := H4.out.blk.cell 0
  simp at c0
  have HR := mread_ok w4 _ s2.M s2.A s2.n s2.c s2.most s2.l 3 1 H4.out.mm (by rw [HE2.out.2.1]; decide)
  rw [HE2.out.1, mid_one Z 120 3 (by rw [HZL.out]; decide)] at HR
  replace HR := Lib.hid HR
  go_wp2_with fail
  refine HR.out.mono ?_
  rintro e w5 ⟨A5, c5, rfl, hown, hS⟩
  have HT5 : Hid (Step (fun k => w1.heap.size ≤ k) w1 w5) := HT4.out.trans (hS.mono fun _ _ e => e.elim)
  have H5 := Lib.hid (H4.out.quiet hS)
  have hcv := conv_bytes (c := c5) (Reads.of_own hown)
  have hb5 : w1.heap.size ≤ w5.heap.size := HT5.out.size
  have c0 := H5.out.blk.cell 0
  simp at c0
  clear hown hS HR H4 HT4 hb4
  have hx : ((str [120]).toList == [120]) = true := by rw [str_toList]; rfl
  have HB := Lib.hid (sback_one w5 _ s2 3 ((Z.drop 3).take 1) H5.out hb5 (by rw [HE2.out.2.1, List.length_take, List.length_drop, HZL.out]; decide) HE2.out.2.2.1 HE2.out.2.2.2.1 HE2.out.2.2.2.2.1 HE2.out.2.2.2.2.2.1)
  go_wp2_with fail
  refine HB.out.mono ?_
  rintro e w6 ⟨rfl, hst, hS⟩
  have HT6 : Hid (Step (fun k => w1.heap.size ≤ k) w1 w6) := HT5.out.trans (hS.mono fun k _ hk => by
    rcases hk with hk | hk
    · exact own_ge H5.out.mm.own k (by rwa [ownBlock_slice])
    · rw [hk]; exact H5.out.jn.ge)
  have HM6 := Lib.hid hst.mm
  have x0 := hst.blk.cell 0
  simp at x0
  have hz : ∀ b ∈ s2.l.take 3 ++ (Z.drop 3).take 1 ++ s2.l.drop (3 + ((Z.drop 3).take 1).length), b = 0 := by
    rw [HE2.out.1, show ((Z.drop 3).take 1).length = 1 by rw [List.length_take, List.length_drop, HZL.out]; decide]
    exact zero_back Z 120 3 (by rw [HZL.out]; decide) HZ0.out
  have HSu := Lib.hid (msum_zero w6 _ _ _ _ _ _ _ HM6.out hz)
  clear hst hS hz HB c0 hx hcv H5 HT5 hb5
  go_wp2_with fail
  refine HSu.out.mono ?_
  rintro e w7 ⟨rfl, rfl⟩
  go_wp2_with fail
  go_ret
  exact ⟨rfl, HS1.out.trans' HT6.out (fun k hk => .inr (Nat.le_trans HS1.out.size hk))⟩
end Go.Proofs.Ytmheofkakcomdaa
