/-
  frames.Stacks: Branch.
-/
import Derived.Test.YtokchoocelmdoaaFpE
set_option linter.unusedVariables false
set_option linter.unusedSimpArgs false
namespace Go.Proofs.Ytokchoocelmdoaa
open Go.RowKit

section
variable {w : World} {I : Nat → Prop} {g : Nat} {xs : List Int} {ls : List Lb} {fs : List Fm} {most : Int}
theorem FsUp.trans {I' : Nat → Prop} {w1 w2 : World} {xs' : List Int} {ls' : List Lb} {fs' : List Fm} (u : Upd w I I' w1) (h : FsUp w1 I' g xs' ls' fs' most w2) : FsUp w I g xs' ls' fs' most w2 := by
  obtain ⟨I2, h2, u2⟩ := h
  exact ⟨I2, h2, u.trans u2⟩
theorem ownN_le : ownN ls fs ≤ ls.length := Nat.sub_le _ _
set_option maxRecDepth 100000 in
theorem fs_branch_far (n : Nat) (h : Fs w I g xs ls fs most) (hok : Okf ls fs) (hl : fs.length ≤ 100000) (hl2 : ls.length ≤ 100000) (hk : ownN ls fs ≤ n) :
    Calls Try.prog 35 #[.pointer (some ⟨g, 0, none⟩), .int .u64 (n : Int)] w fun e w' => e = .returned (.tuple #[.int .i64 0, .bool false, .int .i64 0]) ∧ Step (fun _ => False) w w' := by
  have HO := Lib.hid (fs_own h hok hl hl2)
  have ho := ownN_le (ls := ls) (fs := fs)
  have hw : IntKind.u64.wrap (ownN ls fs : Int) = (ownN ls fs : Int) := by rw [Go.IntKind.wrap_u64]; omega
  have g0 : decide ((ownN ls fs : Int) ≤ (n : Int)) = true := decide_eq_true (by omega)
  have g1 : decide (ownN ls fs ≤ n) = true := decide_eq_true hk
  clear h hok ho
  go_enter Try.func35, Try.ntmps35
  go_wp2_with fail
  refine HO.out.mono ?_
  rintro e W ⟨rfl, hs⟩
  go_wp2
  refine bodyPost_ret (v := .tuple #[.int .i64 0, .bool false, .int .i64 0]) ?_ rfl ⟨rfl, hs⟩
  simp [results, Try.results35, go_sem]
set_option maxRecDepth 100000 in
set_option maxHeartbeats 1600000 in
theorem fs_branch_err (n a k : Nat) (x : Lb) (h : Fs w I g xs ls fs most) (hok : Okf ls fs) (hl : fs.length ≤ 100000) (hl2 : ls.length ≤ 100000) (hx : xs.length ≤ 1000000) (hk : n < ownN ls fs) (ha : ls.length = a + n + 1) (hxa : ls[a]? = some x) (har : x.ar = (k : Int)) (hbad : xs.length < x.h + k) (hk2 : k ≤ 1000000) :
    Calls Try.prog 35 #[.pointer (some ⟨g, 0, none⟩), .int .u64 (n : Int)] w fun e w' => e = .returned (.tuple #[.int .i64 0, .bool false, .int .i64 21]) ∧ Step (fun _ => False) w w' := by
  have HO := Lib.hid (fs_own h hok hl hl2)
  have ho := ownN_le (ls := ls) (fs := fs)
  have hw : IntKind.u64.wrap (ownN ls fs : Int) = (ownN ls fs : Int) := by rw [Go.IntKind.wrap_u64]; omega
  have g0 : decide ((ownN ls fs : Int) ≤ (n : Int)) = false := decide_eq_false (by omega)
  have g1 : decide (ownN ls fs ≤ n) = false := decide_eq_false (by omega)
  have HIN : Hid (In w I) := h.in_
  have H0 := Lib.hid h
  have wn : IntKind.i64.wrap (n : Int) = (n : Int) := IntWalk.i64_in _ (by omega)
  have w1 := IntWalk.i64_in ((ls.length : Int) - 1) (by omega)
  have w2 : IntKind.i64.wrap ((ls.length : Int) - 1 - (n : Int)) = (a : Int) := by rw [show (ls.length : Int) - 1 - (n : Int) = (a : Int) by omega]; exact IntWalk.i64_in _ (by omega)
  have w3 : IntKind.i64.wrap ((a : Int) + 1) = ((a + 1 : Nat) : Int) := by rw [show (a : Int) + 1 = ((a + 1 : Nat) : Int) by omega]; exact IntWalk.i64_in _ (by omega)
  have i0 : (0 : Int) ≤ (a : Int) := by omega
  have i1 : (a : Int) < (ls.length : Int) := by omega
  have hal : a < ls.length := by omega
  obtain rfl : ls[a] = x := (List.getElem?_eq_some_iff.1 hxa).2
  generalize hxx : ls[a] = x at *
  have HA := Lib.hid ha
  skip
  clear h hok ho hxa ha hk
  go_enter Try.func35, Try.ntmps35
  go_wp2_with fail
  refine HO.out.mono ?_
  rintro e W ⟨rfl, hs⟩
  have H := H0.out.quiet hs
  obtain ⟨D1, c1, D2, c2, D3, c3, H, hI⟩ := H
  have HI := Lib.hid hI
  have HS := Lib.hid hs
  obtain ⟨gl, rfl, hlt, k0, k1, k2, k3, k4⟩ := H.lcell hal
  rw [hxx] at k0 k1 k2 k3 k4
  rw [har] at k2
  have a1 := H.st.blk.cell 1
  simp at a1
  have HW := Lib.hid H
  have N1 := Lib.hid (Blk.new W 60 #[.int .i64 x.st, .int .i64 x.dst, .int .i64 (k : Int), .int .i64 (x.h : Int), .bool x.lp])
  have S1 : Hid (Step (fun _ => False) W (W.alloc (.cells #[.int .i64 x.st, .int .i64 x.dst, .int .i64 (k : Int), .int .i64 (x.h : Int), .bool x.lp] 60))) := Step.refl.alloc _
  have HWN : Hid (w.heap.size ≤ W.heap.size) := hs.size
  clear hI hs HO H0 H
  go_wp2_with fail
  obtain ⟨V, hV⟩ : ∃ V, V = W.alloc (.cells #[.int .i64 x.st, .int .i64 x.dst, .int .i64 (k : Int), .int .i64 (x.h : Int), .bool x.lp] 60) := ⟨_, rfl⟩
  obtain ⟨M, hM⟩ : ∃ M, M = W.heap.size := ⟨_, rfl⟩
  first | rw [← hV, ← hM] | rw [← hV]
  rw [← hV] at N1 S1
  rw [← hM] at N1 HWN
  clear hV hM k0 k1 k2 k3 k4 a1
  have HV : Hid (Fs V I g xs ls fs most) := Fs.quiet ⟨D1, c1, some ⟨gl, 0, none⟩, c2, D3, c3, HW.out, HI.out⟩ S1.out
  refine (fs_keep_fails x.h k HV.out hx hbad hk2).mono ?_
  rintro e U ⟨rfl, hw⟩
  obtain rfl := hw
  clear hw
  go_wp2
  refine bodyPost_ret (v := .tuple #[.int .i64 0, .bool false, .int .i64 21]) ?_ rfl ⟨rfl, HS.out.trans S1.out⟩
  simp [results, Try.results35, go_sem]
set_option maxRecDepth 100000 in
set_option maxHeartbeats 1600000 in
theorem fs_branch_loop (n a k : Nat) (x : Lb) (h : Fs w I g xs ls fs most) (hok : Okf ls fs) (hl : fs.length ≤ 100000) (hl2 : ls.length ≤ 100000) (hx : xs.length ≤ 1000000) (hk : n < ownN ls fs) (ha : ls.length = a + n + 1) (hxa : ls[a]? = some x) (har : x.ar = (k : Int)) (hgood : x.h + k ≤ xs.length) (hlp : x.lp = true) :
    Calls Try.prog 35 #[.pointer (some ⟨g, 0, none⟩), .int .u64 (n : Int)] w fun e w' => e = .returned (.tuple #[.int .i64 (wrap64 (x.st + 1)), .bool true, .int .i64 0]) ∧ FsUp w I g (keepF xs x.h k) (ls.take (a + 1)) fs most w' := by
  have HO := Lib.hid (fs_own h hok hl hl2)
  have ho := ownN_le (ls := ls) (fs := fs)
  have hw : IntKind.u64.wrap (ownN ls fs : Int) = (ownN ls fs : Int) := by rw [Go.IntKind.wrap_u64]; omega
  have g0 : decide ((ownN ls fs : Int) ≤ (n : Int)) = false := decide_eq_false (by omega)
  have g1 : decide (ownN ls fs ≤ n) = false := decide_eq_false (by omega)
  have HIN : Hid (In w I) := h.in_
  have H0 := Lib.hid h
  have wn : IntKind.i64.wrap (n : Int) = (n : Int) := IntWalk.i64_in _ (by omega)
  have w1 := IntWalk.i64_in ((ls.length : Int) - 1) (by omega)
  have w2 : IntKind.i64.wrap ((ls.length : Int) - 1 - (n : Int)) = (a : Int) := by rw [show (ls.length : Int) - 1 - (n : Int) = (a : Int) by omega]; exact IntWalk.i64_in _ (by omega)
  have w3 : IntKind.i64.wrap ((a : Int) + 1) = ((a + 1 : Nat) : Int) := by rw [show (a : Int) + 1 = ((a + 1 : Nat) : Int) by omega]; exact IntWalk.i64_in _ (by omega)
  have i0 : (0 : Int) ≤ (a : Int) := by omega
  have i1 : (a : Int) < (ls.length : Int) := by omega
  have hal : a < ls.length := by omega
  obtain rfl : ls[a] = x := (List.getElem?_eq_some_iff.1 hxa).2
  generalize hxx : ls[a] = x at *
  have HA := Lib.hid ha
  replace hlp := Lib.hid hlp
  clear h hok ho hxa ha hk
  go_enter Try.func35, Try.ntmps35
  go_wp2_with fail
  refine HO.out.mono ?_
  rintro e W ⟨rfl, hs⟩
  have H := H0.out.quiet hs
  obtain ⟨D1, c1, D2, c2, D3, c3, H, hI⟩ := H
  have HI := Lib.hid hI
  have HS := Lib.hid hs
  obtain ⟨gl, rfl, hlt, k0, k1, k2, k3, k4⟩ := H.lcell hal
  rw [hxx] at k0 k1 k2 k3 k4
  rw [har] at k2
  have a1 := H.st.blk.cell 1
  simp at a1
  have HW := Lib.hid H
  have N1 := Lib.hid (Blk.new W 60 #[.int .i64 x.st, .int .i64 x.dst, .int .i64 (k : Int), .int .i64 (x.h : Int), .bool x.lp])
  have S1 : Hid (Step (fun _ => False) W (W.alloc (.cells #[.int .i64 x.st, .int .i64 x.dst, .int .i64 (k : Int), .int .i64 (x.h : Int), .bool x.lp] 60))) := Step.refl.alloc _
  have HWN : Hid (w.heap.size ≤ W.heap.size) := hs.size
  clear hI hs HO H0 H
  go_wp2_with fail
  obtain ⟨V, hV⟩ : ∃ V, V = W.alloc (.cells #[.int .i64 x.st, .int .i64 x.dst, .int .i64 (k : Int), .int .i64 (x.h : Int), .bool x.lp] 60) := ⟨_, rfl⟩
  obtain ⟨M, hM⟩ : ∃ M, M = W.heap.size := ⟨_, rfl⟩
  first | rw [← hV, ← hM] | rw [← hV]
  rw [← hV] at N1 S1
  rw [← hM] at N1 HWN
  clear hV hM k0 k1 k2 k3 k4 a1
  have HV : Hid (Fs V I g xs ls fs most) := Fs.quiet ⟨D1, c1, some ⟨gl, 0, none⟩, c2, D3, c3, HW.out, HI.out⟩ S1.out
  refine (fs_keep x.h k HV.out hx hgood).mono ?_
  rintro e U ⟨rfl, I', ⟨D1', c1', D2', c2', D3', c3', h', hI'⟩, u⟩
  have NI : ¬ I M := fun e => by have := HIN.out M e; have := HWN.out; omega
  have N2 := N1.out.step u.1 NI
  have HU := Lib.hid (u.after (HS.out.trans S1.out))
  have HH := Lib.hid h'
  have HI2 := Lib.hid hI'
  have e0 := N2.cell 0
  have e4 := N2.cell 4
  simp at e0 e4
  rw [hlp.out] at e4
  have a1 := h'.st.blk.cell 1
  have fz := h'.st.blk.frozen 1
  simp at a1
  have hcap := own_cap h'.lo
  have ic : (a + 1 : Nat) ≤ c2' := by omega
  have sl := slice_hn E_lb D2' ls.length c2' .i64 ((a + 1 : Nat) : Int) (a + 1) rfl ic
  have hgM : M ≠ g := fun e => by
    have h7 : Blk U g 47 _ := h'.st.blk
    rw [← e] at h7
    exact absurd (h7.tag N2) (by decide)
  have HL := Lib.hid (own_take h'.lo (k := a + 1) (by omega))
  have HLN : Hid ((a + 1) = (ls.take (a + 1)).length) := by unfold Hid; rw [List.length_take]; omega
  clear u h' hI' NI N1 N2 HI HW HV HS S1
  go_wp2
  refine bodyPost_ret (v := .tuple #[.int .i64 (wrap64 (x.st + 1)), .bool true, .int .i64 0]) ?_ rfl ⟨rfl, ?_⟩
  · simp [results, Try.results35, go_sem]
  · refine FsUp.trans HU.out (HH.out.labels HI2.out (D' := D2') (c' := c2') (n' := a + 1) Step.refl HLN.out (by
      have := HL.out
      rwa [← lbs_take] at this) (fun k hk => .inl hk))
set_option maxRecDepth 100000 in
set_option maxHeartbeats 1600000 in
theorem fs_branch_out (n a k : Nat) (x : Lb) (h : Fs w I g xs ls fs most) (hok : Okf ls fs) (hl : fs.length ≤ 100000) (hl2 : ls.length ≤ 100000) (hx : xs.length ≤ 1000000) (hk : n < ownN ls fs) (ha : ls.length = a + n + 1) (hxa : ls[a]? = some x) (har : x.ar = (k : Int)) (hgood : x.h + k ≤ xs.length) (hlp : x.lp = false) :
    Calls Try.prog 35 #[.pointer (some ⟨g, 0, none⟩), .int .u64 (n : Int)] w fun e w' => e = .returned (.tuple #[.int .i64 x.dst, .bool true, .int .i64 0]) ∧ FsUp w I g (keepF xs x.h k) (ls.take a) fs most w' := by
  have HO := Lib.hid (fs_own h hok hl hl2)
  have ho := ownN_le (ls := ls) (fs := fs)
  have hw : IntKind.u64.wrap (ownN ls fs : Int) = (ownN ls fs : Int) := by rw [Go.IntKind.wrap_u64]; omega
  have g0 : decide ((ownN ls fs : Int) ≤ (n : Int)) = false := decide_eq_false (by omega)
  have g1 : decide (ownN ls fs ≤ n) = false := decide_eq_false (by omega)
  have HIN : Hid (In w I) := h.in_
  have H0 := Lib.hid h
  have wn : IntKind.i64.wrap (n : Int) = (n : Int) := IntWalk.i64_in _ (by omega)
  have w1 := IntWalk.i64_in ((ls.length : Int) - 1) (by omega)
  have w2 : IntKind.i64.wrap ((ls.length : Int) - 1 - (n : Int)) = (a : Int) := by rw [show (ls.length : Int) - 1 - (n : Int) = (a : Int) by omega]; exact IntWalk.i64_in _ (by omega)
  have w3 : IntKind.i64.wrap ((a : Int) + 1) = ((a + 1 : Nat) : Int) := by rw [show (a : Int) + 1 = ((a + 1 : Nat) : Int) by omega]; exact IntWalk.i64_in _ (by omega)
  have i0 : (0 : Int) ≤ (a : Int) := by omega
  have i1 : (a : Int) < (ls.length : Int) := by omega
  have hal : a < ls.length := by omega
  obtain rfl : ls[a] = x := (List.getElem?_eq_some_iff.1 hxa).2
  generalize hxx : ls[a] = x at *
  have HA := Lib.hid ha
  replace hlp := Lib.hid hlp
  clear h hok ho hxa ha hk
  go_enter Try.func35, Try.ntmps35
  go_wp2_with fail
  refine HO.out.mono ?_
  rintro e W ⟨rfl, hs⟩
  have H := H0.out.quiet hs
  obtain ⟨D1, c1, D2, c2, D3, c3, H, hI⟩ := H
  have HI := Lib.hid hI
  have HS := Lib.hid hs
  obtain ⟨gl, rfl, hlt, k0, k1, k2, k3, k4⟩ := H.lcell hal
  rw [hxx] at k0 k1 k2 k3 k4
  rw [har] at k2
  have a1 := H.st.blk.cell 1
  simp at a1
  have HW := Lib.hid H
  have N1 := Lib.hid (Blk.new W 60 #[.int .i64 x.st, .int .i64 x.dst, .int .i64 (k : Int), .int .i64 (x.h : Int), .bool x.lp])
  have S1 : Hid (Step (fun _ => False) W (W.alloc (.cells #[.int .i64 x.st, .int .i64 x.dst, .int .i64 (k : Int), .int .i64 (x.h : Int), .bool x.lp] 60))) := Step.refl.alloc _
  have HWN : Hid (w.heap.size ≤ W.heap.size) := hs.size
  clear hI hs HO H0 H
  go_wp2_with fail
  obtain ⟨V, hV⟩ : ∃ V, V = W.alloc (.cells #[.int .i64 x.st, .int .i64 x.dst, .int .i64 (k : Int), .int .i64 (x.h : Int), .bool x.lp] 60) := ⟨_, rfl⟩
  obtain ⟨M, hM⟩ : ∃ M, M = W.heap.size := ⟨_, rfl⟩
  first | rw [← hV, ← hM] | rw [← hV]
  rw [← hV] at N1 S1
  rw [← hM] at N1 HWN
  clear hV hM k0 k1 k2 k3 k4 a1
  have HV : Hid (Fs V I g xs ls fs most) := Fs.quiet ⟨D1, c1, some ⟨gl, 0, none⟩, c2, D3, c3, HW.out, HI.out⟩ S1.out
  refine (fs_keep x.h k HV.out hx hgood).mono ?_
  rintro e U ⟨rfl, I', ⟨D1', c1', D2', c2', D3', c3', h', hI'⟩, u⟩
  have NI : ¬ I M := fun e => by have := HIN.out M e; have := HWN.out; omega
  have N2 := N1.out.step u.1 NI
  have HU := Lib.hid (u.after (HS.out.trans S1.out))
  have HH := Lib.hid h'
  have HI2 := Lib.hid hI'
  have e0 := N2.cell 1
  have e4 := N2.cell 4
  simp at e0 e4
  rw [hlp.out] at e4
  have a1 := h'.st.blk.cell 1
  have fz := h'.st.blk.frozen 1
  simp at a1
  have hcap := own_cap h'.lo
  have ic : (a : Nat) ≤ c2' := by omega
  have sl := slice_hn E_lb D2' ls.length c2' .i64 ((a : Nat) : Int) (a) rfl ic
  have hgM : M ≠ g := fun e => by
    have h7 : Blk U g 47 _ := h'.st.blk
    rw [← e] at h7
    exact absurd (h7.tag N2) (by decide)
  have HL := Lib.hid (own_take h'.lo (k := a) (by omega))
  have HLN : Hid ((a) = (ls.take (a)).length) := by unfold Hid; rw [List.length_take]; omega
  clear u h' hI' NI N1 N2 HI HW HV HS S1
  go_wp2
  refine bodyPost_ret (v := .tuple #[.int .i64 x.dst, .bool true, .int .i64 0]) ?_ rfl ⟨rfl, ?_⟩
  · simp [results, Try.results35, go_sem]
  · refine FsUp.trans HU.out (HH.out.labels HI2.out (D' := D2') (c' := c2') (n' := a) Step.refl HLN.out (by
      have := HL.out
      rwa [← lbs_take] at this) (fun k hk => .inl hk))
end
end Go.Proofs.Ytokchoocelmdoaa
