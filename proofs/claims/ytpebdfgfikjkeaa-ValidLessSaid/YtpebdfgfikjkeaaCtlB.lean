/-
  ctrl.Control: Open, New, Dead, Label, Close.
-/
import Derived.Test.YtpebdfgfikjkeaaCtl
set_option linter.unusedVariables false
set_option linter.unusedSimpArgs false
namespace Go.Proofs.Ytpebdfgfikjkeaa
open Go.RowKit

/-- The blocks have turned, and then the field that bears them. -/
theorem CtlAt.row {w w1 : World} {I Is : Nat → Prop} {g gs c c' n' : Nat} {l : List UInt8} {fs fs' : List Fr} {D D' : Option Addr} (h : CtlAt w g gs D c Is l fs) (hI : ∀ k, I k ↔ (k = g ∨ blkOf D = some k ∨ Is k))
    (hs : Step (fun k => blkOf D = some k) w w1) (hn : n' = fs'.length) (ho : w1.ownsRow 0 136 4 (.slice D' n' c') n' (frs fs')) (hD : ∀ k, blkOf D' = some k → blkOf D = some k ∨ w.heap.size ≤ k) :
    CtlUp w I g gs l fs' (w1.setCell ⟨g, 0, none⟩ (.slice D' n' c')) := by
  subst hn
  have hsep := h.sep
  have hb1 : Blk w1 g _ _ := h.blk.step hs h.ne
  have hb2 := hb1.set_ 0 (.slice D' fs'.length c')
  have hgD : blkOf D' ≠ some g := fun e => by
    rcases hD g e with h1 | h1
    · exact h.ne h1
    · have := h.blk.lt; omega
  have hk1 := h.stk.keep hs (fun k hk => (hsep k hk).2)
  have hs2 : Step (fun k => k = g) w1 (w1.setCell ⟨g, 0, none⟩ (.slice D' fs'.length c')) := Step.setCell (F := fun k => k = g) Step.refl (.inl rfl) _
  have hk2 := hk1.keep hs2 (fun k hk => (hsep k hk).1)
  refine ⟨fun k => k = g ∨ blkOf D' = some k ∨ Is k, ⟨D', c', Is, ⟨by simpa using hb2, own_set ho (by rw [ownBlock_slice]; exact hgD) _, hk2⟩, fun _ => Iff.rfl⟩, ?_, fun k hk => ?_⟩
  · exact (hs.mono fun k _ hk => (hI k).2 (.inr (.inl hk))).setCell (.inl ((hI g).2 (.inl rfl))) _
  · rcases hk with e | e | e
    · exact .inl ((hI k).2 (.inl e))
    · rcases hD k e with e | e
      · exact .inl ((hI k).2 (.inr (.inl e)))
      · exact .inr e
    · exact .inl ((hI k).2 (.inr (.inr e)))
theorem four_one (x : Int) (y : ByteArray) (z : Int) (u : Bool) : ∀ v ∈ #[Value.int .u8 x, .string y, .int .i64 z, .bool u].toList, v.oneCell' = true := by
  intro v hv
  simp at hv
  rcases hv with rfl | rfl | rfl | rfl <;> rfl

set_option maxRecDepth 100000 in
set_option maxHeartbeats 1600000 in
theorem ctl_open {w : World} {I : Nat → Prop} {g gs : Nat} {l : List UInt8} {fs : List Fr} (op : Int) (t : List UInt8) (h : Ctl w I g gs l fs) (hl : fs.length ≤ 100000) :
    Calls Try.prog 45 #[.pointer (some ⟨g, 0, none⟩), .int .u8 op, .string (str t)] w fun e w' => e = .returned (.tuple #[]) ∧ CtlUp w I g gs l (fs ++ [⟨op, t, l.length, false⟩]) w' := by
  obtain ⟨D, c, Is, h, hI⟩ := h
  have HI := Lib.hid hI
  have H := Lib.hid h
  have ho := h.own
  have c0 := h.blk.cell 0
  have c1 := h.blk.cell 1
  simp at c0 c1
  have d0 := cls_cell (F := fun k => blkOf D = some k) c0 h.ne
  have d1 := cls_cell (F := fun k => blkOf D = some k) c1 h.ne
  have hm : fs.length + 1 ≤ maxLen := by unfold maxLen; omega
  have hone := four_one op (str t) (l.length : Int) false
  clear h hI
  go_enter Try.func45, Try.ntmps45
  go_wp2_with fail
  refine Mix.wp_region_mix [11, 13, 14, 17] [11, 13, 14] (Step (fun k => blkOf D = some k) w) (by kernel_rfl) (by kernel_rfl) Step.refl.drew (fun hcls => ?_)
  refine Mix.wpL_reads 11 (by rfl) ?_
  simp only [List.take_succ_cons, List.drop_succ_cons, List.take_zero, List.drop_zero]
  repeat (go_big_quiet_step (fail))
  refine wpQuiet_nil ?_
  refine Mix.wpL_op (by rfl) (fun K hK => ?_)
  go_simp
  refine (stkR_len (H.out.stk.quiet Step.refl.drew)).mono ?_
  rintro e w1 ⟨rfl, rfl⟩
  refine hK _ _ (fun hlt => Mix.cl (Step.refl.drew)) ?_
  clear hK K
  refine Mix.wpL_reads 1 (by rfl) ?_
  simp only [List.take_succ_cons, List.drop_succ_cons, List.take_zero, List.drop_zero]
  repeat (go_big_quiet_step (fail))
  refine wpQuiet_nil ?_
  refine Mix.wpL_op (by rfl) (fun K hK => ?_)
  go_simp
  refine hK _ _ (fun hlt => Mix.cl (Step.drew (Step.alloc Step.refl _))) ?_
  clear hK K
  refine Mix.wpL_op (by rfl) (fun K hK => ?_)
  refine step_append_src _ (by rfl) _ _ (by rfl) E_fr (by rfl) (own_drew (ho.alloc _)) (by rfl) (reads_new w #[.int .u8 op, .string (str t), .int .i64 (l.length : Int), .bool false] 136 4 1 rfl).drew hone hm (by omega) (Nat.zero_le _) ?_
  intro D' c' w1 hown1 hgrow hat
  have hs1 : Hid (Step (fun k => blkOf D = some k) w w1) := (Step.drew (Step.alloc Step.refl _)).grown hgrow (fun k hk => .inl hk)
  refine hK _ _ (fun hlt => Mix.cl (hs1.out)) ?_
  clear hK K
  simp only [Act.put, List.setIfInBounds_toArray, List.set_cons_succ, List.set_cons_zero]
  refine Mix.wpL_reads 2 (by rfl) ?_
  simp only [List.take_succ_cons, List.drop_succ_cons, List.take_zero, List.drop_zero]
  repeat (go_big_quiet_step (fail))
  refine wpQuiet_nil ?_
  have hb1 := H.out.blk.step hs1.out H.out.ne
  have e0 := hb1.cell 0
  have f0 := hb1.frozen 0
  simp at e0
  refine Mix.wpL_op (by rfl) (fun K hK => ?_)
  go_simp
  refine hK _ _ (fun hlt => absurd hlt (by decide)) ?_
  clear hK K
  refine Mix.wpL_end ?_
  go_wp2
  go_end0
  refine ⟨rfl, ?_⟩
  refine CtlUp.quiet (H.out.row HI.out hs1.out (D' := D') (c' := c') (n' := fs.length + 1) (by simp) (by rw [frs_append]; exact hown1) (fun k hk => ?_)) ?_
  · rcases hat with e | e
    · exact .inl (e ▸ hk)
    · rw [e] at hk
      simp at hk
      right; omega
  · first | exact Step.refl | exact Step.refl.drew

set_option maxRecDepth 100000 in
set_option maxHeartbeats 1600000 in
theorem ctl_new (w : World) (t : List UInt8) : Calls Try.prog 15 #[.string (str t)] w fun e w' => ∃ g gs I, e = .returned (.pointer (some ⟨g, 0, none⟩)) ∧ Ctl w' I g gs [] [⟨0, t, 0, false⟩] ∧ Step (fun _ => False) w w' ∧ ∀ k, I k → w.heap.size ≤ k := by
  have s1 : Step (fun _ => False) w (w.alloc (.cells #[.slice none 0 0] 110)) := Step.refl.alloc _
  have b1 : Blk (w.alloc (.cells #[.slice none 0 0] 110)) w.heap.size 110 _ := Blk.new w _ _
  have b2 := b1.alloc (.cells #[.slice none 0 0, .pointer (some ⟨w.heap.size, 0, none⟩)] 113)
  have b3 : Blk ((w.alloc (.cells #[.slice none 0 0] 110)).alloc (.cells #[.slice none 0 0, .pointer (some ⟨w.heap.size, 0, none⟩)] 113)) (w.heap.size + 1) 113 #[.slice none 0 0, .pointer (some ⟨w.heap.size, 0, none⟩)] := by
    have := Blk.new (w.alloc (.cells #[.slice none 0 0] 110)) 113 #[.slice none 0 0, .pointer (some ⟨w.heap.size, 0, none⟩)]
    simpa using this
  have s3 := s1.alloc (.cells #[.slice none 0 0, .pointer (some ⟨w.heap.size, 0, none⟩)] 113)
  have hk : Stk ((w.alloc (.cells #[.slice none 0 0] 110)).alloc (.cells #[.slice none 0 0, .pointer (some ⟨w.heap.size, 0, none⟩)] 113)) (fun k => k = w.heap.size) w.heap.size [] :=
    ⟨none, 0, ⟨b2, World.ownsRow_nil _ _ _ _, Nat.zero_le _⟩, fun k => by simp [blkOf]⟩
  have hc : Ctl ((w.alloc (.cells #[.slice none 0 0] 110)).alloc (.cells #[.slice none 0 0, .pointer (some ⟨w.heap.size, 0, none⟩)] 113)) (fun k => k = w.heap.size + 1 ∨ k = w.heap.size) (w.heap.size + 1) w.heap.size [] [] :=
    ⟨none, 0, _, ⟨b3, World.ownsRow_nil _ _ _ _, hk⟩, fun k => by simp [blkOf]⟩
  have H := Lib.hid hc
  have S3 := Lib.hid s3
  clear b1 b2 b3 s1 s3 hk hc
  go_enter Try.func15, Try.ntmps15
  go_wp2_with fail
  refine (ctl_open 0 t H.out (by simp)).mono ?_
  rintro e w2 ⟨rfl, I2, h2, u2⟩
  go_wp2_with fail
  go_ret
  refine ⟨_, _, I2, rfl, h2, ?_, fun k hk => ?_⟩
  · exact S3.out.trans' u2.1 (fun k hk => by right; rcases hk with e | e <;> omega)
  · rcases u2.2 k hk with e | e
    · rcases e with e | e <;> omega
    · have := S3.out.size; omega

def labelF (fs : List Fr) (n : Nat) : List UInt8 × Int := if n < fs.length then (if (fs.getD (fs.length - 1 - n) default).op = 3 then [] else (fs.getD (fs.length - 1 - n) default).res, 0) else ([], 22)

set_option maxRecDepth 100000 in
set_option maxHeartbeats 1600000 in
theorem ctl_label {w : World} {I : Nat → Prop} {g gs : Nat} {l : List UInt8} {fs : List Fr} (n : Nat) (h : Ctl w I g gs l fs) (hl : fs.length ≤ 100000) (hn : n < 18446744073709551616) :
    Calls Try.prog 94 #[.pointer (some ⟨g, 0, none⟩), .int .u64 n] w fun e w' => e = .returned (.tuple #[.string (str (labelF fs n).1), .int .i64 (labelF fs n).2]) ∧ Step (fun _ => False) w w' := by
  obtain ⟨D, c, Is, h, hI⟩ := h
  have c0 := h.blk.cell 0
  simp at c0
  by_cases hlt : n < fs.length
  · have hpos : fs.length - 1 - n < fs.length := by omega
    obtain ⟨gf, rfl, hgl, k0, k1, k2, k3, _⟩ := h.cells (k := fs.length - 1 - n) hpos
    have HF : Hid (labelF fs n = (if fs[fs.length - 1 - n].op = 3 then [] else fs[fs.length - 1 - n].res, 0)) := by unfold Hid labelF; rw [if_pos hlt, List.getD, List.getElem?_eq_getElem hpos]; rfl
    have n1 : ¬ (fs.length : Int) ≤ (n : Int) := by omega
    have i0 : (0 : Int) ≤ (fs.length : Int) - 1 - (n : Int) := by omega
    have i1 : (fs.length : Int) - 1 - (n : Int) < (fs.length : Int) := by omega
    have hw := IntWalk.i64_in ((fs.length : Int) - 1) (by omega)
    have hw2 := IntWalk.i64_in ((fs.length : Int) - 1 - (n : Int)) (by omega)
    have hwn := IntWalk.i64_in (n : Int) (by omega)
    have ht : ((fs.length : Int) - 1 - (n : Int)).toNat = fs.length - 1 - n := by omega
    generalize fs[fs.length - 1 - n] = f at *
    have d0 := cls_cell (F := fun _ => False) c0 id
    have d1 := cls_cell (F := fun _ => False) k0 id
    have d2 := cls_cell (F := fun _ => False) k1 id
    have d3 := cls_cell (F := fun _ => False) k2 id
    have d4 := cls_cell (F := fun _ => False) k3 id
    clear h hI
    by_cases h3 : f.op = 3
    all_goals
      have e3 : (f.op == 3) = _ := (by first | exact beq_iff_eq.2 h3 | exact beq_eq_false_iff_ne.2 h3)
      rw [show (if f.op = 3 then ([] : List UInt8) else f.res) = (if (f.op == 3) = true then [] else f.res) from (by simp)] at HF
      clear h3
      go_enter Try.func94, Try.ntmps94
      go_wp2_with fail
      refine Mix.wp_region_mix [15, 16] [15] (Step (fun _ => False) w) (by kernel_rfl) (by kernel_rfl) Step.refl.drew (fun hcls => ?_)
      refine Mix.wpL_reads 15 (by rfl) ?_
      simp only [List.take_succ_cons, List.drop_succ_cons, List.take_zero, List.drop_zero]
      repeat (go_big_quiet_step (fail))
      refine wpQuiet_nil ?_
      refine Mix.wpL_op (by rfl) (fun K hK => ?_)
      go_simp
      refine hK _ _ (fun hlt => Mix.cl (Step.drew (Step.alloc Step.refl _))) ?_
      clear hK K
      refine Mix.wpL_op (by rfl) (fun K hK => ?_)
      go_simp
      refine hK _ _ (fun hlt => absurd hlt (by decide)) ?_
      clear hK K
      refine Mix.wpL_end ?_
      go_wp2
      go_ret2
      rw [HF.out, e3]
      exact ⟨rfl, Step.drew (Step.alloc Step.refl _)⟩
  · have HF : Hid (labelF fs n = ([], 22)) := by unfold Hid labelF; rw [if_neg hlt]
    have n1 : (fs.length : Int) ≤ (n : Int) := by omega
    clear hlt
    go_enter Try.func94, Try.ntmps94
    go_wp2_with fail
    go_ret2
    rw [HF.out]
    exact ⟨rfl, Step.refl⟩

end Go.Proofs.Ytpebdfgfikjkeaa
