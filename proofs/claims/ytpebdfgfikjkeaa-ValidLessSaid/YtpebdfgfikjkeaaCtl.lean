/-
  ctrl.Control in memory.
-/
import Derived.Test.YtpebdfgfikjkeaaStkR
import Derived.Test.YtpebdfgfikjkeaaOpn
set_option linter.unusedVariables false
set_option linter.unusedSimpArgs false
namespace Go.Proofs.Ytpebdfgfikjkeaa
open Go.RowKit

/-- A block: with what it began, what it leaves, how high the stack was, whether it is dead. -/
structure Fr where
  op : Int
  res : List UInt8
  height : Nat
  dead : Bool
instance : Inhabited Fr := ⟨⟨0, [], 0, false⟩⟩
def Fr.cells (f : Fr) : List Value := [.int .u8 f.op, .string (str f.res), .int .i64 (f.height : Int), .bool f.dead]
def Fr.val (f : Fr) : Value := .agg #[.int .u8 f.op, .string (str f.res), .int .i64 (f.height : Int), .bool f.dead]
theorem Fr.four (f : Fr) : f.cells.length = 4 := rfl
def frs (l : List Fr) : List Value := l.flatMap Fr.cells
theorem frs_length (l : List Fr) : (frs l).length = l.length * 4 := flat_length Fr.cells 4 Fr.four l
theorem frs_get (l : List Fr) (k j : Nat) (h : k < l.length) (hj : j < 4) : (frs l)[k * 4 + j]? = (l[k].cells)[j]? := flat_get Fr.cells 4 Fr.four l k j h hj
theorem frs_append (l m : List Fr) : frs (l ++ m) = frs l ++ frs m := by simp [frs]
theorem frs_take (l : List Fr) (k : Nat) : frs (l.take k) = (frs l).take (k * 4) := by
  induction l generalizing k with
  | nil => simp [frs]
  | cons f l ih =>
    cases k with
    | zero => simp [frs]
    | succ k =>
      rw [List.take_succ_cons]
      show f.cells ++ frs (l.take k) = (f.cells ++ frs l).take ((k + 1) * 4)
      rw [ih, show (k + 1) * 4 = f.cells.length + k * 4 by rw [Fr.four]; omega, List.take_length_add_append]
theorem frs_one (l : List Fr) : ∀ u ∈ frs l, u.oneCell' = true := by
  intro u hu
  obtain ⟨f, _, hf⟩ := List.mem_flatMap.1 hu
  simp [Fr.cells] at hf
  rcases hf with rfl | rfl | rfl | rfl <;> rfl
theorem E_fr : ElemTy Try.prog 111 136 4 40 := elem_of Try.underlying111 (z := .agg #[.int .u8 0, .string ByteArray.empty, .int .i64 0, .bool false]) (by kernel_rfl) rfl (by decide)

/-- The control at block g: its blocks fs, its stack at gs that holds l; I is all that bears it. -/
structure CtlAt (w : World) (g gs : Nat) (D : Option Addr) (c : Nat) (Is : Nat → Prop) (l : List UInt8) (fs : List Fr) : Prop where
  blk : Blk w g 113 #[.slice D fs.length c, .pointer (some ⟨gs, 0, none⟩)]
  own : w.ownsRow 0 136 4 (.slice D fs.length c) fs.length (frs fs)
  stk : Stk w Is gs l
def Ctl (w : World) (I : Nat → Prop) (g gs : Nat) (l : List UInt8) (fs : List Fr) : Prop := ∃ D c Is, CtlAt w g gs D c Is l fs ∧ ∀ k, I k ↔ (k = g ∨ blkOf D = some k ∨ Is k)
def CtlUp (w : World) (I : Nat → Prop) (g gs : Nat) (l : List UInt8) (fs : List Fr) (w' : World) : Prop := ∃ I', Ctl w' I' g gs l fs ∧ Upd w I I' w'

section
variable {w w' : World} {I F Is : Nat → Prop} {g gs c : Nat} {l : List UInt8} {fs : List Fr} {D : Option Addr}
theorem CtlAt.ne (h : CtlAt w g gs D c Is l fs) : blkOf D ≠ some g := by
  have := own_tag h.own h.blk (by decide)
  rwa [ownBlock_slice] at this
/-- The stack's blocks are none of the control's own. -/
theorem CtlAt.sep (h : CtlAt w g gs D c Is l fs) : ∀ k, Is k → k ≠ g ∧ blkOf D ≠ some k := fun k hk => by
  obtain ⟨D2, c2, h2, hI⟩ := h.stk
  rcases (hI k).1 hk with rfl | e
  · refine ⟨?_, ?_⟩
    · rintro rfl
      exact absurd (Blk.tag h2.blk h.blk) (by decide)
    · have := own_tag h.own h2.blk (by decide)
      rwa [ownBlock_slice] at this
  · refine ⟨?_, ?_⟩
    · rintro rfl
      have := own_tag h2.own h.blk (by decide)
      rw [ownBlock_slice] at this
      exact this e
    · have := own_tag2 h2.own h.own (by decide) k (by rwa [ownBlock_slice])
      rwa [ownBlock_slice] at this
theorem Ctl.in_ (h : Ctl w I g gs l fs) : In w I := fun k hk => by
  obtain ⟨D, c, Is, h, hI⟩ := h
  rcases (hI k).1 hk with rfl | e | e
  · exact h.blk.lt
  · exact own_lt h.own k (by rwa [ownBlock_slice])
  · exact h.stk.in_ k e
theorem Ctl.keep (h : Ctl w I g gs l fs) (hs : Step F w w') (hd : Apart I F) : Ctl w' I g gs l fs := by
  obtain ⟨D, c, Is, h, hI⟩ := h
  exact ⟨D, c, Is, ⟨h.blk.step hs (hd g ((hI g).2 (.inl rfl))), own_step h.own hs (fun k hk => hd k ((hI k).2 (.inr (.inl (by rwa [ownBlock_slice] at hk))))), h.stk.keep hs fun k hk => hd k ((hI k).2 (.inr (.inr hk)))⟩, hI⟩
theorem Ctl.quiet (h : Ctl w I g gs l fs) (hs : Step (fun _ => False) w w') : Ctl w' I g gs l fs := h.keep hs apart_none
theorem Ctl.self (h : Ctl w I g gs l fs) : I g := by
  obtain ⟨D, c, Is, h, hI⟩ := h
  exact (hI g).2 (.inl rfl)
theorem CtlUp.quiet {w2 : World} (h : CtlUp w I g gs l fs w') (hs : Step (fun _ => False) w' w2) : CtlUp w I g gs l fs w2 := by
  obtain ⟨I', h1, h2⟩ := h
  exact ⟨I', h1.quiet hs, h2.quiet hs⟩
theorem CtlUp.after {w0 : World} (hs : Step (fun _ => False) w0 w) (h : CtlUp w I g gs l fs w') : CtlUp w0 I g gs l fs w' := by
  obtain ⟨I', h1, h2⟩ := h
  exact ⟨I', h1, Upd.after hs h2⟩
theorem CtlUp.same (h : Ctl w I g gs l fs) : CtlUp w I g gs l fs w := ⟨I, h, Upd.refl⟩
/-- The stack alone has turned. -/
theorem CtlAt.stack {m : List UInt8} (h : CtlAt w g gs D c Is l fs) (hI : ∀ k, I k ↔ (k = g ∨ blkOf D = some k ∨ Is k)) (t : StkUp w Is gs m w') : CtlUp w I g gs m fs w' := by
  obtain ⟨Is', h1, h2⟩ := t
  have hs := h.sep
  refine ⟨fun k => k = g ∨ blkOf D = some k ∨ Is' k, ⟨D, c, Is', ⟨h.blk.step h2.1 (fun hk => (hs g hk).1 rfl), own_step h.own h2.1 (fun k hk hi => (hs k hi).2 (by rwa [ownBlock_slice] at hk)), h1⟩, fun _ => Iff.rfl⟩,
    h2.1.mono (fun k _ hk => (hI k).2 (.inr (.inr hk))), fun k hk => ?_⟩
  rcases hk with e | e | e
  · exact .inl ((hI k).2 (.inl e))
  · exact .inl ((hI k).2 (.inr (.inl e)))
  · rcases h2.2 k e with e | e
    · exact .inl ((hI k).2 (.inr (.inr e)))
    · exact .inr e
/-- A frame's cells. -/
theorem CtlAt.cells (h : CtlAt w g gs D c Is l fs) {k : Nat} (hk : k < fs.length) : ∃ gf, D = some ⟨gf, 0, none⟩ ∧ gf < w.heap.size ∧
    w.cell? ⟨gf, k * 4, none⟩ = some (.int .u8 fs[k].op) ∧ w.cell? ⟨gf, k * 4 + 1, none⟩ = some (.string (str fs[k].res)) ∧ w.cell? ⟨gf, k * 4 + 2, none⟩ = some (.int .i64 (fs[k].height : Int)) ∧ w.cell? ⟨gf, k * 4 + 3, none⟩ = some (.bool fs[k].dead) ∧
    (∀ j, w.frozen? ⟨gf, j, none⟩ = false) := by
  obtain ⟨gf, e1, _, hlt, hc, hf⟩ := own_row h.own (by omega)
  exact ⟨gf, e1, hlt, hc (k * 4) _ (frs_get fs k 0 hk (by omega)), hc (k * 4 + 1) _ (frs_get fs k 1 hk (by omega)), hc (k * 4 + 2) _ (frs_get fs k 2 hk (by omega)), hc (k * 4 + 3) _ (frs_get fs k 3 hk (by omega)), hf⟩
end


/-- A struct of four fields stored into a new block: what it holds then. -/
theorem four_new {W : World} {N : Nat} {t : TypeId} {a b c d x y z u : Value} (h : Blk W N t #[a, b, c, d]) :
    Blk ((((W.setCell ⟨N, 0, none⟩ x).setCell ⟨N, 1, none⟩ y).setCell ⟨N, 2, none⟩ z).setCell ⟨N, 3, none⟩ u) N t #[x, y, z, u] := by
  have := (((h.set_ 0 x).set_ 1 y).set_ 2 z).set_ 3 u
  simpa using this
theorem four_step {F : Nat → Prop} {w W : World} {N : Nat} {x y z u : Value} (h : Step F w W) (hN : F N ∨ w.heap.size ≤ N) :
    Step F w ((((W.setCell ⟨N, 0, none⟩ x).setCell ⟨N, 1, none⟩ y).setCell ⟨N, 2, none⟩ z).setCell ⟨N, 3, none⟩ u) :=
  (((h.setCell (p := ⟨N, 0, none⟩) hN x).setCell (p := ⟨N, 1, none⟩) hN y).setCell (p := ⟨N, 2, none⟩) hN z).setCell (p := ⟨N, 3, none⟩) hN u

set_option maxRecDepth 100000 in
set_option maxHeartbeats 800000 in
theorem ctl_top {w : World} {I : Nat → Prop} {g gs : Nat} {l : List UInt8} {fs : List Fr} (f : Fr) (h : Ctl w I g gs l fs) (hl : fs.length ≤ 100000) (hf : fs[fs.length - 1]? = some f) :
    Calls Try.prog 89 #[.pointer (some ⟨g, 0, none⟩)] w fun e w' => e = .returned (.tuple #[f.val, .bool true]) ∧ Step (fun _ => False) w w' := by
  obtain ⟨D, c, Is, h, hI⟩ := h
  have c0 := h.blk.cell 0
  simp at c0
  have hpos : fs.length - 1 < fs.length := (List.getElem?_eq_some_iff.1 hf).1
  obtain rfl : fs[fs.length - 1] = f := (List.getElem?_eq_some_iff.1 hf).2
  obtain ⟨gf, rfl, hlt, k0, k1, k2, k3, kf⟩ := h.cells (k := fs.length - 1) hpos
  have n0 : ((fs.length : Int) == 0) = false := beq_eq_false_iff_ne.2 (by omega)
  have i0 : (0 : Int) ≤ (fs.length : Int) - 1 := by omega
  have i1 : (fs.length : Int) - 1 < (fs.length : Int) := by omega
  have hw := IntWalk.i64_in ((fs.length : Int) - 1) (by omega)
  have ht : ((fs.length : Int) - 1).toNat = fs.length - 1 := by omega
  have hgl := h.blk.lt
  generalize fs[fs.length - 1] = f at *
  clear hf
  go_enter Try.func89, Try.ntmps89
  go_wp2_with fail
  have b0 : Blk (w.alloc (.cells #[.int .u8 0, .string ⟨#[]⟩, .int .i64 0, .bool false] 136)) w.heap.size 136 _ := Blk.new w _ _
  have s0 : Step (fun _ => False) w (w.alloc (.cells #[.int .u8 0, .string ⟨#[]⟩, .int .i64 0, .bool false] 136)) := Step.refl.alloc _
  have c0' := (s0.cell (p := ⟨g, 0, none⟩) hgl id).trans c0
  have k0' := (s0.cell (p := ⟨gf, (fs.length - 1) * 4, none⟩) hlt id).trans k0
  have k1' := (s0.cell (p := ⟨gf, (fs.length - 1) * 4 + 1, none⟩) hlt id).trans k1
  have k2' := (s0.cell (p := ⟨gf, (fs.length - 1) * 4 + 2, none⟩) hlt id).trans k2
  have k3' := (s0.cell (p := ⟨gf, (fs.length - 1) * 4 + 3, none⟩) hlt id).trans k3
  have nz : g ≠ w.heap.size := Nat.ne_of_lt hgl
  have nz' : gf ≠ w.heap.size := Nat.ne_of_lt hlt
  have HN : Hid (w.heap.size ≤ w.heap.size) := Nat.le_refl _
  generalize hn : w.heap.size = N at *
  have HN' : Hid (w.heap.size ≤ N) := by rw [hn]; exact HN.out
  generalize w.alloc (.cells #[.int .u8 0, .string ⟨#[]⟩, .int .i64 0, .bool false] 136) = W at *
  have S0 := Lib.hid s0
  have b00 := b0.cell 0
  have b01 := b0.cell 1
  have b02 := b0.cell 2
  have b03 := b0.cell 3
  have bf := b0.frozen
  simp at b00 b01 b02 b03
  clear c0 k0 k1 k2 k3 s0 hn h hI kf HN
  have d0 := cls_cell (F := fun k => k = N) c0' nz
  have d1 := cls_cell (F := fun k => k = N) k0' nz'
  have d2 := cls_cell (F := fun k => k = N) k1' nz'
  have d3 := cls_cell (F := fun k => k = N) k2' nz'
  have d4 := cls_cell (F := fun k => k = N) k3' nz'
  refine Mix.wp_region_mix [12] [12] (Step (fun k => k = N) W) (by kernel_rfl) (by kernel_rfl) Step.refl.drew (fun hcls => ?_)
  refine Mix.wpL_reads 12 (by rfl) ?_
  simp only [List.take_succ_cons, List.drop_succ_cons, List.take_zero, List.drop_zero]
  repeat (go_big_quiet_step (fail))
  refine wpQuiet_nil ?_
  refine Mix.wpL_op (by rfl) (fun K hK => ?_)
  go_simp
  refine hK _ _ (fun hlt => Mix.cl (Step.drew (four_step (F := fun k => k = N) Step.refl (.inl rfl)))) ?_
  clear hK K
  refine Mix.wpL_reads 1 (by rfl) ?_
  simp only [List.take_succ_cons, List.drop_succ_cons, List.take_zero, List.drop_zero]
  repeat (go_big_quiet_step (fail))
  refine wpQuiet_nil ?_
  refine Mix.wpL_end ?_
  go_wp2
  have bz := four_new (x := .int .u8 f.op) (y := .string (str f.res)) (z := .int .i64 (f.height : Int)) (u := .bool f.dead) b0
  have z0 := bz.cell 0
  have z1 := bz.cell 1
  have z2 := bz.cell 2
  have z3 := bz.cell 3
  simp at z0 z1 z2 z3
  refine bodyPost_ret (v := .tuple #[f.val, .bool true]) ?_ rfl ⟨rfl, (four_step S0.out (.inr HN'.out)).drew⟩
  simp [results, Try.results89, go_sem, Fr.val, z0, z1, z2, z3]

set_option maxRecDepth 100000 in
set_option maxHeartbeats 800000 in
theorem ctl_top_none {w : World} {I : Nat → Prop} {g gs : Nat} {l : List UInt8} (h : Ctl w I g gs l []) :
    Calls Try.prog 89 #[.pointer (some ⟨g, 0, none⟩)] w fun e w' => e = .returned (.tuple #[.agg #[.int .u8 0, .string ⟨#[]⟩, .int .i64 0, .bool false], .bool false]) ∧ Step (fun _ => False) w w' := by
  obtain ⟨D, c, Is, h, hI⟩ := h
  have c0 := h.blk.cell 0
  simp at c0
  have hgl := h.blk.lt
  go_enter Try.func89, Try.ntmps89
  go_wp2
  refine bodyPost_ret (v := .tuple #[.agg #[.int .u8 0, .string ⟨#[]⟩, .int .i64 0, .bool false], .bool false]) ?_ rfl ⟨rfl, Step.refl.alloc _⟩
  simp [results, Try.results89, go_sem]

set_option maxRecDepth 100000 in
set_option maxHeartbeats 800000 in
theorem ctl_pop {w : World} {I : Nat → Prop} {g gs : Nat} {l : List UInt8} {fs : List Fr} (f : Fr)  (h : Ctl w I g gs l fs) (hl : fs.length ≤ 100000) (hn : l.length ≤ 1000000) (hf : fs[fs.length - 1]? = some f)  :
    Calls Try.prog 74 #[.pointer (some ⟨g, 0, none⟩)] w fun e w' => e = .returned (.tuple #[.int .u8 (popF l f.height f.dead).2.1, .int .i64 (popF l f.height f.dead).2.2]) ∧ CtlUp w I g gs (popF l f.height f.dead).1 fs w' := by
  have HT := Lib.hid (ctl_top f h hl hf)
  have H := Lib.hid h
  clear h hf hl
  go_enter Try.func74, Try.ntmps74
  go_wp2_with fail
  refine HT.out.mono ?_
  rintro e w1 ⟨rfl, s1⟩
  unfold Fr.val
  go_wp2_with fail
  have s2 : Step (fun _ => False) w (w1.alloc (.cells #[.int .u8 f.op, .string (str f.res), .int .i64 (f.height : Int), .bool f.dead] 136)) := s1.alloc _
  have b1 : Blk (w1.alloc (.cells #[.int .u8 f.op, .string (str f.res), .int .i64 (f.height : Int), .bool f.dead] 136)) w1.heap.size 136 _ := Blk.new w1 _ _
  obtain ⟨D, c, Is, h, hI⟩ := H.out.quiet s2
  have HI := Lib.hid hI
  have H2 := Lib.hid h
  have hin : Hid (In w1 Is) := fun k hk => by
    obtain ⟨D', c', Is', h', hI'⟩ := H.out.quiet s1
    have := H.out.in_ k
    have hz := s1.size
    have hk2 : k < w.heap.size := this (by
      obtain ⟨D0, c0, I0, h0, hI0⟩ := H.out
      exact (hI k).2 (.inr (.inr hk)))
    omega
  have S2 := Lib.hid s2
  have hNI : ¬ Is w1.heap.size := fun hk => by have := hin.out _ hk; omega
  have hgI : ¬ Is g := fun hk => (h.sep g hk).1 rfl
  have k1 := h.blk.cell 1
  have k2 := (b1.cell 2).trans (show _ = some (Value.int .i64 (f.height : Int)) from rfl)
  have k3 := (b1.cell 3).trans (show _ = some (Value.bool f.dead) from rfl)
  simp at k1
  clear hI h s1 s2 b1
  generalize w1.heap.size = N at *
  generalize w1.alloc (.cells #[.int .u8 f.op, .string (str f.res), .int .i64 (f.height : Int), .bool f.dead] 136) = W at *
  have d1 := cls_cell (F := Is) k1 hgI
  have d2 := cls_cell (F := Is) k2 hNI
  have d3 := cls_cell (F := Is) k3 hNI
  refine Mix.wp_region_mix [8] [8] (Step Is W) (by kernel_rfl) (by kernel_rfl) Step.refl.drew (fun hcls => ?_)
  refine Mix.wpL_reads 8 (by rfl) ?_
  simp only [List.take_succ_cons, List.drop_succ_cons, List.take_zero, List.drop_zero]
  repeat (go_big_quiet_step (fail))
  refine wpQuiet_nil ?_
  refine Mix.wpL_op (by rfl) (fun K hK => ?_)
  go_simp
  refine (stkR_pop  (f.height : Int) f.dead (H2.out.stk.quiet Step.refl.drew) hn).mono ?_
  rintro e w3 ⟨rfl, t3⟩
  refine hK _ _ (fun hlt => Mix.cl ((Step.refl.drew).trans (by obtain ⟨I3, _, u3⟩ := t3; exact u3.1))) ?_
  clear hK K
  refine Mix.wpL_reads 4 (by rfl) ?_
  simp only [List.take_succ_cons, List.drop_succ_cons, List.take_zero, List.drop_zero]
  repeat (go_big_quiet_step (fail))
  refine wpQuiet_nil ?_
  refine Mix.wpL_end ?_
  go_wp2
  go_ret2
  refine ⟨rfl, CtlUp.after S2.out ?_⟩
  refine H2.out.stack HI.out ?_
  obtain ⟨I3, h3, u3⟩ := t3
  exact ⟨I3, h3, Upd.after Step.refl.drew u3⟩

set_option maxRecDepth 100000 in
set_option maxHeartbeats 800000 in
theorem ctl_pop_none {w : World} {I : Nat → Prop} {g gs : Nat} {l : List UInt8}  (h : Ctl w I g gs l []) :
    Calls Try.prog 74 #[.pointer (some ⟨g, 0, none⟩)] w fun e w' => e = .returned (.tuple #[.int .u8 0, .int .i64 30]) ∧ Step (fun _ => False) w w' := by
  have HT := Lib.hid (ctl_top_none h)
  clear h
  go_enter Try.func74, Try.ntmps74
  go_wp2_with fail
  refine HT.out.mono ?_
  rintro e w1 ⟨rfl, s1⟩
  go_wp2_with fail
  go_ret2
  exact ⟨rfl, s1.alloc _⟩

set_option maxRecDepth 100000 in
set_option maxHeartbeats 800000 in
theorem ctl_want {w : World} {I : Nat → Prop} {g gs : Nat} {l : List UInt8} {fs : List Fr} (f : Fr) (t : Int) (h : Ctl w I g gs l fs) (hl : fs.length ≤ 100000) (hn : l.length ≤ 1000000) (hf : fs[fs.length - 1]? = some f)  :
    Calls Try.prog 75 #[.pointer (some ⟨g, 0, none⟩), .int .u8 t] w fun e w' => e = .returned (.tuple #[.int .u8 (wantF l t f.height f.dead).2.1, .int .i64 (wantF l t f.height f.dead).2.2]) ∧ CtlUp w I g gs (wantF l t f.height f.dead).1 fs w' := by
  have HT := Lib.hid (ctl_top f h hl hf)
  have H := Lib.hid h
  clear h hf hl
  go_enter Try.func75, Try.ntmps75
  go_wp2_with fail
  refine HT.out.mono ?_
  rintro e w1 ⟨rfl, s1⟩
  unfold Fr.val
  go_wp2_with fail
  have s2 : Step (fun _ => False) w (w1.alloc (.cells #[.int .u8 f.op, .string (str f.res), .int .i64 (f.height : Int), .bool f.dead] 136)) := s1.alloc _
  have b1 : Blk (w1.alloc (.cells #[.int .u8 f.op, .string (str f.res), .int .i64 (f.height : Int), .bool f.dead] 136)) w1.heap.size 136 _ := Blk.new w1 _ _
  obtain ⟨D, c, Is, h, hI⟩ := H.out.quiet s2
  have HI := Lib.hid hI
  have H2 := Lib.hid h
  have hin : Hid (In w1 Is) := fun k hk => by
    obtain ⟨D', c', Is', h', hI'⟩ := H.out.quiet s1
    have := H.out.in_ k
    have hz := s1.size
    have hk2 : k < w.heap.size := this (by
      obtain ⟨D0, c0, I0, h0, hI0⟩ := H.out
      exact (hI k).2 (.inr (.inr hk)))
    omega
  have S2 := Lib.hid s2
  have hNI : ¬ Is w1.heap.size := fun hk => by have := hin.out _ hk; omega
  have hgI : ¬ Is g := fun hk => (h.sep g hk).1 rfl
  have k1 := h.blk.cell 1
  have k2 := (b1.cell 2).trans (show _ = some (Value.int .i64 (f.height : Int)) from rfl)
  have k3 := (b1.cell 3).trans (show _ = some (Value.bool f.dead) from rfl)
  simp at k1
  clear hI h s1 s2 b1
  generalize w1.heap.size = N at *
  generalize w1.alloc (.cells #[.int .u8 f.op, .string (str f.res), .int .i64 (f.height : Int), .bool f.dead] 136) = W at *
  have d1 := cls_cell (F := Is) k1 hgI
  have d2 := cls_cell (F := Is) k2 hNI
  have d3 := cls_cell (F := Is) k3 hNI
  refine Mix.wp_region_mix [9] [9] (Step Is W) (by kernel_rfl) (by kernel_rfl) Step.refl.drew (fun hcls => ?_)
  refine Mix.wpL_reads 9 (by rfl) ?_
  simp only [List.take_succ_cons, List.drop_succ_cons, List.take_zero, List.drop_zero]
  repeat (go_big_quiet_step (fail))
  refine wpQuiet_nil ?_
  refine Mix.wpL_op (by rfl) (fun K hK => ?_)
  go_simp
  refine (stkR_want t (f.height : Int) f.dead (H2.out.stk.quiet Step.refl.drew) hn).mono ?_
  rintro e w3 ⟨rfl, t3⟩
  refine hK _ _ (fun hlt => Mix.cl ((Step.refl.drew).trans (by obtain ⟨I3, _, u3⟩ := t3; exact u3.1))) ?_
  clear hK K
  refine Mix.wpL_reads 4 (by rfl) ?_
  simp only [List.take_succ_cons, List.drop_succ_cons, List.take_zero, List.drop_zero]
  repeat (go_big_quiet_step (fail))
  refine wpQuiet_nil ?_
  refine Mix.wpL_end ?_
  go_wp2
  go_ret2
  refine ⟨rfl, CtlUp.after S2.out ?_⟩
  refine H2.out.stack HI.out ?_
  obtain ⟨I3, h3, u3⟩ := t3
  exact ⟨I3, h3, Upd.after Step.refl.drew u3⟩

set_option maxRecDepth 100000 in
set_option maxHeartbeats 800000 in
theorem ctl_want_none {w : World} {I : Nat → Prop} {g gs : Nat} {l : List UInt8} (t : Int) (h : Ctl w I g gs l []) :
    Calls Try.prog 75 #[.pointer (some ⟨g, 0, none⟩), .int .u8 t] w fun e w' => e = .returned (.tuple #[.int .u8 0, .int .i64 30]) ∧ Step (fun _ => False) w w' := by
  have HT := Lib.hid (ctl_top_none h)
  clear h
  go_enter Try.func75, Try.ntmps75
  go_wp2_with fail
  refine HT.out.mono ?_
  rintro e w1 ⟨rfl, s1⟩
  go_wp2_with fail
  go_ret2
  exact ⟨rfl, s1.alloc _⟩

set_option maxRecDepth 100000 in
set_option maxHeartbeats 800000 in
theorem ctl_wantAll {w : World} {I : Nat → Prop} {g gs : Nat} {l : List UInt8} {fs : List Fr} (f : Fr) (t : List UInt8) (h : Ctl w I g gs l fs) (hl : fs.length ≤ 100000) (hn : l.length ≤ 1000000) (hf : fs[fs.length - 1]? = some f) (ht : t.length ≤ 1000000) :
    Calls Try.prog 81 #[.pointer (some ⟨g, 0, none⟩), .string (str t)] w fun e w' => e = .returned (.int .i64 (wantAllF l t.reverse f.height f.dead).2) ∧ CtlUp w I g gs (wantAllF l t.reverse f.height f.dead).1 fs w' := by
  have HT := Lib.hid (ctl_top f h hl hf)
  have H := Lib.hid h
  clear h hf hl
  go_enter Try.func81, Try.ntmps81
  go_wp2_with fail
  refine HT.out.mono ?_
  rintro e w1 ⟨rfl, s1⟩
  unfold Fr.val
  go_wp2_with fail
  have s2 : Step (fun _ => False) w (w1.alloc (.cells #[.int .u8 f.op, .string (str f.res), .int .i64 (f.height : Int), .bool f.dead] 136)) := s1.alloc _
  have b1 : Blk (w1.alloc (.cells #[.int .u8 f.op, .string (str f.res), .int .i64 (f.height : Int), .bool f.dead] 136)) w1.heap.size 136 _ := Blk.new w1 _ _
  obtain ⟨D, c, Is, h, hI⟩ := H.out.quiet s2
  have HI := Lib.hid hI
  have H2 := Lib.hid h
  have hin : Hid (In w1 Is) := fun k hk => by
    obtain ⟨D', c', Is', h', hI'⟩ := H.out.quiet s1
    have := H.out.in_ k
    have hz := s1.size
    have hk2 : k < w.heap.size := this (by
      obtain ⟨D0, c0, I0, h0, hI0⟩ := H.out
      exact (hI k).2 (.inr (.inr hk)))
    omega
  have S2 := Lib.hid s2
  have hNI : ¬ Is w1.heap.size := fun hk => by have := hin.out _ hk; omega
  have hgI : ¬ Is g := fun hk => (h.sep g hk).1 rfl
  have k1 := h.blk.cell 1
  have k2 := (b1.cell 2).trans (show _ = some (Value.int .i64 (f.height : Int)) from rfl)
  have k3 := (b1.cell 3).trans (show _ = some (Value.bool f.dead) from rfl)
  simp at k1
  clear hI h s1 s2 b1
  generalize w1.heap.size = N at *
  generalize w1.alloc (.cells #[.int .u8 f.op, .string (str f.res), .int .i64 (f.height : Int), .bool f.dead] 136) = W at *
  have d1 := cls_cell (F := Is) k1 hgI
  have d2 := cls_cell (F := Is) k2 hNI
  have d3 := cls_cell (F := Is) k3 hNI
  refine Mix.wp_region_mix [9] [9] (Step Is W) (by kernel_rfl) (by kernel_rfl) Step.refl.drew (fun hcls => ?_)
  refine Mix.wpL_reads 9 (by rfl) ?_
  simp only [List.take_succ_cons, List.drop_succ_cons, List.take_zero, List.drop_zero]
  repeat (go_big_quiet_step (fail))
  refine wpQuiet_nil ?_
  refine Mix.wpL_op (by rfl) (fun K hK => ?_)
  go_simp
  refine (stkR_wantAll t (f.height : Int) f.dead (H2.out.stk.quiet Step.refl.drew) hn ht).mono ?_
  rintro e w3 ⟨rfl, t3⟩
  refine hK _ _ (fun hlt => Mix.cl ((Step.refl.drew).trans (by obtain ⟨I3, _, u3⟩ := t3; exact u3.1))) ?_
  clear hK K
  refine Mix.wpL_reads 1 (by rfl) ?_
  simp only [List.take_succ_cons, List.drop_succ_cons, List.take_zero, List.drop_zero]
  repeat (go_big_quiet_step (fail))
  refine wpQuiet_nil ?_
  refine Mix.wpL_end ?_
  go_wp2
  go_ret
  refine ⟨rfl, CtlUp.after S2.out ?_⟩
  refine H2.out.stack HI.out ?_
  obtain ⟨I3, h3, u3⟩ := t3
  exact ⟨I3, h3, Upd.after Step.refl.drew u3⟩

set_option maxRecDepth 100000 in
set_option maxHeartbeats 800000 in
theorem ctl_wantAll_none {w : World} {I : Nat → Prop} {g gs : Nat} {l : List UInt8} (t : List UInt8) (h : Ctl w I g gs l []) :
    Calls Try.prog 81 #[.pointer (some ⟨g, 0, none⟩), .string (str t)] w fun e w' => e = .returned (.int .i64 30) ∧ Step (fun _ => False) w w' := by
  have HT := Lib.hid (ctl_top_none h)
  clear h
  go_enter Try.func81, Try.ntmps81
  go_wp2_with fail
  refine HT.out.mono ?_
  rintro e w1 ⟨rfl, s1⟩
  go_wp2_with fail
  go_ret
  exact ⟨rfl, s1.alloc _⟩

end Go.Proofs.Ytpebdfgfikjkeaa
