/-
  store: InstOf, AddInst.
-/
import Derived.Test.YtmheofkakcomdaaGsB
set_option linter.unusedVariables false
set_option linter.unusedSimpArgs false
namespace Go.Proofs.Ytmheofkakcomdaa
open Go.RowKit
def IZ : Value := .agg #[.slice none 0 0, .slice none 0 0, .slice none 0 0]
/-- An owner's value: three slices. -/
def OkI (f : Int → Option Value) : Prop := ∀ i v, f i = some v → ∃ x y z : Option Addr × Nat × Nat, v = .agg #[.slice x.1 x.2.1 x.2.2, .slice y.1 y.2.1 y.2.2, .slice z.1 z.2.1 z.2.2]
theorem OkI.get {f : Int → Option Value} (h : OkI f) (i : Int) : ∃ x y z : Option Addr × Nat × Nat, (f i).getD IZ = .agg #[.slice x.1 x.2.1 x.2.2, .slice y.1 y.2.1 y.2.2, .slice z.1 z.2.1 z.2.2] := by
  cases hf : f i with
  | none => exact ⟨(none, 0, 0), (none, 0, 0), (none, 0, 0), rfl⟩
  | some v => exact h i v hf
section
variable {w w' : World} {B : Nat} {s : Sg}
theorem Gw.look (h : Gw w B s) (i : Int) (hi : (Lit.int .i64 i).wf = true) : (Instr.lookup 76 (.map (some s.K)) (.int .i64 i) true).run Try.prog w = .ok (.tuple #[(s.f i).getD IZ, .bool (s.f i).isSome]) w :=
  h.mp.look_ok Try.underlying3 Try.underlying76 (z := IZ) (by kernel_rfl) i hi
set_option maxRecDepth 100000 in
set_option maxHeartbeats 1600000 in
theorem s_instof (i : Int) (hi : (Lit.int .i64 i).wf = true) (h : Gw w B s) (hv : OkI s.f) :
    Calls Try.prog 19 #[.pointer (some ⟨s.S, 0, none⟩), .int .i64 i] w fun e w' => (∃ x y z : Option Addr × Nat × Nat, e = .returned (.tuple #[.agg #[.slice x.1 x.2.1 x.2.2, .slice y.1 y.2.1 y.2.2, .slice z.1 z.2.1 z.2.2], .bool (s.f i).isSome])) ∧ Step (fun _ => False) w w' := by
  obtain ⟨x, y, z, hx⟩ := hv.get i
  have st : Step (fun _ => False) w (w.alloc (.cells #[.slice none 0 0, .slice none 0 0, .slice none 0 0] 51)) := Step.refl.alloc _
  have hl := (h.quiet st).look i hi
  rw [hx] at hl
  have x4 := (h.blk.cell 4).trans (show _ = some (Value.map (some s.K)) from rfl)
  have nS := h.blk.lt
  obtain ⟨b, hb⟩ : ∃ b, b = (s.f i).isSome := ⟨_, rfl⟩
  rw [← hb] at hl ⊢
  clear h hv hx hb st
  obtain ⟨x1, x2, x3⟩ := x
  obtain ⟨y1, y2, y3⟩ := y
  obtain ⟨z1, z2, z3⟩ := z
  simp only at hl
  go_enter Try.func19, Try.ntmps19
  go_wp2_with fail
  refine bodyPost_ret (v := .tuple #[.agg #[.slice x1 x2 x3, .slice y1 y2 y3, .slice z1 z2 z3], .bool b]) (by simp [results, Try.results19, go_sem]) rfl ?_
  exact ⟨⟨(x1, x2, x3), (y1, y2, y3), (z1, z2, z3), rfl⟩, (Step.refl.alloc _).alloc _⟩
theorem Gw.nka (h : Gw w B s) : blkOf s.A ≠ some s.K := fun e => by
  rcases h.own.2 with ⟨h0, _⟩ | ⟨gb, cap, cur, h0, _, hgb, _⟩
  · simp at h0
    rw [h0.1] at e
    simp [blkOf] at e
  · simp at h0
    rw [h0.1] at e
    simp [blkOf] at e
    obtain ⟨⟨es, clock, h1, _⟩, _⟩ := h.mp
    rw [← e, hgb] at h1
    exact absurd (Option.some.inj h1) (by simp)
/-- The owners turned. -/
theorem Gw.putk {nn' : Nat} {f' : Int → Option Value} {D' : DataW Value} (h : Gw w B s) (hs : Step (fun k => k = s.K) w w') (hm : MapI Try.prog w' 3 s.K nn' f' D') : Gw w' B { s with nn := nn', f := f', D := D' } := by
  obtain ⟨z, hz⟩ := h.jn.blk
  exact ⟨h.blk.step hs (h.nk h.blk), h.fn.step hs (h.nk h.fn), h.jn.step hs (fun k hk => by
    rcases hk with rfl | hk | hk
    · exact h.nk hz
    · simp [blkOf] at hk
    · simp [blkOf] at hk), own_step h.own hs (fun k hk e => h.nka (by rw [ownBlock_slice] at hk; rw [hk, e])), hm, h.ge⟩
set_option maxRecDepth 100000 in
set_option maxHeartbeats 1600000 in
theorem s_addinst_twice (i : Int) (hi : (Lit.int .i64 i).wf = true) (p q r : Option Addr × Nat × Nat) (h : Gw w B s) (hv : OkI s.f) (hb : (s.f i).isSome = true) :
    Calls Try.prog 12 #[.pointer (some ⟨s.S, 0, none⟩), .int .i64 i, .agg #[.slice p.1 p.2.1 p.2.2, .slice q.1 q.2.1 q.2.2, .slice r.1 r.2.1 r.2.2]] w fun e w' => e = .returned (.int .i64 27) ∧ Step (fun _ => False) w w' := by
  obtain ⟨x, y, z, hx⟩ := hv.get i
  obtain ⟨p1, p2, p3⟩ := p
  obtain ⟨q1, q2, q3⟩ := q
  obtain ⟨r1, r2, r3⟩ := r
  have st : Step (fun _ => False) w (w.alloc (.cells #[.slice p1 p2 p3, .slice q1 q2 q3, .slice r1 r2 r3] 51)) := Step.refl.alloc _
  have hl := (h.quiet st).look i hi
  rw [hx, hb] at hl
  have x4 := (h.blk.cell 4).trans (show _ = some (Value.map (some s.K)) from rfl)
  have nS := h.blk.lt
  clear h hv hx hb st
  obtain ⟨x1, x2, x3⟩ := x
  obtain ⟨y1, y2, y3⟩ := y
  obtain ⟨z1, z2, z3⟩ := z
  simp only at hl
  go_enter Try.func12, Try.ntmps12
  go_wp2_with fail
  go_ret
  exact ⟨rfl, (Step.refl.alloc _).alloc _⟩
set_option maxRecDepth 100000 in
set_option maxHeartbeats 1600000 in
theorem s_addinst_ok (i : Int) (hi : (Lit.int .i64 i).wf = true) (p q r : Option Addr × Nat × Nat) (h : Gw w B s) (hn : s.nn ≤ 1000) (hb : s.f i = none) :
    Calls Try.prog 12 #[.pointer (some ⟨s.S, 0, none⟩), .int .i64 i, .agg #[.slice p.1 p.2.1 p.2.2, .slice q.1 q.2.1 q.2.2, .slice r.1 r.2.1 r.2.2]] w fun e w' => e = .returned (.int .i64 0) ∧
      Gw w' B { s with nn := s.nn + 1, f := putI s.f i (.agg #[.slice p.1 p.2.1 p.2.2, .slice q.1 q.2.1 q.2.2, .slice r.1 r.2.1 r.2.2]), D := s.D.put (kI i) (.held (.agg #[.slice p.1 p.2.1 p.2.2, .slice q.1 q.2.1 q.2.2, .slice r.1 r.2.1 r.2.2])) } ∧ Step s.foot w w' := by
  obtain ⟨p1, p2, p3⟩ := p
  obtain ⟨q1, q2, q3⟩ := q
  obtain ⟨r1, r2, r3⟩ := r
  simp only
  obtain ⟨V, hV⟩ : ∃ V, V = w.alloc (.cells #[.slice p1 p2 p3, .slice q1 q2 q3, .slice r1 r2 r3] 51) := ⟨_, rfl⟩
  have st : Step (fun _ => False) w V := by rw [hV]; exact Step.refl.alloc _
  have HX := Lib.hid (Blk.new w 51 #[.slice p1 p2 p3, .slice q1 q2 q3, .slice r1 r2 r3])
  rw [← hV] at HX
  have HW := Lib.hid (h.quiet st)
  have S1 := Lib.hid st
  have hl := HW.out.look i hi
  rw [hb] at hl
  have hl2 : (Instr.lookup 76 (.map (some s.K)) (.int .i64 i) true).run Try.prog V = .ok (.tuple #[.agg #[.slice none 0 0, .slice none 0 0, .slice none 0 0], .bool false]) V := hl
  have x4 := (h.blk.cell 4).trans (show _ = some (Value.map (some s.K)) from rfl)
  have nS := h.blk.lt
  obtain ⟨X, hX⟩ : ∃ X, X = w.heap.size := ⟨_, rfl⟩
  rw [← hX] at HX
  clear h hl st hb
  rw [hV] at hl2
  go_enter Try.func12, Try.ntmps12
  go_upto_region 4 with fail
  rw [← hV, ← hX]
  obtain ⟨W3, hW3⟩ : ∃ W3, W3 = V.alloc (.cells #[.slice none 0 0, .slice none 0 0, .slice none 0 0] 51) := ⟨_, rfl⟩
  have st3 : Step (fun _ => False) V W3 := by rw [hW3]; exact Step.refl.alloc _
  rw [← hW3]
  replace HW := Lib.hid (HW.out.quiet st3)
  replace HX := Lib.hid (HX.out.step st3 id)
  replace S1 := Lib.hid (S1.out.trans st3)
  clear hV hX hW3 hl2 x4 nS st3
  have x4 := (HW.out.blk.cell 4).trans (show _ = some (Value.map (some s.K)) from rfl)
  have y0 := HX.out.cell 0
  have y1 := HX.out.cell 1
  have y2 := HX.out.cell 2
  simp at y0 y1 y2
  have d4 := cls_cell (F := fun _ => False) x4 id
  have g0 := cls_cell (F := fun _ => False) y0 id
  have g1 := cls_cell (F := fun _ => False) y1 id
  have g2 := cls_cell (F := fun _ => False) y2 id
  obtain ⟨w4, hput, hmp, hs4⟩ := (HW.out.quiet Step.refl.drew).mp.put Try.underlying3 Try.underlying76 (by unfold maxLen; omega) i hi (.agg #[.slice p1 p2 p3, .slice q1 q2 q3, .slice r1 r2 r3])
  have HM := Lib.hid hmp
  have HS4 := Lib.hid hs4
  clear x4 y0 y1 y2 hmp hs4
  refine Mix.wp_region_mix [6] [] (Step (fun _ => False) W3) (by kernel_rfl) (by kernel_rfl) (Step.refl.drew) (fun hcls => ?_)
  refine Mix.wpL_reads 6 (by rfl) ?_
  simp only [List.take_succ_cons, List.drop_succ_cons, List.take_zero, List.drop_zero]
  repeat (go_big_quiet_step (fail))
  refine wpQuiet_nil ?_
  refine Mix.wpL_op (by rfl) (fun K hK => ?_)
  go_simp
  refine hK _ _ (fun hlt => absurd hlt (by decide)) ?_
  clear hK K
  refine Mix.wpL_end ?_
  have HG := Lib.hid ((HW.out.quiet Step.refl.drew).putk HS4.out HM.out)
  have S4 := Lib.hid ((S1.out.drew.mono (fun _ _ h => h.elim) : Step s.foot w W3.drew).trans (HS4.out.mono (fun j _ e => .inr (.inl e))))
  clear hput d4 g0 g1 g2 HM HS4 HW HX S1
  have x5 := (HG.out.blk.cell 5).trans (show _ = some (Value.pointer (some ⟨s.J, 0, none⟩)) from rfl)
  have HN := Lib.hid (jnote_closed w4 B s.J none 0 0 none 0 [] [] (.int .i64 8) (.int .i64 i) (.int .u64 0) (.string ⟨#[]⟩) HG.out.jn)
  go_wp2_with fail
  refine HN.out.mono ?_
  rintro e w5 ⟨rfl, t5⟩
  have HG5 := Lib.hid (HG.out.quiet t5)
  have S5 := Lib.hid (S4.out.trans (t5.mono (fun _ _ h => h.elim)))
  clear t5 HN x5
  go_wp2_with fail
  go_ret
  exact ⟨rfl, HG5.out, S5.out⟩
end
end Go.Proofs.Ytmheofkakcomdaa
