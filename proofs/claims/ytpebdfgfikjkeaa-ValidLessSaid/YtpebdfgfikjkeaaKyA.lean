/-
  The law ValidTwice walked.
-/
import Derived.Test.YtpebdfgfikjkeaaKwx
import Derived.Test.YtpebdfgfikjkeaaMxt
import Derived.Deep.DeepCutAuto
import Derived.Deep.CutBlock
set_option linter.unusedVariables false
set_option linter.unusedSimpArgs false
namespace Go.Proofs.Ytpebdfgfikjkeaa
open Go.RowKit
theorem C17_one (a : Md) (M : Mv) : (#[.slice a.A0 M.types.length a.c0, .slice a.A1 M.imports.length a.c1, .slice a.A2 M.funcs.length a.c2, .slice a.A3 M.tables.length a.c3, .slice a.A4 M.mems.length a.c4, .slice a.A5 M.globals.length a.c5, .slice a.A6 M.exports.length a.c6, .int .i64 M.start, .slice a.A8 M.elems.length a.c8, .slice a.A9 M.codes.length a.c9, .slice a.A10 M.datas.length a.c10, .bool M.has, .int .u32 (M.d1 : Int), .int .u32 (M.d2 : Int), .int .u32 (M.d3 : Int), .int .u32 (M.d4 : Int), .slice a.A16 M.nd.length a.c16] : Array Value).all (·.oneCell') = true := by simp [Value.oneCell']
theorem ld_mod_g {w : World} {a : Act} {o : Oper} {ops : Array Oper} {rest : List Oper} {Q : Exit → Act → World → Prop} (hgd : Region.wanted o (yielded ops a.tmps) = true) (x : Operand) (ho : o.op = .load 53 x) (g : Nat) (hx : a.eval x = .pointer (some ⟨g, 0, none⟩)) (cs : Array Value) (hB : Blk w g 53 cs) (h17 : cs.size = 17)
    (h : wpList Try.prog ops Q rest (a.put o.dst (.agg cs)) w) : wpList Try.prog ops Q (o :: rest) a w :=
  BigFrame.wpList_want hgd fun _ hK => wp_load_row _ x ho g hx _ cs (0, 0) _ hB Try.underlying53 rfl (by rw [h17]; exact info_mod) (hK _ _ h)
theorem E_ims : ElemTy Try.prog 41 64 9 56 := elem_of Try.underlying41 (z := .agg #[.string ByteArray.empty, .string ByteArray.empty, .int .u8 0, .int .u32 0, .int .u32 0, .int .u32 0, .bool false, .int .u8 0, .bool false]) (by kernel_rfl) rfl (by decide)
theorem E_exs : ElemTy Try.prog 44 66 3 24 := elem_of Try.underlying44 (z := .agg #[.string ByteArray.empty, .int .u8 0, .int .u32 0]) (by kernel_rfl) rfl (by decide)
theorem fault_field (f : Ft) : ∀ w : World, (Instr.field 56 (.agg #[.int .i64 f.why, .int .i64 f.list, .int .i64 f.at_]) 0).run Try.prog w = .ok (.int .i64 f.why) w := fun w => by kernel_rfl
theorem exs_one (l : List Ex) : ∀ u ∈ exs l, u.oneCell' = true := fun u hu => by
  obtain ⟨x, _, hx⟩ := List.mem_flatMap.1 hu
  simp [Ex.cells] at hx
  rcases hx with rfl | rfl | rfl <;> rfl
/-- A store of a whole module, in a region that draws. -/
theorem step_st_mod {w : World} {ops : Array Oper} {o : Oper} {a : Act} {K : Act → World → Prop} {Q : Exit → Act → World → Prop} {F : Prop} {g : Nat} {cs old : Array Value} (hgd : Region.wanted o (yielded ops a.tmps) = true) (x y : Operand) (ho : o.op = .store 53 x y) (hd : o.dst = none)
    (hx : a.eval x = .pointer (some ⟨g, 0, none⟩)) (hy : a.eval y = .agg cs) (hB : Blk w g 53 old) (hold : old.size = 17) (h17 : cs.size = 17) (h1 : cs.all (·.oneCell') = true) (h : K a (w.setRow g cs)) :
    if Region.wanted o (yielded ops a.tmps) = true then Oper.wp Try.prog o a w K Q else F := by
  rw [if_pos hgd]
  exact wp_store_row _ x y ho g cs hx hy _ old hB (by rw [h17]; exact info_mod) (by rw [hold, h17]) h1 (by rw [hd]; exact h)
set_option maxRecDepth 100000 in
set_option maxHeartbeats 12800000 in
theorem twice_walk (w : World) (R : Nat → Prop) (a : Md) (M : Mv) (k : Nat) (hk : k < 256) (hM : ModIn w R a M) (hcap : M.types.length ≤ 300000000000000 ∧ M.imports.length ≤ 300000000000000 ∧ M.funcs.length ≤ 300000000000000 ∧ M.tables.length ≤ 300000000000000 ∧ M.mems.length ≤ 300000000000000 ∧ M.globals.length ≤ 300000000000000 ∧ M.exports.length ≤ 300000000000000 ∧ M.elems.length ≤ 300000000000000 ∧ M.codes.length ≤ 300000000000000 ∧ M.datas.length ≤ 300000000000000) :
    Calls Try.prog 5 #[.agg #[.slice a.A0 M.types.length a.c0, .slice a.A1 M.imports.length a.c1, .slice a.A2 M.funcs.length a.c2, .slice a.A3 M.tables.length a.c3, .slice a.A4 M.mems.length a.c4, .slice a.A5 M.globals.length a.c5, .slice a.A6 M.exports.length a.c6, .int .i64 M.start, .slice a.A8 M.elems.length a.c8, .slice a.A9 M.codes.length a.c9, .slice a.A10 M.datas.length a.c10, .bool M.has, .int .u32 (M.d1 : Int), .int .u32 (M.d2 : Int), .int .u32 (M.d3 : Int), .int .u32 (M.d4 : Int), .slice a.A16 M.nd.length a.c16], .int .u8 (k : Int)] w fun e w' => e = .returned (.bool true) ∧ Step (fun _ => False) w w' := by
  have hcp := hcap.2.2.2.2.2.2.1
  obtain ⟨C, hC⟩ : ∃ C : Array Value, C = #[.slice a.A0 M.types.length a.c0, .slice a.A1 M.imports.length a.c1, .slice a.A2 M.funcs.length a.c2, .slice a.A3 M.tables.length a.c3, .slice a.A4 M.mems.length a.c4, .slice a.A5 M.globals.length a.c5, .slice a.A6 M.exports.length a.c6, .int .i64 M.start, .slice a.A8 M.elems.length a.c8, .slice a.A9 M.codes.length a.c9, .slice a.A10 M.datas.length a.c10, .bool M.has, .int .u32 (M.d1 : Int), .int .u32 (M.d2 : Int), .int .u32 (M.d3 : Int), .int .u32 (M.d4 : Int), .slice a.A16 M.nd.length a.c16] := ⟨_, rfl⟩
  have H17 : Hid (C.size = 17) := by rw [hC]; rfl
  have H1 : Hid (C.all (·.oneCell') = true) := by rw [hC]; exact C17_one a M
  have HSM : Hid (∀ W, ModIn W R a M → Calls Try.prog 10 #[.agg C] W fun e w' => BoolOut (M.small ∧ M.types.length + M.imports.length ≤ 40 ∧ M.globals.length + M.exports.length ≤ 40) e ∧ Step (fun _ => False) W w') := fun W h => by rw [hC]; exact small_walk17 W h hcap
  obtain ⟨f0, hf0⟩ : ∃ f : Ft, f = modF M := ⟨_, rfl⟩
  have HVM : Hid (∀ W, ModIn W R a M → M.small → Calls Try.prog 11 #[.agg C] W fun e w' => e = .returned (.agg #[.int .i64 f0.why, .int .i64 f0.list, .int .i64 f0.at_]) ∧ Step (fun _ => False) W w') := fun W h hs => by rw [hC, hf0]; exact v_module h hs
  rw [← hC]
  have hfd := fault_field f0
  have s1 : Step (fun _ => False) w (w.alloc (.cells C 53)) := Step.refl.alloc _
  have B0 := Lib.hid (Blk.new w 53 C)
  have HM := Lib.hid (hM.step s1 (fun _ _ => id))
  have S1 := Lib.hid s1
  have HIN := Lib.hid hM.rin
  replace hC := Lib.hid hC
  replace hf0 := Lib.hid hf0
  clear s1 hM hcap
  go_enter Try.func5, Try.ntmps5
  go_upto_region 1 with fail
  generalize w.alloc (.cells C 53) = V at *
  generalize hX : w.heap.size = X at *
  replace hX := Lib.hid hX
  go_wp2_with fail
  refine (awake25 _).mono ?_
  rintro e w1 ⟨rfl, t1⟩
  replace B0 := Lib.hid (B0.out.step t1 id)
  replace HM := Lib.hid (HM.out.step t1 (fun _ _ => id))
  replace S1 := Lib.hid (S1.out.trans t1)
  clear t1
  go_wp2_with (refine ld_mod_g (by rfl) _ rfl _ rfl C B0.out H17.out ?_)
  refine (HSM.out _ HM.out).mono ?_
  rintro e w2 ⟨⟨b, rfl, hb⟩, t2⟩
  replace B0 := Lib.hid (B0.out.step t2 id)
  replace HM := Lib.hid (HM.out.step t2 (fun _ _ => id))
  replace S1 := Lib.hid (S1.out.trans t2)
  clear t2 HSM
  cases b with
  | false =>
    go_wp2_with fail
    go_ret
    exact ⟨rfl, S1.out⟩
  | true =>
    have HSL := Lib.hid (hb rfl)
    clear hb
    go_wp2_with (refine ld_mod_g (by rfl) _ rfl _ rfl C B0.out H17.out ?_)
    refine (HVM.out _ HM.out HSL.out.1).mono ?_
    rintro e w3 ⟨rfl, t3⟩
    replace B0 := Lib.hid (B0.out.step t3 id)
    replace HM := Lib.hid (HM.out.step t3 (fun _ _ => id))
    replace S1 := Lib.hid (S1.out.trans t3)
    clear t3 HVM
    by_cases hz : f0.why = 0
    · have HOK := Lib.hid (modF_all (M := M) (by rw [← hf0.out]; exact hz))
      have e1 : (f0.why != 0) = false := by rw [hz]; rfl
      clear hz
      go_wp2_with fail
      obtain ⟨N, hN⟩ : ∃ N, w3.heap.size = N := ⟨_, rfl⟩
      go_cut [5, 6] (fun s5 s6 wq => ∃ B5 B6, s5 = .pointer (some ⟨B5, 0, none⟩) ∧ s6 = .pointer (some ⟨B6, 0, none⟩) ∧ ¬ B5 = B6 ∧ w3.heap.size ≤ B5 ∧ w3.heap.size ≤ B6 ∧ Hid (Blk wq B5 53 C) ∧ Hid (Blk wq B6 53 C) ∧ Hid (Step (fun _ => False) w3 wq))
      case first =>
        refine Mxt.wp_region_tree [2, 3, 4, 5] [2, 3, 4] (.reads [0, 1] (.fork (.op 2 (.op 3 (.op 4 (.op 5 .leaf)))) (.op 3 (.op 2 (.op 4 (.op 5 .leaf)))))) (Step (fun _ => False) w3) (by kernel_rfl) (by kernel_rfl) Step.refl.drew (fun hcls => ?_)
        refine Mxt.wpTL_reads ?_
        simp only [List.flatMap_cons, List.flatMap_nil, List.getElem?_cons_succ, List.getElem?_cons_zero, Option.toList_some, List.cons_append, List.nil_append]
        repeat (first | (refine BigFrame.wpQuiet_want (by rfl) (fun K hK => quiet_mod_at (ops := #[]) _ rfl X rfl C (fun w1 ⟨i, e⟩ => by rw [e]; intro j v hv; exact ((B0.out.step i.prop id).cell j).trans hv) H17.out (hK _ ?_)); clear hK K; simp only [Act.put, List.setIfInBounds_toArray, List.set_cons_succ, List.set_cons_zero]) | (go_big_quiet_step (fail)))
        refine wpQuiet_nil ?_
        refine Mxt.wpTL_fork ?_ ?_
        · refine Mxt.wpTL_op (by rfl) (fun K hK => ?_)
          go_simp
          refine hK _ _ (fun hlt => Mix.cl ((Step.refl.alloc _).drew)) ?_
          clear hK K
          refine Mxt.wpTL_op (by rfl) (fun K hK => ?_)
          go_simp
          refine hK _ _ (fun hlt => Mix.cl (((Step.refl.alloc _).alloc _).drew)) ?_
          clear hK K
          have b1 : Blk (((w3.alloc (.cells #[.slice none 0 0, .slice none 0 0, .slice none 0 0, .slice none 0 0, .slice none 0 0, .slice none 0 0, .slice none 0 0, .int .i64 0, .slice none 0 0, .slice none 0 0, .slice none 0 0, .bool false, .int .u32 0, .int .u32 0, .int .u32 0, .int .u32 0, .slice none 0 0] 53)).alloc (.cells #[.slice none 0 0, .slice none 0 0, .slice none 0 0, .slice none 0 0, .slice none 0 0, .slice none 0 0, .slice none 0 0, .int .i64 0, .slice none 0 0, .slice none 0 0, .slice none 0 0, .bool false, .int .u32 0, .int .u32 0, .int .u32 0, .int .u32 0, .slice none 0 0] 53)).drew) N 53 #[.slice none 0 0, .slice none 0 0, .slice none 0 0, .slice none 0 0, .slice none 0 0, .slice none 0 0, .slice none 0 0, .int .i64 0, .slice none 0 0, .slice none 0 0, .slice none 0 0, .bool false, .int .u32 0, .int .u32 0, .int .u32 0, .int .u32 0, .slice none 0 0] := ((hN ▸ Blk.new w3 53 #[.slice none 0 0, .slice none 0 0, .slice none 0 0, .slice none 0 0, .slice none 0 0, .slice none 0 0, .slice none 0 0, .int .i64 0, .slice none 0 0, .slice none 0 0, .slice none 0 0, .bool false, .int .u32 0, .int .u32 0, .int .u32 0, .int .u32 0, .slice none 0 0] : Blk (w3.alloc (.cells #[.slice none 0 0, .slice none 0 0, .slice none 0 0, .slice none 0 0, .slice none 0 0, .slice none 0 0, .slice none 0 0, .int .i64 0, .slice none 0 0, .slice none 0 0, .slice none 0 0, .bool false, .int .u32 0, .int .u32 0, .int .u32 0, .int .u32 0, .slice none 0 0] 53)) N 53 #[.slice none 0 0, .slice none 0 0, .slice none 0 0, .slice none 0 0, .slice none 0 0, .slice none 0 0, .slice none 0 0, .int .i64 0, .slice none 0 0, .slice none 0 0, .slice none 0 0, .bool false, .int .u32 0, .int .u32 0, .int .u32 0, .int .u32 0, .slice none 0 0]).alloc _).drew
          have b2 : Blk (((w3.alloc (.cells #[.slice none 0 0, .slice none 0 0, .slice none 0 0, .slice none 0 0, .slice none 0 0, .slice none 0 0, .slice none 0 0, .int .i64 0, .slice none 0 0, .slice none 0 0, .slice none 0 0, .bool false, .int .u32 0, .int .u32 0, .int .u32 0, .int .u32 0, .slice none 0 0] 53)).alloc (.cells #[.slice none 0 0, .slice none 0 0, .slice none 0 0, .slice none 0 0, .slice none 0 0, .slice none 0 0, .slice none 0 0, .int .i64 0, .slice none 0 0, .slice none 0 0, .slice none 0 0, .bool false, .int .u32 0, .int .u32 0, .int .u32 0, .int .u32 0, .slice none 0 0] 53)).drew) (N + 1) 53 #[.slice none 0 0, .slice none 0 0, .slice none 0 0, .slice none 0 0, .slice none 0 0, .slice none 0 0, .slice none 0 0, .int .i64 0, .slice none 0 0, .slice none 0 0, .slice none 0 0, .bool false, .int .u32 0, .int .u32 0, .int .u32 0, .int .u32 0, .slice none 0 0] := by
            have := Blk.new (w3.alloc (.cells #[.slice none 0 0, .slice none 0 0, .slice none 0 0, .slice none 0 0, .slice none 0 0, .slice none 0 0, .slice none 0 0, .int .i64 0, .slice none 0 0, .slice none 0 0, .slice none 0 0, .bool false, .int .u32 0, .int .u32 0, .int .u32 0, .int .u32 0, .slice none 0 0] 53)) 53 #[.slice none 0 0, .slice none 0 0, .slice none 0 0, .slice none 0 0, .slice none 0 0, .slice none 0 0, .slice none 0 0, .int .i64 0, .slice none 0 0, .slice none 0 0, .slice none 0 0, .bool false, .int .u32 0, .int .u32 0, .int .u32 0, .int .u32 0, .slice none 0 0]
            simp only [World.size_alloc] at this
            exact Blk.drew (hN ▸ this)
          have st : Step (fun _ => False) w3 (((w3.alloc (.cells #[.slice none 0 0, .slice none 0 0, .slice none 0 0, .slice none 0 0, .slice none 0 0, .slice none 0 0, .slice none 0 0, .int .i64 0, .slice none 0 0, .slice none 0 0, .slice none 0 0, .bool false, .int .u32 0, .int .u32 0, .int .u32 0, .int .u32 0, .slice none 0 0] 53)).alloc (.cells #[.slice none 0 0, .slice none 0 0, .slice none 0 0, .slice none 0 0, .slice none 0 0, .slice none 0 0, .slice none 0 0, .int .i64 0, .slice none 0 0, .slice none 0 0, .slice none 0 0, .bool false, .int .u32 0, .int .u32 0, .int .u32 0, .int .u32 0, .slice none 0 0] 53)).drew) := ((Step.refl.alloc _).alloc _).drew
          have hge : w3.heap.size ≤ N := Nat.le_of_eq hN
          have hge1 : w3.heap.size ≤ N + 1 := by omega
          generalize ((w3.alloc (.cells #[.slice none 0 0, .slice none 0 0, .slice none 0 0, .slice none 0 0, .slice none 0 0, .slice none 0 0, .slice none 0 0, .int .i64 0, .slice none 0 0, .slice none 0 0, .slice none 0 0, .bool false, .int .u32 0, .int .u32 0, .int .u32 0, .int .u32 0, .slice none 0 0] 53)).alloc (.cells #[.slice none 0 0, .slice none 0 0, .slice none 0 0, .slice none 0 0, .slice none 0 0, .slice none 0 0, .slice none 0 0, .int .i64 0, .slice none 0 0, .slice none 0 0, .slice none 0 0, .bool false, .int .u32 0, .int .u32 0, .int .u32 0, .int .u32 0, .slice none 0 0] 53)).drew = V at *
          refine Mxt.wpTL_op (by rfl) (fun K hK => ?_)
          refine step_st_mod (g := N) (cs := C) (old := #[.slice none 0 0, .slice none 0 0, .slice none 0 0, .slice none 0 0, .slice none 0 0, .slice none 0 0, .slice none 0 0, .int .i64 0, .slice none 0 0, .slice none 0 0, .slice none 0 0, .bool false, .int .u32 0, .int .u32 0, .int .u32 0, .int .u32 0, .slice none 0 0]) (by rfl) _ _ (by rfl) rfl (by rfl) (by rfl) b1 rfl H17.out H1.out ?_
          refine hK _ _ (fun hlt => Mix.cl (st.setRow (.inr hge) C)) ?_
          clear hK K
          refine Mxt.wpTL_op (by rfl) (fun K hK => ?_)
          refine step_st_mod (g := N + 1) (cs := C) (old := #[.slice none 0 0, .slice none 0 0, .slice none 0 0, .slice none 0 0, .slice none 0 0, .slice none 0 0, .slice none 0 0, .int .i64 0, .slice none 0 0, .slice none 0 0, .slice none 0 0, .bool false, .int .u32 0, .int .u32 0, .int .u32 0, .int .u32 0, .slice none 0 0]) (by rfl) _ _ (by rfl) rfl (by rfl) (by rfl) ((b2).step (F := fun k => k = N) (Step.setRow (F := fun k => k = N) Step.refl (g := N) (.inl rfl) C) (by omega)) rfl H17.out H1.out ?_
          refine hK _ _ (fun hlt => absurd hlt (by decide)) ?_
          clear hK K
          refine Mxt.wpTL_leaf ?_
          go_wp2_with fail
          go_meet
          exact ⟨N, N + 1, rfl, rfl, by omega, by omega, by omega, Lib.hid (((b1).row C).step (F := fun k => k = N + 1) (Step.setRow (F := fun k => k = N + 1) Step.refl (g := N + 1) (.inl rfl) C) (by omega)), Lib.hid (((b2).step (F := fun k => k = N) (Step.setRow (F := fun k => k = N) Step.refl (g := N) (.inl rfl) C) (by omega)).row C), Lib.hid ((st.setRow (.inr hge) C).setRow (.inr hge1) C)⟩
        · refine Mxt.wpTL_op (by rfl) (fun K hK => ?_)
          go_simp
          refine hK _ _ (fun hlt => Mix.cl ((Step.refl.alloc _).drew)) ?_
          clear hK K
          refine Mxt.wpTL_op (by rfl) (fun K hK => ?_)
          go_simp
          refine hK _ _ (fun hlt => Mix.cl (((Step.refl.alloc _).alloc _).drew)) ?_
          clear hK K
          have b1 : Blk (((w3.alloc (.cells #[.slice none 0 0, .slice none 0 0, .slice none 0 0, .slice none 0 0, .slice none 0 0, .slice none 0 0, .slice none 0 0, .int .i64 0, .slice none 0 0, .slice none 0 0, .slice none 0 0, .bool false, .int .u32 0, .int .u32 0, .int .u32 0, .int .u32 0, .slice none 0 0] 53)).alloc (.cells #[.slice none 0 0, .slice none 0 0, .slice none 0 0, .slice none 0 0, .slice none 0 0, .slice none 0 0, .slice none 0 0, .int .i64 0, .slice none 0 0, .slice none 0 0, .slice none 0 0, .bool false, .int .u32 0, .int .u32 0, .int .u32 0, .int .u32 0, .slice none 0 0] 53)).drew) N 53 #[.slice none 0 0, .slice none 0 0, .slice none 0 0, .slice none 0 0, .slice none 0 0, .slice none 0 0, .slice none 0 0, .int .i64 0, .slice none 0 0, .slice none 0 0, .slice none 0 0, .bool false, .int .u32 0, .int .u32 0, .int .u32 0, .int .u32 0, .slice none 0 0] := ((hN ▸ Blk.new w3 53 #[.slice none 0 0, .slice none 0 0, .slice none 0 0, .slice none 0 0, .slice none 0 0, .slice none 0 0, .slice none 0 0, .int .i64 0, .slice none 0 0, .slice none 0 0, .slice none 0 0, .bool false, .int .u32 0, .int .u32 0, .int .u32 0, .int .u32 0, .slice none 0 0] : Blk (w3.alloc (.cells #[.slice none 0 0, .slice none 0 0, .slice none 0 0, .slice none 0 0, .slice none 0 0, .slice none 0 0, .slice none 0 0, .int .i64 0, .slice none 0 0, .slice none 0 0, .slice none 0 0, .bool false, .int .u32 0, .int .u32 0, .int .u32 0, .int .u32 0, .slice none 0 0] 53)) N 53 #[.slice none 0 0, .slice none 0 0, .slice none 0 0, .slice none 0 0, .slice none 0 0, .slice none 0 0, .slice none 0 0, .int .i64 0, .slice none 0 0, .slice none 0 0, .slice none 0 0, .bool false, .int .u32 0, .int .u32 0, .int .u32 0, .int .u32 0, .slice none 0 0]).alloc _).drew
          have b2 : Blk (((w3.alloc (.cells #[.slice none 0 0, .slice none 0 0, .slice none 0 0, .slice none 0 0, .slice none 0 0, .slice none 0 0, .slice none 0 0, .int .i64 0, .slice none 0 0, .slice none 0 0, .slice none 0 0, .bool false, .int .u32 0, .int .u32 0, .int .u32 0, .int .u32 0, .slice none 0 0] 53)).alloc (.cells #[.slice none 0 0, .slice none 0 0, .slice none 0 0, .slice none 0 0, .slice none 0 0, .slice none 0 0, .slice none 0 0, .int .i64 0, .slice none 0 0, .slice none 0 0, .slice none 0 0, .bool false, .int .u32 0, .int .u32 0, .int .u32 0, .int .u32 0, .slice none 0 0] 53)).drew) (N + 1) 53 #[.slice none 0 0, .slice none 0 0, .slice none 0 0, .slice none 0 0, .slice none 0 0, .slice none 0 0, .slice none 0 0, .int .i64 0, .slice none 0 0, .slice none 0 0, .slice none 0 0, .bool false, .int .u32 0, .int .u32 0, .int .u32 0, .int .u32 0, .slice none 0 0] := by
            have := Blk.new (w3.alloc (.cells #[.slice none 0 0, .slice none 0 0, .slice none 0 0, .slice none 0 0, .slice none 0 0, .slice none 0 0, .slice none 0 0, .int .i64 0, .slice none 0 0, .slice none 0 0, .slice none 0 0, .bool false, .int .u32 0, .int .u32 0, .int .u32 0, .int .u32 0, .slice none 0 0] 53)) 53 #[.slice none 0 0, .slice none 0 0, .slice none 0 0, .slice none 0 0, .slice none 0 0, .slice none 0 0, .slice none 0 0, .int .i64 0, .slice none 0 0, .slice none 0 0, .slice none 0 0, .bool false, .int .u32 0, .int .u32 0, .int .u32 0, .int .u32 0, .slice none 0 0]
            simp only [World.size_alloc] at this
            exact Blk.drew (hN ▸ this)
          have st : Step (fun _ => False) w3 (((w3.alloc (.cells #[.slice none 0 0, .slice none 0 0, .slice none 0 0, .slice none 0 0, .slice none 0 0, .slice none 0 0, .slice none 0 0, .int .i64 0, .slice none 0 0, .slice none 0 0, .slice none 0 0, .bool false, .int .u32 0, .int .u32 0, .int .u32 0, .int .u32 0, .slice none 0 0] 53)).alloc (.cells #[.slice none 0 0, .slice none 0 0, .slice none 0 0, .slice none 0 0, .slice none 0 0, .slice none 0 0, .slice none 0 0, .int .i64 0, .slice none 0 0, .slice none 0 0, .slice none 0 0, .bool false, .int .u32 0, .int .u32 0, .int .u32 0, .int .u32 0, .slice none 0 0] 53)).drew) := ((Step.refl.alloc _).alloc _).drew
          have hge : w3.heap.size ≤ N := Nat.le_of_eq hN
          have hge1 : w3.heap.size ≤ N + 1 := by omega
          generalize ((w3.alloc (.cells #[.slice none 0 0, .slice none 0 0, .slice none 0 0, .slice none 0 0, .slice none 0 0, .slice none 0 0, .slice none 0 0, .int .i64 0, .slice none 0 0, .slice none 0 0, .slice none 0 0, .bool false, .int .u32 0, .int .u32 0, .int .u32 0, .int .u32 0, .slice none 0 0] 53)).alloc (.cells #[.slice none 0 0, .slice none 0 0, .slice none 0 0, .slice none 0 0, .slice none 0 0, .slice none 0 0, .slice none 0 0, .int .i64 0, .slice none 0 0, .slice none 0 0, .slice none 0 0, .bool false, .int .u32 0, .int .u32 0, .int .u32 0, .int .u32 0, .slice none 0 0] 53)).drew = V at *
          refine Mxt.wpTL_op (by rfl) (fun K hK => ?_)
          refine step_st_mod (g := N + 1) (cs := C) (old := #[.slice none 0 0, .slice none 0 0, .slice none 0 0, .slice none 0 0, .slice none 0 0, .slice none 0 0, .slice none 0 0, .int .i64 0, .slice none 0 0, .slice none 0 0, .slice none 0 0, .bool false, .int .u32 0, .int .u32 0, .int .u32 0, .int .u32 0, .slice none 0 0]) (by rfl) _ _ (by rfl) rfl (by rfl) (by rfl) b2 rfl H17.out H1.out ?_
          refine hK _ _ (fun hlt => Mix.cl (st.setRow (.inr hge1) C)) ?_
          clear hK K
          refine Mxt.wpTL_op (by rfl) (fun K hK => ?_)
          refine step_st_mod (g := N) (cs := C) (old := #[.slice none 0 0, .slice none 0 0, .slice none 0 0, .slice none 0 0, .slice none 0 0, .slice none 0 0, .slice none 0 0, .int .i64 0, .slice none 0 0, .slice none 0 0, .slice none 0 0, .bool false, .int .u32 0, .int .u32 0, .int .u32 0, .int .u32 0, .slice none 0 0]) (by rfl) _ _ (by rfl) rfl (by rfl) (by rfl) ((b1).step (F := fun k => k = N + 1) (Step.setRow (F := fun k => k = N + 1) Step.refl (g := N + 1) (.inl rfl) C) (by omega)) rfl H17.out H1.out ?_
          refine hK _ _ (fun hlt => absurd hlt (by decide)) ?_
          clear hK K
          refine Mxt.wpTL_leaf ?_
          go_wp2_with fail
          go_meet
          exact ⟨N + 1, N, rfl, rfl, by omega, by omega, by omega, Lib.hid (((b2).row C).step (F := fun k => k = N) (Step.setRow (F := fun k => k = N) Step.refl (g := N) (.inl rfl) C) (by omega)), Lib.hid (((b1).step (F := fun k => k = N + 1) (Step.setRow (F := fun k => k = N + 1) Step.refl (g := N + 1) (.inl rfl) C) (by omega)).row C), Lib.hid ((st.setRow (.inr hge1) C).setRow (.inr hge) C)⟩
      case rest =>
        obtain ⟨B5, B6, rfl, rfl, n56, hg5, hg6, HB5, HB6, T4⟩ := hcut
        have S1a := S1
        have BXa := B0.out.lt
        replace B0 := Lib.hid (B0.out.step T4.out id)
        replace HM := Lib.hid (HM.out.step T4.out (fun _ _ => id))
        replace S1 := Lib.hid (S1.out.trans T4.out)
        generalize wc = w4 at *
        have hgeB5 : w.heap.size ≤ B5 := by have := S1a.out.size; omega
        have hgeB6 : w.heap.size ≤ B6 := by have := S1a.out.size; omega
        have lB5 : X < B5 := by have := BXa; omega
        have nB5 : ¬ X = B5 := by omega
        have lB6 : X < B6 := by have := BXa; omega
        have nB6 : ¬ X = B6 := by omega
        clear T4 hg5 hg6 hN S1a BXa
        have e7 : Step (fun _ => False) w4 (w4.alloc (.cells #[.string ⟨#[101, 110, 118]⟩, .string ⟨#[109, 101, 109, 111, 114, 121]⟩, .int .u8 2, .int .u32 0, .int .u32 0, .int .u32 0, .bool false, .int .u8 0, .bool false] 64)) := Step.refl.alloc _
        have HB7 := Lib.hid (Blk.new w4 64 #[.string ⟨#[101, 110, 118]⟩, .string ⟨#[109, 101, 109, 111, 114, 121]⟩, .int .u8 2, .int .u32 0, .int .u32 0, .int .u32 0, .bool false, .int .u8 0, .bool false])
        replace B0 := Lib.hid (B0.out.step e7 id)
        replace HM := Lib.hid (HM.out.step e7 (fun _ _ => id))
        replace S1 := Lib.hid (S1.out.trans e7)
        replace HB5 := Lib.hid (HB5.out.step e7 id)
        replace HB6 := Lib.hid (HB6.out.step e7 id)
        clear e7
        go_upto_region 7 with fail
        generalize w4.alloc (.cells #[.string ⟨#[101, 110, 118]⟩, .string ⟨#[109, 101, 109, 111, 114, 121]⟩, .int .u8 2, .int .u32 0, .int .u32 0, .int .u32 0, .bool false, .int .u8 0, .bool false] 64) = w5 at *
        generalize w4.heap.size = B7 at *
        have HC1 : Hid (C[1]? = some (.slice a.A1 M.imports.length a.c1)) := by rw [hC.out]; rfl
        have c1 := (B0.out.cell 1).trans HC1.out
        have d1 := cls_cell (F := fun _ => False) c1 id
        have y0 := HB7.out.cell 0
        have y1 := HB7.out.cell 1
        have y2 := HB7.out.cell 2
        have y3 := HB7.out.cell 3
        have y4 := HB7.out.cell 4
        have y5 := HB7.out.cell 5
        have y6 := HB7.out.cell 6
        have y7 := HB7.out.cell 7
        have y8 := HB7.out.cell 8
        simp at y0 y1 y2 y3 y4 y5 y6 y7 y8
        have g0 := cls_cell (F := fun _ => False) y0 id
        have g1 := cls_cell (F := fun _ => False) y1 id
        have g2 := cls_cell (F := fun _ => False) y2 id
        have g3 := cls_cell (F := fun _ => False) y3 id
        have g4 := cls_cell (F := fun _ => False) y4 id
        have g5 := cls_cell (F := fun _ => False) y5 id
        have g6 := cls_cell (F := fun _ => False) y6 id
        have g7 := cls_cell (F := fun _ => False) y7 id
        have g8 := cls_cell (F := fun _ => False) y8 id
        clear c1 y0 y1 y2 y3 y4 y5 y6 y7 y8
        have hsrc := HM.out.imports
        have hone1 := ims_one M.imports
        have hone2 : ∀ u ∈ (#[.string ⟨#[101, 110, 118]⟩, .string ⟨#[109, 101, 109, 111, 114, 121]⟩, .int .u8 2, .int .u32 0, .int .u32 0, .int .u32 0, .bool false, .int .u8 0, .bool false, .string ⟨#[101, 110, 118]⟩, .string ⟨#[109, 101, 109, 111, 114, 121]⟩, .int .u8 2, .int .u32 0, .int .u32 0, .int .u32 0, .bool false, .int .u8 0, .bool false] : Array Value).toList, u.oneCell' = true := by simp [Value.oneCell']
        have hil : M.imports.length ≤ 40 := by have := HSL.out.2.1; omega
        have hm1 : 0 + M.imports.length ≤ maxLen := by unfold maxLen; omega
        have hm2 : M.imports.length + 2 ≤ maxLen := by unfold maxLen; omega
        go_cut [] (fun wq => ∃ D c', Hid (Blk wq B6 53 (C.setIfInBounds 1 (.slice D (M.imports.length + 2) c'))) ∧ Hid (wq.ownsRow w5.heap.size 64 9 (.slice D (M.imports.length + 2) c') (M.imports.length + 2) ([] ++ ims M.imports ++ (#[.string ⟨#[101, 110, 118]⟩, .string ⟨#[109, 101, 109, 111, 114, 121]⟩, .int .u8 2, .int .u32 0, .int .u32 0, .int .u32 0, .bool false, .int .u8 0, .bool false, .string ⟨#[101, 110, 118]⟩, .string ⟨#[109, 101, 109, 111, 114, 121]⟩, .int .u8 2, .int .u32 0, .int .u32 0, .int .u32 0, .bool false, .int .u8 0, .bool false] : Array Value).toList)) ∧ Hid (Step (fun k => k = B6) w5 wq))
        case first =>
          have hz1 : (w5.alloc (.cells #[.string ⟨#[101, 110, 118]⟩, .string ⟨#[109, 101, 109, 111, 114, 121]⟩, .int .u8 2, .int .u32 0, .int .u32 0, .int .u32 0, .bool false, .int .u8 0, .bool false, .string ⟨#[101, 110, 118]⟩, .string ⟨#[109, 101, 109, 111, 114, 121]⟩, .int .u8 2, .int .u32 0, .int .u32 0, .int .u32 0, .bool false, .int .u8 0, .bool false] 64)).heap.size = w5.heap.size + 1 := by simp
          have hz0 : (w5.alloc (.cells #[] 64)).heap.size = w5.heap.size + 1 := by simp
          have hfA : (w5.alloc (.cells #[] 64)).drew.ownsRow w5.heap.size 64 9 (.slice (some ⟨w5.heap.size, 0, none⟩) 0 0) 0 [] := own_drew (own_fresh 9 (Nat.le_refl _))
          have hrA := hsrc.step (F := fun _ => False) (Step.drew (Step.alloc Step.refl (.cells #[] 64))) (fun _ _ => id)
          have hfB : ((w5.alloc (.cells #[] 64)).alloc (.cells #[.string ⟨#[101, 110, 118]⟩, .string ⟨#[109, 101, 109, 111, 114, 121]⟩, .int .u8 2, .int .u32 0, .int .u32 0, .int .u32 0, .bool false, .int .u8 0, .bool false, .string ⟨#[101, 110, 118]⟩, .string ⟨#[109, 101, 109, 111, 114, 121]⟩, .int .u8 2, .int .u32 0, .int .u32 0, .int .u32 0, .bool false, .int .u8 0, .bool false] 64)).drew.ownsRow w5.heap.size 64 9 (.slice (some ⟨w5.heap.size, 0, none⟩) 0 0) 0 [] := own_drew ((own_fresh 9 (Nat.le_refl _)).alloc _)
          have hrB := hsrc.step (F := fun _ => False) (Step.drew (Step.alloc (Step.alloc Step.refl (.cells #[] 64)) (.cells #[.string ⟨#[101, 110, 118]⟩, .string ⟨#[109, 101, 109, 111, 114, 121]⟩, .int .u8 2, .int .u32 0, .int .u32 0, .int .u32 0, .bool false, .int .u8 0, .bool false, .string ⟨#[101, 110, 118]⟩, .string ⟨#[109, 101, 109, 111, 114, 121]⟩, .int .u8 2, .int .u32 0, .int .u32 0, .int .u32 0, .bool false, .int .u8 0, .bool false] 64))) (fun _ _ => id)
          have hxB := (reads_new (w5.alloc (.cells #[] 64)) #[.string ⟨#[101, 110, 118]⟩, .string ⟨#[109, 101, 109, 111, 114, 121]⟩, .int .u8 2, .int .u32 0, .int .u32 0, .int .u32 0, .bool false, .int .u8 0, .bool false, .string ⟨#[101, 110, 118]⟩, .string ⟨#[109, 101, 109, 111, 114, 121]⟩, .int .u8 2, .int .u32 0, .int .u32 0, .int .u32 0, .bool false, .int .u8 0, .bool false] 64 9 2 rfl).drew
          have hfC : ((w5.alloc (.cells #[.string ⟨#[101, 110, 118]⟩, .string ⟨#[109, 101, 109, 111, 114, 121]⟩, .int .u8 2, .int .u32 0, .int .u32 0, .int .u32 0, .bool false, .int .u8 0, .bool false, .string ⟨#[101, 110, 118]⟩, .string ⟨#[109, 101, 109, 111, 114, 121]⟩, .int .u8 2, .int .u32 0, .int .u32 0, .int .u32 0, .bool false, .int .u8 0, .bool false] 64)).alloc (.cells #[] 64)).drew.ownsRow w5.heap.size 64 9 (.slice (some ⟨w5.heap.size + 1, 0, none⟩) 0 0) 0 [] := by
            have := own_drew (own_fresh (w := w5.alloc (.cells #[.string ⟨#[101, 110, 118]⟩, .string ⟨#[109, 101, 109, 111, 114, 121]⟩, .int .u8 2, .int .u32 0, .int .u32 0, .int .u32 0, .bool false, .int .u8 0, .bool false, .string ⟨#[101, 110, 118]⟩, .string ⟨#[109, 101, 109, 111, 114, 121]⟩, .int .u8 2, .int .u32 0, .int .u32 0, .int .u32 0, .bool false, .int .u8 0, .bool false] 64)) (e := 64) (base := w5.heap.size) 9 (by omega))
            rwa [hz1] at this
          have hrC := hsrc.step (F := fun _ => False) (Step.drew (Step.alloc (Step.alloc Step.refl (.cells #[.string ⟨#[101, 110, 118]⟩, .string ⟨#[109, 101, 109, 111, 114, 121]⟩, .int .u8 2, .int .u32 0, .int .u32 0, .int .u32 0, .bool false, .int .u8 0, .bool false, .string ⟨#[101, 110, 118]⟩, .string ⟨#[109, 101, 109, 111, 114, 121]⟩, .int .u8 2, .int .u32 0, .int .u32 0, .int .u32 0, .bool false, .int .u8 0, .bool false] 64)) (.cells #[] 64))) (fun _ _ => id)
          have hxC := ((reads_new w5 #[.string ⟨#[101, 110, 118]⟩, .string ⟨#[109, 101, 109, 111, 114, 121]⟩, .int .u8 2, .int .u32 0, .int .u32 0, .int .u32 0, .bool false, .int .u8 0, .bool false, .string ⟨#[101, 110, 118]⟩, .string ⟨#[109, 101, 109, 111, 114, 121]⟩, .int .u8 2, .int .u32 0, .int .u32 0, .int .u32 0, .bool false, .int .u8 0, .bool false] 64 9 2 rfl).step (F := fun _ => False) (Step.alloc Step.refl (.cells #[] 64)) (fun _ _ => id)).drew
          rw [hz0] at hxB
          refine Mxt.wp_region_tree [0, 3, 6, 7, 9] [0, 3, 6, 7] (.fork (.op 0 (.reads [1, 2] (.fork (.op 3 (.reads [4, 5] (.op 6 (.op 7 (.reads [8] (.op 9 .leaf)))))) (.reads [4, 5] (.op 6 (.op 3 (.op 7 (.reads [8] (.op 9 .leaf))))))))) (.reads [4, 5] (.op 6 (.reads [1, 2] (.op 0 (.op 3 (.op 7 (.reads [8] (.op 9 .leaf))))))))) (Step (fun _ => False) w5) (by kernel_rfl) (by kernel_rfl) Step.refl.drew (fun hcls => ?_)
          refine Mxt.wpTL_fork ?_ ?_
          · refine Mxt.wpTL_op (by rfl) (fun K hK => ?_)
            go_simp
            refine hK _ _ (fun hlt => Mix.cl (Step.drew (Step.alloc Step.refl _))) ?_
            clear hK K
            refine Mxt.wpTL_reads ?_
            simp only [List.flatMap_cons, List.flatMap_nil, List.getElem?_cons_succ, List.getElem?_cons_zero, Option.toList_some, List.cons_append, List.nil_append]
            repeat (go_big_quiet_step (fail))
            refine wpQuiet_nil ?_
            refine Mxt.wpTL_fork ?_ ?_
            · refine Mxt.wpTL_op (by rfl) (fun K hK => ?_)
              refine step_append_new (w0 := w5) (by rfl) _ _ (by rfl) E_ims (Step.drew (Step.alloc Step.refl _)) (by rfl) (hfA) (by rfl) (hrA) hone1 hm1 (by omega) ?_
              intro D1 c1 W1 hown1 hS1 hgrow1 hat1
              refine hK _ _ (fun hlt => Mix.cl hS1) ?_
              clear hK K
              simp only [Act.put, List.setIfInBounds_toArray, List.set_cons_succ, List.set_cons_zero, Nat.zero_add]
              simp only [Nat.zero_add] at hown1
              refine Mxt.wpTL_reads ?_
              simp only [List.flatMap_cons, List.flatMap_nil, List.getElem?_cons_succ, List.getElem?_cons_zero, Option.toList_some, List.cons_append, List.nil_append]
              repeat (go_big_quiet_step (fail))
              refine wpQuiet_nil ?_
              refine Mxt.wpTL_op (by rfl) (fun K hK => ?_)
              go_simp
              refine hK _ _ (fun hlt => Mix.cl (Step.alloc hS1 _)) ?_
              clear hK K
              refine Mxt.wpTL_op (by rfl) (fun K hK => ?_)
              refine step_append_new (w0 := w5) (by rfl) _ _ (by rfl) E_ims (Step.alloc hS1 _) (by rfl) (hown1.alloc _) (by rfl) (reads_new W1 #[.string ⟨#[101, 110, 118]⟩, .string ⟨#[109, 101, 109, 111, 114, 121]⟩, .int .u8 2, .int .u32 0, .int .u32 0, .int .u32 0, .bool false, .int .u8 0, .bool false, .string ⟨#[101, 110, 118]⟩, .string ⟨#[109, 101, 109, 111, 114, 121]⟩, .int .u8 2, .int .u32 0, .int .u32 0, .int .u32 0, .bool false, .int .u8 0, .bool false] 64 9 2 rfl) hone2 hm2 (by omega) ?_
              intro D2 c2 W2 hown2 hS2 hgrow2 hat2
              refine hK _ _ (fun hlt => Mix.cl hS2) ?_
              clear hK K
              simp only [Act.put, List.setIfInBounds_toArray, List.set_cons_succ, List.set_cons_zero, Nat.zero_add]
              refine Mxt.wpTL_reads ?_
              simp only [List.flatMap_cons, List.flatMap_nil, List.getElem?_cons_succ, List.getElem?_cons_zero, Option.toList_some, List.cons_append, List.nil_append]
              repeat (go_big_quiet_step (fail))
              refine wpQuiet_nil ?_
              have c6 := (HB6.out.step hS2 id).cell 1
              rw [HC1.out] at c6
              have f6 := (HB6.out.step hS2 id).frozen 1
              refine Mxt.wpTL_op (by rfl) (fun K hK => ?_)
              go_simp
              refine hK _ _ (fun hlt => absurd hlt (by decide)) ?_
              clear hK K
              refine Mxt.wpTL_leaf ?_
              go_wp2_with fail
              go_meet
              exact ⟨_, _, Lib.hid ((HB6.out.step hS2 id).set_ 1 _), Lib.hid (own_set hown2 (by intro e; have h9 := own_ge hown2 _ e; have h8 := HB6.out.lt; simp at h9; omega) _), Lib.hid ((hS2.mono (fun _ _ h => h.elim) : Step (fun k => k = B6) w5 W2).setCell (p := ⟨B6, 1, none⟩) (.inl rfl) _)⟩
            · refine Mxt.wpTL_reads ?_
              simp only [List.flatMap_cons, List.flatMap_nil, List.getElem?_cons_succ, List.getElem?_cons_zero, Option.toList_some, List.cons_append, List.nil_append]
              repeat (go_big_quiet_step (fail))
              refine wpQuiet_nil ?_
              refine Mxt.wpTL_op (by rfl) (fun K hK => ?_)
              go_simp
              refine hK _ _ (fun hlt => Mix.cl (Step.drew (Step.alloc (Step.alloc Step.refl _) _))) ?_
              clear hK K
              refine Mxt.wpTL_op (by rfl) (fun K hK => ?_)
              refine step_append_new (w0 := w5) (by rfl) _ _ (by rfl) E_ims (Step.drew (Step.alloc (Step.alloc Step.refl _) _)) (by rfl) (hfB) (by rfl) (hrB) hone1 hm1 (by omega) ?_
              intro D1 c1 W1 hown1 hS1 hgrow1 hat1
              refine hK _ _ (fun hlt => Mix.cl hS1) ?_
              clear hK K
              simp only [Act.put, List.setIfInBounds_toArray, List.set_cons_succ, List.set_cons_zero, Nat.zero_add]
              simp only [Nat.zero_add] at hown1
              have hx1 := hxB.step (Step.grown (F := fun k => blkOf (some (⟨w5.heap.size, 0, none⟩ : Addr)) = some k) Step.refl hgrow1 (fun k hk => .inl hk)) (fun k hk e => by simp [blkOf] at e; omega)
              refine Mxt.wpTL_op (by rfl) (fun K hK => ?_)
              refine step_append_new (w0 := w5) (by rfl) _ _ (by rfl) E_ims (hS1) (by rfl) (hown1) (by rfl) (hx1) hone2 hm2 (by omega) ?_
              intro D2 c2 W2 hown2 hS2 hgrow2 hat2
              refine hK _ _ (fun hlt => Mix.cl hS2) ?_
              clear hK K
              simp only [Act.put, List.setIfInBounds_toArray, List.set_cons_succ, List.set_cons_zero, Nat.zero_add]
              refine Mxt.wpTL_reads ?_
              simp only [List.flatMap_cons, List.flatMap_nil, List.getElem?_cons_succ, List.getElem?_cons_zero, Option.toList_some, List.cons_append, List.nil_append]
              repeat (go_big_quiet_step (fail))
              refine wpQuiet_nil ?_
              have c6 := (HB6.out.step hS2 id).cell 1
              rw [HC1.out] at c6
              have f6 := (HB6.out.step hS2 id).frozen 1
              refine Mxt.wpTL_op (by rfl) (fun K hK => ?_)
              go_simp
              refine hK _ _ (fun hlt => absurd hlt (by decide)) ?_
              clear hK K
              refine Mxt.wpTL_leaf ?_
              go_wp2_with fail
              go_meet
              exact ⟨_, _, Lib.hid ((HB6.out.step hS2 id).set_ 1 _), Lib.hid (own_set hown2 (by intro e; have h9 := own_ge hown2 _ e; have h8 := HB6.out.lt; simp at h9; omega) _), Lib.hid ((hS2.mono (fun _ _ h => h.elim) : Step (fun k => k = B6) w5 W2).setCell (p := ⟨B6, 1, none⟩) (.inl rfl) _)⟩
          · refine Mxt.wpTL_reads ?_
            simp only [List.flatMap_cons, List.flatMap_nil, List.getElem?_cons_succ, List.getElem?_cons_zero, Option.toList_some, List.cons_append, List.nil_append]
            repeat (go_big_quiet_step (fail))
            refine wpQuiet_nil ?_
            refine Mxt.wpTL_op (by rfl) (fun K hK => ?_)
            go_simp
            refine hK _ _ (fun hlt => Mix.cl (Step.drew (Step.alloc Step.refl _))) ?_
            clear hK K
            refine Mxt.wpTL_reads ?_
            simp only [List.flatMap_cons, List.flatMap_nil, List.getElem?_cons_succ, List.getElem?_cons_zero, Option.toList_some, List.cons_append, List.nil_append]
            repeat (go_big_quiet_step (fail))
            refine wpQuiet_nil ?_
            refine Mxt.wpTL_op (by rfl) (fun K hK => ?_)
            go_simp
            refine hK _ _ (fun hlt => Mix.cl (Step.drew (Step.alloc (Step.alloc Step.refl _) _))) ?_
            clear hK K
            refine Mxt.wpTL_op (by rfl) (fun K hK => ?_)
            refine step_append_new (w0 := w5) (by rfl) _ _ (by rfl) E_ims (Step.drew (Step.alloc (Step.alloc Step.refl _) _)) (by rfl) (hfC) (by rfl) (hrC) hone1 hm1 (by omega) ?_
            intro D1 c1 W1 hown1 hS1 hgrow1 hat1
            refine hK _ _ (fun hlt => Mix.cl hS1) ?_
            clear hK K
            simp only [Act.put, List.setIfInBounds_toArray, List.set_cons_succ, List.set_cons_zero, Nat.zero_add]
            simp only [Nat.zero_add] at hown1
            have hx1 := hxC.step (Step.grown (F := fun k => blkOf (some (⟨w5.heap.size + 1, 0, none⟩ : Addr)) = some k) Step.refl hgrow1 (fun k hk => .inl hk)) (fun k hk e => by simp [blkOf] at e; omega)
            refine Mxt.wpTL_op (by rfl) (fun K hK => ?_)
            refine step_append_new (w0 := w5) (by rfl) _ _ (by rfl) E_ims (hS1) (by rfl) (hown1) (by rfl) (hx1) hone2 hm2 (by omega) ?_
            intro D2 c2 W2 hown2 hS2 hgrow2 hat2
            refine hK _ _ (fun hlt => Mix.cl hS2) ?_
            clear hK K
            simp only [Act.put, List.setIfInBounds_toArray, List.set_cons_succ, List.set_cons_zero, Nat.zero_add]
            refine Mxt.wpTL_reads ?_
            simp only [List.flatMap_cons, List.flatMap_nil, List.getElem?_cons_succ, List.getElem?_cons_zero, Option.toList_some, List.cons_append, List.nil_append]
            repeat (go_big_quiet_step (fail))
            refine wpQuiet_nil ?_
            have c6 := (HB6.out.step hS2 id).cell 1
            rw [HC1.out] at c6
            have f6 := (HB6.out.step hS2 id).frozen 1
            refine Mxt.wpTL_op (by rfl) (fun K hK => ?_)
            go_simp
            refine hK _ _ (fun hlt => absurd hlt (by decide)) ?_
            clear hK K
            refine Mxt.wpTL_leaf ?_
            go_wp2_with fail
            go_meet
            exact ⟨_, _, Lib.hid ((HB6.out.step hS2 id).set_ 1 _), Lib.hid (own_set hown2 (by intro e; have h9 := own_ge hown2 _ e; have h8 := HB6.out.lt; simp at h9; omega) _), Lib.hid ((hS2.mono (fun _ _ h => h.elim) : Step (fun k => k = B6) w5 W2).setCell (p := ⟨B6, 1, none⟩) (.inl rfl) _)⟩
        case rest =>
          obtain ⟨D, c', HD6, HOW, T7⟩ := hcut
          replace B0 := Lib.hid (B0.out.step T7.out nB6)
          replace HM := Lib.hid (HM.out.step T7.out (fun q hq e => by have := HIN.out q hq; have := lB6; omega))
          replace S1 := Lib.hid (S1.out.trans' T7.out (fun q hq => .inr (by rw [hq]; exact hgeB6)))
          replace HB5 := Lib.hid (HB5.out.step T7.out n56)
          have hw5 : w5.heap.size ≤ wc.heap.size := T7.out.size
          generalize wc = w7 at *
          have hm6 : ModIn w7 (fun k => k < w7.heap.size) { a with A1 := D, c1 := c' } (addM M) := by
            have h := HM.out.wide (R' := fun k => k < w7.heap.size) (fun q hq => HM.out.rin q hq) (fun _ h => h)
            have hi : Reads w7 (fun k => k < w7.heap.size) 9 D (M.imports ++ [memI, memI]).length (ims (M.imports ++ [memI, memI])) := by
              have h9 := Reads.of_own HOW.out
              have e : ims (M.imports ++ [memI, memI]) = [] ++ ims M.imports ++ (#[.string ⟨#[101, 110, 118]⟩, .string ⟨#[109, 101, 109, 111, 114, 121]⟩, .int .u8 2, .int .u32 0, .int .u32 0, .int .u32 0, .bool false, .int .u8 0, .bool false, .string ⟨#[101, 110, 118]⟩, .string ⟨#[109, 101, 109, 111, 114, 121]⟩, .int .u8 2, .int .u32 0, .int .u32 0, .int .u32 0, .bool false, .int .u8 0, .bool false] : Array Value).toList := by
                rw [List.nil_append, ims, List.flatMap_append]
                rfl
              rw [e, List.length_append]
              exact h9.mono fun q hq _ => hq
            exact ⟨h.types, hi, h.funcs, h.tables, h.mems, h.globals, h.exports, h.elems, h.codes, h.datas, h.nd, h.ndc, fun x hx => by
              rcases List.mem_append.1 hx with hx | hx
              · exact h.imb x hx
              · rw [List.mem_cons, List.mem_singleton] at hx
                rcases hx with rfl | rfl <;> exact ⟨by decide, by decide⟩, h.fub, h.glb, h.exb, h.elb, h.cob, h.dab, h.rin⟩
          have hs6 : (addM M).small := by
            have h := HSL.out.1
            exact ⟨h.types, by rw [addM, List.length_append]; show M.imports.length + 2 ≤ 42; omega, h.funcs, h.tables, h.mems, h.globals, h.exports, h.elems, h.codes, h.datas, h.nd, h.ft, h.ex, h.co, h.el⟩
          obtain ⟨f6, hf6⟩ : ∃ f : Ft, f = modF (addM M) := ⟨_, rfl⟩
          have h6 := addM_why HOK.out
          rw [← hf6] at h6
          obtain ⟨C6, hC6⟩ : ∃ C6, C6 = C.setIfInBounds 1 (.slice D (M.imports.length + 2) c') := ⟨_, rfl⟩
          have HV6 : Hid (Calls Try.prog 11 #[.agg C6] w7 fun e w' => e = .returned (.agg #[.int .i64 29, .int .i64 5, .int .i64 f6.at_]) ∧ Step (fun _ => False) w7 w') := by
            have h := v_module hm6 hs6
            rw [← hf6] at h
            unfold Ft.val at h
            rw [h6.1, h6.2] at h
            rw [hC6, hC.out]
            have e : (addM M).imports.length = M.imports.length + 2 := by rw [addM, List.length_append]; rfl
            rw [e] at h
            exact h
          have H6 : Hid (C6.size = 17) := by rw [hC6, Array.size_setIfInBounds]; exact H17.out
          rw [← hC6] at HD6
          clear hm6 hs6 h6 HOW hC6 hf6 d1 g0 g1 g2 g3 g4 g5 g6 g7 g8 hsrc hone1 hone2 hm1 hm2 T7 hw5 HB7
          go_wp2_with (refine ld_mod_g (by rfl) _ rfl _ rfl C6 HD6.out H6.out ?_)
          refine HV6.out.mono ?_
          rintro e w8 ⟨rfl, t8⟩
          replace B0 := Lib.hid (B0.out.step t8 id)
          replace HM := Lib.hid (HM.out.step t8 (fun _ _ => id))
          replace S1 := Lib.hid (S1.out.trans t8)
          replace HB5 := Lib.hid (HB5.out.step t8 id)
          clear t8 HV6 HD6 H6
          have HC6 : Hid (C[6]? = some (.slice a.A6 M.exports.length a.c6)) := by rw [hC.out]; rfl
          have z6 := (B0.out.cell 6).trans HC6.out
          have lX := B0.out.lt
          have a8 : Step (fun _ => False) w8 (w8.alloc (.cells #[.int .i64 29, .int .i64 5, .int .i64 f6.at_] 56)) := Step.refl.alloc _
          have HB8 := Lib.hid (Blk.new w8 56 #[.int .i64 29, .int .i64 5, .int .i64 f6.at_])
          replace B0 := Lib.hid (B0.out.step a8 id)
          replace HM := Lib.hid (HM.out.step a8 (fun _ _ => id))
          replace S1 := Lib.hid (S1.out.trans a8)
          replace HB5 := Lib.hid (HB5.out.step a8 id)
          clear a8
          by_cases he : M.exports.length = 0
          · have e2 : ((M.exports.length : Int) == 0) = true := beq_iff_eq.2 (by omega)
            go_wp2_with fail
            go_ret
            exact ⟨rfl, S1.out⟩
          · have e2 : ((M.exports.length : Int) == 0) = false := beq_eq_false_iff_ne.2 (by omega)
            have e3 : ¬ (M.exports.length : Int) = 0 := by omega
            have HNE := Lib.hid he
            go_wp2_with fail
            clear z6 lX e2
            generalize w8.alloc (.cells #[.int .i64 29, .int .i64 5, .int .i64 f6.at_] 56) = w9 at *
            generalize w8.heap.size = B8 at *
            have c6 := (B0.out.cell 6).trans HC6.out
            obtain ⟨q, hq⟩ : ∃ q, q = k % M.exports.length := ⟨_, rfl⟩
            have hql : q < M.exports.length := by rw [hq]; exact Nat.mod_lt _ (by omega)
            have hrem : (k : Int).tmod (M.exports.length : Int) = (q : Int) := by
              rw [hq]
              rw [IntWalk.rem_in _ _ (by omega)]
              rfl
            clear hq
            obtain ⟨bk, off, hA, _, hbl, hc⟩ := reads_row Ex.cells 3 (by decide) Ex.three HM.out.exports (k := q) hql
            rw [hA] at c6
            have HA6 := Lib.hid hA
            have hxm : M.exports[q] ∈ M.exports := List.getElem_mem hql
            obtain ⟨x, hx⟩ : ∃ x, x = M.exports[q] := ⟨_, rfl⟩
            rw [← hx] at hc hxm
            clear hx
            have HXM := Lib.hid hxm
            obtain ⟨xn, xk, xi⟩ := x
            have k0 := hc 0 _ rfl
            have k1 := hc 1 _ rfl
            have k2 := hc 2 _ rfl
            simp only [Nat.add_zero] at k0
            simp only at k0 k1 k2
            clear hc hxm
            have g1 : (q : Int) < (M.exports.length : Int) := by omega
            have g0 : (0 : Int) ≤ (q : Int) := by omega
            have d6 := cls_cell (F := fun _ => False) c6 id
            have j0 := cls_cell (F := fun _ => False) k0 id
            have j1 := cls_cell (F := fun _ => False) k1 id
            have j2 := cls_cell (F := fun _ => False) k2 id
            have hsrc := HM.out.exports
            rw [hA] at hsrc
            have hone1 := exs_one M.exports
            have hone2 : ∀ u ∈ (#[.string (str xn), .int .u8 (xk : Int), .int .u32 (xi : Int)] : Array Value).toList, u.oneCell' = true := by simp [Value.oneCell']
            have hel : M.exports.length ≤ 40 := by have := HSL.out.2.2; omega
            have hm1 : 0 + M.exports.length ≤ maxLen := by unfold maxLen; omega
            have hm2 : M.exports.length + 1 ≤ maxLen := by unfold maxLen; omega
            clear c6 k0 k1 k2 hA
            go_cut [] (fun wq => ∃ D c', Hid (Blk wq B5 53 (C.setIfInBounds 6 (.slice D (M.exports.length + 1) c'))) ∧ Hid (wq.ownsRow w9.heap.size 66 3 (.slice D (M.exports.length + 1) c') (M.exports.length + 1) ([] ++ exs M.exports ++ (#[.string (str xn), .int .u8 (xk : Int), .int .u32 (xi : Int)] : Array Value).toList)) ∧ Hid (Step (fun k => k = B5) w9 wq))
            case first =>
              have hz1 : (w9.alloc (.cells #[.string (str xn), .int .u8 (xk : Int), .int .u32 (xi : Int)] 66)).heap.size = w9.heap.size + 1 := by simp
              have hz0 : (w9.alloc (.cells #[] 66)).heap.size = w9.heap.size + 1 := by simp
              have hfA : (w9.alloc (.cells #[] 66)).drew.ownsRow w9.heap.size 66 3 (.slice (some ⟨w9.heap.size, 0, none⟩) 0 0) 0 [] := own_drew (own_fresh 3 (Nat.le_refl _))
              have hrA := hsrc.step (F := fun _ => False) (Step.drew (Step.alloc Step.refl (.cells #[] 66))) (fun _ _ => id)
              have hfB : ((w9.alloc (.cells #[] 66)).alloc (.cells #[.string (str xn), .int .u8 (xk : Int), .int .u32 (xi : Int)] 66)).drew.ownsRow w9.heap.size 66 3 (.slice (some ⟨w9.heap.size, 0, none⟩) 0 0) 0 [] := own_drew ((own_fresh 3 (Nat.le_refl _)).alloc _)
              have hrB := hsrc.step (F := fun _ => False) (Step.drew (Step.alloc (Step.alloc Step.refl (.cells #[] 66)) (.cells #[.string (str xn), .int .u8 (xk : Int), .int .u32 (xi : Int)] 66))) (fun _ _ => id)
              have hxB := (reads_new (w9.alloc (.cells #[] 66)) #[.string (str xn), .int .u8 (xk : Int), .int .u32 (xi : Int)] 66 3 1 rfl).drew
              have hfC : ((w9.alloc (.cells #[.string (str xn), .int .u8 (xk : Int), .int .u32 (xi : Int)] 66)).alloc (.cells #[] 66)).drew.ownsRow w9.heap.size 66 3 (.slice (some ⟨w9.heap.size + 1, 0, none⟩) 0 0) 0 [] := by
                have := own_drew (own_fresh (w := w9.alloc (.cells #[.string (str xn), .int .u8 (xk : Int), .int .u32 (xi : Int)] 66)) (e := 66) (base := w9.heap.size) 3 (by omega))
                rwa [hz1] at this
              have hrC := hsrc.step (F := fun _ => False) (Step.drew (Step.alloc (Step.alloc Step.refl (.cells #[.string (str xn), .int .u8 (xk : Int), .int .u32 (xi : Int)] 66)) (.cells #[] 66))) (fun _ _ => id)
              have hxC := ((reads_new w9 #[.string (str xn), .int .u8 (xk : Int), .int .u32 (xi : Int)] 66 3 1 rfl).step (F := fun _ => False) (Step.alloc Step.refl (.cells #[] 66)) (fun _ _ => id)).drew
              rw [hz0] at hxB
              refine Mxt.wp_region_tree [0, 3, 14, 15, 17] [0, 3, 14, 15] (.fork (.op 0 (.reads [1, 2] (.fork (.op 3 (.reads [4, 5, 6, 7, 8, 9, 10, 11, 12, 13] (.op 14 (.op 15 (.reads [16] (.op 17 .leaf)))))) (.reads [4, 5, 6, 7, 8, 9, 10, 11, 12, 13] (.op 14 (.op 3 (.op 15 (.reads [16] (.op 17 .leaf))))))))) (.reads [4, 5, 6, 7, 8, 9, 10, 11, 12, 13] (.op 14 (.reads [1, 2] (.op 0 (.op 3 (.op 15 (.reads [16] (.op 17 .leaf))))))))) (Step (fun _ => False) w9) (by kernel_rfl) (by kernel_rfl) Step.refl.drew (fun hcls => ?_)
              refine Mxt.wpTL_fork ?_ ?_
              · refine Mxt.wpTL_op (by rfl) (fun K hK => ?_)
                go_simp
                refine hK _ _ (fun hlt => Mix.cl (Step.drew (Step.alloc Step.refl _))) ?_
                clear hK K
                refine Mxt.wpTL_reads ?_
                simp only [List.flatMap_cons, List.flatMap_nil, List.getElem?_cons_succ, List.getElem?_cons_zero, Option.toList_some, List.cons_append, List.nil_append]
                repeat (go_big_quiet_step (fail))
                refine wpQuiet_nil ?_
                refine Mxt.wpTL_fork ?_ ?_
                · refine Mxt.wpTL_op (by rfl) (fun K hK => ?_)
                  refine step_append_new (w0 := w9) (by rfl) _ _ (by rfl) E_exs (Step.drew (Step.alloc Step.refl _)) (by rfl) (hfA) (by rfl) (hrA) hone1 hm1 (by omega) ?_
                  intro D1 c1 W1 hown1 hS1 hgrow1 hat1
                  refine hK _ _ (fun hlt => Mix.cl hS1) ?_
                  clear hK K
                  simp only [Act.put, List.setIfInBounds_toArray, List.set_cons_succ, List.set_cons_zero, Nat.zero_add]
                  simp only [Nat.zero_add] at hown1
                  refine Mxt.wpTL_reads ?_
                  simp only [List.flatMap_cons, List.flatMap_nil, List.getElem?_cons_succ, List.getElem?_cons_zero, Option.toList_some, List.cons_append, List.nil_append]
                  repeat (go_big_quiet_step (fail))
                  refine wpQuiet_nil ?_
                  refine Mxt.wpTL_op (by rfl) (fun K hK => ?_)
                  go_simp
                  refine hK _ _ (fun hlt => Mix.cl (Step.alloc hS1 _)) ?_
                  clear hK K
                  refine Mxt.wpTL_op (by rfl) (fun K hK => ?_)
                  refine step_append_new (w0 := w9) (by rfl) _ _ (by rfl) E_exs (Step.alloc hS1 _) (by rfl) (hown1.alloc _) (by rfl) (reads_new W1 #[.string (str xn), .int .u8 (xk : Int), .int .u32 (xi : Int)] 66 3 1 rfl) hone2 hm2 (by omega) ?_
                  intro D2 c2 W2 hown2 hS2 hgrow2 hat2
                  refine hK _ _ (fun hlt => Mix.cl hS2) ?_
                  clear hK K
                  simp only [Act.put, List.setIfInBounds_toArray, List.set_cons_succ, List.set_cons_zero, Nat.zero_add]
                  refine Mxt.wpTL_reads ?_
                  simp only [List.flatMap_cons, List.flatMap_nil, List.getElem?_cons_succ, List.getElem?_cons_zero, Option.toList_some, List.cons_append, List.nil_append]
                  repeat (go_big_quiet_step (fail))
                  refine wpQuiet_nil ?_
                  have c6 := (HB5.out.step hS2 id).cell 6
                  rw [HC6.out] at c6
                  have f6 := (HB5.out.step hS2 id).frozen 6
                  refine Mxt.wpTL_op (by rfl) (fun K hK => ?_)
                  go_simp
                  refine hK _ _ (fun hlt => absurd hlt (by decide)) ?_
                  clear hK K
                  refine Mxt.wpTL_leaf ?_
                  go_wp2_with fail
                  go_meet
                  exact ⟨_, _, Lib.hid ((HB5.out.step hS2 id).set_ 6 _), Lib.hid (own_set hown2 (by intro e; have h9 := own_ge hown2 _ e; have h8 := HB5.out.lt; simp at h9; omega) _), Lib.hid ((hS2.mono (fun _ _ h => h.elim) : Step (fun k => k = B5) w9 W2).setCell (p := ⟨B5, 6, none⟩) (.inl rfl) _)⟩
                · refine Mxt.wpTL_reads ?_
                  simp only [List.flatMap_cons, List.flatMap_nil, List.getElem?_cons_succ, List.getElem?_cons_zero, Option.toList_some, List.cons_append, List.nil_append]
                  repeat (go_big_quiet_step (fail))
                  refine wpQuiet_nil ?_
                  refine Mxt.wpTL_op (by rfl) (fun K hK => ?_)
                  go_simp
                  refine hK _ _ (fun hlt => Mix.cl (Step.drew (Step.alloc (Step.alloc Step.refl _) _))) ?_
                  clear hK K
                  refine Mxt.wpTL_op (by rfl) (fun K hK => ?_)
                  refine step_append_new (w0 := w9) (by rfl) _ _ (by rfl) E_exs (Step.drew (Step.alloc (Step.alloc Step.refl _) _)) (by rfl) (hfB) (by rfl) (hrB) hone1 hm1 (by omega) ?_
                  intro D1 c1 W1 hown1 hS1 hgrow1 hat1
                  refine hK _ _ (fun hlt => Mix.cl hS1) ?_
                  clear hK K
                  simp only [Act.put, List.setIfInBounds_toArray, List.set_cons_succ, List.set_cons_zero, Nat.zero_add]
                  simp only [Nat.zero_add] at hown1
                  have hx1 := hxB.step (Step.grown (F := fun k => blkOf (some (⟨w9.heap.size, 0, none⟩ : Addr)) = some k) Step.refl hgrow1 (fun k hk => .inl hk)) (fun k hk e => by simp [blkOf] at e; omega)
                  refine Mxt.wpTL_op (by rfl) (fun K hK => ?_)
                  refine step_append_new (w0 := w9) (by rfl) _ _ (by rfl) E_exs (hS1) (by rfl) (hown1) (by rfl) (hx1) hone2 hm2 (by omega) ?_
                  intro D2 c2 W2 hown2 hS2 hgrow2 hat2
                  refine hK _ _ (fun hlt => Mix.cl hS2) ?_
                  clear hK K
                  simp only [Act.put, List.setIfInBounds_toArray, List.set_cons_succ, List.set_cons_zero, Nat.zero_add]
                  refine Mxt.wpTL_reads ?_
                  simp only [List.flatMap_cons, List.flatMap_nil, List.getElem?_cons_succ, List.getElem?_cons_zero, Option.toList_some, List.cons_append, List.nil_append]
                  repeat (go_big_quiet_step (fail))
                  refine wpQuiet_nil ?_
                  have c6 := (HB5.out.step hS2 id).cell 6
                  rw [HC6.out] at c6
                  have f6 := (HB5.out.step hS2 id).frozen 6
                  refine Mxt.wpTL_op (by rfl) (fun K hK => ?_)
                  go_simp
                  refine hK _ _ (fun hlt => absurd hlt (by decide)) ?_
                  clear hK K
                  refine Mxt.wpTL_leaf ?_
                  go_wp2_with fail
                  go_meet
                  exact ⟨_, _, Lib.hid ((HB5.out.step hS2 id).set_ 6 _), Lib.hid (own_set hown2 (by intro e; have h9 := own_ge hown2 _ e; have h8 := HB5.out.lt; simp at h9; omega) _), Lib.hid ((hS2.mono (fun _ _ h => h.elim) : Step (fun k => k = B5) w9 W2).setCell (p := ⟨B5, 6, none⟩) (.inl rfl) _)⟩
              · refine Mxt.wpTL_reads ?_
                simp only [List.flatMap_cons, List.flatMap_nil, List.getElem?_cons_succ, List.getElem?_cons_zero, Option.toList_some, List.cons_append, List.nil_append]
                repeat (go_big_quiet_step (fail))
                refine wpQuiet_nil ?_
                refine Mxt.wpTL_op (by rfl) (fun K hK => ?_)
                go_simp
                refine hK _ _ (fun hlt => Mix.cl (Step.drew (Step.alloc Step.refl _))) ?_
                clear hK K
                refine Mxt.wpTL_reads ?_
                simp only [List.flatMap_cons, List.flatMap_nil, List.getElem?_cons_succ, List.getElem?_cons_zero, Option.toList_some, List.cons_append, List.nil_append]
                repeat (go_big_quiet_step (fail))
                refine wpQuiet_nil ?_
                refine Mxt.wpTL_op (by rfl) (fun K hK => ?_)
                go_simp
                refine hK _ _ (fun hlt => Mix.cl (Step.drew (Step.alloc (Step.alloc Step.refl _) _))) ?_
                clear hK K
                refine Mxt.wpTL_op (by rfl) (fun K hK => ?_)
                refine step_append_new (w0 := w9) (by rfl) _ _ (by rfl) E_exs (Step.drew (Step.alloc (Step.alloc Step.refl _) _)) (by rfl) (hfC) (by rfl) (hrC) hone1 hm1 (by omega) ?_
                intro D1 c1 W1 hown1 hS1 hgrow1 hat1
                refine hK _ _ (fun hlt => Mix.cl hS1) ?_
                clear hK K
                simp only [Act.put, List.setIfInBounds_toArray, List.set_cons_succ, List.set_cons_zero, Nat.zero_add]
                simp only [Nat.zero_add] at hown1
                have hx1 := hxC.step (Step.grown (F := fun k => blkOf (some (⟨w9.heap.size + 1, 0, none⟩ : Addr)) = some k) Step.refl hgrow1 (fun k hk => .inl hk)) (fun k hk e => by simp [blkOf] at e; omega)
                refine Mxt.wpTL_op (by rfl) (fun K hK => ?_)
                refine step_append_new (w0 := w9) (by rfl) _ _ (by rfl) E_exs (hS1) (by rfl) (hown1) (by rfl) (hx1) hone2 hm2 (by omega) ?_
                intro D2 c2 W2 hown2 hS2 hgrow2 hat2
                refine hK _ _ (fun hlt => Mix.cl hS2) ?_
                clear hK K
                simp only [Act.put, List.setIfInBounds_toArray, List.set_cons_succ, List.set_cons_zero, Nat.zero_add]
                refine Mxt.wpTL_reads ?_
                simp only [List.flatMap_cons, List.flatMap_nil, List.getElem?_cons_succ, List.getElem?_cons_zero, Option.toList_some, List.cons_append, List.nil_append]
                repeat (go_big_quiet_step (fail))
                refine wpQuiet_nil ?_
                have c6 := (HB5.out.step hS2 id).cell 6
                rw [HC6.out] at c6
                have f6 := (HB5.out.step hS2 id).frozen 6
                refine Mxt.wpTL_op (by rfl) (fun K hK => ?_)
                go_simp
                refine hK _ _ (fun hlt => absurd hlt (by decide)) ?_
                clear hK K
                refine Mxt.wpTL_leaf ?_
                go_wp2_with fail
                go_meet
                exact ⟨_, _, Lib.hid ((HB5.out.step hS2 id).set_ 6 _), Lib.hid (own_set hown2 (by intro e; have h9 := own_ge hown2 _ e; have h8 := HB5.out.lt; simp at h9; omega) _), Lib.hid ((hS2.mono (fun _ _ h => h.elim) : Step (fun k => k = B5) w9 W2).setCell (p := ⟨B5, 6, none⟩) (.inl rfl) _)⟩
            case rest =>
              obtain ⟨D, c', HD5, HOW, T7⟩ := hcut
              replace B0 := Lib.hid (B0.out.step T7.out nB5)
              replace HM := Lib.hid (HM.out.step T7.out (fun q hq e => by have := HIN.out q hq; have := lB5; omega))
              replace S1 := Lib.hid (S1.out.trans' T7.out (fun q hq => .inr (by rw [hq]; exact hgeB5)))
              generalize wc = w10 at *
              have hm5 : ModIn w10 (fun k => k < w10.heap.size) { a with A6 := D, c6 := c' } (addE M ⟨xn, xk, xi⟩) := by
                have h := HM.out.wide (R' := fun k => k < w10.heap.size) (fun q hq => HM.out.rin q hq) (fun _ h => h)
                have hi : Reads w10 (fun k => k < w10.heap.size) 3 D (M.exports ++ [(⟨xn, xk, xi⟩ : Ex)]).length (exs (M.exports ++ [(⟨xn, xk, xi⟩ : Ex)])) := by
                  have h9 := Reads.of_own HOW.out
                  have e : exs (M.exports ++ [(⟨xn, xk, xi⟩ : Ex)]) = [] ++ exs M.exports ++ (#[.string (str xn), .int .u8 (xk : Int), .int .u32 (xi : Int)] : Array Value).toList := by
                    rw [List.nil_append, exs, List.flatMap_append]
                    rfl
                  rw [e, List.length_append]
                  exact h9.mono fun q hq _ => hq
                exact ⟨h.types, h.imports, h.funcs, h.tables, h.mems, h.globals, hi, h.elems, h.codes, h.datas, h.nd, h.ndc, h.imb, h.fub, h.glb, fun x hx => by
                  rcases List.mem_append.1 hx with hx | hx
                  · exact h.exb x hx
                  · rw [List.mem_singleton.1 hx]
                    exact h.exb _ HXM.out, h.elb, h.cob, h.dab, h.rin⟩
              have hs5 : (addE M ⟨xn, xk, xi⟩).small := by
                have h := HSL.out.1
                exact ⟨h.types, h.imports, h.funcs, h.tables, h.mems, h.globals, by rw [addE, List.length_append]; show M.exports.length + 1 ≤ 42; omega, h.elems, h.codes, h.datas, h.nd, h.ft, fun x hx => by
                  rcases List.mem_append.1 hx with hx | hx
                  · exact h.ex x hx
                  · rw [List.mem_singleton.1 hx]
                    exact h.ex _ HXM.out, h.co, h.el⟩
              have h5 := addE_why HOK.out ⟨xn, xk, xi⟩ HXM.out
              obtain ⟨C5, hC5⟩ : ∃ C5, C5 = C.setIfInBounds 6 (.slice D (M.exports.length + 1) c') := ⟨_, rfl⟩
              have HV5 : Hid (∀ W, Step (fun _ => False) w10 W → Calls Try.prog 11 #[.agg C5] W fun e w' => e = .returned (.agg #[.int .i64 27, .int .i64 7, .int .i64 (M.exports.length : Int)]) ∧ Step (fun _ => False) W w') := fun W hW => by
                have h := v_module (hm5.step hW (fun _ _ => id)) hs5
                rw [h5] at h
                rw [hC5, hC.out]
                have e : (addE M ⟨xn, xk, xi⟩).exports.length = M.exports.length + 1 := by rw [addE, List.length_append]; rfl
                rw [e] at h
                exact h
              have H5 : Hid (C5.size = 17) := by rw [hC5, Array.size_setIfInBounds]; exact H17.out
              rw [← hC5] at HD5
              have c6 := (B0.out.cell 6).trans HC6.out
              have d6 := cls_cell (F := fun _ => False) c6 id
              clear hm5 hs5 h5 HOW hC5 j0 j1 j2 hsrc hone1 hone2 hm1 hm2 T7 c6
              go_wp2_with fail
              refine Mix.wp_region_mix [1] [1] (Step (fun _ => False) w10) (by kernel_rfl) (by kernel_rfl) Step.refl.drew (fun hcls => ?_)
              refine Mix.wpL_reads 1 (by rfl) ?_
              simp only [List.take_succ_cons, List.drop_succ_cons, List.take_zero, List.drop_zero]
              repeat (first | (refine BigFrame.wpQuiet_want (by rfl) (fun K hK => quiet_mod_at (ops := #[]) _ rfl B5 rfl C5 (fun w1 ⟨i, e⟩ => by rw [e]; intro j v hv; exact ((HD5.out.step i.prop id).cell j).trans hv) H5.out (hK _ ?_)); clear hK K; simp only [Act.put, List.setIfInBounds_toArray, List.set_cons_succ, List.set_cons_zero]) | (go_big_quiet_step (fail)))
              refine wpQuiet_nil ?_
              refine Mix.wpL_op (by rfl) (fun K hK => ?_)
              go_simp
              refine (HV5.out _ Step.refl.drew).mono ?_
              rintro e w11 ⟨rfl, t11⟩
              refine hK _ _ (fun hlt => Mix.cl (Step.refl.drew.trans t11)) ?_
              clear hK K
              refine Mix.wpL_reads 6 (by rfl) ?_
              simp only [List.take_succ_cons, List.drop_succ_cons, List.take_zero, List.drop_zero]
              repeat (go_big_quiet_step (fail))
              refine wpQuiet_nil ?_
              refine Mix.wpL_end ?_
              have S2 := Lib.hid (S1.out.trans (Step.refl.drew.trans t11))
              clear t11 d6 HV5 HD5 H5
              go_wp2_with fail
              go_ret
              exact ⟨rfl, S2.out⟩
    · have e1 : (f0.why != 0) = true := by simpa using hz
      have HZ := Lib.hid hz
      clear hz
      go_wp2_with fail
      go_ret
      exact ⟨rfl, S1.out⟩
theorem twice_all (W : World) (a : Md) (M : Mv) (k : Nat) (hk : k < 256) (hM : ModIn W (fun k => k < W.heap.size) a M) (hcap : M.types.length ≤ 300000000000000 ∧ M.imports.length ≤ 300000000000000 ∧ M.funcs.length ≤ 300000000000000 ∧ M.tables.length ≤ 300000000000000 ∧ M.mems.length ≤ 300000000000000 ∧ M.globals.length ≤ 300000000000000 ∧ M.exports.length ≤ 300000000000000 ∧ M.elems.length ≤ 300000000000000 ∧ M.codes.length ≤ 300000000000000 ∧ M.datas.length ≤ 300000000000000) :
    Calls Try.prog 5 #[.agg #[.slice a.A0 M.types.length a.c0, .slice a.A1 M.imports.length a.c1, .slice a.A2 M.funcs.length a.c2, .slice a.A3 M.tables.length a.c3, .slice a.A4 M.mems.length a.c4, .slice a.A5 M.globals.length a.c5, .slice a.A6 M.exports.length a.c6, .int .i64 M.start, .slice a.A8 M.elems.length a.c8, .slice a.A9 M.codes.length a.c9, .slice a.A10 M.datas.length a.c10, .bool M.has, .int .u32 (M.d1 : Int), .int .u32 (M.d2 : Int), .int .u32 (M.d3 : Int), .int .u32 (M.d4 : Int), .slice a.A16 M.nd.length a.c16], .int .u8 (k : Int)] W fun e W' => e = .returned (.bool true) ∧ Below W.heap.size W W' :=
  (twice_walk W _ a M k hk hM hcap).mono fun _ _ hh => ⟨hh.1, hh.2.below W.heap.size (fun _ _ hf => hf.elim) (Nat.le_refl _)⟩
end Go.Proofs.Ytpebdfgfikjkeaa
