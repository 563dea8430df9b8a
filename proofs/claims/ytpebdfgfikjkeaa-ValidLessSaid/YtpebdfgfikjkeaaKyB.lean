/-
  The law ValidLess walked.
-/
import Derived.Test.YtpebdfgfikjkeaaKyA
set_option linter.unusedVariables false
set_option linter.unusedSimpArgs false
namespace Go.Proofs.Ytpebdfgfikjkeaa
open Go.RowKit
theorem E_ftc : ElemTy Try.prog 22 28 2 32 := elem_of Try.underlying22 (z := .agg #[.string ByteArray.empty, .string ByteArray.empty]) (by kernel_rfl) rfl (by decide)
theorem fts_one (l : List (List UInt8 × List UInt8)) : ∀ u ∈ l.flatMap ftC, u.oneCell' = true := fun u hu => by
  obtain ⟨x, _, hx⟩ := List.mem_flatMap.1 hu
  simp [ftC] at hx
  rcases hx with rfl | rfl <;> rfl
set_option maxRecDepth 100000 in
set_option maxHeartbeats 12800000 in
theorem less_walk (w : World) (R : Nat → Prop) (a : Md) (M : Mv) (tp tq : List UInt8) (hM : ModIn w R a M) (hcap : M.types.length ≤ 300000000000000 ∧ M.imports.length ≤ 300000000000000 ∧ M.funcs.length ≤ 300000000000000 ∧ M.tables.length ≤ 300000000000000 ∧ M.mems.length ≤ 300000000000000 ∧ M.globals.length ≤ 300000000000000 ∧ M.exports.length ≤ 300000000000000 ∧ M.elems.length ≤ 300000000000000 ∧ M.codes.length ≤ 300000000000000 ∧ M.datas.length ≤ 300000000000000) :
    Calls Try.prog 4 #[.agg #[.slice a.A0 M.types.length a.c0, .slice a.A1 M.imports.length a.c1, .slice a.A2 M.funcs.length a.c2, .slice a.A3 M.tables.length a.c3, .slice a.A4 M.mems.length a.c4, .slice a.A5 M.globals.length a.c5, .slice a.A6 M.exports.length a.c6, .int .i64 M.start, .slice a.A8 M.elems.length a.c8, .slice a.A9 M.codes.length a.c9, .slice a.A10 M.datas.length a.c10, .bool M.has, .int .u32 (M.d1 : Int), .int .u32 (M.d2 : Int), .int .u32 (M.d3 : Int), .int .u32 (M.d4 : Int), .slice a.A16 M.nd.length a.c16], .agg #[.string (str tp), .string (str tq)]] w fun e w' => e = .returned (.bool true) ∧ Step (fun _ => False) w w' := by
  have hzp := str_size tp
  have hcp := hcap.2.2.2.2.2.2.1
  obtain ⟨C, hC⟩ : ∃ C : Array Value, C = #[.slice a.A0 M.types.length a.c0, .slice a.A1 M.imports.length a.c1, .slice a.A2 M.funcs.length a.c2, .slice a.A3 M.tables.length a.c3, .slice a.A4 M.mems.length a.c4, .slice a.A5 M.globals.length a.c5, .slice a.A6 M.exports.length a.c6, .int .i64 M.start, .slice a.A8 M.elems.length a.c8, .slice a.A9 M.codes.length a.c9, .slice a.A10 M.datas.length a.c10, .bool M.has, .int .u32 (M.d1 : Int), .int .u32 (M.d2 : Int), .int .u32 (M.d3 : Int), .int .u32 (M.d4 : Int), .slice a.A16 M.nd.length a.c16] := ⟨_, rfl⟩
  have H17 : Hid (C.size = 17) := by rw [hC]; rfl
  have H1 : Hid (C.all (·.oneCell') = true) := by rw [hC]; exact C17_one a M
  have HSM : Hid (∀ W, ModIn W R a M → Calls Try.prog 10 #[.agg C] W fun e w' => BoolOut (M.small ∧ M.types.length + M.imports.length ≤ 40 ∧ M.globals.length + M.exports.length ≤ 40) e ∧ Step (fun _ => False) W w') := fun W h => by rw [hC]; exact small_walk17 W h hcap
  obtain ⟨f0, hf0⟩ : ∃ f : Ft, f = modF M := ⟨_, rfl⟩
  have HVM : Hid (∀ W, ModIn W R a M → M.small → Calls Try.prog 11 #[.agg C] W fun e w' => e = .returned (.agg #[.int .i64 f0.why, .int .i64 f0.list, .int .i64 f0.at_]) ∧ Step (fun _ => False) W w') := fun W h hs => by rw [hC, hf0]; exact v_module h hs
  rw [← hC]
  have hfd := fault_field f0
  have s1 : Step (fun _ => False) w ((w.alloc (.cells C 53)).alloc (.cells #[.string (str tp), .string (str tq)] 28)) := (Step.refl.alloc _).alloc _
  have B0 := Lib.hid ((Blk.new w 53 C).alloc (.cells #[.string (str tp), .string (str tq)] 28))
  have bt := Blk.new (w.alloc (.cells C 53)) 28 #[.string (str tp), .string (str tq)]
  simp only [World.size_alloc] at bt
  have BT := Lib.hid bt
  clear bt
  have HM := Lib.hid (hM.step s1 (fun _ _ => id))
  have S1 := Lib.hid s1
  have HIN := Lib.hid hM.rin
  replace hC := Lib.hid hC
  replace hf0 := Lib.hid hf0
  clear s1 hM hcap
  go_enter Try.func4, Try.ntmps4
  go_upto_region 1 with fail
  generalize (w.alloc (.cells C 53)).alloc (.cells #[.string (str tp), .string (str tq)] 28) = V at *
  generalize hX : w.heap.size = X at *
  replace hX := Lib.hid hX
  obtain ⟨XT, hXT⟩ : ∃ XT, XT = X + 1 := ⟨_, rfl⟩
  rw [← hXT] at BT ⊢
  replace hXT := Lib.hid hXT
  go_wp2_with fail
  refine (awake25 _).mono ?_
  rintro e w1 ⟨rfl, t1⟩
  replace B0 := Lib.hid (B0.out.step t1 id)
  replace HM := Lib.hid (HM.out.step t1 (fun _ _ => id))
  replace S1 := Lib.hid (S1.out.trans t1)
  replace BT := Lib.hid (BT.out.step t1 id)
  clear t1
  go_wp2_with (refine ld_mod_g (by rfl) _ rfl _ rfl C B0.out H17.out ?_)
  refine (HSM.out _ HM.out).mono ?_
  rintro e w2 ⟨⟨b, rfl, hb⟩, t2⟩
  replace B0 := Lib.hid (B0.out.step t2 id)
  replace HM := Lib.hid (HM.out.step t2 (fun _ _ => id))
  replace S1 := Lib.hid (S1.out.trans t2)
  replace BT := Lib.hid (BT.out.step t2 id)
  clear t2 HSM
  cases b with
  | false =>
    go_wp2_with fail
    go_ret
    exact ⟨rfl, S1.out⟩
  | true =>
    have HSL := Lib.hid (hb rfl)
    clear hb
    have tt0 := BT.out.cell 0
    simp at tt0
    by_cases h50 : (50 : Int) < (tp.length : Int)
    · go_wp2_with fail
      go_ret
      exact ⟨rfl, S1.out⟩
    · go_upto_region 5 with fail
      clear tt0
      go_wp2_with (refine ld_mod_g (by rfl) _ rfl _ rfl C B0.out H17.out ?_)
      refine (HVM.out _ HM.out HSL.out.1).mono ?_
      rintro e w3 ⟨rfl, t3⟩
      replace B0 := Lib.hid (B0.out.step t3 id)
      replace HM := Lib.hid (HM.out.step t3 (fun _ _ => id))
      replace S1 := Lib.hid (S1.out.trans t3)
      replace BT := Lib.hid (BT.out.step t3 id)
      clear t3 HVM
      by_cases hz : f0.why = 0
      · have HOK := Lib.hid (modF_all (M := M) (by rw [← hf0.out]; exact hz))
        have e1 : (f0.why != 0) = false := by rw [hz]; rfl
        clear hz
        go_wp2_with fail
        obtain ⟨N, hN⟩ : ∃ N, w3.heap.size = N := ⟨_, rfl⟩
        go_cut [5, 6] (fun s5 s6 wq => ∃ B5 B6, s5 = .pointer (some ⟨B5, 0, none⟩) ∧ s6 = .pointer (some ⟨B6, 0, none⟩) ∧ ¬ B5 = B6 ∧ w3.heap.size ≤ B5 ∧ w3.heap.size ≤ B6 ∧ Hid (Blk wq B5 53 C) ∧ Hid (Blk wq B6 53 C) ∧ Hid (Step (fun _ => False) w3 wq))
        case first =>
          refine Mxt.wp_region_tree [2, 3, 4, 5] [2, 3, 4] (.reads [0, 1] (.fork (.op 2 (.op 3 (.op 4 (.op 5 .leaf)))) (.op 3 (.op 2 (.op 4 (.op 5 .leaf)))))) (Step (fun _ => False) w3) (by kernel_rfl) (by kernel_rfl) Step.refl.drew (fun hcls => ?_)
          refine Mxt.wpTL_reads ?_
          simp only [List.flatMap_cons, List.flatMap_nil, List.getElem?_cons_succ, List.getElem?_cons_zero, Option.toList_some, List.cons_append, List.nil_append]
          repeat (first | (refine BigFrame.wpQuiet_want (by rfl) (fun K hK => quiet_mod_at (ops := #[]) _ rfl X rfl C (fun w1 ⟨i, e⟩ => by rw [e]; intro j v hv; exact ((B0.out.step i.prop id).cell j).trans hv) H17.out (hK _ ?_)); clear hK K; simp only [Act.put, List.setIfInBounds_toArray, List.set_cons_succ, List.set_cons_zero]) | (go_big_quiet_step (fail)))
          refine wpQuiet_nil ?_
          refine Mxt.wpTL_fork ?_ ?_
          · refine Mxt.wpTL_op (by rfl) (fun K hK => ?_)
            go_simp
            refine hK _ _ (fun hlt => Mix.cl ((Step.refl.alloc _).drew)) ?_
            clear hK K
            refine Mxt.wpTL_op (by rfl) (fun K hK => ?_)
            go_simp
            refine hK _ _ (fun hlt => Mix.cl (((Step.refl.alloc _).alloc _).drew)) ?_
            clear hK K
            have b1 : Blk (((w3.alloc (.cells #[.slice none 0 0, .slice none 0 0, .slice none 0 0, .slice none 0 0, .slice none 0 0, .slice none 0 0, .slice none 0 0, .int .i64 0, .slice none 0 0, .slice none 0 0, .slice none 0 0, .bool false, .int .u32 0, .int .u32 0, .int .u32 0, .int .u32 0, .slice none 0 0] 53)).alloc (.cells #[.slice none 0 0, .slice none 0 0, .slice none 0 0, .slice none 0 0, .slice none 0 0, .slice none 0 0, .slice none 0 0, .int .i64 0, .slice none 0 0, .slice none 0 0, .slice none 0 0, .bool false, .int .u32 0, .int .u32 0, .int .u32 0, .int .u32 0, .slice none 0 0] 53)).drew) N 53 #[.slice none 0 0, .slice none 0 0, .slice none 0 0, .slice none 0 0, .slice none 0 0, .slice none 0 0, .slice none 0 0, .int .i64 0, .slice none 0 0, .slice none 0 0, .slice none 0 0, .bool false, .int .u32 0, .int .u32 0, .int .u32 0, .int .u32 0, .slice none 0 0] := ((hN ▸ Blk.new w3 53 #[.slice none 0 0, .slice none 0 0, .slice none 0 0, .slice none 0 0, .slice none 0 0, .slice none 0 0, .slice none 0 0, .int .i64 0, .slice none 0 0, .slice none 0 0, .slice none 0 0, .bool false, .int .u32 0, .int .u32 0, .int .u32 0, .int .u32 0, .slice none 0 0] : Blk (w3.alloc (.cells #[.slice none 0 0, .slice none 0 0, .slice none 0 0, .slice none 0 0, .slice none 0 0, .slice none 0 0, .slice none 0 0, .int .i64 0, .slice none 0 0, .slice none 0 0, .slice none 0 0, .bool false, .int .u32 0, .int .u32 0, .int .u32 0, .int .u32 0, .slice none 0 0] 53)) N 53 #[.slice none 0 0, .slice none 0 0, .slice none 0 0, .slice none 0 0, .slice none 0 0, .slice none 0 0, .slice none 0 0, .int .i64 0, .slice none 0 0, .slice none 0 0, .slice none 0 0, .bool false, .int .u32 0, .int .u32 0, .int .u32 0, .int .u32 0, .slice none 0 0]).alloc _).drew
            have b2 : Blk (((w3.alloc (.cells #[.slice none 0 0, .slice none 0 0, .slice none 0 0, .slice none 0 0, .slice none 0 0, .slice none 0 0, .slice none 0 0, .int .i64 0, .slice none 0 0, .slice none 0 0, .slice none 0 0, .bool false, .int .u32 0, .int .u32 0, .int .u32 0, .int .u32 0, .slice none 0 0] 53)).alloc (.cells #[.slice none 0 0, .slice none 0 0, .slice none 0 0, .slice none 0 0, .slice none 0 0, .slice none 0 0, .slice none 0 0, .int .i64 0, .slice none 0 0, .slice none 0 0, .slice none 0 0, .bool false, .int .u32 0, .int .u32 0, .int .u32 0, .int .u32 0, .slice none 0 0] 53)).drew) (N + 1) 53 #[.slice none 0 0, .slice none 0 0, .slice none 0 0, .slice none 0 0, .slice none 0 0, .slice none 0 0, .slice none 0 0, .int .i64 0, .slice none 0 0, .slice none 0 0, .slice none 0 0, .bool false, .int .u32 0, .int .u32 0, .int .u32 0, .int .u32 0, .slice none 0 0] := by
              have := Blk.new (w3.alloc (.cells #[.slice none 0 0, .slice none 0 0, .slice none 0 0, .slice none 0 0, .slice none 0 0, .slice none 0 0, .slice none 0 0, .int .i64 0, .slice none 0 0, .slice none 0 0, .slice none 0 0, .bool false, .int .u32 0, .int .u32 0, .int .u32 0, .int .u32 0, .slice none 0 0] 53)) 53 #[.slice none 0 0, .slice none 0 0, .slice none 0 0, .slice none 0 0, .slice none 0 0, .slice none 0 0, .slice none 0 0, .int .i64 0, .slice none 0 0, .slice none 0 0, .slice none 0 0, .bool false, .int .u32 0, .int .u32 0, .int .u32 0, .int .u32 0, .slice none 0 0]
              simp only [World.size_alloc] at this
              exact Blk.drew (hN ▸ this)
            have st : Step (fun _ => False) w3 (((w3.alloc (.cells #[.slice none 0 0, .slice none 0 0, .slice none 0 0, .slice none 0 0, .slice none 0 0, .slice none 0 0, .slice none 0 0, .int .i64 0, .slice none 0 0, .slice none 0 0, .slice none 0 0, .bool false, .int .u32 0, .int .u32 0, .int .u32 0, .int .u32 0, .slice none 0 0] 53)).alloc (.cells #[.slice none 0 0, .slice none 0 0, .slice none 0 0, .slice none 0 0, .slice none 0 0, .slice none 0 0, .slice none 0 0, .int .i64 0, .slice none 0 0, .slice none 0 0, .slice none 0 0, .bool false, .int .u32 0, .int .u32 0, .int .u32 0, .int .u32 0, .slice none 0 0] 53)).drew) := ((Step.refl.alloc _).alloc _).drew
            have hge : w3.heap.size ≤ N := Nat.le_of_eq hN
            have hge1 : w3.heap.size ≤ N + 1 := by omega
            generalize ((w3.alloc (.cells #[.slice none 0 0, .slice none 0 0, .slice none 0 0, .slice none 0 0, .slice none 0 0, .slice none 0 0, .slice none 0 0, .int .i64 0, .slice none 0 0, .slice none 0 0, .slice none 0 0, .bool false, .int .u32 0, .int .u32 0, .int .u32 0, .int .u32 0, .slice none 0 0] 53)).alloc (.cells #[.slice none 0 0, .slice none 0 0, .slice none 0 0, .slice none 0 0, .slice none 0 0, .slice none 0 0, .slice none 0 0, .int .i64 0, .slice none 0 0, .slice none 0 0, .slice none 0 0, .bool false, .int .u32 0, .int .u32 0, .int .u32 0, .int .u32 0, .slice none 0 0] 53)).drew = V at *
            refine Mxt.wpTL_op (by rfl) (fun K hK => ?_)
            refine step_st_mod (g := N) (cs := C) (old := #[.slice none 0 0, .slice none 0 0, .slice none 0 0, .slice none 0 0, .slice none 0 0, .slice none 0 0, .slice none 0 0, .int .i64 0, .slice none 0 0, .slice none 0 0, .slice none 0 0, .bool false, .int .u32 0, .int .u32 0, .int .u32 0, .int .u32 0, .slice none 0 0]) (by rfl) _ _ (by rfl) rfl (by rfl) (by rfl) b1 rfl H17.out H1.out ?_
            refine hK _ _ (fun hlt => Mix.cl (st.setRow (.inr hge) C)) ?_
            clear hK K
            refine Mxt.wpTL_op (by rfl) (fun K hK => ?_)
            refine step_st_mod (g := N + 1) (cs := C) (old := #[.slice none 0 0, .slice none 0 0, .slice none 0 0, .slice none 0 0, .slice none 0 0, .slice none 0 0, .slice none 0 0, .int .i64 0, .slice none 0 0, .slice none 0 0, .slice none 0 0, .bool false, .int .u32 0, .int .u32 0, .int .u32 0, .int .u32 0, .slice none 0 0]) (by rfl) _ _ (by rfl) rfl (by rfl) (by rfl) ((b2).step (F := fun k => k = N) (Step.setRow (F := fun k => k = N) Step.refl (g := N) (.inl rfl) C) (by omega)) rfl H17.out H1.out ?_
            refine hK _ _ (fun hlt => absurd hlt (by decide)) ?_
            clear hK K
            refine Mxt.wpTL_leaf ?_
            go_wp2_with fail
            go_meet
            exact ⟨N, N + 1, rfl, rfl, by omega, by omega, by omega, Lib.hid (((b1).row C).step (F := fun k => k = N + 1) (Step.setRow (F := fun k => k = N + 1) Step.refl (g := N + 1) (.inl rfl) C) (by omega)), Lib.hid (((b2).step (F := fun k => k = N) (Step.setRow (F := fun k => k = N) Step.refl (g := N) (.inl rfl) C) (by omega)).row C), Lib.hid ((st.setRow (.inr hge) C).setRow (.inr hge1) C)⟩
          · refine Mxt.wpTL_op (by rfl) (fun K hK => ?_)
            go_simp
            refine hK _ _ (fun hlt => Mix.cl ((Step.refl.alloc _).drew)) ?_
            clear hK K
            refine Mxt.wpTL_op (by rfl) (fun K hK => ?_)
            go_simp
            refine hK _ _ (fun hlt => Mix.cl (((Step.refl.alloc _).alloc _).drew)) ?_
            clear hK K
            have b1 : Blk (((w3.alloc (.cells #[.slice none 0 0, .slice none 0 0, .slice none 0 0, .slice none 0 0, .slice none 0 0, .slice none 0 0, .slice none 0 0, .int .i64 0, .slice none 0 0, .slice none 0 0, .slice none 0 0, .bool false, .int .u32 0, .int .u32 0, .int .u32 0, .int .u32 0, .slice none 0 0] 53)).alloc (.cells #[.slice none 0 0, .slice none 0 0, .slice none 0 0, .slice none 0 0, .slice none 0 0, .slice none 0 0, .slice none 0 0, .int .i64 0, .slice none 0 0, .slice none 0 0, .slice none 0 0, .bool false, .int .u32 0, .int .u32 0, .int .u32 0, .int .u32 0, .slice none 0 0] 53)).drew) N 53 #[.slice none 0 0, .slice none 0 0, .slice none 0 0, .slice none 0 0, .slice none 0 0, .slice none 0 0, .slice none 0 0, .int .i64 0, .slice none 0 0, .slice none 0 0, .slice none 0 0, .bool false, .int .u32 0, .int .u32 0, .int .u32 0, .int .u32 0, .slice none 0 0] := ((hN ▸ Blk.new w3 53 #[.slice none 0 0, .slice none 0 0, .slice none 0 0, .slice none 0 0, .slice none 0 0, .slice none 0 0, .slice none 0 0, .int .i64 0, .slice none 0 0, .slice none 0 0, .slice none 0 0, .bool false, .int .u32 0, .int .u32 0, .int .u32 0, .int .u32 0, .slice none 0 0] : Blk (w3.alloc (.cells #[.slice none 0 0, .slice none 0 0, .slice none 0 0, .slice none 0 0, .slice none 0 0, .slice none 0 0, .slice none 0 0, .int .i64 0, .slice none 0 0, .slice none 0 0, .slice none 0 0, .bool false, .int .u32 0, .int .u32 0, .int .u32 0, .int .u32 0, .slice none 0 0] 53)) N 53 #[.slice none 0 0, .slice none 0 0, .slice none 0 0, .slice none 0 0, .slice none 0 0, .slice none 0 0, .slice none 0 0, .int .i64 0, .slice none 0 0, .slice none 0 0, .slice none 0 0, .bool false, .int .u32 0, .int .u32 0, .int .u32 0, .int .u32 0, .slice none 0 0]).alloc _).drew
            have b2 : Blk (((w3.alloc (.cells #[.slice none 0 0, .slice none 0 0, .slice none 0 0, .slice none 0 0, .slice none 0 0, .slice none 0 0, .slice none 0 0, .int .i64 0, .slice none 0 0, .slice none 0 0, .slice none 0 0, .bool false, .int .u32 0, .int .u32 0, .int .u32 0, .int .u32 0, .slice none 0 0] 53)).alloc (.cells #[.slice none 0 0, .slice none 0 0, .slice none 0 0, .slice none 0 0, .slice none 0 0, .slice none 0 0, .slice none 0 0, .int .i64 0, .slice none 0 0, .slice none 0 0, .slice none 0 0, .bool false, .int .u32 0, .int .u32 0, .int .u32 0, .int .u32 0, .slice none 0 0] 53)).drew) (N + 1) 53 #[.slice none 0 0, .slice none 0 0, .slice none 0 0, .slice none 0 0, .slice none 0 0, .slice none 0 0, .slice none 0 0, .int .i64 0, .slice none 0 0, .slice none 0 0, .slice none 0 0, .bool false, .int .u32 0, .int .u32 0, .int .u32 0, .int .u32 0, .slice none 0 0] := by
              have := Blk.new (w3.alloc (.cells #[.slice none 0 0, .slice none 0 0, .slice none 0 0, .slice none 0 0, .slice none 0 0, .slice none 0 0, .slice none 0 0, .int .i64 0, .slice none 0 0, .slice none 0 0, .slice none 0 0, .bool false, .int .u32 0, .int .u32 0, .int .u32 0, .int .u32 0, .slice none 0 0] 53)) 53 #[.slice none 0 0, .slice none 0 0, .slice none 0 0, .slice none 0 0, .slice none 0 0, .slice none 0 0, .slice none 0 0, .int .i64 0, .slice none 0 0, .slice none 0 0, .slice none 0 0, .bool false, .int .u32 0, .int .u32 0, .int .u32 0, .int .u32 0, .slice none 0 0]
              simp only [World.size_alloc] at this
              exact Blk.drew (hN ▸ this)
            have st : Step (fun _ => False) w3 (((w3.alloc (.cells #[.slice none 0 0, .slice none 0 0, .slice none 0 0, .slice none 0 0, .slice none 0 0, .slice none 0 0, .slice none 0 0, .int .i64 0, .slice none 0 0, .slice none 0 0, .slice none 0 0, .bool false, .int .u32 0, .int .u32 0, .int .u32 0, .int .u32 0, .slice none 0 0] 53)).alloc (.cells #[.slice none 0 0, .slice none 0 0, .slice none 0 0, .slice none 0 0, .slice none 0 0, .slice none 0 0, .slice none 0 0, .int .i64 0, .slice none 0 0, .slice none 0 0, .slice none 0 0, .bool false, .int .u32 0, .int .u32 0, .int .u32 0, .int .u32 0, .slice none 0 0] 53)).drew) := ((Step.refl.alloc _).alloc _).drew
            have hge : w3.heap.size ≤ N := Nat.le_of_eq hN
            have hge1 : w3.heap.size ≤ N + 1 := by omega
            generalize ((w3.alloc (.cells #[.slice none 0 0, .slice none 0 0, .slice none 0 0, .slice none 0 0, .slice none 0 0, .slice none 0 0, .slice none 0 0, .int .i64 0, .slice none 0 0, .slice none 0 0, .slice none 0 0, .bool false, .int .u32 0, .int .u32 0, .int .u32 0, .int .u32 0, .slice none 0 0] 53)).alloc (.cells #[.slice none 0 0, .slice none 0 0, .slice none 0 0, .slice none 0 0, .slice none 0 0, .slice none 0 0, .slice none 0 0, .int .i64 0, .slice none 0 0, .slice none 0 0, .slice none 0 0, .bool false, .int .u32 0, .int .u32 0, .int .u32 0, .int .u32 0, .slice none 0 0] 53)).drew = V at *
            refine Mxt.wpTL_op (by rfl) (fun K hK => ?_)
            refine step_st_mod (g := N + 1) (cs := C) (old := #[.slice none 0 0, .slice none 0 0, .slice none 0 0, .slice none 0 0, .slice none 0 0, .slice none 0 0, .slice none 0 0, .int .i64 0, .slice none 0 0, .slice none 0 0, .slice none 0 0, .bool false, .int .u32 0, .int .u32 0, .int .u32 0, .int .u32 0, .slice none 0 0]) (by rfl) _ _ (by rfl) rfl (by rfl) (by rfl) b2 rfl H17.out H1.out ?_
            refine hK _ _ (fun hlt => Mix.cl (st.setRow (.inr hge1) C)) ?_
            clear hK K
            refine Mxt.wpTL_op (by rfl) (fun K hK => ?_)
            refine step_st_mod (g := N) (cs := C) (old := #[.slice none 0 0, .slice none 0 0, .slice none 0 0, .slice none 0 0, .slice none 0 0, .slice none 0 0, .slice none 0 0, .int .i64 0, .slice none 0 0, .slice none 0 0, .slice none 0 0, .bool false, .int .u32 0, .int .u32 0, .int .u32 0, .int .u32 0, .slice none 0 0]) (by rfl) _ _ (by rfl) rfl (by rfl) (by rfl) ((b1).step (F := fun k => k = N + 1) (Step.setRow (F := fun k => k = N + 1) Step.refl (g := N + 1) (.inl rfl) C) (by omega)) rfl H17.out H1.out ?_
            refine hK _ _ (fun hlt => absurd hlt (by decide)) ?_
            clear hK K
            refine Mxt.wpTL_leaf ?_
            go_wp2_with fail
            go_meet
            exact ⟨N + 1, N, rfl, rfl, by omega, by omega, by omega, Lib.hid (((b2).row C).step (F := fun k => k = N) (Step.setRow (F := fun k => k = N) Step.refl (g := N) (.inl rfl) C) (by omega)), Lib.hid (((b1).step (F := fun k => k = N + 1) (Step.setRow (F := fun k => k = N + 1) Step.refl (g := N + 1) (.inl rfl) C) (by omega)).row C), Lib.hid ((st.setRow (.inr hge1) C).setRow (.inr hge) C)⟩
        case rest =>
          obtain ⟨B5, B6, rfl, rfl, n56, hg5, hg6, HB5, HB6, T4⟩ := hcut
          have S1a := S1
          have BXa := B0.out.lt
          have BTa := BT.out.lt
          replace B0 := Lib.hid (B0.out.step T4.out id)
          replace HM := Lib.hid (HM.out.step T4.out (fun _ _ => id))
          replace S1 := Lib.hid (S1.out.trans T4.out)
          replace BT := Lib.hid (BT.out.step T4.out id)
          generalize wc = w4 at *
          have hgeB5 : w.heap.size ≤ B5 := by have := S1a.out.size; omega
          have hgeB6 : w.heap.size ≤ B6 := by have := S1a.out.size; omega
          have lB5 : X < B5 := by have := BXa; omega
          have nB5 : ¬ X = B5 := by omega
          have lB6 : X < B6 := by have := BXa; omega
          have nB6 : ¬ X = B6 := by omega
          have nTB5 : ¬ XT = B5 := by have := BTa; omega
          have nTB6 : ¬ XT = B6 := by have := BTa; omega
          have hl5 := HB5.out.lt
          clear T4 hg5 hg6 hN S1a BXa BTa
          obtain ⟨w5, hw5⟩ : ∃ w5, w5 = ((w4.setCell ⟨B5, 6, none⟩ (.slice none 0 0)).setCell ⟨B5, 7, none⟩ (.int .i64 (-1))).setCell ⟨B5, 10, none⟩ (.slice none 0 0) := ⟨_, rfl⟩
          have T5 : Step (fun k => k = B5) w4 w5 := by rw [hw5]; exact ((Step.setCell (F := fun k => k = B5) (p := ⟨B5, 6, none⟩) Step.refl (.inl rfl) _).setCell (p := ⟨B5, 7, none⟩) (.inl rfl) _).setCell (p := ⟨B5, 10, none⟩) (.inl rfl) _
          have HX5 : Hid (Blk w5 B5 53 (#[.slice a.A0 M.types.length a.c0, .slice a.A1 M.imports.length a.c1, .slice a.A2 M.funcs.length a.c2, .slice a.A3 M.tables.length a.c3, .slice a.A4 M.mems.length a.c4, .slice a.A5 M.globals.length a.c5, .slice none 0 0, .int .i64 (-1), .slice a.A8 M.elems.length a.c8, .slice a.A9 M.codes.length a.c9, .slice none 0 0, .bool M.has, .int .u32 (M.d1 : Int), .int .u32 (M.d2 : Int), .int .u32 (M.d3 : Int), .int .u32 (M.d4 : Int), .slice a.A16 M.nd.length a.c16])) := by
            have h := ((HB5.out.set_ 6 (.slice none 0 0)).set_ 7 (.int .i64 (-1))).set_ 10 (.slice none 0 0)
            rw [← hw5, hC.out] at h
            exact h
          have HC6 : Hid (C[6]? = some (.slice a.A6 M.exports.length a.c6)) := by rw [hC.out]; rfl
          have HC7 : Hid (C[7]? = some (.int .i64 M.start)) := by rw [hC.out]; rfl
          have HC10 : Hid (C[10]? = some (.slice a.A10 M.datas.length a.c10)) := by rw [hC.out]; rfl
          have p6 := (HB5.out.cell 6).trans HC6.out
          have p7 := (HB5.out.cell 7).trans HC7.out
          have p10 := (HB5.out.cell 10).trans HC10.out
          have pf6 := HB5.out.frozen 6
          have pf7 := HB5.out.frozen 7
          have pf10 := HB5.out.frozen 10
          replace B0 := Lib.hid (B0.out.step T5 nB5)
          replace BT := Lib.hid (BT.out.step T5 nTB5)
          replace HB6 := Lib.hid (HB6.out.step T5 (fun e => n56 e.symm))
          replace HM := Lib.hid (HM.out.step T5 (fun q hq e => by have := HIN.out q hq; have := lB5; omega))
          replace S1 := Lib.hid (S1.out.trans' T5 (fun q hq => .inr (by rw [hq]; exact hgeB5)))
          go_upto_region 9 with fail
          rw [← hw5]
          clear p6 p7 p10 pf6 pf7 pf10 T5 HC6 HC7 HC10 HB5 hl5
          replace HB5 := HX5
          clear HX5 hw5
          have HC0 : Hid (C[0]? = some (.slice a.A0 M.types.length a.c0)) := by rw [hC.out]; rfl
          have c1 := (B0.out.cell 0).trans HC0.out
          have d1 := cls_cell (F := fun _ => False) c1 id
          have y0 := BT.out.cell 0
          have y1 := BT.out.cell 1
          simp at y0 y1
          have g0 := cls_cell (F := fun _ => False) y0 id
          have g1 := cls_cell (F := fun _ => False) y1 id
          clear c1 y0 y1
          have hsrc := HM.out.types
          have hone1 := fts_one M.types
          have hone2 : ∀ u ∈ (#[.string (str tp), .string (str tq)] : Array Value).toList, u.oneCell' = true := by simp [Value.oneCell']
          have hil : M.types.length ≤ 40 := by have := HSL.out.2.1; omega
          have hm1 : 0 + M.types.length ≤ maxLen := by unfold maxLen; omega
          have hm2 : M.types.length + 1 ≤ maxLen := by unfold maxLen; omega
          go_cut [] (fun wq => ∃ D c', Hid (Blk wq B6 53 (C.setIfInBounds 0 (.slice D (M.types.length + 1) c'))) ∧ Hid (wq.ownsRow w5.heap.size 28 2 (.slice D (M.types.length + 1) c') (M.types.length + 1) ([] ++ M.types.flatMap ftC ++ (#[.string (str tp), .string (str tq)] : Array Value).toList)) ∧ Hid (Step (fun k => k = B6) w5 wq))
          case first =>
            have hz1 : (w5.alloc (.cells #[.string (str tp), .string (str tq)] 28)).heap.size = w5.heap.size + 1 := by simp
            have hz0 : (w5.alloc (.cells #[] 28)).heap.size = w5.heap.size + 1 := by simp
            have hfA : (w5.alloc (.cells #[] 28)).drew.ownsRow w5.heap.size 28 2 (.slice (some ⟨w5.heap.size, 0, none⟩) 0 0) 0 [] := own_drew (own_fresh 2 (Nat.le_refl _))
            have hrA := hsrc.step (F := fun _ => False) (Step.drew (Step.alloc Step.refl (.cells #[] 28))) (fun _ _ => id)
            have hfB : ((w5.alloc (.cells #[] 28)).alloc (.cells #[.string (str tp), .string (str tq)] 28)).drew.ownsRow w5.heap.size 28 2 (.slice (some ⟨w5.heap.size, 0, none⟩) 0 0) 0 [] := own_drew ((own_fresh 2 (Nat.le_refl _)).alloc _)
            have hrB := hsrc.step (F := fun _ => False) (Step.drew (Step.alloc (Step.alloc Step.refl (.cells #[] 28)) (.cells #[.string (str tp), .string (str tq)] 28))) (fun _ _ => id)
            have hxB := (reads_new (w5.alloc (.cells #[] 28)) #[.string (str tp), .string (str tq)] 28 2 1 rfl).drew
            have hfC : ((w5.alloc (.cells #[.string (str tp), .string (str tq)] 28)).alloc (.cells #[] 28)).drew.ownsRow w5.heap.size 28 2 (.slice (some ⟨w5.heap.size + 1, 0, none⟩) 0 0) 0 [] := by
              have := own_drew (own_fresh (w := w5.alloc (.cells #[.string (str tp), .string (str tq)] 28)) (e := 28) (base := w5.heap.size) 2 (by omega))
              rwa [hz1] at this
            have hrC := hsrc.step (F := fun _ => False) (Step.drew (Step.alloc (Step.alloc Step.refl (.cells #[.string (str tp), .string (str tq)] 28)) (.cells #[] 28))) (fun _ _ => id)
            have hxC := ((reads_new w5 #[.string (str tp), .string (str tq)] 28 2 1 rfl).step (F := fun _ => False) (Step.alloc Step.refl (.cells #[] 28)) (fun _ _ => id)).drew
            rw [hz0] at hxB
            refine Mxt.wp_region_tree [0, 3, 5, 6, 8] [0, 3, 5, 6] (.fork (.op 0 (.reads [1, 2] (.fork (.op 3 (.reads [4] (.op 5 (.op 6 (.reads [7] (.op 8 .leaf)))))) (.reads [4] (.op 5 (.op 3 (.op 6 (.reads [7] (.op 8 .leaf))))))))) (.reads [4] (.op 5 (.reads [1, 2] (.op 0 (.op 3 (.op 6 (.reads [7] (.op 8 .leaf))))))))) (Step (fun _ => False) w5) (by kernel_rfl) (by kernel_rfl) Step.refl.drew (fun hcls => ?_)
            refine Mxt.wpTL_fork ?_ ?_
            · refine Mxt.wpTL_op (by rfl) (fun K hK => ?_)
              go_simp
              refine hK _ _ (fun hlt => Mix.cl (Step.drew (Step.alloc Step.refl _))) ?_
              clear hK K
              refine Mxt.wpTL_reads ?_
              simp only [List.flatMap_cons, List.flatMap_nil, List.getElem?_cons_succ, List.getElem?_cons_zero, Option.toList_some, List.cons_append, List.nil_append]
              repeat (go_big_quiet_step (fail))
              refine wpQuiet_nil ?_
              refine Mxt.wpTL_fork ?_ ?_
              · refine Mxt.wpTL_op (by rfl) (fun K hK => ?_)
                refine step_append_new (w0 := w5) (by rfl) _ _ (by rfl) E_ftc (Step.drew (Step.alloc Step.refl _)) (by rfl) (hfA) (by rfl) (hrA) hone1 hm1 (by omega) ?_
                intro D1 c1 W1 hown1 hS1 hgrow1 hat1
                refine hK _ _ (fun hlt => Mix.cl hS1) ?_
                clear hK K
                simp only [Act.put, List.setIfInBounds_toArray, List.set_cons_succ, List.set_cons_zero, Nat.zero_add]
                simp only [Nat.zero_add] at hown1
                refine Mxt.wpTL_reads ?_
                simp only [List.flatMap_cons, List.flatMap_nil, List.getElem?_cons_succ, List.getElem?_cons_zero, Option.toList_some, List.cons_append, List.nil_append]
                repeat (go_big_quiet_step (fail))
                refine wpQuiet_nil ?_
                refine Mxt.wpTL_op (by rfl) (fun K hK => ?_)
                go_simp
                refine hK _ _ (fun hlt => Mix.cl (Step.alloc hS1 _)) ?_
                clear hK K
                refine Mxt.wpTL_op (by rfl) (fun K hK => ?_)
                refine step_append_new (w0 := w5) (by rfl) _ _ (by rfl) E_ftc (Step.alloc hS1 _) (by rfl) (hown1.alloc _) (by rfl) (reads_new W1 #[.string (str tp), .string (str tq)] 28 2 1 rfl) hone2 hm2 (by omega) ?_
                intro D2 c2 W2 hown2 hS2 hgrow2 hat2
                refine hK _ _ (fun hlt => Mix.cl hS2) ?_
                clear hK K
                simp only [Act.put, List.setIfInBounds_toArray, List.set_cons_succ, List.set_cons_zero, Nat.zero_add]
                refine Mxt.wpTL_reads ?_
                simp only [List.flatMap_cons, List.flatMap_nil, List.getElem?_cons_succ, List.getElem?_cons_zero, Option.toList_some, List.cons_append, List.nil_append]
                repeat (go_big_quiet_step (fail))
                refine wpQuiet_nil ?_
                have c6 := (HB6.out.step hS2 id).cell 0
                rw [HC0.out] at c6
                have f6 := (HB6.out.step hS2 id).frozen 0
                refine Mxt.wpTL_op (by rfl) (fun K hK => ?_)
                go_simp
                refine hK _ _ (fun hlt => absurd hlt (by decide)) ?_
                clear hK K
                refine Mxt.wpTL_leaf ?_
                go_wp2_with fail
                go_meet
                exact ⟨_, _, Lib.hid ((HB6.out.step hS2 id).set_ 0 _), Lib.hid (own_set hown2 (by intro e; have h9 := own_ge hown2 _ e; have h8 := HB6.out.lt; simp at h9; omega) _), Lib.hid ((hS2.mono (fun _ _ h => h.elim) : Step (fun k => k = B6) w5 W2).setCell (p := ⟨B6, 0, none⟩) (.inl rfl) _)⟩
              · refine Mxt.wpTL_reads ?_
                simp only [List.flatMap_cons, List.flatMap_nil, List.getElem?_cons_succ, List.getElem?_cons_zero, Option.toList_some, List.cons_append, List.nil_append]
                repeat (go_big_quiet_step (fail))
                refine wpQuiet_nil ?_
                refine Mxt.wpTL_op (by rfl) (fun K hK => ?_)
                go_simp
                refine hK _ _ (fun hlt => Mix.cl (Step.drew (Step.alloc (Step.alloc Step.refl _) _))) ?_
                clear hK K
                refine Mxt.wpTL_op (by rfl) (fun K hK => ?_)
                refine step_append_new (w0 := w5) (by rfl) _ _ (by rfl) E_ftc (Step.drew (Step.alloc (Step.alloc Step.refl _) _)) (by rfl) (hfB) (by rfl) (hrB) hone1 hm1 (by omega) ?_
                intro D1 c1 W1 hown1 hS1 hgrow1 hat1
                refine hK _ _ (fun hlt => Mix.cl hS1) ?_
                clear hK K
                simp only [Act.put, List.setIfInBounds_toArray, List.set_cons_succ, List.set_cons_zero, Nat.zero_add]
                simp only [Nat.zero_add] at hown1
                have hx1 := hxB.step (Step.grown (F := fun k => blkOf (some (⟨w5.heap.size, 0, none⟩ : Addr)) = some k) Step.refl hgrow1 (fun k hk => .inl hk)) (fun k hk e => by simp [blkOf] at e; omega)
                refine Mxt.wpTL_op (by rfl) (fun K hK => ?_)
                refine step_append_new (w0 := w5) (by rfl) _ _ (by rfl) E_ftc (hS1) (by rfl) (hown1) (by rfl) (hx1) hone2 hm2 (by omega) ?_
                intro D2 c2 W2 hown2 hS2 hgrow2 hat2
                refine hK _ _ (fun hlt => Mix.cl hS2) ?_
                clear hK K
                simp only [Act.put, List.setIfInBounds_toArray, List.set_cons_succ, List.set_cons_zero, Nat.zero_add]
                refine Mxt.wpTL_reads ?_
                simp only [List.flatMap_cons, List.flatMap_nil, List.getElem?_cons_succ, List.getElem?_cons_zero, Option.toList_some, List.cons_append, List.nil_append]
                repeat (go_big_quiet_step (fail))
                refine wpQuiet_nil ?_
                have c6 := (HB6.out.step hS2 id).cell 0
                rw [HC0.out] at c6
                have f6 := (HB6.out.step hS2 id).frozen 0
                refine Mxt.wpTL_op (by rfl) (fun K hK => ?_)
                go_simp
                refine hK _ _ (fun hlt => absurd hlt (by decide)) ?_
                clear hK K
                refine Mxt.wpTL_leaf ?_
                go_wp2_with fail
                go_meet
                exact ⟨_, _, Lib.hid ((HB6.out.step hS2 id).set_ 0 _), Lib.hid (own_set hown2 (by intro e; have h9 := own_ge hown2 _ e; have h8 := HB6.out.lt; simp at h9; omega) _), Lib.hid ((hS2.mono (fun _ _ h => h.elim) : Step (fun k => k = B6) w5 W2).setCell (p := ⟨B6, 0, none⟩) (.inl rfl) _)⟩
            · refine Mxt.wpTL_reads ?_
              simp only [List.flatMap_cons, List.flatMap_nil, List.getElem?_cons_succ, List.getElem?_cons_zero, Option.toList_some, List.cons_append, List.nil_append]
              repeat (go_big_quiet_step (fail))
              refine wpQuiet_nil ?_
              refine Mxt.wpTL_op (by rfl) (fun K hK => ?_)
              go_simp
              refine hK _ _ (fun hlt => Mix.cl (Step.drew (Step.alloc Step.refl _))) ?_
              clear hK K
              refine Mxt.wpTL_reads ?_
              simp only [List.flatMap_cons, List.flatMap_nil, List.getElem?_cons_succ, List.getElem?_cons_zero, Option.toList_some, List.cons_append, List.nil_append]
              repeat (go_big_quiet_step (fail))
              refine wpQuiet_nil ?_
              refine Mxt.wpTL_op (by rfl) (fun K hK => ?_)
              go_simp
              refine hK _ _ (fun hlt => Mix.cl (Step.drew (Step.alloc (Step.alloc Step.refl _) _))) ?_
              clear hK K
              refine Mxt.wpTL_op (by rfl) (fun K hK => ?_)
              refine step_append_new (w0 := w5) (by rfl) _ _ (by rfl) E_ftc (Step.drew (Step.alloc (Step.alloc Step.refl _) _)) (by rfl) (hfC) (by rfl) (hrC) hone1 hm1 (by omega) ?_
              intro D1 c1 W1 hown1 hS1 hgrow1 hat1
              refine hK _ _ (fun hlt => Mix.cl hS1) ?_
              clear hK K
              simp only [Act.put, List.setIfInBounds_toArray, List.set_cons_succ, List.set_cons_zero, Nat.zero_add]
              simp only [Nat.zero_add] at hown1
              have hx1 := hxC.step (Step.grown (F := fun k => blkOf (some (⟨w5.heap.size + 1, 0, none⟩ : Addr)) = some k) Step.refl hgrow1 (fun k hk => .inl hk)) (fun k hk e => by simp [blkOf] at e; omega)
              refine Mxt.wpTL_op (by rfl) (fun K hK => ?_)
              refine step_append_new (w0 := w5) (by rfl) _ _ (by rfl) E_ftc (hS1) (by rfl) (hown1) (by rfl) (hx1) hone2 hm2 (by omega) ?_
              intro D2 c2 W2 hown2 hS2 hgrow2 hat2
              refine hK _ _ (fun hlt => Mix.cl hS2) ?_
              clear hK K
              simp only [Act.put, List.setIfInBounds_toArray, List.set_cons_succ, List.set_cons_zero, Nat.zero_add]
              refine Mxt.wpTL_reads ?_
              simp only [List.flatMap_cons, List.flatMap_nil, List.getElem?_cons_succ, List.getElem?_cons_zero, Option.toList_some, List.cons_append, List.nil_append]
              repeat (go_big_quiet_step (fail))
              refine wpQuiet_nil ?_
              have c6 := (HB6.out.step hS2 id).cell 0
              rw [HC0.out] at c6
              have f6 := (HB6.out.step hS2 id).frozen 0
              refine Mxt.wpTL_op (by rfl) (fun K hK => ?_)
              go_simp
              refine hK _ _ (fun hlt => absurd hlt (by decide)) ?_
              clear hK K
              refine Mxt.wpTL_leaf ?_
              go_wp2_with fail
              go_meet
              exact ⟨_, _, Lib.hid ((HB6.out.step hS2 id).set_ 0 _), Lib.hid (own_set hown2 (by intro e; have h9 := own_ge hown2 _ e; have h8 := HB6.out.lt; simp at h9; omega) _), Lib.hid ((hS2.mono (fun _ _ h => h.elim) : Step (fun k => k = B6) w5 W2).setCell (p := ⟨B6, 0, none⟩) (.inl rfl) _)⟩
          case rest =>
            obtain ⟨D, c', HD6, HOW, T7⟩ := hcut
            replace B0 := Lib.hid (B0.out.step T7.out nB6)
            replace HM := Lib.hid (HM.out.step T7.out (fun q hq e => by have := HIN.out q hq; have := lB6; omega))
            replace S1 := Lib.hid (S1.out.trans' T7.out (fun q hq => .inr (by rw [hq]; exact hgeB6)))
            replace HB5 := Lib.hid (HB5.out.step T7.out n56)
            have hw57 : w5.heap.size ≤ wc.heap.size := T7.out.size
            generalize wc = w7 at *
            have hm6 : ModIn w7 (fun k => k < w7.heap.size) { a with A0 := D, c0 := c' } (addT M (tp, tq)) := by
              have h := HM.out.wide (R' := fun k => k < w7.heap.size) (fun q hq => HM.out.rin q hq) (fun _ h => h)
              have hi : Reads w7 (fun k => k < w7.heap.size) 2 D (M.types ++ [(tp, tq)]).length ((M.types ++ [(tp, tq)]).flatMap ftC) := by
                have h9 := Reads.of_own HOW.out
                have e : (M.types ++ [(tp, tq)]).flatMap ftC = [] ++ M.types.flatMap ftC ++ (#[.string (str tp), .string (str tq)] : Array Value).toList := by
                  rw [List.nil_append, List.flatMap_append]
                  rfl
                rw [e, List.length_append]
                exact h9.mono fun q hq _ => hq
              exact ⟨hi, h.imports, h.funcs, h.tables, h.mems, h.globals, h.exports, h.elems, h.codes, h.datas, h.nd, h.ndc, h.imb, h.fub, h.glb, h.exb, h.elb, h.cob, h.dab, h.rin⟩
            have hs6 : (addT M (tp, tq)).small := by
              have h := HSL.out.1
              exact ⟨by rw [addT, List.length_append]; show M.types.length + 1 ≤ 42; omega, h.imports, h.funcs, h.tables, h.mems, h.globals, h.exports, h.elems, h.codes, h.datas, h.nd, fun x hx => by
                rcases List.mem_append.1 hx with hx | hx
                · exact h.ft x hx
                · rw [List.mem_singleton.1 hx]
                  show tp.length ≤ 100
                  omega, h.ex, h.co, h.el⟩
            have hsx : (lessM M).small := by
              have h := HSL.out.1
              exact ⟨h.types, h.imports, h.funcs, h.tables, h.mems, h.globals, Nat.zero_le _, h.elems, h.codes, Nat.zero_le _, h.nd, h.ft, fun x hx => (by cases hx), h.co, h.el⟩
            have HVX : Hid (∀ W, ModIn W R a M → Calls Try.prog 11 #[.agg (#[.slice a.A0 M.types.length a.c0, .slice a.A1 M.imports.length a.c1, .slice a.A2 M.funcs.length a.c2, .slice a.A3 M.tables.length a.c3, .slice a.A4 M.mems.length a.c4, .slice a.A5 M.globals.length a.c5, .slice none 0 0, .int .i64 (-1), .slice a.A8 M.elems.length a.c8, .slice a.A9 M.codes.length a.c9, .slice none 0 0, .bool M.has, .int .u32 (M.d1 : Int), .int .u32 (M.d2 : Int), .int .u32 (M.d3 : Int), .int .u32 (M.d4 : Int), .slice a.A16 M.nd.length a.c16])] W fun e w' => e = .returned (.agg #[.int .i64 0, .int .i64 0, .int .i64 0]) ∧ Step (fun _ => False) W w') := fun W h => by
              have hx : ModIn W R { a with A6 := none, c6 := 0, A10 := none, c10 := 0 } (lessM M) := ⟨h.types, h.imports, h.funcs, h.tables, h.mems, h.globals, Reads.nil_, h.elems, h.codes, Reads.nil_, h.nd, h.ndc, h.imb, h.fub, h.glb, fun x hx => (by cases hx), h.elb, h.cob, fun x hx => (by cases hx), h.rin⟩
              have h9 := v_module hx hsx
              rw [lessM_no HOK.out] at h9
              exact h9
            obtain ⟨CX, hCX⟩ : ∃ CX : Array Value, CX = #[.slice a.A0 M.types.length a.c0, .slice a.A1 M.imports.length a.c1, .slice a.A2 M.funcs.length a.c2, .slice a.A3 M.tables.length a.c3, .slice a.A4 M.mems.length a.c4, .slice a.A5 M.globals.length a.c5, .slice none 0 0, .int .i64 (-1), .slice a.A8 M.elems.length a.c8, .slice a.A9 M.codes.length a.c9, .slice none 0 0, .bool M.has, .int .u32 (M.d1 : Int), .int .u32 (M.d2 : Int), .int .u32 (M.d3 : Int), .int .u32 (M.d4 : Int), .slice a.A16 M.nd.length a.c16] := ⟨_, rfl⟩
            have HX17 : Hid (CX.size = 17) := by rw [hCX]; rfl
            rw [← hCX] at HVX HB5
            clear hCX
            obtain ⟨f7, hf7⟩ : ∃ f : Ft, f = modF (addT M (tp, tq)) := ⟨_, rfl⟩
            have h7 := addT_tel HOK.out (tp, tq)
            rw [← hf7] at h7
            obtain ⟨C6, hC6⟩ : ∃ C6, C6 = C.setIfInBounds 0 (.slice D (M.types.length + 1) c') := ⟨_, rfl⟩
            have hv : Calls Try.prog 11 #[.agg C6] w7 fun e w' => e = .returned (.agg #[.int .i64 f7.why, .int .i64 f7.list, .int .i64 f7.at_]) ∧ Step (fun _ => False) w7 w' := by
              have h := v_module hm6 hs6
              rw [← hf7] at h
              rw [hC6, hC.out]
              rw [addT_len] at h
              exact h
            have H6 : Hid (C6.size = 17) := by rw [hC6, Array.size_setIfInBounds]; exact H17.out
            rw [← hC6] at HD6
            clear hm6 hs6 HOW hC6 hf7 d1 g0 g1 hsrc hone1 hone2 hm1 hm2 T7 hw57 hsx
            rcases h7 with h7 | ⟨h7, h8⟩
            · rw [h7] at hv
              have HV6 := Lib.hid (show Calls Try.prog 11 #[.agg C6] w7 fun e w' => e = .returned (.agg #[.int .i64 0, .int .i64 0, .int .i64 0]) ∧ Step (fun _ => False) w7 w' from hv)
              clear hv h7
              go_wp2_with (refine ld_mod_g (by rfl) _ rfl _ rfl C6 HD6.out H6.out ?_)
              refine HV6.out.mono ?_
              rintro e w8 ⟨rfl, t8⟩
              replace B0 := Lib.hid (B0.out.step t8 id)
              replace HM := Lib.hid (HM.out.step t8 (fun _ _ => id))
              replace S1 := Lib.hid (S1.out.trans t8)
              replace HB5 := Lib.hid (HB5.out.step t8 id)
              clear t8 HV6 HD6 H6
              have a8 : Step (fun _ => False) w8 (w8.alloc (.cells #[.int .i64 0, .int .i64 0, .int .i64 0] 56)) := Step.refl.alloc _
              have HB8 := Lib.hid (Blk.new w8 56 #[.int .i64 0, .int .i64 0, .int .i64 0])
              have lX8 := B0.out.lt
              replace B0 := Lib.hid (B0.out.step a8 id)
              replace HM := Lib.hid (HM.out.step a8 (fun _ _ => id))
              replace S1 := Lib.hid (S1.out.trans a8)
              replace HB5 := Lib.hid (HB5.out.step a8 id)
              clear a8
              go_upto_region 11 with fail
              generalize w8.alloc (.cells #[.int .i64 0, .int .i64 0, .int .i64 0] 56) = w9 at *
              generalize w8.heap.size = B8 at *
              have HV5 := Lib.hid (HVX.out w9 HM.out)
              clear HVX
              go_wp2_with (refine ld_mod_g (by rfl) _ rfl _ rfl CX HB5.out HX17.out ?_)
              refine HV5.out.mono ?_
              rintro e w10 ⟨rfl, t10⟩
              replace B0 := Lib.hid (B0.out.step t10 id)
              replace HM := Lib.hid (HM.out.step t10 (fun _ _ => id))
              replace S1 := Lib.hid (S1.out.trans t10)
              replace HB8 := Lib.hid (HB8.out.step t10 id)
              have z0 := HB8.out.cell 0
              have z1 := HB8.out.cell 1
              have z2 := HB8.out.cell 2
              simp at z0 z1 z2
              have HC0 : Hid (C[0]? = some (.slice a.A0 M.types.length a.c0)) := by rw [hC.out]; rfl
              have y0 := (B0.out.cell 0).trans HC0.out
              clear t10 HV5 HB5
              go_wp2_with fail
              go_ret
              exact ⟨rfl, S1.out⟩
            · rw [h7, h8] at hv
              have HV6 := Lib.hid hv
              clear hv h7 h8
              generalize f7.why = y7 at *
              go_wp2_with (refine ld_mod_g (by rfl) _ rfl _ rfl C6 HD6.out H6.out ?_)
              refine HV6.out.mono ?_
              rintro e w8 ⟨rfl, t8⟩
              replace B0 := Lib.hid (B0.out.step t8 id)
              replace HM := Lib.hid (HM.out.step t8 (fun _ _ => id))
              replace S1 := Lib.hid (S1.out.trans t8)
              replace HB5 := Lib.hid (HB5.out.step t8 id)
              clear t8 HV6 HD6 H6
              have a8 : Step (fun _ => False) w8 (w8.alloc (.cells #[.int .i64 y7, .int .i64 1, .int .i64 (M.types.length : Int)] 56)) := Step.refl.alloc _
              have HB8 := Lib.hid (Blk.new w8 56 #[.int .i64 y7, .int .i64 1, .int .i64 (M.types.length : Int)])
              have lX8 := B0.out.lt
              replace B0 := Lib.hid (B0.out.step a8 id)
              replace HM := Lib.hid (HM.out.step a8 (fun _ _ => id))
              replace S1 := Lib.hid (S1.out.trans a8)
              replace HB5 := Lib.hid (HB5.out.step a8 id)
              clear a8
              go_upto_region 11 with fail
              generalize w8.alloc (.cells #[.int .i64 y7, .int .i64 1, .int .i64 (M.types.length : Int)] 56) = w9 at *
              generalize w8.heap.size = B8 at *
              have HV5 := Lib.hid (HVX.out w9 HM.out)
              clear HVX
              go_wp2_with (refine ld_mod_g (by rfl) _ rfl _ rfl CX HB5.out HX17.out ?_)
              refine HV5.out.mono ?_
              rintro e w10 ⟨rfl, t10⟩
              replace B0 := Lib.hid (B0.out.step t10 id)
              replace HM := Lib.hid (HM.out.step t10 (fun _ _ => id))
              replace S1 := Lib.hid (S1.out.trans t10)
              replace HB8 := Lib.hid (HB8.out.step t10 id)
              have z0 := HB8.out.cell 0
              have z1 := HB8.out.cell 1
              have z2 := HB8.out.cell 2
              simp at z0 z1 z2
              have HC0 : Hid (C[0]? = some (.slice a.A0 M.types.length a.c0)) := by rw [hC.out]; rfl
              have y0 := (B0.out.cell 0).trans HC0.out
              clear t10 HV5 HB5
              go_wp2_with fail
              go_ret
              exact ⟨rfl, S1.out⟩
      · have e1 : (f0.why != 0) = true := by simpa using hz
        have HZ := Lib.hid hz
        clear hz
        go_wp2_with fail
        go_ret
        exact ⟨rfl, S1.out⟩
theorem less_all (W : World) (a : Md) (M : Mv) (tp tq : List UInt8) (hM : ModIn W (fun k => k < W.heap.size) a M) (hcap : M.types.length ≤ 300000000000000 ∧ M.imports.length ≤ 300000000000000 ∧ M.funcs.length ≤ 300000000000000 ∧ M.tables.length ≤ 300000000000000 ∧ M.mems.length ≤ 300000000000000 ∧ M.globals.length ≤ 300000000000000 ∧ M.exports.length ≤ 300000000000000 ∧ M.elems.length ≤ 300000000000000 ∧ M.codes.length ≤ 300000000000000 ∧ M.datas.length ≤ 300000000000000) :
    Calls Try.prog 4 #[.agg #[.slice a.A0 M.types.length a.c0, .slice a.A1 M.imports.length a.c1, .slice a.A2 M.funcs.length a.c2, .slice a.A3 M.tables.length a.c3, .slice a.A4 M.mems.length a.c4, .slice a.A5 M.globals.length a.c5, .slice a.A6 M.exports.length a.c6, .int .i64 M.start, .slice a.A8 M.elems.length a.c8, .slice a.A9 M.codes.length a.c9, .slice a.A10 M.datas.length a.c10, .bool M.has, .int .u32 (M.d1 : Int), .int .u32 (M.d2 : Int), .int .u32 (M.d3 : Int), .int .u32 (M.d4 : Int), .slice a.A16 M.nd.length a.c16], .agg #[.string (str tp), .string (str tq)]] W fun e W' => e = .returned (.bool true) ∧ Below W.heap.size W W' :=
  (less_walk W _ a M tp tq hM hcap).mono fun _ _ hh => ⟨hh.1, hh.2.below W.heap.size (fun _ _ hf => hf.elim) (Nat.le_refl _)⟩
end Go.Proofs.Ytpebdfgfikjkeaa
