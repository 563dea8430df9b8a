/-
  valid.Module.
-/
import Derived.Test.YtpebdfgfikjkeaaKwv
import Derived.Test.YtpebdfgfikjkeaaMxf
import Derived.Deep.DeepCutAuto
import Derived.Deep.CutBlock
set_option linter.unusedVariables false
set_option linter.unusedSimpArgs false
namespace Go.Proofs.Ytpebdfgfikjkeaa
open Go.RowKit
section
variable {w : World} {R : Nat → Prop} {a : Md} {M : Mv}
set_option maxRecDepth 100000 in
set_option maxHeartbeats 60000000 in
theorem v_module (hM : ModIn w R a M) (hS : M.small) :
    Calls Try.prog 11 #[.agg (#[.slice a.A0 M.types.length a.c0, .slice a.A1 M.imports.length a.c1, .slice a.A2 M.funcs.length a.c2, .slice a.A3 M.tables.length a.c3, .slice a.A4 M.mems.length a.c4, .slice a.A5 M.globals.length a.c5, .slice a.A6 M.exports.length a.c6, .int .i64 M.start, .slice a.A8 M.elems.length a.c8, .slice a.A9 M.codes.length a.c9, .slice a.A10 M.datas.length a.c10, .bool M.has, .int .u32 (M.d1 : Int), .int .u32 (M.d2 : Int), .int .u32 (M.d3 : Int), .int .u32 (M.d4 : Int), .slice a.A16 M.nd.length a.c16])] w fun e w' => e = .returned (modF M).val ∧ Step (fun _ => False) w w' := by
  have sA : Step (fun _ => False) w ((w.alloc (.cells (#[.slice a.A0 M.types.length a.c0, .slice a.A1 M.imports.length a.c1, .slice a.A2 M.funcs.length a.c2, .slice a.A3 M.tables.length a.c3, .slice a.A4 M.mems.length a.c4, .slice a.A5 M.globals.length a.c5, .slice a.A6 M.exports.length a.c6, .int .i64 M.start, .slice a.A8 M.elems.length a.c8, .slice a.A9 M.codes.length a.c9, .slice a.A10 M.datas.length a.c10, .bool M.has, .int .u32 (M.d1 : Int), .int .u32 (M.d2 : Int), .int .u32 (M.d3 : Int), .int .u32 (M.d4 : Int), .slice a.A16 M.nd.length a.c16]) 53)).alloc (.cells #[.int .i64 0, .int .i64 0, .int .i64 0] 56)) := (Step.refl.alloc _).alloc _
  have BX := Lib.hid ((Blk.new w 53 (#[.slice a.A0 M.types.length a.c0, .slice a.A1 M.imports.length a.c1, .slice a.A2 M.funcs.length a.c2, .slice a.A3 M.tables.length a.c3, .slice a.A4 M.mems.length a.c4, .slice a.A5 M.globals.length a.c5, .slice a.A6 M.exports.length a.c6, .int .i64 M.start, .slice a.A8 M.elems.length a.c8, .slice a.A9 M.codes.length a.c9, .slice a.A10 M.datas.length a.c10, .bool M.has, .int .u32 (M.d1 : Int), .int .u32 (M.d2 : Int), .int .u32 (M.d3 : Int), .int .u32 (M.d4 : Int), .slice a.A16 M.nd.length a.c16])).alloc (.cells #[.int .i64 0, .int .i64 0, .int .i64 0] 56))
  have B2 := Lib.hid (Blk.new (w.alloc (.cells (#[.slice a.A0 M.types.length a.c0, .slice a.A1 M.imports.length a.c1, .slice a.A2 M.funcs.length a.c2, .slice a.A3 M.tables.length a.c3, .slice a.A4 M.mems.length a.c4, .slice a.A5 M.globals.length a.c5, .slice a.A6 M.exports.length a.c6, .int .i64 M.start, .slice a.A8 M.elems.length a.c8, .slice a.A9 M.codes.length a.c9, .slice a.A10 M.datas.length a.c10, .bool M.has, .int .u32 (M.d1 : Int), .int .u32 (M.d2 : Int), .int .u32 (M.d3 : Int), .int .u32 (M.d4 : Int), .slice a.A16 M.nd.length a.c16]) 53)) 56 #[.int .i64 0, .int .i64 0, .int .i64 0])
  simp only [World.size_alloc] at B2
  have HM := Lib.hid (hM.step sA (fun _ _ => id))
  have SA := Lib.hid sA
  have HS := Lib.hid hS
  have s1 := hS.types
  have s2 := hS.imports
  have s3 := hS.funcs
  have s4 := hS.tables
  have s5 := hS.mems
  have s6 := hS.globals
  have s7 := hS.exports
  have s8 := hS.elems
  have s9 := hS.codes
  have s10 := hS.datas
  have HNX : Hid (w.heap.size ≤ w.heap.size) := Nat.le_refl _
  have HRW := Lib.hid hM.rin
  clear hM hS sA
  go_enter Try.func11, Try.ntmps11
  go_upto_region 1 with fail
  generalize hXX : w.heap.size = X at *
  replace HNX : Hid (w.heap.size = X) := hXX
  clear hXX
  generalize (w.alloc (.cells (#[.slice a.A0 M.types.length a.c0, .slice a.A1 M.imports.length a.c1, .slice a.A2 M.funcs.length a.c2, .slice a.A3 M.tables.length a.c3, .slice a.A4 M.mems.length a.c4, .slice a.A5 M.globals.length a.c5, .slice a.A6 M.exports.length a.c6, .int .i64 M.start, .slice a.A8 M.elems.length a.c8, .slice a.A9 M.codes.length a.c9, .slice a.A10 M.datas.length a.c10, .bool M.has, .int .u32 (M.d1 : Int), .int .u32 (M.d2 : Int), .int .u32 (M.d3 : Int), .int .u32 (M.d4 : Int), .slice a.A16 M.nd.length a.c16]) 53)).alloc (.cells #[.int .i64 0, .int .i64 0, .int .i64 0] 56) = V at *
  have hlt2 : X + 1 < V.heap.size := B2.out.lt
  have HTK := Lib.hid (fun W (hW : ModIn W R a M) => g_taken W (#[.slice a.A0 M.types.length a.c0, .slice a.A1 M.imports.length a.c1, .slice a.A2 M.funcs.length a.c2, .slice a.A3 M.tables.length a.c3, .slice a.A4 M.mems.length a.c4, .slice a.A5 M.globals.length a.c5, .slice a.A6 M.exports.length a.c6, .int .i64 M.start, .slice a.A8 M.elems.length a.c8, .slice a.A9 M.codes.length a.c9, .slice a.A10 M.datas.length a.c10, .bool M.has, .int .u32 (M.d1 : Int), .int .u32 (M.d2 : Int), .int .u32 (M.d3 : Int), .int .u32 (M.d4 : Int), .slice a.A16 M.nd.length a.c16]) a.A1 a.A5 M.imports.length a.c1 M.globals.length a.c5 M.imports M.globals R rfl (by omega) rfl (by omega) rfl rfl rfl hW.imports hW.globals)
  refine Mix.wp_region_mix [2, 4] [2, 4] (Step (fun _ => False) V) (by kernel_rfl) (by kernel_rfl) (Step.refl.drew) (fun hcls => ?_)
  refine Mix.wpL_reads 2 (by rfl) ?_
  simp only [List.take_succ_cons, List.drop_succ_cons, List.take_zero, List.drop_zero]
  repeat (first | (refine BigFrame.wpQuiet_want (by rfl) (fun K hK => quiet_mod_at (ops := #[]) _ rfl X rfl (#[.slice a.A0 M.types.length a.c0, .slice a.A1 M.imports.length a.c1, .slice a.A2 M.funcs.length a.c2, .slice a.A3 M.tables.length a.c3, .slice a.A4 M.mems.length a.c4, .slice a.A5 M.globals.length a.c5, .slice a.A6 M.exports.length a.c6, .int .i64 M.start, .slice a.A8 M.elems.length a.c8, .slice a.A9 M.codes.length a.c9, .slice a.A10 M.datas.length a.c10, .bool M.has, .int .u32 (M.d1 : Int), .int .u32 (M.d2 : Int), .int .u32 (M.d3 : Int), .int .u32 (M.d4 : Int), .slice a.A16 M.nd.length a.c16]) (fun w1 ⟨i, e⟩ => by rw [e]; intro j v hv; exact ((BX.out.step i.prop id).cell j).trans hv) rfl (hK _ ?_)); clear hK K; simp only [Act.put, List.setIfInBounds_toArray, List.set_cons_succ, List.set_cons_zero]) | (go_big_quiet_step (fail)))
  refine wpQuiet_nil ?_
  refine Mix.wpL_op (by rfl) (fun K hK => ?_)
  go_simp
  refine (HTK.out _ (HM.out.step Step.refl.drew (fun _ _ => id))).mono ?_
  rintro e w2 ⟨kA, kc, rfl, hok, t2⟩
  refine hK _ _ (fun hlt => Mix.cl (Step.refl.drew.trans t2)) ?_
  clear hK K
  refine Mix.wpL_reads 1 (by rfl) ?_
  simp only [List.take_succ_cons, List.drop_succ_cons, List.take_zero, List.drop_zero]
  repeat (go_big_quiet_step (fail))
  refine wpQuiet_nil ?_
  refine Mix.wpL_op (by rfl) (fun K hK => ?_)
  go_simp
  refine hK _ _ (fun hlt => Mix.cl ((Step.refl.drew.trans t2).alloc _)) ?_
  clear hK K
  refine Mix.wpL_reads 1 (by rfl) ?_
  simp only [List.take_succ_cons, List.drop_succ_cons, List.take_zero, List.drop_zero]
  repeat (go_big_quiet_step (fail))
  refine wpQuiet_nil ?_
  refine Mix.wpL_end ?_
  have hs3 : Step (fun _ => False) V (w2.alloc (.cells #[.slice a.A0 M.types.length a.c0, .slice a.A1 M.imports.length a.c1, .slice a.A2 M.funcs.length a.c2, .slice a.A3 M.tables.length a.c3, .slice a.A4 M.mems.length a.c4, .slice a.A5 M.globals.length a.c5, .slice a.A6 M.exports.length a.c6, .int .i64 M.start, .slice a.A8 M.elems.length a.c8, .slice a.A9 M.codes.length a.c9, .slice a.A10 M.datas.length a.c10, .bool M.has, .int .u32 (M.d1 : Int), .int .u32 (M.d2 : Int), .int .u32 (M.d3 : Int), .int .u32 (M.d4 : Int), .slice a.A16 M.nd.length a.c16, .slice none 0 0, .slice none 0 0, .slice none 0 0, .bool false, .bool false, .slice kA (tkL M.imports M.imports.length).length kc] 87)) := (Step.refl.drew.trans t2).alloc _
  have BK := Lib.hid (Blk.new w2 87 #[.slice a.A0 M.types.length a.c0, .slice a.A1 M.imports.length a.c1, .slice a.A2 M.funcs.length a.c2, .slice a.A3 M.tables.length a.c3, .slice a.A4 M.mems.length a.c4, .slice a.A5 M.globals.length a.c5, .slice a.A6 M.exports.length a.c6, .int .i64 M.start, .slice a.A8 M.elems.length a.c8, .slice a.A9 M.codes.length a.c9, .slice a.A10 M.datas.length a.c10, .bool M.has, .int .u32 (M.d1 : Int), .int .u32 (M.d2 : Int), .int .u32 (M.d3 : Int), .int .u32 (M.d4 : Int), .slice a.A16 M.nd.length a.c16, .slice none 0 0, .slice none 0 0, .slice none 0 0, .bool false, .bool false, .slice kA (tkL M.imports M.imports.length).length kc])
  have HKR : Hid (Reads (w2.alloc (.cells #[.slice a.A0 M.types.length a.c0, .slice a.A1 M.imports.length a.c1, .slice a.A2 M.funcs.length a.c2, .slice a.A3 M.tables.length a.c3, .slice a.A4 M.mems.length a.c4, .slice a.A5 M.globals.length a.c5, .slice a.A6 M.exports.length a.c6, .int .i64 M.start, .slice a.A8 M.elems.length a.c8, .slice a.A9 M.codes.length a.c9, .slice a.A10 M.datas.length a.c10, .bool M.has, .int .u32 (M.d1 : Int), .int .u32 (M.d2 : Int), .int .u32 (M.d3 : Int), .int .u32 (M.d4 : Int), .slice a.A16 M.nd.length a.c16, .slice none 0 0, .slice none 0 0, .slice none 0 0, .bool false, .bool false, .slice kA (tkL M.imports M.imports.length).length kc] 87)) (fun k => k < w2.heap.size) 2 kA (tkL M.imports M.imports.length).length (gls (tkL M.imports M.imports.length))) := by
    have h1 := (Reads.of_own hok).mono (S' := fun k => k < w2.heap.size) (fun k hk _ => hk)
    exact h1.step (Step.refl.alloc (F := fun _ => False) _) (fun _ _ => id)
  have S3 := Lib.hid (SA.out.trans hs3)
  replace HM := Lib.hid (HM.out.step hs3 (fun _ _ => id))
  replace BX := Lib.hid (BX.out.step hs3 id)
  replace B2 := Lib.hid (B2.out.step hs3 id)
  have hKN : X + 1 < w2.heap.size := Nat.lt_of_lt_of_le hlt2 t2.size
  have x0 := (BX.out.cell 0).trans (show _ = some (Value.slice a.A0 M.types.length a.c0) from rfl)
  have x1 := (BX.out.cell 1).trans (show _ = some (Value.slice a.A1 M.imports.length a.c1) from rfl)
  have x3 := (BX.out.cell 3).trans (show _ = some (Value.slice a.A3 M.tables.length a.c3) from rfl)
  have x4 := (BX.out.cell 4).trans (show _ = some (Value.slice a.A4 M.mems.length a.c4) from rfl)
  clear hs3 hok t2 HTK SA
  generalize w2.heap.size = K at *
  generalize w2.alloc (.cells #[.slice a.A0 M.types.length a.c0, .slice a.A1 M.imports.length a.c1, .slice a.A2 M.funcs.length a.c2, .slice a.A3 M.tables.length a.c3, .slice a.A4 M.mems.length a.c4, .slice a.A5 M.globals.length a.c5, .slice a.A6 M.exports.length a.c6, .int .i64 M.start, .slice a.A8 M.elems.length a.c8, .slice a.A9 M.codes.length a.c9, .slice a.A10 M.datas.length a.c10, .bool M.has, .int .u32 (M.d1 : Int), .int .u32 (M.d2 : Int), .int .u32 (M.d3 : Int), .int .u32 (M.d4 : Int), .slice a.A16 M.nd.length a.c16, .slice none 0 0, .slice none 0 0, .slice none 0 0, .bool false, .bool false, .slice kA (tkL M.imports M.imports.length).length kc] 87) = W3 at *
  have HC := Lib.hid (fun (q : Nat) W (hW : ModIn W R a M) => i_count W a.A1 M.imports.length a.c1 q M.imports R rfl (by omega) hW.imports)
  have l1 := imL_len M.imports 1 M.imports.length
  have l2 := imL_len M.imports 2 M.imports.length
  obtain ⟨n1, hn1⟩ : ∃ n1, n1 = (imL M.imports 1 M.imports.length).length := ⟨_, rfl⟩
  obtain ⟨n2, hn2⟩ : ∃ n2, n2 = (imL M.imports 2 M.imports.length).length := ⟨_, rfl⟩
  have HC1 : Hid (∀ W, ModIn W R a M → Calls Try.prog 19 #[.slice a.A1 M.imports.length a.c1, .int .u8 1] W fun e w' => e = .returned (.int .i64 (n1 : Int)) ∧ Step (fun _ => False) W w') := fun W hW => by rw [hn1]; exact HC.out 1 W hW
  have HC2 : Hid (∀ W, ModIn W R a M → Calls Try.prog 19 #[.slice a.A1 M.imports.length a.c1, .int .u8 2] W fun e w' => e = .returned (.int .i64 (n2 : Int)) ∧ Step (fun _ => False) W w') := fun W hW => by rw [hn2]; exact HC.out 2 W hW
  rw [← hn1] at l1
  rw [← hn2] at l2
  replace hn1 := Lib.hid hn1
  replace hn2 := Lib.hid hn2
  have hw1 := IntWalk.i64_in ((n1 : Int) + (M.tables.length : Int)) (by omega)
  have hw2 := IntWalk.i64_in ((n2 : Int) + (M.mems.length : Int)) (by omega)
  have d1 := cls_cell (F := fun _ => False) x1 id
  have d3 := cls_cell (F := fun _ => False) x3 id
  have d4 := cls_cell (F := fun _ => False) x4 id
  clear HC
  go_wp2_with fail
  refine Mix.wp_region_mix [2, 9] [2, 9] (Step (fun _ => False) W3) (by kernel_rfl) (by kernel_rfl) (Step.refl.drew) (fun hcls => ?_)
  refine Mix.wpL_reads 2 (by rfl) ?_
  simp only [List.take_succ_cons, List.drop_succ_cons, List.take_zero, List.drop_zero]
  repeat (go_big_quiet_step (fail))
  refine wpQuiet_nil ?_
  refine Mix.wpL_op (by rfl) (fun K hK => ?_)
  go_simp
  refine (HC1.out _ (HM.out.step Step.refl.drew (fun _ _ => id))).mono ?_
  rintro e w4 ⟨rfl, t4⟩
  refine hK _ _ (fun hlt => Mix.cl (Step.refl.drew.trans t4)) ?_
  clear hK K
  refine Mix.wpL_reads 6 (by rfl) ?_
  simp only [List.take_succ_cons, List.drop_succ_cons, List.take_zero, List.drop_zero]
  repeat (go_big_quiet_step (fail))
  refine wpQuiet_nil ?_
  refine Mix.wpL_op (by rfl) (fun K hK => ?_)
  go_simp
  refine (HC2.out _ (HM.out.step (Step.refl.drew.trans t4) (fun _ _ => id))).mono ?_
  rintro e w5 ⟨rfl, t5⟩
  refine hK _ _ (fun hlt => Mix.cl ((Step.refl.drew.trans t4).trans t5)) ?_
  clear hK K
  refine Mix.wpL_reads 6 (by rfl) ?_
  simp only [List.take_succ_cons, List.drop_succ_cons, List.take_zero, List.drop_zero]
  repeat (go_big_quiet_step (fail))
  refine wpQuiet_nil ?_
  refine Mix.wpL_end ?_
  have hs5 := (Step.refl.drew.trans t4).trans t5
  have S5 := Lib.hid (S3.out.trans hs5)
  replace HM := Lib.hid (HM.out.step hs5 (fun _ _ => id))
  replace BX := Lib.hid (BX.out.step hs5 id)
  replace B2 := Lib.hid (B2.out.step hs5 id)
  replace BK := Lib.hid (BK.out.step hs5 id)
  replace HKR := Lib.hid (HKR.out.step hs5 (fun _ _ => id))
  have x0 := (BX.out.cell 0).trans (show _ = some (Value.slice a.A0 M.types.length a.c0) from rfl)
  clear hs5 t4 t5 d1 d3 d4 HC1 HC2 S3
  have hXK : ¬ X = K := by omega
  have e0 := cls_cell (F := fun k => k = K) x0 hXK
  have HFN := Lib.hid (fun W (hW : ModIn W R a M) => funcs_ok W a.A0 a.A1 a.A2 M.types.length a.c0 M.imports.length a.c1 M.funcs.length a.c2 (.slice a.A3 M.tables.length a.c3) (.slice a.A4 M.mems.length a.c4) (.slice a.A5 M.globals.length a.c5) (.slice a.A6 M.exports.length a.c6) (.int .i64 M.start) (.slice a.A8 M.elems.length a.c8) (.slice a.A9 M.codes.length a.c9) (.slice a.A10 M.datas.length a.c10) (.bool M.has) (.int .u32 (M.d1 : Int)) (.int .u32 (M.d2 : Int)) (.int .u32 (M.d3 : Int)) (.int .u32 (M.d4 : Int)) (.slice a.A16 M.nd.length a.c16) M.imports M.funcs R R rfl (by omega) rfl (by omega) hW.imports hW.funcs)
  have HGT := Lib.hid (fun W (hW : ModIn W R a M) => g_types W (#[.slice a.A0 M.types.length a.c0, .slice a.A1 M.imports.length a.c1, .slice a.A2 M.funcs.length a.c2, .slice a.A3 M.tables.length a.c3, .slice a.A4 M.mems.length a.c4, .slice a.A5 M.globals.length a.c5, .slice a.A6 M.exports.length a.c6, .int .i64 M.start, .slice a.A8 M.elems.length a.c8, .slice a.A9 M.codes.length a.c9, .slice a.A10 M.datas.length a.c10, .bool M.has, .int .u32 (M.d1 : Int), .int .u32 (M.d2 : Int), .int .u32 (M.d3 : Int), .int .u32 (M.d4 : Int), .slice a.A16 M.nd.length a.c16]) a.A1 a.A5 M.imports.length a.c1 M.globals.length a.c5 M.imports M.globals R rfl (by omega) rfl (by omega) rfl rfl rfl hW.imports hW.globals)
  go_wp2_with fail
  refine Mix.wp_region_mix [4, 6, 14] [4, 6] (Step (fun k => k = K) w5) (by kernel_rfl) (by kernel_rfl) (Step.refl.drew) (fun hcls => ?_)
  refine Mix.wpL_reads 4 (by rfl) ?_
  simp only [List.take_succ_cons, List.drop_succ_cons, List.take_zero, List.drop_zero]
  repeat (first | (refine BigFrame.wpQuiet_want (by rfl) (fun K hK => quiet_mod_at (ops := #[]) _ rfl X rfl (#[.slice a.A0 M.types.length a.c0, .slice a.A1 M.imports.length a.c1, .slice a.A2 M.funcs.length a.c2, .slice a.A3 M.tables.length a.c3, .slice a.A4 M.mems.length a.c4, .slice a.A5 M.globals.length a.c5, .slice a.A6 M.exports.length a.c6, .int .i64 M.start, .slice a.A8 M.elems.length a.c8, .slice a.A9 M.codes.length a.c9, .slice a.A10 M.datas.length a.c10, .bool M.has, .int .u32 (M.d1 : Int), .int .u32 (M.d2 : Int), .int .u32 (M.d3 : Int), .int .u32 (M.d4 : Int), .slice a.A16 M.nd.length a.c16]) (fun w1 ⟨i, e⟩ => by rw [e]; intro j v hv; exact ((BX.out.step i.prop hXK).cell j).trans hv) rfl (hK _ ?_)); clear hK K; simp only [Act.put, List.setIfInBounds_toArray, List.set_cons_succ, List.set_cons_zero]) | (go_big_quiet_step (fail)))
  refine wpQuiet_nil ?_
  refine Mix.wpL_op (by rfl) (fun K hK => ?_)
  go_simp
  refine (HFN.out _ (HM.out.step Step.refl.drew (fun _ _ => id))).mono ?_
  rintro e w6 ⟨fA, fc, rfl, ho6, t6⟩
  refine hK _ _ (fun hlt => Mix.cl ((Step.refl.drew.trans (t6.mono (fun _ _ h => h.elim))))) ?_
  clear hK K
  refine Mix.wpL_reads 1 (by rfl) ?_
  simp only [List.take_succ_cons, List.drop_succ_cons, List.take_zero, List.drop_zero]
  repeat (first | (refine BigFrame.wpQuiet_want (by rfl) (fun K hK => quiet_mod_at (ops := #[]) _ rfl X rfl (#[.slice a.A0 M.types.length a.c0, .slice a.A1 M.imports.length a.c1, .slice a.A2 M.funcs.length a.c2, .slice a.A3 M.tables.length a.c3, .slice a.A4 M.mems.length a.c4, .slice a.A5 M.globals.length a.c5, .slice a.A6 M.exports.length a.c6, .int .i64 M.start, .slice a.A8 M.elems.length a.c8, .slice a.A9 M.codes.length a.c9, .slice a.A10 M.datas.length a.c10, .bool M.has, .int .u32 (M.d1 : Int), .int .u32 (M.d2 : Int), .int .u32 (M.d3 : Int), .int .u32 (M.d4 : Int), .slice a.A16 M.nd.length a.c16]) (fun w1 ⟨i, e⟩ => by rw [e]; intro j v hv; exact ((BX.out.step i.prop hXK).cell j).trans hv) rfl (hK _ ?_)); clear hK K; simp only [Act.put, List.setIfInBounds_toArray, List.set_cons_succ, List.set_cons_zero]) | (go_big_quiet_step (fail)))
  refine wpQuiet_nil ?_
  refine Mix.wpL_op (by rfl) (fun K hK => ?_)
  go_simp
  refine (HGT.out _ (HM.out.step (Step.refl.drew.trans t6) (fun _ _ => id))).mono ?_
  rintro e w7 ⟨gA, gc, rfl, ho7, t7⟩
  refine hK _ _ (fun hlt => Mix.cl ((Step.refl.drew.trans ((t6.trans t7).mono (fun _ _ h => h.elim))))) ?_
  clear hK K
  have hbk := BK.out.step ((Step.refl.drew.trans t6).trans t7) id
  have k17 := (hbk.cell 17).trans (show _ = some (Value.slice none 0 0) from rfl)
  have k18 := (hbk.cell 18).trans (show _ = some (Value.slice none 0 0) from rfl)
  have k19 := (hbk.cell 19).trans (show _ = some (Value.slice none 0 0) from rfl)
  have k20 := (hbk.cell 20).trans (show _ = some (Value.bool false) from rfl)
  have k21 := (hbk.cell 21).trans (show _ = some (Value.bool false) from rfl)
  have kf := hbk.frozen
  refine Mix.wpL_reads 7 (by rfl) ?_
  simp only [List.take_succ_cons, List.drop_succ_cons, List.take_zero, List.drop_zero]
  repeat (go_big_quiet_step (fail))
  refine wpQuiet_nil ?_
  refine Mix.wpL_op (by rfl) (fun K hK => ?_)
  go_simp
  refine hK _ _ (fun hlt => absurd hlt (by decide)) ?_
  clear hK K
  refine Mix.wpL_end ?_
  have hKw5 := BK.out.lt
  have s56 : Step (fun _ => False) w5 w6 := Step.refl.drew.trans t6
  have s57 := s56.trans t7
  have bk2 := ((((hbk.set_ 17 (.slice a.A0 M.types.length a.c0)).set_ 18 (.slice fA (fnA M.imports M.funcs).length fc)).set_ 19 (.slice gA (glA M.imports M.globals).length gc)).set_ 20 (.bool (decide ((0 : Int) < (n1 : Int) + (M.tables.length : Int))))).set_ 21 (.bool (decide ((0 : Int) < (n2 : Int) + (M.mems.length : Int))))
  simp only [List.setIfInBounds_toArray, List.set_cons_succ, List.set_cons_zero] at bk2
  have hsK : Step (fun k => k = K) w7 (((((w7.setCell ⟨K, 17, none⟩ (.slice a.A0 M.types.length a.c0)).setCell ⟨K, 18, none⟩ (.slice fA (fnA M.imports M.funcs).length fc)).setCell ⟨K, 19, none⟩ (.slice gA (glA M.imports M.globals).length gc)).setCell ⟨K, 20, none⟩ (.bool (decide ((0 : Int) < (n1 : Int) + (M.tables.length : Int))))).setCell ⟨K, 21, none⟩ (.bool (decide ((0 : Int) < (n2 : Int) + (M.mems.length : Int))))) := ((((Step.setCell (p := ⟨K, 17, none⟩) (F := fun k => k = K) Step.refl (.inl rfl) _).setCell (p := ⟨K, 18, none⟩) (.inl rfl) _).setCell (p := ⟨K, 19, none⟩) (.inl rfl) _).setCell (p := ⟨K, 20, none⟩) (.inl rfl) _).setCell (p := ⟨K, 21, none⟩) (.inl rfl) _
  have hfr := ((Reads.of_own ho6).step (t7.mono (fun _ _ h => h.elim) : Step (fun k => k = K) w6 w7) (fun q hq e => by have := own_ge ho6 q hq; simp at this; omega)).step hsK (fun q hq e => by have := own_ge ho6 q hq; simp at this; omega)
  have hgr := (Reads.of_own ho7).step hsK (fun q hq e => by have := own_ge ho7 q hq; have := s56.size; omega)
  have hkr := (HKR.out.step (s57.mono (fun _ _ h => h.elim) : Step (fun k => k = K) w5 w7) (fun q hq e => by omega)).step hsK (fun q hq e => by omega)
  have hmd := (HM.out.step (s57.mono (fun _ _ h => h.elim) : Step (fun k => k = K) w5 w7) (fun q hq e => by have := HRW.out q hq; have := HNX.out; omega)).step hsK (fun q hq e => by have := HRW.out q hq; have := HNX.out; omega)
  have SU : Hid (Step (fun _ => False) w (((((w7.setCell ⟨K, 17, none⟩ (.slice a.A0 M.types.length a.c0)).setCell ⟨K, 18, none⟩ (.slice fA (fnA M.imports M.funcs).length fc)).setCell ⟨K, 19, none⟩ (.slice gA (glA M.imports M.globals).length gc)).setCell ⟨K, 20, none⟩ (.bool (decide ((0 : Int) < (n1 : Int) + (M.tables.length : Int))))).setCell ⟨K, 21, none⟩ (.bool (decide ((0 : Int) < (n2 : Int) + (M.mems.length : Int)))))) := (S5.out.trans s57).trans' hsK (fun q hq => .inr (by have := HNX.out; omega))
  have BXU := Lib.hid ((BX.out.step s57 id).step hsK hXK)
  have B2U := Lib.hid ((B2.out.step s57 id).step hsK (by omega))
  have hUs : w7.heap.size = (((((w7.setCell ⟨K, 17, none⟩ (.slice a.A0 M.types.length a.c0)).setCell ⟨K, 18, none⟩ (.slice fA (fnA M.imports M.funcs).length fc)).setCell ⟨K, 19, none⟩ (.slice gA (glA M.imports M.globals).length gc)).setCell ⟨K, 20, none⟩ (.bool (decide ((0 : Int) < (n1 : Int) + (M.tables.length : Int))))).setCell ⟨K, 21, none⟩ (.bool (decide ((0 : Int) < (n2 : Int) + (M.mems.length : Int))))).heap.size := by simp
  generalize ((((w7.setCell ⟨K, 17, none⟩ (.slice a.A0 M.types.length a.c0)).setCell ⟨K, 18, none⟩ (.slice fA (fnA M.imports M.funcs).length fc)).setCell ⟨K, 19, none⟩ (.slice gA (glA M.imports M.globals).length gc)).setCell ⟨K, 20, none⟩ (.bool (decide ((0 : Int) < (n1 : Int) + (M.tables.length : Int))))).setCell ⟨K, 21, none⟩ (.bool (decide ((0 : Int) < (n2 : Int) + (M.mems.length : Int)))) = U at *
  have hin4 : ∀ q, R q → q < U.heap.size := fun q hq => hmd.rin q hq
  have LK : Hid (LkIn U (fun k => k < U.heap.size) (lkOf a M K fA gA kA fc gc kc) M) := by
    refine lk_made ?_ (hmd.wide hin4 (fun _ h => h)) HS.out (hfr.mono fun q hq _ => hq) (hgr.mono fun q hq _ => hq) (hkr.mono fun q hq _ => hq)
    have e := bk2
    rw [hn1.out, hn2.out] at e
    exact e
  have HMU := Lib.hid (hmd.wide (R' := fun k => k < U.heap.size) hin4 (fun _ h => h))
  clear hbk k17 k18 k19 k20 k21 kf ho6 ho7 t6 t7 s56 s57 bk2 hsK hfr hgr hkr hmd hUs HKR HFN HGT BK BX B2 HM S5 e0 x0
  obtain ⟨g1, hg1⟩ : ∃ g : Ft, g = eachF M.types.length 1 (atE M.types fun t => (ftE t : Nat)) := ⟨_, rfl⟩
  have Eg1 : Hid (∀ W, Step (fun _ => False) U W → Calls Try.prog 23 #[.int .i64 (M.types.length : Int), .int .i64 1, .func (.func 24) #[] #[.pointer (some ⟨X, 0, none⟩)]] W fun e w' => e = .returned (.agg #[.int .i64 g1.why, .int .i64 g1.list, .int .i64 g1.at_]) ∧ Step (fun _ => False) W w') := fun W hW => by
    rw [hg1]
    exact v_each_cap W (M.types.length) 1 _ ⟨X, 0, none⟩ (atE M.types fun t => (ftE t : Nat)) (by omega) (fun _ _ => rfl) (fun i V hi hV => by rw [atE_get _ _ _ hi]; exact m_1 i (BXU.out.step (hW.trans hV) id) (HMU.out.step (hW.trans hV) (fun _ _ => id)) hi)
  obtain ⟨g2, hg2⟩ : ∃ g : Ft, g = eachF M.imports.length 2 (atE M.imports (impE M.types.length)) := ⟨_, rfl⟩
  have Eg2 : Hid (∀ W, Step (fun _ => False) U W → Calls Try.prog 23 #[.int .i64 (M.imports.length : Int), .int .i64 2, .func (.func 26) #[.pointer (some ⟨K, 0, none⟩)] #[]] W fun e w' => e = .returned (.agg #[.int .i64 g2.why, .int .i64 g2.list, .int .i64 g2.at_]) ∧ Step (fun _ => False) W w') := fun W hW => by
    rw [hg2]
    exact v_each_met W (M.imports.length) 2 _ ⟨K, 0, none⟩ (atE M.imports (impE M.types.length)) (by omega) (fun _ _ => rfl) (fun i V hi hV => by rw [atE_get _ _ _ hi]; exact l_imported i (LK.out.step (hW.trans hV)) hi (by omega) (by omega))
  obtain ⟨g3, hg3⟩ : ∃ g : Ft, g = eachF M.funcs.length 3 (atE M.funcs fun q => ixE q M.types.length 7) := ⟨_, rfl⟩
  have Eg3 : Hid (∀ W, Step (fun _ => False) U W → Calls Try.prog 23 #[.int .i64 (M.funcs.length : Int), .int .i64 3, .func (.func 27) #[] #[.pointer (some ⟨X, 0, none⟩)]] W fun e w' => e = .returned (.agg #[.int .i64 g3.why, .int .i64 g3.list, .int .i64 g3.at_]) ∧ Step (fun _ => False) W w') := fun W hW => by
    rw [hg3]
    exact v_each_cap W (M.funcs.length) 3 _ ⟨X, 0, none⟩ (atE M.funcs fun q => ixE q M.types.length 7) (by omega) (fun _ _ => rfl) (fun i V hi hV => by rw [atE_get _ _ _ hi]; exact m_2 i (BXU.out.step (hW.trans hV) id) (HMU.out.step (hW.trans hV) (fun _ _ => id)) hi (by omega))
  obtain ⟨g4, hg4⟩ : ∃ g : Ft, g = eachF M.tables.length 4 (atE M.tables fun l => (lmE l 1048576 : Nat)) := ⟨_, rfl⟩
  have Eg4 : Hid (∀ W, Step (fun _ => False) U W → Calls Try.prog 23 #[.int .i64 (M.tables.length : Int), .int .i64 4, .func (.func 29) #[] #[.pointer (some ⟨X, 0, none⟩)]] W fun e w' => e = .returned (.agg #[.int .i64 g4.why, .int .i64 g4.list, .int .i64 g4.at_]) ∧ Step (fun _ => False) W w') := fun W hW => by
    rw [hg4]
    exact v_each_cap W (M.tables.length) 4 _ ⟨X, 0, none⟩ (atE M.tables fun l => (lmE l 1048576 : Nat)) (by omega) (fun _ _ => rfl) (fun i V hi hV => by rw [atE_get _ _ _ hi]; exact m_3 i (BXU.out.step (hW.trans hV) id) (HMU.out.step (hW.trans hV) (fun _ _ => id)) hi)
  obtain ⟨g5, hg5⟩ : ∃ g : Ft, g = oneF ((n1 : Int) + (M.tables.length : Int)) 4 := ⟨_, rfl⟩
  have Eg5 : Hid (∀ W, Step (fun _ => False) U W → Calls Try.prog 31 #[.int .i64 ((n1 : Int) + (M.tables.length : Int)), .int .i64 4] W fun e w' => e = .returned (.agg #[.int .i64 g5.why, .int .i64 g5.list, .int .i64 g5.at_]) ∧ Step (fun _ => False) W w') := fun W hW => by
    rw [hg5]
    exact v_one W ((n1 : Int) + (M.tables.length : Int)) 4 (by omega)
  obtain ⟨g6, hg6⟩ : ∃ g : Ft, g = eachF M.mems.length 5 (atE M.mems fun l => (lmE l 65536 : Nat)) := ⟨_, rfl⟩
  have Eg6 : Hid (∀ W, Step (fun _ => False) U W → Calls Try.prog 23 #[.int .i64 (M.mems.length : Int), .int .i64 5, .func (.func 32) #[] #[.pointer (some ⟨X, 0, none⟩)]] W fun e w' => e = .returned (.agg #[.int .i64 g6.why, .int .i64 g6.list, .int .i64 g6.at_]) ∧ Step (fun _ => False) W w') := fun W hW => by
    rw [hg6]
    exact v_each_cap W (M.mems.length) 5 _ ⟨X, 0, none⟩ (atE M.mems fun l => (lmE l 65536 : Nat)) (by omega) (fun _ _ => rfl) (fun i V hi hV => by rw [atE_get _ _ _ hi]; exact m_4 i (BXU.out.step (hW.trans hV) id) (HMU.out.step (hW.trans hV) (fun _ _ => id)) hi)
  obtain ⟨g7, hg7⟩ : ∃ g : Ft, g = oneF ((n2 : Int) + (M.mems.length : Int)) 5 := ⟨_, rfl⟩
  have Eg7 : Hid (∀ W, Step (fun _ => False) U W → Calls Try.prog 31 #[.int .i64 ((n2 : Int) + (M.mems.length : Int)), .int .i64 5] W fun e w' => e = .returned (.agg #[.int .i64 g7.why, .int .i64 g7.list, .int .i64 g7.at_]) ∧ Step (fun _ => False) W w') := fun W hW => by
    rw [hg7]
    exact v_one W ((n2 : Int) + (M.mems.length : Int)) 5 (by omega)
  obtain ⟨g8, hg8⟩ : ∃ g : Ft, g = eachF M.globals.length 6 (atE M.globals (goE (tkL M.imports M.imports.length))) := ⟨_, rfl⟩
  have Eg8 : Hid (∀ W, Step (fun _ => False) U W → Calls Try.prog 23 #[.int .i64 (M.globals.length : Int), .int .i64 6, .func (.func 33) #[.pointer (some ⟨K, 0, none⟩)] #[]] W fun e w' => e = .returned (.agg #[.int .i64 g8.why, .int .i64 g8.list, .int .i64 g8.at_]) ∧ Step (fun _ => False) W w') := fun W hW => by
    rw [hg8]
    exact v_each_met W (M.globals.length) 6 _ ⟨K, 0, none⟩ (atE M.globals (goE (tkL M.imports M.imports.length))) (by omega) (fun _ _ => rfl) (fun i V hi hV => by rw [atE_get _ _ _ hi]; exact l_global i (LK.out.step (hW.trans hV)) hi (by omega))
  obtain ⟨g9, hg9⟩ : ∃ g : Ft, g = eachF M.exports.length 7 (atE M.exports (exE (lkOf a M K fA gA kA fc gc kc))) := ⟨_, rfl⟩
  have Eg9 : Hid (∀ W, Step (fun _ => False) U W → Calls Try.prog 23 #[.int .i64 (M.exports.length : Int), .int .i64 7, .func (.func 34) #[.pointer (some ⟨K, 0, none⟩)] #[]] W fun e w' => e = .returned (.agg #[.int .i64 g9.why, .int .i64 g9.list, .int .i64 g9.at_]) ∧ Step (fun _ => False) W w') := fun W hW => by
    rw [hg9]
    exact v_each_met W (M.exports.length) 7 _ ⟨K, 0, none⟩ (atE M.exports (exE (lkOf a M K fA gA kA fc gc kc))) (by omega) (fun _ _ => rfl) (fun i V hi hV => by rw [atE_get _ _ _ hi]; exact l_export i (LK.out.step (hW.trans hV)) hi (by omega))
  have hmf : ∀ (fn : Fn) (first cap : Array Value) (w : World), (Instr.makeFunc fn first cap).run Try.prog w = .ok (.func fn first cap) w := fun _ _ _ _ => rfl
  obtain ⟨f0, hf0⟩ : ∃ f : Ft, f = firstFt [g1, g2, g3, g4, g5, g6, g7, g8, g9] := ⟨_, rfl⟩
  have HFIg : Hid (∀ W, Step (fun _ => False) U W → ∀ W', Step (fun _ => False) (W.alloc (.cells #[.int .i64 g1.why, .int .i64 g1.list, .int .i64 g1.at_, .int .i64 g2.why, .int .i64 g2.list, .int .i64 g2.at_, .int .i64 g3.why, .int .i64 g3.list, .int .i64 g3.at_, .int .i64 g4.why, .int .i64 g4.list, .int .i64 g4.at_, .int .i64 g5.why, .int .i64 g5.list, .int .i64 g5.at_, .int .i64 g6.why, .int .i64 g6.list, .int .i64 g6.at_, .int .i64 g7.why, .int .i64 g7.list, .int .i64 g7.at_, .int .i64 g8.why, .int .i64 g8.list, .int .i64 g8.at_, .int .i64 g9.why, .int .i64 g9.list, .int .i64 g9.at_] 56)) W' → Calls Try.prog 22 #[.slice (some ⟨W.heap.size, 0, none⟩) 9 9] W' fun e w' => e = .returned (.agg #[.int .i64 f0.why, .int .i64 f0.list, .int .i64 f0.at_]) ∧ Step (fun _ => False) W' w') := fun W _ W' hs => by
    rw [hf0]
    exact v_first _ _ 9 9 [g1, g2, g3, g4, g5, g6, g7, g8, g9] _ rfl (by omega) ((reads_new W #[.int .i64 g1.why, .int .i64 g1.list, .int .i64 g1.at_, .int .i64 g2.why, .int .i64 g2.list, .int .i64 g2.at_, .int .i64 g3.why, .int .i64 g3.list, .int .i64 g3.at_, .int .i64 g4.why, .int .i64 g4.list, .int .i64 g4.at_, .int .i64 g5.why, .int .i64 g5.list, .int .i64 g5.at_, .int .i64 g6.why, .int .i64 g6.list, .int .i64 g6.at_, .int .i64 g7.why, .int .i64 g7.list, .int .i64 g7.at_, .int .i64 g8.why, .int .i64 g8.list, .int .i64 g8.at_, .int .i64 g9.why, .int .i64 g9.list, .int .i64 g9.at_] 56 3 9 rfl).step hs (fun _ _ => id))
  have x0 := (BXU.out.cell 0).trans (show _ = some (Value.slice a.A0 M.types.length a.c0) from rfl)
  have x1 := (BXU.out.cell 1).trans (show _ = some (Value.slice a.A1 M.imports.length a.c1) from rfl)
  have x2 := (BXU.out.cell 2).trans (show _ = some (Value.slice a.A2 M.funcs.length a.c2) from rfl)
  have x3 := (BXU.out.cell 3).trans (show _ = some (Value.slice a.A3 M.tables.length a.c3) from rfl)
  have x4 := (BXU.out.cell 4).trans (show _ = some (Value.slice a.A4 M.mems.length a.c4) from rfl)
  have x5 := (BXU.out.cell 5).trans (show _ = some (Value.slice a.A5 M.globals.length a.c5) from rfl)
  have x6 := (BXU.out.cell 6).trans (show _ = some (Value.slice a.A6 M.exports.length a.c6) from rfl)
  have d0 := cls_cell2 (F := fun _ => False) x0 id
  have d1 := cls_cell2 (F := fun _ => False) x1 id
  have d2 := cls_cell2 (F := fun _ => False) x2 id
  have d3 := cls_cell2 (F := fun _ => False) x3 id
  have d4 := cls_cell2 (F := fun _ => False) x4 id
  have d5 := cls_cell2 (F := fun _ => False) x5 id
  have d6 := cls_cell2 (F := fun _ => False) x6 id
  replace hg1 := Lib.hid hg1
  replace hg2 := Lib.hid hg2
  replace hg3 := Lib.hid hg3
  replace hg4 := Lib.hid hg4
  replace hg5 := Lib.hid hg5
  replace hg6 := Lib.hid hg6
  replace hg7 := Lib.hid hg7
  replace hg8 := Lib.hid hg8
  replace hg9 := Lib.hid hg9
  replace hf0 := Lib.hid hf0
  clear x0 x1 x2 x3 x4 x5 x6 hw1 hw2
  go_wp2_with fail
  go_cut [6] (fun s6 wq => ∃ Y, s6 = .pointer (some ⟨Y, 0, none⟩) ∧ Hid (Step (fun _ => False) U wq) ∧ Hid (Blk wq Y 56 #[.int .i64 f0.why, .int .i64 f0.list, .int .i64 f0.at_]))
  case first =>
    as_aux_lemma =>
    clear LK HMU BXU B2U SU HS HRW HNX hn1 hn2 l1 l2 s1 s2 s3 s4 s5 s6 s7 s8 s9 s10 hf0 hin4 hXK hKN hKw5 hlt2 hg1 hg2 hg3 hg4 hg5 hg6 hg7 hg8 hg9
    refine Mxg.wp_region_tree [4, 10, 15, 20, 22, 27, 29, 35, 41, 42, 43, 44, 45] [4, 10, 15, 20, 22, 27, 29, 35, 41, 42, 43, 44] (.reads [0, 1, 2, 3, 5, 6, 7, 8, 9, 11, 12, 13, 14, 16, 17, 18, 19, 21, 23, 24, 25, 26, 28, 30, 31, 32, 33, 34, 36, 37, 38, 39, 40] (.fork (.op 4 (.fork (.op 10 (.fork (.op 15 (.fork (.op 20 (.fork (.op 22 (.fork (.op 27 (.fork (.op 29 (.fork (.op 35 (.fork (.op 41 (.fork (.op 42 (.fork (.op 43 (.op 44 (.op 45 .leaf))) (.op 44 (.op 43 (.op 45 .leaf))))) (.op 44 (.op 42 (.op 43 (.op 45 .leaf)))))) (.op 44 (.op 41 (.op 42 (.op 43 (.op 45 .leaf))))))) (.op 44 (.op 35 (.op 41 (.op 42 (.op 43 (.op 45 .leaf)))))))) (.op 44 (.op 29 (.op 35 (.op 41 (.op 42 (.op 43 (.op 45 .leaf))))))))) (.op 44 (.op 27 (.op 29 (.op 35 (.op 41 (.op 42 (.op 43 (.op 45 .leaf)))))))))) (.op 44 (.op 22 (.op 27 (.op 29 (.op 35 (.op 41 (.op 42 (.op 43 (.op 45 .leaf))))))))))) (.op 44 (.op 20 (.op 22 (.op 27 (.op 29 (.op 35 (.op 41 (.op 42 (.op 43 (.op 45 .leaf)))))))))))) (.op 44 (.op 15 (.op 20 (.op 22 (.op 27 (.op 29 (.op 35 (.op 41 (.op 42 (.op 43 (.op 45 .leaf))))))))))))) (.op 44 (.op 10 (.op 15 (.op 20 (.op 22 (.op 27 (.op 29 (.op 35 (.op 41 (.op 42 (.op 43 (.op 45 .leaf)))))))))))))) (.op 44 (.op 4 (.op 10 (.op 15 (.op 20 (.op 22 (.op 27 (.op 29 (.op 35 (.op 41 (.op 42 (.op 43 (.op 45 .leaf))))))))))))))) (Step (fun _ => False) U) (by kernel_rfl) (by kernel_rfl) Step.refl.drew (fun hcls => ?_)
    have st : Step (fun _ => False) U U.drew := Step.refl.drew
    refine Mxg.wpTL_reads ?_
    simp only [List.flatMap_cons, List.flatMap_nil, List.getElem?_cons_succ, List.getElem?_cons_zero, Option.toList_some, List.cons_append, List.nil_append]
    repeat (go_big_quiet_step (fail))
    refine wpQuiet_nil ?_
    clear d0 d1 d2 d3 d4 d5 d6 hmf
    obtain ⟨v0, hv0⟩ : ∃ v0, v0 = U.drew := ⟨_, rfl⟩
    rw [← hv0] at st ⊢
    clear hv0
    refine Mxg.wpTL_fork ?_ ?_
    · refine Mxg.wpTL_op (by rfl) (fun K hK => ?_)
      go_simp
      refine (Eg1.out _ st).mono ?_
      rintro e v27 ⟨rfl, tn⟩
      replace st := st.trans tn
      clear tn
      refine hK _ _ (fun hlt => Mif.cl st) ?_
      clear hK K
      refine Mxg.wpTL_fork ?_ ?_
      · refine Mxg.wpTL_op (by rfl) (fun K hK => ?_)
        go_simp
        refine (Eg2.out _ st).mono ?_
        rintro e v28 ⟨rfl, tn⟩
        replace st := st.trans tn
        clear tn
        refine hK _ _ (fun hlt => Mif.cl st) ?_
        clear hK K
        refine Mxg.wpTL_fork ?_ ?_
        · refine Mxg.wpTL_op (by rfl) (fun K hK => ?_)
          go_simp
          refine (Eg3.out _ st).mono ?_
          rintro e v29 ⟨rfl, tn⟩
          replace st := st.trans tn
          clear tn
          refine hK _ _ (fun hlt => Mif.cl st) ?_
          clear hK K
          refine Mxg.wpTL_fork ?_ ?_
          · refine Mxg.wpTL_op (by rfl) (fun K hK => ?_)
            go_simp
            refine (Eg4.out _ st).mono ?_
            rintro e v30 ⟨rfl, tn⟩
            replace st := st.trans tn
            clear tn
            refine hK _ _ (fun hlt => Mif.cl st) ?_
            clear hK K
            refine Mxg.wpTL_fork ?_ ?_
            · refine Mxg.wpTL_op (by rfl) (fun K hK => ?_)
              go_simp
              refine (Eg5.out _ st).mono ?_
              rintro e v31 ⟨rfl, tn⟩
              replace st := st.trans tn
              clear tn
              refine hK _ _ (fun hlt => Mif.cl st) ?_
              clear hK K
              refine Mxg.wpTL_fork ?_ ?_
              · refine Mxg.wpTL_op (by rfl) (fun K hK => ?_)
                go_simp
                refine (Eg6.out _ st).mono ?_
                rintro e v32 ⟨rfl, tn⟩
                replace st := st.trans tn
                clear tn
                refine hK _ _ (fun hlt => Mif.cl st) ?_
                clear hK K
                refine Mxg.wpTL_fork ?_ ?_
                · refine Mxg.wpTL_op (by rfl) (fun K hK => ?_)
                  go_simp
                  refine (Eg7.out _ st).mono ?_
                  rintro e v33 ⟨rfl, tn⟩
                  replace st := st.trans tn
                  clear tn
                  refine hK _ _ (fun hlt => Mif.cl st) ?_
                  clear hK K
                  refine Mxg.wpTL_fork ?_ ?_
                  · refine Mxg.wpTL_op (by rfl) (fun K hK => ?_)
                    go_simp
                    refine (Eg8.out _ st).mono ?_
                    rintro e v34 ⟨rfl, tn⟩
                    replace st := st.trans tn
                    clear tn
                    refine hK _ _ (fun hlt => Mif.cl st) ?_
                    clear hK K
                    refine Mxg.wpTL_fork ?_ ?_
                    · refine Mxg.wpTL_op (by rfl) (fun K hK => ?_)
                      go_simp
                      refine (Eg9.out _ st).mono ?_
                      rintro e v35 ⟨rfl, tn⟩
                      replace st := st.trans tn
                      clear tn
                      refine hK _ _ (fun hlt => Mif.cl st) ?_
                      clear hK K
                      refine Mxg.wpTL_fork ?_ ?_
                      · refine Mxg.wpTL_op (by rfl) (fun K hK => ?_)
                        refine step_slice (by rfl) (by rfl) [(0, .agg #[.int .i64 g1.why, .int .i64 g1.list, .int .i64 g1.at_]), (1, .agg #[.int .i64 g2.why, .int .i64 g2.list, .int .i64 g2.at_]), (2, .agg #[.int .i64 g3.why, .int .i64 g3.list, .int .i64 g3.at_]), (3, .agg #[.int .i64 g4.why, .int .i64 g4.list, .int .i64 g4.at_]), (4, .agg #[.int .i64 g5.why, .int .i64 g5.list, .int .i64 g5.at_]), (5, .agg #[.int .i64 g6.why, .int .i64 g6.list, .int .i64 g6.at_]), (6, .agg #[.int .i64 g7.why, .int .i64 g7.list, .int .i64 g7.at_]), (7, .agg #[.int .i64 g8.why, .int .i64 g8.list, .int .i64 g8.at_]), (8, .agg #[.int .i64 g9.why, .int .i64 g9.list, .int .i64 g9.at_])] (by rfl) #[.int .i64 g1.why, .int .i64 g1.list, .int .i64 g1.at_, .int .i64 g2.why, .int .i64 g2.list, .int .i64 g2.at_, .int .i64 g3.why, .int .i64 g3.list, .int .i64 g3.at_, .int .i64 g4.why, .int .i64 g4.list, .int .i64 g4.at_, .int .i64 g5.why, .int .i64 g5.list, .int .i64 g5.at_, .int .i64 g6.why, .int .i64 g6.list, .int .i64 g6.at_, .int .i64 g7.why, .int .i64 g7.list, .int .i64 g7.at_, .int .i64 g8.why, .int .i64 g8.list, .int .i64 g8.at_, .int .i64 g9.why, .int .i64 g9.list, .int .i64 g9.at_] (bs9 g1 g2 g3 g4 g5 g6 g7 g8 g9) ?_
                        simp only [Act.put, List.setIfInBounds_toArray, List.set_cons_succ, List.set_cons_zero]
                        have stb := st
                        replace st := st.alloc (.cells #[.int .i64 g1.why, .int .i64 g1.list, .int .i64 g1.at_, .int .i64 g2.why, .int .i64 g2.list, .int .i64 g2.at_, .int .i64 g3.why, .int .i64 g3.list, .int .i64 g3.at_, .int .i64 g4.why, .int .i64 g4.list, .int .i64 g4.at_, .int .i64 g5.why, .int .i64 g5.list, .int .i64 g5.at_, .int .i64 g6.why, .int .i64 g6.list, .int .i64 g6.at_, .int .i64 g7.why, .int .i64 g7.list, .int .i64 g7.at_, .int .i64 g8.why, .int .i64 g8.list, .int .i64 g8.at_, .int .i64 g9.why, .int .i64 g9.list, .int .i64 g9.at_] 56)
                        refine hK _ _ (fun hlt => Mif.cl st) ?_
                        clear hK K
                        refine Mxg.wpTL_fork ?_ ?_
                        · refine Mxg.wpTL_op (by rfl) (fun K hK => ?_)
                          go_simp
                          have hfi := HFIg.out _ stb _ (Step.refl)
                          try simp only [World.size_alloc] at hfi
                          refine hfi.mono ?_
                          rintro e v37 ⟨rfl, tn⟩
                          replace st := st.trans tn
                          clear tn stb hfi
                          refine hK _ _ (fun hlt => Mif.cl st) ?_
                          clear hK K
                          refine Mxg.wpTL_op (by rfl) (fun K hK => ?_)
                          go_simp
                          refine hK _ _ (fun hlt => Mif.cl (st.alloc _)) ?_
                          clear hK K
                          refine Mxg.wpTL_op (by rfl) (fun K hK => ?_)
                          go_simp
                          refine hK _ _ (fun hlt => absurd hlt (by decide)) ?_
                          clear hK K
                          refine Mxg.wpTL_leaf ?_
                          go_wp2_with fail
                          go_meet
                          exact ⟨_, rfl, Lib.hid (st.alloc _), Lib.hid (Blk.new _ _ _)⟩
                        · as_aux_lemma =>
                          refine Mxg.wpTL_op (by rfl) (fun K hK => ?_)
                          go_simp
                          have HYU := Lib.hid st.size
                          have stc := stb
                          have BY := Lib.hid (Blk.new ((v35).alloc (.cells #[.int .i64 g1.why, .int .i64 g1.list, .int .i64 g1.at_, .int .i64 g2.why, .int .i64 g2.list, .int .i64 g2.at_, .int .i64 g3.why, .int .i64 g3.list, .int .i64 g3.at_, .int .i64 g4.why, .int .i64 g4.list, .int .i64 g4.at_, .int .i64 g5.why, .int .i64 g5.list, .int .i64 g5.at_, .int .i64 g6.why, .int .i64 g6.list, .int .i64 g6.at_, .int .i64 g7.why, .int .i64 g7.list, .int .i64 g7.at_, .int .i64 g8.why, .int .i64 g8.list, .int .i64 g8.at_, .int .i64 g9.why, .int .i64 g9.list, .int .i64 g9.at_] 56)) 56 #[.int .i64 0, .int .i64 0, .int .i64 0])
                          try simp only [World.size_alloc] at HYU BY
                          replace st := st.alloc (.cells #[.int .i64 0, .int .i64 0, .int .i64 0] 56)
                          refine hK _ _ (fun hlt => Mif.cl st) ?_
                          clear hK K
                          refine Mxg.wpTL_op (by rfl) (fun K hK => ?_)
                          go_simp
                          have hfi := HFIg.out _ stb _ (Step.refl.alloc (.cells #[.int .i64 0, .int .i64 0, .int .i64 0] 56))
                          try simp only [World.size_alloc] at hfi
                          refine hfi.mono ?_
                          rintro e v39 ⟨rfl, tn⟩
                          replace st := st.trans tn
                          replace BY := Lib.hid (BY.out.step tn id)
                          clear tn stb hfi
                          refine hK _ _ (fun hlt => Mif.cl st) ?_
                          clear hK K
                          have m0 := (BY.out.cell 0).trans (show _ = some (Value.int .i64 0) from rfl)
                          have m1 := (BY.out.cell 1).trans (show _ = some (Value.int .i64 0) from rfl)
                          have m2 := (BY.out.cell 2).trans (show _ = some (Value.int .i64 0) from rfl)
                          have mf := BY.out.frozen
                          refine Mxg.wpTL_op (by rfl) (fun K hK => ?_)
                          go_simp
                          refine hK _ _ (fun hlt => absurd hlt (by decide)) ?_
                          clear hK K
                          refine Mxg.wpTL_leaf ?_
                          go_wp2_with fail
                          go_meet
                          exact ⟨_, rfl, Lib.hid (three_step st (.inr HYU.out)), Lib.hid (three_new BY.out)⟩
                      · as_aux_lemma =>
                        refine Mxg.wpTL_op (by rfl) (fun K hK => ?_)
                        go_simp
                        have HYU := Lib.hid st.size
                        have BY := Lib.hid (Blk.new (v35) 56 #[.int .i64 0, .int .i64 0, .int .i64 0])
                        try simp only [World.size_alloc] at HYU BY
                        replace st := st.alloc (.cells #[.int .i64 0, .int .i64 0, .int .i64 0] 56)
                        refine hK _ _ (fun hlt => Mif.cl st) ?_
                        clear hK K
                        refine Mxg.wpTL_op (by rfl) (fun K hK => ?_)
                        refine step_slice (by rfl) (by rfl) [(0, .agg #[.int .i64 g1.why, .int .i64 g1.list, .int .i64 g1.at_]), (1, .agg #[.int .i64 g2.why, .int .i64 g2.list, .int .i64 g2.at_]), (2, .agg #[.int .i64 g3.why, .int .i64 g3.list, .int .i64 g3.at_]), (3, .agg #[.int .i64 g4.why, .int .i64 g4.list, .int .i64 g4.at_]), (4, .agg #[.int .i64 g5.why, .int .i64 g5.list, .int .i64 g5.at_]), (5, .agg #[.int .i64 g6.why, .int .i64 g6.list, .int .i64 g6.at_]), (6, .agg #[.int .i64 g7.why, .int .i64 g7.list, .int .i64 g7.at_]), (7, .agg #[.int .i64 g8.why, .int .i64 g8.list, .int .i64 g8.at_]), (8, .agg #[.int .i64 g9.why, .int .i64 g9.list, .int .i64 g9.at_])] (by rfl) #[.int .i64 g1.why, .int .i64 g1.list, .int .i64 g1.at_, .int .i64 g2.why, .int .i64 g2.list, .int .i64 g2.at_, .int .i64 g3.why, .int .i64 g3.list, .int .i64 g3.at_, .int .i64 g4.why, .int .i64 g4.list, .int .i64 g4.at_, .int .i64 g5.why, .int .i64 g5.list, .int .i64 g5.at_, .int .i64 g6.why, .int .i64 g6.list, .int .i64 g6.at_, .int .i64 g7.why, .int .i64 g7.list, .int .i64 g7.at_, .int .i64 g8.why, .int .i64 g8.list, .int .i64 g8.at_, .int .i64 g9.why, .int .i64 g9.list, .int .i64 g9.at_] (bs9 g1 g2 g3 g4 g5 g6 g7 g8 g9) ?_
                        simp only [Act.put, List.setIfInBounds_toArray, List.set_cons_succ, List.set_cons_zero]
                        have stb := st
                        replace st := st.alloc (.cells #[.int .i64 g1.why, .int .i64 g1.list, .int .i64 g1.at_, .int .i64 g2.why, .int .i64 g2.list, .int .i64 g2.at_, .int .i64 g3.why, .int .i64 g3.list, .int .i64 g3.at_, .int .i64 g4.why, .int .i64 g4.list, .int .i64 g4.at_, .int .i64 g5.why, .int .i64 g5.list, .int .i64 g5.at_, .int .i64 g6.why, .int .i64 g6.list, .int .i64 g6.at_, .int .i64 g7.why, .int .i64 g7.list, .int .i64 g7.at_, .int .i64 g8.why, .int .i64 g8.list, .int .i64 g8.at_, .int .i64 g9.why, .int .i64 g9.list, .int .i64 g9.at_] 56)
                        replace BY := Lib.hid (BY.out.alloc (.cells #[.int .i64 g1.why, .int .i64 g1.list, .int .i64 g1.at_, .int .i64 g2.why, .int .i64 g2.list, .int .i64 g2.at_, .int .i64 g3.why, .int .i64 g3.list, .int .i64 g3.at_, .int .i64 g4.why, .int .i64 g4.list, .int .i64 g4.at_, .int .i64 g5.why, .int .i64 g5.list, .int .i64 g5.at_, .int .i64 g6.why, .int .i64 g6.list, .int .i64 g6.at_, .int .i64 g7.why, .int .i64 g7.list, .int .i64 g7.at_, .int .i64 g8.why, .int .i64 g8.list, .int .i64 g8.at_, .int .i64 g9.why, .int .i64 g9.list, .int .i64 g9.at_] 56))
                        refine hK _ _ (fun hlt => Mif.cl st) ?_
                        clear hK K
                        refine Mxg.wpTL_op (by rfl) (fun K hK => ?_)
                        go_simp
                        have hfi := HFIg.out _ stb _ (Step.refl)
                        try simp only [World.size_alloc] at hfi
                        refine hfi.mono ?_
                        rintro e v42 ⟨rfl, tn⟩
                        replace st := st.trans tn
                        replace BY := Lib.hid (BY.out.step tn id)
                        clear tn stb hfi
                        refine hK _ _ (fun hlt => Mif.cl st) ?_
                        clear hK K
                        have m0 := (BY.out.cell 0).trans (show _ = some (Value.int .i64 0) from rfl)
                        have m1 := (BY.out.cell 1).trans (show _ = some (Value.int .i64 0) from rfl)
                        have m2 := (BY.out.cell 2).trans (show _ = some (Value.int .i64 0) from rfl)
                        have mf := BY.out.frozen
                        refine Mxg.wpTL_op (by rfl) (fun K hK => ?_)
                        go_simp
                        refine hK _ _ (fun hlt => absurd hlt (by decide)) ?_
                        clear hK K
                        refine Mxg.wpTL_leaf ?_
                        go_wp2_with fail
                        go_meet
                        exact ⟨_, rfl, Lib.hid (three_step st (.inr HYU.out)), Lib.hid (three_new BY.out)⟩
                    · as_aux_lemma =>
                      refine Mxg.wpTL_op (by rfl) (fun K hK => ?_)
                      go_simp
                      have HYU := Lib.hid st.size
                      have BY := Lib.hid (Blk.new (v34) 56 #[.int .i64 0, .int .i64 0, .int .i64 0])
                      try simp only [World.size_alloc] at HYU BY
                      replace st := st.alloc (.cells #[.int .i64 0, .int .i64 0, .int .i64 0] 56)
                      refine hK _ _ (fun hlt => Mif.cl st) ?_
                      clear hK K
                      refine Mxg.wpTL_op (by rfl) (fun K hK => ?_)
                      go_simp
                      refine (Eg9.out _ st).mono ?_
                      rintro e v44 ⟨rfl, tn⟩
                      replace st := st.trans tn
                      replace BY := Lib.hid (BY.out.step tn id)
                      clear tn
                      refine hK _ _ (fun hlt => Mif.cl st) ?_
                      clear hK K
                      refine Mxg.wpTL_op (by rfl) (fun K hK => ?_)
                      refine step_slice (by rfl) (by rfl) [(0, .agg #[.int .i64 g1.why, .int .i64 g1.list, .int .i64 g1.at_]), (1, .agg #[.int .i64 g2.why, .int .i64 g2.list, .int .i64 g2.at_]), (2, .agg #[.int .i64 g3.why, .int .i64 g3.list, .int .i64 g3.at_]), (3, .agg #[.int .i64 g4.why, .int .i64 g4.list, .int .i64 g4.at_]), (4, .agg #[.int .i64 g5.why, .int .i64 g5.list, .int .i64 g5.at_]), (5, .agg #[.int .i64 g6.why, .int .i64 g6.list, .int .i64 g6.at_]), (6, .agg #[.int .i64 g7.why, .int .i64 g7.list, .int .i64 g7.at_]), (7, .agg #[.int .i64 g8.why, .int .i64 g8.list, .int .i64 g8.at_]), (8, .agg #[.int .i64 g9.why, .int .i64 g9.list, .int .i64 g9.at_])] (by rfl) #[.int .i64 g1.why, .int .i64 g1.list, .int .i64 g1.at_, .int .i64 g2.why, .int .i64 g2.list, .int .i64 g2.at_, .int .i64 g3.why, .int .i64 g3.list, .int .i64 g3.at_, .int .i64 g4.why, .int .i64 g4.list, .int .i64 g4.at_, .int .i64 g5.why, .int .i64 g5.list, .int .i64 g5.at_, .int .i64 g6.why, .int .i64 g6.list, .int .i64 g6.at_, .int .i64 g7.why, .int .i64 g7.list, .int .i64 g7.at_, .int .i64 g8.why, .int .i64 g8.list, .int .i64 g8.at_, .int .i64 g9.why, .int .i64 g9.list, .int .i64 g9.at_] (bs9 g1 g2 g3 g4 g5 g6 g7 g8 g9) ?_
                      simp only [Act.put, List.setIfInBounds_toArray, List.set_cons_succ, List.set_cons_zero]
                      have stb := st
                      replace st := st.alloc (.cells #[.int .i64 g1.why, .int .i64 g1.list, .int .i64 g1.at_, .int .i64 g2.why, .int .i64 g2.list, .int .i64 g2.at_, .int .i64 g3.why, .int .i64 g3.list, .int .i64 g3.at_, .int .i64 g4.why, .int .i64 g4.list, .int .i64 g4.at_, .int .i64 g5.why, .int .i64 g5.list, .int .i64 g5.at_, .int .i64 g6.why, .int .i64 g6.list, .int .i64 g6.at_, .int .i64 g7.why, .int .i64 g7.list, .int .i64 g7.at_, .int .i64 g8.why, .int .i64 g8.list, .int .i64 g8.at_, .int .i64 g9.why, .int .i64 g9.list, .int .i64 g9.at_] 56)
                      replace BY := Lib.hid (BY.out.alloc (.cells #[.int .i64 g1.why, .int .i64 g1.list, .int .i64 g1.at_, .int .i64 g2.why, .int .i64 g2.list, .int .i64 g2.at_, .int .i64 g3.why, .int .i64 g3.list, .int .i64 g3.at_, .int .i64 g4.why, .int .i64 g4.list, .int .i64 g4.at_, .int .i64 g5.why, .int .i64 g5.list, .int .i64 g5.at_, .int .i64 g6.why, .int .i64 g6.list, .int .i64 g6.at_, .int .i64 g7.why, .int .i64 g7.list, .int .i64 g7.at_, .int .i64 g8.why, .int .i64 g8.list, .int .i64 g8.at_, .int .i64 g9.why, .int .i64 g9.list, .int .i64 g9.at_] 56))
                      refine hK _ _ (fun hlt => Mif.cl st) ?_
                      clear hK K
                      refine Mxg.wpTL_op (by rfl) (fun K hK => ?_)
                      go_simp
                      have hfi := HFIg.out _ stb _ (Step.refl)
                      try simp only [World.size_alloc] at hfi
                      refine hfi.mono ?_
                      rintro e v46 ⟨rfl, tn⟩
                      replace st := st.trans tn
                      replace BY := Lib.hid (BY.out.step tn id)
                      clear tn stb hfi
                      refine hK _ _ (fun hlt => Mif.cl st) ?_
                      clear hK K
                      have m0 := (BY.out.cell 0).trans (show _ = some (Value.int .i64 0) from rfl)
                      have m1 := (BY.out.cell 1).trans (show _ = some (Value.int .i64 0) from rfl)
                      have m2 := (BY.out.cell 2).trans (show _ = some (Value.int .i64 0) from rfl)
                      have mf := BY.out.frozen
                      refine Mxg.wpTL_op (by rfl) (fun K hK => ?_)
                      go_simp
                      refine hK _ _ (fun hlt => absurd hlt (by decide)) ?_
                      clear hK K
                      refine Mxg.wpTL_leaf ?_
                      go_wp2_with fail
                      go_meet
                      exact ⟨_, rfl, Lib.hid (three_step st (.inr HYU.out)), Lib.hid (three_new BY.out)⟩
                  · as_aux_lemma =>
                    refine Mxg.wpTL_op (by rfl) (fun K hK => ?_)
                    go_simp
                    have HYU := Lib.hid st.size
                    have BY := Lib.hid (Blk.new (v33) 56 #[.int .i64 0, .int .i64 0, .int .i64 0])
                    try simp only [World.size_alloc] at HYU BY
                    replace st := st.alloc (.cells #[.int .i64 0, .int .i64 0, .int .i64 0] 56)
                    refine hK _ _ (fun hlt => Mif.cl st) ?_
                    clear hK K
                    refine Mxg.wpTL_op (by rfl) (fun K hK => ?_)
                    go_simp
                    refine (Eg8.out _ st).mono ?_
                    rintro e v48 ⟨rfl, tn⟩
                    replace st := st.trans tn
                    replace BY := Lib.hid (BY.out.step tn id)
                    clear tn
                    refine hK _ _ (fun hlt => Mif.cl st) ?_
                    clear hK K
                    refine Mxg.wpTL_op (by rfl) (fun K hK => ?_)
                    go_simp
                    refine (Eg9.out _ st).mono ?_
                    rintro e v49 ⟨rfl, tn⟩
                    replace st := st.trans tn
                    replace BY := Lib.hid (BY.out.step tn id)
                    clear tn
                    refine hK _ _ (fun hlt => Mif.cl st) ?_
                    clear hK K
                    refine Mxg.wpTL_op (by rfl) (fun K hK => ?_)
                    refine step_slice (by rfl) (by rfl) [(0, .agg #[.int .i64 g1.why, .int .i64 g1.list, .int .i64 g1.at_]), (1, .agg #[.int .i64 g2.why, .int .i64 g2.list, .int .i64 g2.at_]), (2, .agg #[.int .i64 g3.why, .int .i64 g3.list, .int .i64 g3.at_]), (3, .agg #[.int .i64 g4.why, .int .i64 g4.list, .int .i64 g4.at_]), (4, .agg #[.int .i64 g5.why, .int .i64 g5.list, .int .i64 g5.at_]), (5, .agg #[.int .i64 g6.why, .int .i64 g6.list, .int .i64 g6.at_]), (6, .agg #[.int .i64 g7.why, .int .i64 g7.list, .int .i64 g7.at_]), (7, .agg #[.int .i64 g8.why, .int .i64 g8.list, .int .i64 g8.at_]), (8, .agg #[.int .i64 g9.why, .int .i64 g9.list, .int .i64 g9.at_])] (by rfl) #[.int .i64 g1.why, .int .i64 g1.list, .int .i64 g1.at_, .int .i64 g2.why, .int .i64 g2.list, .int .i64 g2.at_, .int .i64 g3.why, .int .i64 g3.list, .int .i64 g3.at_, .int .i64 g4.why, .int .i64 g4.list, .int .i64 g4.at_, .int .i64 g5.why, .int .i64 g5.list, .int .i64 g5.at_, .int .i64 g6.why, .int .i64 g6.list, .int .i64 g6.at_, .int .i64 g7.why, .int .i64 g7.list, .int .i64 g7.at_, .int .i64 g8.why, .int .i64 g8.list, .int .i64 g8.at_, .int .i64 g9.why, .int .i64 g9.list, .int .i64 g9.at_] (bs9 g1 g2 g3 g4 g5 g6 g7 g8 g9) ?_
                    simp only [Act.put, List.setIfInBounds_toArray, List.set_cons_succ, List.set_cons_zero]
                    have stb := st
                    replace st := st.alloc (.cells #[.int .i64 g1.why, .int .i64 g1.list, .int .i64 g1.at_, .int .i64 g2.why, .int .i64 g2.list, .int .i64 g2.at_, .int .i64 g3.why, .int .i64 g3.list, .int .i64 g3.at_, .int .i64 g4.why, .int .i64 g4.list, .int .i64 g4.at_, .int .i64 g5.why, .int .i64 g5.list, .int .i64 g5.at_, .int .i64 g6.why, .int .i64 g6.list, .int .i64 g6.at_, .int .i64 g7.why, .int .i64 g7.list, .int .i64 g7.at_, .int .i64 g8.why, .int .i64 g8.list, .int .i64 g8.at_, .int .i64 g9.why, .int .i64 g9.list, .int .i64 g9.at_] 56)
                    replace BY := Lib.hid (BY.out.alloc (.cells #[.int .i64 g1.why, .int .i64 g1.list, .int .i64 g1.at_, .int .i64 g2.why, .int .i64 g2.list, .int .i64 g2.at_, .int .i64 g3.why, .int .i64 g3.list, .int .i64 g3.at_, .int .i64 g4.why, .int .i64 g4.list, .int .i64 g4.at_, .int .i64 g5.why, .int .i64 g5.list, .int .i64 g5.at_, .int .i64 g6.why, .int .i64 g6.list, .int .i64 g6.at_, .int .i64 g7.why, .int .i64 g7.list, .int .i64 g7.at_, .int .i64 g8.why, .int .i64 g8.list, .int .i64 g8.at_, .int .i64 g9.why, .int .i64 g9.list, .int .i64 g9.at_] 56))
                    refine hK _ _ (fun hlt => Mif.cl st) ?_
                    clear hK K
                    refine Mxg.wpTL_op (by rfl) (fun K hK => ?_)
                    go_simp
                    have hfi := HFIg.out _ stb _ (Step.refl)
                    try simp only [World.size_alloc] at hfi
                    refine hfi.mono ?_
                    rintro e v51 ⟨rfl, tn⟩
                    replace st := st.trans tn
                    replace BY := Lib.hid (BY.out.step tn id)
                    clear tn stb hfi
                    refine hK _ _ (fun hlt => Mif.cl st) ?_
                    clear hK K
                    have m0 := (BY.out.cell 0).trans (show _ = some (Value.int .i64 0) from rfl)
                    have m1 := (BY.out.cell 1).trans (show _ = some (Value.int .i64 0) from rfl)
                    have m2 := (BY.out.cell 2).trans (show _ = some (Value.int .i64 0) from rfl)
                    have mf := BY.out.frozen
                    refine Mxg.wpTL_op (by rfl) (fun K hK => ?_)
                    go_simp
                    refine hK _ _ (fun hlt => absurd hlt (by decide)) ?_
                    clear hK K
                    refine Mxg.wpTL_leaf ?_
                    go_wp2_with fail
                    go_meet
                    exact ⟨_, rfl, Lib.hid (three_step st (.inr HYU.out)), Lib.hid (three_new BY.out)⟩
                · as_aux_lemma =>
                  refine Mxg.wpTL_op (by rfl) (fun K hK => ?_)
                  go_simp
                  have HYU := Lib.hid st.size
                  have BY := Lib.hid (Blk.new (v32) 56 #[.int .i64 0, .int .i64 0, .int .i64 0])
                  try simp only [World.size_alloc] at HYU BY
                  replace st := st.alloc (.cells #[.int .i64 0, .int .i64 0, .int .i64 0] 56)
                  refine hK _ _ (fun hlt => Mif.cl st) ?_
                  clear hK K
                  refine Mxg.wpTL_op (by rfl) (fun K hK => ?_)
                  go_simp
                  refine (Eg7.out _ st).mono ?_
                  rintro e v53 ⟨rfl, tn⟩
                  replace st := st.trans tn
                  replace BY := Lib.hid (BY.out.step tn id)
                  clear tn
                  refine hK _ _ (fun hlt => Mif.cl st) ?_
                  clear hK K
                  refine Mxg.wpTL_op (by rfl) (fun K hK => ?_)
                  go_simp
                  refine (Eg8.out _ st).mono ?_
                  rintro e v54 ⟨rfl, tn⟩
                  replace st := st.trans tn
                  replace BY := Lib.hid (BY.out.step tn id)
                  clear tn
                  refine hK _ _ (fun hlt => Mif.cl st) ?_
                  clear hK K
                  refine Mxg.wpTL_op (by rfl) (fun K hK => ?_)
                  go_simp
                  refine (Eg9.out _ st).mono ?_
                  rintro e v55 ⟨rfl, tn⟩
                  replace st := st.trans tn
                  replace BY := Lib.hid (BY.out.step tn id)
                  clear tn
                  refine hK _ _ (fun hlt => Mif.cl st) ?_
                  clear hK K
                  refine Mxg.wpTL_op (by rfl) (fun K hK => ?_)
                  refine step_slice (by rfl) (by rfl) [(0, .agg #[.int .i64 g1.why, .int .i64 g1.list, .int .i64 g1.at_]), (1, .agg #[.int .i64 g2.why, .int .i64 g2.list, .int .i64 g2.at_]), (2, .agg #[.int .i64 g3.why, .int .i64 g3.list, .int .i64 g3.at_]), (3, .agg #[.int .i64 g4.why, .int .i64 g4.list, .int .i64 g4.at_]), (4, .agg #[.int .i64 g5.why, .int .i64 g5.list, .int .i64 g5.at_]), (5, .agg #[.int .i64 g6.why, .int .i64 g6.list, .int .i64 g6.at_]), (6, .agg #[.int .i64 g7.why, .int .i64 g7.list, .int .i64 g7.at_]), (7, .agg #[.int .i64 g8.why, .int .i64 g8.list, .int .i64 g8.at_]), (8, .agg #[.int .i64 g9.why, .int .i64 g9.list, .int .i64 g9.at_])] (by rfl) #[.int .i64 g1.why, .int .i64 g1.list, .int .i64 g1.at_, .int .i64 g2.why, .int .i64 g2.list, .int .i64 g2.at_, .int .i64 g3.why, .int .i64 g3.list, .int .i64 g3.at_, .int .i64 g4.why, .int .i64 g4.list, .int .i64 g4.at_, .int .i64 g5.why, .int .i64 g5.list, .int .i64 g5.at_, .int .i64 g6.why, .int .i64 g6.list, .int .i64 g6.at_, .int .i64 g7.why, .int .i64 g7.list, .int .i64 g7.at_, .int .i64 g8.why, .int .i64 g8.list, .int .i64 g8.at_, .int .i64 g9.why, .int .i64 g9.list, .int .i64 g9.at_] (bs9 g1 g2 g3 g4 g5 g6 g7 g8 g9) ?_
                  simp only [Act.put, List.setIfInBounds_toArray, List.set_cons_succ, List.set_cons_zero]
                  have stb := st
                  replace st := st.alloc (.cells #[.int .i64 g1.why, .int .i64 g1.list, .int .i64 g1.at_, .int .i64 g2.why, .int .i64 g2.list, .int .i64 g2.at_, .int .i64 g3.why, .int .i64 g3.list, .int .i64 g3.at_, .int .i64 g4.why, .int .i64 g4.list, .int .i64 g4.at_, .int .i64 g5.why, .int .i64 g5.list, .int .i64 g5.at_, .int .i64 g6.why, .int .i64 g6.list, .int .i64 g6.at_, .int .i64 g7.why, .int .i64 g7.list, .int .i64 g7.at_, .int .i64 g8.why, .int .i64 g8.list, .int .i64 g8.at_, .int .i64 g9.why, .int .i64 g9.list, .int .i64 g9.at_] 56)
                  replace BY := Lib.hid (BY.out.alloc (.cells #[.int .i64 g1.why, .int .i64 g1.list, .int .i64 g1.at_, .int .i64 g2.why, .int .i64 g2.list, .int .i64 g2.at_, .int .i64 g3.why, .int .i64 g3.list, .int .i64 g3.at_, .int .i64 g4.why, .int .i64 g4.list, .int .i64 g4.at_, .int .i64 g5.why, .int .i64 g5.list, .int .i64 g5.at_, .int .i64 g6.why, .int .i64 g6.list, .int .i64 g6.at_, .int .i64 g7.why, .int .i64 g7.list, .int .i64 g7.at_, .int .i64 g8.why, .int .i64 g8.list, .int .i64 g8.at_, .int .i64 g9.why, .int .i64 g9.list, .int .i64 g9.at_] 56))
                  refine hK _ _ (fun hlt => Mif.cl st) ?_
                  clear hK K
                  refine Mxg.wpTL_op (by rfl) (fun K hK => ?_)
                  go_simp
                  have hfi := HFIg.out _ stb _ (Step.refl)
                  try simp only [World.size_alloc] at hfi
                  refine hfi.mono ?_
                  rintro e v57 ⟨rfl, tn⟩
                  replace st := st.trans tn
                  replace BY := Lib.hid (BY.out.step tn id)
                  clear tn stb hfi
                  refine hK _ _ (fun hlt => Mif.cl st) ?_
                  clear hK K
                  have m0 := (BY.out.cell 0).trans (show _ = some (Value.int .i64 0) from rfl)
                  have m1 := (BY.out.cell 1).trans (show _ = some (Value.int .i64 0) from rfl)
                  have m2 := (BY.out.cell 2).trans (show _ = some (Value.int .i64 0) from rfl)
                  have mf := BY.out.frozen
                  refine Mxg.wpTL_op (by rfl) (fun K hK => ?_)
                  go_simp
                  refine hK _ _ (fun hlt => absurd hlt (by decide)) ?_
                  clear hK K
                  refine Mxg.wpTL_leaf ?_
                  go_wp2_with fail
                  go_meet
                  exact ⟨_, rfl, Lib.hid (three_step st (.inr HYU.out)), Lib.hid (three_new BY.out)⟩
              · as_aux_lemma =>
                refine Mxg.wpTL_op (by rfl) (fun K hK => ?_)
                go_simp
                have HYU := Lib.hid st.size
                have BY := Lib.hid (Blk.new (v31) 56 #[.int .i64 0, .int .i64 0, .int .i64 0])
                try simp only [World.size_alloc] at HYU BY
                replace st := st.alloc (.cells #[.int .i64 0, .int .i64 0, .int .i64 0] 56)
                refine hK _ _ (fun hlt => Mif.cl st) ?_
                clear hK K
                refine Mxg.wpTL_op (by rfl) (fun K hK => ?_)
                go_simp
                refine (Eg6.out _ st).mono ?_
                rintro e v59 ⟨rfl, tn⟩
                replace st := st.trans tn
                replace BY := Lib.hid (BY.out.step tn id)
                clear tn
                refine hK _ _ (fun hlt => Mif.cl st) ?_
                clear hK K
                refine Mxg.wpTL_op (by rfl) (fun K hK => ?_)
                go_simp
                refine (Eg7.out _ st).mono ?_
                rintro e v60 ⟨rfl, tn⟩
                replace st := st.trans tn
                replace BY := Lib.hid (BY.out.step tn id)
                clear tn
                refine hK _ _ (fun hlt => Mif.cl st) ?_
                clear hK K
                refine Mxg.wpTL_op (by rfl) (fun K hK => ?_)
                go_simp
                refine (Eg8.out _ st).mono ?_
                rintro e v61 ⟨rfl, tn⟩
                replace st := st.trans tn
                replace BY := Lib.hid (BY.out.step tn id)
                clear tn
                refine hK _ _ (fun hlt => Mif.cl st) ?_
                clear hK K
                refine Mxg.wpTL_op (by rfl) (fun K hK => ?_)
                go_simp
                refine (Eg9.out _ st).mono ?_
                rintro e v62 ⟨rfl, tn⟩
                replace st := st.trans tn
                replace BY := Lib.hid (BY.out.step tn id)
                clear tn
                refine hK _ _ (fun hlt => Mif.cl st) ?_
                clear hK K
                refine Mxg.wpTL_op (by rfl) (fun K hK => ?_)
                refine step_slice (by rfl) (by rfl) [(0, .agg #[.int .i64 g1.why, .int .i64 g1.list, .int .i64 g1.at_]), (1, .agg #[.int .i64 g2.why, .int .i64 g2.list, .int .i64 g2.at_]), (2, .agg #[.int .i64 g3.why, .int .i64 g3.list, .int .i64 g3.at_]), (3, .agg #[.int .i64 g4.why, .int .i64 g4.list, .int .i64 g4.at_]), (4, .agg #[.int .i64 g5.why, .int .i64 g5.list, .int .i64 g5.at_]), (5, .agg #[.int .i64 g6.why, .int .i64 g6.list, .int .i64 g6.at_]), (6, .agg #[.int .i64 g7.why, .int .i64 g7.list, .int .i64 g7.at_]), (7, .agg #[.int .i64 g8.why, .int .i64 g8.list, .int .i64 g8.at_]), (8, .agg #[.int .i64 g9.why, .int .i64 g9.list, .int .i64 g9.at_])] (by rfl) #[.int .i64 g1.why, .int .i64 g1.list, .int .i64 g1.at_, .int .i64 g2.why, .int .i64 g2.list, .int .i64 g2.at_, .int .i64 g3.why, .int .i64 g3.list, .int .i64 g3.at_, .int .i64 g4.why, .int .i64 g4.list, .int .i64 g4.at_, .int .i64 g5.why, .int .i64 g5.list, .int .i64 g5.at_, .int .i64 g6.why, .int .i64 g6.list, .int .i64 g6.at_, .int .i64 g7.why, .int .i64 g7.list, .int .i64 g7.at_, .int .i64 g8.why, .int .i64 g8.list, .int .i64 g8.at_, .int .i64 g9.why, .int .i64 g9.list, .int .i64 g9.at_] (bs9 g1 g2 g3 g4 g5 g6 g7 g8 g9) ?_
                simp only [Act.put, List.setIfInBounds_toArray, List.set_cons_succ, List.set_cons_zero]
                have stb := st
                replace st := st.alloc (.cells #[.int .i64 g1.why, .int .i64 g1.list, .int .i64 g1.at_, .int .i64 g2.why, .int .i64 g2.list, .int .i64 g2.at_, .int .i64 g3.why, .int .i64 g3.list, .int .i64 g3.at_, .int .i64 g4.why, .int .i64 g4.list, .int .i64 g4.at_, .int .i64 g5.why, .int .i64 g5.list, .int .i64 g5.at_, .int .i64 g6.why, .int .i64 g6.list, .int .i64 g6.at_, .int .i64 g7.why, .int .i64 g7.list, .int .i64 g7.at_, .int .i64 g8.why, .int .i64 g8.list, .int .i64 g8.at_, .int .i64 g9.why, .int .i64 g9.list, .int .i64 g9.at_] 56)
                replace BY := Lib.hid (BY.out.alloc (.cells #[.int .i64 g1.why, .int .i64 g1.list, .int .i64 g1.at_, .int .i64 g2.why, .int .i64 g2.list, .int .i64 g2.at_, .int .i64 g3.why, .int .i64 g3.list, .int .i64 g3.at_, .int .i64 g4.why, .int .i64 g4.list, .int .i64 g4.at_, .int .i64 g5.why, .int .i64 g5.list, .int .i64 g5.at_, .int .i64 g6.why, .int .i64 g6.list, .int .i64 g6.at_, .int .i64 g7.why, .int .i64 g7.list, .int .i64 g7.at_, .int .i64 g8.why, .int .i64 g8.list, .int .i64 g8.at_, .int .i64 g9.why, .int .i64 g9.list, .int .i64 g9.at_] 56))
                refine hK _ _ (fun hlt => Mif.cl st) ?_
                clear hK K
                refine Mxg.wpTL_op (by rfl) (fun K hK => ?_)
                go_simp
                have hfi := HFIg.out _ stb _ (Step.refl)
                try simp only [World.size_alloc] at hfi
                refine hfi.mono ?_
                rintro e v64 ⟨rfl, tn⟩
                replace st := st.trans tn
                replace BY := Lib.hid (BY.out.step tn id)
                clear tn stb hfi
                refine hK _ _ (fun hlt => Mif.cl st) ?_
                clear hK K
                have m0 := (BY.out.cell 0).trans (show _ = some (Value.int .i64 0) from rfl)
                have m1 := (BY.out.cell 1).trans (show _ = some (Value.int .i64 0) from rfl)
                have m2 := (BY.out.cell 2).trans (show _ = some (Value.int .i64 0) from rfl)
                have mf := BY.out.frozen
                refine Mxg.wpTL_op (by rfl) (fun K hK => ?_)
                go_simp
                refine hK _ _ (fun hlt => absurd hlt (by decide)) ?_
                clear hK K
                refine Mxg.wpTL_leaf ?_
                go_wp2_with fail
                go_meet
                exact ⟨_, rfl, Lib.hid (three_step st (.inr HYU.out)), Lib.hid (three_new BY.out)⟩
            · as_aux_lemma =>
              refine Mxg.wpTL_op (by rfl) (fun K hK => ?_)
              go_simp
              have HYU := Lib.hid st.size
              have BY := Lib.hid (Blk.new (v30) 56 #[.int .i64 0, .int .i64 0, .int .i64 0])
              try simp only [World.size_alloc] at HYU BY
              replace st := st.alloc (.cells #[.int .i64 0, .int .i64 0, .int .i64 0] 56)
              refine hK _ _ (fun hlt => Mif.cl st) ?_
              clear hK K
              refine Mxg.wpTL_op (by rfl) (fun K hK => ?_)
              go_simp
              refine (Eg5.out _ st).mono ?_
              rintro e v66 ⟨rfl, tn⟩
              replace st := st.trans tn
              replace BY := Lib.hid (BY.out.step tn id)
              clear tn
              refine hK _ _ (fun hlt => Mif.cl st) ?_
              clear hK K
              refine Mxg.wpTL_op (by rfl) (fun K hK => ?_)
              go_simp
              refine (Eg6.out _ st).mono ?_
              rintro e v67 ⟨rfl, tn⟩
              replace st := st.trans tn
              replace BY := Lib.hid (BY.out.step tn id)
              clear tn
              refine hK _ _ (fun hlt => Mif.cl st) ?_
              clear hK K
              refine Mxg.wpTL_op (by rfl) (fun K hK => ?_)
              go_simp
              refine (Eg7.out _ st).mono ?_
              rintro e v68 ⟨rfl, tn⟩
              replace st := st.trans tn
              replace BY := Lib.hid (BY.out.step tn id)
              clear tn
              refine hK _ _ (fun hlt => Mif.cl st) ?_
              clear hK K
              refine Mxg.wpTL_op (by rfl) (fun K hK => ?_)
              go_simp
              refine (Eg8.out _ st).mono ?_
              rintro e v69 ⟨rfl, tn⟩
              replace st := st.trans tn
              replace BY := Lib.hid (BY.out.step tn id)
              clear tn
              refine hK _ _ (fun hlt => Mif.cl st) ?_
              clear hK K
              refine Mxg.wpTL_op (by rfl) (fun K hK => ?_)
              go_simp
              refine (Eg9.out _ st).mono ?_
              rintro e v70 ⟨rfl, tn⟩
              replace st := st.trans tn
              replace BY := Lib.hid (BY.out.step tn id)
              clear tn
              refine hK _ _ (fun hlt => Mif.cl st) ?_
              clear hK K
              refine Mxg.wpTL_op (by rfl) (fun K hK => ?_)
              refine step_slice (by rfl) (by rfl) [(0, .agg #[.int .i64 g1.why, .int .i64 g1.list, .int .i64 g1.at_]), (1, .agg #[.int .i64 g2.why, .int .i64 g2.list, .int .i64 g2.at_]), (2, .agg #[.int .i64 g3.why, .int .i64 g3.list, .int .i64 g3.at_]), (3, .agg #[.int .i64 g4.why, .int .i64 g4.list, .int .i64 g4.at_]), (4, .agg #[.int .i64 g5.why, .int .i64 g5.list, .int .i64 g5.at_]), (5, .agg #[.int .i64 g6.why, .int .i64 g6.list, .int .i64 g6.at_]), (6, .agg #[.int .i64 g7.why, .int .i64 g7.list, .int .i64 g7.at_]), (7, .agg #[.int .i64 g8.why, .int .i64 g8.list, .int .i64 g8.at_]), (8, .agg #[.int .i64 g9.why, .int .i64 g9.list, .int .i64 g9.at_])] (by rfl) #[.int .i64 g1.why, .int .i64 g1.list, .int .i64 g1.at_, .int .i64 g2.why, .int .i64 g2.list, .int .i64 g2.at_, .int .i64 g3.why, .int .i64 g3.list, .int .i64 g3.at_, .int .i64 g4.why, .int .i64 g4.list, .int .i64 g4.at_, .int .i64 g5.why, .int .i64 g5.list, .int .i64 g5.at_, .int .i64 g6.why, .int .i64 g6.list, .int .i64 g6.at_, .int .i64 g7.why, .int .i64 g7.list, .int .i64 g7.at_, .int .i64 g8.why, .int .i64 g8.list, .int .i64 g8.at_, .int .i64 g9.why, .int .i64 g9.list, .int .i64 g9.at_] (bs9 g1 g2 g3 g4 g5 g6 g7 g8 g9) ?_
              simp only [Act.put, List.setIfInBounds_toArray, List.set_cons_succ, List.set_cons_zero]
              have stb := st
              replace st := st.alloc (.cells #[.int .i64 g1.why, .int .i64 g1.list, .int .i64 g1.at_, .int .i64 g2.why, .int .i64 g2.list, .int .i64 g2.at_, .int .i64 g3.why, .int .i64 g3.list, .int .i64 g3.at_, .int .i64 g4.why, .int .i64 g4.list, .int .i64 g4.at_, .int .i64 g5.why, .int .i64 g5.list, .int .i64 g5.at_, .int .i64 g6.why, .int .i64 g6.list, .int .i64 g6.at_, .int .i64 g7.why, .int .i64 g7.list, .int .i64 g7.at_, .int .i64 g8.why, .int .i64 g8.list, .int .i64 g8.at_, .int .i64 g9.why, .int .i64 g9.list, .int .i64 g9.at_] 56)
              replace BY := Lib.hid (BY.out.alloc (.cells #[.int .i64 g1.why, .int .i64 g1.list, .int .i64 g1.at_, .int .i64 g2.why, .int .i64 g2.list, .int .i64 g2.at_, .int .i64 g3.why, .int .i64 g3.list, .int .i64 g3.at_, .int .i64 g4.why, .int .i64 g4.list, .int .i64 g4.at_, .int .i64 g5.why, .int .i64 g5.list, .int .i64 g5.at_, .int .i64 g6.why, .int .i64 g6.list, .int .i64 g6.at_, .int .i64 g7.why, .int .i64 g7.list, .int .i64 g7.at_, .int .i64 g8.why, .int .i64 g8.list, .int .i64 g8.at_, .int .i64 g9.why, .int .i64 g9.list, .int .i64 g9.at_] 56))
              refine hK _ _ (fun hlt => Mif.cl st) ?_
              clear hK K
              refine Mxg.wpTL_op (by rfl) (fun K hK => ?_)
              go_simp
              have hfi := HFIg.out _ stb _ (Step.refl)
              try simp only [World.size_alloc] at hfi
              refine hfi.mono ?_
              rintro e v72 ⟨rfl, tn⟩
              replace st := st.trans tn
              replace BY := Lib.hid (BY.out.step tn id)
              clear tn stb hfi
              refine hK _ _ (fun hlt => Mif.cl st) ?_
              clear hK K
              have m0 := (BY.out.cell 0).trans (show _ = some (Value.int .i64 0) from rfl)
              have m1 := (BY.out.cell 1).trans (show _ = some (Value.int .i64 0) from rfl)
              have m2 := (BY.out.cell 2).trans (show _ = some (Value.int .i64 0) from rfl)
              have mf := BY.out.frozen
              refine Mxg.wpTL_op (by rfl) (fun K hK => ?_)
              go_simp
              refine hK _ _ (fun hlt => absurd hlt (by decide)) ?_
              clear hK K
              refine Mxg.wpTL_leaf ?_
              go_wp2_with fail
              go_meet
              exact ⟨_, rfl, Lib.hid (three_step st (.inr HYU.out)), Lib.hid (three_new BY.out)⟩
          · as_aux_lemma =>
            refine Mxg.wpTL_op (by rfl) (fun K hK => ?_)
            go_simp
            have HYU := Lib.hid st.size
            have BY := Lib.hid (Blk.new (v29) 56 #[.int .i64 0, .int .i64 0, .int .i64 0])
            try simp only [World.size_alloc] at HYU BY
            replace st := st.alloc (.cells #[.int .i64 0, .int .i64 0, .int .i64 0] 56)
            refine hK _ _ (fun hlt => Mif.cl st) ?_
            clear hK K
            refine Mxg.wpTL_op (by rfl) (fun K hK => ?_)
            go_simp
            refine (Eg4.out _ st).mono ?_
            rintro e v74 ⟨rfl, tn⟩
            replace st := st.trans tn
            replace BY := Lib.hid (BY.out.step tn id)
            clear tn
            refine hK _ _ (fun hlt => Mif.cl st) ?_
            clear hK K
            refine Mxg.wpTL_op (by rfl) (fun K hK => ?_)
            go_simp
            refine (Eg5.out _ st).mono ?_
            rintro e v75 ⟨rfl, tn⟩
            replace st := st.trans tn
            replace BY := Lib.hid (BY.out.step tn id)
            clear tn
            refine hK _ _ (fun hlt => Mif.cl st) ?_
            clear hK K
            refine Mxg.wpTL_op (by rfl) (fun K hK => ?_)
            go_simp
            refine (Eg6.out _ st).mono ?_
            rintro e v76 ⟨rfl, tn⟩
            replace st := st.trans tn
            replace BY := Lib.hid (BY.out.step tn id)
            clear tn
            refine hK _ _ (fun hlt => Mif.cl st) ?_
            clear hK K
            refine Mxg.wpTL_op (by rfl) (fun K hK => ?_)
            go_simp
            refine (Eg7.out _ st).mono ?_
            rintro e v77 ⟨rfl, tn⟩
            replace st := st.trans tn
            replace BY := Lib.hid (BY.out.step tn id)
            clear tn
            refine hK _ _ (fun hlt => Mif.cl st) ?_
            clear hK K
            refine Mxg.wpTL_op (by rfl) (fun K hK => ?_)
            go_simp
            refine (Eg8.out _ st).mono ?_
            rintro e v78 ⟨rfl, tn⟩
            replace st := st.trans tn
            replace BY := Lib.hid (BY.out.step tn id)
            clear tn
            refine hK _ _ (fun hlt => Mif.cl st) ?_
            clear hK K
            refine Mxg.wpTL_op (by rfl) (fun K hK => ?_)
            go_simp
            refine (Eg9.out _ st).mono ?_
            rintro e v79 ⟨rfl, tn⟩
            replace st := st.trans tn
            replace BY := Lib.hid (BY.out.step tn id)
            clear tn
            refine hK _ _ (fun hlt => Mif.cl st) ?_
            clear hK K
            refine Mxg.wpTL_op (by rfl) (fun K hK => ?_)
            refine step_slice (by rfl) (by rfl) [(0, .agg #[.int .i64 g1.why, .int .i64 g1.list, .int .i64 g1.at_]), (1, .agg #[.int .i64 g2.why, .int .i64 g2.list, .int .i64 g2.at_]), (2, .agg #[.int .i64 g3.why, .int .i64 g3.list, .int .i64 g3.at_]), (3, .agg #[.int .i64 g4.why, .int .i64 g4.list, .int .i64 g4.at_]), (4, .agg #[.int .i64 g5.why, .int .i64 g5.list, .int .i64 g5.at_]), (5, .agg #[.int .i64 g6.why, .int .i64 g6.list, .int .i64 g6.at_]), (6, .agg #[.int .i64 g7.why, .int .i64 g7.list, .int .i64 g7.at_]), (7, .agg #[.int .i64 g8.why, .int .i64 g8.list, .int .i64 g8.at_]), (8, .agg #[.int .i64 g9.why, .int .i64 g9.list, .int .i64 g9.at_])] (by rfl) #[.int .i64 g1.why, .int .i64 g1.list, .int .i64 g1.at_, .int .i64 g2.why, .int .i64 g2.list, .int .i64 g2.at_, .int .i64 g3.why, .int .i64 g3.list, .int .i64 g3.at_, .int .i64 g4.why, .int .i64 g4.list, .int .i64 g4.at_, .int .i64 g5.why, .int .i64 g5.list, .int .i64 g5.at_, .int .i64 g6.why, .int .i64 g6.list, .int .i64 g6.at_, .int .i64 g7.why, .int .i64 g7.list, .int .i64 g7.at_, .int .i64 g8.why, .int .i64 g8.list, .int .i64 g8.at_, .int .i64 g9.why, .int .i64 g9.list, .int .i64 g9.at_] (bs9 g1 g2 g3 g4 g5 g6 g7 g8 g9) ?_
            simp only [Act.put, List.setIfInBounds_toArray, List.set_cons_succ, List.set_cons_zero]
            have stb := st
            replace st := st.alloc (.cells #[.int .i64 g1.why, .int .i64 g1.list, .int .i64 g1.at_, .int .i64 g2.why, .int .i64 g2.list, .int .i64 g2.at_, .int .i64 g3.why, .int .i64 g3.list, .int .i64 g3.at_, .int .i64 g4.why, .int .i64 g4.list, .int .i64 g4.at_, .int .i64 g5.why, .int .i64 g5.list, .int .i64 g5.at_, .int .i64 g6.why, .int .i64 g6.list, .int .i64 g6.at_, .int .i64 g7.why, .int .i64 g7.list, .int .i64 g7.at_, .int .i64 g8.why, .int .i64 g8.list, .int .i64 g8.at_, .int .i64 g9.why, .int .i64 g9.list, .int .i64 g9.at_] 56)
            replace BY := Lib.hid (BY.out.alloc (.cells #[.int .i64 g1.why, .int .i64 g1.list, .int .i64 g1.at_, .int .i64 g2.why, .int .i64 g2.list, .int .i64 g2.at_, .int .i64 g3.why, .int .i64 g3.list, .int .i64 g3.at_, .int .i64 g4.why, .int .i64 g4.list, .int .i64 g4.at_, .int .i64 g5.why, .int .i64 g5.list, .int .i64 g5.at_, .int .i64 g6.why, .int .i64 g6.list, .int .i64 g6.at_, .int .i64 g7.why, .int .i64 g7.list, .int .i64 g7.at_, .int .i64 g8.why, .int .i64 g8.list, .int .i64 g8.at_, .int .i64 g9.why, .int .i64 g9.list, .int .i64 g9.at_] 56))
            refine hK _ _ (fun hlt => Mif.cl st) ?_
            clear hK K
            refine Mxg.wpTL_op (by rfl) (fun K hK => ?_)
            go_simp
            have hfi := HFIg.out _ stb _ (Step.refl)
            try simp only [World.size_alloc] at hfi
            refine hfi.mono ?_
            rintro e v81 ⟨rfl, tn⟩
            replace st := st.trans tn
            replace BY := Lib.hid (BY.out.step tn id)
            clear tn stb hfi
            refine hK _ _ (fun hlt => Mif.cl st) ?_
            clear hK K
            have m0 := (BY.out.cell 0).trans (show _ = some (Value.int .i64 0) from rfl)
            have m1 := (BY.out.cell 1).trans (show _ = some (Value.int .i64 0) from rfl)
            have m2 := (BY.out.cell 2).trans (show _ = some (Value.int .i64 0) from rfl)
            have mf := BY.out.frozen
            refine Mxg.wpTL_op (by rfl) (fun K hK => ?_)
            go_simp
            refine hK _ _ (fun hlt => absurd hlt (by decide)) ?_
            clear hK K
            refine Mxg.wpTL_leaf ?_
            go_wp2_with fail
            go_meet
            exact ⟨_, rfl, Lib.hid (three_step st (.inr HYU.out)), Lib.hid (three_new BY.out)⟩
        · as_aux_lemma =>
          refine Mxg.wpTL_op (by rfl) (fun K hK => ?_)
          go_simp
          have HYU := Lib.hid st.size
          have BY := Lib.hid (Blk.new (v28) 56 #[.int .i64 0, .int .i64 0, .int .i64 0])
          try simp only [World.size_alloc] at HYU BY
          replace st := st.alloc (.cells #[.int .i64 0, .int .i64 0, .int .i64 0] 56)
          refine hK _ _ (fun hlt => Mif.cl st) ?_
          clear hK K
          refine Mxg.wpTL_op (by rfl) (fun K hK => ?_)
          go_simp
          refine (Eg3.out _ st).mono ?_
          rintro e v83 ⟨rfl, tn⟩
          replace st := st.trans tn
          replace BY := Lib.hid (BY.out.step tn id)
          clear tn
          refine hK _ _ (fun hlt => Mif.cl st) ?_
          clear hK K
          refine Mxg.wpTL_op (by rfl) (fun K hK => ?_)
          go_simp
          refine (Eg4.out _ st).mono ?_
          rintro e v84 ⟨rfl, tn⟩
          replace st := st.trans tn
          replace BY := Lib.hid (BY.out.step tn id)
          clear tn
          refine hK _ _ (fun hlt => Mif.cl st) ?_
          clear hK K
          refine Mxg.wpTL_op (by rfl) (fun K hK => ?_)
          go_simp
          refine (Eg5.out _ st).mono ?_
          rintro e v85 ⟨rfl, tn⟩
          replace st := st.trans tn
          replace BY := Lib.hid (BY.out.step tn id)
          clear tn
          refine hK _ _ (fun hlt => Mif.cl st) ?_
          clear hK K
          refine Mxg.wpTL_op (by rfl) (fun K hK => ?_)
          go_simp
          refine (Eg6.out _ st).mono ?_
          rintro e v86 ⟨rfl, tn⟩
          replace st := st.trans tn
          replace BY := Lib.hid (BY.out.step tn id)
          clear tn
          refine hK _ _ (fun hlt => Mif.cl st) ?_
          clear hK K
          refine Mxg.wpTL_op (by rfl) (fun K hK => ?_)
          go_simp
          refine (Eg7.out _ st).mono ?_
          rintro e v87 ⟨rfl, tn⟩
          replace st := st.trans tn
          replace BY := Lib.hid (BY.out.step tn id)
          clear tn
          refine hK _ _ (fun hlt => Mif.cl st) ?_
          clear hK K
          refine Mxg.wpTL_op (by rfl) (fun K hK => ?_)
          go_simp
          refine (Eg8.out _ st).mono ?_
          rintro e v88 ⟨rfl, tn⟩
          replace st := st.trans tn
          replace BY := Lib.hid (BY.out.step tn id)
          clear tn
          refine hK _ _ (fun hlt => Mif.cl st) ?_
          clear hK K
          refine Mxg.wpTL_op (by rfl) (fun K hK => ?_)
          go_simp
          refine (Eg9.out _ st).mono ?_
          rintro e v89 ⟨rfl, tn⟩
          replace st := st.trans tn
          replace BY := Lib.hid (BY.out.step tn id)
          clear tn
          refine hK _ _ (fun hlt => Mif.cl st) ?_
          clear hK K
          refine Mxg.wpTL_op (by rfl) (fun K hK => ?_)
          refine step_slice (by rfl) (by rfl) [(0, .agg #[.int .i64 g1.why, .int .i64 g1.list, .int .i64 g1.at_]), (1, .agg #[.int .i64 g2.why, .int .i64 g2.list, .int .i64 g2.at_]), (2, .agg #[.int .i64 g3.why, .int .i64 g3.list, .int .i64 g3.at_]), (3, .agg #[.int .i64 g4.why, .int .i64 g4.list, .int .i64 g4.at_]), (4, .agg #[.int .i64 g5.why, .int .i64 g5.list, .int .i64 g5.at_]), (5, .agg #[.int .i64 g6.why, .int .i64 g6.list, .int .i64 g6.at_]), (6, .agg #[.int .i64 g7.why, .int .i64 g7.list, .int .i64 g7.at_]), (7, .agg #[.int .i64 g8.why, .int .i64 g8.list, .int .i64 g8.at_]), (8, .agg #[.int .i64 g9.why, .int .i64 g9.list, .int .i64 g9.at_])] (by rfl) #[.int .i64 g1.why, .int .i64 g1.list, .int .i64 g1.at_, .int .i64 g2.why, .int .i64 g2.list, .int .i64 g2.at_, .int .i64 g3.why, .int .i64 g3.list, .int .i64 g3.at_, .int .i64 g4.why, .int .i64 g4.list, .int .i64 g4.at_, .int .i64 g5.why, .int .i64 g5.list, .int .i64 g5.at_, .int .i64 g6.why, .int .i64 g6.list, .int .i64 g6.at_, .int .i64 g7.why, .int .i64 g7.list, .int .i64 g7.at_, .int .i64 g8.why, .int .i64 g8.list, .int .i64 g8.at_, .int .i64 g9.why, .int .i64 g9.list, .int .i64 g9.at_] (bs9 g1 g2 g3 g4 g5 g6 g7 g8 g9) ?_
          simp only [Act.put, List.setIfInBounds_toArray, List.set_cons_succ, List.set_cons_zero]
          have stb := st
          replace st := st.alloc (.cells #[.int .i64 g1.why, .int .i64 g1.list, .int .i64 g1.at_, .int .i64 g2.why, .int .i64 g2.list, .int .i64 g2.at_, .int .i64 g3.why, .int .i64 g3.list, .int .i64 g3.at_, .int .i64 g4.why, .int .i64 g4.list, .int .i64 g4.at_, .int .i64 g5.why, .int .i64 g5.list, .int .i64 g5.at_, .int .i64 g6.why, .int .i64 g6.list, .int .i64 g6.at_, .int .i64 g7.why, .int .i64 g7.list, .int .i64 g7.at_, .int .i64 g8.why, .int .i64 g8.list, .int .i64 g8.at_, .int .i64 g9.why, .int .i64 g9.list, .int .i64 g9.at_] 56)
          replace BY := Lib.hid (BY.out.alloc (.cells #[.int .i64 g1.why, .int .i64 g1.list, .int .i64 g1.at_, .int .i64 g2.why, .int .i64 g2.list, .int .i64 g2.at_, .int .i64 g3.why, .int .i64 g3.list, .int .i64 g3.at_, .int .i64 g4.why, .int .i64 g4.list, .int .i64 g4.at_, .int .i64 g5.why, .int .i64 g5.list, .int .i64 g5.at_, .int .i64 g6.why, .int .i64 g6.list, .int .i64 g6.at_, .int .i64 g7.why, .int .i64 g7.list, .int .i64 g7.at_, .int .i64 g8.why, .int .i64 g8.list, .int .i64 g8.at_, .int .i64 g9.why, .int .i64 g9.list, .int .i64 g9.at_] 56))
          refine hK _ _ (fun hlt => Mif.cl st) ?_
          clear hK K
          refine Mxg.wpTL_op (by rfl) (fun K hK => ?_)
          go_simp
          have hfi := HFIg.out _ stb _ (Step.refl)
          try simp only [World.size_alloc] at hfi
          refine hfi.mono ?_
          rintro e v91 ⟨rfl, tn⟩
          replace st := st.trans tn
          replace BY := Lib.hid (BY.out.step tn id)
          clear tn stb hfi
          refine hK _ _ (fun hlt => Mif.cl st) ?_
          clear hK K
          have m0 := (BY.out.cell 0).trans (show _ = some (Value.int .i64 0) from rfl)
          have m1 := (BY.out.cell 1).trans (show _ = some (Value.int .i64 0) from rfl)
          have m2 := (BY.out.cell 2).trans (show _ = some (Value.int .i64 0) from rfl)
          have mf := BY.out.frozen
          refine Mxg.wpTL_op (by rfl) (fun K hK => ?_)
          go_simp
          refine hK _ _ (fun hlt => absurd hlt (by decide)) ?_
          clear hK K
          refine Mxg.wpTL_leaf ?_
          go_wp2_with fail
          go_meet
          exact ⟨_, rfl, Lib.hid (three_step st (.inr HYU.out)), Lib.hid (three_new BY.out)⟩
      · as_aux_lemma =>
        refine Mxg.wpTL_op (by rfl) (fun K hK => ?_)
        go_simp
        have HYU := Lib.hid st.size
        have BY := Lib.hid (Blk.new (v27) 56 #[.int .i64 0, .int .i64 0, .int .i64 0])
        try simp only [World.size_alloc] at HYU BY
        replace st := st.alloc (.cells #[.int .i64 0, .int .i64 0, .int .i64 0] 56)
        refine hK _ _ (fun hlt => Mif.cl st) ?_
        clear hK K
        refine Mxg.wpTL_op (by rfl) (fun K hK => ?_)
        go_simp
        refine (Eg2.out _ st).mono ?_
        rintro e v93 ⟨rfl, tn⟩
        replace st := st.trans tn
        replace BY := Lib.hid (BY.out.step tn id)
        clear tn
        refine hK _ _ (fun hlt => Mif.cl st) ?_
        clear hK K
        refine Mxg.wpTL_op (by rfl) (fun K hK => ?_)
        go_simp
        refine (Eg3.out _ st).mono ?_
        rintro e v94 ⟨rfl, tn⟩
        replace st := st.trans tn
        replace BY := Lib.hid (BY.out.step tn id)
        clear tn
        refine hK _ _ (fun hlt => Mif.cl st) ?_
        clear hK K
        refine Mxg.wpTL_op (by rfl) (fun K hK => ?_)
        go_simp
        refine (Eg4.out _ st).mono ?_
        rintro e v95 ⟨rfl, tn⟩
        replace st := st.trans tn
        replace BY := Lib.hid (BY.out.step tn id)
        clear tn
        refine hK _ _ (fun hlt => Mif.cl st) ?_
        clear hK K
        refine Mxg.wpTL_op (by rfl) (fun K hK => ?_)
        go_simp
        refine (Eg5.out _ st).mono ?_
        rintro e v96 ⟨rfl, tn⟩
        replace st := st.trans tn
        replace BY := Lib.hid (BY.out.step tn id)
        clear tn
        refine hK _ _ (fun hlt => Mif.cl st) ?_
        clear hK K
        refine Mxg.wpTL_op (by rfl) (fun K hK => ?_)
        go_simp
        refine (Eg6.out _ st).mono ?_
        rintro e v97 ⟨rfl, tn⟩
        replace st := st.trans tn
        replace BY := Lib.hid (BY.out.step tn id)
        clear tn
        refine hK _ _ (fun hlt => Mif.cl st) ?_
        clear hK K
        refine Mxg.wpTL_op (by rfl) (fun K hK => ?_)
        go_simp
        refine (Eg7.out _ st).mono ?_
        rintro e v98 ⟨rfl, tn⟩
        replace st := st.trans tn
        replace BY := Lib.hid (BY.out.step tn id)
        clear tn
        refine hK _ _ (fun hlt => Mif.cl st) ?_
        clear hK K
        refine Mxg.wpTL_op (by rfl) (fun K hK => ?_)
        go_simp
        refine (Eg8.out _ st).mono ?_
        rintro e v99 ⟨rfl, tn⟩
        replace st := st.trans tn
        replace BY := Lib.hid (BY.out.step tn id)
        clear tn
        refine hK _ _ (fun hlt => Mif.cl st) ?_
        clear hK K
        refine Mxg.wpTL_op (by rfl) (fun K hK => ?_)
        go_simp
        refine (Eg9.out _ st).mono ?_
        rintro e v100 ⟨rfl, tn⟩
        replace st := st.trans tn
        replace BY := Lib.hid (BY.out.step tn id)
        clear tn
        refine hK _ _ (fun hlt => Mif.cl st) ?_
        clear hK K
        refine Mxg.wpTL_op (by rfl) (fun K hK => ?_)
        refine step_slice (by rfl) (by rfl) [(0, .agg #[.int .i64 g1.why, .int .i64 g1.list, .int .i64 g1.at_]), (1, .agg #[.int .i64 g2.why, .int .i64 g2.list, .int .i64 g2.at_]), (2, .agg #[.int .i64 g3.why, .int .i64 g3.list, .int .i64 g3.at_]), (3, .agg #[.int .i64 g4.why, .int .i64 g4.list, .int .i64 g4.at_]), (4, .agg #[.int .i64 g5.why, .int .i64 g5.list, .int .i64 g5.at_]), (5, .agg #[.int .i64 g6.why, .int .i64 g6.list, .int .i64 g6.at_]), (6, .agg #[.int .i64 g7.why, .int .i64 g7.list, .int .i64 g7.at_]), (7, .agg #[.int .i64 g8.why, .int .i64 g8.list, .int .i64 g8.at_]), (8, .agg #[.int .i64 g9.why, .int .i64 g9.list, .int .i64 g9.at_])] (by rfl) #[.int .i64 g1.why, .int .i64 g1.list, .int .i64 g1.at_, .int .i64 g2.why, .int .i64 g2.list, .int .i64 g2.at_, .int .i64 g3.why, .int .i64 g3.list, .int .i64 g3.at_, .int .i64 g4.why, .int .i64 g4.list, .int .i64 g4.at_, .int .i64 g5.why, .int .i64 g5.list, .int .i64 g5.at_, .int .i64 g6.why, .int .i64 g6.list, .int .i64 g6.at_, .int .i64 g7.why, .int .i64 g7.list, .int .i64 g7.at_, .int .i64 g8.why, .int .i64 g8.list, .int .i64 g8.at_, .int .i64 g9.why, .int .i64 g9.list, .int .i64 g9.at_] (bs9 g1 g2 g3 g4 g5 g6 g7 g8 g9) ?_
        simp only [Act.put, List.setIfInBounds_toArray, List.set_cons_succ, List.set_cons_zero]
        have stb := st
        replace st := st.alloc (.cells #[.int .i64 g1.why, .int .i64 g1.list, .int .i64 g1.at_, .int .i64 g2.why, .int .i64 g2.list, .int .i64 g2.at_, .int .i64 g3.why, .int .i64 g3.list, .int .i64 g3.at_, .int .i64 g4.why, .int .i64 g4.list, .int .i64 g4.at_, .int .i64 g5.why, .int .i64 g5.list, .int .i64 g5.at_, .int .i64 g6.why, .int .i64 g6.list, .int .i64 g6.at_, .int .i64 g7.why, .int .i64 g7.list, .int .i64 g7.at_, .int .i64 g8.why, .int .i64 g8.list, .int .i64 g8.at_, .int .i64 g9.why, .int .i64 g9.list, .int .i64 g9.at_] 56)
        replace BY := Lib.hid (BY.out.alloc (.cells #[.int .i64 g1.why, .int .i64 g1.list, .int .i64 g1.at_, .int .i64 g2.why, .int .i64 g2.list, .int .i64 g2.at_, .int .i64 g3.why, .int .i64 g3.list, .int .i64 g3.at_, .int .i64 g4.why, .int .i64 g4.list, .int .i64 g4.at_, .int .i64 g5.why, .int .i64 g5.list, .int .i64 g5.at_, .int .i64 g6.why, .int .i64 g6.list, .int .i64 g6.at_, .int .i64 g7.why, .int .i64 g7.list, .int .i64 g7.at_, .int .i64 g8.why, .int .i64 g8.list, .int .i64 g8.at_, .int .i64 g9.why, .int .i64 g9.list, .int .i64 g9.at_] 56))
        refine hK _ _ (fun hlt => Mif.cl st) ?_
        clear hK K
        refine Mxg.wpTL_op (by rfl) (fun K hK => ?_)
        go_simp
        have hfi := HFIg.out _ stb _ (Step.refl)
        try simp only [World.size_alloc] at hfi
        refine hfi.mono ?_
        rintro e v102 ⟨rfl, tn⟩
        replace st := st.trans tn
        replace BY := Lib.hid (BY.out.step tn id)
        clear tn stb hfi
        refine hK _ _ (fun hlt => Mif.cl st) ?_
        clear hK K
        have m0 := (BY.out.cell 0).trans (show _ = some (Value.int .i64 0) from rfl)
        have m1 := (BY.out.cell 1).trans (show _ = some (Value.int .i64 0) from rfl)
        have m2 := (BY.out.cell 2).trans (show _ = some (Value.int .i64 0) from rfl)
        have mf := BY.out.frozen
        refine Mxg.wpTL_op (by rfl) (fun K hK => ?_)
        go_simp
        refine hK _ _ (fun hlt => absurd hlt (by decide)) ?_
        clear hK K
        refine Mxg.wpTL_leaf ?_
        go_wp2_with fail
        go_meet
        exact ⟨_, rfl, Lib.hid (three_step st (.inr HYU.out)), Lib.hid (three_new BY.out)⟩
    · as_aux_lemma =>
      refine Mxg.wpTL_op (by rfl) (fun K hK => ?_)
      go_simp
      have HYU := Lib.hid st.size
      have BY := Lib.hid (Blk.new (v0) 56 #[.int .i64 0, .int .i64 0, .int .i64 0])
      try simp only [World.size_alloc] at HYU BY
      replace st := st.alloc (.cells #[.int .i64 0, .int .i64 0, .int .i64 0] 56)
      refine hK _ _ (fun hlt => Mif.cl st) ?_
      clear hK K
      refine Mxg.wpTL_op (by rfl) (fun K hK => ?_)
      go_simp
      refine (Eg1.out _ st).mono ?_
      rintro e v104 ⟨rfl, tn⟩
      replace st := st.trans tn
      replace BY := Lib.hid (BY.out.step tn id)
      clear tn
      refine hK _ _ (fun hlt => Mif.cl st) ?_
      clear hK K
      refine Mxg.wpTL_op (by rfl) (fun K hK => ?_)
      go_simp
      refine (Eg2.out _ st).mono ?_
      rintro e v105 ⟨rfl, tn⟩
      replace st := st.trans tn
      replace BY := Lib.hid (BY.out.step tn id)
      clear tn
      refine hK _ _ (fun hlt => Mif.cl st) ?_
      clear hK K
      refine Mxg.wpTL_op (by rfl) (fun K hK => ?_)
      go_simp
      refine (Eg3.out _ st).mono ?_
      rintro e v106 ⟨rfl, tn⟩
      replace st := st.trans tn
      replace BY := Lib.hid (BY.out.step tn id)
      clear tn
      refine hK _ _ (fun hlt => Mif.cl st) ?_
      clear hK K
      refine Mxg.wpTL_op (by rfl) (fun K hK => ?_)
      go_simp
      refine (Eg4.out _ st).mono ?_
      rintro e v107 ⟨rfl, tn⟩
      replace st := st.trans tn
      replace BY := Lib.hid (BY.out.step tn id)
      clear tn
      refine hK _ _ (fun hlt => Mif.cl st) ?_
      clear hK K
      refine Mxg.wpTL_op (by rfl) (fun K hK => ?_)
      go_simp
      refine (Eg5.out _ st).mono ?_
      rintro e v108 ⟨rfl, tn⟩
      replace st := st.trans tn
      replace BY := Lib.hid (BY.out.step tn id)
      clear tn
      refine hK _ _ (fun hlt => Mif.cl st) ?_
      clear hK K
      refine Mxg.wpTL_op (by rfl) (fun K hK => ?_)
      go_simp
      refine (Eg6.out _ st).mono ?_
      rintro e v109 ⟨rfl, tn⟩
      replace st := st.trans tn
      replace BY := Lib.hid (BY.out.step tn id)
      clear tn
      refine hK _ _ (fun hlt => Mif.cl st) ?_
      clear hK K
      refine Mxg.wpTL_op (by rfl) (fun K hK => ?_)
      go_simp
      refine (Eg7.out _ st).mono ?_
      rintro e v110 ⟨rfl, tn⟩
      replace st := st.trans tn
      replace BY := Lib.hid (BY.out.step tn id)
      clear tn
      refine hK _ _ (fun hlt => Mif.cl st) ?_
      clear hK K
      refine Mxg.wpTL_op (by rfl) (fun K hK => ?_)
      go_simp
      refine (Eg8.out _ st).mono ?_
      rintro e v111 ⟨rfl, tn⟩
      replace st := st.trans tn
      replace BY := Lib.hid (BY.out.step tn id)
      clear tn
      refine hK _ _ (fun hlt => Mif.cl st) ?_
      clear hK K
      refine Mxg.wpTL_op (by rfl) (fun K hK => ?_)
      go_simp
      refine (Eg9.out _ st).mono ?_
      rintro e v112 ⟨rfl, tn⟩
      replace st := st.trans tn
      replace BY := Lib.hid (BY.out.step tn id)
      clear tn
      refine hK _ _ (fun hlt => Mif.cl st) ?_
      clear hK K
      refine Mxg.wpTL_op (by rfl) (fun K hK => ?_)
      refine step_slice (by rfl) (by rfl) [(0, .agg #[.int .i64 g1.why, .int .i64 g1.list, .int .i64 g1.at_]), (1, .agg #[.int .i64 g2.why, .int .i64 g2.list, .int .i64 g2.at_]), (2, .agg #[.int .i64 g3.why, .int .i64 g3.list, .int .i64 g3.at_]), (3, .agg #[.int .i64 g4.why, .int .i64 g4.list, .int .i64 g4.at_]), (4, .agg #[.int .i64 g5.why, .int .i64 g5.list, .int .i64 g5.at_]), (5, .agg #[.int .i64 g6.why, .int .i64 g6.list, .int .i64 g6.at_]), (6, .agg #[.int .i64 g7.why, .int .i64 g7.list, .int .i64 g7.at_]), (7, .agg #[.int .i64 g8.why, .int .i64 g8.list, .int .i64 g8.at_]), (8, .agg #[.int .i64 g9.why, .int .i64 g9.list, .int .i64 g9.at_])] (by rfl) #[.int .i64 g1.why, .int .i64 g1.list, .int .i64 g1.at_, .int .i64 g2.why, .int .i64 g2.list, .int .i64 g2.at_, .int .i64 g3.why, .int .i64 g3.list, .int .i64 g3.at_, .int .i64 g4.why, .int .i64 g4.list, .int .i64 g4.at_, .int .i64 g5.why, .int .i64 g5.list, .int .i64 g5.at_, .int .i64 g6.why, .int .i64 g6.list, .int .i64 g6.at_, .int .i64 g7.why, .int .i64 g7.list, .int .i64 g7.at_, .int .i64 g8.why, .int .i64 g8.list, .int .i64 g8.at_, .int .i64 g9.why, .int .i64 g9.list, .int .i64 g9.at_] (bs9 g1 g2 g3 g4 g5 g6 g7 g8 g9) ?_
      simp only [Act.put, List.setIfInBounds_toArray, List.set_cons_succ, List.set_cons_zero]
      have stb := st
      replace st := st.alloc (.cells #[.int .i64 g1.why, .int .i64 g1.list, .int .i64 g1.at_, .int .i64 g2.why, .int .i64 g2.list, .int .i64 g2.at_, .int .i64 g3.why, .int .i64 g3.list, .int .i64 g3.at_, .int .i64 g4.why, .int .i64 g4.list, .int .i64 g4.at_, .int .i64 g5.why, .int .i64 g5.list, .int .i64 g5.at_, .int .i64 g6.why, .int .i64 g6.list, .int .i64 g6.at_, .int .i64 g7.why, .int .i64 g7.list, .int .i64 g7.at_, .int .i64 g8.why, .int .i64 g8.list, .int .i64 g8.at_, .int .i64 g9.why, .int .i64 g9.list, .int .i64 g9.at_] 56)
      replace BY := Lib.hid (BY.out.alloc (.cells #[.int .i64 g1.why, .int .i64 g1.list, .int .i64 g1.at_, .int .i64 g2.why, .int .i64 g2.list, .int .i64 g2.at_, .int .i64 g3.why, .int .i64 g3.list, .int .i64 g3.at_, .int .i64 g4.why, .int .i64 g4.list, .int .i64 g4.at_, .int .i64 g5.why, .int .i64 g5.list, .int .i64 g5.at_, .int .i64 g6.why, .int .i64 g6.list, .int .i64 g6.at_, .int .i64 g7.why, .int .i64 g7.list, .int .i64 g7.at_, .int .i64 g8.why, .int .i64 g8.list, .int .i64 g8.at_, .int .i64 g9.why, .int .i64 g9.list, .int .i64 g9.at_] 56))
      refine hK _ _ (fun hlt => Mif.cl st) ?_
      clear hK K
      refine Mxg.wpTL_op (by rfl) (fun K hK => ?_)
      go_simp
      have hfi := HFIg.out _ stb _ (Step.refl)
      try simp only [World.size_alloc] at hfi
      refine hfi.mono ?_
      rintro e v114 ⟨rfl, tn⟩
      replace st := st.trans tn
      replace BY := Lib.hid (BY.out.step tn id)
      clear tn stb hfi
      refine hK _ _ (fun hlt => Mif.cl st) ?_
      clear hK K
      have m0 := (BY.out.cell 0).trans (show _ = some (Value.int .i64 0) from rfl)
      have m1 := (BY.out.cell 1).trans (show _ = some (Value.int .i64 0) from rfl)
      have m2 := (BY.out.cell 2).trans (show _ = some (Value.int .i64 0) from rfl)
      have mf := BY.out.frozen
      refine Mxg.wpTL_op (by rfl) (fun K hK => ?_)
      go_simp
      refine hK _ _ (fun hlt => absurd hlt (by decide)) ?_
      clear hK K
      refine Mxg.wpTL_leaf ?_
      go_wp2_with fail
      go_meet
      exact ⟨_, rfl, Lib.hid (three_step st (.inr HYU.out)), Lib.hid (three_new BY.out)⟩
  case rest =>
    as_aux_lemma =>
    obtain ⟨Y, rfl, T4, BY⟩ := hcut
    have HFA := Lib.hid (show firstFt (lstA M) = f0 from by rw [hf0.out, hg1.out, hg2.out, hg3.out, hg4.out, hg5.out, hg6.out, hg7.out, hg8.out, hg9.out, hn1.out, hn2.out]; rfl)
    clear Eg1 Eg2 Eg3 Eg4 Eg5 Eg6 Eg7 Eg8 Eg9 HFIg hmf d0 d1 d2 d3 d4 d5 d6 hf0 hn1 hn2 l1 l2 hin4 hg1 hg2 hg3 hg4 hg5 hg6 hg7 hg8 hg9
    replace LK := Lib.hid (LK.out.step T4.out)
    replace HMU := Lib.hid (HMU.out.step T4.out (fun _ _ => id))
    replace BXU := Lib.hid (BXU.out.step T4.out id)
    replace B2U := Lib.hid (B2U.out.step T4.out id)
    replace SU := Lib.hid (SU.out.trans T4.out)
    clear T4
    generalize wc = V4 at *
    have HN2 : Hid (w.heap.size ≤ X + 1) := Lib.hid (by have := HNX.out; omega)
    clear hlt2 hKN
    generalize X + 1 = X2 at *
    have y0 := (BY.out.cell 0).trans (show _ = some (Value.int .i64 f0.why) from rfl)
    have y1 := (BY.out.cell 1).trans (show _ = some (Value.int .i64 f0.list) from rfl)
    have y2 := (BY.out.cell 2).trans (show _ = some (Value.int .i64 f0.at_) from rfl)
    by_cases hz : f0.why = 0
    · have HZ := Lib.hid hz
      have e1 : (f0.why == 0) = true := by simpa using hz
      clear hz
      have x6 := (BXU.out.cell 6).trans (show _ = some (Value.slice a.A6 M.exports.length a.c6) from rfl)
      have HEX := Lib.hid HS.out.ex
      have HTW := Lib.hid (fun W (hW : ModIn W (fun k => k < U.heap.size) a M) => e_twice W a.A6 M.exports.length a.c6 M.exports _ rfl (by omega) (fun x hx => by have := HEX.out x hx; omega) hW.exports)
      obtain ⟨tw, htw⟩ : ∃ b, b = twF M.exports [] := ⟨_, rfl⟩
      rw [← htw] at HTW
      replace htw := Lib.hid htw
      go_wp2_with fail
      refine (HTW.out _ HMU.out).mono ?_
      rintro e V5 ⟨⟨sx, rfl⟩, t5⟩
      replace LK := Lib.hid (LK.out.step t5)
      replace HMU := Lib.hid (HMU.out.step t5 (fun _ _ => id))
      replace BXU := Lib.hid (BXU.out.step t5 id)
      replace B2U := Lib.hid (B2U.out.step t5 id)
      replace SU := Lib.hid (SU.out.trans t5)
      clear t5 x6 y0 y1 y2 BY HTW
      cases tw with
      | true =>
        have x6 := (BXU.out.cell 6).trans (show _ = some (Value.slice a.A6 M.exports.length a.c6) from rfl)
        have hwl := IntWalk.i64_in ((M.exports.length : Int) - 1) (by omega)
        obtain ⟨f1, hf1⟩ : ∃ f, f = faultF 27 7 ((M.exports.length : Int) - 1) := ⟨_, rfl⟩
        have HFT : Hid (∀ W, Calls Try.prog 36 #[.int .i64 27, .int .i64 7, .int .i64 ((M.exports.length : Int) - 1)] W fun e w' => e = .returned (.agg #[.int .i64 f1.why, .int .i64 f1.list, .int .i64 f1.at_]) ∧ Step (fun _ => False) W w') := fun W => by rw [hf1]; exact v_fault W 27 7 ((M.exports.length : Int) - 1)
        have HG := Lib.hid (show modF M = f1 from by rw [modF, HFA.out, if_pos HZ.out, if_pos htw.out.symm, hf1])
        replace hf1 := Lib.hid hf1
        go_wp2_with fail
        refine (HFT.out _).mono ?_
        rintro e V6 ⟨rfl, t6⟩
        replace LK := Lib.hid (LK.out.step t6)
        replace HMU := Lib.hid (HMU.out.step t6 (fun _ _ => id))
        replace BXU := Lib.hid (BXU.out.step t6 id)
        replace B2U := Lib.hid (B2U.out.step t6 id)
        replace SU := Lib.hid (SU.out.trans t6)
        clear t6 x6 hwl HFT hf1
        have r0 := (B2U.out.cell 0).trans (show _ = some (Value.int .i64 0) from rfl)
        have r1 := (B2U.out.cell 1).trans (show _ = some (Value.int .i64 0) from rfl)
        have r2 := (B2U.out.cell 2).trans (show _ = some (Value.int .i64 0) from rfl)
        have rf := B2U.out.frozen
        clear LK HMU BXU HS HRW
        go_wp2_with (refine bodyPost_ret (v := f1.val) (by simp [results, Try.results11, go_sem, Ft.val, r0, r1, r2]) rfl ⟨by rw [HG.out], three_step SU.out (.inr HN2.out)⟩)

      | false =>
        generalize U.heap.size = NU at *
        have htf : ¬ twF M.exports [] = true := by rw [← htw.out]; decide
        replace htf := Lib.hid htf
        clear htw
        obtain ⟨b1, hb1⟩ : ∃ g : Ft, g = stF (lkOf a M K fA gA kA fc gc kc) M := ⟨_, rfl⟩
        have Eb1 : Hid (∀ W, Step (fun _ => False) V5 W → Calls Try.prog 37 #[.pointer (some ⟨K, 0, none⟩)] W fun e w' => e = .returned (.agg #[.int .i64 b1.why, .int .i64 b1.list, .int .i64 b1.at_]) ∧ Step (fun _ => False) W w') := fun W hW => by
          rw [hb1]
          exact l_start (LK.out.step hW) HS.out
        obtain ⟨b2, hb2⟩ : ∃ g : Ft, g = eachF M.elems.length 9 (atE M.elems (evE (lkOf a M K fA gA kA fc gc kc))) := ⟨_, rfl⟩
        have Eb2 : Hid (∀ W, Step (fun _ => False) V5 W → Calls Try.prog 23 #[.int .i64 (M.elems.length : Int), .int .i64 9, .func (.func 38) #[.pointer (some ⟨K, 0, none⟩)] #[]] W fun e w' => e = .returned (.agg #[.int .i64 b2.why, .int .i64 b2.list, .int .i64 b2.at_]) ∧ Step (fun _ => False) W w') := fun W hW => by
          rw [hb2]
          exact v_each_met W (M.elems.length) 9 _ ⟨K, 0, none⟩ (atE M.elems (evE (lkOf a M K fA gA kA fc gc kc))) (by omega) (fun _ _ => rfl) (fun i V hi hV => by rw [atE_get _ _ _ hi]; exact l_elem i (LK.out.step (hW.trans hV)) hi (by omega) HS.out.el)
        obtain ⟨b3, hb3⟩ : ∃ g : Ft, g = eachF M.datas.length 11 (atE M.datas (daE (lkOf a M K fA gA kA fc gc kc))) := ⟨_, rfl⟩
        have Eb3 : Hid (∀ W, Step (fun _ => False) V5 W → Calls Try.prog 23 #[.int .i64 (M.datas.length : Int), .int .i64 11, .func (.func 39) #[.pointer (some ⟨K, 0, none⟩)] #[]] W fun e w' => e = .returned (.agg #[.int .i64 b3.why, .int .i64 b3.list, .int .i64 b3.at_]) ∧ Step (fun _ => False) W w') := fun W hW => by
          rw [hb3]
          exact v_each_met W (M.datas.length) 11 _ ⟨K, 0, none⟩ (atE M.datas (daE (lkOf a M K fA gA kA fc gc kc))) (by omega) (fun _ _ => rfl) (fun i V hi hV => by rw [atE_get _ _ _ hi]; exact l_data i (LK.out.step (hW.trans hV)) hi (by omega))
        have hmf : ∀ (fn : Fn) (first cap : Array Value) (w : World), (Instr.makeFunc fn first cap).run Try.prog w = .ok (.func fn first cap) w := fun _ _ _ _ => rfl
        obtain ⟨f1, hf1⟩ : ∃ f : Ft, f = firstFt [b1, b2, b3] := ⟨_, rfl⟩
        have HFIb : Hid (∀ W, Step (fun _ => False) V5 W → ∀ W', Step (fun _ => False) (W.alloc (.cells #[.int .i64 b1.why, .int .i64 b1.list, .int .i64 b1.at_, .int .i64 b2.why, .int .i64 b2.list, .int .i64 b2.at_, .int .i64 b3.why, .int .i64 b3.list, .int .i64 b3.at_] 56)) W' → Calls Try.prog 22 #[.slice (some ⟨W.heap.size, 0, none⟩) 3 3] W' fun e w' => e = .returned (.agg #[.int .i64 f1.why, .int .i64 f1.list, .int .i64 f1.at_]) ∧ Step (fun _ => False) W' w') := fun W _ W' hs => by
          rw [hf1]
          exact v_first _ _ 3 3 [b1, b2, b3] _ rfl (by omega) ((reads_new W #[.int .i64 b1.why, .int .i64 b1.list, .int .i64 b1.at_, .int .i64 b2.why, .int .i64 b2.list, .int .i64 b2.at_, .int .i64 b3.why, .int .i64 b3.list, .int .i64 b3.at_] 56 3 3 rfl).step hs (fun _ _ => id))
        have x8 := (BXU.out.cell 8).trans (show _ = some (Value.slice a.A8 M.elems.length a.c8) from rfl)
        have x10 := (BXU.out.cell 10).trans (show _ = some (Value.slice a.A10 M.datas.length a.c10) from rfl)
        have d8 := cls_cell2 (F := fun _ => False) x8 id
        have d10 := cls_cell2 (F := fun _ => False) x10 id
        replace hb1 := Lib.hid hb1
        replace hb2 := Lib.hid hb2
        replace hb3 := Lib.hid hb3
        replace hf1 := Lib.hid hf1
        clear x8 x10
        go_wp2_with fail
        go_cut [9] (fun s9 wq => ∃ Y, s9 = .pointer (some ⟨Y, 0, none⟩) ∧ Hid (Step (fun _ => False) V5 wq) ∧ Hid (Blk wq Y 56 #[.int .i64 f1.why, .int .i64 f1.list, .int .i64 f1.at_]))
        case first =>
          as_aux_lemma =>
          clear LK HMU BXU B2U SU HS HRW HNX hb1 hb2 hb3 hf1
          refine Mxg.wp_region_tree [1, 7, 13, 14, 15, 16, 17] [1, 7, 13, 14, 15, 16] (.reads [0, 2, 3, 4, 5, 6, 8, 9, 10, 11, 12] (.fork (.op 1 (.fork (.op 7 (.fork (.op 13 (.fork (.op 14 (.fork (.op 15 (.op 16 (.op 17 .leaf))) (.op 16 (.op 15 (.op 17 .leaf))))) (.op 16 (.op 14 (.op 15 (.op 17 .leaf)))))) (.op 16 (.op 13 (.op 14 (.op 15 (.op 17 .leaf))))))) (.op 16 (.op 7 (.op 13 (.op 14 (.op 15 (.op 17 .leaf)))))))) (.op 16 (.op 1 (.op 7 (.op 13 (.op 14 (.op 15 (.op 17 .leaf))))))))) (Step (fun _ => False) V5) (by kernel_rfl) (by kernel_rfl) Step.refl.drew (fun hcls => ?_)
          have st : Step (fun _ => False) V5 V5.drew := Step.refl.drew
          refine Mxg.wpTL_reads ?_
          simp only [List.flatMap_cons, List.flatMap_nil, List.getElem?_cons_succ, List.getElem?_cons_zero, Option.toList_some, List.cons_append, List.nil_append]
          repeat (go_big_quiet_step (fail))
          refine wpQuiet_nil ?_
          clear d8 d10 hmf
          obtain ⟨v0, hv0⟩ : ∃ v0, v0 = V5.drew := ⟨_, rfl⟩
          rw [← hv0] at st ⊢
          clear hv0
          refine Mxg.wpTL_fork ?_ ?_
          · refine Mxg.wpTL_op (by rfl) (fun K hK => ?_)
            go_simp
            refine (Eb1.out _ st).mono ?_
            rintro e v1 ⟨rfl, tn⟩
            replace st := st.trans tn
            clear tn
            refine hK _ _ (fun hlt => Mif.cl st) ?_
            clear hK K
            refine Mxg.wpTL_fork ?_ ?_
            · refine Mxg.wpTL_op (by rfl) (fun K hK => ?_)
              go_simp
              refine (Eb2.out _ st).mono ?_
              rintro e v2 ⟨rfl, tn⟩
              replace st := st.trans tn
              clear tn
              refine hK _ _ (fun hlt => Mif.cl st) ?_
              clear hK K
              refine Mxg.wpTL_fork ?_ ?_
              · refine Mxg.wpTL_op (by rfl) (fun K hK => ?_)
                go_simp
                refine (Eb3.out _ st).mono ?_
                rintro e v3 ⟨rfl, tn⟩
                replace st := st.trans tn
                clear tn
                refine hK _ _ (fun hlt => Mif.cl st) ?_
                clear hK K
                refine Mxg.wpTL_fork ?_ ?_
                · refine Mxg.wpTL_op (by rfl) (fun K hK => ?_)
                  refine step_slice (by rfl) (by rfl) [(0, .agg #[.int .i64 b1.why, .int .i64 b1.list, .int .i64 b1.at_]), (1, .agg #[.int .i64 b2.why, .int .i64 b2.list, .int .i64 b2.at_]), (2, .agg #[.int .i64 b3.why, .int .i64 b3.list, .int .i64 b3.at_])] (by rfl) #[.int .i64 b1.why, .int .i64 b1.list, .int .i64 b1.at_, .int .i64 b2.why, .int .i64 b2.list, .int .i64 b2.at_, .int .i64 b3.why, .int .i64 b3.list, .int .i64 b3.at_] (bs3 b1 b2 b3) ?_
                  simp only [Act.put, List.setIfInBounds_toArray, List.set_cons_succ, List.set_cons_zero]
                  have stb := st
                  replace st := st.alloc (.cells #[.int .i64 b1.why, .int .i64 b1.list, .int .i64 b1.at_, .int .i64 b2.why, .int .i64 b2.list, .int .i64 b2.at_, .int .i64 b3.why, .int .i64 b3.list, .int .i64 b3.at_] 56)
                  refine hK _ _ (fun hlt => Mif.cl st) ?_
                  clear hK K
                  refine Mxg.wpTL_fork ?_ ?_
                  · refine Mxg.wpTL_op (by rfl) (fun K hK => ?_)
                    go_simp
                    have hfi := HFIb.out _ stb _ (Step.refl)
                    try simp only [World.size_alloc] at hfi
                    refine hfi.mono ?_
                    rintro e v5 ⟨rfl, tn⟩
                    replace st := st.trans tn
                    clear tn stb hfi
                    refine hK _ _ (fun hlt => Mif.cl st) ?_
                    clear hK K
                    refine Mxg.wpTL_op (by rfl) (fun K hK => ?_)
                    go_simp
                    refine hK _ _ (fun hlt => Mif.cl (st.alloc _)) ?_
                    clear hK K
                    refine Mxg.wpTL_op (by rfl) (fun K hK => ?_)
                    go_simp
                    refine hK _ _ (fun hlt => absurd hlt (by decide)) ?_
                    clear hK K
                    refine Mxg.wpTL_leaf ?_
                    go_wp2_with fail
                    go_meet
                    exact ⟨_, rfl, Lib.hid (st.alloc _), Lib.hid (Blk.new _ _ _)⟩
                  · as_aux_lemma =>
                    refine Mxg.wpTL_op (by rfl) (fun K hK => ?_)
                    go_simp
                    have HYU := Lib.hid st.size
                    have stc := stb
                    have BY := Lib.hid (Blk.new ((v3).alloc (.cells #[.int .i64 b1.why, .int .i64 b1.list, .int .i64 b1.at_, .int .i64 b2.why, .int .i64 b2.list, .int .i64 b2.at_, .int .i64 b3.why, .int .i64 b3.list, .int .i64 b3.at_] 56)) 56 #[.int .i64 0, .int .i64 0, .int .i64 0])
                    try simp only [World.size_alloc] at HYU BY
                    replace st := st.alloc (.cells #[.int .i64 0, .int .i64 0, .int .i64 0] 56)
                    refine hK _ _ (fun hlt => Mif.cl st) ?_
                    clear hK K
                    refine Mxg.wpTL_op (by rfl) (fun K hK => ?_)
                    go_simp
                    have hfi := HFIb.out _ stb _ (Step.refl.alloc (.cells #[.int .i64 0, .int .i64 0, .int .i64 0] 56))
                    try simp only [World.size_alloc] at hfi
                    refine hfi.mono ?_
                    rintro e v7 ⟨rfl, tn⟩
                    replace st := st.trans tn
                    replace BY := Lib.hid (BY.out.step tn id)
                    clear tn stb hfi
                    refine hK _ _ (fun hlt => Mif.cl st) ?_
                    clear hK K
                    have m0 := (BY.out.cell 0).trans (show _ = some (Value.int .i64 0) from rfl)
                    have m1 := (BY.out.cell 1).trans (show _ = some (Value.int .i64 0) from rfl)
                    have m2 := (BY.out.cell 2).trans (show _ = some (Value.int .i64 0) from rfl)
                    have mf := BY.out.frozen
                    refine Mxg.wpTL_op (by rfl) (fun K hK => ?_)
                    go_simp
                    refine hK _ _ (fun hlt => absurd hlt (by decide)) ?_
                    clear hK K
                    refine Mxg.wpTL_leaf ?_
                    go_wp2_with fail
                    go_meet
                    exact ⟨_, rfl, Lib.hid (three_step st (.inr HYU.out)), Lib.hid (three_new BY.out)⟩
                · as_aux_lemma =>
                  refine Mxg.wpTL_op (by rfl) (fun K hK => ?_)
                  go_simp
                  have HYU := Lib.hid st.size
                  have BY := Lib.hid (Blk.new (v3) 56 #[.int .i64 0, .int .i64 0, .int .i64 0])
                  try simp only [World.size_alloc] at HYU BY
                  replace st := st.alloc (.cells #[.int .i64 0, .int .i64 0, .int .i64 0] 56)
                  refine hK _ _ (fun hlt => Mif.cl st) ?_
                  clear hK K
                  refine Mxg.wpTL_op (by rfl) (fun K hK => ?_)
                  refine step_slice (by rfl) (by rfl) [(0, .agg #[.int .i64 b1.why, .int .i64 b1.list, .int .i64 b1.at_]), (1, .agg #[.int .i64 b2.why, .int .i64 b2.list, .int .i64 b2.at_]), (2, .agg #[.int .i64 b3.why, .int .i64 b3.list, .int .i64 b3.at_])] (by rfl) #[.int .i64 b1.why, .int .i64 b1.list, .int .i64 b1.at_, .int .i64 b2.why, .int .i64 b2.list, .int .i64 b2.at_, .int .i64 b3.why, .int .i64 b3.list, .int .i64 b3.at_] (bs3 b1 b2 b3) ?_
                  simp only [Act.put, List.setIfInBounds_toArray, List.set_cons_succ, List.set_cons_zero]
                  have stb := st
                  replace st := st.alloc (.cells #[.int .i64 b1.why, .int .i64 b1.list, .int .i64 b1.at_, .int .i64 b2.why, .int .i64 b2.list, .int .i64 b2.at_, .int .i64 b3.why, .int .i64 b3.list, .int .i64 b3.at_] 56)
                  replace BY := Lib.hid (BY.out.alloc (.cells #[.int .i64 b1.why, .int .i64 b1.list, .int .i64 b1.at_, .int .i64 b2.why, .int .i64 b2.list, .int .i64 b2.at_, .int .i64 b3.why, .int .i64 b3.list, .int .i64 b3.at_] 56))
                  refine hK _ _ (fun hlt => Mif.cl st) ?_
                  clear hK K
                  refine Mxg.wpTL_op (by rfl) (fun K hK => ?_)
                  go_simp
                  have hfi := HFIb.out _ stb _ (Step.refl)
                  try simp only [World.size_alloc] at hfi
                  refine hfi.mono ?_
                  rintro e v10 ⟨rfl, tn⟩
                  replace st := st.trans tn
                  replace BY := Lib.hid (BY.out.step tn id)
                  clear tn stb hfi
                  refine hK _ _ (fun hlt => Mif.cl st) ?_
                  clear hK K
                  have m0 := (BY.out.cell 0).trans (show _ = some (Value.int .i64 0) from rfl)
                  have m1 := (BY.out.cell 1).trans (show _ = some (Value.int .i64 0) from rfl)
                  have m2 := (BY.out.cell 2).trans (show _ = some (Value.int .i64 0) from rfl)
                  have mf := BY.out.frozen
                  refine Mxg.wpTL_op (by rfl) (fun K hK => ?_)
                  go_simp
                  refine hK _ _ (fun hlt => absurd hlt (by decide)) ?_
                  clear hK K
                  refine Mxg.wpTL_leaf ?_
                  go_wp2_with fail
                  go_meet
                  exact ⟨_, rfl, Lib.hid (three_step st (.inr HYU.out)), Lib.hid (three_new BY.out)⟩
              · as_aux_lemma =>
                refine Mxg.wpTL_op (by rfl) (fun K hK => ?_)
                go_simp
                have HYU := Lib.hid st.size
                have BY := Lib.hid (Blk.new (v2) 56 #[.int .i64 0, .int .i64 0, .int .i64 0])
                try simp only [World.size_alloc] at HYU BY
                replace st := st.alloc (.cells #[.int .i64 0, .int .i64 0, .int .i64 0] 56)
                refine hK _ _ (fun hlt => Mif.cl st) ?_
                clear hK K
                refine Mxg.wpTL_op (by rfl) (fun K hK => ?_)
                go_simp
                refine (Eb3.out _ st).mono ?_
                rintro e v12 ⟨rfl, tn⟩
                replace st := st.trans tn
                replace BY := Lib.hid (BY.out.step tn id)
                clear tn
                refine hK _ _ (fun hlt => Mif.cl st) ?_
                clear hK K
                refine Mxg.wpTL_op (by rfl) (fun K hK => ?_)
                refine step_slice (by rfl) (by rfl) [(0, .agg #[.int .i64 b1.why, .int .i64 b1.list, .int .i64 b1.at_]), (1, .agg #[.int .i64 b2.why, .int .i64 b2.list, .int .i64 b2.at_]), (2, .agg #[.int .i64 b3.why, .int .i64 b3.list, .int .i64 b3.at_])] (by rfl) #[.int .i64 b1.why, .int .i64 b1.list, .int .i64 b1.at_, .int .i64 b2.why, .int .i64 b2.list, .int .i64 b2.at_, .int .i64 b3.why, .int .i64 b3.list, .int .i64 b3.at_] (bs3 b1 b2 b3) ?_
                simp only [Act.put, List.setIfInBounds_toArray, List.set_cons_succ, List.set_cons_zero]
                have stb := st
                replace st := st.alloc (.cells #[.int .i64 b1.why, .int .i64 b1.list, .int .i64 b1.at_, .int .i64 b2.why, .int .i64 b2.list, .int .i64 b2.at_, .int .i64 b3.why, .int .i64 b3.list, .int .i64 b3.at_] 56)
                replace BY := Lib.hid (BY.out.alloc (.cells #[.int .i64 b1.why, .int .i64 b1.list, .int .i64 b1.at_, .int .i64 b2.why, .int .i64 b2.list, .int .i64 b2.at_, .int .i64 b3.why, .int .i64 b3.list, .int .i64 b3.at_] 56))
                refine hK _ _ (fun hlt => Mif.cl st) ?_
                clear hK K
                refine Mxg.wpTL_op (by rfl) (fun K hK => ?_)
                go_simp
                have hfi := HFIb.out _ stb _ (Step.refl)
                try simp only [World.size_alloc] at hfi
                refine hfi.mono ?_
                rintro e v14 ⟨rfl, tn⟩
                replace st := st.trans tn
                replace BY := Lib.hid (BY.out.step tn id)
                clear tn stb hfi
                refine hK _ _ (fun hlt => Mif.cl st) ?_
                clear hK K
                have m0 := (BY.out.cell 0).trans (show _ = some (Value.int .i64 0) from rfl)
                have m1 := (BY.out.cell 1).trans (show _ = some (Value.int .i64 0) from rfl)
                have m2 := (BY.out.cell 2).trans (show _ = some (Value.int .i64 0) from rfl)
                have mf := BY.out.frozen
                refine Mxg.wpTL_op (by rfl) (fun K hK => ?_)
                go_simp
                refine hK _ _ (fun hlt => absurd hlt (by decide)) ?_
                clear hK K
                refine Mxg.wpTL_leaf ?_
                go_wp2_with fail
                go_meet
                exact ⟨_, rfl, Lib.hid (three_step st (.inr HYU.out)), Lib.hid (three_new BY.out)⟩
            · as_aux_lemma =>
              refine Mxg.wpTL_op (by rfl) (fun K hK => ?_)
              go_simp
              have HYU := Lib.hid st.size
              have BY := Lib.hid (Blk.new (v1) 56 #[.int .i64 0, .int .i64 0, .int .i64 0])
              try simp only [World.size_alloc] at HYU BY
              replace st := st.alloc (.cells #[.int .i64 0, .int .i64 0, .int .i64 0] 56)
              refine hK _ _ (fun hlt => Mif.cl st) ?_
              clear hK K
              refine Mxg.wpTL_op (by rfl) (fun K hK => ?_)
              go_simp
              refine (Eb2.out _ st).mono ?_
              rintro e v16 ⟨rfl, tn⟩
              replace st := st.trans tn
              replace BY := Lib.hid (BY.out.step tn id)
              clear tn
              refine hK _ _ (fun hlt => Mif.cl st) ?_
              clear hK K
              refine Mxg.wpTL_op (by rfl) (fun K hK => ?_)
              go_simp
              refine (Eb3.out _ st).mono ?_
              rintro e v17 ⟨rfl, tn⟩
              replace st := st.trans tn
              replace BY := Lib.hid (BY.out.step tn id)
              clear tn
              refine hK _ _ (fun hlt => Mif.cl st) ?_
              clear hK K
              refine Mxg.wpTL_op (by rfl) (fun K hK => ?_)
              refine step_slice (by rfl) (by rfl) [(0, .agg #[.int .i64 b1.why, .int .i64 b1.list, .int .i64 b1.at_]), (1, .agg #[.int .i64 b2.why, .int .i64 b2.list, .int .i64 b2.at_]), (2, .agg #[.int .i64 b3.why, .int .i64 b3.list, .int .i64 b3.at_])] (by rfl) #[.int .i64 b1.why, .int .i64 b1.list, .int .i64 b1.at_, .int .i64 b2.why, .int .i64 b2.list, .int .i64 b2.at_, .int .i64 b3.why, .int .i64 b3.list, .int .i64 b3.at_] (bs3 b1 b2 b3) ?_
              simp only [Act.put, List.setIfInBounds_toArray, List.set_cons_succ, List.set_cons_zero]
              have stb := st
              replace st := st.alloc (.cells #[.int .i64 b1.why, .int .i64 b1.list, .int .i64 b1.at_, .int .i64 b2.why, .int .i64 b2.list, .int .i64 b2.at_, .int .i64 b3.why, .int .i64 b3.list, .int .i64 b3.at_] 56)
              replace BY := Lib.hid (BY.out.alloc (.cells #[.int .i64 b1.why, .int .i64 b1.list, .int .i64 b1.at_, .int .i64 b2.why, .int .i64 b2.list, .int .i64 b2.at_, .int .i64 b3.why, .int .i64 b3.list, .int .i64 b3.at_] 56))
              refine hK _ _ (fun hlt => Mif.cl st) ?_
              clear hK K
              refine Mxg.wpTL_op (by rfl) (fun K hK => ?_)
              go_simp
              have hfi := HFIb.out _ stb _ (Step.refl)
              try simp only [World.size_alloc] at hfi
              refine hfi.mono ?_
              rintro e v19 ⟨rfl, tn⟩
              replace st := st.trans tn
              replace BY := Lib.hid (BY.out.step tn id)
              clear tn stb hfi
              refine hK _ _ (fun hlt => Mif.cl st) ?_
              clear hK K
              have m0 := (BY.out.cell 0).trans (show _ = some (Value.int .i64 0) from rfl)
              have m1 := (BY.out.cell 1).trans (show _ = some (Value.int .i64 0) from rfl)
              have m2 := (BY.out.cell 2).trans (show _ = some (Value.int .i64 0) from rfl)
              have mf := BY.out.frozen
              refine Mxg.wpTL_op (by rfl) (fun K hK => ?_)
              go_simp
              refine hK _ _ (fun hlt => absurd hlt (by decide)) ?_
              clear hK K
              refine Mxg.wpTL_leaf ?_
              go_wp2_with fail
              go_meet
              exact ⟨_, rfl, Lib.hid (three_step st (.inr HYU.out)), Lib.hid (three_new BY.out)⟩
          · as_aux_lemma =>
            refine Mxg.wpTL_op (by rfl) (fun K hK => ?_)
            go_simp
            have HYU := Lib.hid st.size
            have BY := Lib.hid (Blk.new (v0) 56 #[.int .i64 0, .int .i64 0, .int .i64 0])
            try simp only [World.size_alloc] at HYU BY
            replace st := st.alloc (.cells #[.int .i64 0, .int .i64 0, .int .i64 0] 56)
            refine hK _ _ (fun hlt => Mif.cl st) ?_
            clear hK K
            refine Mxg.wpTL_op (by rfl) (fun K hK => ?_)
            go_simp
            refine (Eb1.out _ st).mono ?_
            rintro e v21 ⟨rfl, tn⟩
            replace st := st.trans tn
            replace BY := Lib.hid (BY.out.step tn id)
            clear tn
            refine hK _ _ (fun hlt => Mif.cl st) ?_
            clear hK K
            refine Mxg.wpTL_op (by rfl) (fun K hK => ?_)
            go_simp
            refine (Eb2.out _ st).mono ?_
            rintro e v22 ⟨rfl, tn⟩
            replace st := st.trans tn
            replace BY := Lib.hid (BY.out.step tn id)
            clear tn
            refine hK _ _ (fun hlt => Mif.cl st) ?_
            clear hK K
            refine Mxg.wpTL_op (by rfl) (fun K hK => ?_)
            go_simp
            refine (Eb3.out _ st).mono ?_
            rintro e v23 ⟨rfl, tn⟩
            replace st := st.trans tn
            replace BY := Lib.hid (BY.out.step tn id)
            clear tn
            refine hK _ _ (fun hlt => Mif.cl st) ?_
            clear hK K
            refine Mxg.wpTL_op (by rfl) (fun K hK => ?_)
            refine step_slice (by rfl) (by rfl) [(0, .agg #[.int .i64 b1.why, .int .i64 b1.list, .int .i64 b1.at_]), (1, .agg #[.int .i64 b2.why, .int .i64 b2.list, .int .i64 b2.at_]), (2, .agg #[.int .i64 b3.why, .int .i64 b3.list, .int .i64 b3.at_])] (by rfl) #[.int .i64 b1.why, .int .i64 b1.list, .int .i64 b1.at_, .int .i64 b2.why, .int .i64 b2.list, .int .i64 b2.at_, .int .i64 b3.why, .int .i64 b3.list, .int .i64 b3.at_] (bs3 b1 b2 b3) ?_
            simp only [Act.put, List.setIfInBounds_toArray, List.set_cons_succ, List.set_cons_zero]
            have stb := st
            replace st := st.alloc (.cells #[.int .i64 b1.why, .int .i64 b1.list, .int .i64 b1.at_, .int .i64 b2.why, .int .i64 b2.list, .int .i64 b2.at_, .int .i64 b3.why, .int .i64 b3.list, .int .i64 b3.at_] 56)
            replace BY := Lib.hid (BY.out.alloc (.cells #[.int .i64 b1.why, .int .i64 b1.list, .int .i64 b1.at_, .int .i64 b2.why, .int .i64 b2.list, .int .i64 b2.at_, .int .i64 b3.why, .int .i64 b3.list, .int .i64 b3.at_] 56))
            refine hK _ _ (fun hlt => Mif.cl st) ?_
            clear hK K
            refine Mxg.wpTL_op (by rfl) (fun K hK => ?_)
            go_simp
            have hfi := HFIb.out _ stb _ (Step.refl)
            try simp only [World.size_alloc] at hfi
            refine hfi.mono ?_
            rintro e v25 ⟨rfl, tn⟩
            replace st := st.trans tn
            replace BY := Lib.hid (BY.out.step tn id)
            clear tn stb hfi
            refine hK _ _ (fun hlt => Mif.cl st) ?_
            clear hK K
            have m0 := (BY.out.cell 0).trans (show _ = some (Value.int .i64 0) from rfl)
            have m1 := (BY.out.cell 1).trans (show _ = some (Value.int .i64 0) from rfl)
            have m2 := (BY.out.cell 2).trans (show _ = some (Value.int .i64 0) from rfl)
            have mf := BY.out.frozen
            refine Mxg.wpTL_op (by rfl) (fun K hK => ?_)
            go_simp
            refine hK _ _ (fun hlt => absurd hlt (by decide)) ?_
            clear hK K
            refine Mxg.wpTL_leaf ?_
            go_wp2_with fail
            go_meet
            exact ⟨_, rfl, Lib.hid (three_step st (.inr HYU.out)), Lib.hid (three_new BY.out)⟩
        case rest =>
          as_aux_lemma =>
          obtain ⟨Y2, rfl, T6, BZ⟩ := hcut
          have HFB := Lib.hid (show firstFt (lstB M) = f1 from by rw [hf1.out, hb1.out, hb2.out, hb3.out]; rfl)
          clear Eb1 Eb2 Eb3 HFIb hmf d8 d10 hf1 hb1 hb2 hb3
          replace LK := Lib.hid (LK.out.step T6.out)
          replace HMU := Lib.hid (HMU.out.step T6.out (fun _ _ => id))
          replace BXU := Lib.hid (BXU.out.step T6.out id)
          replace B2U := Lib.hid (B2U.out.step T6.out id)
          replace SU := Lib.hid (SU.out.trans T6.out)
          clear T6
          generalize wc = V6 at *
          have y0 := (BZ.out.cell 0).trans (show _ = some (Value.int .i64 f1.why) from rfl)
          have y1 := (BZ.out.cell 1).trans (show _ = some (Value.int .i64 f1.list) from rfl)
          have y2 := (BZ.out.cell 2).trans (show _ = some (Value.int .i64 f1.at_) from rfl)
          by_cases hz : f1.why = 0
          · have HZ1 := Lib.hid hz
            have e1 : (f1.why == 0) = true := by simpa using hz
            clear hz
            have x9 := (BXU.out.cell 9).trans (show _ = some (Value.slice a.A9 M.codes.length a.c9) from rfl)
            have x2 := (BXU.out.cell 2).trans (show _ = some (Value.slice a.A2 M.funcs.length a.c2) from rfl)
            by_cases hl : M.codes.length = M.funcs.length
            · have HLN := Lib.hid hl
              have e2 : ((M.codes.length : Int) == (M.funcs.length : Int)) = true := beq_iff_eq.2 (by omega)
              have HFT := Lib.hid (funcs_typed (M := M) (by rw [HFA.out]; exact HZ.out))
              have HFS := Lib.hid (types_short (M := M) HS.out (by rw [HFA.out]; exact HZ.out))
              obtain ⟨c1, hc1⟩ : ∃ g : Ft, g = eachF M.codes.length 10 (bodyAt (lkOf a M K fA gA kA fc gc kc) M) := ⟨_, rfl⟩
              have Ec1 : Hid (∀ W, Step (fun _ => False) V6 W → Calls Try.prog 23 #[.int .i64 (M.codes.length : Int), .int .i64 10, .func (.func 40) #[.pointer (some ⟨K, 0, none⟩)] #[]] W fun e w' => e = .returned (.agg #[.int .i64 c1.why, .int .i64 c1.list, .int .i64 c1.at_]) ∧ Step (fun _ => False) W w') := fun W hW => by
                rw [hc1]
                exact v_each_met W M.codes.length 10 _ ⟨K, 0, none⟩ (bodyAt (lkOf a M K fA gA kA fc gc kc) M) (by omega) (fun _ _ => rfl) (fun i V hi hV => by
                  have hif : i < M.funcs.length := by have := HLN.out; omega
                  rw [bodyAt_eq _ _ hi hif (HFT.out i hif)]
                  exact l_body i _ (LK.out.step (hW.trans hV)) HS.out HFS.out hi hif rfl (HFT.out i hif))
              obtain ⟨dy, hdy⟩ : ∃ z : Int, z = dyE M.has M.d1 M.d2 M.d3 M.d4 M.nd := ⟨_, rfl⟩
              have Ed : Hid (∀ W, Step (fun _ => False) V6 W → Calls Try.prog 41 #[.agg #[.bool M.has, .int .u32 (M.d1 : Int), .int .u32 (M.d2 : Int), .int .u32 (M.d3 : Int), .int .u32 (M.d4 : Int), .slice a.A16 M.nd.length a.c16]] W fun e w' => e = .returned (.int .i64 dy) ∧ Step (fun _ => False) W w') := fun W hW => by
                rw [hdy]
                exact d_right W M.has a.A16 M.nd.length a.c16 M.d1 M.d2 M.d3 M.d4 M.nd _ rfl HMU.out.ndc (HMU.out.nd.step hW (fun _ _ => id))
              obtain ⟨c2, hc2⟩ : ∃ g : Ft, g = faultF dy 12 0 := ⟨_, rfl⟩
              have Ef : Hid (∀ W, Calls Try.prog 36 #[.int .i64 dy, .int .i64 12, .int .i64 0] W fun e w' => e = .returned (.agg #[.int .i64 c2.why, .int .i64 c2.list, .int .i64 c2.at_]) ∧ Step (fun _ => False) W w') := fun W => by rw [hc2]; exact v_fault W dy 12 0
              obtain ⟨f2, hf2⟩ : ∃ f : Ft, f = firstFt [c1, c2] := ⟨_, rfl⟩
              have Eg : Hid (∀ W W' : World, Step (fun _ => False) (W.alloc (.cells #[.int .i64 c1.why, .int .i64 c1.list, .int .i64 c1.at_, .int .i64 c2.why, .int .i64 c2.list, .int .i64 c2.at_] 56)) W' → Calls Try.prog 22 #[.slice (some ⟨W.heap.size, 0, none⟩) 2 2] W' fun e w' => e = .returned (.agg #[.int .i64 f2.why, .int .i64 f2.list, .int .i64 f2.at_]) ∧ Step (fun _ => False) W' w') := fun W W' hs => by
                rw [hf2]
                exact v_first _ _ 2 2 [c1, c2] _ rfl (by omega) ((reads_new W #[.int .i64 c1.why, .int .i64 c1.list, .int .i64 c1.at_, .int .i64 c2.why, .int .i64 c2.list, .int .i64 c2.at_] 56 3 2 rfl).step hs (fun _ _ => id))
              have HG : Hid (modF M = f2) := by
                show modF M = f2
                rw [modF, HFA.out, if_pos HZ.out, if_neg htf.out, HFB.out, if_pos HZ1.out, if_pos HLN.out]
                rw [hf2]
                rw [hc1]
                rw [hc2]
                rw [hdy]
                exact lstC_lk a M K fA gA kA fc gc kc
              have hmf : ∀ (fn : Fn) (first cap : Array Value) (w : World), (Instr.makeFunc fn first cap).run Try.prog w = .ok (.func fn first cap) w := fun _ _ _ _ => rfl
              have x11 := (BXU.out.cell 11).trans (show _ = some (Value.bool M.has) from rfl)
              have x12 := (BXU.out.cell 12).trans (show _ = some (Value.int .u32 (M.d1 : Int)) from rfl)
              have x13 := (BXU.out.cell 13).trans (show _ = some (Value.int .u32 (M.d2 : Int)) from rfl)
              have x14 := (BXU.out.cell 14).trans (show _ = some (Value.int .u32 (M.d3 : Int)) from rfl)
              have x15 := (BXU.out.cell 15).trans (show _ = some (Value.int .u32 (M.d4 : Int)) from rfl)
              have x16 := (BXU.out.cell 16).trans (show _ = some (Value.slice a.A16 M.nd.length a.c16) from rfl)
              have d9 := cls_cell2 (F := fun _ => False) x9 id
              have d11 := cls_cell2 (F := fun _ => False) x11 id
              have d12 := cls_cell2 (F := fun _ => False) x12 id
              have d13 := cls_cell2 (F := fun _ => False) x13 id
              have d14 := cls_cell2 (F := fun _ => False) x14 id
              have d15 := cls_cell2 (F := fun _ => False) x15 id
              have d16 := cls_cell2 (F := fun _ => False) x16 id
              clear hl hc1 hdy hc2 hf2 x11 x12 x13 x14 x15 x16 LK HMU HS HRW HFT HFS
              go_wp2_with fail
              clear x2 x9 y0 y1 y2 BZ
              refine Mif.wp_region_mix [5, 8, 9, 10, 11, 12] [5] (Step (fun _ => False) V6) (by kernel_rfl) (by kernel_rfl) (Step.refl.drew) (fun hcls => ?_)
              refine Mif.wpL_reads 5 (by rfl) ?_
              simp only [List.take_succ_cons, List.drop_succ_cons, List.take_zero, List.drop_zero]
              repeat (go_big_quiet_step (fail))
              refine wpQuiet_nil ?_
              refine Mif.wpL_op (by rfl) (fun K hK => ?_)
              go_simp
              refine (Ec1.out _ Step.refl.drew).mono ?_
              rintro e wn1 ⟨rfl, t1⟩
              refine hK _ _ (fun hlt => Mif.cl (Step.refl.drew.trans t1)) ?_
              clear hK K
              refine Mif.wpL_reads 2 (by rfl) ?_
              simp only [List.take_succ_cons, List.drop_succ_cons, List.take_zero, List.drop_zero]
              repeat (go_big_quiet_step (fail))
              refine wpQuiet_nil ?_
              refine Mif.wpL_op (by rfl) (fun K hK => ?_)
              go_simp
              refine (Ed.out _ (Step.refl.drew.trans t1)).mono ?_
              rintro e wn2 ⟨rfl, t2⟩
              refine hK _ _ (fun hlt => Mif.cl ((Step.refl.drew.trans t1).trans t2)) ?_
              clear hK K
              refine Mif.wpL_op (by rfl) (fun K hK => ?_)
              go_simp
              refine (Ef.out _).mono ?_
              rintro e wn3 ⟨rfl, t3⟩
              refine hK _ _ (fun hlt => Mif.cl (((Step.refl.drew.trans t1).trans t2).trans t3)) ?_
              clear hK K
              refine Mif.wpL_op (by rfl) (fun K hK => ?_)
              refine step_slice (by rfl) (by rfl) [(0, .agg #[.int .i64 c1.why, .int .i64 c1.list, .int .i64 c1.at_]), (1, .agg #[.int .i64 c2.why, .int .i64 c2.list, .int .i64 c2.at_])] (by rfl) #[.int .i64 c1.why, .int .i64 c1.list, .int .i64 c1.at_, .int .i64 c2.why, .int .i64 c2.list, .int .i64 c2.at_] (bs2 c1 c2) ?_
              simp only [Act.put, List.setIfInBounds_toArray, List.set_cons_succ, List.set_cons_zero]
              refine hK _ _ (fun hlt => Mif.cl ((((Step.refl.drew.trans t1).trans t2).trans t3).alloc _)) ?_
              clear hK K
              refine Mif.wpL_op (by rfl) (fun K hK => ?_)
              go_simp
              have hfi := Eg.out wn3 _ Step.refl
              refine hfi.mono ?_
              clear hfi
              rintro e wn4 ⟨rfl, t4⟩
              have T : Step (fun _ => False) V6 wn4 := ((((Step.refl.drew.trans t1).trans t2).trans t3).alloc _).trans t4
              clear t1 t2 t3 t4 Ec1 Ed Ef Eg d9 d11 d12 d13 d14 d15 d16 hmf
              replace B2U := Lib.hid (B2U.out.step T id)
              replace SU := Lib.hid (SU.out.trans T)
              refine hK _ _ (fun hlt => Mif.cl (T)) ?_
              clear hK K
              clear T hcls BXU
              have r0 := (B2U.out.cell 0).trans (show _ = some (Value.int .i64 0) from rfl)
              have r1 := (B2U.out.cell 1).trans (show _ = some (Value.int .i64 0) from rfl)
              have r2 := (B2U.out.cell 2).trans (show _ = some (Value.int .i64 0) from rfl)
              have rf := B2U.out.frozen
              refine Mif.wpL_op (by rfl) (fun K hK => ?_)
              go_simp
              refine hK _ _ (fun hlt => absurd hlt (by decide)) ?_
              clear hK K
              refine Mif.wpL_end ?_
              go_wp2_with (refine bodyPost_ret (v := f2.val) (by simp [results, Try.results11, go_sem, Ft.val, r0, r1, r2]) rfl ⟨by rw [HG.out], three_step SU.out (.inr HN2.out)⟩)

            · have hx2 : ¬ (M.codes.length : Int) = (M.funcs.length : Int) := by omega
              have e2 : ((M.codes.length : Int) == (M.funcs.length : Int)) = false := beq_eq_false_iff_ne.2 hx2
              obtain ⟨f2, hf2⟩ : ∃ f, f = faultF 11 10 (M.codes.length : Int) := ⟨_, rfl⟩
              have HFT : Hid (∀ W, Calls Try.prog 36 #[.int .i64 11, .int .i64 10, .int .i64 (M.codes.length : Int)] W fun e w' => e = .returned (.agg #[.int .i64 f2.why, .int .i64 f2.list, .int .i64 f2.at_]) ∧ Step (fun _ => False) W w') := fun W => by rw [hf2]; exact v_fault W 11 10 (M.codes.length : Int)
              have HG := Lib.hid (show modF M = f2 from by rw [modF, HFA.out, if_pos HZ.out, if_neg htf.out, HFB.out, if_pos HZ1.out, if_neg hl, hf2])
              clear hl hx2 hf2
              go_wp2_with fail
              refine (HFT.out _).mono ?_
              rintro e V7 ⟨rfl, t6⟩
              replace LK := Lib.hid (LK.out.step t6)
              replace HMU := Lib.hid (HMU.out.step t6 (fun _ _ => id))
              replace BXU := Lib.hid (BXU.out.step t6 id)
              replace B2U := Lib.hid (B2U.out.step t6 id)
              replace SU := Lib.hid (SU.out.trans t6)
              clear t6 x9 x2 HFT
              have r0 := (B2U.out.cell 0).trans (show _ = some (Value.int .i64 0) from rfl)
              have r1 := (B2U.out.cell 1).trans (show _ = some (Value.int .i64 0) from rfl)
              have r2 := (B2U.out.cell 2).trans (show _ = some (Value.int .i64 0) from rfl)
              have rf := B2U.out.frozen
              clear LK HMU BXU HS HRW
              go_wp2_with (refine bodyPost_ret (v := f2.val) (by simp [results, Try.results11, go_sem, Ft.val, r0, r1, r2]) rfl ⟨by rw [HG.out], three_step SU.out (.inr HN2.out)⟩)

          · have e1 : (f1.why == 0) = false := by simpa using hz
            have HG := Lib.hid (show modF M = f1 from by rw [modF, HFA.out, if_pos HZ.out, if_neg htf.out, HFB.out, if_neg hz])
            have HZ1 := Lib.hid hz
            clear hz
            have r0 := (B2U.out.cell 0).trans (show _ = some (Value.int .i64 0) from rfl)
            have r1 := (B2U.out.cell 1).trans (show _ = some (Value.int .i64 0) from rfl)
            have r2 := (B2U.out.cell 2).trans (show _ = some (Value.int .i64 0) from rfl)
            have rf := B2U.out.frozen
            clear LK HMU BXU HS HRW
            go_wp2_with (refine bodyPost_ret (v := f1.val) (by simp [results, Try.results11, go_sem, Ft.val, r0, r1, r2]) rfl ⟨by rw [HG.out], three_step SU.out (.inr HN2.out)⟩)
    · have e1 : (f0.why == 0) = false := by simpa using hz
      have HG := Lib.hid (show modF M = f0 from by rw [modF, HFA.out, if_neg hz])
      have HZ := Lib.hid hz
      clear hz
      have r0 := (B2U.out.cell 0).trans (show _ = some (Value.int .i64 0) from rfl)
      have r1 := (B2U.out.cell 1).trans (show _ = some (Value.int .i64 0) from rfl)
      have r2 := (B2U.out.cell 2).trans (show _ = some (Value.int .i64 0) from rfl)
      have rf := B2U.out.frozen
      clear LK HMU BXU HS HRW
      go_wp2_with (refine bodyPost_ret (v := f0.val) (by simp [results, Try.results11, go_sem, Ft.val, r0, r1, r2]) rfl ⟨by rw [HG.out], three_step SU.out (.inr HN2.out)⟩)
end
end Go.Proofs.Ytpebdfgfikjkeaa
