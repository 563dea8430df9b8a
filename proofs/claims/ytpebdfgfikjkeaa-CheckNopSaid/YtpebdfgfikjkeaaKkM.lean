/-
  The law CheckNop: its walk.
-/
import Derived.Test.YtpebdfgfikjkeaaKkL
import Derived.Test.YtpebdfgfikjkeaaMxt
set_option linter.unusedVariables false
set_option linter.unusedSimpArgs false
namespace Go.Proofs.Ytpebdfgfikjkeaa
open Go.RowKit

theorem own_lit4 (w : World) (cur : Array Value) (e : TypeId) (n size base : Nat) (hb : base ≤ w.heap.size) (hm : n ≤ maxLen) (hs : cur.size = n * size) : (w.alloc (.cells cur e)).ownsRow base e size (.slice (some ⟨w.heap.size, 0, none⟩) n n) n cur.toList :=
  ⟨(Array.length_toList (xs := cur)).trans hs, .inr ⟨w.heap.size, n, cur, rfl, hb, heap_alloc_new w _, Nat.le_refl _, hm, hs, by rw [← hs, ← Array.length_toList, List.take_length]⟩⟩
theorem E_ig : ElemTy Try.prog 30 40 4 48 := elem_of Try.underlying30 (z := .agg #[.int .u8 0, .int .u64 0, .int .u64 0, .slice none 0 0]) (by kernel_rfl) rfl (by decide)
theorem igs_one (l : List Ig) : ∀ u ∈ igs l, u.oneCell' = true := by
  intro u hu
  obtain ⟨f, _, hf⟩ := List.mem_flatMap.1 hu
  simp [Ig.cells, insC] at hf
  rcases hf with rfl | rfl | rfl | rfl <;> rfl
/-- What is known of an instruction that came in. -/
structure IgRaw (w : World) (R : Nat → Prop) (x : Ig) : Prop where
  op : x.op < 256
  a : x.a < 18446744073709551616
  n : x.n = x.L.length
  lt : ∀ y ∈ x.L, y < 4294967296
  rd : Reads w R 1 x.A x.n (x.L.flatMap fun y : Nat => [Value.int .u32 (y : Int)])
theorem IgRaw.in_ {w w' : World} {R R' F : Nat → Prop} {x : Ig} (h : IgRaw w R x) (hs : Step F w w') (hd : ∀ k, R k → ¬ F k) (hR : ∀ k, R k → R' k) (hf : x.n ≤ 1000) : IgIn w' R' x :=
  ⟨h.op, h.a, h.n, hf, h.lt, (h.rd.step hs hd).mono fun k _ hk => hR k hk⟩
theorem EnvIn.wide {w : World} {R R' : Nat → Prop} {E : Ke} {tA fA gA : Option Addr} (h : EnvIn w R E tA fA gA) (hR : ∀ k, R k → R' k) (hi : ∀ k, R' k → k < w.heap.size) : EnvIn w R' E tA fA gA :=
  ⟨h.types.mono fun k _ hk => hR k hk, h.funcs.mono fun k _ hk => hR k hk, h.globals.mono fun k _ hk => hR k hk, hi⟩

set_option maxRecDepth 100000 in
set_option maxHeartbeats 6400000 in
theorem nop_walk (w : World) (R : Nat → Prop) (E : Ke) (tA fA gA : Option Addr) (tc fc gc : Nat) (ps : List UInt8) (LA IA : Option Addr) (lc n c : Nat) (lo : List (Nat × Nat)) (l : List Ig)
    (hE : EnvIn w R E tA fA gA) (HN : Hid (n = l.length)) (hin : ∀ x ∈ l, IgRaw w R x) (hr : Reads w R 4 IA n (igs l)) (hl : Reads w R 2 LA lo.length (lo.flatMap loC))
    (hb : ∀ g ∈ lo, g.1 < 4294967296 ∧ g.2 < 256) (hff : ∀ x ∈ E.funcs, x < 4294967296) (hgg : ∀ x ∈ E.globals, x.1 < 256) (hloc : E.locals = ps ++ loT lo) :
    Calls Try.prog 3 #[envV E tA fA gA tc fc gc, .agg #[.string (str ps), .string (str E.result)], .agg #[.slice LA lo.length lc, .slice IA n c]] w fun e w' => e = .returned (.bool true) ∧ Step (fun _ => False) w w' := by
  have s1 : Step (fun _ => False) w (((w.alloc (.cells #[.slice tA E.types.length tc, .slice fA E.funcs.length fc, .slice gA E.globals.length gc, .bool E.table, .bool E.mem] 26)).alloc (.cells #[.string (str ps), .string (str E.result)] 28)).alloc (.cells #[.slice LA lo.length lc, .slice IA n c] 32)) := ((Step.refl.alloc _).alloc _).alloc _
  have b0 := ((Blk.new w 26 #[.slice tA E.types.length tc, .slice fA E.funcs.length fc, .slice gA E.globals.length gc, .bool E.table, .bool E.mem]).alloc (.cells #[.string (str ps), .string (str E.result)] 28)).alloc (.cells #[.slice LA lo.length lc, .slice IA n c] 32)
  have b1 := (Blk.new (w.alloc (.cells #[.slice tA E.types.length tc, .slice fA E.funcs.length fc, .slice gA E.globals.length gc, .bool E.table, .bool E.mem] 26)) 28 #[.string (str ps), .string (str E.result)]).alloc (.cells #[.slice LA lo.length lc, .slice IA n c] 32)
  have b2 := Blk.new ((w.alloc (.cells #[.slice tA E.types.length tc, .slice fA E.funcs.length fc, .slice gA E.globals.length gc, .bool E.table, .bool E.mem] 26)).alloc (.cells #[.string (str ps), .string (str E.result)] 28)) 32 #[.slice LA lo.length lc, .slice IA n c]
  simp only [World.size_alloc] at b1 b2
  have S1 := Lib.hid s1
  have B0 := Lib.hid b0
  have B1 := Lib.hid b1
  have B2 := Lib.hid b2
  have HE := Lib.hid hE
  have HI := Lib.hid hin
  have HR := Lib.hid hr
  have HL := Lib.hid hl
  have HB := Lib.hid hb
  replace hloc := Lib.hid hloc
  replace hff := Lib.hid hff
  replace hgg := Lib.hid hgg
  clear hE hin hr hl hb s1 b0 b1 b2
  unfold envV
  go_enter Try.func3, Try.ntmps3
  go_upto_region 1 with fail
  generalize w.heap.size = N at *
  generalize ((w.alloc (.cells #[.slice tA E.types.length tc, .slice fA E.funcs.length fc, .slice gA E.globals.length gc, .bool E.table, .bool E.mem] 26)).alloc (.cells #[.string (str ps), .string (str E.result)] 28)).alloc (.cells #[.slice LA lo.length lc, .slice IA n c] 32) = V at *
  go_wp2_with fail
  refine (awake24 V).mono ?_
  rintro e w1 ⟨rfl, t1⟩
  replace B0 := Lib.hid (B0.out.step t1 id)
  replace B1 := Lib.hid (B1.out.step t1 id)
  replace B2 := Lib.hid (B2.out.step t1 id)
  replace S1 := Lib.hid (S1.out.trans t1)
  clear t1
  have z0 := (B0.out.cell 0).trans (show _ = some (Value.slice tA E.types.length tc) from rfl)
  have z1 := (B0.out.cell 1).trans (show _ = some (Value.slice fA E.funcs.length fc) from rfl)
  have z2 := (B0.out.cell 2).trans (show _ = some (Value.slice gA E.globals.length gc) from rfl)
  have z3 := (B0.out.cell 3).trans (show _ = some (Value.bool E.table) from rfl)
  have z4 := (B0.out.cell 4).trans (show _ = some (Value.bool E.mem) from rfl)
  have x0 := (B1.out.cell 0).trans (show _ = some (Value.string (str ps)) from rfl)
  have x1 := (B1.out.cell 1).trans (show _ = some (Value.string (str E.result)) from rfl)
  have y0 := (B2.out.cell 0).trans (show _ = some (Value.slice LA lo.length lc) from rfl)
  have y1 := (B2.out.cell 1).trans (show _ = some (Value.slice IA n c) from rfl)
  go_wp2_with fail
  refine (small_walk w1 tA fA gA LA IA E.types.length tc E.funcs.length fc E.globals.length gc lo.length lc n c E.table E.mem ps E.result E.types l R rfl HN (HE.out.types.step S1.out (fun _ _ => id)) (HR.out.step S1.out (fun _ _ => id))).mono ?_
  rintro e w2 ⟨⟨b, rfl, hbt⟩, t2⟩
  cases b with
  | false =>
    go_wp2_with fail
    go_ret
    exact ⟨rfl, S1.out.trans t2⟩
  | true =>
    obtain ⟨⟨k1, k2, k3, k4, k5, k6, k7⟩, hfew, hts⟩ := hbt rfl
    replace B0 := Lib.hid (B0.out.step t2 id)
    replace B1 := Lib.hid (B1.out.step t2 id)
    replace B2 := Lib.hid (B2.out.step t2 id)
    replace S1 := Lib.hid (S1.out.trans t2)
    clear t2 z0 z1 z2 z3 z4 x0 x1 y0 y1 hbt
    have z0 := (B0.out.cell 0).trans (show _ = some (Value.slice tA E.types.length tc) from rfl)
    have z1 := (B0.out.cell 1).trans (show _ = some (Value.slice fA E.funcs.length fc) from rfl)
    have z2 := (B0.out.cell 2).trans (show _ = some (Value.slice gA E.globals.length gc) from rfl)
    have z3 := (B0.out.cell 3).trans (show _ = some (Value.bool E.table) from rfl)
    have z4 := (B0.out.cell 4).trans (show _ = some (Value.bool E.mem) from rfl)
    have x0 := (B1.out.cell 0).trans (show _ = some (Value.string (str ps)) from rfl)
    have x1 := (B1.out.cell 1).trans (show _ = some (Value.string (str E.result)) from rfl)
    have y0 := (B2.out.cell 0).trans (show _ = some (Value.slice LA lo.length lc) from rfl)
    have y1 := (B2.out.cell 1).trans (show _ = some (Value.slice IA n c) from rfl)
    have hok : locF lo 0 ≠ none → E.ok := fun h => by
      obtain ⟨ln, hln⟩ : ∃ v, locF lo 0 = some v := by
        cases hc : locF lo 0 with
        | none => exact absurd hc h
        | some v => exact ⟨v, rfl⟩
      have := locF_le lo 0 ln (by omega) hln
      exact ⟨fun t ht => ⟨by have := (hts t ht).1; omega, by have := (hts t ht).2; omega⟩, by omega, by omega, by omega, hff.out, hgg.out, by rw [hloc.out, List.length_append]; omega, by omega⟩
    have HOK := Lib.hid hok
    have HFEW := Lib.hid hfew
    have HE2 := Lib.hid (HE.out.step S1.out (fun _ _ => id))
    have HR2 := Lib.hid (HR.out.step S1.out (fun _ _ => id))
    have HL2 := Lib.hid (HL.out.step S1.out (fun _ _ => id))
    have HI2 := Lib.hid (fun x hx => (HI.out x hx).in_ (R' := R) S1.out (fun _ _ => id) (fun _ h => h) (by have := HFEW.out x hx; omega))
    have HBD := Lib.hid (body_walk w2 R E tA fA gA tc fc gc ps LA IA lc n c lo l HE2.out HN (by omega) HI2.out HR2.out HL2.out HB.out (by omega) (by omega) HOK.out hloc.out (by omega))
    have HB2 : Hid (∀ (U : World) (D : Option Addr) (c' : Nat), Step (fun _ => False) w2 U → Reads U (fun k => k < U.heap.size) 4 D (1 + n) (igs (nopI :: l)) → _) := fun U D c' hU hD =>
      body_walk U (fun k => k < U.heap.size) E tA fA gA tc fc gc ps LA D lc (1 + n) c' lo (nopI :: l)
        ((HE2.out.step hU (fun _ _ => id)).wide (fun k hk => Nat.lt_of_lt_of_le (HE2.out.rin k hk) hU.size) (fun _ h => h)) (by show 1 + n = (nopI :: l).length; rw [List.length_cons, HN.out]; omega) (by omega)
        (fun x hx => by
          rcases List.mem_cons.1 hx with rfl | hx
          · exact ⟨by decide, by decide, rfl, by decide, fun y hy => (by cases hy), Reads.nil_⟩
          · exact (HI.out x hx).in_ (S1.out.trans hU) (fun _ _ => id) (fun k hk => Nat.lt_of_lt_of_le (HE2.out.rin k hk) hU.size) (by have := HFEW.out x hx; omega)) hD
        ((HL2.out.step hU (fun _ _ => id)).mono fun k _ hk => Nat.lt_of_lt_of_le (HE2.out.rin k hk) hU.size) HB.out (by omega) (by omega) HOK.out hloc.out (by omega)
    have hnop := body_nop E lo l
    rw [← HN.out] at hnop
    generalize bodyF E lo l = p1 at HBD hnop
    generalize bodyF E lo (nopI :: l) = p2 at HB2 hnop
    obtain ⟨i1, f1⟩ := p1
    obtain ⟨i2, f2⟩ := p2
    simp only at HBD HB2 hnop
    have HNOP := Lib.hid hnop
    clear hnop hok hfew hts
    go_wp2_with fail
    refine HBD.out.mono ?_
    rintro e w3 ⟨rfl, t3⟩
    replace B0 := Lib.hid (B0.out.step t3 id)
    replace B1 := Lib.hid (B1.out.step t3 id)
    replace y0 := ((B2.out.step t3 id).cell 0).trans (show _ = some (Value.slice LA lo.length lc) from rfl)
    replace y1 := ((B2.out.step t3 id).cell 1).trans (show _ = some (Value.slice IA n c) from rfl)
    have d0 := cls_cell (F := fun _ => False) y0 id
    have d1 := cls_cell (F := fun _ => False) y1 id
    have hsrc := HR2.out.step t3 (fun _ _ => id)
    replace hsrc := hsrc.mono (S' := fun k => k < w3.heap.size) (fun k hk _ => hk)
    have HU2 := Lib.hid t3
    have S3 := Lib.hid (S1.out.trans t3)
    have hone := igs_one l
    have hm : 1 + n ≤ maxLen := by unfold maxLen; omega
    clear z0 z1 z2 z3 z4 x0 x1 t3 B2 HBD
    go_wp2_with fail
    have hfC : ((w3.alloc (.cells #[.slice none 0 0, .slice none 0 0] 32)).alloc (.cells #[.int .u8 1, .int .u64 0, .int .u64 0, .slice none 0 0] 40)).drew.ownsRow w3.heap.size 40 4 (.slice (some ⟨w3.heap.size + 1, 0, none⟩) 1 1) 1 (#[.int .u8 1, .int .u64 0, .int .u64 0, .slice none 0 0] : Array Value).toList := by
      have := own_drew (own_lit4 (w3.alloc (.cells #[.slice none 0 0, .slice none 0 0] 32)) #[.int .u8 1, .int .u64 0, .int .u64 0, .slice none 0 0] 40 1 4 w3.heap.size (by simp) (by unfold maxLen; omega) rfl)
      rwa [show (w3.alloc (.cells #[.slice none 0 0, .slice none 0 0] 32)).heap.size = w3.heap.size + 1 by simp] at this
    have hrA := hsrc.step (F := fun _ => False) (Step.drew (Step.alloc Step.refl (.cells #[.int .u8 1, .int .u64 0, .int .u64 0, .slice none 0 0] 40))) (fun _ _ => id)
    have hrB := hsrc.step (F := fun _ => False) (Step.drew (Step.alloc (Step.alloc Step.refl (.cells #[.int .u8 1, .int .u64 0, .int .u64 0, .slice none 0 0] 40)) (.cells #[.slice none 0 0, .slice none 0 0] 32))) (fun _ _ => id)
    have hrC := hsrc.step (F := fun _ => False) (Step.drew (Step.alloc (Step.alloc Step.refl (.cells #[.slice none 0 0, .slice none 0 0] 32)) (.cells #[.int .u8 1, .int .u64 0, .int .u64 0, .slice none 0 0] 40))) (fun _ _ => id)
    have hK0 := (Blk.new (w3.alloc (.cells #[.int .u8 1, .int .u64 0, .int .u64 0, .slice none 0 0] 40)) 32 #[.slice none 0 0, .slice none 0 0]).drew
    rw [show (w3.alloc (.cells #[.int .u8 1, .int .u64 0, .int .u64 0, .slice none 0 0] 40)).heap.size = w3.heap.size + 1 by simp] at hK0
    have hK1 := ((Blk.new w3 32 #[.slice none 0 0, .slice none 0 0]).alloc (.cells #[.int .u8 1, .int .u64 0, .int .u64 0, .slice none 0 0] 40)).drew
    refine Mxt.wp_region_tree [3, 6, 8, 9] [3, 6, 8] (.reads [0, 1, 2, 4, 5] (.fork (.op 3 (.fork (.op 6 (.reads [7] (.op 8 (.op 9 .leaf)))) (.op 8 (.op 6 (.reads [7] (.op 9 .leaf)))))) (.op 8 (.op 3 (.op 6 (.reads [7] (.op 9 .leaf))))))) (Step (fun _ => False) w3) (by kernel_rfl) (by kernel_rfl) Step.refl.drew (fun hcls => ?_)
    refine Mxt.wpTL_reads ?_
    simp only [List.flatMap_cons, List.flatMap_nil, List.getElem?_cons_succ, List.getElem?_cons_zero, Option.toList_some, List.cons_append, List.nil_append]
    repeat (go_big_quiet_step (fail))
    refine wpQuiet_nil ?_
    refine Mxt.wpTL_fork ?_ ?_
    · refine Mxt.wpTL_op (by rfl) (fun K hK => ?_)
      go_simp
      refine hK _ _ (fun hlt => Mix.cl (Step.drew (Step.alloc Step.refl _))) ?_
      clear hK K
      refine Mxt.wpTL_fork ?_ ?_
      · refine Mxt.wpTL_op (by rfl) (fun K hK => ?_)
        refine step_append_new (w0 := w3) (by rfl) _ _ (by rfl) E_ig (Step.drew (Step.alloc Step.refl _)) (by rfl) (own_drew (own_lit4 w3 #[.int .u8 1, .int .u64 0, .int .u64 0, .slice none 0 0] 40 1 4 w3.heap.size (Nat.le_refl _) (by unfold maxLen; omega) rfl)) (by rfl) (hrA) hone hm (by omega) ?_
        intro D1 c1 W1 hown1 hS1 hgrow1 hat1
        refine hK _ _ (fun hlt => Mix.cl hS1) ?_
        clear hK K
        simp only [Act.put, List.setIfInBounds_toArray, List.set_cons_succ, List.set_cons_zero, Nat.zero_add]
        refine Mxt.wpTL_reads ?_
        simp only [List.flatMap_cons, List.flatMap_nil, List.getElem?_cons_succ, List.getElem?_cons_zero, Option.toList_some, List.cons_append, List.nil_append]
        repeat (go_big_quiet_step (fail))
        refine wpQuiet_nil ?_
        refine Mxt.wpTL_op (by rfl) (fun K hK => ?_)
        go_simp
        refine hK _ _ (fun hlt => Mix.cl (Step.alloc hS1 _)) ?_
        clear hK K
        refine Mxt.wpTL_op (by rfl) (fun K hK => ?_)
        go_simp
        refine hK _ _ (fun hlt => absurd hlt (by decide)) ?_
        clear hK K
        refine Mxt.wpTL_leaf ?_
        have hsU : Step (fun _ => False) w3 (W1.alloc (.cells #[.slice LA lo.length lc, .slice D1 (1 + n) c1] 32)) := hS1.alloc _
        have bz : Blk (W1.alloc (.cells #[.slice LA lo.length lc, .slice D1 (1 + n) c1] 32)) (W1.heap.size) 32 #[.slice LA lo.length lc, .slice D1 (1 + n) c1] := Blk.new W1 _ _
        have hoU : (W1.alloc (.cells #[.slice LA lo.length lc, .slice D1 (1 + n) c1] 32)).ownsRow w3.heap.size 40 4 (.slice D1 (1 + n) c1) (1 + n) (igs (nopI :: l)) := hown1.alloc _
        have hrU : Reads (W1.alloc (.cells #[.slice LA lo.length lc, .slice D1 (1 + n) c1] 32)) (fun k => k < (W1.alloc (.cells #[.slice LA lo.length lc, .slice D1 (1 + n) c1] 32)).heap.size) 4 D1 (1 + n) (igs (nopI :: l)) := (Reads.of_own hoU).mono fun k hk _ => hk
        have HX := Lib.hid (HB2.out _ D1 c1 (HU2.out.trans hsU) hrU)
        unfold envV at HX
        have SU := Lib.hid (S3.out.trans hsU)
        have z0 := ((B0.out.step hsU id).cell 0).trans (show _ = some (Value.slice tA E.types.length tc) from rfl)
        have z1 := ((B0.out.step hsU id).cell 1).trans (show _ = some (Value.slice fA E.funcs.length fc) from rfl)
        have z2 := ((B0.out.step hsU id).cell 2).trans (show _ = some (Value.slice gA E.globals.length gc) from rfl)
        have z3 := ((B0.out.step hsU id).cell 3).trans (show _ = some (Value.bool E.table) from rfl)
        have z4 := ((B0.out.step hsU id).cell 4).trans (show _ = some (Value.bool E.mem) from rfl)
        have x0 := ((B1.out.step hsU id).cell 0).trans (show _ = some (Value.string (str ps)) from rfl)
        have x1 := ((B1.out.step hsU id).cell 1).trans (show _ = some (Value.string (str E.result)) from rfl)
        have q0 := (bz.cell 0).trans (show _ = some (Value.slice LA lo.length lc) from rfl)
        have q1 := (bz.cell 1).trans (show _ = some (Value.slice D1 (1 + n) c1) from rfl)
        clear hsU bz hoU hrU y0 y1 d0 d1 hown1 hS1 hgrow1 hat1
        generalize W1.alloc (.cells #[.slice LA lo.length lc, .slice D1 (1 + n) c1] 32) = U at *
        go_wp2_with fail
        refine HX.out.mono ?_
        rintro e w9 ⟨rfl, t9⟩
        have S9 := Lib.hid (SU.out.trans t9)
        clear t9
        rcases HNOP.out with ⟨v1, rfl, rfl⟩ | ⟨v1, rfl, rfl, v2⟩
        · go_wp2_with fail
          go_ret
          exact ⟨rfl, S9.out⟩
        · have v3 := IntWalk.i64_in (i1 + 1) (by omega)
          go_wp2_with fail
          go_ret
          exact ⟨rfl, S9.out⟩
      · refine Mxt.wpTL_op (by rfl) (fun K hK => ?_)
        go_simp
        refine hK _ _ (fun hlt => Mix.cl (Step.drew (Step.alloc (Step.alloc Step.refl _) _))) ?_
        clear hK K
        refine Mxt.wpTL_op (by rfl) (fun K hK => ?_)
        refine step_append_new (w0 := w3) (by rfl) _ _ (by rfl) E_ig (Step.drew (Step.alloc (Step.alloc Step.refl _) _)) (by rfl) (own_drew ((own_lit4 w3 #[.int .u8 1, .int .u64 0, .int .u64 0, .slice none 0 0] 40 1 4 w3.heap.size (Nat.le_refl _) (by unfold maxLen; omega) rfl).alloc (.cells #[.slice none 0 0, .slice none 0 0] 32))) (by rfl) (hrB) hone hm (by omega) ?_
        intro D1 c1 W1 hown1 hS1 hgrow1 hat1
        refine hK _ _ (fun hlt => Mix.cl hS1) ?_
        clear hK K
        simp only [Act.put, List.setIfInBounds_toArray, List.set_cons_succ, List.set_cons_zero, Nat.zero_add]
        have hb1 := hK0.grown hgrow1 (by simp [blkOf])
        have v0 := (hb1.cell 0).trans (show _ = some (Value.slice none 0 0) from rfl)
        have v1 := (hb1.cell 1).trans (show _ = some (Value.slice none 0 0) from rfl)
        have vf := hb1.frozen
        have hne := own_tag hown1 hb1 (by decide)
        refine Mxt.wpTL_reads ?_
        simp only [List.flatMap_cons, List.flatMap_nil, List.getElem?_cons_succ, List.getElem?_cons_zero, Option.toList_some, List.cons_append, List.nil_append]
        repeat (go_big_quiet_step (fail))
        refine wpQuiet_nil ?_
        refine Mxt.wpTL_op (by rfl) (fun K hK => ?_)
        go_simp
        refine hK _ _ (fun hlt => absurd hlt (by decide)) ?_
        clear hK K
        refine Mxt.wpTL_leaf ?_
        clear v0 v1 vf
        have hsU : Step (fun _ => False) w3 ((W1.setCell ⟨w3.heap.size + 1, 0, none⟩ (.slice LA lo.length lc)).setCell ⟨w3.heap.size + 1, 1, none⟩ (.slice D1 (1 + n) c1)) := (hS1.setCell (p := ⟨w3.heap.size + 1, 0, none⟩) (.inr (Nat.le_succ _)) _).setCell (p := ⟨w3.heap.size + 1, 1, none⟩) (.inr (Nat.le_succ _)) _
        have bz : Blk ((W1.setCell ⟨w3.heap.size + 1, 0, none⟩ (.slice LA lo.length lc)).setCell ⟨w3.heap.size + 1, 1, none⟩ (.slice D1 (1 + n) c1)) (w3.heap.size + 1) 32 #[.slice LA lo.length lc, .slice D1 (1 + n) c1] := by have := (hb1.set_ 0 (.slice LA lo.length lc)).set_ 1 (.slice D1 (1 + n) c1); simpa using this
        have hoU : ((W1.setCell ⟨w3.heap.size + 1, 0, none⟩ (.slice LA lo.length lc)).setCell ⟨w3.heap.size + 1, 1, none⟩ (.slice D1 (1 + n) c1)).ownsRow w3.heap.size 40 4 (.slice D1 (1 + n) c1) (1 + n) (igs (nopI :: l)) := own_set (own_set hown1 (p := ⟨w3.heap.size + 1, 0, none⟩) hne _) (p := ⟨w3.heap.size + 1, 1, none⟩) hne _
        have hrU : Reads ((W1.setCell ⟨w3.heap.size + 1, 0, none⟩ (.slice LA lo.length lc)).setCell ⟨w3.heap.size + 1, 1, none⟩ (.slice D1 (1 + n) c1)) (fun k => k < ((W1.setCell ⟨w3.heap.size + 1, 0, none⟩ (.slice LA lo.length lc)).setCell ⟨w3.heap.size + 1, 1, none⟩ (.slice D1 (1 + n) c1)).heap.size) 4 D1 (1 + n) (igs (nopI :: l)) := (Reads.of_own hoU).mono fun k hk _ => hk
        have HX := Lib.hid (HB2.out _ D1 c1 (HU2.out.trans hsU) hrU)
        unfold envV at HX
        have SU := Lib.hid (S3.out.trans hsU)
        have z0 := ((B0.out.step hsU id).cell 0).trans (show _ = some (Value.slice tA E.types.length tc) from rfl)
        have z1 := ((B0.out.step hsU id).cell 1).trans (show _ = some (Value.slice fA E.funcs.length fc) from rfl)
        have z2 := ((B0.out.step hsU id).cell 2).trans (show _ = some (Value.slice gA E.globals.length gc) from rfl)
        have z3 := ((B0.out.step hsU id).cell 3).trans (show _ = some (Value.bool E.table) from rfl)
        have z4 := ((B0.out.step hsU id).cell 4).trans (show _ = some (Value.bool E.mem) from rfl)
        have x0 := ((B1.out.step hsU id).cell 0).trans (show _ = some (Value.string (str ps)) from rfl)
        have x1 := ((B1.out.step hsU id).cell 1).trans (show _ = some (Value.string (str E.result)) from rfl)
        have q0 := (bz.cell 0).trans (show _ = some (Value.slice LA lo.length lc) from rfl)
        have q1 := (bz.cell 1).trans (show _ = some (Value.slice D1 (1 + n) c1) from rfl)
        clear hb1 hne hsU bz hoU hrU y0 y1 d0 d1 hown1 hS1 hgrow1 hat1
        generalize (W1.setCell ⟨w3.heap.size + 1, 0, none⟩ (.slice LA lo.length lc)).setCell ⟨w3.heap.size + 1, 1, none⟩ (.slice D1 (1 + n) c1) = U at *
        go_wp2_with fail
        refine HX.out.mono ?_
        rintro e w9 ⟨rfl, t9⟩
        have S9 := Lib.hid (SU.out.trans t9)
        clear t9
        rcases HNOP.out with ⟨v1, rfl, rfl⟩ | ⟨v1, rfl, rfl, v2⟩
        · go_wp2_with fail
          go_ret
          exact ⟨rfl, S9.out⟩
        · have v3 := IntWalk.i64_in (i1 + 1) (by omega)
          go_wp2_with fail
          go_ret
          exact ⟨rfl, S9.out⟩
    · refine Mxt.wpTL_op (by rfl) (fun K hK => ?_)
      go_simp
      refine hK _ _ (fun hlt => Mix.cl (Step.drew (Step.alloc Step.refl _))) ?_
      clear hK K
      refine Mxt.wpTL_op (by rfl) (fun K hK => ?_)
      go_simp
      refine hK _ _ (fun hlt => Mix.cl (Step.drew (Step.alloc (Step.alloc Step.refl _) _))) ?_
      clear hK K
      refine Mxt.wpTL_op (by rfl) (fun K hK => ?_)
      refine step_append_new (w0 := w3) (by rfl) _ _ (by rfl) E_ig (Step.drew (Step.alloc (Step.alloc Step.refl _) _)) (by rfl) (hfC) (by rfl) (hrC) hone hm (by omega) ?_
      intro D1 c1 W1 hown1 hS1 hgrow1 hat1
      refine hK _ _ (fun hlt => Mix.cl hS1) ?_
      clear hK K
      simp only [Act.put, List.setIfInBounds_toArray, List.set_cons_succ, List.set_cons_zero, Nat.zero_add]
      have hb1 := hK1.grown hgrow1 (by simp [blkOf])
      have v0 := (hb1.cell 0).trans (show _ = some (Value.slice none 0 0) from rfl)
      have v1 := (hb1.cell 1).trans (show _ = some (Value.slice none 0 0) from rfl)
      have vf := hb1.frozen
      have hne := own_tag hown1 hb1 (by decide)
      refine Mxt.wpTL_reads ?_
      simp only [List.flatMap_cons, List.flatMap_nil, List.getElem?_cons_succ, List.getElem?_cons_zero, Option.toList_some, List.cons_append, List.nil_append]
      repeat (go_big_quiet_step (fail))
      refine wpQuiet_nil ?_
      refine Mxt.wpTL_op (by rfl) (fun K hK => ?_)
      go_simp
      refine hK _ _ (fun hlt => absurd hlt (by decide)) ?_
      clear hK K
      refine Mxt.wpTL_leaf ?_
      clear v0 v1 vf
      have hsU : Step (fun _ => False) w3 ((W1.setCell ⟨w3.heap.size, 0, none⟩ (.slice LA lo.length lc)).setCell ⟨w3.heap.size, 1, none⟩ (.slice D1 (1 + n) c1)) := (hS1.setCell (p := ⟨w3.heap.size, 0, none⟩) (.inr (Nat.le_refl _)) _).setCell (p := ⟨w3.heap.size, 1, none⟩) (.inr (Nat.le_refl _)) _
      have bz : Blk ((W1.setCell ⟨w3.heap.size, 0, none⟩ (.slice LA lo.length lc)).setCell ⟨w3.heap.size, 1, none⟩ (.slice D1 (1 + n) c1)) (w3.heap.size) 32 #[.slice LA lo.length lc, .slice D1 (1 + n) c1] := by have := (hb1.set_ 0 (.slice LA lo.length lc)).set_ 1 (.slice D1 (1 + n) c1); simpa using this
      have hoU : ((W1.setCell ⟨w3.heap.size, 0, none⟩ (.slice LA lo.length lc)).setCell ⟨w3.heap.size, 1, none⟩ (.slice D1 (1 + n) c1)).ownsRow w3.heap.size 40 4 (.slice D1 (1 + n) c1) (1 + n) (igs (nopI :: l)) := own_set (own_set hown1 (p := ⟨w3.heap.size, 0, none⟩) hne _) (p := ⟨w3.heap.size, 1, none⟩) hne _
      have hrU : Reads ((W1.setCell ⟨w3.heap.size, 0, none⟩ (.slice LA lo.length lc)).setCell ⟨w3.heap.size, 1, none⟩ (.slice D1 (1 + n) c1)) (fun k => k < ((W1.setCell ⟨w3.heap.size, 0, none⟩ (.slice LA lo.length lc)).setCell ⟨w3.heap.size, 1, none⟩ (.slice D1 (1 + n) c1)).heap.size) 4 D1 (1 + n) (igs (nopI :: l)) := (Reads.of_own hoU).mono fun k hk _ => hk
      have HX := Lib.hid (HB2.out _ D1 c1 (HU2.out.trans hsU) hrU)
      unfold envV at HX
      have SU := Lib.hid (S3.out.trans hsU)
      have z0 := ((B0.out.step hsU id).cell 0).trans (show _ = some (Value.slice tA E.types.length tc) from rfl)
      have z1 := ((B0.out.step hsU id).cell 1).trans (show _ = some (Value.slice fA E.funcs.length fc) from rfl)
      have z2 := ((B0.out.step hsU id).cell 2).trans (show _ = some (Value.slice gA E.globals.length gc) from rfl)
      have z3 := ((B0.out.step hsU id).cell 3).trans (show _ = some (Value.bool E.table) from rfl)
      have z4 := ((B0.out.step hsU id).cell 4).trans (show _ = some (Value.bool E.mem) from rfl)
      have x0 := ((B1.out.step hsU id).cell 0).trans (show _ = some (Value.string (str ps)) from rfl)
      have x1 := ((B1.out.step hsU id).cell 1).trans (show _ = some (Value.string (str E.result)) from rfl)
      have q0 := (bz.cell 0).trans (show _ = some (Value.slice LA lo.length lc) from rfl)
      have q1 := (bz.cell 1).trans (show _ = some (Value.slice D1 (1 + n) c1) from rfl)
      clear hb1 hne hsU bz hoU hrU y0 y1 d0 d1 hown1 hS1 hgrow1 hat1
      generalize (W1.setCell ⟨w3.heap.size, 0, none⟩ (.slice LA lo.length lc)).setCell ⟨w3.heap.size, 1, none⟩ (.slice D1 (1 + n) c1) = U at *
      go_wp2_with fail
      refine HX.out.mono ?_
      rintro e w9 ⟨rfl, t9⟩
      have S9 := Lib.hid (SU.out.trans t9)
      clear t9
      rcases HNOP.out with ⟨v1, rfl, rfl⟩ | ⟨v1, rfl, rfl, v2⟩
      · go_wp2_with fail
        go_ret
        exact ⟨rfl, S9.out⟩
      · have v3 := IntWalk.i64_in (i1 + 1) (by omega)
        go_wp2_with fail
        go_ret
        exact ⟨rfl, S9.out⟩
end Go.Proofs.Ytpebdfgfikjkeaa
