/-
  Kwk: KvK, KvL.
-/
import Derived.Test.YtpebdfgfikjkeaaKwf
import Derived.Test.YtpebdfgfikjkeaaBk
import Derived.Test.YtpebdfgfikjkeaaKkc
import Derived.Laws.ResultCell
set_option linter.unusedVariables false
set_option linter.unusedSimpArgs false
/-! globals: Types, Taken. -/
namespace Go.Proofs.Ytpebdfgfikjkeaa
open Go.RowKit

section
variable {w : World} {a : Act} {o : Oper} {ops : Array Oper} {rest : List Oper} {Q : Exit → Act → World → Prop} {g : Nat} {cs old : Array Value}
theorem info_mod : (Try.prog.info? 53).map (·.size) = some 17 := by kernel_rfl
theorem ld_mod (hgd : o.guard = none) (x : Operand) (ho : o.op = .load 53 x) (g : Nat) (hx : a.eval x = .pointer (some ⟨g, 0, none⟩)) (cs : Array Value) (hB : Blk w g 53 cs) (h17 : cs.size = 17)
    (h : wpList Try.prog ops Q rest (a.put o.dst (.agg cs)) w) : wpList Try.prog ops Q (o :: rest) a w :=
  wpList_load_row hgd _ x ho g hx _ cs (0, 0) _ hB Try.underlying53 rfl (by rw [h17]; exact info_mod) h
theorem st_mod (hgd : o.guard = none) (x y : Operand) (ho : o.op = .store 53 x y) (hd : o.dst = none) (g : Nat) (hx : a.eval x = .pointer (some ⟨g, 0, none⟩)) (cs : Array Value) (hy : a.eval y = .agg cs) (hB : Blk w g 53 old)
    (hold : old.size = 17) (h17 : cs.size = 17) (h1 : cs.all (·.oneCell') = true) (h : wpList Try.prog ops Q rest a (w.setRow g cs)) : wpList Try.prog ops Q (o :: rest) a w :=
  wpList_store_rowTo hgd _ x y ho hd g cs hx hy _ old hB (by rw [h17]; exact info_mod) (by rw [hold, h17]) h1 h
theorem run_mod (hB : Blk w g 53 cs) (h17 : cs.size = 17) : (loadVar 53 ⟨g, 0, none⟩).run Try.prog w = .ok (.agg cs) w :=
  run_loadVar_row w g _ _ cs (0, 0) _ hB Try.underlying53 rfl (by rw [h17]; exact info_mod)
theorem wp_st_mod {K : Act → World → Prop} (x y : Operand) (ho : o.op = .store 53 x y) (hd : o.dst = none) (g : Nat) (hx : a.eval x = .pointer (some ⟨g, 0, none⟩)) (cs : Array Value) (hy : a.eval y = .agg cs) (hB : Blk w g 53 old)
    (hold : old.size = 17) (h17 : cs.size = 17) (h1 : cs.all (·.oneCell') = true) (h : K a (w.setRow g cs)) : o.wp Try.prog a w K Q :=
  wp_store_row _ x y ho g cs hx hy _ old hB (by rw [h17]; exact info_mod) (by rw [hold, h17]) h1 (by rw [hd]; exact h)
theorem res_mod2 {fn : Func} {p u : Tmp} (h : fn.results = #[.cell p 53, .tmp u]) {tmps : Array Value} (g : Nat) (hp : tmps.getD p undef = .pointer (some ⟨g, 0, none⟩)) {v : Value} (hv : tmps.getD u undef = v) (hB : Blk w g 53 cs) (h17 : cs.size = 17) :
    (results fn tmps).run Try.prog w = .ok (.tuple #[.agg cs, v]) w := by
  rw [results_cell_tmp h, hp, hv]
  simp only [asAddr, Sem.run_pure, Result.andThen_ok, run_mod hB h17]
theorem res_mod3 {fn : Func} {p u u' : Tmp} (h : fn.results = #[.cell p 53, .tmp u, .tmp u']) {tmps : Array Value} (g : Nat) (hp : tmps.getD p undef = .pointer (some ⟨g, 0, none⟩)) {v v' : Value} (hv : tmps.getD u undef = v) (hv' : tmps.getD u' undef = v') (hB : Blk w g 53 cs) (h17 : cs.size = 17) :
    (results fn tmps).run Try.prog w = .ok (.tuple #[.agg cs, v, v']) w := by
  have e : (results fn tmps).run Try.prog w = ((asAddr (tmps.getD p undef)).run Try.prog w).andThen fun a w₁ => ((loadVar 53 a).run Try.prog w₁).andThen fun v w₂ => .ok (.tuple #[v, tmps.getD u undef, tmps.getD u' undef]) w₂ := by
    simp only [results, h]
    simp [Sem.run_bind, Result.andThen]
  rw [e, hp, hv, hv']
  simp only [asAddr, Sem.run_pure, Result.andThen_ok, run_mod hB h17]
/-- In a region that draws: the whole module loaded. -/
theorem quiet_ld_mod {C : World → Prop} {K : Act → Prop} (x : Operand) (ho : o.op = .load 53 x) (g : Nat) (hx : a.eval x = .pointer (some ⟨g, 0, none⟩)) (cs : Array Value) (hC : ∀ w, C w → Blk w g 53 cs) (h17 : cs.size = 17)
    (hk : K (a.put o.dst (.agg cs))) : o.quiet Try.prog a C K :=
  ⟨_, fun w hw => by
    unfold Oper.quietAt execOp
    simp only [ho, hx, Instr.loadAt, Instr.sureAddr, Sem.run_bind, Sem.run_pure, Result.andThen_ok, run_mod (hC w hw) h17]
    exact ⟨rfl, rfl⟩, hk⟩
end

/-- A global of a module's own. -/
structure Gv where
  g : Nat
  gm : Bool
  x : Ig
def Gv.cells (v : Gv) : List Value := .int .u8 (v.g : Int) :: .bool v.gm :: v.x.cells
theorem Gv.six (v : Gv) : v.cells.length = 6 := rfl
def gls (l : List (Nat × Bool)) : List Value := l.flatMap glC
theorem gls_append (l m : List (Nat × Bool)) : gls (l ++ m) = gls l ++ gls m := by simp [gls]
theorem E_gl : ElemTy Try.prog 24 62 2 2 := elem_of Try.underlying24 (z := .agg #[.int .u8 0, .bool false]) (by kernel_rfl) rfl (by decide)
def tkL (l : List Im) (j : Nat) : List (Nat × Bool) := (imL l 3 j).map fun x => (x.g, x.gm)
theorem tkL_t (l : List Im) (j : Nat) (h : j < l.length) (hk : l[j].k = 3) : tkL l (j + 1) = tkL l j ++ [(l[j].g, l[j].gm)] := by
  rw [tkL, imL_t l 3 j h hk, List.map_append]
  rfl
theorem tkL_f (l : List Im) (j : Nat) (h : j < l.length) (hk : ¬ l[j].k = 3) : tkL l (j + 1) = tkL l j := by rw [tkL, imL_f l 3 j h hk, tkL]
theorem tkL_len (l : List Im) (j : Nat) : (tkL l j).length ≤ j := by
  rw [tkL, List.length_map]
  exact imL_len l 3 j
def owL (gs : List Gv) (j : Nat) : List (Nat × Bool) := (gs.take j).map fun v => (v.g, v.gm)
theorem owL_s (gs : List Gv) (j : Nat) (h : j < gs.length) : owL gs (j + 1) = owL gs j ++ [(gs[j].g, gs[j].gm)] := by
  rw [owL, List.take_succ_eq_append_getElem h, List.map_append]
  rfl
theorem owL_len (gs : List Gv) (j : Nat) : (owL gs j).length ≤ j := by
  rw [owL, List.length_map, List.length_take]
  omega
theorem gl_two (x : Nat × Bool) : gls [x] = glC x := by simp [gls]
theorem gl_one (g : Nat) (gm : Bool) : ∀ u ∈ #[Value.int .u8 (g : Int), .bool gm].toList, u.oneCell' = true := by
  intro u hu
  simp at hu
  rcases hu with rfl | rfl <;> rfl
/-- All globals: those taken, then a module's own. -/
def glA (l : List Im) (gs : List Gv) : List (Nat × Bool) := tkL l l.length ++ owL gs gs.length

set_option maxRecDepth 100000 in
set_option maxHeartbeats 3200000 in
theorem g_types (w : World) (C : Array Value) (I Ga : Option Addr) (n ic m gc : Nat) (l : List Im) (gs : List Gv) (S : Nat → Prop) (HN : Hid (n = l.length)) (hn : n ≤ 100) (HM : Hid (m = gs.length)) (hm : m ≤ 100) (h17 : C.size = 17)
    (hC1 : C[1]? = some (.slice I n ic)) (hC5 : C[5]? = some (.slice Ga m gc)) (hr : Reads w S 9 I n (ims l)) (hg : Reads w S 6 Ga m (gs.flatMap Gv.cells)) :
    Calls Try.prog 21 #[.agg C] w fun e w' => ∃ D c, e = .returned (.slice D (glA l gs).length c) ∧ w'.ownsRow w.heap.size 62 2 (.slice D (glA l gs).length c) (glA l gs).length (gls (glA l gs)) ∧ Step (fun _ => False) w w' := by
  have hs1 : Step (fun _ => False) w (w.alloc (.cells C 53)) := Step.refl.alloc _
  have HB := Lib.hid (Blk.new w 53 C)
  have HR := Lib.hid (hr.step hs1 (fun _ _ => id))
  have HG := Lib.hid (hg.step hs1 (fun _ _ => id))
  have HS := Lib.hid hs1
  have H1 := Lib.hid hC1
  have H5 := Lib.hid hC5
  have c1 := (HB.out.cell 1).trans hC1
  clear hr hg hC1 hC5 hs1 h17
  go_enter Try.func21, Try.ntmps21
  go_upto_region 2 with fail
  have hsz : w.heap.size < (w.alloc (.cells C 53)).heap.size := by simp
  have HNS : Hid (w.heap.size ≤ w.heap.size) := Nat.le_refl _
  generalize hNN : w.heap.size = N at *
  replace HNS : Hid (w.heap.size = N) := hNN
  clear hNN
  generalize w.alloc (.cells C 53) = V at *
  have HO0 : Hid (V.ownsRow V.heap.size 62 2 (.slice none 0 0) 0 (gls [])) := World.ownsRow_nil _ _ _ _
  go_wp2_with fail
  go_loopw [3, 11] (fun ov iv wr => ∃ (j c2 : Nat) (D2 : Option Addr), j ≤ n ∧ ov = .slice D2 (tkL l j).length c2 ∧ iv = .int .i64 (j : Int) ∧ Hid (Step (fun _ => False) V wr) ∧
    Hid (wr.ownsRow V.heap.size 62 2 (.slice D2 (tkL l j).length c2) (tkL l j).length (gls (tkL l j)))) (fun _ iv _ => n + 1 - (intOf iv).toNat)
  case atStart => exact ⟨0, 0, none, by omega, rfl, rfl, Step.refl, HO0⟩
  case round =>
    obtain ⟨j, c2, D2, hj, rfl, rfl, HSj, HOj⟩ := hrel
    clear HO0 c1
    have hfl := tkL_len l j
    have hsw := HSj.out.size
    by_cases hlt : j < n
    · have g1 : (j : Int) < (n : Int) := by omega
      have i0 : (0 : Int) ≤ (j : Int) := by omega
      have hw1 := IntWalk.i64_in ((j : Int) + 1) (by omega)
      have hjl : j < l.length := by rw [← HN.out]; exact hlt
      obtain ⟨bk, off, hI, _, hbl, hc⟩ := reads_row Im.cells 9 (by decide) Im.nine (HR.out.step HSj.out (fun _ _ => id)) (k := j) hjl
      subst hI
      have HT := Lib.hid (tkL_t l j hjl)
      have HX := Lib.hid (tkL_f l j hjl)
      obtain ⟨x, hxe⟩ : ∃ x, x = l[j] := ⟨_, rfl⟩
      rw [← hxe] at hc HT HX
      clear hxe
      obtain ⟨s0, s1, kk, t, mi, ma, bo, g, gm⟩ := x
      have e0 := hc 0 _ rfl
      have e1 := hc 1 _ rfl
      have e2 := hc 2 _ rfl
      have e3 := hc 3 _ rfl
      have e4 := hc 4 _ rfl
      have e5 := hc 5 _ rfl
      have e6 := hc 6 _ rfl
      have e7 := hc 7 _ rfl
      have e8 := hc 8 _ rfl
      simp only [Nat.add_zero] at e0
      simp only at e0 e1 e2 e3 e4 e5 e6 e7 e8 HT HX
      clear hc
      have HSx := Lib.hid (HSj.out.alloc (.cells #[.string (str s0), .string (str s1), .int .u8 (kk : Int), .int .u32 (t : Int), .int .u32 (mi : Int), .int .u32 (ma : Int), .bool bo, .int .u8 (g : Int), .bool gm] 64))
      have HOx := Lib.hid (HOj.out.alloc (.cells #[.string (str s0), .string (str s1), .int .u8 (kk : Int), .int .u32 (t : Int), .int .u32 (mi : Int), .int .u32 (ma : Int), .bool bo, .int .u8 (g : Int), .bool gm] 64))
      by_cases hz : kk = 3
      · have hkb : ((kk : Int) == 3) = true := by rw [hz]; rfl
        have HTz := Lib.hid (HT.out hz)
        have hsx := HSx.out.size
        clear HT HX hz HOj HSj
        have hone := gl_one g gm
        have hmx : (tkL l j).length + 1 ≤ maxLen := by unfold maxLen; omega
        have hrn := reads_new (wr.alloc (.cells #[.string (str s0), .string (str s1), .int .u8 (kk : Int), .int .u32 (t : Int), .int .u32 (mi : Int), .int .u32 (ma : Int), .bool bo, .int .u8 (g : Int), .bool gm] 64)) #[.int .u8 (g : Int), .bool gm] 62 2 1 rfl
        rw [show (wr.alloc (.cells #[.string (str s0), .string (str s1), .int .u8 (kk : Int), .int .u32 (t : Int), .int .u32 (mi : Int), .int .u32 (ma : Int), .bool bo, .int .u8 (g : Int), .bool gm] 64)).heap.size = wr.heap.size + 1 by simp] at hrn
        go_wp2_with (at_builtin; refine wpList_append_src _ rfl _ _ (by rfl) E_gl (by rfl) (HOx.out.alloc _) (by rfl) hrn hone hmx (by omega) (by simp at hsx ⊢; omega) ?_; intro D' c' w8 hown8 hgrow hat)
        have HS8 := Lib.hid (grow_step (HSx.out.alloc (.cells #[.int .u8 (g : Int), .bool gm] 62)) hgrow (HOx.out.alloc _) (Nat.le_refl _))
        have hE1 : gls (tkL l j) ++ #[Value.int .u8 (g : Int), .bool gm].toList = gls (tkL l (j + 1)) := by rw [HTz.out, gls_append, gl_two]; rfl
        have hE2 : (tkL l j).length + 1 = (tkL l (j + 1)).length := by rw [HTz.out]; simp
        rw [hE1, hE2] at hown8
        rw [hE2]
        go_roundw
        case rel => exact ⟨j + 1, c', D', by omega, rfl, by rw [Int.natCast_add]; rfl, HS8, hown8⟩
        case measure => simp [intOf]; omega
      · have hkb : ((kk : Int) == 3) = false := beq_eq_false_iff_ne.2 (by omega)
        have HXz := Lib.hid (HX.out hz)
        clear HT HX hz HOj HSj
        go_wp2_with fail
        go_roundw
        case rel => exact ⟨j + 1, c2, D2, by omega, by rw [HXz.out], by rw [Int.natCast_add]; rfl, HSx, by rw [HXz.out]; exact HOx⟩
        case measure => simp [intOf]; omega
    · obtain rfl : j = n := by omega
      have c5 := ((HB.out.step HSj.out id).cell 5).trans H5.out
      have HA : Hid (glA l gs = tkL l j ++ owL gs gs.length) := by rw [Hid, glA, HN.out]
      have hA0 := tkL_len l j
      generalize tkL l j = A0 at *
      have HO1 : Hid (wr.ownsRow V.heap.size 62 2 (.slice D2 A0.length c2) (A0 ++ owL gs 0).length (gls (A0 ++ owL gs 0))) := by
        have e : A0 ++ owL gs 0 = A0 := by simp [owL]
        rw [Hid, e]
        exact HOj.out
      go_wp2_with fail
      go_loopw [3, 27] (fun ov iv wq => ∃ (k c3 : Nat) (D3 : Option Addr), k ≤ m ∧ ov = .slice D3 (A0 ++ owL gs k).length c3 ∧ iv = .int .i64 (k : Int) ∧ Hid (Step (fun _ => False) V wq) ∧
        Hid (wq.ownsRow V.heap.size 62 2 (.slice D3 (A0 ++ owL gs k).length c3) (A0 ++ owL gs k).length (gls (A0 ++ owL gs k)))) (fun _ iv _ => m + 1 - (intOf iv).toNat)
      case atStart => exact ⟨0, c2, D2, by omega, by simp [owL], rfl, HSj, Lib.hid (by have := HO1.out; simpa [owL] using this)⟩
      case round =>
        obtain ⟨k, c3, D3, hk, rfl, rfl, HSk, HOk⟩ := hrel
        clear HO1 c5 HOj
        have hol := owL_len gs k
        have hsq := HSk.out.size
        by_cases hlk : k < m
        · have g1 : (k : Int) < (m : Int) := by omega
          have i0 : (0 : Int) ≤ (k : Int) := by omega
          have hw1 := IntWalk.i64_in ((k : Int) + 1) (by omega)
          have hkl : k < gs.length := by rw [← HM.out]; exact hlk
          obtain ⟨bk, off, hI, _, hbl, hc⟩ := reads_row Gv.cells 6 (by decide) Gv.six (HG.out.step HSk.out (fun _ _ => id)) (k := k) hkl
          subst hI
          have HT := Lib.hid (owL_s gs k hkl)
          obtain ⟨x, hxe⟩ : ∃ x, x = gs[k] := ⟨_, rfl⟩
          rw [← hxe] at hc HT
          clear hxe
          obtain ⟨g, gm, op, xa, xb, xm, xc, B1, L⟩ := x
          have e0 := hc 0 _ rfl
          have e1 := hc 1 _ rfl
          have e2 := hc 2 _ rfl
          have e3 := hc 3 _ rfl
          have e4 := hc 4 _ rfl
          have e5 := hc 5 _ rfl
          simp only [Nat.add_zero] at e0
          simp only at e0 e1 e2 e3 e4 e5 HT
          clear hc
          have HSx := Lib.hid (HSk.out.alloc (.cells #[.int .u8 (g : Int), .bool gm, .int .u8 (op : Int), .int .u64 (xa : Int), .int .u64 (xb : Int), .slice B1 xm xc] 83))
          have HOx := Lib.hid (HOk.out.alloc (.cells #[.int .u8 (g : Int), .bool gm, .int .u8 (op : Int), .int .u64 (xa : Int), .int .u64 (xb : Int), .slice B1 xm xc] 83))
          have hsx := HSx.out.size
          clear HOk HSk
          have hone := gl_one g gm
          have hlen : (A0 ++ owL gs k).length ≤ 200 := by rw [List.length_append]; omega
          generalize hAk : A0 ++ owL gs k = Ak at HOx hlen ⊢
          have HT2 : Hid (A0 ++ owL gs (k + 1) = Ak ++ [(g, gm)]) := by rw [Hid, HT.out, ← hAk, List.append_assoc]
          replace hAk := Lib.hid hAk
          have hmx : Ak.length + 1 ≤ maxLen := by unfold maxLen; omega
          have hrn := reads_new (wr.alloc (.cells #[.int .u8 (g : Int), .bool gm, .int .u8 (op : Int), .int .u64 (xa : Int), .int .u64 (xb : Int), .slice B1 xm xc] 83)) #[.int .u8 (g : Int), .bool gm] 62 2 1 rfl
          rw [show (wr.alloc (.cells #[.int .u8 (g : Int), .bool gm, .int .u8 (op : Int), .int .u64 (xa : Int), .int .u64 (xb : Int), .slice B1 xm xc] 83)).heap.size = wr.heap.size + 1 by simp] at hrn
          go_wp2_with (at_builtin; refine wpList_append_src _ rfl _ _ (by rfl) E_gl (by rfl) (HOx.out.alloc _) (by rfl) hrn hone hmx (by omega) (by simp at hsx ⊢; omega) ?_; intro D' c' w8 hown8 hgrow hat)
          have HS8 := Lib.hid (grow_step (HSx.out.alloc (.cells #[.int .u8 (g : Int), .bool gm] 62)) hgrow (HOx.out.alloc _) (Nat.le_refl _))
          have hE1 : gls Ak ++ #[Value.int .u8 (g : Int), .bool gm].toList = gls (A0 ++ owL gs (k + 1)) := by rw [HT2.out, gls_append, gl_two]; rfl
          have hE2 : Ak.length + 1 = (A0 ++ owL gs (k + 1)).length := by rw [HT2.out]; simp
          rw [hE1, hE2] at hown8
          rw [hE2]
          go_roundw
          case rel => exact ⟨k + 1, c', D', by omega, rfl, by rw [Int.natCast_add]; rfl, HS8, hown8⟩
          case measure => simp [intOf]; omega
        · obtain rfl : k = m := by omega
          have HMM := HM.out
          go_wp2_with fail
          go_ret
          refine ⟨D3, c3, ?_, ?_, HS.out.trans HSk.out⟩
          · rw [HA.out, ← HM.out]
            rfl
          · rw [HA.out, ← HM.out]
            refine own_base HOk.out (fun q hq => ?_)
            have h1 := own_ge HOk.out q hq
            have h2 := HNS.out
            omega
def gtAll (l : List Im) : List (Nat × Bool) := tkL l l.length
theorem gls_length (l : List (Nat × Bool)) : (gls l).length = l.length * 2 := flat_length glC 2 (fun _ => rfl) l
theorem gls_take (l : List (Nat × Bool)) (k : Nat) : gls (l.take k) = (gls l).take (k * 2) := by
  induction l generalizing k with
  | nil => simp [gls]
  | cons f l ih =>
    cases k with
    | zero => simp [gls]
    | succ k =>
      rw [List.take_succ_cons]
      show glC f ++ gls (l.take k) = (glC f ++ gls l).take ((k + 1) * 2)
      rw [ih, show (k + 1) * 2 = (glC f).length + k * 2 by show _ = 2 + k * 2; omega, List.take_length_add_append]
theorem glA_take (l : List Im) (gs : List Gv) : (glA l gs).take (tkL l l.length).length = tkL l l.length := by rw [glA, List.take_left]
theorem glA_len (l : List Im) (gs : List Gv) : (glA l gs).length = (tkL l l.length).length + gs.length := by rw [glA, List.length_append, owL, List.length_map, List.take_length]
set_option maxRecDepth 100000 in
set_option maxHeartbeats 3200000 in
theorem g_taken (w : World) (C : Array Value) (I Ga : Option Addr) (n ic m gc : Nat) (l : List Im) (gs : List Gv) (S : Nat → Prop) (HN : Hid (n = l.length)) (hn : n ≤ 100) (HM : Hid (m = gs.length)) (hm : m ≤ 100) (h17 : C.size = 17)
    (hC1 : C[1]? = some (.slice I n ic)) (hC5 : C[5]? = some (.slice Ga m gc)) (hr : Reads w S 9 I n (ims l)) (hg : Reads w S 6 Ga m (gs.flatMap Gv.cells)) :
    Calls Try.prog 18 #[.agg C] w fun e w' => ∃ D c, e = .returned (.slice D (tkL l l.length).length c) ∧ w'.ownsRow w.heap.size 62 2 (.slice D (tkL l l.length).length c) (tkL l l.length).length (gls (tkL l l.length)) ∧ Step (fun _ => False) w w' := by
  have hs1 : Step (fun _ => False) w (w.alloc (.cells C 53)) := Step.refl.alloc _
  have HB := Lib.hid (Blk.new w 53 C)
  have HS := Lib.hid hs1
  have H5 := Lib.hid hC5
  have H17 := Lib.hid h17
  have HT := Lib.hid (g_types (w.alloc (.cells C 53)) C I Ga n ic m gc l gs S HN hn HM hm h17 hC1 hC5 (hr.step hs1 (fun _ _ => id)) (hg.step hs1 (fun _ _ => id)))
  have hlen := glA_len l gs
  rw [← HM.out] at hlen
  have htl := tkL_len l l.length
  rw [← HN.out] at htl
  have HTK := Lib.hid (glA_take l gs)
  rw [← HN.out] at *
  generalize tkL l n = tk at *
  generalize glA l gs = ga at *
  have HLEN := Lib.hid hlen
  clear hr hg hC1 hC5 hs1 h17
  go_enter Try.func18, Try.ntmps18
  go_wp2_with (refine ld_mod rfl _ rfl _ rfl C HB.out H17.out ?_)
  refine HT.out.mono ?_
  rintro e w1 ⟨D, c, rfl, ho, t1⟩
  have c5 := ((HB.out.step t1 id).cell 5).trans H5.out
  have hcap := own_cap ho
  have hw := IntWalk.i64_in ((ga.length : Int) - (m : Int)) (by omega)
  have hsl := slice_hn E_gl D ga.length c .i64 ((ga.length : Int) - (m : Int)) tk.length (by omega) (by omega)
  have ho2 := own_take ho (k := tk.length) (by omega)
  rw [show (gls ga).take (tk.length * 2) = gls tk by
    rw [← gls_take, HTK.out]] at ho2
  have HO := Lib.hid ho2
  have T1 := Lib.hid (HS.out.trans t1)
  clear ho ho2 t1
  go_wp2_with fail
  go_ret
  exact ⟨D, c, rfl, own_base HO.out (fun q hq => by have := own_ge HO.out q hq; simp at this; omega), T1.out⟩
end Go.Proofs.Ytpebdfgfikjkeaa
/-! dylink.Right. -/
namespace Go.Proofs.Ytpebdfgfikjkeaa
open Go.RowKit

/-- The first that is wrong of the names that are needed. -/
def ndE : List (List UInt8) → List (List UInt8) → Int
  | [], _ => 0
  | s :: l, pre => if utfE s = 0 then (if s ∈ pre then 27 else ndE l (pre ++ [s])) else utfE s
def orD (d1 d2 d3 d4 : Int) : Int := bits .or .u32 (bits .or .u32 (bits .or .u32 d1 d2) d3) d4
def dyE (has : Bool) (d1 d2 d3 d4 : Nat) (nd : List (List UInt8)) : Int :=
  if has = true then (if 20 < d2 then 25 else if 20 < d4 then 25 else if 200 < nd.length then 29 else ndE nd []) else if orD d1 d2 d3 d4 = 0 then (if 0 < nd.length then 15 else 0) else 15
theorem E_st : ElemTy Try.prog 49 9 1 16 := elem_of Try.underlying49 (z := .string ByteArray.empty) (by kernel_rfl) rfl (by decide)
def stC (s : List UInt8) : List Value := [.string (str s)]
set_option maxRecDepth 100000 in
set_option maxHeartbeats 1600000 in
theorem d_right_no (w : World) (A : Option Addr) (n c : Nat) (d1 d2 d3 d4 : Nat) (r : Int) (hr : r = if orD d1 d2 d3 d4 = 0 then (if 0 < n then 15 else 0) else 15) :
    Calls Try.prog 41 #[.agg #[.bool false, .int .u32 (d1 : Int), .int .u32 (d2 : Int), .int .u32 (d3 : Int), .int .u32 (d4 : Int), .slice A n c]] w fun e w' => e = .returned (.int .i64 r) ∧ Step (fun _ => False) w w' := by
  unfold orD at hr
  obtain ⟨q, hq⟩ : ∃ q, q = bits .or .u32 (bits .or .u32 (bits .or .u32 (d1 : Int) (d2 : Int)) (d3 : Int)) (d4 : Int) := ⟨_, rfl⟩
  rw [← hq] at hr
  by_cases h : q = 0
  · rw [if_pos h] at hr
    have e1 : (bits .or .u32 (bits .or .u32 (bits .or .u32 (d1 : Int) (d2 : Int)) (d3 : Int)) (d4 : Int) != 0) = false := by rw [← hq, h]; rfl
    clear hq h
    by_cases hn : 0 < n
    · have g : (0 : Int) < (n : Int) := by omega
      rw [if_pos hn] at hr
      subst hr
      go_enter Try.func41, Try.ntmps41
      go_wp2_with fail
      go_ret
      exact ⟨rfl, Step.refl.alloc _⟩
    · have g : ¬ (0 : Int) < (n : Int) := by omega
      rw [if_neg hn] at hr
      subst hr
      obtain rfl : n = 0 := by omega
      clear g hn
      go_enter Try.func41, Try.ntmps41
      go_wp2_with fail
      go_ret
      exact ⟨rfl, Step.refl.alloc _⟩
  · rw [if_neg h] at hr
    subst hr
    have e1 : (bits .or .u32 (bits .or .u32 (bits .or .u32 (d1 : Int) (d2 : Int)) (d3 : Int)) (d4 : Int) != 0) = true := by rw [← hq]; simpa using h
    clear hq h
    go_enter Try.func41, Try.ntmps41
    go_wp2_with fail
    go_ret
    exact ⟨rfl, Step.refl.alloc _⟩
set_option maxRecDepth 100000 in
set_option maxHeartbeats 3200000 in
theorem d_right_yes (w : World) (A : Option Addr) (n c : Nat) (d1 d2 d3 d4 : Nat) (nd : List (List UInt8)) (S : Nat → Prop) (HN : Hid (n = nd.length)) (hcap : n ≤ c) (hrd : Reads w S 1 A n (nd.flatMap stC)) (r : Int)
    (hr : r = if 20 < d2 then 25 else if 20 < d4 then 25 else if 200 < n then 29 else ndE nd []) :
    Calls Try.prog 41 #[.agg #[.bool true, .int .u32 (d1 : Int), .int .u32 (d2 : Int), .int .u32 (d3 : Int), .int .u32 (d4 : Int), .slice A n c]] w fun e w' => e = .returned (.int .i64 r) ∧ Step (fun _ => False) w w' := by
  by_cases h1 : 20 < d2
  · have g : (20 : Int) < (d2 : Int) := by omega
    rw [if_pos h1] at hr
    subst hr
    go_enter Try.func41, Try.ntmps41
    go_wp2_with fail
    go_ret
    exact ⟨rfl, Step.refl.alloc _⟩
  have g1 : ¬ (20 : Int) < (d2 : Int) := by omega
  rw [if_neg h1] at hr
  by_cases h2 : 20 < d4
  · have g : (20 : Int) < (d4 : Int) := by omega
    rw [if_pos h2] at hr
    subst hr
    go_enter Try.func41, Try.ntmps41
    go_wp2_with fail
    go_ret
    exact ⟨rfl, Step.refl.alloc _⟩
  have g2 : ¬ (20 : Int) < (d4 : Int) := by omega
  rw [if_neg h2] at hr
  by_cases h3 : 200 < n
  · have g : (200 : Int) < (n : Int) := by omega
    rw [if_pos h3] at hr
    subst hr
    go_enter Try.func41, Try.ntmps41
    go_wp2_with fail
    go_ret
    exact ⟨rfl, Step.refl.alloc _⟩
  have g3 : ¬ (200 : Int) < (n : Int) := by omega
  rw [if_neg h3] at hr
  have hs1 : Step (fun _ => False) w (w.alloc (.cells #[.bool true, .int .u32 (d1 : Int), .int .u32 (d2 : Int), .int .u32 (d3 : Int), .int .u32 (d4 : Int), .slice A n c] 51)) := Step.refl.alloc _
  have B0 := Lib.hid (Blk.new w 51 #[.bool true, .int .u32 (d1 : Int), .int .u32 (d2 : Int), .int .u32 (d3 : Int), .int .u32 (d4 : Int), .slice A n c])
  have HR := Lib.hid hrd
  have S1 := Lib.hid hs1
  have HG := Lib.hid hr
  clear h1 h2 h3 hrd hr hs1
  go_enter Try.func41, Try.ntmps41
  go_wp2_with fail
  generalize w.heap.size = N at *
  generalize w.alloc (.cells #[.bool true, .int .u32 (d1 : Int), .int .u32 (d2 : Int), .int .u32 (d3 : Int), .int .u32 (d4 : Int), .slice A n c] 51) = V at *
  go_loopw [44] (fun iv wr => ∃ (i : Nat), i ≤ n ∧ iv = .int .i64 (i : Int) ∧ Hid (ndE nd [] = ndE (nd.drop i) (nd.take i)) ∧ Hid (Step (fun _ => False) V wr)) (fun iv _ => n + 1 - (intOf iv).toNat)
  case atStart => exact ⟨0, by omega, rfl, rfl, Step.refl⟩
  case round =>
    obtain ⟨i, hi, rfl, HI, HS⟩ := hrel
    by_cases hlt : i < n
    · have q1 : (i : Int) < (n : Int) := by omega
      have i0 : (0 : Int) ≤ (i : Int) := by omega
      have hw2 := IntWalk.i64_in ((i : Int) + 1) (by omega)
      have hjl : i < nd.length := by rw [← HN.out]; exact hlt
      obtain ⟨bk, off, hA, _, hbl, hc⟩ := reads_row stC 1 (by decide) (fun _ => rfl) (HR.out.step (S1.out.trans HS.out) (fun _ _ => id)) (k := i) hjl
      have HA := Lib.hid hA
      subst hA
      replace hc := hc 0 _ rfl
      rw [Nat.mul_one, Nat.add_zero] at hc
      have HD : Hid (nd.drop i = nd[i] :: nd.drop (i + 1)) := List.drop_eq_getElem_cons _
      have HTK : Hid (nd.take (i + 1) = nd.take i ++ [nd[i]]) := List.take_succ_eq_append_getElem hjl
      generalize nd[i] = s at hc HD HTK
      have HU : Hid (ndE (s :: nd.drop (i + 1)) (nd.take i) = if utfE s = 0 then (if s ∈ nd.take i then 27 else ndE (nd.drop (i + 1)) (nd.take i ++ [s])) else utfE s) := rfl
      have HC := Lib.hid (u_check wr s)
      generalize utfE s = y at HU HC
      by_cases hy : y = 0
      case neg =>
        have e1 : (y != 0) = true := by simpa using hy
        have HI2 : Hid (r = y) := by unfold Hid; rw [HG.out, HI.out, HD.out, HU.out, if_neg hy]
        clear hy
        go_wp2_with fail
        refine HC.out.mono ?_
        rintro e w1 ⟨rfl, t1⟩
        go_wp2_with fail
        go_ret
        exact ⟨by rw [HI2.out]; rfl, (S1.out.trans HS.out).trans t1⟩
      subst hy
      have HU2 : Hid (ndE nd [] = if s ∈ nd.take i then 27 else ndE (nd.drop (i + 1)) (nd.take (i + 1))) := by unfold Hid; rw [HI.out, HD.out, HU.out, if_pos rfl, HTK.out]
      clear HU HD HTK
      go_wp2_with fail
      refine HC.out.mono ?_
      rintro e w1 ⟨rfl, t1⟩
      have y5 := (B0.out.step (HS.out.trans t1) id).cell 5
      replace y5 := y5.trans (show _ = some (Value.slice (some ⟨bk, off, none⟩) n c) from rfl)
      have HS1 := Lib.hid (HS.out.trans t1)
      have hsl := slice_hn E_st (some ⟨bk, off, none⟩) n c .i64 (i : Int) i rfl (by omega)
      clear t1 HC
      go_wp2_with fail
      go_loopw [59] (fun jv wr => ∃ (j : Nat), j ≤ i ∧ jv = .int .i64 (j : Int) ∧ Hid (∀ t ∈ (nd.take i).take j, ¬ s = t) ∧ Hid (w1 = wr)) (fun jv _ => i + 1 - (intOf jv).toNat)
      case atStart => exact ⟨0, by omega, rfl, (fun t ht => by rw [List.take_zero] at ht; cases ht), rfl⟩
      case round =>
        obtain ⟨j, hj, rfl, HJ, HW⟩ := hrel
        have hw := HW.out
        subst hw
        by_cases hlj : j < i
        · have p1 : (j : Int) < (i : Int) := by omega
          have p0 : (0 : Int) ≤ (j : Int) := by omega
          have hw3 := IntWalk.i64_in ((j : Int) + 1) (by omega)
          have hji : j < nd.length := by omega
          obtain ⟨bk2, off2, hA2, _, hbl2, hc2⟩ := reads_row stC 1 (by decide) (fun _ => rfl) (HR.out.step (S1.out.trans HS1.out) (fun _ _ => id)) (k := j) hji
          injection hA2 with hA2
          injection hA2 with hb hoff
          subst hb hoff
          replace hc2 := hc2 0 _ rfl
          rw [Nat.mul_one, Nat.add_zero] at hc2
          have HTK2 : Hid ((nd.take i).take (j + 1) = (nd.take i).take j ++ [nd[j]]) := by
            have hlen : j < (nd.take i).length := by rw [List.length_take]; omega
            rw [Hid, List.take_succ_eq_append_getElem hlen, List.getElem_take]
          have HMEM : Hid (nd[j] ∈ nd.take i) := by
            have hlen : j < (nd.take i).length := by rw [List.length_take]; omega
            have := List.getElem_mem hlen
            rwa [List.getElem_take] at this
          generalize nd[j] = t at hc2 HTK2 HMEM
          by_cases hst : s = t
          · have HI2 : Hid (r = 27) := by unfold Hid; rw [HG.out, HU2.out, if_pos (by rw [hst]; exact HMEM.out)]
            subst hst
            go_wp2_with fail
            go_ret
            exact ⟨by rw [HI2.out]; rfl, S1.out.trans HS1.out⟩
          · have e2 := str_beq_ne hst
            have HJ2 : Hid (∀ u ∈ (nd.take i).take (j + 1), ¬ s = u) := fun u hu => by
              rw [HTK2.out] at hu
              rcases List.mem_append.1 hu with hu | hu
              · exact HJ.out u hu
              · rw [List.mem_singleton.1 hu]
                exact hst
            replace hst := Lib.hid hst
            go_wp2_with fail
            go_roundw
            case rel => exact ⟨j + 1, by omega, by rw [Int.natCast_add]; rfl, HJ2, by first | rfl | trivial⟩
            case measure => simp [intOf]; omega
        · obtain rfl : j = i := by omega
          have HI2 : Hid (ndE nd [] = ndE (nd.drop (j + 1)) (nd.take (j + 1))) := by
            unfold Hid
            rw [HU2.out, if_neg]
            intro hm
            refine HJ.out s ?_ rfl
            rw [List.take_of_length_le (by rw [List.length_take]; omega)]
            exact hm
          go_wp2_with fail
          go_roundw
          case rel => exact ⟨j + 1, by omega, by rw [Int.natCast_add]; rfl, HI2, HS1⟩
          case measure => simp [intOf]; omega
    · obtain rfl : i = n := by omega
      have HI2 : Hid (r = 0) := by unfold Hid; rw [HG.out, HI.out, HN.out, List.drop_length]; rfl
      go_wp2_with fail
      go_ret
      exact ⟨by rw [HI2.out]; rfl, S1.out.trans HS.out⟩
theorem d_right (w : World) (has : Bool) (A : Option Addr) (n c : Nat) (d1 d2 d3 d4 : Nat) (nd : List (List UInt8)) (S : Nat → Prop) (HN : Hid (n = nd.length)) (hcap : n ≤ c) (hrd : Reads w S 1 A n (nd.flatMap stC)) :
    Calls Try.prog 41 #[.agg #[.bool has, .int .u32 (d1 : Int), .int .u32 (d2 : Int), .int .u32 (d3 : Int), .int .u32 (d4 : Int), .slice A n c]] w fun e w' => e = .returned (.int .i64 (dyE has d1 d2 d3 d4 nd)) ∧ Step (fun _ => False) w w' := by
  cases has with
  | true => exact d_right_yes w A n c d1 d2 d3 d4 nd S HN hcap hrd _ (by rw [HN.out]; rfl)
  | false => exact d_right_no w A n c d1 d2 d3 d4 _ (by rw [HN.out]; rfl)
end Go.Proofs.Ytpebdfgfikjkeaa
