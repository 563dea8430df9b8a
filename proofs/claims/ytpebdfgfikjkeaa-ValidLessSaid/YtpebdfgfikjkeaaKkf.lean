/-
  Kkf: KkF, KkG, KkH.
-/
import Derived.Test.YtpebdfgfikjkeaaKkc
import Derived.Test.YtpebdfgfikjkeaaOpM
import Derived.Test.YtpebdfgfikjkeaaInC
set_option linter.unusedVariables false
set_option linter.unusedSimpArgs false
/-! check.checker.call, choose. -/
namespace Go.Proofs.Ytpebdfgfikjkeaa
open Go.RowKit

def callW (op : Nat) (t : List UInt8 × List UInt8) (s : Ss) : Ss × Int := if op = 17 then (if (wantE 127 s).2 = 0 then givesS t.1 t.2 (wantE 127 s).1 else wantE 127 s) else givesS t.1 t.2 s
def typeS (E : Ke) (op x : Nat) (s : Ss) : Ss × Int := if E.types.length ≤ x then (s, 7) else callW op (E.types.getD x ([], [])) s
def callS (E : Ke) (op x : Nat) (s : Ss) : Ss × Int := if op = 16 then (if E.funcs.length ≤ x then (s, 20) else typeS E op (E.funcs.getD x 0) s) else if E.table = true then typeS E op x s else (s, 20)
def chooseS (op : Nat) (s : Ss) : Ss × Int :=
  if op = 26 then ((popS s).1, (popS s).2.2) else
  if (wantE 127 s).2 = 0 then
    (if (popS (wantE 127 s).1).2.2 = 0 then
      (if (wantS (popS (wantE 127 s).1).2.1 (popS (wantE 127 s).1).1).2.2 = 0 then
        (pushS [UInt8.ofNat (wantS (popS (wantE 127 s).1).2.1 (popS (wantE 127 s).1).1).2.1.toNat] (wantS (popS (wantE 127 s).1).2.1 (popS (wantE 127 s).1).1).1, 0)
      else ((wantS (popS (wantE 127 s).1).2.1 (popS (wantE 127 s).1).1).1, (wantS (popS (wantE 127 s).1).2.1 (popS (wantE 127 s).1).1).2.2))
    else ((popS (wantE 127 s).1).1, (popS (wantE 127 s).1).2.2))
  else wantE 127 s
theorem Ke.ok.type {E : Ke} (h : E.ok) (x : Nat) : (E.types.getD x ([], [])).1.length ≤ 100 ∧ (E.types.getD x ([], [])).2.length ≤ 100 := by
  rw [List.getD]
  cases hg : E.types[x]? with
  | none => exact ⟨Nat.zero_le _, Nat.zero_le _⟩
  | some t => exact h.types t (List.mem_of_getElem? hg)
section
variable {n : Nat} {s : Ss}
theorem Ss.ok.type (h : s.ok n) {E : Ke} (hE : E.ok) (op x : Nat) : (typeS E op x s).1.ok (n + 1) := by
  unfold typeS
  split
  · exact h.less (by omega)
  · have ht := hE.type x
    unfold callW
    split
    · split
      · exact (h.wantE 127).gives _ _ ht.2
      · exact (h.wantE 127).less (by omega)
    · exact h.gives _ _ ht.2
theorem Ss.ok.call (h : s.ok n) {E : Ke} (hE : E.ok) (op x : Nat) : (callS E op x s).1.ok (n + 1) := by
  unfold callS
  split
  · split
    · exact h.less (by omega)
    · exact h.type hE _ _
  · split
    · exact h.type hE _ _
    · exact h.less (by omega)
theorem Ss.ok.choose (h : s.ok n) (op : Nat) : (chooseS op s).1.ok (n + 1) := by
  unfold chooseS
  split
  · exact h.pop.less (by omega)
  · split
    · split
      · split
        · exact ((h.wantE 127).pop.want _).push _ (by simp)
        · exact ((h.wantE 127).pop.want _).less (by omega)
      · exact (h.wantE 127).pop.less (by omega)
    · exact (h.wantE 127).less (by omega)
end

section
variable {w : World} {a : Ka} {E : Ke} {I : Nat → Prop} {s : Ss} {n : Nat}

set_option maxRecDepth 100000 in
set_option maxHeartbeats 1600000 in
theorem k_call_16no (op x b m c : Nat) (A : Option Addr) (h : Kk w a E I s) (hb : s.ok n) (hn : n ≤ 1000) (o16 : ((op : Int) == 16) = true) (hE : E.ok) (hx : x < 18446744073709551616) (hle : E.funcs.length ≤ x) :
    Calls Try.prog 48 #[.pointer (some ⟨a.k, 0, none⟩), .agg #[.int .u8 (op : Int), .int .u64 (x : Int), .int .u64 (b : Int), .slice A m c]] w (KRet w a E I (s, 20)) := by
  have s0 : Step (fun _ => False) w (w.alloc (.cells #[.int .u8 (op : Int), .int .u64 (x : Int), .int .u64 (b : Int), .slice A m c] 40)) := Step.refl.alloc _
  have b0 := Blk.new w 40 #[.int .u8 (op : Int), .int .u64 (x : Int), .int .u64 (b : Int), .slice A m c]
  have h0 := h.quiet s0
  have m0 := (b0.cell 0).trans (show _ = some (Value.int .u8 (op : Int)) from rfl)
  have m1 := (b0.cell 1).trans (show _ = some (Value.int .u64 (x : Int)) from rfl)
  have hNI : ¬ I w.heap.size := fun hk => by have := Ctl.in_ (l := s.l) (fs := s.fs) h.ctl _ hk; omega
  have N3 : w.heap.size < (w.alloc (.cells #[.int .u8 (op : Int), .int .u64 (x : Int), .int .u64 (b : Int), .slice A m c] 40)).heap.size := by simp
  have c6 := h0.c6
  have nkI := h0.kf.self
  have H0 := Lib.hid h0
  have S0 := Lib.hid s0
  have B0 := Lib.hid b0
  clear b0 h0 h s0
  have c0 := (H0.out.kf.blk.cell 0).trans (show _ = some (Value.slice a.tA E.types.length a.tc) from rfl)
  have c1 := (H0.out.kf.blk.cell 1).trans (show _ = some (Value.slice a.fA E.funcs.length a.fc) from rfl)
  have c3 := (H0.out.kf.blk.cell 3).trans (show _ = some (Value.bool E.table) from rfl)
  have hwt := IntWalk.u64_in (E.types.length : Int) (by have := hE.nt; omega)
  have hwf := IntWalk.u64_in (E.funcs.length : Int) (by have := hE.nf; omega)
  have HNE : Hid (∃ N, N = w.heap.size) := ⟨_, rfl⟩
  obtain ⟨N, hN⟩ := HNE.out
  obtain ⟨W, hW⟩ : ∃ W, W = w.alloc (.cells #[.int .u8 (op : Int), .int .u64 (x : Int), .int .u64 (b : Int), .slice A m c] 40) := ⟨_, rfl⟩
  rw [← hW, ← hN] at N3
  rw [← hW] at m0 m1 c6 H0 S0 B0 c0 c1 c3
  rw [← hN] at m0 m1 hNI B0
  replace hN := Lib.hid hN
  replace hW := Lib.hid hW
  clear HNE
  have g0 : (E.funcs.length : Int) ≤ (x : Int) := by omega
  have d1 := cls_cell (F := fun _ => False) m1 id
  have d2 := cls_cell (F := fun _ => False) c1 id
  go_enter Try.func48, Try.ntmps48
  go_wp2_with fail
  rw [← hW.out, ← hN.out]
  go_wp2_with fail
  go_quiet (fail)
  go_wp2_with fail
  go_ret
  exact ⟨rfl, KUp.after S0.out (KUp.quiet (KUp.same H0.out) (Step.refl.drewN _))⟩

set_option maxRecDepth 100000 in
set_option maxHeartbeats 1600000 in
theorem k_call_16 (op x b m c : Nat) (A : Option Addr) (h : Kk w a E I s) (hb : s.ok n) (hn : n ≤ 1000) (o16 : ((op : Int) == 16) = true) (hE : E.ok) (hx : x < 18446744073709551616) (hxl : x < E.funcs.length) :
    Calls Try.prog 48 #[.pointer (some ⟨a.k, 0, none⟩), .agg #[.int .u8 (op : Int), .int .u64 (x : Int), .int .u64 (b : Int), .slice A m c]] w (KRet w a E I (typeS E op (E.funcs.getD x 0) s)) := by
  have s0 : Step (fun _ => False) w (w.alloc (.cells #[.int .u8 (op : Int), .int .u64 (x : Int), .int .u64 (b : Int), .slice A m c] 40)) := Step.refl.alloc _
  have b0 := Blk.new w 40 #[.int .u8 (op : Int), .int .u64 (x : Int), .int .u64 (b : Int), .slice A m c]
  have h0 := h.quiet s0
  have m0 := (b0.cell 0).trans (show _ = some (Value.int .u8 (op : Int)) from rfl)
  have m1 := (b0.cell 1).trans (show _ = some (Value.int .u64 (x : Int)) from rfl)
  have hNI : ¬ I w.heap.size := fun hk => by have := Ctl.in_ (l := s.l) (fs := s.fs) h.ctl _ hk; omega
  have N3 : w.heap.size < (w.alloc (.cells #[.int .u8 (op : Int), .int .u64 (x : Int), .int .u64 (b : Int), .slice A m c] 40)).heap.size := by simp
  have c6 := h0.c6
  have nkI := h0.kf.self
  have H0 := Lib.hid h0
  have S0 := Lib.hid s0
  have B0 := Lib.hid b0
  clear b0 h0 h s0
  have c0 := (H0.out.kf.blk.cell 0).trans (show _ = some (Value.slice a.tA E.types.length a.tc) from rfl)
  have c1 := (H0.out.kf.blk.cell 1).trans (show _ = some (Value.slice a.fA E.funcs.length a.fc) from rfl)
  have c3 := (H0.out.kf.blk.cell 3).trans (show _ = some (Value.bool E.table) from rfl)
  have hwt := IntWalk.u64_in (E.types.length : Int) (by have := hE.nt; omega)
  have hwf := IntWalk.u64_in (E.funcs.length : Int) (by have := hE.nf; omega)
  have HNE : Hid (∃ N, N = w.heap.size) := ⟨_, rfl⟩
  obtain ⟨N, hN⟩ := HNE.out
  obtain ⟨W, hW⟩ : ∃ W, W = w.alloc (.cells #[.int .u8 (op : Int), .int .u64 (x : Int), .int .u64 (b : Int), .slice A m c] 40) := ⟨_, rfl⟩
  rw [← hW, ← hN] at N3
  rw [← hW] at m0 m1 c6 H0 S0 B0 c0 c1 c3
  rw [← hN] at m0 m1 hNI B0
  replace hN := Lib.hid hN
  replace hW := Lib.hid hW
  clear HNE
  have g0 : ¬ (E.funcs.length : Int) ≤ (x : Int) := by omega
  have g00 : (x : Int) < (E.funcs.length : Int) := by omega
  have hr := H0.out.kf.funcs
  have hr2 : Reads W a.R 1 a.fA E.funcs.length (E.funcs.flatMap fun y : Nat => [Value.int .u32 (y : Int)]) := by
    have e : ∀ l : List Nat, l.flatMap (fun y : Nat => [Value.int .u32 (y : Int)]) = l.map fun y : Nat => Value.int .u32 (y : Int) := fun l => by induction l with | nil => rfl | cons y l ih => rw [List.flatMap_cons, ih]; rfl
    rw [e]
    exact hr
  obtain ⟨bf, of, hA, _, hbf, hcf⟩ := reads_row (fun y : Nat => [Value.int .u32 (y : Int)]) 1 (by decide) (fun _ => rfl) hr2 hxl
  replace hcf := hcf 0 _ rfl
  rw [Nat.mul_one, Nat.add_zero] at hcf
  rw [hA] at c1
  have hgd : E.funcs.getD x 0 = E.funcs[x] := by rw [List.getD, List.getElem?_eq_getElem hxl]; rfl
  have hy := hE.funcs E.funcs[x] (List.getElem_mem hxl)
  have HGG : Hid (typeS E op (E.funcs.getD x 0) s = typeS E op E.funcs[x] s) := by unfold Hid; rw [hgd]
  generalize E.funcs[x] = y at hcf hy HGG
  have hwy := IntWalk.u64_in (y : Int) (by omega)
  clear hr hr2 hA hgd
  have d1 := cls_cell (F := fun _ => False) m1 id
  have d2 := cls_cell (F := fun _ => False) c1 id
  have d3 := cls_cell (F := fun _ => False) hcf id
  go_enter Try.func48, Try.ntmps48
  go_wp2_with fail
  rw [← hW.out, ← hN.out]
  go_wp2_with fail
  go_quiet (fail)
  go_wp2_with fail
  have hs1 : Step (fun _ => False) W (W.drewN nq) := Step.refl.drewN _
  replace H0 := Lib.hid (H0.out.quiet hs1)
  replace S0 := Lib.hid (S0.out.trans hs1)
  have N3' : N < (W.drewN nq).heap.size := N3
  have m0' : (W.drewN nq).cell? ⟨N, 0, none⟩ = _ := m0
  have m1' : (W.drewN nq).cell? ⟨N, 1, none⟩ = _ := m1
  have c1' : (W.drewN nq).cell? ⟨a.k, 1, none⟩ = _ := c1
  have hcf' : (W.drewN nq).cell? ⟨bf, of + x, none⟩ = _ := hcf
  have d1 := cls_cell (F := fun _ => False) m1' id
  have d2 := cls_cell (F := fun _ => False) c1' id
  have d3 := cls_cell (F := fun _ => False) hcf' id
  have c0 := (H0.out.kf.blk.cell 0).trans (show _ = some (Value.slice a.tA E.types.length a.tc) from rfl)
  clear hs1 m0 N3 m1 c1 hcf d1 d2 d3
  have N3 := N3'
  have m0 := m0'
  clear N3' m0'
  generalize W.drewN nq = W1 at *
  clear nq
  have d1 := cls_cell (F := fun _ => False) m1' id
  have d2 := cls_cell (F := fun _ => False) c1' id
  have d3 := cls_cell (F := fun _ => False) hcf' id
  go_quiet (fail)
  have sv : Step (fun _ => False) W1 (W1.drewN nq) := by first | exact Step.refl | exact Step.refl.drewN _ | exact (Step.refl.drewN _).drewN _
  have HV := Lib.hid (H0.out.quiet sv)
  have SV := Lib.hid (S0.out.trans sv)
  have NV : N < (W1.drewN nq).heap.size := Nat.lt_of_lt_of_le N3 sv.size
  replace m0 := (sv.cell (p := ⟨N, 0, none⟩) N3 id).trans m0
  replace c0 := HV.out.kf.blk.cell 0
  replace c0 := c0.trans (show _ = some (Value.slice a.tA E.types.length a.tc) from rfl)
  replace c6 := HV.out.c6
  clear sv H0 S0
  generalize W1.drewN nq = V at *
  by_cases hlt : E.types.length ≤ y
  · have g1 : (E.types.length : Int) ≤ (y : Int) := by omega
    have HG : Hid (typeS E op y s = (s, 7)) := if_pos hlt
    clear hlt
    go_wp2_with fail
    go_ret
    rw [KRet, HGG.out, HG.out]
    exact ⟨rfl, KUp.after SV.out (KUp.same HV.out)⟩
  · have g1 : ¬ (E.types.length : Int) ≤ (y : Int) := by omega
    have g2 : (y : Int) < (E.types.length : Int) := by omega
    have hyl : y < E.types.length := by omega
    have hHT := HV.out.kf.types
    obtain ⟨bk, off, hA, hRb, hbl, hc⟩ := reads_row ftC 2 (by decide) (fun _ => rfl) hHT hyl
    have HG : Hid (typeS E op y s = callW op E.types[y] s) := by
      unfold Hid typeS
      rw [if_neg hlt, List.getD, List.getElem?_eq_getElem hyl]
      rfl
    have ht := hE.types E.types[y] (List.getElem_mem hyl)
    rw [hA] at c0
    generalize E.types[y] = t at hc HG ht
    obtain ⟨p, q⟩ := t
    have t0 := hc 0 _ rfl
    have t1 := hc 1 _ rfl
    rw [Nat.add_zero] at t0
    have ht1 := ht.1
    have ht2 := ht.2
    simp only at t0 t1 ht1 ht2
    clear hlt hHT hA hc ht
    have nzb : bk ≠ V.heap.size := Nat.ne_of_lt hbl
    have nzN : N ≠ V.heap.size := Nat.ne_of_lt NV
    have sT : Step (fun _ => False) V (V.alloc (.cells #[.string (str p), .string (str q)] 28)) := Step.refl.alloc _
    have HT := Lib.hid (HV.out.quiet sT)
    have m0' := (sT.cell (p := ⟨N, 0, none⟩) NV id).trans m0
    have ST := Lib.hid (SV.out.trans sT)
    have HIN : Hid (In V I) := fun k hk => Ctl.in_ (l := s.l) (fs := s.fs) HV.out.ctl k hk
    clear sT
    by_cases h17 : op = 17
    · exfalso
      have := beq_iff_eq.1 o16
      omega
    · have o17 := int_ne h17
      have HG2 : Hid (callW op (p, q) s = givesS p q s) := if_neg h17
      have HZ := Lib.hid (k_gives p q HT.out hb hn ht1 ht2)
      clear h17
      go_wp2_with fail
      refine HZ.out.mono ?_
      rintro e w3 ⟨rfl, u3⟩
      go_wp2_with fail
      go_ret
      rw [KRet, HGG.out, HG.out, HG2.out]
      exact ⟨rfl, KUp.after ST.out u3⟩

set_option maxRecDepth 100000 in
set_option maxHeartbeats 1600000 in
theorem k_call_17no (op x b m c : Nat) (A : Option Addr) (h : Kk w a E I s) (hb : s.ok n) (hn : n ≤ 1000) (o16 : ((op : Int) == 16) = false) (hE : E.ok) (hx : x < 18446744073709551616) (htb : E.table = false) :
    Calls Try.prog 48 #[.pointer (some ⟨a.k, 0, none⟩), .agg #[.int .u8 (op : Int), .int .u64 (x : Int), .int .u64 (b : Int), .slice A m c]] w (KRet w a E I (s, 20)) := by
  have s0 : Step (fun _ => False) w (w.alloc (.cells #[.int .u8 (op : Int), .int .u64 (x : Int), .int .u64 (b : Int), .slice A m c] 40)) := Step.refl.alloc _
  have b0 := Blk.new w 40 #[.int .u8 (op : Int), .int .u64 (x : Int), .int .u64 (b : Int), .slice A m c]
  have h0 := h.quiet s0
  have m0 := (b0.cell 0).trans (show _ = some (Value.int .u8 (op : Int)) from rfl)
  have m1 := (b0.cell 1).trans (show _ = some (Value.int .u64 (x : Int)) from rfl)
  have hNI : ¬ I w.heap.size := fun hk => by have := Ctl.in_ (l := s.l) (fs := s.fs) h.ctl _ hk; omega
  have N3 : w.heap.size < (w.alloc (.cells #[.int .u8 (op : Int), .int .u64 (x : Int), .int .u64 (b : Int), .slice A m c] 40)).heap.size := by simp
  have c6 := h0.c6
  have nkI := h0.kf.self
  have H0 := Lib.hid h0
  have S0 := Lib.hid s0
  have B0 := Lib.hid b0
  clear b0 h0 h s0
  have c0 := (H0.out.kf.blk.cell 0).trans (show _ = some (Value.slice a.tA E.types.length a.tc) from rfl)
  have c1 := (H0.out.kf.blk.cell 1).trans (show _ = some (Value.slice a.fA E.funcs.length a.fc) from rfl)
  have c3 := (H0.out.kf.blk.cell 3).trans (show _ = some (Value.bool E.table) from rfl)
  have hwt := IntWalk.u64_in (E.types.length : Int) (by have := hE.nt; omega)
  have hwf := IntWalk.u64_in (E.funcs.length : Int) (by have := hE.nf; omega)
  have HNE : Hid (∃ N, N = w.heap.size) := ⟨_, rfl⟩
  obtain ⟨N, hN⟩ := HNE.out
  obtain ⟨W, hW⟩ : ∃ W, W = w.alloc (.cells #[.int .u8 (op : Int), .int .u64 (x : Int), .int .u64 (b : Int), .slice A m c] 40) := ⟨_, rfl⟩
  rw [← hW, ← hN] at N3
  rw [← hW] at m0 m1 c6 H0 S0 B0 c0 c1 c3
  rw [← hN] at m0 m1 hNI B0
  replace hN := Lib.hid hN
  replace hW := Lib.hid hW
  clear HNE
  rw [htb] at c3
  go_enter Try.func48, Try.ntmps48
  go_upto_region 6 with fail
  rw [← hW.out, ← hN.out]
  go_wp2_with fail
  go_ret
  exact ⟨rfl, KUp.after S0.out (KUp.same H0.out)⟩

set_option maxRecDepth 100000 in
set_option maxHeartbeats 1600000 in
theorem k_call_17 (op x b m c : Nat) (A : Option Addr) (h : Kk w a E I s) (hb : s.ok n) (hn : n ≤ 1000) (o16 : ((op : Int) == 16) = false) (hE : E.ok) (hx : x < 18446744073709551616) (htb : E.table = true) :
    Calls Try.prog 48 #[.pointer (some ⟨a.k, 0, none⟩), .agg #[.int .u8 (op : Int), .int .u64 (x : Int), .int .u64 (b : Int), .slice A m c]] w (KRet w a E I (typeS E op x s)) := by
  have s0 : Step (fun _ => False) w (w.alloc (.cells #[.int .u8 (op : Int), .int .u64 (x : Int), .int .u64 (b : Int), .slice A m c] 40)) := Step.refl.alloc _
  have b0 := Blk.new w 40 #[.int .u8 (op : Int), .int .u64 (x : Int), .int .u64 (b : Int), .slice A m c]
  have h0 := h.quiet s0
  have m0 := (b0.cell 0).trans (show _ = some (Value.int .u8 (op : Int)) from rfl)
  have m1 := (b0.cell 1).trans (show _ = some (Value.int .u64 (x : Int)) from rfl)
  have hNI : ¬ I w.heap.size := fun hk => by have := Ctl.in_ (l := s.l) (fs := s.fs) h.ctl _ hk; omega
  have N3 : w.heap.size < (w.alloc (.cells #[.int .u8 (op : Int), .int .u64 (x : Int), .int .u64 (b : Int), .slice A m c] 40)).heap.size := by simp
  have c6 := h0.c6
  have nkI := h0.kf.self
  have H0 := Lib.hid h0
  have S0 := Lib.hid s0
  have B0 := Lib.hid b0
  clear b0 h0 h s0
  have c0 := (H0.out.kf.blk.cell 0).trans (show _ = some (Value.slice a.tA E.types.length a.tc) from rfl)
  have c1 := (H0.out.kf.blk.cell 1).trans (show _ = some (Value.slice a.fA E.funcs.length a.fc) from rfl)
  have c3 := (H0.out.kf.blk.cell 3).trans (show _ = some (Value.bool E.table) from rfl)
  have hwt := IntWalk.u64_in (E.types.length : Int) (by have := hE.nt; omega)
  have hwf := IntWalk.u64_in (E.funcs.length : Int) (by have := hE.nf; omega)
  have HNE : Hid (∃ N, N = w.heap.size) := ⟨_, rfl⟩
  obtain ⟨N, hN⟩ := HNE.out
  obtain ⟨W, hW⟩ : ∃ W, W = w.alloc (.cells #[.int .u8 (op : Int), .int .u64 (x : Int), .int .u64 (b : Int), .slice A m c] 40) := ⟨_, rfl⟩
  rw [← hW, ← hN] at N3
  rw [← hW] at m0 m1 c6 H0 S0 B0 c0 c1 c3
  rw [← hN] at m0 m1 hNI B0
  replace hN := Lib.hid hN
  replace hW := Lib.hid hW
  clear HNE
  rw [htb] at c3
  have HGG : Hid (typeS E op x s = typeS E op x s) := rfl
  have c0' := c0
  replace c0' := Lib.hid c0'
  clear c0
  go_enter Try.func48, Try.ntmps48
  go_upto_region 6 with fail
  rw [← hW.out, ← hN.out]
  go_upto_region 8 with fail
  have sv : Step (fun _ => False) W (W) := by first | exact Step.refl | exact Step.refl.drewN _ | exact (Step.refl.drewN _).drewN _
  have HV := Lib.hid (H0.out.quiet sv)
  have SV := Lib.hid (S0.out.trans sv)
  have NV : N < (W).heap.size := Nat.lt_of_lt_of_le N3 sv.size
  replace m0 := (sv.cell (p := ⟨N, 0, none⟩) N3 id).trans m0
  have c0 := HV.out.kf.blk.cell 0
  replace c0 := c0.trans (show _ = some (Value.slice a.tA E.types.length a.tc) from rfl)
  replace c6 := HV.out.c6
  clear sv H0 S0 B0 m1 c1 c3
  generalize W = V at *
  by_cases hlt : E.types.length ≤ x
  · have g1 : (E.types.length : Int) ≤ (x : Int) := by omega
    have HG : Hid (typeS E op x s = (s, 7)) := if_pos hlt
    clear hlt
    go_wp2_with fail
    go_ret
    rw [KRet, HG.out]
    exact ⟨rfl, KUp.after SV.out (KUp.same HV.out)⟩
  · have g1 : ¬ (E.types.length : Int) ≤ (x : Int) := by omega
    have g2 : (x : Int) < (E.types.length : Int) := by omega
    have hyl : x < E.types.length := by omega
    have hHT := HV.out.kf.types
    obtain ⟨bk, off, hA, hRb, hbl, hc⟩ := reads_row ftC 2 (by decide) (fun _ => rfl) hHT hyl
    have HG : Hid (typeS E op x s = callW op E.types[x] s) := by
      unfold Hid typeS
      rw [if_neg hlt, List.getD, List.getElem?_eq_getElem hyl]
      rfl
    have ht := hE.types E.types[x] (List.getElem_mem hyl)
    rw [hA] at c0
    generalize E.types[x] = t at hc HG ht
    obtain ⟨p, q⟩ := t
    have t0 := hc 0 _ rfl
    have t1 := hc 1 _ rfl
    rw [Nat.add_zero] at t0
    have ht1 := ht.1
    have ht2 := ht.2
    simp only at t0 t1 ht1 ht2
    clear hlt hHT hA hc ht
    have nzb : bk ≠ V.heap.size := Nat.ne_of_lt hbl
    have nzN : N ≠ V.heap.size := Nat.ne_of_lt NV
    have sT : Step (fun _ => False) V (V.alloc (.cells #[.string (str p), .string (str q)] 28)) := Step.refl.alloc _
    have HT := Lib.hid (HV.out.quiet sT)
    have m0' := (sT.cell (p := ⟨N, 0, none⟩) NV id).trans m0
    have ST := Lib.hid (SV.out.trans sT)
    have HIN : Hid (In V I) := fun k hk => Ctl.in_ (l := s.l) (fs := s.fs) HV.out.ctl k hk
    clear sT
    by_cases h17 : op = 17
    · have o17 := int_eq h17
      have hg2 : callW op (p, q) s = if (wantE 127 s).2 = 0 then givesS p q (wantE 127 s).1 else wantE 127 s := if_pos h17
      have HW := Lib.hid (k_want 127 HT.out hb hn)
      have hb1 := hb.wantE 127
      generalize wantE 127 s = r at hg2 HW hb1
      obtain ⟨s1, e1⟩ := r
      simp only at hg2 hb1
      have HG2 := Lib.hid hg2
      have HB1 := Lib.hid hb1
      clear hg2 hb1 h17
      by_cases hq : e1 = 0
      · subst hq
        go_wp2_with fail
        refine HW.out.mono ?_
        rintro e w2 ⟨rfl, I1, h1, p1⟩
        have b1 := (Blk.new V 28 #[.string (str p), .string (str q)]).step p1.1 (fun hk => by have := HIN.out _ hk; omega)
        have k0 := (b1.cell 0).trans (show _ = some (Value.string (str p)) from rfl)
        have k1 := (b1.cell 1).trans (show _ = some (Value.string (str q)) from rfl)
        have HZ := Lib.hid (k_gives p q h1 HB1.out hn ht1 ht2)
        have P1 := Lib.hid p1
        clear h1 p1 b1
        go_wp2_with fail
        refine HZ.out.mono ?_
        rintro e w3 ⟨rfl, u3⟩
        go_wp2_with fail
        go_ret
        rw [KRet, HG.out, HG2.out, if_pos trivial]
        exact ⟨rfl, KUp.after ST.out (KUp.trans P1.out u3)⟩
      · have q1 : (e1 != 0) = true := by simpa using hq
        have HE := Lib.hid hq
        clear hq
        go_wp2_with fail
        refine HW.out.mono ?_
        rintro e w2 ⟨rfl, u2⟩
        go_wp2_with fail
        go_ret
        rw [KRet, HG.out, HG2.out, if_neg HE.out]
        exact ⟨rfl, KUp.after ST.out u2⟩
    · have o17 := int_ne h17
      have HG2 : Hid (callW op (p, q) s = givesS p q s) := if_neg h17
      have HZ := Lib.hid (k_gives p q HT.out hb hn ht1 ht2)
      clear h17
      go_wp2_with fail
      refine HZ.out.mono ?_
      rintro e w3 ⟨rfl, u3⟩
      go_wp2_with fail
      go_ret
      rw [KRet, HG.out, HG2.out]
      exact ⟨rfl, KUp.after ST.out u3⟩
end
end Go.Proofs.Ytpebdfgfikjkeaa
/-! check.checker.choose, variable. -/
namespace Go.Proofs.Ytpebdfgfikjkeaa
open Go.RowKit

theorem popF_rng (l : List UInt8) (h : Int) (d : Bool) : 0 ≤ (popF l h d).2.1 ∧ (popF l h d).2.1 < 256 := by
  unfold popF
  split
  · exact ⟨by simp, by simp⟩
  · have := (l.getD (l.length - 1) 0).toNat_lt
    exact ⟨by simp, by simp only; omega⟩
theorem pop_rng (s : Ss) : 0 ≤ (popS s).2.1 ∧ (popS s).2.1 < 256 := by
  unfold popS
  split
  · exact ⟨by simp, by simp⟩
  · exact popF_rng _ _ _
theorem want_rng (s : Ss) (t : Int) (h0 : 0 ≤ t) (h1 : t < 256) : 0 ≤ (wantS t s).2.1 ∧ (wantS t s).2.1 < 256 := by
  unfold wantS
  split
  · exact ⟨by simp, by simp⟩
  · rename_i f _
    have hp := popF_rng s.l f.height f.dead
    unfold wantF
    simp only
    split
    · exact ⟨by simp, by simp⟩
    · split
      · exact ⟨h0, h1⟩
      · split
        · exact hp
        · exact ⟨by simp, by simp⟩

def varL (op : Nat) (t : List UInt8) (s : Ss) : Ss × Int := if op = 32 then givesS [] t s else if op = 33 then givesS t [] s else givesS t t s
def varG (op : Nat) (g : Nat × Bool) (s : Ss) : Ss × Int := if op = 35 then givesS [] [UInt8.ofNat g.1] s else if g.2 = true then givesS [UInt8.ofNat g.1] [] s else (s, 24)
def variableS (E : Ke) (op x : Nat) (s : Ss) : Ss × Int :=
  if op ≤ 34 then (if E.locals.length ≤ x then (s, 23) else varL op [E.locals.getD x 0] s)
  else if E.globals.length ≤ x then (s, 24) else varG op (E.globals.getD x (0, false)) s
section
variable {n : Nat} {s : Ss}
theorem Ss.ok.variable_ (h : s.ok n) (E : Ke) (op x : Nat) : (variableS E op x s).1.ok (n + 1) := by
  unfold variableS
  split
  · split
    · exact h.less (by omega)
    · unfold varL
      split
      · exact h.gives _ _ (by simp)
      · split
        · exact h.gives _ _ (by simp)
        · exact h.gives _ _ (by simp)
  · split
    · exact h.less (by omega)
    · unfold varG
      split
      · exact h.gives _ _ (by simp)
      · split
        · exact h.gives _ _ (by simp)
        · exact h.less (by omega)
end

section
variable {w : World} {a : Ka} {E : Ke} {I : Nat → Prop} {s : Ss} {n : Nat}

set_option maxRecDepth 100000 in
set_option maxHeartbeats 1600000 in
theorem k_choose_drop (op x b m c : Nat) (A : Option Addr) (h : Kk w a E I s) (hb : s.ok n) (hn : n ≤ 1000) (o26 : ((op : Int) == 26) = true) :
    Calls Try.prog 49 #[.pointer (some ⟨a.k, 0, none⟩), .agg #[.int .u8 (op : Int), .int .u64 (x : Int), .int .u64 (b : Int), .slice A m c]] w (KRet w a E I ((popS s).1, (popS s).2.2)) := by
  have s0 : Step (fun _ => False) w (w.alloc (.cells #[.int .u8 (op : Int), .int .u64 (x : Int), .int .u64 (b : Int), .slice A m c] 40)) := Step.refl.alloc _
  have b0 := Blk.new w 40 #[.int .u8 (op : Int), .int .u64 (x : Int), .int .u64 (b : Int), .slice A m c]
  have h0 := h.quiet s0
  have m0 := (b0.cell 0).trans (show _ = some (Value.int .u8 (op : Int)) from rfl)
  have m1 := (b0.cell 1).trans (show _ = some (Value.int .u64 (x : Int)) from rfl)
  have hNI : ¬ I w.heap.size := fun hk => by have := Ctl.in_ (l := s.l) (fs := s.fs) h.ctl _ hk; omega
  have N3 : w.heap.size < (w.alloc (.cells #[.int .u8 (op : Int), .int .u64 (x : Int), .int .u64 (b : Int), .slice A m c] 40)).heap.size := by simp
  have c6 := h0.c6
  have nkI := h0.kf.self
  have H0 := Lib.hid h0
  have S0 := Lib.hid s0
  have B0 := Lib.hid b0
  clear b0 h0 h s0
  have HP := Lib.hid (c_pop H0.out.ctl hb hn)
  generalize popS s = r at HP ⊢
  obtain ⟨s1, b1, e1⟩ := r
  simp only at HP ⊢
  go_enter Try.func49, Try.ntmps49
  go_wp2_with fail
  refine HP.out.mono ?_
  rintro e w2 ⟨rfl, u2⟩
  go_wp2_with fail
  go_ret
  exact ⟨rfl, KUp.after S0.out (H0.out.up u2)⟩

set_option maxRecDepth 100000 in
set_option maxHeartbeats 1600000 in
theorem k_choose_sel (op x b m c : Nat) (A : Option Addr) (h : Kk w a E I s) (hb : s.ok n) (hn : n ≤ 1000) (o26 : ((op : Int) == 26) = false) (h26 : ¬ op = 26) :
    Calls Try.prog 49 #[.pointer (some ⟨a.k, 0, none⟩), .agg #[.int .u8 (op : Int), .int .u64 (x : Int), .int .u64 (b : Int), .slice A m c]] w (KRet w a E I (chooseS op s)) := by
  have s0 : Step (fun _ => False) w (w.alloc (.cells #[.int .u8 (op : Int), .int .u64 (x : Int), .int .u64 (b : Int), .slice A m c] 40)) := Step.refl.alloc _
  have b0 := Blk.new w 40 #[.int .u8 (op : Int), .int .u64 (x : Int), .int .u64 (b : Int), .slice A m c]
  have h0 := h.quiet s0
  have m0 := (b0.cell 0).trans (show _ = some (Value.int .u8 (op : Int)) from rfl)
  have m1 := (b0.cell 1).trans (show _ = some (Value.int .u64 (x : Int)) from rfl)
  have hNI : ¬ I w.heap.size := fun hk => by have := Ctl.in_ (l := s.l) (fs := s.fs) h.ctl _ hk; omega
  have N3 : w.heap.size < (w.alloc (.cells #[.int .u8 (op : Int), .int .u64 (x : Int), .int .u64 (b : Int), .slice A m c] 40)).heap.size := by simp
  have c6 := h0.c6
  have nkI := h0.kf.self
  have H0 := Lib.hid h0
  have S0 := Lib.hid s0
  have B0 := Lib.hid b0
  clear b0 h0 h s0
  have hg : chooseS op s = _ := if_neg h26
  have HW := Lib.hid (k_want 127 H0.out hb hn)
  have hb1 := hb.wantE 127
  generalize wantE 127 s = r at hg HW hb1
  obtain ⟨s1, e1⟩ := r
  simp only at hg hb1
  have HP := Lib.hid (fun I1 W (h1 : Kk W a E I1 s1) => c_pop h1.ctl hb1 hn)
  have hb2 := hb1.pop
  have hrp := pop_rng s1
  generalize popS s1 = r at hg HP hb2 hrp
  obtain ⟨s2, x2, e2⟩ := r
  simp only at hg HP hb2 hrp
  have HV := Lib.hid (fun I1 W (h1 : Kk W a E I1 s2) => c_want x2 h1.ctl hb2 hn)
  have hb3 := hb2.want x2
  have hrw := want_rng s2 x2 hrp.1 hrp.2
  generalize wantS x2 s2 = r at hg HV hb3 hrw
  obtain ⟨s3, x3, e3⟩ := r
  simp only at hg HV hb3 hrw
  have hxx : ((UInt8.ofNat x3.toNat).toNat : Int) = x3 := by simp; omega
  have HZ := Lib.hid (fun I1 W (h1 : Kk W a E I1 s3) => c_push1 (UInt8.ofNat x3.toNat) h1.ctl hb3 hn)
  rw [hxx] at HZ
  have HG := Lib.hid hg
  clear hg hrp hrw hxx h26
  by_cases q1 : e1 = 0
  case neg =>
    have g1 : (e1 != 0) = true := by simpa using q1
    have HE := Lib.hid q1
    clear q1
    go_enter Try.func49, Try.ntmps49
    go_wp2_with fail
    refine HW.out.mono ?_
    rintro e w2 ⟨rfl, u2⟩
    go_wp2_with fail
    go_ret
    rw [KRet, HG.out, if_neg HE.out]
    exact ⟨rfl, KUp.after S0.out u2⟩
  subst q1
  by_cases q2 : e2 = 0
  case neg =>
    have g2 : (e2 != 0) = true := by simpa using q2
    have HE := Lib.hid q2
    clear q2
    go_enter Try.func49, Try.ntmps49
    go_wp2_with fail
    refine HW.out.mono ?_
    rintro e w2 ⟨rfl, I1, h1, p1⟩
    replace c6 := h1.c6
    have H1 := Lib.hid h1
    clear h1
    go_wp2_with fail
    refine (HP.out _ _ H1.out).mono ?_
    rintro e w3 ⟨rfl, u3⟩
    go_wp2_with fail
    go_ret
    rw [KRet, HG.out, if_pos trivial, if_neg HE.out]
    exact ⟨rfl, KUp.after S0.out (KUp.trans p1 (H1.out.up u3))⟩
  subst q2
  by_cases q3 : e3 = 0
  case neg =>
    have g3 : (e3 != 0) = true := by simpa using q3
    have HE := Lib.hid q3
    clear q3
    go_enter Try.func49, Try.ntmps49
    go_wp2_with fail
    refine HW.out.mono ?_
    rintro e w2 ⟨rfl, I1, h1, p1⟩
    replace c6 := h1.c6
    have H1 := Lib.hid h1
    clear h1
    go_wp2_with fail
    refine (HP.out _ _ H1.out).mono ?_
    rintro e w3 ⟨rfl, u3⟩
    obtain ⟨I2, h2, p2⟩ := H1.out.up u3
    replace c6 := h2.c6
    have H2 := Lib.hid h2
    clear h2
    go_wp2_with fail
    refine (HV.out _ _ H2.out).mono ?_
    rintro e w4 ⟨rfl, u4⟩
    go_wp2_with fail
    go_ret
    rw [KRet, HG.out, if_pos trivial, if_pos trivial, if_neg HE.out]
    exact ⟨rfl, KUp.after S0.out (KUp.trans (p1.trans p2) (H2.out.up u4))⟩
  subst q3
  go_enter Try.func49, Try.ntmps49
  go_wp2_with fail
  refine HW.out.mono ?_
  rintro e w2 ⟨rfl, I1, h1, p1⟩
  replace c6 := h1.c6
  have H1 := Lib.hid h1
  clear h1
  go_wp2_with fail
  refine (HP.out _ _ H1.out).mono ?_
  rintro e w3 ⟨rfl, u3⟩
  obtain ⟨I2, h2, p2⟩ := H1.out.up u3
  replace c6 := h2.c6
  have H2 := Lib.hid h2
  clear h2
  go_wp2_with fail
  refine (HV.out _ _ H2.out).mono ?_
  rintro e w4 ⟨rfl, u4⟩
  obtain ⟨I3, h3, p3⟩ := H2.out.up u4
  replace c6 := h3.c6
  have cg := h3.cg
  have H3 := Lib.hid h3
  clear h3
  go_wp2_with fail
  refine (HZ.out _ _ H3.out).mono ?_
  rintro e w5 ⟨rfl, u5⟩
  go_wp2_with fail
  go_ret
  rw [KRet, HG.out, if_pos trivial, if_pos trivial, if_pos trivial]
  exact ⟨rfl, KUp.after S0.out (KUp.trans ((p1.trans p2).trans p3) (H3.out.up u5))⟩

theorem k_choose (op x b m c : Nat) (A : Option Addr) (h : Kk w a E I s) (hb : s.ok n) (hn : n ≤ 1000) :
    Calls Try.prog 49 #[.pointer (some ⟨a.k, 0, none⟩), .agg #[.int .u8 (op : Int), .int .u64 (x : Int), .int .u64 (b : Int), .slice A m c]] w (KRet w a E I (chooseS op s)) := by
  by_cases h26 : op = 26
  · have e : chooseS op s = ((popS s).1, (popS s).2.2) := if_pos h26
    rw [e]
    exact k_choose_drop op x b m c A h hb hn (int_eq h26)
  · exact k_choose_sel op x b m c A h hb hn (int_ne h26) h26

set_option maxRecDepth 100000 in
set_option maxHeartbeats 1600000 in
theorem k_variable_lno (op x b m c : Nat) (A : Option Addr) (h : Kk w a E I s) (hb : s.ok n) (hn : n ≤ 1000) (hop : (op : Int) ≤ 34) (hE : E.ok) (hx : x < 18446744073709551616) (hle : E.locals.length ≤ x) :
    Calls Try.prog 50 #[.pointer (some ⟨a.k, 0, none⟩), .agg #[.int .u8 (op : Int), .int .u64 (x : Int), .int .u64 (b : Int), .slice A m c]] w (KRet w a E I (s, 23)) := by
  have s0 : Step (fun _ => False) w (w.alloc (.cells #[.int .u8 (op : Int), .int .u64 (x : Int), .int .u64 (b : Int), .slice A m c] 40)) := Step.refl.alloc _
  have b0 := Blk.new w 40 #[.int .u8 (op : Int), .int .u64 (x : Int), .int .u64 (b : Int), .slice A m c]
  have h0 := h.quiet s0
  have m0 := (b0.cell 0).trans (show _ = some (Value.int .u8 (op : Int)) from rfl)
  have m1 := (b0.cell 1).trans (show _ = some (Value.int .u64 (x : Int)) from rfl)
  have hNI : ¬ I w.heap.size := fun hk => by have := Ctl.in_ (l := s.l) (fs := s.fs) h.ctl _ hk; omega
  have N3 : w.heap.size < (w.alloc (.cells #[.int .u8 (op : Int), .int .u64 (x : Int), .int .u64 (b : Int), .slice A m c] 40)).heap.size := by simp
  have c6 := h0.c6
  have nkI := h0.kf.self
  have H0 := Lib.hid h0
  have S0 := Lib.hid s0
  have B0 := Lib.hid b0
  clear b0 h0 h s0
  have c1 := (H0.out.kf.blk.cell 2).trans (show _ = some (Value.slice a.gA E.globals.length a.gc) from rfl)
  have c5 := (H0.out.kf.blk.cell 5).trans (show _ = some (Value.string (str E.locals)) from rfl)
  have hwl := IntWalk.u64_in (E.locals.length : Int) (by have := hE.locals; omega)
  have hwg := IntWalk.u64_in (E.globals.length : Int) (by have := hE.ng; omega)
  have hsz := str_size E.locals
  obtain ⟨N, hN⟩ : ∃ N, N = w.heap.size := ⟨_, rfl⟩
  obtain ⟨W, hW⟩ : ∃ W, W = w.alloc (.cells #[.int .u8 (op : Int), .int .u64 (x : Int), .int .u64 (b : Int), .slice A m c] 40) := ⟨_, rfl⟩
  rw [← hW, ← hN] at N3
  rw [← hW] at m0 m1 c6 H0 S0 B0 c1 c5
  rw [← hN] at m0 m1 hNI B0
  replace hN := Lib.hid hN
  replace hW := Lib.hid hW
  have g0 : (E.locals.length : Int) ≤ (x : Int) := by omega
  have d0 := cls_cell (F := fun _ => False) m0 id
  have d1 := cls_cell (F := fun _ => False) m1 id
  have d2 := cls_cell (F := fun _ => False) c1 id
  have d5 := cls_cell (F := fun _ => False) c5 id
  go_enter Try.func50, Try.ntmps50
  go_upto_region 1 with fail
  rw [← hW.out, ← hN.out]
  go_wp2_with fail
  go_quiet (fail)
  go_wp2_with fail
  go_ret
  exact ⟨rfl, KUp.after S0.out (KUp.quiet (KUp.same H0.out) (Step.refl.drewN _))⟩

set_option maxRecDepth 100000 in
set_option maxHeartbeats 1600000 in
theorem k_variable_l (op x b m c : Nat) (A : Option Addr) (h : Kk w a E I s) (hb : s.ok n) (hn : n ≤ 1000) (hop : (op : Int) ≤ 34) (hE : E.ok) (hx : x < 18446744073709551616) (hxl : x < E.locals.length) :
    Calls Try.prog 50 #[.pointer (some ⟨a.k, 0, none⟩), .agg #[.int .u8 (op : Int), .int .u64 (x : Int), .int .u64 (b : Int), .slice A m c]] w (KRet w a E I (varL op [E.locals.getD x 0] s)) := by
  have s0 : Step (fun _ => False) w (w.alloc (.cells #[.int .u8 (op : Int), .int .u64 (x : Int), .int .u64 (b : Int), .slice A m c] 40)) := Step.refl.alloc _
  have b0 := Blk.new w 40 #[.int .u8 (op : Int), .int .u64 (x : Int), .int .u64 (b : Int), .slice A m c]
  have h0 := h.quiet s0
  have m0 := (b0.cell 0).trans (show _ = some (Value.int .u8 (op : Int)) from rfl)
  have m1 := (b0.cell 1).trans (show _ = some (Value.int .u64 (x : Int)) from rfl)
  have hNI : ¬ I w.heap.size := fun hk => by have := Ctl.in_ (l := s.l) (fs := s.fs) h.ctl _ hk; omega
  have N3 : w.heap.size < (w.alloc (.cells #[.int .u8 (op : Int), .int .u64 (x : Int), .int .u64 (b : Int), .slice A m c] 40)).heap.size := by simp
  have c6 := h0.c6
  have nkI := h0.kf.self
  have H0 := Lib.hid h0
  have S0 := Lib.hid s0
  have B0 := Lib.hid b0
  clear b0 h0 h s0
  have c1 := (H0.out.kf.blk.cell 2).trans (show _ = some (Value.slice a.gA E.globals.length a.gc) from rfl)
  have c5 := (H0.out.kf.blk.cell 5).trans (show _ = some (Value.string (str E.locals)) from rfl)
  have hwl := IntWalk.u64_in (E.locals.length : Int) (by have := hE.locals; omega)
  have hwg := IntWalk.u64_in (E.globals.length : Int) (by have := hE.ng; omega)
  have hsz := str_size E.locals
  obtain ⟨N, hN⟩ : ∃ N, N = w.heap.size := ⟨_, rfl⟩
  obtain ⟨W, hW⟩ : ∃ W, W = w.alloc (.cells #[.int .u8 (op : Int), .int .u64 (x : Int), .int .u64 (b : Int), .slice A m c] 40) := ⟨_, rfl⟩
  rw [← hW, ← hN] at N3
  rw [← hW] at m0 m1 c6 H0 S0 B0 c1 c5
  rw [← hN] at m0 m1 hNI B0
  replace hN := Lib.hid hN
  replace hW := Lib.hid hW
  have g0 : ¬ (E.locals.length : Int) ≤ (x : Int) := by omega
  have hw1 := IntWalk.u64_in ((x : Int) + 1) (by have := hE.locals; omega)
  have hsl := str_slice_lh Try.underlying9 E.locals .u64 .u64 (x : Int) ((x : Int) + 1) x (x + 1) rfl (by omega) (by omega) (by omega) (P := Try.prog)
  have hex : (E.locals.drop x).take (x + 1 - x) = [E.locals[x]] := by
    rw [List.drop_eq_getElem_cons hxl, show x + 1 - x = 1 by omega]
    rfl
  rw [hex] at hsl
  have hgd : E.locals.getD x 0 = E.locals[x] := by rw [List.getD, List.getElem?_eq_getElem hxl]; rfl
  rw [hgd]
  have hV : ∀ t : UInt8, Hid (∀ W, Kk W a E I s → Calls Try.prog 53 #[.pointer (some ⟨a.k, 0, none⟩), .string (str []), .string (str [t])] W (KRet W a E I (givesS [] [t] s))) := fun t W hW => k_gives [] [t] hW hb hn (by simp) (by simp)
  have hV2 : ∀ t : UInt8, Hid (∀ W, Kk W a E I s → Calls Try.prog 53 #[.pointer (some ⟨a.k, 0, none⟩), .string (str [t]), .string (str [])] W (KRet W a E I (givesS [t] [] s))) := fun t W hW => k_gives [t] [] hW hb hn (by simp) (by simp)
  have hV3 : ∀ t : UInt8, Hid (∀ W, Kk W a E I s → Calls Try.prog 53 #[.pointer (some ⟨a.k, 0, none⟩), .string (str [t]), .string (str [t])] W (KRet W a E I (givesS [t] [t] s))) := fun t W hW => k_gives [t] [t] hW hb hn (by simp) (by simp)
  have HA := hV E.locals[x]
  have HB := hV2 E.locals[x]
  have HC := hV3 E.locals[x]
  have hse : (str ([] : List UInt8)) = ⟨#[]⟩ := rfl
  rw [hse] at HA HB
  clear hgd hex hV hV2 hV3 hse
  have hg : varL op [E.locals[x]] s = if op = 32 then givesS [] [E.locals[x]] s else if op = 33 then givesS [E.locals[x]] [] s else givesS [E.locals[x]] [E.locals[x]] s := rfl
  replace hg := Lib.hid hg
  generalize E.locals[x] = t at *
  have d0 := cls_cell (F := fun _ => False) m0 id
  have d1 := cls_cell (F := fun _ => False) m1 id
  have d2 := cls_cell (F := fun _ => False) c1 id
  have d5 := cls_cell (F := fun _ => False) c5 id
  go_enter Try.func50, Try.ntmps50
  go_upto_region 1 with fail
  rw [← hW.out, ← hN.out]
  go_wp2_with fail
  go_quiet (fail)
  have hs1 : Step (fun _ => False) W (W.drewN nq) := Step.refl.drewN _
  replace H0 := Lib.hid (H0.out.quiet hs1)
  replace S0 := Lib.hid (S0.out.trans hs1)
  have N3' : N < (W.drewN nq).heap.size := N3
  have m0' : (W.drewN nq).cell? ⟨N, 0, none⟩ = _ := m0
  have m1' : (W.drewN nq).cell? ⟨N, 1, none⟩ = _ := m1
  have c1' := (H0.out.kf.blk.cell 2).trans (show _ = some (Value.slice a.gA E.globals.length a.gc) from rfl)
  have c5' := (H0.out.kf.blk.cell 5).trans (show _ = some (Value.string (str E.locals)) from rfl)
  clear hs1 m0 N3 m1 c1 c5 d0 d1 d2 d5
  have N3 := N3'
  have m0 := m0'
  have m1 := m1'
  have c1 := c1'
  have c5 := c5'
  clear N3' m0' m1' c1' c5'
  generalize W.drewN nq = W1 at *
  clear nq
  have d0 := cls_cell (F := fun _ => False) m0 id
  have d1 := cls_cell (F := fun _ => False) m1 id
  have d2 := cls_cell (F := fun _ => False) c1 id
  have d5 := cls_cell (F := fun _ => False) c5 id
  go_wp2_with fail
  go_quiet (fail)
  have hs2 : Step (fun _ => False) W1 (W1.drewN nq) := Step.refl.drewN _
  have HV := Lib.hid (H0.out.quiet hs2)
  have SV := Lib.hid (S0.out.trans hs2)
  have m0' : (W1.drewN nq).cell? ⟨N, 0, none⟩ = _ := m0
  clear hs2 H0 S0 d0 d1 d2 d5 m0 m1 c1 c5 hsl
  generalize W1.drewN nq = V at *
  by_cases h32 : op = 32
  · have o32 := int_eq h32
    have HQ := Lib.hid h32
    clear h32
    go_wp2_with fail
    refine (HA.out _ HV.out).mono ?_
    rintro e w2 ⟨rfl, u2⟩
    go_wp2_with fail
    go_ret
    rw [KRet, hg.out, if_pos HQ.out]
    exact ⟨rfl, KUp.after SV.out u2⟩
  · have o32 := int_ne h32
    have HQ := Lib.hid h32
    clear h32
    by_cases h33 : op = 33
    · have o33 := int_eq h33
      have HQ3 := Lib.hid h33
      clear h33
      go_wp2_with fail
      refine (HB.out _ HV.out).mono ?_
      rintro e w2 ⟨rfl, u2⟩
      go_wp2_with fail
      go_ret
      rw [KRet, hg.out, if_neg HQ.out, if_pos HQ3.out]
      exact ⟨rfl, KUp.after SV.out u2⟩
    · have o33 := int_ne h33
      have HQ3 := Lib.hid h33
      clear h33
      go_wp2_with fail
      refine (HC.out _ HV.out).mono ?_
      rintro e w2 ⟨rfl, u2⟩
      go_wp2_with fail
      go_ret
      rw [KRet, hg.out, if_neg HQ.out, if_neg HQ3.out]
      exact ⟨rfl, KUp.after SV.out u2⟩

set_option maxRecDepth 100000 in
set_option maxHeartbeats 1600000 in
theorem k_variable_gno (op x b m c : Nat) (A : Option Addr) (h : Kk w a E I s) (hb : s.ok n) (hn : n ≤ 1000) (hop : ¬ (op : Int) ≤ 34) (hE : E.ok) (hx : x < 18446744073709551616) (hle : E.globals.length ≤ x) :
    Calls Try.prog 50 #[.pointer (some ⟨a.k, 0, none⟩), .agg #[.int .u8 (op : Int), .int .u64 (x : Int), .int .u64 (b : Int), .slice A m c]] w (KRet w a E I (s, 24)) := by
  have s0 : Step (fun _ => False) w (w.alloc (.cells #[.int .u8 (op : Int), .int .u64 (x : Int), .int .u64 (b : Int), .slice A m c] 40)) := Step.refl.alloc _
  have b0 := Blk.new w 40 #[.int .u8 (op : Int), .int .u64 (x : Int), .int .u64 (b : Int), .slice A m c]
  have h0 := h.quiet s0
  have m0 := (b0.cell 0).trans (show _ = some (Value.int .u8 (op : Int)) from rfl)
  have m1 := (b0.cell 1).trans (show _ = some (Value.int .u64 (x : Int)) from rfl)
  have hNI : ¬ I w.heap.size := fun hk => by have := Ctl.in_ (l := s.l) (fs := s.fs) h.ctl _ hk; omega
  have N3 : w.heap.size < (w.alloc (.cells #[.int .u8 (op : Int), .int .u64 (x : Int), .int .u64 (b : Int), .slice A m c] 40)).heap.size := by simp
  have c6 := h0.c6
  have nkI := h0.kf.self
  have H0 := Lib.hid h0
  have S0 := Lib.hid s0
  have B0 := Lib.hid b0
  clear b0 h0 h s0
  have c1 := (H0.out.kf.blk.cell 2).trans (show _ = some (Value.slice a.gA E.globals.length a.gc) from rfl)
  have c5 := (H0.out.kf.blk.cell 5).trans (show _ = some (Value.string (str E.locals)) from rfl)
  have hwl := IntWalk.u64_in (E.locals.length : Int) (by have := hE.locals; omega)
  have hwg := IntWalk.u64_in (E.globals.length : Int) (by have := hE.ng; omega)
  have hsz := str_size E.locals
  obtain ⟨N, hN⟩ : ∃ N, N = w.heap.size := ⟨_, rfl⟩
  obtain ⟨W, hW⟩ : ∃ W, W = w.alloc (.cells #[.int .u8 (op : Int), .int .u64 (x : Int), .int .u64 (b : Int), .slice A m c] 40) := ⟨_, rfl⟩
  rw [← hW, ← hN] at N3
  rw [← hW] at m0 m1 c6 H0 S0 B0 c1 c5
  rw [← hN] at m0 m1 hNI B0
  replace hN := Lib.hid hN
  replace hW := Lib.hid hW
  have g0 : (E.globals.length : Int) ≤ (x : Int) := by omega
  have d0 := cls_cell (F := fun _ => False) m0 id
  have d1 := cls_cell (F := fun _ => False) m1 id
  have d2 := cls_cell (F := fun _ => False) c1 id
  have d5 := cls_cell (F := fun _ => False) c5 id
  go_enter Try.func50, Try.ntmps50
  go_upto_region 1 with fail
  rw [← hW.out, ← hN.out]
  go_wp2_with fail
  go_quiet (fail)
  go_wp2_with fail
  go_ret
  exact ⟨rfl, KUp.after S0.out (KUp.quiet (KUp.same H0.out) (Step.refl.drewN _))⟩

set_option maxRecDepth 100000 in
set_option maxHeartbeats 1600000 in
theorem k_variable_g (op x b m c : Nat) (A : Option Addr) (h : Kk w a E I s) (hb : s.ok n) (hn : n ≤ 1000) (hop : ¬ (op : Int) ≤ 34) (hE : E.ok) (hx : x < 18446744073709551616) (hxl : x < E.globals.length) :
    Calls Try.prog 50 #[.pointer (some ⟨a.k, 0, none⟩), .agg #[.int .u8 (op : Int), .int .u64 (x : Int), .int .u64 (b : Int), .slice A m c]] w (KRet w a E I (varG op (E.globals.getD x (0, false)) s)) := by
  have s0 : Step (fun _ => False) w (w.alloc (.cells #[.int .u8 (op : Int), .int .u64 (x : Int), .int .u64 (b : Int), .slice A m c] 40)) := Step.refl.alloc _
  have b0 := Blk.new w 40 #[.int .u8 (op : Int), .int .u64 (x : Int), .int .u64 (b : Int), .slice A m c]
  have h0 := h.quiet s0
  have m0 := (b0.cell 0).trans (show _ = some (Value.int .u8 (op : Int)) from rfl)
  have m1 := (b0.cell 1).trans (show _ = some (Value.int .u64 (x : Int)) from rfl)
  have hNI : ¬ I w.heap.size := fun hk => by have := Ctl.in_ (l := s.l) (fs := s.fs) h.ctl _ hk; omega
  have N3 : w.heap.size < (w.alloc (.cells #[.int .u8 (op : Int), .int .u64 (x : Int), .int .u64 (b : Int), .slice A m c] 40)).heap.size := by simp
  have c6 := h0.c6
  have nkI := h0.kf.self
  have H0 := Lib.hid h0
  have S0 := Lib.hid s0
  have B0 := Lib.hid b0
  clear b0 h0 h s0
  have c1 := (H0.out.kf.blk.cell 2).trans (show _ = some (Value.slice a.gA E.globals.length a.gc) from rfl)
  have c5 := (H0.out.kf.blk.cell 5).trans (show _ = some (Value.string (str E.locals)) from rfl)
  have hwl := IntWalk.u64_in (E.locals.length : Int) (by have := hE.locals; omega)
  have hwg := IntWalk.u64_in (E.globals.length : Int) (by have := hE.ng; omega)
  have hsz := str_size E.locals
  obtain ⟨N, hN⟩ : ∃ N, N = w.heap.size := ⟨_, rfl⟩
  obtain ⟨W, hW⟩ : ∃ W, W = w.alloc (.cells #[.int .u8 (op : Int), .int .u64 (x : Int), .int .u64 (b : Int), .slice A m c] 40) := ⟨_, rfl⟩
  rw [← hW, ← hN] at N3
  rw [← hW] at m0 m1 c6 H0 S0 B0 c1 c5
  rw [← hN] at m0 m1 hNI B0
  replace hN := Lib.hid hN
  replace hW := Lib.hid hW
  have g0 : ¬ (E.globals.length : Int) ≤ (x : Int) := by omega
  have g00 : (x : Int) < (E.globals.length : Int) := by omega
  obtain ⟨bg, og, hA, _, hbg, hcg⟩ := reads_row glC 2 (by decide) (fun _ => rfl) H0.out.kf.globals hxl
  have HCG : Hid (∀ V : World, Step (fun _ => False) W V → ∀ j u, (glC E.globals[x])[j]? = some u → V.cell? ⟨bg, og + x * 2 + j, none⟩ = some u) := fun V hV j u hj => by
    refine (hV.cell (p := ⟨bg, og + x * 2 + j, none⟩) hbg id).trans (hcg j u hj)
  rw [hA] at c1
  have hgd : E.globals.getD x (0, false) = E.globals[x] := by rw [List.getD, List.getElem?_eq_getElem hxl]; rfl
  have hy := hE.globals E.globals[x] (List.getElem_mem hxl)
  rw [hgd]
  generalize E.globals[x] = gl at hy hcg HCG ⊢
  obtain ⟨gt, gm⟩ := gl
  simp only at hy
  have hut : ((UInt8.ofNat gt).toNat : Int) = (gt : Int) := by simp; omega
  have HA : Hid (∀ W, Kk W a E I s → Calls Try.prog 53 #[.pointer (some ⟨a.k, 0, none⟩), .string ⟨#[]⟩, .string (str [UInt8.ofNat gt])] W (KRet W a E I (givesS [] [UInt8.ofNat gt] s))) := fun W hW => k_gives [] [UInt8.ofNat gt] hW hb hn (by simp) (by simp)
  have HB : Hid (∀ W, Kk W a E I s → Calls Try.prog 53 #[.pointer (some ⟨a.k, 0, none⟩), .string (str [UInt8.ofNat gt]), .string ⟨#[]⟩] W (KRet W a E I (givesS [UInt8.ofNat gt] [] s))) := fun W hW => k_gives [UInt8.ofNat gt] [] hW hb hn (by simp) (by simp)
  have hg : varG op (gt, gm) s = if op = 35 then givesS [] [UInt8.ofNat gt] s else if gm = true then givesS [UInt8.ofNat gt] [] s else (s, 24) := rfl
  replace hg := Lib.hid hg
  have HCV : Hid (∀ V : World, (convert 107 9 (.slice (some ⟨V.heap.size, 0, none⟩) 1 1)).run Try.prog (V.alloc (.cells #[.int .u8 (gt : Int)] 5)) = .ok (.string (str [UInt8.ofNat gt])) (V.alloc (.cells #[.int .u8 (gt : Int)] 5))) := fun V =>
    run_conv_bytes (P := Try.prog) (V.alloc (.cells #[.int .u8 (gt : Int)] 5)) 107 9 5 Try.underlying107 Try.underlying5 Try.underlying9 (c := 1) (l := [UInt8.ofNat gt]) (by
      have := reads_new V #[.int .u8 ((UInt8.ofNat gt).toNat : Int)] 5 1 1 rfl
      rw [hut] at this
      rw [show u8s [UInt8.ofNat gt] = [.int .u8 (gt : Int)] from by rw [← hut]; rfl]
      exact this)
  clear hgd hcg hA hut
  have d0 := cls_cell (F := fun _ => False) m0 id
  have d1 := cls_cell (F := fun _ => False) m1 id
  have d2 := cls_cell (F := fun _ => False) c1 id
  have d5 := cls_cell (F := fun _ => False) c5 id
  go_enter Try.func50, Try.ntmps50
  go_upto_region 1 with fail
  rw [← hW.out, ← hN.out]
  go_wp2_with fail
  go_quiet (fail)
  have hs1 : Step (fun _ => False) W (W.drewN nq) := Step.refl.drewN _
  replace H0 := Lib.hid (H0.out.quiet hs1)
  replace S0 := Lib.hid (S0.out.trans hs1)
  have N3' : N < (W.drewN nq).heap.size := N3
  have m0' : (W.drewN nq).cell? ⟨N, 0, none⟩ = _ := m0
  have m1' : (W.drewN nq).cell? ⟨N, 1, none⟩ = _ := m1
  have c1' : (W.drewN nq).cell? ⟨a.k, 2, none⟩ = _ := c1
  have c5' := (H0.out.kf.blk.cell 5).trans (show _ = some (Value.string (str E.locals)) from rfl)
  clear hs1 m0 N3 m1 c1 c5 d0 d1 d2 d5
  have N3 := N3'
  have m0 := m0'
  have m1 := m1'
  have c1 := c1'
  have c5 := c5'
  clear N3' m0' m1' c1' c5'
  replace HCG : Hid (∀ V : World, Step (fun _ => False) (W.drewN nq) V → ∀ j u, (glC (gt, gm))[j]? = some u → V.cell? ⟨bg, og + x * 2 + j, none⟩ = some u) := fun V hV => HCG.out V ((Step.refl.drewN _).trans hV)
  have hbg' : bg < (W.drewN nq).heap.size := hbg
  clear hbg
  generalize W.drewN nq = W1 at *
  clear nq
  have d0 := cls_cell (F := fun _ => False) m0 id
  have d1 := cls_cell (F := fun _ => False) m1 id
  have d2 := cls_cell (F := fun _ => False) c1 id
  have d5 := cls_cell (F := fun _ => False) c5 id
  have t0 := HCG.out W1 Step.refl 0 _ rfl
  have t1 := HCG.out W1 Step.refl 1 _ rfl
  rw [Nat.add_zero] at t0
  have d7 := cls_cell (F := fun _ => False) t0 id
  have d8 := cls_cell (F := fun _ => False) t1 id
  clear t0 t1
  go_wp2_with fail
  refine Mix.wp_region_mix [9, 10] [9] (Step (fun _ => False) W1) (by kernel_rfl) (by kernel_rfl) (Step.refl.drew) (fun hcls => ?_)
  refine Mix.wpL_reads 9 (by rfl) ?_
  simp only [List.take_succ_cons, List.drop_succ_cons, List.take_zero, List.drop_zero]
  repeat (go_big_quiet_step (fail))
  refine wpQuiet_nil ?_
  refine Mix.wpL_op (by rfl) (fun K hK => ?_)
  go_simp
  refine hK _ _ (fun hlt => Mix.cl (Step.refl.drew.alloc _)) ?_
  clear hK K
  refine Mix.wpL_op (by rfl) (fun K hK => ?_)
  go_simp
  refine hK _ _ (fun hlt => absurd hlt (by decide)) ?_
  clear hK K
  refine Mix.wpL_end ?_
  have bn := (Blk.new W1 62 #[.int .u8 (gt : Int), .bool gm]).drew
  have hs2 : Step (fun _ => False) W1 ((W1.alloc (.cells #[.int .u8 (gt : Int), .bool gm] 62)).drew) := (Step.refl.alloc _).drew
  have HV := Lib.hid (H0.out.quiet hs2)
  have SV := Lib.hid (S0.out.trans hs2)
  have m0' := (hs2.cell (p := ⟨N, 0, none⟩) N3 id).trans m0
  have k0 := (bn.cell 0).trans (show _ = some (Value.int .u8 (gt : Int)) from rfl)
  have k1 := (bn.cell 1).trans (show _ = some (Value.bool gm) from rfl)
  have nvs := bn.lt
  have NV : N < ((W1.alloc (.cells #[.int .u8 (gt : Int), .bool gm] 62)).drew).heap.size := Nat.lt_of_lt_of_le N3 hs2.size
  clear bn hs2 d0 d1 d2 d5 d7 d8 m0 m1 c1 c5 H0 S0 hbg'
  generalize W1.heap.size = M at *
  generalize (W1.alloc (.cells #[.int .u8 (gt : Int), .bool gm] 62)).drew = V at *
  have hcv := HCV.out V
  have sA : Step (fun _ => False) V (V.alloc (.cells #[.int .u8 (gt : Int)] 5)) := Step.refl.alloc _
  have SA := Lib.hid (SV.out.trans sA)
  have HKA := Lib.hid (HV.out.quiet sA)
  have nN : N ≠ V.heap.size := Nat.ne_of_lt NV
  have nM : M ≠ V.heap.size := Nat.ne_of_lt nvs
  clear sA
  by_cases h35 : op = 35
  · have o35 := int_eq h35
    have HQ := Lib.hid h35
    clear h35
    go_wp2_with fail
    refine (HA.out _ HKA.out).mono ?_
    rintro e w2 ⟨rfl, u2⟩
    go_wp2_with fail
    go_ret
    rw [KRet, hg.out, if_pos HQ.out]
    exact ⟨rfl, KUp.after SA.out u2⟩
  · have o35 := int_ne h35
    have HQ := Lib.hid h35
    clear h35
    cases gm with
    | true =>
      go_wp2_with fail
      refine (HB.out _ HKA.out).mono ?_
      rintro e w2 ⟨rfl, u2⟩
      go_wp2_with fail
      go_ret
      rw [KRet, hg.out, if_neg HQ.out, if_pos trivial]
      exact ⟨rfl, KUp.after SA.out u2⟩
    | false =>
      go_wp2_with fail
      go_ret
      rw [KRet, hg.out, if_neg HQ.out, if_neg (by decide)]
      exact ⟨rfl, KUp.after SA.out (KUp.same HKA.out)⟩

theorem k_variable (op x b m c : Nat) (A : Option Addr) (h : Kk w a E I s) (hb : s.ok n) (hn : n ≤ 1000) (hE : E.ok) (hx : x < 18446744073709551616) :
    Calls Try.prog 50 #[.pointer (some ⟨a.k, 0, none⟩), .agg #[.int .u8 (op : Int), .int .u64 (x : Int), .int .u64 (b : Int), .slice A m c]] w (KRet w a E I (variableS E op x s)) := by
  unfold variableS
  by_cases ho : op ≤ 34
  · rw [if_pos ho]
    by_cases hl : E.locals.length ≤ x
    · rw [if_pos hl]
      exact k_variable_lno op x b m c A h hb hn (by omega) hE hx hl
    · rw [if_neg hl]
      exact k_variable_l op x b m c A h hb hn (by omega) hE hx (by omega)
  · rw [if_neg ho]
    by_cases hl : E.globals.length ≤ x
    · rw [if_pos hl]
      exact k_variable_gno op x b m c A h hb hn (by omega) hE hx hl
    · rw [if_neg hl]
      exact k_variable_g op x b m c A h hb hn (by omega) hE hx (by omega)

theorem k_call (op x b m c : Nat) (A : Option Addr) (h : Kk w a E I s) (hb : s.ok n) (hn : n ≤ 1000) (hE : E.ok) (hx : x < 18446744073709551616) :
    Calls Try.prog 48 #[.pointer (some ⟨a.k, 0, none⟩), .agg #[.int .u8 (op : Int), .int .u64 (x : Int), .int .u64 (b : Int), .slice A m c]] w (KRet w a E I (callS E op x s)) := by
  unfold callS
  by_cases ho : op = 16
  · rw [if_pos ho]
    by_cases hl : E.funcs.length ≤ x
    · rw [if_pos hl]
      exact k_call_16no op x b m c A h hb hn (int_eq ho) hE hx hl
    · rw [if_neg hl]
      exact k_call_16 op x b m c A h hb hn (int_eq ho) hE hx (by omega)
  · rw [if_neg ho]
    by_cases ht : E.table = true
    · rw [if_pos ht]
      exact k_call_17 op x b m c A h hb hn (int_ne ho) hE hx ht
    · rw [if_neg ht]
      exact k_call_17no op x b m c A h hb hn (int_ne ho) hE hx (by simpa using ht)
end
end Go.Proofs.Ytpebdfgfikjkeaa
/-! check.checker.memory, one. -/
namespace Go.Proofs.Ytpebdfgfikjkeaa
open Go.RowKit

def memE (E : Ke) (op x : Nat) : Int := if E.mem = true then (if (accF op).ok = true ∧ (3 < x ∨ (accF op).bytes < 2 ^ x) then 25 else 0) else 20
theorem accF_bytes (op : Nat) : (accF op).bytes ≤ 8 := by
  unfold accF
  have hall : ∀ p ∈ accT, p.2.bytes ≤ 8 := by decide
  cases hl : accT.lookup op with
  | none => decide
  | some a =>
    have : ∀ (l : List (Nat × Acc)), (∀ p ∈ l, p.2.bytes ≤ 8) → l.lookup op = some a → a.bytes ≤ 8 := by
      intro l
      induction l with
      | nil => intro _ h; simp at h
      | cons p l ih =>
        intro hp h
        rw [List.lookup] at h
        split at h
        · injection h with h
          rw [← h]
          exact hp p (List.mem_cons_self ..)
        · exact ih (fun q hq => hp q (List.mem_cons_of_mem _ hq)) h
    exact this accT hall hl
section
variable {w : World} {a : Ka} {E : Ke} {I : Nat → Prop} {s : Ss} {n : Nat}

set_option maxRecDepth 100000 in
set_option maxHeartbeats 1600000 in
theorem k_memory_no (op x b m c : Nat) (A : Option Addr) (h : Kk w a E I s) (hb : s.ok n) (hn : n ≤ 1000) (hm : E.mem = false) :
    Calls Try.prog 52 #[.pointer (some ⟨a.k, 0, none⟩), .agg #[.int .u8 (op : Int), .int .u64 (x : Int), .int .u64 (b : Int), .slice A m c]] w (fun e w' => e = .returned (.int .i64 (20)) ∧ Step (fun _ => False) w w') := by
  have s0 : Step (fun _ => False) w (w.alloc (.cells #[.int .u8 (op : Int), .int .u64 (x : Int), .int .u64 (b : Int), .slice A m c] 40)) := Step.refl.alloc _
  have b0 := Blk.new w 40 #[.int .u8 (op : Int), .int .u64 (x : Int), .int .u64 (b : Int), .slice A m c]
  have h0 := h.quiet s0
  have m0 := (b0.cell 0).trans (show _ = some (Value.int .u8 (op : Int)) from rfl)
  have m1 := (b0.cell 1).trans (show _ = some (Value.int .u64 (x : Int)) from rfl)
  have hNI : ¬ I w.heap.size := fun hk => by have := Ctl.in_ (l := s.l) (fs := s.fs) h.ctl _ hk; omega
  have N3 : w.heap.size < (w.alloc (.cells #[.int .u8 (op : Int), .int .u64 (x : Int), .int .u64 (b : Int), .slice A m c] 40)).heap.size := by simp
  have c6 := h0.c6
  have nkI := h0.kf.self
  have H0 := Lib.hid h0
  have S0 := Lib.hid s0
  have B0 := Lib.hid b0
  clear b0 h0 h s0
  have c4 := (H0.out.kf.blk.cell 4).trans (show _ = some (Value.bool E.mem) from rfl)
  rw [hm] at c4
  go_enter Try.func52, Try.ntmps52
  go_wp2_with fail
  go_ret
  exact ⟨rfl, S0.out⟩

set_option maxRecDepth 100000 in
set_option maxHeartbeats 1600000 in
theorem k_memory_yes (op x b m c : Nat) (A : Option Addr) (h : Kk w a E I s) (hb : s.ok n) (hn : n ≤ 1000) (hm : E.mem = true) (ho : op < 256) (hx : x < 18446744073709551616) (r : Int) (hr : r = if (accF op).ok = true ∧ (3 < x ∨ (accF op).bytes < 2 ^ x) then 25 else 0) :
    Calls Try.prog 52 #[.pointer (some ⟨a.k, 0, none⟩), .agg #[.int .u8 (op : Int), .int .u64 (x : Int), .int .u64 (b : Int), .slice A m c]] w (fun e w' => e = .returned (.int .i64 (r)) ∧ Step (fun _ => False) w w') := by
  have s0 : Step (fun _ => False) w (w.alloc (.cells #[.int .u8 (op : Int), .int .u64 (x : Int), .int .u64 (b : Int), .slice A m c] 40)) := Step.refl.alloc _
  have b0 := Blk.new w 40 #[.int .u8 (op : Int), .int .u64 (x : Int), .int .u64 (b : Int), .slice A m c]
  have h0 := h.quiet s0
  have m0 := (b0.cell 0).trans (show _ = some (Value.int .u8 (op : Int)) from rfl)
  have m1 := (b0.cell 1).trans (show _ = some (Value.int .u64 (x : Int)) from rfl)
  have hNI : ¬ I w.heap.size := fun hk => by have := Ctl.in_ (l := s.l) (fs := s.fs) h.ctl _ hk; omega
  have N3 : w.heap.size < (w.alloc (.cells #[.int .u8 (op : Int), .int .u64 (x : Int), .int .u64 (b : Int), .slice A m c] 40)).heap.size := by simp
  have c6 := h0.c6
  have nkI := h0.kf.self
  have H0 := Lib.hid h0
  have S0 := Lib.hid s0
  have B0 := Lib.hid b0
  clear b0 h0 h s0
  have c4 := (H0.out.kf.blk.cell 4).trans (show _ = some (Value.bool E.mem) from rfl)
  rw [hm] at c4
  have HA := Lib.hid (access_walk (w.alloc (.cells #[.int .u8 (op : Int), .int .u64 (x : Int), .int .u64 (b : Int), .slice A m c] 40)) op ho)
  have hby := accF_bytes op
  generalize accF op = acc at hr HA hby
  obtain ⟨bt, tt, wr, sg, ok⟩ := acc
  unfold accV at HA
  simp only at hr HA hby
  have hwb := IntWalk.u64_in (bt : Int) (by omega)
  cases ok with
  | false =>
    obtain rfl : r = 0 := by rw [hr]; simp
    clear hr
    go_enter Try.func52, Try.ntmps52
    go_wp2_with fail
    refine HA.out.mono ?_
    rintro e w1 ⟨rfl, t1⟩
    have m1' := (t1.cell (p := ⟨w.heap.size, 1, none⟩) N3 id).trans m1
    have N4 : w.heap.size < w1.heap.size := Nat.lt_of_lt_of_le N3 t1.size
    have nN : w.heap.size ≠ w1.heap.size := Nat.ne_of_lt N4
    go_wp2_with fail
    go_ret
    exact ⟨rfl, (S0.out.trans t1).alloc _⟩
  | true =>
    by_cases h3 : 3 < x
    · have g3 : (3 : Int) < (x : Int) := by omega
      obtain rfl : r = 25 := by rw [hr, if_pos ⟨rfl, .inl h3⟩]
      clear hr
      go_enter Try.func52, Try.ntmps52
      go_wp2_with fail
      refine HA.out.mono ?_
      rintro e w1 ⟨rfl, t1⟩
      have m1' := (t1.cell (p := ⟨w.heap.size, 1, none⟩) N3 id).trans m1
      have N4 : w.heap.size < w1.heap.size := Nat.lt_of_lt_of_le N3 t1.size
      have nN : w.heap.size ≠ w1.heap.size := Nat.ne_of_lt N4
      go_wp2_with fail
      go_ret
      exact ⟨rfl, (S0.out.trans t1).alloc _⟩
    · have g3 : ¬ (3 : Int) < (x : Int) := by omega
      have hp8 : 2 ^ x ≤ 2 ^ 3 := Nat.pow_le_pow_right (by decide) (by omega)
      have hpc : ((2 ^ x : Nat) : Int) = (2 : Int) ^ x := by rw [Int.natCast_pow]; rfl
      generalize 2 ^ x = p at hr hp8 hpc
      have hw8 : IntKind.u64.wrap ((2 : Int) ^ x) = (p : Int) := by
        rw [← hpc]
        exact IntWalk.u64_in _ (by omega)
      clear hpc
      by_cases hlt : bt < p
      · obtain rfl : r = 25 := by rw [hr, if_pos ⟨rfl, .inr hlt⟩]
        have g4 : (bt : Int) < (p : Int) := by omega
        clear hr h3 hlt
        go_enter Try.func52, Try.ntmps52
        go_wp2_with fail
        refine HA.out.mono ?_
        rintro e w1 ⟨rfl, t1⟩
        have m1' := (t1.cell (p := ⟨w.heap.size, 1, none⟩) N3 id).trans m1
        have N4 : w.heap.size < w1.heap.size := Nat.lt_of_lt_of_le N3 t1.size
        have nN : w.heap.size ≠ w1.heap.size := Nat.ne_of_lt N4
        go_wp2_with fail
        go_ret
        exact ⟨rfl, (S0.out.trans t1).alloc _⟩
      · obtain rfl : r = 0 := by rw [hr, if_neg (by rintro ⟨_, e | e⟩; exact h3 e; exact hlt e)]
        have g4 : ¬ (bt : Int) < (p : Int) := by omega
        clear hr h3 hlt
        go_enter Try.func52, Try.ntmps52
        go_wp2_with fail
        refine HA.out.mono ?_
        rintro e w1 ⟨rfl, t1⟩
        have m1' := (t1.cell (p := ⟨w.heap.size, 1, none⟩) N3 id).trans m1
        have N4 : w.heap.size < w1.heap.size := Nat.lt_of_lt_of_le N3 t1.size
        have nN : w.heap.size ≠ w1.heap.size := Nat.ne_of_lt N4
        go_wp2_with fail
        go_ret
        exact ⟨rfl, (S0.out.trans t1).alloc _⟩
theorem k_memory (op x b m c : Nat) (A : Option Addr) (h : Kk w a E I s) (hb : s.ok n) (hn : n ≤ 1000) (ho : op < 256) (hx : x < 18446744073709551616) :
    Calls Try.prog 52 #[.pointer (some ⟨a.k, 0, none⟩), .agg #[.int .u8 (op : Int), .int .u64 (x : Int), .int .u64 (b : Int), .slice A m c]] w fun e w' => e = .returned (.int .i64 (memE E op x)) ∧ Step (fun _ => False) w w' := by
  unfold memE
  by_cases hm : E.mem = true
  · rw [if_pos hm]
    exact k_memory_yes op x b m c A h hb hn hm ho hx _ rfl
  · rw [if_neg hm]
    exact k_memory_no op x b m c A h hb hn (by simpa using hm)
end
end Go.Proofs.Ytpebdfgfikjkeaa
