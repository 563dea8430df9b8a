/-
  check.checker.call, choose.
-/
import Derived.Test.YtpebdfgfikjkeaaKkE
set_option linter.unusedVariables false
set_option linter.unusedSimpArgs false
namespace Go.Proofs.Ytpebdfgfikjkeaa
open Go.RowKit

def callW (op : Nat) (t : List UInt8 × List UInt8) (s : Ss) : Ss × Int := if op = 17 then (if (wantE 127 s).2 = 0 then givesS t.1 t.2 (wantE 127 s).1 else wantE 127 s) else givesS t.1 t.2 s
def typeS (E : Ke) (op x : Nat) (s : Ss) : Ss × Int := if E.types.length ≤ x then (s, 7) else callW op (E.types.getD x ([], [])) s
def callS (E : Ke) (op x : Nat) (s : Ss) : Ss × Int := if op = 16 then (if E.funcs.length ≤ x then (s, 20) else typeS E op (E.funcs.getD x 0) s) else if E.table = true then typeS E op x s else (s, 20)
def chooseS (op : Nat) (s : Ss) : Ss × Int :=
  if op = 26 then ((popS s).1, (popS s).2.2) else
  if (wantE 127 s).2 = 0 then
    (if (popS (wantE 127 s).1).2.2 = 0 then
      (if (wantS (popS (wantE 127 s).1).2.1 (popS (wantE 127 s).1).1).2.2 = 0 then
        (pushS [UInt8.ofNat (wantS (popS (wantE 127 s).1).2.1 (popS (wantE 127 s).1).1).2.1.toNat] (wantS (popS (wantE 127 s).1).2.1 (popS (wantE 127 s).1).1).1, 0)
      else ((wantS (popS (wantE 127 s).1).2.1 (popS (wantE 127 s).1).1).1, (wantS (popS (wantE 127 s).1).2.1 (popS (wantE 127 s).1).1).2.2))
    else ((popS (wantE 127 s).1).1, (popS (wantE 127 s).1).2.2))
  else wantE 127 s
theorem Ke.ok.type {E : Ke} (h : E.ok) (x : Nat) : (E.types.getD x ([], [])).1.length ≤ 100 ∧ (E.types.getD x ([], [])).2.length ≤ 100 := by
  rw [List.getD]
  cases hg : E.types[x]? with
  | none => exact ⟨Nat.zero_le _, Nat.zero_le _⟩
  | some t => exact h.types t (List.mem_of_getElem? hg)
section
variable {n : Nat} {s : Ss}
theorem Ss.ok.type (h : s.ok n) {E : Ke} (hE : E.ok) (op x : Nat) : (typeS E op x s).1.ok (n + 1) := by
  unfold typeS
  split
  · exact h.less (by omega)
  · have ht := hE.type x
    unfold callW
    split
    · split
      · exact (h.wantE 127).gives _ _ ht.2
      · exact (h.wantE 127).less (by omega)
    · exact h.gives _ _ ht.2
theorem Ss.ok.call (h : s.ok n) {E : Ke} (hE : E.ok) (op x : Nat) : (callS E op x s).1.ok (n + 1) := by
  unfold callS
  split
  · split
    · exact h.less (by omega)
    · exact h.type hE _ _
  · split
    · exact h.type hE _ _
    · exact h.less (by omega)
theorem Ss.ok.choose (h : s.ok n) (op : Nat) : (chooseS op s).1.ok (n + 1) := by
  unfold chooseS
  split
  · exact h.pop.less (by omega)
  · split
    · split
      · split
        · exact ((h.wantE 127).pop.want _).push _ (by simp)
        · exact ((h.wantE 127).pop.want _).less (by omega)
      · exact (h.wantE 127).pop.less (by omega)
    · exact (h.wantE 127).less (by omega)
end

section
variable {w : World} {a : Ka} {E : Ke} {I : Nat → Prop} {s : Ss} {n : Nat}

set_option maxRecDepth 100000 in
set_option maxHeartbeats 1600000 in
theorem k_call_16no (op x b m c : Nat) (A : Option Addr) (h : Kk w a E I s) (hb : s.ok n) (hn : n ≤ 1000) (o16 : ((op : Int) == 16) = true) (hE : E.ok) (hx : x < 18446744073709551616) (hle : E.funcs.length ≤ x) :
    Calls Try.prog 48 #[.pointer (some ⟨a.k, 0, none⟩), .agg #[.int .u8 (op : Int), .int .u64 (x : Int), .int .u64 (b : Int), .slice A m c]] w (KRet w a E I (s, 20)) := by
  have s0 : Step (fun _ => False) w (w.alloc (.cells #[.int .u8 (op : Int), .int .u64 (x : Int), .int .u64 (b : Int), .slice A m c] 40)) := Step.refl.alloc _
  have b0 := Blk.new w 40 #[.int .u8 (op : Int), .int .u64 (x : Int), .int .u64 (b : Int), .slice A m c]
  have h0 := h.quiet s0
  have m0 := (b0.cell 0).trans (show _ = some (Value.int .u8 (op : Int)) from rfl)
  have m1 := (b0.cell 1).trans (show _ = some (Value.int .u64 (x : Int)) from rfl)
  have hNI : ¬ I w.heap.size := fun hk => by have := Ctl.in_ (l := s.l) (fs := s.fs) h.ctl _ hk; omega
  have N3 : w.heap.size < (w.alloc (.cells #[.int .u8 (op : Int), .int .u64 (x : Int), .int .u64 (b : Int), .slice A m c] 40)).heap.size := by simp
  have c6 := h0.c6
  have nkI := h0.kf.self
  have H0 := Lib.hid h0
  have S0 := Lib.hid s0
  have B0 := Lib.hid b0
  clear b0 h0 h s0
  have c0 := (H0.out.kf.blk.cell 0).trans (show _ = some (Value.slice a.tA E.types.length a.tc) from rfl)
  have c1 := (H0.out.kf.blk.cell 1).trans (show _ = some (Value.slice a.fA E.funcs.length a.fc) from rfl)
  have c3 := (H0.out.kf.blk.cell 3).trans (show _ = some (Value.bool E.table) from rfl)
  have hwt := IntWalk.u64_in (E.types.length : Int) (by have := hE.nt; omega)
  have hwf := IntWalk.u64_in (E.funcs.length : Int) (by have := hE.nf; omega)
  have HNE : Hid (∃ N, N = w.heap.size) := ⟨_, rfl⟩
  obtain ⟨N, hN⟩ := HNE.out
  obtain ⟨W, hW⟩ : ∃ W, W = w.alloc (.cells #[.int .u8 (op : Int), .int .u64 (x : Int), .int .u64 (b : Int), .slice A m c] 40) := ⟨_, rfl⟩
  rw [← hW, ← hN] at N3
  rw [← hW] at m0 m1 c6 H0 S0 B0 c0 c1 c3
  rw [← hN] at m0 m1 hNI B0
  replace hN := Lib.hid hN
  replace hW := Lib.hid hW
  clear HNE
  have g0 : (E.funcs.length : Int) ≤ (x : Int) := by omega
  have d1 := cls_cell (F := fun _ => False) m1 id
  have d2 := cls_cell (F := fun _ => False) c1 id
  go_enter Try.func48, Try.ntmps48
  go_wp2_with fail
  rw [← hW.out, ← hN.out]
  go_wp2_with fail
  go_quiet (fail)
  go_wp2_with fail
  go_ret
  exact ⟨rfl, KUp.after S0.out (KUp.quiet (KUp.same H0.out) (Step.refl.drewN _))⟩

set_option maxRecDepth 100000 in
set_option maxHeartbeats 1600000 in
theorem k_call_16 (op x b m c : Nat) (A : Option Addr) (h : Kk w a E I s) (hb : s.ok n) (hn : n ≤ 1000) (o16 : ((op : Int) == 16) = true) (hE : E.ok) (hx : x < 18446744073709551616) (hxl : x < E.funcs.length) :
    Calls Try.prog 48 #[.pointer (some ⟨a.k, 0, none⟩), .agg #[.int .u8 (op : Int), .int .u64 (x : Int), .int .u64 (b : Int), .slice A m c]] w (KRet w a E I (typeS E op (E.funcs.getD x 0) s)) := by
  have s0 : Step (fun _ => False) w (w.alloc (.cells #[.int .u8 (op : Int), .int .u64 (x : Int), .int .u64 (b : Int), .slice A m c] 40)) := Step.refl.alloc _
  have b0 := Blk.new w 40 #[.int .u8 (op : Int), .int .u64 (x : Int), .int .u64 (b : Int), .slice A m c]
  have h0 := h.quiet s0
  have m0 := (b0.cell 0).trans (show _ = some (Value.int .u8 (op : Int)) from rfl)
  have m1 := (b0.cell 1).trans (show _ = some (Value.int .u64 (x : Int)) from rfl)
  have hNI : ¬ I w.heap.size := fun hk => by have := Ctl.in_ (l := s.l) (fs := s.fs) h.ctl _ hk; omega
  have N3 : w.heap.size < (w.alloc (.cells #[.int .u8 (op : Int), .int .u64 (x : Int), .int .u64 (b : Int), .slice A m c] 40)).heap.size := by simp
  have c6 := h0.c6
  have nkI := h0.kf.self
  have H0 := Lib.hid h0
  have S0 := Lib.hid s0
  have B0 := Lib.hid b0
  clear b0 h0 h s0
  have c0 := (H0.out.kf.blk.cell 0).trans (show _ = some (Value.slice a.tA E.types.length a.tc) from rfl)
  have c1 := (H0.out.kf.blk.cell 1).trans (show _ = some (Value.slice a.fA E.funcs.length a.fc) from rfl)
  have c3 := (H0.out.kf.blk.cell 3).trans (show _ = some (Value.bool E.table) from rfl)
  have hwt := IntWalk.u64_in (E.types.length : Int) (by have := hE.nt; omega)
  have hwf := IntWalk.u64_in (E.funcs.length : Int) (by have := hE.nf; omega)
  have HNE : Hid (∃ N, N = w.heap.size) := ⟨_, rfl⟩
  obtain ⟨N, hN⟩ := HNE.out
  obtain ⟨W, hW⟩ : ∃ W, W = w.alloc (.cells #[.int .u8 (op : Int), .int .u64 (x : Int), .int .u64 (b : Int), .slice A m c] 40) := ⟨_, rfl⟩
  rw [← hW, ← hN] at N3
  rw [← hW] at m0 m1 c6 H0 S0 B0 c0 c1 c3
  rw [← hN] at m0 m1 hNI B0
  replace hN := Lib.hid hN
  replace hW := Lib.hid hW
  clear HNE
  have g0 : ¬ (E.funcs.length : Int) ≤ (x : Int) := by omega
  have g00 : (x : Int) < (E.funcs.length : Int) := by omega
  have hr := H0.out.kf.funcs
  have hr2 : Reads W a.R 1 a.fA E.funcs.length (E.funcs.flatMap fun y : Nat => [Value.int .u32 (y : Int)]) := by
    have e : ∀ l : List Nat, l.flatMap (fun y : Nat => [Value.int .u32 (y : Int)]) = l.map fun y : Nat => Value.int .u32 (y : Int) := fun l => by induction l with | nil => rfl | cons y l ih => rw [List.flatMap_cons, ih]; rfl
    rw [e]
    exact hr
  obtain ⟨bf, of, hA, _, hbf, hcf⟩ := reads_row (fun y : Nat => [Value.int .u32 (y : Int)]) 1 (by decide) (fun _ => rfl) hr2 hxl
  replace hcf := hcf 0 _ rfl
  rw [Nat.mul_one, Nat.add_zero] at hcf
  rw [hA] at c1
  have hgd : E.funcs.getD x 0 = E.funcs[x] := by rw [List.getD, List.getElem?_eq_getElem hxl]; rfl
  have hy := hE.funcs E.funcs[x] (List.getElem_mem hxl)
  have HGG : Hid (typeS E op (E.funcs.getD x 0) s = typeS E op E.funcs[x] s) := by unfold Hid; rw [hgd]
  generalize E.funcs[x] = y at hcf hy HGG
  have hwy := IntWalk.u64_in (y : Int) (by omega)
  clear hr hr2 hA hgd
  have d1 := cls_cell (F := fun _ => False) m1 id
  have d2 := cls_cell (F := fun _ => False) c1 id
  have d3 := cls_cell (F := fun _ => False) hcf id
  go_enter Try.func48, Try.ntmps48
  go_wp2_with fail
  rw [← hW.out, ← hN.out]
  go_wp2_with fail
  go_quiet (fail)
  go_wp2_with fail
  have hs1 : Step (fun _ => False) W (W.drewN nq) := Step.refl.drewN _
  replace H0 := Lib.hid (H0.out.quiet hs1)
  replace S0 := Lib.hid (S0.out.trans hs1)
  have N3' : N < (W.drewN nq).heap.size := N3
  have m0' : (W.drewN nq).cell? ⟨N, 0, none⟩ = _ := m0
  have m1' : (W.drewN nq).cell? ⟨N, 1, none⟩ = _ := m1
  have c1' : (W.drewN nq).cell? ⟨a.k, 1, none⟩ = _ := c1
  have hcf' : (W.drewN nq).cell? ⟨bf, of + x, none⟩ = _ := hcf
  have d1 := cls_cell (F := fun _ => False) m1' id
  have d2 := cls_cell (F := fun _ => False) c1' id
  have d3 := cls_cell (F := fun _ => False) hcf' id
  have c0 := (H0.out.kf.blk.cell 0).trans (show _ = some (Value.slice a.tA E.types.length a.tc) from rfl)
  clear hs1 m0 N3 m1 c1 hcf d1 d2 d3
  have N3 := N3'
  have m0 := m0'
  clear N3' m0'
  generalize W.drewN nq = W1 at *
  clear nq
  have d1 := cls_cell (F := fun _ => False) m1' id
  have d2 := cls_cell (F := fun _ => False) c1' id
  have d3 := cls_cell (F := fun _ => False) hcf' id
  go_quiet (fail)
  have sv : Step (fun _ => False) W1 (W1.drewN nq) := by first | exact Step.refl | exact Step.refl.drewN _ | exact (Step.refl.drewN _).drewN _
  have HV := Lib.hid (H0.out.quiet sv)
  have SV := Lib.hid (S0.out.trans sv)
  have NV : N < (W1.drewN nq).heap.size := Nat.lt_of_lt_of_le N3 sv.size
  replace m0 := (sv.cell (p := ⟨N, 0, none⟩) N3 id).trans m0
  replace c0 := HV.out.kf.blk.cell 0
  replace c0 := c0.trans (show _ = some (Value.slice a.tA E.types.length a.tc) from rfl)
  replace c6 := HV.out.c6
  clear sv H0 S0
  generalize W1.drewN nq = V at *
  by_cases hlt : E.types.length ≤ y
  · have g1 : (E.types.length : Int) ≤ (y : Int) := by omega
    have HG : Hid (typeS E op y s = (s, 7)) := if_pos hlt
    clear hlt
    go_wp2_with fail
    go_ret
    rw [KRet, HGG.out, HG.out]
    exact ⟨rfl, KUp.after SV.out (KUp.same HV.out)⟩
  · have g1 : ¬ (E.types.length : Int) ≤ (y : Int) := by omega
    have g2 : (y : Int) < (E.types.length : Int) := by omega
    have hyl : y < E.types.length := by omega
    have hHT := HV.out.kf.types
    obtain ⟨bk, off, hA, hRb, hbl, hc⟩ := reads_row ftC 2 (by decide) (fun _ => rfl) hHT hyl
    have HG : Hid (typeS E op y s = callW op E.types[y] s) := by
      unfold Hid typeS
      rw [if_neg hlt, List.getD, List.getElem?_eq_getElem hyl]
      rfl
    have ht := hE.types E.types[y] (List.getElem_mem hyl)
    rw [hA] at c0
    generalize E.types[y] = t at hc HG ht
    obtain ⟨p, q⟩ := t
    have t0 := hc 0 _ rfl
    have t1 := hc 1 _ rfl
    rw [Nat.add_zero] at t0
    have ht1 := ht.1
    have ht2 := ht.2
    simp only at t0 t1 ht1 ht2
    clear hlt hHT hA hc ht
    have nzb : bk ≠ V.heap.size := Nat.ne_of_lt hbl
    have nzN : N ≠ V.heap.size := Nat.ne_of_lt NV
    have sT : Step (fun _ => False) V (V.alloc (.cells #[.string (str p), .string (str q)] 28)) := Step.refl.alloc _
    have HT := Lib.hid (HV.out.quiet sT)
    have m0' := (sT.cell (p := ⟨N, 0, none⟩) NV id).trans m0
    have ST := Lib.hid (SV.out.trans sT)
    have HIN : Hid (In V I) := fun k hk => Ctl.in_ (l := s.l) (fs := s.fs) HV.out.ctl k hk
    clear sT
    by_cases h17 : op = 17
    · exfalso
      have := beq_iff_eq.1 o16
      omega
    · have o17 := int_ne h17
      have HG2 : Hid (callW op (p, q) s = givesS p q s) := if_neg h17
      have HZ := Lib.hid (k_gives p q HT.out hb hn ht1 ht2)
      clear h17
      go_wp2_with fail
      refine HZ.out.mono ?_
      rintro e w3 ⟨rfl, u3⟩
      go_wp2_with fail
      go_ret
      rw [KRet, HGG.out, HG.out, HG2.out]
      exact ⟨rfl, KUp.after ST.out u3⟩

set_option maxRecDepth 100000 in
set_option maxHeartbeats 1600000 in
theorem k_call_17no (op x b m c : Nat) (A : Option Addr) (h : Kk w a E I s) (hb : s.ok n) (hn : n ≤ 1000) (o16 : ((op : Int) == 16) = false) (hE : E.ok) (hx : x < 18446744073709551616) (htb : E.table = false) :
    Calls Try.prog 48 #[.pointer (some ⟨a.k, 0, none⟩), .agg #[.int .u8 (op : Int), .int .u64 (x : Int), .int .u64 (b : Int), .slice A m c]] w (KRet w a E I (s, 20)) := by
  have s0 : Step (fun _ => False) w (w.alloc (.cells #[.int .u8 (op : Int), .int .u64 (x : Int), .int .u64 (b : Int), .slice A m c] 40)) := Step.refl.alloc _
  have b0 := Blk.new w 40 #[.int .u8 (op : Int), .int .u64 (x : Int), .int .u64 (b : Int), .slice A m c]
  have h0 := h.quiet s0
  have m0 := (b0.cell 0).trans (show _ = some (Value.int .u8 (op : Int)) from rfl)
  have m1 := (b0.cell 1).trans (show _ = some (Value.int .u64 (x : Int)) from rfl)
  have hNI : ¬ I w.heap.size := fun hk => by have := Ctl.in_ (l := s.l) (fs := s.fs) h.ctl _ hk; omega
  have N3 : w.heap.size < (w.alloc (.cells #[.int .u8 (op : Int), .int .u64 (x : Int), .int .u64 (b : Int), .slice A m c] 40)).heap.size := by simp
  have c6 := h0.c6
  have nkI := h0.kf.self
  have H0 := Lib.hid h0
  have S0 := Lib.hid s0
  have B0 := Lib.hid b0
  clear b0 h0 h s0
  have c0 := (H0.out.kf.blk.cell 0).trans (show _ = some (Value.slice a.tA E.types.length a.tc) from rfl)
  have c1 := (H0.out.kf.blk.cell 1).trans (show _ = some (Value.slice a.fA E.funcs.length a.fc) from rfl)
  have c3 := (H0.out.kf.blk.cell 3).trans (show _ = some (Value.bool E.table) from rfl)
  have hwt := IntWalk.u64_in (E.types.length : Int) (by have := hE.nt; omega)
  have hwf := IntWalk.u64_in (E.funcs.length : Int) (by have := hE.nf; omega)
  have HNE : Hid (∃ N, N = w.heap.size) := ⟨_, rfl⟩
  obtain ⟨N, hN⟩ := HNE.out
  obtain ⟨W, hW⟩ : ∃ W, W = w.alloc (.cells #[.int .u8 (op : Int), .int .u64 (x : Int), .int .u64 (b : Int), .slice A m c] 40) := ⟨_, rfl⟩
  rw [← hW, ← hN] at N3
  rw [← hW] at m0 m1 c6 H0 S0 B0 c0 c1 c3
  rw [← hN] at m0 m1 hNI B0
  replace hN := Lib.hid hN
  replace hW := Lib.hid hW
  clear HNE
  rw [htb] at c3
  go_enter Try.func48, Try.ntmps48
  go_upto_region 6 with fail
  rw [← hW.out, ← hN.out]
  go_wp2_with fail
  go_ret
  exact ⟨rfl, KUp.after S0.out (KUp.same H0.out)⟩

set_option maxRecDepth 100000 in
set_option maxHeartbeats 1600000 in
theorem k_call_17 (op x b m c : Nat) (A : Option Addr) (h : Kk w a E I s) (hb : s.ok n) (hn : n ≤ 1000) (o16 : ((op : Int) == 16) = false) (hE : E.ok) (hx : x < 18446744073709551616) (htb : E.table = true) :
    Calls Try.prog 48 #[.pointer (some ⟨a.k, 0, none⟩), .agg #[.int .u8 (op : Int), .int .u64 (x : Int), .int .u64 (b : Int), .slice A m c]] w (KRet w a E I (typeS E op x s)) := by
  have s0 : Step (fun _ => False) w (w.alloc (.cells #[.int .u8 (op : Int), .int .u64 (x : Int), .int .u64 (b : Int), .slice A m c] 40)) := Step.refl.alloc _
  have b0 := Blk.new w 40 #[.int .u8 (op : Int), .int .u64 (x : Int), .int .u64 (b : Int), .slice A m c]
  have h0 := h.quiet s0
  have m0 := (b0.cell 0).trans (show _ = some (Value.int .u8 (op : Int)) from rfl)
  have m1 := (b0.cell 1).trans (show _ = some (Value.int .u64 (x : Int)) from rfl)
  have hNI : ¬ I w.heap.size := fun hk => by have := Ctl.in_ (l := s.l) (fs := s.fs) h.ctl _ hk; omega
  have N3 : w.heap.size < (w.alloc (.cells #[.int .u8 (op : Int), .int .u64 (x : Int), .int .u64 (b : Int), .slice A m c] 40)).heap.size := by simp
  have c6 := h0.c6
  have nkI := h0.kf.self
  have H0 := Lib.hid h0
  have S0 := Lib.hid s0
  have B0 := Lib.hid b0
  clear b0 h0 h s0
  have c0 := (H0.out.kf.blk.cell 0).trans (show _ = some (Value.slice a.tA E.types.length a.tc) from rfl)
  have c1 := (H0.out.kf.blk.cell 1).trans (show _ = some (Value.slice a.fA E.funcs.length a.fc) from rfl)
  have c3 := (H0.out.kf.blk.cell 3).trans (show _ = some (Value.bool E.table) from rfl)
  have hwt := IntWalk.u64_in (E.types.length : Int) (by have := hE.nt; omega)
  have hwf := IntWalk.u64_in (E.funcs.length : Int) (by have := hE.nf; omega)
  have HNE : Hid (∃ N, N = w.heap.size) := ⟨_, rfl⟩
  obtain ⟨N, hN⟩ := HNE.out
  obtain ⟨W, hW⟩ : ∃ W, W = w.alloc (.cells #[.int .u8 (op : Int), .int .u64 (x : Int), .int .u64 (b : Int), .slice A m c] 40) := ⟨_, rfl⟩
  rw [← hW, ← hN] at N3
  rw [← hW] at m0 m1 c6 H0 S0 B0 c0 c1 c3
  rw [← hN] at m0 m1 hNI B0
  replace hN := Lib.hid hN
  replace hW := Lib.hid hW
  clear HNE
  rw [htb] at c3
  have HGG : Hid (typeS E op x s = typeS E op x s) := rfl
  have c0' := c0
  replace c0' := Lib.hid c0'
  clear c0
  go_enter Try.func48, Try.ntmps48
  go_upto_region 6 with fail
  rw [← hW.out, ← hN.out]
  go_upto_region 8 with fail
  have sv : Step (fun _ => False) W (W) := by first | exact Step.refl | exact Step.refl.drewN _ | exact (Step.refl.drewN _).drewN _
  have HV := Lib.hid (H0.out.quiet sv)
  have SV := Lib.hid (S0.out.trans sv)
  have NV : N < (W).heap.size := Nat.lt_of_lt_of_le N3 sv.size
  replace m0 := (sv.cell (p := ⟨N, 0, none⟩) N3 id).trans m0
  have c0 := HV.out.kf.blk.cell 0
  replace c0 := c0.trans (show _ = some (Value.slice a.tA E.types.length a.tc) from rfl)
  replace c6 := HV.out.c6
  clear sv H0 S0 B0 m1 c1 c3
  generalize W = V at *
  by_cases hlt : E.types.length ≤ x
  · have g1 : (E.types.length : Int) ≤ (x : Int) := by omega
    have HG : Hid (typeS E op x s = (s, 7)) := if_pos hlt
    clear hlt
    go_wp2_with fail
    go_ret
    rw [KRet, HG.out]
    exact ⟨rfl, KUp.after SV.out (KUp.same HV.out)⟩
  · have g1 : ¬ (E.types.length : Int) ≤ (x : Int) := by omega
    have g2 : (x : Int) < (E.types.length : Int) := by omega
    have hyl : x < E.types.length := by omega
    have hHT := HV.out.kf.types
    obtain ⟨bk, off, hA, hRb, hbl, hc⟩ := reads_row ftC 2 (by decide) (fun _ => rfl) hHT hyl
    have HG : Hid (typeS E op x s = callW op E.types[x] s) := by
      unfold Hid typeS
      rw [if_neg hlt, List.getD, List.getElem?_eq_getElem hyl]
      rfl
    have ht := hE.types E.types[x] (List.getElem_mem hyl)
    rw [hA] at c0
    generalize E.types[x] = t at hc HG ht
    obtain ⟨p, q⟩ := t
    have t0 := hc 0 _ rfl
    have t1 := hc 1 _ rfl
    rw [Nat.add_zero] at t0
    have ht1 := ht.1
    have ht2 := ht.2
    simp only at t0 t1 ht1 ht2
    clear hlt hHT hA hc ht
    have nzb : bk ≠ V.heap.size := Nat.ne_of_lt hbl
    have nzN : N ≠ V.heap.size := Nat.ne_of_lt NV
    have sT : Step (fun _ => False) V (V.alloc (.cells #[.string (str p), .string (str q)] 28)) := Step.refl.alloc _
    have HT := Lib.hid (HV.out.quiet sT)
    have m0' := (sT.cell (p := ⟨N, 0, none⟩) NV id).trans m0
    have ST := Lib.hid (SV.out.trans sT)
    have HIN : Hid (In V I) := fun k hk => Ctl.in_ (l := s.l) (fs := s.fs) HV.out.ctl k hk
    clear sT
    by_cases h17 : op = 17
    · have o17 := int_eq h17
      have hg2 : callW op (p, q) s = if (wantE 127 s).2 = 0 then givesS p q (wantE 127 s).1 else wantE 127 s := if_pos h17
      have HW := Lib.hid (k_want 127 HT.out hb hn)
      have hb1 := hb.wantE 127
      generalize wantE 127 s = r at hg2 HW hb1
      obtain ⟨s1, e1⟩ := r
      simp only at hg2 hb1
      have HG2 := Lib.hid hg2
      have HB1 := Lib.hid hb1
      clear hg2 hb1 h17
      by_cases hq : e1 = 0
      · subst hq
        go_wp2_with fail
        refine HW.out.mono ?_
        rintro e w2 ⟨rfl, I1, h1, p1⟩
        have b1 := (Blk.new V 28 #[.string (str p), .string (str q)]).step p1.1 (fun hk => by have := HIN.out _ hk; omega)
        have k0 := (b1.cell 0).trans (show _ = some (Value.string (str p)) from rfl)
        have k1 := (b1.cell 1).trans (show _ = some (Value.string (str q)) from rfl)
        have HZ := Lib.hid (k_gives p q h1 HB1.out hn ht1 ht2)
        have P1 := Lib.hid p1
        clear h1 p1 b1
        go_wp2_with fail
        refine HZ.out.mono ?_
        rintro e w3 ⟨rfl, u3⟩
        go_wp2_with fail
        go_ret
        rw [KRet, HG.out, HG2.out, if_pos trivial]
        exact ⟨rfl, KUp.after ST.out (KUp.trans P1.out u3)⟩
      · have q1 : (e1 != 0) = true := by simpa using hq
        have HE := Lib.hid hq
        clear hq
        go_wp2_with fail
        refine HW.out.mono ?_
        rintro e w2 ⟨rfl, u2⟩
        go_wp2_with fail
        go_ret
        rw [KRet, HG.out, HG2.out, if_neg HE.out]
        exact ⟨rfl, KUp.after ST.out u2⟩
    · have o17 := int_ne h17
      have HG2 : Hid (callW op (p, q) s = givesS p q s) := if_neg h17
      have HZ := Lib.hid (k_gives p q HT.out hb hn ht1 ht2)
      clear h17
      go_wp2_with fail
      refine HZ.out.mono ?_
      rintro e w3 ⟨rfl, u3⟩
      go_wp2_with fail
      go_ret
      rw [KRet, HG.out, HG2.out]
      exact ⟨rfl, KUp.after ST.out u3⟩
end
end Go.Proofs.Ytpebdfgfikjkeaa
