/-
  Kki: KkI, KkJ, KkK.
-/
import Derived.Test.YtpebdfgfikjkeaaKkf
import Derived.Test.YtpebdfgfikjkeaaBk
set_option linter.unusedVariables false
set_option linter.unusedSimpArgs false
/-! check.checker.one. -/
namespace Go.Proofs.Ytpebdfgfikjkeaa
open Go.RowKit

set_option maxRecDepth 100000 in
theorem inf_small : ∀ op, op < 256 → (infF op).par.length ≤ 100 ∧ (infF op).res.length ≤ 100 := by
  have h : (List.range 256).all (fun op => decide ((infF op).par.length ≤ 100) && decide ((infF op).res.length ≤ 100)) = true := by kernel_rfl
  intro op ho
  have := List.all_eq_true.1 h op (List.mem_range.2 ho)
  simpa using this
theorem imm_blk : (infF 2).imm = 1 ∧ (infF 3).imm = 1 ∧ (infF 4).imm = 1 := ⟨by kernel_rfl, by kernel_rfl, by kernel_rfl⟩
theorem rgt_blk {op x b m : Nat} (h : rgtF op x b m = 0) (ho : op = 2 ∨ op = 3 ∨ op = 4) : x < 256 := by
  have hi : (infF op).imm = 1 := by
    rcases ho with rfl | rfl | rfl
    · exact imm_blk.1
    · exact imm_blk.2.1
    · exact imm_blk.2.2
  unfold rgtF at h
  rw [hi] at h
  split at h
  · unfold immF at h
    split at h
    · simp at h
    · split at h
      · simp at h
      · simp at h
        unfold blkF at h
        split at h
        · omega
        · split at h
          · simp at h
          · omega
  · omega
def plainS (E : Ke) (op x : Nat) (s : Ss) : Ss × Int := if (40 ≤ op ∧ op ≤ 64) ∧ ¬ memE E op x = 0 then (s, memE E op x) else givesS (infF op).par (infF op).res s
def oneS (E : Ke) (op x b m : Nat) (L : List Nat) (s : Ss) : Ss × Int :=
  if rgtF op x b m = 0 then
    (if op = 16 ∨ op = 17 then callS E op x s else if op = 26 ∨ op = 27 then chooseS op s else if 32 ≤ op ∧ op ≤ 36 then variableS E op x s
     else if (infF op).free = true then controlS E op x L s else plainS E op x s)
  else (s, (rgtF op x b m : Nat))
theorem Ss.ok.one {n : Nat} {s : Ss} (h : s.ok n) {E : Ke} (hE : E.ok) (op x b m : Nat) (L : List Nat) (ho : op < 256) : (oneS E op x b m L s).1.ok (n + 1) := by
  unfold oneS
  split
  · split
    · exact h.call hE op x
    · split
      · exact h.choose op
      · split
        · exact h.variable_ E op x
        · split
          · exact h.control E op x L
          · unfold plainS
            split
            · exact h.less (by omega)
            · exact h.gives _ _ (inf_small op ho).2
  · exact h.less (by omega)
section
variable {w : World} {a : Ka} {E : Ke} {I : Nat → Prop} {s : Ss} {n : Nat}

set_option maxRecDepth 100000 in
set_option maxHeartbeats 1600000 in
theorem k_one_no (op x b m c : Nat) (A : Option Addr) (h : Kk w a E I s) (hb : s.ok n) (hn : n ≤ 1000) (hE : E.ok) (ho : op < 256) (hx : x < 18446744073709551616) (hr : ¬ rgtF op x b m = 0) :
    Calls Try.prog 16 #[.pointer (some ⟨a.k, 0, none⟩), .agg #[.int .u8 (op : Int), .int .u64 (x : Int), .int .u64 (b : Int), .slice A m c]] w (KRet w a E I (s, (rgtF op x b m : Nat))) := by
  have s0 : Step (fun _ => False) w (w.alloc (.cells #[.int .u8 (op : Int), .int .u64 (x : Int), .int .u64 (b : Int), .slice A m c] 40)) := Step.refl.alloc _
  have b0 := Blk.new w 40 #[.int .u8 (op : Int), .int .u64 (x : Int), .int .u64 (b : Int), .slice A m c]
  have h0 := h.quiet s0
  have m0 := (b0.cell 0).trans (show _ = some (Value.int .u8 (op : Int)) from rfl)
  have m1 := (b0.cell 1).trans (show _ = some (Value.int .u64 (x : Int)) from rfl)
  have hNI : ¬ I w.heap.size := fun hk => by have := Ctl.in_ (l := s.l) (fs := s.fs) h.ctl _ hk; omega
  have N3 : w.heap.size < (w.alloc (.cells #[.int .u8 (op : Int), .int .u64 (x : Int), .int .u64 (b : Int), .slice A m c] 40)).heap.size := by simp
  have c6 := h0.c6
  have nkI := h0.kf.self
  have H0 := Lib.hid h0
  have S0 := Lib.hid s0
  have B0 := Lib.hid b0
  clear b0 h0 h s0
  have HR : Hid (∀ W, Calls Try.prog 46 #[.agg #[.int .u8 (op : Int), .int .u64 (x : Int), .int .u64 (b : Int), .slice A m c]] W fun e w' => e = .returned (.int .i64 (rgtF op x b m : Nat)) ∧ Step (fun _ => False) W w') := fun W => right_walk W op x b m c A ho
  generalize rgtF op x b m = r at hr HR ⊢
  have g1 : ((r : Int) != 0) = true := by simp; omega
  clear hr
  go_enter Try.func16, Try.ntmps16
  go_wp2_with fail
  refine (HR.out _).mono ?_
  rintro e w1 ⟨rfl, t1⟩
  go_wp2_with fail
  go_ret
  exact ⟨rfl, KUp.after S0.out (KUp.quiet (KUp.same H0.out) t1)⟩

set_option maxRecDepth 100000 in
set_option maxHeartbeats 1600000 in
theorem k_one_call0 (op x b m c : Nat) (A : Option Addr) (h : Kk w a E I s) (hb : s.ok n) (hn : n ≤ 1000) (hE : E.ok) (ho : op < 256) (hx : x < 18446744073709551616) (hr : rgtF op x b m = 0) (o16 : ((op : Int) == 16) = true) :
    Calls Try.prog 16 #[.pointer (some ⟨a.k, 0, none⟩), .agg #[.int .u8 (op : Int), .int .u64 (x : Int), .int .u64 (b : Int), .slice A m c]] w (KRet w a E I (callS E op x s)) := by
  have s0 : Step (fun _ => False) w (w.alloc (.cells #[.int .u8 (op : Int), .int .u64 (x : Int), .int .u64 (b : Int), .slice A m c] 40)) := Step.refl.alloc _
  have b0 := Blk.new w 40 #[.int .u8 (op : Int), .int .u64 (x : Int), .int .u64 (b : Int), .slice A m c]
  have h0 := h.quiet s0
  have m0 := (b0.cell 0).trans (show _ = some (Value.int .u8 (op : Int)) from rfl)
  have m1 := (b0.cell 1).trans (show _ = some (Value.int .u64 (x : Int)) from rfl)
  have hNI : ¬ I w.heap.size := fun hk => by have := Ctl.in_ (l := s.l) (fs := s.fs) h.ctl _ hk; omega
  have N3 : w.heap.size < (w.alloc (.cells #[.int .u8 (op : Int), .int .u64 (x : Int), .int .u64 (b : Int), .slice A m c] 40)).heap.size := by simp
  have c6 := h0.c6
  have nkI := h0.kf.self
  have H0 := Lib.hid h0
  have S0 := Lib.hid s0
  have B0 := Lib.hid b0
  clear b0 h0 h s0
  have HR : Hid (∀ W, Calls Try.prog 46 #[.agg #[.int .u8 (op : Int), .int .u64 (x : Int), .int .u64 (b : Int), .slice A m c]] W fun e w' => e = .returned (.int .i64 (rgtF op x b m : Nat)) ∧ Step (fun _ => False) W w') := fun W => right_walk W op x b m c A ho
  rw [hr] at HR
  have HO : Hid (∀ W, Calls Try.prog 47 #[.int .u8 (op : Int)] W fun e w' => e = .returned (infM (infF op) ((infF op).imm : Int)) ∧ Step (fun _ => False) W w') := fun W => of_walk W op ho
  clear hr
  generalize infF op = i at *
  go_enter Try.func16, Try.ntmps16
  go_wp2_with fail
  refine (HR.out _).mono ?_
  rintro e w1 ⟨rfl, t1⟩
  replace m0 := (t1.cell (p := ⟨w.heap.size, 0, none⟩) N3 id).trans m0
  have HB1 := Lib.hid (B0.out.step t1 id)
  have N4 : w.heap.size < w1.heap.size := Nat.lt_of_lt_of_le N3 t1.size
  have T1 := Lib.hid t1
  clear t1
  go_wp2_with fail
  refine (HO.out _).mono ?_
  rintro e w2 ⟨rfl, t2⟩
  replace m0 := (t2.cell (p := ⟨w.heap.size, 0, none⟩) N4 id).trans m0
  have HB2 := Lib.hid (HB1.out.step t2 id)
  have N5 : w.heap.size < w2.heap.size := Nat.lt_of_lt_of_le N4 t2.size
  have m1' := (HB2.out.cell 1).trans (show _ = some (Value.int .u64 (x : Int)) from rfl)
  have m2' := (HB2.out.cell 2).trans (show _ = some (Value.int .u64 (b : Int)) from rfl)
  have m3' := (HB2.out.cell 3).trans (show _ = some (Value.slice A m c) from rfl)
  have nN : w.heap.size ≠ w2.heap.size := Nat.ne_of_lt N5
  have TT := Lib.hid ((T1.out.trans t2).alloc (.cells #[.string (str i.name), .int .i64 (i.imm : Int), .string (str i.par), .string (str i.res), .bool i.free] 117))
  have H2 := Lib.hid (H0.out.quiet TT.out)
  unfold infM
  clear t2 m1
  go_wp2_with fail
  refine (k_call op x b m c A H2.out hb hn hE hx).mono ?_
  rintro e w3 ⟨rfl, u3⟩
  go_wp2_with fail
  go_ret
  exact ⟨rfl, KUp.after S0.out (KUp.after TT.out u3)⟩

set_option maxRecDepth 100000 in
set_option maxHeartbeats 1600000 in
theorem k_one_call1 (op x b m c : Nat) (A : Option Addr) (h : Kk w a E I s) (hb : s.ok n) (hn : n ≤ 1000) (hE : E.ok) (ho : op < 256) (hx : x < 18446744073709551616) (hr : rgtF op x b m = 0) (o16 : ((op : Int) == 16) = false) (o17 : ((op : Int) == 17) = true) :
    Calls Try.prog 16 #[.pointer (some ⟨a.k, 0, none⟩), .agg #[.int .u8 (op : Int), .int .u64 (x : Int), .int .u64 (b : Int), .slice A m c]] w (KRet w a E I (callS E op x s)) := by
  have s0 : Step (fun _ => False) w (w.alloc (.cells #[.int .u8 (op : Int), .int .u64 (x : Int), .int .u64 (b : Int), .slice A m c] 40)) := Step.refl.alloc _
  have b0 := Blk.new w 40 #[.int .u8 (op : Int), .int .u64 (x : Int), .int .u64 (b : Int), .slice A m c]
  have h0 := h.quiet s0
  have m0 := (b0.cell 0).trans (show _ = some (Value.int .u8 (op : Int)) from rfl)
  have m1 := (b0.cell 1).trans (show _ = some (Value.int .u64 (x : Int)) from rfl)
  have hNI : ¬ I w.heap.size := fun hk => by have := Ctl.in_ (l := s.l) (fs := s.fs) h.ctl _ hk; omega
  have N3 : w.heap.size < (w.alloc (.cells #[.int .u8 (op : Int), .int .u64 (x : Int), .int .u64 (b : Int), .slice A m c] 40)).heap.size := by simp
  have c6 := h0.c6
  have nkI := h0.kf.self
  have H0 := Lib.hid h0
  have S0 := Lib.hid s0
  have B0 := Lib.hid b0
  clear b0 h0 h s0
  have HR : Hid (∀ W, Calls Try.prog 46 #[.agg #[.int .u8 (op : Int), .int .u64 (x : Int), .int .u64 (b : Int), .slice A m c]] W fun e w' => e = .returned (.int .i64 (rgtF op x b m : Nat)) ∧ Step (fun _ => False) W w') := fun W => right_walk W op x b m c A ho
  rw [hr] at HR
  have HO : Hid (∀ W, Calls Try.prog 47 #[.int .u8 (op : Int)] W fun e w' => e = .returned (infM (infF op) ((infF op).imm : Int)) ∧ Step (fun _ => False) W w') := fun W => of_walk W op ho
  clear hr
  generalize infF op = i at *
  go_enter Try.func16, Try.ntmps16
  go_wp2_with fail
  refine (HR.out _).mono ?_
  rintro e w1 ⟨rfl, t1⟩
  replace m0 := (t1.cell (p := ⟨w.heap.size, 0, none⟩) N3 id).trans m0
  have HB1 := Lib.hid (B0.out.step t1 id)
  have N4 : w.heap.size < w1.heap.size := Nat.lt_of_lt_of_le N3 t1.size
  have T1 := Lib.hid t1
  clear t1
  go_wp2_with fail
  refine (HO.out _).mono ?_
  rintro e w2 ⟨rfl, t2⟩
  replace m0 := (t2.cell (p := ⟨w.heap.size, 0, none⟩) N4 id).trans m0
  have HB2 := Lib.hid (HB1.out.step t2 id)
  have N5 : w.heap.size < w2.heap.size := Nat.lt_of_lt_of_le N4 t2.size
  have m1' := (HB2.out.cell 1).trans (show _ = some (Value.int .u64 (x : Int)) from rfl)
  have m2' := (HB2.out.cell 2).trans (show _ = some (Value.int .u64 (b : Int)) from rfl)
  have m3' := (HB2.out.cell 3).trans (show _ = some (Value.slice A m c) from rfl)
  have nN : w.heap.size ≠ w2.heap.size := Nat.ne_of_lt N5
  have TT := Lib.hid ((T1.out.trans t2).alloc (.cells #[.string (str i.name), .int .i64 (i.imm : Int), .string (str i.par), .string (str i.res), .bool i.free] 117))
  have H2 := Lib.hid (H0.out.quiet TT.out)
  unfold infM
  clear t2 m1
  go_wp2_with fail
  refine (k_call op x b m c A H2.out hb hn hE hx).mono ?_
  rintro e w3 ⟨rfl, u3⟩
  go_wp2_with fail
  go_ret
  exact ⟨rfl, KUp.after S0.out (KUp.after TT.out u3)⟩

set_option maxRecDepth 100000 in
set_option maxHeartbeats 1600000 in
theorem k_one_choose0 (op x b m c : Nat) (A : Option Addr) (h : Kk w a E I s) (hb : s.ok n) (hn : n ≤ 1000) (hE : E.ok) (ho : op < 256) (hx : x < 18446744073709551616) (hr : rgtF op x b m = 0) (o16 : ((op : Int) == 16) = false) (o17 : ((op : Int) == 17) = false) (o26 : ((op : Int) == 26) = true) :
    Calls Try.prog 16 #[.pointer (some ⟨a.k, 0, none⟩), .agg #[.int .u8 (op : Int), .int .u64 (x : Int), .int .u64 (b : Int), .slice A m c]] w (KRet w a E I (chooseS op s)) := by
  have s0 : Step (fun _ => False) w (w.alloc (.cells #[.int .u8 (op : Int), .int .u64 (x : Int), .int .u64 (b : Int), .slice A m c] 40)) := Step.refl.alloc _
  have b0 := Blk.new w 40 #[.int .u8 (op : Int), .int .u64 (x : Int), .int .u64 (b : Int), .slice A m c]
  have h0 := h.quiet s0
  have m0 := (b0.cell 0).trans (show _ = some (Value.int .u8 (op : Int)) from rfl)
  have m1 := (b0.cell 1).trans (show _ = some (Value.int .u64 (x : Int)) from rfl)
  have hNI : ¬ I w.heap.size := fun hk => by have := Ctl.in_ (l := s.l) (fs := s.fs) h.ctl _ hk; omega
  have N3 : w.heap.size < (w.alloc (.cells #[.int .u8 (op : Int), .int .u64 (x : Int), .int .u64 (b : Int), .slice A m c] 40)).heap.size := by simp
  have c6 := h0.c6
  have nkI := h0.kf.self
  have H0 := Lib.hid h0
  have S0 := Lib.hid s0
  have B0 := Lib.hid b0
  clear b0 h0 h s0
  have HR : Hid (∀ W, Calls Try.prog 46 #[.agg #[.int .u8 (op : Int), .int .u64 (x : Int), .int .u64 (b : Int), .slice A m c]] W fun e w' => e = .returned (.int .i64 (rgtF op x b m : Nat)) ∧ Step (fun _ => False) W w') := fun W => right_walk W op x b m c A ho
  rw [hr] at HR
  have HO : Hid (∀ W, Calls Try.prog 47 #[.int .u8 (op : Int)] W fun e w' => e = .returned (infM (infF op) ((infF op).imm : Int)) ∧ Step (fun _ => False) W w') := fun W => of_walk W op ho
  clear hr
  generalize infF op = i at *
  go_enter Try.func16, Try.ntmps16
  go_wp2_with fail
  refine (HR.out _).mono ?_
  rintro e w1 ⟨rfl, t1⟩
  replace m0 := (t1.cell (p := ⟨w.heap.size, 0, none⟩) N3 id).trans m0
  have HB1 := Lib.hid (B0.out.step t1 id)
  have N4 : w.heap.size < w1.heap.size := Nat.lt_of_lt_of_le N3 t1.size
  have T1 := Lib.hid t1
  clear t1
  go_wp2_with fail
  refine (HO.out _).mono ?_
  rintro e w2 ⟨rfl, t2⟩
  replace m0 := (t2.cell (p := ⟨w.heap.size, 0, none⟩) N4 id).trans m0
  have HB2 := Lib.hid (HB1.out.step t2 id)
  have N5 : w.heap.size < w2.heap.size := Nat.lt_of_lt_of_le N4 t2.size
  have m1' := (HB2.out.cell 1).trans (show _ = some (Value.int .u64 (x : Int)) from rfl)
  have m2' := (HB2.out.cell 2).trans (show _ = some (Value.int .u64 (b : Int)) from rfl)
  have m3' := (HB2.out.cell 3).trans (show _ = some (Value.slice A m c) from rfl)
  have nN : w.heap.size ≠ w2.heap.size := Nat.ne_of_lt N5
  have TT := Lib.hid ((T1.out.trans t2).alloc (.cells #[.string (str i.name), .int .i64 (i.imm : Int), .string (str i.par), .string (str i.res), .bool i.free] 117))
  have H2 := Lib.hid (H0.out.quiet TT.out)
  unfold infM
  clear t2 m1
  go_wp2_with fail
  refine (k_choose op x b m c A H2.out hb hn).mono ?_
  rintro e w3 ⟨rfl, u3⟩
  go_wp2_with fail
  go_ret
  exact ⟨rfl, KUp.after S0.out (KUp.after TT.out u3)⟩

set_option maxRecDepth 100000 in
set_option maxHeartbeats 1600000 in
theorem k_one_choose1 (op x b m c : Nat) (A : Option Addr) (h : Kk w a E I s) (hb : s.ok n) (hn : n ≤ 1000) (hE : E.ok) (ho : op < 256) (hx : x < 18446744073709551616) (hr : rgtF op x b m = 0) (o16 : ((op : Int) == 16) = false) (o17 : ((op : Int) == 17) = false) (o26 : ((op : Int) == 26) = false) (o27 : ((op : Int) == 27) = true) :
    Calls Try.prog 16 #[.pointer (some ⟨a.k, 0, none⟩), .agg #[.int .u8 (op : Int), .int .u64 (x : Int), .int .u64 (b : Int), .slice A m c]] w (KRet w a E I (chooseS op s)) := by
  have s0 : Step (fun _ => False) w (w.alloc (.cells #[.int .u8 (op : Int), .int .u64 (x : Int), .int .u64 (b : Int), .slice A m c] 40)) := Step.refl.alloc _
  have b0 := Blk.new w 40 #[.int .u8 (op : Int), .int .u64 (x : Int), .int .u64 (b : Int), .slice A m c]
  have h0 := h.quiet s0
  have m0 := (b0.cell 0).trans (show _ = some (Value.int .u8 (op : Int)) from rfl)
  have m1 := (b0.cell 1).trans (show _ = some (Value.int .u64 (x : Int)) from rfl)
  have hNI : ¬ I w.heap.size := fun hk => by have := Ctl.in_ (l := s.l) (fs := s.fs) h.ctl _ hk; omega
  have N3 : w.heap.size < (w.alloc (.cells #[.int .u8 (op : Int), .int .u64 (x : Int), .int .u64 (b : Int), .slice A m c] 40)).heap.size := by simp
  have c6 := h0.c6
  have nkI := h0.kf.self
  have H0 := Lib.hid h0
  have S0 := Lib.hid s0
  have B0 := Lib.hid b0
  clear b0 h0 h s0
  have HR : Hid (∀ W, Calls Try.prog 46 #[.agg #[.int .u8 (op : Int), .int .u64 (x : Int), .int .u64 (b : Int), .slice A m c]] W fun e w' => e = .returned (.int .i64 (rgtF op x b m : Nat)) ∧ Step (fun _ => False) W w') := fun W => right_walk W op x b m c A ho
  rw [hr] at HR
  have HO : Hid (∀ W, Calls Try.prog 47 #[.int .u8 (op : Int)] W fun e w' => e = .returned (infM (infF op) ((infF op).imm : Int)) ∧ Step (fun _ => False) W w') := fun W => of_walk W op ho
  clear hr
  generalize infF op = i at *
  go_enter Try.func16, Try.ntmps16
  go_wp2_with fail
  refine (HR.out _).mono ?_
  rintro e w1 ⟨rfl, t1⟩
  replace m0 := (t1.cell (p := ⟨w.heap.size, 0, none⟩) N3 id).trans m0
  have HB1 := Lib.hid (B0.out.step t1 id)
  have N4 : w.heap.size < w1.heap.size := Nat.lt_of_lt_of_le N3 t1.size
  have T1 := Lib.hid t1
  clear t1
  go_wp2_with fail
  refine (HO.out _).mono ?_
  rintro e w2 ⟨rfl, t2⟩
  replace m0 := (t2.cell (p := ⟨w.heap.size, 0, none⟩) N4 id).trans m0
  have HB2 := Lib.hid (HB1.out.step t2 id)
  have N5 : w.heap.size < w2.heap.size := Nat.lt_of_lt_of_le N4 t2.size
  have m1' := (HB2.out.cell 1).trans (show _ = some (Value.int .u64 (x : Int)) from rfl)
  have m2' := (HB2.out.cell 2).trans (show _ = some (Value.int .u64 (b : Int)) from rfl)
  have m3' := (HB2.out.cell 3).trans (show _ = some (Value.slice A m c) from rfl)
  have nN : w.heap.size ≠ w2.heap.size := Nat.ne_of_lt N5
  have TT := Lib.hid ((T1.out.trans t2).alloc (.cells #[.string (str i.name), .int .i64 (i.imm : Int), .string (str i.par), .string (str i.res), .bool i.free] 117))
  have H2 := Lib.hid (H0.out.quiet TT.out)
  unfold infM
  clear t2 m1
  go_wp2_with fail
  refine (k_choose op x b m c A H2.out hb hn).mono ?_
  rintro e w3 ⟨rfl, u3⟩
  go_wp2_with fail
  go_ret
  exact ⟨rfl, KUp.after S0.out (KUp.after TT.out u3)⟩

set_option maxRecDepth 100000 in
set_option maxHeartbeats 1600000 in
theorem k_one_variable0 (op x b m c : Nat) (A : Option Addr) (h : Kk w a E I s) (hb : s.ok n) (hn : n ≤ 1000) (hE : E.ok) (ho : op < 256) (hx : x < 18446744073709551616) (hr : rgtF op x b m = 0) (o16 : ((op : Int) == 16) = false) (o17 : ((op : Int) == 17) = false) (o26 : ((op : Int) == 26) = false) (o27 : ((op : Int) == 27) = false) (g1 : (32 : Int) ≤ (op : Int)) (g2 : (op : Int) ≤ 36) :
    Calls Try.prog 16 #[.pointer (some ⟨a.k, 0, none⟩), .agg #[.int .u8 (op : Int), .int .u64 (x : Int), .int .u64 (b : Int), .slice A m c]] w (KRet w a E I (variableS E op x s)) := by
  have s0 : Step (fun _ => False) w (w.alloc (.cells #[.int .u8 (op : Int), .int .u64 (x : Int), .int .u64 (b : Int), .slice A m c] 40)) := Step.refl.alloc _
  have b0 := Blk.new w 40 #[.int .u8 (op : Int), .int .u64 (x : Int), .int .u64 (b : Int), .slice A m c]
  have h0 := h.quiet s0
  have m0 := (b0.cell 0).trans (show _ = some (Value.int .u8 (op : Int)) from rfl)
  have m1 := (b0.cell 1).trans (show _ = some (Value.int .u64 (x : Int)) from rfl)
  have hNI : ¬ I w.heap.size := fun hk => by have := Ctl.in_ (l := s.l) (fs := s.fs) h.ctl _ hk; omega
  have N3 : w.heap.size < (w.alloc (.cells #[.int .u8 (op : Int), .int .u64 (x : Int), .int .u64 (b : Int), .slice A m c] 40)).heap.size := by simp
  have c6 := h0.c6
  have nkI := h0.kf.self
  have H0 := Lib.hid h0
  have S0 := Lib.hid s0
  have B0 := Lib.hid b0
  clear b0 h0 h s0
  have HR : Hid (∀ W, Calls Try.prog 46 #[.agg #[.int .u8 (op : Int), .int .u64 (x : Int), .int .u64 (b : Int), .slice A m c]] W fun e w' => e = .returned (.int .i64 (rgtF op x b m : Nat)) ∧ Step (fun _ => False) W w') := fun W => right_walk W op x b m c A ho
  rw [hr] at HR
  have HO : Hid (∀ W, Calls Try.prog 47 #[.int .u8 (op : Int)] W fun e w' => e = .returned (infM (infF op) ((infF op).imm : Int)) ∧ Step (fun _ => False) W w') := fun W => of_walk W op ho
  clear hr
  generalize infF op = i at *
  go_enter Try.func16, Try.ntmps16
  go_wp2_with fail
  refine (HR.out _).mono ?_
  rintro e w1 ⟨rfl, t1⟩
  replace m0 := (t1.cell (p := ⟨w.heap.size, 0, none⟩) N3 id).trans m0
  have HB1 := Lib.hid (B0.out.step t1 id)
  have N4 : w.heap.size < w1.heap.size := Nat.lt_of_lt_of_le N3 t1.size
  have T1 := Lib.hid t1
  clear t1
  go_wp2_with fail
  refine (HO.out _).mono ?_
  rintro e w2 ⟨rfl, t2⟩
  replace m0 := (t2.cell (p := ⟨w.heap.size, 0, none⟩) N4 id).trans m0
  have HB2 := Lib.hid (HB1.out.step t2 id)
  have N5 : w.heap.size < w2.heap.size := Nat.lt_of_lt_of_le N4 t2.size
  have m1' := (HB2.out.cell 1).trans (show _ = some (Value.int .u64 (x : Int)) from rfl)
  have m2' := (HB2.out.cell 2).trans (show _ = some (Value.int .u64 (b : Int)) from rfl)
  have m3' := (HB2.out.cell 3).trans (show _ = some (Value.slice A m c) from rfl)
  have nN : w.heap.size ≠ w2.heap.size := Nat.ne_of_lt N5
  have TT := Lib.hid ((T1.out.trans t2).alloc (.cells #[.string (str i.name), .int .i64 (i.imm : Int), .string (str i.par), .string (str i.res), .bool i.free] 117))
  have H2 := Lib.hid (H0.out.quiet TT.out)
  unfold infM
  clear t2 m1
  go_wp2_with fail
  refine (k_variable op x b m c A H2.out hb hn hE hx).mono ?_
  rintro e w3 ⟨rfl, u3⟩
  go_wp2_with fail
  go_ret
  exact ⟨rfl, KUp.after S0.out (KUp.after TT.out u3)⟩

set_option maxRecDepth 100000 in
set_option maxHeartbeats 1600000 in
theorem k_one_control0 (op x b m c : Nat) (A : Option Addr) (h : Kk w a E I s) (hb : s.ok n) (hn : n ≤ 1000) (hE : E.ok) (ho : op < 256) (hx : x < 18446744073709551616) (hr : rgtF op x b m = 0) (o16 : ((op : Int) == 16) = false) (o17 : ((op : Int) == 17) = false) (o26 : ((op : Int) == 26) = false) (o27 : ((op : Int) == 27) = false) (g1 : ¬ (32 : Int) ≤ (op : Int)) (L : List Nat) (HM : Hid (m = L.length)) (hm : m ≤ 1000) (hL32 : ∀ y ∈ L, y < 4294967296) (hR : Reads w a.R 1 A m (L.flatMap fun y : Nat => [Value.int .u32 (y : Int)])) (hf : (infF op).free = true) :
    Calls Try.prog 16 #[.pointer (some ⟨a.k, 0, none⟩), .agg #[.int .u8 (op : Int), .int .u64 (x : Int), .int .u64 (b : Int), .slice A m c]] w (KRet w a E I (controlS E op x L s)) := by
  have s0 : Step (fun _ => False) w (w.alloc (.cells #[.int .u8 (op : Int), .int .u64 (x : Int), .int .u64 (b : Int), .slice A m c] 40)) := Step.refl.alloc _
  have b0 := Blk.new w 40 #[.int .u8 (op : Int), .int .u64 (x : Int), .int .u64 (b : Int), .slice A m c]
  have h0 := h.quiet s0
  have m0 := (b0.cell 0).trans (show _ = some (Value.int .u8 (op : Int)) from rfl)
  have m1 := (b0.cell 1).trans (show _ = some (Value.int .u64 (x : Int)) from rfl)
  have hNI : ¬ I w.heap.size := fun hk => by have := Ctl.in_ (l := s.l) (fs := s.fs) h.ctl _ hk; omega
  have N3 : w.heap.size < (w.alloc (.cells #[.int .u8 (op : Int), .int .u64 (x : Int), .int .u64 (b : Int), .slice A m c] 40)).heap.size := by simp
  have c6 := h0.c6
  have nkI := h0.kf.self
  have H0 := Lib.hid h0
  have S0 := Lib.hid s0
  have B0 := Lib.hid b0
  clear b0 h0 h s0
  have HR : Hid (∀ W, Calls Try.prog 46 #[.agg #[.int .u8 (op : Int), .int .u64 (x : Int), .int .u64 (b : Int), .slice A m c]] W fun e w' => e = .returned (.int .i64 (rgtF op x b m : Nat)) ∧ Step (fun _ => False) W w') := fun W => right_walk W op x b m c A ho
  rw [hr] at HR
  have HO : Hid (∀ W, Calls Try.prog 47 #[.int .u8 (op : Int)] W fun e w' => e = .returned (infM (infF op) ((infF op).imm : Int)) ∧ Step (fun _ => False) W w') := fun W => of_walk W op ho
  have hbl : op = 2 ∨ op = 3 ∨ op = 4 → x < 256 := rgt_blk hr
  have HBL := Lib.hid hbl
  have HR5 := Lib.hid hR
  have HL5 := Lib.hid hL32
  clear hr hbl hR hL32
  generalize infF op = i at *
  obtain ⟨inm, iim, ipar, ires, ifr⟩ := i
  simp only at hf
  subst hf
  go_enter Try.func16, Try.ntmps16
  go_wp2_with fail
  refine (HR.out _).mono ?_
  rintro e w1 ⟨rfl, t1⟩
  replace m0 := (t1.cell (p := ⟨w.heap.size, 0, none⟩) N3 id).trans m0
  have HB1 := Lib.hid (B0.out.step t1 id)
  have N4 : w.heap.size < w1.heap.size := Nat.lt_of_lt_of_le N3 t1.size
  have T1 := Lib.hid t1
  clear t1
  go_wp2_with fail
  refine (HO.out _).mono ?_
  rintro e w2 ⟨rfl, t2⟩
  replace m0 := (t2.cell (p := ⟨w.heap.size, 0, none⟩) N4 id).trans m0
  have HB2 := Lib.hid (HB1.out.step t2 id)
  have N5 : w.heap.size < w2.heap.size := Nat.lt_of_lt_of_le N4 t2.size
  have m1' := (HB2.out.cell 1).trans (show _ = some (Value.int .u64 (x : Int)) from rfl)
  have m2' := (HB2.out.cell 2).trans (show _ = some (Value.int .u64 (b : Int)) from rfl)
  have m3' := (HB2.out.cell 3).trans (show _ = some (Value.slice A m c) from rfl)
  have nN : w.heap.size ≠ w2.heap.size := Nat.ne_of_lt N5
  have TT := Lib.hid ((T1.out.trans t2).alloc (.cells #[.string (str inm), .int .i64 (iim : Int), .string (str ipar), .string (str ires), .bool true] 117))
  have H2 := Lib.hid (H0.out.quiet TT.out)
  unfold infM
  dsimp only
  clear t2 m1
  go_wp2_with fail
  refine (k_control op x b m c A H2.out hb hn L hx HM hm HL5.out (HR5.out.step (S0.out.trans TT.out) (fun _ _ => id)) hE.result HBL.out).mono ?_
  rintro e w3 ⟨rfl, u3⟩
  go_wp2_with fail
  go_ret
  exact ⟨rfl, KUp.after S0.out (KUp.after TT.out u3)⟩

set_option maxRecDepth 100000 in
set_option maxHeartbeats 1600000 in
theorem k_one_control1 (op x b m c : Nat) (A : Option Addr) (h : Kk w a E I s) (hb : s.ok n) (hn : n ≤ 1000) (hE : E.ok) (ho : op < 256) (hx : x < 18446744073709551616) (hr : rgtF op x b m = 0) (o16 : ((op : Int) == 16) = false) (o17 : ((op : Int) == 17) = false) (o26 : ((op : Int) == 26) = false) (o27 : ((op : Int) == 27) = false) (g1 : (32 : Int) ≤ (op : Int)) (g2 : ¬ (op : Int) ≤ 36) (L : List Nat) (HM : Hid (m = L.length)) (hm : m ≤ 1000) (hL32 : ∀ y ∈ L, y < 4294967296) (hR : Reads w a.R 1 A m (L.flatMap fun y : Nat => [Value.int .u32 (y : Int)])) (hf : (infF op).free = true) :
    Calls Try.prog 16 #[.pointer (some ⟨a.k, 0, none⟩), .agg #[.int .u8 (op : Int), .int .u64 (x : Int), .int .u64 (b : Int), .slice A m c]] w (KRet w a E I (controlS E op x L s)) := by
  have s0 : Step (fun _ => False) w (w.alloc (.cells #[.int .u8 (op : Int), .int .u64 (x : Int), .int .u64 (b : Int), .slice A m c] 40)) := Step.refl.alloc _
  have b0 := Blk.new w 40 #[.int .u8 (op : Int), .int .u64 (x : Int), .int .u64 (b : Int), .slice A m c]
  have h0 := h.quiet s0
  have m0 := (b0.cell 0).trans (show _ = some (Value.int .u8 (op : Int)) from rfl)
  have m1 := (b0.cell 1).trans (show _ = some (Value.int .u64 (x : Int)) from rfl)
  have hNI : ¬ I w.heap.size := fun hk => by have := Ctl.in_ (l := s.l) (fs := s.fs) h.ctl _ hk; omega
  have N3 : w.heap.size < (w.alloc (.cells #[.int .u8 (op : Int), .int .u64 (x : Int), .int .u64 (b : Int), .slice A m c] 40)).heap.size := by simp
  have c6 := h0.c6
  have nkI := h0.kf.self
  have H0 := Lib.hid h0
  have S0 := Lib.hid s0
  have B0 := Lib.hid b0
  clear b0 h0 h s0
  have HR : Hid (∀ W, Calls Try.prog 46 #[.agg #[.int .u8 (op : Int), .int .u64 (x : Int), .int .u64 (b : Int), .slice A m c]] W fun e w' => e = .returned (.int .i64 (rgtF op x b m : Nat)) ∧ Step (fun _ => False) W w') := fun W => right_walk W op x b m c A ho
  rw [hr] at HR
  have HO : Hid (∀ W, Calls Try.prog 47 #[.int .u8 (op : Int)] W fun e w' => e = .returned (infM (infF op) ((infF op).imm : Int)) ∧ Step (fun _ => False) W w') := fun W => of_walk W op ho
  have hbl : op = 2 ∨ op = 3 ∨ op = 4 → x < 256 := rgt_blk hr
  have HBL := Lib.hid hbl
  have HR5 := Lib.hid hR
  have HL5 := Lib.hid hL32
  clear hr hbl hR hL32
  generalize infF op = i at *
  obtain ⟨inm, iim, ipar, ires, ifr⟩ := i
  simp only at hf
  subst hf
  go_enter Try.func16, Try.ntmps16
  go_wp2_with fail
  refine (HR.out _).mono ?_
  rintro e w1 ⟨rfl, t1⟩
  replace m0 := (t1.cell (p := ⟨w.heap.size, 0, none⟩) N3 id).trans m0
  have HB1 := Lib.hid (B0.out.step t1 id)
  have N4 : w.heap.size < w1.heap.size := Nat.lt_of_lt_of_le N3 t1.size
  have T1 := Lib.hid t1
  clear t1
  go_wp2_with fail
  refine (HO.out _).mono ?_
  rintro e w2 ⟨rfl, t2⟩
  replace m0 := (t2.cell (p := ⟨w.heap.size, 0, none⟩) N4 id).trans m0
  have HB2 := Lib.hid (HB1.out.step t2 id)
  have N5 : w.heap.size < w2.heap.size := Nat.lt_of_lt_of_le N4 t2.size
  have m1' := (HB2.out.cell 1).trans (show _ = some (Value.int .u64 (x : Int)) from rfl)
  have m2' := (HB2.out.cell 2).trans (show _ = some (Value.int .u64 (b : Int)) from rfl)
  have m3' := (HB2.out.cell 3).trans (show _ = some (Value.slice A m c) from rfl)
  have nN : w.heap.size ≠ w2.heap.size := Nat.ne_of_lt N5
  have TT := Lib.hid ((T1.out.trans t2).alloc (.cells #[.string (str inm), .int .i64 (iim : Int), .string (str ipar), .string (str ires), .bool true] 117))
  have H2 := Lib.hid (H0.out.quiet TT.out)
  unfold infM
  dsimp only
  clear t2 m1
  go_wp2_with fail
  refine (k_control op x b m c A H2.out hb hn L hx HM hm HL5.out (HR5.out.step (S0.out.trans TT.out) (fun _ _ => id)) hE.result HBL.out).mono ?_
  rintro e w3 ⟨rfl, u3⟩
  go_wp2_with fail
  go_ret
  exact ⟨rfl, KUp.after S0.out (KUp.after TT.out u3)⟩

set_option maxRecDepth 100000 in
set_option maxHeartbeats 1600000 in
theorem k_one_plain00 (op x b m c : Nat) (A : Option Addr) (h : Kk w a E I s) (hb : s.ok n) (hn : n ≤ 1000) (hE : E.ok) (ho : op < 256) (hx : x < 18446744073709551616) (hr : rgtF op x b m = 0) (o16 : ((op : Int) == 16) = false) (o17 : ((op : Int) == 17) = false) (o26 : ((op : Int) == 26) = false) (o27 : ((op : Int) == 27) = false) (g1 : ¬ (32 : Int) ≤ (op : Int)) (g3 : ¬ (40 : Int) ≤ (op : Int)) (hf : (infF op).free = false) :
    Calls Try.prog 16 #[.pointer (some ⟨a.k, 0, none⟩), .agg #[.int .u8 (op : Int), .int .u64 (x : Int), .int .u64 (b : Int), .slice A m c]] w (KRet w a E I (givesS (infF op).par (infF op).res s)) := by
  have s0 : Step (fun _ => False) w (w.alloc (.cells #[.int .u8 (op : Int), .int .u64 (x : Int), .int .u64 (b : Int), .slice A m c] 40)) := Step.refl.alloc _
  have b0 := Blk.new w 40 #[.int .u8 (op : Int), .int .u64 (x : Int), .int .u64 (b : Int), .slice A m c]
  have h0 := h.quiet s0
  have m0 := (b0.cell 0).trans (show _ = some (Value.int .u8 (op : Int)) from rfl)
  have m1 := (b0.cell 1).trans (show _ = some (Value.int .u64 (x : Int)) from rfl)
  have hNI : ¬ I w.heap.size := fun hk => by have := Ctl.in_ (l := s.l) (fs := s.fs) h.ctl _ hk; omega
  have N3 : w.heap.size < (w.alloc (.cells #[.int .u8 (op : Int), .int .u64 (x : Int), .int .u64 (b : Int), .slice A m c] 40)).heap.size := by simp
  have c6 := h0.c6
  have nkI := h0.kf.self
  have H0 := Lib.hid h0
  have S0 := Lib.hid s0
  have B0 := Lib.hid b0
  clear b0 h0 h s0
  have HR : Hid (∀ W, Calls Try.prog 46 #[.agg #[.int .u8 (op : Int), .int .u64 (x : Int), .int .u64 (b : Int), .slice A m c]] W fun e w' => e = .returned (.int .i64 (rgtF op x b m : Nat)) ∧ Step (fun _ => False) W w') := fun W => right_walk W op x b m c A ho
  rw [hr] at HR
  have HO : Hid (∀ W, Calls Try.prog 47 #[.int .u8 (op : Int)] W fun e w' => e = .returned (infM (infF op) ((infF op).imm : Int)) ∧ Step (fun _ => False) W w') := fun W => of_walk W op ho
  have hsm := inf_small op ho
  clear hr
  generalize infF op = i at *
  obtain ⟨inm, iim, ipar, ires, ifr⟩ := i
  simp only at hf
  subst hf
  replace hsm := Lib.hid hsm
  go_enter Try.func16, Try.ntmps16
  go_wp2_with fail
  refine (HR.out _).mono ?_
  rintro e w1 ⟨rfl, t1⟩
  replace m0 := (t1.cell (p := ⟨w.heap.size, 0, none⟩) N3 id).trans m0
  have HB1 := Lib.hid (B0.out.step t1 id)
  have N4 : w.heap.size < w1.heap.size := Nat.lt_of_lt_of_le N3 t1.size
  have T1 := Lib.hid t1
  clear t1
  go_wp2_with fail
  refine (HO.out _).mono ?_
  rintro e w2 ⟨rfl, t2⟩
  replace m0 := (t2.cell (p := ⟨w.heap.size, 0, none⟩) N4 id).trans m0
  have HB2 := Lib.hid (HB1.out.step t2 id)
  have N5 : w.heap.size < w2.heap.size := Nat.lt_of_lt_of_le N4 t2.size
  have m1' := (HB2.out.cell 1).trans (show _ = some (Value.int .u64 (x : Int)) from rfl)
  have m2' := (HB2.out.cell 2).trans (show _ = some (Value.int .u64 (b : Int)) from rfl)
  have m3' := (HB2.out.cell 3).trans (show _ = some (Value.slice A m c) from rfl)
  have nN : w.heap.size ≠ w2.heap.size := Nat.ne_of_lt N5
  have TT := Lib.hid ((T1.out.trans t2).alloc (.cells #[.string (str inm), .int .i64 (iim : Int), .string (str ipar), .string (str ires), .bool false] 117))
  have H2 := Lib.hid (H0.out.quiet TT.out)
  unfold infM
  dsimp only
  clear t2 m1
  go_wp2_with fail
  refine (k_gives ipar ires H2.out hb hn hsm.out.1 hsm.out.2).mono ?_
  rintro e w3 ⟨rfl, u3⟩
  go_wp2_with fail
  go_ret
  exact ⟨rfl, KUp.after S0.out (KUp.after TT.out u3)⟩

set_option maxRecDepth 100000 in
set_option maxHeartbeats 1600000 in
theorem k_one_plain10 (op x b m c : Nat) (A : Option Addr) (h : Kk w a E I s) (hb : s.ok n) (hn : n ≤ 1000) (hE : E.ok) (ho : op < 256) (hx : x < 18446744073709551616) (hr : rgtF op x b m = 0) (o16 : ((op : Int) == 16) = false) (o17 : ((op : Int) == 17) = false) (o26 : ((op : Int) == 26) = false) (o27 : ((op : Int) == 27) = false) (g1 : (32 : Int) ≤ (op : Int)) (g2 : ¬ (op : Int) ≤ 36) (g3 : ¬ (40 : Int) ≤ (op : Int)) (hf : (infF op).free = false) :
    Calls Try.prog 16 #[.pointer (some ⟨a.k, 0, none⟩), .agg #[.int .u8 (op : Int), .int .u64 (x : Int), .int .u64 (b : Int), .slice A m c]] w (KRet w a E I (givesS (infF op).par (infF op).res s)) := by
  have s0 : Step (fun _ => False) w (w.alloc (.cells #[.int .u8 (op : Int), .int .u64 (x : Int), .int .u64 (b : Int), .slice A m c] 40)) := Step.refl.alloc _
  have b0 := Blk.new w 40 #[.int .u8 (op : Int), .int .u64 (x : Int), .int .u64 (b : Int), .slice A m c]
  have h0 := h.quiet s0
  have m0 := (b0.cell 0).trans (show _ = some (Value.int .u8 (op : Int)) from rfl)
  have m1 := (b0.cell 1).trans (show _ = some (Value.int .u64 (x : Int)) from rfl)
  have hNI : ¬ I w.heap.size := fun hk => by have := Ctl.in_ (l := s.l) (fs := s.fs) h.ctl _ hk; omega
  have N3 : w.heap.size < (w.alloc (.cells #[.int .u8 (op : Int), .int .u64 (x : Int), .int .u64 (b : Int), .slice A m c] 40)).heap.size := by simp
  have c6 := h0.c6
  have nkI := h0.kf.self
  have H0 := Lib.hid h0
  have S0 := Lib.hid s0
  have B0 := Lib.hid b0
  clear b0 h0 h s0
  have HR : Hid (∀ W, Calls Try.prog 46 #[.agg #[.int .u8 (op : Int), .int .u64 (x : Int), .int .u64 (b : Int), .slice A m c]] W fun e w' => e = .returned (.int .i64 (rgtF op x b m : Nat)) ∧ Step (fun _ => False) W w') := fun W => right_walk W op x b m c A ho
  rw [hr] at HR
  have HO : Hid (∀ W, Calls Try.prog 47 #[.int .u8 (op : Int)] W fun e w' => e = .returned (infM (infF op) ((infF op).imm : Int)) ∧ Step (fun _ => False) W w') := fun W => of_walk W op ho
  have hsm := inf_small op ho
  clear hr
  generalize infF op = i at *
  obtain ⟨inm, iim, ipar, ires, ifr⟩ := i
  simp only at hf
  subst hf
  replace hsm := Lib.hid hsm
  go_enter Try.func16, Try.ntmps16
  go_wp2_with fail
  refine (HR.out _).mono ?_
  rintro e w1 ⟨rfl, t1⟩
  replace m0 := (t1.cell (p := ⟨w.heap.size, 0, none⟩) N3 id).trans m0
  have HB1 := Lib.hid (B0.out.step t1 id)
  have N4 : w.heap.size < w1.heap.size := Nat.lt_of_lt_of_le N3 t1.size
  have T1 := Lib.hid t1
  clear t1
  go_wp2_with fail
  refine (HO.out _).mono ?_
  rintro e w2 ⟨rfl, t2⟩
  replace m0 := (t2.cell (p := ⟨w.heap.size, 0, none⟩) N4 id).trans m0
  have HB2 := Lib.hid (HB1.out.step t2 id)
  have N5 : w.heap.size < w2.heap.size := Nat.lt_of_lt_of_le N4 t2.size
  have m1' := (HB2.out.cell 1).trans (show _ = some (Value.int .u64 (x : Int)) from rfl)
  have m2' := (HB2.out.cell 2).trans (show _ = some (Value.int .u64 (b : Int)) from rfl)
  have m3' := (HB2.out.cell 3).trans (show _ = some (Value.slice A m c) from rfl)
  have nN : w.heap.size ≠ w2.heap.size := Nat.ne_of_lt N5
  have TT := Lib.hid ((T1.out.trans t2).alloc (.cells #[.string (str inm), .int .i64 (iim : Int), .string (str ipar), .string (str ires), .bool false] 117))
  have H2 := Lib.hid (H0.out.quiet TT.out)
  unfold infM
  dsimp only
  clear t2 m1
  go_wp2_with fail
  refine (k_gives ipar ires H2.out hb hn hsm.out.1 hsm.out.2).mono ?_
  rintro e w3 ⟨rfl, u3⟩
  go_wp2_with fail
  go_ret
  exact ⟨rfl, KUp.after S0.out (KUp.after TT.out u3)⟩

set_option maxRecDepth 100000 in
set_option maxHeartbeats 1600000 in
theorem k_one_plain11 (op x b m c : Nat) (A : Option Addr) (h : Kk w a E I s) (hb : s.ok n) (hn : n ≤ 1000) (hE : E.ok) (ho : op < 256) (hx : x < 18446744073709551616) (hr : rgtF op x b m = 0) (o16 : ((op : Int) == 16) = false) (o17 : ((op : Int) == 17) = false) (o26 : ((op : Int) == 26) = false) (o27 : ((op : Int) == 27) = false) (g1 : (32 : Int) ≤ (op : Int)) (g2 : ¬ (op : Int) ≤ 36) (g3 : (40 : Int) ≤ (op : Int)) (g4 : ¬ (op : Int) ≤ 64) (hf : (infF op).free = false) :
    Calls Try.prog 16 #[.pointer (some ⟨a.k, 0, none⟩), .agg #[.int .u8 (op : Int), .int .u64 (x : Int), .int .u64 (b : Int), .slice A m c]] w (KRet w a E I (givesS (infF op).par (infF op).res s)) := by
  have s0 : Step (fun _ => False) w (w.alloc (.cells #[.int .u8 (op : Int), .int .u64 (x : Int), .int .u64 (b : Int), .slice A m c] 40)) := Step.refl.alloc _
  have b0 := Blk.new w 40 #[.int .u8 (op : Int), .int .u64 (x : Int), .int .u64 (b : Int), .slice A m c]
  have h0 := h.quiet s0
  have m0 := (b0.cell 0).trans (show _ = some (Value.int .u8 (op : Int)) from rfl)
  have m1 := (b0.cell 1).trans (show _ = some (Value.int .u64 (x : Int)) from rfl)
  have hNI : ¬ I w.heap.size := fun hk => by have := Ctl.in_ (l := s.l) (fs := s.fs) h.ctl _ hk; omega
  have N3 : w.heap.size < (w.alloc (.cells #[.int .u8 (op : Int), .int .u64 (x : Int), .int .u64 (b : Int), .slice A m c] 40)).heap.size := by simp
  have c6 := h0.c6
  have nkI := h0.kf.self
  have H0 := Lib.hid h0
  have S0 := Lib.hid s0
  have B0 := Lib.hid b0
  clear b0 h0 h s0
  have HR : Hid (∀ W, Calls Try.prog 46 #[.agg #[.int .u8 (op : Int), .int .u64 (x : Int), .int .u64 (b : Int), .slice A m c]] W fun e w' => e = .returned (.int .i64 (rgtF op x b m : Nat)) ∧ Step (fun _ => False) W w') := fun W => right_walk W op x b m c A ho
  rw [hr] at HR
  have HO : Hid (∀ W, Calls Try.prog 47 #[.int .u8 (op : Int)] W fun e w' => e = .returned (infM (infF op) ((infF op).imm : Int)) ∧ Step (fun _ => False) W w') := fun W => of_walk W op ho
  have hsm := inf_small op ho
  clear hr
  generalize infF op = i at *
  obtain ⟨inm, iim, ipar, ires, ifr⟩ := i
  simp only at hf
  subst hf
  replace hsm := Lib.hid hsm
  go_enter Try.func16, Try.ntmps16
  go_wp2_with fail
  refine (HR.out _).mono ?_
  rintro e w1 ⟨rfl, t1⟩
  replace m0 := (t1.cell (p := ⟨w.heap.size, 0, none⟩) N3 id).trans m0
  have HB1 := Lib.hid (B0.out.step t1 id)
  have N4 : w.heap.size < w1.heap.size := Nat.lt_of_lt_of_le N3 t1.size
  have T1 := Lib.hid t1
  clear t1
  go_wp2_with fail
  refine (HO.out _).mono ?_
  rintro e w2 ⟨rfl, t2⟩
  replace m0 := (t2.cell (p := ⟨w.heap.size, 0, none⟩) N4 id).trans m0
  have HB2 := Lib.hid (HB1.out.step t2 id)
  have N5 : w.heap.size < w2.heap.size := Nat.lt_of_lt_of_le N4 t2.size
  have m1' := (HB2.out.cell 1).trans (show _ = some (Value.int .u64 (x : Int)) from rfl)
  have m2' := (HB2.out.cell 2).trans (show _ = some (Value.int .u64 (b : Int)) from rfl)
  have m3' := (HB2.out.cell 3).trans (show _ = some (Value.slice A m c) from rfl)
  have nN : w.heap.size ≠ w2.heap.size := Nat.ne_of_lt N5
  have TT := Lib.hid ((T1.out.trans t2).alloc (.cells #[.string (str inm), .int .i64 (iim : Int), .string (str ipar), .string (str ires), .bool false] 117))
  have H2 := Lib.hid (H0.out.quiet TT.out)
  unfold infM
  dsimp only
  clear t2 m1
  go_wp2_with fail
  refine (k_gives ipar ires H2.out hb hn hsm.out.1 hsm.out.2).mono ?_
  rintro e w3 ⟨rfl, u3⟩
  go_wp2_with fail
  go_ret
  exact ⟨rfl, KUp.after S0.out (KUp.after TT.out u3)⟩

set_option maxRecDepth 100000 in
set_option maxHeartbeats 1600000 in
theorem k_one_mem0 (op x b m c : Nat) (A : Option Addr) (h : Kk w a E I s) (hb : s.ok n) (hn : n ≤ 1000) (hE : E.ok) (ho : op < 256) (hx : x < 18446744073709551616) (hr : rgtF op x b m = 0) (o16 : ((op : Int) == 16) = false) (o17 : ((op : Int) == 17) = false) (o26 : ((op : Int) == 26) = false) (o27 : ((op : Int) == 27) = false) (g1 : (32 : Int) ≤ (op : Int)) (g2 : ¬ (op : Int) ≤ 36) (g3 : (40 : Int) ≤ (op : Int)) (g4 : (op : Int) ≤ 64) (hf : (infF op).free = false) (he : ¬ memE E op x = 0) :
    Calls Try.prog 16 #[.pointer (some ⟨a.k, 0, none⟩), .agg #[.int .u8 (op : Int), .int .u64 (x : Int), .int .u64 (b : Int), .slice A m c]] w (KRet w a E I (s, memE E op x)) := by
  have s0 : Step (fun _ => False) w (w.alloc (.cells #[.int .u8 (op : Int), .int .u64 (x : Int), .int .u64 (b : Int), .slice A m c] 40)) := Step.refl.alloc _
  have b0 := Blk.new w 40 #[.int .u8 (op : Int), .int .u64 (x : Int), .int .u64 (b : Int), .slice A m c]
  have h0 := h.quiet s0
  have m0 := (b0.cell 0).trans (show _ = some (Value.int .u8 (op : Int)) from rfl)
  have m1 := (b0.cell 1).trans (show _ = some (Value.int .u64 (x : Int)) from rfl)
  have hNI : ¬ I w.heap.size := fun hk => by have := Ctl.in_ (l := s.l) (fs := s.fs) h.ctl _ hk; omega
  have N3 : w.heap.size < (w.alloc (.cells #[.int .u8 (op : Int), .int .u64 (x : Int), .int .u64 (b : Int), .slice A m c] 40)).heap.size := by simp
  have c6 := h0.c6
  have nkI := h0.kf.self
  have H0 := Lib.hid h0
  have S0 := Lib.hid s0
  have B0 := Lib.hid b0
  clear b0 h0 h s0
  have HR : Hid (∀ W, Calls Try.prog 46 #[.agg #[.int .u8 (op : Int), .int .u64 (x : Int), .int .u64 (b : Int), .slice A m c]] W fun e w' => e = .returned (.int .i64 (rgtF op x b m : Nat)) ∧ Step (fun _ => False) W w') := fun W => right_walk W op x b m c A ho
  rw [hr] at HR
  have HO : Hid (∀ W, Calls Try.prog 47 #[.int .u8 (op : Int)] W fun e w' => e = .returned (infM (infF op) ((infF op).imm : Int)) ∧ Step (fun _ => False) W w') := fun W => of_walk W op ho
  have HMM : Hid (∀ W, Kk W a E I s → _) := fun W hW => k_memory (w := W) op x b m c A hW hb hn ho hx
  have g5 : (memE E op x != 0) = true := by simpa using he
  generalize memE E op x = q at *
  clear hr he
  generalize infF op = i at *
  obtain ⟨inm, iim, ipar, ires, ifr⟩ := i
  simp only at hf
  subst hf
  go_enter Try.func16, Try.ntmps16
  go_wp2_with fail
  refine (HR.out _).mono ?_
  rintro e w1 ⟨rfl, t1⟩
  replace m0 := (t1.cell (p := ⟨w.heap.size, 0, none⟩) N3 id).trans m0
  have HB1 := Lib.hid (B0.out.step t1 id)
  have N4 : w.heap.size < w1.heap.size := Nat.lt_of_lt_of_le N3 t1.size
  have T1 := Lib.hid t1
  clear t1
  go_wp2_with fail
  refine (HO.out _).mono ?_
  rintro e w2 ⟨rfl, t2⟩
  replace m0 := (t2.cell (p := ⟨w.heap.size, 0, none⟩) N4 id).trans m0
  have HB2 := Lib.hid (HB1.out.step t2 id)
  have N5 : w.heap.size < w2.heap.size := Nat.lt_of_lt_of_le N4 t2.size
  have m1' := (HB2.out.cell 1).trans (show _ = some (Value.int .u64 (x : Int)) from rfl)
  have m2' := (HB2.out.cell 2).trans (show _ = some (Value.int .u64 (b : Int)) from rfl)
  have m3' := (HB2.out.cell 3).trans (show _ = some (Value.slice A m c) from rfl)
  have nN : w.heap.size ≠ w2.heap.size := Nat.ne_of_lt N5
  have TT := Lib.hid ((T1.out.trans t2).alloc (.cells #[.string (str inm), .int .i64 (iim : Int), .string (str ipar), .string (str ires), .bool false] 117))
  have H2 := Lib.hid (H0.out.quiet TT.out)
  unfold infM
  dsimp only
  clear t2 m1
  go_wp2_with fail
  refine (HMM.out _ H2.out).mono ?_
  rintro e w3 ⟨rfl, t3⟩
  go_wp2_with fail
  go_ret
  exact ⟨rfl, KUp.after S0.out (KUp.after TT.out (KUp.quiet (KUp.same H2.out) t3))⟩

set_option maxRecDepth 100000 in
set_option maxHeartbeats 1600000 in
theorem k_one_mem1 (op x b m c : Nat) (A : Option Addr) (h : Kk w a E I s) (hb : s.ok n) (hn : n ≤ 1000) (hE : E.ok) (ho : op < 256) (hx : x < 18446744073709551616) (hr : rgtF op x b m = 0) (o16 : ((op : Int) == 16) = false) (o17 : ((op : Int) == 17) = false) (o26 : ((op : Int) == 26) = false) (o27 : ((op : Int) == 27) = false) (g1 : (32 : Int) ≤ (op : Int)) (g2 : ¬ (op : Int) ≤ 36) (g3 : (40 : Int) ≤ (op : Int)) (g4 : (op : Int) ≤ 64) (hf : (infF op).free = false) (he : memE E op x = 0) :
    Calls Try.prog 16 #[.pointer (some ⟨a.k, 0, none⟩), .agg #[.int .u8 (op : Int), .int .u64 (x : Int), .int .u64 (b : Int), .slice A m c]] w (KRet w a E I (givesS (infF op).par (infF op).res s)) := by
  have s0 : Step (fun _ => False) w (w.alloc (.cells #[.int .u8 (op : Int), .int .u64 (x : Int), .int .u64 (b : Int), .slice A m c] 40)) := Step.refl.alloc _
  have b0 := Blk.new w 40 #[.int .u8 (op : Int), .int .u64 (x : Int), .int .u64 (b : Int), .slice A m c]
  have h0 := h.quiet s0
  have m0 := (b0.cell 0).trans (show _ = some (Value.int .u8 (op : Int)) from rfl)
  have m1 := (b0.cell 1).trans (show _ = some (Value.int .u64 (x : Int)) from rfl)
  have hNI : ¬ I w.heap.size := fun hk => by have := Ctl.in_ (l := s.l) (fs := s.fs) h.ctl _ hk; omega
  have N3 : w.heap.size < (w.alloc (.cells #[.int .u8 (op : Int), .int .u64 (x : Int), .int .u64 (b : Int), .slice A m c] 40)).heap.size := by simp
  have c6 := h0.c6
  have nkI := h0.kf.self
  have H0 := Lib.hid h0
  have S0 := Lib.hid s0
  have B0 := Lib.hid b0
  clear b0 h0 h s0
  have HR : Hid (∀ W, Calls Try.prog 46 #[.agg #[.int .u8 (op : Int), .int .u64 (x : Int), .int .u64 (b : Int), .slice A m c]] W fun e w' => e = .returned (.int .i64 (rgtF op x b m : Nat)) ∧ Step (fun _ => False) W w') := fun W => right_walk W op x b m c A ho
  rw [hr] at HR
  have HO : Hid (∀ W, Calls Try.prog 47 #[.int .u8 (op : Int)] W fun e w' => e = .returned (infM (infF op) ((infF op).imm : Int)) ∧ Step (fun _ => False) W w') := fun W => of_walk W op ho
  have HMM : Hid (∀ W, Kk W a E I s → _) := fun W hW => k_memory (w := W) op x b m c A hW hb hn ho hx
  rw [he] at HMM
  have hsm := inf_small op ho
  clear hr he
  generalize infF op = i at *
  obtain ⟨inm, iim, ipar, ires, ifr⟩ := i
  simp only at hf
  subst hf
  replace hsm := Lib.hid hsm
  go_enter Try.func16, Try.ntmps16
  go_wp2_with fail
  refine (HR.out _).mono ?_
  rintro e w1 ⟨rfl, t1⟩
  replace m0 := (t1.cell (p := ⟨w.heap.size, 0, none⟩) N3 id).trans m0
  have HB1 := Lib.hid (B0.out.step t1 id)
  have N4 : w.heap.size < w1.heap.size := Nat.lt_of_lt_of_le N3 t1.size
  have T1 := Lib.hid t1
  clear t1
  go_wp2_with fail
  refine (HO.out _).mono ?_
  rintro e w2 ⟨rfl, t2⟩
  replace m0 := (t2.cell (p := ⟨w.heap.size, 0, none⟩) N4 id).trans m0
  have HB2 := Lib.hid (HB1.out.step t2 id)
  have N5 : w.heap.size < w2.heap.size := Nat.lt_of_lt_of_le N4 t2.size
  have m1' := (HB2.out.cell 1).trans (show _ = some (Value.int .u64 (x : Int)) from rfl)
  have m2' := (HB2.out.cell 2).trans (show _ = some (Value.int .u64 (b : Int)) from rfl)
  have m3' := (HB2.out.cell 3).trans (show _ = some (Value.slice A m c) from rfl)
  have nN : w.heap.size ≠ w2.heap.size := Nat.ne_of_lt N5
  have TT := Lib.hid ((T1.out.trans t2).alloc (.cells #[.string (str inm), .int .i64 (iim : Int), .string (str ipar), .string (str ires), .bool false] 117))
  have H2 := Lib.hid (H0.out.quiet TT.out)
  unfold infM
  dsimp only
  clear t2 m1
  go_wp2_with fail
  refine (HMM.out _ H2.out).mono ?_
  rintro e w3 ⟨rfl, t3⟩
  have hbi := (Blk.new w2 117 #[.string (str inm), .int .i64 (iim : Int), .string (str ipar), .string (str ires), .bool false]).step t3 id
  have i2 := (hbi.cell 2).trans (show _ = some (Value.string (str ipar)) from rfl)
  have i3 := (hbi.cell 3).trans (show _ = some (Value.string (str ires)) from rfl)
  have H3 := Lib.hid (H2.out.quiet t3)
  have T3 := Lib.hid t3
  clear hbi t3
  go_wp2_with fail
  refine (k_gives ipar ires H3.out hb hn hsm.out.1 hsm.out.2).mono ?_
  rintro e w4 ⟨rfl, u4⟩
  go_wp2_with fail
  go_ret
  exact ⟨rfl, KUp.after S0.out (KUp.after TT.out (KUp.after T3.out u4))⟩

theorem k_one (op x b m c : Nat) (A : Option Addr) (h : Kk w a E I s) (hb : s.ok n) (hn : n ≤ 1000) (hE : E.ok) (ho : op < 256) (hx : x < 18446744073709551616)
    (L : List Nat) (HM : Hid (m = L.length)) (hm : m ≤ 1000) (hL32 : ∀ y ∈ L, y < 4294967296) (hR : Reads w a.R 1 A m (L.flatMap fun y : Nat => [Value.int .u32 (y : Int)])) :
    Calls Try.prog 16 #[.pointer (some ⟨a.k, 0, none⟩), .agg #[.int .u8 (op : Int), .int .u64 (x : Int), .int .u64 (b : Int), .slice A m c]] w (KRet w a E I (oneS E op x b m L s)) := by
  unfold oneS
  by_cases hr : rgtF op x b m = 0
  · rw [if_pos hr]
    by_cases h16 : op = 16
    · rw [if_pos (.inl h16)]
      exact k_one_call0 op x b m c A h hb hn hE ho hx hr (int_eq h16)
    by_cases h17 : op = 17
    · rw [if_pos (.inr h17)]
      exact k_one_call1 op x b m c A h hb hn hE ho hx hr (int_ne h16) (int_eq h17)
    rw [if_neg (by omega)]
    by_cases h26 : op = 26
    · rw [if_pos (.inl h26)]
      exact k_one_choose0 op x b m c A h hb hn hE ho hx hr (int_ne h16) (int_ne h17) (int_eq h26)
    by_cases h27 : op = 27
    · rw [if_pos (.inr h27)]
      exact k_one_choose1 op x b m c A h hb hn hE ho hx hr (int_ne h16) (int_ne h17) (int_ne h26) (int_eq h27)
    rw [if_neg (by omega)]
    by_cases hv : 32 ≤ op ∧ op ≤ 36
    · rw [if_pos hv]
      exact k_one_variable0 op x b m c A h hb hn hE ho hx hr (int_ne h16) (int_ne h17) (int_ne h26) (int_ne h27) (by omega) (by omega)
    rw [if_neg hv]
    by_cases hf : (infF op).free = true
    · rw [if_pos hf]
      by_cases g1 : op < 32
      · exact k_one_control0 op x b m c A h hb hn hE ho hx hr (int_ne h16) (int_ne h17) (int_ne h26) (int_ne h27) (by omega) L HM hm hL32 hR hf
      · exact k_one_control1 op x b m c A h hb hn hE ho hx hr (int_ne h16) (int_ne h17) (int_ne h26) (int_ne h27) (by omega) (by omega) L HM hm hL32 hR hf
    rw [if_neg hf]
    have hf' : (infF op).free = false := by simpa using hf
    unfold plainS
    by_cases g1 : op < 32
    · rw [if_neg (by omega)]
      exact k_one_plain00 op x b m c A h hb hn hE ho hx hr (int_ne h16) (int_ne h17) (int_ne h26) (int_ne h27) (by omega) (by omega) hf'
    by_cases g3 : op < 40
    · rw [if_neg (by omega)]
      exact k_one_plain10 op x b m c A h hb hn hE ho hx hr (int_ne h16) (int_ne h17) (int_ne h26) (int_ne h27) (by omega) (by omega) (by omega) hf'
    by_cases g4 : 64 < op
    · rw [if_neg (by omega)]
      exact k_one_plain11 op x b m c A h hb hn hE ho hx hr (int_ne h16) (int_ne h17) (int_ne h26) (int_ne h27) (by omega) (by omega) (by omega) (by omega) hf'
    by_cases he : memE E op x = 0
    · rw [if_neg (fun h => h.2 he)]
      exact k_one_mem1 op x b m c A h hb hn hE ho hx hr (int_ne h16) (int_ne h17) (int_ne h26) (int_ne h27) (by omega) (by omega) (by omega) (by omega) hf' he
    · rw [if_pos ⟨⟨by omega, by omega⟩, he⟩]
      exact k_one_mem0 op x b m c A h hb hn hE ho hx hr (int_ne h16) (int_ne h17) (int_ne h26) (int_ne h27) (by omega) (by omega) (by omega) (by omega) hf' he
  · rw [if_neg hr]
    exact k_one_no op x b m c A h hb hn hE ho hx hr
end
end Go.Proofs.Ytpebdfgfikjkeaa
/-! check.Body. -/
namespace Go.Proofs.Ytpebdfgfikjkeaa
open Go.RowKit

def runS (E : Ke) : List Ig → Ss → Nat → Int × Int
  | [], _, j => (j, 0)
  | x :: l, s, j => if (oneS E x.op x.a x.b x.n x.L s).2 = 0 then runS E l (oneS E x.op x.a x.b x.n x.L s).1 (j + 1) else ((j : Int), (oneS E x.op x.a x.b x.n x.L s).2)
def s0S (E : Ke) : Ss := ⟨[], [⟨0, E.result, 0, false⟩]⟩
def bodyF (E : Ke) (lo : List (Nat × Nat)) (l : List Ig) : Int × Int := if shpC lo l = 0 then runS E l (s0S E) 0 else (-1, (shpC lo l : Nat))
/-- An instruction in memory: what stands behind it is read from blocks of R. -/
structure IgIn (w : World) (R : Nat → Prop) (x : Ig) : Prop where
  op : x.op < 256
  a : x.a < 18446744073709551616
  n : x.n = x.L.length
  few : x.n ≤ 1000
  lt : ∀ y ∈ x.L, y < 4294967296
  rd : Reads w R 1 x.A x.n (x.L.flatMap fun y : Nat => [Value.int .u32 (y : Int)])
theorem IgIn.step {w w' : World} {R F : Nat → Prop} {x : Ig} (h : IgIn w R x) (hs : Step F w w') (hd : ∀ k, R k → ¬ F k) : IgIn w' R x := ⟨h.op, h.a, h.n, h.few, h.lt, h.rd.step hs hd⟩

/-- What a body may speak of, in memory. -/
structure EnvIn (w : World) (R : Nat → Prop) (E : Ke) (tA fA gA : Option Addr) : Prop where
  types : Reads w R 2 tA E.types.length (E.types.flatMap ftC)
  funcs : Reads w R 1 fA E.funcs.length (E.funcs.map fun x : Nat => Value.int .u32 (x : Int))
  globals : Reads w R 2 gA E.globals.length (E.globals.flatMap glC)
  rin : ∀ k, R k → k < w.heap.size
theorem EnvIn.step {w w' : World} {R F : Nat → Prop} {E : Ke} {tA fA gA : Option Addr} (h : EnvIn w R E tA fA gA) (hs : Step F w w') (hd : ∀ k, R k → ¬ F k) : EnvIn w' R E tA fA gA :=
  ⟨h.types.step hs hd, h.funcs.step hs hd, h.globals.step hs hd, fun k hk => Nat.lt_of_lt_of_le (h.rin k hk) hs.size⟩
def envV (E : Ke) (tA fA gA : Option Addr) (tc fc gc : Nat) : Value := .agg #[.slice tA E.types.length tc, .slice fA E.funcs.length fc, .slice gA E.globals.length gc, .bool E.table, .bool E.mem]
set_option maxRecDepth 100000 in
set_option maxHeartbeats 3200000 in
theorem body_walk (w : World) (R : Nat → Prop) (E : Ke) (tA fA gA : Option Addr) (tc fc gc : Nat) (ps : List UInt8) (LA IA : Option Addr) (lc n c : Nat) (lo : List (Nat × Nat)) (l : List Ig)
    (hE : EnvIn w R E tA fA gA) (HN : Hid (n = l.length)) (hnb : n ≤ 900) (hin : ∀ x ∈ l, IgIn w R x) (hr : Reads w R 4 IA n (igs l)) (hl : Reads w R 2 LA lo.length (lo.flatMap loC))
    (hb : ∀ g ∈ lo, g.1 < 4294967296 ∧ g.2 < 256) (hlo : lo.length ≤ 1000) (hps : ps.length ≤ 100) (hok : locF lo 0 ≠ none → E.ok) (hloc : E.locals = ps ++ loT lo) (hres : E.result.length ≤ 100) :
    Calls Try.prog 8 #[envV E tA fA gA tc fc gc, .agg #[.string (str ps), .string (str E.result)], .agg #[.slice LA lo.length lc, .slice IA n c]] w fun e w' =>
      e = .returned (.tuple #[.int .i64 (bodyF E lo l).1, .int .i64 (bodyF E lo l).2]) ∧ Step (fun _ => False) w w' := by
  have s1 : Step (fun _ => False) w (((w.alloc (.cells #[.slice tA E.types.length tc, .slice fA E.funcs.length fc, .slice gA E.globals.length gc, .bool E.table, .bool E.mem] 26)).alloc (.cells #[.string (str ps), .string (str E.result)] 28)).alloc (.cells #[.slice LA lo.length lc, .slice IA n c] 32)) := ((Step.refl.alloc _).alloc _).alloc _
  have b0 := ((Blk.new w 26 #[.slice tA E.types.length tc, .slice fA E.funcs.length fc, .slice gA E.globals.length gc, .bool E.table, .bool E.mem]).alloc (.cells #[.string (str ps), .string (str E.result)] 28)).alloc (.cells #[.slice LA lo.length lc, .slice IA n c] 32)
  have b1 := (Blk.new (w.alloc (.cells #[.slice tA E.types.length tc, .slice fA E.funcs.length fc, .slice gA E.globals.length gc, .bool E.table, .bool E.mem] 26)) 28 #[.string (str ps), .string (str E.result)]).alloc (.cells #[.slice LA lo.length lc, .slice IA n c] 32)
  have b2 := Blk.new ((w.alloc (.cells #[.slice tA E.types.length tc, .slice fA E.funcs.length fc, .slice gA E.globals.length gc, .bool E.table, .bool E.mem] 26)).alloc (.cells #[.string (str ps), .string (str E.result)] 28)) 32 #[.slice LA lo.length lc, .slice IA n c]
  simp only [World.size_alloc] at b1 b2
  have S1 := Lib.hid s1
  have B0 := Lib.hid b0
  have B1 := Lib.hid b1
  have B2 := Lib.hid b2
  have HE := Lib.hid (hE.step s1 (fun _ _ => id))
  have HI := Lib.hid (fun x hx => (hin x hx).step s1 (fun _ _ => id))
  have HR := Lib.hid (hr.step s1 (fun _ _ => id))
  have HL := Lib.hid (hl.step s1 (fun _ _ => id))
  have HB := Lib.hid hb
  clear hE hin hr hl hb s1 b0 b1 b2
  unfold envV
  go_enter Try.func8, Try.ntmps8
  go_upto_region 1 with fail
  generalize w.heap.size = N at *
  generalize ((w.alloc (.cells #[.slice tA E.types.length tc, .slice fA E.funcs.length fc, .slice gA E.globals.length gc, .bool E.table, .bool E.mem] 26)).alloc (.cells #[.string (str ps), .string (str E.result)] 28)).alloc (.cells #[.slice LA lo.length lc, .slice IA n c] 32) = V at *
  have y0 := (B2.out.cell 0).trans (show _ = some (Value.slice LA lo.length lc) from rfl)
  have y1 := (B2.out.cell 1).trans (show _ = some (Value.slice IA n c) from rfl)
  have hRT := bright_walk V LA IA lc n c lo l R HN (by omega) (fun x hx => (HI.out x hx).op) HR.out HL.out HB.out hlo
  have hg : bodyF E lo l = if shpC lo l = 0 then runS E l (s0S E) 0 else (-1, (shpC lo l : Nat)) := rfl
  have hlc : shpC lo l = 0 → locF lo 0 ≠ none := by
    intro h e
    rw [shpC, if_pos e] at h
    exact absurd h (by decide)
  generalize shpC lo l = r at hRT hg hlc
  have HG := Lib.hid hg
  replace hRT := Lib.hid hRT
  clear hg
  by_cases hr0 : r = 0
  case neg =>
    have g1 : ((r : Int) != 0) = true := by simp; omega
    have HQ := Lib.hid hr0
    clear hr0 hlc
    go_wp2_with fail
    refine hRT.out.mono ?_
    rintro e w1 ⟨rfl, t1⟩
    go_wp2_with fail
    go_ret2
    rw [HG.out, if_neg HQ.out]
    exact ⟨rfl, S1.out.trans t1⟩
  subst hr0
  replace hlc := hlc rfl
  obtain ⟨ln, hln⟩ : ∃ v, locF lo 0 = some v := by
    cases h : locF lo 0 with
    | none => exact absurd h hlc
    | some v => exact ⟨v, rfl⟩
  have EOK := Lib.hid (hok hlc)
  have HLN := Lib.hid hln
  clear hlc hln hok
  go_wp2_with fail
  refine hRT.out.mono ?_
  rintro e w1 ⟨rfl, t1⟩
  have b2 := B2.out.step t1 id
  have b1 := B1.out.step t1 id
  have b0 := B0.out.step t1 id
  replace y0 := (b2.cell 0).trans (show _ = some (Value.slice LA lo.length lc) from rfl)
  replace y1 := (b2.cell 1).trans (show _ = some (Value.slice IA n c) from rfl)
  have x0 := (b1.cell 0).trans (show _ = some (Value.string (str ps)) from rfl)
  have x1 := (b1.cell 1).trans (show _ = some (Value.string (str E.result)) from rfl)
  have HT := Lib.hid (types_ok w1 LA lc lo R (HL.out.step t1 (fun _ _ => id)) HB.out (by omega) ps (str E.result) (by omega) ln HLN.out)
  rw [← hloc] at HT
  replace hloc := Lib.hid hloc
  replace B0 := Lib.hid b0
  replace B1 := Lib.hid b1
  replace B2 := Lib.hid b2
  have T1 := Lib.hid t1
  clear t1 b0 b1 b2
  go_wp2_with fail
  refine HT.out.mono ?_
  rintro e w2 ⟨rfl, t2⟩
  have b2 := B2.out.step t2 id
  have b1 := B1.out.step t2 id
  have b0 := B0.out.step t2 id
  have z0 := (b0.cell 0).trans (show _ = some (Value.slice tA E.types.length tc) from rfl)
  have z1 := (b0.cell 1).trans (show _ = some (Value.slice fA E.funcs.length fc) from rfl)
  have z2 := (b0.cell 2).trans (show _ = some (Value.slice gA E.globals.length gc) from rfl)
  have z3 := (b0.cell 3).trans (show _ = some (Value.bool E.table) from rfl)
  have z4 := (b0.cell 4).trans (show _ = some (Value.bool E.mem) from rfl)
  replace x1 := (b1.cell 1).trans (show _ = some (Value.string (str E.result)) from rfl)
  have d0 := cls_cell (F := fun _ => False) z0 id
  have d1 := cls_cell (F := fun _ => False) z1 id
  have d2 := cls_cell (F := fun _ => False) z2 id
  have d3 := cls_cell (F := fun _ => False) z3 id
  have d4 := cls_cell (F := fun _ => False) z4 id
  have d5 := cls_cell (F := fun _ => False) x1 id
  have T2 := Lib.hid (T1.out.trans t2)
  replace B2 := Lib.hid b2
  have HE2 := Lib.hid (HE.out.step T2.out (fun _ _ => id))
  clear t2 b0 b1 b2 x0 y0 y1 B0 B1 T1
  go_wp2_with fail
  refine Mix.wp_region_mix [4, 8] [4, 8] (Step (fun _ => False) w2) (by kernel_rfl) (by kernel_rfl) (Step.refl.drew) (fun hcls => ?_)
  refine Mix.wpL_reads 4 (by rfl) ?_
  simp only [List.take_succ_cons, List.drop_succ_cons, List.take_zero, List.drop_zero]
  repeat (go_big_quiet_step (fail))
  refine wpQuiet_nil ?_
  refine Mix.wpL_op (by rfl) (fun K hK => ?_)
  go_simp
  refine (ctl_new _ E.result).mono ?_
  rintro e w3 ⟨g, gs, I, rfl, hc3, t3, hI3⟩
  refine hK _ _ (fun hlt => Mix.cl (Step.refl.drew.trans t3)) ?_
  clear hK K
  refine Mix.wpL_reads 3 (by rfl) ?_
  simp only [List.take_succ_cons, List.drop_succ_cons, List.take_zero, List.drop_zero]
  repeat (go_big_quiet_step (fail))
  refine wpQuiet_nil ?_
  refine Mix.wpL_op (by rfl) (fun K hK => ?_)
  go_simp
  refine hK _ _ (fun hlt => Mix.cl ((Step.refl.drew.trans t3).alloc _)) ?_
  clear hK K
  refine Mix.wpL_reads 1 (by rfl) ?_
  simp only [List.take_succ_cons, List.drop_succ_cons, List.take_zero, List.drop_zero]
  repeat (go_big_quiet_step (fail))
  refine wpQuiet_nil ?_
  refine Mix.wpL_end ?_
  have hs3 : Step (fun _ => False) w2 (w3.alloc (.cells #[.slice tA E.types.length tc, .slice fA E.funcs.length fc, .slice gA E.globals.length gc, .bool E.table, .bool E.mem, .string (str E.locals), .pointer (some ⟨g, 0, none⟩), .string (str E.result)] 76)) := (Step.refl.drew.trans t3).alloc _
  have hbk : Blk (w3.alloc (.cells #[.slice tA E.types.length tc, .slice fA E.funcs.length fc, .slice gA E.globals.length gc, .bool E.table, .bool E.mem, .string (str E.locals), .pointer (some ⟨g, 0, none⟩), .string (str E.result)] 76)) w3.heap.size 76 _ := Blk.new w3 _ _
  have hkk : Kk (w3.alloc (.cells #[.slice tA E.types.length tc, .slice fA E.funcs.length fc, .slice gA E.globals.length gc, .bool E.table, .bool E.mem, .string (str E.locals), .pointer (some ⟨g, 0, none⟩), .string (str E.result)] 76)) ⟨w3.heap.size, g, gs, tA, fA, gA, tc, fc, gc, R⟩ E I (s0S E) := by
    have he := HE2.out.step hs3 (fun _ _ => id)
    have hin3 : In w3 I := Ctl.in_ hc3
    refine ⟨⟨hbk, he.types, he.funcs, he.globals, he.rin, fun hk => ?_, fun k hk hi => ?_⟩, Ctl.quiet hc3 (Step.refl.alloc _)⟩
    · have := hin3 _ hk
      exact absurd this (Nat.lt_irrefl _)
    · have h1 := HE2.out.rin k hk
      have h2 := hI3 k hi
      exact absurd h2 (Nat.not_le_of_lt h1)
  have B2w := B2
  replace B2 := Lib.hid (B2.out.step hs3 id)
  have HK := Lib.hid hkk
  have HS3 := Lib.hid hs3
  have HI3 : Hid (∀ k, I k → w2.heap.size ≤ k) := hI3
  have y1 := (B2.out.cell 1).trans (show _ = some (Value.slice IA n c) from rfl)
  have hok0 : (s0S E).ok 0 := ⟨Nat.le_refl _, Nat.le_refl _, fun f hf => by rw [List.mem_singleton.1 hf]; exact hres⟩
  clear hs3 hbk hkk t3 hc3 hI3 d0 d1 d2 d3 d4 d5 z0 z1 z2 z3 z4 x1 HE HE2 HT hRT HLN
  generalize w3.heap.size = K at *
  generalize w3.alloc (.cells #[.slice tA E.types.length tc, .slice fA E.funcs.length fc, .slice gA E.globals.length gc, .bool E.table, .bool E.mem, .string (str E.locals), .pointer (some ⟨g, 0, none⟩), .string (str E.result)] 76) = W0 at *
  obtain ⟨ka, hka⟩ : ∃ ka : Ka, ka = ⟨K, g, gs, tA, fA, gA, tc, fc, gc, R⟩ := ⟨_, rfl⟩
  have hkk : K = ka.k := by rw [hka]
  have hkR : ka.R = R := by rw [hka]
  rw [← hka] at HK
  subst hkk
  replace hkR := Lib.hid hkR
  clear hka
  go_wp2_with fail
  go_loopw [42] (fun iv wr => ∃ (j : Nat) (s : Ss) (I : Nat → Prop), j ≤ n ∧ iv = .int .i64 (j : Int) ∧ Hid (Kk wr ka E I s) ∧ Hid (s.ok j) ∧ Hid (Step (fun _ => False) w2 wr) ∧ Hid (∀ k, I k → w2.heap.size ≤ k) ∧
      Hid (runS E l (s0S E) 0 = runS E (l.drop j) s j)) (fun iv _ => n + 1 - (intOf iv).toNat)
  case atStart => exact ⟨0, s0S E, I, by omega, rfl, HK, hok0, HS3, HI3, rfl⟩
  case round =>
    obtain ⟨j, s, J, hj, rfl, hk, hok, hs, hJ, HRUN⟩ := hrel
    clear HK HI3 hok0
    by_cases hlt : j < n
    · have g1 : (j : Int) < (n : Int) := by omega
      have i0 : (0 : Int) ≤ (j : Int) := by omega
      have hw1 := IntWalk.i64_in ((j : Int) + 1) (by omega)
      have hjl : j < l.length := by rw [← HN.out]; exact hlt
      obtain ⟨bk, off, hIA, _, hbl, hc⟩ := reads_row Ig.cells 4 (by decide) Ig.four (HR.out.step (T2.out.trans hs.out) (fun _ _ => id)) (k := j) hjl
      have hx := (HI.out l[j] (List.getElem_mem hjl)).step (T2.out.trans hs.out) (fun _ _ => id)
      have HD : Hid (l.drop j = l[j] :: l.drop (j + 1)) := List.drop_eq_getElem_cons hjl
      obtain ⟨x, hxe⟩ : ∃ x, x = l[j] := ⟨_, rfl⟩
      rw [← hxe] at hc HD hx
      clear hxe
      obtain ⟨op, xa, xb, m, cc, B1, L⟩ := x
      have c0 := hc 0 _ rfl
      have c1 := hc 1 _ rfl
      have c2 := hc 2 _ rfl
      have c3 := hc 3 _ rfl
      simp only [Nat.add_zero] at c0
      simp only at c0 c1 c2 c3
      have hsA : Step (fun _ => False) wr (wr.alloc (.cells #[.int .u8 (op : Int), .int .u64 (xa : Int), .int .u64 (xb : Int), .slice B1 m cc] 40)) := Step.refl.alloc _
      have hkA := hk.out.quiet hsA
      have HONE := Lib.hid (k_one op xa xb m cc B1 hkA hok.out (by omega) EOK.out hx.op hx.a L hx.n hx.few hx.lt (by rw [hkR.out]; exact hx.rd.step hsA (fun _ _ => id)))
      have hok2 := hok.out.one EOK.out op xa xb m L hx.op
      have HRU : Hid (runS E (⟨op, xa, xb, m, cc, B1, L⟩ :: l.drop (j + 1)) s j = if (oneS E op xa xb m L s).2 = 0 then runS E (l.drop (j + 1)) (oneS E op xa xb m L s).1 (j + 1) else ((j : Int), (oneS E op xa xb m L s).2)) := rfl
      generalize oneS E op xa xb m L s = q at HONE hok2 HRU
      obtain ⟨s2, er⟩ := q
      have HSA := Lib.hid hsA
      subst hIA
      clear hc hx hkA hsA
      by_cases he : er = 0
      · subst he
        have HR2 : Hid (runS E l (s0S E) 0 = runS E (l.drop (j + 1)) s2 (j + 1)) := by unfold Hid; rw [HRUN.out, HD.out, HRU.out, if_pos rfl]
        go_wp2_with fail
        refine HONE.out.mono ?_
        rintro e w7 ⟨rfl, J2, hk2, u2⟩
        have hs7 : Step (fun _ => False) w2 w7 := (hs.out.trans HSA.out).trans' u2.1 (fun k hk => .inr (hJ.out k hk))
        have HK2 := Lib.hid hk2
        have HS7 := Lib.hid hs7
        have HJ2 : Hid (∀ k, J2 k → w2.heap.size ≤ k) := fun k hk => by
          rcases u2.2 k hk with e | e
          · exact hJ.out k e
          · exact Nat.le_trans (hs.out.trans HSA.out).size e
        clear u2 hk2 hs7
        go_wp2_with fail
        go_roundw
        case rel => exact ⟨j + 1, s2, J2, by omega, by rw [Int.natCast_add]; rfl, HK2, hok2, HS7, HJ2, HR2⟩
        case measure => simp [intOf]; omega
      · have e1 : (er != 0) = true := by simpa using he
        have HR2 : Hid (runS E l (s0S E) 0 = ((j : Int), er)) := by unfold Hid; rw [HRUN.out, HD.out, HRU.out, if_neg he]
        clear he
        go_wp2_with fail
        refine HONE.out.mono ?_
        rintro e w7 ⟨rfl, J2, hk2, u2⟩
        have HS7 : Hid (Step (fun _ => False) w2 w7) := (hs.out.trans HSA.out).trans' u2.1 (fun k hk => .inr (hJ.out k hk))
        clear u2 hk2
        go_wp2_with fail
        go_ret2
        rw [HG.out, if_pos trivial, HR2.out]
        exact ⟨rfl, (S1.out.trans T2.out).trans HS7.out⟩
    · obtain rfl : j = n := by omega
      have HR2 : Hid (runS E l (s0S E) 0 = ((j : Int), 0)) := by unfold Hid; rw [HRUN.out, HN.out, List.drop_length]; rfl
      have hy := ((B2w.out.step hs.out id).cell 1).trans (show _ = some (Value.slice IA j c) from rfl)
      go_wp2_with fail
      go_ret2
      rw [HG.out, if_pos trivial, HR2.out]
      exact ⟨rfl, (S1.out.trans T2.out).trans hs.out⟩
end Go.Proofs.Ytpebdfgfikjkeaa
/-! The plain law of CheckNop: a nop ahead of a body leaves what it computes, one place farther. -/
namespace Go.Proofs.Ytpebdfgfikjkeaa
open Go.RowKit

def nopI : Ig := ⟨1, 0, 0, 0, 0, none, []⟩
theorem walkF_up : ∀ (l : List Nat) (i : Nat) (st : List Nat), (walkF l i st = 0 ∧ walkF l (i + 1) st = 0) ∨ (walkF l i st ≠ 0 ∧ walkF l (i + 1) st = walkF l i st + 1)
  | [], _, _ => .inl ⟨rfl, rfl⟩
  | op :: l, i, st => by
    by_cases h : 2 ≤ op ∧ op ≤ 4
    · rw [walkF_open h, walkF_open h]
      exact walkF_up l (i + 1) (op :: st)
    by_cases h5 : op = 5
    · subst h5
      rcases st with _ | ⟨x, st⟩
      · rw [walkF_bad (by simp), walkF_bad (by simp)]
        exact .inl ⟨rfl, rfl⟩
      · by_cases hx : x = 4
        · subst hx
          rw [walkF_else, walkF_else]
          exact walkF_up l (i + 1) (5 :: st)
        · rw [walkF_bad (by simpa using hx), walkF_bad (by simpa using hx)]
          exact .inl ⟨rfl, rfl⟩
    by_cases h11 : op = 11
    · subst h11
      rcases st with _ | ⟨x, st⟩
      · rw [walkF_last, walkF_last]
        exact .inr ⟨by omega, rfl⟩
      · rw [walkF_end, walkF_end]
        exact walkF_up l (i + 1) st
    rw [walkF_plain h h5 h11, walkF_plain h h5 h11]
    exact walkF_up l (i + 1) st
theorem shpF_nop (l : List Ig) : shpF (nopI :: l) = shpF l := by
  unfold shpF
  have e : opsL (nopI :: l) = 1 :: opsL l := rfl
  rw [e, walkF_plain (by omega) (by omega) (by omega)]
  rcases walkF_up (opsL l) 0 [] with ⟨h1, h2⟩ | ⟨h1, h2⟩
  · rw [h1, h2, List.length_cons, if_neg (by omega), if_neg (by omega)]
  · rw [h2, List.length_cons]
    by_cases hk : walkF (opsL l) 0 [] = l.length ∧ ¬ l.length = 0
    · rw [if_pos hk, if_pos (by omega)]
    · rw [if_neg hk, if_neg (by omega)]
theorem shpC_nop (lo : List (Nat × Nat)) (l : List Ig) : shpC lo (nopI :: l) = shpC lo l := by
  unfold shpC
  rw [shpF_nop]
theorem rgt_nop : rgtF 1 0 0 0 = 0 := by kernel_rfl
theorem inf_nop : (infF 1).free = false ∧ (infF 1).par = [] ∧ (infF 1).res = [] := ⟨by kernel_rfl, by kernel_rfl, by kernel_rfl⟩
theorem one_nop (E : Ke) (L : List Nat) : oneS E 1 0 0 0 L (s0S E) = (s0S E, 0) := by
  unfold oneS
  rw [if_pos rgt_nop, if_neg (by omega), if_neg (by omega), if_neg (by omega), if_neg (by rw [inf_nop.1]; decide)]
  unfold plainS
  rw [if_neg (by omega), inf_nop.2.1, inf_nop.2.2]
  rfl
theorem runS_up (E : Ke) : ∀ (l : List Ig) (s : Ss) (j : Nat), runS E l s (j + 1) = ((runS E l s j).1 + 1, (runS E l s j).2) ∧ 0 ≤ (runS E l s j).1
  | [], s, j => ⟨by simp [runS], by simp [runS]⟩
  | x :: l, s, j => by
    unfold runS
    by_cases h : (oneS E x.op x.a x.b x.n x.L s).2 = 0
    · rw [if_pos h, if_pos h]
      exact runS_up E l _ (j + 1)
    · rw [if_neg h, if_neg h]
      exact ⟨by simp, by simp⟩
theorem body_nop (E : Ke) (lo : List (Nat × Nat)) (l : List Ig) :
    ((bodyF E lo l).1 < 0 ∧ (bodyF E lo (nopI :: l)).1 = (bodyF E lo l).1 ∧ (bodyF E lo (nopI :: l)).2 = (bodyF E lo l).2) ∨
    (¬ (bodyF E lo l).1 < 0 ∧ (bodyF E lo (nopI :: l)).1 = (bodyF E lo l).1 + 1 ∧ (bodyF E lo (nopI :: l)).2 = (bodyF E lo l).2 ∧ (bodyF E lo l).1 ≤ l.length) := by
  unfold bodyF
  rw [shpC_nop]
  by_cases h : shpC lo l = 0
  · rw [if_pos h, if_pos h]
    right
    have e : runS E (nopI :: l) (s0S E) 0 = runS E l (s0S E) 1 := by
      show (if (oneS E 1 0 0 0 [] (s0S E)).2 = 0 then _ else _) = _
      rw [one_nop, if_pos rfl]
      show runS E l (oneS E 1 0 0 0 [] (s0S E)).1 1 = _
      rw [one_nop]
    have hle : ∀ (l : List Ig) (s : Ss) (j : Nat), (runS E l s j).1 ≤ (j : Int) + l.length := by
      intro l
      induction l with
      | nil => intro s j; simp [runS]
      | cons x l ih =>
        intro s j
        unfold runS
        split
        · have := ih (oneS E x.op x.a x.b x.n x.L s).1 (j + 1)
          rw [List.length_cons]
          omega
        · rw [List.length_cons]
          simp only
          omega
    have hu := runS_up E l (s0S E) 0
    have hl := hle l (s0S E) 0
    rw [e, hu.1]
    exact ⟨by omega, rfl, rfl, by omega⟩
  · rw [if_neg h, if_neg h]
    left
    exact ⟨by simp, rfl, rfl⟩
end Go.Proofs.Ytpebdfgfikjkeaa
