/-
  check.checker.one.
-/
import Derived.Test.YtpebdfgfikjkeaaKkH
set_option linter.unusedVariables false
set_option linter.unusedSimpArgs false
namespace Go.Proofs.Ytpebdfgfikjkeaa
open Go.RowKit

set_option maxRecDepth 100000 in
theorem inf_small : ∀ op, op < 256 → (infF op).par.length ≤ 100 ∧ (infF op).res.length ≤ 100 := by
  have h : (List.range 256).all (fun op => decide ((infF op).par.length ≤ 100) && decide ((infF op).res.length ≤ 100)) = true := by kernel_rfl
  intro op ho
  have := List.all_eq_true.1 h op (List.mem_range.2 ho)
  simpa using this
theorem imm_blk : (infF 2).imm = 1 ∧ (infF 3).imm = 1 ∧ (infF 4).imm = 1 := ⟨by kernel_rfl, by kernel_rfl, by kernel_rfl⟩
theorem rgt_blk {op x b m : Nat} (h : rgtF op x b m = 0) (ho : op = 2 ∨ op = 3 ∨ op = 4) : x < 256 := by
  have hi : (infF op).imm = 1 := by
    rcases ho with rfl | rfl | rfl
    · exact imm_blk.1
    · exact imm_blk.2.1
    · exact imm_blk.2.2
  unfold rgtF at h
  rw [hi] at h
  split at h
  · unfold immF at h
    split at h
    · simp at h
    · split at h
      · simp at h
      · simp at h
        unfold blkF at h
        split at h
        · omega
        · split at h
          · simp at h
          · omega
  · omega
def plainS (E : Ke) (op x : Nat) (s : Ss) : Ss × Int := if (40 ≤ op ∧ op ≤ 64) ∧ ¬ memE E op x = 0 then (s, memE E op x) else givesS (infF op).par (infF op).res s
def oneS (E : Ke) (op x b m : Nat) (L : List Nat) (s : Ss) : Ss × Int :=
  if rgtF op x b m = 0 then
    (if op = 16 ∨ op = 17 then callS E op x s else if op = 26 ∨ op = 27 then chooseS op s else if 32 ≤ op ∧ op ≤ 36 then variableS E op x s
     else if (infF op).free = true then controlS E op x L s else plainS E op x s)
  else (s, (rgtF op x b m : Nat))
theorem Ss.ok.one {n : Nat} {s : Ss} (h : s.ok n) {E : Ke} (hE : E.ok) (op x b m : Nat) (L : List Nat) (ho : op < 256) : (oneS E op x b m L s).1.ok (n + 1) := by
  unfold oneS
  split
  · split
    · exact h.call hE op x
    · split
      · exact h.choose op
      · split
        · exact h.variable_ E op x
        · split
          · exact h.control E op x L
          · unfold plainS
            split
            · exact h.less (by omega)
            · exact h.gives _ _ (inf_small op ho).2
  · exact h.less (by omega)
section
variable {w : World} {a : Ka} {E : Ke} {I : Nat → Prop} {s : Ss} {n : Nat}

set_option maxRecDepth 100000 in
set_option maxHeartbeats 1600000 in
theorem k_one_no (op x b m c : Nat) (A : Option Addr) (h : Kk w a E I s) (hb : s.ok n) (hn : n ≤ 1000) (hE : E.ok) (ho : op < 256) (hx : x < 18446744073709551616) (hr : ¬ rgtF op x b m = 0) :
    Calls Try.prog 16 #[.pointer (some ⟨a.k, 0, none⟩), .agg #[.int .u8 (op : Int), .int .u64 (x : Int), .int .u64 (b : Int), .slice A m c]] w (KRet w a E I (s, (rgtF op x b m : Nat))) := by
  have s0 : Step (fun _ => False) w (w.alloc (.cells #[.int .u8 (op : Int), .int .u64 (x : Int), .int .u64 (b : Int), .slice A m c] 40)) := Step.refl.alloc _
  have b0 := Blk.new w 40 #[.int .u8 (op : Int), .int .u64 (x : Int), .int .u64 (b : Int), .slice A m c]
  have h0 := h.quiet s0
  have m0 := (b0.cell 0).trans (show _ = some (Value.int .u8 (op : Int)) from rfl)
  have m1 := (b0.cell 1).trans (show _ = some (Value.int .u64 (x : Int)) from rfl)
  have hNI : ¬ I w.heap.size := fun hk => by have := Ctl.in_ (l := s.l) (fs := s.fs) h.ctl _ hk; omega
  have N3 : w.heap.size < (w.alloc (.cells #[.int .u8 (op : Int), .int .u64 (x : Int), .int .u64 (b : Int), .slice A m c] 40)).heap.size := by simp
  have c6 := h0.c6
  have nkI := h0.kf.self
  have H0 := Lib.hid h0
  have S0 := Lib.hid s0
  have B0 := Lib.hid b0
  clear b0 h0 h s0
  have HR : Hid (∀ W, Calls Try.prog 46 #[.agg #[.int .u8 (op : Int), .int .u64 (x : Int), .int .u64 (b : Int), .slice A m c]] W fun e w' => e = .returned (.int .i64 (rgtF op x b m : Nat)) ∧ Step (fun _ => False) W w') := fun W => right_walk W op x b m c A ho
  generalize rgtF op x b m = r at hr HR ⊢
  have g1 : ((r : Int) != 0) = true := by simp; omega
  clear hr
  go_enter Try.func16, Try.ntmps16
  go_wp2_with fail
  refine (HR.out _).mono ?_
  rintro e w1 ⟨rfl, t1⟩
  go_wp2_with fail
  go_ret
  exact ⟨rfl, KUp.after S0.out (KUp.quiet (KUp.same H0.out) t1)⟩

set_option maxRecDepth 100000 in
set_option maxHeartbeats 1600000 in
theorem k_one_call0 (op x b m c : Nat) (A : Option Addr) (h : Kk w a E I s) (hb : s.ok n) (hn : n ≤ 1000) (hE : E.ok) (ho : op < 256) (hx : x < 18446744073709551616) (hr : rgtF op x b m = 0) (o16 : ((op : Int) == 16) = true) :
    Calls Try.prog 16 #[.pointer (some ⟨a.k, 0, none⟩), .agg #[.int .u8 (op : Int), .int .u64 (x : Int), .int .u64 (b : Int), .slice A m c]] w (KRet w a E I (callS E op x s)) := by
  have s0 : Step (fun _ => False) w (w.alloc (.cells #[.int .u8 (op : Int), .int .u64 (x : Int), .int .u64 (b : Int), .slice A m c] 40)) := Step.refl.alloc _
  have b0 := Blk.new w 40 #[.int .u8 (op : Int), .int .u64 (x : Int), .int .u64 (b : Int), .slice A m c]
  have h0 := h.quiet s0
  have m0 := (b0.cell 0).trans (show _ = some (Value.int .u8 (op : Int)) from rfl)
  have m1 := (b0.cell 1).trans (show _ = some (Value.int .u64 (x : Int)) from rfl)
  have hNI : ¬ I w.heap.size := fun hk => by have := Ctl.in_ (l := s.l) (fs := s.fs) h.ctl _ hk; omega
  have N3 : w.heap.size < (w.alloc (.cells #[.int .u8 (op : Int), .int .u64 (x : Int), .int .u64 (b : Int), .slice A m c] 40)).heap.size := by simp
  have c6 := h0.c6
  have nkI := h0.kf.self
  have H0 := Lib.hid h0
  have S0 := Lib.hid s0
  have B0 := Lib.hid b0
  clear b0 h0 h s0
  have HR : Hid (∀ W, Calls Try.prog 46 #[.agg #[.int .u8 (op : Int), .int .u64 (x : Int), .int .u64 (b : Int), .slice A m c]] W fun e w' => e = .returned (.int .i64 (rgtF op x b m : Nat)) ∧ Step (fun _ => False) W w') := fun W => right_walk W op x b m c A ho
  rw [hr] at HR
  have HO : Hid (∀ W, Calls Try.prog 47 #[.int .u8 (op : Int)] W fun e w' => e = .returned (infM (infF op) ((infF op).imm : Int)) ∧ Step (fun _ => False) W w') := fun W => of_walk W op ho
  clear hr
  generalize infF op = i at *
  go_enter Try.func16, Try.ntmps16
  go_wp2_with fail
  refine (HR.out _).mono ?_
  rintro e w1 ⟨rfl, t1⟩
  replace m0 := (t1.cell (p := ⟨w.heap.size, 0, none⟩) N3 id).trans m0
  have HB1 := Lib.hid (B0.out.step t1 id)
  have N4 : w.heap.size < w1.heap.size := Nat.lt_of_lt_of_le N3 t1.size
  have T1 := Lib.hid t1
  clear t1
  go_wp2_with fail
  refine (HO.out _).mono ?_
  rintro e w2 ⟨rfl, t2⟩
  replace m0 := (t2.cell (p := ⟨w.heap.size, 0, none⟩) N4 id).trans m0
  have HB2 := Lib.hid (HB1.out.step t2 id)
  have N5 : w.heap.size < w2.heap.size := Nat.lt_of_lt_of_le N4 t2.size
  have m1' := (HB2.out.cell 1).trans (show _ = some (Value.int .u64 (x : Int)) from rfl)
  have m2' := (HB2.out.cell 2).trans (show _ = some (Value.int .u64 (b : Int)) from rfl)
  have m3' := (HB2.out.cell 3).trans (show _ = some (Value.slice A m c) from rfl)
  have nN : w.heap.size ≠ w2.heap.size := Nat.ne_of_lt N5
  have TT := Lib.hid ((T1.out.trans t2).alloc (.cells #[.string (str i.name), .int .i64 (i.imm : Int), .string (str i.par), .string (str i.res), .bool i.free] 117))
  have H2 := Lib.hid (H0.out.quiet TT.out)
  unfold infM
  clear t2 m1
  go_wp2_with fail
  refine (k_call op x b m c A H2.out hb hn hE hx).mono ?_
  rintro e w3 ⟨rfl, u3⟩
  go_wp2_with fail
  go_ret
  exact ⟨rfl, KUp.after S0.out (KUp.after TT.out u3)⟩

set_option maxRecDepth 100000 in
set_option maxHeartbeats 1600000 in
theorem k_one_call1 (op x b m c : Nat) (A : Option Addr) (h : Kk w a E I s) (hb : s.ok n) (hn : n ≤ 1000) (hE : E.ok) (ho : op < 256) (hx : x < 18446744073709551616) (hr : rgtF op x b m = 0) (o16 : ((op : Int) == 16) = false) (o17 : ((op : Int) == 17) = true) :
    Calls Try.prog 16 #[.pointer (some ⟨a.k, 0, none⟩), .agg #[.int .u8 (op : Int), .int .u64 (x : Int), .int .u64 (b : Int), .slice A m c]] w (KRet w a E I (callS E op x s)) := by
  have s0 : Step (fun _ => False) w (w.alloc (.cells #[.int .u8 (op : Int), .int .u64 (x : Int), .int .u64 (b : Int), .slice A m c] 40)) := Step.refl.alloc _
  have b0 := Blk.new w 40 #[.int .u8 (op : Int), .int .u64 (x : Int), .int .u64 (b : Int), .slice A m c]
  have h0 := h.quiet s0
  have m0 := (b0.cell 0).trans (show _ = some (Value.int .u8 (op : Int)) from rfl)
  have m1 := (b0.cell 1).trans (show _ = some (Value.int .u64 (x : Int)) from rfl)
  have hNI : ¬ I w.heap.size := fun hk => by have := Ctl.in_ (l := s.l) (fs := s.fs) h.ctl _ hk; omega
  have N3 : w.heap.size < (w.alloc (.cells #[.int .u8 (op : Int), .int .u64 (x : Int), .int .u64 (b : Int), .slice A m c] 40)).heap.size := by simp
  have c6 := h0.c6
  have nkI := h0.kf.self
  have H0 := Lib.hid h0
  have S0 := Lib.hid s0
  have B0 := Lib.hid b0
  clear b0 h0 h s0
  have HR : Hid (∀ W, Calls Try.prog 46 #[.agg #[.int .u8 (op : Int), .int .u64 (x : Int), .int .u64 (b : Int), .slice A m c]] W fun e w' => e = .returned (.int .i64 (rgtF op x b m : Nat)) ∧ Step (fun _ => False) W w') := fun W => right_walk W op x b m c A ho
  rw [hr] at HR
  have HO : Hid (∀ W, Calls Try.prog 47 #[.int .u8 (op : Int)] W fun e w' => e = .returned (infM (infF op) ((infF op).imm : Int)) ∧ Step (fun _ => False) W w') := fun W => of_walk W op ho
  clear hr
  generalize infF op = i at *
  go_enter Try.func16, Try.ntmps16
  go_wp2_with fail
  refine (HR.out _).mono ?_
  rintro e w1 ⟨rfl, t1⟩
  replace m0 := (t1.cell (p := ⟨w.heap.size, 0, none⟩) N3 id).trans m0
  have HB1 := Lib.hid (B0.out.step t1 id)
  have N4 : w.heap.size < w1.heap.size := Nat.lt_of_lt_of_le N3 t1.size
  have T1 := Lib.hid t1
  clear t1
  go_wp2_with fail
  refine (HO.out _).mono ?_
  rintro e w2 ⟨rfl, t2⟩
  replace m0 := (t2.cell (p := ⟨w.heap.size, 0, none⟩) N4 id).trans m0
  have HB2 := Lib.hid (HB1.out.step t2 id)
  have N5 : w.heap.size < w2.heap.size := Nat.lt_of_lt_of_le N4 t2.size
  have m1' := (HB2.out.cell 1).trans (show _ = some (Value.int .u64 (x : Int)) from rfl)
  have m2' := (HB2.out.cell 2).trans (show _ = some (Value.int .u64 (b : Int)) from rfl)
  have m3' := (HB2.out.cell 3).trans (show _ = some (Value.slice A m c) from rfl)
  have nN : w.heap.size ≠ w2.heap.size := Nat.ne_of_lt N5
  have TT := Lib.hid ((T1.out.trans t2).alloc (.cells #[.string (str i.name), .int .i64 (i.imm : Int), .string (str i.par), .string (str i.res), .bool i.free] 117))
  have H2 := Lib.hid (H0.out.quiet TT.out)
  unfold infM
  clear t2 m1
  go_wp2_with fail
  refine (k_call op x b m c A H2.out hb hn hE hx).mono ?_
  rintro e w3 ⟨rfl, u3⟩
  go_wp2_with fail
  go_ret
  exact ⟨rfl, KUp.after S0.out (KUp.after TT.out u3)⟩

set_option maxRecDepth 100000 in
set_option maxHeartbeats 1600000 in
theorem k_one_choose0 (op x b m c : Nat) (A : Option Addr) (h : Kk w a E I s) (hb : s.ok n) (hn : n ≤ 1000) (hE : E.ok) (ho : op < 256) (hx : x < 18446744073709551616) (hr : rgtF op x b m = 0) (o16 : ((op : Int) == 16) = false) (o17 : ((op : Int) == 17) = false) (o26 : ((op : Int) == 26) = true) :
    Calls Try.prog 16 #[.pointer (some ⟨a.k, 0, none⟩), .agg #[.int .u8 (op : Int), .int .u64 (x : Int), .int .u64 (b : Int), .slice A m c]] w (KRet w a E I (chooseS op s)) := by
  have s0 : Step (fun _ => False) w (w.alloc (.cells #[.int .u8 (op : Int), .int .u64 (x : Int), .int .u64 (b : Int), .slice A m c] 40)) := Step.refl.alloc _
  have b0 := Blk.new w 40 #[.int .u8 (op : Int), .int .u64 (x : Int), .int .u64 (b : Int), .slice A m c]
  have h0 := h.quiet s0
  have m0 := (b0.cell 0).trans (show _ = some (Value.int .u8 (op : Int)) from rfl)
  have m1 := (b0.cell 1).trans (show _ = some (Value.int .u64 (x : Int)) from rfl)
  have hNI : ¬ I w.heap.size := fun hk => by have := Ctl.in_ (l := s.l) (fs := s.fs) h.ctl _ hk; omega
  have N3 : w.heap.size < (w.alloc (.cells #[.int .u8 (op : Int), .int .u64 (x : Int), .int .u64 (b : Int), .slice A m c] 40)).heap.size := by simp
  have c6 := h0.c6
  have nkI := h0.kf.self
  have H0 := Lib.hid h0
  have S0 := Lib.hid s0
  have B0 := Lib.hid b0
  clear b0 h0 h s0
  have HR : Hid (∀ W, Calls Try.prog 46 #[.agg #[.int .u8 (op : Int), .int .u64 (x : Int), .int .u64 (b : Int), .slice A m c]] W fun e w' => e = .returned (.int .i64 (rgtF op x b m : Nat)) ∧ Step (fun _ => False) W w') := fun W => right_walk W op x b m c A ho
  rw [hr] at HR
  have HO : Hid (∀ W, Calls Try.prog 47 #[.int .u8 (op : Int)] W fun e w' => e = .returned (infM (infF op) ((infF op).imm : Int)) ∧ Step (fun _ => False) W w') := fun W => of_walk W op ho
  clear hr
  generalize infF op = i at *
  go_enter Try.func16, Try.ntmps16
  go_wp2_with fail
  refine (HR.out _).mono ?_
  rintro e w1 ⟨rfl, t1⟩
  replace m0 := (t1.cell (p := ⟨w.heap.size, 0, none⟩) N3 id).trans m0
  have HB1 := Lib.hid (B0.out.step t1 id)
  have N4 : w.heap.size < w1.heap.size := Nat.lt_of_lt_of_le N3 t1.size
  have T1 := Lib.hid t1
  clear t1
  go_wp2_with fail
  refine (HO.out _).mono ?_
  rintro e w2 ⟨rfl, t2⟩
  replace m0 := (t2.cell (p := ⟨w.heap.size, 0, none⟩) N4 id).trans m0
  have HB2 := Lib.hid (HB1.out.step t2 id)
  have N5 : w.heap.size < w2.heap.size := Nat.lt_of_lt_of_le N4 t2.size
  have m1' := (HB2.out.cell 1).trans (show _ = some (Value.int .u64 (x : Int)) from rfl)
  have m2' := (HB2.out.cell 2).trans (show _ = some (Value.int .u64 (b : Int)) from rfl)
  have m3' := (HB2.out.cell 3).trans (show _ = some (Value.slice A m c) from rfl)
  have nN : w.heap.size ≠ w2.heap.size := Nat.ne_of_lt N5
  have TT := Lib.hid ((T1.out.trans t2).alloc (.cells #[.string (str i.name), .int .i64 (i.imm : Int), .string (str i.par), .string (str i.res), .bool i.free] 117))
  have H2 := Lib.hid (H0.out.quiet TT.out)
  unfold infM
  clear t2 m1
  go_wp2_with fail
  refine (k_choose op x b m c A H2.out hb hn).mono ?_
  rintro e w3 ⟨rfl, u3⟩
  go_wp2_with fail
  go_ret
  exact ⟨rfl, KUp.after S0.out (KUp.after TT.out u3)⟩

set_option maxRecDepth 100000 in
set_option maxHeartbeats 1600000 in
theorem k_one_choose1 (op x b m c : Nat) (A : Option Addr) (h : Kk w a E I s) (hb : s.ok n) (hn : n ≤ 1000) (hE : E.ok) (ho : op < 256) (hx : x < 18446744073709551616) (hr : rgtF op x b m = 0) (o16 : ((op : Int) == 16) = false) (o17 : ((op : Int) == 17) = false) (o26 : ((op : Int) == 26) = false) (o27 : ((op : Int) == 27) = true) :
    Calls Try.prog 16 #[.pointer (some ⟨a.k, 0, none⟩), .agg #[.int .u8 (op : Int), .int .u64 (x : Int), .int .u64 (b : Int), .slice A m c]] w (KRet w a E I (chooseS op s)) := by
  have s0 : Step (fun _ => False) w (w.alloc (.cells #[.int .u8 (op : Int), .int .u64 (x : Int), .int .u64 (b : Int), .slice A m c] 40)) := Step.refl.alloc _
  have b0 := Blk.new w 40 #[.int .u8 (op : Int), .int .u64 (x : Int), .int .u64 (b : Int), .slice A m c]
  have h0 := h.quiet s0
  have m0 := (b0.cell 0).trans (show _ = some (Value.int .u8 (op : Int)) from rfl)
  have m1 := (b0.cell 1).trans (show _ = some (Value.int .u64 (x : Int)) from rfl)
  have hNI : ¬ I w.heap.size := fun hk => by have := Ctl.in_ (l := s.l) (fs := s.fs) h.ctl _ hk; omega
  have N3 : w.heap.size < (w.alloc (.cells #[.int .u8 (op : Int), .int .u64 (x : Int), .int .u64 (b : Int), .slice A m c] 40)).heap.size := by simp
  have c6 := h0.c6
  have nkI := h0.kf.self
  have H0 := Lib.hid h0
  have S0 := Lib.hid s0
  have B0 := Lib.hid b0
  clear b0 h0 h s0
  have HR : Hid (∀ W, Calls Try.prog 46 #[.agg #[.int .u8 (op : Int), .int .u64 (x : Int), .int .u64 (b : Int), .slice A m c]] W fun e w' => e = .returned (.int .i64 (rgtF op x b m : Nat)) ∧ Step (fun _ => False) W w') := fun W => right_walk W op x b m c A ho
  rw [hr] at HR
  have HO : Hid (∀ W, Calls Try.prog 47 #[.int .u8 (op : Int)] W fun e w' => e = .returned (infM (infF op) ((infF op).imm : Int)) ∧ Step (fun _ => False) W w') := fun W => of_walk W op ho
  clear hr
  generalize infF op = i at *
  go_enter Try.func16, Try.ntmps16
  go_wp2_with fail
  refine (HR.out _).mono ?_
  rintro e w1 ⟨rfl, t1⟩
  replace m0 := (t1.cell (p := ⟨w.heap.size, 0, none⟩) N3 id).trans m0
  have HB1 := Lib.hid (B0.out.step t1 id)
  have N4 : w.heap.size < w1.heap.size := Nat.lt_of_lt_of_le N3 t1.size
  have T1 := Lib.hid t1
  clear t1
  go_wp2_with fail
  refine (HO.out _).mono ?_
  rintro e w2 ⟨rfl, t2⟩
  replace m0 := (t2.cell (p := ⟨w.heap.size, 0, none⟩) N4 id).trans m0
  have HB2 := Lib.hid (HB1.out.step t2 id)
  have N5 : w.heap.size < w2.heap.size := Nat.lt_of_lt_of_le N4 t2.size
  have m1' := (HB2.out.cell 1).trans (show _ = some (Value.int .u64 (x : Int)) from rfl)
  have m2' := (HB2.out.cell 2).trans (show _ = some (Value.int .u64 (b : Int)) from rfl)
  have m3' := (HB2.out.cell 3).trans (show _ = some (Value.slice A m c) from rfl)
  have nN : w.heap.size ≠ w2.heap.size := Nat.ne_of_lt N5
  have TT := Lib.hid ((T1.out.trans t2).alloc (.cells #[.string (str i.name), .int .i64 (i.imm : Int), .string (str i.par), .string (str i.res), .bool i.free] 117))
  have H2 := Lib.hid (H0.out.quiet TT.out)
  unfold infM
  clear t2 m1
  go_wp2_with fail
  refine (k_choose op x b m c A H2.out hb hn).mono ?_
  rintro e w3 ⟨rfl, u3⟩
  go_wp2_with fail
  go_ret
  exact ⟨rfl, KUp.after S0.out (KUp.after TT.out u3)⟩

set_option maxRecDepth 100000 in
set_option maxHeartbeats 1600000 in
theorem k_one_variable0 (op x b m c : Nat) (A : Option Addr) (h : Kk w a E I s) (hb : s.ok n) (hn : n ≤ 1000) (hE : E.ok) (ho : op < 256) (hx : x < 18446744073709551616) (hr : rgtF op x b m = 0) (o16 : ((op : Int) == 16) = false) (o17 : ((op : Int) == 17) = false) (o26 : ((op : Int) == 26) = false) (o27 : ((op : Int) == 27) = false) (g1 : (32 : Int) ≤ (op : Int)) (g2 : (op : Int) ≤ 36) :
    Calls Try.prog 16 #[.pointer (some ⟨a.k, 0, none⟩), .agg #[.int .u8 (op : Int), .int .u64 (x : Int), .int .u64 (b : Int), .slice A m c]] w (KRet w a E I (variableS E op x s)) := by
  have s0 : Step (fun _ => False) w (w.alloc (.cells #[.int .u8 (op : Int), .int .u64 (x : Int), .int .u64 (b : Int), .slice A m c] 40)) := Step.refl.alloc _
  have b0 := Blk.new w 40 #[.int .u8 (op : Int), .int .u64 (x : Int), .int .u64 (b : Int), .slice A m c]
  have h0 := h.quiet s0
  have m0 := (b0.cell 0).trans (show _ = some (Value.int .u8 (op : Int)) from rfl)
  have m1 := (b0.cell 1).trans (show _ = some (Value.int .u64 (x : Int)) from rfl)
  have hNI : ¬ I w.heap.size := fun hk => by have := Ctl.in_ (l := s.l) (fs := s.fs) h.ctl _ hk; omega
  have N3 : w.heap.size < (w.alloc (.cells #[.int .u8 (op : Int), .int .u64 (x : Int), .int .u64 (b : Int), .slice A m c] 40)).heap.size := by simp
  have c6 := h0.c6
  have nkI := h0.kf.self
  have H0 := Lib.hid h0
  have S0 := Lib.hid s0
  have B0 := Lib.hid b0
  clear b0 h0 h s0
  have HR : Hid (∀ W, Calls Try.prog 46 #[.agg #[.int .u8 (op : Int), .int .u64 (x : Int), .int .u64 (b : Int), .slice A m c]] W fun e w' => e = .returned (.int .i64 (rgtF op x b m : Nat)) ∧ Step (fun _ => False) W w') := fun W => right_walk W op x b m c A ho
  rw [hr] at HR
  have HO : Hid (∀ W, Calls Try.prog 47 #[.int .u8 (op : Int)] W fun e w' => e = .returned (infM (infF op) ((infF op).imm : Int)) ∧ Step (fun _ => False) W w') := fun W => of_walk W op ho
  clear hr
  generalize infF op = i at *
  go_enter Try.func16, Try.ntmps16
  go_wp2_with fail
  refine (HR.out _).mono ?_
  rintro e w1 ⟨rfl, t1⟩
  replace m0 := (t1.cell (p := ⟨w.heap.size, 0, none⟩) N3 id).trans m0
  have HB1 := Lib.hid (B0.out.step t1 id)
  have N4 : w.heap.size < w1.heap.size := Nat.lt_of_lt_of_le N3 t1.size
  have T1 := Lib.hid t1
  clear t1
  go_wp2_with fail
  refine (HO.out _).mono ?_
  rintro e w2 ⟨rfl, t2⟩
  replace m0 := (t2.cell (p := ⟨w.heap.size, 0, none⟩) N4 id).trans m0
  have HB2 := Lib.hid (HB1.out.step t2 id)
  have N5 : w.heap.size < w2.heap.size := Nat.lt_of_lt_of_le N4 t2.size
  have m1' := (HB2.out.cell 1).trans (show _ = some (Value.int .u64 (x : Int)) from rfl)
  have m2' := (HB2.out.cell 2).trans (show _ = some (Value.int .u64 (b : Int)) from rfl)
  have m3' := (HB2.out.cell 3).trans (show _ = some (Value.slice A m c) from rfl)
  have nN : w.heap.size ≠ w2.heap.size := Nat.ne_of_lt N5
  have TT := Lib.hid ((T1.out.trans t2).alloc (.cells #[.string (str i.name), .int .i64 (i.imm : Int), .string (str i.par), .string (str i.res), .bool i.free] 117))
  have H2 := Lib.hid (H0.out.quiet TT.out)
  unfold infM
  clear t2 m1
  go_wp2_with fail
  refine (k_variable op x b m c A H2.out hb hn hE hx).mono ?_
  rintro e w3 ⟨rfl, u3⟩
  go_wp2_with fail
  go_ret
  exact ⟨rfl, KUp.after S0.out (KUp.after TT.out u3)⟩

set_option maxRecDepth 100000 in
set_option maxHeartbeats 1600000 in
theorem k_one_control0 (op x b m c : Nat) (A : Option Addr) (h : Kk w a E I s) (hb : s.ok n) (hn : n ≤ 1000) (hE : E.ok) (ho : op < 256) (hx : x < 18446744073709551616) (hr : rgtF op x b m = 0) (o16 : ((op : Int) == 16) = false) (o17 : ((op : Int) == 17) = false) (o26 : ((op : Int) == 26) = false) (o27 : ((op : Int) == 27) = false) (g1 : ¬ (32 : Int) ≤ (op : Int)) (L : List Nat) (HM : Hid (m = L.length)) (hm : m ≤ 1000) (hL32 : ∀ y ∈ L, y < 4294967296) (hR : Reads w a.R 1 A m (L.flatMap fun y : Nat => [Value.int .u32 (y : Int)])) (hf : (infF op).free = true) :
    Calls Try.prog 16 #[.pointer (some ⟨a.k, 0, none⟩), .agg #[.int .u8 (op : Int), .int .u64 (x : Int), .int .u64 (b : Int), .slice A m c]] w (KRet w a E I (controlS E op x L s)) := by
  have s0 : Step (fun _ => False) w (w.alloc (.cells #[.int .u8 (op : Int), .int .u64 (x : Int), .int .u64 (b : Int), .slice A m c] 40)) := Step.refl.alloc _
  have b0 := Blk.new w 40 #[.int .u8 (op : Int), .int .u64 (x : Int), .int .u64 (b : Int), .slice A m c]
  have h0 := h.quiet s0
  have m0 := (b0.cell 0).trans (show _ = some (Value.int .u8 (op : Int)) from rfl)
  have m1 := (b0.cell 1).trans (show _ = some (Value.int .u64 (x : Int)) from rfl)
  have hNI : ¬ I w.heap.size := fun hk => by have := Ctl.in_ (l := s.l) (fs := s.fs) h.ctl _ hk; omega
  have N3 : w.heap.size < (w.alloc (.cells #[.int .u8 (op : Int), .int .u64 (x : Int), .int .u64 (b : Int), .slice A m c] 40)).heap.size := by simp
  have c6 := h0.c6
  have nkI := h0.kf.self
  have H0 := Lib.hid h0
  have S0 := Lib.hid s0
  have B0 := Lib.hid b0
  clear b0 h0 h s0
  have HR : Hid (∀ W, Calls Try.prog 46 #[.agg #[.int .u8 (op : Int), .int .u64 (x : Int), .int .u64 (b : Int), .slice A m c]] W fun e w' => e = .returned (.int .i64 (rgtF op x b m : Nat)) ∧ Step (fun _ => False) W w') := fun W => right_walk W op x b m c A ho
  rw [hr] at HR
  have HO : Hid (∀ W, Calls Try.prog 47 #[.int .u8 (op : Int)] W fun e w' => e = .returned (infM (infF op) ((infF op).imm : Int)) ∧ Step (fun _ => False) W w') := fun W => of_walk W op ho
  have hbl : op = 2 ∨ op = 3 ∨ op = 4 → x < 256 := rgt_blk hr
  have HBL := Lib.hid hbl
  have HR5 := Lib.hid hR
  have HL5 := Lib.hid hL32
  clear hr hbl hR hL32
  generalize infF op = i at *
  obtain ⟨inm, iim, ipar, ires, ifr⟩ := i
  simp only at hf
  subst hf
  go_enter Try.func16, Try.ntmps16
  go_wp2_with fail
  refine (HR.out _).mono ?_
  rintro e w1 ⟨rfl, t1⟩
  replace m0 := (t1.cell (p := ⟨w.heap.size, 0, none⟩) N3 id).trans m0
  have HB1 := Lib.hid (B0.out.step t1 id)
  have N4 : w.heap.size < w1.heap.size := Nat.lt_of_lt_of_le N3 t1.size
  have T1 := Lib.hid t1
  clear t1
  go_wp2_with fail
  refine (HO.out _).mono ?_
  rintro e w2 ⟨rfl, t2⟩
  replace m0 := (t2.cell (p := ⟨w.heap.size, 0, none⟩) N4 id).trans m0
  have HB2 := Lib.hid (HB1.out.step t2 id)
  have N5 : w.heap.size < w2.heap.size := Nat.lt_of_lt_of_le N4 t2.size
  have m1' := (HB2.out.cell 1).trans (show _ = some (Value.int .u64 (x : Int)) from rfl)
  have m2' := (HB2.out.cell 2).trans (show _ = some (Value.int .u64 (b : Int)) from rfl)
  have m3' := (HB2.out.cell 3).trans (show _ = some (Value.slice A m c) from rfl)
  have nN : w.heap.size ≠ w2.heap.size := Nat.ne_of_lt N5
  have TT := Lib.hid ((T1.out.trans t2).alloc (.cells #[.string (str inm), .int .i64 (iim : Int), .string (str ipar), .string (str ires), .bool true] 117))
  have H2 := Lib.hid (H0.out.quiet TT.out)
  unfold infM
  dsimp only
  clear t2 m1
  go_wp2_with fail
  refine (k_control op x b m c A H2.out hb hn L hx HM hm HL5.out (HR5.out.step (S0.out.trans TT.out) (fun _ _ => id)) hE.result HBL.out).mono ?_
  rintro e w3 ⟨rfl, u3⟩
  go_wp2_with fail
  go_ret
  exact ⟨rfl, KUp.after S0.out (KUp.after TT.out u3)⟩

set_option maxRecDepth 100000 in
set_option maxHeartbeats 1600000 in
theorem k_one_control1 (op x b m c : Nat) (A : Option Addr) (h : Kk w a E I s) (hb : s.ok n) (hn : n ≤ 1000) (hE : E.ok) (ho : op < 256) (hx : x < 18446744073709551616) (hr : rgtF op x b m = 0) (o16 : ((op : Int) == 16) = false) (o17 : ((op : Int) == 17) = false) (o26 : ((op : Int) == 26) = false) (o27 : ((op : Int) == 27) = false) (g1 : (32 : Int) ≤ (op : Int)) (g2 : ¬ (op : Int) ≤ 36) (L : List Nat) (HM : Hid (m = L.length)) (hm : m ≤ 1000) (hL32 : ∀ y ∈ L, y < 4294967296) (hR : Reads w a.R 1 A m (L.flatMap fun y : Nat => [Value.int .u32 (y : Int)])) (hf : (infF op).free = true) :
    Calls Try.prog 16 #[.pointer (some ⟨a.k, 0, none⟩), .agg #[.int .u8 (op : Int), .int .u64 (x : Int), .int .u64 (b : Int), .slice A m c]] w (KRet w a E I (controlS E op x L s)) := by
  have s0 : Step (fun _ => False) w (w.alloc (.cells #[.int .u8 (op : Int), .int .u64 (x : Int), .int .u64 (b : Int), .slice A m c] 40)) := Step.refl.alloc _
  have b0 := Blk.new w 40 #[.int .u8 (op : Int), .int .u64 (x : Int), .int .u64 (b : Int), .slice A m c]
  have h0 := h.quiet s0
  have m0 := (b0.cell 0).trans (show _ = some (Value.int .u8 (op : Int)) from rfl)
  have m1 := (b0.cell 1).trans (show _ = some (Value.int .u64 (x : Int)) from rfl)
  have hNI : ¬ I w.heap.size := fun hk => by have := Ctl.in_ (l := s.l) (fs := s.fs) h.ctl _ hk; omega
  have N3 : w.heap.size < (w.alloc (.cells #[.int .u8 (op : Int), .int .u64 (x : Int), .int .u64 (b : Int), .slice A m c] 40)).heap.size := by simp
  have c6 := h0.c6
  have nkI := h0.kf.self
  have H0 := Lib.hid h0
  have S0 := Lib.hid s0
  have B0 := Lib.hid b0
  clear b0 h0 h s0
  have HR : Hid (∀ W, Calls Try.prog 46 #[.agg #[.int .u8 (op : Int), .int .u64 (x : Int), .int .u64 (b : Int), .slice A m c]] W fun e w' => e = .returned (.int .i64 (rgtF op x b m : Nat)) ∧ Step (fun _ => False) W w') := fun W => right_walk W op x b m c A ho
  rw [hr] at HR
  have HO : Hid (∀ W, Calls Try.prog 47 #[.int .u8 (op : Int)] W fun e w' => e = .returned (infM (infF op) ((infF op).imm : Int)) ∧ Step (fun _ => False) W w') := fun W => of_walk W op ho
  have hbl : op = 2 ∨ op = 3 ∨ op = 4 → x < 256 := rgt_blk hr
  have HBL := Lib.hid hbl
  have HR5 := Lib.hid hR
  have HL5 := Lib.hid hL32
  clear hr hbl hR hL32
  generalize infF op = i at *
  obtain ⟨inm, iim, ipar, ires, ifr⟩ := i
  simp only at hf
  subst hf
  go_enter Try.func16, Try.ntmps16
  go_wp2_with fail
  refine (HR.out _).mono ?_
  rintro e w1 ⟨rfl, t1⟩
  replace m0 := (t1.cell (p := ⟨w.heap.size, 0, none⟩) N3 id).trans m0
  have HB1 := Lib.hid (B0.out.step t1 id)
  have N4 : w.heap.size < w1.heap.size := Nat.lt_of_lt_of_le N3 t1.size
  have T1 := Lib.hid t1
  clear t1
  go_wp2_with fail
  refine (HO.out _).mono ?_
  rintro e w2 ⟨rfl, t2⟩
  replace m0 := (t2.cell (p := ⟨w.heap.size, 0, none⟩) N4 id).trans m0
  have HB2 := Lib.hid (HB1.out.step t2 id)
  have N5 : w.heap.size < w2.heap.size := Nat.lt_of_lt_of_le N4 t2.size
  have m1' := (HB2.out.cell 1).trans (show _ = some (Value.int .u64 (x : Int)) from rfl)
  have m2' := (HB2.out.cell 2).trans (show _ = some (Value.int .u64 (b : Int)) from rfl)
  have m3' := (HB2.out.cell 3).trans (show _ = some (Value.slice A m c) from rfl)
  have nN : w.heap.size ≠ w2.heap.size := Nat.ne_of_lt N5
  have TT := Lib.hid ((T1.out.trans t2).alloc (.cells #[.string (str inm), .int .i64 (iim : Int), .string (str ipar), .string (str ires), .bool true] 117))
  have H2 := Lib.hid (H0.out.quiet TT.out)
  unfold infM
  dsimp only
  clear t2 m1
  go_wp2_with fail
  refine (k_control op x b m c A H2.out hb hn L hx HM hm HL5.out (HR5.out.step (S0.out.trans TT.out) (fun _ _ => id)) hE.result HBL.out).mono ?_
  rintro e w3 ⟨rfl, u3⟩
  go_wp2_with fail
  go_ret
  exact ⟨rfl, KUp.after S0.out (KUp.after TT.out u3)⟩

set_option maxRecDepth 100000 in
set_option maxHeartbeats 1600000 in
theorem k_one_plain00 (op x b m c : Nat) (A : Option Addr) (h : Kk w a E I s) (hb : s.ok n) (hn : n ≤ 1000) (hE : E.ok) (ho : op < 256) (hx : x < 18446744073709551616) (hr : rgtF op x b m = 0) (o16 : ((op : Int) == 16) = false) (o17 : ((op : Int) == 17) = false) (o26 : ((op : Int) == 26) = false) (o27 : ((op : Int) == 27) = false) (g1 : ¬ (32 : Int) ≤ (op : Int)) (g3 : ¬ (40 : Int) ≤ (op : Int)) (hf : (infF op).free = false) :
    Calls Try.prog 16 #[.pointer (some ⟨a.k, 0, none⟩), .agg #[.int .u8 (op : Int), .int .u64 (x : Int), .int .u64 (b : Int), .slice A m c]] w (KRet w a E I (givesS (infF op).par (infF op).res s)) := by
  have s0 : Step (fun _ => False) w (w.alloc (.cells #[.int .u8 (op : Int), .int .u64 (x : Int), .int .u64 (b : Int), .slice A m c] 40)) := Step.refl.alloc _
  have b0 := Blk.new w 40 #[.int .u8 (op : Int), .int .u64 (x : Int), .int .u64 (b : Int), .slice A m c]
  have h0 := h.quiet s0
  have m0 := (b0.cell 0).trans (show _ = some (Value.int .u8 (op : Int)) from rfl)
  have m1 := (b0.cell 1).trans (show _ = some (Value.int .u64 (x : Int)) from rfl)
  have hNI : ¬ I w.heap.size := fun hk => by have := Ctl.in_ (l := s.l) (fs := s.fs) h.ctl _ hk; omega
  have N3 : w.heap.size < (w.alloc (.cells #[.int .u8 (op : Int), .int .u64 (x : Int), .int .u64 (b : Int), .slice A m c] 40)).heap.size := by simp
  have c6 := h0.c6
  have nkI := h0.kf.self
  have H0 := Lib.hid h0
  have S0 := Lib.hid s0
  have B0 := Lib.hid b0
  clear b0 h0 h s0
  have HR : Hid (∀ W, Calls Try.prog 46 #[.agg #[.int .u8 (op : Int), .int .u64 (x : Int), .int .u64 (b : Int), .slice A m c]] W fun e w' => e = .returned (.int .i64 (rgtF op x b m : Nat)) ∧ Step (fun _ => False) W w') := fun W => right_walk W op x b m c A ho
  rw [hr] at HR
  have HO : Hid (∀ W, Calls Try.prog 47 #[.int .u8 (op : Int)] W fun e w' => e = .returned (infM (infF op) ((infF op).imm : Int)) ∧ Step (fun _ => False) W w') := fun W => of_walk W op ho
  have hsm := inf_small op ho
  clear hr
  generalize infF op = i at *
  obtain ⟨inm, iim, ipar, ires, ifr⟩ := i
  simp only at hf
  subst hf
  replace hsm := Lib.hid hsm
  go_enter Try.func16, Try.ntmps16
  go_wp2_with fail
  refine (HR.out _).mono ?_
  rintro e w1 ⟨rfl, t1⟩
  replace m0 := (t1.cell (p := ⟨w.heap.size, 0, none⟩) N3 id).trans m0
  have HB1 := Lib.hid (B0.out.step t1 id)
  have N4 : w.heap.size < w1.heap.size := Nat.lt_of_lt_of_le N3 t1.size
  have T1 := Lib.hid t1
  clear t1
  go_wp2_with fail
  refine (HO.out _).mono ?_
  rintro e w2 ⟨rfl, t2⟩
  replace m0 := (t2.cell (p := ⟨w.heap.size, 0, none⟩) N4 id).trans m0
  have HB2 := Lib.hid (HB1.out.step t2 id)
  have N5 : w.heap.size < w2.heap.size := Nat.lt_of_lt_of_le N4 t2.size
  have m1' := (HB2.out.cell 1).trans (show _ = some (Value.int .u64 (x : Int)) from rfl)
  have m2' := (HB2.out.cell 2).trans (show _ = some (Value.int .u64 (b : Int)) from rfl)
  have m3' := (HB2.out.cell 3).trans (show _ = some (Value.slice A m c) from rfl)
  have nN : w.heap.size ≠ w2.heap.size := Nat.ne_of_lt N5
  have TT := Lib.hid ((T1.out.trans t2).alloc (.cells #[.string (str inm), .int .i64 (iim : Int), .string (str ipar), .string (str ires), .bool false] 117))
  have H2 := Lib.hid (H0.out.quiet TT.out)
  unfold infM
  dsimp only
  clear t2 m1
  go_wp2_with fail
  refine (k_gives ipar ires H2.out hb hn hsm.out.1 hsm.out.2).mono ?_
  rintro e w3 ⟨rfl, u3⟩
  go_wp2_with fail
  go_ret
  exact ⟨rfl, KUp.after S0.out (KUp.after TT.out u3)⟩

set_option maxRecDepth 100000 in
set_option maxHeartbeats 1600000 in
theorem k_one_plain10 (op x b m c : Nat) (A : Option Addr) (h : Kk w a E I s) (hb : s.ok n) (hn : n ≤ 1000) (hE : E.ok) (ho : op < 256) (hx : x < 18446744073709551616) (hr : rgtF op x b m = 0) (o16 : ((op : Int) == 16) = false) (o17 : ((op : Int) == 17) = false) (o26 : ((op : Int) == 26) = false) (o27 : ((op : Int) == 27) = false) (g1 : (32 : Int) ≤ (op : Int)) (g2 : ¬ (op : Int) ≤ 36) (g3 : ¬ (40 : Int) ≤ (op : Int)) (hf : (infF op).free = false) :
    Calls Try.prog 16 #[.pointer (some ⟨a.k, 0, none⟩), .agg #[.int .u8 (op : Int), .int .u64 (x : Int), .int .u64 (b : Int), .slice A m c]] w (KRet w a E I (givesS (infF op).par (infF op).res s)) := by
  have s0 : Step (fun _ => False) w (w.alloc (.cells #[.int .u8 (op : Int), .int .u64 (x : Int), .int .u64 (b : Int), .slice A m c] 40)) := Step.refl.alloc _
  have b0 := Blk.new w 40 #[.int .u8 (op : Int), .int .u64 (x : Int), .int .u64 (b : Int), .slice A m c]
  have h0 := h.quiet s0
  have m0 := (b0.cell 0).trans (show _ = some (Value.int .u8 (op : Int)) from rfl)
  have m1 := (b0.cell 1).trans (show _ = some (Value.int .u64 (x : Int)) from rfl)
  have hNI : ¬ I w.heap.size := fun hk => by have := Ctl.in_ (l := s.l) (fs := s.fs) h.ctl _ hk; omega
  have N3 : w.heap.size < (w.alloc (.cells #[.int .u8 (op : Int), .int .u64 (x : Int), .int .u64 (b : Int), .slice A m c] 40)).heap.size := by simp
  have c6 := h0.c6
  have nkI := h0.kf.self
  have H0 := Lib.hid h0
  have S0 := Lib.hid s0
  have B0 := Lib.hid b0
  clear b0 h0 h s0
  have HR : Hid (∀ W, Calls Try.prog 46 #[.agg #[.int .u8 (op : Int), .int .u64 (x : Int), .int .u64 (b : Int), .slice A m c]] W fun e w' => e = .returned (.int .i64 (rgtF op x b m : Nat)) ∧ Step (fun _ => False) W w') := fun W => right_walk W op x b m c A ho
  rw [hr] at HR
  have HO : Hid (∀ W, Calls Try.prog 47 #[.int .u8 (op : Int)] W fun e w' => e = .returned (infM (infF op) ((infF op).imm : Int)) ∧ Step (fun _ => False) W w') := fun W => of_walk W op ho
  have hsm := inf_small op ho
  clear hr
  generalize infF op = i at *
  obtain ⟨inm, iim, ipar, ires, ifr⟩ := i
  simp only at hf
  subst hf
  replace hsm := Lib.hid hsm
  go_enter Try.func16, Try.ntmps16
  go_wp2_with fail
  refine (HR.out _).mono ?_
  rintro e w1 ⟨rfl, t1⟩
  replace m0 := (t1.cell (p := ⟨w.heap.size, 0, none⟩) N3 id).trans m0
  have HB1 := Lib.hid (B0.out.step t1 id)
  have N4 : w.heap.size < w1.heap.size := Nat.lt_of_lt_of_le N3 t1.size
  have T1 := Lib.hid t1
  clear t1
  go_wp2_with fail
  refine (HO.out _).mono ?_
  rintro e w2 ⟨rfl, t2⟩
  replace m0 := (t2.cell (p := ⟨w.heap.size, 0, none⟩) N4 id).trans m0
  have HB2 := Lib.hid (HB1.out.step t2 id)
  have N5 : w.heap.size < w2.heap.size := Nat.lt_of_lt_of_le N4 t2.size
  have m1' := (HB2.out.cell 1).trans (show _ = some (Value.int .u64 (x : Int)) from rfl)
  have m2' := (HB2.out.cell 2).trans (show _ = some (Value.int .u64 (b : Int)) from rfl)
  have m3' := (HB2.out.cell 3).trans (show _ = some (Value.slice A m c) from rfl)
  have nN : w.heap.size ≠ w2.heap.size := Nat.ne_of_lt N5
  have TT := Lib.hid ((T1.out.trans t2).alloc (.cells #[.string (str inm), .int .i64 (iim : Int), .string (str ipar), .string (str ires), .bool false] 117))
  have H2 := Lib.hid (H0.out.quiet TT.out)
  unfold infM
  dsimp only
  clear t2 m1
  go_wp2_with fail
  refine (k_gives ipar ires H2.out hb hn hsm.out.1 hsm.out.2).mono ?_
  rintro e w3 ⟨rfl, u3⟩
  go_wp2_with fail
  go_ret
  exact ⟨rfl, KUp.after S0.out (KUp.after TT.out u3)⟩

set_option maxRecDepth 100000 in
set_option maxHeartbeats 1600000 in
theorem k_one_plain11 (op x b m c : Nat) (A : Option Addr) (h : Kk w a E I s) (hb : s.ok n) (hn : n ≤ 1000) (hE : E.ok) (ho : op < 256) (hx : x < 18446744073709551616) (hr : rgtF op x b m = 0) (o16 : ((op : Int) == 16) = false) (o17 : ((op : Int) == 17) = false) (o26 : ((op : Int) == 26) = false) (o27 : ((op : Int) == 27) = false) (g1 : (32 : Int) ≤ (op : Int)) (g2 : ¬ (op : Int) ≤ 36) (g3 : (40 : Int) ≤ (op : Int)) (g4 : ¬ (op : Int) ≤ 64) (hf : (infF op).free = false) :
    Calls Try.prog 16 #[.pointer (some ⟨a.k, 0, none⟩), .agg #[.int .u8 (op : Int), .int .u64 (x : Int), .int .u64 (b : Int), .slice A m c]] w (KRet w a E I (givesS (infF op).par (infF op).res s)) := by
  have s0 : Step (fun _ => False) w (w.alloc (.cells #[.int .u8 (op : Int), .int .u64 (x : Int), .int .u64 (b : Int), .slice A m c] 40)) := Step.refl.alloc _
  have b0 := Blk.new w 40 #[.int .u8 (op : Int), .int .u64 (x : Int), .int .u64 (b : Int), .slice A m c]
  have h0 := h.quiet s0
  have m0 := (b0.cell 0).trans (show _ = some (Value.int .u8 (op : Int)) from rfl)
  have m1 := (b0.cell 1).trans (show _ = some (Value.int .u64 (x : Int)) from rfl)
  have hNI : ¬ I w.heap.size := fun hk => by have := Ctl.in_ (l := s.l) (fs := s.fs) h.ctl _ hk; omega
  have N3 : w.heap.size < (w.alloc (.cells #[.int .u8 (op : Int), .int .u64 (x : Int), .int .u64 (b : Int), .slice A m c] 40)).heap.size := by simp
  have c6 := h0.c6
  have nkI := h0.kf.self
  have H0 := Lib.hid h0
  have S0 := Lib.hid s0
  have B0 := Lib.hid b0
  clear b0 h0 h s0
  have HR : Hid (∀ W, Calls Try.prog 46 #[.agg #[.int .u8 (op : Int), .int .u64 (x : Int), .int .u64 (b : Int), .slice A m c]] W fun e w' => e = .returned (.int .i64 (rgtF op x b m : Nat)) ∧ Step (fun _ => False) W w') := fun W => right_walk W op x b m c A ho
  rw [hr] at HR
  have HO : Hid (∀ W, Calls Try.prog 47 #[.int .u8 (op : Int)] W fun e w' => e = .returned (infM (infF op) ((infF op).imm : Int)) ∧ Step (fun _ => False) W w') := fun W => of_walk W op ho
  have hsm := inf_small op ho
  clear hr
  generalize infF op = i at *
  obtain ⟨inm, iim, ipar, ires, ifr⟩ := i
  simp only at hf
  subst hf
  replace hsm := Lib.hid hsm
  go_enter Try.func16, Try.ntmps16
  go_wp2_with fail
  refine (HR.out _).mono ?_
  rintro e w1 ⟨rfl, t1⟩
  replace m0 := (t1.cell (p := ⟨w.heap.size, 0, none⟩) N3 id).trans m0
  have HB1 := Lib.hid (B0.out.step t1 id)
  have N4 : w.heap.size < w1.heap.size := Nat.lt_of_lt_of_le N3 t1.size
  have T1 := Lib.hid t1
  clear t1
  go_wp2_with fail
  refine (HO.out _).mono ?_
  rintro e w2 ⟨rfl, t2⟩
  replace m0 := (t2.cell (p := ⟨w.heap.size, 0, none⟩) N4 id).trans m0
  have HB2 := Lib.hid (HB1.out.step t2 id)
  have N5 : w.heap.size < w2.heap.size := Nat.lt_of_lt_of_le N4 t2.size
  have m1' := (HB2.out.cell 1).trans (show _ = some (Value.int .u64 (x : Int)) from rfl)
  have m2' := (HB2.out.cell 2).trans (show _ = some (Value.int .u64 (b : Int)) from rfl)
  have m3' := (HB2.out.cell 3).trans (show _ = some (Value.slice A m c) from rfl)
  have nN : w.heap.size ≠ w2.heap.size := Nat.ne_of_lt N5
  have TT := Lib.hid ((T1.out.trans t2).alloc (.cells #[.string (str inm), .int .i64 (iim : Int), .string (str ipar), .string (str ires), .bool false] 117))
  have H2 := Lib.hid (H0.out.quiet TT.out)
  unfold infM
  dsimp only
  clear t2 m1
  go_wp2_with fail
  refine (k_gives ipar ires H2.out hb hn hsm.out.1 hsm.out.2).mono ?_
  rintro e w3 ⟨rfl, u3⟩
  go_wp2_with fail
  go_ret
  exact ⟨rfl, KUp.after S0.out (KUp.after TT.out u3)⟩

set_option maxRecDepth 100000 in
set_option maxHeartbeats 1600000 in
theorem k_one_mem0 (op x b m c : Nat) (A : Option Addr) (h : Kk w a E I s) (hb : s.ok n) (hn : n ≤ 1000) (hE : E.ok) (ho : op < 256) (hx : x < 18446744073709551616) (hr : rgtF op x b m = 0) (o16 : ((op : Int) == 16) = false) (o17 : ((op : Int) == 17) = false) (o26 : ((op : Int) == 26) = false) (o27 : ((op : Int) == 27) = false) (g1 : (32 : Int) ≤ (op : Int)) (g2 : ¬ (op : Int) ≤ 36) (g3 : (40 : Int) ≤ (op : Int)) (g4 : (op : Int) ≤ 64) (hf : (infF op).free = false) (he : ¬ memE E op x = 0) :
    Calls Try.prog 16 #[.pointer (some ⟨a.k, 0, none⟩), .agg #[.int .u8 (op : Int), .int .u64 (x : Int), .int .u64 (b : Int), .slice A m c]] w (KRet w a E I (s, memE E op x)) := by
  have s0 : Step (fun _ => False) w (w.alloc (.cells #[.int .u8 (op : Int), .int .u64 (x : Int), .int .u64 (b : Int), .slice A m c] 40)) := Step.refl.alloc _
  have b0 := Blk.new w 40 #[.int .u8 (op : Int), .int .u64 (x : Int), .int .u64 (b : Int), .slice A m c]
  have h0 := h.quiet s0
  have m0 := (b0.cell 0).trans (show _ = some (Value.int .u8 (op : Int)) from rfl)
  have m1 := (b0.cell 1).trans (show _ = some (Value.int .u64 (x : Int)) from rfl)
  have hNI : ¬ I w.heap.size := fun hk => by have := Ctl.in_ (l := s.l) (fs := s.fs) h.ctl _ hk; omega
  have N3 : w.heap.size < (w.alloc (.cells #[.int .u8 (op : Int), .int .u64 (x : Int), .int .u64 (b : Int), .slice A m c] 40)).heap.size := by simp
  have c6 := h0.c6
  have nkI := h0.kf.self
  have H0 := Lib.hid h0
  have S0 := Lib.hid s0
  have B0 := Lib.hid b0
  clear b0 h0 h s0
  have HR : Hid (∀ W, Calls Try.prog 46 #[.agg #[.int .u8 (op : Int), .int .u64 (x : Int), .int .u64 (b : Int), .slice A m c]] W fun e w' => e = .returned (.int .i64 (rgtF op x b m : Nat)) ∧ Step (fun _ => False) W w') := fun W => right_walk W op x b m c A ho
  rw [hr] at HR
  have HO : Hid (∀ W, Calls Try.prog 47 #[.int .u8 (op : Int)] W fun e w' => e = .returned (infM (infF op) ((infF op).imm : Int)) ∧ Step (fun _ => False) W w') := fun W => of_walk W op ho
  have HMM : Hid (∀ W, Kk W a E I s → _) := fun W hW => k_memory (w := W) op x b m c A hW hb hn ho hx
  have g5 : (memE E op x != 0) = true := by simpa using he
  generalize memE E op x = q at *
  clear hr he
  generalize infF op = i at *
  obtain ⟨inm, iim, ipar, ires, ifr⟩ := i
  simp only at hf
  subst hf
  go_enter Try.func16, Try.ntmps16
  go_wp2_with fail
  refine (HR.out _).mono ?_
  rintro e w1 ⟨rfl, t1⟩
  replace m0 := (t1.cell (p := ⟨w.heap.size, 0, none⟩) N3 id).trans m0
  have HB1 := Lib.hid (B0.out.step t1 id)
  have N4 : w.heap.size < w1.heap.size := Nat.lt_of_lt_of_le N3 t1.size
  have T1 := Lib.hid t1
  clear t1
  go_wp2_with fail
  refine (HO.out _).mono ?_
  rintro e w2 ⟨rfl, t2⟩
  replace m0 := (t2.cell (p := ⟨w.heap.size, 0, none⟩) N4 id).trans m0
  have HB2 := Lib.hid (HB1.out.step t2 id)
  have N5 : w.heap.size < w2.heap.size := Nat.lt_of_lt_of_le N4 t2.size
  have m1' := (HB2.out.cell 1).trans (show _ = some (Value.int .u64 (x : Int)) from rfl)
  have m2' := (HB2.out.cell 2).trans (show _ = some (Value.int .u64 (b : Int)) from rfl)
  have m3' := (HB2.out.cell 3).trans (show _ = some (Value.slice A m c) from rfl)
  have nN : w.heap.size ≠ w2.heap.size := Nat.ne_of_lt N5
  have TT := Lib.hid ((T1.out.trans t2).alloc (.cells #[.string (str inm), .int .i64 (iim : Int), .string (str ipar), .string (str ires), .bool false] 117))
  have H2 := Lib.hid (H0.out.quiet TT.out)
  unfold infM
  dsimp only
  clear t2 m1
  go_wp2_with fail
  refine (HMM.out _ H2.out).mono ?_
  rintro e w3 ⟨rfl, t3⟩
  go_wp2_with fail
  go_ret
  exact ⟨rfl, KUp.after S0.out (KUp.after TT.out (KUp.quiet (KUp.same H2.out) t3))⟩

set_option maxRecDepth 100000 in
set_option maxHeartbeats 1600000 in
theorem k_one_mem1 (op x b m c : Nat) (A : Option Addr) (h : Kk w a E I s) (hb : s.ok n) (hn : n ≤ 1000) (hE : E.ok) (ho : op < 256) (hx : x < 18446744073709551616) (hr : rgtF op x b m = 0) (o16 : ((op : Int) == 16) = false) (o17 : ((op : Int) == 17) = false) (o26 : ((op : Int) == 26) = false) (o27 : ((op : Int) == 27) = false) (g1 : (32 : Int) ≤ (op : Int)) (g2 : ¬ (op : Int) ≤ 36) (g3 : (40 : Int) ≤ (op : Int)) (g4 : (op : Int) ≤ 64) (hf : (infF op).free = false) (he : memE E op x = 0) :
    Calls Try.prog 16 #[.pointer (some ⟨a.k, 0, none⟩), .agg #[.int .u8 (op : Int), .int .u64 (x : Int), .int .u64 (b : Int), .slice A m c]] w (KRet w a E I (givesS (infF op).par (infF op).res s)) := by
  have s0 : Step (fun _ => False) w (w.alloc (.cells #[.int .u8 (op : Int), .int .u64 (x : Int), .int .u64 (b : Int), .slice A m c] 40)) := Step.refl.alloc _
  have b0 := Blk.new w 40 #[.int .u8 (op : Int), .int .u64 (x : Int), .int .u64 (b : Int), .slice A m c]
  have h0 := h.quiet s0
  have m0 := (b0.cell 0).trans (show _ = some (Value.int .u8 (op : Int)) from rfl)
  have m1 := (b0.cell 1).trans (show _ = some (Value.int .u64 (x : Int)) from rfl)
  have hNI : ¬ I w.heap.size := fun hk => by have := Ctl.in_ (l := s.l) (fs := s.fs) h.ctl _ hk; omega
  have N3 : w.heap.size < (w.alloc (.cells #[.int .u8 (op : Int), .int .u64 (x : Int), .int .u64 (b : Int), .slice A m c] 40)).heap.size := by simp
  have c6 := h0.c6
  have nkI := h0.kf.self
  have H0 := Lib.hid h0
  have S0 := Lib.hid s0
  have B0 := Lib.hid b0
  clear b0 h0 h s0
  have HR : Hid (∀ W, Calls Try.prog 46 #[.agg #[.int .u8 (op : Int), .int .u64 (x : Int), .int .u64 (b : Int), .slice A m c]] W fun e w' => e = .returned (.int .i64 (rgtF op x b m : Nat)) ∧ Step (fun _ => False) W w') := fun W => right_walk W op x b m c A ho
  rw [hr] at HR
  have HO : Hid (∀ W, Calls Try.prog 47 #[.int .u8 (op : Int)] W fun e w' => e = .returned (infM (infF op) ((infF op).imm : Int)) ∧ Step (fun _ => False) W w') := fun W => of_walk W op ho
  have HMM : Hid (∀ W, Kk W a E I s → _) := fun W hW => k_memory (w := W) op x b m c A hW hb hn ho hx
  rw [he] at HMM
  have hsm := inf_small op ho
  clear hr he
  generalize infF op = i at *
  obtain ⟨inm, iim, ipar, ires, ifr⟩ := i
  simp only at hf
  subst hf
  replace hsm := Lib.hid hsm
  go_enter Try.func16, Try.ntmps16
  go_wp2_with fail
  refine (HR.out _).mono ?_
  rintro e w1 ⟨rfl, t1⟩
  replace m0 := (t1.cell (p := ⟨w.heap.size, 0, none⟩) N3 id).trans m0
  have HB1 := Lib.hid (B0.out.step t1 id)
  have N4 : w.heap.size < w1.heap.size := Nat.lt_of_lt_of_le N3 t1.size
  have T1 := Lib.hid t1
  clear t1
  go_wp2_with fail
  refine (HO.out _).mono ?_
  rintro e w2 ⟨rfl, t2⟩
  replace m0 := (t2.cell (p := ⟨w.heap.size, 0, none⟩) N4 id).trans m0
  have HB2 := Lib.hid (HB1.out.step t2 id)
  have N5 : w.heap.size < w2.heap.size := Nat.lt_of_lt_of_le N4 t2.size
  have m1' := (HB2.out.cell 1).trans (show _ = some (Value.int .u64 (x : Int)) from rfl)
  have m2' := (HB2.out.cell 2).trans (show _ = some (Value.int .u64 (b : Int)) from rfl)
  have m3' := (HB2.out.cell 3).trans (show _ = some (Value.slice A m c) from rfl)
  have nN : w.heap.size ≠ w2.heap.size := Nat.ne_of_lt N5
  have TT := Lib.hid ((T1.out.trans t2).alloc (.cells #[.string (str inm), .int .i64 (iim : Int), .string (str ipar), .string (str ires), .bool false] 117))
  have H2 := Lib.hid (H0.out.quiet TT.out)
  unfold infM
  dsimp only
  clear t2 m1
  go_wp2_with fail
  refine (HMM.out _ H2.out).mono ?_
  rintro e w3 ⟨rfl, t3⟩
  have hbi := (Blk.new w2 117 #[.string (str inm), .int .i64 (iim : Int), .string (str ipar), .string (str ires), .bool false]).step t3 id
  have i2 := (hbi.cell 2).trans (show _ = some (Value.string (str ipar)) from rfl)
  have i3 := (hbi.cell 3).trans (show _ = some (Value.string (str ires)) from rfl)
  have H3 := Lib.hid (H2.out.quiet t3)
  have T3 := Lib.hid t3
  clear hbi t3
  go_wp2_with fail
  refine (k_gives ipar ires H3.out hb hn hsm.out.1 hsm.out.2).mono ?_
  rintro e w4 ⟨rfl, u4⟩
  go_wp2_with fail
  go_ret
  exact ⟨rfl, KUp.after S0.out (KUp.after TT.out (KUp.after T3.out u4))⟩

theorem k_one (op x b m c : Nat) (A : Option Addr) (h : Kk w a E I s) (hb : s.ok n) (hn : n ≤ 1000) (hE : E.ok) (ho : op < 256) (hx : x < 18446744073709551616)
    (L : List Nat) (HM : Hid (m = L.length)) (hm : m ≤ 1000) (hL32 : ∀ y ∈ L, y < 4294967296) (hR : Reads w a.R 1 A m (L.flatMap fun y : Nat => [Value.int .u32 (y : Int)])) :
    Calls Try.prog 16 #[.pointer (some ⟨a.k, 0, none⟩), .agg #[.int .u8 (op : Int), .int .u64 (x : Int), .int .u64 (b : Int), .slice A m c]] w (KRet w a E I (oneS E op x b m L s)) := by
  unfold oneS
  by_cases hr : rgtF op x b m = 0
  · rw [if_pos hr]
    by_cases h16 : op = 16
    · rw [if_pos (.inl h16)]
      exact k_one_call0 op x b m c A h hb hn hE ho hx hr (int_eq h16)
    by_cases h17 : op = 17
    · rw [if_pos (.inr h17)]
      exact k_one_call1 op x b m c A h hb hn hE ho hx hr (int_ne h16) (int_eq h17)
    rw [if_neg (by omega)]
    by_cases h26 : op = 26
    · rw [if_pos (.inl h26)]
      exact k_one_choose0 op x b m c A h hb hn hE ho hx hr (int_ne h16) (int_ne h17) (int_eq h26)
    by_cases h27 : op = 27
    · rw [if_pos (.inr h27)]
      exact k_one_choose1 op x b m c A h hb hn hE ho hx hr (int_ne h16) (int_ne h17) (int_ne h26) (int_eq h27)
    rw [if_neg (by omega)]
    by_cases hv : 32 ≤ op ∧ op ≤ 36
    · rw [if_pos hv]
      exact k_one_variable0 op x b m c A h hb hn hE ho hx hr (int_ne h16) (int_ne h17) (int_ne h26) (int_ne h27) (by omega) (by omega)
    rw [if_neg hv]
    by_cases hf : (infF op).free = true
    · rw [if_pos hf]
      by_cases g1 : op < 32
      · exact k_one_control0 op x b m c A h hb hn hE ho hx hr (int_ne h16) (int_ne h17) (int_ne h26) (int_ne h27) (by omega) L HM hm hL32 hR hf
      · exact k_one_control1 op x b m c A h hb hn hE ho hx hr (int_ne h16) (int_ne h17) (int_ne h26) (int_ne h27) (by omega) (by omega) L HM hm hL32 hR hf
    rw [if_neg hf]
    have hf' : (infF op).free = false := by simpa using hf
    unfold plainS
    by_cases g1 : op < 32
    · rw [if_neg (by omega)]
      exact k_one_plain00 op x b m c A h hb hn hE ho hx hr (int_ne h16) (int_ne h17) (int_ne h26) (int_ne h27) (by omega) (by omega) hf'
    by_cases g3 : op < 40
    · rw [if_neg (by omega)]
      exact k_one_plain10 op x b m c A h hb hn hE ho hx hr (int_ne h16) (int_ne h17) (int_ne h26) (int_ne h27) (by omega) (by omega) (by omega) hf'
    by_cases g4 : 64 < op
    · rw [if_neg (by omega)]
      exact k_one_plain11 op x b m c A h hb hn hE ho hx hr (int_ne h16) (int_ne h17) (int_ne h26) (int_ne h27) (by omega) (by omega) (by omega) (by omega) hf'
    by_cases he : memE E op x = 0
    · rw [if_neg (fun h => h.2 he)]
      exact k_one_mem1 op x b m c A h hb hn hE ho hx hr (int_ne h16) (int_ne h17) (int_ne h26) (int_ne h27) (by omega) (by omega) (by omega) (by omega) hf' he
    · rw [if_pos ⟨⟨by omega, by omega⟩, he⟩]
      exact k_one_mem0 op x b m c A h hb hn hE ho hx hr (int_ne h16) (int_ne h17) (int_ne h26) (int_ne h27) (by omega) (by omega) (by omega) (by omega) hf' he
  · rw [if_neg hr]
    exact k_one_no op x b m c A h hb hn hE ho hx hr
end
end Go.Proofs.Ytpebdfgfikjkeaa
