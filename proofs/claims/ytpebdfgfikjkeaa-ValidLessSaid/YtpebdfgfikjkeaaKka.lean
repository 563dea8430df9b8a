/-
  Kka: KkA, KkB.
-/
import Derived.Test.YtpebdfgfikjkeaaCtlD
set_option linter.unusedVariables false
set_option linter.unusedSimpArgs false
/-! check.checker: its state in memory, and what the control does to it, told in one way each. -/
namespace Go.Proofs.Ytpebdfgfikjkeaa
open Go.RowKit

/-- The state of a checker: the stack of types, the blocks. -/
structure Ss where
  l : List UInt8
  fs : List Fr
def Ss.top (s : Ss) : Option Fr := s.fs[s.fs.length - 1]?
def popS (s : Ss) : Ss × Int × Int := match s.top with
  | none => (s, 0, 30)
  | some f => (⟨(popF s.l f.height f.dead).1, s.fs⟩, (popF s.l f.height f.dead).2.1, (popF s.l f.height f.dead).2.2)
def wantS (t : Int) (s : Ss) : Ss × Int × Int := match s.top with
  | none => (s, 0, 30)
  | some f => (⟨(wantF s.l t f.height f.dead).1, s.fs⟩, (wantF s.l t f.height f.dead).2.1, (wantF s.l t f.height f.dead).2.2)
def allS (t : List UInt8) (s : Ss) : Ss × Int := match s.top with
  | none => (s, 30)
  | some f => (⟨(wantAllF s.l t.reverse f.height f.dead).1, s.fs⟩, (wantAllF s.l t.reverse f.height f.dead).2)
def closeS (s : Ss) : Ss × Fr × Int := match s.top with
  | none => (s, default, 30)
  | some f => if (wantAllF s.l f.res.reverse f.height f.dead).2 = 0 then
      (if (wantAllF s.l f.res.reverse f.height f.dead).1.length = f.height then (⟨(wantAllF s.l f.res.reverse f.height f.dead).1, s.fs.dropLast⟩, f, 0) else (⟨(wantAllF s.l f.res.reverse f.height f.dead).1, s.fs⟩, default, 21))
    else (⟨(wantAllF s.l f.res.reverse f.height f.dead).1, s.fs⟩, default, (wantAllF s.l f.res.reverse f.height f.dead).2)
def deadS (s : Ss) : Ss := match s.top with
  | none => s
  | some f => ⟨cutF s.l f.height, deadF s.fs⟩
def openS (op : Int) (t : List UInt8) (s : Ss) : Ss := ⟨s.l, s.fs ++ [⟨op, t, s.l.length, false⟩]⟩
def pushS (t : List UInt8) (s : Ss) : Ss := ⟨s.l ++ t, s.fs⟩

/-- No more than so many blocks and types. -/
structure Ss.ok (n : Nat) (s : Ss) : Prop where
  fs : s.fs.length ≤ n + 1
  l : s.l.length ≤ 100 * n
  res : ∀ f ∈ s.fs, f.res.length ≤ 100

theorem wantF_le (l : List UInt8) (t floor : Int) (free : Bool) : (wantF l t floor free).1.length ≤ l.length := by rw [wantF_fst]; exact popF_le l floor free
theorem wantAllF_le (floor : Int) (free : Bool) : ∀ (r l : List UInt8), (wantAllF l r floor free).1.length ≤ l.length
  | [], l => Nat.le_refl _
  | t :: r, l => by
    show (if (wantF l (t.toNat : Int) floor free).2.2 ≠ 0 then ((wantF l (t.toNat : Int) floor free).1, (wantF l (t.toNat : Int) floor free).2.2) else wantAllF (wantF l (t.toNat : Int) floor free).1 r floor free).1.length ≤ l.length
    split
    · exact wantF_le l _ floor free
    · exact Nat.le_trans (wantAllF_le floor free r _) (wantF_le l _ floor free)
theorem cutF_le (l : List UInt8) (n : Int) : (cutF l n).length ≤ l.length := by
  unfold cutF
  split
  · rw [List.length_take]; omega
  · exact Nat.le_refl _

section
variable {n : Nat} {s : Ss}
theorem Ss.ok.less {m : Nat} (h : s.ok n) (hm : n ≤ m) : s.ok m := ⟨by have := h.fs; omega, by have := h.l; omega, h.res⟩
theorem Ss.ok.pop (h : s.ok n) : (popS s).1.ok n := by
  unfold popS
  split
  · exact h
  · exact ⟨h.fs, Nat.le_trans (popF_le _ _ _) h.l, h.res⟩
theorem Ss.ok.want (h : s.ok n) (t : Int) : (wantS t s).1.ok n := by
  unfold wantS
  split
  · exact h
  · exact ⟨h.fs, Nat.le_trans (wantF_le _ _ _ _) h.l, h.res⟩
theorem Ss.ok.all (h : s.ok n) (t : List UInt8) : (allS t s).1.ok n := by
  unfold allS
  split
  · exact h
  · exact ⟨h.fs, Nat.le_trans (wantAllF_le _ _ _ _) h.l, h.res⟩
theorem Ss.ok.close (h : s.ok n) : (closeS s).1.ok n ∧ (closeS s).2.1.res.length ≤ 100 := by
  unfold closeS
  split
  · exact ⟨h, Nat.zero_le _⟩
  · rename_i f hf
    have hm : f ∈ s.fs := List.mem_of_getElem? hf
    split
    · split
      · exact ⟨⟨by have := h.fs; simp; omega, Nat.le_trans (wantAllF_le _ _ _ _) h.l, fun g hg => h.res g (List.dropLast_subset _ hg)⟩, h.res f hm⟩
      · exact ⟨⟨h.fs, Nat.le_trans (wantAllF_le _ _ _ _) h.l, h.res⟩, Nat.zero_le _⟩
    · exact ⟨⟨h.fs, Nat.le_trans (wantAllF_le _ _ _ _) h.l, h.res⟩, Nat.zero_le _⟩
theorem deadF_len (fs : List Fr) : (deadF fs).length = fs.length := by unfold deadF; simp
theorem Ss.ok.push (h : s.ok n) (t : List UInt8) (ht : t.length ≤ 100) : (pushS t s).ok (n + 1) :=
  ⟨by have := h.fs; show s.fs.length ≤ _; omega, by have := h.l; show (s.l ++ t).length ≤ _; rw [List.length_append]; omega, h.res⟩
theorem Ss.ok.open_ (h : s.ok n) (op : Int) (t : List UInt8) (ht : t.length ≤ 100) : (openS op t s).ok (n + 1) :=
  ⟨by have := h.fs; show (s.fs ++ _).length ≤ _; rw [List.length_append]; simp; omega, by have := h.l; show s.l.length ≤ _; omega, fun f hf => by
    rcases List.mem_append.1 hf with e | e
    · exact h.res f e
    · rw [List.mem_singleton.1 e]; exact ht⟩
end

/-! ### The control -/
def CS (w : World) (I : Nat → Prop) (g gs : Nat) (s : Ss) : Prop := Ctl w I g gs s.l s.fs
def CU (w : World) (I : Nat → Prop) (g gs : Nat) (s : Ss) (w' : World) : Prop := CtlUp w I g gs s.l s.fs w'
section
variable {w : World} {I : Nat → Prop} {g gs n : Nat} {s : Ss}
theorem top_none (h : s.top = none) : s.fs = [] := by
  unfold Ss.top at h
  rcases hf : s.fs with _ | ⟨f, fs⟩
  · rfl
  · rw [hf] at h; simp at h
theorem c_pop (h : CS w I g gs s) (hb : s.ok n) (hn : n ≤ 1000) :
    Calls Try.prog 74 #[.pointer (some ⟨g, 0, none⟩)] w fun e w' => e = .returned (.tuple #[.int .u8 (popS s).2.1, .int .i64 (popS s).2.2]) ∧ CU w I g gs (popS s).1 w' := by
  have h1 := hb.fs
  have h2 := hb.l
  unfold popS
  cases ht : s.top with
  | none =>
    have hf := top_none ht
    obtain ⟨l, fs⟩ := s
    simp only at hf
    subst hf
    exact (ctl_pop_none h).mono fun e w' ⟨a, b⟩ => ⟨a, (CtlUp.same h).quiet b⟩
  | some f => exact ctl_pop (l := s.l) (fs := s.fs) f h (by omega) (by omega) ht
theorem c_want (t : Int) (h : CS w I g gs s) (hb : s.ok n) (hn : n ≤ 1000) :
    Calls Try.prog 75 #[.pointer (some ⟨g, 0, none⟩), .int .u8 t] w fun e w' => e = .returned (.tuple #[.int .u8 (wantS t s).2.1, .int .i64 (wantS t s).2.2]) ∧ CU w I g gs (wantS t s).1 w' := by
  have h1 := hb.fs
  have h2 := hb.l
  unfold wantS
  cases ht : s.top with
  | none =>
    have hf := top_none ht
    obtain ⟨l, fs⟩ := s
    simp only at hf
    subst hf
    exact (ctl_want_none t h).mono fun e w' ⟨a, b⟩ => ⟨a, (CtlUp.same h).quiet b⟩
  | some f => exact ctl_want (l := s.l) (fs := s.fs) f t h (by omega) (by omega) ht
theorem c_all (t : List UInt8) (h : CS w I g gs s) (hb : s.ok n) (hn : n ≤ 1000) (htl : t.length ≤ 100) :
    Calls Try.prog 81 #[.pointer (some ⟨g, 0, none⟩), .string (str t)] w fun e w' => e = .returned (.int .i64 (allS t s).2) ∧ CU w I g gs (allS t s).1 w' := by
  have h1 := hb.fs
  have h2 := hb.l
  unfold allS
  cases ht : s.top with
  | none =>
    have hf := top_none ht
    obtain ⟨l, fs⟩ := s
    simp only at hf
    subst hf
    exact (ctl_wantAll_none t h).mono fun e w' ⟨a, b⟩ => ⟨a, (CtlUp.same h).quiet b⟩
  | some f => exact ctl_wantAll (l := s.l) (fs := s.fs) f t h (by omega) (by omega) ht (by omega)
theorem c_close (h : CS w I g gs s) (hb : s.ok n) (hn : n ≤ 1000) :
    Calls Try.prog 79 #[.pointer (some ⟨g, 0, none⟩)] w fun e w' => e = .returned (.tuple #[(closeS s).2.1.val, .int .i64 (closeS s).2.2]) ∧ CU w I g gs (closeS s).1 w' := by
  have h1 := hb.fs
  have h2 := hb.l
  unfold closeS
  cases ht : s.top with
  | none =>
    have hf := top_none ht
    obtain ⟨l, fs⟩ := s
    simp only at hf
    subst hf
    exact (ctl_close_none h).mono fun e w' ⟨a, b⟩ => ⟨a, (CtlUp.same h).quiet b⟩
  | some f =>
    have hr := hb.res f (List.mem_of_getElem? ht)
    simp only
    split
    · rename_i he
      split
      · rename_i hl
        exact ctl_close_ok (l := s.l) (fs := s.fs) f _ _ h (by omega) (by omega) (by omega) ht rfl (by simpa using he) (by simp; omega)
      · rename_i hl
        exact ctl_close_more (l := s.l) (fs := s.fs) f _ _ h (by omega) (by omega) (by omega) ht rfl (by simpa using he) (by simp; omega)
    · rename_i he
      exact ctl_close_err (l := s.l) (fs := s.fs) f _ _ h (by omega) (by omega) (by omega) ht rfl (by simpa using he)
theorem c_dead (h : CS w I g gs s) (hb : s.ok n) (hn : n ≤ 1000) :
    Calls Try.prog 77 #[.pointer (some ⟨g, 0, none⟩)] w fun e w' => e = .returned (.tuple #[]) ∧ CU w I g gs (deadS s) w' := by
  have h1 := hb.fs
  have h2 := hb.l
  unfold deadS
  cases ht : s.top with
  | none =>
    have hf := top_none ht
    obtain ⟨l, fs⟩ := s
    simp only at hf
    subst hf
    exact (ctl_dead_none h).mono fun e w' ⟨a, b⟩ => ⟨a, b ▸ CtlUp.same h⟩
  | some f => exact ctl_dead (l := s.l) (fs := s.fs) f h (by omega) (by omega) ht
theorem c_open (op : Int) (t : List UInt8) (h : CS w I g gs s) (hb : s.ok n) (hn : n ≤ 1000) :
    Calls Try.prog 45 #[.pointer (some ⟨g, 0, none⟩), .int .u8 op, .string (str t)] w fun e w' => e = .returned (.tuple #[]) ∧ CU w I g gs (openS op t s) w' := by
  have h1 := hb.fs
  exact ctl_open op t h (by omega)
theorem c_label (m : Nat) (h : CS w I g gs s) (hb : s.ok n) (hn : n ≤ 1000) (hm : m < 18446744073709551616) :
    Calls Try.prog 94 #[.pointer (some ⟨g, 0, none⟩), .int .u64 m] w fun e w' => e = .returned (.tuple #[.string (str (labelF s.fs m).1), .int .i64 (labelF s.fs m).2]) ∧ Step (fun _ => False) w w' := by
  have h1 := hb.fs
  exact ctl_label m h (by omega) hm
end
end Go.Proofs.Ytpebdfgfikjkeaa
/-! check.checker in memory; want, gives. -/
namespace Go.Proofs.Ytpebdfgfikjkeaa
open Go.RowKit

theorem c_push {w : World} {I : Nat → Prop} {g gs n : Nat} {s : Ss} (t : List UInt8) (h : CS w I g gs s) (hb : s.ok n) (hn : n ≤ 1000) (ht : t.length ≤ 100) :
    Calls Try.prog 84 #[.pointer (some ⟨gs, 0, none⟩), .string (str t)] w fun e w' => e = .returned (.tuple #[]) ∧ CU w I g gs (pushS t s) w' := by
  have h2 := hb.l
  obtain ⟨Is, hk, hup⟩ := Ctl.stk (l := s.l) (fs := s.fs) h
  exact (stkR_pushAll t hk (by omega) (by omega)).mono fun e w' ⟨a, b⟩ => ⟨a, hup _ _ b⟩
theorem c_push1 {w : World} {I : Nat → Prop} {g gs n : Nat} {s : Ss} (x : UInt8) (h : CS w I g gs s) (hb : s.ok n) (hn : n ≤ 1000) :
    Calls Try.prog 76 #[.pointer (some ⟨gs, 0, none⟩), .int .u8 (x.toNat : Int)] w fun e w' => e = .returned (.tuple #[]) ∧ CU w I g gs (pushS [x] s) w' := by
  have h2 := hb.l
  obtain ⟨Is, hk, hup⟩ := Ctl.stk (l := s.l) (fs := s.fs) h
  exact (stkR_push x hk (by omega)).mono fun e w' ⟨a, b⟩ => ⟨a, hup _ _ b⟩

/-- Where a checker and what it speaks of lie. -/
structure Ka where
  k : Nat
  g : Nat
  gs : Nat
  tA : Option Addr
  fA : Option Addr
  gA : Option Addr
  tc : Nat
  fc : Nat
  gc : Nat
  R : Nat → Prop
/-- What a body may speak of. -/
structure Ke where
  types : List (List UInt8 × List UInt8)
  funcs : List Nat
  globals : List (Nat × Bool)
  table : Bool
  mem : Bool
  locals : List UInt8
  result : List UInt8
def ftC (t : List UInt8 × List UInt8) : List Value := [.string (str t.1), .string (str t.2)]
def glC (t : Nat × Bool) : List Value := [.int .u8 (t.1 : Int), .bool t.2]
structure Ke.ok (E : Ke) : Prop where
  types : ∀ t ∈ E.types, t.1.length ≤ 100 ∧ t.2.length ≤ 100
  nt : E.types.length ≤ 100000
  nf : E.funcs.length ≤ 100000
  ng : E.globals.length ≤ 100000
  funcs : ∀ x ∈ E.funcs, x < 4294967296
  globals : ∀ x ∈ E.globals, x.1 < 256
  locals : E.locals.length ≤ 100000
  result : E.result.length ≤ 100

def Ka.cells (a : Ka) (E : Ke) : Array Value := #[.slice a.tA E.types.length a.tc, .slice a.fA E.funcs.length a.fc, .slice a.gA E.globals.length a.gc, .bool E.table, .bool E.mem, .string (str E.locals), .pointer (some ⟨a.g, 0, none⟩), .string (str E.result)]
structure Kf (w : World) (a : Ka) (E : Ke) (I : Nat → Prop) : Prop where
  blk : Blk w a.k 76 (a.cells E)
  types : Reads w a.R 2 a.tA E.types.length (E.types.flatMap ftC)
  funcs : Reads w a.R 1 a.fA E.funcs.length (E.funcs.map fun x : Nat => Value.int .u32 (x : Int))
  globals : Reads w a.R 2 a.gA E.globals.length (E.globals.flatMap glC)
  rin : ∀ k, a.R k → k < w.heap.size
  self : ¬ I a.k
  far : ∀ k, a.R k → ¬ I k
structure Kk (w : World) (a : Ka) (E : Ke) (I : Nat → Prop) (s : Ss) : Prop where
  kf : Kf w a E I
  ctl : CS w I a.g a.gs s
def KUp (w : World) (a : Ka) (E : Ke) (I : Nat → Prop) (s : Ss) (w' : World) : Prop := ∃ I', Kk w' a E I' s ∧ Upd w I I' w'
def KRet (w : World) (a : Ka) (E : Ke) (I : Nat → Prop) (r : Ss × Int) (e : Ending) (w' : World) : Prop := e = .returned (.int .i64 r.2) ∧ KUp w a E I r.1 w'

section
variable {w w' w2 : World} {a : Ka} {E : Ke} {I I' F : Nat → Prop} {s t : Ss}
theorem Kf.up (h : Kf w a E I) (u : Upd w I I' w') : Kf w' a E I' :=
  ⟨h.blk.step u.1 h.self, h.types.step u.1 h.far, h.funcs.step u.1 h.far, h.globals.step u.1 h.far, fun k hk => Nat.lt_of_lt_of_le (h.rin k hk) u.1.size,
    fun hk => by
      rcases u.2 _ hk with e | e
      · exact h.self e
      · have := h.blk.lt; omega,
    fun k hk hi => by
      rcases u.2 _ hi with e | e
      · exact h.far k hk e
      · have := h.rin k hk; omega⟩
theorem Kf.keep (h : Kf w a E I) (hs : Step F w w') (h1 : ¬ F a.k) (h2 : ∀ k, a.R k → ¬ F k) : Kf w' a E I :=
  ⟨h.blk.step hs h1, h.types.step hs h2, h.funcs.step hs h2, h.globals.step hs h2, fun k hk => Nat.lt_of_lt_of_le (h.rin k hk) hs.size, h.self, h.far⟩
theorem Kk.up (h : Kk w a E I s) (u : CU w I a.g a.gs t w') : KUp w a E I t w' := by
  obtain ⟨I', h1, h2⟩ := u
  exact ⟨I', ⟨h.kf.up h2, h1⟩, h2⟩
theorem Kk.quiet (h : Kk w a E I s) (hs : Step (fun _ => False) w w') : Kk w' a E I s := ⟨h.kf.keep hs id (fun _ _ => id), Ctl.quiet (l := s.l) (fs := s.fs) h.ctl hs⟩
theorem KUp.same (h : Kk w a E I s) : KUp w a E I s w := ⟨I, h, Upd.refl⟩
theorem KUp.quiet (h : KUp w a E I s w') (hs : Step (fun _ => False) w' w2) : KUp w a E I s w2 := by
  obtain ⟨I', h1, h2⟩ := h
  exact ⟨I', h1.quiet hs, h2.quiet hs⟩
theorem KUp.after {w0 : World} (hs : Step (fun _ => False) w0 w) (h : KUp w a E I s w') : KUp w0 a E I s w' := by
  obtain ⟨I', h1, h2⟩ := h
  exact ⟨I', h1, Upd.after hs h2⟩
theorem KUp.trans (h : Upd w I I' w') (k : KUp w' a E I' s w2) : KUp w a E I s w2 := by
  obtain ⟨I2, h1, h2⟩ := k
  exact ⟨I2, h1, h.trans h2⟩
theorem Kk.c6 (h : Kk w a E I s) : w.cell? ⟨a.k, 6, none⟩ = some (.pointer (some ⟨a.g, 0, none⟩)) := by
  have := h.kf.blk.cell 6
  simpa [Ka.cells] using this
theorem Kk.cg (h : Kk w a E I s) : w.cell? ⟨a.g, 1, none⟩ = some (.pointer (some ⟨a.gs, 0, none⟩)) := Ctl.ptr (l := s.l) (fs := s.fs) h.ctl
theorem Kk.lt (h : Kk w a E I s) : a.k < w.heap.size := h.kf.blk.lt
theorem Kk.ltg (h : Kk w a E I s) : a.g < w.heap.size := Ctl.in_ (l := s.l) (fs := s.fs) h.ctl _ (Ctl.self (l := s.l) (fs := s.fs) h.ctl)
end

def wantE (t : Int) (s : Ss) : Ss × Int := ((wantS t s).1, (wantS t s).2.2)
def givesS (take give : List UInt8) (s : Ss) : Ss × Int := if (allS take s).2 = 0 then (pushS give (allS take s).1, 0) else allS take s
section
variable {n : Nat} {s : Ss}
theorem Ss.ok.wantE (h : s.ok n) (t : Int) : (wantE t s).1.ok n := h.want t
theorem Ss.ok.gives (h : s.ok n) (t u : List UInt8) (hu : u.length ≤ 100) : (givesS t u s).1.ok (n + 1) := by
  unfold givesS
  split
  · exact (h.all t).push u hu
  · exact (h.all t).less (by omega)
end

section
variable {w : World} {a : Ka} {E : Ke} {I : Nat → Prop} {s : Ss} {n : Nat}
set_option maxRecDepth 100000 in
theorem k_want (t : Int) (h : Kk w a E I s) (hb : s.ok n) (hn : n ≤ 1000) :
    Calls Try.prog 73 #[.pointer (some ⟨a.k, 0, none⟩), .int .u8 t] w (KRet w a E I (wantE t s)) := by
  have c6 := h.c6
  have HC := Lib.hid (c_want t h.ctl hb hn)
  have H := Lib.hid h
  clear h
  unfold wantE
  generalize wantS t s = r at *
  obtain ⟨s1, b, er⟩ := r
  simp only at *
  go_enter Try.func73, Try.ntmps73
  go_wp2_with fail
  refine HC.out.mono ?_
  rintro e w1 ⟨rfl, u1⟩
  go_wp2_with fail
  go_ret
  exact ⟨rfl, H.out.up u1⟩

set_option maxRecDepth 100000 in
theorem k_gives (t u : List UInt8) (h : Kk w a E I s) (hb : s.ok n) (hn : n ≤ 1000) (ht : t.length ≤ 100) (hu : u.length ≤ 100) :
    Calls Try.prog 53 #[.pointer (some ⟨a.k, 0, none⟩), .string (str t), .string (str u)] w (KRet w a E I (givesS t u s)) := by
  have c6 := h.c6
  have HC := Lib.hid (c_all t h.ctl hb hn ht)
  have H := Lib.hid h
  have hb1 := hb.all t
  have hg : givesS t u s = if (allS t s).2 = 0 then (pushS u (allS t s).1, 0) else allS t s := rfl
  clear h
  generalize allS t s = r at HC hb1 hg
  obtain ⟨s1, er⟩ := r
  simp only at HC hb1 hg
  have HG := Lib.hid hg
  have HB := Lib.hid hb1
  clear hb1 hg
  by_cases he : er = 0
  · subst he
    go_enter Try.func53, Try.ntmps53
    go_wp2_with fail
    refine HC.out.mono ?_
    rintro e w1 ⟨rfl, u1⟩
    obtain ⟨I1, h1, p1⟩ := H.out.up u1
    have c6' := h1.c6
    have cg' := h1.cg
    have HP := Lib.hid (c_push u h1.ctl HB.out hn hu)
    have H1 := Lib.hid h1
    have P1 := Lib.hid p1
    clear h1 p1 u1 c6
    go_wp2_with fail
    refine HP.out.mono ?_
    rintro e w2 ⟨rfl, u2⟩
    go_wp2_with fail
    go_ret
    rw [KRet, HG.out]
    exact ⟨rfl, KUp.trans P1.out (H1.out.up u2)⟩
  · have e1 : (er != 0) = true := by simpa using he
    have HE := Lib.hid he
    clear he
    go_enter Try.func53, Try.ntmps53
    go_wp2_with fail
    refine HC.out.mono ?_
    rintro e w1 ⟨rfl, u1⟩
    go_wp2_with fail
    go_ret
    rw [KRet, HG.out, if_neg HE.out]
    exact ⟨rfl, H.out.up u1⟩
end
end Go.Proofs.Ytpebdfgfikjkeaa
