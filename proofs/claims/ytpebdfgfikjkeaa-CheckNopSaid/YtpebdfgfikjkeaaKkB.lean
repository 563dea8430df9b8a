/-
  check.checker in memory; want, gives.
-/
import Derived.Test.YtpebdfgfikjkeaaKkA
set_option linter.unusedVariables false
set_option linter.unusedSimpArgs false
namespace Go.Proofs.Ytpebdfgfikjkeaa
open Go.RowKit

theorem c_push {w : World} {I : Nat → Prop} {g gs n : Nat} {s : Ss} (t : List UInt8) (h : CS w I g gs s) (hb : s.ok n) (hn : n ≤ 1000) (ht : t.length ≤ 100) :
    Calls Try.prog 84 #[.pointer (some ⟨gs, 0, none⟩), .string (str t)] w fun e w' => e = .returned (.tuple #[]) ∧ CU w I g gs (pushS t s) w' := by
  have h2 := hb.l
  obtain ⟨Is, hk, hup⟩ := Ctl.stk (l := s.l) (fs := s.fs) h
  exact (stkR_pushAll t hk (by omega) (by omega)).mono fun e w' ⟨a, b⟩ => ⟨a, hup _ _ b⟩
theorem c_push1 {w : World} {I : Nat → Prop} {g gs n : Nat} {s : Ss} (x : UInt8) (h : CS w I g gs s) (hb : s.ok n) (hn : n ≤ 1000) :
    Calls Try.prog 76 #[.pointer (some ⟨gs, 0, none⟩), .int .u8 (x.toNat : Int)] w fun e w' => e = .returned (.tuple #[]) ∧ CU w I g gs (pushS [x] s) w' := by
  have h2 := hb.l
  obtain ⟨Is, hk, hup⟩ := Ctl.stk (l := s.l) (fs := s.fs) h
  exact (stkR_push x hk (by omega)).mono fun e w' ⟨a, b⟩ => ⟨a, hup _ _ b⟩

/-- Where a checker and what it speaks of lie. -/
structure Ka where
  k : Nat
  g : Nat
  gs : Nat
  tA : Option Addr
  fA : Option Addr
  gA : Option Addr
  tc : Nat
  fc : Nat
  gc : Nat
  R : Nat → Prop
/-- What a body may speak of. -/
structure Ke where
  types : List (List UInt8 × List UInt8)
  funcs : List Nat
  globals : List (Nat × Bool)
  table : Bool
  mem : Bool
  locals : List UInt8
  result : List UInt8
def ftC (t : List UInt8 × List UInt8) : List Value := [.string (str t.1), .string (str t.2)]
def glC (t : Nat × Bool) : List Value := [.int .u8 (t.1 : Int), .bool t.2]
structure Ke.ok (E : Ke) : Prop where
  types : ∀ t ∈ E.types, t.1.length ≤ 100 ∧ t.2.length ≤ 100
  nt : E.types.length ≤ 100000
  nf : E.funcs.length ≤ 100000
  ng : E.globals.length ≤ 100000
  funcs : ∀ x ∈ E.funcs, x < 4294967296
  globals : ∀ x ∈ E.globals, x.1 < 256
  locals : E.locals.length ≤ 100000
  result : E.result.length ≤ 100

def Ka.cells (a : Ka) (E : Ke) : Array Value := #[.slice a.tA E.types.length a.tc, .slice a.fA E.funcs.length a.fc, .slice a.gA E.globals.length a.gc, .bool E.table, .bool E.mem, .string (str E.locals), .pointer (some ⟨a.g, 0, none⟩), .string (str E.result)]
structure Kf (w : World) (a : Ka) (E : Ke) (I : Nat → Prop) : Prop where
  blk : Blk w a.k 76 (a.cells E)
  types : Reads w a.R 2 a.tA E.types.length (E.types.flatMap ftC)
  funcs : Reads w a.R 1 a.fA E.funcs.length (E.funcs.map fun x : Nat => Value.int .u32 (x : Int))
  globals : Reads w a.R 2 a.gA E.globals.length (E.globals.flatMap glC)
  rin : ∀ k, a.R k → k < w.heap.size
  self : ¬ I a.k
  far : ∀ k, a.R k → ¬ I k
structure Kk (w : World) (a : Ka) (E : Ke) (I : Nat → Prop) (s : Ss) : Prop where
  kf : Kf w a E I
  ctl : CS w I a.g a.gs s
def KUp (w : World) (a : Ka) (E : Ke) (I : Nat → Prop) (s : Ss) (w' : World) : Prop := ∃ I', Kk w' a E I' s ∧ Upd w I I' w'
def KRet (w : World) (a : Ka) (E : Ke) (I : Nat → Prop) (r : Ss × Int) (e : Ending) (w' : World) : Prop := e = .returned (.int .i64 r.2) ∧ KUp w a E I r.1 w'

section
variable {w w' w2 : World} {a : Ka} {E : Ke} {I I' F : Nat → Prop} {s t : Ss}
theorem Kf.up (h : Kf w a E I) (u : Upd w I I' w') : Kf w' a E I' :=
  ⟨h.blk.step u.1 h.self, h.types.step u.1 h.far, h.funcs.step u.1 h.far, h.globals.step u.1 h.far, fun k hk => Nat.lt_of_lt_of_le (h.rin k hk) u.1.size,
    fun hk => by
      rcases u.2 _ hk with e | e
      · exact h.self e
      · have := h.blk.lt; omega,
    fun k hk hi => by
      rcases u.2 _ hi with e | e
      · exact h.far k hk e
      · have := h.rin k hk; omega⟩
theorem Kf.keep (h : Kf w a E I) (hs : Step F w w') (h1 : ¬ F a.k) (h2 : ∀ k, a.R k → ¬ F k) : Kf w' a E I :=
  ⟨h.blk.step hs h1, h.types.step hs h2, h.funcs.step hs h2, h.globals.step hs h2, fun k hk => Nat.lt_of_lt_of_le (h.rin k hk) hs.size, h.self, h.far⟩
theorem Kk.up (h : Kk w a E I s) (u : CU w I a.g a.gs t w') : KUp w a E I t w' := by
  obtain ⟨I', h1, h2⟩ := u
  exact ⟨I', ⟨h.kf.up h2, h1⟩, h2⟩
theorem Kk.quiet (h : Kk w a E I s) (hs : Step (fun _ => False) w w') : Kk w' a E I s := ⟨h.kf.keep hs id (fun _ _ => id), Ctl.quiet (l := s.l) (fs := s.fs) h.ctl hs⟩
theorem KUp.same (h : Kk w a E I s) : KUp w a E I s w := ⟨I, h, Upd.refl⟩
theorem KUp.quiet (h : KUp w a E I s w') (hs : Step (fun _ => False) w' w2) : KUp w a E I s w2 := by
  obtain ⟨I', h1, h2⟩ := h
  exact ⟨I', h1.quiet hs, h2.quiet hs⟩
theorem KUp.after {w0 : World} (hs : Step (fun _ => False) w0 w) (h : KUp w a E I s w') : KUp w0 a E I s w' := by
  obtain ⟨I', h1, h2⟩ := h
  exact ⟨I', h1, Upd.after hs h2⟩
theorem KUp.trans (h : Upd w I I' w') (k : KUp w' a E I' s w2) : KUp w a E I s w2 := by
  obtain ⟨I2, h1, h2⟩ := k
  exact ⟨I2, h1, h.trans h2⟩
theorem Kk.c6 (h : Kk w a E I s) : w.cell? ⟨a.k, 6, none⟩ = some (.pointer (some ⟨a.g, 0, none⟩)) := by
  have := h.kf.blk.cell 6
  simpa [Ka.cells] using this
theorem Kk.cg (h : Kk w a E I s) : w.cell? ⟨a.g, 1, none⟩ = some (.pointer (some ⟨a.gs, 0, none⟩)) := Ctl.ptr (l := s.l) (fs := s.fs) h.ctl
theorem Kk.lt (h : Kk w a E I s) : a.k < w.heap.size := h.kf.blk.lt
theorem Kk.ltg (h : Kk w a E I s) : a.g < w.heap.size := Ctl.in_ (l := s.l) (fs := s.fs) h.ctl _ (Ctl.self (l := s.l) (fs := s.fs) h.ctl)
end

def wantE (t : Int) (s : Ss) : Ss × Int := ((wantS t s).1, (wantS t s).2.2)
def givesS (take give : List UInt8) (s : Ss) : Ss × Int := if (allS take s).2 = 0 then (pushS give (allS take s).1, 0) else allS take s
section
variable {n : Nat} {s : Ss}
theorem Ss.ok.wantE (h : s.ok n) (t : Int) : (wantE t s).1.ok n := h.want t
theorem Ss.ok.gives (h : s.ok n) (t u : List UInt8) (hu : u.length ≤ 100) : (givesS t u s).1.ok (n + 1) := by
  unfold givesS
  split
  · exact (h.all t).push u hu
  · exact (h.all t).less (by omega)
end

section
variable {w : World} {a : Ka} {E : Ke} {I : Nat → Prop} {s : Ss} {n : Nat}
set_option maxRecDepth 100000 in
theorem k_want (t : Int) (h : Kk w a E I s) (hb : s.ok n) (hn : n ≤ 1000) :
    Calls Try.prog 73 #[.pointer (some ⟨a.k, 0, none⟩), .int .u8 t] w (KRet w a E I (wantE t s)) := by
  have c6 := h.c6
  have HC := Lib.hid (c_want t h.ctl hb hn)
  have H := Lib.hid h
  clear h
  unfold wantE
  generalize wantS t s = r at *
  obtain ⟨s1, b, er⟩ := r
  simp only at *
  go_enter Try.func73, Try.ntmps73
  go_wp2_with fail
  refine HC.out.mono ?_
  rintro e w1 ⟨rfl, u1⟩
  go_wp2_with fail
  go_ret
  exact ⟨rfl, H.out.up u1⟩

set_option maxRecDepth 100000 in
theorem k_gives (t u : List UInt8) (h : Kk w a E I s) (hb : s.ok n) (hn : n ≤ 1000) (ht : t.length ≤ 100) (hu : u.length ≤ 100) :
    Calls Try.prog 53 #[.pointer (some ⟨a.k, 0, none⟩), .string (str t), .string (str u)] w (KRet w a E I (givesS t u s)) := by
  have c6 := h.c6
  have HC := Lib.hid (c_all t h.ctl hb hn ht)
  have H := Lib.hid h
  have hb1 := hb.all t
  have hg : givesS t u s = if (allS t s).2 = 0 then (pushS u (allS t s).1, 0) else allS t s := rfl
  clear h
  generalize allS t s = r at HC hb1 hg
  obtain ⟨s1, er⟩ := r
  simp only at HC hb1 hg
  have HG := Lib.hid hg
  have HB := Lib.hid hb1
  clear hb1 hg
  by_cases he : er = 0
  · subst he
    go_enter Try.func53, Try.ntmps53
    go_wp2_with fail
    refine HC.out.mono ?_
    rintro e w1 ⟨rfl, u1⟩
    obtain ⟨I1, h1, p1⟩ := H.out.up u1
    have c6' := h1.c6
    have cg' := h1.cg
    have HP := Lib.hid (c_push u h1.ctl HB.out hn hu)
    have H1 := Lib.hid h1
    have P1 := Lib.hid p1
    clear h1 p1 u1 c6
    go_wp2_with fail
    refine HP.out.mono ?_
    rintro e w2 ⟨rfl, u2⟩
    go_wp2_with fail
    go_ret
    rw [KRet, HG.out]
    exact ⟨rfl, KUp.trans P1.out (H1.out.up u2)⟩
  · have e1 : (er != 0) = true := by simpa using he
    have HE := Lib.hid he
    clear he
    go_enter Try.func53, Try.ntmps53
    go_wp2_with fail
    refine HC.out.mono ?_
    rintro e w1 ⟨rfl, u1⟩
    go_wp2_with fail
    go_ret
    rw [KRet, HG.out, if_neg HE.out]
    exact ⟨rfl, H.out.up u1⟩
end
end Go.Proofs.Ytpebdfgfikjkeaa
