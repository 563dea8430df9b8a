/-
  check.checker: its state in memory, and what the control does to it, told in one way each.
-/
import Derived.Test.YtpebdfgfikjkeaaCtlD
set_option linter.unusedVariables false
set_option linter.unusedSimpArgs false
namespace Go.Proofs.Ytpebdfgfikjkeaa
open Go.RowKit

/-- The state of a checker: the stack of types, the blocks. -/
structure Ss where
  l : List UInt8
  fs : List Fr
def Ss.top (s : Ss) : Option Fr := s.fs[s.fs.length - 1]?
def popS (s : Ss) : Ss × Int × Int := match s.top with
  | none => (s, 0, 30)
  | some f => (⟨(popF s.l f.height f.dead).1, s.fs⟩, (popF s.l f.height f.dead).2.1, (popF s.l f.height f.dead).2.2)
def wantS (t : Int) (s : Ss) : Ss × Int × Int := match s.top with
  | none => (s, 0, 30)
  | some f => (⟨(wantF s.l t f.height f.dead).1, s.fs⟩, (wantF s.l t f.height f.dead).2.1, (wantF s.l t f.height f.dead).2.2)
def allS (t : List UInt8) (s : Ss) : Ss × Int := match s.top with
  | none => (s, 30)
  | some f => (⟨(wantAllF s.l t.reverse f.height f.dead).1, s.fs⟩, (wantAllF s.l t.reverse f.height f.dead).2)
def closeS (s : Ss) : Ss × Fr × Int := match s.top with
  | none => (s, default, 30)
  | some f => if (wantAllF s.l f.res.reverse f.height f.dead).2 = 0 then
      (if (wantAllF s.l f.res.reverse f.height f.dead).1.length = f.height then (⟨(wantAllF s.l f.res.reverse f.height f.dead).1, s.fs.dropLast⟩, f, 0) else (⟨(wantAllF s.l f.res.reverse f.height f.dead).1, s.fs⟩, default, 21))
    else (⟨(wantAllF s.l f.res.reverse f.height f.dead).1, s.fs⟩, default, (wantAllF s.l f.res.reverse f.height f.dead).2)
def deadS (s : Ss) : Ss := match s.top with
  | none => s
  | some f => ⟨cutF s.l f.height, deadF s.fs⟩
def openS (op : Int) (t : List UInt8) (s : Ss) : Ss := ⟨s.l, s.fs ++ [⟨op, t, s.l.length, false⟩]⟩
def pushS (t : List UInt8) (s : Ss) : Ss := ⟨s.l ++ t, s.fs⟩

/-- No more than so many blocks and types. -/
structure Ss.ok (n : Nat) (s : Ss) : Prop where
  fs : s.fs.length ≤ n + 1
  l : s.l.length ≤ 100 * n
  res : ∀ f ∈ s.fs, f.res.length ≤ 100

theorem wantF_le (l : List UInt8) (t floor : Int) (free : Bool) : (wantF l t floor free).1.length ≤ l.length := by rw [wantF_fst]; exact popF_le l floor free
theorem wantAllF_le (floor : Int) (free : Bool) : ∀ (r l : List UInt8), (wantAllF l r floor free).1.length ≤ l.length
  | [], l => Nat.le_refl _
  | t :: r, l => by
    show (if (wantF l (t.toNat : Int) floor free).2.2 ≠ 0 then ((wantF l (t.toNat : Int) floor free).1, (wantF l (t.toNat : Int) floor free).2.2) else wantAllF (wantF l (t.toNat : Int) floor free).1 r floor free).1.length ≤ l.length
    split
    · exact wantF_le l _ floor free
    · exact Nat.le_trans (wantAllF_le floor free r _) (wantF_le l _ floor free)
theorem cutF_le (l : List UInt8) (n : Int) : (cutF l n).length ≤ l.length := by
  unfold cutF
  split
  · rw [List.length_take]; omega
  · exact Nat.le_refl _

section
variable {n : Nat} {s : Ss}
theorem Ss.ok.less {m : Nat} (h : s.ok n) (hm : n ≤ m) : s.ok m := ⟨by have := h.fs; omega, by have := h.l; omega, h.res⟩
theorem Ss.ok.pop (h : s.ok n) : (popS s).1.ok n := by
  unfold popS
  split
  · exact h
  · exact ⟨h.fs, Nat.le_trans (popF_le _ _ _) h.l, h.res⟩
theorem Ss.ok.want (h : s.ok n) (t : Int) : (wantS t s).1.ok n := by
  unfold wantS
  split
  · exact h
  · exact ⟨h.fs, Nat.le_trans (wantF_le _ _ _ _) h.l, h.res⟩
theorem Ss.ok.all (h : s.ok n) (t : List UInt8) : (allS t s).1.ok n := by
  unfold allS
  split
  · exact h
  · exact ⟨h.fs, Nat.le_trans (wantAllF_le _ _ _ _) h.l, h.res⟩
theorem Ss.ok.close (h : s.ok n) : (closeS s).1.ok n ∧ (closeS s).2.1.res.length ≤ 100 := by
  unfold closeS
  split
  · exact ⟨h, Nat.zero_le _⟩
  · rename_i f hf
    have hm : f ∈ s.fs := List.mem_of_getElem? hf
    split
    · split
      · exact ⟨⟨by have := h.fs; simp; omega, Nat.le_trans (wantAllF_le _ _ _ _) h.l, fun g hg => h.res g (List.dropLast_subset _ hg)⟩, h.res f hm⟩
      · exact ⟨⟨h.fs, Nat.le_trans (wantAllF_le _ _ _ _) h.l, h.res⟩, Nat.zero_le _⟩
    · exact ⟨⟨h.fs, Nat.le_trans (wantAllF_le _ _ _ _) h.l, h.res⟩, Nat.zero_le _⟩
theorem deadF_len (fs : List Fr) : (deadF fs).length = fs.length := by unfold deadF; simp
theorem Ss.ok.push (h : s.ok n) (t : List UInt8) (ht : t.length ≤ 100) : (pushS t s).ok (n + 1) :=
  ⟨by have := h.fs; show s.fs.length ≤ _; omega, by have := h.l; show (s.l ++ t).length ≤ _; rw [List.length_append]; omega, h.res⟩
theorem Ss.ok.open_ (h : s.ok n) (op : Int) (t : List UInt8) (ht : t.length ≤ 100) : (openS op t s).ok (n + 1) :=
  ⟨by have := h.fs; show (s.fs ++ _).length ≤ _; rw [List.length_append]; simp; omega, by have := h.l; show s.l.length ≤ _; omega, fun f hf => by
    rcases List.mem_append.1 hf with e | e
    · exact h.res f e
    · rw [List.mem_singleton.1 e]; exact ht⟩
end

/-! ### The control -/
def CS (w : World) (I : Nat → Prop) (g gs : Nat) (s : Ss) : Prop := Ctl w I g gs s.l s.fs
def CU (w : World) (I : Nat → Prop) (g gs : Nat) (s : Ss) (w' : World) : Prop := CtlUp w I g gs s.l s.fs w'
section
variable {w : World} {I : Nat → Prop} {g gs n : Nat} {s : Ss}
theorem top_none (h : s.top = none) : s.fs = [] := by
  unfold Ss.top at h
  rcases hf : s.fs with _ | ⟨f, fs⟩
  · rfl
  · rw [hf] at h; simp at h
theorem c_pop (h : CS w I g gs s) (hb : s.ok n) (hn : n ≤ 1000) :
    Calls Try.prog 74 #[.pointer (some ⟨g, 0, none⟩)] w fun e w' => e = .returned (.tuple #[.int .u8 (popS s).2.1, .int .i64 (popS s).2.2]) ∧ CU w I g gs (popS s).1 w' := by
  have h1 := hb.fs
  have h2 := hb.l
  unfold popS
  cases ht : s.top with
  | none =>
    have hf := top_none ht
    obtain ⟨l, fs⟩ := s
    simp only at hf
    subst hf
    exact (ctl_pop_none h).mono fun e w' ⟨a, b⟩ => ⟨a, (CtlUp.same h).quiet b⟩
  | some f => exact ctl_pop (l := s.l) (fs := s.fs) f h (by omega) (by omega) ht
theorem c_want (t : Int) (h : CS w I g gs s) (hb : s.ok n) (hn : n ≤ 1000) :
    Calls Try.prog 75 #[.pointer (some ⟨g, 0, none⟩), .int .u8 t] w fun e w' => e = .returned (.tuple #[.int .u8 (wantS t s).2.1, .int .i64 (wantS t s).2.2]) ∧ CU w I g gs (wantS t s).1 w' := by
  have h1 := hb.fs
  have h2 := hb.l
  unfold wantS
  cases ht : s.top with
  | none =>
    have hf := top_none ht
    obtain ⟨l, fs⟩ := s
    simp only at hf
    subst hf
    exact (ctl_want_none t h).mono fun e w' ⟨a, b⟩ => ⟨a, (CtlUp.same h).quiet b⟩
  | some f => exact ctl_want (l := s.l) (fs := s.fs) f t h (by omega) (by omega) ht
theorem c_all (t : List UInt8) (h : CS w I g gs s) (hb : s.ok n) (hn : n ≤ 1000) (htl : t.length ≤ 100) :
    Calls Try.prog 81 #[.pointer (some ⟨g, 0, none⟩), .string (str t)] w fun e w' => e = .returned (.int .i64 (allS t s).2) ∧ CU w I g gs (allS t s).1 w' := by
  have h1 := hb.fs
  have h2 := hb.l
  unfold allS
  cases ht : s.top with
  | none =>
    have hf := top_none ht
    obtain ⟨l, fs⟩ := s
    simp only at hf
    subst hf
    exact (ctl_wantAll_none t h).mono fun e w' ⟨a, b⟩ => ⟨a, (CtlUp.same h).quiet b⟩
  | some f => exact ctl_wantAll (l := s.l) (fs := s.fs) f t h (by omega) (by omega) ht (by omega)
theorem c_close (h : CS w I g gs s) (hb : s.ok n) (hn : n ≤ 1000) :
    Calls Try.prog 79 #[.pointer (some ⟨g, 0, none⟩)] w fun e w' => e = .returned (.tuple #[(closeS s).2.1.val, .int .i64 (closeS s).2.2]) ∧ CU w I g gs (closeS s).1 w' := by
  have h1 := hb.fs
  have h2 := hb.l
  unfold closeS
  cases ht : s.top with
  | none =>
    have hf := top_none ht
    obtain ⟨l, fs⟩ := s
    simp only at hf
    subst hf
    exact (ctl_close_none h).mono fun e w' ⟨a, b⟩ => ⟨a, (CtlUp.same h).quiet b⟩
  | some f =>
    have hr := hb.res f (List.mem_of_getElem? ht)
    simp only
    split
    · rename_i he
      split
      · rename_i hl
        exact ctl_close_ok (l := s.l) (fs := s.fs) f _ _ h (by omega) (by omega) (by omega) ht rfl (by simpa using he) (by simp; omega)
      · rename_i hl
        exact ctl_close_more (l := s.l) (fs := s.fs) f _ _ h (by omega) (by omega) (by omega) ht rfl (by simpa using he) (by simp; omega)
    · rename_i he
      exact ctl_close_err (l := s.l) (fs := s.fs) f _ _ h (by omega) (by omega) (by omega) ht rfl (by simpa using he)
theorem c_dead (h : CS w I g gs s) (hb : s.ok n) (hn : n ≤ 1000) :
    Calls Try.prog 77 #[.pointer (some ⟨g, 0, none⟩)] w fun e w' => e = .returned (.tuple #[]) ∧ CU w I g gs (deadS s) w' := by
  have h1 := hb.fs
  have h2 := hb.l
  unfold deadS
  cases ht : s.top with
  | none =>
    have hf := top_none ht
    obtain ⟨l, fs⟩ := s
    simp only at hf
    subst hf
    exact (ctl_dead_none h).mono fun e w' ⟨a, b⟩ => ⟨a, b ▸ CtlUp.same h⟩
  | some f => exact ctl_dead (l := s.l) (fs := s.fs) f h (by omega) (by omega) ht
theorem c_open (op : Int) (t : List UInt8) (h : CS w I g gs s) (hb : s.ok n) (hn : n ≤ 1000) :
    Calls Try.prog 45 #[.pointer (some ⟨g, 0, none⟩), .int .u8 op, .string (str t)] w fun e w' => e = .returned (.tuple #[]) ∧ CU w I g gs (openS op t s) w' := by
  have h1 := hb.fs
  exact ctl_open op t h (by omega)
theorem c_label (m : Nat) (h : CS w I g gs s) (hb : s.ok n) (hn : n ≤ 1000) (hm : m < 18446744073709551616) :
    Calls Try.prog 94 #[.pointer (some ⟨g, 0, none⟩), .int .u64 m] w fun e w' => e = .returned (.tuple #[.string (str (labelF s.fs m).1), .int .i64 (labelF s.fs m).2]) ∧ Step (fun _ => False) w w' := by
  have h1 := hb.fs
  exact ctl_label m h (by omega) hm
end
end Go.Proofs.Ytpebdfgfikjkeaa
