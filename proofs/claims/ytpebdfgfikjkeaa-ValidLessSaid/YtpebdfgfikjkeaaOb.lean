/-
  Ob: OpF, OpG, OpH, OpI.
-/
import Derived.Test.YtpebdfgfikjkeaaOpA
import Derived.Test.YtpebdfgfikjkeaaOpC
import Derived.Test.YtpebdfgfikjkeaaOpE
import Derived.Great.Walk
import Derived.Deep.QuietTactic
import Derived.BigQuiet
set_option linter.unusedVariables false
set_option linter.unusedSimpArgs false
/-! ops: the reference's groups, words, types, floats. -/
namespace Go.Proofs.Ytpebdfgfikjkeaa
open Go.RowKit

def grpC : Array Value := (grpT.flatMap Rr.cells).toArray
theorem grp_len : grpT.length = 35 := by kernel_rfl

end Go.Proofs.Ytpebdfgfikjkeaa
/-! ops: the reference's word. -/
namespace Go.Proofs.Ytpebdfgfikjkeaa
open Go.RowKit

/-! ### word -/
def wordGo (s : List UInt8) : Nat → Nat → Option Nat → Nat → Int → List UInt8 × Bool
  | 0, _, _, _, _ => ([], false)
  | f + 1, i, head, frm, n =>
    if i < s.length ∧ s[i]? ≠ some 32 then wordGo s f (i + 1) head frm n
    else match head with
      | none => wordGo s f (i + 1) (some i) (i + 1) n
      | some hd => if n = 0 then (s.take hd ++ (s.drop frm).take (i - frm), true) else wordGo s f (i + 1) (some hd) (i + 1) (n - 1)
theorem wordGo_succ (s : List UInt8) (f i : Nat) (head : Option Nat) (frm : Nat) (n : Int) : wordGo s (f + 1) i head frm n =
    if i < s.length ∧ s[i]? ≠ some 32 then wordGo s f (i + 1) head frm n
    else match head with
      | none => wordGo s f (i + 1) (some i) (i + 1) n
      | some hd => if n = 0 then (s.take hd ++ (s.drop frm).take (i - frm), true) else wordGo s f (i + 1) (some hd) (i + 1) (n - 1) := by cases head <;> rfl
def wordF (s : List UInt8) (n : Int) : List UInt8 × Bool := wordGo s (s.length + 1) 0 none 0 n
def headI : Option Nat → Int
  | none => -1
  | some h => h

end Go.Proofs.Ytpebdfgfikjkeaa
/-! ops: the reference's Of. -/
namespace Go.Proofs.Ytpebdfgfikjkeaa
open Go.RowKit

/-- The cells of element k of a row of structs. -/
theorem st_cells {α : Type} (c : α → List Value) (m : Nat) (hm : 0 < m) (hc : ∀ a, (c a).length = m) {w : World} {S : Nat → Prop} {A : Option Addr} {l : List α} (hv : Reads w S m A l.length (l.flatMap c)) {k : Nat} (hk : k < l.length) :
    ∃ b off, A = some ⟨b, off, none⟩ ∧ S b ∧ b < w.heap.size ∧ ∀ j u, (c l[k])[j]? = some u → w.cell? ⟨b, off + k * m + j, none⟩ = some u := by
  obtain ⟨ad, rfl, hS, hlt, hcell⟩ := hv.2 (by omega)
  have h00 := flat_get c m hc l 0 0 (by omega) hm
  rw [Nat.zero_mul] at h00
  have h01 : (c (l[0]'(by omega)))[0]? = some ((c (l[0]'(by omega)))[0]'(by rw [hc]; exact hm)) := List.getElem?_eq_getElem _
  have h0 := hcell 0 _ (h00.trans h01)
  obtain ⟨b, off, spot⟩ := ad
  have hspot : spot = none := by
    have := World.cell?_spot h0
    simpa [Addr.add] using this
  subst hspot
  refine ⟨b, off, rfl, hS, hlt, fun j u hu => ?_⟩
  have hj : j < m := by
    have := (List.getElem?_eq_some_iff.1 hu).1
    rwa [hc] at this
  have h1 := hcell (k * m + j) u (by rw [flat_get c m hc l k j hk hj]; exact hu)
  rw [Addr.add_lit] at h1
  rw [Nat.add_assoc]
  exact h1

def rrV (i : Rr) : Value := .agg #[.int .i64 i.op, .string (str i.name), .int .i64 (i.imm : Int), .string (str i.takes), .string (str i.has), .bool i.free]
def rrA (i : Rr) : Array Value := #[.int .i64 i.op, .string (str i.name), .int .i64 (i.imm : Int), .string (str i.takes), .string (str i.has), .bool i.free]
theorem rrA_one (i : Rr) : (rrA i).all (·.oneCell') = true := by simp [rrA, Value.oneCell']
def ofGo (op : Int) : Nat → Rr × Bool
  | 0 => (Rr.no, false)
  | i + 1 => if (grpT[i]?.getD Rr.no).op > op then ofGo op i else if (wordF (grpT[i]?.getD Rr.no).name (op - (grpT[i]?.getD Rr.no).op)).2 then ({ grpT[i]?.getD Rr.no with op := op, name := (wordF (grpT[i]?.getD Rr.no).name (op - (grpT[i]?.getD Rr.no).op)).1 }, true) else (Rr.no, false)
def ofR (op : Int) : Rr × Bool := ofGo op 35
theorem grp_ops (k : Nat) (h : k < 35) : 0 ≤ (grpT[k]?.getD Rr.no).op ∧ (grpT[k]?.getD Rr.no).op ≤ 255 ∧ (grpT[k]?.getD Rr.no).name.length ≤ 1000 := by
  have : ∀ k : Fin 35, 0 ≤ (grpT[k.1]?.getD Rr.no).op ∧ (grpT[k.1]?.getD Rr.no).op ≤ 255 ∧ (grpT[k.1]?.getD Rr.no).name.length ≤ 1000 := by decide
  exact this ⟨k, h⟩

end Go.Proofs.Ytpebdfgfikjkeaa
/-! ops: the reference's types, floats, Check; and what the tables have to do with each other. -/
namespace Go.Proofs.Ytpebdfgfikjkeaa
open Go.RowKit

def typF (s : List UInt8) : List UInt8 := s.map fun c => if c = 119 then 127 else 126

def fltP : List (Nat × Nat) := [(42, 43), (56, 57), (67, 68), (91, 102), (139, 166), (168, 171), (174, 191)]
def pairC (p : Nat × Nat) : List Value := [.int .i64 (p.1 : Int), .int .i64 (p.2 : Int)]
theorem flt_len : fltP.length = 7 := rfl

def chkR (op : Nat) : Nat := if fltF op then 8 else if (ofR op).2 then 0 else 9

def tellB (op : Nat) : Bool :=
  chkF op == chkR op && (if (ofR op).2 then decide (infF op = ⟨(ofR op).1.name, (ofR op).1.imm, typF (ofR op).1.takes, typF (ofR op).1.has, (ofR op).1.free⟩) && decide ((ofR op).1.takes.length ≤ 1000) && decide ((ofR op).1.has.length ≤ 1000) && decide ((ofR op).1.name.length ≤ 1000) else decide (infF op = Inf.no))
theorem tell_all : (List.range 256).all tellB = true := by kernel_rfl
theorem tell_at (op : Nat) (h : op < 256) : tellB op = true := List.all_eq_true.1 tell_all op (List.mem_range.2 h)
end Go.Proofs.Ytpebdfgfikjkeaa
