/-
  No cell of these rows narrows 'for every input' (looked for: loops, veiled, ifaces, maps, wideKeys, modest, calm, conditions, laid).
  DERIVED. THE GIVEN ROWS OF THIS SEAT. 3 by the template 'for every input the law returns true; each argument reads behind the call as it read before'; 0 by the template 'total and deterministic' (their statements: YtpebdfgfikjkeaaTotals.lean).
  GIVEN WITH THE SEED: the statements are not yours to turn. If you find one false, say at which input.
  Laid BY PROGRAM, IN A SANDBOX (cutbox-rows.mjs): the forced cells as the released guide's own fill.sh prints them over the translation 58fa69e5ee8f8b0f… (all of the seat's roots in one cut). By AI agents, Wed Nov 11 2026. No macro, syntax, notation, axiom, sorry.
-/
import Derived.Test.YtpebdfgfikjkeaaChecked
import GoSem.Claim
import GoSem.ClaimJoined
import GoSem.ClaimMapViews
import Derived.JoinedTies
import Derived.KernelRfl
namespace Go.Proofs.Ytpebdfgfikjkeaa
/- THE CELL 'sum', in the pinned program and in every row, IS THE sha256 OF THE DUMP (.gsa) THAT YtpebdfgfikjkeaaProg.lean LOADS. Nothing in Lean hashes anything: it is a label: what it is worth is what the hold of that sum in a sandbox is worth. -/
noncomputable def Try.pinned : Pinned := { name := "ytpebdfgfikjkeaa", sum := "58fa69e5ee8f8b0fa89c74a159914efbf568203fba954945ad59c2047c4312ef", checked := Try.checked }
namespace Rows
def none {H : Type} : Left H := { results := [], args := [] }

/-- 'creellaw24.CheckNop': WHATEVER THE INPUT: true; the input reads as it did. -/
def checkNopSpec : ChangeSpec := { name := "checkNop", fn := fun _ => fun
  | [d1, d2, d3] => { results := [.lit (.bool true)], args := [d1, d2, d3] }
  | _ => none }
def checkNopRow : OpenClaim := { program := "ytpebdfgfikjkeaa", sum := "58fa69e5ee8f8b0fa89c74a159914efbf568203fba954945ad59c2047c4312ef", func := "creel/creellaw24.CheckNop", spec := "checkNop", apart := false }
def CheckNopSaid : Prop := checkNopRow.holds Try.pinned (OpenSpec.ofChange checkNopSpec)

/-- ITS FALSE NEIGHBOUR: 'it returns false'. Refute it at one input. -/
def checkNopWrong : ChangeSpec := { name := "checkNop", fn := fun _ => fun
  | [d1, d2, d3] => { results := [.lit (.bool false)], args := [d1, d2, d3] }
  | _ => none }
def CheckNopWrongFalsely : Prop := checkNopRow.holds Try.pinned (OpenSpec.ofChange checkNopWrong)

/-- 'creellaw25.ValidLess': WHATEVER THE INPUT: true; the input reads as it did. -/
def validLessSpec : ChangeSpec := { name := "validLess", fn := fun _ => fun
  | [d1, d2] => { results := [.lit (.bool true)], args := [d1, d2] }
  | _ => none }
def validLessRow : OpenClaim := { program := "ytpebdfgfikjkeaa", sum := "58fa69e5ee8f8b0fa89c74a159914efbf568203fba954945ad59c2047c4312ef", func := "creel/creellaw25.ValidLess", spec := "validLess", unfollowed := true, recurses := true, apart := false }
def ValidLessSaid : Prop := validLessRow.holds Try.pinned (OpenSpec.ofChange validLessSpec)

/-- ITS FALSE NEIGHBOUR: 'it returns false'. Refute it at one input. -/
def validLessWrong : ChangeSpec := { name := "validLess", fn := fun _ => fun
  | [d1, d2] => { results := [.lit (.bool false)], args := [d1, d2] }
  | _ => none }
def ValidLessWrongFalsely : Prop := validLessRow.holds Try.pinned (OpenSpec.ofChange validLessWrong)

/-- 'creellaw25.ValidTwice': WHATEVER THE INPUT: true; the input reads as it did. -/
def validTwiceSpec : ChangeSpec := { name := "validTwice", fn := fun _ => fun
  | [d1, d2] => { results := [.lit (.bool true)], args := [d1, d2] }
  | _ => none }
def validTwiceRow : OpenClaim := { program := "ytpebdfgfikjkeaa", sum := "58fa69e5ee8f8b0fa89c74a159914efbf568203fba954945ad59c2047c4312ef", func := "creel/creellaw25.ValidTwice", spec := "validTwice", unfollowed := true, recurses := true, apart := false }
def ValidTwiceSaid : Prop := validTwiceRow.holds Try.pinned (OpenSpec.ofChange validTwiceSpec)

/-- ITS FALSE NEIGHBOUR: 'it returns false'. Refute it at one input. -/
def validTwiceWrong : ChangeSpec := { name := "validTwice", fn := fun _ => fun
  | [d1, d2] => { results := [.lit (.bool false)], args := [d1, d2] }
  | _ => none }
def ValidTwiceWrongFalsely : Prop := validTwiceRow.holds Try.pinned (OpenSpec.ofChange validTwiceWrong)

/- THE SECOND FORM. 'bulk': how many values and letters a reading holds, each counted each time it is reached (what is shared counts as often as it is met; a slice's spare places count too). A statement '..UptoSaid' is the law's where the arguments, and the package variables that the reading takes, are together of bulk at most 1048576: NARROWER than '..Said'. Prove '..Said' where nothing that the law and all that it calls make is longer than what came in: it says more and counts as full. Else prove '..UptoSaid'. A law counts once. -/
mutual
def uptoBulk {H : Type} : DataW H → Nat
  | .lit (.string bytes) => bytes.length + 1
  | .lit _ => 1
  | .nil => 1
  | .ptr d => uptoBulk d + 1
  | .slice elems spare => uptoBulkAll elems + uptoBulkAll spare + 1
  | .agg parts => uptoBulkAll parts + 1
  | .iface _ d => uptoBulk d + 1
  | .map entries => uptoBulkEntries entries + 1
  | .held _ => 1
def uptoBulkAll {H : Type} : List (DataW H) → Nat
  | [] => 0
  | d :: r => uptoBulk d + uptoBulkAll r
def uptoBulkEntries {H : Type} : List (Lit × DataW H) → Nat
  | [] => 0
  | x :: r => uptoBulkEntry x + uptoBulkEntries r
def uptoBulkEntry {H : Type} : Lit × DataW H → Nat
  | (.string bytes, d) => bytes.length + uptoBulk d + 1
  | (_, d) => uptoBulk d + 1
 end
def uptoSmall : (H : Type) → List (DataW H) → Bool := fun _ ds => decide (uptoBulkAll ds ≤ 1048576)
def OpenSpec.upto (s : _root_.Go.ChangeSpec) : _root_.Go.OpenSpec := { _root_.Go.OpenSpec.ofChange s with cond := some uptoSmall }

/-- 'creellaw24.CheckNop', WHERE WHAT IT READS IS OF BULK AT MOST 1048576: true; the input reads as it did. -/
def checkNopUptoRow : OpenClaim := { program := "ytpebdfgfikjkeaa", sum := "58fa69e5ee8f8b0fa89c74a159914efbf568203fba954945ad59c2047c4312ef", func := "creel/creellaw24.CheckNop", spec := "checkNop", apart := false, narrowed := true }
def CheckNopUptoSaid : Prop := checkNopUptoRow.holds Try.pinned (OpenSpec.upto checkNopSpec)

/-- 'creellaw25.ValidLess', WHERE WHAT IT READS IS OF BULK AT MOST 1048576: true; the input reads as it did. -/
def validLessUptoRow : OpenClaim := { program := "ytpebdfgfikjkeaa", sum := "58fa69e5ee8f8b0fa89c74a159914efbf568203fba954945ad59c2047c4312ef", func := "creel/creellaw25.ValidLess", spec := "validLess", unfollowed := true, recurses := true, apart := false, narrowed := true }
def ValidLessUptoSaid : Prop := validLessUptoRow.holds Try.pinned (OpenSpec.upto validLessSpec)

/-- 'creellaw25.ValidTwice', WHERE WHAT IT READS IS OF BULK AT MOST 1048576: true; the input reads as it did. -/
def validTwiceUptoRow : OpenClaim := { program := "ytpebdfgfikjkeaa", sum := "58fa69e5ee8f8b0fa89c74a159914efbf568203fba954945ad59c2047c4312ef", func := "creel/creellaw25.ValidTwice", spec := "validTwice", unfollowed := true, recurses := true, apart := false, narrowed := true }
def ValidTwiceUptoSaid : Prop := validTwiceUptoRow.holds Try.pinned (OpenSpec.upto validTwiceSpec)

end Rows
end Go.Proofs.Ytpebdfgfikjkeaa
