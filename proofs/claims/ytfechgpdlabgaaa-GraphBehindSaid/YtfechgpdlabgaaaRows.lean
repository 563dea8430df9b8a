/-
  No cell of these rows narrows 'for every input' (looked for: loops, veiled, ifaces, maps, wideKeys, modest, calm, conditions, laid).
  DERIVED. THE GIVEN ROWS OF THIS SEAT. 11 by the template 'for every input the law returns true; each argument reads behind the call as it read before'; 0 by the template 'total and deterministic' (their statements: YtfechgpdlabgaaaTotals.lean).
  GIVEN WITH THE SEED: the statements are not yours to turn. If you find one false, say at which input.
  Laid BY PROGRAM, IN A SANDBOX (cutbox-rows.mjs): the forced cells as the released guide's own fill.sh prints them over the translation fa395d30c804bdb0… (all of the seat's roots in one cut). By AI agents, Wed Nov 11 2026. No macro, syntax, notation, axiom, sorry.
-/
import Derived.Test.YtfechgpdlabgaaaChecked
import GoSem.Claim
import GoSem.ClaimJoined
import GoSem.ClaimMapViews
import Derived.JoinedTies
import Derived.KernelRfl
namespace Go.Proofs.Ytfechgpdlabgaaa
/- THE CELL 'sum', in the pinned program and in every row, IS THE sha256 OF THE DUMP (.gsa) THAT YtfechgpdlabgaaaProg.lean LOADS. Nothing in Lean hashes anything: it is a label: what it is worth is what the hold of that sum in a sandbox is worth. -/
noncomputable def Try.pinned : Pinned := { name := "ytfechgpdlabgaaa", sum := "fa395d30c804bdb0b1a2580e5837056aaf5de09a10b7409c6787789845322226", checked := Try.checked }
namespace Rows
def none {H : Type} : Left H := { results := [], args := [] }

/-- 'creellaw31.FramesKeeps': WHATEVER THE INPUT: true; the input reads as it did. -/
def framesKeepsSpec : ChangeSpec := { name := "framesKeeps", fn := fun _ => fun
  | [d1, d2, d3] => { results := [.lit (.bool true)], args := [d1, d2, d3] }
  | _ => none }
def framesKeepsRow : OpenClaim := { program := "ytfechgpdlabgaaa", sum := "fa395d30c804bdb0b1a2580e5837056aaf5de09a10b7409c6787789845322226", func := "creel/creellaw31.FramesKeeps", spec := "framesKeeps", apart := false }
def FramesKeepsSaid : Prop := framesKeepsRow.holds Try.pinned (OpenSpec.ofChange framesKeepsSpec)

/-- ITS FALSE NEIGHBOUR: 'it returns false'. Refute it at one input. -/
def framesKeepsWrong : ChangeSpec := { name := "framesKeeps", fn := fun _ => fun
  | [d1, d2, d3] => { results := [.lit (.bool false)], args := [d1, d2, d3] }
  | _ => none }
def FramesKeepsWrongFalsely : Prop := framesKeepsRow.holds Try.pinned (OpenSpec.ofChange framesKeepsWrong)

/-- 'creellaw35.GraphOrders': WHATEVER THE INPUT: true; the input reads as it did. -/
def graphOrdersSpec : ChangeSpec := { name := "graphOrders", fn := fun _ => fun
  | [d1, d2] => { results := [.lit (.bool true)], args := [d1, d2] }
  | _ => none }
def graphOrdersRow : OpenClaim := { program := "ytfechgpdlabgaaa", sum := "fa395d30c804bdb0b1a2580e5837056aaf5de09a10b7409c6787789845322226", func := "creel/creellaw35.GraphOrders", spec := "graphOrders", recurses := true, apart := false }
def GraphOrdersSaid : Prop := graphOrdersRow.holds Try.pinned (OpenSpec.ofChange graphOrdersSpec)

/-- ITS FALSE NEIGHBOUR: 'it returns false'. Refute it at one input. -/
def graphOrdersWrong : ChangeSpec := { name := "graphOrders", fn := fun _ => fun
  | [d1, d2] => { results := [.lit (.bool false)], args := [d1, d2] }
  | _ => none }
def GraphOrdersWrongFalsely : Prop := graphOrdersRow.holds Try.pinned (OpenSpec.ofChange graphOrdersWrong)

/-- 'creellaw21.OpstackBack': WHATEVER THE INPUT: true; the input reads as it did. -/
def opstackBackSpec : ChangeSpec := { name := "opstackBack", fn := fun _ => fun
  | [d1, d2, d3] => { results := [.lit (.bool true)], args := [d1, d2, d3] }
  | _ => none }
def opstackBackRow : OpenClaim := { program := "ytfechgpdlabgaaa", sum := "fa395d30c804bdb0b1a2580e5837056aaf5de09a10b7409c6787789845322226", func := "creel/creellaw21.OpstackBack", spec := "opstackBack", apart := false }
def OpstackBackSaid : Prop := opstackBackRow.holds Try.pinned (OpenSpec.ofChange opstackBackSpec)

/-- ITS FALSE NEIGHBOUR: 'it returns false'. Refute it at one input. -/
def opstackBackWrong : ChangeSpec := { name := "opstackBack", fn := fun _ => fun
  | [d1, d2, d3] => { results := [.lit (.bool false)], args := [d1, d2, d3] }
  | _ => none }
def OpstackBackWrongFalsely : Prop := opstackBackRow.holds Try.pinned (OpenSpec.ofChange opstackBackWrong)

/-- 'creellaw21.OpstackPlays': WHATEVER THE INPUT: true; the input reads as it did. -/
def opstackPlaysSpec : ChangeSpec := { name := "opstackPlays", fn := fun _ => fun
  | [d] => { results := [.lit (.bool true)], args := [d] }
  | _ => none }
def opstackPlaysRow : OpenClaim := { program := "ytfechgpdlabgaaa", sum := "fa395d30c804bdb0b1a2580e5837056aaf5de09a10b7409c6787789845322226", func := "creel/creellaw21.OpstackPlays", spec := "opstackPlays", apart := false }
def OpstackPlaysSaid : Prop := opstackPlaysRow.holds Try.pinned (OpenSpec.ofChange opstackPlaysSpec)

/-- ITS FALSE NEIGHBOUR: 'it returns false'. Refute it at one input. -/
def opstackPlaysWrong : ChangeSpec := { name := "opstackPlays", fn := fun _ => fun
  | [d] => { results := [.lit (.bool false)], args := [d] }
  | _ => none }
def OpstackPlaysWrongFalsely : Prop := opstackPlaysRow.holds Try.pinned (OpenSpec.ofChange opstackPlaysWrong)

/-- 'creellaw35.GraphBehind': WHATEVER THE INPUT: true; the input reads as it did. -/
def graphBehindSpec : ChangeSpec := { name := "graphBehind", fn := fun _ => fun
  | [d1, d2] => { results := [.lit (.bool true)], args := [d1, d2] }
  | _ => none }
def graphBehindRow : OpenClaim := { program := "ytfechgpdlabgaaa", sum := "fa395d30c804bdb0b1a2580e5837056aaf5de09a10b7409c6787789845322226", func := "creel/creellaw35.GraphBehind", spec := "graphBehind", recurses := true, apart := false }
def GraphBehindSaid : Prop := graphBehindRow.holds Try.pinned (OpenSpec.ofChange graphBehindSpec)

/-- ITS FALSE NEIGHBOUR: 'it returns false'. Refute it at one input. -/
def graphBehindWrong : ChangeSpec := { name := "graphBehind", fn := fun _ => fun
  | [d1, d2] => { results := [.lit (.bool false)], args := [d1, d2] }
  | _ => none }
def GraphBehindWrongFalsely : Prop := graphBehindRow.holds Try.pinned (OpenSpec.ofChange graphBehindWrong)

/-- 'creellaw19.WideTwo': WHATEVER THE INPUT: true; the input reads as it did. -/
def wideTwoSpec : ChangeSpec := { name := "wideTwo", fn := fun _ => fun
  | [d1, d2, d3] => { results := [.lit (.bool true)], args := [d1, d2, d3] }
  | _ => none }
def wideTwoRow : OpenClaim := { program := "ytfechgpdlabgaaa", sum := "fa395d30c804bdb0b1a2580e5837056aaf5de09a10b7409c6787789845322226", func := "creel/creellaw19.WideTwo", spec := "wideTwo", apart := false }
def WideTwoSaid : Prop := wideTwoRow.holds Try.pinned (OpenSpec.ofChange wideTwoSpec)

/-- ITS FALSE NEIGHBOUR: 'it returns false'. Refute it at one input. -/
def wideTwoWrong : ChangeSpec := { name := "wideTwo", fn := fun _ => fun
  | [d1, d2, d3] => { results := [.lit (.bool false)], args := [d1, d2, d3] }
  | _ => none }
def WideTwoWrongFalsely : Prop := wideTwoRow.holds Try.pinned (OpenSpec.ofChange wideTwoWrong)

/-- 'creellaw19.WideLaws': WHATEVER THE INPUT: true; the input reads as it did. -/
def wideLawsSpec : ChangeSpec := { name := "wideLaws", fn := fun _ => fun
  | [d1, d2] => { results := [.lit (.bool true)], args := [d1, d2] }
  | _ => none }
def wideLawsRow : OpenClaim := { program := "ytfechgpdlabgaaa", sum := "fa395d30c804bdb0b1a2580e5837056aaf5de09a10b7409c6787789845322226", func := "creel/creellaw19.WideLaws", spec := "wideLaws", unfollowed := true, recurses := true, apart := false }
def WideLawsSaid : Prop := wideLawsRow.holds Try.pinned (OpenSpec.ofChange wideLawsSpec)

/-- ITS FALSE NEIGHBOUR: 'it returns false'. Refute it at one input. -/
def wideLawsWrong : ChangeSpec := { name := "wideLaws", fn := fun _ => fun
  | [d1, d2] => { results := [.lit (.bool false)], args := [d1, d2] }
  | _ => none }
def WideLawsWrongFalsely : Prop := wideLawsRow.holds Try.pinned (OpenSpec.ofChange wideLawsWrong)

/-- 'creellaw31.FramesPlays': WHATEVER THE INPUT: true; the input reads as it did. -/
def framesPlaysSpec : ChangeSpec := { name := "framesPlays", fn := fun _ => fun
  | [d1, d2] => { results := [.lit (.bool true)], args := [d1, d2] }
  | _ => none }
def framesPlaysRow : OpenClaim := { program := "ytfechgpdlabgaaa", sum := "fa395d30c804bdb0b1a2580e5837056aaf5de09a10b7409c6787789845322226", func := "creel/creellaw31.FramesPlays", spec := "framesPlays", apart := false }
def FramesPlaysSaid : Prop := framesPlaysRow.holds Try.pinned (OpenSpec.ofChange framesPlaysSpec)

/-- ITS FALSE NEIGHBOUR: 'it returns false'. Refute it at one input. -/
def framesPlaysWrong : ChangeSpec := { name := "framesPlays", fn := fun _ => fun
  | [d1, d2] => { results := [.lit (.bool false)], args := [d1, d2] }
  | _ => none }
def FramesPlaysWrongFalsely : Prop := framesPlaysRow.holds Try.pinned (OpenSpec.ofChange framesPlaysWrong)

/-- 'creellaw22.CtrlBelow': WHATEVER THE INPUT: true; the input reads as it did. -/
def ctrlBelowSpec : ChangeSpec := { name := "ctrlBelow", fn := fun _ => fun
  | [d1, d2, d3] => { results := [.lit (.bool true)], args := [d1, d2, d3] }
  | _ => none }
def ctrlBelowRow : OpenClaim := { program := "ytfechgpdlabgaaa", sum := "fa395d30c804bdb0b1a2580e5837056aaf5de09a10b7409c6787789845322226", func := "creel/creellaw22.CtrlBelow", spec := "ctrlBelow", apart := false }
def CtrlBelowSaid : Prop := ctrlBelowRow.holds Try.pinned (OpenSpec.ofChange ctrlBelowSpec)

/-- ITS FALSE NEIGHBOUR: 'it returns false'. Refute it at one input. -/
def ctrlBelowWrong : ChangeSpec := { name := "ctrlBelow", fn := fun _ => fun
  | [d1, d2, d3] => { results := [.lit (.bool false)], args := [d1, d2, d3] }
  | _ => none }
def CtrlBelowWrongFalsely : Prop := ctrlBelowRow.holds Try.pinned (OpenSpec.ofChange ctrlBelowWrong)

/-- 'creellaw22.CtrlPlays': WHATEVER THE INPUT: true; the input reads as it did. -/
def ctrlPlaysSpec : ChangeSpec := { name := "ctrlPlays", fn := fun _ => fun
  | [d1, d2] => { results := [.lit (.bool true)], args := [d1, d2] }
  | _ => none }
def ctrlPlaysRow : OpenClaim := { program := "ytfechgpdlabgaaa", sum := "fa395d30c804bdb0b1a2580e5837056aaf5de09a10b7409c6787789845322226", func := "creel/creellaw22.CtrlPlays", spec := "ctrlPlays", apart := false }
def CtrlPlaysSaid : Prop := ctrlPlaysRow.holds Try.pinned (OpenSpec.ofChange ctrlPlaysSpec)

/-- ITS FALSE NEIGHBOUR: 'it returns false'. Refute it at one input. -/
def ctrlPlaysWrong : ChangeSpec := { name := "ctrlPlays", fn := fun _ => fun
  | [d1, d2] => { results := [.lit (.bool false)], args := [d1, d2] }
  | _ => none }
def CtrlPlaysWrongFalsely : Prop := ctrlPlaysRow.holds Try.pinned (OpenSpec.ofChange ctrlPlaysWrong)

/-- 'creellaw35.GraphNear': WHATEVER THE INPUT: true; the input reads as it did. -/
def graphNearSpec : ChangeSpec := { name := "graphNear", fn := fun _ => fun
  | [d1, d2] => { results := [.lit (.bool true)], args := [d1, d2] }
  | _ => none }
def graphNearRow : OpenClaim := { program := "ytfechgpdlabgaaa", sum := "fa395d30c804bdb0b1a2580e5837056aaf5de09a10b7409c6787789845322226", func := "creel/creellaw35.GraphNear", spec := "graphNear", recurses := true, apart := false }
def GraphNearSaid : Prop := graphNearRow.holds Try.pinned (OpenSpec.ofChange graphNearSpec)

/-- ITS FALSE NEIGHBOUR: 'it returns false'. Refute it at one input. -/
def graphNearWrong : ChangeSpec := { name := "graphNear", fn := fun _ => fun
  | [d1, d2] => { results := [.lit (.bool false)], args := [d1, d2] }
  | _ => none }
def GraphNearWrongFalsely : Prop := graphNearRow.holds Try.pinned (OpenSpec.ofChange graphNearWrong)

/- THE SECOND FORM. 'bulk': how many values and letters a reading holds, each counted each time it is reached (what is shared counts as often as it is met; a slice's spare places count too). A statement '..UptoSaid' is the law's where the arguments, and the package variables that the reading takes, are together of bulk at most 1048576: NARROWER than '..Said'. Prove '..Said' where nothing that the law and all that it calls make is longer than what came in: it says more and counts as full. Else prove '..UptoSaid'. A law counts once. -/
mutual
def uptoBulk {H : Type} : DataW H → Nat
  | .lit (.string bytes) => bytes.length + 1
  | .lit _ => 1
  | .nil => 1
  | .ptr d => uptoBulk d + 1
  | .slice elems spare => uptoBulkAll elems + uptoBulkAll spare + 1
  | .agg parts => uptoBulkAll parts + 1
  | .iface _ d => uptoBulk d + 1
  | .map entries => uptoBulkEntries entries + 1
  | .held _ => 1
def uptoBulkAll {H : Type} : List (DataW H) → Nat
  | [] => 0
  | d :: r => uptoBulk d + uptoBulkAll r
def uptoBulkEntries {H : Type} : List (Lit × DataW H) → Nat
  | [] => 0
  | x :: r => uptoBulkEntry x + uptoBulkEntries r
def uptoBulkEntry {H : Type} : Lit × DataW H → Nat
  | (.string bytes, d) => bytes.length + uptoBulk d + 1
  | (_, d) => uptoBulk d + 1
 end
def uptoSmall : (H : Type) → List (DataW H) → Bool := fun _ ds => decide (uptoBulkAll ds ≤ 1048576)
def OpenSpec.upto (s : _root_.Go.ChangeSpec) : _root_.Go.OpenSpec := { _root_.Go.OpenSpec.ofChange s with cond := some uptoSmall }

/-- 'creellaw31.FramesKeeps', WHERE WHAT IT READS IS OF BULK AT MOST 1048576: true; the input reads as it did. -/
def framesKeepsUptoRow : OpenClaim := { program := "ytfechgpdlabgaaa", sum := "fa395d30c804bdb0b1a2580e5837056aaf5de09a10b7409c6787789845322226", func := "creel/creellaw31.FramesKeeps", spec := "framesKeeps", apart := false, narrowed := true }
def FramesKeepsUptoSaid : Prop := framesKeepsUptoRow.holds Try.pinned (OpenSpec.upto framesKeepsSpec)

/-- 'creellaw35.GraphOrders', WHERE WHAT IT READS IS OF BULK AT MOST 1048576: true; the input reads as it did. -/
def graphOrdersUptoRow : OpenClaim := { program := "ytfechgpdlabgaaa", sum := "fa395d30c804bdb0b1a2580e5837056aaf5de09a10b7409c6787789845322226", func := "creel/creellaw35.GraphOrders", spec := "graphOrders", recurses := true, apart := false, narrowed := true }
def GraphOrdersUptoSaid : Prop := graphOrdersUptoRow.holds Try.pinned (OpenSpec.upto graphOrdersSpec)

/-- 'creellaw21.OpstackBack', WHERE WHAT IT READS IS OF BULK AT MOST 1048576: true; the input reads as it did. -/
def opstackBackUptoRow : OpenClaim := { program := "ytfechgpdlabgaaa", sum := "fa395d30c804bdb0b1a2580e5837056aaf5de09a10b7409c6787789845322226", func := "creel/creellaw21.OpstackBack", spec := "opstackBack", apart := false, narrowed := true }
def OpstackBackUptoSaid : Prop := opstackBackUptoRow.holds Try.pinned (OpenSpec.upto opstackBackSpec)

/-- 'creellaw21.OpstackPlays', WHERE WHAT IT READS IS OF BULK AT MOST 1048576: true; the input reads as it did. -/
def opstackPlaysUptoRow : OpenClaim := { program := "ytfechgpdlabgaaa", sum := "fa395d30c804bdb0b1a2580e5837056aaf5de09a10b7409c6787789845322226", func := "creel/creellaw21.OpstackPlays", spec := "opstackPlays", apart := false, narrowed := true }
def OpstackPlaysUptoSaid : Prop := opstackPlaysUptoRow.holds Try.pinned (OpenSpec.upto opstackPlaysSpec)

/-- 'creellaw35.GraphBehind', WHERE WHAT IT READS IS OF BULK AT MOST 1048576: true; the input reads as it did. -/
def graphBehindUptoRow : OpenClaim := { program := "ytfechgpdlabgaaa", sum := "fa395d30c804bdb0b1a2580e5837056aaf5de09a10b7409c6787789845322226", func := "creel/creellaw35.GraphBehind", spec := "graphBehind", recurses := true, apart := false, narrowed := true }
def GraphBehindUptoSaid : Prop := graphBehindUptoRow.holds Try.pinned (OpenSpec.upto graphBehindSpec)

/-- 'creellaw19.WideTwo', WHERE WHAT IT READS IS OF BULK AT MOST 1048576: true; the input reads as it did. -/
def wideTwoUptoRow : OpenClaim := { program := "ytfechgpdlabgaaa", sum := "fa395d30c804bdb0b1a2580e5837056aaf5de09a10b7409c6787789845322226", func := "creel/creellaw19.WideTwo", spec := "wideTwo", apart := false, narrowed := true }
def WideTwoUptoSaid : Prop := wideTwoUptoRow.holds Try.pinned (OpenSpec.upto wideTwoSpec)

/-- 'creellaw19.WideLaws', WHERE WHAT IT READS IS OF BULK AT MOST 1048576: true; the input reads as it did. -/
def wideLawsUptoRow : OpenClaim := { program := "ytfechgpdlabgaaa", sum := "fa395d30c804bdb0b1a2580e5837056aaf5de09a10b7409c6787789845322226", func := "creel/creellaw19.WideLaws", spec := "wideLaws", unfollowed := true, recurses := true, apart := false, narrowed := true }
def WideLawsUptoSaid : Prop := wideLawsUptoRow.holds Try.pinned (OpenSpec.upto wideLawsSpec)

/-- 'creellaw31.FramesPlays', WHERE WHAT IT READS IS OF BULK AT MOST 1048576: true; the input reads as it did. -/
def framesPlaysUptoRow : OpenClaim := { program := "ytfechgpdlabgaaa", sum := "fa395d30c804bdb0b1a2580e5837056aaf5de09a10b7409c6787789845322226", func := "creel/creellaw31.FramesPlays", spec := "framesPlays", apart := false, narrowed := true }
def FramesPlaysUptoSaid : Prop := framesPlaysUptoRow.holds Try.pinned (OpenSpec.upto framesPlaysSpec)

/-- 'creellaw22.CtrlBelow', WHERE WHAT IT READS IS OF BULK AT MOST 1048576: true; the input reads as it did. -/
def ctrlBelowUptoRow : OpenClaim := { program := "ytfechgpdlabgaaa", sum := "fa395d30c804bdb0b1a2580e5837056aaf5de09a10b7409c6787789845322226", func := "creel/creellaw22.CtrlBelow", spec := "ctrlBelow", apart := false, narrowed := true }
def CtrlBelowUptoSaid : Prop := ctrlBelowUptoRow.holds Try.pinned (OpenSpec.upto ctrlBelowSpec)

/-- 'creellaw22.CtrlPlays', WHERE WHAT IT READS IS OF BULK AT MOST 1048576: true; the input reads as it did. -/
def ctrlPlaysUptoRow : OpenClaim := { program := "ytfechgpdlabgaaa", sum := "fa395d30c804bdb0b1a2580e5837056aaf5de09a10b7409c6787789845322226", func := "creel/creellaw22.CtrlPlays", spec := "ctrlPlays", apart := false, narrowed := true }
def CtrlPlaysUptoSaid : Prop := ctrlPlaysUptoRow.holds Try.pinned (OpenSpec.upto ctrlPlaysSpec)

/-- 'creellaw35.GraphNear', WHERE WHAT IT READS IS OF BULK AT MOST 1048576: true; the input reads as it did. -/
def graphNearUptoRow : OpenClaim := { program := "ytfechgpdlabgaaa", sum := "fa395d30c804bdb0b1a2580e5837056aaf5de09a10b7409c6787789845322226", func := "creel/creellaw35.GraphNear", spec := "graphNear", recurses := true, apart := false, narrowed := true }
def GraphNearUptoSaid : Prop := graphNearUptoRow.holds Try.pinned (OpenSpec.upto graphNearSpec)

end Rows
end Go.Proofs.Ytfechgpdlabgaaa
