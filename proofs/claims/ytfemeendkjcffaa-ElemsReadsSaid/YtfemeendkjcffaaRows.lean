/-
  No cell of these rows narrows 'for every input' (looked for: loops, veiled, ifaces, maps, wideKeys, modest, calm, conditions, laid).
  DERIVED. THE GIVEN ROWS OF THIS SEAT. 20 by the template 'for every input the law returns true; each argument reads behind the call as it read before'; 0 by the template 'total and deterministic' (their statements: YtfemeendkjcffaaTotals.lean).
  GIVEN WITH THE SEED: the statements are not yours to turn. If you find one false, say at which input.
  Laid BY PROGRAM, IN A SANDBOX (cutbox-rows.mjs): the forced cells as the released guide's own fill.sh prints them over the translation ada93b6a856222ec… (all of the seat's roots in one cut). By AI agents, Wed Nov 11 2026. No macro, syntax, notation, axiom, sorry.
-/
import Derived.Test.YtfemeendkjcffaaChecked
import GoSem.Claim
import GoSem.ClaimJoined
import GoSem.ClaimMapViews
import Derived.JoinedTies
import Derived.KernelRfl
namespace Go.Proofs.Ytfemeendkjcffaa
/- THE CELL 'sum', in the pinned program and in every row, IS THE sha256 OF THE DUMP (.gsa) THAT YtfemeendkjcffaaProg.lean LOADS. Nothing in Lean hashes anything: it is a label: what it is worth is what the hold of that sum in a sandbox is worth. -/
noncomputable def Try.pinned : Pinned := { name := "ytfemeendkjcffaa", sum := "ada93b6a856222ec9463ba6fd865de464d57584e147a72ce22b1c6421cdc2d0d", checked := Try.checked }
namespace Rows
def none {H : Type} : Left H := { results := [], args := [] }

/-- 'creellaw06.OpsTell': WHATEVER THE INPUT: true; the input reads as it did. -/
def opsTellSpec : ChangeSpec := { name := "opsTell", fn := fun _ => fun
  | [d] => { results := [.lit (.bool true)], args := [d] }
  | _ => none }
def opsTellRow : OpenClaim := { program := "ytfemeendkjcffaa", sum := "ada93b6a856222ec9463ba6fd865de464d57584e147a72ce22b1c6421cdc2d0d", func := "creel/creellaw06.OpsTell", spec := "opsTell", apart := false }
def OpsTellSaid : Prop := opsTellRow.holds Try.pinned (OpenSpec.ofChange opsTellSpec)

/-- ITS FALSE NEIGHBOUR: 'it returns false'. Refute it at one input. -/
def opsTellWrong : ChangeSpec := { name := "opsTell", fn := fun _ => fun
  | [d] => { results := [.lit (.bool false)], args := [d] }
  | _ => none }
def OpsTellWrongFalsely : Prop := opsTellRow.holds Try.pinned (OpenSpec.ofChange opsTellWrong)

/-- 'creellaw06.OpsNames': WHATEVER THE INPUT: true; the input reads as it did. -/
def opsNamesSpec : ChangeSpec := { name := "opsNames", fn := fun _ => fun
  | [d1, d2] => { results := [.lit (.bool true)], args := [d1, d2] }
  | _ => none }
def opsNamesRow : OpenClaim := { program := "ytfemeendkjcffaa", sum := "ada93b6a856222ec9463ba6fd865de464d57584e147a72ce22b1c6421cdc2d0d", func := "creel/creellaw06.OpsNames", spec := "opsNames", apart := false }
def OpsNamesSaid : Prop := opsNamesRow.holds Try.pinned (OpenSpec.ofChange opsNamesSpec)

/-- ITS FALSE NEIGHBOUR: 'it returns false'. Refute it at one input. -/
def opsNamesWrong : ChangeSpec := { name := "opsNames", fn := fun _ => fun
  | [d1, d2] => { results := [.lit (.bool false)], args := [d1, d2] }
  | _ => none }
def OpsNamesWrongFalsely : Prop := opsNamesRow.holds Try.pinned (OpenSpec.ofChange opsNamesWrong)

/-- 'creellaw06.OpsAccess': WHATEVER THE INPUT: true; the input reads as it did. -/
def opsAccessSpec : ChangeSpec := { name := "opsAccess", fn := fun _ => fun
  | [d] => { results := [.lit (.bool true)], args := [d] }
  | _ => none }
def opsAccessRow : OpenClaim := { program := "ytfemeendkjcffaa", sum := "ada93b6a856222ec9463ba6fd865de464d57584e147a72ce22b1c6421cdc2d0d", func := "creel/creellaw06.OpsAccess", spec := "opsAccess", apart := false }
def OpsAccessSaid : Prop := opsAccessRow.holds Try.pinned (OpenSpec.ofChange opsAccessSpec)

/-- ITS FALSE NEIGHBOUR: 'it returns false'. Refute it at one input. -/
def opsAccessWrong : ChangeSpec := { name := "opsAccess", fn := fun _ => fun
  | [d] => { results := [.lit (.bool false)], args := [d] }
  | _ => none }
def OpsAccessWrongFalsely : Prop := opsAccessRow.holds Try.pinned (OpenSpec.ofChange opsAccessWrong)

/-- 'creellaw08.ConstsPuts': WHATEVER THE INPUT: true; the input reads as it did. -/
def constsPutsSpec : ChangeSpec := { name := "constsPuts", fn := fun _ => fun
  | [d1, d2] => { results := [.lit (.bool true)], args := [d1, d2] }
  | _ => none }
def constsPutsRow : OpenClaim := { program := "ytfemeendkjcffaa", sum := "ada93b6a856222ec9463ba6fd865de464d57584e147a72ce22b1c6421cdc2d0d", func := "creel/creellaw08.ConstsPuts", spec := "constsPuts", apart := false }
def ConstsPutsSaid : Prop := constsPutsRow.holds Try.pinned (OpenSpec.ofChange constsPutsSpec)

/-- ITS FALSE NEIGHBOUR: 'it returns false'. Refute it at one input. -/
def constsPutsWrong : ChangeSpec := { name := "constsPuts", fn := fun _ => fun
  | [d1, d2] => { results := [.lit (.bool false)], args := [d1, d2] }
  | _ => none }
def ConstsPutsWrongFalsely : Prop := constsPutsRow.holds Try.pinned (OpenSpec.ofChange constsPutsWrong)

/-- 'creellaw08.ConstsValues': WHATEVER THE INPUT: true; the input reads as it did. -/
def constsValuesSpec : ChangeSpec := { name := "constsValues", fn := fun _ => fun
  | [d1, d2, d3] => { results := [.lit (.bool true)], args := [d1, d2, d3] }
  | _ => none }
def constsValuesRow : OpenClaim := { program := "ytfemeendkjcffaa", sum := "ada93b6a856222ec9463ba6fd865de464d57584e147a72ce22b1c6421cdc2d0d", func := "creel/creellaw08.ConstsValues", spec := "constsValues", apart := false }
def ConstsValuesSaid : Prop := constsValuesRow.holds Try.pinned (OpenSpec.ofChange constsValuesSpec)

/-- ITS FALSE NEIGHBOUR: 'it returns false'. Refute it at one input. -/
def constsValuesWrong : ChangeSpec := { name := "constsValues", fn := fun _ => fun
  | [d1, d2, d3] => { results := [.lit (.bool false)], args := [d1, d2, d3] }
  | _ => none }
def ConstsValuesWrongFalsely : Prop := constsValuesRow.holds Try.pinned (OpenSpec.ofChange constsValuesWrong)

/-- 'creellaw08.ConstsReads': WHATEVER THE INPUT: true; the input reads as it did. -/
def constsReadsSpec : ChangeSpec := { name := "constsReads", fn := fun _ => fun
  | [d] => { results := [.lit (.bool true)], args := [d] }
  | _ => none }
def constsReadsRow : OpenClaim := { program := "ytfemeendkjcffaa", sum := "ada93b6a856222ec9463ba6fd865de464d57584e147a72ce22b1c6421cdc2d0d", func := "creel/creellaw08.ConstsReads", spec := "constsReads", unfollowed := true, recurses := true, apart := false }
def ConstsReadsSaid : Prop := constsReadsRow.holds Try.pinned (OpenSpec.ofChange constsReadsSpec)

/-- ITS FALSE NEIGHBOUR: 'it returns false'. Refute it at one input. -/
def constsReadsWrong : ChangeSpec := { name := "constsReads", fn := fun _ => fun
  | [d] => { results := [.lit (.bool false)], args := [d] }
  | _ => none }
def ConstsReadsWrongFalsely : Prop := constsReadsRow.holds Try.pinned (OpenSpec.ofChange constsReadsWrong)

/-- 'creellaw07.InstrPuts': WHATEVER THE INPUT: true; the input reads as it did. -/
def instrPutsSpec : ChangeSpec := { name := "instrPuts", fn := fun _ => fun
  | [d1, d2, d3] => { results := [.lit (.bool true)], args := [d1, d2, d3] }
  | _ => none }
def instrPutsRow : OpenClaim := { program := "ytfemeendkjcffaa", sum := "ada93b6a856222ec9463ba6fd865de464d57584e147a72ce22b1c6421cdc2d0d", func := "creel/creellaw07.InstrPuts", spec := "instrPuts", unfollowed := true, recurses := true, apart := false }
def InstrPutsSaid : Prop := instrPutsRow.holds Try.pinned (OpenSpec.ofChange instrPutsSpec)

/-- ITS FALSE NEIGHBOUR: 'it returns false'. Refute it at one input. -/
def instrPutsWrong : ChangeSpec := { name := "instrPuts", fn := fun _ => fun
  | [d1, d2, d3] => { results := [.lit (.bool false)], args := [d1, d2, d3] }
  | _ => none }
def InstrPutsWrongFalsely : Prop := instrPutsRow.holds Try.pinned (OpenSpec.ofChange instrPutsWrong)

/-- 'creellaw07.InstrBodies': WHATEVER THE INPUT: true; the input reads as it did. -/
def instrBodiesSpec : ChangeSpec := { name := "instrBodies", fn := fun _ => fun
  | [d1, d2] => { results := [.lit (.bool true)], args := [d1, d2] }
  | _ => none }
def instrBodiesRow : OpenClaim := { program := "ytfemeendkjcffaa", sum := "ada93b6a856222ec9463ba6fd865de464d57584e147a72ce22b1c6421cdc2d0d", func := "creel/creellaw07.InstrBodies", spec := "instrBodies", unfollowed := true, recurses := true, apart := false }
def InstrBodiesSaid : Prop := instrBodiesRow.holds Try.pinned (OpenSpec.ofChange instrBodiesSpec)

/-- ITS FALSE NEIGHBOUR: 'it returns false'. Refute it at one input. -/
def instrBodiesWrong : ChangeSpec := { name := "instrBodies", fn := fun _ => fun
  | [d1, d2] => { results := [.lit (.bool false)], args := [d1, d2] }
  | _ => none }
def InstrBodiesWrongFalsely : Prop := instrBodiesRow.holds Try.pinned (OpenSpec.ofChange instrBodiesWrong)

/-- 'creellaw14.BodiesLocals': WHATEVER THE INPUT: true; the input reads as it did. -/
def bodiesLocalsSpec : ChangeSpec := { name := "bodiesLocals", fn := fun _ => fun
  | [d1, d2] => { results := [.lit (.bool true)], args := [d1, d2] }
  | _ => none }
def bodiesLocalsRow : OpenClaim := { program := "ytfemeendkjcffaa", sum := "ada93b6a856222ec9463ba6fd865de464d57584e147a72ce22b1c6421cdc2d0d", func := "creel/creellaw14.BodiesLocals", spec := "bodiesLocals", apart := false }
def BodiesLocalsSaid : Prop := bodiesLocalsRow.holds Try.pinned (OpenSpec.ofChange bodiesLocalsSpec)

/-- ITS FALSE NEIGHBOUR: 'it returns false'. Refute it at one input. -/
def bodiesLocalsWrong : ChangeSpec := { name := "bodiesLocals", fn := fun _ => fun
  | [d1, d2] => { results := [.lit (.bool false)], args := [d1, d2] }
  | _ => none }
def BodiesLocalsWrongFalsely : Prop := bodiesLocalsRow.holds Try.pinned (OpenSpec.ofChange bodiesLocalsWrong)

/-- 'creellaw12.GlobalsPuts': WHATEVER THE INPUT: true; the input reads as it did. -/
def globalsPutsSpec : ChangeSpec := { name := "globalsPuts", fn := fun _ => fun
  | [d] => { results := [.lit (.bool true)], args := [d] }
  | _ => none }
def globalsPutsRow : OpenClaim := { program := "ytfemeendkjcffaa", sum := "ada93b6a856222ec9463ba6fd865de464d57584e147a72ce22b1c6421cdc2d0d", func := "creel/creellaw12.GlobalsPuts", spec := "globalsPuts", unfollowed := true, recurses := true, apart := false }
def GlobalsPutsSaid : Prop := globalsPutsRow.holds Try.pinned (OpenSpec.ofChange globalsPutsSpec)

/-- ITS FALSE NEIGHBOUR: 'it returns false'. Refute it at one input. -/
def globalsPutsWrong : ChangeSpec := { name := "globalsPuts", fn := fun _ => fun
  | [d] => { results := [.lit (.bool false)], args := [d] }
  | _ => none }
def GlobalsPutsWrongFalsely : Prop := globalsPutsRow.holds Try.pinned (OpenSpec.ofChange globalsPutsWrong)

/-- 'creellaw12.GlobalsReads': WHATEVER THE INPUT: true; the input reads as it did. -/
def globalsReadsSpec : ChangeSpec := { name := "globalsReads", fn := fun _ => fun
  | [d] => { results := [.lit (.bool true)], args := [d] }
  | _ => none }
def globalsReadsRow : OpenClaim := { program := "ytfemeendkjcffaa", sum := "ada93b6a856222ec9463ba6fd865de464d57584e147a72ce22b1c6421cdc2d0d", func := "creel/creellaw12.GlobalsReads", spec := "globalsReads", unfollowed := true, recurses := true, apart := false }
def GlobalsReadsSaid : Prop := globalsReadsRow.holds Try.pinned (OpenSpec.ofChange globalsReadsSpec)

/-- ITS FALSE NEIGHBOUR: 'it returns false'. Refute it at one input. -/
def globalsReadsWrong : ChangeSpec := { name := "globalsReads", fn := fun _ => fun
  | [d] => { results := [.lit (.bool false)], args := [d] }
  | _ => none }
def GlobalsReadsWrongFalsely : Prop := globalsReadsRow.holds Try.pinned (OpenSpec.ofChange globalsReadsWrong)

/-- 'creellaw12.GlobalsBack': WHATEVER THE INPUT: true; the input reads as it did. -/
def globalsBackSpec : ChangeSpec := { name := "globalsBack", fn := fun _ => fun
  | [d] => { results := [.lit (.bool true)], args := [d] }
  | _ => none }
def globalsBackRow : OpenClaim := { program := "ytfemeendkjcffaa", sum := "ada93b6a856222ec9463ba6fd865de464d57584e147a72ce22b1c6421cdc2d0d", func := "creel/creellaw12.GlobalsBack", spec := "globalsBack", unfollowed := true, recurses := true, apart := false }
def GlobalsBackSaid : Prop := globalsBackRow.holds Try.pinned (OpenSpec.ofChange globalsBackSpec)

/-- ITS FALSE NEIGHBOUR: 'it returns false'. Refute it at one input. -/
def globalsBackWrong : ChangeSpec := { name := "globalsBack", fn := fun _ => fun
  | [d] => { results := [.lit (.bool false)], args := [d] }
  | _ => none }
def GlobalsBackWrongFalsely : Prop := globalsBackRow.holds Try.pinned (OpenSpec.ofChange globalsBackWrong)

/-- 'creellaw13.ElemsPuts': WHATEVER THE INPUT: true; the input reads as it did. -/
def elemsPutsSpec : ChangeSpec := { name := "elemsPuts", fn := fun _ => fun
  | [d] => { results := [.lit (.bool true)], args := [d] }
  | _ => none }
def elemsPutsRow : OpenClaim := { program := "ytfemeendkjcffaa", sum := "ada93b6a856222ec9463ba6fd865de464d57584e147a72ce22b1c6421cdc2d0d", func := "creel/creellaw13.ElemsPuts", spec := "elemsPuts", unfollowed := true, recurses := true, apart := false }
def ElemsPutsSaid : Prop := elemsPutsRow.holds Try.pinned (OpenSpec.ofChange elemsPutsSpec)

/-- ITS FALSE NEIGHBOUR: 'it returns false'. Refute it at one input. -/
def elemsPutsWrong : ChangeSpec := { name := "elemsPuts", fn := fun _ => fun
  | [d] => { results := [.lit (.bool false)], args := [d] }
  | _ => none }
def ElemsPutsWrongFalsely : Prop := elemsPutsRow.holds Try.pinned (OpenSpec.ofChange elemsPutsWrong)

/-- 'creellaw13.ElemsReads': WHATEVER THE INPUT: true; the input reads as it did. -/
def elemsReadsSpec : ChangeSpec := { name := "elemsReads", fn := fun _ => fun
  | [d] => { results := [.lit (.bool true)], args := [d] }
  | _ => none }
def elemsReadsRow : OpenClaim := { program := "ytfemeendkjcffaa", sum := "ada93b6a856222ec9463ba6fd865de464d57584e147a72ce22b1c6421cdc2d0d", func := "creel/creellaw13.ElemsReads", spec := "elemsReads", unfollowed := true, recurses := true, apart := false }
def ElemsReadsSaid : Prop := elemsReadsRow.holds Try.pinned (OpenSpec.ofChange elemsReadsSpec)

/-- ITS FALSE NEIGHBOUR: 'it returns false'. Refute it at one input. -/
def elemsReadsWrong : ChangeSpec := { name := "elemsReads", fn := fun _ => fun
  | [d] => { results := [.lit (.bool false)], args := [d] }
  | _ => none }
def ElemsReadsWrongFalsely : Prop := elemsReadsRow.holds Try.pinned (OpenSpec.ofChange elemsReadsWrong)

/-- 'creellaw13.ElemsBack': WHATEVER THE INPUT: true; the input reads as it did. -/
def elemsBackSpec : ChangeSpec := { name := "elemsBack", fn := fun _ => fun
  | [d] => { results := [.lit (.bool true)], args := [d] }
  | _ => none }
def elemsBackRow : OpenClaim := { program := "ytfemeendkjcffaa", sum := "ada93b6a856222ec9463ba6fd865de464d57584e147a72ce22b1c6421cdc2d0d", func := "creel/creellaw13.ElemsBack", spec := "elemsBack", unfollowed := true, recurses := true, apart := false }
def ElemsBackSaid : Prop := elemsBackRow.holds Try.pinned (OpenSpec.ofChange elemsBackSpec)

/-- ITS FALSE NEIGHBOUR: 'it returns false'. Refute it at one input. -/
def elemsBackWrong : ChangeSpec := { name := "elemsBack", fn := fun _ => fun
  | [d] => { results := [.lit (.bool false)], args := [d] }
  | _ => none }
def ElemsBackWrongFalsely : Prop := elemsBackRow.holds Try.pinned (OpenSpec.ofChange elemsBackWrong)

/-- 'creellaw15.DatasPuts': WHATEVER THE INPUT: true; the input reads as it did. -/
def datasPutsSpec : ChangeSpec := { name := "datasPuts", fn := fun _ => fun
  | [d] => { results := [.lit (.bool true)], args := [d] }
  | _ => none }
def datasPutsRow : OpenClaim := { program := "ytfemeendkjcffaa", sum := "ada93b6a856222ec9463ba6fd865de464d57584e147a72ce22b1c6421cdc2d0d", func := "creel/creellaw15.DatasPuts", spec := "datasPuts", unfollowed := true, recurses := true, apart := false }
def DatasPutsSaid : Prop := datasPutsRow.holds Try.pinned (OpenSpec.ofChange datasPutsSpec)

/-- ITS FALSE NEIGHBOUR: 'it returns false'. Refute it at one input. -/
def datasPutsWrong : ChangeSpec := { name := "datasPuts", fn := fun _ => fun
  | [d] => { results := [.lit (.bool false)], args := [d] }
  | _ => none }
def DatasPutsWrongFalsely : Prop := datasPutsRow.holds Try.pinned (OpenSpec.ofChange datasPutsWrong)

/-- 'creellaw15.DatasReads': WHATEVER THE INPUT: true; the input reads as it did. -/
def datasReadsSpec : ChangeSpec := { name := "datasReads", fn := fun _ => fun
  | [d] => { results := [.lit (.bool true)], args := [d] }
  | _ => none }
def datasReadsRow : OpenClaim := { program := "ytfemeendkjcffaa", sum := "ada93b6a856222ec9463ba6fd865de464d57584e147a72ce22b1c6421cdc2d0d", func := "creel/creellaw15.DatasReads", spec := "datasReads", unfollowed := true, recurses := true, apart := false }
def DatasReadsSaid : Prop := datasReadsRow.holds Try.pinned (OpenSpec.ofChange datasReadsSpec)

/-- ITS FALSE NEIGHBOUR: 'it returns false'. Refute it at one input. -/
def datasReadsWrong : ChangeSpec := { name := "datasReads", fn := fun _ => fun
  | [d] => { results := [.lit (.bool false)], args := [d] }
  | _ => none }
def DatasReadsWrongFalsely : Prop := datasReadsRow.holds Try.pinned (OpenSpec.ofChange datasReadsWrong)

/-- 'creellaw15.DatasBack': WHATEVER THE INPUT: true; the input reads as it did. -/
def datasBackSpec : ChangeSpec := { name := "datasBack", fn := fun _ => fun
  | [d] => { results := [.lit (.bool true)], args := [d] }
  | _ => none }
def datasBackRow : OpenClaim := { program := "ytfemeendkjcffaa", sum := "ada93b6a856222ec9463ba6fd865de464d57584e147a72ce22b1c6421cdc2d0d", func := "creel/creellaw15.DatasBack", spec := "datasBack", unfollowed := true, recurses := true, apart := false }
def DatasBackSaid : Prop := datasBackRow.holds Try.pinned (OpenSpec.ofChange datasBackSpec)

/-- ITS FALSE NEIGHBOUR: 'it returns false'. Refute it at one input. -/
def datasBackWrong : ChangeSpec := { name := "datasBack", fn := fun _ => fun
  | [d] => { results := [.lit (.bool false)], args := [d] }
  | _ => none }
def DatasBackWrongFalsely : Prop := datasBackRow.holds Try.pinned (OpenSpec.ofChange datasBackWrong)

/-- 'creellaw14.BodiesPuts': WHATEVER THE INPUT: true; the input reads as it did. -/
def bodiesPutsSpec : ChangeSpec := { name := "bodiesPuts", fn := fun _ => fun
  | [d] => { results := [.lit (.bool true)], args := [d] }
  | _ => none }
def bodiesPutsRow : OpenClaim := { program := "ytfemeendkjcffaa", sum := "ada93b6a856222ec9463ba6fd865de464d57584e147a72ce22b1c6421cdc2d0d", func := "creel/creellaw14.BodiesPuts", spec := "bodiesPuts", unfollowed := true, recurses := true, apart := false }
def BodiesPutsSaid : Prop := bodiesPutsRow.holds Try.pinned (OpenSpec.ofChange bodiesPutsSpec)

/-- ITS FALSE NEIGHBOUR: 'it returns false'. Refute it at one input. -/
def bodiesPutsWrong : ChangeSpec := { name := "bodiesPuts", fn := fun _ => fun
  | [d] => { results := [.lit (.bool false)], args := [d] }
  | _ => none }
def BodiesPutsWrongFalsely : Prop := bodiesPutsRow.holds Try.pinned (OpenSpec.ofChange bodiesPutsWrong)

/-- 'creellaw14.BodiesBack': WHATEVER THE INPUT: true; the input reads as it did. -/
def bodiesBackSpec : ChangeSpec := { name := "bodiesBack", fn := fun _ => fun
  | [d] => { results := [.lit (.bool true)], args := [d] }
  | _ => none }
def bodiesBackRow : OpenClaim := { program := "ytfemeendkjcffaa", sum := "ada93b6a856222ec9463ba6fd865de464d57584e147a72ce22b1c6421cdc2d0d", func := "creel/creellaw14.BodiesBack", spec := "bodiesBack", unfollowed := true, recurses := true, apart := false }
def BodiesBackSaid : Prop := bodiesBackRow.holds Try.pinned (OpenSpec.ofChange bodiesBackSpec)

/-- ITS FALSE NEIGHBOUR: 'it returns false'. Refute it at one input. -/
def bodiesBackWrong : ChangeSpec := { name := "bodiesBack", fn := fun _ => fun
  | [d] => { results := [.lit (.bool false)], args := [d] }
  | _ => none }
def BodiesBackWrongFalsely : Prop := bodiesBackRow.holds Try.pinned (OpenSpec.ofChange bodiesBackWrong)

/- THE SECOND FORM. 'bulk': how many values and letters a reading holds, each counted each time it is reached (what is shared counts as often as it is met; a slice's spare places count too). A statement '..UptoSaid' is the law's where the arguments, and the package variables that the reading takes, are together of bulk at most 1048576: NARROWER than '..Said'. Prove '..Said' where nothing that the law and all that it calls make is longer than what came in: it says more and counts as full. Else prove '..UptoSaid'. A law counts once. -/
mutual
def uptoBulk {H : Type} : DataW H → Nat
  | .lit (.string bytes) => bytes.length + 1
  | .lit _ => 1
  | .nil => 1
  | .ptr d => uptoBulk d + 1
  | .slice elems spare => uptoBulkAll elems + uptoBulkAll spare + 1
  | .agg parts => uptoBulkAll parts + 1
  | .iface _ d => uptoBulk d + 1
  | .map entries => uptoBulkEntries entries + 1
  | .held _ => 1
def uptoBulkAll {H : Type} : List (DataW H) → Nat
  | [] => 0
  | d :: r => uptoBulk d + uptoBulkAll r
def uptoBulkEntries {H : Type} : List (Lit × DataW H) → Nat
  | [] => 0
  | x :: r => uptoBulkEntry x + uptoBulkEntries r
def uptoBulkEntry {H : Type} : Lit × DataW H → Nat
  | (.string bytes, d) => bytes.length + uptoBulk d + 1
  | (_, d) => uptoBulk d + 1
 end
def uptoSmall : (H : Type) → List (DataW H) → Bool := fun _ ds => decide (uptoBulkAll ds ≤ 1048576)
def OpenSpec.upto (s : _root_.Go.ChangeSpec) : _root_.Go.OpenSpec := { _root_.Go.OpenSpec.ofChange s with cond := some uptoSmall }

/-- 'creellaw06.OpsTell', WHERE WHAT IT READS IS OF BULK AT MOST 1048576: true; the input reads as it did. -/
def opsTellUptoRow : OpenClaim := { program := "ytfemeendkjcffaa", sum := "ada93b6a856222ec9463ba6fd865de464d57584e147a72ce22b1c6421cdc2d0d", func := "creel/creellaw06.OpsTell", spec := "opsTell", apart := false, narrowed := true }
def OpsTellUptoSaid : Prop := opsTellUptoRow.holds Try.pinned (OpenSpec.upto opsTellSpec)

/-- 'creellaw06.OpsNames', WHERE WHAT IT READS IS OF BULK AT MOST 1048576: true; the input reads as it did. -/
def opsNamesUptoRow : OpenClaim := { program := "ytfemeendkjcffaa", sum := "ada93b6a856222ec9463ba6fd865de464d57584e147a72ce22b1c6421cdc2d0d", func := "creel/creellaw06.OpsNames", spec := "opsNames", apart := false, narrowed := true }
def OpsNamesUptoSaid : Prop := opsNamesUptoRow.holds Try.pinned (OpenSpec.upto opsNamesSpec)

/-- 'creellaw06.OpsAccess', WHERE WHAT IT READS IS OF BULK AT MOST 1048576: true; the input reads as it did. -/
def opsAccessUptoRow : OpenClaim := { program := "ytfemeendkjcffaa", sum := "ada93b6a856222ec9463ba6fd865de464d57584e147a72ce22b1c6421cdc2d0d", func := "creel/creellaw06.OpsAccess", spec := "opsAccess", apart := false, narrowed := true }
def OpsAccessUptoSaid : Prop := opsAccessUptoRow.holds Try.pinned (OpenSpec.upto opsAccessSpec)

/-- 'creellaw08.ConstsPuts', WHERE WHAT IT READS IS OF BULK AT MOST 1048576: true; the input reads as it did. -/
def constsPutsUptoRow : OpenClaim := { program := "ytfemeendkjcffaa", sum := "ada93b6a856222ec9463ba6fd865de464d57584e147a72ce22b1c6421cdc2d0d", func := "creel/creellaw08.ConstsPuts", spec := "constsPuts", apart := false, narrowed := true }
def ConstsPutsUptoSaid : Prop := constsPutsUptoRow.holds Try.pinned (OpenSpec.upto constsPutsSpec)

/-- 'creellaw08.ConstsValues', WHERE WHAT IT READS IS OF BULK AT MOST 1048576: true; the input reads as it did. -/
def constsValuesUptoRow : OpenClaim := { program := "ytfemeendkjcffaa", sum := "ada93b6a856222ec9463ba6fd865de464d57584e147a72ce22b1c6421cdc2d0d", func := "creel/creellaw08.ConstsValues", spec := "constsValues", apart := false, narrowed := true }
def ConstsValuesUptoSaid : Prop := constsValuesUptoRow.holds Try.pinned (OpenSpec.upto constsValuesSpec)

/-- 'creellaw08.ConstsReads', WHERE WHAT IT READS IS OF BULK AT MOST 1048576: true; the input reads as it did. -/
def constsReadsUptoRow : OpenClaim := { program := "ytfemeendkjcffaa", sum := "ada93b6a856222ec9463ba6fd865de464d57584e147a72ce22b1c6421cdc2d0d", func := "creel/creellaw08.ConstsReads", spec := "constsReads", unfollowed := true, recurses := true, apart := false, narrowed := true }
def ConstsReadsUptoSaid : Prop := constsReadsUptoRow.holds Try.pinned (OpenSpec.upto constsReadsSpec)

/-- 'creellaw07.InstrPuts', WHERE WHAT IT READS IS OF BULK AT MOST 1048576: true; the input reads as it did. -/
def instrPutsUptoRow : OpenClaim := { program := "ytfemeendkjcffaa", sum := "ada93b6a856222ec9463ba6fd865de464d57584e147a72ce22b1c6421cdc2d0d", func := "creel/creellaw07.InstrPuts", spec := "instrPuts", unfollowed := true, recurses := true, apart := false, narrowed := true }
def InstrPutsUptoSaid : Prop := instrPutsUptoRow.holds Try.pinned (OpenSpec.upto instrPutsSpec)

/-- 'creellaw07.InstrBodies', WHERE WHAT IT READS IS OF BULK AT MOST 1048576: true; the input reads as it did. -/
def instrBodiesUptoRow : OpenClaim := { program := "ytfemeendkjcffaa", sum := "ada93b6a856222ec9463ba6fd865de464d57584e147a72ce22b1c6421cdc2d0d", func := "creel/creellaw07.InstrBodies", spec := "instrBodies", unfollowed := true, recurses := true, apart := false, narrowed := true }
def InstrBodiesUptoSaid : Prop := instrBodiesUptoRow.holds Try.pinned (OpenSpec.upto instrBodiesSpec)

/-- 'creellaw14.BodiesLocals', WHERE WHAT IT READS IS OF BULK AT MOST 1048576: true; the input reads as it did. -/
def bodiesLocalsUptoRow : OpenClaim := { program := "ytfemeendkjcffaa", sum := "ada93b6a856222ec9463ba6fd865de464d57584e147a72ce22b1c6421cdc2d0d", func := "creel/creellaw14.BodiesLocals", spec := "bodiesLocals", apart := false, narrowed := true }
def BodiesLocalsUptoSaid : Prop := bodiesLocalsUptoRow.holds Try.pinned (OpenSpec.upto bodiesLocalsSpec)

/-- 'creellaw12.GlobalsPuts', WHERE WHAT IT READS IS OF BULK AT MOST 1048576: true; the input reads as it did. -/
def globalsPutsUptoRow : OpenClaim := { program := "ytfemeendkjcffaa", sum := "ada93b6a856222ec9463ba6fd865de464d57584e147a72ce22b1c6421cdc2d0d", func := "creel/creellaw12.GlobalsPuts", spec := "globalsPuts", unfollowed := true, recurses := true, apart := false, narrowed := true }
def GlobalsPutsUptoSaid : Prop := globalsPutsUptoRow.holds Try.pinned (OpenSpec.upto globalsPutsSpec)

/-- 'creellaw12.GlobalsReads', WHERE WHAT IT READS IS OF BULK AT MOST 1048576: true; the input reads as it did. -/
def globalsReadsUptoRow : OpenClaim := { program := "ytfemeendkjcffaa", sum := "ada93b6a856222ec9463ba6fd865de464d57584e147a72ce22b1c6421cdc2d0d", func := "creel/creellaw12.GlobalsReads", spec := "globalsReads", unfollowed := true, recurses := true, apart := false, narrowed := true }
def GlobalsReadsUptoSaid : Prop := globalsReadsUptoRow.holds Try.pinned (OpenSpec.upto globalsReadsSpec)

/-- 'creellaw12.GlobalsBack', WHERE WHAT IT READS IS OF BULK AT MOST 1048576: true; the input reads as it did. -/
def globalsBackUptoRow : OpenClaim := { program := "ytfemeendkjcffaa", sum := "ada93b6a856222ec9463ba6fd865de464d57584e147a72ce22b1c6421cdc2d0d", func := "creel/creellaw12.GlobalsBack", spec := "globalsBack", unfollowed := true, recurses := true, apart := false, narrowed := true }
def GlobalsBackUptoSaid : Prop := globalsBackUptoRow.holds Try.pinned (OpenSpec.upto globalsBackSpec)

/-- 'creellaw13.ElemsPuts', WHERE WHAT IT READS IS OF BULK AT MOST 1048576: true; the input reads as it did. -/
def elemsPutsUptoRow : OpenClaim := { program := "ytfemeendkjcffaa", sum := "ada93b6a856222ec9463ba6fd865de464d57584e147a72ce22b1c6421cdc2d0d", func := "creel/creellaw13.ElemsPuts", spec := "elemsPuts", unfollowed := true, recurses := true, apart := false, narrowed := true }
def ElemsPutsUptoSaid : Prop := elemsPutsUptoRow.holds Try.pinned (OpenSpec.upto elemsPutsSpec)

/-- 'creellaw13.ElemsReads', WHERE WHAT IT READS IS OF BULK AT MOST 1048576: true; the input reads as it did. -/
def elemsReadsUptoRow : OpenClaim := { program := "ytfemeendkjcffaa", sum := "ada93b6a856222ec9463ba6fd865de464d57584e147a72ce22b1c6421cdc2d0d", func := "creel/creellaw13.ElemsReads", spec := "elemsReads", unfollowed := true, recurses := true, apart := false, narrowed := true }
def ElemsReadsUptoSaid : Prop := elemsReadsUptoRow.holds Try.pinned (OpenSpec.upto elemsReadsSpec)

/-- 'creellaw13.ElemsBack', WHERE WHAT IT READS IS OF BULK AT MOST 1048576: true; the input reads as it did. -/
def elemsBackUptoRow : OpenClaim := { program := "ytfemeendkjcffaa", sum := "ada93b6a856222ec9463ba6fd865de464d57584e147a72ce22b1c6421cdc2d0d", func := "creel/creellaw13.ElemsBack", spec := "elemsBack", unfollowed := true, recurses := true, apart := false, narrowed := true }
def ElemsBackUptoSaid : Prop := elemsBackUptoRow.holds Try.pinned (OpenSpec.upto elemsBackSpec)

/-- 'creellaw15.DatasPuts', WHERE WHAT IT READS IS OF BULK AT MOST 1048576: true; the input reads as it did. -/
def datasPutsUptoRow : OpenClaim := { program := "ytfemeendkjcffaa", sum := "ada93b6a856222ec9463ba6fd865de464d57584e147a72ce22b1c6421cdc2d0d", func := "creel/creellaw15.DatasPuts", spec := "datasPuts", unfollowed := true, recurses := true, apart := false, narrowed := true }
def DatasPutsUptoSaid : Prop := datasPutsUptoRow.holds Try.pinned (OpenSpec.upto datasPutsSpec)

/-- 'creellaw15.DatasReads', WHERE WHAT IT READS IS OF BULK AT MOST 1048576: true; the input reads as it did. -/
def datasReadsUptoRow : OpenClaim := { program := "ytfemeendkjcffaa", sum := "ada93b6a856222ec9463ba6fd865de464d57584e147a72ce22b1c6421cdc2d0d", func := "creel/creellaw15.DatasReads", spec := "datasReads", unfollowed := true, recurses := true, apart := false, narrowed := true }
def DatasReadsUptoSaid : Prop := datasReadsUptoRow.holds Try.pinned (OpenSpec.upto datasReadsSpec)

/-- 'creellaw15.DatasBack', WHERE WHAT IT READS IS OF BULK AT MOST 1048576: true; the input reads as it did. -/
def datasBackUptoRow : OpenClaim := { program := "ytfemeendkjcffaa", sum := "ada93b6a856222ec9463ba6fd865de464d57584e147a72ce22b1c6421cdc2d0d", func := "creel/creellaw15.DatasBack", spec := "datasBack", unfollowed := true, recurses := true, apart := false, narrowed := true }
def DatasBackUptoSaid : Prop := datasBackUptoRow.holds Try.pinned (OpenSpec.upto datasBackSpec)

/-- 'creellaw14.BodiesPuts', WHERE WHAT IT READS IS OF BULK AT MOST 1048576: true; the input reads as it did. -/
def bodiesPutsUptoRow : OpenClaim := { program := "ytfemeendkjcffaa", sum := "ada93b6a856222ec9463ba6fd865de464d57584e147a72ce22b1c6421cdc2d0d", func := "creel/creellaw14.BodiesPuts", spec := "bodiesPuts", unfollowed := true, recurses := true, apart := false, narrowed := true }
def BodiesPutsUptoSaid : Prop := bodiesPutsUptoRow.holds Try.pinned (OpenSpec.upto bodiesPutsSpec)

/-- 'creellaw14.BodiesBack', WHERE WHAT IT READS IS OF BULK AT MOST 1048576: true; the input reads as it did. -/
def bodiesBackUptoRow : OpenClaim := { program := "ytfemeendkjcffaa", sum := "ada93b6a856222ec9463ba6fd865de464d57584e147a72ce22b1c6421cdc2d0d", func := "creel/creellaw14.BodiesBack", spec := "bodiesBack", unfollowed := true, recurses := true, apart := false, narrowed := true }
def BodiesBackUptoSaid : Prop := bodiesBackUptoRow.holds Try.pinned (OpenSpec.upto bodiesBackSpec)

end Rows
end Go.Proofs.Ytfemeendkjcffaa
