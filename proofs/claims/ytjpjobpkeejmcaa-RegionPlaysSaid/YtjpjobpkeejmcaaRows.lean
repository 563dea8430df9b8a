/-
  No cell of these rows narrows 'for every input' (looked for: loops, veiled, ifaces, maps, wideKeys, modest, calm, conditions, laid).
  DERIVED. THE GIVEN ROWS OF THIS SEAT. 3 by the template 'for every input the law returns true; each argument reads behind the call as it read before'; 0 by the template 'total and deterministic' (their statements: YtjpjobpkeejmcaaTotals.lean).
  GIVEN WITH THE SEED: the statements are not yours to turn. If you find one false, say at which input.
  Laid BY PROGRAM, IN A SANDBOX (cutbox-rows.mjs): the forced cells as the released guide's own fill.sh prints them over the translation 291b72b78f8ed171… (all of the seat's roots in one cut). By AI agents, Wed Nov 11 2026. No macro, syntax, notation, axiom, sorry.
-/
import Derived.Test.YtjpjobpkeejmcaaChecked
import GoSem.Claim
import GoSem.ClaimJoined
import GoSem.ClaimMapViews
import Derived.JoinedTies
import Derived.KernelRfl
namespace Go.Proofs.Ytjpjobpkeejmcaa
/- THE CELL 'sum', in the pinned program and in every row, IS THE sha256 OF THE DUMP (.gsa) THAT YtjpjobpkeejmcaaProg.lean LOADS. Nothing in Lean hashes anything: it is a label: what it is worth is what the hold of that sum in a sandbox is worth. -/
noncomputable def Try.pinned : Pinned := { name := "ytjpjobpkeejmcaa", sum := "291b72b78f8ed17127e59823233c5c0de759795eb9e7db253a1054ca9c6ceb58", checked := Try.checked }
namespace Rows
def none {H : Type} : Left H := { results := [], args := [] }

/-- 'creellaw34.RegionAlone': WHATEVER THE INPUT: true; the input reads as it did. -/
def regionAloneSpec : ChangeSpec := { name := "regionAlone", fn := fun _ => fun
  | [d1, d2, d3] => { results := [.lit (.bool true)], args := [d1, d2, d3] }
  | _ => none }
def regionAloneRow : OpenClaim := { program := "ytjpjobpkeejmcaa", sum := "291b72b78f8ed17127e59823233c5c0de759795eb9e7db253a1054ca9c6ceb58", func := "creel/creellaw34.RegionAlone", spec := "regionAlone", inPlace := ["slices.overlaps[creel/region.Piece]"], unfollowed := true, recurses := true, apart := false }
def RegionAloneSaid : Prop := regionAloneRow.holds Try.pinned (OpenSpec.ofChange regionAloneSpec)

/-- ITS FALSE NEIGHBOUR: 'it returns false'. Refute it at one input. -/
def regionAloneWrong : ChangeSpec := { name := "regionAlone", fn := fun _ => fun
  | [d1, d2, d3] => { results := [.lit (.bool false)], args := [d1, d2, d3] }
  | _ => none }
def RegionAloneWrongFalsely : Prop := regionAloneRow.holds Try.pinned (OpenSpec.ofChange regionAloneWrong)

/-- 'creellaw34.RegionBack': WHATEVER THE INPUT: true; the input reads as it did. -/
def regionBackSpec : ChangeSpec := { name := "regionBack", fn := fun _ => fun
  | [d1, d2, d3] => { results := [.lit (.bool true)], args := [d1, d2, d3] }
  | _ => none }
def regionBackRow : OpenClaim := { program := "ytjpjobpkeejmcaa", sum := "291b72b78f8ed17127e59823233c5c0de759795eb9e7db253a1054ca9c6ceb58", func := "creel/creellaw34.RegionBack", spec := "regionBack", inPlace := ["slices.overlaps[creel/region.Piece]"], unfollowed := true, recurses := true, apart := false }
def RegionBackSaid : Prop := regionBackRow.holds Try.pinned (OpenSpec.ofChange regionBackSpec)

/-- ITS FALSE NEIGHBOUR: 'it returns false'. Refute it at one input. -/
def regionBackWrong : ChangeSpec := { name := "regionBack", fn := fun _ => fun
  | [d1, d2, d3] => { results := [.lit (.bool false)], args := [d1, d2, d3] }
  | _ => none }
def RegionBackWrongFalsely : Prop := regionBackRow.holds Try.pinned (OpenSpec.ofChange regionBackWrong)

/-- 'creellaw34.RegionPlays': WHATEVER THE INPUT: true; the input reads as it did. -/
def regionPlaysSpec : ChangeSpec := { name := "regionPlays", fn := fun _ => fun
  | [d1, d2] => { results := [.lit (.bool true)], args := [d1, d2] }
  | _ => none }
def regionPlaysRow : OpenClaim := { program := "ytjpjobpkeejmcaa", sum := "291b72b78f8ed17127e59823233c5c0de759795eb9e7db253a1054ca9c6ceb58", func := "creel/creellaw34.RegionPlays", spec := "regionPlays", inPlace := ["slices.overlaps[creel/region.Piece]"], unfollowed := true, recurses := true, apart := false }
def RegionPlaysSaid : Prop := regionPlaysRow.holds Try.pinned (OpenSpec.ofChange regionPlaysSpec)

/-- ITS FALSE NEIGHBOUR: 'it returns false'. Refute it at one input. -/
def regionPlaysWrong : ChangeSpec := { name := "regionPlays", fn := fun _ => fun
  | [d1, d2] => { results := [.lit (.bool false)], args := [d1, d2] }
  | _ => none }
def RegionPlaysWrongFalsely : Prop := regionPlaysRow.holds Try.pinned (OpenSpec.ofChange regionPlaysWrong)

/- THE SECOND FORM. 'bulk': how many values and letters a reading holds, each counted each time it is reached (what is shared counts as often as it is met; a slice's spare places count too). A statement '..UptoSaid' is the law's where the arguments, and the package variables that the reading takes, are together of bulk at most 1048576: NARROWER than '..Said'. Prove '..Said' where nothing that the law and all that it calls make is longer than what came in: it says more and counts as full. Else prove '..UptoSaid'. A law counts once. -/
mutual
def uptoBulk {H : Type} : DataW H → Nat
  | .lit (.string bytes) => bytes.length + 1
  | .lit _ => 1
  | .nil => 1
  | .ptr d => uptoBulk d + 1
  | .slice elems spare => uptoBulkAll elems + uptoBulkAll spare + 1
  | .agg parts => uptoBulkAll parts + 1
  | .iface _ d => uptoBulk d + 1
  | .map entries => uptoBulkEntries entries + 1
  | .held _ => 1
def uptoBulkAll {H : Type} : List (DataW H) → Nat
  | [] => 0
  | d :: r => uptoBulk d + uptoBulkAll r
def uptoBulkEntries {H : Type} : List (Lit × DataW H) → Nat
  | [] => 0
  | x :: r => uptoBulkEntry x + uptoBulkEntries r
def uptoBulkEntry {H : Type} : Lit × DataW H → Nat
  | (.string bytes, d) => bytes.length + uptoBulk d + 1
  | (_, d) => uptoBulk d + 1
 end
def uptoSmall : (H : Type) → List (DataW H) → Bool := fun _ ds => decide (uptoBulkAll ds ≤ 1048576)
def OpenSpec.upto (s : _root_.Go.ChangeSpec) : _root_.Go.OpenSpec := { _root_.Go.OpenSpec.ofChange s with cond := some uptoSmall }

/-- 'creellaw34.RegionAlone', WHERE WHAT IT READS IS OF BULK AT MOST 1048576: true; the input reads as it did. -/
def regionAloneUptoRow : OpenClaim := { program := "ytjpjobpkeejmcaa", sum := "291b72b78f8ed17127e59823233c5c0de759795eb9e7db253a1054ca9c6ceb58", func := "creel/creellaw34.RegionAlone", spec := "regionAlone", inPlace := ["slices.overlaps[creel/region.Piece]"], unfollowed := true, recurses := true, apart := false, narrowed := true }
def RegionAloneUptoSaid : Prop := regionAloneUptoRow.holds Try.pinned (OpenSpec.upto regionAloneSpec)

/-- 'creellaw34.RegionBack', WHERE WHAT IT READS IS OF BULK AT MOST 1048576: true; the input reads as it did. -/
def regionBackUptoRow : OpenClaim := { program := "ytjpjobpkeejmcaa", sum := "291b72b78f8ed17127e59823233c5c0de759795eb9e7db253a1054ca9c6ceb58", func := "creel/creellaw34.RegionBack", spec := "regionBack", inPlace := ["slices.overlaps[creel/region.Piece]"], unfollowed := true, recurses := true, apart := false, narrowed := true }
def RegionBackUptoSaid : Prop := regionBackUptoRow.holds Try.pinned (OpenSpec.upto regionBackSpec)

/-- 'creellaw34.RegionPlays', WHERE WHAT IT READS IS OF BULK AT MOST 1048576: true; the input reads as it did. -/
def regionPlaysUptoRow : OpenClaim := { program := "ytjpjobpkeejmcaa", sum := "291b72b78f8ed17127e59823233c5c0de759795eb9e7db253a1054ca9c6ceb58", func := "creel/creellaw34.RegionPlays", spec := "regionPlays", inPlace := ["slices.overlaps[creel/region.Piece]"], unfollowed := true, recurses := true, apart := false, narrowed := true }
def RegionPlaysUptoSaid : Prop := regionPlaysUptoRow.holds Try.pinned (OpenSpec.upto regionPlaysSpec)

end Rows
end Go.Proofs.Ytjpjobpkeejmcaa
