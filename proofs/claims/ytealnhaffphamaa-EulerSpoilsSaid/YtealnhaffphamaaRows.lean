/-
  No cell of these rows narrows 'for every input' (looked for: loops, veiled, ifaces, maps, wideKeys, modest, calm, conditions, laid).
  DERIVED. THE GIVEN ROWS OF THIS SEAT. 6 by the template 'for every input the law returns true; each argument reads behind the call as it read before'; 0 by the template 'total and deterministic' (their statements: YtealnhaffphamaaTotals.lean).
  GIVEN WITH THE SEED: the statements are not yours to turn. If you find one false, say at which input.
  Laid BY PROGRAM, IN A SANDBOX (cutbox-rows.mjs): the forced cells as the released guide's own fill.sh prints them over the translation 64d49d385aec1b17… (all of the seat's roots in one cut). By AI agents, Wed Nov 11 2026. No macro, syntax, notation, axiom, sorry.
-/
import Derived.Test.YtealnhaffphamaaChecked
import GoSem.Claim
import GoSem.ClaimJoined
import GoSem.ClaimMapViews
import Derived.JoinedTies
import Derived.KernelRfl
namespace Go.Proofs.Ytealnhaffphamaa
/- THE CELL 'sum', in the pinned program and in every row, IS THE sha256 OF THE DUMP (.gsa) THAT YtealnhaffphamaaProg.lean LOADS. Nothing in Lean hashes anything: it is a label: what it is worth is what the hold of that sum in a sandbox is worth. -/
noncomputable def Try.pinned : Pinned := { name := "ytealnhaffphamaa", sum := "64d49d385aec1b177b43236cef81d56480106166a4d597c25c5406e72628519b", checked := Try.checked }
namespace Rows
def none {H : Type} : Left H := { results := [], args := [] }

/-- 'spokeshavelaw14.EulerSpoils': WHATEVER THE INPUT: true; the input reads as it did. -/
def eulerSpoilsSpec : ChangeSpec := { name := "eulerSpoils", fn := fun _ => fun
  | [d1, d2] => { results := [.lit (.bool true)], args := [d1, d2] }
  | _ => none }
def eulerSpoilsRow : OpenClaim := { program := "ytealnhaffphamaa", sum := "64d49d385aec1b177b43236cef81d56480106166a4d597c25c5406e72628519b", func := "spokeshave/spokeshavelaw14.EulerSpoils", spec := "eulerSpoils", inPlace := ["slices.overlaps[int]"], unfollowed := true, recurses := true, plainKeys := false, apart := false }
def EulerSpoilsSaid : Prop := eulerSpoilsRow.holds Try.pinned (OpenSpec.ofChange eulerSpoilsSpec)

/-- ITS FALSE NEIGHBOUR: 'it returns false'. Refute it at one input. -/
def eulerSpoilsWrong : ChangeSpec := { name := "eulerSpoils", fn := fun _ => fun
  | [d1, d2] => { results := [.lit (.bool false)], args := [d1, d2] }
  | _ => none }
def EulerSpoilsWrongFalsely : Prop := eulerSpoilsRow.holds Try.pinned (OpenSpec.ofChange eulerSpoilsWrong)

/-- 'spokeshavelaw14.EulerLarge': WHATEVER THE INPUT: true; the input reads as it did. -/
def eulerLargeSpec : ChangeSpec := { name := "eulerLarge", fn := fun _ => fun
  | [d1, d2] => { results := [.lit (.bool true)], args := [d1, d2] }
  | _ => none }
def eulerLargeRow : OpenClaim := { program := "ytealnhaffphamaa", sum := "64d49d385aec1b177b43236cef81d56480106166a4d597c25c5406e72628519b", func := "spokeshave/spokeshavelaw14.EulerLarge", spec := "eulerLarge", inPlace := ["slices.overlaps[int]"], unfollowed := true, recurses := true, plainKeys := false, apart := false }
def EulerLargeSaid : Prop := eulerLargeRow.holds Try.pinned (OpenSpec.ofChange eulerLargeSpec)

/-- ITS FALSE NEIGHBOUR: 'it returns false'. Refute it at one input. -/
def eulerLargeWrong : ChangeSpec := { name := "eulerLarge", fn := fun _ => fun
  | [d1, d2] => { results := [.lit (.bool false)], args := [d1, d2] }
  | _ => none }
def EulerLargeWrongFalsely : Prop := eulerLargeRow.holds Try.pinned (OpenSpec.ofChange eulerLargeWrong)

/-- 'spokeshavelaw14.EulerPoincare': WHATEVER THE INPUT: true; the input reads as it did. -/
def eulerPoincareSpec : ChangeSpec := { name := "eulerPoincare", fn := fun _ => fun
  | [d1, d2] => { results := [.lit (.bool true)], args := [d1, d2] }
  | _ => none }
def eulerPoincareRow : OpenClaim := { program := "ytealnhaffphamaa", sum := "64d49d385aec1b177b43236cef81d56480106166a4d597c25c5406e72628519b", func := "spokeshave/spokeshavelaw14.EulerPoincare", spec := "eulerPoincare", inPlace := ["slices.overlaps[int]"], unfollowed := true, recurses := true, plainKeys := false, apart := false }
def EulerPoincareSaid : Prop := eulerPoincareRow.holds Try.pinned (OpenSpec.ofChange eulerPoincareSpec)

/-- ITS FALSE NEIGHBOUR: 'it returns false'. Refute it at one input. -/
def eulerPoincareWrong : ChangeSpec := { name := "eulerPoincare", fn := fun _ => fun
  | [d1, d2] => { results := [.lit (.bool false)], args := [d1, d2] }
  | _ => none }
def EulerPoincareWrongFalsely : Prop := eulerPoincareRow.holds Try.pinned (OpenSpec.ofChange eulerPoincareWrong)

/-- 'spokeshavelaw14.EulerFaces': WHATEVER THE INPUT: true; the input reads as it did. -/
def eulerFacesSpec : ChangeSpec := { name := "eulerFaces", fn := fun _ => fun
  | [d1, d2, d3] => { results := [.lit (.bool true)], args := [d1, d2, d3] }
  | _ => none }
def eulerFacesRow : OpenClaim := { program := "ytealnhaffphamaa", sum := "64d49d385aec1b177b43236cef81d56480106166a4d597c25c5406e72628519b", func := "spokeshave/spokeshavelaw14.EulerFaces", spec := "eulerFaces", inPlace := ["slices.overlaps[int]"], unfollowed := true, recurses := true, plainKeys := false, apart := false }
def EulerFacesSaid : Prop := eulerFacesRow.holds Try.pinned (OpenSpec.ofChange eulerFacesSpec)

/-- ITS FALSE NEIGHBOUR: 'it returns false'. Refute it at one input. -/
def eulerFacesWrong : ChangeSpec := { name := "eulerFaces", fn := fun _ => fun
  | [d1, d2, d3] => { results := [.lit (.bool false)], args := [d1, d2, d3] }
  | _ => none }
def EulerFacesWrongFalsely : Prop := eulerFacesRow.holds Try.pinned (OpenSpec.ofChange eulerFacesWrong)

/-- 'spokeshavelaw14.EulerNodes': WHATEVER THE INPUT: true; the input reads as it did. -/
def eulerNodesSpec : ChangeSpec := { name := "eulerNodes", fn := fun _ => fun
  | [d1, d2, d3] => { results := [.lit (.bool true)], args := [d1, d2, d3] }
  | _ => none }
def eulerNodesRow : OpenClaim := { program := "ytealnhaffphamaa", sum := "64d49d385aec1b177b43236cef81d56480106166a4d597c25c5406e72628519b", func := "spokeshave/spokeshavelaw14.EulerNodes", spec := "eulerNodes", inPlace := ["slices.overlaps[int]"], unfollowed := true, recurses := true, plainKeys := false, apart := false }
def EulerNodesSaid : Prop := eulerNodesRow.holds Try.pinned (OpenSpec.ofChange eulerNodesSpec)

/-- ITS FALSE NEIGHBOUR: 'it returns false'. Refute it at one input. -/
def eulerNodesWrong : ChangeSpec := { name := "eulerNodes", fn := fun _ => fun
  | [d1, d2, d3] => { results := [.lit (.bool false)], args := [d1, d2, d3] }
  | _ => none }
def EulerNodesWrongFalsely : Prop := eulerNodesRow.holds Try.pinned (OpenSpec.ofChange eulerNodesWrong)

/-- 'spokeshavelaw14.EulerEdges': WHATEVER THE INPUT: true; the input reads as it did. -/
def eulerEdgesSpec : ChangeSpec := { name := "eulerEdges", fn := fun _ => fun
  | [d1, d2, d3] => { results := [.lit (.bool true)], args := [d1, d2, d3] }
  | _ => none }
def eulerEdgesRow : OpenClaim := { program := "ytealnhaffphamaa", sum := "64d49d385aec1b177b43236cef81d56480106166a4d597c25c5406e72628519b", func := "spokeshave/spokeshavelaw14.EulerEdges", spec := "eulerEdges", inPlace := ["slices.overlaps[int]"], unfollowed := true, recurses := true, plainKeys := false, apart := false }
def EulerEdgesSaid : Prop := eulerEdgesRow.holds Try.pinned (OpenSpec.ofChange eulerEdgesSpec)

/-- ITS FALSE NEIGHBOUR: 'it returns false'. Refute it at one input. -/
def eulerEdgesWrong : ChangeSpec := { name := "eulerEdges", fn := fun _ => fun
  | [d1, d2, d3] => { results := [.lit (.bool false)], args := [d1, d2, d3] }
  | _ => none }
def EulerEdgesWrongFalsely : Prop := eulerEdgesRow.holds Try.pinned (OpenSpec.ofChange eulerEdgesWrong)

/- THE SECOND FORM. 'bulk': how many values and letters a reading holds, each counted each time it is reached (what is shared counts as often as it is met; a slice's spare places count too). A statement '..UptoSaid' is the law's where the arguments, and the package variables that the reading takes, are together of bulk at most 1048576: NARROWER than '..Said'. Prove '..Said' where nothing that the law and all that it calls make is longer than what came in: it says more and counts as full. Else prove '..UptoSaid'. A law counts once. -/
mutual
def uptoBulk {H : Type} : DataW H → Nat
  | .lit (.string bytes) => bytes.length + 1
  | .lit _ => 1
  | .nil => 1
  | .ptr d => uptoBulk d + 1
  | .slice elems spare => uptoBulkAll elems + uptoBulkAll spare + 1
  | .agg parts => uptoBulkAll parts + 1
  | .iface _ d => uptoBulk d + 1
  | .map entries => uptoBulkEntries entries + 1
  | .held _ => 1
def uptoBulkAll {H : Type} : List (DataW H) → Nat
  | [] => 0
  | d :: r => uptoBulk d + uptoBulkAll r
def uptoBulkEntries {H : Type} : List (Lit × DataW H) → Nat
  | [] => 0
  | x :: r => uptoBulkEntry x + uptoBulkEntries r
def uptoBulkEntry {H : Type} : Lit × DataW H → Nat
  | (.string bytes, d) => bytes.length + uptoBulk d + 1
  | (_, d) => uptoBulk d + 1
 end
def uptoSmall : (H : Type) → List (DataW H) → Bool := fun _ ds => decide (uptoBulkAll ds ≤ 1048576)
def OpenSpec.upto (s : _root_.Go.ChangeSpec) : _root_.Go.OpenSpec := { _root_.Go.OpenSpec.ofChange s with cond := some uptoSmall }

/-- 'spokeshavelaw14.EulerSpoils', WHERE WHAT IT READS IS OF BULK AT MOST 1048576: true; the input reads as it did. -/
def eulerSpoilsUptoRow : OpenClaim := { program := "ytealnhaffphamaa", sum := "64d49d385aec1b177b43236cef81d56480106166a4d597c25c5406e72628519b", func := "spokeshave/spokeshavelaw14.EulerSpoils", spec := "eulerSpoils", inPlace := ["slices.overlaps[int]"], unfollowed := true, recurses := true, plainKeys := false, apart := false, narrowed := true }
def EulerSpoilsUptoSaid : Prop := eulerSpoilsUptoRow.holds Try.pinned (OpenSpec.upto eulerSpoilsSpec)

/-- 'spokeshavelaw14.EulerLarge', WHERE WHAT IT READS IS OF BULK AT MOST 1048576: true; the input reads as it did. -/
def eulerLargeUptoRow : OpenClaim := { program := "ytealnhaffphamaa", sum := "64d49d385aec1b177b43236cef81d56480106166a4d597c25c5406e72628519b", func := "spokeshave/spokeshavelaw14.EulerLarge", spec := "eulerLarge", inPlace := ["slices.overlaps[int]"], unfollowed := true, recurses := true, plainKeys := false, apart := false, narrowed := true }
def EulerLargeUptoSaid : Prop := eulerLargeUptoRow.holds Try.pinned (OpenSpec.upto eulerLargeSpec)

/-- 'spokeshavelaw14.EulerPoincare', WHERE WHAT IT READS IS OF BULK AT MOST 1048576: true; the input reads as it did. -/
def eulerPoincareUptoRow : OpenClaim := { program := "ytealnhaffphamaa", sum := "64d49d385aec1b177b43236cef81d56480106166a4d597c25c5406e72628519b", func := "spokeshave/spokeshavelaw14.EulerPoincare", spec := "eulerPoincare", inPlace := ["slices.overlaps[int]"], unfollowed := true, recurses := true, plainKeys := false, apart := false, narrowed := true }
def EulerPoincareUptoSaid : Prop := eulerPoincareUptoRow.holds Try.pinned (OpenSpec.upto eulerPoincareSpec)

/-- 'spokeshavelaw14.EulerFaces', WHERE WHAT IT READS IS OF BULK AT MOST 1048576: true; the input reads as it did. -/
def eulerFacesUptoRow : OpenClaim := { program := "ytealnhaffphamaa", sum := "64d49d385aec1b177b43236cef81d56480106166a4d597c25c5406e72628519b", func := "spokeshave/spokeshavelaw14.EulerFaces", spec := "eulerFaces", inPlace := ["slices.overlaps[int]"], unfollowed := true, recurses := true, plainKeys := false, apart := false, narrowed := true }
def EulerFacesUptoSaid : Prop := eulerFacesUptoRow.holds Try.pinned (OpenSpec.upto eulerFacesSpec)

/-- 'spokeshavelaw14.EulerNodes', WHERE WHAT IT READS IS OF BULK AT MOST 1048576: true; the input reads as it did. -/
def eulerNodesUptoRow : OpenClaim := { program := "ytealnhaffphamaa", sum := "64d49d385aec1b177b43236cef81d56480106166a4d597c25c5406e72628519b", func := "spokeshave/spokeshavelaw14.EulerNodes", spec := "eulerNodes", inPlace := ["slices.overlaps[int]"], unfollowed := true, recurses := true, plainKeys := false, apart := false, narrowed := true }
def EulerNodesUptoSaid : Prop := eulerNodesUptoRow.holds Try.pinned (OpenSpec.upto eulerNodesSpec)

/-- 'spokeshavelaw14.EulerEdges', WHERE WHAT IT READS IS OF BULK AT MOST 1048576: true; the input reads as it did. -/
def eulerEdgesUptoRow : OpenClaim := { program := "ytealnhaffphamaa", sum := "64d49d385aec1b177b43236cef81d56480106166a4d597c25c5406e72628519b", func := "spokeshave/spokeshavelaw14.EulerEdges", spec := "eulerEdges", inPlace := ["slices.overlaps[int]"], unfollowed := true, recurses := true, plainKeys := false, apart := false, narrowed := true }
def EulerEdgesUptoSaid : Prop := eulerEdgesUptoRow.holds Try.pinned (OpenSpec.upto eulerEdgesSpec)

end Rows
end Go.Proofs.Ytealnhaffphamaa
