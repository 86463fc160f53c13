/-
  No cell of these rows narrows 'for every input' (looked for: loops, veiled, ifaces, maps, wideKeys, modest, calm, conditions, laid).
  DERIVED. THE GIVEN ROWS OF THIS SEAT. 3 by the template 'for every input the law returns true; each argument reads behind the call as it read before'; 0 by the template 'total and deterministic' (their statements: YtealnhaffphamaaGreatTotals.lean).
  GIVEN WITH THE SEED: the statements are not yours to turn. If you find one false, say at which input.
  Laid BY PROGRAM, IN A SANDBOX (cutbox-rows.mjs): the forced cells as the released guide's own fill.sh prints them over the translation c9eeb9030eb62dec… (all of the seat's roots in one cut). By AI agents, Wed Nov 11 2026. No macro, syntax, notation, axiom, sorry.
-/
import Derived.Test.YtealnhaffphamaaGreatChecked
import GoSem.Claim
import GoSem.ClaimJoined
import GoSem.ClaimMapViews
import Derived.JoinedTies
import Derived.KernelRfl
namespace Go.Proofs.YtealnhaffphamaaGreat
/- THE CELL 'sum', in the pinned program and in every row, IS THE sha256 OF THE DUMP (.gsa) THAT YtealnhaffphamaaGreatProg.lean LOADS. Nothing in Lean hashes anything: it is a label: what it is worth is what the hold of that sum in a sandbox is worth. -/
noncomputable def Tryz.pinned : Pinned := { name := "ytealnhaffphamaagreat", sum := "c9eeb9030eb62decbbeb2af046c185828c73c4c37315f2d0ccb3d43ebef86587", checked := Tryz.checked }
namespace Rows
def none {H : Type} : Left H := { results := [], args := [] }

/-- 'spokeshavelaw14.EulerUndo': WHATEVER THE INPUT: true; the input reads as it did. -/
def eulerUndoSpec : ChangeSpec := { name := "eulerUndo", fn := fun _ => fun
  | [d1, d2] => { results := [.lit (.bool true)], args := [d1, d2] }
  | _ => none }
def eulerUndoRow : OpenClaim := { program := "ytealnhaffphamaagreat", sum := "c9eeb9030eb62decbbeb2af046c185828c73c4c37315f2d0ccb3d43ebef86587", func := "spokeshave/spokeshavelaw14.EulerUndo", spec := "eulerUndo", inPlace := ["slices.overlaps[int]"], unfollowed := true, recurses := true, plainKeys := false, apart := false }
def EulerUndoSaid : Prop := eulerUndoRow.holds Tryz.pinned (OpenSpec.ofChange eulerUndoSpec)

/-- ITS FALSE NEIGHBOUR: 'it returns false'. Refute it at one input. -/
def eulerUndoWrong : ChangeSpec := { name := "eulerUndo", fn := fun _ => fun
  | [d1, d2] => { results := [.lit (.bool false)], args := [d1, d2] }
  | _ => none }
def EulerUndoWrongFalsely : Prop := eulerUndoRow.holds Tryz.pinned (OpenSpec.ofChange eulerUndoWrong)

/-- 'spokeshavelaw14.EulerChecks': WHATEVER THE INPUT: true; the input reads as it did. -/
def eulerChecksSpec : ChangeSpec := { name := "eulerChecks", fn := fun _ => fun
  | [d1, d2] => { results := [.lit (.bool true)], args := [d1, d2] }
  | _ => none }
def eulerChecksRow : OpenClaim := { program := "ytealnhaffphamaagreat", sum := "c9eeb9030eb62decbbeb2af046c185828c73c4c37315f2d0ccb3d43ebef86587", func := "spokeshave/spokeshavelaw14.EulerChecks", spec := "eulerChecks", inPlace := ["slices.overlaps[int]"], unfollowed := true, recurses := true, plainKeys := false, apart := false }
def EulerChecksSaid : Prop := eulerChecksRow.holds Tryz.pinned (OpenSpec.ofChange eulerChecksSpec)

/-- ITS FALSE NEIGHBOUR: 'it returns false'. Refute it at one input. -/
def eulerChecksWrong : ChangeSpec := { name := "eulerChecks", fn := fun _ => fun
  | [d1, d2] => { results := [.lit (.bool false)], args := [d1, d2] }
  | _ => none }
def EulerChecksWrongFalsely : Prop := eulerChecksRow.holds Tryz.pinned (OpenSpec.ofChange eulerChecksWrong)

/-- 'spokeshavelaw14.EulerTells': WHATEVER THE INPUT: true; the input reads as it did. -/
def eulerTellsSpec : ChangeSpec := { name := "eulerTells", fn := fun _ => fun
  | [d1, d2] => { results := [.lit (.bool true)], args := [d1, d2] }
  | _ => none }
def eulerTellsRow : OpenClaim := { program := "ytealnhaffphamaagreat", sum := "c9eeb9030eb62decbbeb2af046c185828c73c4c37315f2d0ccb3d43ebef86587", func := "spokeshave/spokeshavelaw14.EulerTells", spec := "eulerTells", inPlace := ["slices.overlaps[int]"], unfollowed := true, recurses := true, plainKeys := false, apart := false }
def EulerTellsSaid : Prop := eulerTellsRow.holds Tryz.pinned (OpenSpec.ofChange eulerTellsSpec)

/-- ITS FALSE NEIGHBOUR: 'it returns false'. Refute it at one input. -/
def eulerTellsWrong : ChangeSpec := { name := "eulerTells", fn := fun _ => fun
  | [d1, d2] => { results := [.lit (.bool false)], args := [d1, d2] }
  | _ => none }
def EulerTellsWrongFalsely : Prop := eulerTellsRow.holds Tryz.pinned (OpenSpec.ofChange eulerTellsWrong)

/- THE SECOND FORM. 'bulk': how many values and letters a reading holds, each counted each time it is reached (what is shared counts as often as it is met; a slice's spare places count too). A statement '..UptoSaid' is the law's where the arguments, and the package variables that the reading takes, are together of bulk at most 1048576: NARROWER than '..Said'. Prove '..Said' where nothing that the law and all that it calls make is longer than what came in: it says more and counts as full. Else prove '..UptoSaid'. A law counts once. -/
mutual
def uptoBulk {H : Type} : DataW H → Nat
  | .lit (.string bytes) => bytes.length + 1
  | .lit _ => 1
  | .nil => 1
  | .ptr d => uptoBulk d + 1
  | .slice elems spare => uptoBulkAll elems + uptoBulkAll spare + 1
  | .agg parts => uptoBulkAll parts + 1
  | .iface _ d => uptoBulk d + 1
  | .map entries => uptoBulkEntries entries + 1
  | .held _ => 1
def uptoBulkAll {H : Type} : List (DataW H) → Nat
  | [] => 0
  | d :: r => uptoBulk d + uptoBulkAll r
def uptoBulkEntries {H : Type} : List (Lit × DataW H) → Nat
  | [] => 0
  | x :: r => uptoBulkEntry x + uptoBulkEntries r
def uptoBulkEntry {H : Type} : Lit × DataW H → Nat
  | (.string bytes, d) => bytes.length + uptoBulk d + 1
  | (_, d) => uptoBulk d + 1
 end
def uptoSmall : (H : Type) → List (DataW H) → Bool := fun _ ds => decide (uptoBulkAll ds ≤ 1048576)
def OpenSpec.upto (s : _root_.Go.ChangeSpec) : _root_.Go.OpenSpec := { _root_.Go.OpenSpec.ofChange s with cond := some uptoSmall }

/-- 'spokeshavelaw14.EulerUndo', WHERE WHAT IT READS IS OF BULK AT MOST 1048576: true; the input reads as it did. -/
def eulerUndoUptoRow : OpenClaim := { program := "ytealnhaffphamaagreat", sum := "c9eeb9030eb62decbbeb2af046c185828c73c4c37315f2d0ccb3d43ebef86587", func := "spokeshave/spokeshavelaw14.EulerUndo", spec := "eulerUndo", inPlace := ["slices.overlaps[int]"], unfollowed := true, recurses := true, plainKeys := false, apart := false, narrowed := true }
def EulerUndoUptoSaid : Prop := eulerUndoUptoRow.holds Tryz.pinned (OpenSpec.upto eulerUndoSpec)

/-- 'spokeshavelaw14.EulerChecks', WHERE WHAT IT READS IS OF BULK AT MOST 1048576: true; the input reads as it did. -/
def eulerChecksUptoRow : OpenClaim := { program := "ytealnhaffphamaagreat", sum := "c9eeb9030eb62decbbeb2af046c185828c73c4c37315f2d0ccb3d43ebef86587", func := "spokeshave/spokeshavelaw14.EulerChecks", spec := "eulerChecks", inPlace := ["slices.overlaps[int]"], unfollowed := true, recurses := true, plainKeys := false, apart := false, narrowed := true }
def EulerChecksUptoSaid : Prop := eulerChecksUptoRow.holds Tryz.pinned (OpenSpec.upto eulerChecksSpec)

/-- 'spokeshavelaw14.EulerTells', WHERE WHAT IT READS IS OF BULK AT MOST 1048576: true; the input reads as it did. -/
def eulerTellsUptoRow : OpenClaim := { program := "ytealnhaffphamaagreat", sum := "c9eeb9030eb62decbbeb2af046c185828c73c4c37315f2d0ccb3d43ebef86587", func := "spokeshave/spokeshavelaw14.EulerTells", spec := "eulerTells", inPlace := ["slices.overlaps[int]"], unfollowed := true, recurses := true, plainKeys := false, apart := false, narrowed := true }
def EulerTellsUptoSaid : Prop := eulerTellsUptoRow.holds Tryz.pinned (OpenSpec.upto eulerTellsSpec)

end Rows
end Go.Proofs.YtealnhaffphamaaGreat
