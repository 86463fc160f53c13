/-
  No cell of these rows narrows 'for every input' (looked for: loops, veiled, ifaces, maps, wideKeys, modest, calm, conditions, laid).
  DERIVED. THE GIVEN ROWS OF THIS SEAT. 4 by the template 'for every input the law returns true; each argument reads behind the call as it read before'; 0 by the template 'total and deterministic' (their statements: YtaoedfegakpjeabGreatTotals.lean).
  GIVEN WITH THE SEED: the statements are not yours to turn. If you find one false, say at which input.
  Laid BY PROGRAM, IN A SANDBOX (cutbox-rows.mjs): the forced cells as the released guide's own fill.sh prints them over the translation 8bf266781609d30a… (all of the seat's roots in one cut). By AI agents, Wed Nov 11 2026. No macro, syntax, notation, axiom, sorry.
-/
import Derived.Test.YtaoedfegakpjeabGreatChecked
import GoSem.Claim
import GoSem.ClaimJoined
import GoSem.ClaimMapViews
import Derived.JoinedTies
import Derived.KernelRfl
namespace Go.Proofs.YtaoedfegakpjeabGreat
/- THE CELL 'sum', in the pinned program and in every row, IS THE sha256 OF THE DUMP (.gsa) THAT YtaoedfegakpjeabGreatProg.lean LOADS. Nothing in Lean hashes anything: it is a label: what it is worth is what the hold of that sum in a sandbox is worth. -/
noncomputable def Tryz.pinned : Pinned := { name := "ytaoedfegakpjeabgreat", sum := "8bf266781609d30a3fc00a71215ce36e864323d420cae91f02c6063163bb870a", checked := Tryz.checked }
namespace Rows
def none {H : Type} : Left H := { results := [], args := [] }

/-- 'spokeshavelaw05.LineDirections': WHATEVER THE INPUT: true; the input reads as it did. -/
def lineDirectionsSpec : ChangeSpec := { name := "lineDirections", fn := fun _ => fun
  | [d1, d2, d3] => { results := [.lit (.bool true)], args := [d1, d2, d3] }
  | _ => none }
def lineDirectionsRow : OpenClaim := { program := "ytaoedfegakpjeabgreat", sum := "8bf266781609d30a3fc00a71215ce36e864323d420cae91f02c6063163bb870a", func := "spokeshave/spokeshavelaw05.LineDirections", spec := "lineDirections", unfollowed := true, recurses := true, apart := false }
def LineDirectionsSaid : Prop := lineDirectionsRow.holds Tryz.pinned (OpenSpec.ofChange lineDirectionsSpec)

/-- ITS FALSE NEIGHBOUR: 'it returns false'. Refute it at one input. -/
def lineDirectionsWrong : ChangeSpec := { name := "lineDirections", fn := fun _ => fun
  | [d1, d2, d3] => { results := [.lit (.bool false)], args := [d1, d2, d3] }
  | _ => none }
def LineDirectionsWrongFalsely : Prop := lineDirectionsRow.holds Tryz.pinned (OpenSpec.ofChange lineDirectionsWrong)

/-- 'spokeshavelaw05.LineClockwise': WHATEVER THE INPUT: true; the input reads as it did. -/
def lineClockwiseSpec : ChangeSpec := { name := "lineClockwise", fn := fun _ => fun
  | [d1, d2, d3] => { results := [.lit (.bool true)], args := [d1, d2, d3] }
  | _ => none }
def lineClockwiseRow : OpenClaim := { program := "ytaoedfegakpjeabgreat", sum := "8bf266781609d30a3fc00a71215ce36e864323d420cae91f02c6063163bb870a", func := "spokeshave/spokeshavelaw05.LineClockwise", spec := "lineClockwise", unfollowed := true, recurses := true, apart := false }
def LineClockwiseSaid : Prop := lineClockwiseRow.holds Tryz.pinned (OpenSpec.ofChange lineClockwiseSpec)

/-- ITS FALSE NEIGHBOUR: 'it returns false'. Refute it at one input. -/
def lineClockwiseWrong : ChangeSpec := { name := "lineClockwise", fn := fun _ => fun
  | [d1, d2, d3] => { results := [.lit (.bool false)], args := [d1, d2, d3] }
  | _ => none }
def LineClockwiseWrongFalsely : Prop := lineClockwiseRow.holds Tryz.pinned (OpenSpec.ofChange lineClockwiseWrong)

/-- 'spokeshavelaw05.LineOrders': WHATEVER THE INPUT: true; the input reads as it did. -/
def lineOrdersSpec : ChangeSpec := { name := "lineOrders", fn := fun _ => fun
  | [d1, d2, d3] => { results := [.lit (.bool true)], args := [d1, d2, d3] }
  | _ => none }
def lineOrdersRow : OpenClaim := { program := "ytaoedfegakpjeabgreat", sum := "8bf266781609d30a3fc00a71215ce36e864323d420cae91f02c6063163bb870a", func := "spokeshave/spokeshavelaw05.LineOrders", spec := "lineOrders", unfollowed := true, recurses := true, apart := false }
def LineOrdersSaid : Prop := lineOrdersRow.holds Tryz.pinned (OpenSpec.ofChange lineOrdersSpec)

/-- ITS FALSE NEIGHBOUR: 'it returns false'. Refute it at one input. -/
def lineOrdersWrong : ChangeSpec := { name := "lineOrders", fn := fun _ => fun
  | [d1, d2, d3] => { results := [.lit (.bool false)], args := [d1, d2, d3] }
  | _ => none }
def LineOrdersWrongFalsely : Prop := lineOrdersRow.holds Tryz.pinned (OpenSpec.ofChange lineOrdersWrong)

/-- 'spokeshavelaw05.LineRounds': WHATEVER THE INPUT: true; the input reads as it did. -/
def lineRoundsSpec : ChangeSpec := { name := "lineRounds", fn := fun _ => fun
  | [d1, d2, d3] => { results := [.lit (.bool true)], args := [d1, d2, d3] }
  | _ => none }
def lineRoundsRow : OpenClaim := { program := "ytaoedfegakpjeabgreat", sum := "8bf266781609d30a3fc00a71215ce36e864323d420cae91f02c6063163bb870a", func := "spokeshave/spokeshavelaw05.LineRounds", spec := "lineRounds", unfollowed := true, recurses := true, apart := false }
def LineRoundsSaid : Prop := lineRoundsRow.holds Tryz.pinned (OpenSpec.ofChange lineRoundsSpec)

/-- ITS FALSE NEIGHBOUR: 'it returns false'. Refute it at one input. -/
def lineRoundsWrong : ChangeSpec := { name := "lineRounds", fn := fun _ => fun
  | [d1, d2, d3] => { results := [.lit (.bool false)], args := [d1, d2, d3] }
  | _ => none }
def LineRoundsWrongFalsely : Prop := lineRoundsRow.holds Tryz.pinned (OpenSpec.ofChange lineRoundsWrong)

/- THE SECOND FORM. 'bulk': how many values and letters a reading holds, each counted each time it is reached (what is shared counts as often as it is met; a slice's spare places count too). A statement '..UptoSaid' is the law's where the arguments, and the package variables that the reading takes, are together of bulk at most 1048576: NARROWER than '..Said'. Prove '..Said' where nothing that the law and all that it calls make is longer than what came in: it says more and counts as full. Else prove '..UptoSaid'. A law counts once. -/
mutual
def uptoBulk {H : Type} : DataW H → Nat
  | .lit (.string bytes) => bytes.length + 1
  | .lit _ => 1
  | .nil => 1
  | .ptr d => uptoBulk d + 1
  | .slice elems spare => uptoBulkAll elems + uptoBulkAll spare + 1
  | .agg parts => uptoBulkAll parts + 1
  | .iface _ d => uptoBulk d + 1
  | .map entries => uptoBulkEntries entries + 1
  | .held _ => 1
def uptoBulkAll {H : Type} : List (DataW H) → Nat
  | [] => 0
  | d :: r => uptoBulk d + uptoBulkAll r
def uptoBulkEntries {H : Type} : List (Lit × DataW H) → Nat
  | [] => 0
  | x :: r => uptoBulkEntry x + uptoBulkEntries r
def uptoBulkEntry {H : Type} : Lit × DataW H → Nat
  | (.string bytes, d) => bytes.length + uptoBulk d + 1
  | (_, d) => uptoBulk d + 1
 end
def uptoSmall : (H : Type) → List (DataW H) → Bool := fun _ ds => decide (uptoBulkAll ds ≤ 1048576)
def OpenSpec.upto (s : _root_.Go.ChangeSpec) : _root_.Go.OpenSpec := { _root_.Go.OpenSpec.ofChange s with cond := some uptoSmall }

/-- 'spokeshavelaw05.LineDirections', WHERE WHAT IT READS IS OF BULK AT MOST 1048576: true; the input reads as it did. -/
def lineDirectionsUptoRow : OpenClaim := { program := "ytaoedfegakpjeabgreat", sum := "8bf266781609d30a3fc00a71215ce36e864323d420cae91f02c6063163bb870a", func := "spokeshave/spokeshavelaw05.LineDirections", spec := "lineDirections", unfollowed := true, recurses := true, apart := false, narrowed := true }
def LineDirectionsUptoSaid : Prop := lineDirectionsUptoRow.holds Tryz.pinned (OpenSpec.upto lineDirectionsSpec)

/-- 'spokeshavelaw05.LineClockwise', WHERE WHAT IT READS IS OF BULK AT MOST 1048576: true; the input reads as it did. -/
def lineClockwiseUptoRow : OpenClaim := { program := "ytaoedfegakpjeabgreat", sum := "8bf266781609d30a3fc00a71215ce36e864323d420cae91f02c6063163bb870a", func := "spokeshave/spokeshavelaw05.LineClockwise", spec := "lineClockwise", unfollowed := true, recurses := true, apart := false, narrowed := true }
def LineClockwiseUptoSaid : Prop := lineClockwiseUptoRow.holds Tryz.pinned (OpenSpec.upto lineClockwiseSpec)

/-- 'spokeshavelaw05.LineOrders', WHERE WHAT IT READS IS OF BULK AT MOST 1048576: true; the input reads as it did. -/
def lineOrdersUptoRow : OpenClaim := { program := "ytaoedfegakpjeabgreat", sum := "8bf266781609d30a3fc00a71215ce36e864323d420cae91f02c6063163bb870a", func := "spokeshave/spokeshavelaw05.LineOrders", spec := "lineOrders", unfollowed := true, recurses := true, apart := false, narrowed := true }
def LineOrdersUptoSaid : Prop := lineOrdersUptoRow.holds Tryz.pinned (OpenSpec.upto lineOrdersSpec)

/-- 'spokeshavelaw05.LineRounds', WHERE WHAT IT READS IS OF BULK AT MOST 1048576: true; the input reads as it did. -/
def lineRoundsUptoRow : OpenClaim := { program := "ytaoedfegakpjeabgreat", sum := "8bf266781609d30a3fc00a71215ce36e864323d420cae91f02c6063163bb870a", func := "spokeshave/spokeshavelaw05.LineRounds", spec := "lineRounds", unfollowed := true, recurses := true, apart := false, narrowed := true }
def LineRoundsUptoSaid : Prop := lineRoundsUptoRow.holds Tryz.pinned (OpenSpec.upto lineRoundsSpec)

end Rows
end Go.Proofs.YtaoedfegakpjeabGreat
