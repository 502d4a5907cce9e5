/-
  No cell of these rows narrows 'for every input' (looked for: loops, veiled, ifaces, maps, wideKeys, modest, calm, conditions, laid).
  DERIVED. THE GIVEN ROWS OF THIS SEAT. 3 by the template 'for every input the law returns true; each argument reads behind the call as it read before'; 0 by the template 'total and deterministic' (their statements: YtankhjchdnfpfaaTotals.lean).
  GIVEN WITH THE SEED: the statements are not yours to turn. If you find one false, say at which input.
  Laid BY PROGRAM, IN A SANDBOX (cutbox-rows.mjs): the forced cells as the released guide's own fill.sh prints them over the translation 201f9d8edd68df3d… (all of the seat's roots in one cut). By AI agents, Wed Nov 11 2026. No macro, syntax, notation, axiom, sorry.
-/
import Derived.Test.YtankhjchdnfpfaaChecked
import GoSem.Claim
import GoSem.ClaimJoined
import GoSem.ClaimMapViews
import Derived.JoinedTies
import Derived.KernelRfl
namespace Go.Proofs.Ytankhjchdnfpfaa
/- THE CELL 'sum', in the pinned program and in every row, IS THE sha256 OF THE DUMP (.gsa) THAT YtankhjchdnfpfaaProg.lean LOADS. Nothing in Lean hashes anything: it is a label: what it is worth is what the hold of that sum in a sandbox is worth. -/
noncomputable def Try.pinned : Pinned := { name := "ytankhjchdnfpfaa", sum := "201f9d8edd68df3dbcbf465a88880df12af729d84898b7b9fdc3a08f5ae901b1", checked := Try.checked }
namespace Rows
def none {H : Type} : Left H := { results := [], args := [] }

/-- 'chartroomlaw07.ExtentPlays': WHATEVER THE INPUT: true; the input reads as it did. -/
def extentPlaysSpec : ChangeSpec := { name := "extentPlays", fn := fun _ => fun
  | [d1, d2] => { results := [.lit (.bool true)], args := [d1, d2] }
  | _ => none }
def extentPlaysRow : OpenClaim := { program := "ytankhjchdnfpfaa", sum := "201f9d8edd68df3dbcbf465a88880df12af729d84898b7b9fdc3a08f5ae901b1", func := "chartroom/chartroomlaw07.ExtentPlays", spec := "extentPlays", unfollowed := true, recurses := true, apart := false }
def ExtentPlaysSaid : Prop := extentPlaysRow.holds Try.pinned (OpenSpec.ofChange extentPlaysSpec)

/-- ITS FALSE NEIGHBOUR: 'it returns false'. Refute it at one input. -/
def extentPlaysWrong : ChangeSpec := { name := "extentPlays", fn := fun _ => fun
  | [d1, d2] => { results := [.lit (.bool false)], args := [d1, d2] }
  | _ => none }
def ExtentPlaysWrongFalsely : Prop := extentPlaysRow.holds Try.pinned (OpenSpec.ofChange extentPlaysWrong)

/-- 'chartroomlaw07.ExtentKeeps': WHATEVER THE INPUT: true; the input reads as it did. -/
def extentKeepsSpec : ChangeSpec := { name := "extentKeeps", fn := fun _ => fun
  | [d1, d2, d3] => { results := [.lit (.bool true)], args := [d1, d2, d3] }
  | _ => none }
def extentKeepsRow : OpenClaim := { program := "ytankhjchdnfpfaa", sum := "201f9d8edd68df3dbcbf465a88880df12af729d84898b7b9fdc3a08f5ae901b1", func := "chartroom/chartroomlaw07.ExtentKeeps", spec := "extentKeeps", unfollowed := true, recurses := true, apart := false }
def ExtentKeepsSaid : Prop := extentKeepsRow.holds Try.pinned (OpenSpec.ofChange extentKeepsSpec)

/-- ITS FALSE NEIGHBOUR: 'it returns false'. Refute it at one input. -/
def extentKeepsWrong : ChangeSpec := { name := "extentKeeps", fn := fun _ => fun
  | [d1, d2, d3] => { results := [.lit (.bool false)], args := [d1, d2, d3] }
  | _ => none }
def ExtentKeepsWrongFalsely : Prop := extentKeepsRow.holds Try.pinned (OpenSpec.ofChange extentKeepsWrong)

/-- 'chartroomlaw07.ExtentKnown': WHATEVER THE INPUT: true; the input reads as it did. -/
def extentKnownSpec : ChangeSpec := { name := "extentKnown", fn := fun _ => fun
  | [] => { results := [.lit (.bool true)], args := [] }
  | _ => none }
def extentKnownRow : OpenClaim := { program := "ytankhjchdnfpfaa", sum := "201f9d8edd68df3dbcbf465a88880df12af729d84898b7b9fdc3a08f5ae901b1", func := "chartroom/chartroomlaw07.ExtentKnown", spec := "extentKnown", unfollowed := true, recurses := true, apart := false }
def ExtentKnownSaid : Prop := extentKnownRow.holds Try.pinned (OpenSpec.ofChange extentKnownSpec)

/-- ITS FALSE NEIGHBOUR: 'it returns false'. Refute it at one input. -/
def extentKnownWrong : ChangeSpec := { name := "extentKnown", fn := fun _ => fun
  | [] => { results := [.lit (.bool false)], args := [] }
  | _ => none }
def ExtentKnownWrongFalsely : Prop := extentKnownRow.holds Try.pinned (OpenSpec.ofChange extentKnownWrong)

/- THE SECOND FORM. 'bulk': how many values and letters a reading holds, each counted each time it is reached (what is shared counts as often as it is met; a slice's spare places count too). A statement '..UptoSaid' is the law's where the arguments, and the package variables that the reading takes, are together of bulk at most 1048576: NARROWER than '..Said'. Prove '..Said' where nothing that the law and all that it calls make is longer than what came in: it says more and counts as full. Else prove '..UptoSaid'. A law counts once. -/
mutual
def uptoBulk {H : Type} : DataW H → Nat
  | .lit (.string bytes) => bytes.length + 1
  | .lit _ => 1
  | .nil => 1
  | .ptr d => uptoBulk d + 1
  | .slice elems spare => uptoBulkAll elems + uptoBulkAll spare + 1
  | .agg parts => uptoBulkAll parts + 1
  | .iface _ d => uptoBulk d + 1
  | .map entries => uptoBulkEntries entries + 1
  | .held _ => 1
def uptoBulkAll {H : Type} : List (DataW H) → Nat
  | [] => 0
  | d :: r => uptoBulk d + uptoBulkAll r
def uptoBulkEntries {H : Type} : List (Lit × DataW H) → Nat
  | [] => 0
  | x :: r => uptoBulkEntry x + uptoBulkEntries r
def uptoBulkEntry {H : Type} : Lit × DataW H → Nat
  | (.string bytes, d) => bytes.length + uptoBulk d + 1
  | (_, d) => uptoBulk d + 1
 end
def uptoSmall : (H : Type) → List (DataW H) → Bool := fun _ ds => decide (uptoBulkAll ds ≤ 1048576)
def OpenSpec.upto (s : _root_.Go.ChangeSpec) : _root_.Go.OpenSpec := { _root_.Go.OpenSpec.ofChange s with cond := some uptoSmall }

/-- 'chartroomlaw07.ExtentPlays', WHERE WHAT IT READS IS OF BULK AT MOST 1048576: true; the input reads as it did. -/
def extentPlaysUptoRow : OpenClaim := { program := "ytankhjchdnfpfaa", sum := "201f9d8edd68df3dbcbf465a88880df12af729d84898b7b9fdc3a08f5ae901b1", func := "chartroom/chartroomlaw07.ExtentPlays", spec := "extentPlays", unfollowed := true, recurses := true, apart := false, narrowed := true }
def ExtentPlaysUptoSaid : Prop := extentPlaysUptoRow.holds Try.pinned (OpenSpec.upto extentPlaysSpec)

/-- 'chartroomlaw07.ExtentKeeps', WHERE WHAT IT READS IS OF BULK AT MOST 1048576: true; the input reads as it did. -/
def extentKeepsUptoRow : OpenClaim := { program := "ytankhjchdnfpfaa", sum := "201f9d8edd68df3dbcbf465a88880df12af729d84898b7b9fdc3a08f5ae901b1", func := "chartroom/chartroomlaw07.ExtentKeeps", spec := "extentKeeps", unfollowed := true, recurses := true, apart := false, narrowed := true }
def ExtentKeepsUptoSaid : Prop := extentKeepsUptoRow.holds Try.pinned (OpenSpec.upto extentKeepsSpec)

/-- 'chartroomlaw07.ExtentKnown', WHERE WHAT IT READS IS OF BULK AT MOST 1048576: true; the input reads as it did. -/
def extentKnownUptoRow : OpenClaim := { program := "ytankhjchdnfpfaa", sum := "201f9d8edd68df3dbcbf465a88880df12af729d84898b7b9fdc3a08f5ae901b1", func := "chartroom/chartroomlaw07.ExtentKnown", spec := "extentKnown", unfollowed := true, recurses := true, apart := false, narrowed := true }
def ExtentKnownUptoSaid : Prop := extentKnownUptoRow.holds Try.pinned (OpenSpec.upto extentKnownSpec)

end Rows
end Go.Proofs.Ytankhjchdnfpfaa
