/-
  No cell of these rows narrows 'for every input' (looked for: loops, veiled, ifaces, maps, wideKeys, modest, calm, conditions, laid).
  DERIVED. THE GIVEN ROWS OF THIS SEAT. 10 by the template 'for every input the law returns true; each argument reads behind the call as it read before'; 0 by the template 'total and deterministic' (their statements: YthknhgakompggaaTotals.lean).
  GIVEN WITH THE SEED: the statements are not yours to turn. If you find one false, say at which input.
  Laid BY PROGRAM, IN A SANDBOX (cutbox-rows.mjs): the forced cells as the released guide's own fill.sh prints them over the translation fce427bc3cc39e29… (all of the seat's roots in one cut). By AI agents, Wed Nov 11 2026. No macro, syntax, notation, axiom, sorry.
-/
import Derived.Test.YthknhgakompggaaChecked
import GoSem.Claim
import GoSem.ClaimJoined
import GoSem.ClaimMapViews
import Derived.JoinedTies
import Derived.KernelRfl
namespace Go.Proofs.Ythknhgakompggaa
/- THE CELL 'sum', in the pinned program and in every row, IS THE sha256 OF THE DUMP (.gsa) THAT YthknhgakompggaaProg.lean LOADS. Nothing in Lean hashes anything: it is a label: what it is worth is what the hold of that sum in a sandbox is worth. -/
noncomputable def Try.pinned : Pinned := { name := "ythknhgakompggaa", sum := "fce427bc3cc39e29943ba54b06b05632a0eda32e2004933d63c004b782c0509b", checked := Try.checked }
namespace Rows
def none {H : Type} : Left H := { results := [], args := [] }

/-- 'chartroomlaw13.LeaseTells': WHATEVER THE INPUT: true; the input reads as it did. -/
def leaseTellsSpec : ChangeSpec := { name := "leaseTells", fn := fun _ => fun
  | [d1, d2, d3, d4, d5, d6] => { results := [.lit (.bool true)], args := [d1, d2, d3, d4, d5, d6] }
  | _ => none }
def leaseTellsRow : OpenClaim := { program := "ythknhgakompggaa", sum := "fce427bc3cc39e29943ba54b06b05632a0eda32e2004933d63c004b782c0509b", func := "chartroom/chartroomlaw13.LeaseTells", spec := "leaseTells", inPlace := ["math/bits.Add64"], apart := false }
def LeaseTellsSaid : Prop := leaseTellsRow.holds Try.pinned (OpenSpec.ofChange leaseTellsSpec)

/-- ITS FALSE NEIGHBOUR: 'it returns false'. Refute it at one input. -/
def leaseTellsWrong : ChangeSpec := { name := "leaseTells", fn := fun _ => fun
  | [d1, d2, d3, d4, d5, d6] => { results := [.lit (.bool false)], args := [d1, d2, d3, d4, d5, d6] }
  | _ => none }
def LeaseTellsWrongFalsely : Prop := leaseTellsRow.holds Try.pinned (OpenSpec.ofChange leaseTellsWrong)

/-- 'chartroomlaw13.LeaseClocks': WHATEVER THE INPUT: true; the input reads as it did. -/
def leaseClocksSpec : ChangeSpec := { name := "leaseClocks", fn := fun _ => fun
  | [d1, d2, d3, d4] => { results := [.lit (.bool true)], args := [d1, d2, d3, d4] }
  | _ => none }
def leaseClocksRow : OpenClaim := { program := "ythknhgakompggaa", sum := "fce427bc3cc39e29943ba54b06b05632a0eda32e2004933d63c004b782c0509b", func := "chartroom/chartroomlaw13.LeaseClocks", spec := "leaseClocks", inPlace := ["math/bits.Add64"], apart := false }
def LeaseClocksSaid : Prop := leaseClocksRow.holds Try.pinned (OpenSpec.ofChange leaseClocksSpec)

/-- ITS FALSE NEIGHBOUR: 'it returns false'. Refute it at one input. -/
def leaseClocksWrong : ChangeSpec := { name := "leaseClocks", fn := fun _ => fun
  | [d1, d2, d3, d4] => { results := [.lit (.bool false)], args := [d1, d2, d3, d4] }
  | _ => none }
def LeaseClocksWrongFalsely : Prop := leaseClocksRow.holds Try.pinned (OpenSpec.ofChange leaseClocksWrong)

/-- 'chartroomlaw13.LeaseFences': WHATEVER THE INPUT: true; the input reads as it did. -/
def leaseFencesSpec : ChangeSpec := { name := "leaseFences", fn := fun _ => fun
  | [d1, d2, d3, d4, d5] => { results := [.lit (.bool true)], args := [d1, d2, d3, d4, d5] }
  | _ => none }
def leaseFencesRow : OpenClaim := { program := "ythknhgakompggaa", sum := "fce427bc3cc39e29943ba54b06b05632a0eda32e2004933d63c004b782c0509b", func := "chartroom/chartroomlaw13.LeaseFences", spec := "leaseFences", inPlace := ["math/bits.Add64"], apart := false }
def LeaseFencesSaid : Prop := leaseFencesRow.holds Try.pinned (OpenSpec.ofChange leaseFencesSpec)

/-- ITS FALSE NEIGHBOUR: 'it returns false'. Refute it at one input. -/
def leaseFencesWrong : ChangeSpec := { name := "leaseFences", fn := fun _ => fun
  | [d1, d2, d3, d4, d5] => { results := [.lit (.bool false)], args := [d1, d2, d3, d4, d5] }
  | _ => none }
def LeaseFencesWrongFalsely : Prop := leaseFencesRow.holds Try.pinned (OpenSpec.ofChange leaseFencesWrong)

/-- 'chartroomlaw13.LeaseChanges': WHATEVER THE INPUT: true; the input reads as it did. -/
def leaseChangesSpec : ChangeSpec := { name := "leaseChanges", fn := fun _ => fun
  | [d1, d2, d3, d4, d5] => { results := [.lit (.bool true)], args := [d1, d2, d3, d4, d5] }
  | _ => none }
def leaseChangesRow : OpenClaim := { program := "ythknhgakompggaa", sum := "fce427bc3cc39e29943ba54b06b05632a0eda32e2004933d63c004b782c0509b", func := "chartroom/chartroomlaw13.LeaseChanges", spec := "leaseChanges", inPlace := ["math/bits.Add64"], unfollowed := true, recurses := true, apart := false }
def LeaseChangesSaid : Prop := leaseChangesRow.holds Try.pinned (OpenSpec.ofChange leaseChangesSpec)

/-- ITS FALSE NEIGHBOUR: 'it returns false'. Refute it at one input. -/
def leaseChangesWrong : ChangeSpec := { name := "leaseChanges", fn := fun _ => fun
  | [d1, d2, d3, d4, d5] => { results := [.lit (.bool false)], args := [d1, d2, d3, d4, d5] }
  | _ => none }
def LeaseChangesWrongFalsely : Prop := leaseChangesRow.holds Try.pinned (OpenSpec.ofChange leaseChangesWrong)

/-- 'chartroomlaw13.LeaseKnown': WHATEVER THE INPUT: true; the input reads as it did. -/
def leaseKnownSpec : ChangeSpec := { name := "leaseKnown", fn := fun _ => fun
  | [] => { results := [.lit (.bool true)], args := [] }
  | _ => none }
def leaseKnownRow : OpenClaim := { program := "ythknhgakompggaa", sum := "fce427bc3cc39e29943ba54b06b05632a0eda32e2004933d63c004b782c0509b", func := "chartroom/chartroomlaw13.LeaseKnown", spec := "leaseKnown", inPlace := ["math/bits.Add64"], unfollowed := true, recurses := true, apart := false }
def LeaseKnownSaid : Prop := leaseKnownRow.holds Try.pinned (OpenSpec.ofChange leaseKnownSpec)

/-- ITS FALSE NEIGHBOUR: 'it returns false'. Refute it at one input. -/
def leaseKnownWrong : ChangeSpec := { name := "leaseKnown", fn := fun _ => fun
  | [] => { results := [.lit (.bool false)], args := [] }
  | _ => none }
def LeaseKnownWrongFalsely : Prop := leaseKnownRow.holds Try.pinned (OpenSpec.ofChange leaseKnownWrong)

/-- 'chartroomlaw12.ClockPlays': WHATEVER THE INPUT: true; the input reads as it did. -/
def clockPlaysSpec : ChangeSpec := { name := "clockPlays", fn := fun _ => fun
  | [d1, d2, d3] => { results := [.lit (.bool true)], args := [d1, d2, d3] }
  | _ => none }
def clockPlaysRow : OpenClaim := { program := "ythknhgakompggaa", sum := "fce427bc3cc39e29943ba54b06b05632a0eda32e2004933d63c004b782c0509b", func := "chartroom/chartroomlaw12.ClockPlays", spec := "clockPlays", inPlace := ["math/bits.Add64"], unfollowed := true, recurses := true, apart := false }
def ClockPlaysSaid : Prop := clockPlaysRow.holds Try.pinned (OpenSpec.ofChange clockPlaysSpec)

/-- ITS FALSE NEIGHBOUR: 'it returns false'. Refute it at one input. -/
def clockPlaysWrong : ChangeSpec := { name := "clockPlays", fn := fun _ => fun
  | [d1, d2, d3] => { results := [.lit (.bool false)], args := [d1, d2, d3] }
  | _ => none }
def ClockPlaysWrongFalsely : Prop := clockPlaysRow.holds Try.pinned (OpenSpec.ofChange clockPlaysWrong)

/-- 'chartroomlaw12.ClockSums': WHATEVER THE INPUT: true; the input reads as it did. -/
def clockSumsSpec : ChangeSpec := { name := "clockSums", fn := fun _ => fun
  | [d1, d2, d3, d4] => { results := [.lit (.bool true)], args := [d1, d2, d3, d4] }
  | _ => none }
def clockSumsRow : OpenClaim := { program := "ythknhgakompggaa", sum := "fce427bc3cc39e29943ba54b06b05632a0eda32e2004933d63c004b782c0509b", func := "chartroom/chartroomlaw12.ClockSums", spec := "clockSums", inPlace := ["math/bits.Add64"], unfollowed := true, recurses := true, apart := false }
def ClockSumsSaid : Prop := clockSumsRow.holds Try.pinned (OpenSpec.ofChange clockSumsSpec)

/-- ITS FALSE NEIGHBOUR: 'it returns false'. Refute it at one input. -/
def clockSumsWrong : ChangeSpec := { name := "clockSums", fn := fun _ => fun
  | [d1, d2, d3, d4] => { results := [.lit (.bool false)], args := [d1, d2, d3, d4] }
  | _ => none }
def ClockSumsWrongFalsely : Prop := clockSumsRow.holds Try.pinned (OpenSpec.ofChange clockSumsWrong)

/-- 'chartroomlaw12.ClockPast': WHATEVER THE INPUT: true; the input reads as it did. -/
def clockPastSpec : ChangeSpec := { name := "clockPast", fn := fun _ => fun
  | [d1, d2, d3, d4, d5] => { results := [.lit (.bool true)], args := [d1, d2, d3, d4, d5] }
  | _ => none }
def clockPastRow : OpenClaim := { program := "ythknhgakompggaa", sum := "fce427bc3cc39e29943ba54b06b05632a0eda32e2004933d63c004b782c0509b", func := "chartroom/chartroomlaw12.ClockPast", spec := "clockPast", inPlace := ["math/bits.Add64"], unfollowed := true, recurses := true, apart := false }
def ClockPastSaid : Prop := clockPastRow.holds Try.pinned (OpenSpec.ofChange clockPastSpec)

/-- ITS FALSE NEIGHBOUR: 'it returns false'. Refute it at one input. -/
def clockPastWrong : ChangeSpec := { name := "clockPast", fn := fun _ => fun
  | [d1, d2, d3, d4, d5] => { results := [.lit (.bool false)], args := [d1, d2, d3, d4, d5] }
  | _ => none }
def ClockPastWrongFalsely : Prop := clockPastRow.holds Try.pinned (OpenSpec.ofChange clockPastWrong)

/-- 'chartroomlaw12.ClockNone': WHATEVER THE INPUT: true; the input reads as it did. -/
def clockNoneSpec : ChangeSpec := { name := "clockNone", fn := fun _ => fun
  | [d1, d2] => { results := [.lit (.bool true)], args := [d1, d2] }
  | _ => none }
def clockNoneRow : OpenClaim := { program := "ythknhgakompggaa", sum := "fce427bc3cc39e29943ba54b06b05632a0eda32e2004933d63c004b782c0509b", func := "chartroom/chartroomlaw12.ClockNone", spec := "clockNone", inPlace := ["math/bits.Add64"], unfollowed := true, recurses := true, apart := false }
def ClockNoneSaid : Prop := clockNoneRow.holds Try.pinned (OpenSpec.ofChange clockNoneSpec)

/-- ITS FALSE NEIGHBOUR: 'it returns false'. Refute it at one input. -/
def clockNoneWrong : ChangeSpec := { name := "clockNone", fn := fun _ => fun
  | [d1, d2] => { results := [.lit (.bool false)], args := [d1, d2] }
  | _ => none }
def ClockNoneWrongFalsely : Prop := clockNoneRow.holds Try.pinned (OpenSpec.ofChange clockNoneWrong)

/-- 'chartroomlaw12.ClockKnown': WHATEVER THE INPUT: true; the input reads as it did. -/
def clockKnownSpec : ChangeSpec := { name := "clockKnown", fn := fun _ => fun
  | [] => { results := [.lit (.bool true)], args := [] }
  | _ => none }
def clockKnownRow : OpenClaim := { program := "ythknhgakompggaa", sum := "fce427bc3cc39e29943ba54b06b05632a0eda32e2004933d63c004b782c0509b", func := "chartroom/chartroomlaw12.ClockKnown", spec := "clockKnown", inPlace := ["math/bits.Add64"], unfollowed := true, recurses := true, apart := false }
def ClockKnownSaid : Prop := clockKnownRow.holds Try.pinned (OpenSpec.ofChange clockKnownSpec)

/-- ITS FALSE NEIGHBOUR: 'it returns false'. Refute it at one input. -/
def clockKnownWrong : ChangeSpec := { name := "clockKnown", fn := fun _ => fun
  | [] => { results := [.lit (.bool false)], args := [] }
  | _ => none }
def ClockKnownWrongFalsely : Prop := clockKnownRow.holds Try.pinned (OpenSpec.ofChange clockKnownWrong)

/- THE SECOND FORM. 'bulk': how many values and letters a reading holds, each counted each time it is reached (what is shared counts as often as it is met; a slice's spare places count too). A statement '..UptoSaid' is the law's where the arguments, and the package variables that the reading takes, are together of bulk at most 1048576: NARROWER than '..Said'. Prove '..Said' where nothing that the law and all that it calls make is longer than what came in: it says more and counts as full. Else prove '..UptoSaid'. A law counts once. -/
mutual
def uptoBulk {H : Type} : DataW H → Nat
  | .lit (.string bytes) => bytes.length + 1
  | .lit _ => 1
  | .nil => 1
  | .ptr d => uptoBulk d + 1
  | .slice elems spare => uptoBulkAll elems + uptoBulkAll spare + 1
  | .agg parts => uptoBulkAll parts + 1
  | .iface _ d => uptoBulk d + 1
  | .map entries => uptoBulkEntries entries + 1
  | .held _ => 1
def uptoBulkAll {H : Type} : List (DataW H) → Nat
  | [] => 0
  | d :: r => uptoBulk d + uptoBulkAll r
def uptoBulkEntries {H : Type} : List (Lit × DataW H) → Nat
  | [] => 0
  | x :: r => uptoBulkEntry x + uptoBulkEntries r
def uptoBulkEntry {H : Type} : Lit × DataW H → Nat
  | (.string bytes, d) => bytes.length + uptoBulk d + 1
  | (_, d) => uptoBulk d + 1
 end
def uptoSmall : (H : Type) → List (DataW H) → Bool := fun _ ds => decide (uptoBulkAll ds ≤ 1048576)
def OpenSpec.upto (s : _root_.Go.ChangeSpec) : _root_.Go.OpenSpec := { _root_.Go.OpenSpec.ofChange s with cond := some uptoSmall }

/-- 'chartroomlaw13.LeaseTells', WHERE WHAT IT READS IS OF BULK AT MOST 1048576: true; the input reads as it did. -/
def leaseTellsUptoRow : OpenClaim := { program := "ythknhgakompggaa", sum := "fce427bc3cc39e29943ba54b06b05632a0eda32e2004933d63c004b782c0509b", func := "chartroom/chartroomlaw13.LeaseTells", spec := "leaseTells", inPlace := ["math/bits.Add64"], apart := false, narrowed := true }
def LeaseTellsUptoSaid : Prop := leaseTellsUptoRow.holds Try.pinned (OpenSpec.upto leaseTellsSpec)

/-- 'chartroomlaw13.LeaseClocks', WHERE WHAT IT READS IS OF BULK AT MOST 1048576: true; the input reads as it did. -/
def leaseClocksUptoRow : OpenClaim := { program := "ythknhgakompggaa", sum := "fce427bc3cc39e29943ba54b06b05632a0eda32e2004933d63c004b782c0509b", func := "chartroom/chartroomlaw13.LeaseClocks", spec := "leaseClocks", inPlace := ["math/bits.Add64"], apart := false, narrowed := true }
def LeaseClocksUptoSaid : Prop := leaseClocksUptoRow.holds Try.pinned (OpenSpec.upto leaseClocksSpec)

/-- 'chartroomlaw13.LeaseFences', WHERE WHAT IT READS IS OF BULK AT MOST 1048576: true; the input reads as it did. -/
def leaseFencesUptoRow : OpenClaim := { program := "ythknhgakompggaa", sum := "fce427bc3cc39e29943ba54b06b05632a0eda32e2004933d63c004b782c0509b", func := "chartroom/chartroomlaw13.LeaseFences", spec := "leaseFences", inPlace := ["math/bits.Add64"], apart := false, narrowed := true }
def LeaseFencesUptoSaid : Prop := leaseFencesUptoRow.holds Try.pinned (OpenSpec.upto leaseFencesSpec)

/-- 'chartroomlaw13.LeaseChanges', WHERE WHAT IT READS IS OF BULK AT MOST 1048576: true; the input reads as it did. -/
def leaseChangesUptoRow : OpenClaim := { program := "ythknhgakompggaa", sum := "fce427bc3cc39e29943ba54b06b05632a0eda32e2004933d63c004b782c0509b", func := "chartroom/chartroomlaw13.LeaseChanges", spec := "leaseChanges", inPlace := ["math/bits.Add64"], unfollowed := true, recurses := true, apart := false, narrowed := true }
def LeaseChangesUptoSaid : Prop := leaseChangesUptoRow.holds Try.pinned (OpenSpec.upto leaseChangesSpec)

/-- 'chartroomlaw13.LeaseKnown', WHERE WHAT IT READS IS OF BULK AT MOST 1048576: true; the input reads as it did. -/
def leaseKnownUptoRow : OpenClaim := { program := "ythknhgakompggaa", sum := "fce427bc3cc39e29943ba54b06b05632a0eda32e2004933d63c004b782c0509b", func := "chartroom/chartroomlaw13.LeaseKnown", spec := "leaseKnown", inPlace := ["math/bits.Add64"], unfollowed := true, recurses := true, apart := false, narrowed := true }
def LeaseKnownUptoSaid : Prop := leaseKnownUptoRow.holds Try.pinned (OpenSpec.upto leaseKnownSpec)

/-- 'chartroomlaw12.ClockPlays', WHERE WHAT IT READS IS OF BULK AT MOST 1048576: true; the input reads as it did. -/
def clockPlaysUptoRow : OpenClaim := { program := "ythknhgakompggaa", sum := "fce427bc3cc39e29943ba54b06b05632a0eda32e2004933d63c004b782c0509b", func := "chartroom/chartroomlaw12.ClockPlays", spec := "clockPlays", inPlace := ["math/bits.Add64"], unfollowed := true, recurses := true, apart := false, narrowed := true }
def ClockPlaysUptoSaid : Prop := clockPlaysUptoRow.holds Try.pinned (OpenSpec.upto clockPlaysSpec)

/-- 'chartroomlaw12.ClockSums', WHERE WHAT IT READS IS OF BULK AT MOST 1048576: true; the input reads as it did. -/
def clockSumsUptoRow : OpenClaim := { program := "ythknhgakompggaa", sum := "fce427bc3cc39e29943ba54b06b05632a0eda32e2004933d63c004b782c0509b", func := "chartroom/chartroomlaw12.ClockSums", spec := "clockSums", inPlace := ["math/bits.Add64"], unfollowed := true, recurses := true, apart := false, narrowed := true }
def ClockSumsUptoSaid : Prop := clockSumsUptoRow.holds Try.pinned (OpenSpec.upto clockSumsSpec)

/-- 'chartroomlaw12.ClockPast', WHERE WHAT IT READS IS OF BULK AT MOST 1048576: true; the input reads as it did. -/
def clockPastUptoRow : OpenClaim := { program := "ythknhgakompggaa", sum := "fce427bc3cc39e29943ba54b06b05632a0eda32e2004933d63c004b782c0509b", func := "chartroom/chartroomlaw12.ClockPast", spec := "clockPast", inPlace := ["math/bits.Add64"], unfollowed := true, recurses := true, apart := false, narrowed := true }
def ClockPastUptoSaid : Prop := clockPastUptoRow.holds Try.pinned (OpenSpec.upto clockPastSpec)

/-- 'chartroomlaw12.ClockNone', WHERE WHAT IT READS IS OF BULK AT MOST 1048576: true; the input reads as it did. -/
def clockNoneUptoRow : OpenClaim := { program := "ythknhgakompggaa", sum := "fce427bc3cc39e29943ba54b06b05632a0eda32e2004933d63c004b782c0509b", func := "chartroom/chartroomlaw12.ClockNone", spec := "clockNone", inPlace := ["math/bits.Add64"], unfollowed := true, recurses := true, apart := false, narrowed := true }
def ClockNoneUptoSaid : Prop := clockNoneUptoRow.holds Try.pinned (OpenSpec.upto clockNoneSpec)

/-- 'chartroomlaw12.ClockKnown', WHERE WHAT IT READS IS OF BULK AT MOST 1048576: true; the input reads as it did. -/
def clockKnownUptoRow : OpenClaim := { program := "ythknhgakompggaa", sum := "fce427bc3cc39e29943ba54b06b05632a0eda32e2004933d63c004b782c0509b", func := "chartroom/chartroomlaw12.ClockKnown", spec := "clockKnown", inPlace := ["math/bits.Add64"], unfollowed := true, recurses := true, apart := false, narrowed := true }
def ClockKnownUptoSaid : Prop := clockKnownUptoRow.holds Try.pinned (OpenSpec.upto clockKnownSpec)

end Rows
end Go.Proofs.Ythknhgakompggaa
