/-
  Records: what they are. Plain Lean, no function of the program in sight.
-/
import Derived.Test.YtmobgamlednlhaaVarPlain
import Derived.Test.YtmobgamlednlhaaAppend
namespace Go.Proofs.Ytmobgamlednlhaa
open Go.RowKit
/-- A record: its kind, its numbers, its texts. -/
structure Rc where
  k : Nat
  proc : Nat
  inc : Nat
  seq : Nat
  epoch : Nat
  until_ : Nat
  version : Nat
  clock : Nat
  size : Nat
  crc : Nat
  name : ByteArray
  to : ByteArray
namespace Rc
def cells (r : Rc) : Array Value := #[.int .u8 (r.k : Nat), .int .u64 (r.proc : Nat), .int .u64 (r.inc : Nat), .int .u64 (r.seq : Nat), .int .u64 (r.epoch : Nat), .int .u64 (r.until_ : Nat), .int .u64 (r.version : Nat), .int .u64 (r.clock : Nat), .int .u64 (r.size : Nat), .int .u64 (r.crc : Nat), .string r.name, .string r.to]
def val (r : Rc) : Value := .agg r.cells
/-- What a machine's record is. -/
def ok (r : Rc) : Prop := r.k < 256 ∧ r.proc < 18446744073709551616 ∧ r.inc < 18446744073709551616 ∧ r.seq < 18446744073709551616 ∧ r.epoch < 18446744073709551616 ∧ r.until_ < 18446744073709551616 ∧ r.version < 18446744073709551616 ∧ r.clock < 18446744073709551616 ∧ r.size < 18446744073709551616 ∧ r.crc < 18446744073709551616 ∧ r.name.size ≤ maxLen ∧ r.to.size ≤ maxLen
/-- The number of a letter. -/
def num (r : Rc) (c : Nat) : Nat := if c = 101 then r.epoch else if c = 117 then r.until_ else if c = 118 then r.version else if c = 115 then r.size else if c = 99 then r.crc else r.clock
/-- The text of a letter. -/
def txt (r : Rc) (c : Nat) : ByteArray := if c = 110 then r.name else r.to
def isText (c : Nat) : Bool := decide (c = 110) || decide (c = 116)
/-- A record with the part of a letter. -/
def with_ (r : Rc) (c n : Nat) (s : ByteArray) : Rc := if c = 101 then { r with epoch := n } else if c = 117 then { r with until_ := n } else if c = 118 then { r with version := n } else if c = 115 then { r with size := n } else if c = 99 then { r with crc := n } else if c = 107 then { r with clock := n } else if c = 110 then { r with name := s } else { r with to := s }
def letters (k : Nat) : List UInt8 := ([[], [101, 117], [101, 117], [101], [101, 118, 115, 99], [118, 117], [118], [], [107], [110], [110], [110, 116]] : List (List UInt8)).getD k []
def words : List (List UInt8) := [[], [103, 114, 97, 110, 116], [114, 101, 110, 101, 119], [114, 101, 108, 101, 97, 115, 101], [99, 111, 109, 109, 105, 116], [112, 105, 110], [117, 110, 112, 105, 110], [115, 101, 97, 108], [99, 111, 109, 112, 97, 99, 116], [98, 105, 110, 100], [117, 110, 98, 105, 110, 100], [114, 101, 110, 97, 109, 101]]
def word (k : Nat) : List UInt8 := words.getD k []
end Rc
end Go.Proofs.Ytmobgamlednlhaa
