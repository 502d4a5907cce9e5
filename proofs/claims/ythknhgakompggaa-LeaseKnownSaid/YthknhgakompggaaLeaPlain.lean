/-
  Leases: what they are, and what is told of them. No function of the program in sight.
-/
import Derived.Test.YthknhgakompggaaWords
namespace Go.Proofs.Ythknhgakompggaa
open Go.RowKit
/-- A lease: its epoch, its holder and that one's incarnation, till when it is, and whether it is held. -/
structure Ls where
  ep : Nat
  pr : Nat
  inc : Nat
  un : Nat
  hd : Bool
namespace Ls
def v (l : Ls) : Value := .agg #[.int .u64 (l.ep : Nat), .int .u64 (l.pr : Nat), .int .u64 (l.inc : Nat), .int .u64 (l.un : Nat), .bool l.hd]
def cs (l : Ls) : List Value := [.int .u64 (l.ep : Nat), .int .u64 (l.pr : Nat), .int .u64 (l.inc : Nat), .int .u64 (l.un : Nat), .bool l.hd]
theorem cs_length (l : Ls) : l.cs.length = 5 := rfl
def ok (l : Ls) : Prop := l.ep < 18446744073709551616 ∧ l.pr < 18446744073709551616 ∧ l.inc < 18446744073709551616 ∧ l.un < 18446744073709551616
def over (l : Ls) (c s : Nat) : Bool := !l.hd || (decide (l.un + s < 18446744073709551616) && decide (l.un + s < c))
def owns (l : Ls) (p i e : Nat) : Bool := l.hd && (decide (l.pr = p) && (decide (l.inc = i) && decide (l.ep = e)))
def fence (l : Ls) (p i e : Nat) : Nat := if l.owns p i e = true then 0 else 200
def nextE (l : Ls) : Nat := if l.ep = 18446744073709551615 then 131 else 0
def nextN (l : Ls) : Nat := if l.ep = 18446744073709551615 then 0 else l.ep + 1
def tryE (l : Ls) (c s : Nat) : Nat := if l.over c s = true then l.nextE else 130
def tryN (l : Ls) (c s : Nat) : Nat := if l.over c s = true then l.nextN else 0
def grant (l : Ls) (p i u : Nat) : Ls := if l.ep = 18446744073709551615 then l else ⟨l.ep + 1, p, i, u, true⟩
def renew (l : Ls) (u : Nat) : Ls := ⟨l.ep, l.pr, l.inc, max l.un u, l.hd⟩
def release (l : Ls) : Ls := ⟨l.ep, l.pr, l.inc, l.un, false⟩
def zero : Ls := ⟨0, 0, 0, 0, false⟩
/-- The one of the greatest epoch, the first of them. -/
def last : List Ls → Ls
  | [] => zero
  | l :: ls => ls.foldl (fun a b => if a.ep < b.ep then b else a) l
end Ls
/-- A change of a lease: of which kind, to whom, till when. -/
structure LAct where
  kind : Int
  pr : Nat
  inc : Nat
  un : Nat
namespace LAct
def cs (l : LAct) : List Value := [.int .i64 l.kind, .int .u64 (l.pr : Nat), .int .u64 (l.inc : Nat), .int .u64 (l.un : Nat)]
theorem cs_length (l : LAct) : l.cs.length = 4 := rfl
def ok (l : LAct) : Prop := -9223372036854775808 ≤ l.kind ∧ l.kind ≤ 9223372036854775807 ∧ l.pr < 18446744073709551616 ∧ l.inc < 18446744073709551616 ∧ l.un < 18446744073709551616
end LAct
def till (c d : Nat) : Nat := if c + d < 18446744073709551616 then c + d else 18446744073709551615
end Go.Proofs.Ythknhgakompggaa
