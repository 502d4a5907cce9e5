/-
  Records: which method a visitor's call comes to.
-/
import Derived.Test.YtmobgamlednlhaaRecEq
namespace Go.Proofs.Ytmobgamlednlhaa
open Go.RowKit
theorem taker_number (v : Value) (args : Array Value) (w : World) : (callMethod (.iface 66 v) "chartroom/record.number" args).run Try.prog w = .ok (.enter 76 (#[v] ++ args)) w := by kernel_rfl
theorem taker_text (v : Value) (args : Array Value) (w : World) : (callMethod (.iface 66 v) "chartroom/record.text" args).run Try.prog w = .ok (.enter 77 (#[v] ++ args)) w := by kernel_rfl
theorem writer_number (v : Value) (args : Array Value) (w : World) : (callMethod (.iface 56 v) "chartroom/record.number" args).run Try.prog w = .ok (.enter 73 (#[v] ++ args)) w := by kernel_rfl
theorem writer_text (v : Value) (args : Array Value) (w : World) : (callMethod (.iface 56 v) "chartroom/record.text" args).run Try.prog w = .ok (.enter 74 (#[v] ++ args)) w := by kernel_rfl
theorem reader_number (v : Value) (args : Array Value) (w : World) : (callMethod (.iface 74 v) "chartroom/record.number" args).run Try.prog w = .ok (.enter 78 (#[v] ++ args)) w := by kernel_rfl
theorem reader_text (v : Value) (args : Array Value) (w : World) : (callMethod (.iface 74 v) "chartroom/record.text" args).run Try.prog w = .ok (.enter 79 (#[v] ++ args)) w := by kernel_rfl
theorem index_three (p0 p1 p2 : Option Addr) (w : World) : (Instr.index 92 (.agg #[.pointer p0, .pointer p1, .pointer p2]) (.int .i64 0)).run Try.prog w = .ok (.pointer p0) w ∧
    (Instr.index 92 (.agg #[.pointer p0, .pointer p1, .pointer p2]) (.int .i64 1)).run Try.prog w = .ok (.pointer p1) w ∧ (Instr.index 92 (.agg #[.pointer p0, .pointer p1, .pointer p2]) (.int .i64 2)).run Try.prog w = .ok (.pointer p2) w := by
  refine ⟨?_, ?_, ?_⟩ <;> kernel_rfl
end Go.Proofs.Ytmobgamlednlhaa
