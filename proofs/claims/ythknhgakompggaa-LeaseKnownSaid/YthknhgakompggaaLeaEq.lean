/-
  Leases compared: '==' and '!=' of two of them.
-/
import Derived.Test.YthknhgakompggaaLeaRefs
import Derived.Laws.StructEq
namespace Go.Proofs.Ythknhgakompggaa
open Go.RowKit
theorem lease_guard (op : BinOp) (x y : Operand) (xs ys : Array Value) (w : World) : (eqGuard op 24 x y (.agg xs) (.agg ys)).run Try.prog w = .ok () w := run_eqGuard_agg w op _ x y xs ys (by kernel_rfl)
theorem rlease_guard (op : BinOp) (x y : Operand) (xs ys : Array Value) (w : World) : (eqGuard op 25 x y (.agg xs) (.agg ys)).run Try.prog w = .ok () w := run_eqGuard_agg w op _ x y xs ys (by kernel_rfl)
theorem lease_equalIn (w : World) (a0 a1 a2 a3 : Int) (a4 : Bool) (b0 b1 b2 b3 : Int) (b4 : Bool) :
    (Op.equalIn 10000 24 (.agg #[.int .u64 a0, .int .u64 a1, .int .u64 a2, .int .u64 a3, .bool a4]) (.agg #[.int .u64 b0, .int .u64 b1, .int .u64 b2, .int .u64 b3, .bool b4])).run Try.prog w =
      .ok (a0 == b0 && (a1 == b1 && (a2 == b2 && (a3 == b3 && a4 == b4)))) w := by
  have hS : Try.prog.underlying 24 = some (.struct (Try.prog.fieldsOf 24)) := by kernel_rfl
  have hp : Try.prog.stoodInHeld 24 = false := by kernel_rfl
  rw [show (10000 : Nat) = 9999 + 1 from rfl, run_equalIn_agg w 9999 _ _ _ hS hp]
  simp only [Program.fieldsOf, Try.underlying24]
  have u1 := Try.underlying22
  have u2 := Try.underlying4
  have z1 := Try.isAgg22
  have z2 := Try.isAgg4
  have z3 := Try.sizeOf22
  have z4 := Try.sizeOf4
  go_simp
  by_cases h0 : a0 = b0 <;> by_cases h1 : a1 = b1 <;> by_cases h2 : a2 = b2 <;> by_cases h3 : a3 = b3 <;> cases a4 <;> cases b4 <;> simp [h0, h1, h2, h3]
theorem lease_eql (w : World) (a0 a1 a2 a3 : Int) (a4 : Bool) (b0 b1 b2 b3 : Int) (b4 : Bool) :
    (binOp .eql 24 (.agg #[.int .u64 a0, .int .u64 a1, .int .u64 a2, .int .u64 a3, .bool a4]) (.agg #[.int .u64 b0, .int .u64 b1, .int .u64 b2, .int .u64 b3, .bool b4])).run Try.prog w =
      .ok (.bool (a0 == b0 && (a1 == b1 && (a2 == b2 && (a3 == b3 && a4 == b4))))) w := by
  rw [run_eql_struct, lease_equalIn]
  rfl
theorem lease_neq (w : World) (a0 a1 a2 a3 : Int) (a4 : Bool) (b0 b1 b2 b3 : Int) (b4 : Bool) :
    (binOp .neq 24 (.agg #[.int .u64 a0, .int .u64 a1, .int .u64 a2, .int .u64 a3, .bool a4]) (.agg #[.int .u64 b0, .int .u64 b1, .int .u64 b2, .int .u64 b3, .bool b4])).run Try.prog w =
      .ok (.bool (!(a0 == b0 && (a1 == b1 && (a2 == b2 && (a3 == b3 && a4 == b4)))))) w := by
  rw [run_neq_struct, lease_equalIn]
  rfl
theorem rlease_equalIn (w : World) (a0 a1 a2 a3 : Int) (a4 : Bool) (b0 b1 b2 b3 : Int) (b4 : Bool) :
    (Op.equalIn 10000 25 (.agg #[.int .u64 a0, .int .u64 a1, .int .u64 a2, .int .u64 a3, .bool a4]) (.agg #[.int .u64 b0, .int .u64 b1, .int .u64 b2, .int .u64 b3, .bool b4])).run Try.prog w =
      .ok (a0 == b0 && (a1 == b1 && (a2 == b2 && (a3 == b3 && a4 == b4)))) w := by
  have hS : Try.prog.underlying 25 = some (.struct (Try.prog.fieldsOf 25)) := by kernel_rfl
  have hp : Try.prog.stoodInHeld 25 = false := by kernel_rfl
  rw [show (10000 : Nat) = 9999 + 1 from rfl, run_equalIn_agg w 9999 _ _ _ hS hp]
  simp only [Program.fieldsOf, Try.underlying25]
  have u1 := Try.underlying22
  have u2 := Try.underlying4
  have z1 := Try.isAgg22
  have z2 := Try.isAgg4
  have z3 := Try.sizeOf22
  have z4 := Try.sizeOf4
  go_simp
  by_cases h0 : a0 = b0 <;> by_cases h1 : a1 = b1 <;> by_cases h2 : a2 = b2 <;> by_cases h3 : a3 = b3 <;> cases a4 <;> cases b4 <;> simp [h0, h1, h2, h3]
theorem rlease_eql (w : World) (a0 a1 a2 a3 : Int) (a4 : Bool) (b0 b1 b2 b3 : Int) (b4 : Bool) :
    (binOp .eql 25 (.agg #[.int .u64 a0, .int .u64 a1, .int .u64 a2, .int .u64 a3, .bool a4]) (.agg #[.int .u64 b0, .int .u64 b1, .int .u64 b2, .int .u64 b3, .bool b4])).run Try.prog w =
      .ok (.bool (a0 == b0 && (a1 == b1 && (a2 == b2 && (a3 == b3 && a4 == b4))))) w := by
  rw [run_eql_struct, rlease_equalIn]
  rfl
theorem rlease_neq (w : World) (a0 a1 a2 a3 : Int) (a4 : Bool) (b0 b1 b2 b3 : Int) (b4 : Bool) :
    (binOp .neq 25 (.agg #[.int .u64 a0, .int .u64 a1, .int .u64 a2, .int .u64 a3, .bool a4]) (.agg #[.int .u64 b0, .int .u64 b1, .int .u64 b2, .int .u64 b3, .bool b4])).run Try.prog w =
      .ok (.bool (!(a0 == b0 && (a1 == b1 && (a2 == b2 && (a3 == b3 && a4 == b4)))))) w := by
  rw [run_neq_struct, rlease_equalIn]
  rfl
end Go.Proofs.Ythknhgakompggaa
