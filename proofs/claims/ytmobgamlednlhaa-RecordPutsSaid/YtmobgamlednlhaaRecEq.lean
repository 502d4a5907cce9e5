/-
  Records compared: '==' of two of them.
-/
import Derived.Test.YtmobgamlednlhaaRecRef
import Derived.Laws.StructEq
import Derived.Lib.SlicesS
namespace Go.Proofs.Ytmobgamlednlhaa
open Go.RowKit
theorem bytes_list (x y : ByteArray) : (x.toList = y.toList) = (x = y) := by
  have h := Lib.bytes_beq_iff x y
  apply propext
  rw [← h]
  simp
theorem bytes_eqb (x y : ByteArray) : (x == y) = decide (x = y) := by
  by_cases h : x = y
  · rw [decide_eq_true h]; exact (MapKept.bytes_beq _ _).2 h
  · rw [decide_eq_false h]
    cases hb : (x == y) with
    | false => rfl
    | true => exact absurd ((MapKept.bytes_beq _ _).1 hb) h
/-- Are two records the same? -/
def Rc.eqB (a b : Rc) : Bool := (a.k : Int) == (b.k : Int) && ((a.proc : Int) == (b.proc : Int) && ((a.inc : Int) == (b.inc : Int) && ((a.seq : Int) == (b.seq : Int) && ((a.epoch : Int) == (b.epoch : Int) && ((a.until_ : Int) == (b.until_ : Int) && ((a.version : Int) == (b.version : Int) && ((a.clock : Int) == (b.clock : Int) && ((a.size : Int) == (b.size : Int) && ((a.crc : Int) == (b.crc : Int) && (a.name == b.name && a.to == b.to))))))))))
theorem Rc.eqB_iff (a b : Rc) : a.eqB b = true ↔ a = b := by
  obtain ⟨a0, a1, a2, a3, a4, a5, a6, a7, a8, a9, a10, a11⟩ := a
  obtain ⟨b0, b1, b2, b3, b4, b5, b6, b7, b8, b9, b10, b11⟩ := b
  unfold Rc.eqB
  simp only [Bool.and_eq_true, beq_iff_eq, Rc.mk.injEq]
  constructor
  · rintro ⟨h0, h1, h2, h3, h4, h5, h6, h7, h8, h9, h10, h11⟩
    exact ⟨by omega, by omega, by omega, by omega, by omega, by omega, by omega, by omega, by omega, by omega, (MapKept.bytes_beq _ _).1 h10, (MapKept.bytes_beq _ _).1 h11⟩
  · rintro ⟨rfl, rfl, rfl, rfl, rfl, rfl, rfl, rfl, rfl, rfl, rfl, rfl⟩
    exact ⟨rfl, rfl, rfl, rfl, rfl, rfl, rfl, rfl, rfl, rfl, (MapKept.bytes_beq _ _).2 rfl, (MapKept.bytes_beq _ _).2 rfl⟩
attribute [local simp] bytes_list bytes_eqb
theorem rec_guard (op : BinOp) (x y : Operand) (xs ys : Array Value) (w : World) : (eqGuard op 24 x y (.agg xs) (.agg ys)).run Try.prog w = .ok () w := run_eqGuard_agg w op _ x y xs ys (by kernel_rfl)
set_option maxHeartbeats 4000000 in
set_option maxRecDepth 100000 in
theorem rec_equalIn (w : World) (a0 a1 a2 a3 a4 a5 a6 a7 a8 a9 : Int) (a10 a11 : ByteArray) (b0 b1 b2 b3 b4 b5 b6 b7 b8 b9 : Int) (b10 b11 : ByteArray) :
    (Op.equalIn 10000 24 (.agg #[.int .u8 a0, .int .u64 a1, .int .u64 a2, .int .u64 a3, .int .u64 a4, .int .u64 a5, .int .u64 a6, .int .u64 a7, .int .u64 a8, .int .u64 a9, .string a10, .string a11]) (.agg #[.int .u8 b0, .int .u64 b1, .int .u64 b2, .int .u64 b3, .int .u64 b4, .int .u64 b5, .int .u64 b6, .int .u64 b7, .int .u64 b8, .int .u64 b9, .string b10, .string b11])).run Try.prog w = .ok (a0 == b0 && (a1 == b1 && (a2 == b2 && (a3 == b3 && (a4 == b4 && (a5 == b5 && (a6 == b6 && (a7 == b7 && (a8 == b8 && (a9 == b9 && (a10 == b10 && (a11 == b11)))))))))))) w := by
  have hS : Try.prog.underlying 24 = some (.struct (Try.prog.fieldsOf 24)) := by kernel_rfl
  have hp : Try.prog.stoodInHeld 24 = false := by kernel_rfl
  rw [show (10000 : Nat) = 9999 + 1 from rfl, run_equalIn_agg w 9999 _ _ _ hS hp]
  simp only [Program.fieldsOf, Try.underlying24]
  have u1 := Try.underlying22
  have u2 := Try.underlying5
  have u3 := Try.underlying9
  have z1 := Try.isAgg22
  have z2 := Try.isAgg5
  have z3 := Try.isAgg9
  have z4 := Try.sizeOf22
  have z5 := Try.sizeOf5
  have z6 := Try.sizeOf9
  go_simp
  by_cases h0 : a0 = b0
  · subst h0
    by_cases h1 : a1 = b1
    · subst h1
      by_cases h2 : a2 = b2
      · subst h2
        by_cases h3 : a3 = b3
        · subst h3
          by_cases h4 : a4 = b4
          · subst h4
            by_cases h5 : a5 = b5
            · subst h5
              by_cases h6 : a6 = b6
              · subst h6
                by_cases h7 : a7 = b7
                · subst h7
                  by_cases h8 : a8 = b8
                  · subst h8
                    by_cases h9 : a9 = b9
                    · subst h9
                      by_cases h10 : a10 = b10 <;> by_cases h11 : a11 = b11 <;> simp [h10, h11]
                    · simp [h9]
                  · simp [h8]
                · simp [h7]
              · simp [h6]
            · simp [h5]
          · simp [h4]
        · simp [h3]
      · simp [h2]
    · simp [h1]
  · simp [h0]
theorem rec_eql (w : World) (a0 a1 a2 a3 a4 a5 a6 a7 a8 a9 : Int) (a10 a11 : ByteArray) (b0 b1 b2 b3 b4 b5 b6 b7 b8 b9 : Int) (b10 b11 : ByteArray) :
    (binOp .eql 24 (.agg #[.int .u8 a0, .int .u64 a1, .int .u64 a2, .int .u64 a3, .int .u64 a4, .int .u64 a5, .int .u64 a6, .int .u64 a7, .int .u64 a8, .int .u64 a9, .string a10, .string a11]) (.agg #[.int .u8 b0, .int .u64 b1, .int .u64 b2, .int .u64 b3, .int .u64 b4, .int .u64 b5, .int .u64 b6, .int .u64 b7, .int .u64 b8, .int .u64 b9, .string b10, .string b11])).run Try.prog w = .ok (.bool (a0 == b0 && (a1 == b1 && (a2 == b2 && (a3 == b3 && (a4 == b4 && (a5 == b5 && (a6 == b6 && (a7 == b7 && (a8 == b8 && (a9 == b9 && (a10 == b10 && (a11 == b11))))))))))))) w := by
  rw [run_eql_struct, rec_equalIn]
  rfl
theorem rrec_guard (op : BinOp) (x y : Operand) (xs ys : Array Value) (w : World) : (eqGuard op 31 x y (.agg xs) (.agg ys)).run Try.prog w = .ok () w := run_eqGuard_agg w op _ x y xs ys (by kernel_rfl)
set_option maxHeartbeats 4000000 in
set_option maxRecDepth 100000 in
theorem rrec_equalIn (w : World) (a0 a1 a2 a3 a4 a5 a6 a7 a8 a9 : Int) (a10 a11 : ByteArray) (b0 b1 b2 b3 b4 b5 b6 b7 b8 b9 : Int) (b10 b11 : ByteArray) :
    (Op.equalIn 10000 31 (.agg #[.int .u8 a0, .int .u64 a1, .int .u64 a2, .int .u64 a3, .int .u64 a4, .int .u64 a5, .int .u64 a6, .int .u64 a7, .int .u64 a8, .int .u64 a9, .string a10, .string a11]) (.agg #[.int .u8 b0, .int .u64 b1, .int .u64 b2, .int .u64 b3, .int .u64 b4, .int .u64 b5, .int .u64 b6, .int .u64 b7, .int .u64 b8, .int .u64 b9, .string b10, .string b11])).run Try.prog w = .ok (a0 == b0 && (a1 == b1 && (a2 == b2 && (a3 == b3 && (a4 == b4 && (a5 == b5 && (a6 == b6 && (a7 == b7 && (a8 == b8 && (a9 == b9 && (a10 == b10 && (a11 == b11)))))))))))) w := by
  have hS : Try.prog.underlying 31 = some (.struct (Try.prog.fieldsOf 31)) := by kernel_rfl
  have hp : Try.prog.stoodInHeld 31 = false := by kernel_rfl
  rw [show (10000 : Nat) = 9999 + 1 from rfl, run_equalIn_agg w 9999 _ _ _ hS hp]
  simp only [Program.fieldsOf, Try.underlying31]
  have u1 := Try.underlying22
  have u2 := Try.underlying5
  have u3 := Try.underlying9
  have z1 := Try.isAgg22
  have z2 := Try.isAgg5
  have z3 := Try.isAgg9
  have z4 := Try.sizeOf22
  have z5 := Try.sizeOf5
  have z6 := Try.sizeOf9
  go_simp
  by_cases h0 : a0 = b0
  · subst h0
    by_cases h1 : a1 = b1
    · subst h1
      by_cases h2 : a2 = b2
      · subst h2
        by_cases h3 : a3 = b3
        · subst h3
          by_cases h4 : a4 = b4
          · subst h4
            by_cases h5 : a5 = b5
            · subst h5
              by_cases h6 : a6 = b6
              · subst h6
                by_cases h7 : a7 = b7
                · subst h7
                  by_cases h8 : a8 = b8
                  · subst h8
                    by_cases h9 : a9 = b9
                    · subst h9
                      by_cases h10 : a10 = b10 <;> by_cases h11 : a11 = b11 <;> simp [h10, h11]
                    · simp [h9]
                  · simp [h8]
                · simp [h7]
              · simp [h6]
            · simp [h5]
          · simp [h4]
        · simp [h3]
      · simp [h2]
    · simp [h1]
  · simp [h0]
theorem rrec_eql (w : World) (a0 a1 a2 a3 a4 a5 a6 a7 a8 a9 : Int) (a10 a11 : ByteArray) (b0 b1 b2 b3 b4 b5 b6 b7 b8 b9 : Int) (b10 b11 : ByteArray) :
    (binOp .eql 31 (.agg #[.int .u8 a0, .int .u64 a1, .int .u64 a2, .int .u64 a3, .int .u64 a4, .int .u64 a5, .int .u64 a6, .int .u64 a7, .int .u64 a8, .int .u64 a9, .string a10, .string a11]) (.agg #[.int .u8 b0, .int .u64 b1, .int .u64 b2, .int .u64 b3, .int .u64 b4, .int .u64 b5, .int .u64 b6, .int .u64 b7, .int .u64 b8, .int .u64 b9, .string b10, .string b11])).run Try.prog w = .ok (.bool (a0 == b0 && (a1 == b1 && (a2 == b2 && (a3 == b3 && (a4 == b4 && (a5 == b5 && (a6 == b6 && (a7 == b7 && (a8 == b8 && (a9 == b9 && (a10 == b10 && (a11 == b11))))))))))))) w := by
  rw [run_eql_struct, rrec_equalIn]
  rfl
end Go.Proofs.Ytmobgamlednlhaa
