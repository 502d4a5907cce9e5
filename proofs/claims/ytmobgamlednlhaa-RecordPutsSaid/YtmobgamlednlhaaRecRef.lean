/-
  Records: the law's ref and few, the document's with.
-/
import Derived.Test.YtmobgamlednlhaaRecLeaf
namespace Go.Proofs.Ytmobgamlednlhaa
open Go.RowKit
set_option maxRecDepth 100000 in
set_option maxHeartbeats 16000000 in
theorem few_any (w : World) (r : Rc) (hr : r.ok) (b : Bool) (hb0 : b = (decide (r.name.size ≤ 100) && decide (r.to.size ≤ 100))) : Calls Try.prog 8 #[r.val] w fun en w' => en = .returned (.bool b) ∧ Below w.heap.size w w' := by
  have hb := belowK w (.cells r.cells 24)
  obtain ⟨k, n0, n1, n2, n3, n4, n5, n6, n7, n8, s0, s1⟩ := r
  obtain ⟨_, _, _, _, _, _, _, _, _, _, h0, h1⟩ := hr
  simp only [Rc.val, Rc.cells] at hb hb0 h0 h1 ⊢
  unfold maxLen at h0 h1
  by_cases c0 : s0.size ≤ 100
  · by_cases c1 : s1.size ≤ 100
    · have t0 : decide ((s0.size : Int) ≤ 100) = true := by simp; omega
      have t1 : decide ((s1.size : Int) ≤ 100) = true := by simp; omega
      go_enter Try.func8, Try.ntmps8
      go_wp2_with fail
      go_ret
      exact ⟨rfl, hb⟩
    · have t0 : decide ((s0.size : Int) ≤ 100) = true := by simp; omega
      have t1 : decide ((s1.size : Int) ≤ 100) = false := by simp; omega
      go_enter Try.func8, Try.ntmps8
      go_wp2_with fail
      go_ret
      exact ⟨rfl, hb⟩
  · have t0 : decide ((s0.size : Int) ≤ 100) = false := by simp; omega
    go_enter Try.func8, Try.ntmps8
    go_wp2_with fail
    go_ret
    exact ⟨rfl, hb⟩
set_option maxRecDepth 100000 in
set_option maxHeartbeats 16000000 in
theorem ref_any (w : World) (r : Rc) : Calls Try.prog 11 #[r.val] w fun en w' => en = .returned r.val ∧ Below w.heap.size w w' := by
  have hb := belowK w (.cells r.cells 24)
  have hb2 := hb.trans ((belowK (w.alloc (.cells r.cells 24)) (.cells r.cells 31)).mono hb.size)
  obtain ⟨k, n0, n1, n2, n3, n4, n5, n6, n7, n8, s0, s1⟩ := r
  simp only [Rc.val, Rc.cells] at hb hb2 ⊢
  have hw := Whole.new (w.alloc (.cells #[.int .u8 (k : Nat), .int .u64 (n0 : Nat), .int .u64 (n1 : Nat), .int .u64 (n2 : Nat), .int .u64 (n3 : Nat), .int .u64 (n4 : Nat), .int .u64 (n5 : Nat), .int .u64 (n6 : Nat), .int .u64 (n7 : Nat), .int .u64 (n8 : Nat), .string s0, .string s1] 24)) 31 #[.int .u8 (k : Nat), .int .u64 (n0 : Nat), .int .u64 (n1 : Nat), .int .u64 (n2 : Nat), .int .u64 (n3 : Nat), .int .u64 (n4 : Nat), .int .u64 (n5 : Nat), .int .u64 (n6 : Nat), .int .u64 (n7 : Nat), .int .u64 (n8 : Nat), .string s0, .string s1]
  have hz : (w.alloc (.cells #[.int .u8 (k : Nat), .int .u64 (n0 : Nat), .int .u64 (n1 : Nat), .int .u64 (n2 : Nat), .int .u64 (n3 : Nat), .int .u64 (n4 : Nat), .int .u64 (n5 : Nat), .int .u64 (n6 : Nat), .int .u64 (n7 : Nat), .int .u64 (n8 : Nat), .string s0, .string s1] 24)).heap.size = w.heap.size + 1 := by simp
  rw [hz] at hw
  have HW := Lib.hid hw
  have HB := Lib.hid hb2
  clear hb hb2 hw hz
  go_enter Try.func11, Try.ntmps11
  go_wp2_with fail
  generalize World.alloc _ (.cells #[.int .u8 (k : Nat), .int .u64 (n0 : Nat), .int .u64 (n1 : Nat), .int .u64 (n2 : Nat), .int .u64 (n3 : Nat), .int .u64 (n4 : Nat), .int .u64 (n5 : Nat), .int .u64 (n6 : Nat), .int .u64 (n7 : Nat), .int .u64 (n8 : Nat), .string s0, .string s1] 31) = W at HW HB ⊢
  have r0 := HW.out.cell 0
  have r1 := HW.out.cell 1
  have r2 := HW.out.cell 2
  have r3 := HW.out.cell 3
  have r4 := HW.out.cell 4
  have r5 := HW.out.cell 5
  have r6 := HW.out.cell 6
  have r7 := HW.out.cell 7
  have r8 := HW.out.cell 8
  have r9 := HW.out.cell 9
  have r10 := HW.out.cell 10
  have r11 := HW.out.cell 11
  simp at r0 r1 r2 r3 r4 r5 r6 r7 r8 r9 r10 r11
  simp [bodyPost, results, Try.results11, go_sem, r0, r1, r2, r3, r4, r5, r6, r7, r8, r9, r10, r11]
  exact HB.out
end Go.Proofs.Ytmobgamlednlhaa
