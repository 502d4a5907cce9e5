/-
  Records: the document's with.
-/
import Derived.Test.YtmobgamlednlhaaRecRef
namespace Go.Proofs.Ytmobgamlednlhaa
open Go.RowKit
set_option maxRecDepth 100000 in
set_option maxHeartbeats 16000000 in
theorem with_any (w : World) (r : Rc) (c n : Nat) (s : ByteArray) : Calls Try.prog 33 #[r.val, .int .u8 (c : Nat), .int .u64 (n : Nat), .string s] w fun en w' => en = .returned (r.with_ c n s).val ∧ Below w.heap.size w w' := by
  obtain ⟨k, n0, n1, n2, n3, n4, n5, n6, n7, n8, s0, s1⟩ := r
  unfold Rc.val Rc.cells
  dsimp only
  by_cases h101 : c = 101
  · subst h101
    have hE : Rc.with_ ⟨k, n0, n1, n2, n3, n4, n5, n6, n7, n8, s0, s1⟩ 101 n s = ⟨k, n0, n1, n2, n, n4, n5, n6, n7, n8, s0, s1⟩ := by simp [Rc.with_, *]
    rw [hE]
    clear hE
    have hb := (belowK w (.cells #[.int .u8 (k : Nat), .int .u64 (n0 : Nat), .int .u64 (n1 : Nat), .int .u64 (n2 : Nat), .int .u64 (n : Nat), .int .u64 (n4 : Nat), .int .u64 (n5 : Nat), .int .u64 (n6 : Nat), .int .u64 (n7 : Nat), .int .u64 (n8 : Nat), .string s0, .string s1] 31)).trans ((belowK (w.alloc (.cells #[.int .u8 (k : Nat), .int .u64 (n0 : Nat), .int .u64 (n1 : Nat), .int .u64 (n2 : Nat), .int .u64 (n : Nat), .int .u64 (n4 : Nat), .int .u64 (n5 : Nat), .int .u64 (n6 : Nat), .int .u64 (n7 : Nat), .int .u64 (n8 : Nat), .string s0, .string s1] 31)) (.cells #[.int .u8 (k : Nat), .int .u64 (n0 : Nat), .int .u64 (n1 : Nat), .int .u64 (n2 : Nat), .int .u64 (n : Nat), .int .u64 (n4 : Nat), .int .u64 (n5 : Nat), .int .u64 (n6 : Nat), .int .u64 (n7 : Nat), .int .u64 (n8 : Nat), .string s0, .string s1] 31)).mono (belowK w (.cells #[.int .u8 (k : Nat), .int .u64 (n0 : Nat), .int .u64 (n1 : Nat), .int .u64 (n2 : Nat), .int .u64 (n : Nat), .int .u64 (n4 : Nat), .int .u64 (n5 : Nat), .int .u64 (n6 : Nat), .int .u64 (n7 : Nat), .int .u64 (n8 : Nat), .string s0, .string s1] 31)).size)
    have hw := Whole.new (w.alloc (.cells #[.int .u8 (k : Nat), .int .u64 (n0 : Nat), .int .u64 (n1 : Nat), .int .u64 (n2 : Nat), .int .u64 (n : Nat), .int .u64 (n4 : Nat), .int .u64 (n5 : Nat), .int .u64 (n6 : Nat), .int .u64 (n7 : Nat), .int .u64 (n8 : Nat), .string s0, .string s1] 31)) 31 #[.int .u8 (k : Nat), .int .u64 (n0 : Nat), .int .u64 (n1 : Nat), .int .u64 (n2 : Nat), .int .u64 (n : Nat), .int .u64 (n4 : Nat), .int .u64 (n5 : Nat), .int .u64 (n6 : Nat), .int .u64 (n7 : Nat), .int .u64 (n8 : Nat), .string s0, .string s1]
    have hz : (w.alloc (.cells #[.int .u8 (k : Nat), .int .u64 (n0 : Nat), .int .u64 (n1 : Nat), .int .u64 (n2 : Nat), .int .u64 (n : Nat), .int .u64 (n4 : Nat), .int .u64 (n5 : Nat), .int .u64 (n6 : Nat), .int .u64 (n7 : Nat), .int .u64 (n8 : Nat), .string s0, .string s1] 31)).heap.size = w.heap.size + 1 := by simp
    rw [hz] at hw
    have HW := Lib.hid hw
    have HB := Lib.hid hb
    clear hb hw hz
    go_enter Try.func33, Try.ntmps33
    go_wp2_with fail
    generalize World.alloc _ (.cells #[.int .u8 (k : Nat), .int .u64 (n0 : Nat), .int .u64 (n1 : Nat), .int .u64 (n2 : Nat), .int .u64 (n : Nat), .int .u64 (n4 : Nat), .int .u64 (n5 : Nat), .int .u64 (n6 : Nat), .int .u64 (n7 : Nat), .int .u64 (n8 : Nat), .string s0, .string s1] 31) = W at HW HB ⊢
    have r0 := HW.out.cell 0
    have r1 := HW.out.cell 1
    have r2 := HW.out.cell 2
    have r3 := HW.out.cell 3
    have r4 := HW.out.cell 4
    have r5 := HW.out.cell 5
    have r6 := HW.out.cell 6
    have r7 := HW.out.cell 7
    have r8 := HW.out.cell 8
    have r9 := HW.out.cell 9
    have r10 := HW.out.cell 10
    have r11 := HW.out.cell 11
    simp at r0 r1 r2 r3 r4 r5 r6 r7 r8 r9 r10 r11
    simp [bodyPost, results, Try.results33, go_sem, r0, r1, r2, r3, r4, r5, r6, r7, r8, r9, r10, r11]
    exact HB.out
  · have b101 : ((c : Int) == 101) = false := by simp; omega
    by_cases h117 : c = 117
    · subst h117
      have hE : Rc.with_ ⟨k, n0, n1, n2, n3, n4, n5, n6, n7, n8, s0, s1⟩ 117 n s = ⟨k, n0, n1, n2, n3, n, n5, n6, n7, n8, s0, s1⟩ := by simp [Rc.with_, *]
      rw [hE]
      clear hE
      have hb := (belowK w (.cells #[.int .u8 (k : Nat), .int .u64 (n0 : Nat), .int .u64 (n1 : Nat), .int .u64 (n2 : Nat), .int .u64 (n3 : Nat), .int .u64 (n : Nat), .int .u64 (n5 : Nat), .int .u64 (n6 : Nat), .int .u64 (n7 : Nat), .int .u64 (n8 : Nat), .string s0, .string s1] 31)).trans ((belowK (w.alloc (.cells #[.int .u8 (k : Nat), .int .u64 (n0 : Nat), .int .u64 (n1 : Nat), .int .u64 (n2 : Nat), .int .u64 (n3 : Nat), .int .u64 (n : Nat), .int .u64 (n5 : Nat), .int .u64 (n6 : Nat), .int .u64 (n7 : Nat), .int .u64 (n8 : Nat), .string s0, .string s1] 31)) (.cells #[.int .u8 (k : Nat), .int .u64 (n0 : Nat), .int .u64 (n1 : Nat), .int .u64 (n2 : Nat), .int .u64 (n3 : Nat), .int .u64 (n : Nat), .int .u64 (n5 : Nat), .int .u64 (n6 : Nat), .int .u64 (n7 : Nat), .int .u64 (n8 : Nat), .string s0, .string s1] 31)).mono (belowK w (.cells #[.int .u8 (k : Nat), .int .u64 (n0 : Nat), .int .u64 (n1 : Nat), .int .u64 (n2 : Nat), .int .u64 (n3 : Nat), .int .u64 (n : Nat), .int .u64 (n5 : Nat), .int .u64 (n6 : Nat), .int .u64 (n7 : Nat), .int .u64 (n8 : Nat), .string s0, .string s1] 31)).size)
      have hw := Whole.new (w.alloc (.cells #[.int .u8 (k : Nat), .int .u64 (n0 : Nat), .int .u64 (n1 : Nat), .int .u64 (n2 : Nat), .int .u64 (n3 : Nat), .int .u64 (n : Nat), .int .u64 (n5 : Nat), .int .u64 (n6 : Nat), .int .u64 (n7 : Nat), .int .u64 (n8 : Nat), .string s0, .string s1] 31)) 31 #[.int .u8 (k : Nat), .int .u64 (n0 : Nat), .int .u64 (n1 : Nat), .int .u64 (n2 : Nat), .int .u64 (n3 : Nat), .int .u64 (n : Nat), .int .u64 (n5 : Nat), .int .u64 (n6 : Nat), .int .u64 (n7 : Nat), .int .u64 (n8 : Nat), .string s0, .string s1]
      have hz : (w.alloc (.cells #[.int .u8 (k : Nat), .int .u64 (n0 : Nat), .int .u64 (n1 : Nat), .int .u64 (n2 : Nat), .int .u64 (n3 : Nat), .int .u64 (n : Nat), .int .u64 (n5 : Nat), .int .u64 (n6 : Nat), .int .u64 (n7 : Nat), .int .u64 (n8 : Nat), .string s0, .string s1] 31)).heap.size = w.heap.size + 1 := by simp
      rw [hz] at hw
      have HW := Lib.hid hw
      have HB := Lib.hid hb
      clear hb hw hz
      go_enter Try.func33, Try.ntmps33
      go_wp2_with fail
      generalize World.alloc _ (.cells #[.int .u8 (k : Nat), .int .u64 (n0 : Nat), .int .u64 (n1 : Nat), .int .u64 (n2 : Nat), .int .u64 (n3 : Nat), .int .u64 (n : Nat), .int .u64 (n5 : Nat), .int .u64 (n6 : Nat), .int .u64 (n7 : Nat), .int .u64 (n8 : Nat), .string s0, .string s1] 31) = W at HW HB ⊢
      have r0 := HW.out.cell 0
      have r1 := HW.out.cell 1
      have r2 := HW.out.cell 2
      have r3 := HW.out.cell 3
      have r4 := HW.out.cell 4
      have r5 := HW.out.cell 5
      have r6 := HW.out.cell 6
      have r7 := HW.out.cell 7
      have r8 := HW.out.cell 8
      have r9 := HW.out.cell 9
      have r10 := HW.out.cell 10
      have r11 := HW.out.cell 11
      simp at r0 r1 r2 r3 r4 r5 r6 r7 r8 r9 r10 r11
      simp [bodyPost, results, Try.results33, go_sem, r0, r1, r2, r3, r4, r5, r6, r7, r8, r9, r10, r11]
      exact HB.out
    · have b117 : ((c : Int) == 117) = false := by simp; omega
      by_cases h118 : c = 118
      · subst h118
        have hE : Rc.with_ ⟨k, n0, n1, n2, n3, n4, n5, n6, n7, n8, s0, s1⟩ 118 n s = ⟨k, n0, n1, n2, n3, n4, n, n6, n7, n8, s0, s1⟩ := by simp [Rc.with_, *]
        rw [hE]
        clear hE
        have hb := (belowK w (.cells #[.int .u8 (k : Nat), .int .u64 (n0 : Nat), .int .u64 (n1 : Nat), .int .u64 (n2 : Nat), .int .u64 (n3 : Nat), .int .u64 (n4 : Nat), .int .u64 (n : Nat), .int .u64 (n6 : Nat), .int .u64 (n7 : Nat), .int .u64 (n8 : Nat), .string s0, .string s1] 31)).trans ((belowK (w.alloc (.cells #[.int .u8 (k : Nat), .int .u64 (n0 : Nat), .int .u64 (n1 : Nat), .int .u64 (n2 : Nat), .int .u64 (n3 : Nat), .int .u64 (n4 : Nat), .int .u64 (n : Nat), .int .u64 (n6 : Nat), .int .u64 (n7 : Nat), .int .u64 (n8 : Nat), .string s0, .string s1] 31)) (.cells #[.int .u8 (k : Nat), .int .u64 (n0 : Nat), .int .u64 (n1 : Nat), .int .u64 (n2 : Nat), .int .u64 (n3 : Nat), .int .u64 (n4 : Nat), .int .u64 (n : Nat), .int .u64 (n6 : Nat), .int .u64 (n7 : Nat), .int .u64 (n8 : Nat), .string s0, .string s1] 31)).mono (belowK w (.cells #[.int .u8 (k : Nat), .int .u64 (n0 : Nat), .int .u64 (n1 : Nat), .int .u64 (n2 : Nat), .int .u64 (n3 : Nat), .int .u64 (n4 : Nat), .int .u64 (n : Nat), .int .u64 (n6 : Nat), .int .u64 (n7 : Nat), .int .u64 (n8 : Nat), .string s0, .string s1] 31)).size)
        have hw := Whole.new (w.alloc (.cells #[.int .u8 (k : Nat), .int .u64 (n0 : Nat), .int .u64 (n1 : Nat), .int .u64 (n2 : Nat), .int .u64 (n3 : Nat), .int .u64 (n4 : Nat), .int .u64 (n : Nat), .int .u64 (n6 : Nat), .int .u64 (n7 : Nat), .int .u64 (n8 : Nat), .string s0, .string s1] 31)) 31 #[.int .u8 (k : Nat), .int .u64 (n0 : Nat), .int .u64 (n1 : Nat), .int .u64 (n2 : Nat), .int .u64 (n3 : Nat), .int .u64 (n4 : Nat), .int .u64 (n : Nat), .int .u64 (n6 : Nat), .int .u64 (n7 : Nat), .int .u64 (n8 : Nat), .string s0, .string s1]
        have hz : (w.alloc (.cells #[.int .u8 (k : Nat), .int .u64 (n0 : Nat), .int .u64 (n1 : Nat), .int .u64 (n2 : Nat), .int .u64 (n3 : Nat), .int .u64 (n4 : Nat), .int .u64 (n : Nat), .int .u64 (n6 : Nat), .int .u64 (n7 : Nat), .int .u64 (n8 : Nat), .string s0, .string s1] 31)).heap.size = w.heap.size + 1 := by simp
        rw [hz] at hw
        have HW := Lib.hid hw
        have HB := Lib.hid hb
        clear hb hw hz
        go_enter Try.func33, Try.ntmps33
        go_wp2_with fail
        generalize World.alloc _ (.cells #[.int .u8 (k : Nat), .int .u64 (n0 : Nat), .int .u64 (n1 : Nat), .int .u64 (n2 : Nat), .int .u64 (n3 : Nat), .int .u64 (n4 : Nat), .int .u64 (n : Nat), .int .u64 (n6 : Nat), .int .u64 (n7 : Nat), .int .u64 (n8 : Nat), .string s0, .string s1] 31) = W at HW HB ⊢
        have r0 := HW.out.cell 0
        have r1 := HW.out.cell 1
        have r2 := HW.out.cell 2
        have r3 := HW.out.cell 3
        have r4 := HW.out.cell 4
        have r5 := HW.out.cell 5
        have r6 := HW.out.cell 6
        have r7 := HW.out.cell 7
        have r8 := HW.out.cell 8
        have r9 := HW.out.cell 9
        have r10 := HW.out.cell 10
        have r11 := HW.out.cell 11
        simp at r0 r1 r2 r3 r4 r5 r6 r7 r8 r9 r10 r11
        simp [bodyPost, results, Try.results33, go_sem, r0, r1, r2, r3, r4, r5, r6, r7, r8, r9, r10, r11]
        exact HB.out
      · have b118 : ((c : Int) == 118) = false := by simp; omega
        by_cases h115 : c = 115
        · subst h115
          have hE : Rc.with_ ⟨k, n0, n1, n2, n3, n4, n5, n6, n7, n8, s0, s1⟩ 115 n s = ⟨k, n0, n1, n2, n3, n4, n5, n6, n, n8, s0, s1⟩ := by simp [Rc.with_, *]
          rw [hE]
          clear hE
          have hb := (belowK w (.cells #[.int .u8 (k : Nat), .int .u64 (n0 : Nat), .int .u64 (n1 : Nat), .int .u64 (n2 : Nat), .int .u64 (n3 : Nat), .int .u64 (n4 : Nat), .int .u64 (n5 : Nat), .int .u64 (n6 : Nat), .int .u64 (n : Nat), .int .u64 (n8 : Nat), .string s0, .string s1] 31)).trans ((belowK (w.alloc (.cells #[.int .u8 (k : Nat), .int .u64 (n0 : Nat), .int .u64 (n1 : Nat), .int .u64 (n2 : Nat), .int .u64 (n3 : Nat), .int .u64 (n4 : Nat), .int .u64 (n5 : Nat), .int .u64 (n6 : Nat), .int .u64 (n : Nat), .int .u64 (n8 : Nat), .string s0, .string s1] 31)) (.cells #[.int .u8 (k : Nat), .int .u64 (n0 : Nat), .int .u64 (n1 : Nat), .int .u64 (n2 : Nat), .int .u64 (n3 : Nat), .int .u64 (n4 : Nat), .int .u64 (n5 : Nat), .int .u64 (n6 : Nat), .int .u64 (n : Nat), .int .u64 (n8 : Nat), .string s0, .string s1] 31)).mono (belowK w (.cells #[.int .u8 (k : Nat), .int .u64 (n0 : Nat), .int .u64 (n1 : Nat), .int .u64 (n2 : Nat), .int .u64 (n3 : Nat), .int .u64 (n4 : Nat), .int .u64 (n5 : Nat), .int .u64 (n6 : Nat), .int .u64 (n : Nat), .int .u64 (n8 : Nat), .string s0, .string s1] 31)).size)
          have hw := Whole.new (w.alloc (.cells #[.int .u8 (k : Nat), .int .u64 (n0 : Nat), .int .u64 (n1 : Nat), .int .u64 (n2 : Nat), .int .u64 (n3 : Nat), .int .u64 (n4 : Nat), .int .u64 (n5 : Nat), .int .u64 (n6 : Nat), .int .u64 (n : Nat), .int .u64 (n8 : Nat), .string s0, .string s1] 31)) 31 #[.int .u8 (k : Nat), .int .u64 (n0 : Nat), .int .u64 (n1 : Nat), .int .u64 (n2 : Nat), .int .u64 (n3 : Nat), .int .u64 (n4 : Nat), .int .u64 (n5 : Nat), .int .u64 (n6 : Nat), .int .u64 (n : Nat), .int .u64 (n8 : Nat), .string s0, .string s1]
          have hz : (w.alloc (.cells #[.int .u8 (k : Nat), .int .u64 (n0 : Nat), .int .u64 (n1 : Nat), .int .u64 (n2 : Nat), .int .u64 (n3 : Nat), .int .u64 (n4 : Nat), .int .u64 (n5 : Nat), .int .u64 (n6 : Nat), .int .u64 (n : Nat), .int .u64 (n8 : Nat), .string s0, .string s1] 31)).heap.size = w.heap.size + 1 := by simp
          rw [hz] at hw
          have HW := Lib.hid hw
          have HB := Lib.hid hb
          clear hb hw hz
          go_enter Try.func33, Try.ntmps33
          go_wp2_with fail
          generalize World.alloc _ (.cells #[.int .u8 (k : Nat), .int .u64 (n0 : Nat), .int .u64 (n1 : Nat), .int .u64 (n2 : Nat), .int .u64 (n3 : Nat), .int .u64 (n4 : Nat), .int .u64 (n5 : Nat), .int .u64 (n6 : Nat), .int .u64 (n : Nat), .int .u64 (n8 : Nat), .string s0, .string s1] 31) = W at HW HB ⊢
          have r0 := HW.out.cell 0
          have r1 := HW.out.cell 1
          have r2 := HW.out.cell 2
          have r3 := HW.out.cell 3
          have r4 := HW.out.cell 4
          have r5 := HW.out.cell 5
          have r6 := HW.out.cell 6
          have r7 := HW.out.cell 7
          have r8 := HW.out.cell 8
          have r9 := HW.out.cell 9
          have r10 := HW.out.cell 10
          have r11 := HW.out.cell 11
          simp at r0 r1 r2 r3 r4 r5 r6 r7 r8 r9 r10 r11
          simp [bodyPost, results, Try.results33, go_sem, r0, r1, r2, r3, r4, r5, r6, r7, r8, r9, r10, r11]
          exact HB.out
        · have b115 : ((c : Int) == 115) = false := by simp; omega
          by_cases h99 : c = 99
          · subst h99
            have hE : Rc.with_ ⟨k, n0, n1, n2, n3, n4, n5, n6, n7, n8, s0, s1⟩ 99 n s = ⟨k, n0, n1, n2, n3, n4, n5, n6, n7, n, s0, s1⟩ := by simp [Rc.with_, *]
            rw [hE]
            clear hE
            have hb := (belowK w (.cells #[.int .u8 (k : Nat), .int .u64 (n0 : Nat), .int .u64 (n1 : Nat), .int .u64 (n2 : Nat), .int .u64 (n3 : Nat), .int .u64 (n4 : Nat), .int .u64 (n5 : Nat), .int .u64 (n6 : Nat), .int .u64 (n7 : Nat), .int .u64 (n : Nat), .string s0, .string s1] 31)).trans ((belowK (w.alloc (.cells #[.int .u8 (k : Nat), .int .u64 (n0 : Nat), .int .u64 (n1 : Nat), .int .u64 (n2 : Nat), .int .u64 (n3 : Nat), .int .u64 (n4 : Nat), .int .u64 (n5 : Nat), .int .u64 (n6 : Nat), .int .u64 (n7 : Nat), .int .u64 (n : Nat), .string s0, .string s1] 31)) (.cells #[.int .u8 (k : Nat), .int .u64 (n0 : Nat), .int .u64 (n1 : Nat), .int .u64 (n2 : Nat), .int .u64 (n3 : Nat), .int .u64 (n4 : Nat), .int .u64 (n5 : Nat), .int .u64 (n6 : Nat), .int .u64 (n7 : Nat), .int .u64 (n : Nat), .string s0, .string s1] 31)).mono (belowK w (.cells #[.int .u8 (k : Nat), .int .u64 (n0 : Nat), .int .u64 (n1 : Nat), .int .u64 (n2 : Nat), .int .u64 (n3 : Nat), .int .u64 (n4 : Nat), .int .u64 (n5 : Nat), .int .u64 (n6 : Nat), .int .u64 (n7 : Nat), .int .u64 (n : Nat), .string s0, .string s1] 31)).size)
            have hw := Whole.new (w.alloc (.cells #[.int .u8 (k : Nat), .int .u64 (n0 : Nat), .int .u64 (n1 : Nat), .int .u64 (n2 : Nat), .int .u64 (n3 : Nat), .int .u64 (n4 : Nat), .int .u64 (n5 : Nat), .int .u64 (n6 : Nat), .int .u64 (n7 : Nat), .int .u64 (n : Nat), .string s0, .string s1] 31)) 31 #[.int .u8 (k : Nat), .int .u64 (n0 : Nat), .int .u64 (n1 : Nat), .int .u64 (n2 : Nat), .int .u64 (n3 : Nat), .int .u64 (n4 : Nat), .int .u64 (n5 : Nat), .int .u64 (n6 : Nat), .int .u64 (n7 : Nat), .int .u64 (n : Nat), .string s0, .string s1]
            have hz : (w.alloc (.cells #[.int .u8 (k : Nat), .int .u64 (n0 : Nat), .int .u64 (n1 : Nat), .int .u64 (n2 : Nat), .int .u64 (n3 : Nat), .int .u64 (n4 : Nat), .int .u64 (n5 : Nat), .int .u64 (n6 : Nat), .int .u64 (n7 : Nat), .int .u64 (n : Nat), .string s0, .string s1] 31)).heap.size = w.heap.size + 1 := by simp
            rw [hz] at hw
            have HW := Lib.hid hw
            have HB := Lib.hid hb
            clear hb hw hz
            go_enter Try.func33, Try.ntmps33
            go_wp2_with fail
            generalize World.alloc _ (.cells #[.int .u8 (k : Nat), .int .u64 (n0 : Nat), .int .u64 (n1 : Nat), .int .u64 (n2 : Nat), .int .u64 (n3 : Nat), .int .u64 (n4 : Nat), .int .u64 (n5 : Nat), .int .u64 (n6 : Nat), .int .u64 (n7 : Nat), .int .u64 (n : Nat), .string s0, .string s1] 31) = W at HW HB ⊢
            have r0 := HW.out.cell 0
            have r1 := HW.out.cell 1
            have r2 := HW.out.cell 2
            have r3 := HW.out.cell 3
            have r4 := HW.out.cell 4
            have r5 := HW.out.cell 5
            have r6 := HW.out.cell 6
            have r7 := HW.out.cell 7
            have r8 := HW.out.cell 8
            have r9 := HW.out.cell 9
            have r10 := HW.out.cell 10
            have r11 := HW.out.cell 11
            simp at r0 r1 r2 r3 r4 r5 r6 r7 r8 r9 r10 r11
            simp [bodyPost, results, Try.results33, go_sem, r0, r1, r2, r3, r4, r5, r6, r7, r8, r9, r10, r11]
            exact HB.out
          · have b99 : ((c : Int) == 99) = false := by simp; omega
            by_cases h107 : c = 107
            · subst h107
              have hE : Rc.with_ ⟨k, n0, n1, n2, n3, n4, n5, n6, n7, n8, s0, s1⟩ 107 n s = ⟨k, n0, n1, n2, n3, n4, n5, n, n7, n8, s0, s1⟩ := by simp [Rc.with_, *]
              rw [hE]
              clear hE
              have hb := (belowK w (.cells #[.int .u8 (k : Nat), .int .u64 (n0 : Nat), .int .u64 (n1 : Nat), .int .u64 (n2 : Nat), .int .u64 (n3 : Nat), .int .u64 (n4 : Nat), .int .u64 (n5 : Nat), .int .u64 (n : Nat), .int .u64 (n7 : Nat), .int .u64 (n8 : Nat), .string s0, .string s1] 31)).trans ((belowK (w.alloc (.cells #[.int .u8 (k : Nat), .int .u64 (n0 : Nat), .int .u64 (n1 : Nat), .int .u64 (n2 : Nat), .int .u64 (n3 : Nat), .int .u64 (n4 : Nat), .int .u64 (n5 : Nat), .int .u64 (n : Nat), .int .u64 (n7 : Nat), .int .u64 (n8 : Nat), .string s0, .string s1] 31)) (.cells #[.int .u8 (k : Nat), .int .u64 (n0 : Nat), .int .u64 (n1 : Nat), .int .u64 (n2 : Nat), .int .u64 (n3 : Nat), .int .u64 (n4 : Nat), .int .u64 (n5 : Nat), .int .u64 (n : Nat), .int .u64 (n7 : Nat), .int .u64 (n8 : Nat), .string s0, .string s1] 31)).mono (belowK w (.cells #[.int .u8 (k : Nat), .int .u64 (n0 : Nat), .int .u64 (n1 : Nat), .int .u64 (n2 : Nat), .int .u64 (n3 : Nat), .int .u64 (n4 : Nat), .int .u64 (n5 : Nat), .int .u64 (n : Nat), .int .u64 (n7 : Nat), .int .u64 (n8 : Nat), .string s0, .string s1] 31)).size)
              have hw := Whole.new (w.alloc (.cells #[.int .u8 (k : Nat), .int .u64 (n0 : Nat), .int .u64 (n1 : Nat), .int .u64 (n2 : Nat), .int .u64 (n3 : Nat), .int .u64 (n4 : Nat), .int .u64 (n5 : Nat), .int .u64 (n : Nat), .int .u64 (n7 : Nat), .int .u64 (n8 : Nat), .string s0, .string s1] 31)) 31 #[.int .u8 (k : Nat), .int .u64 (n0 : Nat), .int .u64 (n1 : Nat), .int .u64 (n2 : Nat), .int .u64 (n3 : Nat), .int .u64 (n4 : Nat), .int .u64 (n5 : Nat), .int .u64 (n : Nat), .int .u64 (n7 : Nat), .int .u64 (n8 : Nat), .string s0, .string s1]
              have hz : (w.alloc (.cells #[.int .u8 (k : Nat), .int .u64 (n0 : Nat), .int .u64 (n1 : Nat), .int .u64 (n2 : Nat), .int .u64 (n3 : Nat), .int .u64 (n4 : Nat), .int .u64 (n5 : Nat), .int .u64 (n : Nat), .int .u64 (n7 : Nat), .int .u64 (n8 : Nat), .string s0, .string s1] 31)).heap.size = w.heap.size + 1 := by simp
              rw [hz] at hw
              have HW := Lib.hid hw
              have HB := Lib.hid hb
              clear hb hw hz
              go_enter Try.func33, Try.ntmps33
              go_wp2_with fail
              generalize World.alloc _ (.cells #[.int .u8 (k : Nat), .int .u64 (n0 : Nat), .int .u64 (n1 : Nat), .int .u64 (n2 : Nat), .int .u64 (n3 : Nat), .int .u64 (n4 : Nat), .int .u64 (n5 : Nat), .int .u64 (n : Nat), .int .u64 (n7 : Nat), .int .u64 (n8 : Nat), .string s0, .string s1] 31) = W at HW HB ⊢
              have r0 := HW.out.cell 0
              have r1 := HW.out.cell 1
              have r2 := HW.out.cell 2
              have r3 := HW.out.cell 3
              have r4 := HW.out.cell 4
              have r5 := HW.out.cell 5
              have r6 := HW.out.cell 6
              have r7 := HW.out.cell 7
              have r8 := HW.out.cell 8
              have r9 := HW.out.cell 9
              have r10 := HW.out.cell 10
              have r11 := HW.out.cell 11
              simp at r0 r1 r2 r3 r4 r5 r6 r7 r8 r9 r10 r11
              simp [bodyPost, results, Try.results33, go_sem, r0, r1, r2, r3, r4, r5, r6, r7, r8, r9, r10, r11]
              exact HB.out
            · have b107 : ((c : Int) == 107) = false := by simp; omega
              by_cases h110 : c = 110
              · subst h110
                have hE : Rc.with_ ⟨k, n0, n1, n2, n3, n4, n5, n6, n7, n8, s0, s1⟩ 110 n s = ⟨k, n0, n1, n2, n3, n4, n5, n6, n7, n8, s, s1⟩ := by simp [Rc.with_, *]
                rw [hE]
                clear hE
                have hb := (belowK w (.cells #[.int .u8 (k : Nat), .int .u64 (n0 : Nat), .int .u64 (n1 : Nat), .int .u64 (n2 : Nat), .int .u64 (n3 : Nat), .int .u64 (n4 : Nat), .int .u64 (n5 : Nat), .int .u64 (n6 : Nat), .int .u64 (n7 : Nat), .int .u64 (n8 : Nat), .string s, .string s1] 31)).trans ((belowK (w.alloc (.cells #[.int .u8 (k : Nat), .int .u64 (n0 : Nat), .int .u64 (n1 : Nat), .int .u64 (n2 : Nat), .int .u64 (n3 : Nat), .int .u64 (n4 : Nat), .int .u64 (n5 : Nat), .int .u64 (n6 : Nat), .int .u64 (n7 : Nat), .int .u64 (n8 : Nat), .string s, .string s1] 31)) (.cells #[.int .u8 (k : Nat), .int .u64 (n0 : Nat), .int .u64 (n1 : Nat), .int .u64 (n2 : Nat), .int .u64 (n3 : Nat), .int .u64 (n4 : Nat), .int .u64 (n5 : Nat), .int .u64 (n6 : Nat), .int .u64 (n7 : Nat), .int .u64 (n8 : Nat), .string s, .string s1] 31)).mono (belowK w (.cells #[.int .u8 (k : Nat), .int .u64 (n0 : Nat), .int .u64 (n1 : Nat), .int .u64 (n2 : Nat), .int .u64 (n3 : Nat), .int .u64 (n4 : Nat), .int .u64 (n5 : Nat), .int .u64 (n6 : Nat), .int .u64 (n7 : Nat), .int .u64 (n8 : Nat), .string s, .string s1] 31)).size)
                have hw := Whole.new (w.alloc (.cells #[.int .u8 (k : Nat), .int .u64 (n0 : Nat), .int .u64 (n1 : Nat), .int .u64 (n2 : Nat), .int .u64 (n3 : Nat), .int .u64 (n4 : Nat), .int .u64 (n5 : Nat), .int .u64 (n6 : Nat), .int .u64 (n7 : Nat), .int .u64 (n8 : Nat), .string s, .string s1] 31)) 31 #[.int .u8 (k : Nat), .int .u64 (n0 : Nat), .int .u64 (n1 : Nat), .int .u64 (n2 : Nat), .int .u64 (n3 : Nat), .int .u64 (n4 : Nat), .int .u64 (n5 : Nat), .int .u64 (n6 : Nat), .int .u64 (n7 : Nat), .int .u64 (n8 : Nat), .string s, .string s1]
                have hz : (w.alloc (.cells #[.int .u8 (k : Nat), .int .u64 (n0 : Nat), .int .u64 (n1 : Nat), .int .u64 (n2 : Nat), .int .u64 (n3 : Nat), .int .u64 (n4 : Nat), .int .u64 (n5 : Nat), .int .u64 (n6 : Nat), .int .u64 (n7 : Nat), .int .u64 (n8 : Nat), .string s, .string s1] 31)).heap.size = w.heap.size + 1 := by simp
                rw [hz] at hw
                have HW := Lib.hid hw
                have HB := Lib.hid hb
                clear hb hw hz
                go_enter Try.func33, Try.ntmps33
                go_wp2_with fail
                generalize World.alloc _ (.cells #[.int .u8 (k : Nat), .int .u64 (n0 : Nat), .int .u64 (n1 : Nat), .int .u64 (n2 : Nat), .int .u64 (n3 : Nat), .int .u64 (n4 : Nat), .int .u64 (n5 : Nat), .int .u64 (n6 : Nat), .int .u64 (n7 : Nat), .int .u64 (n8 : Nat), .string s, .string s1] 31) = W at HW HB ⊢
                have r0 := HW.out.cell 0
                have r1 := HW.out.cell 1
                have r2 := HW.out.cell 2
                have r3 := HW.out.cell 3
                have r4 := HW.out.cell 4
                have r5 := HW.out.cell 5
                have r6 := HW.out.cell 6
                have r7 := HW.out.cell 7
                have r8 := HW.out.cell 8
                have r9 := HW.out.cell 9
                have r10 := HW.out.cell 10
                have r11 := HW.out.cell 11
                simp at r0 r1 r2 r3 r4 r5 r6 r7 r8 r9 r10 r11
                simp [bodyPost, results, Try.results33, go_sem, r0, r1, r2, r3, r4, r5, r6, r7, r8, r9, r10, r11]
                exact HB.out
              · have b110 : ((c : Int) == 110) = false := by simp; omega
                have hE : Rc.with_ ⟨k, n0, n1, n2, n3, n4, n5, n6, n7, n8, s0, s1⟩ c n s = ⟨k, n0, n1, n2, n3, n4, n5, n6, n7, n8, s0, s⟩ := by simp [Rc.with_, *]
                rw [hE]
                clear hE
                have hb := (belowK w (.cells #[.int .u8 (k : Nat), .int .u64 (n0 : Nat), .int .u64 (n1 : Nat), .int .u64 (n2 : Nat), .int .u64 (n3 : Nat), .int .u64 (n4 : Nat), .int .u64 (n5 : Nat), .int .u64 (n6 : Nat), .int .u64 (n7 : Nat), .int .u64 (n8 : Nat), .string s0, .string s] 31)).trans ((belowK (w.alloc (.cells #[.int .u8 (k : Nat), .int .u64 (n0 : Nat), .int .u64 (n1 : Nat), .int .u64 (n2 : Nat), .int .u64 (n3 : Nat), .int .u64 (n4 : Nat), .int .u64 (n5 : Nat), .int .u64 (n6 : Nat), .int .u64 (n7 : Nat), .int .u64 (n8 : Nat), .string s0, .string s] 31)) (.cells #[.int .u8 (k : Nat), .int .u64 (n0 : Nat), .int .u64 (n1 : Nat), .int .u64 (n2 : Nat), .int .u64 (n3 : Nat), .int .u64 (n4 : Nat), .int .u64 (n5 : Nat), .int .u64 (n6 : Nat), .int .u64 (n7 : Nat), .int .u64 (n8 : Nat), .string s0, .string s] 31)).mono (belowK w (.cells #[.int .u8 (k : Nat), .int .u64 (n0 : Nat), .int .u64 (n1 : Nat), .int .u64 (n2 : Nat), .int .u64 (n3 : Nat), .int .u64 (n4 : Nat), .int .u64 (n5 : Nat), .int .u64 (n6 : Nat), .int .u64 (n7 : Nat), .int .u64 (n8 : Nat), .string s0, .string s] 31)).size)
                have hw := Whole.new (w.alloc (.cells #[.int .u8 (k : Nat), .int .u64 (n0 : Nat), .int .u64 (n1 : Nat), .int .u64 (n2 : Nat), .int .u64 (n3 : Nat), .int .u64 (n4 : Nat), .int .u64 (n5 : Nat), .int .u64 (n6 : Nat), .int .u64 (n7 : Nat), .int .u64 (n8 : Nat), .string s0, .string s] 31)) 31 #[.int .u8 (k : Nat), .int .u64 (n0 : Nat), .int .u64 (n1 : Nat), .int .u64 (n2 : Nat), .int .u64 (n3 : Nat), .int .u64 (n4 : Nat), .int .u64 (n5 : Nat), .int .u64 (n6 : Nat), .int .u64 (n7 : Nat), .int .u64 (n8 : Nat), .string s0, .string s]
                have hz : (w.alloc (.cells #[.int .u8 (k : Nat), .int .u64 (n0 : Nat), .int .u64 (n1 : Nat), .int .u64 (n2 : Nat), .int .u64 (n3 : Nat), .int .u64 (n4 : Nat), .int .u64 (n5 : Nat), .int .u64 (n6 : Nat), .int .u64 (n7 : Nat), .int .u64 (n8 : Nat), .string s0, .string s] 31)).heap.size = w.heap.size + 1 := by simp
                rw [hz] at hw
                have HW := Lib.hid hw
                have HB := Lib.hid hb
                clear hb hw hz
                go_enter Try.func33, Try.ntmps33
                go_wp2_with fail
                generalize World.alloc _ (.cells #[.int .u8 (k : Nat), .int .u64 (n0 : Nat), .int .u64 (n1 : Nat), .int .u64 (n2 : Nat), .int .u64 (n3 : Nat), .int .u64 (n4 : Nat), .int .u64 (n5 : Nat), .int .u64 (n6 : Nat), .int .u64 (n7 : Nat), .int .u64 (n8 : Nat), .string s0, .string s] 31) = W at HW HB ⊢
                have r0 := HW.out.cell 0
                have r1 := HW.out.cell 1
                have r2 := HW.out.cell 2
                have r3 := HW.out.cell 3
                have r4 := HW.out.cell 4
                have r5 := HW.out.cell 5
                have r6 := HW.out.cell 6
                have r7 := HW.out.cell 7
                have r8 := HW.out.cell 8
                have r9 := HW.out.cell 9
                have r10 := HW.out.cell 10
                have r11 := HW.out.cell 11
                simp at r0 r1 r2 r3 r4 r5 r6 r7 r8 r9 r10 r11
                simp [bodyPost, results, Try.results33, go_sem, r0, r1, r2, r3, r4, r5, r6, r7, r8, r9, r10, r11]
                exact HB.out
end Go.Proofs.Ytmobgamlednlhaa
