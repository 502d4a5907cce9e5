/-
  The walk of LeaseClocks: it returns true.
-/
import Derived.Test.YthknhgakompggaaLeaWorks
namespace Go.Proofs.Ythknhgakompggaa
open Go.RowKit

set_option maxRecDepth 100000 in
set_option maxHeartbeats 4000000 in
theorem leaClocks_any (w : World) (l : Ls) (hl : l.ok) (a b s : Nat) (ha : a < 18446744073709551616) (hb0 : b < 18446744073709551616) (hs : s < 18446744073709551616) :
    Calls Try.prog 4 #[l.v, .int .u64 (a : Nat), .int .u64 (b : Nat), .int .u64 (s : Nat)] w fun en w' => en = .returned (.bool true) ∧ Below w.heap.size w w' := by
  obtain ⟨ep, pr, inc, un, hd⟩ := l
  have HL := Lib.hid hl
  have HS := Lib.hid hs
  clear hs
  clear hl
  simp only [Ls.v] at *
  rcases Nat.lt_trichotomy a b with hab | rfl | hab
  · have e0 : IntKind.u64.wrap ((b : Int) - (a : Int)) = (b : Int) - (a : Int) := by rw [IntKind.wrap_u64]; omega
    by_cases ht : s < b - a
    · have e1 : decide ((s : Int) < (b : Int) - (a : Int)) = true := by simp; omega
      have hb : Below w.heap.size w (w.alloc (.cells #[Value.int .u64 (ep : Nat), .int .u64 (pr : Nat), .int .u64 (inc : Nat), .int .u64 (un : Nat), .bool hd] 24)) := below1 w _
      go_enter Try.func4, Try.ntmps4
      go_wp2_with fail
      refine (lea_works_any _).mono ?_
      rintro en w2 ⟨rfl, hb2⟩
      replace hb := hb.trans (hb2.mono hb.size)
      go_wp2_with fail
      go_ret
      exact ⟨rfl, hb⟩
    · have e1 : decide ((s : Int) < (b : Int) - (a : Int)) = false := by simp; omega
      cases hd
      · have hb : Below w.heap.size w (w.alloc (.cells #[Value.int .u64 (ep : Nat), .int .u64 (pr : Nat), .int .u64 (inc : Nat), .int .u64 (un : Nat), .bool false] 24)) := below1 w _
        go_enter Try.func4, Try.ntmps4
        go_wp2_with fail
        refine (lea_works_any _).mono ?_
        rintro en w2 ⟨rfl, hb2⟩
        replace hb := hb.trans (hb2.mono hb.size)
        go_wp2_with fail
        go_ret
        exact ⟨rfl, hb⟩
      · have hover : Ls.over ⟨ep, pr, inc, un, true⟩ a s = true → Ls.tryE ⟨ep, pr, inc, un, true⟩ a s ≠ 130 ∧ un < a ∧ un < b := by
          intro h
          refine ⟨?_, ?_⟩
          · unfold Ls.tryE Ls.nextE
            rw [if_pos h]
            split <;> decide
          · simp [Ls.over] at h
            omega
        have hnot : Ls.over ⟨ep, pr, inc, un, true⟩ a s = false → Ls.tryE ⟨ep, pr, inc, un, true⟩ a s = 130 := by
          intro h
          unfold Ls.tryE
          rw [h]
          rfl
        obtain ⟨te, hte⟩ : ∃ n, n = Ls.tryE ⟨ep, pr, inc, un, true⟩ a s := ⟨_, rfl⟩
        obtain ⟨ob, hob⟩ : ∃ n, n = Ls.over ⟨ep, pr, inc, un, true⟩ a s := ⟨_, rfl⟩
        rw [← hte, ← hob] at hover hnot
        have HTE := Lib.hid hte
        have HOB := Lib.hid hob
        clear hte hob
        cases ob
        · obtain rfl := hnot rfl
          clear hover hnot
          go_enter Try.func4, Try.ntmps4
          go_wp2_with fail
          refine (lea_try_any _ ⟨ep, pr, inc, un, true⟩ HL.out a s HS.out).mono ?_
          rintro en w1 ⟨rfl, hbn⟩
          rw [← HTE.out]
          have hb := (below1 w (.cells #[Value.int .u64 (ep : Nat), .int .u64 (pr : Nat), .int .u64 (inc : Nat), .int .u64 (un : Nat), .bool true] 24)).trans (hbn.mono (by simp <;> omega))
          have k1 : Whole w1 w.heap.size 24 #[Value.int .u64 (ep : Nat), .int .u64 (pr : Nat), .int .u64 (inc : Nat), .int .u64 (un : Nat), .bool true] := Whole.below (Whole.new w _ _) hbn (by simp)
          clear hbn
          have q0 := k1.cell 0
          have q1 := k1.cell 1
          have q2 := k1.cell 2
          have q3 := k1.cell 3
          have q4 := k1.cell 4
          simp at q0 q1 q2 q3 q4
          go_wp2_with fail
          refine (lea_over_any _ ⟨ep, pr, inc, un, true⟩ HL.out a s HS.out).mono ?_
          rintro en w2 ⟨rfl, hbn⟩
          rw [← HOB.out]
          replace hb := hb.trans (hbn.mono hb.size)
          go_wp2_with fail
          refine (lea_works_any _).mono ?_
          rintro en w3 ⟨rfl, hb2⟩
          replace hb := hb.trans (hb2.mono hb.size)
          go_wp2_with fail
          go_ret
          exact ⟨rfl, hb⟩
        · obtain ⟨h130, hua, hub⟩ := hover rfl
          clear hover hnot
          have e2 : (((te : Nat) : Int) == 130) = false := by simp; omega
          have e3 : decide ((un : Int) < (b : Int)) = true := by simp; omega
          have e4 : decide ((un : Int) < (a : Int)) = true := by simp; omega
          go_enter Try.func4, Try.ntmps4
          go_wp2_with fail
          refine (lea_try_any _ ⟨ep, pr, inc, un, true⟩ HL.out a s HS.out).mono ?_
          rintro en w1 ⟨rfl, hbn⟩
          rw [← HTE.out]
          have hb := (below1 w (.cells #[Value.int .u64 (ep : Nat), .int .u64 (pr : Nat), .int .u64 (inc : Nat), .int .u64 (un : Nat), .bool true] 24)).trans (hbn.mono (by simp <;> omega))
          have k1 : Whole w1 w.heap.size 24 #[Value.int .u64 (ep : Nat), .int .u64 (pr : Nat), .int .u64 (inc : Nat), .int .u64 (un : Nat), .bool true] := Whole.below (Whole.new w _ _) hbn (by simp)
          clear hbn
          have q0 := k1.cell 0
          have q1 := k1.cell 1
          have q2 := k1.cell 2
          have q3 := k1.cell 3
          have q4 := k1.cell 4
          simp at q0 q1 q2 q3 q4
          go_wp2_with fail
          refine (lea_over_any _ ⟨ep, pr, inc, un, true⟩ HL.out a s HS.out).mono ?_
          rintro en w2 ⟨rfl, hbn⟩
          rw [← HOB.out]
          replace hb := hb.trans (hbn.mono hb.size)
          replace k1 := k1.below hbn k1.lt
          clear hbn q0 q1 q2 q3 q4
          have q0 := k1.cell 0
          have q1 := k1.cell 1
          have q2 := k1.cell 2
          have q3 := k1.cell 3
          have q4 := k1.cell 4
          simp at q0 q1 q2 q3 q4
          go_wp2_with fail
          refine (lea_works_any _).mono ?_
          rintro en w3 ⟨rfl, hb2⟩
          replace hb := hb.trans (hb2.mono hb.size)
          go_wp2_with fail
          go_ret
          exact ⟨rfl, hb⟩
  · have e1 : decide ((s : Int) < 0) = false := by simp
    have ht : ¬ s < 0 := by omega
    cases hd
    · have hb : Below w.heap.size w (w.alloc (.cells #[Value.int .u64 (ep : Nat), .int .u64 (pr : Nat), .int .u64 (inc : Nat), .int .u64 (un : Nat), .bool false] 24)) := below1 w _
      go_enter Try.func4, Try.ntmps4
      go_wp2_with fail
      refine (lea_works_any _).mono ?_
      rintro en w2 ⟨rfl, hb2⟩
      replace hb := hb.trans (hb2.mono hb.size)
      go_wp2_with fail
      go_ret
      exact ⟨rfl, hb⟩
    · have hover : Ls.over ⟨ep, pr, inc, un, true⟩ a s = true → Ls.tryE ⟨ep, pr, inc, un, true⟩ a s ≠ 130 ∧ un < a ∧ un < a := by
        intro h
        refine ⟨?_, ?_⟩
        · unfold Ls.tryE Ls.nextE
          rw [if_pos h]
          split <;> decide
        · simp [Ls.over] at h
          omega
      have hnot : Ls.over ⟨ep, pr, inc, un, true⟩ a s = false → Ls.tryE ⟨ep, pr, inc, un, true⟩ a s = 130 := by
        intro h
        unfold Ls.tryE
        rw [h]
        rfl
      obtain ⟨te, hte⟩ : ∃ n, n = Ls.tryE ⟨ep, pr, inc, un, true⟩ a s := ⟨_, rfl⟩
      obtain ⟨ob, hob⟩ : ∃ n, n = Ls.over ⟨ep, pr, inc, un, true⟩ a s := ⟨_, rfl⟩
      rw [← hte, ← hob] at hover hnot
      have HTE := Lib.hid hte
      have HOB := Lib.hid hob
      clear hte hob
      cases ob
      · obtain rfl := hnot rfl
        clear hover hnot
        go_enter Try.func4, Try.ntmps4
        go_wp2_with fail
        refine (lea_try_any _ ⟨ep, pr, inc, un, true⟩ HL.out a s HS.out).mono ?_
        rintro en w1 ⟨rfl, hbn⟩
        rw [← HTE.out]
        have hb := (below1 w (.cells #[Value.int .u64 (ep : Nat), .int .u64 (pr : Nat), .int .u64 (inc : Nat), .int .u64 (un : Nat), .bool true] 24)).trans (hbn.mono (by simp <;> omega))
        have k1 : Whole w1 w.heap.size 24 #[Value.int .u64 (ep : Nat), .int .u64 (pr : Nat), .int .u64 (inc : Nat), .int .u64 (un : Nat), .bool true] := Whole.below (Whole.new w _ _) hbn (by simp)
        clear hbn
        have q0 := k1.cell 0
        have q1 := k1.cell 1
        have q2 := k1.cell 2
        have q3 := k1.cell 3
        have q4 := k1.cell 4
        simp at q0 q1 q2 q3 q4
        go_wp2_with fail
        refine (lea_over_any _ ⟨ep, pr, inc, un, true⟩ HL.out a s HS.out).mono ?_
        rintro en w2 ⟨rfl, hbn⟩
        rw [← HOB.out]
        replace hb := hb.trans (hbn.mono hb.size)
        go_wp2_with fail
        refine (lea_works_any _).mono ?_
        rintro en w3 ⟨rfl, hb2⟩
        replace hb := hb.trans (hb2.mono hb.size)
        go_wp2_with fail
        go_ret
        exact ⟨rfl, hb⟩
      · obtain ⟨h130, hua, hub⟩ := hover rfl
        clear hover hnot
        have e2 : (((te : Nat) : Int) == 130) = false := by simp; omega
        have e3 : decide ((un : Int) < (a : Int)) = true := by simp; omega
        have e4 : decide ((un : Int) < (a : Int)) = true := by simp; omega
        go_enter Try.func4, Try.ntmps4
        go_wp2_with fail
        refine (lea_try_any _ ⟨ep, pr, inc, un, true⟩ HL.out a s HS.out).mono ?_
        rintro en w1 ⟨rfl, hbn⟩
        rw [← HTE.out]
        have hb := (below1 w (.cells #[Value.int .u64 (ep : Nat), .int .u64 (pr : Nat), .int .u64 (inc : Nat), .int .u64 (un : Nat), .bool true] 24)).trans (hbn.mono (by simp <;> omega))
        have k1 : Whole w1 w.heap.size 24 #[Value.int .u64 (ep : Nat), .int .u64 (pr : Nat), .int .u64 (inc : Nat), .int .u64 (un : Nat), .bool true] := Whole.below (Whole.new w _ _) hbn (by simp)
        clear hbn
        have q0 := k1.cell 0
        have q1 := k1.cell 1
        have q2 := k1.cell 2
        have q3 := k1.cell 3
        have q4 := k1.cell 4
        simp at q0 q1 q2 q3 q4
        go_wp2_with fail
        refine (lea_over_any _ ⟨ep, pr, inc, un, true⟩ HL.out a s HS.out).mono ?_
        rintro en w2 ⟨rfl, hbn⟩
        rw [← HOB.out]
        replace hb := hb.trans (hbn.mono hb.size)
        replace k1 := k1.below hbn k1.lt
        clear hbn q0 q1 q2 q3 q4
        have q0 := k1.cell 0
        have q1 := k1.cell 1
        have q2 := k1.cell 2
        have q3 := k1.cell 3
        have q4 := k1.cell 4
        simp at q0 q1 q2 q3 q4
        go_wp2_with fail
        refine (lea_works_any _).mono ?_
        rintro en w3 ⟨rfl, hb2⟩
        replace hb := hb.trans (hb2.mono hb.size)
        go_wp2_with fail
        go_ret
        exact ⟨rfl, hb⟩
  · have e0 : IntKind.u64.wrap ((a : Int) - (b : Int)) = (a : Int) - (b : Int) := by rw [IntKind.wrap_u64]; omega
    by_cases ht : s < a - b
    · have e1 : decide ((s : Int) < (a : Int) - (b : Int)) = true := by simp; omega
      have hb : Below w.heap.size w (w.alloc (.cells #[Value.int .u64 (ep : Nat), .int .u64 (pr : Nat), .int .u64 (inc : Nat), .int .u64 (un : Nat), .bool hd] 24)) := below1 w _
      go_enter Try.func4, Try.ntmps4
      go_wp2_with fail
      refine (lea_works_any _).mono ?_
      rintro en w2 ⟨rfl, hb2⟩
      replace hb := hb.trans (hb2.mono hb.size)
      go_wp2_with fail
      go_ret
      exact ⟨rfl, hb⟩
    · have e1 : decide ((s : Int) < (a : Int) - (b : Int)) = false := by simp; omega
      cases hd
      · have hb : Below w.heap.size w (w.alloc (.cells #[Value.int .u64 (ep : Nat), .int .u64 (pr : Nat), .int .u64 (inc : Nat), .int .u64 (un : Nat), .bool false] 24)) := below1 w _
        go_enter Try.func4, Try.ntmps4
        go_wp2_with fail
        refine (lea_works_any _).mono ?_
        rintro en w2 ⟨rfl, hb2⟩
        replace hb := hb.trans (hb2.mono hb.size)
        go_wp2_with fail
        go_ret
        exact ⟨rfl, hb⟩
      · have hover : Ls.over ⟨ep, pr, inc, un, true⟩ a s = true → Ls.tryE ⟨ep, pr, inc, un, true⟩ a s ≠ 130 ∧ un < a ∧ un < b := by
          intro h
          refine ⟨?_, ?_⟩
          · unfold Ls.tryE Ls.nextE
            rw [if_pos h]
            split <;> decide
          · simp [Ls.over] at h
            omega
        have hnot : Ls.over ⟨ep, pr, inc, un, true⟩ a s = false → Ls.tryE ⟨ep, pr, inc, un, true⟩ a s = 130 := by
          intro h
          unfold Ls.tryE
          rw [h]
          rfl
        obtain ⟨te, hte⟩ : ∃ n, n = Ls.tryE ⟨ep, pr, inc, un, true⟩ a s := ⟨_, rfl⟩
        obtain ⟨ob, hob⟩ : ∃ n, n = Ls.over ⟨ep, pr, inc, un, true⟩ a s := ⟨_, rfl⟩
        rw [← hte, ← hob] at hover hnot
        have HTE := Lib.hid hte
        have HOB := Lib.hid hob
        clear hte hob
        cases ob
        · obtain rfl := hnot rfl
          clear hover hnot
          go_enter Try.func4, Try.ntmps4
          go_wp2_with fail
          refine (lea_try_any _ ⟨ep, pr, inc, un, true⟩ HL.out a s HS.out).mono ?_
          rintro en w1 ⟨rfl, hbn⟩
          rw [← HTE.out]
          have hb := (below1 w (.cells #[Value.int .u64 (ep : Nat), .int .u64 (pr : Nat), .int .u64 (inc : Nat), .int .u64 (un : Nat), .bool true] 24)).trans (hbn.mono (by simp <;> omega))
          have k1 : Whole w1 w.heap.size 24 #[Value.int .u64 (ep : Nat), .int .u64 (pr : Nat), .int .u64 (inc : Nat), .int .u64 (un : Nat), .bool true] := Whole.below (Whole.new w _ _) hbn (by simp)
          clear hbn
          have q0 := k1.cell 0
          have q1 := k1.cell 1
          have q2 := k1.cell 2
          have q3 := k1.cell 3
          have q4 := k1.cell 4
          simp at q0 q1 q2 q3 q4
          go_wp2_with fail
          refine (lea_over_any _ ⟨ep, pr, inc, un, true⟩ HL.out a s HS.out).mono ?_
          rintro en w2 ⟨rfl, hbn⟩
          rw [← HOB.out]
          replace hb := hb.trans (hbn.mono hb.size)
          go_wp2_with fail
          refine (lea_works_any _).mono ?_
          rintro en w3 ⟨rfl, hb2⟩
          replace hb := hb.trans (hb2.mono hb.size)
          go_wp2_with fail
          go_ret
          exact ⟨rfl, hb⟩
        · obtain ⟨h130, hua, hub⟩ := hover rfl
          clear hover hnot
          have e2 : (((te : Nat) : Int) == 130) = false := by simp; omega
          have e3 : decide ((un : Int) < (b : Int)) = true := by simp; omega
          have e4 : decide ((un : Int) < (a : Int)) = true := by simp; omega
          go_enter Try.func4, Try.ntmps4
          go_wp2_with fail
          refine (lea_try_any _ ⟨ep, pr, inc, un, true⟩ HL.out a s HS.out).mono ?_
          rintro en w1 ⟨rfl, hbn⟩
          rw [← HTE.out]
          have hb := (below1 w (.cells #[Value.int .u64 (ep : Nat), .int .u64 (pr : Nat), .int .u64 (inc : Nat), .int .u64 (un : Nat), .bool true] 24)).trans (hbn.mono (by simp <;> omega))
          have k1 : Whole w1 w.heap.size 24 #[Value.int .u64 (ep : Nat), .int .u64 (pr : Nat), .int .u64 (inc : Nat), .int .u64 (un : Nat), .bool true] := Whole.below (Whole.new w _ _) hbn (by simp)
          clear hbn
          have q0 := k1.cell 0
          have q1 := k1.cell 1
          have q2 := k1.cell 2
          have q3 := k1.cell 3
          have q4 := k1.cell 4
          simp at q0 q1 q2 q3 q4
          go_wp2_with fail
          refine (lea_over_any _ ⟨ep, pr, inc, un, true⟩ HL.out a s HS.out).mono ?_
          rintro en w2 ⟨rfl, hbn⟩
          rw [← HOB.out]
          replace hb := hb.trans (hbn.mono hb.size)
          replace k1 := k1.below hbn k1.lt
          clear hbn q0 q1 q2 q3 q4
          have q0 := k1.cell 0
          have q1 := k1.cell 1
          have q2 := k1.cell 2
          have q3 := k1.cell 3
          have q4 := k1.cell 4
          simp at q0 q1 q2 q3 q4
          go_wp2_with fail
          refine (lea_works_any _).mono ?_
          rintro en w3 ⟨rfl, hb2⟩
          replace hb := hb.trans (hb2.mono hb.size)
          go_wp2_with fail
          go_ret
          exact ⟨rfl, hb⟩

end Go.Proofs.Ythknhgakompggaa
