/-
  Leases: the chapter's examples hold.
-/
import Derived.Test.YthknhgakompggaaLeaRefs
namespace Go.Proofs.Ythknhgakompggaa
open Go.RowKit
theorem run_untilField (w : World) (a0 a1 a2 a3 a4 : Value) : (Instr.field 24 (.agg #[a0, a1, a2, a3, a4]) 3).run Try.prog w = .ok a3 w := by
  simp [Instr.field, go_sem, asAgg]
attribute [local go_sem] Oper.growAt Oper.growUpon GSpec.fix GSpec.row GSpec.wh GSpec.own

set_option maxHeartbeats 1000000 in
set_option maxRecDepth 100000 in
theorem lea_works_any (w : World) : Calls Try.prog 24 #[] w fun en w' => en = .returned (.bool true) ∧ Below w.heap.size w w' := by
  go_enter Try.func24, Try.ntmps24
  go_wp2_with fail
  generalize hv : World.alloc w _ = v1
  have k1 : Whole v1 w.heap.size 24 #[Value.int .u64 3, .int .u64 1, .int .u64 2, .int .u64 10, .bool true] := by rw [← hv]; exact Whole.new w _ _
  have hb : Below w.heap.size w v1 := by rw [← hv]; exact below1 w _
  clear hv
  have q0 := k1.cell 0
  have q1 := k1.cell 1
  have q2 := k1.cell 2
  have q3 := k1.cell 3
  have q4 := k1.cell 4
  simp at q0 q1 q2 q3 q4
  refine (lea_try_any _ ⟨3, 1, 2, 10, true⟩ (by unfold Ls.ok; decide) 15 5 (by decide)).mono ?_
  rintro en w1 ⟨rfl, hbn⟩
  rw [show Ls.tryN ⟨3, 1, 2, 10, true⟩ 15 5 = 0 from by first | rfl | decide]
  rw [show Ls.tryE ⟨3, 1, 2, 10, true⟩ 15 5 = 130 from by first | rfl | decide]
  replace hb := hb.trans (hbn.mono hb.size)
  replace k1 := k1.below hbn k1.lt
  clear q0 q1 q2 q3 q4
  have q0 := k1.cell 0
  have q1 := k1.cell 1
  have q2 := k1.cell 2
  have q3 := k1.cell 3
  have q4 := k1.cell 4
  simp at q0 q1 q2 q3 q4
  clear hbn
  go_wp2_with fail
  refine (lea_try_any _ ⟨3, 1, 2, 10, true⟩ (by unfold Ls.ok; decide) 16 5 (by decide)).mono ?_
  rintro en w2 ⟨rfl, hbn⟩
  rw [show Ls.tryN ⟨3, 1, 2, 10, true⟩ 16 5 = 4 from by first | rfl | decide]
  rw [show Ls.tryE ⟨3, 1, 2, 10, true⟩ 16 5 = 0 from by first | rfl | decide]
  replace hb := hb.trans (hbn.mono hb.size)
  replace k1 := k1.below hbn k1.lt
  clear q0 q1 q2 q3 q4
  have q0 := k1.cell 0
  have q1 := k1.cell 1
  have q2 := k1.cell 2
  have q3 := k1.cell 3
  have q4 := k1.cell 4
  simp at q0 q1 q2 q3 q4
  clear hbn
  go_wp2_with fail
  refine (lea_release_any _ ⟨3, 1, 2, 10, true⟩).mono ?_
  rintro en w3 ⟨rfl, hbn⟩
  rw [show (Ls.release ⟨3, 1, 2, 10, true⟩).v = Value.agg #[Value.int .u64 3, .int .u64 1, .int .u64 2, .int .u64 10, .bool false] from by first | rfl | decide]
  replace hb := hb.trans (hbn.mono hb.size)
  replace k1 := k1.below hbn k1.lt
  clear q0 q1 q2 q3 q4
  have q0 := k1.cell 0
  have q1 := k1.cell 1
  have q2 := k1.cell 2
  have q3 := k1.cell 3
  have q4 := k1.cell 4
  simp at q0 q1 q2 q3 q4
  clear hbn
  go_wp2_with fail
  have hz3 := hb.size
  obtain ⟨g2, hg2⟩ : ∃ g, g = w3.heap.size := ⟨_, rfl⟩
  generalize hv : World.alloc w3 _ = v2
  have k2 : Whole v2 g2 24 #[Value.int .u64 3, .int .u64 1, .int .u64 2, .int .u64 10, .bool false] := by rw [← hv, hg2]; exact Whole.new w3 _ _
  replace hb : Below w.heap.size w v2 := by rw [← hv]; exact hb.alloc hb.size _
  replace k1 : Whole v2 w.heap.size 24 #[Value.int .u64 3, .int .u64 1, .int .u64 2, .int .u64 10, .bool true] := by rw [← hv]; exact k1.alloc _
  clear hv
  rw [← hg2]
  clear hg2 hz3
  clear q0 q1 q2 q3 q4
  have q0 := k1.cell 0
  have q1 := k1.cell 1
  have q2 := k1.cell 2
  have q3 := k1.cell 3
  have q4 := k1.cell 4
  simp at q0 q1 q2 q3 q4
  have r0 := k2.cell 0
  have r1 := k2.cell 1
  have r2 := k2.cell 2
  have r3 := k2.cell 3
  have r4 := k2.cell 4
  simp at r0 r1 r2 r3 r4
  refine (lea_try_any _ ⟨3, 1, 2, 10, false⟩ (by unfold Ls.ok; decide) 0 5 (by decide)).mono ?_
  rintro en w4 ⟨rfl, hbn⟩
  rw [show Ls.tryN ⟨3, 1, 2, 10, false⟩ 0 5 = 4 from by first | rfl | decide]
  rw [show Ls.tryE ⟨3, 1, 2, 10, false⟩ 0 5 = 0 from by first | rfl | decide]
  replace hb := hb.trans (hbn.mono hb.size)
  replace k1 := k1.below hbn k1.lt
  clear q0 q1 q2 q3 q4
  have q0 := k1.cell 0
  have q1 := k1.cell 1
  have q2 := k1.cell 2
  have q3 := k1.cell 3
  have q4 := k1.cell 4
  simp at q0 q1 q2 q3 q4
  replace k2 := k2.below hbn k2.lt
  clear r0 r1 r2 r3 r4
  have r0 := k2.cell 0
  have r1 := k2.cell 1
  have r2 := k2.cell 2
  have r3 := k2.cell 3
  have r4 := k2.cell 4
  simp at r0 r1 r2 r3 r4
  clear hbn
  go_wp2_with fail
  refine (lea_renew_any _ ⟨3, 1, 2, 10, true⟩ 18446744073709551615).mono ?_
  rintro en w5 ⟨rfl, hbn⟩
  rw [show (Ls.renew ⟨3, 1, 2, 10, true⟩ 18446744073709551615).v = Value.agg #[Value.int .u64 3, .int .u64 1, .int .u64 2, .int .u64 18446744073709551615, .bool true] from by first | rfl | decide]
  replace hb := hb.trans (hbn.mono hb.size)
  replace k1 := k1.below hbn k1.lt
  clear q0 q1 q2 q3 q4
  have q0 := k1.cell 0
  have q1 := k1.cell 1
  have q2 := k1.cell 2
  have q3 := k1.cell 3
  have q4 := k1.cell 4
  simp at q0 q1 q2 q3 q4
  replace k2 := k2.below hbn k2.lt
  clear r0 r1 r2 r3 r4
  have r0 := k2.cell 0
  have r1 := k2.cell 1
  have r2 := k2.cell 2
  have r3 := k2.cell 3
  have r4 := k2.cell 4
  simp at r0 r1 r2 r3 r4
  clear hbn
  have ka := k1.alloc (.cells #[Value.int .u64 3, .int .u64 1, .int .u64 2, .int .u64 18446744073709551615, .bool true] 24)
  have a0 := ka.cell 0
  have a1 := ka.cell 1
  have a2 := ka.cell 2
  have a3 := ka.cell 3
  have a4 := ka.cell 4
  simp at a0 a1 a2 a3 a4
  clear ka
  go_wp2_with fail
  have hz3 := hb.size
  obtain ⟨g3, hg3⟩ : ∃ g, g = w5.heap.size := ⟨_, rfl⟩
  generalize hv : World.alloc w5 _ = v3
  have k3 : Whole v3 g3 24 #[Value.int .u64 3, .int .u64 1, .int .u64 2, .int .u64 18446744073709551615, .bool true] := by rw [← hv, hg3]; exact Whole.new w5 _ _
  replace hb : Below w.heap.size w v3 := by rw [← hv]; exact hb.alloc hb.size _
  replace k1 : Whole v3 w.heap.size 24 #[Value.int .u64 3, .int .u64 1, .int .u64 2, .int .u64 10, .bool true] := by rw [← hv]; exact k1.alloc _
  clear hv
  rw [← hg3]
  clear hg3 hz3
  clear q0 q1 q2 q3 q4 r0 r1 r2 r3 r4 k2 a0 a1 a2 a3 a4
  have q0 := k1.cell 0
  have q1 := k1.cell 1
  have q2 := k1.cell 2
  have q3 := k1.cell 3
  have q4 := k1.cell 4
  simp at q0 q1 q2 q3 q4
  have s0 := k3.cell 0
  have s1 := k3.cell 1
  have s2 := k3.cell 2
  have s3 := k3.cell 3
  have s4 := k3.cell 4
  simp at s0 s1 s2 s3 s4
  refine (lea_owns_any _ ⟨3, 1, 2, 10, true⟩ 1 2 3).mono ?_
  rintro en w6 ⟨rfl, hbn⟩
  rw [show Ls.owns ⟨3, 1, 2, 10, true⟩ 1 2 3 = true from by first | rfl | decide]
  replace hb := hb.trans (hbn.mono hb.size)
  replace k1 := k1.below hbn k1.lt
  clear q0 q1 q2 q3 q4
  have q0 := k1.cell 0
  have q1 := k1.cell 1
  have q2 := k1.cell 2
  have q3 := k1.cell 3
  have q4 := k1.cell 4
  simp at q0 q1 q2 q3 q4
  replace k3 := k3.below hbn k3.lt
  clear s0 s1 s2 s3 s4
  have s0 := k3.cell 0
  have s1 := k3.cell 1
  have s2 := k3.cell 2
  have s3 := k3.cell 3
  have s4 := k3.cell 4
  simp at s0 s1 s2 s3 s4
  clear hbn
  go_wp2_with fail
  refine (lea_fence_any _ ⟨3, 1, 2, 10, true⟩ 1 3 3).mono ?_
  rintro en w7 ⟨rfl, hbn⟩
  rw [show Ls.fence ⟨3, 1, 2, 10, true⟩ 1 3 3 = 200 from by first | rfl | decide]
  replace hb := hb.trans (hbn.mono hb.size)
  replace k1 := k1.below hbn k1.lt
  clear q0 q1 q2 q3 q4
  have q0 := k1.cell 0
  have q1 := k1.cell 1
  have q2 := k1.cell 2
  have q3 := k1.cell 3
  have q4 := k1.cell 4
  simp at q0 q1 q2 q3 q4
  replace k3 := k3.below hbn k3.lt
  clear s0 s1 s2 s3 s4
  have s0 := k3.cell 0
  have s1 := k3.cell 1
  have s2 := k3.cell 2
  have s3 := k3.cell 3
  have s4 := k3.cell 4
  simp at s0 s1 s2 s3 s4
  clear hbn
  go_wp2_with fail
  refine (lea_renew_any _ ⟨3, 1, 2, 10, true⟩ 7).mono ?_
  rintro en w8 ⟨rfl, hbn⟩
  rw [show (Ls.renew ⟨3, 1, 2, 10, true⟩ 7).v = Value.agg #[Value.int .u64 3, .int .u64 1, .int .u64 2, .int .u64 10, .bool true] from by first | rfl | decide]
  replace hb := hb.trans (hbn.mono hb.size)
  replace k1 := k1.below hbn k1.lt
  clear q0 q1 q2 q3 q4
  have q0 := k1.cell 0
  have q1 := k1.cell 1
  have q2 := k1.cell 2
  have q3 := k1.cell 3
  have q4 := k1.cell 4
  simp at q0 q1 q2 q3 q4
  replace k3 := k3.below hbn k3.lt
  clear s0 s1 s2 s3 s4
  have s0 := k3.cell 0
  have s1 := k3.cell 1
  have s2 := k3.cell 2
  have s3 := k3.cell 3
  have s4 := k3.cell 4
  simp at s0 s1 s2 s3 s4
  clear hbn
  go_wp2_with (simp only [run_untilField])
  refine (lea_until_any _ 18446744073709551614 5 (by decide) (by decide)).mono ?_
  rintro en w9 ⟨rfl, hbn⟩
  rw [show till 18446744073709551614 5 = 18446744073709551615 from by first | rfl | decide]
  replace hb := hb.trans (hbn.mono hb.size)
  replace k1 := k1.below hbn k1.lt
  clear q0 q1 q2 q3 q4
  have q0 := k1.cell 0
  have q1 := k1.cell 1
  have q2 := k1.cell 2
  have q3 := k1.cell 3
  have q4 := k1.cell 4
  simp at q0 q1 q2 q3 q4
  replace k3 := k3.below hbn k3.lt
  clear s0 s1 s2 s3 s4
  have s0 := k3.cell 0
  have s1 := k3.cell 1
  have s2 := k3.cell 2
  have s3 := k3.cell 3
  have s4 := k3.cell 4
  simp at s0 s1 s2 s3 s4
  clear hbn
  go_wp2_with fail
  refine (lea_over_any _ ⟨3, 1, 2, 18446744073709551615, true⟩ (by unfold Ls.ok; decide) 18446744073709551615 0 (by decide)).mono ?_
  rintro en w10 ⟨rfl, hbn⟩
  rw [show Ls.over ⟨3, 1, 2, 18446744073709551615, true⟩ 18446744073709551615 0 = false from by first | rfl | decide]
  replace hb := hb.trans (hbn.mono hb.size)
  replace k1 := k1.below hbn k1.lt
  clear q0 q1 q2 q3 q4
  have q0 := k1.cell 0
  have q1 := k1.cell 1
  have q2 := k1.cell 2
  have q3 := k1.cell 3
  have q4 := k1.cell 4
  simp at q0 q1 q2 q3 q4
  replace k3 := k3.below hbn k3.lt
  clear s0 s1 s2 s3 s4
  have s0 := k3.cell 0
  have s1 := k3.cell 1
  have s2 := k3.cell 2
  have s3 := k3.cell 3
  have s4 := k3.cell 4
  simp at s0 s1 s2 s3 s4
  clear hbn
  go_wp2_with fail
  go_ret
  exact ⟨rfl, hb⟩

end Go.Proofs.Ythknhgakompggaa
