/-
  The walk of LeaseTells: it returns true.
-/
import Derived.Test.YthknhgakompggaaLeaWorks
namespace Go.Proofs.Ythknhgakompggaa
open Go.RowKit
attribute [local go_sem] Oper.growAt Oper.growUpon GSpec.fix GSpec.row GSpec.wh GSpec.own

set_option maxRecDepth 100000 in
set_option maxHeartbeats 4000000 in
theorem leaTells_any (w : World) (l : Ls) (hl : l.ok) (c s p i e : Nat) (hc : c < 18446744073709551616) (hs : s < 18446744073709551616) :
    Calls Try.prog 3 #[l.v, .int .u64 (c : Nat), .int .u64 (s : Nat), .int .u64 (p : Nat), .int .u64 (i : Nat), .int .u64 (e : Nat)] w fun en w' => en = .returned (.bool true) ∧ Below w.heap.size w w' := by
  obtain ⟨ep, pr, inc, un, hd⟩ := l
  have HL := Lib.hid hl
  have HC := Lib.hid hc
  have HS := Lib.hid hs
  clear hl hc hs
  simp only [Ls.v]
  go_enter Try.func3, Try.ntmps3
  go_wp2_with fail
  refine (lea_ref_any _ ⟨ep, pr, inc, un, hd⟩).mono ?_
  rintro en w1 ⟨rfl, hbn⟩
  simp only [Ls.v]
  have hb := (below1 w (.cells #[Value.int .u64 (ep : Nat), .int .u64 (pr : Nat), .int .u64 (inc : Nat), .int .u64 (un : Nat), .bool hd] 24)).trans (hbn.mono (by simp <;> omega))
  have k1 : Whole w1 w.heap.size 24 #[Value.int .u64 (ep : Nat), .int .u64 (pr : Nat), .int .u64 (inc : Nat), .int .u64 (un : Nat), .bool hd] := Whole.below (Whole.new w _ _) hbn (by simp)
  clear hbn
  have hz3 := hb.size
  obtain ⟨g2, hg2⟩ : ∃ g, g = w1.heap.size := ⟨_, rfl⟩
  have ka := k1.alloc (.cells #[Value.int .u64 (ep : Nat), .int .u64 (pr : Nat), .int .u64 (inc : Nat), .int .u64 (un : Nat), .bool hd] 25)
  have a0 := ka.cell 0
  have a1 := ka.cell 1
  have a2 := ka.cell 2
  have a3 := ka.cell 3
  have a4 := ka.cell 4
  simp at a0 a1 a2 a3 a4
  clear ka
  go_wp2_with fail
  generalize hv : World.alloc w1 _ = v1
  have k2 : Whole v1 g2 25 #[Value.int .u64 (ep : Nat), .int .u64 (pr : Nat), .int .u64 (inc : Nat), .int .u64 (un : Nat), .bool hd] := by rw [← hv, hg2]; exact Whole.new w1 _ _
  replace hb : Below w.heap.size w v1 := by rw [← hv]; exact hb.alloc hb.size _
  replace k1 : Whole v1 w.heap.size 24 #[Value.int .u64 (ep : Nat), .int .u64 (pr : Nat), .int .u64 (inc : Nat), .int .u64 (un : Nat), .bool hd] := by rw [← hv]; exact k1.alloc _
  clear hv a0 a1 a2 a3 a4
  rw [← hg2]
  clear hg2 hz3
  obtain ⟨tn, htn⟩ : ∃ n, n = Ls.tryN ⟨ep, pr, inc, un, hd⟩ c s := ⟨_, rfl⟩
  obtain ⟨te, hte⟩ : ∃ n, n = Ls.tryE ⟨ep, pr, inc, un, hd⟩ c s := ⟨_, rfl⟩
  refine (lea_try_any _ ⟨ep, pr, inc, un, hd⟩ HL.out c s HS.out).mono ?_
  rintro en w2 ⟨rfl, hbn⟩
  rw [← htn, ← hte]
  have HTN := Lib.hid htn
  have HTE := Lib.hid hte
  clear htn hte
  replace hb := hb.trans (hbn.mono hb.size)
  replace k1 := k1.below hbn k1.lt
  replace k2 := k2.below hbn k2.lt
  clear hbn
  have r0 := k2.cell 0
  have r1 := k2.cell 1
  have r2 := k2.cell 2
  have r3 := k2.cell 3
  have r4 := k2.cell 4
  simp at r0 r1 r2 r3 r4
  go_wp2_with fail
  refine (lref_try_any _ ⟨ep, pr, inc, un, hd⟩ HL.out c s HC.out).mono ?_
  rintro en w3 ⟨rfl, hbn⟩
  rw [← HTN.out, ← HTE.out]
  replace hb := hb.trans (hbn.mono hb.size)
  replace k1 := k1.below hbn k1.lt
  replace k2 := k2.below hbn k2.lt
  clear hbn r0 r1 r2 r3 r4
  have K1 := Lib.hid k1
  have K2 := Lib.hid k2
  clear k1 k2
  go_wp2_with fail
  obtain ⟨ob, hob⟩ : ∃ x, x = Ls.over ⟨ep, pr, inc, un, hd⟩ c s := ⟨_, rfl⟩
  obtain ⟨ow, how⟩ : ∃ x, x = Ls.owns ⟨ep, pr, inc, un, hd⟩ p i e := ⟨_, rfl⟩
  obtain ⟨fe, hfe⟩ : ∃ x, x = Ls.fence ⟨ep, pr, inc, un, hd⟩ p i e := ⟨_, rfl⟩
  obtain ⟨un', hun⟩ : ∃ x, x = till c s := ⟨_, rfl⟩
  have HOB := Lib.hid hob
  have HOW := Lib.hid how
  have HFE := Lib.hid hfe
  have HUN := Lib.hid hun
  clear hob how hfe hun
  refine wp_region_grow (fun k' => List.lookup k' [(9, .fix (.agg #[Value.int .u64 (ep : Nat), .int .u64 (pr : Nat), .int .u64 (inc : Nat), .int .u64 (un : Nat), .bool hd])), (12, .fix (.bool ob)), (13, .fix (.agg #[Value.int .u64 (ep : Nat), .int .u64 (pr : Nat), .int .u64 (inc : Nat), .int .u64 (un : Nat), .bool hd])), (16, .fix (.bool ob)), (20, .fix (.agg #[Value.int .u64 (ep : Nat), .int .u64 (pr : Nat), .int .u64 (inc : Nat), .int .u64 (un : Nat), .bool hd])), (24, .fix (.bool ow)), (25, .fix (.agg #[Value.int .u64 (ep : Nat), .int .u64 (pr : Nat), .int .u64 (inc : Nat), .int .u64 (un : Nat), .bool hd])), (29, .fix (.bool ow)), (33, .fix (.agg #[Value.int .u64 (ep : Nat), .int .u64 (pr : Nat), .int .u64 (inc : Nat), .int .u64 (un : Nat), .bool hd])), (37, .fix (.int .i64 (fe : Nat))), (38, .fix (.agg #[Value.int .u64 (ep : Nat), .int .u64 (pr : Nat), .int .u64 (inc : Nat), .int .u64 (un : Nat), .bool hd])), (42, .fix (.int .i64 (fe : Nat))), (48, .fix (.int .u64 (un' : Nat))), (51, .fix (.int .u64 (un' : Nat))), (55, .fix (.bool true))]) (by kernel_rfl) (by kernel_rfl) ?_
  repeat (refine wpGrow_pure rfl (fun K hK => ?_); go_simp; refine hK.out _ ?_; clear hK K)
  refine wpGrow_eff _ rfl (fun wx he hcl => ?_) (fun _ K hK => ?_) rfl
  · clear hcl
    have kx := Whole.below K1.out he K1.out.lt
    have z0 := kx.cell 0
    have z1 := kx.cell 1
    have z2 := kx.cell 2
    have z3 := kx.cell 3
    have z4 := kx.cell 4
    simp at z0 z1 z2 z3 z4
    go_simp
    exact Below.refl _ _
  go_simp
  refine hK.out _ ?_
  clear hK K
  repeat (refine wpGrow_pure rfl (fun K hK => ?_); go_simp; refine hK.out _ ?_; clear hK K)
  refine wpGrow_eff _ rfl (fun wx he hcl => ?_) (fun _ K hK => ?_) rfl
  · clear hcl
    have hcon := lea_over_any wx ⟨ep, pr, inc, un, hd⟩ HL.out c s HS.out
    rw [← HOB.out] at hcon
    go_simp
    all_goals exact hcon
  go_simp
  refine hK.out _ ?_
  clear hK K
  repeat (refine wpGrow_pure rfl (fun K hK => ?_); go_simp; refine hK.out _ ?_; clear hK K)
  refine wpGrow_eff _ rfl (fun wx he hcl => ?_) (fun _ K hK => ?_) rfl
  · clear hcl
    have kx := Whole.below K2.out he K2.out.lt
    have z0 := kx.cell 0
    have z1 := kx.cell 1
    have z2 := kx.cell 2
    have z3 := kx.cell 3
    have z4 := kx.cell 4
    simp at z0 z1 z2 z3 z4
    go_simp
    exact Below.refl _ _
  go_simp
  refine hK.out _ ?_
  clear hK K
  repeat (refine wpGrow_pure rfl (fun K hK => ?_); go_simp; refine hK.out _ ?_; clear hK K)
  refine wpGrow_eff _ rfl (fun wx he hcl => ?_) (fun _ K hK => ?_) rfl
  · clear hcl
    have hcon := lref_over_any wx ⟨ep, pr, inc, un, hd⟩ c s HC.out
    rw [← HOB.out] at hcon
    go_simp
    all_goals exact hcon
  go_simp
  refine hK.out _ ?_
  clear hK K
  repeat (refine wpGrow_pure rfl (fun K hK => ?_); go_simp; refine hK.out _ ?_; clear hK K)
  refine wpGrow_eff _ rfl (fun wx he hcl => ?_) (fun _ K hK => ?_) rfl
  · clear hcl
    have kx := Whole.below K1.out he K1.out.lt
    have z0 := kx.cell 0
    have z1 := kx.cell 1
    have z2 := kx.cell 2
    have z3 := kx.cell 3
    have z4 := kx.cell 4
    simp at z0 z1 z2 z3 z4
    go_simp
    exact Below.refl _ _
  go_simp
  refine hK.out _ ?_
  clear hK K
  repeat (refine wpGrow_pure rfl (fun K hK => ?_); go_simp; refine hK.out _ ?_; clear hK K)
  refine wpGrow_eff _ rfl (fun wx he hcl => ?_) (fun _ K hK => ?_) rfl
  · clear hcl
    have hcon := lea_owns_any wx ⟨ep, pr, inc, un, hd⟩ p i e
    rw [← HOW.out] at hcon
    go_simp
    all_goals exact hcon
  go_simp
  refine hK.out _ ?_
  clear hK K
  repeat (refine wpGrow_pure rfl (fun K hK => ?_); go_simp; refine hK.out _ ?_; clear hK K)
  refine wpGrow_eff _ rfl (fun wx he hcl => ?_) (fun _ K hK => ?_) rfl
  · clear hcl
    have kx := Whole.below K2.out he K2.out.lt
    have z0 := kx.cell 0
    have z1 := kx.cell 1
    have z2 := kx.cell 2
    have z3 := kx.cell 3
    have z4 := kx.cell 4
    simp at z0 z1 z2 z3 z4
    go_simp
    exact Below.refl _ _
  go_simp
  refine hK.out _ ?_
  clear hK K
  repeat (refine wpGrow_pure rfl (fun K hK => ?_); go_simp; refine hK.out _ ?_; clear hK K)
  refine wpGrow_eff _ rfl (fun wx he hcl => ?_) (fun _ K hK => ?_) rfl
  · clear hcl
    have hcon := lref_owns_any wx ⟨ep, pr, inc, un, hd⟩ p i e
    rw [← HOW.out] at hcon
    go_simp
    all_goals exact hcon
  go_simp
  refine hK.out _ ?_
  clear hK K
  repeat (refine wpGrow_pure rfl (fun K hK => ?_); go_simp; refine hK.out _ ?_; clear hK K)
  refine wpGrow_eff _ rfl (fun wx he hcl => ?_) (fun _ K hK => ?_) rfl
  · clear hcl
    have kx := Whole.below K1.out he K1.out.lt
    have z0 := kx.cell 0
    have z1 := kx.cell 1
    have z2 := kx.cell 2
    have z3 := kx.cell 3
    have z4 := kx.cell 4
    simp at z0 z1 z2 z3 z4
    go_simp
    exact Below.refl _ _
  go_simp
  refine hK.out _ ?_
  clear hK K
  repeat (refine wpGrow_pure rfl (fun K hK => ?_); go_simp; refine hK.out _ ?_; clear hK K)
  refine wpGrow_eff _ rfl (fun wx he hcl => ?_) (fun _ K hK => ?_) rfl
  · clear hcl
    have hcon := lea_fence_any wx ⟨ep, pr, inc, un, hd⟩ p i e
    rw [← HFE.out] at hcon
    go_simp
    all_goals exact hcon
  go_simp
  refine hK.out _ ?_
  clear hK K
  repeat (refine wpGrow_pure rfl (fun K hK => ?_); go_simp; refine hK.out _ ?_; clear hK K)
  refine wpGrow_eff _ rfl (fun wx he hcl => ?_) (fun _ K hK => ?_) rfl
  · clear hcl
    have kx := Whole.below K2.out he K2.out.lt
    have z0 := kx.cell 0
    have z1 := kx.cell 1
    have z2 := kx.cell 2
    have z3 := kx.cell 3
    have z4 := kx.cell 4
    simp at z0 z1 z2 z3 z4
    go_simp
    exact Below.refl _ _
  go_simp
  refine hK.out _ ?_
  clear hK K
  repeat (refine wpGrow_pure rfl (fun K hK => ?_); go_simp; refine hK.out _ ?_; clear hK K)
  refine wpGrow_eff _ rfl (fun wx he hcl => ?_) (fun _ K hK => ?_) rfl
  · clear hcl
    have hcon := lref_fence_any wx ⟨ep, pr, inc, un, hd⟩ p i e
    rw [← HFE.out] at hcon
    go_simp
    all_goals exact hcon
  go_simp
  refine hK.out _ ?_
  clear hK K
  repeat (refine wpGrow_pure rfl (fun K hK => ?_); go_simp; refine hK.out _ ?_; clear hK K)
  refine wpGrow_eff _ rfl (fun wx he hcl => ?_) (fun _ K hK => ?_) rfl
  · clear hcl
    have hcon := lea_until_any wx c s HC.out HS.out
    rw [← HUN.out] at hcon
    go_simp
    all_goals exact hcon
  go_simp
  refine hK.out _ ?_
  clear hK K
  repeat (refine wpGrow_pure rfl (fun K hK => ?_); go_simp; refine hK.out _ ?_; clear hK K)
  refine wpGrow_eff _ rfl (fun wx he hcl => ?_) (fun _ K hK => ?_) rfl
  · clear hcl
    have hcon := lref_until_any wx c s HC.out HS.out
    rw [← HUN.out] at hcon
    go_simp
    all_goals exact hcon
  go_simp
  refine hK.out _ ?_
  clear hK K
  repeat (refine wpGrow_pure rfl (fun K hK => ?_); go_simp; refine hK.out _ ?_; clear hK K)
  refine wpGrow_eff _ rfl (fun wx he hcl => ?_) (fun _ K hK => ?_) rfl
  · clear hcl
    have hcon := lea_works_any wx
    go_simp
    all_goals exact hcon
  go_simp
  refine hK.out _ ?_
  clear hK K
  repeat (refine wpGrow_pure rfl (fun K hK => ?_); go_simp; refine hK.out _ ?_; clear hK K)
  refine wpGrow_nil fun wx he hfin => ?_
  clear hfin
  replace hb := hb.trans (he.mono hb.size)
  go_wp2_with fail
  go_ret
  exact ⟨rfl, hb⟩

end Go.Proofs.Ythknhgakompggaa
