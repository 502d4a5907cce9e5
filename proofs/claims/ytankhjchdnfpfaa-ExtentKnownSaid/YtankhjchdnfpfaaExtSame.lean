/-
  Files in parts: the law's same.
-/
import Derived.Test.YtankhjchdnfpfaaExtRefs
import Derived.BigQuiet
namespace Go.Proofs.Ytankhjchdnfpfaa
open Go.RowKit
attribute [local go_sem] match_undef Oper.growAt Oper.growUpon GSpec.fix GSpec.row GSpec.wh GSpec.own
attribute [local irreducible] wpList
set_option maxRecDepth 100000 in
set_option maxHeartbeats 8000000 in
theorem lsame_any (w : World) (A : Option Addr) (N cap : Nat) (fs : List Pa) (A' : Option Addr) (N' cap' : Nat) (gs : List Pa) (h : RdPa w w.heap.size A N fs) (h' : RdPa w w.heap.size A' N' gs)
    (hN : N ≤ 1000000) (hN' : N' ≤ 1000000) (hf : ∀ f ∈ fs, f.1.length ≤ 1000000) (hg : ∀ f ∈ gs, f.1.length ≤ 1000000) (r : Bool) (hr : decide (fs = gs) = r) :
    Calls Try.prog 29 #[.agg #[.slice A N cap], .agg #[.slice A' N' cap']] w fun en w' => en = .returned (.bool r) ∧ Below w.heap.size w w' := by
  have HR := Lib.hid hr
  have HF := Lib.hid hf
  have HG := Lib.hid hg
  have hb1 := below1 w (.cells #[.slice A N cap] 34)
  have hb2 := hb1.trans ((below1 (w.alloc (.cells #[.slice A N cap] 34)) (.cells #[.slice A' N' cap'] 34)).mono hb1.size)
  have HB := Lib.hid hb2
  clear hr hf hg hb1
  by_cases hne : N = N'
  · subst hne
    have H := Lib.hid (h.below hb2)
    have H' := Lib.hid (h'.below hb2)
    have HL := Lib.hid h.1
    have HL' := Lib.hid h'.1
    have HW1 := Lib.hid ((Whole.new w 34 #[.slice A N cap]).alloc (.cells #[.slice A' N cap'] 34))
    have hw2 := Whole.new (w.alloc (.cells #[.slice A N cap] 34)) 34 #[.slice A' N cap']
    have hsz : (w.alloc (.cells #[.slice A N cap] 34)).heap.size = w.heap.size + 1 := by simp
    rw [hsz] at hw2
    have HW2 := Lib.hid hw2
    clear h h' hb2 hw2 hsz
    go_enter Try.func29, Try.ntmps29
    go_wp2_with fail
    generalize (w.alloc (.cells #[.slice A N cap] 34)).alloc (.cells #[.slice A' N cap'] 34) = W2 at HB H H' HW1 HW2 ⊢
    obtain ⟨gb, hgb⟩ : ∃ gb, w.heap.size + 1 = gb := ⟨_, rfl⟩
    obtain ⟨ga, hga⟩ : ∃ ga, w.heap.size = ga := ⟨_, rfl⟩
    rw [hgb] at HW2 ⊢
    have HWA := Lib.hid (show Whole W2 ga 34 #[.slice A N cap] from by rw [← hga]; exact HW1.out)
    rw [show (Value.pointer (some { block := w.heap.size, off := 0 })) = Value.pointer (some { block := ga, off := 0 }) from by rw [hga]]
    clear hga hgb HW1
    go_loopw [5] (fun i wr => ∃ j : Nat, j ≤ N ∧ i = .int .i64 j ∧ Hid (fs.take j = gs.take j) ∧ Below W2.heap.size W2 wr) (fun i _ => N - (intOf i).toNat)
    case atStart => exact ⟨0, by omega, rfl, rfl, Below.refl _ _⟩
    case round =>
      obtain ⟨j, hj, rfl, HT, hx⟩ := hrel
      have qa := (HWA.out.below hx HWA.out.lt).cell 0
      have qb := (HW2.out.below hx HW2.out.lt).cell 0
      simp at qa qb
      have hsz := HB.out.size
      by_cases hlt : j < N
      · have hk1 : j < fs.length := by have := HL.out; omega
        have hk2 : j < gs.length := by have := HL'.out; omega
        obtain ⟨b1, o1, A1, c1, rfl, hb1, hp1, hq1, _, _, hr1⟩ := (H.out.below (hx.mono hsz)).2 j hk1
        obtain ⟨b2, o2, A2, c2, rfl, hb2, hp2, hq2, _, _, hr2⟩ := (H'.out.below (hx.mono hsz)).2 j hk2
        have hm1 := HF.out fs[j] (List.getElem_mem hk1)
        have hm2 := HG.out gs[j] (List.getElem_mem hk2)
        have hd : decide ((j : Int) < (N : Int)) = true := by simp; omega
        have d1 : (0 : Int) ≤ (j : Int) := by omega
        have d2 : (j : Int) < (N : Int) := by omega
        have hszw := Nat.le_trans hsz hx.size
        obtain ⟨f, hf⟩ : ∃ f, fs[j] = f := ⟨_, rfl⟩
        obtain ⟨g, hg⟩ : ∃ f, gs[j] = f := ⟨_, rfl⟩
        rw [hf] at hp1 hq1 hr1 hm1
        rw [hg] at hp2 hq2 hr2 hm2
        have HFK := Lib.hid hf
        have HGK := Lib.hid hg
        obtain ⟨l, d⟩ := f
        obtain ⟨l', d'⟩ := g
        simp only at hp1 hq1 hr1 hm1 hp2 hq2 hr2 hm2
        obtain ⟨m, e1⟩ : ∃ m, l.length = m := ⟨_, rfl⟩
        obtain ⟨m2, e2⟩ : ∃ m, l'.length = m := ⟨_, rfl⟩
        rw [e1] at hp1 hr1 hm1
        rw [e2] at hp2 hr2 hm2
        obtain ⟨e, he0⟩ : ∃ e, decide (l = l') = e := ⟨_, rfl⟩
        have HE := Lib.hid he0
        have P1 := Lib.hid hp1
        have D1 := Lib.hid hq1
        have P2 := Lib.hid hp2
        have D2 := Lib.hid hq2
        have QA := Lib.hid qa
        have QB := Lib.hid qb
        have P1L := Lib.hid (Nat.lt_of_lt_of_le hb1 hszw)
        have P2L := Lib.hid (Nat.lt_of_lt_of_le hb2 hszw)
        have D1L := P1L
        have D2L := P2L
        have QAL := Lib.hid (Nat.lt_of_lt_of_le HWA.out.lt hx.size)
        have QBL := Lib.hid (Nat.lt_of_lt_of_le HW2.out.lt hx.size)
        have HSZ := Lib.hid hszw
        have HR1 := Lib.hid hr1
        have HR2 := Lib.hid hr2
        clear hp1 hq1 hr1 hp2 hq2 hr2 hf hg e1 e2 he0 hb1 hb2
        by_cases hdd : d = d'
        · subst hdd
          have hself : (d != d) = false := by simp
          go_wp2_with fail
          clear qa qb
          refine wp_region_grow (fun k' => List.lookup k' [(1, .fix (.slice (some ⟨b1, o1, none⟩) N cap)), (5, .fix (.bool d)), (7, .fix (.slice (some ⟨b2, o2, none⟩) N cap')), (11, .fix (.bool d)), (15, .fix (.slice (some ⟨b1, o1, none⟩) N cap)), (19, .fix (.slice A1 m c1)), (21, .fix (.slice (some ⟨b2, o2, none⟩) N cap')), (25, .fix (.slice A2 m2 c2)), (26, .fix (.bool e))]) (by as_aux_lemma => kernel_rfl) (by as_aux_lemma => kernel_rfl) ?_
          repeat (refine wpGrow_pure rfl (fun K hK => ?_); go_simp; refine hK.out _ ?_; clear hK K)
          refine wpGrow_eff _ rfl (fun wx he hcl => ?_) (fun _ K hK => ?_) rfl
          · clear hcl
            have hq := (he.cell (p := ⟨ga, 0, none⟩) QAL.out).trans QA.out
            go_simp
            exact Below.refl _ _
          go_simp
          refine hK.out _ ?_
          clear hK K
          repeat (refine wpGrow_pure rfl (fun K hK => ?_); go_simp; refine hK.out _ ?_; clear hK K)
          refine wpGrow_eff _ rfl (fun wx he hcl => ?_) (fun _ K hK => ?_) rfl
          · clear hcl
            have hq := (he.cell (p := ⟨b1, o1 + j * 2 + 1, none⟩) D1L.out).trans D1.out
            go_simp
            exact Below.refl _ _
          go_simp
          refine hK.out _ ?_
          clear hK K
          repeat (refine wpGrow_pure rfl (fun K hK => ?_); go_simp; refine hK.out _ ?_; clear hK K)
          refine wpGrow_eff _ rfl (fun wx he hcl => ?_) (fun _ K hK => ?_) rfl
          · clear hcl
            have hq := (he.cell (p := ⟨gb, 0, none⟩) QBL.out).trans QB.out
            go_simp
            exact Below.refl _ _
          go_simp
          refine hK.out _ ?_
          clear hK K
          repeat (refine wpGrow_pure rfl (fun K hK => ?_); go_simp; refine hK.out _ ?_; clear hK K)
          refine wpGrow_eff _ rfl (fun wx he hcl => ?_) (fun _ K hK => ?_) rfl
          · clear hcl
            have hq := (he.cell (p := ⟨b2, o2 + j * 2 + 1, none⟩) D2L.out).trans D2.out
            go_simp
            exact Below.refl _ _
          go_simp
          refine hK.out _ ?_
          clear hK K
          repeat (refine wpGrow_pure rfl (fun K hK => ?_); go_simp; refine hK.out _ ?_; clear hK K)
          refine wpGrow_eff _ rfl (fun wx he hcl => ?_) (fun _ K hK => ?_) rfl
          · clear hcl
            have hq := (he.cell (p := ⟨ga, 0, none⟩) QAL.out).trans QA.out
            go_simp
            exact Below.refl _ _
          go_simp
          refine hK.out _ ?_
          clear hK K
          repeat (refine wpGrow_pure rfl (fun K hK => ?_); go_simp; refine hK.out _ ?_; clear hK K)
          refine wpGrow_eff _ rfl (fun wx he hcl => ?_) (fun _ K hK => ?_) rfl
          · clear hcl
            have hq := (he.cell (p := ⟨b1, o1 + j * 2, none⟩) P1L.out).trans P1.out
            go_simp
            exact Below.refl _ _
          go_simp
          refine hK.out _ ?_
          clear hK K
          repeat (refine wpGrow_pure rfl (fun K hK => ?_); go_simp; refine hK.out _ ?_; clear hK K)
          refine wpGrow_eff _ rfl (fun wx he hcl => ?_) (fun _ K hK => ?_) rfl
          · clear hcl
            have hq := (he.cell (p := ⟨gb, 0, none⟩) QBL.out).trans QB.out
            go_simp
            exact Below.refl _ _
          go_simp
          refine hK.out _ ?_
          clear hK K
          repeat (refine wpGrow_pure rfl (fun K hK => ?_); go_simp; refine hK.out _ ?_; clear hK K)
          refine wpGrow_eff _ rfl (fun wx he hcl => ?_) (fun _ K hK => ?_) rfl
          · clear hcl
            have hq := (he.cell (p := ⟨b2, o2 + j * 2, none⟩) P2L.out).trans P2.out
            go_simp
            exact Below.refl _ _
          go_simp
          refine hK.out _ ?_
          clear hK K
          repeat (refine wpGrow_pure rfl (fun K hK => ?_); go_simp; refine hK.out _ ?_; clear hK K)
          refine wpGrow_eff _ rfl (fun wx he hcl => ?_) (fun _ K hK => ?_) rfl
          · clear hcl
            have hcon := same_any wx A1 m c1 l A2 m2 c2 l' w.heap.size w.heap.size (Nat.le_trans HSZ.out he.size) (Nat.le_trans HSZ.out he.size) (HR1.out.below (he.mono HSZ.out)) (HR2.out.below (he.mono HSZ.out)) (by omega) (by omega) e HE.out
            go_simp
            all_goals exact hcon
          go_simp
          refine hK.out _ ?_
          clear hK K
          repeat (refine wpGrow_pure rfl (fun K hK => ?_); go_simp; refine hK.out _ ?_; clear hK K)
          refine wpGrow_nil fun wx he hfin => ?_
          clear hfin
          have hx2 := hx.trans (he.mono hx.size)
          clear he
          cases e
          · have HRR := Lib.hid (show false = r from by
              rw [← HR.out]
              symm
              rw [decide_eq_false_iff_not]
              intro e0
              subst e0
              have h1 := HFK.out
              rw [HGK.out] at h1
              have h2 := of_decide_eq_false HE.out
              injection h1 with h3 _
              exact h2 h3.symm)
            go_wp2_with fail
            go_ret
            exact ⟨by rw [← HRR.out]; rfl, HB.out.trans (hx2.mono HB.out.size)⟩
          · have HT2 := Lib.hid (show fs.take (j + 1) = gs.take (j + 1) from by
              have h2 := HE.out
              simp at h2
              rw [List.take_succ_eq_append_getElem hk1, List.take_succ_eq_append_getElem hk2, HT.out, HFK.out, HGK.out, h2])
            go_wp2_with fail
            go_roundw
            case rel => exact ⟨j + 1, by omega, by go_num, HT2, hx2⟩
            case measure => simp [intOf] <;> omega
        · have hne : (d != d') = true := by rw [bne_iff_ne]; exact hdd
          have HRR := Lib.hid (show false = r from by
            rw [← HR.out]
            symm
            rw [decide_eq_false_iff_not]
            intro e0
            subst e0
            have h1 := HFK.out
            rw [HGK.out] at h1
            injection h1 with _ h3
            exact hdd h3.symm)
          go_wp2_with fail
          clear qa qb
          refine wp_region_grow (fun k' => List.lookup k' [(1, .fix (.slice (some ⟨b1, o1, none⟩) N cap)), (5, .fix (.bool d)), (7, .fix (.slice (some ⟨b2, o2, none⟩) N cap')), (11, .fix (.bool d'))]) (by as_aux_lemma => kernel_rfl) (by as_aux_lemma => kernel_rfl) ?_
          repeat (refine wpGrow_pure rfl (fun K hK => ?_); go_simp; refine hK.out _ ?_; clear hK K)
          refine wpGrow_eff _ rfl (fun wx he hcl => ?_) (fun _ K hK => ?_) rfl
          · clear hcl
            have hq := (he.cell (p := ⟨ga, 0, none⟩) QAL.out).trans QA.out
            go_simp
            exact Below.refl _ _
          go_simp
          refine hK.out _ ?_
          clear hK K
          repeat (refine wpGrow_pure rfl (fun K hK => ?_); go_simp; refine hK.out _ ?_; clear hK K)
          refine wpGrow_eff _ rfl (fun wx he hcl => ?_) (fun _ K hK => ?_) rfl
          · clear hcl
            have hq := (he.cell (p := ⟨b1, o1 + j * 2 + 1, none⟩) D1L.out).trans D1.out
            go_simp
            exact Below.refl _ _
          go_simp
          refine hK.out _ ?_
          clear hK K
          repeat (refine wpGrow_pure rfl (fun K hK => ?_); go_simp; refine hK.out _ ?_; clear hK K)
          refine wpGrow_eff _ rfl (fun wx he hcl => ?_) (fun _ K hK => ?_) rfl
          · clear hcl
            have hq := (he.cell (p := ⟨gb, 0, none⟩) QBL.out).trans QB.out
            go_simp
            exact Below.refl _ _
          go_simp
          refine hK.out _ ?_
          clear hK K
          repeat (refine wpGrow_pure rfl (fun K hK => ?_); go_simp; refine hK.out _ ?_; clear hK K)
          refine wpGrow_eff _ rfl (fun wx he hcl => ?_) (fun _ K hK => ?_) rfl
          · clear hcl
            have hq := (he.cell (p := ⟨b2, o2 + j * 2 + 1, none⟩) D2L.out).trans D2.out
            go_simp
            exact Below.refl _ _
          go_simp
          refine hK.out _ ?_
          clear hK K
          repeat (refine wpGrow_pure rfl (fun K hK => ?_); go_simp; refine hK.out _ ?_; clear hK K)
          refine wpGrow_nil fun wx he hfin => ?_
          clear hfin
          have hx2 := hx.trans (he.mono hx.size)
          clear he
          go_wp2_with fail
          go_ret
          exact ⟨by rw [← HRR.out]; rfl, HB.out.trans (hx2.mono HB.out.size)⟩
      · obtain rfl : j = N := by omega
        have HRR := Lib.hid (show true = r from by
          rw [← HR.out]
          symm
          rw [decide_eq_true_eq]
          have := HT.out
          rw [List.take_of_length_le (by rw [HL.out]; omega), List.take_of_length_le (by rw [HL'.out]; omega)] at this
          exact this)
        go_wp2_with fail
        go_ret
        exact ⟨by rw [← HRR.out]; rfl, HB.out.trans (hx.mono HB.out.size)⟩
  · have hnn : (((N : Nat) : Int) != ((N' : Nat) : Int)) = true := by rw [bne_iff_ne]; omega
    have hf : decide (fs = gs) = false := by
      rw [decide_eq_false_iff_not]
      intro e
      subst e
      exact hne (h.1.symm.trans h'.1)
    have HF := Lib.hid (show false = r from by rw [← HR.out]; exact hf.symm)
    clear h h' hne hf hb2
    go_enter Try.func29, Try.ntmps29
    go_wp2_with fail
    go_ret
    exact ⟨by rw [← HF.out]; rfl, HB.out⟩
end Go.Proofs.Ytankhjchdnfpfaa
