/-
  Files in parts: the law's is, few; acts.
-/
import Derived.Test.YtankhjchdnfpfaaExtSame
import Derived.Test.YtankhjchdnfpfaaExtRef
import Derived.Test.YtankhjchdnfpfaaExtRefRead
import Derived.Test.YtankhjchdnfpfaaExtRefFail
import Derived.BigQuiet
namespace Go.Proofs.Ytankhjchdnfpfaa
open Go.RowKit
attribute [local go_sem] match_undef Oper.growAt Oper.growUpon GSpec.fix GSpec.row GSpec.wh GSpec.own GSpec.fout
attribute [local irreducible] wpList
set_option maxRecDepth 100000 in
set_option maxHeartbeats 1000000 in
theorem is_any (w : World) (A : Option Addr) (N cap : Nat) (A' : Option Addr) (N' cap' : Nat) (fs : List Pa) (h : RdPa w w.heap.size A N fs) (h' : RdPa w w.heap.size A' N' fs)
    (hN : N ≤ 1000000) (hf : ∀ f ∈ fs, f.1.length ≤ 1000000) (hbl : (Exn.bytes fs).length ≤ 100000000) :
    Calls Try.prog 19 #[.agg #[.slice A N cap], .agg #[.slice A' N' cap']] w fun en w' => en = .returned (.bool true) ∧ Below w.heap.size w w' := by
  have hN' : N' ≤ 1000000 := by rw [← h'.1, h.1]; exact hN
  have HL := Lib.hid h.1
  have HF := Lib.hid hf
  have HBL := Lib.hid (show (Exn.bytes fs).length ≤ 1000000000 by omega)
  obtain ⟨V, hV⟩ : ∃ V, Exn.vol fs = V := ⟨_, rfl⟩
  obtain ⟨L, hL⟩ : ∃ L, (Exn.bytes fs).length = L := ⟨_, rfl⟩
  obtain ⟨bs, hbs⟩ : ∃ L, Exn.bytes fs = L := ⟨_, rfl⟩
  have HV := Lib.hid hV
  have HLM := Lib.hid hL
  have HBS := Lib.hid hbs
  rw [hL] at hbl
  have hb1 := below1 w (.cells #[.slice A N cap] 30)
  have hb2 := hb1.trans ((below1 (w.alloc (.cells #[.slice A N cap] 30)) (.cells #[.slice A' N' cap'] 34)).mono hb1.size)
  have HB2 := Lib.hid hb2
  have HA2 := Lib.hid (h.below hb2)
  have HB2' := Lib.hid (h'.below hb2)
  have HW1 := Lib.hid ((Whole.new w 30 #[.slice A N cap]).alloc (.cells #[.slice A' N' cap'] 34))
  have hw2 := Whole.new (w.alloc (.cells #[.slice A N cap] 30)) 34 #[.slice A' N' cap']
  have hsz : (w.alloc (.cells #[.slice A N cap] 30)).heap.size = w.heap.size + 1 := by simp
  rw [hsz] at hw2
  have HW2 := Lib.hid hw2
  have HC := Lib.hid (ebytes_any ((w.alloc (.cells #[.slice A N cap] 30)).alloc (.cells #[.slice A' N' cap'] 34)) A N cap fs w.heap.size HB2.out.size HA2.out hN HBL.out)
  rw [HLM.out, HBS.out] at HC
  clear h h' hf hb1 hb2 hw2 hsz hV hL hbs
  go_enter Try.func19, Try.ntmps19
  go_wp2_with fail
  generalize (w.alloc (.cells #[.slice A N cap] 30)).alloc (.cells #[.slice A' N' cap'] 34) = W2 at HB2 HA2 HB2' HW1 HW2 HC ⊢
  obtain ⟨gb, hgb⟩ : ∃ gb, w.heap.size + 1 = gb := ⟨_, rfl⟩
  obtain ⟨ga, hga⟩ : ∃ ga, w.heap.size = ga := ⟨_, rfl⟩
  have HGA := Lib.hid (show w.heap.size ≤ ga by omega)
  have HGB := Lib.hid (show w.heap.size ≤ gb by omega)
  rw [hgb] at HW2 ⊢
  have HWA := Lib.hid (show Whole W2 ga 30 #[.slice A N cap] from by rw [← hga]; exact HW1.out)
  rw [show (Value.pointer (some { block := w.heap.size, off := 0 })) = Value.pointer (some { block := ga, off := 0 }) from by rw [hga]]
  clear hga hgb HW1
  refine HC.out.mono ?_
  clear HC
  rintro en W3 ⟨DB, cB, rfl, hob, hb3⟩
  have HBR := Lib.hid (Rd.of_own hob)
  have HOB := Lib.hid hob
  have HA := Lib.hid (HA2.out.below (hb3.mono HB2.out.size))
  have HB := Lib.hid (HB2'.out.below (hb3.mono HB2.out.size))
  have HBZ := Lib.hid (HB2.out.trans (hb3.mono HB2.out.size))
  have HSZ := Lib.hid HBZ.out.size
  have WA := HWA.out.below hb3 HWA.out.lt
  have WB := HW2.out.below hb3 HW2.out.lt
  have qa := WA.cell 0
  have qb := WB.cell 0
  simp at qa qb
  have QA := Lib.hid qa
  have QB := Lib.hid qb
  have QAL := Lib.hid WA.lt
  have QBL := Lib.hid WB.lt
  have HS2 := Lib.hid HB2.out.size
  have HW2S := Lib.hid (show ga < W2.heap.size ∧ gb < W2.heap.size from ⟨HWA.out.lt, HW2.out.lt⟩)
  have HWA3 := Lib.hid WA
  have HWB3 := Lib.hid WB
  clear hob hb3 WA WB HA2 HB2' HWA HW2 HB2
  have RBY := Lib.hid (show ∀ wx, Below W3.heap.size W3 wx → Calls Try.prog 31 #[.agg #[.slice A' N' cap']] wx (Fresh wx.heap.size 5 1 L (byts bs) wx) from fun wx he => by
    have hcon := rbytes_any wx A' N' cap' fs w.heap.size (Nat.le_trans HSZ.out he.size) (HB.out.below (he.mono HSZ.out)) hN' HBL.out
    rw [HLM.out, HBS.out] at hcon
    exact hcon)
  have EBY := Lib.hid (show ∀ wx, Below W3.heap.size W3 wx → Calls Try.prog 21 #[.agg #[.slice A N cap]] wx (Fresh wx.heap.size 5 1 L (byts bs) wx) from fun wx he => by
    have hcon := ebytes_any wx A N cap fs w.heap.size (Nat.le_trans HSZ.out he.size) (HA.out.below (he.mono HSZ.out)) hN HBL.out
    rw [HLM.out, HBS.out] at hcon
    exact hcon)
  have ELN := Lib.hid (show ∀ wx, Below W3.heap.size W3 wx → Calls Try.prog 20 #[.agg #[.slice A N cap]] wx (fun en w' => en = .returned (.int .i64 (L : Nat)) ∧ Below wx.heap.size wx w') from fun wx he => by
    have hcon := elen_any wx A N cap fs w.heap.size (Nat.le_trans HSZ.out he.size) (HA.out.below (he.mono HSZ.out)) hN HBL.out
    rw [HLM.out] at hcon
    exact hcon)
  have EVO := Lib.hid (show ∀ wx, Below W3.heap.size W3 wx → Calls Try.prog 22 #[.agg #[.slice A N cap]] wx (fun en w' => en = .returned (.int .i64 (V : Nat)) ∧ Below wx.heap.size wx w') from fun wx he => by
    have hcon := evol_any wx A N cap fs w.heap.size (Nat.le_trans HSZ.out he.size) (HA.out.below (he.mono HSZ.out)) hN
    rw [HV.out] at hcon
    exact hcon)
  have RVO := Lib.hid (show ∀ wx, Below W3.heap.size W3 wx → Calls Try.prog 32 #[.agg #[.slice A' N' cap']] wx (fun en w' => en = .returned (.int .i64 (V : Nat)) ∧ Below wx.heap.size wx w') from fun wx he => by
    have hcon := rvol_any wx A' N' cap' fs w.heap.size (Nat.le_trans HSZ.out he.size) (HB.out.below (he.mono HSZ.out)) hN'
    rw [HV.out] at hcon
    exact hcon)
  go_wp2_with fail
  clear qa qb
  refine wp_region_grow (fun k' => List.lookup k' [(0, .fix (.agg #[.slice A N cap])), (1, .fout (fun _ => True) fs), (2, .fix (.agg #[.slice A' N' cap'])), (3, .fix (.bool true)), (6, .fix (.agg #[.slice A' N' cap'])), (7, .own w.heap.size 5 1 L (byts bs)), (8, .fix (.bool true)), (11, .fix (.agg #[.slice A N cap])), (12, .fix (.int .i64 (L : Nat))), (13, .fix (.agg #[.slice A' N' cap'])), (14, .own w.heap.size 5 1 L (byts bs)), (19, .fix (.agg #[.slice A N cap])), (20, .fix (.int .i64 (V : Nat))), (21, .fix (.agg #[.slice A' N' cap'])), (22, .fix (.int .i64 (V : Nat)))]) (by as_aux_lemma => kernel_rfl) (by as_aux_lemma => kernel_rfl) ?_
  repeat (refine wpGrow_pure rfl (fun K hK => ?_); go_simp; refine hK.out _ ?_; clear hK K)
  refine wpGrow_eff _ rfl (fun wx he hcl => ?_) (fun _ K hK => ?_) rfl
  · clear hcl
    have hq := (he.cell (p := ⟨ga, 0, none⟩) QAL.out).trans QA.out
    go_simp
    exact Below.refl _ _
  go_simp
  refine hK.out _ ?_
  clear hK K
  repeat (refine wpGrow_pure rfl (fun K hK => ?_); go_simp; refine hK.out _ ?_; clear hK K)
  refine wpGrow_eff _ rfl (fun wx he hcl => ?_) (fun ⟨D1, n1, c1⟩ K hK => ?_) rfl
  · clear hcl
    have hcon := lref_any wx (fun _ => True) (fun _ _ => trivial) A N cap fs ((HA.out.below (he.mono HSZ.out)).more (Nat.le_trans HSZ.out he.size)) hN HF.out
    go_simp
    exact hcon.mono fun e w2 ⟨D, k, c, he2, hf, hb⟩ => ⟨D, k, c, he2, hf, hb⟩
  go_simp
  refine hK.out _ ?_
  clear hK K
  repeat (refine wpGrow_pure rfl (fun K hK => ?_); go_simp; refine hK.out _ ?_; clear hK K)
  refine wpGrow_eff _ rfl (fun wx he hcl => ?_) (fun _ K hK => ?_) rfl
  · clear hcl
    have hq := (he.cell (p := ⟨gb, 0, none⟩) QBL.out).trans QB.out
    go_simp
    exact Below.refl _ _
  go_simp
  refine hK.out _ ?_
  clear hK K
  repeat (refine wpGrow_pure rfl (fun K hK => ?_); go_simp; refine hK.out _ ?_; clear hK K)
  refine wpGrow_eff _ rfl (fun wx he hcl => ?_) (fun _ K hK => ?_) rfl
  · have hff : File wx (fun _ => True) 57 5 D1 n1 c1 fs := hcl.out 1 rfl
    clear hcl
    have hl1 : n1 = N := by rw [← hff.1, HL.out]
    subst hl1
    have hcon := lsame_any wx D1 n1 c1 fs A' N' cap' fs hff.rd ((HB.out.below (he.mono HSZ.out)).more (Nat.le_trans HSZ.out he.size)) hN hN' HF.out HF.out true (by simp)
    clear hff
    go_simp
    all_goals exact hcon
  go_simp
  refine hK.out _ ?_
  clear hK K
  repeat (refine wpGrow_pure rfl (fun K hK => ?_); go_simp; refine hK.out _ ?_; clear hK K)
  refine wpGrow_eff _ rfl (fun wx he hcl => ?_) (fun _ K hK => ?_) rfl
  · clear hcl
    have hq := (he.cell (p := ⟨gb, 0, none⟩) QBL.out).trans QB.out
    go_simp
    exact Below.refl _ _
  go_simp
  refine hK.out _ ?_
  clear hK K
  repeat (refine wpGrow_pure rfl (fun K hK => ?_); go_simp; refine hK.out _ ?_; clear hK K)
  refine wpGrow_eff _ rfl (fun wx he hcl => ?_) (fun (x2 : Option Addr × Nat) K hK => ?_) rfl
  · clear hcl
    have hcon := RBY.out wx he
    have hsz := Nat.le_trans HSZ.out he.size
    go_simp
    exact hcon.mono fun e w2 ⟨D, c, he2, ho, hb⟩ => ⟨D, c, he2, own_base ho hsz, hb⟩
  go_simp
  refine hK.out _ ?_
  clear hK K
  repeat (refine wpGrow_pure rfl (fun K hK => ?_); go_simp; refine hK.out _ ?_; clear hK K)
  refine wpGrow_eff _ rfl (fun wx he hcl => ?_) (fun _ K hK => ?_) rfl
  · have hoo : wx.ownsRow w.heap.size 5 1 (.slice x2.1 L x2.2) L (byts bs) := hcl.out 7 rfl
    clear hcl
    have hcon := same_any wx DB L cB bs x2.1 L x2.2 bs W3.heap.size wx.heap.size he.size (Nat.le_refl _) (HBR.out.below he) (Rd.of_own hoo) (by omega) (by omega) true (by simp)
    clear hoo
    go_simp
    all_goals exact hcon
  go_simp
  refine hK.out _ ?_
  clear hK K
  repeat (refine wpGrow_pure rfl (fun K hK => ?_); go_simp; refine hK.out _ ?_; clear hK K)
  refine wpGrow_eff _ rfl (fun wx he hcl => ?_) (fun _ K hK => ?_) rfl
  · clear hcl
    have hq := (he.cell (p := ⟨ga, 0, none⟩) QAL.out).trans QA.out
    go_simp
    exact Below.refl _ _
  go_simp
  refine hK.out _ ?_
  clear hK K
  repeat (refine wpGrow_pure rfl (fun K hK => ?_); go_simp; refine hK.out _ ?_; clear hK K)
  refine wpGrow_eff _ rfl (fun wx he hcl => ?_) (fun _ K hK => ?_) rfl
  · clear hcl
    have hcon := ELN.out wx he
    go_simp
    all_goals exact hcon
  go_simp
  refine hK.out _ ?_
  clear hK K
  repeat (refine wpGrow_pure rfl (fun K hK => ?_); go_simp; refine hK.out _ ?_; clear hK K)
  refine wpGrow_eff _ rfl (fun wx he hcl => ?_) (fun _ K hK => ?_) rfl
  · clear hcl
    have hq := (he.cell (p := ⟨gb, 0, none⟩) QBL.out).trans QB.out
    go_simp
    exact Below.refl _ _
  go_simp
  refine hK.out _ ?_
  clear hK K
  repeat (refine wpGrow_pure rfl (fun K hK => ?_); go_simp; refine hK.out _ ?_; clear hK K)
  refine wpGrow_eff _ rfl (fun wx he hcl => ?_) (fun (x3 : Option Addr × Nat) K hK => ?_) rfl
  · clear hcl
    have hcon := RBY.out wx he
    have hsz := Nat.le_trans HSZ.out he.size
    go_simp
    exact hcon.mono fun e w2 ⟨D, c, he2, ho, hb⟩ => ⟨D, c, he2, own_base ho hsz, hb⟩
  go_simp
  refine hK.out _ ?_
  clear hK K
  repeat (refine wpGrow_pure rfl (fun K hK => ?_); go_simp; refine hK.out _ ?_; clear hK K)
  refine wpGrow_eff _ rfl (fun wx he hcl => ?_) (fun _ K hK => ?_) rfl
  · clear hcl
    have hq := (he.cell (p := ⟨ga, 0, none⟩) QAL.out).trans QA.out
    go_simp
    exact Below.refl _ _
  go_simp
  refine hK.out _ ?_
  clear hK K
  repeat (refine wpGrow_pure rfl (fun K hK => ?_); go_simp; refine hK.out _ ?_; clear hK K)
  refine wpGrow_eff _ rfl (fun wx he hcl => ?_) (fun _ K hK => ?_) rfl
  · clear hcl
    have hcon := EVO.out wx he
    go_simp
    all_goals exact hcon
  go_simp
  refine hK.out _ ?_
  clear hK K
  repeat (refine wpGrow_pure rfl (fun K hK => ?_); go_simp; refine hK.out _ ?_; clear hK K)
  refine wpGrow_eff _ rfl (fun wx he hcl => ?_) (fun _ K hK => ?_) rfl
  · clear hcl
    have hq := (he.cell (p := ⟨gb, 0, none⟩) QBL.out).trans QB.out
    go_simp
    exact Below.refl _ _
  go_simp
  refine hK.out _ ?_
  clear hK K
  repeat (refine wpGrow_pure rfl (fun K hK => ?_); go_simp; refine hK.out _ ?_; clear hK K)
  refine wpGrow_eff _ rfl (fun wx he hcl => ?_) (fun _ K hK => ?_) rfl
  · clear hcl
    have hcon := RVO.out wx he
    go_simp
    all_goals exact hcon
  go_simp
  refine hK.out _ ?_
  clear hK K
  repeat (refine wpGrow_pure rfl (fun K hK => ?_); go_simp; refine hK.out _ ?_; clear hK K)
  refine wpGrow_nil fun wx he hfin => ?_
  clear hfin
  have HSP := Lib.hid (spoil_any wx DB L cB _ _ _ (own_ext HOB.out he) (by omega))
  have hob2 := own_ext HOB.out he
  have WA := HWA3.out.below he HWA3.out.lt
  have WB := HWB3.out.below he HWB3.out.lt
  have HA3 := Lib.hid (HA.out.below (he.mono HSZ.out))
  have HB3 := Lib.hid (HB.out.below (he.mono HSZ.out))
  have hbz := HBZ.out.trans (he.mono HSZ.out)
  have hne : ∀ g, g < W2.heap.size → some g ≠ (Value.slice DB L cB).ownBlock := by
    intro g hg e
    have := hob2.lt g e.symm
    omega
  have HNE := Lib.hid (show some ga ≠ (Value.slice DB L cB).ownBlock ∧ some gb ≠ (Value.slice DB L cB).ownBlock from ⟨hne ga HW2S.out.1, hne gb HW2S.out.2⟩)
  have HWA4 := Lib.hid WA
  have HWB4 := Lib.hid WB
  have HBY := Lib.hid hbz
  clear RBY EBY ELN EVO RVO hob2 WA WB hbz he hne HA HB HSZ QA QB QAL QBL HBR HOB HBZ
  go_wp2_with fail
  refine HSP.out.mono ?_
  clear HSP
  rintro en W3 ⟨rfl, hgr, hbw⟩
  have hbw2 : Below w.heap.size wx W3 := hbw.mono HS2.out
  have HA := Lib.hid (HA3.out.below hbw2)
  have HB := Lib.hid (HB3.out.below hbw2)
  have HBZ := Lib.hid (HBY.out.trans hbw2)
  have HSZ := Lib.hid HBZ.out.size
  have WA := HWA4.out.grown hgr HNE.out.1
  have WB := HWB4.out.grown hgr HNE.out.2
  have qa := WA.cell 0
  have qb := WB.cell 0
  simp at qa qb
  have QA := Lib.hid qa
  have QB := Lib.hid qb
  have QAL := Lib.hid WA.lt
  have QBL := Lib.hid WB.lt
  clear hgr hbw hbw2 WA WB HA3 HB3 HWA4 HWB4 HBY HNE
  have RBY := Lib.hid (show ∀ wx, Below W3.heap.size W3 wx → Calls Try.prog 31 #[.agg #[.slice A' N' cap']] wx (Fresh wx.heap.size 5 1 L (byts bs) wx) from fun wx he => by
    have hcon := rbytes_any wx A' N' cap' fs w.heap.size (Nat.le_trans HSZ.out he.size) (HB.out.below (he.mono HSZ.out)) hN' HBL.out
    rw [HLM.out, HBS.out] at hcon
    exact hcon)
  have EBY := Lib.hid (show ∀ wx, Below W3.heap.size W3 wx → Calls Try.prog 21 #[.agg #[.slice A N cap]] wx (Fresh wx.heap.size 5 1 L (byts bs) wx) from fun wx he => by
    have hcon := ebytes_any wx A N cap fs w.heap.size (Nat.le_trans HSZ.out he.size) (HA.out.below (he.mono HSZ.out)) hN HBL.out
    rw [HLM.out, HBS.out] at hcon
    exact hcon)
  go_wp2_with fail
  clear qa qb
  refine wp_region_grow (fun k' => List.lookup k' [(2, .fix (.agg #[.slice A N cap])), (3, .own w.heap.size 5 1 L (byts bs)), (4, .fix (.agg #[.slice A' N' cap'])), (5, .own w.heap.size 5 1 L (byts bs)), (6, .fix (.bool true))]) (by as_aux_lemma => kernel_rfl) (by as_aux_lemma => kernel_rfl) ?_
  repeat (refine wpGrow_pure rfl (fun K hK => ?_); go_simp; refine hK.out _ ?_; clear hK K)
  refine wpGrow_eff _ rfl (fun wx he hcl => ?_) (fun _ K hK => ?_) rfl
  · clear hcl
    have hq := (he.cell (p := ⟨ga, 0, none⟩) QAL.out).trans QA.out
    go_simp
    exact Below.refl _ _
  go_simp
  refine hK.out _ ?_
  clear hK K
  repeat (refine wpGrow_pure rfl (fun K hK => ?_); go_simp; refine hK.out _ ?_; clear hK K)
  refine wpGrow_eff _ rfl (fun wx he hcl => ?_) (fun (x2 : Option Addr × Nat) K hK => ?_) rfl
  · clear hcl
    have hcon := EBY.out wx he
    have hsz := Nat.le_trans HSZ.out he.size
    go_simp
    exact hcon.mono fun e w2 ⟨D, c, he2, ho, hb⟩ => ⟨D, c, he2, own_base ho hsz, hb⟩
  go_simp
  refine hK.out _ ?_
  clear hK K
  repeat (refine wpGrow_pure rfl (fun K hK => ?_); go_simp; refine hK.out _ ?_; clear hK K)
  refine wpGrow_eff _ rfl (fun wx he hcl => ?_) (fun _ K hK => ?_) rfl
  · clear hcl
    have hq := (he.cell (p := ⟨gb, 0, none⟩) QBL.out).trans QB.out
    go_simp
    exact Below.refl _ _
  go_simp
  refine hK.out _ ?_
  clear hK K
  repeat (refine wpGrow_pure rfl (fun K hK => ?_); go_simp; refine hK.out _ ?_; clear hK K)
  refine wpGrow_eff _ rfl (fun wx he hcl => ?_) (fun (x3 : Option Addr × Nat) K hK => ?_) rfl
  · clear hcl
    have hcon := RBY.out wx he
    have hsz := Nat.le_trans HSZ.out he.size
    go_simp
    exact hcon.mono fun e w2 ⟨D, c, he2, ho, hb⟩ => ⟨D, c, he2, own_base ho hsz, hb⟩
  go_simp
  refine hK.out _ ?_
  clear hK K
  repeat (refine wpGrow_pure rfl (fun K hK => ?_); go_simp; refine hK.out _ ?_; clear hK K)
  refine wpGrow_eff _ rfl (fun wx he hcl => ?_) (fun _ K hK => ?_) rfl
  · have hoo : wx.ownsRow w.heap.size 5 1 (.slice x2.1 L x2.2) L (byts bs) := hcl.out 3 rfl
    have hop : wx.ownsRow w.heap.size 5 1 (.slice x3.1 L x3.2) L (byts bs) := hcl.out 5 rfl
    clear hcl
    have hcon := same_any wx x2.1 L x2.2 bs x3.1 L x3.2 bs wx.heap.size wx.heap.size (Nat.le_refl _) (Nat.le_refl _) (Rd.of_own hoo) (Rd.of_own hop) (by omega) (by omega) true (by simp)
    clear hoo hop
    go_simp
    all_goals exact hcon
  go_simp
  refine hK.out _ ?_
  clear hK K
  repeat (refine wpGrow_pure rfl (fun K hK => ?_); go_simp; refine hK.out _ ?_; clear hK K)
  refine wpGrow_nil fun wy he hfin => ?_
  clear hfin
  have hbz := HBZ.out.trans (he.mono HSZ.out)
  clear he
  go_wp2_with fail
  go_ret
  exact ⟨rfl, hbz⟩
end Go.Proofs.Ytankhjchdnfpfaa
