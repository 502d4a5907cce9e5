/-
  Files in parts: ExtentOdd, the law's walk, of few parts and a small act.
-/
import Derived.Test.YtankhjchdnfpfaaExtPlay
import Derived.Test.YtankhjchdnfpfaaExtKeeps
namespace Go.Proofs.Ytankhjchdnfpfaa
open Go.RowKit
attribute [local go_sem] match_undef Oper.growAt Oper.growUpon GSpec.fix GSpec.row GSpec.wh GSpec.own GSpec.fout GSpec.rowc rowFlat
attribute [local irreducible] wpList
/-- The program's file's variable, its row of parts in memory of the call's own. -/
def HoldsE (w : World) (base go : Nat) (G : Nat → Prop) (fs : List Pa) : Prop := ∃ A n c, Whole w go 30 #[.slice A n c] ∧ fs.length = n ∧ ∃ vs, w.ownsRow base 52 2 (.slice A n c) n vs ∧ OwnPa w G 5 fs vs
theorem HoldsE.holds {w : World} {base go : Nat} {G : Nat → Prop} {fs : List Pa} (h : HoldsE w base go G fs) : Holds w go G fs := by
  obtain ⟨A, n, c, h1, h2, vs, h3, h4⟩ := h
  exact ⟨A, n, c, h1, h2, vs, own_base h3 (Nat.zero_le _), h4⟩
theorem act_row {w : World} {g B : Nat} {z : Int} {B1 B2 : Option Addr} {m q e1 e2 : Nat} {bs : List UInt8} {ks : List Bool} (hw : Whole w g 40 #[.int .i64 z, .slice B1 m e1, .slice B2 q e2]) (hB : B ≤ w.heap.size) (hm : bs.length = m) (hq : ks.length = q) (h1 : Rd w B 1 B1 m (byts bs)) (l1 : m ≤ e1) (h2 : Rd w B 1 B2 q (bools ks)) (l2 : q ≤ e2) :
    RdAc w w.heap.size (some ⟨g, 0, none⟩) 1 [(z, bs, ks)] := by
  refine ⟨rfl, fun j hj => ?_⟩
  obtain rfl : j = 0 := by simpa using hj
  subst hm hq
  refine ⟨g, 0, B1, e1, B2, e2, rfl, hw.lt, ?_, ?_, ?_, h1.more hB, l1, h2.more hB, l2⟩
  · rw [hw.cell]; rfl
  · rw [hw.cell]; rfl
  · rw [hw.cell]; rfl
theorem act_ne : 40 ≠ 30 ∧ 40 ≠ 34 ∧ 40 ≠ 52 ∧ 30 ≠ 52 ∧ 34 ≠ 52 := by decide
set_option maxRecDepth 100000 in
set_option maxHeartbeats 16000000 in
theorem odd_any (w : World) (A : Option Addr) (N cap : Nat) (fs : List Pa) (h : RdPa w w.heap.size A N fs) (hN : N ≤ 20) (hf : ∀ p ∈ fs, p.1.length ≤ 30) (z : Int) (B1 : Option Addr) (m e1 : Nat) (bs : List UInt8) (hr1 : Rd w w.heap.size 1 B1 m (byts bs)) (hm1 : m ≤ e1) (hs1 : m ≤ 30) (B2 : Option Addr) (q e2 : Nat) (ks : List Bool) (hr2 : Rd w w.heap.size 1 B2 q (bools ks)) (hm2 : q ≤ e2) (hs2 : q ≤ 30) :
    Calls Try.prog 24 #[.agg #[.slice A N cap], .agg #[.int .i64 z, .slice B1 m e1, .slice B2 q e2]] w fun en w' => en = .returned (.bool true) ∧ Below w.heap.size w w' := by
  have HL := Lib.hid h.1
  have HF := Lib.hid hf
  have HM := Lib.hid hr1.blen
  have HQ := Lib.hid (show ks.length = q from by have := hr2.1; rw [bools_length] at this; omega)
  have hfl := h.1
  have HWK := Lib.hid works_any
  have hbl := Exn.small fs hf
  rw [hfl] at hbl
  obtain ⟨V, hV⟩ : ∃ V, Exn.vol fs = V := ⟨_, rfl⟩
  obtain ⟨L, hL⟩ : ∃ L, (Exn.bytes fs).length = L := ⟨_, rfl⟩
  obtain ⟨bb, hbb⟩ : ∃ L, Exn.bytes fs = L := ⟨_, rfl⟩
  have HV := Lib.hid hV
  have HLM := Lib.hid hL
  have HBS := Lib.hid hbb
  rw [hL] at hbl
  have x1 := below1 w (.cells #[.slice A N cap] 30)
  have x2 := x1.trans ((below1 (w.alloc (.cells #[.slice A N cap] 30)) (.cells #[.int .i64 z, .slice B1 m e1, .slice B2 q e2] 40)).mono x1.size)
  have x3 := x2.trans ((below1 ((w.alloc (.cells #[.slice A N cap] 30)).alloc (.cells #[.int .i64 z, .slice B1 m e1, .slice B2 q e2] 40)) (.cells #[.int .i64 z, .slice B1 m e1, .slice B2 q e2] 40)).mono x2.size)
  have HB3 := Lib.hid x3
  have hz1 : (w.alloc (.cells #[.slice A N cap] 30)).heap.size = w.heap.size + 1 := by simp
  have hz2 : ((w.alloc (.cells #[.slice A N cap] 30)).alloc (.cells #[.int .i64 z, .slice B1 m e1, .slice B2 q e2] 40)).heap.size = w.heap.size + 1 + 1 := by simp
  have HW1 := Lib.hid (((Whole.new w 30 #[.slice A N cap]).alloc (.cells #[.int .i64 z, .slice B1 m e1, .slice B2 q e2] 40)).alloc (.cells #[.int .i64 z, .slice B1 m e1, .slice B2 q e2] 40))
  have hw2 := (Whole.new (w.alloc (.cells #[.slice A N cap] 30)) 40 #[.int .i64 z, .slice B1 m e1, .slice B2 q e2]).alloc (.cells #[.int .i64 z, .slice B1 m e1, .slice B2 q e2] 40)
  have hw3 := Whole.new ((w.alloc (.cells #[.slice A N cap] 30)).alloc (.cells #[.int .i64 z, .slice B1 m e1, .slice B2 q e2] 40)) 40 #[.int .i64 z, .slice B1 m e1, .slice B2 q e2]
  rw [hz1] at hw2
  rw [hz2] at hw3
  have HW2 := Lib.hid hw2
  have HA0 := Lib.hid (act_row hw3 x3.size HM.out HQ.out (hr1.below x3) hm1 (hr2.below x3) hm2)
  have H0 := Lib.hid h
  have X10 := Lib.hid hr1
  have X20 := Lib.hid hr2
  have H := Lib.hid (h.below x3)
  clear h hf hr1 hr2 x1 x2 x3 hz1 hz2 hw2 hw3 hV hL hbb
  have t20 : decide ((20 : Int) < (N : Int)) = false := by simp; omega
  go_enter Try.func24, Try.ntmps24
  go_wp2_with fail
  generalize ((w.alloc (.cells #[.slice A N cap] 30)).alloc (.cells #[.int .i64 z, .slice B1 m e1, .slice B2 q e2] 40)).alloc (.cells #[.int .i64 z, .slice B1 m e1, .slice B2 q e2] 40) = W3 at HB3 HW1 HW2 HA0 H ⊢
  obtain ⟨ga, hga⟩ : ∃ g, w.heap.size + 1 = g := ⟨_, rfl⟩
  obtain ⟨gF, hgF⟩ : ∃ g, w.heap.size = g := ⟨_, rfl⟩
  rw [hga] at HW2 HA0 ⊢
  have HWF := Lib.hid (show Whole W3 gF 30 #[.slice A N cap] from by rw [← hgF]; exact HW1.out)
  rw [show (Value.pointer (some { block := w.heap.size, off := 0 })) = Value.pointer (some { block := gF, off := 0 }) from by rw [hgF]]
  have HC := Lib.hid (show Calls Try.prog 6 #[.slice (some ⟨ga + 1, 0, none⟩) 1 1, .int .i64 1] W3 (fun en w' => en = .returned (.bool true) ∧ W3 = w') from few_any W3 _ 1 1 [(z, bs, ks)] W3.heap.size HA0.out (by omega) 1 true (by
    refine ⟨fun _ => ⟨fun a ha _ => ?_, by simp⟩, fun _ => rfl⟩
    obtain rfl : a = 0 := by simpa using ha
    exact ⟨by show bs.length ≤ 30; rw [HM.out]; exact hs1, by show ks.length ≤ 30; rw [HQ.out]; exact hs2⟩))
  refine HC.out.mono ?_
  clear HC HA0 HW1
  rintro en w' ⟨rfl, rfl⟩
  have HGF := Lib.hid (show w.heap.size ≤ gF by omega)
  have hq0 := HWF.out.cell 0
  simp at hq0
  clear hga hgF
  go_wp2_with fail
  go_loopw [5] (fun i wr => ∃ j : Nat, j ≤ N ∧ i = .int .i64 j ∧ wr = W3) (fun i _ => N - (intOf i).toNat)
  case atStart => exact ⟨0, by omega, rfl, rfl⟩
  case round =>
    obtain ⟨j, hj, rfl, rfl⟩ := hrel
    by_cases hlt : j < N
    · have hjl : j < fs.length := by have := HL.out; omega
      obtain ⟨b1, o1, A1, c1, rfl, hb1, hp1, hq1, _, _, _⟩ := H.out.2 j hjl
      have hd : decide ((j : Int) < (N : Int)) = true := by simp; omega
      have d1 : (0 : Int) ≤ (j : Int) := by omega
      have d2 : (j : Int) < (N : Int) := by omega
      have hml := HF.out _ (List.getElem_mem hjl)
      obtain ⟨ml, hml2⟩ : ∃ m, fs[j].1.length = m := ⟨_, rfl⟩
      rw [hml2] at hp1 hml
      clear hml2
      have t1 : decide ((30 : Int) < (ml : Int)) = false := by simp; omega
      go_wp2_with fail
      go_roundw
      case rel => exact ⟨j + 1, by omega, by go_num, by first | rfl | trivial⟩
      case measure => simp [intOf] <;> omega
    · obtain rfl : j = N := by omega
      have hd : decide ((j : Int) < (j : Int)) = false := by simp
      have HC := Lib.hid (lref_any wr AnyG (anyG _) A j cap fs (H.out.more HB3.out.size) (by omega) (fun p hp => by have := HF.out p hp; omega))
      go_wp2_with fail
      refine HC.out.mono ?_
      clear HC
      rintro en w4 ⟨Ar, nr, cr, rfl, hfr, hb4⟩
      have y1 := hb4.trans ((below1 w4 (.cells #[.slice Ar nr cr] 34)).mono hb4.size)
      have y2 := y1.trans ((below1 (w4.alloc (.cells #[.slice Ar nr cr] 34)) (.cells #[.slice none 0 0] 30)).mono y1.size)
      have hz1 : (w4.alloc (.cells #[.slice Ar nr cr] 34)).heap.size = w4.heap.size + 1 := by simp
      have hlr : HoldsR ((w4.alloc (.cells #[.slice Ar nr cr] 34)).alloc (.cells #[.slice none 0 0] 30)) w4.heap.size AnyG fs := ⟨Ar, nr, cr, (Whole.new w4 34 #[.slice Ar nr cr]).alloc _, hfr.ext ((below1 w4 _).trans ((below1 (w4.alloc (.cells #[.slice Ar nr cr] 34)) (.cells #[.slice none 0 0] 30)).mono (below1 w4 _).size))⟩
      have hwo := Whole.new (w4.alloc (.cells #[.slice Ar nr cr] 34)) 30 #[.slice none 0 0]
      rw [hz1] at hwo
      have HLR := Lib.hid hlr
      have HWO := Lib.hid hwo
      have HY := Lib.hid y2
      have HY4 := Lib.hid hb4.size
      clear hfr hb4 y1 y2 hlr hwo hz1
      go_wp2_with fail
      generalize (w4.alloc (.cells #[.slice Ar nr cr] 34)).alloc (.cells #[.slice none 0 0] 30) = W5 at HLR HWO HY ⊢
      obtain ⟨g7, hg7⟩ : ∃ g, w4.heap.size + 1 = g := ⟨_, rfl⟩
      obtain ⟨gr, hgr⟩ : ∃ g, w4.heap.size = g := ⟨_, rfl⟩
      have hsz4 := Nat.le_trans HB3.out.size HY4.out
      have HG7 := Lib.hid (show w.heap.size ≤ g7 by omega)
      have HGR := Lib.hid (show w.heap.size ≤ gr by omega)
      have HFL := Lib.hid (show gF < g7 ∧ ga < g7 from ⟨by have := HWF.out.lt; have := HY4.out; omega, by have := HW2.out.lt; have := HY4.out; omega⟩)
      have n7r : ¬ g7 = gr := by omega
      have nr7 : ¬ gr = g7 := by omega
      rw [hg7] at HWO ⊢
      rw [hgr] at HLR
      rw [show (Value.pointer (some { block := w4.heap.size, off := 0 })) = Value.pointer (some { block := gr, off := 0 }) from by rw [hgr]]
      clear hg7 hgr hsz4 HY4
      have HWF5 := Lib.hid (HWF.out.below HY.out HWF.out.lt)
      have HWA5 := Lib.hid (HW2.out.below HY.out HW2.out.lt)
      have HB5 := Lib.hid (HB3.out.trans (HY.out.mono HB3.out.size))
      clear HWF HW2 HB3 H HY hq0
      go_loopw [8] (fun i wr => ∃ j0 : Nat, j0 ≤ j ∧ i = .int .i64 j0 ∧ Hid (HoldsE wr w.heap.size g7 AnyG (fs.take j0)) ∧ Hid (HoldsR wr gr AnyG fs) ∧ Hid (Whole wr gF 30 #[.slice A j cap]) ∧ Hid (Whole wr ga 40 #[.int .i64 z, .slice B1 m e1, .slice B2 q e2]) ∧ Hid (Below w.heap.size w wr)) (fun i _ => j - (intOf i).toNat)
      case atStart => exact ⟨0, by omega, rfl, ⟨none, 0, 0, HWO.out, rfl, [], World.ownsRow_nil _ _ _ _, OwnPa.nil _ _ _⟩, HLR, HWF5, HWA5, HB5⟩
      case round =>
        rename World => wr
        obtain ⟨i, hi, rfl, HE, HR, HF5, HA5, HB⟩ := hrel
        obtain ⟨A3, n3, c3, hw3, hl3, vs3, ho3, hp3⟩ := HE.out
        obtain ⟨A4, n4, c4, hw4, hf4⟩ := HR.out
        have hn4 : n4 = j := by rw [← hf4.1, HL.out]
        subst hn4
        have q4 := hw4.cell 0
        simp at q4
        by_cases hlt : i < n4
        · have q3 := hw3.cell 0
          simp at q3
          have hjl : i < fs.length := by have := HL.out; omega
          obtain ⟨b1, o1, A1, c1, rfl, hb1, hp1, hq1, _, _, hr1⟩ := hf4.rd.2 i hjl
          have hd : decide ((i : Int) < (n4 : Int)) = true := by simp; omega
          have d1 : (0 : Int) ≤ (i : Int) := by omega
          have d2 : (i : Int) < (n4 : Int) := by omega
          have hml := HF.out _ (List.getElem_mem hjl)
          have hsl : n3 ≤ 1000000 := by
            rw [List.length_take] at hl3
            omega
          have HTK := Lib.hid (show fs.take (i + 1) = fs.take i ++ [fs[i]] from by rw [List.take_succ_eq_append_getElem hjl])
          obtain ⟨p, hp⟩ : ∃ p, fs[i] = p := ⟨_, rfl⟩
          rw [hp] at hp1 hq1 hr1 hml HTK
          obtain ⟨l, d⟩ := p
          simp only at hp1 hq1 hr1 hml
          obtain ⟨ml, hm⟩ : ∃ m, l.length = m := ⟨_, rfl⟩
          rw [hm] at hp1 hr1 hml
          have HLN := Lib.hid hm
          have HO5 := Lib.hid ho3
          have HP5 := Lib.hid hp3
          have HL3 := Lib.hid hl3
          have Q1 := Lib.hid hq1
          have Q1L := Lib.hid hb1
          have HW3 := Lib.hid hw3
          have HW4 := Lib.hid hw4
          have HF4 := Lib.hid hf4
          have HR1 := Lib.hid hr1
          have HSZ := Lib.hid HB.out.size
          have QO := Lib.hid q3
          have QOL := Lib.hid hw3.lt
          have QB := Lib.hid q4
          have QBL := Lib.hid hw4.lt
          have P1 := Lib.hid hp1
          have P1L := Lib.hid hb1
          clear hp hm ho3 hp3 hl3 hw3 hw4 hf4 hr1 HE HR hb1
          go_wp2_with fail
          clear q3 q4 hp1 hq1
          refine wp_region_tail 17 (fun k' => List.lookup k' [(1, .fix (.slice A3 n3 c3)), (3, .fix (.slice (some ⟨b1, o1, none⟩) n4 c4)), (7, .fix (.slice A1 ml c1)), (8, .own w.heap.size 5 1 ml (byts l)), (10, .fix (.slice (some ⟨b1, o1, none⟩) n4 c4)), (14, .fix (.bool d)), (16, .rowc 52 1)]) (by as_aux_lemma => kernel_rfl) (by as_aux_lemma => kernel_rfl) (by as_aux_lemma => kernel_rfl) ?_
          simp only [List.take_succ_cons, List.take_zero]
          repeat (refine wpGrow_pure rfl (fun K hK => ?_); go_simp; refine hK.out _ ?_; clear hK K)
          refine wpGrow_eff _ rfl (fun wx he hcl => ?_) (fun _ K hK => ?_) rfl
          · clear hcl
            have hq := (he.cell (p := ⟨g7, 0, none⟩) QOL.out).trans QO.out
            go_simp
            exact Below.refl _ _
          go_simp
          refine hK.out _ ?_
          clear hK K
          repeat (refine wpGrow_pure rfl (fun K hK => ?_); go_simp; refine hK.out _ ?_; clear hK K)
          refine wpGrow_eff _ rfl (fun wx he hcl => ?_) (fun _ K hK => ?_) rfl
          · clear hcl
            have hq := (he.cell (p := ⟨gr, 0, none⟩) QBL.out).trans QB.out
            go_simp
            exact Below.refl _ _
          go_simp
          refine hK.out _ ?_
          clear hK K
          repeat (refine wpGrow_pure rfl (fun K hK => ?_); go_simp; refine hK.out _ ?_; clear hK K)
          refine wpGrow_eff _ rfl (fun wx he hcl => ?_) (fun _ K hK => ?_) rfl
          · clear hcl
            have hq := (he.cell (p := ⟨b1, o1 + i * 2, none⟩) P1L.out).trans P1.out
            go_simp
            exact Below.refl _ _
          go_simp
          refine hK.out _ ?_
          clear hK K
          repeat (refine wpGrow_pure rfl (fun K hK => ?_); go_simp; refine hK.out _ ?_; clear hK K)
          refine wpGrow_eff _ rfl (fun wx he hcl => ?_) (fun (x6 : Option Addr × Nat) K hK => ?_) rfl
          · clear hcl
            have hcon := own_any wx A1 ml c1 l wr.heap.size (HR1.out.below he) (by omega)
            rw [HLN.out] at hcon
            have hsz := Nat.le_trans HSZ.out he.size
            go_simp
            exact hcon.mono fun e w2 ⟨D, c, he2, ho, hb⟩ => ⟨D, c, he2, own_base ho hsz, hb⟩
          go_simp
          refine hK.out _ ?_
          clear hK K
          repeat (refine wpGrow_pure rfl (fun K hK => ?_); go_simp; refine hK.out _ ?_; clear hK K)
          refine wpGrow_eff _ rfl (fun wx he hcl => ?_) (fun _ K hK => ?_) rfl
          · clear hcl
            have hq := (he.cell (p := ⟨gr, 0, none⟩) QBL.out).trans QB.out
            go_simp
            exact Below.refl _ _
          go_simp
          refine hK.out _ ?_
          clear hK K
          repeat (refine wpGrow_pure rfl (fun K hK => ?_); go_simp; refine hK.out _ ?_; clear hK K)
          refine wpGrow_eff _ rfl (fun wx he hcl => ?_) (fun _ K hK => ?_) rfl
          · clear hcl
            have hq := (he.cell (p := ⟨b1, o1 + i * 2 + 1, none⟩) Q1L.out).trans Q1.out
            go_simp
            exact Below.refl _ _
          go_simp
          refine hK.out _ ?_
          clear hK K
          repeat (refine wpGrow_pure rfl (fun K hK => ?_); go_simp; refine hK.out _ ?_; clear hK K)
          refine wpGrow_eff _ rfl (fun wx he hcl => ?_) (fun (g23 : Nat) K hK => ?_) rfl
          · clear hcl
            go_simp
            exact ⟨Whole.new _ _ _, (Below.refl _ _).alloc (Nat.le_refl _) _⟩
          go_simp
          refine hK.out _ ?_
          clear hK K
          repeat (refine wpGrow_pure rfl (fun K hK => ?_); go_simp; refine hK.out _ ?_; clear hK K)
          refine wpGrow_nil fun wx he hfin => ?_
          obtain ⟨D6, c6⟩ := x6
          have ho6 : wx.ownsRow w.heap.size 5 1 (.slice D6 ml c6) ml (byts l) := hfin.out 8
          have hw23 : Whole wx g23 52 #[.slice D6 ml c6, .bool d] := hfin.out 16
          clear hfin
          simp only
          have HRD := Lib.hid (show Rd wx wx.heap.size 2 (some ⟨g23, 0, none⟩) 1 [.slice D6 ml c6, .bool d] from ⟨rfl, fun _ => ⟨g23, 0, rfl, hw23.lt, fun a u hu => by
            rw [Nat.zero_add, hw23.cell a, ← hu]
            simp⟩⟩)
          have HO6 := Lib.hid (own_base ho6 (Nat.zero_le _))
          have HO7 := Lib.hid (own_ext HO5.out he)
          have HP7 := Lib.hid (HP5.out.ext he)
          have HK7 := Lib.hid (HW3.out.below he QOL.out)
          have HB7 := Lib.hid (HW4.out.below he QBL.out)
          have HF7 := Lib.hid (HF4.out.ext he)
          have HX7 := Lib.hid (HF5.out.below he HF5.out.lt)
          have HA7 := Lib.hid (HA5.out.below he HA5.out.lt)
          have hb7 := HB.out.trans (he.mono HB.out.size)
          have hs7 := hb7.size
          have HBB := Lib.hid hb7
          clear ho6 hw23 he hb7 HB HO5 HP5 QO QB P1 Q1 QOL QBL P1L Q1L HSZ HF5 HA5 HW3 HW4 HF4
          simp only [List.drop_succ_cons, List.drop_zero]
          go_wp2_with (at_builtin; refine wpList_append_rd _ rfl (.tmp 47) (.tmp 62) _ rfl partV w.heap.size _ n3 _ rfl HO7.out wx.heap.size (some ⟨g23, 0, none⟩) 1 1 _ rfl HRD.out (one_part _ _ _ _) (by unfold maxLen; omega) (by omega) hs7 ?_; intro D8 c8 w8 ho8 hb8 hg8 _; have HP8 := Lib.hid ((HP7.out.snoc (d := d) HLN.out HO6.out (fun _ _ _ => trivial)).kept hg8 HO7.out (Ne.symm rpart_ne.2.2.2.2.2.1)); have HO8 := Lib.hid ho8; have u7 := HK7.out.kept hg8 HO7.out part_ne.2.2.2.1; have u6 := HB7.out.kept hg8 HO7.out (Ne.symm act_ne.2.2.2.2); have u5 := HX7.out.kept hg8 HO7.out part_ne.2.2.2.1; have u4 := HA7.out.kept hg8 HO7.out (Ne.symm act_ne.2.2.1); have q7 := u7.cell 0; have f7 := u7.frozen 0; simp at q7; have HU7 := Lib.hid u7; have HU6 := Lib.hid u6; have HU5 := Lib.hid u5; have HU4 := Lib.hid u4; have HF8 := Lib.hid (show File w8 AnyG 57 5 (some ⟨b1, o1, none⟩) n4 c4 fs from ⟨HF7.out.1, HF7.out.2.choose, own_kept HF7.out.2.choose_spec.1 hg8 HO7.out part_ne.2.2.2.2.2, HF7.out.2.choose_spec.2.keep fun _ _ _ ho => own_kept ho hg8 HO7.out (Ne.symm rpart_ne.2.2.2.2.2.1)⟩); have HB8 := Lib.hid (HBB.out.trans hb8); clear ho8 hb8 hg8 u7 u6 u5 u4)
          have hgw := grow_put (w := w8) (g := g7) (.slice D8 (n3 + 1) c8)
          have HW9 := Lib.hid (HU7.out.put_ 0 (.slice D8 (n3 + 1) c8))
          have HO9 := Lib.hid (own_far HO8.out HU7.out hgw part_ne.2.2.2.1)
          have HP9 := Lib.hid (HP8.out.keep fun _ _ _ ho => own_far ho HU7.out hgw part_ne.2.2.1)
          have HB9 := Lib.hid (HU6.out.far_of hgw n7r)
          have HF9 := Lib.hid (HF8.out.far HU7.out hgw part_ne.2.2.2.2.1 part_ne.2.2.1)
          have HX9 := Lib.hid (HU5.out.far_of hgw (by have := HFL.out.1; omega))
          have HA9 := Lib.hid (HU4.out.far_of hgw (by have := HFL.out.2; omega))
          have hb9 := HB8.out.setCell (p := ⟨g7, 0, none⟩) HG7.out (.slice D8 (n3 + 1) c8)
          have hl9 : (fs.take i ++ [(l, d)]).length = n3 + 1 := by rw [List.length_append, HL3.out]; rfl
          have HL9 := Lib.hid hl9
          clear hgw hl9
          go_roundw
          case rel => exact ⟨i + 1, by omega, by go_num, ⟨D8, n3 + 1, c8, HW9.out, by rw [HTK.out]; exact HL9.out, _, HO9.out, by rw [HTK.out]; exact HP9.out⟩, ⟨_, _, _, HB9.out, HF9.out⟩, HX9, HA9, hb9⟩
          case measure => simp [intOf] <;> omega
        · obtain rfl : i = n4 := by omega
          have hd : decide ((i : Int) < (i : Int)) = false := by simp
          have ht : fs.take i = fs := List.take_of_length_le (by rw [HL.out]; omega)
          have hhe := HE.out.holds
          rw [ht] at hhe
          have K1 := Lib.hid hhe
          have HW4 := Lib.hid hw4
          have HF4 := Lib.hid hf4
          have Q5 := HF5.out.cell 0
          simp at Q5
          have QA := Lib.hid Q5
          have QAL := Lib.hid HF5.out.lt
          have QB := Lib.hid q4
          have QBL := Lib.hid hw4.lt
          have HA := Lib.hid (H0.out.below HB.out)
          have HSZ := Lib.hid HB.out.size
          have HSR := Lib.hid (hf4.rd)
          clear hw4 hf4 HE HR ht hhe Q5 HWO HLR HWF5 HWA5 HB5
          clear hw3 hl3 ho3 hp3
          have RBY := Lib.hid (show ∀ wx, Below wr.heap.size wr wx → Calls Try.prog 31 #[.agg #[.slice A4 i c4]] wx (Fresh wx.heap.size 5 1 L (byts bb) wx) from fun wx he => by
            have hcon := rbytes_any wx A4 i c4 fs wr.heap.size he.size (HSR.out.below he) (by omega) (by rw [HLM.out]; omega)
            rw [HLM.out, HBS.out] at hcon
            exact hcon)
          have EBY := Lib.hid (show ∀ wx, Below wr.heap.size wr wx → Calls Try.prog 21 #[.agg #[.slice A i cap]] wx (Fresh wx.heap.size 5 1 L (byts bb) wx) from fun wx he => by
            have hcon := ebytes_any wx A i cap fs w.heap.size (Nat.le_trans HSZ.out he.size) (HA.out.below (he.mono HSZ.out)) (by omega) (by rw [HLM.out]; omega)
            rw [HLM.out, HBS.out] at hcon
            exact hcon)
          have ELN := Lib.hid (show ∀ wx, Below wr.heap.size wr wx → Calls Try.prog 20 #[.agg #[.slice A i cap]] wx (fun en w' => en = .returned (.int .i64 (L : Nat)) ∧ Below wx.heap.size wx w') from fun wx he => by
            have hcon := elen_any wx A i cap fs w.heap.size (Nat.le_trans HSZ.out he.size) (HA.out.below (he.mono HSZ.out)) (by omega) (by rw [HLM.out]; omega)
            rw [HLM.out] at hcon
            exact hcon)
          have EVO := Lib.hid (show ∀ wx, Below wr.heap.size wr wx → Calls Try.prog 22 #[.agg #[.slice A i cap]] wx (fun en w' => en = .returned (.int .i64 (V : Nat)) ∧ Below wx.heap.size wx w') from fun wx he => by
            have hcon := evol_any wx A i cap fs w.heap.size (Nat.le_trans HSZ.out he.size) (HA.out.below (he.mono HSZ.out)) (by omega)
            rw [HV.out] at hcon
            exact hcon)
          have RVO := Lib.hid (show ∀ wx, Below wr.heap.size wr wx → Calls Try.prog 32 #[.agg #[.slice A4 i c4]] wx (fun en w' => en = .returned (.int .i64 (V : Nat)) ∧ Below wx.heap.size wx w') from fun wx he => by
            have hcon := rvol_any wx A4 i c4 fs wr.heap.size he.size (HSR.out.below he) (by omega)
            rw [HV.out] at hcon
            exact hcon)
          go_wp2_with fail
          clear q4
          refine wp_region_grow (fun k' => List.lookup k' [(0, .fix (.agg #[.slice A i cap])), (1, .own w.heap.size 5 1 L (byts bb)), (2, .fix (.agg #[.slice A4 i c4])), (3, .own w.heap.size 5 1 L (byts bb)), (4, .fix (.bool true)), (7, .fix (.agg #[.slice A i cap])), (8, .fix (.int .i64 (L : Nat))), (9, .fix (.agg #[.slice A4 i c4])), (10, .own w.heap.size 5 1 L (byts bb)), (15, .fix (.agg #[.slice A i cap])), (16, .fix (.int .i64 (V : Nat))), (17, .fix (.agg #[.slice A4 i c4])), (18, .fix (.int .i64 (V : Nat)))]) (by as_aux_lemma => kernel_rfl) (by as_aux_lemma => kernel_rfl) ?_
          repeat (refine wpGrow_pure rfl (fun K hK => ?_); go_simp; refine hK.out _ ?_; clear hK K)
          refine wpGrow_eff _ rfl (fun wx he hcl => ?_) (fun _ K hK => ?_) rfl
          · clear hcl
            have hq := (he.cell (p := ⟨gF, 0, none⟩) QAL.out).trans QA.out
            go_simp
            exact Below.refl _ _
          go_simp
          refine hK.out _ ?_
          clear hK K
          repeat (refine wpGrow_pure rfl (fun K hK => ?_); go_simp; refine hK.out _ ?_; clear hK K)
          refine wpGrow_eff _ rfl (fun wx he hcl => ?_) (fun (xa : Option Addr × Nat) K hK => ?_) rfl
          · clear hcl
            have hcon := EBY.out wx he
            have hsz := Nat.le_trans HSZ.out he.size
            go_simp
            exact hcon.mono fun e w2 ⟨D, c, he2, ho, hb⟩ => ⟨D, c, he2, own_base ho hsz, hb⟩
          go_simp
          refine hK.out _ ?_
          clear hK K
          repeat (refine wpGrow_pure rfl (fun K hK => ?_); go_simp; refine hK.out _ ?_; clear hK K)
          refine wpGrow_eff _ rfl (fun wx he hcl => ?_) (fun _ K hK => ?_) rfl
          · clear hcl
            have hq := (he.cell (p := ⟨gr, 0, none⟩) QBL.out).trans QB.out
            go_simp
            exact Below.refl _ _
          go_simp
          refine hK.out _ ?_
          clear hK K
          repeat (refine wpGrow_pure rfl (fun K hK => ?_); go_simp; refine hK.out _ ?_; clear hK K)
          refine wpGrow_eff _ rfl (fun wx he hcl => ?_) (fun (xb : Option Addr × Nat) K hK => ?_) rfl
          · clear hcl
            have hcon := RBY.out wx he
            have hsz := Nat.le_trans HSZ.out he.size
            go_simp
            exact hcon.mono fun e w2 ⟨D, c, he2, ho, hb⟩ => ⟨D, c, he2, own_base ho hsz, hb⟩
          go_simp
          refine hK.out _ ?_
          clear hK K
          repeat (refine wpGrow_pure rfl (fun K hK => ?_); go_simp; refine hK.out _ ?_; clear hK K)
          refine wpGrow_eff _ rfl (fun wx he hcl => ?_) (fun _ K hK => ?_) rfl
          · have hoo : wx.ownsRow w.heap.size 5 1 (.slice xa.1 L xa.2) L (byts bb) := hcl.out 1 rfl
            have hop : wx.ownsRow w.heap.size 5 1 (.slice xb.1 L xb.2) L (byts bb) := hcl.out 3 rfl
            clear hcl
            have hcon := same_any wx xa.1 L xa.2 bb xb.1 L xb.2 bb wx.heap.size wx.heap.size (Nat.le_refl _) (Nat.le_refl _) (Rd.of_own hoo) (Rd.of_own hop) (by omega) (by omega) true (by simp)
            clear hoo hop
            go_simp
            all_goals exact hcon
          go_simp
          refine hK.out _ ?_
          clear hK K
          repeat (refine wpGrow_pure rfl (fun K hK => ?_); go_simp; refine hK.out _ ?_; clear hK K)
          refine wpGrow_eff _ rfl (fun wx he hcl => ?_) (fun _ K hK => ?_) rfl
          · clear hcl
            have hq := (he.cell (p := ⟨gF, 0, none⟩) QAL.out).trans QA.out
            go_simp
            exact Below.refl _ _
          go_simp
          refine hK.out _ ?_
          clear hK K
          repeat (refine wpGrow_pure rfl (fun K hK => ?_); go_simp; refine hK.out _ ?_; clear hK K)
          refine wpGrow_eff _ rfl (fun wx he hcl => ?_) (fun _ K hK => ?_) rfl
          · clear hcl
            have hcon := ELN.out wx he
            go_simp
            all_goals exact hcon
          go_simp
          refine hK.out _ ?_
          clear hK K
          repeat (refine wpGrow_pure rfl (fun K hK => ?_); go_simp; refine hK.out _ ?_; clear hK K)
          refine wpGrow_eff _ rfl (fun wx he hcl => ?_) (fun _ K hK => ?_) rfl
          · clear hcl
            have hq := (he.cell (p := ⟨gr, 0, none⟩) QBL.out).trans QB.out
            go_simp
            exact Below.refl _ _
          go_simp
          refine hK.out _ ?_
          clear hK K
          repeat (refine wpGrow_pure rfl (fun K hK => ?_); go_simp; refine hK.out _ ?_; clear hK K)
          refine wpGrow_eff _ rfl (fun wx he hcl => ?_) (fun (xc : Option Addr × Nat) K hK => ?_) rfl
          · clear hcl
            have hcon := RBY.out wx he
            have hsz := Nat.le_trans HSZ.out he.size
            go_simp
            exact hcon.mono fun e w2 ⟨D, c, he2, ho, hb⟩ => ⟨D, c, he2, own_base ho hsz, hb⟩
          go_simp
          refine hK.out _ ?_
          clear hK K
          repeat (refine wpGrow_pure rfl (fun K hK => ?_); go_simp; refine hK.out _ ?_; clear hK K)
          refine wpGrow_eff _ rfl (fun wx he hcl => ?_) (fun _ K hK => ?_) rfl
          · clear hcl
            have hq := (he.cell (p := ⟨gF, 0, none⟩) QAL.out).trans QA.out
            go_simp
            exact Below.refl _ _
          go_simp
          refine hK.out _ ?_
          clear hK K
          repeat (refine wpGrow_pure rfl (fun K hK => ?_); go_simp; refine hK.out _ ?_; clear hK K)
          refine wpGrow_eff _ rfl (fun wx he hcl => ?_) (fun _ K hK => ?_) rfl
          · clear hcl
            have hcon := EVO.out wx he
            go_simp
            all_goals exact hcon
          go_simp
          refine hK.out _ ?_
          clear hK K
          repeat (refine wpGrow_pure rfl (fun K hK => ?_); go_simp; refine hK.out _ ?_; clear hK K)
          refine wpGrow_eff _ rfl (fun wx he hcl => ?_) (fun _ K hK => ?_) rfl
          · clear hcl
            have hq := (he.cell (p := ⟨gr, 0, none⟩) QBL.out).trans QB.out
            go_simp
            exact Below.refl _ _
          go_simp
          refine hK.out _ ?_
          clear hK K
          repeat (refine wpGrow_pure rfl (fun K hK => ?_); go_simp; refine hK.out _ ?_; clear hK K)
          refine wpGrow_eff _ rfl (fun wx he hcl => ?_) (fun _ K hK => ?_) rfl
          · clear hcl
            have hcon := RVO.out wx he
            go_simp
            all_goals exact hcon
          go_simp
          refine hK.out _ ?_
          clear hK K
          repeat (refine wpGrow_pure rfl (fun K hK => ?_); go_simp; refine hK.out _ ?_; clear hK K)
          refine wpGrow_nil fun wx he hfin => ?_
          clear hfin
          have K1n := Lib.hid (K1.out.ext he)
          have K2n := Lib.hid (show HoldsR wx gr AnyG fs from ⟨_, _, _, HW4.out.below he HW4.out.lt, HF4.out.ext he⟩)
          have HA7 := Lib.hid (HA5.out.below he HA5.out.lt)
          have hbn := HB.out.trans (he.mono HB.out.size)
          clear RBY EBY ELN EVO RVO he K1 HW4 HF4 QA QAL QB QBL HA HSZ HSR HA5 HB HF5
          have K1 := K1n
          have K2 := K2n
          have HA5 := HA7
          have HB := Lib.hid hbn
          clear K1n K2n HA7 hbn
          have HC := Lib.hid (show Calls Try.prog 12 #[.int .i64 z, .int .i64 4] wx (fun en w' => en = .returned (.int .i64 (z % 4)) ∧ Below wx.heap.size wx w') from pick_any wx z 4 (by omega) (by omega))
          have qk := HA5.out.cell 0
          simp at qk
          go_wp2_with fail
          refine HC.out.mono ?_
          clear HC qk
          obtain ⟨y, hy⟩ : ∃ y, z % 4 = y := ⟨_, rfl⟩
          rw [hy]
          rintro en w1 ⟨rfl, hbp⟩
          have K1n := Lib.hid (K1.out.ext hbp)
          have K2n := Lib.hid (K2.out.ext hbp)
          have HA7 := Lib.hid (HA5.out.below hbp HA5.out.lt)
          have hbn := HB.out.trans (hbp.mono HB.out.size)
          clear hbp K1 K2 HA5 HB hy
          have K1 := K1n
          have K2 := K2n
          have HA5 := HA7
          have HB := Lib.hid hbn
          clear K1n K2n HA7 hbn
          by_cases hy2 : y = 2
          · subst hy2
            have hfs : fs.length ≤ 20 := by rw [HL.out]; omega
            have HC := Lib.hid (sync_any w1 g7 AnyG fs K1.out (by omega))
            go_wp2_with fail
            refine HC.out.mono ?_
            clear HC
            rintro en w2 hdone
            obtain ⟨rfl, h2, hg2⟩ := hdone.holds
            have L1 := Lib.hid h2
            have L2 := Lib.hid (K2.out.aside K1.out hg2 n7r)
            have hbn := HB.out.grown hg2 HB.out.size (fun k hk => by injection hk with hk; have := HG7.out; omega)
            have LB := Lib.hid hbn
            have LA := Lib.hid (HA5.out.far_of hg2 (by have := HFL.out.2; omega))
            clear hdone h2 hg2 hbn K1 K2 HB HA5
            have hfl2 : (Exn.sync fs).length ≤ 21 := by have := Exn.sync_le fs; omega
            have HMM := Lib.hid (show ∀ p ∈ Exn.sync fs, p.1.length ≤ 30 from Exn.sync_mem HF.out)
            obtain ⟨A5, n5, c5, hw5, hf5⟩ := L1.out
            obtain ⟨A4, n4, c4, hw4, hf4⟩ := L2.out
            have hn5 : n5 ≤ 1000 := by rw [← hf5.1]; omega
            have hn4 : n4 ≤ 1000 := by rw [← hf4.1]; omega
            have q5 := hw5.cell 0
            have q4 := hw4.cell 0
            simp at q5 q4
            have Q5 := Lib.hid q5
            have Q5L := Lib.hid hw5.lt
            have Q4 := Lib.hid q4
            have Q4L := Lib.hid hw4.lt
            have QKL := Lib.hid LA.out.lt
            have qk1 := LA.out.cell 1
            have qk2 := LA.out.cell 2
            simp at qk1 qk2
            have QK1 := Lib.hid qk1
            have QK2 := Lib.hid qk2
            have QK1L := QKL
            have QK2L := QKL
            have HF5 := Lib.hid hf5
            have HF4 := Lib.hid hf4
            have HSW := Lib.hid LB.out.size
            have Y1 := Lib.hid (X10.out.below LB.out)
            have Y2 := Lib.hid (X20.out.below LB.out)
            clear hw5 hw4 hf5 hf4 q5 q4 qk1 qk2
            go_wp2_with fail
            refine wp_region_grow (fun k' => List.lookup k' [(0, .fix (.agg #[.slice A5 n5 c5])), (1, .fout AnyG (Exn.sync fs)), (2, .fix (.agg #[.slice A4 n4 c4])), (3, .fout AnyG (Exn.sync fs)), (4, .fix (.bool true)), (6, .fix (.bool true))]) (by as_aux_lemma => kernel_rfl) (by as_aux_lemma => kernel_rfl) ?_
            repeat (refine wpGrow_pure rfl (fun K hK => ?_); go_simp; refine hK.out _ ?_; clear hK K)
            refine wpGrow_eff _ rfl (fun wx he hcl => ?_) (fun _ K hK => ?_) rfl
            · clear hcl
              have hq := (he.cell (p := ⟨g7, 0, none⟩) Q5L.out).trans Q5.out
              go_simp
              exact Below.refl _ _
            go_simp
            refine hK.out _ ?_
            clear hK K
            repeat (refine wpGrow_pure rfl (fun K hK => ?_); go_simp; refine hK.out _ ?_; clear hK K)
            refine wpGrow_eff _ rfl (fun wx he hcl => ?_) (fun (xa : Option Addr × Nat × Nat) K hK => ?_) rfl
            · clear hcl
              have hcon := lref_any wx AnyG (anyG _) A5 n5 c5 (Exn.sync fs) (HF5.out.ext he).rd (by omega) (fun p hp => by have := HMM.out p hp; omega)
              go_simp
              exact hcon.mono fun e w2 ⟨D, k, c, he2, hf, hb⟩ => ⟨D, k, c, he2, hf, hb⟩
            go_simp
            refine hK.out _ ?_
            clear hK K
            repeat (refine wpGrow_pure rfl (fun K hK => ?_); go_simp; refine hK.out _ ?_; clear hK K)
            refine wpGrow_eff _ rfl (fun wx he hcl => ?_) (fun _ K hK => ?_) rfl
            · clear hcl
              have hq := (he.cell (p := ⟨gr, 0, none⟩) Q4L.out).trans Q4.out
              go_simp
              exact Below.refl _ _
            go_simp
            refine hK.out _ ?_
            clear hK K
            repeat (refine wpGrow_pure rfl (fun K hK => ?_); go_simp; refine hK.out _ ?_; clear hK K)
            refine wpGrow_eff _ rfl (fun wx he hcl => ?_) (fun (xb : Option Addr × Nat × Nat) K hK => ?_) rfl
            · clear hcl
              have hcon := rsync_any wx AnyG (anyG _) A4 n4 c4 fs (HF4.out.ext he).rd (by omega) (fun p hp => by have := HF.out p hp; omega)
              go_simp
              exact hcon.mono fun e w2 ⟨D, k, c, he2, hf, hb⟩ => ⟨D, k, c, he2, hf, hb⟩
            go_simp
            refine hK.out _ ?_
            clear hK K
            repeat (refine wpGrow_pure rfl (fun K hK => ?_); go_simp; refine hK.out _ ?_; clear hK K)
            refine wpGrow_eff _ rfl (fun wx he hcl => ?_) (fun _ K hK => ?_) rfl
            · have hoo : File wx AnyG 57 5 xa.1 xa.2.1 xa.2.2 (Exn.sync fs) := hcl.out 1 rfl
              have hop : File wx AnyG 57 5 xb.1 xb.2.1 xb.2.2 (Exn.sync fs) := hcl.out 3 rfl
              clear hcl
              have hcon := lsame_any wx xa.1 xa.2.1 xa.2.2 (Exn.sync fs) xb.1 xb.2.1 xb.2.2 (Exn.sync fs) hoo.rd hop.rd (by rw [← hoo.1]; omega) (by rw [← hop.1]; omega) (fun p hp => by have := HMM.out p hp; omega) (fun p hp => by have := HMM.out p hp; omega) true (by simp)
              clear hoo hop
              go_simp
              all_goals exact hcon
            go_simp
            refine hK.out _ ?_
            clear hK K
            repeat (refine wpGrow_pure rfl (fun K hK => ?_); go_simp; refine hK.out _ ?_; clear hK K)
            refine wpGrow_eff _ rfl (fun wx he hcl => ?_) (fun _ K hK => ?_) rfl
            · clear hcl
              have hcon := HWK.out wx
              go_simp
              all_goals exact hcon
            go_simp
            refine hK.out _ ?_
            clear hK K
            repeat (refine wpGrow_pure rfl (fun K hK => ?_); go_simp; refine hK.out _ ?_; clear hK K)
            refine wpGrow_nil fun wx he hfin => ?_
            clear hfin
            have hbz := LB.out.trans (he.mono LB.out.size)
            clear he
            go_wp2_with fail
            go_ret
            exact ⟨rfl, hbz⟩
          · have yb2 : (y == 2) = false := by simp [hy2]
            by_cases hy3 : y = 3
            · subst hy3
              have hfs : fs.length ≤ 20 := by rw [HL.out]; omega
              have HKG := Lib.hid (show 0 < q → ∀ b o, B2 = some ⟨b, o, none⟩ → b ≠ g7 from fun h0 b o e => by
                obtain ⟨b', o', e', hb', _⟩ := X20.out.2 h0
                rw [e'] at e
                injection e with e
                injection e with e
                have := HG7.out
                omega)
              have q2 := HA5.out.cell 2
              simp at q2
              have HC := Lib.hid (fail_any w1 g7 AnyG (anyG _) fs K1.out (by omega) (fun p hp => by have := HF.out p hp; omega) B2 q e2 ks ((X20.out.below HB.out).more HB.out.size) hm2 HKG.out)
              go_wp2_with fail
              refine HC.out.mono ?_
              clear HC
              rintro en w2 hdone
              obtain ⟨rfl, h2, hg2⟩ := hdone.holds
              have L1 := Lib.hid h2
              have L2 := Lib.hid (K2.out.aside K1.out hg2 n7r)
              have hbn := HB.out.grown hg2 HB.out.size (fun k hk => by injection hk with hk; have := HG7.out; omega)
              have LB := Lib.hid hbn
              have LA := Lib.hid (HA5.out.far_of hg2 (by have := HFL.out.2; omega))
              clear hdone h2 hg2 hbn K1 K2 HB HA5
              clear q2
              have hfl2 : (Exn.fail fs ks).length ≤ 21 := by have := Exn.fail_len fs ks; omega
              have HMM := Lib.hid (show ∀ p ∈ Exn.fail fs ks, p.1.length ≤ 30 from Exn.fail_mem HF.out)
              obtain ⟨A5, n5, c5, hw5, hf5⟩ := L1.out
              obtain ⟨A4, n4, c4, hw4, hf4⟩ := L2.out
              have hn5 : n5 ≤ 1000 := by rw [← hf5.1]; omega
              have hn4 : n4 ≤ 1000 := by rw [← hf4.1]; omega
              have q5 := hw5.cell 0
              have q4 := hw4.cell 0
              simp at q5 q4
              have Q5 := Lib.hid q5
              have Q5L := Lib.hid hw5.lt
              have Q4 := Lib.hid q4
              have Q4L := Lib.hid hw4.lt
              have QKL := Lib.hid LA.out.lt
              have qk1 := LA.out.cell 1
              have qk2 := LA.out.cell 2
              simp at qk1 qk2
              have QK1 := Lib.hid qk1
              have QK2 := Lib.hid qk2
              have QK1L := QKL
              have QK2L := QKL
              have HF5 := Lib.hid hf5
              have HF4 := Lib.hid hf4
              have HSW := Lib.hid LB.out.size
              have Y1 := Lib.hid (X10.out.below LB.out)
              have Y2 := Lib.hid (X20.out.below LB.out)
              clear hw5 hw4 hf5 hf4 q5 q4 qk1 qk2
              go_wp2_with fail
              refine wp_region_grow (fun k' => List.lookup k' [(0, .fix (.agg #[.slice A5 n5 c5])), (1, .fout AnyG (Exn.fail fs ks)), (2, .fix (.agg #[.slice A4 n4 c4])), (4, .fix (.slice B2 q e2)), (5, .fout AnyG (Exn.fail fs ks)), (6, .fix (.bool true)), (8, .fix (.bool true))]) (by as_aux_lemma => kernel_rfl) (by as_aux_lemma => kernel_rfl) ?_
              repeat (refine wpGrow_pure rfl (fun K hK => ?_); go_simp; refine hK.out _ ?_; clear hK K)
              refine wpGrow_eff _ rfl (fun wx he hcl => ?_) (fun _ K hK => ?_) rfl
              · clear hcl
                have hq := (he.cell (p := ⟨g7, 0, none⟩) Q5L.out).trans Q5.out
                go_simp
                exact Below.refl _ _
              go_simp
              refine hK.out _ ?_
              clear hK K
              repeat (refine wpGrow_pure rfl (fun K hK => ?_); go_simp; refine hK.out _ ?_; clear hK K)
              refine wpGrow_eff _ rfl (fun wx he hcl => ?_) (fun (xa : Option Addr × Nat × Nat) K hK => ?_) rfl
              · clear hcl
                have hcon := lref_any wx AnyG (anyG _) A5 n5 c5 (Exn.fail fs ks) (HF5.out.ext he).rd (by omega) (fun p hp => by have := HMM.out p hp; omega)
                go_simp
                exact hcon.mono fun e w2 ⟨D, k, c, he2, hf, hb⟩ => ⟨D, k, c, he2, hf, hb⟩
              go_simp
              refine hK.out _ ?_
              clear hK K
              repeat (refine wpGrow_pure rfl (fun K hK => ?_); go_simp; refine hK.out _ ?_; clear hK K)
              refine wpGrow_eff _ rfl (fun wx he hcl => ?_) (fun _ K hK => ?_) rfl
              · clear hcl
                have hq := (he.cell (p := ⟨gr, 0, none⟩) Q4L.out).trans Q4.out
                go_simp
                exact Below.refl _ _
              go_simp
              refine hK.out _ ?_
              clear hK K
              repeat (refine wpGrow_pure rfl (fun K hK => ?_); go_simp; refine hK.out _ ?_; clear hK K)
              refine wpGrow_eff _ rfl (fun wx he hcl => ?_) (fun _ K hK => ?_) rfl
              · clear hcl
                have hq := (he.cell (p := ⟨ga, 2, none⟩) QK2L.out).trans QK2.out
                go_simp
                exact Below.refl _ _
              go_simp
              refine hK.out _ ?_
              clear hK K
              repeat (refine wpGrow_pure rfl (fun K hK => ?_); go_simp; refine hK.out _ ?_; clear hK K)
              refine wpGrow_eff _ rfl (fun wx he hcl => ?_) (fun (xb : Option Addr × Nat × Nat) K hK => ?_) rfl
              · clear hcl
                have hcon := rfail_any wx AnyG (anyG _) A4 n4 c4 fs (HF4.out.ext he).rd (by omega) (fun p hp => by have := HF.out p hp; omega) B2 q e2 ks ((Y2.out.below (he.mono HSW.out)).more (Nat.le_trans HSW.out he.size))
                go_simp
                exact hcon.mono fun e w2 ⟨D, k, c, he2, hf, hb⟩ => ⟨D, k, c, he2, hf, hb⟩
              go_simp
              refine hK.out _ ?_
              clear hK K
              repeat (refine wpGrow_pure rfl (fun K hK => ?_); go_simp; refine hK.out _ ?_; clear hK K)
              refine wpGrow_eff _ rfl (fun wx he hcl => ?_) (fun _ K hK => ?_) rfl
              · have hoo : File wx AnyG 57 5 xa.1 xa.2.1 xa.2.2 (Exn.fail fs ks) := hcl.out 1 rfl
                have hop : File wx AnyG 57 5 xb.1 xb.2.1 xb.2.2 (Exn.fail fs ks) := hcl.out 5 rfl
                clear hcl
                have hcon := lsame_any wx xa.1 xa.2.1 xa.2.2 (Exn.fail fs ks) xb.1 xb.2.1 xb.2.2 (Exn.fail fs ks) hoo.rd hop.rd (by rw [← hoo.1]; omega) (by rw [← hop.1]; omega) (fun p hp => by have := HMM.out p hp; omega) (fun p hp => by have := HMM.out p hp; omega) true (by simp)
                clear hoo hop
                go_simp
                all_goals exact hcon
              go_simp
              refine hK.out _ ?_
              clear hK K
              repeat (refine wpGrow_pure rfl (fun K hK => ?_); go_simp; refine hK.out _ ?_; clear hK K)
              refine wpGrow_eff _ rfl (fun wx he hcl => ?_) (fun _ K hK => ?_) rfl
              · clear hcl
                have hcon := HWK.out wx
                go_simp
                all_goals exact hcon
              go_simp
              refine hK.out _ ?_
              clear hK K
              repeat (refine wpGrow_pure rfl (fun K hK => ?_); go_simp; refine hK.out _ ?_; clear hK K)
              refine wpGrow_nil fun wx he hfin => ?_
              clear hfin
              have hbz := LB.out.trans (he.mono LB.out.size)
              clear he
              go_wp2_with fail
              go_ret
              exact ⟨rfl, hbz⟩
            · have yb3 : (y == 3) = false := by simp [hy3]
              have hfs : fs.length ≤ 20 := by rw [HL.out]; omega
              have q2 := HA5.out.cell 1
              simp at q2
              have HC := Lib.hid (app_any w1 g7 AnyG (anyG _) fs K1.out (by omega) B1 m e1 bs w.heap.size HB.out.size (X10.out.below HB.out) (by omega))
              go_wp2_with fail
              refine HC.out.mono ?_
              clear HC
              rintro en w2 hdone
              obtain ⟨rfl, h2, hg2⟩ := hdone.holds
              have L1 := Lib.hid h2
              have L2 := Lib.hid (K2.out.aside K1.out hg2 n7r)
              have hbn := HB.out.grown hg2 HB.out.size (fun k hk => by injection hk with hk; have := HG7.out; omega)
              have LB := Lib.hid hbn
              have LA := Lib.hid (HA5.out.far_of hg2 (by have := HFL.out.2; omega))
              clear hdone h2 hg2 hbn K1 K2 HB HA5
              clear q2
              have hfl2 : (Exn.app fs bs).length ≤ 21 := by have := Exn.app_len fs bs; omega
              have HMM := Lib.hid (show ∀ p ∈ Exn.app fs bs, p.1.length ≤ 30 from Exn.app_mem HF.out (by rw [HM.out]; exact hs1))
              obtain ⟨A5, n5, c5, hw5, hf5⟩ := L1.out
              obtain ⟨A4, n4, c4, hw4, hf4⟩ := L2.out
              have hn5 : n5 ≤ 1000 := by rw [← hf5.1]; omega
              have hn4 : n4 ≤ 1000 := by rw [← hf4.1]; omega
              have q5 := hw5.cell 0
              have q4 := hw4.cell 0
              simp at q5 q4
              have Q5 := Lib.hid q5
              have Q5L := Lib.hid hw5.lt
              have Q4 := Lib.hid q4
              have Q4L := Lib.hid hw4.lt
              have QKL := Lib.hid LA.out.lt
              have qk1 := LA.out.cell 1
              have qk2 := LA.out.cell 2
              simp at qk1 qk2
              have QK1 := Lib.hid qk1
              have QK2 := Lib.hid qk2
              have QK1L := QKL
              have QK2L := QKL
              have HF5 := Lib.hid hf5
              have HF4 := Lib.hid hf4
              have HSW := Lib.hid LB.out.size
              have Y1 := Lib.hid (X10.out.below LB.out)
              have Y2 := Lib.hid (X20.out.below LB.out)
              clear hw5 hw4 hf5 hf4 q5 q4 qk1 qk2
              go_wp2_with fail
              refine wp_region_grow (fun k' => List.lookup k' [(0, .fix (.agg #[.slice A5 n5 c5])), (1, .fout AnyG (Exn.app fs bs)), (2, .fix (.agg #[.slice A4 n4 c4])), (4, .fix (.slice B1 m e1)), (5, .fout AnyG (Exn.app fs bs)), (6, .fix (.bool true)), (8, .fix (.bool true))]) (by as_aux_lemma => kernel_rfl) (by as_aux_lemma => kernel_rfl) ?_
              repeat (refine wpGrow_pure rfl (fun K hK => ?_); go_simp; refine hK.out _ ?_; clear hK K)
              refine wpGrow_eff _ rfl (fun wx he hcl => ?_) (fun _ K hK => ?_) rfl
              · clear hcl
                have hq := (he.cell (p := ⟨g7, 0, none⟩) Q5L.out).trans Q5.out
                go_simp
                exact Below.refl _ _
              go_simp
              refine hK.out _ ?_
              clear hK K
              repeat (refine wpGrow_pure rfl (fun K hK => ?_); go_simp; refine hK.out _ ?_; clear hK K)
              refine wpGrow_eff _ rfl (fun wx he hcl => ?_) (fun (xa : Option Addr × Nat × Nat) K hK => ?_) rfl
              · clear hcl
                have hcon := lref_any wx AnyG (anyG _) A5 n5 c5 (Exn.app fs bs) (HF5.out.ext he).rd (by omega) (fun p hp => by have := HMM.out p hp; omega)
                go_simp
                exact hcon.mono fun e w2 ⟨D, k, c, he2, hf, hb⟩ => ⟨D, k, c, he2, hf, hb⟩
              go_simp
              refine hK.out _ ?_
              clear hK K
              repeat (refine wpGrow_pure rfl (fun K hK => ?_); go_simp; refine hK.out _ ?_; clear hK K)
              refine wpGrow_eff _ rfl (fun wx he hcl => ?_) (fun _ K hK => ?_) rfl
              · clear hcl
                have hq := (he.cell (p := ⟨gr, 0, none⟩) Q4L.out).trans Q4.out
                go_simp
                exact Below.refl _ _
              go_simp
              refine hK.out _ ?_
              clear hK K
              repeat (refine wpGrow_pure rfl (fun K hK => ?_); go_simp; refine hK.out _ ?_; clear hK K)
              refine wpGrow_eff _ rfl (fun wx he hcl => ?_) (fun _ K hK => ?_) rfl
              · clear hcl
                have hq := (he.cell (p := ⟨ga, 1, none⟩) QK1L.out).trans QK1.out
                go_simp
                exact Below.refl _ _
              go_simp
              refine hK.out _ ?_
              clear hK K
              repeat (refine wpGrow_pure rfl (fun K hK => ?_); go_simp; refine hK.out _ ?_; clear hK K)
              refine wpGrow_eff _ rfl (fun wx he hcl => ?_) (fun (xb : Option Addr × Nat × Nat) K hK => ?_) rfl
              · clear hcl
                have hcon := rapp_any wx AnyG (anyG _) A4 n4 c4 fs (HF4.out.ext he).rd (by omega) (fun p hp => by have := HF.out p hp; omega) B1 m e1 bs ((Y1.out.below (he.mono HSW.out)).more (Nat.le_trans HSW.out he.size)) (by omega)
                go_simp
                exact hcon.mono fun e w2 ⟨D, k, c, he2, hf, hb⟩ => ⟨D, k, c, he2, hf, hb⟩
              go_simp
              refine hK.out _ ?_
              clear hK K
              repeat (refine wpGrow_pure rfl (fun K hK => ?_); go_simp; refine hK.out _ ?_; clear hK K)
              refine wpGrow_eff _ rfl (fun wx he hcl => ?_) (fun _ K hK => ?_) rfl
              · have hoo : File wx AnyG 57 5 xa.1 xa.2.1 xa.2.2 (Exn.app fs bs) := hcl.out 1 rfl
                have hop : File wx AnyG 57 5 xb.1 xb.2.1 xb.2.2 (Exn.app fs bs) := hcl.out 5 rfl
                clear hcl
                have hcon := lsame_any wx xa.1 xa.2.1 xa.2.2 (Exn.app fs bs) xb.1 xb.2.1 xb.2.2 (Exn.app fs bs) hoo.rd hop.rd (by rw [← hoo.1]; omega) (by rw [← hop.1]; omega) (fun p hp => by have := HMM.out p hp; omega) (fun p hp => by have := HMM.out p hp; omega) true (by simp)
                clear hoo hop
                go_simp
                all_goals exact hcon
              go_simp
              refine hK.out _ ?_
              clear hK K
              repeat (refine wpGrow_pure rfl (fun K hK => ?_); go_simp; refine hK.out _ ?_; clear hK K)
              refine wpGrow_eff _ rfl (fun wx he hcl => ?_) (fun _ K hK => ?_) rfl
              · clear hcl
                have hcon := HWK.out wx
                go_simp
                all_goals exact hcon
              go_simp
              refine hK.out _ ?_
              clear hK K
              repeat (refine wpGrow_pure rfl (fun K hK => ?_); go_simp; refine hK.out _ ?_; clear hK K)
              refine wpGrow_nil fun wx he hfin => ?_
              clear hfin
              have hbz := LB.out.trans (he.mono LB.out.size)
              clear he
              go_wp2_with fail
              go_ret
              exact ⟨rfl, hbz⟩
end Go.Proofs.Ytankhjchdnfpfaa
