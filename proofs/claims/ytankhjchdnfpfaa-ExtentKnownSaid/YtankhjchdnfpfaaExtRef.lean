/-
  Files in parts: the law's ref.
-/
import Derived.Test.YtankhjchdnfpfaaExtRefs
namespace Go.Proofs.Ytankhjchdnfpfaa
open Go.RowKit
attribute [local go_sem] match_undef Oper.growAt Oper.growUpon GSpec.fix GSpec.row GSpec.wh GSpec.own GSpec.rowc rowFlat
attribute [local irreducible] wpList
theorem part_nf : 57 ≠ 30 := by decide
/-- The document's file's variable, its row of parts in memory of the call's own. -/
def HoldsO (w : World) (base go : Nat) (G : Nat → Prop) (fs : List Pa) : Prop := ∃ A n c, Whole w go 34 #[.slice A n c] ∧ fs.length = n ∧ ∃ vs, w.ownsRow base 57 2 (.slice A n c) n vs ∧ OwnPa w G 5 fs vs
set_option maxRecDepth 100000 in
set_option maxHeartbeats 8000000 in
theorem lref_any (w : World) (G : Nat → Prop) (hG : ∀ g, w.heap.size ≤ g → G g) (A : Option Addr) (N cap : Nat) (fs : List Pa) (h : RdPa w w.heap.size A N fs) (hN : N ≤ 1000000) (hf : ∀ p ∈ fs, p.1.length ≤ 1000000) :
    Calls Try.prog 30 #[.agg #[.slice A N cap]] w (FileOut G fs w) := by
  have HL := Lib.hid h.1
  have H := Lib.hid h
  have HF := Lib.hid hf
  have HGG := Lib.hid hG
  have hb1 := below1 w (.cells #[.slice A N cap] 30)
  have hb2 := hb1.trans ((below1 (w.alloc (.cells #[.slice A N cap] 30)) (.cells #[.slice none 0 0] 34)).mono hb1.size)
  have hb3 := hb2.trans ((below1 ((w.alloc (.cells #[.slice A N cap] 30)).alloc (.cells #[.slice none 0 0] 34)) (.cells #[.slice none 0 0] 34)).mono hb2.size)
  have HB3 := Lib.hid hb3
  have HW7 := Whole.new ((w.alloc (.cells #[.slice A N cap] 30)).alloc (.cells #[.slice none 0 0] 34)) 34 #[.slice none 0 0]
  have HW6 := (Whole.new (w.alloc (.cells #[.slice A N cap] 30)) 34 #[.slice none 0 0]).alloc (.cells #[.slice none 0 0] 34)
  have HW5 := Lib.hid (((Whole.new w 30 #[.slice A N cap]).alloc (.cells #[.slice none 0 0] 34)).alloc (.cells #[.slice none 0 0] 34))
  have hz1 : (w.alloc (.cells #[.slice A N cap] 30)).heap.size = w.heap.size + 1 := by simp
  have hz2 : ((w.alloc (.cells #[.slice A N cap] 30)).alloc (.cells #[.slice none 0 0] 34)).heap.size = w.heap.size + 1 + 1 := by simp
  rw [hz1] at HW6
  rw [hz2] at HW7
  replace HW6 := Lib.hid HW6
  replace HW7 := Lib.hid HW7
  clear h hf hG hb1 hb2 hb3 hz1 hz2
  go_enter Try.func30, Try.ntmps30
  go_wp2_with fail
  generalize ((w.alloc (.cells #[.slice A N cap] 30)).alloc (.cells #[.slice none 0 0] 34)).alloc (.cells #[.slice none 0 0] 34) = W3 at HB3 HW5 HW6 HW7 ⊢
  obtain ⟨go, hgo⟩ : ∃ gt, w.heap.size + 1 + 1 = gt := ⟨_, rfl⟩
  obtain ⟨gr, hgr⟩ : ∃ gr, w.heap.size + 1 = gr := ⟨_, rfl⟩
  obtain ⟨gb, hgb⟩ : ∃ gb, w.heap.size = gb := ⟨_, rfl⟩
  have ne1 : ¬ go = gr := by omega
  have ne2 : ¬ gr = go := by omega
  have ne3 : ¬ go = gb := by omega
  have ne4 : ¬ gb = go := by omega
  have HGO := Lib.hid (show w.heap.size ≤ go by omega)
  have HGR := Lib.hid (show w.heap.size ≤ gr by omega)
  rw [hgo] at HW7 ⊢
  rw [hgr] at HW6 ⊢
  have HGB := Lib.hid hgb
  have HW5b := Lib.hid (show Whole W3 gb 30 #[.slice A N cap] from by rw [← hgb]; exact HW5.out)
  rw [show (Value.pointer (some { block := w.heap.size, off := 0 })) = Value.pointer (some { block := gb, off := 0 }) from by rw [hgb]]
  clear hgo hgr hgb HW5
  go_loopw [4] (fun i wr => ∃ (j : Nat), j ≤ N ∧ i = .int .i64 j ∧ Hid (HoldsO wr w.heap.size go G (fs.take j)) ∧ Hid (Whole wr gb 30 #[.slice A N cap]) ∧ Hid (Whole wr gr 34 #[.slice none 0 0]) ∧ Below w.heap.size w wr) (fun i _ => N - (intOf i).toNat)
  case atStart => exact ⟨0, by omega, rfl, ⟨none, 0, 0, HW7.out, rfl, [], World.ownsRow_nil _ _ _ _, OwnPa.nil _ _ _⟩, HW5b.out, HW6.out, HB3.out⟩
  case round =>
    obtain ⟨j, hj, rfl, HH, HWB, HWR, hb⟩ := hrel
    obtain ⟨A3, n3, c3, hw3, hl3, vs3, ho3, hp3⟩ := HH.out
    have qb := HWB.out.cell 0
    have qo := hw3.cell 0
    simp at qb qo
    by_cases hlt : j < N
    · have hjl : j < fs.length := by have := HL.out; omega
      obtain ⟨b1, o1, A1, c1, rfl, hb1, hp1, hq1, _, _, hr1⟩ := (H.out.below hb).2 j hjl
      have hd : decide ((j : Int) < (N : Int)) = true := by simp; omega
      have d1 : (0 : Int) ≤ (j : Int) := by omega
      have d2 : (j : Int) < (N : Int) := by omega
      have hm1 := HF.out _ (List.getElem_mem hjl)
      have hsl : n3 ≤ 1000000 := by
        rw [List.length_take] at hl3
        omega
      have HTK := Lib.hid (show fs.take (j + 1) = fs.take j ++ [fs[j]] from by rw [List.take_succ_eq_append_getElem hjl])
      obtain ⟨p, hp⟩ : ∃ p, fs[j] = p := ⟨_, rfl⟩
      rw [hp] at hp1 hq1 hr1 hm1 HTK
      obtain ⟨l, d⟩ := p
      simp only at hp1 hq1 hr1 hm1
      obtain ⟨m, hm⟩ : ∃ m, l.length = m := ⟨_, rfl⟩
      rw [hm] at hp1 hr1 hm1
      have HLM := Lib.hid hm
      have HO5 := Lib.hid ho3
      have HP5 := Lib.hid hp3
      have HL3 := Lib.hid hl3
      have Q1 := Lib.hid hq1
      have Q1L := Lib.hid (Nat.lt_of_lt_of_le hb1 hb.size)
      have HW3 := Lib.hid hw3
      have HR1 := Lib.hid hr1
      have HBS := Lib.hid hb.size
      have HSZ := Lib.hid hb.size
      have QO := Lib.hid qo
      have QOL := Lib.hid hw3.lt
      have QB := Lib.hid qb
      have QBL := Lib.hid HWB.out.lt
      have P1 := Lib.hid hp1
      have P1L := Lib.hid (Nat.lt_of_lt_of_le hb1 hb.size)
      clear hp hm ho3 hp3 hl3 hw3 hr1 HH hb1
      go_wp2_with fail
      clear qo qb hp1 hq1
      refine wp_region_tail 17 (fun k' => List.lookup k' [(1, .fix (.slice A3 n3 c3)), (3, .fix (.slice (some ⟨b1, o1, none⟩) N cap)), (7, .fix (.slice A1 m c1)), (8, .own w.heap.size 5 1 m (byts l)), (10, .fix (.slice (some ⟨b1, o1, none⟩) N cap)), (14, .fix (.bool d)), (16, .rowc 57 1)]) (by as_aux_lemma => kernel_rfl) (by as_aux_lemma => kernel_rfl) (by as_aux_lemma => kernel_rfl) ?_
      simp only [List.take_succ_cons, List.take_zero]
      repeat (refine wpGrow_pure rfl (fun K hK => ?_); go_simp; refine hK.out _ ?_; clear hK K)
      refine wpGrow_eff _ rfl (fun wx he hcl => ?_) (fun _ K hK => ?_) rfl
      · clear hcl
        have hq := (he.cell (p := ⟨go, 0, none⟩) QOL.out).trans QO.out
        go_simp
        exact Below.refl _ _
      go_simp
      refine hK.out _ ?_
      clear hK K
      repeat (refine wpGrow_pure rfl (fun K hK => ?_); go_simp; refine hK.out _ ?_; clear hK K)
      refine wpGrow_eff _ rfl (fun wx he hcl => ?_) (fun _ K hK => ?_) rfl
      · clear hcl
        have hq := (he.cell (p := ⟨gb, 0, none⟩) QBL.out).trans QB.out
        go_simp
        exact Below.refl _ _
      go_simp
      refine hK.out _ ?_
      clear hK K
      repeat (refine wpGrow_pure rfl (fun K hK => ?_); go_simp; refine hK.out _ ?_; clear hK K)
      refine wpGrow_eff _ rfl (fun wx he hcl => ?_) (fun _ K hK => ?_) rfl
      · clear hcl
        have hq := (he.cell (p := ⟨b1, o1 + j * 2, none⟩) P1L.out).trans P1.out
        go_simp
        exact Below.refl _ _
      go_simp
      refine hK.out _ ?_
      clear hK K
      repeat (refine wpGrow_pure rfl (fun K hK => ?_); go_simp; refine hK.out _ ?_; clear hK K)
      refine wpGrow_eff _ rfl (fun wx he hcl => ?_) (fun ⟨D6, c6⟩ K hK => ?_) rfl
      · clear hcl
        have hcon := own_any wx A1 m c1 l w.heap.size (HR1.out.below (he.mono HBS.out)) (by omega)
        rw [HLM.out] at hcon
        have hsz := Nat.le_trans HSZ.out he.size
        go_simp
        exact hcon.mono fun e w2 ⟨D, c, he2, ho, hb⟩ => ⟨D, c, he2, own_base ho hsz, hb⟩
      go_simp
      refine hK.out _ ?_
      clear hK K
      repeat (refine wpGrow_pure rfl (fun K hK => ?_); go_simp; refine hK.out _ ?_; clear hK K)
      refine wpGrow_eff _ rfl (fun wx he hcl => ?_) (fun _ K hK => ?_) rfl
      · clear hcl
        have hq := (he.cell (p := ⟨gb, 0, none⟩) QBL.out).trans QB.out
        go_simp
        exact Below.refl _ _
      go_simp
      refine hK.out _ ?_
      clear hK K
      repeat (refine wpGrow_pure rfl (fun K hK => ?_); go_simp; refine hK.out _ ?_; clear hK K)
      refine wpGrow_eff _ rfl (fun wx he hcl => ?_) (fun _ K hK => ?_) rfl
      · clear hcl
        have hq := (he.cell (p := ⟨b1, o1 + j * 2 + 1, none⟩) Q1L.out).trans Q1.out
        go_simp
        exact Below.refl _ _
      go_simp
      refine hK.out _ ?_
      clear hK K
      repeat (refine wpGrow_pure rfl (fun K hK => ?_); go_simp; refine hK.out _ ?_; clear hK K)
      refine wpGrow_eff _ rfl (fun wx he hcl => ?_) (fun (g23 : Nat) K hK => ?_) rfl
      · clear hcl
        go_simp
        exact ⟨Whole.new _ _ _, (Below.refl _ _).alloc (Nat.le_refl _) _⟩
      go_simp
      refine hK.out _ ?_
      clear hK K
      repeat (refine wpGrow_pure rfl (fun K hK => ?_); go_simp; refine hK.out _ ?_; clear hK K)
      refine wpGrow_nil fun wx he hfin => ?_
      have ho6 : wx.ownsRow w.heap.size 5 1 (.slice D6 m c6) m (byts l) := hfin.out 8
      have hw23 : Whole wx g23 57 #[.slice D6 m c6, .bool d] := hfin.out 16
      clear hfin
      have HRD := Lib.hid (show Rd wx wx.heap.size 2 (some ⟨g23, 0, none⟩) 1 [.slice D6 m c6, .bool d] from ⟨rfl, fun _ => ⟨g23, 0, rfl, hw23.lt, fun a u hu => by
        rw [Nat.zero_add, hw23.cell a, ← hu]
        simp⟩⟩)
      have HG6 := Lib.hid (show ∀ g o, D6 = some ⟨g, o, none⟩ → G g from fun g o e => by
        subst e
        exact HGG.out g (ho6.lt g rfl).1)
      have HO6 := Lib.hid (own_base ho6 (Nat.zero_le _))
      have HO7 := Lib.hid (own_ext HO5.out he)
      have HP7 := Lib.hid (HP5.out.ext he)
      have HK7 := Lib.hid (HW3.out.below he QOL.out)
      have HB7 := Lib.hid (HWB.out.below he QBL.out)
      have HR7 := Lib.hid (HWR.out.below he HWR.out.lt)
      have hb7 := hb.trans (he.mono hb.size)
      have hs7 := hb7.size
      have HBB := Lib.hid hb7
      clear ho6 hw23 he hb7 hb HO5 HP5 QO QB P1 Q1 QOL QBL P1L Q1L HBS HSZ HWB HWR HW3
      simp only [List.drop_succ_cons, List.drop_zero]
      go_wp2_with (at_builtin; refine wpList_append_rd _ rfl (.tmp 13) (.tmp 28) _ rfl rpartV w.heap.size _ n3 _ rfl HO7.out wx.heap.size (some ⟨g23, 0, none⟩) 1 1 _ rfl HRD.out (one_part _ _ _ _) (by unfold maxLen; omega) (by omega) hs7 ?_; intro D8 c8 w8 ho8 hb8 hg8 _; have HP8 := Lib.hid ((HP7.out.snoc (d := d) HLM.out HO6.out HG6.out).kept hg8 HO7.out part_ne.2.1); have HO8 := Lib.hid ho8; have u7 := HK7.out.kept hg8 HO7.out part_ne'.1; have u6 := HR7.out.kept hg8 HO7.out part_ne'.1; have u5 := HB7.out.kept hg8 HO7.out part_nf; have q7 := u7.cell 0; have f7 := u7.frozen 0; simp at q7; have HU7 := Lib.hid u7; have HU6 := Lib.hid u6; have HU5 := Lib.hid u5; have HB8 := Lib.hid (HBB.out.trans hb8); clear ho8 hb8 hg8 u7 u6 u5)
      have hgw := grow_put (w := w8) (g := go) (.slice D8 (n3 + 1) c8)
      have HW9 := Lib.hid (HU7.out.put_ 0 (.slice D8 (n3 + 1) c8))
      have HO9 := Lib.hid (own_far HO8.out HU7.out hgw part_ne'.1)
      have HP9 := Lib.hid (HP8.out.keep fun _ _ _ ho => own_far ho HU7.out hgw part_ne'.2)
      have HB9 := Lib.hid (HU5.out.far_of hgw ne3)
      have HR9 := Lib.hid (HU6.out.far_of hgw ne1)
      have hb9 := HB8.out.setCell (p := ⟨go, 0, none⟩) HGO.out (.slice D8 (n3 + 1) c8)
      have hl9 : (fs.take j ++ [(l, d)]).length = n3 + 1 := by rw [List.length_append, HL3.out]; rfl
      have HL9 := Lib.hid hl9
      clear hgw hl9
      go_roundw
      case rel => exact ⟨j + 1, by omega, by go_num, ⟨D8, n3 + 1, c8, HW9.out, by rw [HTK.out]; exact HL9.out, _, HO9.out, by rw [HTK.out]; exact HP9.out⟩, HB9, HR9, hb9⟩
      case measure => simp [intOf] <;> omega
    · obtain rfl : j = N := by omega
      have fo := hw3.frozen 0
      have qr := HWR.out.cell 0
      have fr := HWR.out.frozen 0
      simp at qr
      have ht : fs.take j = fs := List.take_of_length_le (by rw [HL.out]; omega)
      rw [ht] at hl3 hp3
      have HF3 := Lib.hid (show File wr G 57 5 A3 n3 c3 fs from ⟨hl3, vs3, own_base ho3 (Nat.zero_le _), hp3⟩)
      clear hl3 ho3 hp3 ht HH
      go_wp2_with fail
      have hend := out_one (D := A3) (n := n3) (c := c3) hb HWR.out HGR.out HF3.out rfl
      generalize wr.setCell ⟨gr, 0, none⟩ (.slice A3 n3 c3) = w9 at hend ⊢
      obtain ⟨r0, hend⟩ := hend
      simp [bodyPost, results, Try.results30, go_sem, r0]
      exact hend
end Go.Proofs.Ytankhjchdnfpfaa
