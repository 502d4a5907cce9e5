/-
  Files in parts: the document's put.
-/
import Derived.Test.YtankhjchdnfpfaaExtOf
import Derived.Test.YtankhjchdnfpfaaGrowTail
import Derived.BigRegion
namespace Go.Proofs.Ytankhjchdnfpfaa
open Go.RowKit
def rowFlat (o : Oper) (r : Operand → Value) : Array Value :=
  match o.op with
  | .buildSlice _ _ ps => ((ps.toList.map fun p => (r p.2).cells.toList).flatten).toArray
  | _ => #[]
/-- A new row of the operands' cells. -/
def GSpec.rowc (E : TypeId) (n : Nat) : GSpec :=
  ⟨Nat, 0, fun g => .slice (some ⟨g, 0, none⟩) n n, fun o r g w => Whole w g E (rowFlat o r), fun o r r' h => by
      have : rowFlat o r = rowFlat o r' := by
        unfold rowFlat
        split
        · rename_i ps he
          congr 2
          apply List.map_congr_left
          intro p hp
          rw [h _ (by rw [he]; unfold Op.operands; simp only [List.mem_toArray, List.mem_map]; exact ⟨p, hp, rfl⟩)]
        · rfl
      rw [this],
    fun _ _ _ _ _ h k => h.below k h.lt⟩
attribute [local go_sem] match_undef Oper.growAt Oper.growUpon GSpec.fix GSpec.row GSpec.wh GSpec.own GSpec.rowc rowFlat
attribute [local irreducible] wpList
theorem part_ne' : 57 ≠ 34 ∧ 5 ≠ 34 := by decide
set_option maxHeartbeats 400000 in
theorem rown_any (w : World) (A : Option Addr) (n cap : Nat) (l : List UInt8) (B : Nat) (h : Rd w B 1 A n (byts l)) (hn : n ≤ 1000000000) :
    Calls Try.prog 33 #[.slice A n cap] w (Fresh w.heap.size 5 1 l.length (byts l) w) := by
  have H := Lib.hid h
  clear h
  go_enter Try.func33, Try.ntmps33
  go_wp2_with (at_builtin; refine wpList_append_rd _ rfl (.tmp 4) (.tmp 5) _ rfl bytesV w.heap.size (.slice none 0 0) 0 [] rfl (World.ownsRow_nil _ _ _ _) B A n cap _ rfl H.out (byts_one _) (by unfold maxLen; omega) (by omega) (Nat.le_refl _) ?_; intro D2 c2 w2 ho2 hb2 _ _; simp only [Nat.zero_add, List.nil_append] at ho2)
  have HO2 := Lib.hid ho2
  clear ho2
  go_ret
  exact Fresh.of H.out.blen HO2.out hb2
/-- A call hands back a file of the document's. -/
def FileOut (G : Nat → Prop) (fs : List Pa) (w : World) (en : Ending) (w' : World) : Prop :=
  ∃ A n c, en = .returned (.agg #[.slice A n c]) ∧ File w' G 57 5 A n c fs ∧ Below w.heap.size w w'
theorem Whole.kept {w w' : World} {g base s n : Nat} {t e : TypeId} {v : Value} {cs : Array Value} {xs : List Value} (h : Whole w g t cs) (hg : w.grownBy w' v.ownBlock) (hu : w.ownsRow base e s v n xs) (hne : e ≠ t) : Whole w' g t cs := by
  refine h.grown hg ?_
  rcases hu.2 with ⟨rfl, _⟩ | ⟨g', cap, cur, rfl, _, hh, _⟩
  · simp [Value.ownBlock]
  · intro e2
    have e3 : g = g' := by simpa [Value.ownBlock] using e2
    subst e3
    unfold Whole at h
    rw [hh] at h
    injection h with h1
    injection h1 with _ h2
    exact hne h2
/-- Two stores at the end of a call: the file's variable, the result. -/
theorem out_end {w w8 : World} {G : Nat → Prop} {gt gr : Nat} {D : Option Addr} {n c : Nat} {cs cs' : Array Value} {fs : List Pa} (hw : Below w.heap.size w w8) (h7 : Whole w8 gt 34 cs) (h6 : Whole w8 gr 34 cs') (hne : gt ≠ gr) (h7l : w.heap.size ≤ gt) (h6l : w.heap.size ≤ gr) (hf : File w8 G 57 5 D n c fs) (hcs : cs'.size = 1) :
    ((w8.setCell ⟨gt, 0, none⟩ (.slice D n c)).setCell ⟨gr, 0, none⟩ (.slice D n c)).cell? ⟨gr, 0, none⟩ = some (.slice D n c) ∧ FileOut G fs w (.returned (.agg #[.slice D n c])) ((w8.setCell ⟨gt, 0, none⟩ (.slice D n c)).setCell ⟨gr, 0, none⟩ (.slice D n c)) := by
  have g1 := grow_put (w := w8) (g := gt) (.slice D n c)
  have h6b := h6.far_of g1 hne
  have g2 := grow_put (w := w8.setCell ⟨gt, 0, none⟩ (.slice D n c)) (g := gr) (.slice D n c)
  have h6c := (h6b.put_ 0 (.slice D n c)).cell 0
  refine ⟨?_, D, n, c, rfl, (hf.far h7 g1 part_ne'.1 part_ne'.2).far h6b g2 part_ne'.1 part_ne'.2, (hw.setCell (p := ⟨gt, 0, none⟩) h7l _).setCell (p := ⟨gr, 0, none⟩) h6l _⟩
  rw [h6c]
  simp [hcs]
set_option maxRecDepth 100000 in
set_option maxHeartbeats 8000000 in
theorem rfput_any (w : World) (G : Nat → Prop) (hG : ∀ g, w.heap.size ≤ g → G g) (A : Option Addr) (n cap : Nat) (fs : List Pa) (h : File w G 57 5 A n cap fs) (hn : n ≤ 1000000) (A2 : Option Addr) (m cap2 : Nat) (b : List UInt8) (B : Nat) (hB : B ≤ w.heap.size) (hr : Rd w B 1 A2 m (byts b)) (hm : m ≤ 1000000) (d : Bool) :
    Calls Try.prog 25 #[.agg #[.slice A n cap], .slice A2 m cap2, .bool d] w (FileOut G (Exn.put fs b d) w) := by
  obtain ⟨hl, vs, h1, h2⟩ := h
  have HL := Lib.hid hl
  have HGG := Lib.hid hG
  have HB := Lib.hid hB
  have HLB := Lib.hid hr.blen
  have hb1 := below1 w (.cells #[.slice A n cap] 34)
  have hb2 := hb1.trans ((below1 (w.alloc (.cells #[.slice A n cap] 34)) (.cells #[.slice none 0 0] 34)).mono hb1.size)
  have hb3 := hb2.trans ((below1 ((w.alloc (.cells #[.slice A n cap] 34)).alloc (.cells #[.slice none 0 0] 34)) (.cells #[.slice none 0 0] 34)).mono hb2.size)
  have HR := Lib.hid (hr.below (hb3.mono hB))
  have H1 := Lib.hid ((Rd.of_own h1).below hb3)
  have H2 := Lib.hid (h2.ext hb3)
  have HB3 := Lib.hid hb3
  have H2O := Lib.hid h2.one
  have HW7 := Whole.new ((w.alloc (.cells #[.slice A n cap] 34)).alloc (.cells #[.slice none 0 0] 34)) 34 #[.slice none 0 0]
  have HW6 := (Whole.new (w.alloc (.cells #[.slice A n cap] 34)) 34 #[.slice none 0 0]).alloc (.cells #[.slice none 0 0] 34)
  have hz1 : (w.alloc (.cells #[.slice A n cap] 34)).heap.size = w.heap.size + 1 := by simp
  have hz2 : ((w.alloc (.cells #[.slice A n cap] 34)).alloc (.cells #[.slice none 0 0] 34)).heap.size = w.heap.size + 1 + 1 := by simp
  rw [hz1] at HW6
  rw [hz2] at HW7
  replace HW6 := Lib.hid HW6
  replace HW7 := Lib.hid HW7
  clear hl h1 h2 hG hr hb1 hb2 hb3 hz1 hz2
  by_cases h0 : 0 < m
  · go_enter Try.func25, Try.ntmps25
    go_wp2_with (at_builtin; refine wpList_append_rd _ rfl (.tmp 9) (.tmp 11) _ rfl rpartV w.heap.size (.slice none 0 0) 0 [] rfl (World.ownsRow_nil _ _ _ _) w.heap.size A n cap _ rfl H1.out H2O.out (by unfold maxLen; omega) (by omega) HB3.out.size ?_; intro D4 c4 w4 ho4 hb4 hg4 _; simp only [Nat.zero_add, List.nil_append] at ho4; have w6 := HW6.out.grown hg4 (by simp [Value.ownBlock]); have w7 := HW7.out.grown hg4 (by simp [Value.ownBlock]); have f7 := w7.frozen 0; have q7 := w7.cell 0; simp at q7; have HV6 := Lib.hid w6; have HV7 := Lib.hid w7; have HO4 := Lib.hid ho4; have HG4 := Lib.hid (show Below ((((w.alloc (.cells #[.slice A n cap] 34)).alloc (.cells #[.slice none 0 0] 34)).alloc (.cells #[.slice none 0 0] 34))).heap.size _ w4 from (Below.refl _ _).grown hg4 (Nat.le_refl _) (fun k hk => by cases hk)); have HB4 := Lib.hid hb4; clear ho4 hb4 hg4 w6 w7)
    have hgw := grow_put (w := w4) (g := w.heap.size + 1 + 1) (.slice D4 n c4)
    have k7 := HV7.out.put_ 0 (.slice D4 n c4)
    have k6 := HV6.out.far_of hgw (by omega)
    have ho5 := own_far HO4.out HV7.out hgw part_ne'.1
    have hp5 := (H2.out.ext HG4.out).keep fun _ _ _ ho => own_far ho HV7.out hgw part_ne'.2
    have hr5 := (HR.out.below (HB4.out.mono hB)).setCell (p := ⟨w.heap.size + 1 + 1, 0, none⟩) (by show B ≤ w.heap.size + 1 + 1; omega) (.slice D4 n c4)
    have hb5 := (HB3.out.trans HB4.out).setCell (p := ⟨w.heap.size + 1 + 1, 0, none⟩) (by show w.heap.size ≤ w.heap.size + 1 + 1; omega) (.slice D4 n c4)
    clear HV7 HV6 HO4 HG4 HB4 HB3 HW6 HW7 H1 H2 HR q7 f7 hgw
    generalize w4.setCell ⟨w.heap.size + 1 + 1, 0, none⟩ (.slice D4 n c4) = w5 at k7 k6 ho5 hp5 hr5 hb5 ⊢
    obtain ⟨gt, hgt⟩ : ∃ gt, w.heap.size + 1 + 1 = gt := ⟨_, rfl⟩
    obtain ⟨gr, hgr⟩ : ∃ gr, w.heap.size + 1 = gr := ⟨_, rfl⟩
    have hn1 : ¬ gt = gr := by omega
    have hn2 : ¬ gr = gt := by omega
    have HGT := Lib.hid (show w.heap.size ≤ gt by omega)
    have HGR := Lib.hid (show w.heap.size ≤ gr by omega)
    rw [hgt] at k7 ⊢
    rw [hgr] at k6 ⊢
    have q7 := k7.cell 0
    simp at q7
    have QT := Lib.hid q7
    have QTL := Lib.hid k7.lt
    have K7 := Lib.hid k7
    have K6 := Lib.hid k6
    have HO5 := Lib.hid ho5
    have HP5 := Lib.hid hp5
    have HR5 := Lib.hid hr5
    have HWS := Lib.hid hb5.size
    have HBS := Lib.hid (Nat.le_trans hB hb5.size)
    have HB5 := Lib.hid hb5
    clear k7 k6 ho5 hp5 hr5 hb5 q7 hgt hgr hB
    refine wp_region_tail 7 (fun k' => List.lookup k' [(1, .fix (.slice D4 n c4)), (3, .own w.heap.size 5 1 m (byts b)), (6, .rowc 57 1)]) (by as_aux_lemma => kernel_rfl) (by as_aux_lemma => kernel_rfl) (by as_aux_lemma => kernel_rfl) ?_
    simp only [List.take_succ_cons, List.take_zero]
    repeat (refine wpGrow_pure rfl (fun K hK => ?_); go_simp; refine hK.out _ ?_; clear hK K)
    refine wpGrow_eff _ rfl (fun wx he hcl => ?_) (fun _ K hK => ?_) rfl
    · clear hcl
      have hq := (he.cell (p := ⟨gt, 0, none⟩) QTL.out).trans QT.out
      go_simp
      exact Below.refl _ _
    go_simp
    refine hK.out _ ?_
    clear hK K
    repeat (refine wpGrow_pure rfl (fun K hK => ?_); go_simp; refine hK.out _ ?_; clear hK K)
    refine wpGrow_eff _ rfl (fun wx he hcl => ?_) (fun ⟨D6, c6⟩ K hK => ?_) rfl
    · clear hcl
      have hcon := rown_any wx A2 m cap2 b B (HR5.out.below (he.mono HBS.out)) (by omega)
      rw [HLB.out] at hcon
      have hsz := Nat.le_trans HWS.out he.size
      go_simp
      exact hcon.mono fun e w2 ⟨D, c, he2, ho, hb⟩ => ⟨D, c, he2, own_base ho hsz, hb⟩
    go_simp
    refine hK.out _ ?_
    clear hK K
    repeat (refine wpGrow_pure rfl (fun K hK => ?_); go_simp; refine hK.out _ ?_; clear hK K)
    refine wpGrow_eff _ rfl (fun wx he hcl => ?_) (fun (g23 : Nat) K hK => ?_) rfl
    · clear hcl
      go_simp
      exact ⟨Whole.new _ _ _, (Below.refl _ _).alloc (Nat.le_refl _) _⟩
    go_simp
    refine hK.out _ ?_
    clear hK K
    repeat (refine wpGrow_pure rfl (fun K hK => ?_); go_simp; refine hK.out _ ?_; clear hK K)
    refine wpGrow_nil fun wx he hfin => ?_
    have ho6 : wx.ownsRow w.heap.size 5 1 (.slice D6 m c6) m (byts b) := hfin.out 3
    have hw23 : Whole wx g23 57 #[.slice D6 m c6, .bool d] := hfin.out 6
    clear hfin
    have HRD := Lib.hid (show Rd wx wx.heap.size 2 (some ⟨g23, 0, none⟩) 1 [.slice D6 m c6, .bool d] from ⟨rfl, fun _ => ⟨g23, 0, rfl, hw23.lt, fun a u hu => by
      rw [Nat.zero_add, hw23.cell a, ← hu]
      simp⟩⟩)
    have HG6 := Lib.hid (show ∀ g o, D6 = some ⟨g, o, none⟩ → G g from fun g o e => by
      subst e
      exact HGG.out g (ho6.lt g rfl).1)
    have HO6 := Lib.hid (own_base ho6 (Nat.zero_le _))
    have HO7 := Lib.hid (own_ext HO5.out he)
    have HP7 := Lib.hid (HP5.out.ext he)
    have HK7 := Lib.hid (K7.out.below he K7.out.lt)
    have HK6 := Lib.hid (K6.out.below he K6.out.lt)
    have hb7 := HB5.out.trans (he.mono HB5.out.size)
    have hs7 := hb7.size
    have HB7 := Lib.hid hb7
    clear ho6 hw23 he hb7 HO5 HP5 K7 K6 HB5 QT QTL HWS HBS HR5
    simp only [List.drop_succ_cons, List.drop_zero]
    go_wp2_with (at_builtin; refine wpList_append_rd _ rfl (.tmp 18) (.tmp 23) _ rfl rpartV w.heap.size _ n _ rfl HO7.out wx.heap.size (some ⟨g23, 0, none⟩) 1 1 _ rfl HRD.out (one_part _ _ _ _) (by unfold maxLen; omega) (by omega) hs7 ?_; intro D8 c8 w8 ho8 hb8 hg8 _; have HP8 := Lib.hid ((HP7.out.snoc (d := d) HLB.out HO6.out HG6.out).kept hg8 HO7.out part_ne.2.1); have HO8 := Lib.hid ho8; have u7 := HK7.out.kept hg8 HO7.out part_ne'.1; have u6 := HK6.out.kept hg8 HO7.out part_ne'.1; have q7 := u7.cell 0; have f7 := u7.frozen 0; have q6 := u6.cell 0; have f6 := u6.frozen 0; simp at q7 q6; have HU7 := Lib.hid u7; have HU6 := Lib.hid u6; have HB8 := Lib.hid (HB7.out.trans hb8); clear ho8 hb8 hg8 u7 u6)
    have hput : Exn.put fs b d = fs ++ [(b, d)] := by unfold Exn.put; rw [if_pos (by rw [HLB.out]; exact h0)]
    have hend := out_end (D := D8) (n := n + 1) (c := c8) HB8.out HU7.out HU6.out hn1 HGT.out HGR.out (show File w8 G 57 5 D8 (n + 1) c8 (fs ++ [(b, d)]) from ⟨by rw [List.length_append, HL.out]; rfl, _, own_base HO8.out (Nat.zero_le _), HP8.out⟩) rfl
    rw [hput]
    generalize (w8.setCell ⟨gt, 0, none⟩ (.slice D8 (n + 1) c8)).setCell ⟨gr, 0, none⟩ (.slice D8 (n + 1) c8) = w9 at hend ⊢
    obtain ⟨r0, hend⟩ := hend
    simp [bodyPost, results, Try.results25, go_sem, r0]
    exact hend
  · have hb0 : Exn.put fs b d = fs := by unfold Exn.put; rw [if_neg (by rw [HLB.out]; exact h0)]
    have m0 : m = 0 := by omega
    subst m0
    have hn2 : ¬ w.heap.size + 1 = w.heap.size + 1 + 1 := by omega
    have hn1 : ¬ w.heap.size + 1 + 1 = w.heap.size + 1 := by omega
    rw [hb0]
    clear h0 hb0
    go_enter Try.func25, Try.ntmps25
    go_wp2_with (at_builtin; refine wpList_append_rd _ rfl (.tmp 9) (.tmp 11) _ rfl rpartV w.heap.size (.slice none 0 0) 0 [] rfl (World.ownsRow_nil _ _ _ _) w.heap.size A n cap _ rfl H1.out H2O.out (by unfold maxLen; omega) (by omega) HB3.out.size ?_; intro D4 c4 w4 ho4 hb4 hg4 _; simp only [Nat.zero_add, List.nil_append] at ho4; have w6 := HW6.out.grown hg4 (by simp [Value.ownBlock]); have w7 := HW7.out.grown hg4 (by simp [Value.ownBlock]); have f7 := w7.frozen 0; have q7 := w7.cell 0; have f6 := w6.frozen 0; have q6 := w6.cell 0; simp at q7 q6; have HV6 := Lib.hid w6; have HV7 := Lib.hid w7; have HO4 := Lib.hid ho4; have HG4 := Lib.hid (show Below ((((w.alloc (.cells #[.slice A n cap] 34)).alloc (.cells #[.slice none 0 0] 34)).alloc (.cells #[.slice none 0 0] 34))).heap.size _ w4 from (Below.refl _ _).grown hg4 (Nat.le_refl _) (fun k hk => by cases hk)); have HB4 := Lib.hid hb4; clear ho4 hb4 hg4 w6 w7)
    have hend := out_end (D := D4) (n := n) (c := c4) (HB3.out.trans HB4.out) HV7.out HV6.out hn1 (by omega) (by omega) (show File w4 G 57 5 D4 n c4 fs from ⟨HL.out, _, own_base HO4.out (Nat.zero_le _), H2.out.ext HG4.out⟩) rfl
    generalize (w4.setCell ⟨w.heap.size + 1 + 1, 0, none⟩ (.slice D4 n c4)).setCell ⟨w.heap.size + 1, 0, none⟩ (.slice D4 n c4) = w9 at hend ⊢
    obtain ⟨r0, hend⟩ := hend
    simp [bodyPost, results, Try.results25, go_sem, r0]
    exact hend
end Go.Proofs.Ytankhjchdnfpfaa
