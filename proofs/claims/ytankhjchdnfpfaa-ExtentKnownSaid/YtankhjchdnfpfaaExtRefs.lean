/-
  Files in parts: the document's Sync, Append, Of.
-/
import Derived.Test.YtankhjchdnfpfaaExtPut
namespace Go.Proofs.Ytankhjchdnfpfaa
open Go.RowKit
/-- A file handed back by a call, in memory of its own. -/
def GSpec.fout (G : Nat → Prop) (fs : List Pa) : GSpec :=
  ⟨Option Addr × Nat × Nat, (none, 0, 0), fun x => .agg #[.slice x.1 x.2.1 x.2.2], fun _ _ x w => File w G 57 5 x.1 x.2.1 x.2.2 fs, fun _ _ _ _ => rfl, fun _ _ _ _ _ h k => h.ext k⟩
attribute [local go_sem] match_undef Oper.growAt Oper.growUpon GSpec.fix GSpec.row GSpec.wh GSpec.own GSpec.fout
attribute [local irreducible] wpList
theorem Exn.sync_snoc (fs : List Pa) (p : Pa) : Exn.sync (fs ++ [p]) = Exn.put (Exn.sync fs) p.1 true := by
  unfold Exn.sync Exn.put
  rw [Exn.tidy_append, List.map_append, Exn.tidy_one]
  by_cases h : 0 < p.1.length <;> simp [h]
theorem Exn.tidy_snoc (fs : List Pa) (p : Pa) : Exn.tidy (fs ++ [p]) = Exn.put (Exn.tidy fs) p.1 p.2 := by
  rw [Exn.put_eq, Exn.tidy_append]
theorem Exn.of_snoc (ls : List (List UInt8)) (l : List UInt8) : Exn.of_ (ls ++ [l]) = Exn.put (Exn.of_ ls) l true := by
  unfold Exn.of_ Exn.as_
  rw [List.map_append, Exn.tidy_append, Exn.put_eq]
  rfl
theorem Exn.sync_le (fs : List Pa) : (Exn.sync fs).length ≤ fs.length := by
  unfold Exn.sync
  rw [List.length_map]
  exact Exn.tidy_le fs
/-- One store at the end of a call: the result. -/
theorem out_one {w w8 : World} {G : Nat → Prop} {gr : Nat} {D : Option Addr} {n c : Nat} {cs' : Array Value} {fs : List Pa} (hw : Below w.heap.size w w8) (h6 : Whole w8 gr 34 cs') (h6l : w.heap.size ≤ gr) (hf : File w8 G 57 5 D n c fs) (hcs : cs'.size = 1) :
    (w8.setCell ⟨gr, 0, none⟩ (.slice D n c)).cell? ⟨gr, 0, none⟩ = some (.slice D n c) ∧ FileOut G fs w (.returned (.agg #[.slice D n c])) (w8.setCell ⟨gr, 0, none⟩ (.slice D n c)) := by
  have g1 := grow_put (w := w8) (g := gr) (.slice D n c)
  have h6c := (h6.put_ 0 (.slice D n c)).cell 0
  refine ⟨?_, D, n, c, rfl, hf.far h6 g1 part_ne'.1 part_ne'.2, hw.setCell (p := ⟨gr, 0, none⟩) h6l _⟩
  rw [h6c]
  simp [hcs]
/-- The document's file's variable, and what it holds. -/
def HoldsR (w : World) (go : Nat) (G : Nat → Prop) (fs : List Pa) : Prop := ∃ A n c, Whole w go 34 #[.slice A n c] ∧ File w G 57 5 A n c fs
set_option maxRecDepth 100000 in
set_option maxHeartbeats 8000000 in
theorem rsync_any (w : World) (G : Nat → Prop) (hG : ∀ g, w.heap.size ≤ g → G g) (A : Option Addr) (N cap : Nat) (fs : List Pa) (h : RdPa w w.heap.size A N fs) (hN : N ≤ 1000000) (hf : ∀ p ∈ fs, p.1.length ≤ 1000000) :
    Calls Try.prog 14 #[.agg #[.slice A N cap]] w (FileOut G (Exn.sync fs) w) := by
  have HL := Lib.hid h.1
  have H := Lib.hid h
  have HF := Lib.hid hf
  have HGG := Lib.hid hG
  have hb1 := below1 w (.cells #[.slice A N cap] 34)
  have hb2 := hb1.trans ((below1 (w.alloc (.cells #[.slice A N cap] 34)) (.cells #[.slice none 0 0] 34)).mono hb1.size)
  have hb3 := hb2.trans ((below1 ((w.alloc (.cells #[.slice A N cap] 34)).alloc (.cells #[.slice none 0 0] 34)) (.cells #[.slice none 0 0] 34)).mono hb2.size)
  have HB3 := Lib.hid hb3
  have HW7 := Whole.new ((w.alloc (.cells #[.slice A N cap] 34)).alloc (.cells #[.slice none 0 0] 34)) 34 #[.slice none 0 0]
  have HW6 := (Whole.new (w.alloc (.cells #[.slice A N cap] 34)) 34 #[.slice none 0 0]).alloc (.cells #[.slice none 0 0] 34)
  have HW5 := Lib.hid (((Whole.new w 34 #[.slice A N cap]).alloc (.cells #[.slice none 0 0] 34)).alloc (.cells #[.slice none 0 0] 34))
  have hz1 : (w.alloc (.cells #[.slice A N cap] 34)).heap.size = w.heap.size + 1 := by simp
  have hz2 : ((w.alloc (.cells #[.slice A N cap] 34)).alloc (.cells #[.slice none 0 0] 34)).heap.size = w.heap.size + 1 + 1 := by simp
  rw [hz1] at HW6
  rw [hz2] at HW7
  replace HW6 := Lib.hid HW6
  replace HW7 := Lib.hid HW7
  clear h hf hG hb1 hb2 hb3 hz1 hz2
  go_enter Try.func14, Try.ntmps14
  go_wp2_with fail
  generalize ((w.alloc (.cells #[.slice A N cap] 34)).alloc (.cells #[.slice none 0 0] 34)).alloc (.cells #[.slice none 0 0] 34) = W3 at HB3 HW5 HW6 HW7 ⊢
  obtain ⟨go, hgo⟩ : ∃ gt, w.heap.size + 1 + 1 = gt := ⟨_, rfl⟩
  obtain ⟨gr, hgr⟩ : ∃ gr, w.heap.size + 1 = gr := ⟨_, rfl⟩
  obtain ⟨gb, hgb⟩ : ∃ gb, w.heap.size = gb := ⟨_, rfl⟩
  have ne1 : ¬ go = gr := by omega
  have ne2 : ¬ gr = go := by omega
  have ne3 : ¬ go = gb := by omega
  have ne4 : ¬ gb = go := by omega
  have HGO := Lib.hid (show w.heap.size ≤ go by omega)
  have HGR := Lib.hid (show w.heap.size ≤ gr by omega)
  rw [hgo] at HW7 ⊢
  rw [hgr] at HW6 ⊢
  have HGB := Lib.hid hgb
  have HW5b := Lib.hid (show Whole W3 gb 34 #[.slice A N cap] from by rw [← hgb]; exact HW5.out)
  rw [show (Value.pointer (some { block := w.heap.size, off := 0 })) = Value.pointer (some { block := gb, off := 0 }) from by rw [hgb]]
  clear hgo hgr hgb HW5
  go_loopw [4] (fun i wr => ∃ (j : Nat), j ≤ N ∧ i = .int .i64 j ∧ Hid (HoldsR wr go G (Exn.sync (fs.take j))) ∧ Hid (Whole wr gb 34 #[.slice A N cap]) ∧ Hid (Whole wr gr 34 #[.slice none 0 0]) ∧ Below w.heap.size w wr) (fun i _ => N - (intOf i).toNat)
  case atStart => exact ⟨0, by omega, rfl, ⟨none, 0, 0, HW7.out, File.nil _ _ _ _⟩, HW5b.out, HW6.out, HB3.out⟩
  case round =>
    obtain ⟨j, hj, rfl, HH, HWB, HWR, hb⟩ := hrel
    obtain ⟨A3, n3, c3, hw3, hf3⟩ := HH.out
    have qb := HWB.out.cell 0
    have qo := hw3.cell 0
    simp at qb qo
    by_cases hlt : j < N
    · have hjl : j < fs.length := by have := HL.out; omega
      obtain ⟨b1, o1, A1, c1, rfl, hb1, hp1, hq1, _, _, hr1⟩ := (H.out.below hb).2 j hjl
      have hd : decide ((j : Int) < (N : Int)) = true := by simp; omega
      have d1 : (0 : Int) ≤ (j : Int) := by omega
      have d2 : (j : Int) < (N : Int) := by omega
      have hm1 := HF.out _ (List.getElem_mem hjl)
      have hput : Exn.put (Exn.sync (fs.take j)) fs[j].1 true = Exn.sync (fs.take (j + 1)) := by rw [List.take_succ_eq_append_getElem hjl, Exn.sync_snoc]
      have hsl : n3 ≤ 1000000 := by
        have h1 := hf3.1
        have h2 := Exn.sync_le (fs.take j)
        rw [List.length_take] at h2
        omega
      obtain ⟨S3, hS3⟩ : ∃ S, Exn.sync (fs.take j) = S := ⟨_, rfl⟩
      obtain ⟨S4, hS4⟩ : ∃ S, Exn.sync (fs.take (j + 1)) = S := ⟨_, rfl⟩
      rw [hS3, hS4] at hput
      rw [hS3] at hf3
      obtain ⟨p, hp⟩ : ∃ p, fs[j] = p := ⟨_, rfl⟩
      rw [hp] at hp1 hq1 hr1 hput hm1
      obtain ⟨l, d⟩ := p
      simp only at hp1 hq1 hr1 hput hm1
      obtain ⟨m, hm⟩ : ∃ m, l.length = m := ⟨_, rfl⟩
      rw [hm] at hp1 hr1 hm1
      have HS4 := Lib.hid hS4
      have HPUT := Lib.hid hput
      have HF3 := Lib.hid hf3
      have HW3 := Lib.hid hw3
      have HR1 := Lib.hid hr1
      have HBS := Lib.hid hb.size
      have HSZ := Lib.hid hb.size
      have QO := Lib.hid qo
      have QOL := Lib.hid hw3.lt
      have QB := Lib.hid qb
      have QBL := Lib.hid HWB.out.lt
      have P1 := Lib.hid hp1
      have P1L := Lib.hid (Nat.lt_of_lt_of_le hb1 hb.size)
      clear hp hm hput hf3 hw3 hr1 hS3 hS4 HH hq1 hb1
      go_wp2_with fail
      clear qo qb hp1
      refine wp_region_tail 8 (fun k' => List.lookup k' [(0, .fix (.agg #[.slice A3 n3 c3])), (2, .fix (.slice (some ⟨b1, o1, none⟩) N cap)), (6, .fix (.slice A1 m c1)), (7, .fout G S4)]) (by as_aux_lemma => kernel_rfl) (by as_aux_lemma => kernel_rfl) (by as_aux_lemma => kernel_rfl) ?_
      simp only [List.take_succ_cons, List.take_zero]
      repeat (refine wpGrow_pure rfl (fun K hK => ?_); go_simp; refine hK.out _ ?_; clear hK K)
      refine wpGrow_eff _ rfl (fun wx he hcl => ?_) (fun _ K hK => ?_) rfl
      · clear hcl
        have hq := (he.cell (p := ⟨go, 0, none⟩) QOL.out).trans QO.out
        go_simp
        exact Below.refl _ _
      go_simp
      refine hK.out _ ?_
      clear hK K
      repeat (refine wpGrow_pure rfl (fun K hK => ?_); go_simp; refine hK.out _ ?_; clear hK K)
      refine wpGrow_eff _ rfl (fun wx he hcl => ?_) (fun _ K hK => ?_) rfl
      · clear hcl
        have hq := (he.cell (p := ⟨gb, 0, none⟩) QBL.out).trans QB.out
        go_simp
        exact Below.refl _ _
      go_simp
      refine hK.out _ ?_
      clear hK K
      repeat (refine wpGrow_pure rfl (fun K hK => ?_); go_simp; refine hK.out _ ?_; clear hK K)
      refine wpGrow_eff _ rfl (fun wx he hcl => ?_) (fun _ K hK => ?_) rfl
      · clear hcl
        have hq := (he.cell (p := ⟨b1, o1 + j * 2, none⟩) P1L.out).trans P1.out
        go_simp
        exact Below.refl _ _
      go_simp
      refine hK.out _ ?_
      clear hK K
      repeat (refine wpGrow_pure rfl (fun K hK => ?_); go_simp; refine hK.out _ ?_; clear hK K)
      refine wpGrow_eff _ rfl (fun wx he hcl => ?_) (fun ⟨D4, n4, c4⟩ K hK => ?_) rfl
      · clear hcl
        have hcon := rfput_any wx G (fun g hg => HGG.out g (Nat.le_trans HSZ.out (Nat.le_trans he.size hg))) A3 n3 c3 S3 (HF3.out.ext he) (by omega) A1 m c1 l w.heap.size (Nat.le_trans HBS.out he.size) (HR1.out.below (he.mono HBS.out)) (by omega) true
        rw [HPUT.out] at hcon
        go_simp
        exact hcon.mono fun e w2 ⟨D, k, c, he2, hf, hb⟩ => ⟨D, k, c, he2, hf, hb⟩
      go_simp
      refine hK.out _ ?_
      clear hK K
      repeat (refine wpGrow_pure rfl (fun K hK => ?_); go_simp; refine hK.out _ ?_; clear hK K)
      refine wpGrow_nil fun wx he hfin => ?_
      have hf4 : File wx G 57 5 D4 n4 c4 S4 := hfin.out 7
      clear hfin
      have hw4 := HW3.out.below he QOL.out
      have q4 := hw4.cell 0
      have f4 := hw4.frozen 0
      simp at q4
      have hgw := grow_put (w := wx) (g := go) (.slice D4 n4 c4)
      have HF5 := Lib.hid (hf4.far hw4 hgw part_ne'.1 part_ne'.2)
      have HW5 := Lib.hid (hw4.put_ 0 (.slice D4 n4 c4))
      have HB5 := Lib.hid ((HWB.out.below he QBL.out).far_of hgw ne3)
      have HR5 := Lib.hid ((HWR.out.below he HWR.out.lt).far_of hgw ne1)
      have hb5 := (hb.trans (he.mono hb.size)).setCell (p := ⟨go, 0, none⟩) HGO.out (.slice D4 n4 c4)
      clear hf4 hw4 hgw he hb QO QB P1 QOL QBL P1L HBS HSZ
      simp only [List.drop_succ_cons, List.drop_zero]
      go_wp2_with fail
      go_roundw
      case rel => exact ⟨j + 1, by omega, by go_num, ⟨D4, n4, c4, HW5.out, by rw [HS4.out]; exact HF5.out⟩, HB5, HR5, hb5⟩
      case measure => simp [intOf] <;> omega
    · obtain rfl : j = N := by omega
      have fo := hw3.frozen 0
      have qr := HWR.out.cell 0
      have fr := HWR.out.frozen 0
      simp at qr
      have ht : fs.take j = fs := List.take_of_length_le (by rw [HL.out]; omega)
      rw [ht] at hf3
      have HF3 := Lib.hid hf3
      clear hf3 ht HH
      go_wp2_with fail
      have hend := out_one (D := A3) (n := n3) (c := c3) hb HWR.out HGR.out HF3.out rfl
      generalize wr.setCell ⟨gr, 0, none⟩ (.slice A3 n3 c3) = w9 at hend ⊢
      obtain ⟨r0, hend⟩ := hend
      simp [bodyPost, results, Try.results14, go_sem, r0]
      exact hend
set_option maxRecDepth 100000 in
set_option maxHeartbeats 8000000 in
theorem rapp_any (w : World) (G : Nat → Prop) (hG : ∀ g, w.heap.size ≤ g → G g) (A : Option Addr) (N cap : Nat) (fs : List Pa) (h : RdPa w w.heap.size A N fs) (hN : N ≤ 1000000) (hf : ∀ p ∈ fs, p.1.length ≤ 1000000) (A2 : Option Addr) (m2 cap2 : Nat) (b : List UInt8) (h2 : Rd w w.heap.size 1 A2 m2 (byts b)) (hm2 : m2 ≤ 1000000) :
    Calls Try.prog 18 #[.agg #[.slice A N cap], .slice A2 m2 cap2] w (FileOut G (Exn.app fs b) w) := by
  have HL := Lib.hid h.1
  have H := Lib.hid h
  have HF := Lib.hid hf
  have HGG := Lib.hid hG
  have HR2 := Lib.hid h2
  have hb1 := below1 w (.cells #[.slice A N cap] 34)
  have hb2 := hb1.trans ((below1 (w.alloc (.cells #[.slice A N cap] 34)) (.cells #[.slice none 0 0] 34)).mono hb1.size)
  have hb3 := hb2.trans ((below1 ((w.alloc (.cells #[.slice A N cap] 34)).alloc (.cells #[.slice none 0 0] 34)) (.cells #[.slice none 0 0] 34)).mono hb2.size)
  have HB3 := Lib.hid hb3
  have HW7 := Whole.new ((w.alloc (.cells #[.slice A N cap] 34)).alloc (.cells #[.slice none 0 0] 34)) 34 #[.slice none 0 0]
  have HW6 := (Whole.new (w.alloc (.cells #[.slice A N cap] 34)) 34 #[.slice none 0 0]).alloc (.cells #[.slice none 0 0] 34)
  have HW5 := Lib.hid (((Whole.new w 34 #[.slice A N cap]).alloc (.cells #[.slice none 0 0] 34)).alloc (.cells #[.slice none 0 0] 34))
  have hz1 : (w.alloc (.cells #[.slice A N cap] 34)).heap.size = w.heap.size + 1 := by simp
  have hz2 : ((w.alloc (.cells #[.slice A N cap] 34)).alloc (.cells #[.slice none 0 0] 34)).heap.size = w.heap.size + 1 + 1 := by simp
  rw [hz1] at HW6
  rw [hz2] at HW7
  replace HW6 := Lib.hid HW6
  replace HW7 := Lib.hid HW7
  clear h h2 hf hG hb1 hb2 hb3 hz1 hz2
  go_enter Try.func18, Try.ntmps18
  go_wp2_with fail
  generalize ((w.alloc (.cells #[.slice A N cap] 34)).alloc (.cells #[.slice none 0 0] 34)).alloc (.cells #[.slice none 0 0] 34) = W3 at HB3 HW5 HW6 HW7 ⊢
  obtain ⟨go, hgo⟩ : ∃ gt, w.heap.size + 1 + 1 = gt := ⟨_, rfl⟩
  obtain ⟨gr, hgr⟩ : ∃ gr, w.heap.size + 1 = gr := ⟨_, rfl⟩
  obtain ⟨gb, hgb⟩ : ∃ gb, w.heap.size = gb := ⟨_, rfl⟩
  have ne1 : ¬ go = gr := by omega
  have ne2 : ¬ gr = go := by omega
  have ne3 : ¬ go = gb := by omega
  have ne4 : ¬ gb = go := by omega
  have HGO := Lib.hid (show w.heap.size ≤ go by omega)
  have HGR := Lib.hid (show w.heap.size ≤ gr by omega)
  rw [hgo] at HW7 ⊢
  rw [hgr] at HW6 ⊢
  have HGB := Lib.hid hgb
  have HW5b := Lib.hid (show Whole W3 gb 34 #[.slice A N cap] from by rw [← hgb]; exact HW5.out)
  rw [show (Value.pointer (some { block := w.heap.size, off := 0 })) = Value.pointer (some { block := gb, off := 0 }) from by rw [hgb]]
  clear hgo hgr hgb HW5
  go_loopw [6] (fun i wr => ∃ (j : Nat), j ≤ N ∧ i = .int .i64 j ∧ Hid (HoldsR wr go G (Exn.tidy (fs.take j))) ∧ Hid (Whole wr gb 34 #[.slice A N cap]) ∧ Hid (Whole wr gr 34 #[.slice none 0 0]) ∧ Below w.heap.size w wr) (fun i _ => N - (intOf i).toNat)
  case atStart => exact ⟨0, by omega, rfl, ⟨none, 0, 0, HW7.out, File.nil _ _ _ _⟩, HW5b.out, HW6.out, HB3.out⟩
  case round =>
    obtain ⟨j, hj, rfl, HH, HWB, HWR, hb⟩ := hrel
    obtain ⟨A3, n3, c3, hw3, hf3⟩ := HH.out
    have qb := HWB.out.cell 0
    have qo := hw3.cell 0
    simp at qb qo
    by_cases hlt : j < N
    · have hjl : j < fs.length := by have := HL.out; omega
      obtain ⟨b1, o1, A1, c1, rfl, hb1, hp1, hq1, _, _, hr1⟩ := (H.out.below hb).2 j hjl
      have hd : decide ((j : Int) < (N : Int)) = true := by simp; omega
      have d1 : (0 : Int) ≤ (j : Int) := by omega
      have d2 : (j : Int) < (N : Int) := by omega
      have hm1 := HF.out _ (List.getElem_mem hjl)
      have hput : Exn.put (Exn.tidy (fs.take j)) fs[j].1 fs[j].2 = Exn.tidy (fs.take (j + 1)) := by rw [List.take_succ_eq_append_getElem hjl, Exn.tidy_snoc]
      have hsl : n3 ≤ 1000000 := by
        have h1 := hf3.1
        have h2 := Exn.tidy_le (fs.take j)
        rw [List.length_take] at h2
        omega
      obtain ⟨S3, hS3⟩ : ∃ S, Exn.tidy (fs.take j) = S := ⟨_, rfl⟩
      obtain ⟨S4, hS4⟩ : ∃ S, Exn.tidy (fs.take (j + 1)) = S := ⟨_, rfl⟩
      rw [hS3, hS4] at hput
      rw [hS3] at hf3
      obtain ⟨p, hp⟩ : ∃ p, fs[j] = p := ⟨_, rfl⟩
      rw [hp] at hp1 hq1 hr1 hput hm1
      obtain ⟨l, d⟩ := p
      simp only at hp1 hq1 hr1 hput hm1
      obtain ⟨m, hm⟩ : ∃ m, l.length = m := ⟨_, rfl⟩
      rw [hm] at hp1 hr1 hm1
      have HS4 := Lib.hid hS4
      have HPUT := Lib.hid hput
      have HF3 := Lib.hid hf3
      have HW3 := Lib.hid hw3
      have HR1 := Lib.hid hr1
      have HBS := Lib.hid hb.size
      have HSZ := Lib.hid hb.size
      have QO := Lib.hid qo
      have QOL := Lib.hid hw3.lt
      have QB := Lib.hid qb
      have QBL := Lib.hid HWB.out.lt
      have P1 := Lib.hid hp1
      have Q1 := Lib.hid hq1
      have Q1L := Lib.hid (Nat.lt_of_lt_of_le hb1 hb.size)
      have P1L := Lib.hid (Nat.lt_of_lt_of_le hb1 hb.size)
      clear hp hm hput hf3 hw3 hr1 hS3 hS4 HH hb1
      go_wp2_with fail
      clear qo qb hp1 hq1
      refine wp_region_tail 14 (fun k' => List.lookup k' [(0, .fix (.agg #[.slice A3 n3 c3])), (2, .fix (.slice (some ⟨b1, o1, none⟩) N cap)), (6, .fix (.slice A1 m c1)), (8, .fix (.slice (some ⟨b1, o1, none⟩) N cap)), (12, .fix (.bool d)), (13, .fout G S4)]) (by as_aux_lemma => kernel_rfl) (by as_aux_lemma => kernel_rfl) (by as_aux_lemma => kernel_rfl) ?_
      simp only [List.take_succ_cons, List.take_zero]
      repeat (refine wpGrow_pure rfl (fun K hK => ?_); go_simp; refine hK.out _ ?_; clear hK K)
      refine wpGrow_eff _ rfl (fun wx he hcl => ?_) (fun _ K hK => ?_) rfl
      · clear hcl
        have hq := (he.cell (p := ⟨go, 0, none⟩) QOL.out).trans QO.out
        go_simp
        exact Below.refl _ _
      go_simp
      refine hK.out _ ?_
      clear hK K
      repeat (refine wpGrow_pure rfl (fun K hK => ?_); go_simp; refine hK.out _ ?_; clear hK K)
      refine wpGrow_eff _ rfl (fun wx he hcl => ?_) (fun _ K hK => ?_) rfl
      · clear hcl
        have hq := (he.cell (p := ⟨gb, 0, none⟩) QBL.out).trans QB.out
        go_simp
        exact Below.refl _ _
      go_simp
      refine hK.out _ ?_
      clear hK K
      repeat (refine wpGrow_pure rfl (fun K hK => ?_); go_simp; refine hK.out _ ?_; clear hK K)
      refine wpGrow_eff _ rfl (fun wx he hcl => ?_) (fun _ K hK => ?_) rfl
      · clear hcl
        have hq := (he.cell (p := ⟨b1, o1 + j * 2, none⟩) P1L.out).trans P1.out
        go_simp
        exact Below.refl _ _
      go_simp
      refine hK.out _ ?_
      clear hK K
      repeat (refine wpGrow_pure rfl (fun K hK => ?_); go_simp; refine hK.out _ ?_; clear hK K)
      refine wpGrow_eff _ rfl (fun wx he hcl => ?_) (fun _ K hK => ?_) rfl
      · clear hcl
        have hq := (he.cell (p := ⟨gb, 0, none⟩) QBL.out).trans QB.out
        go_simp
        exact Below.refl _ _
      go_simp
      refine hK.out _ ?_
      clear hK K
      repeat (refine wpGrow_pure rfl (fun K hK => ?_); go_simp; refine hK.out _ ?_; clear hK K)
      refine wpGrow_eff _ rfl (fun wx he hcl => ?_) (fun _ K hK => ?_) rfl
      · clear hcl
        have hq := (he.cell (p := ⟨b1, o1 + j * 2 + 1, none⟩) Q1L.out).trans Q1.out
        go_simp
        exact Below.refl _ _
      go_simp
      refine hK.out _ ?_
      clear hK K
      repeat (refine wpGrow_pure rfl (fun K hK => ?_); go_simp; refine hK.out _ ?_; clear hK K)
      refine wpGrow_eff _ rfl (fun wx he hcl => ?_) (fun ⟨D4, n4, c4⟩ K hK => ?_) rfl
      · clear hcl
        have hcon := rfput_any wx G (fun g hg => HGG.out g (Nat.le_trans HSZ.out (Nat.le_trans he.size hg))) A3 n3 c3 S3 (HF3.out.ext he) (by omega) A1 m c1 l w.heap.size (Nat.le_trans HBS.out he.size) (HR1.out.below (he.mono HBS.out)) (by omega) d
        rw [HPUT.out] at hcon
        go_simp
        exact hcon.mono fun e w2 ⟨D, k, c, he2, hf, hb⟩ => ⟨D, k, c, he2, hf, hb⟩
      go_simp
      refine hK.out _ ?_
      clear hK K
      repeat (refine wpGrow_pure rfl (fun K hK => ?_); go_simp; refine hK.out _ ?_; clear hK K)
      refine wpGrow_nil fun wx he hfin => ?_
      have hf4 : File wx G 57 5 D4 n4 c4 S4 := hfin.out 13
      clear hfin
      have hw4 := HW3.out.below he QOL.out
      have q4 := hw4.cell 0
      have f4 := hw4.frozen 0
      simp at q4
      have hgw := grow_put (w := wx) (g := go) (.slice D4 n4 c4)
      have HF5 := Lib.hid (hf4.far hw4 hgw part_ne'.1 part_ne'.2)
      have HW5 := Lib.hid (hw4.put_ 0 (.slice D4 n4 c4))
      have HB5 := Lib.hid ((HWB.out.below he QBL.out).far_of hgw ne3)
      have HR5 := Lib.hid ((HWR.out.below he HWR.out.lt).far_of hgw ne1)
      have hb5 := (hb.trans (he.mono hb.size)).setCell (p := ⟨go, 0, none⟩) HGO.out (.slice D4 n4 c4)
      clear hf4 hw4 hgw he hb QO QB P1 QOL QBL P1L HBS HSZ
      simp only [List.drop_succ_cons, List.drop_zero]
      go_wp2_with fail
      go_roundw
      case rel => exact ⟨j + 1, by omega, by go_num, ⟨D4, n4, c4, HW5.out, by rw [HS4.out]; exact HF5.out⟩, HB5, HR5, hb5⟩
      case measure => simp [intOf] <;> omega
    · obtain rfl : j = N := by omega
      have fo := hw3.frozen 0
      have qr := HWR.out.cell 0
      have fr := HWR.out.frozen 0
      simp at qr
      have ht : fs.take j = fs := List.take_of_length_le (by rw [HL.out]; omega)
      rw [ht] at hf3
      have hsl : n3 ≤ 1000000 := by
        have h1 := hf3.1
        have h2 := Exn.tidy_le fs
        have h3 := HL.out
        omega
      have HC := Lib.hid (rfput_any wr G (fun g hg => HGG.out g (Nat.le_trans hb.size hg)) A3 n3 c3 _ hf3 hsl A2 m2 cap2 b w.heap.size hb.size (HR2.out.below hb) hm2 false)
      rw [← Exn.app_eq] at HC
      clear hf3 ht HH
      go_wp2_with fail
      refine HC.out.mono ?_
      clear HC
      rintro en w5 ⟨A5, n5, c5, rfl, hf5, hb5⟩
      have hw5 := HWR.out.below hb5 HWR.out.lt
      have q5 := hw5.cell 0
      have f5 := hw5.frozen 0
      simp at q5
      have HF5 := Lib.hid hf5
      have HW5 := Lib.hid hw5
      have hb6 := hb.trans (hb5.mono hb.size)
      clear hf5 hw5 hb5 hb
      go_wp2_with fail
      have hend := out_one (D := A5) (n := n5) (c := c5) hb6 HW5.out HGR.out HF5.out rfl
      generalize w5.setCell ⟨gr, 0, none⟩ (.slice A5 n5 c5) = w9 at hend ⊢
      obtain ⟨r0, hend⟩ := hend
      simp [bodyPost, results, Try.results18, go_sem, r0]
      exact hend
set_option maxRecDepth 100000 in
set_option maxHeartbeats 8000000 in
theorem rof_any (w : World) (G : Nat → Prop) (hG : ∀ g, w.heap.size ≤ g → G g) (A : Option Addr) (N cap : Nat) (ls : List (List UInt8)) (B : Nat) (hB : B ≤ w.heap.size) (h : RdRows w B A N ls) (hN : N ≤ 1000000) (hf : ∀ l ∈ ls, l.length ≤ 1000000) :
    Calls Try.prog 10 #[.slice A N cap] w (FileOut G (Exn.of_ ls) w) := by
  have HL := Lib.hid h.1
  have H := Lib.hid h
  have HB := Lib.hid hB
  have HF := Lib.hid hf
  have HGG := Lib.hid hG
  have hb1 := below1 w (.cells #[.slice none 0 0] 34)
  have hb3 := hb1.trans ((below1 (w.alloc (.cells #[.slice none 0 0] 34)) (.cells #[.slice none 0 0] 34)).mono hb1.size)
  have HB3 := Lib.hid hb3
  have HW7 := Whole.new (w.alloc (.cells #[.slice none 0 0] 34)) 34 #[.slice none 0 0]
  have HW6 := Lib.hid ((Whole.new w 34 #[.slice none 0 0]).alloc (.cells #[.slice none 0 0] 34))
  have hz1 : (w.alloc (.cells #[.slice none 0 0] 34)).heap.size = w.heap.size + 1 := by simp
  rw [hz1] at HW7
  replace HW7 := Lib.hid HW7
  clear h hf hG hb1 hb3 hz1 hB
  go_enter Try.func10, Try.ntmps10
  go_wp2_with fail
  generalize (w.alloc (.cells #[.slice none 0 0] 34)).alloc (.cells #[.slice none 0 0] 34) = W3 at HB3 HW6 HW7 ⊢
  obtain ⟨go, hgo⟩ : ∃ gt, w.heap.size + 1 = gt := ⟨_, rfl⟩
  obtain ⟨gr, hgr⟩ : ∃ gr, w.heap.size = gr := ⟨_, rfl⟩
  have ne1 : ¬ go = gr := by omega
  have ne2 : ¬ gr = go := by omega
  have HGO := Lib.hid (show w.heap.size ≤ go by omega)
  have HGR := Lib.hid (show w.heap.size ≤ gr by omega)
  rw [hgo] at HW7 ⊢
  have HW6b := Lib.hid (show Whole W3 gr 34 #[.slice none 0 0] from by rw [← hgr]; exact HW6.out)
  rw [show (Value.pointer (some { block := w.heap.size, off := 0 })) = Value.pointer (some { block := gr, off := 0 }) from by rw [hgr]]
  clear hgo hgr HW6
  go_loopw [4] (fun i wr => ∃ (j : Nat), j ≤ N ∧ i = .int .i64 j ∧ Hid (HoldsR wr go G (Exn.of_ (ls.take j))) ∧ Hid (Whole wr gr 34 #[.slice none 0 0]) ∧ Below w.heap.size w wr) (fun i _ => N - (intOf i).toNat)
  case atStart => exact ⟨0, by omega, rfl, ⟨none, 0, 0, HW7.out, File.nil _ _ _ _⟩, HW6b.out, HB3.out⟩
  case round =>
    obtain ⟨j, hj, rfl, HH, HWR, hb⟩ := hrel
    obtain ⟨A3, n3, c3, hw3, hf3⟩ := HH.out
    have qo := hw3.cell 0
    simp at qo
    by_cases hlt : j < N
    · have hjl : j < ls.length := by have := HL.out; omega
      obtain ⟨b1, o1, A1, m, c1, rfl, hb1, hp1, _, _, hr1⟩ := (H.out.below (hb.mono HB.out)).2 j hlt
      have hg : ls.getD j [] = ls[j] := by simp [List.getD, List.getElem?_eq_getElem hjl]
      rw [hg] at hr1
      have hml := hr1.blen
      have hd : decide ((j : Int) < (N : Int)) = true := by simp; omega
      have d1 : (0 : Int) ≤ (j : Int) := by omega
      have d2 : (j : Int) < (N : Int) := by omega
      have hm1 := HF.out _ (List.getElem_mem hjl)
      rw [hml] at hm1
      have hput : Exn.put (Exn.of_ (ls.take j)) ls[j] true = Exn.of_ (ls.take (j + 1)) := by rw [List.take_succ_eq_append_getElem hjl, Exn.of_snoc]
      have hsl : n3 ≤ 1000000 := by
        have h1 := hf3.1
        have h2 := Exn.as_le true ls j
        have h3 := HL.out
        unfold Exn.of_ at h1
        omega
      obtain ⟨S3, hS3⟩ : ∃ S, Exn.of_ (ls.take j) = S := ⟨_, rfl⟩
      obtain ⟨S4, hS4⟩ : ∃ S, Exn.of_ (ls.take (j + 1)) = S := ⟨_, rfl⟩
      obtain ⟨l, hl⟩ : ∃ l, ls[j] = l := ⟨_, rfl⟩
      rw [hS3, hS4, hl] at hput
      rw [hS3] at hf3
      rw [hl] at hr1
      have HS4 := Lib.hid hS4
      have HPUT := Lib.hid hput
      have HF3 := Lib.hid hf3
      have HW3 := Lib.hid hw3
      have HR1 := Lib.hid hr1
      have HBS := Lib.hid (Nat.le_trans HB.out hb.size)
      have HSZ := Lib.hid hb.size
      have QO := Lib.hid qo
      have QOL := Lib.hid hw3.lt
      have P1 := Lib.hid hp1
      have P1L := Lib.hid (Nat.lt_of_lt_of_le hb1 (Nat.le_trans HB.out hb.size))
      clear hg hml hl hput hf3 hw3 hr1 hS3 hS4 HH hb1
      go_wp2_with fail
      clear qo hp1
      refine wp_region_tail 6 (fun k' => List.lookup k' [(0, .fix (.agg #[.slice A3 n3 c3])), (4, .fix (.slice A1 m c1)), (5, .fout G S4)]) (by as_aux_lemma => kernel_rfl) (by as_aux_lemma => kernel_rfl) (by as_aux_lemma => kernel_rfl) ?_
      simp only [List.take_succ_cons, List.take_zero]
      repeat (refine wpGrow_pure rfl (fun K hK => ?_); go_simp; refine hK.out _ ?_; clear hK K)
      refine wpGrow_eff _ rfl (fun wx he hcl => ?_) (fun _ K hK => ?_) rfl
      · clear hcl
        have hq := (he.cell (p := ⟨go, 0, none⟩) QOL.out).trans QO.out
        go_simp
        exact Below.refl _ _
      go_simp
      refine hK.out _ ?_
      clear hK K
      repeat (refine wpGrow_pure rfl (fun K hK => ?_); go_simp; refine hK.out _ ?_; clear hK K)
      refine wpGrow_eff _ rfl (fun wx he hcl => ?_) (fun _ K hK => ?_) rfl
      · clear hcl
        have hq := (he.cell (p := ⟨b1, o1 + j, none⟩) P1L.out).trans P1.out
        go_simp
        exact Below.refl _ _
      go_simp
      refine hK.out _ ?_
      clear hK K
      repeat (refine wpGrow_pure rfl (fun K hK => ?_); go_simp; refine hK.out _ ?_; clear hK K)
      refine wpGrow_eff _ rfl (fun wx he hcl => ?_) (fun ⟨D4, n4, c4⟩ K hK => ?_) rfl
      · clear hcl
        have hcon := rfput_any wx G (fun g hg => HGG.out g (Nat.le_trans HSZ.out (Nat.le_trans he.size hg))) A3 n3 c3 S3 (HF3.out.ext he) (by omega) A1 m c1 l B (Nat.le_trans HBS.out he.size) (HR1.out.below (he.mono HBS.out)) (by omega) true
        rw [HPUT.out] at hcon
        go_simp
        exact hcon.mono fun e w2 ⟨D, k, c, he2, hf, hb⟩ => ⟨D, k, c, he2, hf, hb⟩
      go_simp
      refine hK.out _ ?_
      clear hK K
      repeat (refine wpGrow_pure rfl (fun K hK => ?_); go_simp; refine hK.out _ ?_; clear hK K)
      refine wpGrow_nil fun wx he hfin => ?_
      have hf4 : File wx G 57 5 D4 n4 c4 S4 := hfin.out 5
      clear hfin
      have hw4 := HW3.out.below he QOL.out
      have q4 := hw4.cell 0
      have f4 := hw4.frozen 0
      simp at q4
      have hgw := grow_put (w := wx) (g := go) (.slice D4 n4 c4)
      have HF5 := Lib.hid (hf4.far hw4 hgw part_ne'.1 part_ne'.2)
      have HW5 := Lib.hid (hw4.put_ 0 (.slice D4 n4 c4))
      have HR5 := Lib.hid ((HWR.out.below he HWR.out.lt).far_of hgw ne1)
      have hb5 := (hb.trans (he.mono hb.size)).setCell (p := ⟨go, 0, none⟩) HGO.out (.slice D4 n4 c4)
      clear hf4 hw4 hgw he hb QO P1 QOL P1L HBS HSZ
      simp only [List.drop_succ_cons, List.drop_zero]
      go_wp2_with fail
      go_roundw
      case rel => exact ⟨j + 1, by omega, by go_num, ⟨D4, n4, c4, HW5.out, by rw [HS4.out]; exact HF5.out⟩, HR5, hb5⟩
      case measure => simp [intOf] <;> omega
    · obtain rfl : j = N := by omega
      have fo := hw3.frozen 0
      have qr := HWR.out.cell 0
      have fr := HWR.out.frozen 0
      simp at qr
      have ht : ls.take j = ls := List.take_of_length_le (by rw [HL.out]; omega)
      rw [ht] at hf3
      have HF3 := Lib.hid hf3
      clear hf3 ht HH
      go_wp2_with fail
      have hend := out_one (D := A3) (n := n3) (c := c3) hb HWR.out HGR.out HF3.out rfl
      generalize wr.setCell ⟨gr, 0, none⟩ (.slice A3 n3 c3) = w9 at hend ⊢
      obtain ⟨r0, hend⟩ := hend
      simp [bodyPost, results, Try.results10, go_sem, r0]
      exact hend
end Go.Proofs.Ytankhjchdnfpfaa
