/-
  Records: is one right?
-/
import Derived.Test.YtmobgamlednlhaaRecStruct
import Derived.BigRegion
namespace Go.Proofs.Ytmobgamlednlhaa
open Go.RowKit
attribute [local go_sem] Instr.makeFunc Oper.growAt Oper.growUpon GSpec.fix GSpec.row GSpec.wh GSpec.own GSpec.box GSpec.kmap GSpec.lk match_undef
attribute [local irreducible] wpList
theorem rec_built (k : Nat) : (#[.int .u8 (k : Nat), .int .u64 0, .int .u64 0, .int .u64 0, .int .u64 0, .int .u64 0, .int .u64 0, .int .u64 0, .int .u64 0, .int .u64 0, .string ⟨#[]⟩, .string ⟨#[]⟩] : Array Value) = (Rc.zero k).cells := rfl
theorem Whole.new1 (w : World) (o : Obj) (t : TypeId) (cs : Array Value) : Whole ((w.alloc o).alloc (.cells cs t)) (w.heap.size + 1) t cs := by
  have h := Whole.new (w.alloc o) t cs
  rwa [show (w.alloc o).heap.size = w.heap.size + 1 by simp] at h
theorem parts_rd {w : World} {b B : Nat} {ps : List Nat} (h : Whole w b 94 (smalls ps).toArray) (hB : b < B) : Rd w B 1 (some ⟨b, 0, none⟩) ps.length (smalls ps) := by
  have hl : (smalls ps).length = ps.length := List.length_map _
  have h1 := Rd.of_heap (n := ps.length) h hB (by rw [List.size_toArray, hl]; exact Nat.le_refl _)
  rw [List.take_of_length_le (by simp [hl])] at h1
  exact h1
set_option maxRecDepth 100000 in
set_option maxHeartbeats 16000000 in
theorem right_any (w : World) (r : Rc) (hok : r.ok) : Calls Try.prog 14 #[r.val] w fun en w' => en = .returned (.bool r.right) ∧ Below w.heap.size w w' := by
  unfold Rc.val
  have W1 := Lib.hid (Whole.new w 24 r.cells)
  have B1 := Lib.hid (belowK w (.cells r.cells 24))
  have HSZ := Lib.hid (show w.heap.size ≤ (w.alloc (.cells r.cells 24)).heap.size by simp)
  have GL := Lib.hid W1.out.lt
  have Q0 := Lib.hid (show (w.alloc (.cells r.cells 24)).cell? ⟨w.heap.size, 0, none⟩ = some (.int .u8 (r.k : Nat)) from W1.out.cell 0)
  have HOK := Lib.hid hok
  clear hok
  by_cases hk : 1 ≤ r.k ∧ r.k ≤ 11
  · have HK := Lib.hid hk
    clear hk
    go_enter Try.func14, Try.ntmps14
    go_wp2_with fail
    refine wp_region_grow (fun k' => List.lookup k' [(0, (.kmap w.heap.size)), (2, (.fix (.int .u8 (r.k : Nat)))), (3, (.lk w.heap.size (Rc.pl r.k)))]) (by as_aux_lemma => kernel_rfl) (by as_aux_lemma => kernel_rfl) ?_
    repeat (refine wpGrow_pure rfl (fun K hK => ?_); go_simp; refine hK.out _ ?_; clear hK K)
    refine wpGrow_eff _ rfl (fun wx he hcl => ?_) (fun gm K hK => ?_) rfl
    · clear hcl
      have hsz := Nat.le_trans HSZ.out he.size
      have hcon := kinds_any wx
      go_simp
      exact hcon.mono fun e w2 ⟨g, he1, h1, h2⟩ => ⟨g, he1, ⟨Nat.le_trans hsz h1.1, h1.2.imp fun es h => ⟨h.1, h.2.1, fun i hi => (h.2.2 i hi).imp fun x h => ⟨h.1, h.2.1, h.2.2.imp fun b h => ⟨h.1, Nat.le_trans hsz h.2.1, h.2.2⟩⟩⟩⟩, h2⟩
    go_simp
    refine hK.out _ ?_
    clear hK K
    repeat (refine wpGrow_pure rfl (fun K hK => ?_); go_simp; refine hK.out _ ?_; clear hK K)
    refine wpGrow_eff _ rfl (fun wx he hcl => ?_) (fun _ K hK => ?_) rfl
    · clear hcl
      have hq := (he.cell (p := ⟨w.heap.size, 0, none⟩) GL.out).trans Q0.out
      go_simp
      exact Below.refl _ _
    go_simp
    refine hK.out _ ?_
    clear hK K
    repeat (refine wpGrow_pure rfl (fun K hK => ?_); go_simp; refine hK.out _ ?_; clear hK K)
    refine wpGrow_eff _ rfl (fun wx he hcl => ?_) (fun b K hK => ?_) rfl
    · have hkm : KMap wx w.heap.size gm Rec.kinds := hcl.out 0 (by kernel_rfl)
      obtain ⟨b, h1, h2, h3, _⟩ := kmap_found hkm HK.out.1 HK.out.2
      exact growAt_lookup rfl rfl rfl h3 ⟨b, rfl, h1, h2⟩
    go_simp
    refine hK.out _ ?_
    clear hK K
    repeat (refine wpGrow_pure rfl (fun K hK => ?_); go_simp; refine hK.out _ ?_; clear hK K)
    refine wpGrow_nil fun wx he hfin => ?_
    have hpr : w.heap.size ≤ b ∧ Whole wx b 94 (smalls (Rc.pl r.k)).toArray := hfin.out 3
    clear hfin
    have PR := Lib.hid hpr
    have HE := Lib.hid he
    have W2 := Lib.hid (W1.out.below he W1.out.lt)
    have q8 : wx.cell? ⟨w.heap.size, 8, none⟩ = some (.int .u64 (r.size : Nat)) := W2.out.cell 8
    have q9 : wx.cell? ⟨w.heap.size, 9, none⟩ = some (.int .u64 (r.crc : Nat)) := W2.out.cell 9
    clear hpr he
    by_cases h8 : 65535 < r.size
    · have hd : decide ((65535 : Int) < (r.size : Int)) = true := by simp; omega
      have HF := Lib.hid (show r.right = false by
        unfold Rc.right
        simp only [show ¬ r.size ≤ 65535 by omega, decide_false, Bool.and_false, Bool.false_and])
      go_wp2_with fail
      go_ret
      rw [HF.out]
      exact ⟨rfl, B1.out.trans (HE.out.mono B1.out.size)⟩
    · have hd : decide ((65535 : Int) < (r.size : Int)) = false := by simp; omega
      by_cases h9 : 4294967295 < r.crc
      · have hd9 : decide ((4294967295 : Int) < (r.crc : Int)) = true := by simp; omega
        have HF := Lib.hid (show r.right = false by
          unfold Rc.right
          simp only [show ¬ r.crc ≤ 4294967295 by omega, decide_false, Bool.and_false, Bool.false_and])
        go_wp2_with fail
        go_ret
        rw [HF.out]
        exact ⟨rfl, B1.out.trans (HE.out.mono B1.out.size)⟩
      · have hd9 : decide ((4294967295 : Int) < (r.crc : Int)) = false := by simp; omega
        have hr0 : r.right = (!(r.takeAll (Rc.places r.k)).2 && (r.takeAll (Rc.places r.k)).1.eqB (Rc.zero r.k)) := by
          unfold Rc.right
          rw [decide_eq_true HK.out, decide_eq_true (show r.size ≤ 65535 by omega), decide_eq_true (show r.crc ≤ 4294967295 by omega)]
          simp
        have HR := Lib.hid hr0
        clear hr0 h8 h9
        go_wp2_with (first
          | (refine wpList_load_row rfl 24 (.tmp 1) rfl w.heap.size rfl 24 r.cells (0, 0) _ ?_ Try.underlying24 rfl (rec_size r) ?_; · exact (W2.out.alloc _))
          | (refine wpList_store_row rfl 24 (.tmp 6) (.tmp 28) rfl (wx.heap.size + 1) r.cells rfl rfl 24 _ (Whole.new1 _ _ _ _) (rec_size r) rfl (rec_cells r) ?_))
        have g1 := ((W2.out.alloc (.cells #[.bool false] 68)).alloc (.cells #[.int .u8 0, .int .u64 0, .int .u64 0, .int .u64 0, .int .u64 0, .int .u64 0, .int .u64 0, .int .u64 0, .int .u64 0, .int .u64 0, .string ⟨#[]⟩, .string ⟨#[]⟩] 24)).row_far (k := wx.heap.size + 1) (by have := W2.out.lt; omega) r.cells
        have g2 := (Whole.new1 wx (.cells #[.bool false] 68) 24 #[.int .u8 0, .int .u64 0, .int .u64 0, .int .u64 0, .int .u64 0, .int .u64 0, .int .u64 0, .int .u64 0, .int .u64 0, .int .u64 0, .string ⟨#[]⟩, .string ⟨#[]⟩]).row r.cells
        have g3 := ((Whole.new wx 68 #[.bool false]).alloc (.cells #[.int .u8 0, .int .u64 0, .int .u64 0, .int .u64 0, .int .u64 0, .int .u64 0, .int .u64 0, .int .u64 0, .int .u64 0, .int .u64 0, .string ⟨#[]⟩, .string ⟨#[]⟩] 24)).row_far (k := wx.heap.size + 1) (by omega) r.cells
        have g4 := ((PR.out.2.alloc (.cells #[.bool false] 68)).alloc (.cells #[.int .u8 0, .int .u64 0, .int .u64 0, .int .u64 0, .int .u64 0, .int .u64 0, .int .u64 0, .int .u64 0, .int .u64 0, .int .u64 0, .string ⟨#[]⟩, .string ⟨#[]⟩] 24)).row_far (k := wx.heap.size + 1) (by have := PR.out.2.lt; omega) r.cells
        have g5 := Below.setRow (((Below.refl wx.heap.size wx).alloc (Nat.le_refl _) (.cells #[.bool false] 68)).alloc (by simp) (.cells #[.int .u8 0, .int .u64 0, .int .u64 0, .int .u64 0, .int .u64 0, .int .u64 0, .int .u64 0, .int .u64 0, .int .u64 0, .int .u64 0, .string ⟨#[]⟩, .string ⟨#[]⟩] 24)) (g := wx.heap.size + 1) (by omega) r.cells
        have BL := Lib.hid PR.out.2.lt
        have WL := Lib.hid W2.out.lt
        generalize World.setRow ((wx.alloc (.cells #[.bool false] 68)).alloc (.cells #[.int .u8 0, .int .u64 0, .int .u64 0, .int .u64 0, .int .u64 0, .int .u64 0, .int .u64 0, .int .u64 0, .int .u64 0, .int .u64 0, .string ⟨#[]⟩, .string ⟨#[]⟩] 24)) (wx.heap.size + 1) r.cells = W4 at g1 g2 g3 g4 g5 ⊢
        have HV := Lib.hid (visit_taker W4 (wx.heap.size + 1) wx.heap.size 24 68 r HOK.out g2 g3 (by omega) (some ⟨b, 0, none⟩) (Rc.pl r.k).length (Rc.pl r.k).length (Rc.pl r.k) (Rc.pl_lt _) (parts_rd g4 g4.lt) (fun _ bb o h => by
          cases h
          have := BL.out
          constructor <;> omega) (by have := Rc.pl_len r.k; omega))
        have G1 := Lib.hid g1
        have G5 := Lib.hid g5
        clear g1 g2 g3 g4 g5 q8 q9
        refine HV.out.mono ?_
        clear HV
        rintro en w2 ⟨rfl, v1, v2, v3⟩
        obtain ⟨x, hx⟩ : ∃ x, (r.takeAll (Rc.places r.k)).1 = x := ⟨_, rfl⟩
        have V1 := Lib.hid (show Whole w2 (wx.heap.size + 1) 24 x.cells by rw [← hx]; exact v1)
        have HRX := Lib.hid (show r.right = (!(r.takeAll (Rc.places r.k)).2 && x.eqB (Rc.zero r.k)) by rw [← hx]; exact HR.out)
        clear hx HR
        have z1 := Lib.hid ((v3.block w.heap.size G1.out.lt (by have := WL.out; omega) (by have := WL.out; omega)).trans G1.out)
        have BB := Lib.hid (B1.out.trans ((HE.out.mono B1.out.size).trans ((G5.out.mono (Nat.le_trans B1.out.size HE.out.size)).trans (v3.below (H := w.heap.size) (Nat.le_of_lt (show w.heap.size < W4.heap.size from G1.out.lt)) (by have := WL.out; omega) (by have := WL.out; omega)))))
        have q1 : w2.cell? ⟨wx.heap.size, 0, none⟩ = some (.bool (r.takeAll (Rc.places r.k)).2) := v2.cell 0
        have q2 : w2.cell? ⟨w.heap.size, 0, none⟩ = some (.int .u8 (r.k : Nat)) := (show Whole w2 w.heap.size 24 r.cells from z1.out).cell 0
        have hgd := rec_guard
        have heq : ∀ w : World, (binOp .eql 24 (.agg x.cells) (.agg #[.int .u8 (r.k : Nat), .int .u64 0, .int .u64 0, .int .u64 0, .int .u64 0, .int .u64 0, .int .u64 0, .int .u64 0, .int .u64 0, .int .u64 0, .string ⟨#[]⟩, .string ⟨#[]⟩])).run Try.prog w = .ok (.bool (x.eqB (Rc.zero r.k))) w := fun w => rec_eq w _ (Rc.zero r.k)
        clear v1 v2 v3
        cases hb : (r.takeAll (Rc.places r.k)).2 with
        | true =>
          rw [hb] at q1
          have HF := Lib.hid (show r.right = false by rw [HRX.out, hb]; rfl)
          clear hb heq
          go_wp2_with fail
          go_ret
          rw [HF.out]
          exact ⟨rfl, BB.out⟩
        | false =>
          rw [hb] at q1
          have HF := Lib.hid (show r.right = x.eqB (Rc.zero r.k) by rw [HRX.out, hb]; simp)
          clear hb
          go_wp2_with (refine wpList_load_rowg rfl 24 (.tmp 6) rfl (wx.heap.size + 1) rfl 24 _ _ V1.out Try.underlying24 rfl (rec_size _) ?_)
          go_ret
          rw [HF.out]
          exact ⟨rfl, BB.out⟩
  · have HK := Lib.hid hk
    clear hk
    go_enter Try.func14, Try.ntmps14
    go_wp2_with fail
    refine wp_region_grow (fun k' => List.lookup k' [(0, (.kmap w.heap.size)), (2, (.fix (.int .u8 (r.k : Nat)))), (3, (.fix (.tuple #[.slice none 0 0, .bool false])))]) (by as_aux_lemma => kernel_rfl) (by as_aux_lemma => kernel_rfl) ?_
    repeat (refine wpGrow_pure rfl (fun K hK => ?_); go_simp; refine hK.out _ ?_; clear hK K)
    refine wpGrow_eff _ rfl (fun wx he hcl => ?_) (fun gm K hK => ?_) rfl
    · clear hcl
      have hsz := Nat.le_trans HSZ.out he.size
      have hcon := kinds_any wx
      go_simp
      exact hcon.mono fun e w2 ⟨g, he1, h1, h2⟩ => ⟨g, he1, ⟨Nat.le_trans hsz h1.1, h1.2.imp fun es h => ⟨h.1, h.2.1, fun i hi => (h.2.2 i hi).imp fun x h => ⟨h.1, h.2.1, h.2.2.imp fun b h => ⟨h.1, Nat.le_trans hsz h.2.1, h.2.2⟩⟩⟩⟩, h2⟩
    go_simp
    refine hK.out _ ?_
    clear hK K
    repeat (refine wpGrow_pure rfl (fun K hK => ?_); go_simp; refine hK.out _ ?_; clear hK K)
    refine wpGrow_eff _ rfl (fun wx he hcl => ?_) (fun _ K hK => ?_) rfl
    · clear hcl
      have hq := (he.cell (p := ⟨w.heap.size, 0, none⟩) GL.out).trans Q0.out
      go_simp
      exact Below.refl _ _
    go_simp
    refine hK.out _ ?_
    clear hK K
    repeat (refine wpGrow_pure rfl (fun K hK => ?_); go_simp; refine hK.out _ ?_; clear hK K)
    refine wpGrow_eff _ rfl (fun wx he hcl => ?_) (fun _ K hK => ?_) rfl
    · have hkm : KMap wx w.heap.size gm Rec.kinds := hcl.out 0 (by kernel_rfl)
      exact growAt_lookup rfl rfl rfl (kmap_none hkm HK.out) ⟨(), rfl, trivial⟩
    go_simp
    refine hK.out _ ?_
    clear hK K
    repeat (refine wpGrow_pure rfl (fun K hK => ?_); go_simp; refine hK.out _ ?_; clear hK K)
    refine wpGrow_nil fun wx he hfin => ?_
    clear hfin
    have HF := Lib.hid (show r.right = false by
      unfold Rc.right
      rw [decide_eq_false HK.out]
      simp only [Bool.false_and])
    go_wp2_with fail
    go_ret
    rw [HF.out]
    exact ⟨rfl, B1.out.trans (he.mono B1.out.size)⟩
end Go.Proofs.Ytmobgamlednlhaa
