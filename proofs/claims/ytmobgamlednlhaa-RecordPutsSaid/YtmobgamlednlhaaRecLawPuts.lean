/-
  Records: the law RecordPuts.
-/
import Derived.Test.YtmobgamlednlhaaRecRgt
import Derived.Test.YtmobgamlednlhaaUndef
namespace Go.Proofs.Ytmobgamlednlhaa
open Go.RowKit
theorem own_setb {w : World} {base : Nat} {e : TypeId} {n c k : Nat} {A : Option Addr} {l : List UInt8} (h : w.ownsRow base e 1 (.slice A n c) n (byts l)) (hk : k < n) (y : UInt8) :
    ∃ d, A = some ⟨d, 0, none⟩ ∧ base ≤ d ∧ d < w.heap.size ∧ w.frozen? ⟨d, k, none⟩ = false ∧ (∃ v, w.cell? ⟨d, k, none⟩ = some v) ∧
      (w.setCell ⟨d, k, none⟩ (.int .u8 (y.toNat : Nat))).ownsRow base e 1 (.slice A n c) n (byts (l.set k y)) := by
  have hl : l.length = n := by have := h.1; rw [byts_length] at this; omega
  rcases h.2 with ⟨_, h0⟩ | ⟨d, cap, cur, hv, hb, hh, hc1, hc2, hs, ht⟩
  · omega
  · injection hv with e1 e2 e3
    subst e1 e3
    have hw : Whole w d e cur := hh
    refine ⟨d, rfl, hb, hw.lt, hw.frozen k, ⟨cur[k]'(by omega), by rw [hw.cell]; exact Array.getElem?_eq_getElem (by omega)⟩, by rw [byts_length, List.length_set, hl, Nat.mul_one], .inr ⟨d, c, _, rfl, hb, hw.put_ k _, hc1, hc2, by rw [Array.size_setIfInBounds, hs], ?_⟩⟩
    rw [Array.toList_setIfInBounds, List.take_set, ht]
    unfold byts
    rw [List.map_set]
theorem Rc.putB_length {r : Rc} : r.putB.length ≤ 800 := by
  unfold Rc.putB
  split
  · rename_i h
    have h1 := Rc.body_length h
    have h2 := (Var.put_length r.body.length).2
    unfold Fra.bytes Fra.up Fra.head
    simp only [List.length_append, List.length_cons, Fra.sum4, List.length_nil]
    omega
  · simp
attribute [local go_sem] Instr.makeFunc Oper.growAt Oper.growUpon GSpec.fix GSpec.row GSpec.wh GSpec.own GSpec.box GSpec.kmap GSpec.lk1 GSpec.put match_undef
attribute [local irreducible] wpList
set_option maxRecDepth 100000 in
set_option maxHeartbeats 16000000 in
theorem recPuts_any (w : World) (r : Rc) (hok : r.ok) : Calls Try.prog 3 #[r.val] w fun en w' => en = .returned (.bool true) ∧ Below w.heap.size w w' := by
  unfold Rc.val
  have W1 := Lib.hid (Whole.new w 24 r.cells)
  have B1 := Lib.hid (belowK w (.cells r.cells 24))
  have HOK := Lib.hid hok
  clear hok
  obtain ⟨b, hb0⟩ : ∃ b, b = (decide (r.name.size ≤ 100) && decide (r.to.size ≤ 100)) := ⟨_, rfl⟩
  have hf := few_any (w.alloc (.cells r.cells 24)) r HOK.out b hb0
  have hval : r.val = .agg r.cells := rfl
  rw [hval] at hf
  have HF := Lib.hid hf
  clear hf hb0
  cases b with
  | false =>
    go_enter Try.func3, Try.ntmps3
    go_wp2_with (refine wpList_load_row rfl 24 (.tmp 1) rfl w.heap.size rfl 24 r.cells (0, 0) _ ?_ Try.underlying24 rfl (rec_size r) ?_; · exact W1.out)
    refine HF.out.mono ?_
    clear HF
    rintro en w1 ⟨rfl, hb1⟩
    have HB1 := Lib.hid (B1.out.trans (hb1.mono B1.out.size))
    clear hb1
    go_wp2_with fail
    refine (rworks_any w1).mono ?_
    rintro en w2 ⟨rfl, hb2⟩
    have HB2 := Lib.hid (HB1.out.trans (hb2.mono HB1.out.size))
    clear hb2
    go_wp2_with fail
    go_ret
    exact ⟨rfl, HB2.out⟩
  | true =>
    go_enter Try.func3, Try.ntmps3
    go_wp2_with (refine wpList_load_row rfl 24 (.tmp 1) rfl w.heap.size rfl 24 r.cells (0, 0) _ ?_ Try.underlying24 rfl (rec_size r) ?_; · exact W1.out)
    refine HF.out.mono ?_
    clear HF
    rintro en w1 ⟨rfl, hb1⟩
    have V1 := Lib.hid (W1.out.below hb1 W1.out.lt)
    have VB := Lib.hid (B1.out.trans (hb1.mono B1.out.size))
    clear hb1 W1 B1
    go_wp2_with (refine wpList_load_row rfl 24 (.tmp 1) rfl w.heap.size rfl 24 r.cells (0, 0) _ ?_ Try.underlying24 rfl (rec_size r) ?_; · exact V1.out)
    refine (show Calls Try.prog 11 #[.agg r.cells] w1 (fun en w' => en = .returned (.agg r.cells) ∧ Below w1.heap.size w1 w') from ref_any w1 r).mono ?_
    rintro en w2 ⟨rfl, hb2⟩
    have V2 := Lib.hid (V1.out.below hb2 V1.out.lt)
    have VB2 := Lib.hid (VB.out.trans (hb2.mono VB.out.size))
    clear hb2 V1 VB
    go_wp2_with fail
    refine (show Calls Try.prog 10 #[.agg r.cells] w2 (PutP r w2) from rput_rec_any w2 r HOK.out).mono ?_
    rintro en w3 ⟨D1, c1, rfl, ho3, hb3⟩
    have HR1 := Lib.hid (Rd.of_own ho3)
    have V3 := Lib.hid (V2.out.below hb3 V2.out.lt)
    have VB3 := Lib.hid (VB2.out.trans (hb3.mono VB2.out.size))
    clear ho3 hb3 V2 VB2
    obtain ⟨L, hL⟩ : ∃ L, r.putB.length = L := ⟨_, rfl⟩
    have HLL := Lib.hid (show L ≤ 800 by rw [← hL]; exact Rc.putB_length)
    rw [hL] at HR1 ⊢
    obtain ⟨T3, hT3⟩ : ∃ T, w3.heap.size = T := ⟨_, rfl⟩
    have HT3 := Lib.hid (show w.heap.size < T3 by rw [← hT3]; exact V3.out.lt)
    have HTS := Lib.hid (show T3 ≤ w3.heap.size by omega)
    rw [hT3] at HR1
    have HL := Lib.hid hL
    clear hT3 hL
    go_wp2_with fail
    go_loopw [5] (fun i wr => ∃ j : Nat, j ≤ 2 ∧ i = .int .i64 j ∧ Hid (Whole wr w.heap.size 24 r.cells) ∧ Hid (Rd wr T3 1 D1 L (byts r.putB)) ∧ Hid (T3 ≤ wr.heap.size) ∧ Hid (Below w.heap.size w wr)) (fun i _ => 2 - (intOf i).toNat)
    case atStart => exact ⟨0, by omega, rfl, V3, HR1, HTS, VB3⟩
    case round =>
      clear V3 HR1 HTS VB3
      obtain ⟨j, hj, rfl, HW1, HR1, HTS, HBB⟩ := hrel
      by_cases hlt : j < 2
      · have hd : decide ((j : Int) < 2) = true := by simp; omega
        have w1 : IntKind.i64.wrap ((j : Int) + 1) = ((j + 1 : Nat) : Int) := by rw [IntKind.wrap_i64]; omega
        go_wp2_with (refine wpList_load_row rfl 24 (.tmp 1) rfl w.heap.size rfl 24 r.cells (0, 0) _ ?_ Try.underlying24 rfl (rec_size r) ?_; · exact HW1.out)
        refine (show Calls Try.prog 12 #[.agg r.cells] wr (PutP r wr) from put_rec_any wr r HOK.out).mono ?_
        rintro en w4 ⟨D2, c2, rfl, ho4, hb4⟩
        rw [HL.out] at ho4 ⊢
        have HO4 := Lib.hid ho4
        have HW4 := Lib.hid (HW1.out.below hb4 HW1.out.lt)
        have HR4 := Lib.hid (HR1.out.below (hb4.mono HTS.out))
        have HB4 := Lib.hid (HBB.out.trans (hb4.mono HBB.out.size))
        have HT4 := Lib.hid (Nat.le_trans HTS.out hb4.size)
        have heq : (((r.putE : Nat) : Int) == ((r.putE : Nat) : Int)) = true := by simp
        have HSA := Lib.hid (same_any w4 D2 L c2 r.putB D1 L c1 r.putB w4.heap.size T3 (Nat.le_refl _) HT4.out (Rd.of_own HO4.out) HR4.out (by have := HLL.out; omega) (by have := HLL.out; omega) true (by simp))
        clear ho4 hb4
        go_wp2_with fail
        refine HSA.out.mono ?_
        clear HSA
        rintro en w5 ⟨rfl, hb5⟩
        have HO5 := Lib.hid (show ∃ zs, w5.ownsRow wr.heap.size 5 1 (.slice D2 L c2) L (byts zs) from ⟨_, own_ext HO4.out hb5⟩)
        have HW5 := Lib.hid (HW4.out.below hb5 HW4.out.lt)
        have HR5 := Lib.hid (HR4.out.below (hb5.mono HT4.out))
        have HB5 := Lib.hid (HB4.out.trans (hb5.mono HB4.out.size))
        have HT5 := Lib.hid (Nat.le_trans HT4.out hb5.size)
        clear hb5 heq HO4 HW4 HR4 HB4 HT4
        go_wp2_with fail
        obtain ⟨wo, hwo⟩ : ∃ wo : World, wo = wr := ⟨_, rfl⟩
        have HTO := Lib.hid (show T3 ≤ wo.heap.size by rw [hwo]; exact HTS.out)
        rw [← hwo] at HO5
        clear hwo
        go_loopw [8] (fun i wx => ∃ k : Nat, k ≤ L ∧ i = .int .i64 k ∧ Hid (∃ zs, wx.ownsRow wo.heap.size 5 1 (.slice D2 L c2) L (byts zs)) ∧ Hid (Whole wx w.heap.size 24 r.cells) ∧ Hid (Rd wx T3 1 D1 L (byts r.putB)) ∧ Hid (T3 ≤ wx.heap.size) ∧ Hid (Below w.heap.size w wx)) (fun i _ => L - (intOf i).toNat)
        case atStart => exact ⟨0, by omega, rfl, HO5, HW5, HR5, HT5, HB5⟩
        case round =>
          clear HO5 HW5 HR5 HB5 HT5 HW1 HR1 HTS HBB
          obtain ⟨k, hk, rfl, HOW, HW1, HR1, HTS, HBB⟩ := hrel
          by_cases hlk : k < L
          · obtain ⟨zs, hzs⟩ := HOW.out
            obtain ⟨d2, hA, hd2, hdl, hf, ⟨v, hv⟩, hset⟩ := own_setb hzs hlk 7
            have e7 : (((7 : UInt8).toNat : Nat) : Int) = 7 := by decide
            rw [e7] at hset
            have HSET := Lib.hid hset
            have HD2 := Lib.hid hd2
            clear hset hzs e7 HOW hd2
            subst hA
            have hd : decide ((k : Int) < (L : Int)) = true := by simp; omega
            have p1 : (0 : Int) ≤ (k : Int) := by omega
            have p2 : (k : Int) < (L : Int) := by omega
            have w2 : IntKind.i64.wrap ((k : Int) + 1) = ((k + 1 : Nat) : Int) := by rw [IntKind.wrap_i64]; have := HLL.out; omega
            go_wp2_with fail
            go_roundw
            case rel => exact ⟨k + 1, by omega, by first | rfl | go_num, ⟨_, HSET.out⟩, Lib.hid (HW1.out.far (p := ⟨d2, k, none⟩) (by have := HD2.out; have := HTO.out; have := HT3.out; show w.heap.size ≠ d2; omega) _), Lib.hid (HR1.out.setCell (p := ⟨d2, k, none⟩) (by have := HD2.out; have := HTO.out; show T3 ≤ d2; omega) _), Lib.hid (by simpa using HTS.out), Lib.hid (HBB.out.setCell (p := ⟨d2, k, none⟩) (by have := HD2.out; have := HTO.out; have := HT3.out; show w.heap.size ≤ d2; omega) _)⟩
            case measure => simp [intOf] <;> omega
          · obtain rfl : k = L := by omega
            have hd : decide ((k : Int) < (k : Int)) = false := by simp
            go_wp2_with fail
            go_roundw
            case rel => exact ⟨j + 1, by omega, by first | rfl | go_num, HW1, HR1, HTS, HBB⟩
            case measure => simp [intOf] <;> omega
      · obtain rfl : j = 2 := by omega
        clear hj hlt
        have hrr : ∀ b : Bool, (b == b) = true := fun b => by cases b <;> rfl
        have HGL := Lib.hid HW1.out.lt
        have HQ0 := Lib.hid (show wr.cell? ⟨w.heap.size, 0, none⟩ = some (.int .u8 (r.k : Nat)) from HW1.out.cell 0)
        go_wp2_with fail
        refine wp_region_grow (fun k' => List.lookup k' [(0, (.fix (.agg r.cells))), (1, (.fix (.bool r.right))), (2, (.fix (.agg r.cells))), (3, (.fix (.agg r.cells))), (4, (.fix (.bool r.right))), (8, (.fix (.int .u8 (r.k : Nat)))), (9, (.fix (.string ⟨(Rc.word r.k).toArray⟩))), (11, (.fix (.int .u8 (r.k : Nat)))), (12, (.fix (.string ⟨(Rc.word r.k).toArray⟩))), (16, (.fix (.bool true)))]) (by as_aux_lemma => kernel_rfl) (by as_aux_lemma => kernel_rfl) ?_
        repeat (refine wpGrow_pure rfl (fun K hK => ?_); go_simp; refine hK.out _ ?_; clear hK K)
        refine wpGrow_eff _ rfl (fun wx he hcl => ?_) (fun _ K hK => ?_) rfl
        · clear hcl
          exact growAt_load_row rfl rfl (HW1.out.below he HW1.out.lt) Try.underlying24 rfl (rec_size _)
        go_simp
        refine hK.out _ ?_
        clear hK K
        repeat (refine wpGrow_pure rfl (fun K hK => ?_); go_simp; refine hK.out _ ?_; clear hK K)
        refine wpGrow_eff _ rfl (fun wx he hcl => ?_) (fun _ K hK => ?_) rfl
        · clear hcl
          have hcon := right_any wx r HOK.out
          go_simp
          try exact hcon
        go_simp
        refine hK.out _ ?_
        clear hK K
        repeat (refine wpGrow_pure rfl (fun K hK => ?_); go_simp; refine hK.out _ ?_; clear hK K)
        refine wpGrow_eff _ rfl (fun wx he hcl => ?_) (fun _ K hK => ?_) rfl
        · clear hcl
          exact growAt_load_row rfl rfl (HW1.out.below he HW1.out.lt) Try.underlying24 rfl (rec_size _)
        go_simp
        refine hK.out _ ?_
        clear hK K
        repeat (refine wpGrow_pure rfl (fun K hK => ?_); go_simp; refine hK.out _ ?_; clear hK K)
        refine wpGrow_eff _ rfl (fun wx he hcl => ?_) (fun _ K hK => ?_) rfl
        · clear hcl
          have hcon := (show Calls Try.prog 11 #[.agg r.cells] wx (fun en w' => en = .returned (.agg r.cells) ∧ Below wx.heap.size wx w') from ref_any wx r)
          go_simp
          try exact hcon
        go_simp
        refine hK.out _ ?_
        clear hK K
        repeat (refine wpGrow_pure rfl (fun K hK => ?_); go_simp; refine hK.out _ ?_; clear hK K)
        refine wpGrow_eff _ rfl (fun wx he hcl => ?_) (fun _ K hK => ?_) rfl
        · clear hcl
          have hcon := (show Calls Try.prog 15 #[.agg r.cells] wx (fun en w' => en = .returned (.bool r.right) ∧ Below wx.heap.size wx w') from by rw [Rc.right_rright]; exact rright_any wx r HOK.out)
          go_simp
          try exact hcon
        go_simp
        refine hK.out _ ?_
        clear hK K
        repeat (refine wpGrow_pure rfl (fun K hK => ?_); go_simp; refine hK.out _ ?_; clear hK K)
        refine wpGrow_eff _ rfl (fun wx he hcl => ?_) (fun _ K hK => ?_) rfl
        · clear hcl
          have hq := (he.cell (p := ⟨w.heap.size, 0, none⟩) HGL.out).trans HQ0.out
          go_simp
          exact Below.refl _ _
        go_simp
        refine hK.out _ ?_
        clear hK K
        repeat (refine wpGrow_pure rfl (fun K hK => ?_); go_simp; refine hK.out _ ?_; clear hK K)
        refine wpGrow_eff _ rfl (fun wx he hcl => ?_) (fun _ K hK => ?_) rfl
        · clear hcl
          have hcon := word_any wx r.k HOK.out.1
          go_simp
          try exact hcon
        go_simp
        refine hK.out _ ?_
        clear hK K
        repeat (refine wpGrow_pure rfl (fun K hK => ?_); go_simp; refine hK.out _ ?_; clear hK K)
        refine wpGrow_eff _ rfl (fun wx he hcl => ?_) (fun _ K hK => ?_) rfl
        · clear hcl
          have hq := (he.cell (p := ⟨w.heap.size, 0, none⟩) HGL.out).trans HQ0.out
          go_simp
          exact Below.refl _ _
        go_simp
        refine hK.out _ ?_
        clear hK K
        repeat (refine wpGrow_pure rfl (fun K hK => ?_); go_simp; refine hK.out _ ?_; clear hK K)
        refine wpGrow_eff _ rfl (fun wx he hcl => ?_) (fun _ K hK => ?_) rfl
        · clear hcl
          have hcon := rword_any wx r.k HOK.out.1
          go_simp
          try exact hcon
        go_simp
        refine hK.out _ ?_
        clear hK K
        repeat (refine wpGrow_pure rfl (fun K hK => ?_); go_simp; refine hK.out _ ?_; clear hK K)
        refine wpGrow_eff _ rfl (fun wx he hcl => ?_) (fun _ K hK => ?_) rfl
        · clear hcl
          have hcon := rworks_any wx
          go_simp
          try exact hcon
        go_simp
        refine hK.out _ ?_
        clear hK K
        repeat (refine wpGrow_pure rfl (fun K hK => ?_); go_simp; refine hK.out _ ?_; clear hK K)
        refine wpGrow_nil fun wx he hfin => ?_
        clear hfin
        have HB9 := Lib.hid (HBB.out.trans (he.mono HBB.out.size))
        clear he
        go_wp2_with fail
        go_ret
        exact ⟨rfl, HB9.out⟩
end Go.Proofs.Ytmobgamlednlhaa
