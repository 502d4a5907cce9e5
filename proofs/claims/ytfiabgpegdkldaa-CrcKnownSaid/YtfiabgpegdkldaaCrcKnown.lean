/-
  The walk of CrcKnown (a closed statement): it returns true.
-/
import Derived.Test.YtfiabgpegdkldaaCrcFlips
import Derived.Test.YtfiabgpegdkldaaCrcParts
import Derived.Test.YtfiabgpegdkldaaCrcXors
import Derived.Test.YtfiabgpegdkldaaCrcSums
namespace Go.Proofs.Ytfiabgpegdkldaa
open Go.RowKit
attribute [local go_sem] Oper.growAt Oper.growUpon GSpec.fix GSpec.row GSpec.wh GSpec.own
theorem whole_put_row {w : World} {g : Nat} {t : TypeId} {cs ds : Array Value} (h : Whole w g t cs) : Whole (w.setRow g ds) g t ds := setRow_heap w g cs _ t (0, 0) h
theorem whole_far_row {w : World} {g k : Nat} {t : TypeId} {cs ds : Array Value} (h : Whole w g t cs) (hne : g ≠ k) : Whole (w.setRow k ds) g t cs := (setRow_other w k g _ hne).trans h
theorem below_put_row {B g : Nat} {w0 w : World} (h : Below B w0 w) (hB : B ≤ g) (cs : Array Value) : Below B w0 (w.setRow g cs) :=
  h.trans ⟨rfl, rfl, rfl, by simp, fun j hj => setRow_other w g j cs (by omega)⟩
theorem bytes3 (a b : UInt8) : #[Value.int .u8 (a.toNat : Int), .int .u8 0, .int .u8 (b.toNat : Int)].toList = byts [a, 0, b] := rfl
theorem bytes4 (a : UInt8) : #[Value.int .u8 1, .int .u8 2, .int .u8 3, .int .u8 (a.toNat : Int)].toList = byts [1, 2, 3, a] := rfl
set_option maxHeartbeats 1000000 in
set_option maxRecDepth 100000 in
theorem crcKnown_any (w : World) :
    Calls Try.prog 7 #[] w fun e w' => e = .returned (.bool true) ∧ Below w.heap.size w w' := by
  have hs : (Try.prog.info? 35).map (·.size) = some (tcells 256).size := size35
  have ho := zcells_size
  go_enter Try.func7, Try.ntmps7
  go_wp2_with fail
  refine (refTable_any w).mono ?_
  rintro e w1 ⟨rfl, hb1⟩
  go_wp2_with fail
  refine (table_any w1).mono ?_
  rintro e w2 ⟨rfl, hb2⟩
  have hc2 : Below w.heap.size w w2 := hb1.trans (hb2.mono hb1.size)
  have k1 : Whole ((w2.alloc (.cells zcells 35)).alloc (.cells zcells 35)) w2.heap.size 35 zcells := (Whole.new w2 _ _).alloc _
  have k2 : Whole ((w2.alloc (.cells zcells 35)).alloc (.cells zcells 35)) (w2.heap.size + 1) 35 zcells := heap_alloc2_new w2 _ _
  have k3 : Below w.heap.size w ((w2.alloc (.cells zcells 35)).alloc (.cells zcells 35)) := (hc2.alloc hc2.size _).alloc (by have := hc2.size; simp; omega) _
  generalize hw3 : (w2.alloc (.cells zcells 35)).alloc (.cells zcells 35) = w3 at k1 k2 k3
  have HW3 := Lib.hid hw3
  clear hw3
  have k4 : Whole (w3.setRow w2.heap.size (tcells 256)) (w2.heap.size + 1) 35 zcells := whole_far_row k2 (by omega)
  have k5 := whole_put_row (ds := tcells 256) k1
  have k6 : Whole ((w3.setRow w2.heap.size (tcells 256)).setRow (w2.heap.size + 1) (tcells 256)) (w2.heap.size + 1) 35 (tcells 256) := whole_put_row k4
  have k7 : Whole ((w3.setRow w2.heap.size (tcells 256)).setRow (w2.heap.size + 1) (tcells 256)) w2.heap.size 35 (tcells 256) := whole_far_row k5 (by omega)
  have hz2 := hc2.size
  have k8 : Below w.heap.size w ((w3.setRow w2.heap.size (tcells 256)).setRow (w2.heap.size + 1) (tcells 256)) :=
    below_put_row (below_put_row k3 (by omega) _) (by omega) _
  have HZ := Lib.hid (show (w2.alloc (.cells zcells 35)).heap.size = w2.heap.size + 1 from by simp)
  have K1 := Lib.hid k1
  have K4 := Lib.hid k4
  have K6 := Lib.hid k6
  have K7 := Lib.hid k7
  clear k1 k2 k4 k5 k6 k7
  go_wp2_with (first | (refine wpList_alloc_row rfl 35 rfl zcells zero35 ?_) | (rw [HW3.out]; refine wpList_store_row rfl 35 (.tmp 1) (.tmp 5) rfl w2.heap.size (tcells 256) rfl rfl 35 zcells K1.out hs ho (tcells_one 256) ?_) | (refine wpList_store_row rfl 35 (.tmp 2) (.tmp 6) rfl ((w2.alloc (.cells zcells 35)).heap.size) (tcells 256) rfl rfl 35 zcells (by rw [HZ.out]; exact K4.out) hs ho (tcells_one 256) ?_; rw [HZ.out]))
  generalize ((w3.setRow w2.heap.size (tcells 256)).setRow (w2.heap.size + 1) (tcells 256)) = w4 at *
  obtain ⟨G, hG⟩ : ∃ G, G = w2.heap.size := ⟨_, rfl⟩
  rw [← hG] at K6 K7 ⊢
  clear hG hs ho
  go_loopw [3] (fun i wr => ∃ k : Nat, k ≤ 256 ∧ i = .int .i64 k ∧ Ext w4 wr) (fun i _ => 256 - (intOf i).toNat)
  case atStart => exact ⟨0, by omega, rfl, Below.refl _ _⟩
  case round =>
    obtain ⟨k, hk, rfl, hx⟩ := hrel
    have hbw : Below w.heap.size w wr := k8.trans (hx.mono k8.size)
    by_cases hlt : k < 256
    · have hd : decide ((k : Int) < 256) = true := by simp; omega
      have hxb : ((k : Int) % 256) = (((UInt8.ofNat k).toNat : Nat) : Int) := by rw [UInt8.toNat_ofNat']; omega
      have hyb : ((255 - (k : Int)) % 256) = (((UInt8.ofNat (255 - k)).toNat : Nat) : Int) := by rw [UInt8.toNat_ofNat']; omega
      go_wp2_with fail
      have hwa : Whole (wr.alloc (.cells #[.int .u8 (k : Int), .int .u8 0, .int .u8 (255 - (k : Int))] 5)) wr.heap.size 5 #[.int .u8 (k : Int), .int .u8 0, .int .u8 (255 - (k : Int))] := Whole.new wr _ _
      have hxa : Ext w4 (wr.alloc (.cells #[.int .u8 (k : Int), .int .u8 0, .int .u8 (255 - (k : Int))] 5)) := Below.alloc hx hx.size _
      obtain ⟨g, hg⟩ : ∃ g, g = wr.heap.size := ⟨_, rfl⟩
      rw [← hg] at hwa ⊢
      generalize wr.alloc (.cells #[.int .u8 (k : Int), .int .u8 0, .int .u8 (255 - (k : Int))] 5) = wa at hwa hxa ⊢
      have hgl := hwa.lt
      have e3 : #[Value.int .u8 (k : Int), .int .u8 0, .int .u8 (255 - (k : Int))].toList = byts [UInt8.ofNat k, 0, UInt8.ofNat (255 - k)] := by
        rw [← bytes3, UInt8.toNat_ofNat', UInt8.toNat_ofNat', Nat.mod_eq_of_lt (show k < 2 ^ 8 by omega), Nat.mod_eq_of_lt (show 255 - k < 2 ^ 8 by omega)]
        have : ((255 - k : Nat) : Int) = 255 - (k : Int) := by omega
        rw [this]
      have HR := Lib.hid (fun (wx : World) (hw : Whole wx g 5 #[.int .u8 (k : Int), .int .u8 0, .int .u8 (255 - (k : Int))]) => (show Rd wx wx.heap.size 1 (some ⟨g, 0, none⟩) 3 (byts [UInt8.ofNat k, 0, UInt8.ofNat (255 - k)]) from by
        have := Rd.of_heap hw hw.lt (n := 3) (by simp)
        rw [e3] at this
        exact this))
      have HA := Lib.hid hwa
      have hG1 : G < wa.heap.size := Nat.lt_of_lt_of_le K7.out.lt hxa.size
      have hG2 : G + 1 < wa.heap.size := Nat.lt_of_lt_of_le K6.out.lt hxa.size
      have hq1 : wa.cell? ⟨G, k, none⟩ = some (.int .u32 (Crc.tabv k : Nat)) := by
        rw [hxa.cell (show G < w4.heap.size from K7.out.lt), K7.out.cell, tcells_get _ _ hlt]
        unfold tcell
        rw [if_pos hlt]
      have hq2 : wa.cell? ⟨G + 1, k, none⟩ = some (.int .u32 (Crc.tabv k : Nat)) := by
        rw [hxa.cell (show G + 1 < w4.heap.size from K6.out.lt), K6.out.cell, tcells_get _ _ hlt]
        unfold tcell
        rw [if_pos hlt]
      have HQ1 := Lib.hid hq1
      have HQ2 := Lib.hid hq2
      have hself : (((Crc.tabv k : Nat) : Int) != ((Crc.tabv k : Nat) : Int)) = false := by simp
      clear hwa hg e3 hx hbw hxb hyb hq1 hq2 hd
      have hk1 : (0 : Int) ≤ (k : Int) := by omega
      have hk2 : (k : Int) < 256 := by omega
      have q1 : IntKind.u32.wrap (k : Int) = k := by rw [IntKind.wrap_u32']; omega
      have q2 : IntKind.u32.wrap ((k : Int) * 16777216) = ((k * 16777216 : Nat) : Int) := by rw [IntKind.wrap_u32']; omega
      have q3 : IntKind.u16.wrap (k : Int) = k := by rw [IntKind.wrap_u16]; omega
      have q4 : IntKind.u8.wrap (k : Int) = k := by rw [IntKind.wrap_u8']; omega
      refine wp_region_grow (fun k' => List.lookup k' [(2, .fix (.int .u32 (Crc.tabv k : Nat))), (5, .fix (.int .u32 (Crc.tabv k : Nat))), (11, .row 22 3), (15, .fix (.bool true)), (22, .fix (.bool true)), (32, .fix (.bool true)), (39, .row 5 4), (40, .fix (.bool true))]) (by kernel_rfl) (by kernel_rfl) ?_
      repeat (refine wpGrow_pure rfl (fun K hK => ?_); go_simp; refine hK.out _ ?_; clear hK K)
      refine wpGrow_eff _ rfl (fun wx he hcl => ?_) (fun _ K hK => ?_) rfl
      · have hz : wa.heap.size ≤ wx.heap.size := he.size
        have hq : wx.cell? ⟨G + 1, k, none⟩ = some (.int .u32 (Crc.tabv k : Nat)) := (he.cell hG2).trans HQ2.out
        go_simp
        exact Below.refl _ _
      go_simp
      refine hK.out _ ?_
      clear hK K
      repeat (refine wpGrow_pure rfl (fun K hK => ?_); go_simp; refine hK.out _ ?_; clear hK K)
      refine wpGrow_eff _ rfl (fun wx he hcl => ?_) (fun _ K hK => ?_) rfl
      · have hz : wa.heap.size ≤ wx.heap.size := he.size
        have hq : wx.cell? ⟨G, k, none⟩ = some (.int .u32 (Crc.tabv k : Nat)) := (he.cell hG1).trans HQ1.out
        go_simp
        exact Below.refl _ _
      go_simp
      refine hK.out _ ?_
      clear hK K
      repeat (refine wpGrow_pure rfl (fun K hK => ?_); go_simp; refine hK.out _ ?_; clear hK K)
      refine wpGrow_eff _ rfl (fun wx he hcl => ?_) (fun g1 K hK => ?_) rfl
      · have hz : wa.heap.size ≤ wx.heap.size := he.size
        go_simp
        exact ⟨Whole.new _ _ _, (Below.refl _ _).alloc (Nat.le_refl _) _⟩
      go_simp
      refine hK.out _ ?_
      clear hK K
      repeat (refine wpGrow_pure rfl (fun K hK => ?_); go_simp; refine hK.out _ ?_; clear hK K)
      refine wpGrow_eff _ rfl (fun wx he hcl => ?_) (fun _ K hK => ?_) rfl
      · have hz : wa.heap.size ≤ wx.heap.size := he.size
        go_simp
        have hw : Whole wx g1 22 #[.slice (some ⟨g, 0, none⟩) 3 3, .slice (some ⟨g, 0, none⟩) 1 3, .slice none 0 0] := hcl.out 11 rfl
        have hr := HR.out wx (HA.out.below he hgl)
        exact crcSums_any wx _ 3 3 [[UInt8.ofNat k, 0, UInt8.ofNat (255 - k)], [UInt8.ofNat k], []] (k * 16777216) (by omega) (RdRows.of3 hw hw.lt ⟨by omega, by unfold maxLen; omega⟩ hr ⟨by omega, by unfold maxLen; omega⟩ (hr.front (j := 1) (by omega)) ⟨by omega, by omega⟩ (Rd.nil_ _ _ _ _)) (by omega) (by unfold maxLen; omega)
      go_simp
      refine hK.out _ ?_
      clear hK K
      repeat (refine wpGrow_pure rfl (fun K hK => ?_); go_simp; refine hK.out _ ?_; clear hK K)
      refine wpGrow_eff _ rfl (fun wx he hcl => ?_) (fun _ K hK => ?_) rfl
      · have hz : wa.heap.size ≤ wx.heap.size := he.size
        go_simp
        have hr := HR.out wx (HA.out.below he hgl)
        exact crcParts_any wx _ 3 3 _ k 1 (by omega) (by omega) hr (by omega) (by unfold maxLen; omega)
      go_simp
      refine hK.out _ ?_
      clear hK K
      repeat (refine wpGrow_pure rfl (fun K hK => ?_); go_simp; refine hK.out _ ?_; clear hK K)
      refine wpGrow_eff _ rfl (fun wx he hcl => ?_) (fun _ K hK => ?_) rfl
      · have hz : wa.heap.size ≤ wx.heap.size := he.size
        go_simp
        have hr := HR.out wx (HA.out.below he hgl)
        exact crcFlips_any wx _ 3 3 _ k _ (by omega) hr (by omega) (by unfold maxLen; omega)
      go_simp
      refine hK.out _ ?_
      clear hK K
      repeat (refine wpGrow_pure rfl (fun K hK => ?_); go_simp; refine hK.out _ ?_; clear hK K)
      refine wpGrow_eff _ rfl (fun wx he hcl => ?_) (fun g2 K hK => ?_) rfl
      · have hz : wa.heap.size ≤ wx.heap.size := he.size
        go_simp
        exact ⟨Whole.new _ _ _, (Below.refl _ _).alloc (Nat.le_refl _) _⟩
      go_simp
      refine hK.out _ ?_
      clear hK K
      refine wpGrow_eff _ rfl (fun wx he hcl => ?_) (fun _ K hK => ?_) rfl
      · have hz : wa.heap.size ≤ wx.heap.size := he.size
        go_simp
        have hr := HR.out wx (HA.out.below he hgl)
        have hw : Whole wx g2 5 #[.int .u8 1, .int .u8 2, .int .u8 3, .int .u8 (k : Int)] := hcl.out 39 rfl
        have e4 : #[Value.int .u8 1, .int .u8 2, .int .u8 3, .int .u8 (k : Int)].toList = byts [1, 2, 3, UInt8.ofNat k] := by
          rw [← bytes4, UInt8.toNat_ofNat', Nat.mod_eq_of_lt (show k < 2 ^ 8 by omega)]
        have h4 := Rd.of_heap hw hw.lt (n := 4) (by simp)
        rw [e4] at h4
        have h5 : Rd wx wx.heap.size 1 (some ⟨g2, 0, none⟩) 4 (byts [1, 2, 3, UInt8.ofNat k]) := h4
        exact crcXors_any wx _ 3 3 _ _ 4 4 _ hr (by omega) (by unfold maxLen; omega) h5 (by omega) (by unfold maxLen; omega)
      go_simp
      refine hK.out _ ?_
      clear hK K
      repeat (refine wpGrow_pure rfl (fun K hK => ?_); go_simp; refine hK.out _ ?_; clear hK K)
      refine wpGrow_nil fun wx he hfin => ?_
      clear hfin
      have hx2 : Ext w4 wx := Ext.trans hxa he
      clear he hxa
      go_wp2_with fail
      go_roundw
      case rel => exact ⟨k + 1, by omega, by go_num, hx2⟩
      case measure => simp [intOf]; omega
    · obtain rfl : k = 256 := by omega
      have hd : decide (((256 : Nat) : Int) < 256) = false := by decide
      go_wp2_with fail
      refine (crcSums_any wr none 0 0 [] 0 (by omega) ⟨rfl, fun k hk => absurd hk (by omega)⟩ (by omega) (by omega)).mono ?_
      rintro e w5 ⟨rfl, hb5⟩
      go_wp2_with fail
      refine (crcParts_any w5 none 0 0 [] 0 0 (by omega) (by omega) (Rd.nil_ _ _ _ _) (by omega) (by omega)).mono ?_
      rintro e w6 ⟨rfl, hb6⟩
      go_wp2_with fail
      refine (crcWorks_any w6).mono ?_
      rintro e w7 ⟨rfl, hb7⟩
      go_wp2_with fail
      go_ret
      have h6 : Below w.heap.size w w6 := (hbw.trans (hb5.mono hbw.size)).trans (hb6.mono (Nat.le_trans hbw.size hb5.size))
      exact ⟨rfl, h6.trans (hb7.mono h6.size)⟩
end Go.Proofs.Ytfiabgpegdkldaa
