/-
  The walk of CrcSums: it returns true.
-/
import Derived.Test.YtfiabgpegdkldaaCrcWorks
import Derived.Test.YtfiabgpegdkldaaGrow
namespace Go.Proofs.Ytfiabgpegdkldaa
open Go.RowKit
attribute [local go_sem] Oper.growAt Oper.growUpon GSpec.fix GSpec.row GSpec.wh GSpec.own
theorem rowsE : ElemOK Try.prog 31 22 1 24 := ElemOK.mk_ (z := .slice none 0 0) Try.underlying31 (by kernel_rfl) rfl (by omega)
theorem flat_le : ∀ (ls : List (List UInt8)) (b : Nat), (∀ l ∈ ls, l.length ≤ b) → ls.flatten.length ≤ ls.length * b
  | [], _, _ => by simp
  | l :: ls, b, h => by
    have h1 := flat_le ls b (fun x hx => h x (List.mem_cons_of_mem _ hx))
    have h2 := h l List.mem_cons_self
    simp only [List.flatten_cons, List.length_append, List.length_cons]
    rw [Nat.add_mul]
    omega
theorem crcMatch_is (w : World) (s : Nat) (A : Option Addr) (n cap : Nat) (ls : List (List UInt8)) (B : Nat) (hB : B ≤ w.heap.size)
    (h : RdRows w B A n ls) (hn : n ≤ maxLen) (r : Bool) (hr : decide (Crc.update 0 ls.flatten = s) = r) :
    Calls Try.prog 16 #[.int .u32 (s : Nat), .slice A n cap] w fun e w' => e = .returned (.bool r) ∧ Below w.heap.size w w' :=
  (crcMatch_any w s A n cap ls B hB h hn).mono fun _ _ ⟨he, hb⟩ => ⟨by rw [he, hr], hb⟩
theorem grown_none {w w' : World} {v : Value} (hg : w.grownBy w' v.ownBlock) (hv : v.ownBlock = none) : Below w.heap.size w w' :=
  ⟨hg.os, hg.tape, hg.output, hg.size, fun i hi => hg.block i hi (by rw [hv]; simp)⟩
set_option maxHeartbeats 1000000 in
set_option maxRecDepth 100000 in
theorem crcSums_any (w : World) (A : Option Addr) (n cap : Nat) (ls : List (List UInt8)) (c : Nat) (hcl : c < 4294967296) (h : RdRows w w.heap.size A n ls) (hc : n ≤ cap) (hm : cap ≤ maxLen) :
    Calls Try.prog 6 #[.slice A n cap, .int .u32 (c : Nat)] w fun e w' => e = .returned (.bool true) ∧ Below w.heap.size w w' := by
  have H := Lib.hid h
  have HC := Lib.hid (Nat.le_trans hc hm)
  have HCL := Lib.hid hcl
  clear h hcl
  unfold maxLen at hm
  by_cases hbig : 6 < n
  · go_enter Try.func6, Try.ntmps6
    go_wp2_with fail
    refine (crcWorks_any _).mono ?_
    rintro e w1 ⟨rfl, hb1⟩
    go_wp2_with fail
    go_ret
    exact ⟨rfl, hb1⟩
  · go_enter Try.func6, Try.ntmps6
    go_wp2_with fail
    go_loopw [5, 6] (fun v i wr => ∃ (k : Nat) (D : Option Addr) (c' : Nat) (vs : List Value), k ≤ n ∧ i = .int .i64 k ∧ v = .slice D k c' ∧ Hid (wr.ownsRow w.heap.size 22 1 (.slice D k c') k vs) ∧ Hid (OwnRows wr w.heap.size 5 (ls.take k) vs) ∧
      Hid (∀ l ∈ ls.take k, l.length ≤ 300) ∧ Below w.heap.size w wr) (fun _ i _ => n - (intOf i).toNat)
    case atStart => exact ⟨0, none, 0, [], by omega, rfl, rfl, World.ownsRow_nil _ _ _ _, OwnRows.nil _ _ _, fun l hl => by simp at hl, Below.refl _ _⟩
    case round =>
      obtain ⟨k, D, c', vs, hk, rfl, rfl, HO, HV, HL, hb⟩ := hrel
      by_cases hlt : k < n
      · obtain ⟨b, o, A', m, c2, rfl, hbB, hcell, hm1, hm2, hr⟩ := (H.out.below hb).2 k hlt
        have hkl : k < ls.length := by have := H.out.1; omega
        have hg : ls.getD k [] = ls[k] := by simp [hkl]
        rw [hg] at hr
        have HR := Lib.hid hr
        have HM := Lib.hid hr.blen
        clear hr hg
        by_cases hlong : 300 < m
        · go_wp2_with fail
          refine (crcWorks_any _).mono ?_
          rintro e w1 ⟨rfl, hb1⟩
          go_wp2_with fail
          go_ret
          exact ⟨rfl, hb.trans (hb1.mono hb.size)⟩
        · have hd : decide ((k : Int) < (n : Int)) = true := by simp; omega
          have hd2 : decide ((300 : Int) < (m : Int)) = false := by simp; omega
          go_wp2_with (first
            | (at_builtin; refine wpList_append_rd _ rfl (.tmp 28) (.tmp 32) _ rfl bytesE w.heap.size (.slice none 0 0) 0 [] rfl (World.ownsRow_nil _ _ _ _) w.heap.size A' m c2 _ rfl HR.out (byts_one _) (by unfold maxLen; omega) (by omega) hb.size ?_; intro A1 c1 w1 ho1 hb1 hg1 _; simp only [Nat.zero_add, List.nil_append] at ho1; have he1 := grown_none hg1 rfl; have HO1 := Lib.hid ho1; clear ho1 hg1)
            | (at_builtin; refine wpList_append_rd _ rfl (.tmp 27) (.tmp 34) _ rfl rowsE w.heap.size _ k vs rfl ((own_ext HO.out he1).alloc _) (w1.heap.size + 1) (some ⟨w1.heap.size, 0, none⟩) 1 1 _ rfl (Rd.new1 w1 _ _) (by intro u hu; simp at hu; subst hu; rfl) (by unfold maxLen; omega) (by omega) (by have := hb.size; have := hb1.size; simp; omega) ?_; intro D2 c3 w2 ho2 hb2 hg2 _))
          have HO2 := Lib.hid ho2
          have hv : OwnRows w2 w.heap.size 5 (ls.take (k + 1)) (vs ++ [.slice A1 m c1]) := by
            rw [List.take_succ_eq_append_getElem hkl]
            refine OwnRows.kept ?_ hg2 ((own_ext HO.out he1).alloc _) (by decide)
            exact ((HV.out.ext he1).snoc HM.out HO1.out).ext ((Below.refl _ _).alloc (Nat.le_refl _) _)
          have HV2 := Lib.hid hv
          have hb3 : Below w.heap.size w w2 := ((hb.trans hb1).alloc (hb.trans hb1).size _).trans hb2
          clear ho2 hv hg2 hb2
          go_wp2_with fail
          go_roundw
          case rel =>
            refine ⟨k + 1, D2, c3, _, by omega, by go_num, rfl, HO2, HV2, ?_, hb3⟩
            intro l hl
            rw [List.take_succ_eq_append_getElem hkl] at hl
            rcases List.mem_append.1 hl with h1 | h1
            · exact HL.out l h1
            · rw [List.mem_singleton.1 h1, HM.out]; omega
          case measure => simp [intOf]; omega
      · obtain rfl : k = n := by omega
        have hd : decide ((k : Int) < (k : Int)) = false := by simp
        rw [List.take_of_length_le (by have := H.out.1; omega)] at HV HL
        obtain ⟨N, hN⟩ : ∃ N, Crc.update 0 ls.flatten = N := ⟨_, rfl⟩
        have HN := Lib.hid hN
        have hNl : N < 4294967296 := by rw [← hN]; exact Crc.update_lt (by omega) _
        have hx : bits BinOp.xor IntKind.u32 (↑N) 1 = ((N ^^^ 1 : Nat) : Int) := u32_xor_nat N 1 hNl (by omega)
        have hne : ¬ N = N ^^^ 1 := by
          intro h
          have h2 : N ^^^ N = N ^^^ (N ^^^ 1) := by rw [← h]
          rw [← Nat.xor_assoc, Nat.xor_self] at h2
          simp at h2
        have HX := Lib.hid hx
        have HNE := Lib.hid hne
        have hbe : (((c : Nat) : Int) == (N : Int)) = decide (N = c) := by rw [int_beq]; exact decide_eq_decide.2 ⟨fun h => h.symm, fun h => h.symm⟩
        have hself : (((N : Nat) : Int) != (N : Int)) = false := by simp
        clear hN hx hne
        go_wp2_with fail
        refine (refSum_any wr A k cap ls w.heap.size hb.size (H.out.below hb) HC.out ?_).mono ?_
        · have := flat_le ls 300 HL.out
          have := H.out.1
          omega
        rw [HN.out]
        rintro e w1 ⟨rfl, hb1⟩
        have hc1 : Below w.heap.size w w1 := hb.trans (hb1.mono hb.size)
        have he1 := hb1
        go_wp2_with fail
        refine (crcSum_any w1 A k cap ls w.heap.size hc1.size (H.out.below hc1) HC.out).mono ?_
        rw [HN.out]
        rintro e w2 ⟨rfl, hb2⟩
        have hc2 : Below w.heap.size w w2 := hc1.trans (hb2.mono hc1.size)
        have he2 : Ext wr w2 := Ext.trans hb1 hb2
        go_wp2_with fail
        refine (crcMatch_is w2 N A k cap ls w.heap.size hc2.size (H.out.below hc2) HC.out true (by rw [HN.out]; simp)).mono ?_
        rintro e w3 ⟨rfl, hb3⟩
        have hc3 : Below w.heap.size w w3 := hc2.trans (hb3.mono hc2.size)
        have he3 : Ext wr w3 := Ext.trans he2 hb3
        go_wp2_with fail
        rw [HX.out]
        refine (crcMatch_is w3 (N ^^^ 1) A k cap ls w.heap.size hc3.size (H.out.below hc3) HC.out false (by rw [HN.out]; simpa using HNE.out)).mono ?_
        rintro e w4 ⟨rfl, hb4⟩
        have hc4 : Below w.heap.size w w4 := hc3.trans (hb4.mono hc3.size)
        have he4 : Ext wr w4 := Ext.trans he3 hb4
        go_wp2_with fail
        refine (crcMatch_is w4 c A k cap ls w.heap.size hc4.size (H.out.below hc4) HC.out (decide (N = c)) (by rw [HN.out])).mono ?_
        rintro e w5 ⟨rfl, hb5⟩
        have hc5 : Below w.heap.size w w5 := hc4.trans (hb5.mono hc4.size)
        have he5 : Ext wr w5 := Ext.trans he4 hb5
        go_wp2_with fail
        obtain ⟨wo, rfl⟩ : ∃ wo : World, wo = wr := ⟨_, rfl⟩
        go_loopw [9] (fun i wr => ∃ j : Nat, j ≤ k ∧ i = .int .i64 j ∧ Ext wo wr) (fun i _ => k - (intOf i).toNat)
        case atStart => exact ⟨0, by omega, rfl, he5⟩
        case round =>
          obtain ⟨j, hj, rfl, hx⟩ := hrel
          have hbw : Below w.heap.size w wr := hb.trans (hx.mono hb.size)
          by_cases hlt2 : j < k
          · obtain ⟨g, cur, rfl, hgB, hw, htk⟩ := own_whole HO.out (by omega)
            obtain ⟨b, o, A1, m, c2, rfl, hbB, hcell, hm1, hm2, hr⟩ := (H.out.below hbw).2 j hlt2
            have hjl : j < ls.length := by have := H.out.1; omega
            have hg : ls.getD j [] = ls[j] := by simp [hjl]
            rw [hg] at hr
            obtain ⟨Aj, cj, hvj, hoj⟩ := HV.out.2 j hjl
            have hml : ls[j].length = m := hr.blen
            rw [hml] at hvj hoj
            have hbB2 : b < wr.heap.size := Nat.lt_of_lt_of_le hbB hbw.size
            have hgl : g < wr.heap.size := Nat.lt_of_lt_of_le hw.lt hx.size
            have hoc : wr.cell? ⟨g, j, none⟩ = some (.slice Aj m cj) := by
              rw [hx.cell (show g < wo.heap.size from hw.lt), hw.cell, ← hvj, ← htk]
              simp [hlt2]
            obtain ⟨NU, hNU⟩ : ∃ NU, Crc.update c ls[j] = NU := ⟨_, rfl⟩
            have HR := Lib.hid hr
            have HJ := Lib.hid (Rd.of_own (own_ext hoj hx))
            have HNU := Lib.hid hNU
            have HM := Lib.hid hm1
            have HM2 := Lib.hid (Nat.le_trans hm1 hm2)
            have HG := Lib.hid (hm2)
            clear hr hoj hNU hvj hml hg hw htk hm1 hm2
            have hself2 : (((NU : Nat) : Int) != (NU : Int)) = false := by simp
            go_wp2_with fail
            refine wp_region_grow (fun k' => List.lookup k' [(4, .fix (.slice A1 m c2)), (5, .fix (.int .u32 NU)), (10, .fix (.slice A1 m c2)), (11, .fix (.int .u32 NU)), (17, .fix (.slice Aj m cj)), (18, .fix (.string ⟨ls[j].toArray⟩)),
              (22, .fix (.slice A1 m c2)), (23, .fix (.string ⟨ls[j].toArray⟩))]) (by kernel_rfl) (by kernel_rfl) ?_
            repeat (refine wpGrow_pure rfl (fun K hK => ?_); go_simp; refine hK.out _ ?_; clear hK K)
            refine wpGrow_eff _ rfl (fun wx he hcl => ?_) (fun _ K hK => ?_) rfl
            · clear hcl
              have hq : wx.cell? ⟨b, o + j, none⟩ = some (.slice A1 m c2) := (he.cell hbB2).trans hcell
              go_simp
              exact Below.refl _ _
            go_simp
            refine hK.out _ ?_
            clear hK K
            refine wpGrow_eff _ rfl (fun wx he hcl => ?_) (fun _ K hK => ?_) rfl
            · clear hcl
              go_simp
              refine (crcUpdate_any wx c HCL.out _ _ _ ls[j] w.heap.size (Nat.le_trans hbw.size he.size) ((HR.out.below (he.mono hbw.size))) HM2.out).mono fun e w' ⟨h1, h2⟩ => ⟨?_, h2⟩
              rw [h1, HNU.out]
            go_simp
            refine hK.out _ ?_
            clear hK K
            repeat (refine wpGrow_pure rfl (fun K hK => ?_); go_simp; refine hK.out _ ?_; clear hK K)
            refine wpGrow_eff _ rfl (fun wx he hcl => ?_) (fun _ K hK => ?_) rfl
            · clear hcl
              have hq : wx.cell? ⟨b, o + j, none⟩ = some (.slice A1 m c2) := (he.cell hbB2).trans hcell
              go_simp
              exact Below.refl _ _
            go_simp
            refine hK.out _ ?_
            clear hK K
            refine wpGrow_eff _ rfl (fun wx he hcl => ?_) (fun _ K hK => ?_) rfl
            · clear hcl
              go_simp
              refine (refUpdate_any wx c HCL.out _ _ _ ls[j] w.heap.size ((HR.out.below (he.mono hbw.size))) HM2.out).mono fun e w' ⟨h1, h2⟩ => ⟨?_, ?_⟩
              · rw [h1, HNU.out]
              · rw [← h2]; exact Below.refl _ _
            go_simp
            refine hK.out _ ?_
            clear hK K
            repeat (refine wpGrow_pure rfl (fun K hK => ?_); go_simp; refine hK.out _ ?_; clear hK K)
            refine wpGrow_eff _ rfl (fun wx he hcl => ?_) (fun _ K hK => ?_) rfl
            · clear hcl
              have hq : wx.cell? ⟨g, j, none⟩ = some (.slice Aj m cj) := (he.cell hgl).trans hoc
              go_simp
              exact Below.refl _ _
            go_simp
            refine hK.out _ ?_
            clear hK K
            refine wpGrow_eff _ rfl (fun wx he hcl => ?_) (fun _ K hK => ?_) rfl
            · clear hcl
              have hcv := run_string_of (P := Try.prog) Try.underlying22 Try.underlying5 Try.underlying9 (HJ.out.below he) cj
              go_simp
              exact Below.refl _ _
            go_simp
            refine hK.out _ ?_
            clear hK K
            repeat (refine wpGrow_pure rfl (fun K hK => ?_); go_simp; refine hK.out _ ?_; clear hK K)
            refine wpGrow_eff _ rfl (fun wx he hcl => ?_) (fun _ K hK => ?_) rfl
            · clear hcl
              have hq : wx.cell? ⟨b, o + j, none⟩ = some (.slice A1 m c2) := (he.cell hbB2).trans hcell
              go_simp
              exact Below.refl _ _
            go_simp
            refine hK.out _ ?_
            clear hK K
            refine wpGrow_eff _ rfl (fun wx he hcl => ?_) (fun _ K hK => ?_) rfl
            · clear hcl
              have hcv := run_string_of (P := Try.prog) Try.underlying22 Try.underlying5 Try.underlying9 (HR.out.below (he.mono hbw.size)) c2
              go_simp
              exact Below.refl _ _
            go_simp
            refine hK.out _ ?_
            clear hK K
            repeat (refine wpGrow_pure rfl (fun K hK => ?_); go_simp; refine hK.out _ ?_; clear hK K)
            refine wpGrow_nil fun wx he hfin => ?_
            clear hfin
            have hx2 : Ext wo wx := Ext.trans hx he
            clear hoc hcell hx he
            go_wp2_with fail
            go_roundw
            case rel => exact ⟨j + 1, by omega, by go_num, hx2⟩
            case measure => simp [intOf]; omega
          · obtain rfl : j = k := by omega
            go_wp2_with fail
            refine (crcWorks_any _).mono ?_
            rintro e w7 ⟨rfl, hb7⟩
            go_wp2_with fail
            go_ret
            exact ⟨rfl, hbw.trans (hb7.mono hbw.size)⟩
end Go.Proofs.Ytfiabgpegdkldaa
