/-
  Records: the law RecordReads.
-/
import Derived.Test.YtmobgamlednlhaaRecPar
import Derived.Test.YtmobgamlednlhaaRecRgt
import Derived.Test.YtmobgamlednlhaaUndef
namespace Go.Proofs.Ytmobgamlednlhaa
open Go.RowKit
attribute [local go_sem] Instr.makeFunc Oper.growAt Oper.growUpon GSpec.fix GSpec.row GSpec.wh GSpec.own GSpec.box GSpec.kmap GSpec.lk GSpec.lk1 GSpec.put match_undef
attribute [local irreducible] wpList
set_option maxRecDepth 100000 in
set_option maxHeartbeats 16000000 in
theorem recReads_any (w : World) (A : Option Addr) (n cap : Nat) (b : List UInt8) (h : Rd w w.heap.size 1 A n (byts b)) (hc : n ≤ cap) (hma : cap ≤ maxLen) : Calls Try.prog 4 #[.slice A n cap] w fun en w' => en = .returned (.bool true) ∧ Below w.heap.size w w' := by
  have H := Lib.hid h
  clear h
  by_cases hbig : 400 < n
  · have hd : decide ((400 : Int) < (n : Int)) = true := by simp; omega
    clear hbig
    go_enter Try.func4, Try.ntmps4
    go_wp2_with fail
    refine (rworks_any w).mono ?_
    rintro en w2 ⟨rfl, hb2⟩
    have HB2 := Lib.hid hb2
    clear hb2
    go_wp2_with fail
    go_ret
    exact ⟨rfl, HB2.out⟩
  · have hd : decide ((400 : Int) < (n : Int)) = false := by simp; omega
    obtain ⟨pp, hpp⟩ : ∃ y, Rc.parse b = y := ⟨_, rfl⟩
    obtain ⟨x, e⟩ := pp
    have hp1 := fun (w : World) (B : Nat) (hB : B ≤ w.heap.size) (h : Rd w B 1 A n (byts b)) => parse_any w A n cap b B hB h hc hma (by omega)
    have hp2 := fun (w : World) (B : Nat) (hB : B ≤ w.heap.size) (O : Option Addr) (cO : Nat) (h : Rd w B 1 O n (byts b)) (hc : n ≤ cO) => rparse_any w O n cO b B hB h hc (by omega)
    rw [hpp] at hp1 hp2
    have hval : x.val = .agg x.cells := rfl
    simp only [hval] at hp1 hp2
    have HP1 := Lib.hid hp1
    have HP2 := Lib.hid hp2
    have HN := Lib.hid (show n ≤ 400 by omega)
    clear hp1 hp2 hpp hval hbig
    go_enter Try.func4, Try.ntmps4
    go_wp2_with (at_builtin; refine wpList_append_rd _ rfl (.tmp 12) (.tmp 13) _ rfl bytesV w.heap.size _ 0 [] rfl (World.ownsRow_nil _ _ _ _) w.heap.size A n cap _ rfl H.out (byts_one _) (by have := HN.out; unfold maxLen; omega) (by have := HN.out; omega) (Nat.le_refl _) ?_; intro O cO w1 ho1 hb1 _ _)
    rw [Nat.zero_add, List.nil_append] at ho1
    have HO1 := Lib.hid ho1
    have HA1 := Lib.hid (H.out.below hb1)
    have HB1 := Lib.hid hb1
    have HCO := Lib.hid (own_cap ho1)
    clear ho1 hb1
    go_wp2_with fail
    refine (HP1.out w1 w.heap.size HB1.out.size HA1.out).mono ?_
    clear HP1
    rintro en w2 ⟨rfl, hb2⟩
    have HA2 := Lib.hid (HA1.out.below (hb2.mono HB1.out.size))
    have HO2 := Lib.hid ((Rd.of_own HO1.out).below hb2)
    have HB2 := Lib.hid (HB1.out.trans (hb2.mono HB1.out.size))
    have HS2 := Lib.hid hb2.size
    clear hb2 HA1 HO1
    go_wp2_with (refine wpList_store_row rfl 24 (.tmp 4) (.tmp 18) rfl w2.heap.size x.cells rfl rfl 24 _ (Whole.new _ _ _) (rec_size x) rfl (rec_cells x) ?_)
    have g1 := (Whole.new w2 24 #[.int .u8 0, .int .u64 0, .int .u64 0, .int .u64 0, .int .u64 0, .int .u64 0, .int .u64 0, .int .u64 0, .int .u64 0, .int .u64 0, .string ⟨#[]⟩, .string ⟨#[]⟩]).row x.cells
    have g2 := Below.setRow ((Below.refl w2.heap.size w2).alloc (Nat.le_refl _) (.cells #[.int .u8 0, .int .u64 0, .int .u64 0, .int .u64 0, .int .u64 0, .int .u64 0, .int .u64 0, .int .u64 0, .int .u64 0, .int .u64 0, .string ⟨#[]⟩, .string ⟨#[]⟩] 24)) (g := w2.heap.size) (Nat.le_refl _) x.cells
    obtain ⟨gx, hgx⟩ : ∃ g, w2.heap.size = g := ⟨_, rfl⟩
    rw [hgx] at g1 g2 ⊢
    generalize World.setRow (w2.alloc (.cells #[.int .u8 0, .int .u64 0, .int .u64 0, .int .u64 0, .int .u64 0, .int .u64 0, .int .u64 0, .int .u64 0, .int .u64 0, .int .u64 0, .string ⟨#[]⟩, .string ⟨#[]⟩] 24)) gx x.cells = w3 at g1 g2 ⊢
    skip
    have HS3 := Lib.hid (show w1.heap.size ≤ w3.heap.size from Nat.le_trans HS2.out (by rw [hgx]; exact Nat.le_of_lt g1.lt))
    have HB3 := Lib.hid (HB2.out.trans (g2.mono (by rw [← hgx]; exact HB2.out.size)))
    have HA3 := Lib.hid (HA2.out.below (g2.mono (by rw [← hgx]; exact HB2.out.size)))
    have HO3 := Lib.hid (HO2.out.below (g2.mono (by rw [← hgx]; exact HS2.out)))
    have K1 := Lib.hid g1
    clear g1 g2 hgx HA2 HO2 HB2 HS2
    refine (HP2.out w3 w1.heap.size HS3.out O cO HO3.out HCO.out.1).mono ?_
    clear HP2
    rintro en w4 ⟨rfl, hb4⟩
    have HA4 := Lib.hid (HA3.out.below (hb4.mono HB3.out.size))
    have HO4 := Lib.hid (HO3.out.below (hb4.mono HS3.out))
    have HB4 := Lib.hid (HB3.out.trans (hb4.mono HB3.out.size))
    have HS4 := Lib.hid (Nat.le_trans HS3.out hb4.size)
    replace K1 := Lib.hid (K1.out.below hb4 K1.out.lt)
    clear hb4 HA3 HO3 HB3 HS3
    have heq : ∀ w : World, (binOp .eql 31 (.agg x.cells) (.agg x.cells)).run Try.prog w = .ok (.bool true) w := fun w => by
      have h := rrec_eq w x x
      rwa [show x.eqB x = true from (Rc.eqB_iff x x).2 rfl] at h
    have hgd := rrec_guard
    have hee : ((e : Int) == (e : Int)) = true := by simp
    go_wp2_with (refine wpList_store_row rfl 31 (.tmp 6) (.tmp 23) rfl w4.heap.size x.cells rfl rfl 31 _ (Whole.new _ _ _) (rrec_size x) rfl (rec_cells x) ?_)
    have g1 := (Whole.new w4 31 #[.int .u8 0, .int .u64 0, .int .u64 0, .int .u64 0, .int .u64 0, .int .u64 0, .int .u64 0, .int .u64 0, .int .u64 0, .int .u64 0, .string ⟨#[]⟩, .string ⟨#[]⟩]).row x.cells
    have g2 := Below.setRow ((Below.refl w4.heap.size w4).alloc (Nat.le_refl _) (.cells #[.int .u8 0, .int .u64 0, .int .u64 0, .int .u64 0, .int .u64 0, .int .u64 0, .int .u64 0, .int .u64 0, .int .u64 0, .int .u64 0, .string ⟨#[]⟩, .string ⟨#[]⟩] 31)) (g := w4.heap.size) (Nat.le_refl _) x.cells
    obtain ⟨gy, hgy⟩ : ∃ g, w4.heap.size = g := ⟨_, rfl⟩
    rw [hgy] at g1 g2 ⊢
    generalize World.setRow (w4.alloc (.cells #[.int .u8 0, .int .u64 0, .int .u64 0, .int .u64 0, .int .u64 0, .int .u64 0, .int .u64 0, .int .u64 0, .int .u64 0, .int .u64 0, .string ⟨#[]⟩, .string ⟨#[]⟩] 31)) gy x.cells = W2 at g1 g2 ⊢
    skip
    have HB5 := Lib.hid (HB4.out.trans (g2.mono (by rw [← hgy]; exact HB4.out.size)))
    have KA := Lib.hid (HA4.out.below (g2.mono (by rw [← hgy]; exact HB4.out.size)))
    have KO := Lib.hid (HO4.out.below (g2.mono (by rw [← hgy]; exact HS4.out)))
    replace K1 := Lib.hid (K1.out.below g2 (by rw [← hgy]; exact K1.out.lt))
    have KS := Lib.hid (show w1.heap.size ≤ W2.heap.size from Nat.le_trans HS4.out (by rw [hgy]; exact Nat.le_of_lt g1.lt))
    have K2 := Lib.hid g1
    clear g1 g2 hgy HA4 HO4 HB4 HS4

    refine wp_region_grow (fun k' => List.lookup k' [(0, (.fix (.agg x.cells))), (1, (.fix (.agg x.cells))), (2, (.fix (.agg x.cells))), (12, (.fix (.bool true))), (15, (.fix (.bool true)))]) (by as_aux_lemma => kernel_rfl) (by as_aux_lemma => kernel_rfl) ?_
    repeat (refine wpGrow_pure rfl (fun K hK => ?_); go_simp; refine hK.out _ ?_; clear hK K)
    refine wpGrow_eff _ rfl (fun wx he hcl => ?_) (fun _ K hK => ?_) rfl
    · clear hcl
      exact growAt_load_row rfl rfl (K1.out.below he K1.out.lt) Try.underlying24 rfl (rec_size _)
    go_simp
    refine hK.out _ ?_
    clear hK K
    repeat (refine wpGrow_pure rfl (fun K hK => ?_); go_simp; refine hK.out _ ?_; clear hK K)
    refine wpGrow_eff _ rfl (fun wx he hcl => ?_) (fun _ K hK => ?_) rfl
    · clear hcl
      have hcon := (show Calls Try.prog 11 #[.agg x.cells] wx (fun en w' => en = .returned (.agg x.cells) ∧ Below wx.heap.size wx w') from ref_any wx x)
      go_simp
      try exact hcon
    go_simp
    refine hK.out _ ?_
    clear hK K
    repeat (refine wpGrow_pure rfl (fun K hK => ?_); go_simp; refine hK.out _ ?_; clear hK K)
    refine wpGrow_eff _ rfl (fun wx he hcl => ?_) (fun _ K hK => ?_) rfl
    · clear hcl
      exact growAt_load_row rfl rfl (K2.out.below he K2.out.lt) Try.underlying31 rfl (rrec_size _)
    go_simp
    refine hK.out _ ?_
    clear hK K
    repeat (refine wpGrow_pure rfl (fun K hK => ?_); go_simp; refine hK.out _ ?_; clear hK K)
    refine wpGrow_eff _ rfl (fun wx he hcl => ?_) (fun _ K hK => ?_) rfl
    · clear hcl
      have hcon := same_any wx A n cap b O n cO b w.heap.size w1.heap.size (Nat.le_trans HB5.out.size he.size) (Nat.le_trans KS.out he.size) (KA.out.below (he.mono HB5.out.size)) (KO.out.below (he.mono KS.out)) (by have := HN.out; omega) (by have := HN.out; omega) true (by simp)
      go_simp
      try exact hcon
    go_simp
    refine hK.out _ ?_
    clear hK K
    repeat (refine wpGrow_pure rfl (fun K hK => ?_); go_simp; refine hK.out _ ?_; clear hK K)
    refine wpGrow_eff _ rfl (fun wx he hcl => ?_) (fun _ K hK => ?_) rfl
    · clear hcl
      have hcon := rworks_any wx
      go_simp
      try exact hcon
    go_simp
    refine hK.out _ ?_
    clear hK K
    repeat (refine wpGrow_pure rfl (fun K hK => ?_); go_simp; refine hK.out _ ?_; clear hK K)
    refine wpGrow_nil fun wx he hfin => ?_
    clear hfin
    have HB9 := Lib.hid (HB5.out.trans (he.mono HB5.out.size))
    clear he
    go_wp2_with fail
    go_ret
    exact ⟨rfl, HB9.out⟩
end Go.Proofs.Ytmobgamlednlhaa
