/-
  Records: the law RecordBodies.
-/
import Derived.Test.YtmobgamlednlhaaRecPar
import Derived.Test.YtmobgamlednlhaaRecRgt
import Derived.Test.YtmobgamlednlhaaUndef
namespace Go.Proofs.Ytmobgamlednlhaa
open Go.RowKit
theorem Fra.putB_le (k : UInt8) (b : List UInt8) : (Fra.putB k b).length ≤ b.length + 20 := by
  unfold Fra.putB
  split
  · simp
  · have h2 := (Var.put_length b.length).2
    unfold Fra.bytes Fra.up Fra.head
    simp only [List.length_append, List.length_cons, Fra.sum4, List.length_nil]
    omega
attribute [local go_sem] Instr.makeFunc Oper.growAt Oper.growUpon GSpec.fix GSpec.row GSpec.wh GSpec.own GSpec.box GSpec.kmap GSpec.lk GSpec.lk1 GSpec.put match_undef
attribute [local irreducible] wpList
set_option maxRecDepth 100000 in
set_option maxHeartbeats 16000000 in
theorem recBodies_any (w : World) (k : Nat) (hk : k < 256) (A : Option Addr) (n cap : Nat) (b : List UInt8) (h : Rd w w.heap.size 1 A n (byts b)) : Calls Try.prog 5 #[.int .u8 (k : Nat), .slice A n cap] w fun en w' => en = .returned (.bool true) ∧ Below w.heap.size w w' := by
  have H := Lib.hid h
  have hbl := h.blen
  have HU8 : (UInt8.ofNat k).toNat = k := by rw [UInt8.toNat_ofNat']; exact Nat.mod_eq_of_lt hk
  clear h hk
  by_cases hbig : 300 < n
  · have hd : decide ((300 : Int) < (n : Int)) = true := by simp; omega
    clear hbig HU8
    go_enter Try.func5, Try.ntmps5
    go_wp2_with fail
    refine (rworks_any w).mono ?_
    rintro en w2 ⟨rfl, hb2⟩
    have HB2 := Lib.hid hb2
    clear hb2
    go_wp2_with fail
    go_ret
    exact ⟨rfl, HB2.out⟩
  · have hd : decide ((300 : Int) < (n : Int)) = false := by simp; omega
    have hpu := rput_any w (UInt8.ofNat k) A n cap b w.heap.size (Nat.le_refl _) H.out (by omega)
    rw [HU8] at hpu
    have hle := Fra.putB_le (UInt8.ofNat k) b
    obtain ⟨F, hF⟩ : ∃ l, Fra.putB (UInt8.ofNat k) b = l := ⟨_, rfl⟩
    rw [hF] at hpu hle
    obtain ⟨m, hm⟩ : ∃ l, F.length = l := ⟨_, rfl⟩
    rw [hm] at hpu hle
    obtain ⟨ef, hef⟩ : ∃ l, Fra.putE b = l := ⟨_, rfl⟩
    rw [hef] at hpu
    have HPU := Lib.hid hpu
    have HM := Lib.hid (show m ≤ 320 by omega)
    obtain ⟨pp, hpp⟩ : ∃ y, Rc.parse F = y := ⟨_, rfl⟩
    obtain ⟨x, e⟩ := pp
    have hp1 := fun (w : World) (B : Nat) (hB : B ≤ w.heap.size) (O : Option Addr) (cO : Nat) (h : Rd w B 1 O m (byts F)) (hc : m ≤ cO) (hma : cO ≤ maxLen) => parse_any w O m cO F B hB h hc hma (by have := HM.out; omega)
    have hp2 := fun (w : World) (B : Nat) (hB : B ≤ w.heap.size) (O : Option Addr) (cO : Nat) (h : Rd w B 1 O m (byts F)) (hc : m ≤ cO) => rparse_any w O m cO F B hB h hc (by have := HM.out; omega)
    rw [hpp] at hp1 hp2
    have hval : x.val = .agg x.cells := rfl
    simp only [hval] at hp1 hp2
    have HP1 := Lib.hid hp1
    have HP2 := Lib.hid hp2
    clear hp1 hp2 hpp hval hbig hpu hF hm hef hle hbl HU8
    go_enter Try.func5, Try.ntmps5
    go_wp2_with fail
    refine HPU.out.mono ?_
    clear HPU
    rintro en w1 ⟨O, cO, rfl, ho1, hb1⟩
    have HCO := Lib.hid (own_cap ho1)
    have HO1 := Lib.hid (Rd.of_own ho1)
    have HB1 := Lib.hid hb1
    clear ho1 hb1
    go_wp2_with fail
    refine (HP1.out w1 w1.heap.size (Nat.le_refl _) O cO HO1.out HCO.out.1 HCO.out.2).mono ?_
    clear HP1
    rintro en w2 ⟨rfl, hb2⟩
    have HO2 := Lib.hid (HO1.out.below hb2)
    have HB2 := Lib.hid (HB1.out.trans (hb2.mono HB1.out.size))
    have HS2 := Lib.hid hb2.size
    clear hb2 HO1
    go_wp2_with (refine wpList_store_row rfl 24 (.tmp 7) (.tmp 25) rfl w2.heap.size x.cells rfl rfl 24 _ (Whole.new _ _ _) (rec_size x) rfl (rec_cells x) ?_)
    have g1 := (Whole.new w2 24 #[.int .u8 0, .int .u64 0, .int .u64 0, .int .u64 0, .int .u64 0, .int .u64 0, .int .u64 0, .int .u64 0, .int .u64 0, .int .u64 0, .string ⟨#[]⟩, .string ⟨#[]⟩]).row x.cells
    have g2 := Below.setRow ((Below.refl w2.heap.size w2).alloc (Nat.le_refl _) (.cells #[.int .u8 0, .int .u64 0, .int .u64 0, .int .u64 0, .int .u64 0, .int .u64 0, .int .u64 0, .int .u64 0, .int .u64 0, .int .u64 0, .string ⟨#[]⟩, .string ⟨#[]⟩] 24)) (g := w2.heap.size) (Nat.le_refl _) x.cells
    obtain ⟨gx, hgx⟩ : ∃ g, w2.heap.size = g := ⟨_, rfl⟩
    rw [hgx] at g1 g2 ⊢
    generalize World.setRow (w2.alloc (.cells #[.int .u8 0, .int .u64 0, .int .u64 0, .int .u64 0, .int .u64 0, .int .u64 0, .int .u64 0, .int .u64 0, .int .u64 0, .int .u64 0, .string ⟨#[]⟩, .string ⟨#[]⟩] 24)) gx x.cells = w3 at g1 g2 ⊢
    have HS3 := Lib.hid (show w1.heap.size ≤ w3.heap.size from Nat.le_trans HS2.out (by rw [hgx]; exact Nat.le_of_lt g1.lt))
    have HB3 := Lib.hid (HB2.out.trans (g2.mono (by rw [← hgx]; exact HB2.out.size)))
    have HO3 := Lib.hid (HO2.out.below (g2.mono (by rw [← hgx]; exact HS2.out)))
    have K1 := Lib.hid g1
    clear g1 g2 hgx HO2 HB2 HS2
    refine (HP2.out w3 w1.heap.size HS3.out O cO HO3.out HCO.out.1).mono ?_
    clear HP2
    rintro en w4 ⟨rfl, hb4⟩
    have HB4 := Lib.hid (HB3.out.trans (hb4.mono HB3.out.size))
    replace K1 := Lib.hid (K1.out.below hb4 K1.out.lt)
    clear hb4 HO3 HB3 HS3
    have heq : ∀ w : World, (binOp .eql 31 (.agg x.cells) (.agg x.cells)).run Try.prog w = .ok (.bool true) w := fun w => by
      have h := rrec_eq w x x
      rwa [show x.eqB x = true from (Rc.eqB_iff x x).2 rfl] at h
    have hgd := rrec_guard
    have hee : ((e : Int) == (e : Int)) = true := by simp
    go_wp2_with (refine wpList_store_row rfl 31 (.tmp 9) (.tmp 30) rfl w4.heap.size x.cells rfl rfl 31 _ (Whole.new _ _ _) (rrec_size x) rfl (rec_cells x) ?_)
    have g1 := (Whole.new w4 31 #[.int .u8 0, .int .u64 0, .int .u64 0, .int .u64 0, .int .u64 0, .int .u64 0, .int .u64 0, .int .u64 0, .int .u64 0, .int .u64 0, .string ⟨#[]⟩, .string ⟨#[]⟩]).row x.cells
    have g2 := Below.setRow ((Below.refl w4.heap.size w4).alloc (Nat.le_refl _) (.cells #[.int .u8 0, .int .u64 0, .int .u64 0, .int .u64 0, .int .u64 0, .int .u64 0, .int .u64 0, .int .u64 0, .int .u64 0, .int .u64 0, .string ⟨#[]⟩, .string ⟨#[]⟩] 31)) (g := w4.heap.size) (Nat.le_refl _) x.cells
    obtain ⟨gy, hgy⟩ : ∃ g, w4.heap.size = g := ⟨_, rfl⟩
    rw [hgy] at g1 g2 ⊢
    generalize World.setRow (w4.alloc (.cells #[.int .u8 0, .int .u64 0, .int .u64 0, .int .u64 0, .int .u64 0, .int .u64 0, .int .u64 0, .int .u64 0, .int .u64 0, .int .u64 0, .string ⟨#[]⟩, .string ⟨#[]⟩] 31)) gy x.cells = W2 at g1 g2 ⊢
    have HB5 := Lib.hid (HB4.out.trans (g2.mono (by rw [← hgy]; exact HB4.out.size)))
    replace K1 := Lib.hid (K1.out.below g2 (by rw [← hgy]; exact K1.out.lt))
    have K2 := Lib.hid g1
    clear g1 g2 hgy HB4
    refine wp_region_grow (fun k' => List.lookup k' [(0, (.fix (.agg x.cells))), (1, (.fix (.agg x.cells))), (2, (.fix (.agg x.cells))), (10, (.fix (.bool true)))]) (by as_aux_lemma => kernel_rfl) (by as_aux_lemma => kernel_rfl) ?_
    repeat (refine wpGrow_pure rfl (fun K hK => ?_); go_simp; refine hK.out _ ?_; clear hK K)
    refine wpGrow_eff _ rfl (fun wx he hcl => ?_) (fun _ K hK => ?_) rfl
    · clear hcl
      exact growAt_load_row rfl rfl (K1.out.below he K1.out.lt) Try.underlying24 rfl (rec_size _)
    go_simp
    refine hK.out _ ?_
    clear hK K
    repeat (refine wpGrow_pure rfl (fun K hK => ?_); go_simp; refine hK.out _ ?_; clear hK K)
    refine wpGrow_eff _ rfl (fun wx he hcl => ?_) (fun _ K hK => ?_) rfl
    · clear hcl
      have hcon := (show Calls Try.prog 11 #[.agg x.cells] wx (fun en w' => en = .returned (.agg x.cells) ∧ Below wx.heap.size wx w') from ref_any wx x)
      go_simp
      try exact hcon
    go_simp
    refine hK.out _ ?_
    clear hK K
    repeat (refine wpGrow_pure rfl (fun K hK => ?_); go_simp; refine hK.out _ ?_; clear hK K)
    refine wpGrow_eff _ rfl (fun wx he hcl => ?_) (fun _ K hK => ?_) rfl
    · clear hcl
      exact growAt_load_row rfl rfl (K2.out.below he K2.out.lt) Try.underlying31 rfl (rrec_size _)
    go_simp
    refine hK.out _ ?_
    clear hK K
    repeat (refine wpGrow_pure rfl (fun K hK => ?_); go_simp; refine hK.out _ ?_; clear hK K)
    refine wpGrow_eff _ rfl (fun wx he hcl => ?_) (fun _ K hK => ?_) rfl
    · clear hcl
      have hcon := rworks_any wx
      go_simp
      try exact hcon
    go_simp
    refine hK.out _ ?_
    clear hK K
    repeat (refine wpGrow_pure rfl (fun K hK => ?_); go_simp; refine hK.out _ ?_; clear hK K)
    refine wpGrow_nil fun wx he hfin => ?_
    clear hfin
    have HB9 := Lib.hid (HB5.out.trans (he.mono HB5.out.size))
    clear he
    go_wp2_with fail
    go_ret
    exact ⟨rfl, HB9.out⟩
end Go.Proofs.Ytmobgamlednlhaa
