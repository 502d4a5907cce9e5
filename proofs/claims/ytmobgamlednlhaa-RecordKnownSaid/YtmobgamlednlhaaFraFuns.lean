/-
  Frames: what the program's functions write.
-/
import Derived.Test.YtmobgamlednlhaaFraPlain
import Derived.Test.YtmobgamlednlhaaCrcRefs
import Derived.Test.YtmobgamlednlhaaVarRefMore
import Derived.Test.YtmobgamlednlhaaGrowTail
import Derived.Test.YtmobgamlednlhaaUndef
namespace Go.Proofs.Ytmobgamlednlhaa
open Go.RowKit
attribute [local go_sem] match_undef Oper.growAt Oper.growUpon GSpec.fix GSpec.row GSpec.wh GSpec.own
attribute [local irreducible] wpList
theorem below1 (w : World) (o : Obj) : Below w.heap.size w (w.alloc o) := (Below.refl _ _).alloc (Nat.le_refl _) _
theorem own_base {w : World} {base base' : Nat} {e : TypeId} {s n : Nat} {v : Value} {xs : List Value} (h : w.ownsRow base' e s v n xs) (hb : base ≤ base') : w.ownsRow base e s v n xs :=
  ⟨h.1, h.2.imp id fun ⟨g, cap, cur, hv, hg, hr⟩ => ⟨g, cap, cur, hv, Nat.le_trans hb hg, hr⟩⟩
theorem own_new {w : World} {base : Nat} (e : TypeId) (xs : List Value) (hb : base ≤ w.heap.size) (hx : xs.length ≤ maxLen) : (w.alloc (.cells xs.toArray e)).ownsRow base e 1 (.slice (some ⟨w.heap.size, 0, none⟩) xs.length xs.length) xs.length xs :=
  ⟨by omega, .inr ⟨w.heap.size, xs.length, xs.toArray, rfl, hb, Whole.new w e _, Nat.le_refl _, hx, by simp, by simp⟩⟩
theorem sum4_cells {S : Nat} (h : S < 4294967296) : #[Value.int .u8 ((S : Int) % 256), .int .u8 ((S : Int) / 256 % 256), .int .u8 ((S : Int) / 65536 % 256), .int .u8 ((S : Int) / 16777216)] = (byts (Fra.sum4 S)).toArray := by
  have e : ∀ m : Nat, m < 256 → (((UInt8.ofNat m).toNat : Nat) : Int) = (m : Int) := fun m hm => by rw [UInt8.toNat_ofNat', Nat.mod_eq_of_lt (by omega)]
  simp only [Fra.sum4, byts, List.map_cons, List.map_nil, e _ (show S % 256 < 256 by omega), e _ (show S / 256 % 256 < 256 by omega), e _ (show S / 65536 % 256 < 256 by omega), e _ (show S / 16777216 % 256 < 256 by omega)]
  have e4 : ((S / 16777216 % 256 : Nat) : Int) = (S : Int) / 16777216 := by omega
  rw [e4]
  simp
theorem Fresh.mk {base : Nat} {e : TypeId} {D : Option Addr} {L c : Nat} {xs : List UInt8} {w w' : World} (ho : w'.ownsRow base e 1 (.slice D L c) L (byts xs)) (hb : Below base w w') :
    Fresh base e 1 L (byts xs) w (.returned (.slice D L c)) w' := ⟨D, c, rfl, ho, hb⟩

set_option maxRecDepth 100000 in
set_option maxHeartbeats 4000000 in
theorem summed_any (w : World) (A : Option Addr) (n cap : Nat) (b : List UInt8) (B : Nat) (hB : B ≤ w.heap.size) (h : Rd w B 1 A n (byts b)) (h1 : n ≤ cap) (h2 : cap ≤ maxLen) :
    Calls Try.prog 47 #[.slice A n cap] w (Fresh w.heap.size 5 1 4 (byts (Fra.sum4 (Crc.update 0 b))) w) := by
  obtain ⟨S, hS⟩ : ∃ S, Crc.update 0 b = S := ⟨_, rfl⟩
  have hl : S < 4294967296 := by rw [← hS]; exact Crc.update_lt (by omega) b
  rw [hS]
  have HS := Lib.hid hS
  have H := Lib.hid h
  clear hS h
  go_enter Try.func47, Try.ntmps47
  go_wp2_with fail
  refine (crcSum_one w A n cap b B hB H.out h1 h2 S HS.out _ rfl).mono ?_
  rintro en w1 ⟨rfl, hb⟩
  go_wp2_with fail
  go_ret
  rw [sum4_cells hl]
  exact ⟨_, 4, rfl, own_new _ _ hb.size (show (4 : Nat) ≤ maxLen from by unfold maxLen; decide), hb.alloc hb.size _⟩

set_option maxRecDepth 100000 in
set_option maxHeartbeats 4000000 in
theorem head_any (w : World) (k : UInt8) (A : Option Addr) (n cap : Nat) (b : List UInt8) (hl : b.length = n) (hn : n ≤ 140737488351232) :
    Calls Try.prog 46 #[.agg #[.int .u8 (k.toNat : Nat), .slice A n cap]] w (Fresh w.heap.size 5 1 (Fra.head k b).length (byts (Fra.head k b)) w) := by
  have HN := Lib.hid hn
  have HL := Lib.hid hl
  clear hl
  have hwr : IntKind.u64.wrap (n : Int) = (n : Int) := by rw [IntKind.wrap_u64]; omega
  go_enter Try.func46, Try.ntmps46
  go_wp2_with fail
  have k1 := Whole.new w 64 #[.int .u8 (k.toNat : Nat), .slice A n cap]
  have hb := below1 w (.cells #[.int .u8 (k.toNat : Nat), .slice A n cap] 64)
  generalize World.alloc w (.cells #[.int .u8 (k.toNat : Nat), .slice A n cap] 64) = w1 at k1 hb ⊢
  obtain ⟨g, hg⟩ : ∃ g, w.heap.size = g := ⟨_, rfl⟩
  have HG := Lib.hid hg
  rw [hg] at k1 ⊢
  have HSZ := Lib.hid hb.size
  have GL := Lib.hid k1.lt
  have Q0 := Lib.hid (k1.cell 0)
  have Q1 := Lib.hid (k1.cell 1)
  clear k1 hg
  refine wp_region_tail 8 (fun k' => List.lookup k' [(1, .fix (.int .u8 (k.toNat : Nat))), (2, .own w.heap.size 5 1 1 [.int .u8 (k.toNat : Nat)]), (4, .fix (.slice A n cap)), (7, .own w.heap.size 5 1 (Var.put n).length (byts (Var.put n)))]) (by as_aux_lemma => kernel_rfl) (by as_aux_lemma => kernel_rfl) (by as_aux_lemma => kernel_rfl) ?_
  simp only [List.take_succ_cons, List.take_zero]
  repeat (refine wpGrow_pure rfl (fun K hK => ?_); go_simp; refine hK.out _ ?_; clear hK K)
  refine wpGrow_eff _ rfl (fun wx he hcl => ?_) (fun _ K hK => ?_) rfl
  · clear hcl
    have hq := (he.cell (p := ⟨g, 0, none⟩) GL.out).trans Q0.out
    go_simp
    exact Below.refl _ _
  go_simp
  refine hK.out _ ?_
  clear hK K
  repeat (refine wpGrow_pure rfl (fun K hK => ?_); go_simp; refine hK.out _ ?_; clear hK K)
  refine wpGrow_eff _ rfl (fun wx he hcl => ?_) (fun ⟨D1, c1⟩ K hK => ?_) rfl
  · clear hcl
    have hsz := Nat.le_trans HSZ.out he.size
    go_simp
    exact ⟨some ⟨wx.heap.size, 0, none⟩, 1, ⟨rfl, rfl⟩, own_new _ [.int .u8 (k.toNat : Nat)] hsz (show (1 : Nat) ≤ maxLen from by unfold maxLen; decide), (Below.refl _ _).alloc (Nat.le_refl _) _⟩
  go_simp
  refine hK.out _ ?_
  clear hK K
  repeat (refine wpGrow_pure rfl (fun K hK => ?_); go_simp; refine hK.out _ ?_; clear hK K)
  refine wpGrow_eff _ rfl (fun wx he hcl => ?_) (fun _ K hK => ?_) rfl
  · clear hcl
    have hq := (he.cell (p := ⟨g, 1, none⟩) GL.out).trans Q1.out
    go_simp
    exact Below.refl _ _
  go_simp
  refine hK.out _ ?_
  clear hK K
  repeat (refine wpGrow_pure rfl (fun K hK => ?_); go_simp; refine hK.out _ ?_; clear hK K)
  refine wpGrow_eff _ rfl (fun wx he hcl => ?_) (fun ⟨D2, c2⟩ K hK => ?_) rfl
  · clear hcl
    have hsz := Nat.le_trans HSZ.out he.size
    have hcon := put_any wx n (by have := HN.out; omega)
    go_simp
    exact hcon.mono fun e w2 ⟨D, c, he, ho, hb⟩ => ⟨D, c, he, own_base ho hsz, hb⟩
  go_simp
  refine hK.out _ ?_
  clear hK K
  repeat (refine wpGrow_pure rfl (fun K hK => ?_); go_simp; refine hK.out _ ?_; clear hK K)
  refine wpGrow_nil fun wx he hfin => ?_
  have ho1 : wx.ownsRow w.heap.size 5 1 (.slice D1 1 c1) 1 (byts [k]) := hfin.out 2
  have ho2 : wx.ownsRow w.heap.size 5 1 (.slice D2 (Var.put n).length c2) (Var.put n).length (byts (Var.put n)) := hfin.out 7
  clear hfin
  have HO1 := Lib.hid ho1
  have HO2 := Lib.hid ho2
  have hsz := Nat.le_trans HSZ.out he.size
  have HP := Lib.hid (Var.put_length n)
  replace hb := hb.trans (he.mono HSZ.out)
  clear ho1 ho2 he Q0 Q1 GL hwr
  simp only [List.drop_succ_cons, List.drop_zero]
  go_wp2_with (at_builtin; refine wpList_append_rd _ rfl (.tmp 5) (.tmp 10) _ rfl bytesV w.heap.size _ 1 _ rfl HO1.out wx.heap.size D2 (Var.put n).length c2 _ rfl (Rd.of_own HO2.out) (byts_one _) (by have := HP.out.2; unfold maxLen; omega) (by have := HP.out.2; omega) hsz ?_; intro D3 c3 w3 ho3 hb3 _ _)
  go_ret
  rw [← byts_append] at ho3
  have e1 : Fra.head k b = [k] ++ Var.put n := by unfold Fra.head; rw [HL.out]; rfl
  have e2 : (Fra.head k b).length = 1 + (Var.put n).length := by rw [Fra.head_length, HL.out]
  rw [← HG.out, e2, e1]
  exact ⟨D3, c3, rfl, ho3, hb.trans hb3⟩

set_option maxRecDepth 100000 in
set_option maxHeartbeats 4000000 in
theorem fbytes_any (w : World) (k : UInt8) (A : Option Addr) (n cap : Nat) (b : List UInt8) (B : Nat) (hB : B ≤ w.heap.size) (h : Rd w B 1 A n (byts b)) (hn : n ≤ 100000000) :
    Calls Try.prog 41 #[.agg #[.int .u8 (k.toNat : Nat), .slice A n cap]] w (Fresh w.heap.size 5 1 (Fra.bytes k b).length (byts (Fra.bytes k b)) w) := by
  have HL := Lib.hid h.blen
  have HN := Lib.hid hn
  have HB := Lib.hid hB
  have H := Lib.hid h
  clear h hB
  obtain ⟨M, hM⟩ : ∃ M, (Fra.head k b).length = M := ⟨_, rfl⟩
  have hM11 : M ≤ 11 := by rw [← hM]; exact (Fra.head_le k b).2
  have HM := Lib.hid hM
  clear hM
  go_enter Try.func41, Try.ntmps41
  go_wp2_with fail
  have k1 := Whole.new w 64 #[.int .u8 (k.toNat : Nat), .slice A n cap]
  have hb := below1 w (.cells #[.int .u8 (k.toNat : Nat), .slice A n cap] 64)
  have hr1 := H.out.alloc HB.out (.cells #[.int .u8 (k.toNat : Nat), .slice A n cap] 64)
  generalize World.alloc w (.cells #[.int .u8 (k.toNat : Nat), .slice A n cap] 64) = w1 at k1 hb hr1 ⊢
  obtain ⟨g, hg⟩ : ∃ g, w.heap.size = g := ⟨_, rfl⟩
  have HG := Lib.hid hg
  rw [hg] at k1 ⊢
  have HSZ := Lib.hid hb.size
  have K1 := Lib.hid k1
  have HR1 := Lib.hid hr1
  clear k1 hg hr1
  have Q0 := Lib.hid (K1.out.cell 0)
  have Q1 := Lib.hid (K1.out.cell 1)
  have GL := Lib.hid K1.out.lt
  refine wp_region_tail 4 (fun k' => List.lookup k' [(0, .fix (.agg #[.int .u8 (k.toNat : Nat), .slice A n cap])), (1, .own w.heap.size 5 1 M (byts (Fra.head k b))), (3, .fix (.slice A n cap))]) (by as_aux_lemma => kernel_rfl) (by as_aux_lemma => kernel_rfl) (by as_aux_lemma => kernel_rfl) ?_
  simp only [List.take_succ_cons, List.take_zero]
  repeat (refine wpGrow_pure rfl (fun K hK => ?_); go_simp; refine hK.out _ ?_; clear hK K)
  refine wpGrow_eff _ rfl (fun wx he hcl => ?_) (fun _ K hK => ?_) rfl
  · clear hcl
    have hq0 := (he.cell (p := ⟨g, 0, none⟩) GL.out).trans Q0.out
    have hq1 := (he.cell (p := ⟨g, 1, none⟩) GL.out).trans Q1.out
    simp at hq0 hq1
    go_simp
    exact Below.refl _ _
  go_simp
  refine hK.out _ ?_
  clear hK K
  repeat (refine wpGrow_pure rfl (fun K hK => ?_); go_simp; refine hK.out _ ?_; clear hK K)
  refine wpGrow_eff _ rfl (fun wx he hcl => ?_) (fun ⟨D1, c1⟩ K hK => ?_) rfl
  · clear hcl
    have hsz := Nat.le_trans HSZ.out he.size
    have hcon := head_any wx k A n cap b HL.out (by have := HN.out; omega)
    rw [HM.out] at hcon
    go_simp
    exact hcon.mono fun e w2 ⟨D, c, he, ho, hb⟩ => ⟨D, c, he, own_base ho hsz, hb⟩
  go_simp
  refine hK.out _ ?_
  clear hK K
  repeat (refine wpGrow_pure rfl (fun K hK => ?_); go_simp; refine hK.out _ ?_; clear hK K)
  refine wpGrow_eff _ rfl (fun wx he hcl => ?_) (fun _ K hK => ?_) rfl
  · clear hcl
    have hq := (he.cell (p := ⟨g, 1, none⟩) GL.out).trans Q1.out
    go_simp
    exact Below.refl _ _
  go_simp
  refine hK.out _ ?_
  clear hK K
  repeat (refine wpGrow_pure rfl (fun K hK => ?_); go_simp; refine hK.out _ ?_; clear hK K)
  refine wpGrow_nil fun wx he hfin => ?_
  have ho1 : wx.ownsRow w.heap.size 5 1 (.slice D1 M c1) M (byts (Fra.head k b)) := hfin.out 1
  clear hfin
  have HO1 := Lib.hid ho1
  have hsz := Nat.le_trans HSZ.out he.size
  replace HR1 := Lib.hid (HR1.out.below (he.mono (Nat.le_trans HB.out HSZ.out)))
  replace hb := hb.trans (he.mono HSZ.out)
  clear ho1 he Q0 Q1 GL K1
  simp only [List.drop_succ_cons, List.drop_zero]
  go_wp2_with (at_builtin; first
    | (refine wpList_append_rd _ rfl (.tmp 5) (.tmp 7) _ rfl bytesV w.heap.size _ M _ rfl HO1.out B A n cap _ rfl HR1.out (byts_one _) (by unfold maxLen; omega) (by omega) hsz ?_; intro D3 c3 w3 ho3 hb3 _ _; rw [← byts_append] at ho3; have HO3 := Lib.hid ho3; replace hb := hb.trans hb3; clear ho3 hb3))
  refine (summed_any w3 D3 _ c3 _ w3.heap.size (Nat.le_refl _) (Rd.of_own HO3.out) (own_cap HO3.out).1 (own_cap HO3.out).2).mono ?_
  rintro en w4 ⟨D4, c4, rfl, ho4, hb4⟩
  have HO4 := Lib.hid ho4
  replace HO3 := Lib.hid (own_ext HO3.out hb4)
  replace hb := hb.trans (hb4.mono hb.size)
  clear ho4 hb4
  go_wp2_with (at_builtin; refine wpList_append_rd _ rfl (.tmp 9) (.tmp 11) _ rfl bytesV w.heap.size _ (M + n) _ rfl HO3.out w4.heap.size D4 4 c4 _ rfl (Rd.of_own HO4.out) (byts_one _) (by unfold maxLen; omega) (by omega) hb.size ?_; intro D5 c5 w5 ho5 hb5 _ _)
  go_ret
  rw [← byts_append] at ho5
  have e2 : (Fra.bytes k b).length = M + n + 4 := by rw [Fra.bytes_length, HM.out, HL.out]
  rw [← HG.out, e2]
  exact ⟨D5, c5, rfl, ho5, hb.trans hb5⟩

set_option maxRecDepth 100000 in
set_option maxHeartbeats 4000000 in
theorem fput_any (w : World) (k : UInt8) (A : Option Addr) (n cap : Nat) (b : List UInt8) (B : Nat) (hB : B ≤ w.heap.size) (h : Rd w B 1 A n (byts b)) (hn : n ≤ 140737488351232) :
    Calls Try.prog 32 #[.agg #[.int .u8 (k.toNat : Nat), .slice A n cap]] w fun en w' => ∃ D c, en = .returned (.tuple #[.slice D (Fra.putB k b).length c, .int .i64 (Fra.putE b : Nat)]) ∧ w'.ownsRow w.heap.size 5 1 (.slice D (Fra.putB k b).length c) (Fra.putB k b).length (byts (Fra.putB k b)) ∧ Below w.heap.size w w' := by
  have HL := Lib.hid h.blen
  have HN := Lib.hid hn
  have HB := Lib.hid hB
  have H := Lib.hid h
  clear h hB
  by_cases hbig : 65535 < n
  · have e1 : Fra.putB k b = [] := by unfold Fra.putB; rw [if_pos (by rw [HL.out]; exact hbig)]
    have e2 : Fra.putE b = 3 := by unfold Fra.putE; rw [if_pos (by rw [HL.out]; exact hbig)]
    rw [e1, e2]
    clear e1 e2
    go_enter Try.func32, Try.ntmps32
    go_wp2_with fail
    go_ret2
    exact ⟨none, 0, rfl, World.ownsRow_nil _ _ _ _, below1 _ _⟩
  · have e1 : Fra.putB k b = Fra.bytes k b := by unfold Fra.putB; rw [if_neg (by rw [HL.out]; exact hbig)]
    have e2 : Fra.putE b = 0 := by unfold Fra.putE; rw [if_neg (by rw [HL.out]; exact hbig)]
    rw [e1, e2]
    clear e1 e2
    go_enter Try.func32, Try.ntmps32
    go_wp2_with fail
    have HR1 := Lib.hid (H.out.alloc HB.out (.cells #[.int .u8 (k.toNat : Nat), .slice A n cap] 64))
    have hb := below1 w (.cells #[.int .u8 (k.toNat : Nat), .slice A n cap] 64)
    refine (fbytes_any _ k A n cap b B (Nat.le_trans HB.out hb.size) HR1.out (by omega)).mono ?_
    rintro en w2 ⟨D, c, rfl, ho, hb2⟩
    have HO := Lib.hid (own_base ho hb.size)
    replace hb := hb.trans (hb2.mono hb.size)
    clear ho hb2
    go_wp2_with fail
    go_ret2
    exact ⟨D, c, rfl, HO.out, hb⟩

end Go.Proofs.Ytmobgamlednlhaa
