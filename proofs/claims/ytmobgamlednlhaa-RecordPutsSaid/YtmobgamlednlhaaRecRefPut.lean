/-
  Records: the document's Put.
-/
import Derived.Test.YtmobgamlednlhaaRecPuts
import Derived.Test.YtmobgamlednlhaaRecLet
import Derived.Test.YtmobgamlednlhaaRecRefRight
namespace Go.Proofs.Ytmobgamlednlhaa
open Go.RowKit
theorem refHead_any (w : World) (r : Rc) (hok : r.ok) (b B : Nat) (hB : B ≤ w.heap.size) (hb : b < B) (h : Whole w b 22 #[.int .u64 (r.proc : Nat), .int .u64 (r.inc : Nat), .int .u64 (r.seq : Nat)]) :
    Calls Try.prog 23 #[.slice (some ⟨b, 0, none⟩) 3 3] w (Fresh w.heap.size 5 1 (r.enc [1, 2, 3]).length (byts (r.enc [1, 2, 3])) w) := by
  obtain ⟨_, h1, h2, h3, _⟩ := hok
  have e1 : (UInt64.ofNat r.proc).toNat = r.proc := by rw [UInt64.toNat_ofNat']; exact Nat.mod_eq_of_lt h1
  have e2 : (UInt64.ofNat r.inc).toNat = r.inc := by rw [UInt64.toNat_ofNat']; exact Nat.mod_eq_of_lt h2
  have e3 : (UInt64.ofNat r.seq).toNat = r.seq := by rw [UInt64.toNat_ofNat']; exact Nat.mod_eq_of_lt h3
  have hn : nums [UInt64.ofNat r.proc, UInt64.ofNat r.inc, UInt64.ofNat r.seq] = [.int .u64 (r.proc : Nat), .int .u64 (r.inc : Nat), .int .u64 (r.seq : Nat)] := by
    unfold nums
    simp only [List.map_cons, List.map_nil, e1, e2, e3]
  have hr := Rd.of_heap (n := 3) (B := B) h hb (Nat.le_refl _)
  have hp : puts [UInt64.ofNat r.proc, UInt64.ofNat r.inc, UInt64.ofNat r.seq] = r.enc [1, 2, 3] := by
    unfold puts Rc.enc
    simp only [List.map_cons, List.map_nil, e1, e2, e3]
    rfl
  rw [← hp]
  refine refAll_any w _ 3 3 _ B hB ?_ (by omega)
  rw [hn]
  exact hr
attribute [local go_sem] Instr.makeFunc Oper.growAt Oper.growUpon GSpec.fix GSpec.row GSpec.wh GSpec.own GSpec.box GSpec.kmap GSpec.lk1 GSpec.put match_undef
attribute [local irreducible] wpList
set_option maxRecDepth 100000 in
set_option maxHeartbeats 16000000 in
theorem rput_rec_any (w : World) (r : Rc) (hok : r.ok) : Calls Try.prog 10 #[r.val] w (PutP r w) := by
  unfold Rc.val
  have W1 := Lib.hid (Whole.new w 31 r.cells)
  have B1 := Lib.hid (belowK w (.cells r.cells 31))
  have HOK := Lib.hid hok
  have hr1 := rright_any (w.alloc (.cells r.cells 31)) r hok
  rw [← Rc.right_rright] at hr1
  have hval : r.val = .agg r.cells := rfl
  rw [hval] at hr1
  have HR1 := Lib.hid hr1
  clear hok hval hr1
  cases hr : r.right with
  | false =>
    have HPB := Lib.hid (show r.putB = [] by unfold Rc.putB; rw [hr]; rfl)
    have HPE := Lib.hid (show r.putE = 2 by unfold Rc.putE; rw [hr]; rfl)
    rw [hr] at HR1
    clear hr
    go_enter Try.func10, Try.ntmps10
    go_wp2_with (refine wpList_load_row rfl 31 (.tmp 1) rfl w.heap.size rfl 31 r.cells (0, 0) _ ?_ Try.underlying31 rfl (rrec_size r) ?_; · exact W1.out)
    refine HR1.out.mono ?_
    clear HR1
    rintro en w2 ⟨rfl, hb2⟩
    have HB2 := Lib.hid hb2
    clear hb2
    go_wp2_with fail
    go_ret2
    unfold PutP
    rw [HPB.out, HPE.out]
    exact ⟨none, 0, rfl, World.ownsRow_nil _ _ _ _, B1.out.trans (HB2.out.mono B1.out.size)⟩
  | true =>
    have HSM := Lib.hid (Rc.right_small hr)
    have HBL := Lib.hid (Rc.body_length hr)
    have HPB := Lib.hid (show r.putB = Fra.bytes (UInt8.ofNat r.k) r.body by unfold Rc.putB; rw [hr]; rfl)
    have HPE := Lib.hid (show r.putE = 0 by unfold Rc.putE; rw [hr]; rfl)
    rw [hr] at HR1
    clear hr
    go_enter Try.func10, Try.ntmps10
    go_wp2_with (refine wpList_load_row rfl 31 (.tmp 1) rfl w.heap.size rfl 31 r.cells (0, 0) _ ?_ Try.underlying31 rfl (rrec_size r) ?_; · exact W1.out)
    refine HR1.out.mono ?_
    clear HR1
    rintro en w1 ⟨rfl, hb2⟩
    have V1 := Lib.hid (W1.out.below hb2 W1.out.lt)
    have VB := Lib.hid (B1.out.trans (hb2.mono B1.out.size))
    have VS := Lib.hid (show w.heap.size + 1 ≤ w1.heap.size from by have h := hb2.size; simpa using h)
    have p1 : w1.cell? ⟨w.heap.size, 1, none⟩ = some (.int .u64 (r.proc : Nat)) := V1.out.cell 1
    have p2 : w1.cell? ⟨w.heap.size, 2, none⟩ = some (.int .u64 (r.inc : Nat)) := V1.out.cell 2
    have p3 : w1.cell? ⟨w.heap.size, 3, none⟩ = some (.int .u64 (r.seq : Nat)) := V1.out.cell 3
    clear hb2
    go_wp2_with fail
    refine (refHead_any _ r HOK.out w1.heap.size (w1.heap.size + 1) (by simp) (by omega) (Whole.new _ _ _)).mono ?_
    rintro en w2 ⟨D, c, rfl, ho, hb⟩
    have V2 := Lib.hid ((V1.out.alloc _).below hb (V1.out.alloc _).lt)
    have VB2 := Lib.hid ((VB.out.alloc VB.out.size _).trans (hb.mono ((VB.out.alloc VB.out.size _).size)))
    have VS2 := Lib.hid (show w.heap.size + 1 ≤ w2.heap.size from Nat.le_trans VS.out (Nat.le_trans (by simp) hb.size))
    have HO := Lib.hid (own_base (base := w.heap.size + 1) ho (Nat.le_trans VS.out (by simp)))
    clear ho hb p1 p2 p3 V1 VB VS
    have p0 : w2.cell? ⟨w.heap.size, 0, none⟩ = some (.int .u8 (r.k : Nat)) := V2.out.cell 0
    obtain ⟨ls, hls⟩ : ∃ l, Rc.letters r.k = l := ⟨_, rfl⟩
    have HLN0 := Lib.hid (show ls.length = (Rc.pl r.k).length by rw [← hls]; exact Rc.letters_length _)
    have HLA := Lib.hid (show ∀ j (h : j < (Rc.pl r.k).length), ls[j]? = some (Rc.lett (Rc.pl r.k)[j]) from fun j h => by rw [← hls]; exact Rc.letters_at h)
    have HLN := Lib.hid (show ls.length ≤ 4 by rw [HLN0.out]; exact Rc.pl_len _)
    have HCP := Lib.hid (parts_any w2 r.k HOK.out.1)
    rw [hls] at HCP
    clear hls
    go_wp2_with fail
    refine HCP.out.mono ?_
    clear HCP
    rintro en w3 ⟨rfl, hb3⟩
    have V3 := Lib.hid (V2.out.below hb3 V2.out.lt)
    have VB3 := Lib.hid ((VB2.out.mono (Nat.le_refl _)).trans (hb3.mono VB2.out.size))
    have VS3 := Lib.hid (Nat.le_trans VS2.out hb3.size)
    have HO3 := Lib.hid (own_ext HO.out hb3)
    clear hb3 p0 V2 VB2 VS2 HO
    go_wp2_with fail
    go_loopw [4, 6] (fun v i wr => ∃ (j L : Nat) (D : Option Addr) (c : Nat), j ≤ ls.length ∧ i = .int .i64 j ∧ v = .slice D L c ∧ Hid (Whole wr w.heap.size 31 r.cells) ∧ Hid ((r.enc (Rc.pre r.k j)).length = L ∧ wr.ownsRow (w.heap.size + 1) 5 1 (.slice D L c) L (byts (r.enc (Rc.pre r.k j)))) ∧ Hid (Below w.heap.size w wr) ∧ Hid (w.heap.size + 1 ≤ wr.heap.size)) (fun _ i _ => ls.length - (intOf i).toNat)
    case atStart => exact ⟨0, _, D, c, Nat.zero_le _, rfl, rfl, V3, Lib.hid ⟨rfl, HO3.out⟩, VB3, VS3⟩
    case round =>
      clear V3 HO3 VB3 VS3
      obtain ⟨j, L, D, c, hj, rfl, rfl, HW1, HOL, HBB, HBS⟩ := hrel
      have HLE := Lib.hid HOL.out.1
      have HOW := Lib.hid HOL.out.2
      have hsz : (⟨ls.toArray⟩ : ByteArray).size = ls.length := rfl
      clear HOL
      by_cases hlt : j < ls.length
      · have hd : decide ((j : Int) < (ls.length : Int)) = true := by simp; omega
        have hjp : j < (Rc.pl r.k).length := by rw [← HLN0.out]; exact hlt
        have HP8 := Lib.hid (Rc.pl_lt r.k _ (List.getElem_mem hjp))
        have HTK := Lib.hid (Rc.pre_succ hjp)
        have hcj := HLA.out j hjp
        have HLL := Lib.hid (show L ≤ 770 by
          have h1 := Rc.enc_length r (fun i => Nat.le_trans (HSM.out i) (by decide)) (Rc.pre r.k j)
          have h2 : (Rc.pre r.k j).length ≤ 7 := by
            unfold Rc.pre
            rw [List.length_append, List.length_map, List.length_take]
            have := Rc.pl_len r.k
            simp
            omega
          rw [HLE.out] at h1
          omega)
        obtain ⟨p, hp⟩ : ∃ p, (Rc.pl r.k)[j] = p := ⟨_, rfl⟩
        rw [hp] at hcj HTK HP8
        obtain ⟨cl, hc⟩ : ∃ c, Rc.lett p = c := ⟨_, rfl⟩
        rw [hc] at hcj
        have HC := Lib.hid hc
        have hcj2 : (⟨ls.toArray⟩ : ByteArray).data.toList[j]? = some cl := by rw [List.toList_toArray]; exact hcj
        have HCJ := Lib.hid hcj2
        have hix : ∀ w : World, (Instr.index 9 (.string ⟨ls.toArray⟩) (.int .i64 (j : Nat))).run Try.prog w = .ok (.int .u8 (cl.toNat : Nat)) w := fun w => run_index_str Try.underlying9 hcj2 _
        have w1 : IntKind.i64.wrap ((j : Int) + 1) = ((j + 1 : Nat) : Int) := by rw [IntKind.wrap_i64]; have := HLN.out; omega
        have h0j : (0 : Int) ≤ (j : Int) := by omega
        have h1j : (j : Int) < (ls.length : Int) := by omega
        have hjs : j < ls.length := hlt
        have hgj : ls[j] = cl := by
          rw [List.getElem?_eq_getElem hlt] at hcj
          injection hcj
        clear hcj2 hcj hjp hp hc
        go_wp2_with fail
        have hct := isText_any wr cl.toNat
        rw [← HC.out, Rc.lett_text HP8.out, HC.out] at hct
        by_cases h6 : 6 ≤ p
        · rw [decide_eq_true h6] at hct
          have hs0 : r.txt cl.toNat = r.tat (p + 4) := by rw [← HC.out]; exact Rc.lett_txt r h6 HP8.out
          have hz0 := HSM.out (p + 4)
          have hes : r.encStep (p + 4) = Var.put (r.tat (p + 4)).size ++ (r.tat (p + 4)).data.toList := by unfold Rc.encStep; rw [if_neg (by omega)]
          have hel := Rc.encStep_length r (p + 4) (Nat.le_trans hz0 (by decide))
          obtain ⟨s, hs⟩ : ∃ s, r.tat (p + 4) = s := ⟨_, rfl⟩
          rw [hs] at hs0 hz0 hes
          obtain ⟨E, hE⟩ : ∃ E, Var.put s.size ++ s.data.toList = E := ⟨_, rfl⟩
          rw [hE] at hes
          rw [hes] at hel
          have HS := Lib.hid hs0
          have HSS := Lib.hid (Nat.le_trans hz0 (show 64 ≤ 100000 by decide))
          have HES := Lib.hid hes
          have HEL := Lib.hid hel
          have HE := Lib.hid hE
          clear h6 hs0 hz0 hes hel hs hE
          refine hct.mono ?_
          clear hct
          rintro en w4 ⟨rfl, hb4⟩
          replace HBB := Lib.hid (HBB.out.trans (hb4.mono HBB.out.size))
          replace HBS := Lib.hid (Nat.le_trans HBS.out hb4.size)
          replace HW1 := Lib.hid (HW1.out.below hb4 HW1.out.lt)
          replace HOW := Lib.hid (own_ext HOW.out hb4)
          clear hb4
          go_wp2_with fail
          refine wp_region_tail 7 (fun k' => List.lookup k' [(1, (.fix (.agg r.cells))), (4, (.fix (.int .u8 (cl.toNat : Nat)))), (5, (.fix (.string s))), (6, (.own (w.heap.size + 1) 5 1 E.length (byts E)))]) (by as_aux_lemma => kernel_rfl) (by as_aux_lemma => kernel_rfl) (by as_aux_lemma => kernel_rfl) ?_
          simp only [List.take_succ_cons, List.take_zero]
          repeat (refine wpGrow_pure rfl (fun K hK => ?_); go_simp; refine hK.out _ ?_; clear hK K)
          refine wpGrow_eff _ rfl (fun wx he hcl => ?_) (fun _ K hK => ?_) rfl
          · clear hcl
            exact growAt_load_row rfl rfl (HW1.out.below he HW1.out.lt) Try.underlying31 rfl (rrec_size _)
          go_simp
          refine hK.out _ ?_
          clear hK K
          repeat (refine wpGrow_pure rfl (fun K hK => ?_); go_simp; refine hK.out _ ?_; clear hK K)
          refine wpGrow_eff _ rfl (fun wx he hcl => ?_) (fun _ K hK => ?_) rfl
          · clear hcl
            exact growAt_index rfl rfl rfl Try.underlying9 HCJ.out
          go_simp
          refine hK.out _ ?_
          clear hK K
          repeat (refine wpGrow_pure rfl (fun K hK => ?_); go_simp; refine hK.out _ ?_; clear hK K)
          refine wpGrow_eff _ rfl (fun wx he hcl => ?_) (fun _ K hK => ?_) rfl
          · clear hcl
            have hcon := (show Calls Try.prog 27 #[.agg r.cells, .int .u8 (cl.toNat : Nat)] wx (fun en w' => en = .returned (.string s) ∧ Below wx.heap.size wx w') from by have := textOf_any wx r cl.toNat; rwa [HS.out] at this)
            go_simp
            try exact hcon
          go_simp
          refine hK.out _ ?_
          clear hK K
          repeat (refine wpGrow_pure rfl (fun K hK => ?_); go_simp; refine hK.out _ ?_; clear hK K)
          refine wpGrow_eff _ rfl (fun wx he hcl => ?_) (fun ⟨D1, c1⟩ K hK => ?_) rfl
          · clear hcl
            have hsz := Nat.le_trans HBS.out he.size
            have hcon := refText_any wx s HSS.out
            rw [HE.out] at hcon
            go_simp
            exact hcon.mono fun e w3 ⟨D, c, he1, ho, hb⟩ => ⟨D, c, he1, own_base ho hsz, hb⟩
          go_simp
          refine hK.out _ ?_
          clear hK K
          repeat (refine wpGrow_pure rfl (fun K hK => ?_); go_simp; refine hK.out _ ?_; clear hK K)
          refine wpGrow_nil fun wx he hfin => ?_
          have hout : wx.ownsRow (w.heap.size + 1) 5 1 (.slice D1 E.length c1) E.length (byts E) := hfin.out 6
          clear hfin
          have HO1 := Lib.hid hout
          have HE9 := Lib.hid he
          have HW8 := Lib.hid (HW1.out.below he HW1.out.lt)
          have HB9 := Lib.hid (HBB.out.trans (he.mono HBB.out.size))
          clear hout he
          simp only [List.drop_succ_cons, List.drop_zero]
          go_wp2_with (at_builtin; refine wpList_append_rd _ rfl (.tmp 31) (.tmp 37) _ rfl bytesV (w.heap.size + 1) _ L _ rfl (own_ext HOW.out HE9.out) wx.heap.size D1 E.length c1 _ rfl (Rd.of_own HO1.out) (byts_one _) (by have := HEL.out; have := HLL.out; unfold maxLen; omega) (by have := HEL.out; have := HLL.out; omega) (Nat.le_trans HBS.out HE9.out.size) ?_; intro D2 c2 w2' ho2 hb2 _ _)
          have HO2 := Lib.hid ho2
          have HW9 := Lib.hid (HW8.out.below hb2 (show w.heap.size < w.heap.size + 1 by omega))
          have HBX := Lib.hid (HB9.out.trans (hb2.mono (Nat.le_succ _)))
          have HBY := Lib.hid (Nat.le_trans HBS.out (Nat.le_trans HE9.out.size hb2.size))
          clear ho2 hb2
          go_wp2_with fail
          go_roundw
          case rel => exact ⟨j + 1, L + E.length, D2, c2, by omega, by first | rfl | go_num, rfl, HW9, Lib.hid ⟨by rw [HTK.out, Rc.enc_snoc, List.length_append, HLE.out, HES.out], by rw [HTK.out, Rc.enc_snoc, byts_append, HES.out]; exact HO2.out⟩, HBX, HBY⟩
          case measure => simp [intOf] <;> omega
        · rw [decide_eq_false h6] at hct
          have hs0 : r.num cl.toNat = r.at_ (p + 4) := by rw [← HC.out]; exact Rc.lett_num r (by omega)
          have hes : r.encStep (p + 4) = Var.put (r.at_ (p + 4)) := by unfold Rc.encStep; rw [if_pos (by omega)]
          have hel := (Var.put_length (r.at_ (p + 4))).2
          have hv64 := Rc.ok_at HOK.out (p + 4)
          obtain ⟨v, hv⟩ : ∃ v, r.at_ (p + 4) = v := ⟨_, rfl⟩
          rw [hv] at hs0 hes hel hv64
          obtain ⟨E, hE⟩ : ∃ E, Var.put v = E := ⟨_, rfl⟩
          rw [hE] at hes hel
          have HS := Lib.hid hs0
          have HSS := Lib.hid hv64
          have HES := Lib.hid hes
          have HEL := Lib.hid (show E.length ≤ 110 by omega)
          have HE := Lib.hid hE
          clear h6 hs0 hes hel hv hE hv64
          refine hct.mono ?_
          clear hct
          rintro en w4 ⟨rfl, hb4⟩
          replace HBB := Lib.hid (HBB.out.trans (hb4.mono HBB.out.size))
          replace HBS := Lib.hid (Nat.le_trans HBS.out hb4.size)
          replace HW1 := Lib.hid (HW1.out.below hb4 HW1.out.lt)
          replace HOW := Lib.hid (own_ext HOW.out hb4)
          clear hb4
          go_wp2_with fail
          refine wp_region_tail 7 (fun k' => List.lookup k' [(1, (.fix (.agg r.cells))), (4, (.fix (.int .u8 (cl.toNat : Nat)))), (5, (.fix (.int .u64 (v : Nat)))), (6, (.own (w.heap.size + 1) 5 1 E.length (byts E)))]) (by as_aux_lemma => kernel_rfl) (by as_aux_lemma => kernel_rfl) (by as_aux_lemma => kernel_rfl) ?_
          simp only [List.take_succ_cons, List.take_zero]
          repeat (refine wpGrow_pure rfl (fun K hK => ?_); go_simp; refine hK.out _ ?_; clear hK K)
          refine wpGrow_eff _ rfl (fun wx he hcl => ?_) (fun _ K hK => ?_) rfl
          · clear hcl
            exact growAt_load_row rfl rfl (HW1.out.below he HW1.out.lt) Try.underlying31 rfl (rrec_size _)
          go_simp
          refine hK.out _ ?_
          clear hK K
          repeat (refine wpGrow_pure rfl (fun K hK => ?_); go_simp; refine hK.out _ ?_; clear hK K)
          refine wpGrow_eff _ rfl (fun wx he hcl => ?_) (fun _ K hK => ?_) rfl
          · clear hcl
            exact growAt_index rfl rfl rfl Try.underlying9 HCJ.out
          go_simp
          refine hK.out _ ?_
          clear hK K
          repeat (refine wpGrow_pure rfl (fun K hK => ?_); go_simp; refine hK.out _ ?_; clear hK K)
          refine wpGrow_eff _ rfl (fun wx he hcl => ?_) (fun _ K hK => ?_) rfl
          · clear hcl
            have hcon := (show Calls Try.prog 29 #[.agg r.cells, .int .u8 (cl.toNat : Nat)] wx (fun en w' => en = .returned (.int .u64 (v : Nat)) ∧ Below wx.heap.size wx w') from by have := number_any wx r cl.toNat; rwa [HS.out] at this)
            go_simp
            try exact hcon
          go_simp
          refine hK.out _ ?_
          clear hK K
          repeat (refine wpGrow_pure rfl (fun K hK => ?_); go_simp; refine hK.out _ ?_; clear hK K)
          refine wpGrow_eff _ rfl (fun wx he hcl => ?_) (fun ⟨D1, c1⟩ K hK => ?_) rfl
          · clear hcl
            have hsz := Nat.le_trans HBS.out he.size
            have hcon := refPut_any wx v HSS.out
            rw [HE.out] at hcon
            go_simp
            exact hcon.mono fun e w3 ⟨D, c, he1, ho, hb⟩ => ⟨D, c, he1, own_base ho hsz, hb⟩
          go_simp
          refine hK.out _ ?_
          clear hK K
          repeat (refine wpGrow_pure rfl (fun K hK => ?_); go_simp; refine hK.out _ ?_; clear hK K)
          refine wpGrow_nil fun wx he hfin => ?_
          have hout : wx.ownsRow (w.heap.size + 1) 5 1 (.slice D1 E.length c1) E.length (byts E) := hfin.out 6
          clear hfin
          have HO1 := Lib.hid hout
          have HE9 := Lib.hid he
          have HW8 := Lib.hid (HW1.out.below he HW1.out.lt)
          have HB9 := Lib.hid (HBB.out.trans (he.mono HBB.out.size))
          clear hout he
          simp only [List.drop_succ_cons, List.drop_zero]
          go_wp2_with (at_builtin; refine wpList_append_rd _ rfl (.tmp 39) (.tmp 45) _ rfl bytesV (w.heap.size + 1) _ L _ rfl (own_ext HOW.out HE9.out) wx.heap.size D1 E.length c1 _ rfl (Rd.of_own HO1.out) (byts_one _) (by have := HEL.out; have := HLL.out; unfold maxLen; omega) (by have := HEL.out; have := HLL.out; omega) (Nat.le_trans HBS.out HE9.out.size) ?_; intro D2 c2 w2' ho2 hb2 _ _)
          have HO2 := Lib.hid ho2
          have HW9 := Lib.hid (HW8.out.below hb2 (show w.heap.size < w.heap.size + 1 by omega))
          have HBX := Lib.hid (HB9.out.trans (hb2.mono (Nat.le_succ _)))
          have HBY := Lib.hid (Nat.le_trans HBS.out (Nat.le_trans HE9.out.size hb2.size))
          clear ho2 hb2
          go_wp2_with fail
          go_roundw
          case rel => exact ⟨j + 1, L + E.length, D2, c2, by omega, by first | rfl | go_num, rfl, HW9, Lib.hid ⟨by rw [HTK.out, Rc.enc_snoc, List.length_append, HLE.out, HES.out], by rw [HTK.out, Rc.enc_snoc, byts_append, HES.out]; exact HO2.out⟩, HBX, HBY⟩
          case measure => simp [intOf] <;> omega
      · obtain rfl : j = ls.length := by omega
        have hd : decide ((ls.length : Int) < (ls.length : Int)) = false := by simp
        have he : r.enc (Rc.pre r.k ls.length) = r.body := by rw [HLN0.out, Rc.pre_all]; rfl
        rw [he] at HLE HOW
        have p0 : wr.cell? ⟨w.heap.size, 0, none⟩ = some (.int .u8 (r.k : Nat)) := HW1.out.cell 0
        obtain ⟨bl, hbl⟩ : ∃ l, r.body = l := ⟨_, rfl⟩
        rw [hbl] at HLE HOW HBL HPB
        have HU8 := Lib.hid (show (UInt8.ofNat r.k).toNat = r.k by rw [UInt8.toNat_ofNat']; exact Nat.mod_eq_of_lt HOK.out.1)
        have hfp := rput_any wr (UInt8.ofNat r.k) D L c bl wr.heap.size (Nat.le_refl _) (Rd.of_own HOW.out) (by have := HLE.out; have := HBL.out; omega)
        rw [HU8.out, show Fra.putB (UInt8.ofNat r.k) bl = Fra.bytes (UInt8.ofNat r.k) bl by unfold Fra.putB; rw [if_neg (by have := HBL.out; omega)], show Fra.putE bl = 0 by unfold Fra.putE; rw [if_neg (by have := HBL.out; omega)]] at hfp
        have HFP := Lib.hid hfp
        clear hfp he hbl hj hlt
        go_wp2_with fail
        refine HFP.out.mono ?_
        clear HFP
        rintro en w5 ⟨D5, c5, rfl, ho5, hb5⟩
        have HO5 := Lib.hid (own_base (base := w.heap.size) ho5 HBB.out.size)
        have HB5 := Lib.hid (HBB.out.trans (hb5.mono HBB.out.size))
        clear ho5 hb5
        go_wp2_with fail
        go_ret2
        unfold PutP
        rw [HPB.out, HPE.out]
        exact ⟨D5, c5, rfl, HO5.out, HB5.out⟩
end Go.Proofs.Ytmobgamlednlhaa
