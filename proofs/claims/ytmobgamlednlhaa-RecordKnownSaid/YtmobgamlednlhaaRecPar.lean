/-
  Records: Parse, RefParse in one text.
-/
import Derived.Test.YtmobgamlednlhaaRecRgt
import Derived.Laws.CopyRow
import Derived.Test.YtmobgamlednlhaaVarTakes
namespace Go.Proofs.Ytmobgamlednlhaa
open Go.RowKit
namespace Rc
/-- What is parsed of a frame. -/
def parseF (k : Nat) (bd : List UInt8) (e : Nat) : Rc × Nat :=
  if e ≠ 0 then (zero 0, e) else if ¬ (1 ≤ k ∧ k ≤ 11) then (zero 0, 60)
  else if (readAll bd (zero k) (places k)).2.2 ≠ 0 then (zero 0, (readAll bd (zero k) (places k)).2.2)
  else if (readAll bd (zero k) (places k)).2.1 < (bd.length : Int) then (zero 0, 11)
  else if (readAll bd (zero k) (places k)).1.right = true then ((readAll bd (zero k) (places k)).1, 0) else (zero 0, 2)
def parse (b : List UInt8) : Rc × Nat := parseF (Fra.one b).1.toNat (Fra.one b).2.1 (Fra.one b).2.2
end Rc
theorem Fra.one_len (b : List UInt8) : (Fra.one b).2.1.length ≤ b.length := by
  unfold Fra.one
  split
  · exact Nat.zero_le _
  · split
    · exact Nat.zero_le _
    · rcases Fra.way b 0 with ⟨h0, e⟩ | ⟨q, hp, hq, x, hx, hv, e⟩ | ⟨q, v, s, hp, hq, hv, hs, hs2, hbig, h64, e⟩ | ⟨q, v, s, hp, hq, hv, hs, hs2, hbig, hlen, e⟩ | ⟨q, v, s, hp, hq, hv, hs, hs2, hbig, hlen, hsum, e⟩ | ⟨q, v, s, hp, hq, hv, hs, hs2, hbig, hlen, hsum, e⟩ <;> (rw [e]; simp only [List.length_nil, List.length_drop, List.length_take]; omega)
theorem Fix.whole {T gr gt g : Nat} {a b : World} {t : TypeId} {cs : Array Value} (h : Fix T gr gt a b) (hw : Whole a g t cs) (h0 : g < T) (h1 : g ≠ gr) (h2 : g ≠ gt) : Whole b g t cs := (h.block g h0 h1 h2).trans hw
/-- A store of what stands there. -/
theorem growAt_store_same {P : Program} {w : World} {o : Oper} {a : Act} {ty : TypeId} {x y : Operand} (ho : o.op = .store ty x y) {g : Nat} (hx : a.eval x = .pointer (some ⟨g, 0, none⟩)) {cs : Array Value} (hy : a.eval y = .agg cs) {t : TypeId} (hg : Whole w g t cs) (hi : (P.info? ty).map (·.size) = some cs.size) (h1 : cs.all (·.oneCell') = true) :
    Oper.growAt P o a (.fix undef) w := by
  unfold Oper.growAt Oper.growUpon execOp
  simp only [ho, hx, hy, Instr.storeAt, Instr.sureAddr, Sem.run_bind, Sem.run_pure, Result.andThen_ok, run_storeVar_row w g t ty cs cs hg hi rfl h1, setRow_self w g cs t _ hg]
  exact ⟨(), rfl, trivial, Below.refl _ _⟩
attribute [local go_sem] Instr.makeFunc Oper.growAt Oper.growUpon GSpec.fix GSpec.row GSpec.wh GSpec.own GSpec.box GSpec.kmap GSpec.lk GSpec.lk1 GSpec.put match_undef
attribute [local irreducible] wpList
set_option maxRecDepth 100000 in
set_option maxHeartbeats 16000000 in
theorem parse_any (w : World) (A : Option Addr) (n cap : Nat) (b : List UInt8) (B : Nat) (hB : B ≤ w.heap.size) (h : Rd w B 1 A n (byts b)) (hc : n ≤ cap) (hm : cap ≤ maxLen) (hn : n ≤ 100000000) :
    Calls Try.prog 18 #[.slice A n cap] w fun en w' => en = .returned (.tuple #[(Rc.parse b).1.val, .int .i64 ((Rc.parse b).2 : Nat)]) ∧ Below w.heap.size w w' := by
  have W1 := Lib.hid (Whole.new w 24 #[.int .u8 0, .int .u64 0, .int .u64 0, .int .u64 0, .int .u64 0, .int .u64 0, .int .u64 0, .int .u64 0, .int .u64 0, .int .u64 0, .string ⟨#[]⟩, .string ⟨#[]⟩])
  have B1 := Lib.hid (belowK w (.cells #[.int .u8 0, .int .u64 0, .int .u64 0, .int .u64 0, .int .u64 0, .int .u64 0, .int .u64 0, .int .u64 0, .int .u64 0, .int .u64 0, .string ⟨#[]⟩, .string ⟨#[]⟩] 24))
  have hone := fone_any (w.alloc (.cells #[.int .u8 0, .int .u64 0, .int .u64 0, .int .u64 0, .int .u64 0, .int .u64 0, .int .u64 0, .int .u64 0, .int .u64 0, .int .u64 0, .string ⟨#[]⟩, .string ⟨#[]⟩] 24)) A n cap b B (Nat.le_trans hB B1.out.size) (h.alloc hB _) hc hm hn
  have hpa : Rc.parse b = Rc.parseF (Fra.one b).1.toNat (Fra.one b).2.1 (Fra.one b).2.2 := rfl
  have hk256 := (Fra.one b).1.toNat_lt
  have hbl : (Fra.one b).2.1.length ≤ 100000000 := Nat.le_trans (Fra.one_len b) (by rw [h.blen]; exact hn)
  unfold FrOne at hone
  obtain ⟨kk, hkk⟩ : ∃ k, (Fra.one b).1.toNat = k := ⟨_, rfl⟩
  obtain ⟨bd, hbd⟩ : ∃ k, (Fra.one b).2.1 = k := ⟨_, rfl⟩
  obtain ⟨ee, hee⟩ : ∃ k, (Fra.one b).2.2 = k := ⟨_, rfl⟩
  rw [hkk, hbd, hee] at hone hpa
  rw [hkk] at hk256
  rw [hbd] at hbl
  have HONE := Lib.hid hone
  have HPA := Lib.hid hpa
  have HK256 := Lib.hid hk256
  have HBL := Lib.hid hbl
  clear h hB hc hm hn hone hpa hk256 hbl hkk hbd hee
  go_enter Try.func18, Try.ntmps18
  go_wp2_with fail
  refine HONE.out.mono ?_
  clear HONE
  rintro en w1 ⟨D, c, rfl, ho, hb⟩
  obtain ⟨L, hL⟩ : ∃ L, bd.length = L := ⟨_, rfl⟩
  rw [hL] at ho ⊢
  have HL := Lib.hid hL
  have HLC := Lib.hid (own_cap ho)
  have hs1 : (w.alloc (.cells #[.int .u8 0, .int .u64 0, .int .u64 0, .int .u64 0, .int .u64 0, .int .u64 0, .int .u64 0, .int .u64 0, .int .u64 0, .int .u64 0, .string ⟨#[]⟩, .string ⟨#[]⟩] 24)).heap.size = w.heap.size + 1 := by simp
  rw [hs1] at ho
  have hrd := Rd.of_own ho
  have HOB := Lib.hid (fun bb (hh : D = some ⟨bb, 0, none⟩) => (own_lt ho bb hh).1)
  have hr := (W1.out.below hb W1.out.lt).alloc (.cells #[.int .u8 (kk : Nat), .slice D L c] 64)
  have hf := Whole.new w1 64 #[.int .u8 (kk : Nat), .slice D L c]
  have hb2 := B1.out.trans (hb.mono B1.out.size)
  have hb3 := hb2.alloc hb2.size (.cells #[.int .u8 (kk : Nat), .slice D L c] 64)
  have hrd2 := hrd.alloc (Nat.le_refl _) (.cells #[.int .u8 (kk : Nat), .slice D L c] 64)
  have HGL := Lib.hid (W1.out.below hb W1.out.lt).lt
  clear hL hs1 ho hrd hb hb2
  by_cases he0 : ee = 0
  · have hz : ((ee : Nat) : Int) = 0 := by omega
    rw [hz]
    clear hz
    have e0 : ((0 : Int) == 0) = true := rfl
    have HE0 := Lib.hid he0
    clear he0
    go_wp2_with fail
    obtain ⟨gf, hgf⟩ : ∃ g, w1.heap.size = g := ⟨_, rfl⟩
    rw [hgf] at hf hrd2 HGL ⊢
    generalize w1.alloc (.cells #[.int .u8 (kk : Nat), .slice D L c] 64) = wa at hr hf hb3 hrd2 ⊢
    have HW1 := Lib.hid hr
    have HGF := Lib.hid hf
    have HBB := Lib.hid hb3
    have HRD := Lib.hid hrd2
    clear hr hf hb3 hrd2 hgf W1 B1
    by_cases hk : 1 ≤ kk ∧ kk ≤ 11
    · have HK := Lib.hid hk
      clear hk
      go_wp2_with fail
      refine wp_region_grow (fun k' => List.lookup k' [(0, (.kmap wa.heap.size)), (2, (.fix (.int .u8 (kk : Nat)))), (3, (.lk wa.heap.size (Rc.pl kk)))]) (by as_aux_lemma => kernel_rfl) (by as_aux_lemma => kernel_rfl) ?_
      repeat (refine wpGrow_pure rfl (fun K hK => ?_); go_simp; refine hK.out _ ?_; clear hK K)
      refine wpGrow_eff _ rfl (fun wx he hcl => ?_) (fun gm K hK => ?_) rfl
      · clear hcl
        have hsz := he.size
        have hcon := kinds_any wx
        go_simp
        exact hcon.mono fun e w2 ⟨g, he1, h1, h2⟩ => ⟨g, he1, h1.base hsz, h2⟩
      go_simp
      refine hK.out _ ?_
      clear hK K
      repeat (refine wpGrow_pure rfl (fun K hK => ?_); go_simp; refine hK.out _ ?_; clear hK K)
      refine wpGrow_eff _ rfl (fun wx he hcl => ?_) (fun _ K hK => ?_) rfl
      · clear hcl
        have hq := (he.cell (p := ⟨gf, 0, none⟩) HGF.out.lt).trans (show wa.cell? ⟨gf, 0, none⟩ = some (.int .u8 (kk : Nat)) from HGF.out.cell 0)
        go_simp
        exact Below.refl _ _
      go_simp
      refine hK.out _ ?_
      clear hK K
      repeat (refine wpGrow_pure rfl (fun K hK => ?_); go_simp; refine hK.out _ ?_; clear hK K)
      refine wpGrow_eff _ rfl (fun wx he hcl => ?_) (fun (bk : Nat) K hK => ?_) rfl
      · have hkm : KMap wx wa.heap.size gm Rec.kinds := hcl.out 0 (by kernel_rfl)
        obtain ⟨b, h1, h2, h3, _⟩ := kmap_found hkm HK.out.1 HK.out.2
        exact growAt_lookup rfl rfl rfl h3 ⟨b, rfl, h1, h2⟩
      go_simp
      refine hK.out _ ?_
      clear hK K
      repeat (refine wpGrow_pure rfl (fun K hK => ?_); go_simp; refine hK.out _ ?_; clear hK K)
      refine wpGrow_nil fun wb he hfin => ?_
      have hpr : wa.heap.size ≤ bk ∧ Whole wb bk 94 (smalls (Rc.pl kk)).toArray := hfin.out 3
      clear hfin
      have HPR := Lib.hid hpr
      have HWR := Lib.hid (HW1.out.below he HW1.out.lt)
      have HGB := Lib.hid (HGF.out.below he HGF.out.lt)
      have HRB := Lib.hid (HRD.out.below (he.mono (Nat.le_of_lt HGF.out.lt)))
      have HBB2 := Lib.hid (HBB.out.trans (he.mono HBB.out.size))
      have HSA := Lib.hid he.size
      have HGA := Lib.hid HGF.out.lt
      clear hpr he HW1 HGF HRD HBB
      go_wp2_with fail
      refine wp_region_tail 9 (fun k' => List.lookup k' [(1, (.fix (.slice D L c))), (3, (.box wb.heap.size 76 #[.slice D L c, .int .i64 0, .int .i64 0])), (5, (.fix (.int .u8 (kk : Nat)))), (7, (.box wb.heap.size 24 #[.int .u8 0, .int .u64 0, .int .u64 0, .int .u64 0, .int .u64 0, .int .u64 0, .int .u64 0, .int .u64 0, .int .u64 0, .int .u64 0, .string ⟨#[]⟩, .string ⟨#[]⟩]))]) (by as_aux_lemma => kernel_rfl) (by as_aux_lemma => kernel_rfl) (by as_aux_lemma => kernel_rfl) ?_
      simp only [List.take_succ_cons, List.take_zero]
      repeat (refine wpGrow_pure rfl (fun K hK => ?_); go_simp; refine hK.out _ ?_; clear hK K)
      refine wpGrow_eff _ rfl (fun wx he hcl => ?_) (fun _ K hK => ?_) rfl
      · clear hcl
        have hq := (he.cell (p := ⟨gf, 1, none⟩) HGB.out.lt).trans (show wb.cell? ⟨gf, 1, none⟩ = some (.slice D L c) from HGB.out.cell 1)
        go_simp
        exact Below.refl _ _
      go_simp
      refine hK.out _ ?_
      clear hK K
      repeat (refine wpGrow_pure rfl (fun K hK => ?_); go_simp; refine hK.out _ ?_; clear hK K)
      refine wpGrow_eff _ rfl (fun wx he hcl => ?_) (fun (g8 : Nat) K hK => ?_) rfl
      · clear hcl
        have hez := he.size
        go_simp
        exact ⟨Whole.new _ _ _, (Below.refl _ _).alloc (Nat.le_refl _) _⟩
      go_simp
      refine hK.out _ ?_
      clear hK K
      repeat (refine wpGrow_pure rfl (fun K hK => ?_); go_simp; refine hK.out _ ?_; clear hK K)
      refine wpGrow_eff _ rfl (fun wx he hcl => ?_) (fun _ K hK => ?_) rfl
      · clear hcl
        have hq := (he.cell (p := ⟨gf, 0, none⟩) HGB.out.lt).trans (show wb.cell? ⟨gf, 0, none⟩ = some (.int .u8 (kk : Nat)) from HGB.out.cell 0)
        go_simp
        exact Below.refl _ _
      go_simp
      refine hK.out _ ?_
      clear hK K
      repeat (refine wpGrow_pure rfl (fun K hK => ?_); go_simp; refine hK.out _ ?_; clear hK K)
      refine wpGrow_eff _ rfl (fun wx he hcl => ?_) (fun (g9 : Nat) K hK => ?_) rfl
      · clear hcl
        have hez := he.size
        go_simp
        exact ⟨Whole.new _ _ _, (Below.refl _ _).alloc (Nat.le_refl _) _⟩
      go_simp
      refine hK.out _ ?_
      clear hK K
      repeat (refine wpGrow_pure rfl (fun K hK => ?_); go_simp; refine hK.out _ ?_; clear hK K)
      refine wpGrow_nil fun wc he hfin => ?_
      have h8 : wb.heap.size ≤ g8 ∧ Whole wc g8 76 #[.slice D L c, .int .i64 0, .int .i64 0] := hfin.out 3
      have h9 : wb.heap.size ≤ g9 ∧ Whole wc g9 24 #[.int .u8 0, .int .u64 0, .int .u64 0, .int .u64 0, .int .u64 0, .int .u64 0, .int .u64 0, .int .u64 0, .int .u64 0, .int .u64 0, .string ⟨#[]⟩, .string ⟨#[]⟩] := hfin.out 7
      clear hfin
      simp only [List.drop_succ_cons, List.drop_zero]
      have hne : g8 ≠ g9 := fun e => by
        have h1 := h8.2
        have h2 := h9.2
        rw [e] at h1
        have h3 := h1.symm.trans h2
        injection h3 with h3
        injection h3 with _ h4
        exact absurd h4 (by decide)
      have HWR3 := Lib.hid (HWR.out.below he HWR.out.lt)
      have HGB3 := Lib.hid (HGB.out.below he HGB.out.lt)
      have HRB3 := Lib.hid (HRB.out.below (he.mono (Nat.le_trans (Nat.le_of_lt HGA.out) HSA.out)))
      have HPR3 := Lib.hid (HPR.out.2.below he HPR.out.2.lt)
      have HBB3 := Lib.hid (HBB2.out.trans (he.mono HBB2.out.size))
      have H8 := Lib.hid h8
      have H9 := Lib.hid h9
      have HNE := Lib.hid hne
      have HSC := Lib.hid he.size
      clear h8 h9 hne he
      go_wp2_with (refine wpList_store_row rfl 24 (.tmp 9) (.tmp 35) rfl g9 (Rc.zero kk).cells rfl rfl 24 _ H9.out.2 (rec_size _) rfl (rec_cells _) ?_)
      have OR := Lib.hid (show w.heap.size < gf ∧ gf < bk ∧ bk < g8 ∧ bk < g9 from by
        have h1 := HGL.out
        have h2 := HGA.out
        have h3 := HPR.out.1
        have h4 := HPR.out.2.lt
        have h5 := H8.out.1
        have h6 := H9.out.1
        omega)
      have k9 := H9.out.2.row (Rc.zero kk).cells
      have k8 := H8.out.2.row_far (k := g9) HNE.out (Rc.zero kk).cells
      have kr := HWR3.out.row_far (k := g9) (by have := OR.out; omega) (Rc.zero kk).cells
      have kf := HGB3.out.row_far (k := g9) (by have := OR.out; omega) (Rc.zero kk).cells
      have kp := HPR3.out.row_far (k := g9) (by have := OR.out; omega) (Rc.zero kk).cells
      have kb := HRB3.out.below (Below.setRow (Below.refl gf wc) (g := g9) (by have := OR.out; omega) (Rc.zero kk).cells)
      have kB := Below.setRow HBB3.out (g := g9) (by have := OR.out; omega) (Rc.zero kk).cells
      generalize World.setRow wc g9 (Rc.zero kk).cells = wv at k9 k8 kr kf kp kb kB ⊢
      have KR := Lib.hid kr
      have KF := Lib.hid kf
      have KB := Lib.hid kB
      have HZO := Lib.hid (Rc.zero_ok (k := kk) (by have := HK256.out; omega))
      have HV := Lib.hid (visit_reader wv g9 g8 24 76 (Rc.zero kk) HZO.out D L c bd gf (Nat.le_of_lt kf.lt) kb HLC.out.1 (by have := HBL.out; have := HL.out; omega) k9 k8 (Ne.symm HNE.out) (fun h0 bb o h => by
        obtain ⟨b2, o2, e, h1, _⟩ := kb.2 h0
        rw [e] at h
        injection h with h
        injection h with h _ _
        have := OR.out
        constructor <;> omega) (some ⟨bk, 0, none⟩) (Rc.pl kk).length (Rc.pl kk).length (Rc.pl kk) (Rc.pl_lt _) (parts_rd kp kp.lt) (fun _ bb o h => by
        cases h
        have := OR.out
        constructor <;> omega) (by have := Rc.pl_len kk; omega))
      clear k9 k8 kr kf kp kb kB HWR3 HGB3 HRB3 HPR3 HBB3 H8 H9 HSC HPR HWR HGB HRB HBB2 HSA HGA HNE
      go_wp2_with fail
      refine HV.out.mono ?_
      clear HV
      rintro en w2 ⟨rfl, v9, v8, _, vf⟩
      obtain ⟨X, hX⟩ : ∃ X, Rc.readAll bd (Rc.zero kk) (Rc.places kk) = X := ⟨_, rfl⟩
      have hri := Rc.readI (b := bd) HBL.out HZO.out (Rc.places kk)
      have hp2 : Rc.parse b = if X.2.2 ≠ 0 then (Rc.zero 0, X.2.2) else if X.2.1 < (bd.length : Int) then (Rc.zero 0, 11) else if X.1.right = true then (X.1, 0) else (Rc.zero 0, 2) := by
        rw [HPA.out]
        unfold Rc.parseF
        rw [if_neg (by rw [HE0.out]; simp), if_neg (by simpa using HK.out), hX]
      rw [hX] at hri
      have v9' : Whole w2 g9 24 (Rc.readAll bd (Rc.zero kk) (Rc.places kk)).1.cells := v9
      have v8' : Whole w2 g8 76 #[.slice D L c, .int .i64 (Rc.readAll bd (Rc.zero kk) (Rc.places kk)).2.1, .int .i64 ((Rc.readAll bd (Rc.zero kk) (Rc.places kk)).2.2 : Nat)] := v8
      rw [hX] at v9' v8'
      clear v9 v8 hX
      obtain ⟨x, pp, e2⟩ := X
      obtain ⟨hxo, hp0, hpl, _⟩ := hri
      simp only at hp2 v9' v8' hxo hp0 hpl
      rw [HL.out] at hp2 hpl
      have HXO := Lib.hid hxo
      have HP2 := Lib.hid hp2
      have HPP := Lib.hid (show 0 ≤ pp ∧ pp ≤ (L : Int) from ⟨hp0, hpl⟩)
      have V9 := Lib.hid v9'
      have V8 := Lib.hid v8'
      have VF := Lib.hid (vf.whole KF.out KF.out.lt (by have := OR.out; omega) (by have := OR.out; omega))
      have VR := Lib.hid (vf.whole KR.out KR.out.lt (by have := OR.out; omega) (by have := OR.out; omega))
      have VB := Lib.hid (KB.out.trans (vf.below (H := w.heap.size) (Nat.le_of_lt KR.out.lt) (by have := OR.out; omega) (by have := OR.out; omega)))
      clear v9' v8' hxo hp0 hpl hp2 vf KR KF KB
      have q82 : w2.cell? ⟨g8, 2, none⟩ = some (.int .i64 (e2 : Nat)) := V8.out.cell 2
      by_cases he2 : e2 = 0
      · have HP3 := Lib.hid (show Rc.parse b = if pp < (L : Int) then (Rc.zero 0, 11) else if x.right = true then (x, 0) else (Rc.zero 0, 2) by rw [HP2.out, if_neg (by simpa using he2)])
        have hz2 : ((e2 : Nat) : Int) = 0 := by omega
        rw [hz2] at q82
        clear hz2 he2 HP2
        by_cases hlt : pp < (L : Int)
        · have hd : decide (pp < (L : Int)) = true := by simpa using hlt
          have HP := Lib.hid (show Rc.parse b = (Rc.zero 0, 11) by rw [HP3.out, if_pos hlt])
          clear hlt HP3
          go_wp2_with fail
          refine wp_region_grow (fun k' => List.lookup k' [(3, (.fix (.int .i64 pp))), (5, (.fix (.slice D L c)))]) (by as_aux_lemma => kernel_rfl) (by as_aux_lemma => kernel_rfl) ?_
          repeat (refine wpGrow_pure rfl (fun K hK => ?_); go_simp; refine hK.out _ ?_; clear hK K)
          refine wpGrow_eff _ rfl (fun wx he hcl => ?_) (fun _ K hK => ?_) rfl
          · clear hcl
            have hq := (he.cell (p := ⟨g8, 1, none⟩) V8.out.lt).trans (show w2.cell? ⟨g8, 1, none⟩ = some (.int .i64 pp) from V8.out.cell 1)
            go_simp
            exact Below.refl _ _
          go_simp
          refine hK.out _ ?_
          clear hK K
          repeat (refine wpGrow_pure rfl (fun K hK => ?_); go_simp; refine hK.out _ ?_; clear hK K)
          refine wpGrow_eff _ rfl (fun wx he hcl => ?_) (fun _ K hK => ?_) rfl
          · clear hcl
            have hq := (he.cell (p := ⟨gf, 1, none⟩) VF.out.lt).trans (show w2.cell? ⟨gf, 1, none⟩ = some (.slice D L c) from VF.out.cell 1)
            go_simp
            exact Below.refl _ _
          go_simp
          refine hK.out _ ?_
          clear hK K
          repeat (refine wpGrow_pure rfl (fun K hK => ?_); go_simp; refine hK.out _ ?_; clear hK K)
          refine wpGrow_nil fun wd he hfin => ?_
          clear hfin
          replace VR := Lib.hid (VR.out.below he VR.out.lt)
          replace V9 := Lib.hid (V9.out.below he V9.out.lt)
          replace VB := Lib.hid (VB.out.trans (he.mono VB.out.size))
          clear he
          go_wp2_with (refine wpList_store_row rfl 24 (.tmp 2) (.tmp 60) rfl w.heap.size (Rc.zero 0).cells rfl rfl 24 _ VR.out (rec_size _) rfl (rec_cells _) ?_)
          have k9 := VR.out.row (Rc.zero 0).cells
          have b9 := Below.setRow VB.out (g := w.heap.size) (Nat.le_refl _) (Rc.zero 0).cells
          generalize World.setRow wd w.heap.size (Rc.zero 0).cells = W9 at k9 b9 ⊢
          have r0 : W9.cell? ⟨w.heap.size, 0, none⟩ = some (.int .u8 ((Rc.zero 0).k : Nat)) := k9.cell 0
          have r1 : W9.cell? ⟨w.heap.size, 1, none⟩ = some (.int .u64 ((Rc.zero 0).proc : Nat)) := k9.cell 1
          have r2 : W9.cell? ⟨w.heap.size, 2, none⟩ = some (.int .u64 ((Rc.zero 0).inc : Nat)) := k9.cell 2
          have r3 : W9.cell? ⟨w.heap.size, 3, none⟩ = some (.int .u64 ((Rc.zero 0).seq : Nat)) := k9.cell 3
          have r4 : W9.cell? ⟨w.heap.size, 4, none⟩ = some (.int .u64 ((Rc.zero 0).epoch : Nat)) := k9.cell 4
          have r5 : W9.cell? ⟨w.heap.size, 5, none⟩ = some (.int .u64 ((Rc.zero 0).until_ : Nat)) := k9.cell 5
          have r6 : W9.cell? ⟨w.heap.size, 6, none⟩ = some (.int .u64 ((Rc.zero 0).version : Nat)) := k9.cell 6
          have r7 : W9.cell? ⟨w.heap.size, 7, none⟩ = some (.int .u64 ((Rc.zero 0).clock : Nat)) := k9.cell 7
          have r8 : W9.cell? ⟨w.heap.size, 8, none⟩ = some (.int .u64 ((Rc.zero 0).size : Nat)) := k9.cell 8
          have r9 : W9.cell? ⟨w.heap.size, 9, none⟩ = some (.int .u64 ((Rc.zero 0).crc : Nat)) := k9.cell 9
          have r10 : W9.cell? ⟨w.heap.size, 10, none⟩ = some (.string (Rc.zero 0).name) := k9.cell 10
          have r11 : W9.cell? ⟨w.heap.size, 11, none⟩ = some (.string (Rc.zero 0).to) := k9.cell 11
          clear k9
          have B9 := Lib.hid b9
          clear b9
          rw [HP.out]
          simp [bodyPost, results, Try.results18, go_sem, Rc.val, Rc.cells, Rc.zero, r0, r1, r2, r3, r4, r5, r6, r7, r8, r9, r10, r11]
          exact B9.out
        · have hd : decide (pp < (L : Int)) = false := by simpa using hlt
          have HP4 := Lib.hid (show Rc.parse b = if x.right = true then (x, 0) else (Rc.zero 0, 2) by rw [HP3.out, if_neg hlt])
          clear hlt HP3
          go_wp2_with fail
          refine wp_region_grow (fun k' => List.lookup k' [(3, (.fix (.int .i64 pp))), (5, (.fix (.slice D L c)))]) (by as_aux_lemma => kernel_rfl) (by as_aux_lemma => kernel_rfl) ?_
          repeat (refine wpGrow_pure rfl (fun K hK => ?_); go_simp; refine hK.out _ ?_; clear hK K)
          refine wpGrow_eff _ rfl (fun wx he hcl => ?_) (fun _ K hK => ?_) rfl
          · clear hcl
            have hq := (he.cell (p := ⟨g8, 1, none⟩) V8.out.lt).trans (show w2.cell? ⟨g8, 1, none⟩ = some (.int .i64 pp) from V8.out.cell 1)
            go_simp
            exact Below.refl _ _
          go_simp
          refine hK.out _ ?_
          clear hK K
          repeat (refine wpGrow_pure rfl (fun K hK => ?_); go_simp; refine hK.out _ ?_; clear hK K)
          refine wpGrow_eff _ rfl (fun wx he hcl => ?_) (fun _ K hK => ?_) rfl
          · clear hcl
            have hq := (he.cell (p := ⟨gf, 1, none⟩) VF.out.lt).trans (show w2.cell? ⟨gf, 1, none⟩ = some (.slice D L c) from VF.out.cell 1)
            go_simp
            exact Below.refl _ _
          go_simp
          refine hK.out _ ?_
          clear hK K
          repeat (refine wpGrow_pure rfl (fun K hK => ?_); go_simp; refine hK.out _ ?_; clear hK K)
          refine wpGrow_nil fun wd he hfin => ?_
          clear hfin
          replace VR := Lib.hid (VR.out.below he VR.out.lt)
          replace V9 := Lib.hid (V9.out.below he V9.out.lt)
          replace VB := Lib.hid (VB.out.trans (he.mono VB.out.size))
          clear he
          have HRA := Lib.hid (show Calls Try.prog 14 #[.agg x.cells] wd (fun en w' => en = .returned (.bool x.right) ∧ Below wd.heap.size wd w') from right_any wd x HXO.out)
          go_wp2_with (refine wpList_load_row rfl 24 (.tmp 9) rfl g9 rfl 24 x.cells (0, 0) _ ?_ Try.underlying24 rfl (rec_size x) ?_; · exact V9.out)
          refine HRA.out.mono ?_
          clear HRA
          rintro en w3 ⟨rfl, hb3⟩
          replace VR := Lib.hid (VR.out.below hb3 VR.out.lt)
          replace V9 := Lib.hid (V9.out.below hb3 V9.out.lt)
          replace VB := Lib.hid (VB.out.trans (hb3.mono VB.out.size))
          clear hb3
          cases hxr : x.right with
          | false =>
            have HP := Lib.hid (show Rc.parse b = (Rc.zero 0, 2) by rw [HP4.out, hxr]; rfl)
            clear hxr HP4
            go_wp2_with (refine wpList_store_row rfl 24 (.tmp 2) (.tmp 65) rfl w.heap.size (Rc.zero 0).cells rfl rfl 24 _ VR.out (rec_size _) rfl (rec_cells _) ?_)
            have k9 := VR.out.row (Rc.zero 0).cells
            have b9 := Below.setRow VB.out (g := w.heap.size) (Nat.le_refl _) (Rc.zero 0).cells
            generalize World.setRow w3 w.heap.size (Rc.zero 0).cells = W9 at k9 b9 ⊢
            have r0 : W9.cell? ⟨w.heap.size, 0, none⟩ = some (.int .u8 ((Rc.zero 0).k : Nat)) := k9.cell 0
            have r1 : W9.cell? ⟨w.heap.size, 1, none⟩ = some (.int .u64 ((Rc.zero 0).proc : Nat)) := k9.cell 1
            have r2 : W9.cell? ⟨w.heap.size, 2, none⟩ = some (.int .u64 ((Rc.zero 0).inc : Nat)) := k9.cell 2
            have r3 : W9.cell? ⟨w.heap.size, 3, none⟩ = some (.int .u64 ((Rc.zero 0).seq : Nat)) := k9.cell 3
            have r4 : W9.cell? ⟨w.heap.size, 4, none⟩ = some (.int .u64 ((Rc.zero 0).epoch : Nat)) := k9.cell 4
            have r5 : W9.cell? ⟨w.heap.size, 5, none⟩ = some (.int .u64 ((Rc.zero 0).until_ : Nat)) := k9.cell 5
            have r6 : W9.cell? ⟨w.heap.size, 6, none⟩ = some (.int .u64 ((Rc.zero 0).version : Nat)) := k9.cell 6
            have r7 : W9.cell? ⟨w.heap.size, 7, none⟩ = some (.int .u64 ((Rc.zero 0).clock : Nat)) := k9.cell 7
            have r8 : W9.cell? ⟨w.heap.size, 8, none⟩ = some (.int .u64 ((Rc.zero 0).size : Nat)) := k9.cell 8
            have r9 : W9.cell? ⟨w.heap.size, 9, none⟩ = some (.int .u64 ((Rc.zero 0).crc : Nat)) := k9.cell 9
            have r10 : W9.cell? ⟨w.heap.size, 10, none⟩ = some (.string (Rc.zero 0).name) := k9.cell 10
            have r11 : W9.cell? ⟨w.heap.size, 11, none⟩ = some (.string (Rc.zero 0).to) := k9.cell 11
            clear k9
            have B9 := Lib.hid b9
            clear b9
            rw [HP.out]
            simp [bodyPost, results, Try.results18, go_sem, Rc.val, Rc.cells, Rc.zero, r0, r1, r2, r3, r4, r5, r6, r7, r8, r9, r10, r11]
            exact B9.out
          | true =>
            have HP := Lib.hid (show Rc.parse b = (x, 0) by rw [HP4.out, hxr]; rfl)
            clear hxr HP4
            go_wp2_with (first
              | (refine wpList_load_row rfl 24 (.tmp 9) rfl g9 rfl 24 x.cells (0, 0) _ ?_ Try.underlying24 rfl (rec_size x) ?_; · exact V9.out)
              | (refine wpList_store_row rfl 24 (.tmp 2) (.tmp 66) rfl w.heap.size x.cells rfl rfl 24 _ VR.out (rec_size _) rfl (rec_cells _) ?_))
            have k9 := VR.out.row x.cells
            have b9 := Below.setRow VB.out (g := w.heap.size) (Nat.le_refl _) x.cells
            generalize World.setRow w3 w.heap.size x.cells = W9 at k9 b9 ⊢
            have r0 : W9.cell? ⟨w.heap.size, 0, none⟩ = some (.int .u8 (x.k : Nat)) := k9.cell 0
            have r1 : W9.cell? ⟨w.heap.size, 1, none⟩ = some (.int .u64 (x.proc : Nat)) := k9.cell 1
            have r2 : W9.cell? ⟨w.heap.size, 2, none⟩ = some (.int .u64 (x.inc : Nat)) := k9.cell 2
            have r3 : W9.cell? ⟨w.heap.size, 3, none⟩ = some (.int .u64 (x.seq : Nat)) := k9.cell 3
            have r4 : W9.cell? ⟨w.heap.size, 4, none⟩ = some (.int .u64 (x.epoch : Nat)) := k9.cell 4
            have r5 : W9.cell? ⟨w.heap.size, 5, none⟩ = some (.int .u64 (x.until_ : Nat)) := k9.cell 5
            have r6 : W9.cell? ⟨w.heap.size, 6, none⟩ = some (.int .u64 (x.version : Nat)) := k9.cell 6
            have r7 : W9.cell? ⟨w.heap.size, 7, none⟩ = some (.int .u64 (x.clock : Nat)) := k9.cell 7
            have r8 : W9.cell? ⟨w.heap.size, 8, none⟩ = some (.int .u64 (x.size : Nat)) := k9.cell 8
            have r9 : W9.cell? ⟨w.heap.size, 9, none⟩ = some (.int .u64 (x.crc : Nat)) := k9.cell 9
            have r10 : W9.cell? ⟨w.heap.size, 10, none⟩ = some (.string x.name) := k9.cell 10
            have r11 : W9.cell? ⟨w.heap.size, 11, none⟩ = some (.string x.to) := k9.cell 11
            clear k9
            have B9 := Lib.hid b9
            clear b9
            rw [HP.out]
            simp [bodyPost, results, Try.results18, go_sem, Rc.val, Rc.cells, r0, r1, r2, r3, r4, r5, r6, r7, r8, r9, r10, r11]
            exact B9.out
      · have HP := Lib.hid (show Rc.parse b = (Rc.zero 0, e2) by rw [HP2.out, if_pos (by simpa using he2)])
        have e20 : ((e2 : Int) == 0) = false := by simp; omega
        have HNG := Lib.hid (show g8 ≠ w.heap.size from by have := OR.out; omega)
        clear he2 HP2
        go_wp2_with fail
        refine wp_region_grow (fun k' => List.lookup k' [(4, (.fix (.int .i64 (e2 : Nat)))), (5, (.fix undef))]) (by as_aux_lemma => kernel_rfl) (by as_aux_lemma => kernel_rfl) ?_
        repeat (refine wpGrow_pure rfl (fun K hK => ?_); go_simp; refine hK.out _ ?_; clear hK K)
        refine wpGrow_eff _ rfl (fun wx he hcl => ?_) (fun _ K hK => ?_) rfl
        · clear hcl
          have hq := (he.cell (p := ⟨g8, 2, none⟩) V8.out.lt).trans (show w2.cell? ⟨g8, 2, none⟩ = some (.int .i64 (e2 : Nat)) from V8.out.cell 2)
          go_simp
          exact Below.refl _ _
        go_simp
        refine hK.out _ ?_
        clear hK K
        repeat (refine wpGrow_pure rfl (fun K hK => ?_); go_simp; refine hK.out _ ?_; clear hK K)
        refine wpGrow_eff _ rfl (fun wx he hcl => ?_) (fun _ K hK => ?_) rfl
        · clear hcl
          exact growAt_store_same rfl rfl (cs := (Rc.zero 0).cells) rfl (VR.out.below he VR.out.lt) (rec_size _) (rec_cells _)
        go_simp
        refine hK.out _ ?_
        clear hK K
        repeat (refine wpGrow_pure rfl (fun K hK => ?_); go_simp; refine hK.out _ ?_; clear hK K)
        refine wpGrow_nil fun W9 he hfin => ?_
        clear hfin
        have k9 : Whole W9 w.heap.size 24 (Rc.zero 0).cells := VR.out.below he VR.out.lt
        have b9 := VB.out.trans (he.mono VB.out.size)
        clear he
        go_wp2_with fail
        have r0 : W9.cell? ⟨w.heap.size, 0, none⟩ = some (.int .u8 ((Rc.zero 0).k : Nat)) := k9.cell 0
        have r1 : W9.cell? ⟨w.heap.size, 1, none⟩ = some (.int .u64 ((Rc.zero 0).proc : Nat)) := k9.cell 1
        have r2 : W9.cell? ⟨w.heap.size, 2, none⟩ = some (.int .u64 ((Rc.zero 0).inc : Nat)) := k9.cell 2
        have r3 : W9.cell? ⟨w.heap.size, 3, none⟩ = some (.int .u64 ((Rc.zero 0).seq : Nat)) := k9.cell 3
        have r4 : W9.cell? ⟨w.heap.size, 4, none⟩ = some (.int .u64 ((Rc.zero 0).epoch : Nat)) := k9.cell 4
        have r5 : W9.cell? ⟨w.heap.size, 5, none⟩ = some (.int .u64 ((Rc.zero 0).until_ : Nat)) := k9.cell 5
        have r6 : W9.cell? ⟨w.heap.size, 6, none⟩ = some (.int .u64 ((Rc.zero 0).version : Nat)) := k9.cell 6
        have r7 : W9.cell? ⟨w.heap.size, 7, none⟩ = some (.int .u64 ((Rc.zero 0).clock : Nat)) := k9.cell 7
        have r8 : W9.cell? ⟨w.heap.size, 8, none⟩ = some (.int .u64 ((Rc.zero 0).size : Nat)) := k9.cell 8
        have r9 : W9.cell? ⟨w.heap.size, 9, none⟩ = some (.int .u64 ((Rc.zero 0).crc : Nat)) := k9.cell 9
        have r10 : W9.cell? ⟨w.heap.size, 10, none⟩ = some (.string (Rc.zero 0).name) := k9.cell 10
        have r11 : W9.cell? ⟨w.heap.size, 11, none⟩ = some (.string (Rc.zero 0).to) := k9.cell 11
        clear k9
        have B9 := Lib.hid b9
        clear b9
        rw [HP.out]
        simp [bodyPost, results, Try.results18, go_sem, Rc.val, Rc.cells, Rc.zero, r0, r1, r2, r3, r4, r5, r6, r7, r8, r9, r10, r11]
        exact B9.out
    · have HK := Lib.hid hk
      have HP := Lib.hid (show Rc.parse b = (Rc.zero 0, 60) by rw [HPA.out]; unfold Rc.parseF; rw [if_neg (by rw [HE0.out]; simp), if_pos hk])
      clear hk
      go_wp2_with fail
      refine wp_region_grow (fun k' => List.lookup k' [(0, (.kmap wa.heap.size)), (2, (.fix (.int .u8 (kk : Nat)))), (3, (.fix (.tuple #[.slice none 0 0, .bool false])))]) (by as_aux_lemma => kernel_rfl) (by as_aux_lemma => kernel_rfl) ?_
      repeat (refine wpGrow_pure rfl (fun K hK => ?_); go_simp; refine hK.out _ ?_; clear hK K)
      refine wpGrow_eff _ rfl (fun wx he hcl => ?_) (fun gm K hK => ?_) rfl
      · clear hcl
        have hsz := he.size
        have hcon := kinds_any wx
        go_simp
        exact hcon.mono fun e w2 ⟨g, he1, h1, h2⟩ => ⟨g, he1, h1.base hsz, h2⟩
      go_simp
      refine hK.out _ ?_
      clear hK K
      repeat (refine wpGrow_pure rfl (fun K hK => ?_); go_simp; refine hK.out _ ?_; clear hK K)
      refine wpGrow_eff _ rfl (fun wx he hcl => ?_) (fun _ K hK => ?_) rfl
      · clear hcl
        have hq := (he.cell (p := ⟨gf, 0, none⟩) HGF.out.lt).trans (show wa.cell? ⟨gf, 0, none⟩ = some (.int .u8 (kk : Nat)) from HGF.out.cell 0)
        go_simp
        exact Below.refl _ _
      go_simp
      refine hK.out _ ?_
      clear hK K
      repeat (refine wpGrow_pure rfl (fun K hK => ?_); go_simp; refine hK.out _ ?_; clear hK K)
      refine wpGrow_eff _ rfl (fun wx he hcl => ?_) (fun _ K hK => ?_) rfl
      · have hkm : KMap wx wa.heap.size gm Rec.kinds := hcl.out 0 (by kernel_rfl)
        exact growAt_lookup rfl rfl rfl (kmap_none hkm HK.out) ⟨(), rfl, trivial⟩
      go_simp
      refine hK.out _ ?_
      clear hK K
      repeat (refine wpGrow_pure rfl (fun K hK => ?_); go_simp; refine hK.out _ ?_; clear hK K)
      refine wpGrow_nil fun wx he hfin => ?_
      clear hfin
      have HWR := Lib.hid (HW1.out.below he HW1.out.lt)
      have HBB2 := Lib.hid (HBB.out.trans (he.mono HBB.out.size))
      clear he
      go_wp2_with (refine wpList_store_row rfl 24 (.tmp 2) (.tmp 28) rfl w.heap.size (Rc.zero 0).cells rfl rfl 24 _ HWR.out (rec_size _) rfl (rec_cells _) ?_)
      have k9 := HWR.out.row (Rc.zero 0).cells
      have b9 := Below.setRow HBB2.out (g := w.heap.size) (Nat.le_refl _) (Rc.zero 0).cells
      generalize World.setRow wx w.heap.size (Rc.zero 0).cells = W9 at k9 b9 ⊢
      have r0 : W9.cell? ⟨w.heap.size, 0, none⟩ = some (.int .u8 ((Rc.zero 0).k : Nat)) := k9.cell 0
      have r1 : W9.cell? ⟨w.heap.size, 1, none⟩ = some (.int .u64 ((Rc.zero 0).proc : Nat)) := k9.cell 1
      have r2 : W9.cell? ⟨w.heap.size, 2, none⟩ = some (.int .u64 ((Rc.zero 0).inc : Nat)) := k9.cell 2
      have r3 : W9.cell? ⟨w.heap.size, 3, none⟩ = some (.int .u64 ((Rc.zero 0).seq : Nat)) := k9.cell 3
      have r4 : W9.cell? ⟨w.heap.size, 4, none⟩ = some (.int .u64 ((Rc.zero 0).epoch : Nat)) := k9.cell 4
      have r5 : W9.cell? ⟨w.heap.size, 5, none⟩ = some (.int .u64 ((Rc.zero 0).until_ : Nat)) := k9.cell 5
      have r6 : W9.cell? ⟨w.heap.size, 6, none⟩ = some (.int .u64 ((Rc.zero 0).version : Nat)) := k9.cell 6
      have r7 : W9.cell? ⟨w.heap.size, 7, none⟩ = some (.int .u64 ((Rc.zero 0).clock : Nat)) := k9.cell 7
      have r8 : W9.cell? ⟨w.heap.size, 8, none⟩ = some (.int .u64 ((Rc.zero 0).size : Nat)) := k9.cell 8
      have r9 : W9.cell? ⟨w.heap.size, 9, none⟩ = some (.int .u64 ((Rc.zero 0).crc : Nat)) := k9.cell 9
      have r10 : W9.cell? ⟨w.heap.size, 10, none⟩ = some (.string (Rc.zero 0).name) := k9.cell 10
      have r11 : W9.cell? ⟨w.heap.size, 11, none⟩ = some (.string (Rc.zero 0).to) := k9.cell 11
      clear k9
      have B9 := Lib.hid b9
      clear b9
      rw [HP.out]
      simp [bodyPost, results, Try.results18, go_sem, Rc.val, Rc.cells, Rc.zero, r0, r1, r2, r3, r4, r5, r6, r7, r8, r9, r10, r11]
      exact B9.out
  · have e0 : ((ee : Int) == 0) = false := by simp; omega
    have HP := Lib.hid (show Rc.parse b = (Rc.zero 0, ee) by rw [HPA.out]; unfold Rc.parseF; rw [if_pos he0])
    have HW1 := Lib.hid hr
    have HBB := Lib.hid hb3
    clear hf hrd2 hr hb3
    go_wp2_with (refine wpList_store_row rfl 24 (.tmp 2) (.tmp 17) rfl w.heap.size (Rc.zero 0).cells rfl rfl 24 _ HW1.out (rec_size _) rfl (rec_cells _) ?_)
    have k9 := HW1.out.row (Rc.zero 0).cells
    have b9 := Below.setRow HBB.out (g := w.heap.size) (Nat.le_refl _) (Rc.zero 0).cells
    generalize World.setRow (w1.alloc (.cells #[.int .u8 (kk : Nat), .slice D L c] 64)) w.heap.size (Rc.zero 0).cells = W9 at k9 b9 ⊢
    have r0 : W9.cell? ⟨w.heap.size, 0, none⟩ = some (.int .u8 ((Rc.zero 0).k : Nat)) := k9.cell 0
    have r1 : W9.cell? ⟨w.heap.size, 1, none⟩ = some (.int .u64 ((Rc.zero 0).proc : Nat)) := k9.cell 1
    have r2 : W9.cell? ⟨w.heap.size, 2, none⟩ = some (.int .u64 ((Rc.zero 0).inc : Nat)) := k9.cell 2
    have r3 : W9.cell? ⟨w.heap.size, 3, none⟩ = some (.int .u64 ((Rc.zero 0).seq : Nat)) := k9.cell 3
    have r4 : W9.cell? ⟨w.heap.size, 4, none⟩ = some (.int .u64 ((Rc.zero 0).epoch : Nat)) := k9.cell 4
    have r5 : W9.cell? ⟨w.heap.size, 5, none⟩ = some (.int .u64 ((Rc.zero 0).until_ : Nat)) := k9.cell 5
    have r6 : W9.cell? ⟨w.heap.size, 6, none⟩ = some (.int .u64 ((Rc.zero 0).version : Nat)) := k9.cell 6
    have r7 : W9.cell? ⟨w.heap.size, 7, none⟩ = some (.int .u64 ((Rc.zero 0).clock : Nat)) := k9.cell 7
    have r8 : W9.cell? ⟨w.heap.size, 8, none⟩ = some (.int .u64 ((Rc.zero 0).size : Nat)) := k9.cell 8
    have r9 : W9.cell? ⟨w.heap.size, 9, none⟩ = some (.int .u64 ((Rc.zero 0).crc : Nat)) := k9.cell 9
    have r10 : W9.cell? ⟨w.heap.size, 10, none⟩ = some (.string (Rc.zero 0).name) := k9.cell 10
    have r11 : W9.cell? ⟨w.heap.size, 11, none⟩ = some (.string (Rc.zero 0).to) := k9.cell 11
    clear k9
    have B9 := Lib.hid b9
    clear b9
    rw [HP.out]
    simp [bodyPost, results, Try.results18, go_sem, Rc.val, Rc.cells, Rc.zero, r0, r1, r2, r3, r4, r5, r6, r7, r8, r9, r10, r11]
    exact B9.out
end Go.Proofs.Ytmobgamlednlhaa
namespace Go.Proofs.Ytmobgamlednlhaa
open Go.RowKit
namespace Rc
theorem readStep_err {b : List UInt8} {x : Rc × Int × Nat} (h : x.2.2 ≠ 0) (i : Nat) : readStep b x i = x := by unfold readStep; rw [if_neg h]
theorem fold_err {b : List UInt8} {x : Rc × Int × Nat} (h : x.2.2 ≠ 0) : ∀ m : List Nat, m.foldl (readStep b) x = x := by
  intro m
  induction m with
  | nil => rfl
  | cons i m ih => rw [List.foldl_cons, readStep_err h, ih]
theorem readAll_append (b : List UInt8) (r : Rc) (l m : List Nat) : readAll b r (l ++ m) = m.foldl (readStep b) (readAll b r l) := by unfold readAll; rw [List.foldl_append]
theorem readAll_stop {b : List UInt8} {r : Rc} {k j : Nat} (h : (readAll b r (pre k j)).2.2 ≠ 0) : readAll b r (places k) = readAll b r (pre k j) := by
  have e : places k = pre k j ++ ((pl k).drop j).map (· + 4) := by
    unfold places pre
    rw [List.append_assoc, ← List.map_append, List.take_append_drop]
  rw [e, readAll_append, fold_err h]
theorem head_read (b : List UInt8) (k : Nat) :
    ((Var.rall b 3 0).2.2 ≠ 0 ∧ (readAll b (zero k) [1, 2, 3]).2.2 = (Var.rall b 3 0).2.2) ∨
    ∃ n1 n2 n3 p, Var.rall b 3 0 = ([n1, n2, n3], p, 0) ∧ readAll b (zero k) [1, 2, 3] = (⟨k, n1, n2, n3, 0, 0, 0, 0, 0, 0, ⟨#[]⟩, ⟨#[]⟩⟩, p, 0) := by
  obtain ⟨x1, h1⟩ : ∃ x, Var.take b 0 = x := ⟨_, rfl⟩
  obtain ⟨v1, p1, e1⟩ := x1
  have s1 : readStep b (zero k, 0, 0) 1 = ((zero k).put 1 v1 ⟨#[]⟩, p1, e1) := by unfold readStep; simp [h1]
  have hr : ∀ x, readStep b (zero k, 0, 0) 1 = x → readAll b (zero k) [1, 2, 3] = readStep b (readStep b x 2) 3 := fun x hx => by unfold readAll; simp only [List.foldl_cons, List.foldl_nil, hx]
  rw [hr _ s1]
  by_cases z1 : e1 = 0
  · subst z1
    obtain ⟨x2, h2⟩ : ∃ x, Var.take b p1 = x := ⟨_, rfl⟩
    obtain ⟨v2, p2, e2⟩ := x2
    have s2 : readStep b ((zero k).put 1 v1 ⟨#[]⟩, p1, 0) 2 = (((zero k).put 1 v1 ⟨#[]⟩).put 2 v2 ⟨#[]⟩, p2, e2) := by unfold readStep; simp [h2]
    rw [s2]
    by_cases z2 : e2 = 0
    · subst z2
      obtain ⟨x3, h3⟩ : ∃ x, Var.take b p2 = x := ⟨_, rfl⟩
      obtain ⟨v3, p3, e3⟩ := x3
      have s3 : readStep b (((zero k).put 1 v1 ⟨#[]⟩).put 2 v2 ⟨#[]⟩, p2, 0) 3 = ((((zero k).put 1 v1 ⟨#[]⟩).put 2 v2 ⟨#[]⟩).put 3 v3 ⟨#[]⟩, p3, e3) := by unfold readStep; simp [h3]
      rw [s3]
      by_cases z3 : e3 = 0
      · subst z3
        exact .inr ⟨v1, v2, v3, p3, by simp [Var.rall, Var.tall, h1, h2, h3], rfl⟩
      · exact .inl ⟨by simp [Var.rall, Var.tall, h1, h2, h3, z3], by simp [Var.rall, Var.tall, h1, h2, h3, z3]⟩
    · rw [readStep_err (by simpa using z2)]
      exact .inl ⟨by simp [Var.rall, Var.tall, h1, h2, z2], by simp [Var.rall, Var.tall, h1, h2, z2]⟩
  · rw [readStep_err (x := ((zero k).put 1 v1 ⟨#[]⟩, p1, e1)) (by simpa using z1), readStep_err (by simpa using z1)]
    exact .inl ⟨by simp [Var.rall, Var.tall, h1, z1], by simp [Var.rall, Var.tall, h1, z1]⟩
end Rc
attribute [local go_sem] Instr.makeFunc Oper.growAt Oper.growUpon GSpec.fix GSpec.row GSpec.wh GSpec.own GSpec.box GSpec.kmap GSpec.lk GSpec.lk1 GSpec.put match_undef
attribute [local irreducible] wpList
set_option maxRecDepth 100000 in
set_option maxHeartbeats 16000000 in
theorem rparse_any (w : World) (A : Option Addr) (n cap : Nat) (b : List UInt8) (B : Nat) (hB : B ≤ w.heap.size) (h : Rd w B 1 A n (byts b)) (hc : n ≤ cap) (hn : n ≤ 100000000) :
    Calls Try.prog 19 #[.slice A n cap] w fun en w' => en = .returned (.tuple #[(Rc.parse b).1.val, .int .i64 ((Rc.parse b).2 : Nat)]) ∧ Below w.heap.size w w' := by
  have W1 := Lib.hid (Whole.new w 31 #[.int .u8 0, .int .u64 0, .int .u64 0, .int .u64 0, .int .u64 0, .int .u64 0, .int .u64 0, .int .u64 0, .int .u64 0, .int .u64 0, .string ⟨#[]⟩, .string ⟨#[]⟩])
  have B1 := Lib.hid (belowK w (.cells #[.int .u8 0, .int .u64 0, .int .u64 0, .int .u64 0, .int .u64 0, .int .u64 0, .int .u64 0, .int .u64 0, .int .u64 0, .int .u64 0, .string ⟨#[]⟩, .string ⟨#[]⟩] 31))
  have hone := rone_any (w.alloc (.cells #[.int .u8 0, .int .u64 0, .int .u64 0, .int .u64 0, .int .u64 0, .int .u64 0, .int .u64 0, .int .u64 0, .int .u64 0, .int .u64 0, .string ⟨#[]⟩, .string ⟨#[]⟩] 31)) A n cap b B (Nat.le_trans hB B1.out.size) (h.alloc hB _) hc hn
  have hpa : Rc.parse b = Rc.parseF (Fra.one b).1.toNat (Fra.one b).2.1 (Fra.one b).2.2 := rfl
  have hk256 := (Fra.one b).1.toNat_lt
  have hbl : (Fra.one b).2.1.length ≤ 100000000 := Nat.le_trans (Fra.one_len b) (by rw [h.blen]; exact hn)
  unfold FrOne at hone
  obtain ⟨kk, hkk⟩ : ∃ k, (Fra.one b).1.toNat = k := ⟨_, rfl⟩
  obtain ⟨bd, hbd⟩ : ∃ k, (Fra.one b).2.1 = k := ⟨_, rfl⟩
  obtain ⟨ee, hee⟩ : ∃ k, (Fra.one b).2.2 = k := ⟨_, rfl⟩
  rw [hkk, hbd, hee] at hone hpa
  rw [hkk] at hk256
  rw [hbd] at hbl
  have HONE := Lib.hid hone
  have HPA := Lib.hid hpa
  have HK256 := Lib.hid hk256
  have HBL := Lib.hid hbl
  clear h hB hc hn hone hpa hk256 hbl hkk hbd hee
  go_enter Try.func19, Try.ntmps19
  go_wp2_with fail
  refine HONE.out.mono ?_
  clear HONE
  rintro en w1 ⟨D, c, rfl, ho, hb⟩
  obtain ⟨L, hL⟩ : ∃ L, bd.length = L := ⟨_, rfl⟩
  rw [hL] at ho ⊢
  have HL := Lib.hid hL
  have HLC := Lib.hid (own_cap ho)
  have hs1 : (w.alloc (.cells #[.int .u8 0, .int .u64 0, .int .u64 0, .int .u64 0, .int .u64 0, .int .u64 0, .int .u64 0, .int .u64 0, .int .u64 0, .int .u64 0, .string ⟨#[]⟩, .string ⟨#[]⟩] 31)).heap.size = w.heap.size + 1 := by simp
  rw [hs1] at ho
  have hrd := Rd.of_own ho
  have hr := (W1.out.below hb W1.out.lt).alloc (.cells #[.int .u8 (kk : Nat), .slice D L c] 44)
  have hf := Whole.new w1 44 #[.int .u8 (kk : Nat), .slice D L c]
  have hb2 := B1.out.trans (hb.mono B1.out.size)
  have hb3 := hb2.alloc hb2.size (.cells #[.int .u8 (kk : Nat), .slice D L c] 44)
  have hrd2 := hrd.alloc (Nat.le_refl _) (.cells #[.int .u8 (kk : Nat), .slice D L c] 44)
  have HGL := Lib.hid (W1.out.below hb W1.out.lt).lt
  clear hL hs1 ho hrd hb hb2
  by_cases he0 : ee = 0
  · have hz : ((ee : Nat) : Int) = 0 := by omega
    rw [hz]
    clear hz
    have e0 : ((0 : Int) == 0) = true := rfl
    have HE0 := Lib.hid he0
    clear he0
    have q0 : (w1.alloc (.cells #[.int .u8 (kk : Nat), .slice D L c] 44)).cell? ⟨w1.heap.size, 0, none⟩ = some (.int .u8 (kk : Nat)) := hf.cell 0
    have q1 : (w1.alloc (.cells #[.int .u8 (kk : Nat), .slice D L c] 44)).cell? ⟨w1.heap.size, 1, none⟩ = some (.slice D L c) := hf.cell 1
    by_cases hk1 : kk < 1
    · have d1 : decide ((kk : Int) < 1) = true := by simp; omega
      have HP := Lib.hid (show Rc.parse b = (Rc.zero 0, 60) by rw [HPA.out]; unfold Rc.parseF; rw [if_neg (by rw [HE0.out]; simp), if_pos (by omega)])
      have HW1 := Lib.hid hr
      have HBB := Lib.hid hb3
      clear hf hrd2 hr hb3 hk1
      go_wp2_with (refine wpList_store_row rfl 31 (.tmp 2) (.tmp 31) rfl w.heap.size (Rc.zero 0).cells rfl rfl 31 _ HW1.out (rrec_size _) rfl (rec_cells _) ?_)
      have k9 := HW1.out.row (Rc.zero 0).cells
      have b9 := Below.setRow HBB.out (g := w.heap.size) (Nat.le_refl _) (Rc.zero 0).cells
      generalize World.setRow (w1.alloc (.cells #[.int .u8 (kk : Nat), .slice D L c] 44)) w.heap.size (Rc.zero 0).cells = W9 at k9 b9 ⊢
      have r0 : W9.cell? ⟨w.heap.size, 0, none⟩ = some (.int .u8 ((Rc.zero 0).k : Nat)) := k9.cell 0
      have r1 : W9.cell? ⟨w.heap.size, 1, none⟩ = some (.int .u64 ((Rc.zero 0).proc : Nat)) := k9.cell 1
      have r2 : W9.cell? ⟨w.heap.size, 2, none⟩ = some (.int .u64 ((Rc.zero 0).inc : Nat)) := k9.cell 2
      have r3 : W9.cell? ⟨w.heap.size, 3, none⟩ = some (.int .u64 ((Rc.zero 0).seq : Nat)) := k9.cell 3
      have r4 : W9.cell? ⟨w.heap.size, 4, none⟩ = some (.int .u64 ((Rc.zero 0).epoch : Nat)) := k9.cell 4
      have r5 : W9.cell? ⟨w.heap.size, 5, none⟩ = some (.int .u64 ((Rc.zero 0).until_ : Nat)) := k9.cell 5
      have r6 : W9.cell? ⟨w.heap.size, 6, none⟩ = some (.int .u64 ((Rc.zero 0).version : Nat)) := k9.cell 6
      have r7 : W9.cell? ⟨w.heap.size, 7, none⟩ = some (.int .u64 ((Rc.zero 0).clock : Nat)) := k9.cell 7
      have r8 : W9.cell? ⟨w.heap.size, 8, none⟩ = some (.int .u64 ((Rc.zero 0).size : Nat)) := k9.cell 8
      have r9 : W9.cell? ⟨w.heap.size, 9, none⟩ = some (.int .u64 ((Rc.zero 0).crc : Nat)) := k9.cell 9
      have r10 : W9.cell? ⟨w.heap.size, 10, none⟩ = some (.string (Rc.zero 0).name) := k9.cell 10
      have r11 : W9.cell? ⟨w.heap.size, 11, none⟩ = some (.string (Rc.zero 0).to) := k9.cell 11
      clear k9
      have B9 := Lib.hid b9
      clear b9
      rw [HP.out]
      simp [bodyPost, results, Try.results19, go_sem, Rc.val, Rc.cells, Rc.zero, r0, r1, r2, r3, r4, r5, r6, r7, r8, r9, r10, r11]
      exact B9.out
    · have d1 : decide ((kk : Int) < 1) = false := by simp; omega
      by_cases hk2 : 11 < kk
      · have d2 : decide ((11 : Int) < (kk : Int)) = true := by simp; omega
        have HP := Lib.hid (show Rc.parse b = (Rc.zero 0, 60) by rw [HPA.out]; unfold Rc.parseF; rw [if_neg (by rw [HE0.out]; simp), if_pos (by omega)])
        have HW1 := Lib.hid hr
        have HBB := Lib.hid hb3
        clear hf hrd2 hr hb3 hk1 hk2
        go_wp2_with (refine wpList_store_row rfl 31 (.tmp 2) (.tmp 31) rfl w.heap.size (Rc.zero 0).cells rfl rfl 31 _ HW1.out (rrec_size _) rfl (rec_cells _) ?_)
        have k9 := HW1.out.row (Rc.zero 0).cells
        have b9 := Below.setRow HBB.out (g := w.heap.size) (Nat.le_refl _) (Rc.zero 0).cells
        generalize World.setRow (w1.alloc (.cells #[.int .u8 (kk : Nat), .slice D L c] 44)) w.heap.size (Rc.zero 0).cells = W9 at k9 b9 ⊢
        have r0 : W9.cell? ⟨w.heap.size, 0, none⟩ = some (.int .u8 ((Rc.zero 0).k : Nat)) := k9.cell 0
        have r1 : W9.cell? ⟨w.heap.size, 1, none⟩ = some (.int .u64 ((Rc.zero 0).proc : Nat)) := k9.cell 1
        have r2 : W9.cell? ⟨w.heap.size, 2, none⟩ = some (.int .u64 ((Rc.zero 0).inc : Nat)) := k9.cell 2
        have r3 : W9.cell? ⟨w.heap.size, 3, none⟩ = some (.int .u64 ((Rc.zero 0).seq : Nat)) := k9.cell 3
        have r4 : W9.cell? ⟨w.heap.size, 4, none⟩ = some (.int .u64 ((Rc.zero 0).epoch : Nat)) := k9.cell 4
        have r5 : W9.cell? ⟨w.heap.size, 5, none⟩ = some (.int .u64 ((Rc.zero 0).until_ : Nat)) := k9.cell 5
        have r6 : W9.cell? ⟨w.heap.size, 6, none⟩ = some (.int .u64 ((Rc.zero 0).version : Nat)) := k9.cell 6
        have r7 : W9.cell? ⟨w.heap.size, 7, none⟩ = some (.int .u64 ((Rc.zero 0).clock : Nat)) := k9.cell 7
        have r8 : W9.cell? ⟨w.heap.size, 8, none⟩ = some (.int .u64 ((Rc.zero 0).size : Nat)) := k9.cell 8
        have r9 : W9.cell? ⟨w.heap.size, 9, none⟩ = some (.int .u64 ((Rc.zero 0).crc : Nat)) := k9.cell 9
        have r10 : W9.cell? ⟨w.heap.size, 10, none⟩ = some (.string (Rc.zero 0).name) := k9.cell 10
        have r11 : W9.cell? ⟨w.heap.size, 11, none⟩ = some (.string (Rc.zero 0).to) := k9.cell 11
        clear k9
        have B9 := Lib.hid b9
        clear b9
        rw [HP.out]
        simp [bodyPost, results, Try.results19, go_sem, Rc.val, Rc.cells, Rc.zero, r0, r1, r2, r3, r4, r5, r6, r7, r8, r9, r10, r11]
        exact B9.out
      · have d2 : decide ((11 : Int) < (kk : Int)) = false := by simp; omega
        have HK := Lib.hid (show 1 ≤ kk ∧ kk ≤ 11 by omega)
        have hp1 : Rc.parse b = if (Rc.readAll bd (Rc.zero kk) (Rc.places kk)).2.2 ≠ 0 then (Rc.zero 0, (Rc.readAll bd (Rc.zero kk) (Rc.places kk)).2.2) else if (Rc.readAll bd (Rc.zero kk) (Rc.places kk)).2.1 < (bd.length : Int) then (Rc.zero 0, 11) else if (Rc.readAll bd (Rc.zero kk) (Rc.places kk)).1.right = true then ((Rc.readAll bd (Rc.zero kk) (Rc.places kk)).1, 0) else (Rc.zero 0, 2) := by
          rw [HPA.out]
          unfold Rc.parseF
          rw [if_neg (by rw [HE0.out]; simp), if_neg (by simpa using HK.out)]
        have HPA2 := Lib.hid hp1
        clear hp1 hk1 hk2
        go_wp2_with fail
        obtain ⟨gf, hgf⟩ : ∃ g, w1.heap.size = g := ⟨_, rfl⟩
        rw [hgf] at hf hrd2 HGL ⊢
        generalize w1.alloc (.cells #[.int .u8 (kk : Nat), .slice D L c] 44) = wa at hr hf hb3 hrd2 ⊢
        have HW1 := Lib.hid hr
        have HGF := Lib.hid hf
        have HBB := Lib.hid hb3
        have HRD := Lib.hid hrd2
        clear hr hf hb3 hrd2 hgf W1 B1 q0 q1
        have hta := fun (er : Nat) (vs : List Nat) (nx : Int) (L' : Nat) (hl : vs.length = L') (he : Var.rall bd 3 0 = (vs, nx, er)) => refTakeAll_at wa D L c bd gf (Nat.le_of_lt HGF.out.lt) HRD.out (by have := HBL.out; have := HL.out; omega) 0 (by omega) (by omega) 3 (by omega) vs nx er L' hl he
        rcases Rc.head_read bd kk with ⟨her, hre⟩ | ⟨n1, n2, n3, pp, hra, hre⟩
        · obtain ⟨y, hy⟩ : ∃ y, Var.rall bd 3 0 = y := ⟨_, rfl⟩
          obtain ⟨vs, nx, er⟩ := y
          have hta2 := hta er vs nx vs.length rfl hy
          rw [hy] at her hre
          simp only at her hre
          have HP := Lib.hid (show Rc.parse b = (Rc.zero 0, er) by
            have e1 : (Rc.readAll bd (Rc.zero kk) (Rc.pre kk 0)).2.2 = er := hre
            rw [HPA2.out, Rc.readAll_stop (j := 0) (by rw [e1]; exact her), if_pos (by rw [e1]; exact her), e1])
          have er0 : ((er : Int) == 0) = false := by simp; omega
          have HTA := Lib.hid hta2
          clear hta2 hta her hre hy
          refine HTA.out.mono ?_
          clear HTA
          rintro en w2 ⟨D2, c2, rfl, ho2, hb2⟩
          have HW2 := Lib.hid (HW1.out.below hb2 HW1.out.lt)
          have HB2 := Lib.hid (HBB.out.trans (hb2.mono HBB.out.size))
          clear ho2 hb2
          go_wp2_with (refine wpList_store_row rfl 31 (.tmp 2) (.tmp 41) rfl w.heap.size (Rc.zero 0).cells rfl rfl 31 _ HW2.out (rrec_size _) rfl (rec_cells _) ?_)
          have k9 := HW2.out.row (Rc.zero 0).cells
          have b9 := Below.setRow HB2.out (g := w.heap.size) (Nat.le_refl _) (Rc.zero 0).cells
          generalize World.setRow w2 w.heap.size (Rc.zero 0).cells = W9 at k9 b9 ⊢
          have r0 : W9.cell? ⟨w.heap.size, 0, none⟩ = some (.int .u8 ((Rc.zero 0).k : Nat)) := k9.cell 0
          have r1 : W9.cell? ⟨w.heap.size, 1, none⟩ = some (.int .u64 ((Rc.zero 0).proc : Nat)) := k9.cell 1
          have r2 : W9.cell? ⟨w.heap.size, 2, none⟩ = some (.int .u64 ((Rc.zero 0).inc : Nat)) := k9.cell 2
          have r3 : W9.cell? ⟨w.heap.size, 3, none⟩ = some (.int .u64 ((Rc.zero 0).seq : Nat)) := k9.cell 3
          have r4 : W9.cell? ⟨w.heap.size, 4, none⟩ = some (.int .u64 ((Rc.zero 0).epoch : Nat)) := k9.cell 4
          have r5 : W9.cell? ⟨w.heap.size, 5, none⟩ = some (.int .u64 ((Rc.zero 0).until_ : Nat)) := k9.cell 5
          have r6 : W9.cell? ⟨w.heap.size, 6, none⟩ = some (.int .u64 ((Rc.zero 0).version : Nat)) := k9.cell 6
          have r7 : W9.cell? ⟨w.heap.size, 7, none⟩ = some (.int .u64 ((Rc.zero 0).clock : Nat)) := k9.cell 7
          have r8 : W9.cell? ⟨w.heap.size, 8, none⟩ = some (.int .u64 ((Rc.zero 0).size : Nat)) := k9.cell 8
          have r9 : W9.cell? ⟨w.heap.size, 9, none⟩ = some (.int .u64 ((Rc.zero 0).crc : Nat)) := k9.cell 9
          have r10 : W9.cell? ⟨w.heap.size, 10, none⟩ = some (.string (Rc.zero 0).name) := k9.cell 10
          have r11 : W9.cell? ⟨w.heap.size, 11, none⟩ = some (.string (Rc.zero 0).to) := k9.cell 11
          clear k9
          have B9 := Lib.hid b9
          clear b9
          rw [HP.out]
          simp [bodyPost, results, Try.results19, go_sem, Rc.val, Rc.cells, Rc.zero, r0, r1, r2, r3, r4, r5, r6, r7, r8, r9, r10, r11]
          exact B9.out
        · have hta2 := hta 0 [n1, n2, n3] pp 3 rfl hra
          have HTA := Lib.hid hta2
          have HRE := Lib.hid hre
          have hri := Rc.readI (b := bd) HBL.out (Rc.zero_ok (k := kk) (by have := HK256.out; omega)) [1, 2, 3]
          rw [hre] at hri
          have HPP := Lib.hid (show 0 ≤ pp ∧ pp ≤ (L : Int) from ⟨hri.2.1, by have := hri.2.2.1; have := HL.out; simp only at *; omega⟩)
          clear hta2 hta hre hra hri
          refine HTA.out.mono ?_
          clear HTA
          rintro en wb ⟨D2, c2, rfl, ho2, hb2⟩
          have HWR := Lib.hid (HW1.out.below hb2 HW1.out.lt)
          have HGB := Lib.hid (HGF.out.below hb2 HGF.out.lt)
          have HRB := Lib.hid (HRD.out.below (hb2.mono (Nat.le_of_lt HGF.out.lt)))
          have HBB2 := Lib.hid (HBB.out.trans (hb2.mono HBB.out.size))
          have HSA := Lib.hid hb2.size
          have HGA := Lib.hid HGF.out.lt
          have HBD := Lib.hid (fun bb oo (hh : D2 = some ⟨bb, oo, none⟩) => (show wa.heap.size ≤ bb from by
            rcases ho2.2 with ⟨h1, _⟩ | ⟨d, cap, cur, hv, hb, _⟩
            · injection h1 with h1
              rw [h1] at hh
              cases hh
            · injection hv with e1
              rw [e1] at hh
              cases hh
              exact hb))
          obtain ⟨bh, oh, rfl, hbh, hcs⟩ := (Rd.of_own ho2).2 (by omega)
          have Q0 := Lib.hid (show wb.cell? ⟨bh, oh, none⟩ = some (.int .u64 (n1 : Nat)) from hcs 0 _ rfl)
          have Q1 := Lib.hid (show wb.cell? ⟨bh, oh + 1, none⟩ = some (.int .u64 (n2 : Nat)) from hcs 1 _ rfl)
          have Q2 := Lib.hid (show wb.cell? ⟨bh, oh + 2, none⟩ = some (.int .u64 (n3 : Nat)) from hcs 2 _ rfl)
          have HBH := Lib.hid hbh
          clear ho2 hb2 hbh hcs HW1 HGF HRD HBB HBD
          go_wp2_with fail
          refine wp_region_tail 13 (fun k' => List.lookup k' [(1, (.fix (.int .u8 (kk : Nat)))), (4, (.fix (.int .u64 (n1 : Nat)))), (7, (.fix (.int .u64 (n2 : Nat)))), (10, (.fix (.int .u64 (n3 : Nat)))), (12, (.box wb.heap.size 31 #[.int .u8 0, .int .u64 0, .int .u64 0, .int .u64 0, .int .u64 0, .int .u64 0, .int .u64 0, .int .u64 0, .int .u64 0, .int .u64 0, .string ⟨#[]⟩, .string ⟨#[]⟩]))]) (by as_aux_lemma => kernel_rfl) (by as_aux_lemma => kernel_rfl) (by as_aux_lemma => kernel_rfl) ?_
          simp only [List.take_succ_cons, List.take_zero]
          repeat (refine wpGrow_pure rfl (fun K hK => ?_); go_simp; refine hK.out _ ?_; clear hK K)
          refine wpGrow_eff _ rfl (fun wx he hcl => ?_) (fun _ K hK => ?_) rfl
          · clear hcl
            have hq := (he.cell (p := ⟨gf, 0, none⟩) HGB.out.lt).trans (show wb.cell? ⟨gf, 0, none⟩ = some (.int .u8 (kk : Nat)) from HGB.out.cell 0)
            go_simp
            exact Below.refl _ _
          go_simp
          refine hK.out _ ?_
          clear hK K
          repeat (refine wpGrow_pure rfl (fun K hK => ?_); go_simp; refine hK.out _ ?_; clear hK K)
          refine wpGrow_eff _ rfl (fun wx he hcl => ?_) (fun _ K hK => ?_) rfl
          · clear hcl
            have hq := (he.cell (p := ⟨bh, oh, none⟩) HBH.out).trans Q0.out
            go_simp
            exact Below.refl _ _
          go_simp
          refine hK.out _ ?_
          clear hK K
          repeat (refine wpGrow_pure rfl (fun K hK => ?_); go_simp; refine hK.out _ ?_; clear hK K)
          refine wpGrow_eff _ rfl (fun wx he hcl => ?_) (fun _ K hK => ?_) rfl
          · clear hcl
            have hq := (he.cell (p := ⟨bh, oh + 1, none⟩) HBH.out).trans Q1.out
            go_simp
            exact Below.refl _ _
          go_simp
          refine hK.out _ ?_
          clear hK K
          repeat (refine wpGrow_pure rfl (fun K hK => ?_); go_simp; refine hK.out _ ?_; clear hK K)
          refine wpGrow_eff _ rfl (fun wx he hcl => ?_) (fun _ K hK => ?_) rfl
          · clear hcl
            have hq := (he.cell (p := ⟨bh, oh + 2, none⟩) HBH.out).trans Q2.out
            go_simp
            exact Below.refl _ _
          go_simp
          refine hK.out _ ?_
          clear hK K
          repeat (refine wpGrow_pure rfl (fun K hK => ?_); go_simp; refine hK.out _ ?_; clear hK K)
          refine wpGrow_eff _ rfl (fun wx he hcl => ?_) (fun (g9 : Nat) K hK => ?_) rfl
          · clear hcl
            have hez := he.size
            go_simp
            exact ⟨Whole.new _ _ _, (Below.refl _ _).alloc (Nat.le_refl _) _⟩
          go_simp
          refine hK.out _ ?_
          clear hK K
          repeat (refine wpGrow_pure rfl (fun K hK => ?_); go_simp; refine hK.out _ ?_; clear hK K)
          refine wpGrow_nil fun wc he hfin => ?_
          have h9 : wb.heap.size ≤ g9 ∧ Whole wc g9 31 #[.int .u8 0, .int .u64 0, .int .u64 0, .int .u64 0, .int .u64 0, .int .u64 0, .int .u64 0, .int .u64 0, .int .u64 0, .int .u64 0, .string ⟨#[]⟩, .string ⟨#[]⟩] := hfin.out 12
          clear hfin
          simp only [List.drop_succ_cons, List.drop_zero]
          have HWR3 := Lib.hid (HWR.out.below he HWR.out.lt)
          have HGB3 := Lib.hid (HGB.out.below he HGB.out.lt)
          have HRB3 := Lib.hid (HRB.out.below (he.mono (Nat.le_trans (Nat.le_of_lt HGA.out) HSA.out)))
          have HBB3 := Lib.hid (HBB2.out.trans (he.mono HBB2.out.size))
          have OR := Lib.hid (show w.heap.size < gf ∧ gf < g9 from by
            have h1 := HGL.out
            have h2 := HGA.out
            have h3 := HSA.out
            have h4 := h9.1
            omega)
          have H9 := Lib.hid h9.2
          clear h9 he HWR HGB HRB HBB2 HSA HGA Q0 Q1 Q2 HBH
          have qf : (World.setRow wc g9 (⟨kk, n1, n2, n3, 0, 0, 0, 0, 0, 0, ⟨#[]⟩, ⟨#[]⟩⟩ : Rc).cells).cell? ⟨gf, 0, none⟩ = some (.int .u8 (kk : Nat)) := (HGB3.out.row_far (k := g9) (by have := OR.out; omega) (⟨kk, n1, n2, n3, 0, 0, 0, 0, 0, 0, ⟨#[]⟩, ⟨#[]⟩⟩ : Rc).cells).cell 0
          go_wp2_with (refine wpList_store_row rfl 31 (.tmp 9) (.tmp 54) rfl g9 (⟨kk, n1, n2, n3, 0, 0, 0, 0, 0, 0, ⟨#[]⟩, ⟨#[]⟩⟩ : Rc).cells rfl rfl 31 _ H9.out (rrec_size _) rfl (rec_cells _) ?_)
          obtain ⟨xh, hxh⟩ : ∃ x, (⟨kk, n1, n2, n3, 0, 0, 0, 0, 0, 0, ⟨#[]⟩, ⟨#[]⟩⟩ : Rc) = x := ⟨_, rfl⟩
          rw [hxh] at HRE ⊢
          clear qf
          clear hxh
          have g1 := H9.out.row xh.cells
          have g2 := HWR3.out.row_far (k := g9) (by have := OR.out; omega) xh.cells
          have g3 := HGB3.out.row_far (k := g9) (by have := OR.out; omega) xh.cells
          have g4 := HRB3.out.below (Below.setRow (Below.refl gf wc) (g := g9) (by have := OR.out; omega) xh.cells)
          have g5 := Below.setRow HBB3.out (g := g9) (by have := OR.out; omega) xh.cells
          generalize World.setRow wc g9 xh.cells = W8 at g1 g2 g3 g4 g5 ⊢
          have G1 := Lib.hid g1
          have G2 := Lib.hid g2
          have G3 := Lib.hid g3
          have G4 := Lib.hid g4
          have G5 := Lib.hid g5
          have G6 := Lib.hid (Nat.le_of_lt g3.lt)
          clear g1 g2 g3 g4 g5 HWR3 HGB3 HRB3 HBB3 H9
          obtain ⟨ls, hls⟩ : ∃ l, Rc.letters kk = l := ⟨_, rfl⟩
          have HLN0 := Lib.hid (show ls.length = (Rc.pl kk).length by rw [← hls]; exact Rc.letters_length _)
          have HLA := Lib.hid (show ∀ j (h : j < (Rc.pl kk).length), ls[j]? = some (Rc.lett (Rc.pl kk)[j]) from fun j h => by rw [← hls]; exact Rc.letters_at h)
          have HLN := Lib.hid (show ls.length ≤ 4 by rw [HLN0.out]; exact Rc.pl_len _)
          have HCP := Lib.hid (parts_any W8 kk (by have := HK256.out; omega))
          rw [hls] at HCP
          clear hls
          refine HCP.out.mono ?_
          clear HCP
          rintro en w3 ⟨rfl, hb3⟩
          replace G1 := Lib.hid (G1.out.below hb3 G1.out.lt)
          replace G2 := Lib.hid (G2.out.below hb3 G2.out.lt)
          replace G3 := Lib.hid (G3.out.below hb3 G3.out.lt)
          replace G4 := Lib.hid (G4.out.below (hb3.mono G6.out))
          replace G5 := Lib.hid (G5.out.trans (hb3.mono G5.out.size))
          replace G6 := Lib.hid (Nat.le_trans G6.out hb3.size)
          clear hb3
          go_wp2_with fail
          go_loopw [7, 8, 11, 12, 13] (fun v7 v8 i _ _ wr => ∃ (j : Nat) (xr : Rc) (pp : Int), j ≤ ls.length ∧ v7 = .int .i64 pp ∧ v8 = .int .i64 0 ∧ i = .int .i64 j ∧ Hid (Rc.readAll bd (Rc.zero kk) (Rc.pre kk j) = (xr, pp, 0) ∧ 0 ≤ pp ∧ pp ≤ (L : Int)) ∧ Hid (Whole wr g9 31 xr.cells) ∧ Hid (Whole wr w.heap.size 31 #[.int .u8 0, .int .u64 0, .int .u64 0, .int .u64 0, .int .u64 0, .int .u64 0, .int .u64 0, .int .u64 0, .int .u64 0, .int .u64 0, .string ⟨#[]⟩, .string ⟨#[]⟩]) ∧ Hid (Whole wr gf 44 #[.int .u8 (kk : Nat), .slice D L c]) ∧ Hid (Rd wr gf 1 D L (byts bd)) ∧ Hid (Below w.heap.size w wr) ∧ Hid (gf ≤ wr.heap.size)) (fun _ _ i _ _ _ => ls.length - (intOf i).toNat)
          case atStart => exact ⟨0, xh, pp, Nat.zero_le _, rfl, rfl, rfl, Lib.hid ⟨HRE.out, HPP.out⟩, G1, G2, G3, G4, G5, G6⟩
          case round =>
            clear G1 G2 G3 G4 G5 G6 HRE HPP
            obtain ⟨j, xr, pp, hj, rfl, rfl, rfl, HRP, HX, HR, HF, HD, HBB, HSB⟩ := hrel
            have hsz : (⟨ls.toArray⟩ : ByteArray).size = ls.length := rfl
            by_cases hlt : j < ls.length
            · have hd : decide ((j : Int) < (ls.length : Int)) = true := by simp; omega
              have hjp : j < (Rc.pl kk).length := by rw [← HLN0.out]; exact hlt
              have HP8 := Lib.hid (Rc.pl_lt kk _ (List.getElem_mem hjp))
              have HTK := Lib.hid (Rc.pre_succ hjp)
              have hcj := HLA.out j hjp
              obtain ⟨p, hp⟩ : ∃ p, (Rc.pl kk)[j] = p := ⟨_, rfl⟩
              rw [hp] at hcj HTK HP8
              obtain ⟨cl, hc⟩ : ∃ c, Rc.lett p = c := ⟨_, rfl⟩
              rw [hc] at hcj
              have HC := Lib.hid hc
              have hcj2 : (⟨ls.toArray⟩ : ByteArray).data.toList[j]? = some cl := by rw [List.toList_toArray]; exact hcj
              have HCJ := Lib.hid hcj2
              have hix : ∀ w : World, (Instr.index 9 (.string ⟨ls.toArray⟩) (.int .i64 (j : Nat))).run Try.prog w = .ok (.int .u8 (cl.toNat : Nat)) w := fun w => run_index_str Try.underlying9 hcj2 _
              have w1 : IntKind.i64.wrap ((j : Int) + 1) = ((j + 1 : Nat) : Int) := by rw [IntKind.wrap_i64]; have := HLN.out; omega
              clear hcj2 hcj hjp hp hc
              go_wp2_with fail
              by_cases h6 : 6 ≤ p
              · skip
                have hct := isText_any wr cl.toNat
                rw [← HC.out, Rc.lett_text HP8.out, HC.out, decide_eq_true h6] at hct
                obtain ⟨tt, htt⟩ : ∃ x, Var.ttext bd pp = x := ⟨_, rfl⟩
                obtain ⟨t, nx, er⟩ := tt
                have hrs : Rc.readAll bd (Rc.zero kk) (Rc.pre kk (j + 1)) = (xr.put (p + 4) 0 ⟨t.toArray⟩, nx, er) := by
                  rw [HTK.out, Rc.readAll_snoc, HRP.out.1]
                  unfold Rc.readStep
                  simp only [htt]
                  rw [if_pos True.intro, if_neg (by omega)]
                have hnx : er = 0 → 0 ≤ nx ∧ nx ≤ (L : Int) := fun h0 => by
                  rcases Var.ttext_cases bd pp with ⟨t', n', q', hv, _, h1, h2, _⟩ | hv | hv <;> rw [htt] at hv
                  · injection hv with _ hv
                    injection hv with hv _
                    have := HL.out
                    omega
                  · injection hv with _ hv
                    injection hv with _ hv
                    omega
                  · injection hv with _ hv
                    injection hv with _ hv
                    omega
                have hwi : ∀ w : World, Calls Try.prog 33 #[.agg xr.cells, .int .u8 (cl.toNat : Nat), .int .u64 0, .string ⟨t.toArray⟩] w (fun en w' => en = .returned (.agg (xr.put (p + 4) 0 ⟨t.toArray⟩).cells) ∧ Below w.heap.size w w') := fun w => by
                  have h := with_any w xr cl.toNat 0 ⟨t.toArray⟩
                  rw [← HC.out, Rc.lett_with xr HP8.out] at h
                  rw [← HC.out]
                  exact h
                obtain ⟨xn, hxn⟩ : ∃ x, xr.put (p + 4) 0 ⟨t.toArray⟩ = x := ⟨_, rfl⟩
                rw [hxn] at hrs hwi
                have HWI := Lib.hid hwi
                have HRS0 := Lib.hid hrs
                have HNX0 := Lib.hid hnx
                clear hxn hwi hrs hnx
                refine hct.mono ?_
                clear hct
                rintro en w4 ⟨rfl, hb4⟩
                replace HX := Lib.hid (HX.out.below hb4 HX.out.lt)
                replace HR := Lib.hid (HR.out.below hb4 HR.out.lt)
                replace HF := Lib.hid (HF.out.below hb4 HF.out.lt)
                replace HD := Lib.hid (HD.out.below (hb4.mono HSB.out))
                replace HBB := Lib.hid (HBB.out.trans (hb4.mono HBB.out.size))
                replace HSB := Lib.hid (Nat.le_trans HSB.out hb4.size)
                clear hb4
                have qf : w4.cell? ⟨gf, 1, none⟩ = some (.slice D L c) := HF.out.cell 1
                have hcl2 := refTakeText_at w4 D L c bd gf HSB.out HD.out HLC.out.1 (by have := HBL.out; have := HL.out; omega) pp (by have := HRP.out.2; omega) (by have := HRP.out.2; have := HBL.out; have := HL.out; omega) t nx er htt
                have HCL2 := Lib.hid hcl2
                clear hcl2 htt
                go_wp2_with fail
                clear qf
                refine HCL2.out.mono ?_
                clear HCL2
                rintro en w5 ⟨rfl, hb5⟩
                replace HX := Lib.hid (HX.out.below hb5 HX.out.lt)
                replace HR := Lib.hid (HR.out.below hb5 HR.out.lt)
                replace HF := Lib.hid (HF.out.below hb5 HF.out.lt)
                replace HD := Lib.hid (HD.out.below (hb5.mono HSB.out))
                replace HBB := Lib.hid (HBB.out.trans (hb5.mono HBB.out.size))
                replace HSB := Lib.hid (Nat.le_trans HSB.out hb5.size)
                clear hb5
                by_cases her : er = 0
                · have HRS := Lib.hid (show Rc.readAll bd (Rc.zero kk) (Rc.pre kk (j + 1)) = (xn, nx, 0) by rw [HRS0.out, her])
                  have HNX := Lib.hid (HNX0.out her)
                  have hz : ((er : Nat) : Int) = 0 := by omega
                  rw [hz]
                  clear her hz HRS0 HNX0
                  go_wp2_with fail
                  refine wp_region_tail 7 (fun k' => List.lookup k' [(0, (.fix (.agg xr.cells))), (3, (.fix (.int .u8 (cl.toNat : Nat)))), (6, (.fix (.agg xn.cells)))]) (by as_aux_lemma => kernel_rfl) (by as_aux_lemma => kernel_rfl) (by as_aux_lemma => kernel_rfl) ?_
                  simp only [List.take_succ_cons, List.take_zero]
                  repeat (refine wpGrow_pure rfl (fun K hK => ?_); go_simp; refine hK.out _ ?_; clear hK K)
                  refine wpGrow_eff _ rfl (fun wx he hcl => ?_) (fun _ K hK => ?_) rfl
                  · clear hcl
                    exact growAt_load_row rfl rfl (HX.out.below he HX.out.lt) Try.underlying31 rfl (rrec_size _)
                  go_simp
                  refine hK.out _ ?_
                  clear hK K
                  repeat (refine wpGrow_pure rfl (fun K hK => ?_); go_simp; refine hK.out _ ?_; clear hK K)
                  refine wpGrow_eff _ rfl (fun wx he hcl => ?_) (fun _ K hK => ?_) rfl
                  · clear hcl
                    exact growAt_index rfl rfl rfl Try.underlying9 HCJ.out
                  go_simp
                  refine hK.out _ ?_
                  clear hK K
                  repeat (refine wpGrow_pure rfl (fun K hK => ?_); go_simp; refine hK.out _ ?_; clear hK K)
                  refine wpGrow_eff _ rfl (fun wx he hcl => ?_) (fun _ K hK => ?_) rfl
                  · clear hcl
                    have hcon := (show Calls Try.prog 33 #[.agg xr.cells, .int .u8 (cl.toNat : Nat), .int .u64 0, .string ⟨t.toArray⟩] wx (fun en w' => en = .returned (.agg xn.cells) ∧ Below wx.heap.size wx w') from HWI.out wx)
                    go_simp
                    try exact hcon
                  go_simp
                  refine hK.out _ ?_
                  clear hK K
                  repeat (refine wpGrow_pure rfl (fun K hK => ?_); go_simp; refine hK.out _ ?_; clear hK K)
                  refine wpGrow_nil fun wx he hfin => ?_
                  clear hfin
                  have HX8 := Lib.hid (HX.out.below he HX.out.lt)
                  have HR8 := Lib.hid (HR.out.below he HR.out.lt)
                  have HF8 := Lib.hid (HF.out.below he HF.out.lt)
                  have HD8 := Lib.hid (HD.out.below (he.mono HSB.out))
                  have HB8 := Lib.hid (HBB.out.trans (he.mono HBB.out.size))
                  have HS8 := Lib.hid (Nat.le_trans HSB.out he.size)
                  clear he
                  simp only [List.drop_succ_cons, List.drop_zero]
                  go_wp2_with (refine wpList_store_row rfl 31 (.tmp 9) (.tmp 94) rfl g9 xn.cells rfl rfl 31 _ HX8.out (rrec_size _) rfl (rec_cells _) ?_)
                  have g1 := HX8.out.row xn.cells
                  have g2 := HR8.out.row_far (k := g9) (by have := OR.out; omega) xn.cells
                  have g3 := HF8.out.row_far (k := g9) (by have := OR.out; omega) xn.cells
                  have g4 := HD8.out.below (Below.setRow (Below.refl gf wx) (g := g9) (by have := OR.out; omega) xn.cells)
                  have g5 := Below.setRow HB8.out (g := g9) (by have := OR.out; omega) xn.cells
                  have g6 : gf ≤ (World.setRow wx g9 xn.cells).heap.size := by have h0 := HS8.out; have h1 := (Below.setRow (Below.refl gf wx) (g := g9) (by have := OR.out; omega) xn.cells).size; omega
                  generalize World.setRow wx g9 xn.cells = W8 at g1 g2 g3 g4 g5 g6 ⊢
                  have G1 := Lib.hid g1
                  have G2 := Lib.hid g2
                  have G3 := Lib.hid g3
                  have G4 := Lib.hid g4
                  have G5 := Lib.hid g5
                  have G6 := Lib.hid g6
                  clear g1 g2 g3 g4 g5 g6 HX8 HR8 HF8 HD8 HB8 HS8
                  go_wp2_with fail
                  go_roundw
                  case rel => exact ⟨j + 1, xn, nx, by omega, rfl, rfl, by first | rfl | go_num, Lib.hid ⟨HRS.out, HNX.out⟩, G1, G2, G3, G4, G5, G6⟩
                  case measure => simp [intOf] <;> omega
                · have HRS := Lib.hid HRS0.out
                  have HER := Lib.hid her
                  clear her HRS0 HNX0
                  have HP := Lib.hid (show Rc.parse b = (Rc.zero 0, er) by
                    rw [HPA2.out, Rc.readAll_stop (j := j + 1) (by rw [HRS.out]; exact HER.out), HRS.out, if_pos HER.out])
                  have er0 : ((er : Int) == 0) = false := by have := HER.out; simp; omega
                  go_wp2_with (refine wpList_store_row rfl 31 (.tmp 2) (.tmp 86) rfl w.heap.size (Rc.zero 0).cells rfl rfl 31 _ HR.out (rrec_size _) rfl (rec_cells _) ?_)
                  have k9 := HR.out.row (Rc.zero 0).cells
                  have b9 := Below.setRow HBB.out (g := w.heap.size) (Nat.le_refl _) (Rc.zero 0).cells
                  generalize World.setRow w5 w.heap.size (Rc.zero 0).cells = W9 at k9 b9 ⊢
                  have r0 : W9.cell? ⟨w.heap.size, 0, none⟩ = some (.int .u8 ((Rc.zero 0).k : Nat)) := k9.cell 0
                  have r1 : W9.cell? ⟨w.heap.size, 1, none⟩ = some (.int .u64 ((Rc.zero 0).proc : Nat)) := k9.cell 1
                  have r2 : W9.cell? ⟨w.heap.size, 2, none⟩ = some (.int .u64 ((Rc.zero 0).inc : Nat)) := k9.cell 2
                  have r3 : W9.cell? ⟨w.heap.size, 3, none⟩ = some (.int .u64 ((Rc.zero 0).seq : Nat)) := k9.cell 3
                  have r4 : W9.cell? ⟨w.heap.size, 4, none⟩ = some (.int .u64 ((Rc.zero 0).epoch : Nat)) := k9.cell 4
                  have r5 : W9.cell? ⟨w.heap.size, 5, none⟩ = some (.int .u64 ((Rc.zero 0).until_ : Nat)) := k9.cell 5
                  have r6 : W9.cell? ⟨w.heap.size, 6, none⟩ = some (.int .u64 ((Rc.zero 0).version : Nat)) := k9.cell 6
                  have r7 : W9.cell? ⟨w.heap.size, 7, none⟩ = some (.int .u64 ((Rc.zero 0).clock : Nat)) := k9.cell 7
                  have r8 : W9.cell? ⟨w.heap.size, 8, none⟩ = some (.int .u64 ((Rc.zero 0).size : Nat)) := k9.cell 8
                  have r9 : W9.cell? ⟨w.heap.size, 9, none⟩ = some (.int .u64 ((Rc.zero 0).crc : Nat)) := k9.cell 9
                  have r10 : W9.cell? ⟨w.heap.size, 10, none⟩ = some (.string (Rc.zero 0).name) := k9.cell 10
                  have r11 : W9.cell? ⟨w.heap.size, 11, none⟩ = some (.string (Rc.zero 0).to) := k9.cell 11
                  clear k9
                  have B9 := Lib.hid b9
                  clear b9
                  rw [HP.out]
                  simp [bodyPost, results, Try.results19, go_sem, Rc.val, Rc.cells, Rc.zero, r0, r1, r2, r3, r4, r5, r6, r7, r8, r9, r10, r11]
                  exact B9.out
              · skip
                have hct := isText_any wr cl.toNat
                rw [← HC.out, Rc.lett_text HP8.out, HC.out, decide_eq_false h6] at hct
                obtain ⟨tt, htt⟩ : ∃ x, Var.take bd pp = x := ⟨_, rfl⟩
                obtain ⟨v, nx, er⟩ := tt
                have hrs : Rc.readAll bd (Rc.zero kk) (Rc.pre kk (j + 1)) = (xr.put (p + 4) v ⟨#[]⟩, nx, er) := by
                  rw [HTK.out, Rc.readAll_snoc, HRP.out.1]
                  unfold Rc.readStep
                  simp only [htt]
                  rw [if_pos True.intro, if_pos (by omega)]
                have hnx : er = 0 → 0 ≤ nx ∧ nx ≤ (L : Int) := fun h0 => by
                  rcases Var.take_cases bd pp with ⟨t', n', q', hv, _, h1, h2, _⟩ | hv | hv <;> rw [htt] at hv
                  · injection hv with _ hv
                    injection hv with hv _
                    have := HL.out
                    omega
                  · injection hv with _ hv
                    injection hv with _ hv
                    omega
                  · injection hv with _ hv
                    injection hv with _ hv
                    omega
                have hwi : ∀ w : World, Calls Try.prog 33 #[.agg xr.cells, .int .u8 (cl.toNat : Nat), .int .u64 (v : Nat), .string ⟨#[]⟩] w (fun en w' => en = .returned (.agg (xr.put (p + 4) v ⟨#[]⟩).cells) ∧ Below w.heap.size w w') := fun w => by
                  have h := with_any w xr cl.toNat v ⟨#[]⟩
                  rw [← HC.out, Rc.lett_with xr HP8.out] at h
                  rw [← HC.out]
                  exact h
                obtain ⟨xn, hxn⟩ : ∃ x, xr.put (p + 4) v ⟨#[]⟩ = x := ⟨_, rfl⟩
                rw [hxn] at hrs hwi
                have HWI := Lib.hid hwi
                have HRS0 := Lib.hid hrs
                have HNX0 := Lib.hid hnx
                clear hxn hwi hrs hnx
                refine hct.mono ?_
                clear hct
                rintro en w4 ⟨rfl, hb4⟩
                replace HX := Lib.hid (HX.out.below hb4 HX.out.lt)
                replace HR := Lib.hid (HR.out.below hb4 HR.out.lt)
                replace HF := Lib.hid (HF.out.below hb4 HF.out.lt)
                replace HD := Lib.hid (HD.out.below (hb4.mono HSB.out))
                replace HBB := Lib.hid (HBB.out.trans (hb4.mono HBB.out.size))
                replace HSB := Lib.hid (Nat.le_trans HSB.out hb4.size)
                clear hb4
                have qf : w4.cell? ⟨gf, 1, none⟩ = some (.slice D L c) := HF.out.cell 1
                have hcl2 := refTake_at w4 D L c bd gf HSB.out HD.out (by have := HBL.out; have := HL.out; omega) pp (by have := HRP.out.2; omega) (by have := HRP.out.2; have := HBL.out; have := HL.out; omega) v nx er htt
                have HCL2 := Lib.hid hcl2
                clear hcl2 htt
                go_wp2_with fail
                clear qf
                refine HCL2.out.mono ?_
                clear HCL2
                rintro en w5 ⟨rfl, hb5⟩
                replace HX := Lib.hid (HX.out.below hb5 HX.out.lt)
                replace HR := Lib.hid (HR.out.below hb5 HR.out.lt)
                replace HF := Lib.hid (HF.out.below hb5 HF.out.lt)
                replace HD := Lib.hid (HD.out.below (hb5.mono HSB.out))
                replace HBB := Lib.hid (HBB.out.trans (hb5.mono HBB.out.size))
                replace HSB := Lib.hid (Nat.le_trans HSB.out hb5.size)
                clear hb5
                by_cases her : er = 0
                · have HRS := Lib.hid (show Rc.readAll bd (Rc.zero kk) (Rc.pre kk (j + 1)) = (xn, nx, 0) by rw [HRS0.out, her])
                  have HNX := Lib.hid (HNX0.out her)
                  have hz : ((er : Nat) : Int) = 0 := by omega
                  rw [hz]
                  clear her hz HRS0 HNX0
                  go_wp2_with fail
                  refine wp_region_tail 7 (fun k' => List.lookup k' [(0, (.fix (.agg xr.cells))), (3, (.fix (.int .u8 (cl.toNat : Nat)))), (6, (.fix (.agg xn.cells)))]) (by as_aux_lemma => kernel_rfl) (by as_aux_lemma => kernel_rfl) (by as_aux_lemma => kernel_rfl) ?_
                  simp only [List.take_succ_cons, List.take_zero]
                  repeat (refine wpGrow_pure rfl (fun K hK => ?_); go_simp; refine hK.out _ ?_; clear hK K)
                  refine wpGrow_eff _ rfl (fun wx he hcl => ?_) (fun _ K hK => ?_) rfl
                  · clear hcl
                    exact growAt_load_row rfl rfl (HX.out.below he HX.out.lt) Try.underlying31 rfl (rrec_size _)
                  go_simp
                  refine hK.out _ ?_
                  clear hK K
                  repeat (refine wpGrow_pure rfl (fun K hK => ?_); go_simp; refine hK.out _ ?_; clear hK K)
                  refine wpGrow_eff _ rfl (fun wx he hcl => ?_) (fun _ K hK => ?_) rfl
                  · clear hcl
                    exact growAt_index rfl rfl rfl Try.underlying9 HCJ.out
                  go_simp
                  refine hK.out _ ?_
                  clear hK K
                  repeat (refine wpGrow_pure rfl (fun K hK => ?_); go_simp; refine hK.out _ ?_; clear hK K)
                  refine wpGrow_eff _ rfl (fun wx he hcl => ?_) (fun _ K hK => ?_) rfl
                  · clear hcl
                    have hcon := (show Calls Try.prog 33 #[.agg xr.cells, .int .u8 (cl.toNat : Nat), .int .u64 (v : Nat), .string ⟨#[]⟩] wx (fun en w' => en = .returned (.agg xn.cells) ∧ Below wx.heap.size wx w') from HWI.out wx)
                    go_simp
                    try exact hcon
                  go_simp
                  refine hK.out _ ?_
                  clear hK K
                  repeat (refine wpGrow_pure rfl (fun K hK => ?_); go_simp; refine hK.out _ ?_; clear hK K)
                  refine wpGrow_nil fun wx he hfin => ?_
                  clear hfin
                  have HX8 := Lib.hid (HX.out.below he HX.out.lt)
                  have HR8 := Lib.hid (HR.out.below he HR.out.lt)
                  have HF8 := Lib.hid (HF.out.below he HF.out.lt)
                  have HD8 := Lib.hid (HD.out.below (he.mono HSB.out))
                  have HB8 := Lib.hid (HBB.out.trans (he.mono HBB.out.size))
                  have HS8 := Lib.hid (Nat.le_trans HSB.out he.size)
                  clear he
                  simp only [List.drop_succ_cons, List.drop_zero]
                  go_wp2_with (refine wpList_store_row rfl 31 (.tmp 9) (.tmp 94) rfl g9 xn.cells rfl rfl 31 _ HX8.out (rrec_size _) rfl (rec_cells _) ?_)
                  have g1 := HX8.out.row xn.cells
                  have g2 := HR8.out.row_far (k := g9) (by have := OR.out; omega) xn.cells
                  have g3 := HF8.out.row_far (k := g9) (by have := OR.out; omega) xn.cells
                  have g4 := HD8.out.below (Below.setRow (Below.refl gf wx) (g := g9) (by have := OR.out; omega) xn.cells)
                  have g5 := Below.setRow HB8.out (g := g9) (by have := OR.out; omega) xn.cells
                  have g6 : gf ≤ (World.setRow wx g9 xn.cells).heap.size := by have h0 := HS8.out; have h1 := (Below.setRow (Below.refl gf wx) (g := g9) (by have := OR.out; omega) xn.cells).size; omega
                  generalize World.setRow wx g9 xn.cells = W8 at g1 g2 g3 g4 g5 g6 ⊢
                  have G1 := Lib.hid g1
                  have G2 := Lib.hid g2
                  have G3 := Lib.hid g3
                  have G4 := Lib.hid g4
                  have G5 := Lib.hid g5
                  have G6 := Lib.hid g6
                  clear g1 g2 g3 g4 g5 g6 HX8 HR8 HF8 HD8 HB8 HS8
                  go_wp2_with fail
                  go_roundw
                  case rel => exact ⟨j + 1, xn, nx, by omega, rfl, rfl, by first | rfl | go_num, Lib.hid ⟨HRS.out, HNX.out⟩, G1, G2, G3, G4, G5, G6⟩
                  case measure => simp [intOf] <;> omega
                · have HRS := Lib.hid HRS0.out
                  have HER := Lib.hid her
                  clear her HRS0 HNX0
                  have HP := Lib.hid (show Rc.parse b = (Rc.zero 0, er) by
                    rw [HPA2.out, Rc.readAll_stop (j := j + 1) (by rw [HRS.out]; exact HER.out), HRS.out, if_pos HER.out])
                  have er0 : ((er : Int) == 0) = false := by have := HER.out; simp; omega
                  go_wp2_with (refine wpList_store_row rfl 31 (.tmp 2) (.tmp 86) rfl w.heap.size (Rc.zero 0).cells rfl rfl 31 _ HR.out (rrec_size _) rfl (rec_cells _) ?_)
                  have k9 := HR.out.row (Rc.zero 0).cells
                  have b9 := Below.setRow HBB.out (g := w.heap.size) (Nat.le_refl _) (Rc.zero 0).cells
                  generalize World.setRow w5 w.heap.size (Rc.zero 0).cells = W9 at k9 b9 ⊢
                  have r0 : W9.cell? ⟨w.heap.size, 0, none⟩ = some (.int .u8 ((Rc.zero 0).k : Nat)) := k9.cell 0
                  have r1 : W9.cell? ⟨w.heap.size, 1, none⟩ = some (.int .u64 ((Rc.zero 0).proc : Nat)) := k9.cell 1
                  have r2 : W9.cell? ⟨w.heap.size, 2, none⟩ = some (.int .u64 ((Rc.zero 0).inc : Nat)) := k9.cell 2
                  have r3 : W9.cell? ⟨w.heap.size, 3, none⟩ = some (.int .u64 ((Rc.zero 0).seq : Nat)) := k9.cell 3
                  have r4 : W9.cell? ⟨w.heap.size, 4, none⟩ = some (.int .u64 ((Rc.zero 0).epoch : Nat)) := k9.cell 4
                  have r5 : W9.cell? ⟨w.heap.size, 5, none⟩ = some (.int .u64 ((Rc.zero 0).until_ : Nat)) := k9.cell 5
                  have r6 : W9.cell? ⟨w.heap.size, 6, none⟩ = some (.int .u64 ((Rc.zero 0).version : Nat)) := k9.cell 6
                  have r7 : W9.cell? ⟨w.heap.size, 7, none⟩ = some (.int .u64 ((Rc.zero 0).clock : Nat)) := k9.cell 7
                  have r8 : W9.cell? ⟨w.heap.size, 8, none⟩ = some (.int .u64 ((Rc.zero 0).size : Nat)) := k9.cell 8
                  have r9 : W9.cell? ⟨w.heap.size, 9, none⟩ = some (.int .u64 ((Rc.zero 0).crc : Nat)) := k9.cell 9
                  have r10 : W9.cell? ⟨w.heap.size, 10, none⟩ = some (.string (Rc.zero 0).name) := k9.cell 10
                  have r11 : W9.cell? ⟨w.heap.size, 11, none⟩ = some (.string (Rc.zero 0).to) := k9.cell 11
                  clear k9
                  have B9 := Lib.hid b9
                  clear b9
                  rw [HP.out]
                  simp [bodyPost, results, Try.results19, go_sem, Rc.val, Rc.cells, Rc.zero, r0, r1, r2, r3, r4, r5, r6, r7, r8, r9, r10, r11]
                  exact B9.out
            · obtain rfl : j = ls.length := by omega
              have hd : decide ((ls.length : Int) < (ls.length : Int)) = false := by simp
              have hre := HRP.out.1
              rw [HLN0.out, Rc.pre_all] at hre
              have hp3 : Rc.parse b = if pp < (L : Int) then (Rc.zero 0, 11) else if xr.right = true then (xr, 0) else (Rc.zero 0, 2) := by
                rw [HPA2.out, hre, HL.out]
                rfl
              have hxo := Rc.readI (b := bd) HBL.out (Rc.zero_ok (k := kk) (by have := HK256.out; omega)) (Rc.places kk)
              rw [hre] at hxo
              have HXO := Lib.hid (show xr.ok from hxo.1)
              have qf : wr.cell? ⟨gf, 1, none⟩ = some (.slice D L c) := HF.out.cell 1
              clear hre hxo hj hlt
              by_cases hlt : pp < (L : Int)
              · have hd2 : decide (pp < (L : Int)) = true := by simpa using hlt
                have HP := Lib.hid (show Rc.parse b = (Rc.zero 0, 11) by rw [hp3, if_pos hlt])
                clear hlt hp3
                go_wp2_with (refine wpList_store_row rfl 31 (.tmp 2) (.tmp 100) rfl w.heap.size (Rc.zero 0).cells rfl rfl 31 _ HR.out (rrec_size _) rfl (rec_cells _) ?_)
                have k9 := HR.out.row (Rc.zero 0).cells
                have b9 := Below.setRow HBB.out (g := w.heap.size) (Nat.le_refl _) (Rc.zero 0).cells
                generalize World.setRow wr w.heap.size (Rc.zero 0).cells = W9 at k9 b9 ⊢
                have r0 : W9.cell? ⟨w.heap.size, 0, none⟩ = some (.int .u8 ((Rc.zero 0).k : Nat)) := k9.cell 0
                have r1 : W9.cell? ⟨w.heap.size, 1, none⟩ = some (.int .u64 ((Rc.zero 0).proc : Nat)) := k9.cell 1
                have r2 : W9.cell? ⟨w.heap.size, 2, none⟩ = some (.int .u64 ((Rc.zero 0).inc : Nat)) := k9.cell 2
                have r3 : W9.cell? ⟨w.heap.size, 3, none⟩ = some (.int .u64 ((Rc.zero 0).seq : Nat)) := k9.cell 3
                have r4 : W9.cell? ⟨w.heap.size, 4, none⟩ = some (.int .u64 ((Rc.zero 0).epoch : Nat)) := k9.cell 4
                have r5 : W9.cell? ⟨w.heap.size, 5, none⟩ = some (.int .u64 ((Rc.zero 0).until_ : Nat)) := k9.cell 5
                have r6 : W9.cell? ⟨w.heap.size, 6, none⟩ = some (.int .u64 ((Rc.zero 0).version : Nat)) := k9.cell 6
                have r7 : W9.cell? ⟨w.heap.size, 7, none⟩ = some (.int .u64 ((Rc.zero 0).clock : Nat)) := k9.cell 7
                have r8 : W9.cell? ⟨w.heap.size, 8, none⟩ = some (.int .u64 ((Rc.zero 0).size : Nat)) := k9.cell 8
                have r9 : W9.cell? ⟨w.heap.size, 9, none⟩ = some (.int .u64 ((Rc.zero 0).crc : Nat)) := k9.cell 9
                have r10 : W9.cell? ⟨w.heap.size, 10, none⟩ = some (.string (Rc.zero 0).name) := k9.cell 10
                have r11 : W9.cell? ⟨w.heap.size, 11, none⟩ = some (.string (Rc.zero 0).to) := k9.cell 11
                clear k9
                have B9 := Lib.hid b9
                clear b9
                rw [HP.out]
                simp [bodyPost, results, Try.results19, go_sem, Rc.val, Rc.cells, Rc.zero, r0, r1, r2, r3, r4, r5, r6, r7, r8, r9, r10, r11]
                exact B9.out
              · have hd2 : decide (pp < (L : Int)) = false := by simpa using hlt
                have HP4 := Lib.hid (show Rc.parse b = if xr.right = true then (xr, 0) else (Rc.zero 0, 2) by rw [hp3, if_neg hlt])
                have HRA := Lib.hid (show Calls Try.prog 15 #[.agg xr.cells] wr (fun en w' => en = .returned (.bool xr.right) ∧ Below wr.heap.size wr w') from by rw [Rc.right_rright]; exact rright_any wr xr HXO.out)
                clear hlt hp3
                go_wp2_with (refine wpList_load_row rfl 31 (.tmp 9) rfl g9 rfl 31 xr.cells (0, 0) _ ?_ Try.underlying31 rfl (rrec_size xr) ?_; · exact HX.out)
                refine HRA.out.mono ?_
                clear HRA qf
                rintro en w5 ⟨rfl, hb5⟩
                replace HR := Lib.hid (HR.out.below hb5 HR.out.lt)
                replace HX := Lib.hid (HX.out.below hb5 HX.out.lt)
                replace HBB := Lib.hid (HBB.out.trans (hb5.mono HBB.out.size))
                clear hb5
                cases hxr : xr.right with
                | false =>
                  have HP := Lib.hid (show Rc.parse b = (Rc.zero 0, 2) by rw [HP4.out, hxr]; rfl)
                  clear hxr HP4
                  go_wp2_with (refine wpList_store_row rfl 31 (.tmp 2) (.tmp 104) rfl w.heap.size (Rc.zero 0).cells rfl rfl 31 _ HR.out (rrec_size _) rfl (rec_cells _) ?_)
                  have k9 := HR.out.row (Rc.zero 0).cells
                  have b9 := Below.setRow HBB.out (g := w.heap.size) (Nat.le_refl _) (Rc.zero 0).cells
                  generalize World.setRow w5 w.heap.size (Rc.zero 0).cells = W9 at k9 b9 ⊢
                  have r0 : W9.cell? ⟨w.heap.size, 0, none⟩ = some (.int .u8 ((Rc.zero 0).k : Nat)) := k9.cell 0
                  have r1 : W9.cell? ⟨w.heap.size, 1, none⟩ = some (.int .u64 ((Rc.zero 0).proc : Nat)) := k9.cell 1
                  have r2 : W9.cell? ⟨w.heap.size, 2, none⟩ = some (.int .u64 ((Rc.zero 0).inc : Nat)) := k9.cell 2
                  have r3 : W9.cell? ⟨w.heap.size, 3, none⟩ = some (.int .u64 ((Rc.zero 0).seq : Nat)) := k9.cell 3
                  have r4 : W9.cell? ⟨w.heap.size, 4, none⟩ = some (.int .u64 ((Rc.zero 0).epoch : Nat)) := k9.cell 4
                  have r5 : W9.cell? ⟨w.heap.size, 5, none⟩ = some (.int .u64 ((Rc.zero 0).until_ : Nat)) := k9.cell 5
                  have r6 : W9.cell? ⟨w.heap.size, 6, none⟩ = some (.int .u64 ((Rc.zero 0).version : Nat)) := k9.cell 6
                  have r7 : W9.cell? ⟨w.heap.size, 7, none⟩ = some (.int .u64 ((Rc.zero 0).clock : Nat)) := k9.cell 7
                  have r8 : W9.cell? ⟨w.heap.size, 8, none⟩ = some (.int .u64 ((Rc.zero 0).size : Nat)) := k9.cell 8
                  have r9 : W9.cell? ⟨w.heap.size, 9, none⟩ = some (.int .u64 ((Rc.zero 0).crc : Nat)) := k9.cell 9
                  have r10 : W9.cell? ⟨w.heap.size, 10, none⟩ = some (.string (Rc.zero 0).name) := k9.cell 10
                  have r11 : W9.cell? ⟨w.heap.size, 11, none⟩ = some (.string (Rc.zero 0).to) := k9.cell 11
                  clear k9
                  have B9 := Lib.hid b9
                  clear b9
                  rw [HP.out]
                  simp [bodyPost, results, Try.results19, go_sem, Rc.val, Rc.cells, Rc.zero, r0, r1, r2, r3, r4, r5, r6, r7, r8, r9, r10, r11]
                  exact B9.out
                | true =>
                  have HP := Lib.hid (show Rc.parse b = (xr, 0) by rw [HP4.out, hxr]; rfl)
                  clear hxr HP4
                  go_wp2_with (first
                    | (refine wpList_load_row rfl 31 (.tmp 9) rfl g9 rfl 31 xr.cells (0, 0) _ ?_ Try.underlying31 rfl (rrec_size xr) ?_; · exact HX.out)
                    | (refine wpList_store_row rfl 31 (.tmp 2) (.tmp 105) rfl w.heap.size xr.cells rfl rfl 31 _ HR.out (rrec_size _) rfl (rec_cells _) ?_))
                  have k9 := HR.out.row xr.cells
                  have b9 := Below.setRow HBB.out (g := w.heap.size) (Nat.le_refl _) xr.cells
                  generalize World.setRow w5 w.heap.size xr.cells = W9 at k9 b9 ⊢
                  have r0 : W9.cell? ⟨w.heap.size, 0, none⟩ = some (.int .u8 (xr.k : Nat)) := k9.cell 0
                  have r1 : W9.cell? ⟨w.heap.size, 1, none⟩ = some (.int .u64 (xr.proc : Nat)) := k9.cell 1
                  have r2 : W9.cell? ⟨w.heap.size, 2, none⟩ = some (.int .u64 (xr.inc : Nat)) := k9.cell 2
                  have r3 : W9.cell? ⟨w.heap.size, 3, none⟩ = some (.int .u64 (xr.seq : Nat)) := k9.cell 3
                  have r4 : W9.cell? ⟨w.heap.size, 4, none⟩ = some (.int .u64 (xr.epoch : Nat)) := k9.cell 4
                  have r5 : W9.cell? ⟨w.heap.size, 5, none⟩ = some (.int .u64 (xr.until_ : Nat)) := k9.cell 5
                  have r6 : W9.cell? ⟨w.heap.size, 6, none⟩ = some (.int .u64 (xr.version : Nat)) := k9.cell 6
                  have r7 : W9.cell? ⟨w.heap.size, 7, none⟩ = some (.int .u64 (xr.clock : Nat)) := k9.cell 7
                  have r8 : W9.cell? ⟨w.heap.size, 8, none⟩ = some (.int .u64 (xr.size : Nat)) := k9.cell 8
                  have r9 : W9.cell? ⟨w.heap.size, 9, none⟩ = some (.int .u64 (xr.crc : Nat)) := k9.cell 9
                  have r10 : W9.cell? ⟨w.heap.size, 10, none⟩ = some (.string xr.name) := k9.cell 10
                  have r11 : W9.cell? ⟨w.heap.size, 11, none⟩ = some (.string xr.to) := k9.cell 11
                  clear k9
                  have B9 := Lib.hid b9
                  clear b9
                  rw [HP.out]
                  simp [bodyPost, results, Try.results19, go_sem, Rc.val, Rc.cells, r0, r1, r2, r3, r4, r5, r6, r7, r8, r9, r10, r11]
                  exact B9.out
  · have e0 : ((ee : Int) == 0) = false := by simp; omega
    have HP := Lib.hid (show Rc.parse b = (Rc.zero 0, ee) by rw [HPA.out]; unfold Rc.parseF; rw [if_pos he0])
    have HW1 := Lib.hid hr
    have HBB := Lib.hid hb3
    clear hf hrd2 hr hb3
    go_wp2_with (refine wpList_store_row rfl 31 (.tmp 2) (.tmp 21) rfl w.heap.size (Rc.zero 0).cells rfl rfl 31 _ HW1.out (rrec_size _) rfl (rec_cells _) ?_)
    have k9 := HW1.out.row (Rc.zero 0).cells
    have b9 := Below.setRow HBB.out (g := w.heap.size) (Nat.le_refl _) (Rc.zero 0).cells
    generalize World.setRow (w1.alloc (.cells #[.int .u8 (kk : Nat), .slice D L c] 44)) w.heap.size (Rc.zero 0).cells = W9 at k9 b9 ⊢
    have r0 : W9.cell? ⟨w.heap.size, 0, none⟩ = some (.int .u8 ((Rc.zero 0).k : Nat)) := k9.cell 0
    have r1 : W9.cell? ⟨w.heap.size, 1, none⟩ = some (.int .u64 ((Rc.zero 0).proc : Nat)) := k9.cell 1
    have r2 : W9.cell? ⟨w.heap.size, 2, none⟩ = some (.int .u64 ((Rc.zero 0).inc : Nat)) := k9.cell 2
    have r3 : W9.cell? ⟨w.heap.size, 3, none⟩ = some (.int .u64 ((Rc.zero 0).seq : Nat)) := k9.cell 3
    have r4 : W9.cell? ⟨w.heap.size, 4, none⟩ = some (.int .u64 ((Rc.zero 0).epoch : Nat)) := k9.cell 4
    have r5 : W9.cell? ⟨w.heap.size, 5, none⟩ = some (.int .u64 ((Rc.zero 0).until_ : Nat)) := k9.cell 5
    have r6 : W9.cell? ⟨w.heap.size, 6, none⟩ = some (.int .u64 ((Rc.zero 0).version : Nat)) := k9.cell 6
    have r7 : W9.cell? ⟨w.heap.size, 7, none⟩ = some (.int .u64 ((Rc.zero 0).clock : Nat)) := k9.cell 7
    have r8 : W9.cell? ⟨w.heap.size, 8, none⟩ = some (.int .u64 ((Rc.zero 0).size : Nat)) := k9.cell 8
    have r9 : W9.cell? ⟨w.heap.size, 9, none⟩ = some (.int .u64 ((Rc.zero 0).crc : Nat)) := k9.cell 9
    have r10 : W9.cell? ⟨w.heap.size, 10, none⟩ = some (.string (Rc.zero 0).name) := k9.cell 10
    have r11 : W9.cell? ⟨w.heap.size, 11, none⟩ = some (.string (Rc.zero 0).to) := k9.cell 11
    clear k9
    have B9 := Lib.hid b9
    clear b9
    rw [HP.out]
    simp [bodyPost, results, Try.results19, go_sem, Rc.val, Rc.cells, Rc.zero, r0, r1, r2, r3, r4, r5, r6, r7, r8, r9, r10, r11]
    exact B9.out
end Go.Proofs.Ytmobgamlednlhaa
