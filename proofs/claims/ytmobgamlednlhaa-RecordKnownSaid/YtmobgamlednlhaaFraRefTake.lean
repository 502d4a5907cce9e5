/-
  Frames: what the document's Take reads.
-/
import Derived.Test.YtmobgamlednlhaaFraTake
import Derived.Test.YtmobgamlednlhaaFraLaw
namespace Go.Proofs.Ytmobgamlednlhaa
open Go.RowKit
attribute [local go_sem] match_undef Oper.growAt Oper.growUpon GSpec.fix GSpec.row GSpec.wh GSpec.own
attribute [local irreducible] wpList
theorem below_drewN {B : Nat} {a w : World} (h : Below B a w) (n : Nat) : Below B a (w.drewN n) := ⟨h.os, h.tape, h.output, h.size, h.block⟩
theorem Rd.byte_at {w : World} {B n b0 o k : Nat} {l : List UInt8} (h : Rd w B 1 (some ⟨b0, o, none⟩) n (byts l)) (hk : k < n) : ∃ hl : k < l.length, w.cell? ⟨b0, o + k, none⟩ = some (.int .u8 (l[k].toNat : Int)) := by
  obtain ⟨b, o', hl, hA, _, hc⟩ := h.byte hk
  injection hA with hA
  injection hA with e1 e2 _
  subst e1 e2
  exact ⟨hl, hc⟩

set_option maxRecDepth 100000 in
set_option maxHeartbeats 4000000 in
theorem rtake_any (w : World) (A : Option Addr) (n cap : Nat) (b : List UInt8) (B : Nat) (hB : B ≤ w.heap.size) (h : Rd w B 1 A n (byts b)) (hc : n ≤ cap) (hn : n ≤ 100000000) (p : Int) (hp1 : -9223372036854775808 ≤ p) (hp2 : p ≤ 9223372036854775807) :
    Calls Try.prog 43 #[.slice A n cap, .int .i64 p] w (FrP (Fra.take b p).1 (Fra.take b p).2.1 (Fra.take b p).2.2.1 (Fra.take b p).2.2.2 5 w) := by
  have HL := Lib.hid h.blen
  have HN := Lib.hid hn
  have HB := Lib.hid hB
  have H := Lib.hid h
  have hl := h.blen
  clear h hB
  rcases Fra.way b p with ⟨h0, e⟩ | ⟨q, hp, hq, x, hx, hv, e⟩ | ⟨q, v, s, hp, hq, hv, hs, hs2, hbig, h64, e⟩ | ⟨q, v, s, hp, hq, hv, hs, hs2, hbig, hlen, e⟩ | ⟨q, v, s, hp, hq, hv, hs, hs2, hbig, hlen, hsum, e⟩ | ⟨q, v, s, hp, hq, hv, hs, hs2, hbig, hlen, hsum, e⟩
  · rw [e]
    clear e
    simp only
    by_cases hneg : p < 0
    all_goals
      first
        | have t1 : decide (p < 0) = true := by simp; omega
        | (have t1 : decide (p < 0) = false := by simp; omega
           have t2 : decide ((n : Int) ≤ p) = true := by simp; omega)
      clear h0 hneg
      go_enter Try.func43, Try.ntmps43
      go_wp2_with fail
      simp [bodyPost, results, Try.results43, go_sem]
      exact ⟨none, 0, rfl, World.ownsRow_nil _ _ _ _, below1 _ _⟩
  · subst hp
    rw [e]
    clear e
    have t1 : decide ((q : Int) < 0) = false := by simp
    have t2 : decide ((n : Int) ≤ (q : Int)) = false := by simp; omega
    have HV := Lib.hid hv
    have hx0 : x = 10 ∨ x = 11 := hx
    clear hv hx
    simp only
    rcases hx0 with rfl | rfl
    all_goals
      go_enter Try.func43, Try.ntmps43
      go_wp2_with fail
      have htk := refTake_any (w.alloc (.cells #[.int .u8 0, .slice none 0 0] 44)) A n cap b B (Nat.le_trans HB.out (below1 w (.cells #[.int .u8 0, .slice none 0 0] 44)).size) (H.out.alloc HB.out (.cells #[.int .u8 0, .slice none 0 0] 44)) HN.out ((q : Int) + 1) (by omega) (by omega)
      rw [HV.out] at htk
      refine htk.mono ?_
      clear htk
      rintro en w2 ⟨rfl, hb2⟩
      have K1 := Lib.hid ((Whole.new w 44 #[.int .u8 0, .slice none 0 0]).below hb2 (Whole.new w 44 #[.int .u8 0, .slice none 0 0]).lt)
      have hb := (below1 w (.cells #[.int .u8 0, .slice none 0 0] 44)).trans (hb2.mono (below1 w (.cells #[.int .u8 0, .slice none 0 0] 44)).size)
      have HR1 := Lib.hid ((H.out.alloc HB.out (.cells #[.int .u8 0, .slice none 0 0] 44)).below (hb2.mono (Nat.le_trans HB.out (below1 w (.cells #[.int .u8 0, .slice none 0 0] 44)).size)))
      obtain ⟨g, hg⟩ : ∃ g, w.heap.size = g := ⟨_, rfl⟩
      have HG := Lib.hid hg
      rw [hg] at K1 ⊢
      have HSZ := Lib.hid hb.size
      have HGL := Lib.hid K1.out.lt
      clear hb2 hg
      have q0 := K1.out.cell 0
      have q1 := K1.out.cell 1
      have f0 := K1.out.frozen 0
      have f1 := K1.out.frozen 1
      simp at q0 q1
      go_wp2_with fail
      have k9 := whole2 K1.out (.int .u8 0) (.slice none 0 0)
      have hb9 := bel2 hb (show w.heap.size ≤ g by rw [HG.out]; exact Nat.le_refl _) (.int .u8 0) (.slice none 0 0)
      generalize World.setCell (World.setCell _ _ _) _ _ = w9 at k9 hb9 ⊢
      have r0 := k9.cell 0
      have r1 := k9.cell 1
      simp at r0 r1
      clear q0 q1 f0 f1 hb
      simp [bodyPost, results, Try.results43, go_sem, r0, r1]
      exact ⟨none, 0, rfl, World.ownsRow_nil _ _ _ _, hb9⟩
  · subst hp
    rw [e]
    clear e
    have t1 : decide ((q : Int) < 0) = false := by simp
    have t2 : decide ((n : Int) ≤ (q : Int)) = false := by simp; omega
    have HV := Lib.hid hv
    clear hv
    simp only
    have t3 : decide (65535 < v) = true := by simp; omega
    have t31 : decide (65535 < (v : Int)) = true := by simp; omega
    go_enter Try.func43, Try.ntmps43
    go_wp2_with fail
    have htk := refTake_any (w.alloc (.cells #[.int .u8 0, .slice none 0 0] 44)) A n cap b B (Nat.le_trans HB.out (below1 w (.cells #[.int .u8 0, .slice none 0 0] 44)).size) (H.out.alloc HB.out (.cells #[.int .u8 0, .slice none 0 0] 44)) HN.out ((q : Int) + 1) (by omega) (by omega)
    rw [HV.out] at htk
    refine htk.mono ?_
    clear htk
    rintro en w2 ⟨rfl, hb2⟩
    have K1 := Lib.hid ((Whole.new w 44 #[.int .u8 0, .slice none 0 0]).below hb2 (Whole.new w 44 #[.int .u8 0, .slice none 0 0]).lt)
    have hb := (below1 w (.cells #[.int .u8 0, .slice none 0 0] 44)).trans (hb2.mono (below1 w (.cells #[.int .u8 0, .slice none 0 0] 44)).size)
    have HR1 := Lib.hid ((H.out.alloc HB.out (.cells #[.int .u8 0, .slice none 0 0] 44)).below (hb2.mono (Nat.le_trans HB.out (below1 w (.cells #[.int .u8 0, .slice none 0 0] 44)).size)))
    obtain ⟨g, hg⟩ : ∃ g, w.heap.size = g := ⟨_, rfl⟩
    have HG := Lib.hid hg
    rw [hg] at K1 ⊢
    have HSZ := Lib.hid hb.size
    have HGL := Lib.hid K1.out.lt
    clear hb2 hg
    have q0 := K1.out.cell 0
    have q1 := K1.out.cell 1
    have f0 := K1.out.frozen 0
    have f1 := K1.out.frozen 1
    simp at q0 q1
    go_wp2_with fail
    have k9 := whole2 K1.out (.int .u8 0) (.slice none 0 0)
    have hb9 := bel2 hb (show w.heap.size ≤ g by rw [HG.out]; exact Nat.le_refl _) (.int .u8 0) (.slice none 0 0)
    generalize World.setCell (World.setCell _ _ _) _ _ = w9 at k9 hb9 ⊢
    have r0 := k9.cell 0
    have r1 := k9.cell 1
    simp at r0 r1
    clear q0 q1 f0 f1 hb
    simp [bodyPost, results, Try.results43, go_sem, r0, r1]
    exact ⟨none, 0, rfl, World.ownsRow_nil _ _ _ _, hb9⟩
  · subst hp
    rw [e]
    clear e
    have t1 : decide ((q : Int) < 0) = false := by simp
    have t2 : decide ((n : Int) ≤ (q : Int)) = false := by simp; omega
    have HV := Lib.hid hv
    clear hv
    simp only
    have t3 : decide (65535 < v) = false := by simp; omega
    have t31 : decide (65535 < (v : Int)) = false := by simp; omega
    have t4 : decide ((n : Int) < (s : Int) + (v : Int) + 4) = true := by simp; omega
    go_enter Try.func43, Try.ntmps43
    go_wp2_with fail
    have htk := refTake_any (w.alloc (.cells #[.int .u8 0, .slice none 0 0] 44)) A n cap b B (Nat.le_trans HB.out (below1 w (.cells #[.int .u8 0, .slice none 0 0] 44)).size) (H.out.alloc HB.out (.cells #[.int .u8 0, .slice none 0 0] 44)) HN.out ((q : Int) + 1) (by omega) (by omega)
    rw [HV.out] at htk
    refine htk.mono ?_
    clear htk
    rintro en w2 ⟨rfl, hb2⟩
    have K1 := Lib.hid ((Whole.new w 44 #[.int .u8 0, .slice none 0 0]).below hb2 (Whole.new w 44 #[.int .u8 0, .slice none 0 0]).lt)
    have hb := (below1 w (.cells #[.int .u8 0, .slice none 0 0] 44)).trans (hb2.mono (below1 w (.cells #[.int .u8 0, .slice none 0 0] 44)).size)
    have HR1 := Lib.hid ((H.out.alloc HB.out (.cells #[.int .u8 0, .slice none 0 0] 44)).below (hb2.mono (Nat.le_trans HB.out (below1 w (.cells #[.int .u8 0, .slice none 0 0] 44)).size)))
    obtain ⟨g, hg⟩ : ∃ g, w.heap.size = g := ⟨_, rfl⟩
    have HG := Lib.hid hg
    rw [hg] at K1 ⊢
    have HSZ := Lib.hid hb.size
    have HGL := Lib.hid K1.out.lt
    clear hb2 hg
    have q0 := K1.out.cell 0
    have q1 := K1.out.cell 1
    have f0 := K1.out.frozen 0
    have f1 := K1.out.frozen 1
    simp at q0 q1
    go_wp2_with fail
    have k9 := whole2 K1.out (.int .u8 0) (.slice none 0 0)
    have hb9 := bel2 hb (show w.heap.size ≤ g by rw [HG.out]; exact Nat.le_refl _) (.int .u8 0) (.slice none 0 0)
    generalize World.setCell (World.setCell _ _ _) _ _ = w9 at k9 hb9 ⊢
    have r0 := k9.cell 0
    have r1 := k9.cell 1
    simp at r0 r1
    clear q0 q1 f0 f1 hb
    simp [bodyPost, results, Try.results43, go_sem, r0, r1]
    exact ⟨none, 0, rfl, World.ownsRow_nil _ _ _ _, hb9⟩
  · subst hp
    rw [e]
    clear e
    have t1 : decide ((q : Int) < 0) = false := by simp
    have t2 : decide ((n : Int) ≤ (q : Int)) = false := by simp; omega
    have HV := Lib.hid hv
    have HBA := Lib.hid (Fra.bytes_at hq hv hs hlen)
    clear hv
    simp only
    have t3 : decide (65535 < v) = false := by simp; omega
    have t31 : decide (65535 < (v : Int)) = false := by simp; omega
    have t4 : decide ((n : Int) < (s : Int) + (v : Int) + 4) = false := by simp; omega
    obtain ⟨M, hM⟩ : ∃ M, s + v = M := ⟨_, rfl⟩
    have eM : (s : Int) + (v : Int) = (M : Int) := by omega
    have hMn : M + 4 ≤ n := by omega
    obtain ⟨bd, hbd⟩ : ∃ bd, (b.take M).drop s = bd := ⟨_, rfl⟩
    obtain ⟨x, hx⟩ : ∃ x, b[q] = x := ⟨_, rfl⟩
    obtain ⟨W, hW⟩ : ∃ W, Fra.bytes x bd = W := ⟨_, rfl⟩
    obtain ⟨L, hL⟩ : ∃ L, M - q + 4 = L := ⟨_, rfl⟩
    have hbl : bd.length = v := by rw [← hbd, List.length_drop, List.length_take]; omega
    replace HBA := HBA.out
    rw [hM, hbd, hx, hW, hL] at HBA
    have HWL := Lib.hid HBA.1
    have HEQ := Lib.hid (fun h => hsum (by rw [hM]; exact HBA.2.1 h) : ¬ (b.drop q).take L = W)
    have HM := Lib.hid hM
    have HBD := Lib.hid hbd
    have HXX := Lib.hid hx
    have HWW := Lib.hid hW
    have HLL := Lib.hid hL
    have HBL := Lib.hid hbl
    clear hM hbd hx hW hL hbl hsum HBA
    go_enter Try.func43, Try.ntmps43
    go_wp2_with fail
    have htk := refTake_any (w.alloc (.cells #[.int .u8 0, .slice none 0 0] 44)) A n cap b B (Nat.le_trans HB.out (below1 w (.cells #[.int .u8 0, .slice none 0 0] 44)).size) (H.out.alloc HB.out (.cells #[.int .u8 0, .slice none 0 0] 44)) HN.out ((q : Int) + 1) (by omega) (by omega)
    rw [HV.out] at htk
    refine htk.mono ?_
    clear htk
    rintro en w2 ⟨rfl, hb2⟩
    have K1 := Lib.hid ((Whole.new w 44 #[.int .u8 0, .slice none 0 0]).below hb2 (Whole.new w 44 #[.int .u8 0, .slice none 0 0]).lt)
    have hb := (below1 w (.cells #[.int .u8 0, .slice none 0 0] 44)).trans (hb2.mono (below1 w (.cells #[.int .u8 0, .slice none 0 0] 44)).size)
    have HR1 := Lib.hid ((H.out.alloc HB.out (.cells #[.int .u8 0, .slice none 0 0] 44)).below (hb2.mono (Nat.le_trans HB.out (below1 w (.cells #[.int .u8 0, .slice none 0 0] 44)).size)))
    obtain ⟨g, hg⟩ : ∃ g, w.heap.size = g := ⟨_, rfl⟩
    have HG := Lib.hid hg
    rw [hg] at K1 ⊢
    have HSZ := Lib.hid hb.size
    have HGL := Lib.hid K1.out.lt
    clear hb2 hg
    obtain ⟨b0, o, hkl, hA, hbB, hcell⟩ := HR1.out.byte (k := q) (by omega)
    have hmid := HR1.out.mid (i := s) (j := M) (cap := cap) (by omega) (by omega) hc
    have hne : ¬ cap = s := by omega
    rw [if_neg hne, show M - s = v by omega, HBD.out] at hmid
    subst hA
    rw [Option.map_some, addf] at hmid
    rw [HXX.out] at hcell
    have HMID := Lib.hid hmid
    have c10 : M - s = v := by omega
    have c11 : (0 : Int) ≤ (s : Int) := by omega
    have c12 : (q : Int) < (n : Int) := by omega
    have c13 : (s : Int) ≤ (M : Int) := by omega
    have c14 : (M : Int) ≤ (cap : Int) := by omega
    have c15 : (0 : Int) ≤ (q : Int) := by omega
    have c17 : IntKind.i64.wrap (v : Int) = (v : Int) := by rw [IntKind.wrap_i64]; omega
    have c16 : IntKind.i64.wrap (M : Int) = (M : Int) := by rw [IntKind.wrap_i64]; omega
    clear hmid
    go_wp2_with fail
    have k2 := Whole.new w2 44 #[.int .u8 (x.toNat : Nat), .slice none 0 0]
    have hb3 := hb.alloc hb.size (.cells #[.int .u8 (x.toNat : Nat), .slice none 0 0] 44)
    have k1 := K1.out.alloc (.cells #[.int .u8 (x.toNat : Nat), .slice none 0 0] 44)
    have HBW2 := Lib.hid (Nat.le_trans HB.out HSZ.out)
    have hr1 := HR1.out.alloc HBW2.out (.cells #[.int .u8 (x.toNat : Nat), .slice none 0 0] 44)
    have hmid := HMID.out.alloc HBW2.out (.cells #[.int .u8 (x.toNat : Nat), .slice none 0 0] 44)
    have hsz3 := (below1 w2 (.cells #[.int .u8 (x.toNat : Nat), .slice none 0 0] 44)).size
    obtain ⟨g2, hg2⟩ : ∃ g, w2.heap.size = g := ⟨_, rfl⟩
    rw [hg2] at k2 HGL HBW2 HSZ hsz3 ⊢
    generalize World.alloc w2 (.cells #[.int .u8 (x.toNat : Nat), .slice none 0 0] 44) = w3 at k2 hb3 k1 hr1 hmid hsz3 ⊢
    clear HR1 HMID K1 hcell hb hg2
    have HR1 := Lib.hid hr1
    have HMID := Lib.hid hmid
    have K1 := Lib.hid k1
    have K2 := Lib.hid k2
    have hb := hb3
    have HS3 := Lib.hid hsz3
    have GL := Lib.hid k2.lt
    have Q1 := Lib.hid (k2.cell 1)
    clear hr1 hmid k1 k2 hb3 hsz3
    refine wp_region_tail 9 (fun k' => List.lookup k' [(1, .fix (.slice none 0 0))]) (by as_aux_lemma => kernel_rfl) (by as_aux_lemma => kernel_rfl) (by as_aux_lemma => kernel_rfl) ?_
    simp only [List.take_succ_cons, List.take_zero]
    repeat (refine wpGrow_pure rfl (fun K hK => ?_); go_simp; refine hK.out _ ?_; clear hK K)
    refine wpGrow_eff _ rfl (fun wx he hcl => ?_) (fun _ K hK => ?_) rfl
    · clear hcl
      have hq := (he.cell (p := ⟨g2, 1, none⟩) GL.out).trans Q1.out
      simp at hq
      go_simp
      exact Below.refl _ _
    go_simp
    refine hK.out _ ?_
    clear hK K
    repeat (refine wpGrow_pure rfl (fun K hK => ?_); go_simp; refine hK.out _ ?_; clear hK K)
    refine wpGrow_nil fun wx he hfin => ?_
    clear hfin
    replace HR1 := Lib.hid (HR1.out.below (he.mono (Nat.le_trans HBW2.out HS3.out)))
    replace HMID := Lib.hid (HMID.out.below (he.mono (Nat.le_trans HBW2.out HS3.out)))
    replace K1 := Lib.hid (K1.out.below he K1.out.lt)
    replace K2 := Lib.hid (K2.out.below he K2.out.lt)
    replace hb := hb.trans (he.mono hb.size)
    replace HS3 := Lib.hid (Nat.le_trans HS3.out he.size)
    clear he Q1 GL
    simp only [List.drop_succ_cons, List.drop_zero]
    go_wp2_with (at_builtin; first
      | (refine wpList_append_rd _ rfl (.tmp 56) (.tmp 63) _ rfl bytesV wx.heap.size _ 0 _ rfl (World.ownsRow_nil _ _ _ _) B (some ⟨b0, o + s, none⟩) v (cap - s) _ rfl HMID.out (byts_one _) (by unfold maxLen; omega) (by omega) (Nat.le_refl _) ?_
         intro D3 c3 w4 ho3 hb4 _ _
         rw [Nat.zero_add, List.nil_append] at ho3
         have HO3 := Lib.hid ho3
         have HK2 := Lib.hid (K2.out.below hb4 K2.out.lt)
         have HK1 := Lib.hid (K1.out.below hb4 K1.out.lt)
         have HR4 := Lib.hid (HR1.out.below (hb4.mono (Nat.le_trans HBW2.out HS3.out)))
         have hb5 := hb.trans (hb4.mono hb.size)
         have HS4 := Lib.hid (Nat.le_trans HS3.out hb4.size)
         have HGL3 := Lib.hid K1.out.lt
         have HLT := Lib.hid (fun bb hh => (own_lt ho3 bb hh).1)
         have HK2L := Lib.hid K2.out.lt
         have p0 := HK2.out.cell 0
         have p1 := HK2.out.cell 1
         have g0 := HK2.out.frozen 0
         have g1 := HK2.out.frozen 1
         simp at p0 p1
         clear ho3 hb4))
    have k2n : Whole (w4.setCell ⟨g2, 1, none⟩ (.slice D3 v c3)) g2 44 #[.int .u8 (x.toNat : Nat), .slice D3 v c3] := HK2.out.put_ 1 (.slice D3 v c3)
    have ho5 := own_far HO3.out (p := ⟨g2, 1, none⟩) (fun bb hh => by have := HLT.out bb hh; have := HK2L.out; show bb ≠ g2; omega) (.slice D3 v c3)
    have k1n := HK1.out.far (p := ⟨g2, 1, none⟩) (show g ≠ g2 by have := HGL.out; omega) (.slice D3 v c3)
    have hr5 := HR4.out.setCell (p := ⟨g2, 1, none⟩) (show B ≤ g2 from HBW2.out) (.slice D3 v c3)
    have hb6 := hb5.setCell (p := ⟨g2, 1, none⟩) (show w.heap.size ≤ g2 from HSZ.out) (.slice D3 v c3)
    generalize World.setCell w4 ⟨g2, 1, none⟩ (.slice D3 v c3) = w5 at k2n ho5 k1n hr5 hb6 ⊢
    clear HK2 HO3 HK1 HR4 hb5 HLT HK2L p0 p1 g0 g1 HR1 HMID K1 K2 hb
    have hbyt := rbytes_any w5 x D3 v c3 bd w5.heap.size (Nat.le_refl _) (Rd.of_own ho5) (by omega)
    rw [HWW.out, HWL.out] at hbyt
    have HO5 := Lib.hid ho5
    have K2 := Lib.hid k2n
    have K1 := Lib.hid k1n
    have HR5 := Lib.hid hr5
    have HB5 := Lib.hid (show B ≤ w5.heap.size from by have := k2n.lt; have := HBW2.out; omega)
    have hb := hb6
    clear ho5 k2n k1n hr5 hb6
    refine hbyt.mono ?_
    clear hbyt
    rintro en w6 ⟨D4, c4, rfl, ho4, hb7⟩
    have HO4 := Lib.hid ho4
    replace HO5 := Lib.hid (own_ext HO5.out hb7)
    replace K2 := Lib.hid (K2.out.below hb7 K2.out.lt)
    replace K1 := Lib.hid (K1.out.below hb7 K1.out.lt)
    replace HR5 := Lib.hid (HR5.out.below (hb7.mono HB5.out))
    replace HB5 := Lib.hid (Nat.le_trans HB5.out hb7.size)
    replace hb := hb.trans (hb7.mono hb.size)
    have eL : (q : Int) + (L : Int) = (M : Int) + 4 := by have := HLL.out; omega
    have HLn : Hid (q + L ≤ n) := Lib.hid (by have := HLL.out; omega)
    clear ho4 hb7
    go_wp2_with fail
    go_loopw [12] (fun i wr => ∃ k : Nat, k ≤ L ∧ i = .int .i64 k ∧ Hid ((b.drop q).take k = W.take k) ∧ Ext w6 wr) (fun i _ => L - (intOf i).toNat)
    case atStart => exact ⟨0, by omega, rfl, rfl, Below.refl _ _⟩
    case round =>
      obtain ⟨k, hk, rfl, HE, hx⟩ := hrel
      by_cases hlt : k < L
      · obtain ⟨b1, o1, hkw, rfl, hbB1, hcw⟩ := (Rd.of_own (own_ext HO4.out hx)).byte hlt
        obtain ⟨hkb, hcb⟩ := (HR5.out.below (hx.mono HB5.out)).byte_at (k := q + k) (by have := HLn.out; omega)
        have hd : decide ((k : Int) < (L : Int)) = true := by simp; omega
        have d1 : (0 : Int) ≤ (k : Int) := by omega
        have d2 : (k : Int) < (L : Int) := by omega
        have d3 : IntKind.i64.wrap ((q : Int) + (k : Int)) = (q : Int) + (k : Int) := by rw [IntKind.wrap_i64]; omega
        have d4 : (0 : Int) ≤ (q : Int) + (k : Int) := by omega
        have d5 : (q : Int) + (k : Int) < (n : Int) := by have := HLn.out; omega
        have d6 : ((q : Int) + (k : Int)).toNat = q + k := by omega
        by_cases he : b[q + k] = W[k]
        · have HEk := Lib.hid he
          rw [he] at hcb
          obtain ⟨y, hy⟩ : ∃ y, y = W[k].toNat := ⟨_, rfl⟩
          rw [← hy] at hcb hcw
          clear he hy
          have hself : (((y : Nat) : Int) != (y : Int)) = false := by simp
          go_wp2_with fail
          go_quiet (fail)
          go_wp2_with fail
          go_roundw
          case rel =>
            refine ⟨k + 1, by omega, by go_num, Lib.hid ?_, Ext.trans hx ⟨rfl, rfl, rfl, Nat.le_refl _, fun _ _ => rfl⟩⟩
            have hkd : k < (b.drop q).length := by rw [List.length_drop]; omega
            rw [List.take_succ_eq_append_getElem hkd, List.take_succ_eq_append_getElem hkw, HE.out, List.getElem_drop, HEk.out]
          case measure => simp [intOf]; omega
        · have hnx : (((b[q + k].toNat : Nat) : Int) != ((W[k].toNat : Nat) : Int)) = true := by
            rw [bne_iff_ne]
            intro h
            exact he (UInt8.toNat_inj.1 (by omega))
          have K9 := Lib.hid (K1.out.below hx K1.out.lt)
          have q0 := K9.out.cell 0
          have q1 := K9.out.cell 1
          have f0 := K9.out.frozen 0
          have f1 := K9.out.frozen 1
          simp at q0 q1
          replace hb := hb.trans (hx.mono hb.size)
          obtain ⟨y, hy⟩ : ∃ y, y = b[q + k].toNat := ⟨_, rfl⟩
          obtain ⟨z, hz⟩ : ∃ z, z = W[k].toNat := ⟨_, rfl⟩
          rw [← hy, ← hz] at hnx
          rw [← hy] at hcb
          rw [← hz] at hcw
          clear hy hz he hx HE
          go_wp2_with fail
          go_quiet (fail)
          go_wp2_with fail
          have KD := Lib.hid (K9.out.drewN nq)
          replace hb := below_drewN hb nq
          have k9 := whole2 KD.out (.int .u8 0) (.slice none 0 0)
          have hb9 := bel2 hb (show w.heap.size ≤ g by rw [HG.out]; exact Nat.le_refl _) (.int .u8 0) (.slice none 0 0)
          generalize World.setCell (World.setCell _ _ _) _ _ = w9 at k9 hb9 ⊢
          have r0 := k9.cell 0
          have r1 := k9.cell 1
          simp at r0 r1
          clear q0 q1 f0 f1 hb
          simp [bodyPost, results, Try.results43, go_sem, r0, r1]
          exact ⟨none, 0, rfl, World.ownsRow_nil _ _ _ _, hb9⟩
      · obtain rfl : k = L := by omega
        have hd : decide ((k : Int) < (k : Int)) = false := by simp
        exfalso
        have h1 := HE.out
        rw [List.take_of_length_le (l := W) (by rw [HWL.out]; omega)] at h1
        exact HEQ.out h1
  · subst hp
    rw [e]
    clear e
    have t1 : decide ((q : Int) < 0) = false := by simp
    have t2 : decide ((n : Int) ≤ (q : Int)) = false := by simp; omega
    have HV := Lib.hid hv
    have HBA := Lib.hid (Fra.bytes_at hq hv hs hlen)
    clear hv
    simp only
    have t3 : decide (65535 < v) = false := by simp; omega
    have t31 : decide (65535 < (v : Int)) = false := by simp; omega
    have t4 : decide ((n : Int) < (s : Int) + (v : Int) + 4) = false := by simp; omega
    obtain ⟨M, hM⟩ : ∃ M, s + v = M := ⟨_, rfl⟩
    have eM : (s : Int) + (v : Int) = (M : Int) := by omega
    have hMn : M + 4 ≤ n := by omega
    obtain ⟨bd, hbd⟩ : ∃ bd, (b.take M).drop s = bd := ⟨_, rfl⟩
    obtain ⟨x, hx⟩ : ∃ x, b[q] = x := ⟨_, rfl⟩
    obtain ⟨W, hW⟩ : ∃ W, Fra.bytes x bd = W := ⟨_, rfl⟩
    obtain ⟨L, hL⟩ : ∃ L, M - q + 4 = L := ⟨_, rfl⟩
    have hbl : bd.length = v := by rw [← hbd, List.length_drop, List.length_take]; omega
    replace HBA := HBA.out
    rw [hM, hbd, hx, hW, hL] at HBA
    have HWL := Lib.hid HBA.1
    have HEQ := Lib.hid (HBA.2.2 (by rw [← hM]; exact hsum) : (b.drop q).take L = W)
    rw [hx, hM, hbd]
    have HM := Lib.hid hM
    have HBD := Lib.hid hbd
    have HXX := Lib.hid hx
    have HWW := Lib.hid hW
    have HLL := Lib.hid hL
    have HBL := Lib.hid hbl
    clear hM hbd hx hW hL hbl hsum HBA
    go_enter Try.func43, Try.ntmps43
    go_wp2_with fail
    have htk := refTake_any (w.alloc (.cells #[.int .u8 0, .slice none 0 0] 44)) A n cap b B (Nat.le_trans HB.out (below1 w (.cells #[.int .u8 0, .slice none 0 0] 44)).size) (H.out.alloc HB.out (.cells #[.int .u8 0, .slice none 0 0] 44)) HN.out ((q : Int) + 1) (by omega) (by omega)
    rw [HV.out] at htk
    refine htk.mono ?_
    clear htk
    rintro en w2 ⟨rfl, hb2⟩
    have K1 := Lib.hid ((Whole.new w 44 #[.int .u8 0, .slice none 0 0]).below hb2 (Whole.new w 44 #[.int .u8 0, .slice none 0 0]).lt)
    have hb := (below1 w (.cells #[.int .u8 0, .slice none 0 0] 44)).trans (hb2.mono (below1 w (.cells #[.int .u8 0, .slice none 0 0] 44)).size)
    have HR1 := Lib.hid ((H.out.alloc HB.out (.cells #[.int .u8 0, .slice none 0 0] 44)).below (hb2.mono (Nat.le_trans HB.out (below1 w (.cells #[.int .u8 0, .slice none 0 0] 44)).size)))
    obtain ⟨g, hg⟩ : ∃ g, w.heap.size = g := ⟨_, rfl⟩
    have HG := Lib.hid hg
    rw [hg] at K1 ⊢
    have HSZ := Lib.hid hb.size
    have HGL := Lib.hid K1.out.lt
    clear hb2 hg
    obtain ⟨b0, o, hkl, hA, hbB, hcell⟩ := HR1.out.byte (k := q) (by omega)
    have hmid := HR1.out.mid (i := s) (j := M) (cap := cap) (by omega) (by omega) hc
    have hne : ¬ cap = s := by omega
    rw [if_neg hne, show M - s = v by omega, HBD.out] at hmid
    subst hA
    rw [Option.map_some, addf] at hmid
    rw [HXX.out] at hcell
    have HMID := Lib.hid hmid
    have c10 : M - s = v := by omega
    have c11 : (0 : Int) ≤ (s : Int) := by omega
    have c12 : (q : Int) < (n : Int) := by omega
    have c13 : (s : Int) ≤ (M : Int) := by omega
    have c14 : (M : Int) ≤ (cap : Int) := by omega
    have c15 : (0 : Int) ≤ (q : Int) := by omega
    have c17 : IntKind.i64.wrap (v : Int) = (v : Int) := by rw [IntKind.wrap_i64]; omega
    have c16 : IntKind.i64.wrap (M : Int) = (M : Int) := by rw [IntKind.wrap_i64]; omega
    clear hmid
    go_wp2_with fail
    have k2 := Whole.new w2 44 #[.int .u8 (x.toNat : Nat), .slice none 0 0]
    have hb3 := hb.alloc hb.size (.cells #[.int .u8 (x.toNat : Nat), .slice none 0 0] 44)
    have k1 := K1.out.alloc (.cells #[.int .u8 (x.toNat : Nat), .slice none 0 0] 44)
    have HBW2 := Lib.hid (Nat.le_trans HB.out HSZ.out)
    have hr1 := HR1.out.alloc HBW2.out (.cells #[.int .u8 (x.toNat : Nat), .slice none 0 0] 44)
    have hmid := HMID.out.alloc HBW2.out (.cells #[.int .u8 (x.toNat : Nat), .slice none 0 0] 44)
    have hsz3 := (below1 w2 (.cells #[.int .u8 (x.toNat : Nat), .slice none 0 0] 44)).size
    obtain ⟨g2, hg2⟩ : ∃ g, w2.heap.size = g := ⟨_, rfl⟩
    rw [hg2] at k2 HGL HBW2 HSZ hsz3 ⊢
    generalize World.alloc w2 (.cells #[.int .u8 (x.toNat : Nat), .slice none 0 0] 44) = w3 at k2 hb3 k1 hr1 hmid hsz3 ⊢
    clear HR1 HMID K1 hcell hb hg2
    have HR1 := Lib.hid hr1
    have HMID := Lib.hid hmid
    have K1 := Lib.hid k1
    have K2 := Lib.hid k2
    have hb := hb3
    have HS3 := Lib.hid hsz3
    have GL := Lib.hid k2.lt
    have Q1 := Lib.hid (k2.cell 1)
    clear hr1 hmid k1 k2 hb3 hsz3
    refine wp_region_tail 9 (fun k' => List.lookup k' [(1, .fix (.slice none 0 0))]) (by as_aux_lemma => kernel_rfl) (by as_aux_lemma => kernel_rfl) (by as_aux_lemma => kernel_rfl) ?_
    simp only [List.take_succ_cons, List.take_zero]
    repeat (refine wpGrow_pure rfl (fun K hK => ?_); go_simp; refine hK.out _ ?_; clear hK K)
    refine wpGrow_eff _ rfl (fun wx he hcl => ?_) (fun _ K hK => ?_) rfl
    · clear hcl
      have hq := (he.cell (p := ⟨g2, 1, none⟩) GL.out).trans Q1.out
      simp at hq
      go_simp
      exact Below.refl _ _
    go_simp
    refine hK.out _ ?_
    clear hK K
    repeat (refine wpGrow_pure rfl (fun K hK => ?_); go_simp; refine hK.out _ ?_; clear hK K)
    refine wpGrow_nil fun wx he hfin => ?_
    clear hfin
    replace HR1 := Lib.hid (HR1.out.below (he.mono (Nat.le_trans HBW2.out HS3.out)))
    replace HMID := Lib.hid (HMID.out.below (he.mono (Nat.le_trans HBW2.out HS3.out)))
    replace K1 := Lib.hid (K1.out.below he K1.out.lt)
    replace K2 := Lib.hid (K2.out.below he K2.out.lt)
    replace hb := hb.trans (he.mono hb.size)
    replace HS3 := Lib.hid (Nat.le_trans HS3.out he.size)
    clear he Q1 GL
    simp only [List.drop_succ_cons, List.drop_zero]
    go_wp2_with (at_builtin; first
      | (refine wpList_append_rd _ rfl (.tmp 56) (.tmp 63) _ rfl bytesV wx.heap.size _ 0 _ rfl (World.ownsRow_nil _ _ _ _) B (some ⟨b0, o + s, none⟩) v (cap - s) _ rfl HMID.out (byts_one _) (by unfold maxLen; omega) (by omega) (Nat.le_refl _) ?_
         intro D3 c3 w4 ho3 hb4 _ _
         rw [Nat.zero_add, List.nil_append] at ho3
         have HO3 := Lib.hid ho3
         have HK2 := Lib.hid (K2.out.below hb4 K2.out.lt)
         have HK1 := Lib.hid (K1.out.below hb4 K1.out.lt)
         have HR4 := Lib.hid (HR1.out.below (hb4.mono (Nat.le_trans HBW2.out HS3.out)))
         have hb5 := hb.trans (hb4.mono hb.size)
         have HS4 := Lib.hid (Nat.le_trans HS3.out hb4.size)
         have HGL3 := Lib.hid K1.out.lt
         have HLT := Lib.hid (fun bb hh => (own_lt ho3 bb hh).1)
         have HK2L := Lib.hid K2.out.lt
         have p0 := HK2.out.cell 0
         have p1 := HK2.out.cell 1
         have g0 := HK2.out.frozen 0
         have g1 := HK2.out.frozen 1
         simp at p0 p1
         clear ho3 hb4))
    have k2n : Whole (w4.setCell ⟨g2, 1, none⟩ (.slice D3 v c3)) g2 44 #[.int .u8 (x.toNat : Nat), .slice D3 v c3] := HK2.out.put_ 1 (.slice D3 v c3)
    have ho5 := own_far HO3.out (p := ⟨g2, 1, none⟩) (fun bb hh => by have := HLT.out bb hh; have := HK2L.out; show bb ≠ g2; omega) (.slice D3 v c3)
    have k1n := HK1.out.far (p := ⟨g2, 1, none⟩) (show g ≠ g2 by have := HGL.out; omega) (.slice D3 v c3)
    have hr5 := HR4.out.setCell (p := ⟨g2, 1, none⟩) (show B ≤ g2 from HBW2.out) (.slice D3 v c3)
    have hb6 := hb5.setCell (p := ⟨g2, 1, none⟩) (show w.heap.size ≤ g2 from HSZ.out) (.slice D3 v c3)
    generalize World.setCell w4 ⟨g2, 1, none⟩ (.slice D3 v c3) = w5 at k2n ho5 k1n hr5 hb6 ⊢
    clear HK2 HO3 HK1 HR4 hb5 HLT HK2L p0 p1 g0 g1 HR1 HMID K1 K2 hb
    have hbyt := rbytes_any w5 x D3 v c3 bd w5.heap.size (Nat.le_refl _) (Rd.of_own ho5) (by omega)
    rw [HWW.out, HWL.out] at hbyt
    have HO5 := Lib.hid ho5
    have K2 := Lib.hid k2n
    have K1 := Lib.hid k1n
    have HR5 := Lib.hid hr5
    have HB5 := Lib.hid (show B ≤ w5.heap.size from by have := k2n.lt; have := HBW2.out; omega)
    have hb := hb6
    clear ho5 k2n k1n hr5 hb6
    refine hbyt.mono ?_
    clear hbyt
    rintro en w6 ⟨D4, c4, rfl, ho4, hb7⟩
    have HO4 := Lib.hid ho4
    replace HO5 := Lib.hid (own_ext HO5.out hb7)
    replace K2 := Lib.hid (K2.out.below hb7 K2.out.lt)
    replace K1 := Lib.hid (K1.out.below hb7 K1.out.lt)
    replace HR5 := Lib.hid (HR5.out.below (hb7.mono HB5.out))
    replace HB5 := Lib.hid (Nat.le_trans HB5.out hb7.size)
    replace hb := hb.trans (hb7.mono hb.size)
    have eL : (q : Int) + (L : Int) = (M : Int) + 4 := by have := HLL.out; omega
    have HLn : Hid (q + L ≤ n) := Lib.hid (by have := HLL.out; omega)
    clear ho4 hb7
    go_wp2_with fail
    go_loopw [12] (fun i wr => ∃ k : Nat, k ≤ L ∧ i = .int .i64 k ∧ Hid ((b.drop q).take k = W.take k) ∧ Ext w6 wr) (fun i _ => L - (intOf i).toNat)
    case atStart => exact ⟨0, by omega, rfl, rfl, Below.refl _ _⟩
    case round =>
      obtain ⟨k, hk, rfl, HE, hx⟩ := hrel
      by_cases hlt : k < L
      · obtain ⟨b1, o1, hkw, rfl, hbB1, hcw⟩ := (Rd.of_own (own_ext HO4.out hx)).byte hlt
        obtain ⟨hkb, hcb⟩ := (HR5.out.below (hx.mono HB5.out)).byte_at (k := q + k) (by have := HLn.out; omega)
        have hd : decide ((k : Int) < (L : Int)) = true := by simp; omega
        have d1 : (0 : Int) ≤ (k : Int) := by omega
        have d2 : (k : Int) < (L : Int) := by omega
        have d3 : IntKind.i64.wrap ((q : Int) + (k : Int)) = (q : Int) + (k : Int) := by rw [IntKind.wrap_i64]; omega
        have d4 : (0 : Int) ≤ (q : Int) + (k : Int) := by omega
        have d5 : (q : Int) + (k : Int) < (n : Int) := by have := HLn.out; omega
        have d6 : ((q : Int) + (k : Int)).toNat = q + k := by omega
        by_cases he : b[q + k] = W[k]
        · have HEk := Lib.hid he
          rw [he] at hcb
          obtain ⟨y, hy⟩ : ∃ y, y = W[k].toNat := ⟨_, rfl⟩
          rw [← hy] at hcb hcw
          clear he hy
          have hself : (((y : Nat) : Int) != (y : Int)) = false := by simp
          go_wp2_with fail
          go_quiet (fail)
          go_wp2_with fail
          go_roundw
          case rel =>
            refine ⟨k + 1, by omega, by go_num, Lib.hid ?_, Ext.trans hx ⟨rfl, rfl, rfl, Nat.le_refl _, fun _ _ => rfl⟩⟩
            have hkd : k < (b.drop q).length := by rw [List.length_drop]; omega
            rw [List.take_succ_eq_append_getElem hkd, List.take_succ_eq_append_getElem hkw, HE.out, List.getElem_drop, HEk.out]
          case measure => simp [intOf]; omega
        · have hnx : (((b[q + k].toNat : Nat) : Int) != ((W[k].toNat : Nat) : Int)) = true := by
            rw [bne_iff_ne]
            intro h
            exact he (UInt8.toNat_inj.1 (by omega))
          exfalso
          apply he
          have h1 := congrArg (fun l : List UInt8 => l[k]?) HEQ.out
          simp only [List.getElem?_take, if_pos hlt, List.getElem?_drop, List.getElem?_eq_getElem hkb, List.getElem?_eq_getElem hkw] at h1
          injection h1
      · obtain rfl : k = L := by omega
        have hd : decide ((k : Int) < (k : Int)) = false := by simp
        have K9 := Lib.hid (K1.out.below hx K1.out.lt)
        have k2w := K2.out.below hx K2.out.lt
        have m0 := k2w.cell 0
        have m1 := k2w.cell 1
        have q0 := K9.out.cell 0
        have q1 := K9.out.cell 1
        have f0 := K9.out.frozen 0
        have f1 := K9.out.frozen 1
        simp at q0 q1 m0 m1
        have ho9 := own_ext HO5.out hx
        replace hb := hb.trans (hx.mono hb.size)
        clear hx HE k2w
        go_wp2_with fail
        have k9 := whole2 K9.out (.int .u8 (x.toNat : Nat)) (.slice D3 v c3)
        have hb9 := bel2 hb (show w.heap.size ≤ g by rw [HG.out]; exact Nat.le_refl _) (.int .u8 (x.toNat : Nat)) (.slice D3 v c3)
        have ho10 := own_far (own_far ho9 (p := ⟨g, 0, none⟩) (fun bb hh => by have := (own_lt ho9 bb hh).1; have := HGL3.out; show bb ≠ g; omega) (.int .u8 (x.toNat : Nat))) (p := ⟨g, 1, none⟩) (fun bb hh => by have := (own_lt ho9 bb hh).1; have := HGL3.out; show bb ≠ g; omega) (.slice D3 v c3)
        generalize World.setCell (World.setCell _ _ _) _ _ = w9 at k9 hb9 ho10 ⊢
        have r0 := k9.cell 0
        have r1 := k9.cell 1
        simp at r0 r1
        clear q0 q1 f0 f1 hb
        simp [bodyPost, results, Try.results43, go_sem, r0, r1]
        unfold FrP
        rw [HBL.out]
        exact ⟨D3, c3, rfl, own_base ho10 (by have := HGL3.out; have := HG.out; omega), hb9⟩

end Go.Proofs.Ytmobgamlednlhaa
