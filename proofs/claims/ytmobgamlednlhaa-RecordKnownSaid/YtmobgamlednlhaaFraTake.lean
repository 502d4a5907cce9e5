/-
  Frames: what the program's functions read.
-/
import Derived.Test.YtmobgamlednlhaaFraBytes
import Derived.Deep.RegionWith
namespace Go.Proofs.Ytmobgamlednlhaa
open Go.RowKit
attribute [local go_sem] match_undef Oper.growAt Oper.growUpon GSpec.fix GSpec.row GSpec.wh GSpec.own
attribute [local irreducible] wpList
theorem own_far {w : World} {base : Nat} {e : TypeId} {s n c : Nat} {A : Option Addr} {xs : List Value} (h : w.ownsRow base e s (.slice A n c) n xs) {p : Addr} (hp : ∀ b, A = some ⟨b, 0, none⟩ → b ≠ p.block) (u : Value) :
    (w.setCell p u).ownsRow base e s (.slice A n c) n xs := by
  refine ⟨h.1, ?_⟩
  rcases h.2 with h1 | ⟨g, cap, cur, hv, hb, hh, h3⟩
  · exact .inl h1
  · injection hv with e1 e2 e3
    subst e1 e3
    exact .inr ⟨g, c, cur, rfl, hb, (Below.heap_setCell w p u g (hp g rfl)).trans hh, h3⟩
theorem own_lt {w : World} {base : Nat} {e : TypeId} {s n c : Nat} {A : Option Addr} {xs : List Value} (h : w.ownsRow base e s (.slice A n c) n xs) : ∀ b, A = some ⟨b, 0, none⟩ → base ≤ b ∧ b < w.heap.size := by
  intro b hb
  rcases h.2 with ⟨h1, _⟩ | ⟨g, cap, cur, hv, hg, hh, _⟩
  · injection h1 with e1; rw [hb] at e1; cases e1
  · injection hv with e1 _ _
    rw [hb] at e1
    injection e1 with e1
    injection e1 with e1 _ _
    subst e1
    exact ⟨hg, Whole.lt (show Whole w b e cur from hh)⟩
theorem addf (b o j : Nat) : (⟨b, o, none⟩ : Addr).add j = ⟨b, o + j, none⟩ := by
  unfold Addr.add
  by_cases h0 : j = 0
  · subst h0; rfl
  · simp [h0]

set_option maxRecDepth 100000 in
set_option maxHeartbeats 4000000 in
theorem ftake_any (w : World) (A : Option Addr) (n cap : Nat) (b : List UInt8) (B : Nat) (hB : B ≤ w.heap.size) (h : Rd w B 1 A n (byts b)) (hc : n ≤ cap) (hm : cap ≤ maxLen) (hn : n ≤ 100000000) (p : Int) (hp1 : -9223372036854775808 ≤ p) (hp2 : p ≤ 9223372036854775807) :
    Calls Try.prog 42 #[.slice A n cap, .int .i64 p] w (FrP (Fra.take b p).1 (Fra.take b p).2.1 (Fra.take b p).2.2.1 (Fra.take b p).2.2.2 5 w) := by
  have HL := Lib.hid h.blen
  have HN := Lib.hid hn
  have HB := Lib.hid hB
  have H := Lib.hid h
  have hl := h.blen
  clear h hB
  rcases Fra.way b p with ⟨h0, e⟩ | ⟨q, hp, hq, x, hx, hv, e⟩ | ⟨q, v, s, hp, hq, hv, hs, hs2, hbig, h64, e⟩ | ⟨q, v, s, hp, hq, hv, hs, hs2, hbig, hlen, e⟩ | ⟨q, v, s, hp, hq, hv, hs, hs2, hbig, hlen, hsum, e⟩ | ⟨q, v, s, hp, hq, hv, hs, hs2, hbig, hlen, hsum, e⟩
  · rw [e]
    clear e
    simp only
    by_cases hneg : p < 0
    all_goals
      first
        | have t1 : decide (p < 0) = true := by simp; omega
        | (have t1 : decide (p < 0) = false := by simp; omega
           have t2 : decide ((n : Int) ≤ p) = true := by simp; omega)
      clear h0 hneg
      go_enter Try.func42, Try.ntmps42
      go_wp2_with fail
      simp [bodyPost, results, Try.results42, go_sem]
      exact ⟨none, 0, rfl, World.ownsRow_nil _ _ _ _, below1 _ _⟩
  · subst hp
    rw [e]
    clear e
    have t1 : decide ((q : Int) < 0) = false := by simp
    have t2 : decide ((n : Int) ≤ (q : Int)) = false := by simp; omega
    have HV := Lib.hid hv
    have hx0 : x = 10 ∨ x = 11 := hx
    clear hv hx
    simp only
    rcases hx0 with rfl | rfl
    all_goals
      go_enter Try.func42, Try.ntmps42
      go_wp2_with fail
      refine (take_at _ A n cap b B (H.out.alloc HB.out _) hc HN.out ((q : Int) + 1) (by omega) (by omega) 0 _ _ HV.out).mono ?_
      rintro en w2 ⟨rfl, rfl⟩
      go_wp2_with fail
      simp [bodyPost, results, Try.results42, go_sem]
      exact ⟨none, 0, rfl, World.ownsRow_nil _ _ _ _, below1 _ _⟩
  · subst hp
    rw [e]
    clear e
    have t1 : decide ((q : Int) < 0) = false := by simp
    have t2 : decide ((n : Int) ≤ (q : Int)) = false := by simp; omega
    have HV := Lib.hid hv
    clear hv
    simp only
    have t3 : decide (65535 < v) = true := by simp; omega
    have t31 : decide (65535 < (v : Int)) = true := by simp; omega
    go_enter Try.func42, Try.ntmps42
    go_wp2_with fail
    refine (take_at _ A n cap b B (H.out.alloc HB.out _) hc HN.out ((q : Int) + 1) (by omega) (by omega) v _ 0 HV.out).mono ?_
    rintro en w2 ⟨rfl, rfl⟩
    go_wp2_with fail
    simp [bodyPost, results, Try.results42, go_sem]
    exact ⟨none, 0, rfl, World.ownsRow_nil _ _ _ _, below1 _ _⟩
  · subst hp
    rw [e]
    clear e
    have t1 : decide ((q : Int) < 0) = false := by simp
    have t2 : decide ((n : Int) ≤ (q : Int)) = false := by simp; omega
    have HV := Lib.hid hv
    clear hv
    simp only
    have t3 : decide (65535 < v) = false := by simp; omega
    have t31 : decide (65535 < (v : Int)) = false := by simp; omega
    have t4 : decide ((n : Int) - (s : Int) < (v : Int) + 4) = true := by simp; omega
    go_enter Try.func42, Try.ntmps42
    go_wp2_with fail
    refine (take_at _ A n cap b B (H.out.alloc HB.out _) hc HN.out ((q : Int) + 1) (by omega) (by omega) v _ 0 HV.out).mono ?_
    rintro en w2 ⟨rfl, rfl⟩
    go_wp2_with fail
    simp [bodyPost, results, Try.results42, go_sem]
    exact ⟨none, 0, rfl, World.ownsRow_nil _ _ _ _, below1 _ _⟩
  · subst hp
    rw [e]
    clear e
    have t1 : decide ((q : Int) < 0) = false := by simp
    have t2 : decide ((n : Int) ≤ (q : Int)) = false := by simp; omega
    have HV := Lib.hid hv
    clear hv
    simp only
    have t3 : decide (65535 < v) = false := by simp; omega
    have t31 : decide (65535 < (v : Int)) = false := by simp; omega
    have t4 : decide ((n : Int) - (s : Int) < (v : Int) + 4) = false := by simp; omega
    obtain ⟨M, hM⟩ : ∃ M, s + v = M := ⟨_, rfl⟩
    have eM : (s : Int) + (v : Int) = (M : Int) := by omega
    have hMn : M + 4 ≤ n := by omega
    obtain ⟨X, hX⟩ : ∃ X, Crc.update 0 ((b.take M).drop q) = X := ⟨_, rfl⟩
    obtain ⟨bd, hbd⟩ : ∃ bd, (b.take M).drop s = bd := ⟨_, rfl⟩
    rw [hM, hX] at hsum
    have HM := Lib.hid hM
    have HX := Lib.hid hX
    have HBD := Lib.hid hbd
    have HSUM := Lib.hid hsum
    clear hM hX hsum hbd
    go_enter Try.func42, Try.ntmps42
    go_wp2_with fail
    refine (take_at _ A n cap b B (H.out.alloc HB.out _) hc HN.out ((q : Int) + 1) (by omega) (by omega) v _ 0 HV.out).mono ?_
    rintro en w2 ⟨rfl, rfl⟩
    go_wp2_with fail
    have k1 := Whole.new w 64 #[.int .u8 0, .slice none 0 0]
    have hb := below1 w (.cells #[.int .u8 0, .slice none 0 0] 64)
    have hr1 := H.out.alloc HB.out (.cells #[.int .u8 0, .slice none 0 0] 64)
    generalize World.alloc w (.cells #[.int .u8 0, .slice none 0 0] 64) = w1 at k1 hb hr1 ⊢
    obtain ⟨g, hg⟩ : ∃ g, w.heap.size = g := ⟨_, rfl⟩
    have HG := Lib.hid hg
    rw [hg] at k1 ⊢
    have HSZ := Lib.hid hb.size
    have K1 := Lib.hid k1
    have HR1 := Lib.hid hr1
    have HBW := Lib.hid (Nat.le_trans HB.out HSZ.out)
    have HGW := Lib.hid (show g ≤ w1.heap.size by rw [← HG.out]; exact HSZ.out)
    clear k1 hg hr1
    have c1 : (0 : Int) ≤ (M : Int) := by omega
    have c2 : (M : Int) ≤ (M : Int) + 4 := by omega
    have c3 : (M : Int) + 4 ≤ (cap : Int) := by omega
    have c4 : (q : Int) ≤ (M : Int) := by omega
    have c5 : (M : Int) ≤ (cap : Int) := by omega
    have c6 : IntKind.i64.wrap ((M : Int) + 4) = (M : Int) + 4 := by rw [IntKind.wrap_i64]; omega
    have c7 : ((M : Int) + 4).toNat = M + 4 := by omega
    have c8 : (0 : Int) ≤ (q : Int) := by omega
    refine wp_region_grow (fun k' => List.lookup k' [(9, .own g 5 1 4 (byts (Fra.sum4 X))), (10, .fix (.bool false))]) (by as_aux_lemma => kernel_rfl) (by as_aux_lemma => kernel_rfl) ?_
    repeat (refine wpGrow_pure rfl (fun K hK => ?_); go_simp; refine hK.out _ ?_; clear hK K)
    refine wpGrow_eff _ rfl (fun wx he hcl => ?_) (fun ⟨D1, c9⟩ K hK => ?_) rfl
    · clear hcl
      have hcon := summed_any wx _ (M - q) (cap - q) ((b.take M).drop q) B (Nat.le_trans HBW.out he.size) ((HR1.out.below (he.mono HBW.out)).mid (i := q) (j := M) (cap := cap) (by omega) (by omega) hc) (by omega) (by omega)
      rw [HX.out] at hcon
      go_simp
      exact hcon.mono fun e w2 ⟨D, c, he2, ho, hb⟩ => ⟨D, c, he2, own_base ho (Nat.le_trans HGW.out he.size), hb⟩
    go_simp
    refine hK.out _ ?_
    clear hK K
    repeat (refine wpGrow_pure rfl (fun K hK => ?_); go_simp; refine hK.out _ ?_; clear hK K)
    refine wpGrow_eff _ rfl (fun wx he hcl => ?_) (fun _ K hK => ?_) rfl
    · have ho : wx.ownsRow g 5 1 (.slice D1 4 c9) 4 (byts (Fra.sum4 X)) := hcl.out 9 rfl
      clear hcl
      have hmid := (HR1.out.below (he.mono HBW.out)).mid (i := M) (j := M + 4) (cap := cap) (by omega) (by omega) hc
      rw [show M + 4 - M = 4 by omega] at hmid
      have hcon := equal_any wx _ 4 (cap - M) _ D1 4 c9 _ B wx.heap.size (Nat.le_trans HBW.out he.size) (Nat.le_refl _) hmid (Rd.of_own ho) (by omega) (by omega) false (decide_eq_false HSUM.out)
      go_simp
      all_goals exact hcon
    go_simp
    refine hK.out _ ?_
    clear hK K
    repeat (refine wpGrow_pure rfl (fun K hK => ?_); go_simp; refine hK.out _ ?_; clear hK K)
    refine wpGrow_nil fun wx he hfin => ?_
    clear hfin
    have K2 := Lib.hid (K1.out.below he K1.out.lt)
    replace hb := hb.trans (he.mono hb.size)
    have q0 := K2.out.cell 0
    have q1 := K2.out.cell 1
    have f0 := K2.out.frozen 0
    have f1 := K2.out.frozen 1
    simp at q0 q1
    clear he c1 c2 c3 c4 c5 c6 c7 c8
    go_wp2_with fail
    have k9 := whole2 K2.out (.int .u8 0) (.slice none 0 0)
    have hb9 := bel2 hb (show w.heap.size ≤ g by rw [HG.out]; exact Nat.le_refl _) (.int .u8 0) (.slice none 0 0)
    generalize World.setCell (World.setCell _ _ _) _ _ = w9 at k9 hb9 ⊢
    have r0 := k9.cell 0
    have r1 := k9.cell 1
    simp at r0 r1
    clear q0 q1 f0 f1 hb
    simp [bodyPost, results, Try.results42, go_sem, r0, r1]
    exact ⟨none, 0, rfl, World.ownsRow_nil _ _ _ _, hb9⟩
  · subst hp
    rw [e]
    clear e
    have t1 : decide ((q : Int) < 0) = false := by simp
    have t2 : decide ((n : Int) ≤ (q : Int)) = false := by simp; omega
    have HV := Lib.hid hv
    clear hv
    simp only
    have t3 : decide (65535 < v) = false := by simp; omega
    have t31 : decide (65535 < (v : Int)) = false := by simp; omega
    have t4 : decide ((n : Int) - (s : Int) < (v : Int) + 4) = false := by simp; omega
    obtain ⟨M, hM⟩ : ∃ M, s + v = M := ⟨_, rfl⟩
    have eM : (s : Int) + (v : Int) = (M : Int) := by omega
    have hMn : M + 4 ≤ n := by omega
    obtain ⟨X, hX⟩ : ∃ X, Crc.update 0 ((b.take M).drop q) = X := ⟨_, rfl⟩
    obtain ⟨bd, hbd⟩ : ∃ bd, (b.take M).drop s = bd := ⟨_, rfl⟩
    rw [hM, hX] at hsum
    have HM := Lib.hid hM
    have HX := Lib.hid hX
    have HBD := Lib.hid hbd
    have HSUM := Lib.hid hsum
    obtain ⟨x, hx⟩ : ∃ x, b[q] = x := ⟨_, rfl⟩
    have HXX := Lib.hid hx
    have hbl : bd.length = v := by rw [← hbd, List.length_drop, List.length_take]; omega
    rw [hx, hM, hbd]
    have HBL := Lib.hid hbl
    clear hM hX hsum hbd hx hbl
    go_enter Try.func42, Try.ntmps42
    go_wp2_with fail
    refine (take_at _ A n cap b B (H.out.alloc HB.out _) hc HN.out ((q : Int) + 1) (by omega) (by omega) v _ 0 HV.out).mono ?_
    rintro en w2 ⟨rfl, rfl⟩
    go_wp2_with fail
    have k1 := Whole.new w 64 #[.int .u8 0, .slice none 0 0]
    have hb := below1 w (.cells #[.int .u8 0, .slice none 0 0] 64)
    have hr1 := H.out.alloc HB.out (.cells #[.int .u8 0, .slice none 0 0] 64)
    generalize World.alloc w (.cells #[.int .u8 0, .slice none 0 0] 64) = w1 at k1 hb hr1 ⊢
    obtain ⟨g, hg⟩ : ∃ g, w.heap.size = g := ⟨_, rfl⟩
    have HG := Lib.hid hg
    rw [hg] at k1 ⊢
    have HSZ := Lib.hid hb.size
    have K1 := Lib.hid k1
    have HR1 := Lib.hid hr1
    have HBW := Lib.hid (Nat.le_trans HB.out HSZ.out)
    have HGW := Lib.hid (show g ≤ w1.heap.size by rw [← HG.out]; exact HSZ.out)
    clear k1 hg hr1
    have c1 : (0 : Int) ≤ (M : Int) := by omega
    have c2 : (M : Int) ≤ (M : Int) + 4 := by omega
    have c3 : (M : Int) + 4 ≤ (cap : Int) := by omega
    have c4 : (q : Int) ≤ (M : Int) := by omega
    have c5 : (M : Int) ≤ (cap : Int) := by omega
    have c6 : IntKind.i64.wrap ((M : Int) + 4) = (M : Int) + 4 := by rw [IntKind.wrap_i64]; omega
    have c7 : ((M : Int) + 4).toNat = M + 4 := by omega
    have c8 : (0 : Int) ≤ (q : Int) := by omega
    refine wp_region_grow (fun k' => List.lookup k' [(9, .own g 5 1 4 (byts (Fra.sum4 X))), (10, .fix (.bool true))]) (by as_aux_lemma => kernel_rfl) (by as_aux_lemma => kernel_rfl) ?_
    repeat (refine wpGrow_pure rfl (fun K hK => ?_); go_simp; refine hK.out _ ?_; clear hK K)
    refine wpGrow_eff _ rfl (fun wx he hcl => ?_) (fun ⟨D1, c9⟩ K hK => ?_) rfl
    · clear hcl
      have hcon := summed_any wx _ (M - q) (cap - q) ((b.take M).drop q) B (Nat.le_trans HBW.out he.size) ((HR1.out.below (he.mono HBW.out)).mid (i := q) (j := M) (cap := cap) (by omega) (by omega) hc) (by omega) (by omega)
      rw [HX.out] at hcon
      go_simp
      exact hcon.mono fun e w2 ⟨D, c, he2, ho, hb⟩ => ⟨D, c, he2, own_base ho (Nat.le_trans HGW.out he.size), hb⟩
    go_simp
    refine hK.out _ ?_
    clear hK K
    repeat (refine wpGrow_pure rfl (fun K hK => ?_); go_simp; refine hK.out _ ?_; clear hK K)
    refine wpGrow_eff _ rfl (fun wx he hcl => ?_) (fun _ K hK => ?_) rfl
    · have ho : wx.ownsRow g 5 1 (.slice D1 4 c9) 4 (byts (Fra.sum4 X)) := hcl.out 9 rfl
      clear hcl
      have hmid := (HR1.out.below (he.mono HBW.out)).mid (i := M) (j := M + 4) (cap := cap) (by omega) (by omega) hc
      rw [show M + 4 - M = 4 by omega] at hmid
      have hcon := equal_any wx _ 4 (cap - M) _ D1 4 c9 _ B wx.heap.size (Nat.le_trans HBW.out he.size) (Nat.le_refl _) hmid (Rd.of_own ho) (by omega) (by omega) true (decide_eq_true HSUM.out)
      go_simp
      all_goals exact hcon
    go_simp
    refine hK.out _ ?_
    clear hK K
    repeat (refine wpGrow_pure rfl (fun K hK => ?_); go_simp; refine hK.out _ ?_; clear hK K)
    refine wpGrow_nil fun wx he hfin => ?_
    clear hfin
    replace K1 := Lib.hid (K1.out.below he K1.out.lt)
    replace HR1 := Lib.hid (HR1.out.below (he.mono HBW.out))
    replace hb := hb.trans (he.mono HSZ.out)
    have HBX := Lib.hid (Nat.le_trans HBW.out he.size)
    have HGX := Lib.hid (Nat.le_trans HGW.out he.size)
    clear he
    go_wp2_with fail
    obtain ⟨b0, o, hkl, hA, hbB, hcell⟩ := HR1.out.byte (k := q) (by omega)
    have hmid := HR1.out.mid (i := s) (j := M) (cap := cap) (by omega) (by omega) hc
    have hne : ¬ cap = s := by omega
    rw [if_neg hne, show M - s = v by omega, HBD.out] at hmid
    subst hA
    rw [Option.map_some, addf] at hmid
    rw [HXX.out] at hcell
    have QX := Lib.hid hcell
    have BL := Lib.hid (show b0 < wx.heap.size from by have := HBX.out; omega)
    have HMID := Lib.hid hmid
    have c9' : (s : Int) ≤ (M : Int) := by omega
    have c10 : M - s = v := by omega
    have c11 : (0 : Int) ≤ (s : Int) := by omega
    have c12 : (q : Int) < (n : Int) := by omega
    clear hcell hmid
    have hcell := QX.out
    have HMD : Hid (Rd wx.drew B 1 (some ⟨b0, o + s, none⟩) v (byts bd)) := Lib.hid HMID.out
    have HBD2 : Hid (B ≤ wx.drew.heap.size) := Lib.hid HBX.out
    have K1D : Hid (Whole wx.drew g 64 #[.int .u8 0, .slice none 0 0]) := Lib.hid K1.out.drew
    have QXD : Hid (wx.drew.cell? ⟨b0, o + q, none⟩ = some (.int .u8 (x.toNat : Nat))) := Lib.hid QX.out
    have BLD : Hid (b0 < wx.drew.heap.size) := Lib.hid BL.out
    have hbd2 := hb.drew
    have HGD : Hid (g ≤ wx.drew.heap.size) := Lib.hid HGX.out
    go_region_with (go_at_call 50; refine (bclone_any wx.drew _ v (cap - s) bd B HBD2.out HMD.out (by omega)).mono ?_; rintro en w2 ⟨D2, c2, rfl, ho2, hb2⟩; have HO2 := Lib.hid ho2; have hq2 := (hb2.cell (p := ⟨b0, o + q, none⟩) BLD.out).trans QXD.out; have K2 := Lib.hid (K1D.out.below hb2 K1D.out.lt); have hb3 := hbd2.trans (hb2.mono hbd2.size); have q0 := K2.out.cell 0; have q1 := K2.out.cell 1; have f0 := K2.out.frozen 0; have f1 := K2.out.frozen 1; simp at q0 q1; clear ho2 hb2)
    all_goals
      go_wp2_with fail
      have k9 := whole2 K2.out (.int .u8 (x.toNat : Nat)) (.slice D2 v c2)
      have hb9 := bel2 hb3 (show w.heap.size ≤ g by rw [HG.out]; exact Nat.le_refl _) (.int .u8 (x.toNat : Nat)) (.slice D2 v c2)
      have ho9 := own_far (own_far HO2.out (p := ⟨g, 0, none⟩) (fun bb hh => by have := (own_lt HO2.out bb hh).1; have := K1D.out.lt; show bb ≠ g; omega) (.int .u8 (x.toNat : Nat))) (p := ⟨g, 1, none⟩) (fun bb hh => by have := (own_lt HO2.out bb hh).1; have := K1D.out.lt; show bb ≠ g; omega) (.slice D2 v c2)
      generalize World.setCell (World.setCell _ _ _) _ _ = w9 at k9 hb9 ho9 ⊢
      have r0 := k9.cell 0
      have r1 := k9.cell 1
      simp at r0 r1
      simp [bodyPost, results, Try.results42, go_sem, r0, r1]
      unfold FrP
      rw [HBL.out]
      exact ⟨D2, c2, rfl, own_base ho9 (by have := HSZ.out; have := HGD.out; have := HG.out; omega), hb9⟩

end Go.Proofs.Ytmobgamlednlhaa
