/-
  Frames told apart: the law's same, sameAll; rows of frames that can be read.
-/
import Derived.Test.YtnncohajlmbedaaFraAll
namespace Go.Proofs.Ytnncohajlmbedaa
open Go.RowKit
attribute [local go_sem] match_undef Oper.growAt Oper.growUpon GSpec.fix GSpec.row GSpec.wh GSpec.own
attribute [local irreducible] wpList
/-- A row of frames that reads as fs, all below block B. -/
def RdFr (w : World) (B : Nat) (A : Option Addr) (N : Nat) (fs : List Fr) : Prop :=
  fs.length = N ∧ ∀ j (hj : j < fs.length), ∃ b o A' c, A = some ⟨b, o, none⟩ ∧ b < B ∧ w.cell? ⟨b, o + j * 2, none⟩ = some (.int .u8 (fs[j].1.toNat : Nat)) ∧ w.cell? ⟨b, o + j * 2 + 1, none⟩ = some (.slice A' fs[j].2.length c) ∧ fs[j].2.length ≤ c ∧ c ≤ maxLen ∧ Rd w B 1 A' fs[j].2.length (byts fs[j].2)
theorem RdFr.keep {w w' : World} {B N : Nat} {A : Option Addr} {fs : List Fr} (h : RdFr w B A N fs) (hk : ∀ p : Addr, p.block < B → w'.cell? p = w.cell? p) : RdFr w' B A N fs :=
  ⟨h.1, fun j hj => by
    obtain ⟨b, o, A', c, e, hb, h1, h2, h3, h4, hr⟩ := h.2 j hj
    exact ⟨b, o, A', c, e, hb, (hk _ hb).trans h1, (hk _ hb).trans h2, h3, h4, hr.keep hk⟩⟩
theorem RdFr.more {w : World} {B B' N : Nat} {A : Option Addr} {fs : List Fr} (h : RdFr w B A N fs) (hB : B ≤ B') : RdFr w B' A N fs :=
  ⟨h.1, fun j hj => by
    obtain ⟨b, o, A', c, e, hb, h1, h2, h3, h4, hr⟩ := h.2 j hj
    exact ⟨b, o, A', c, e, by omega, h1, h2, h3, h4, hr.more hB⟩⟩
theorem RdFr.below {w w' : World} {B N : Nat} {A : Option Addr} {fs : List Fr} (h : RdFr w B A N fs) (hb : Below B w w') : RdFr w' B A N fs := h.keep fun _ hp => hb.cell hp
theorem RdFr.of_own {w : World} {base N c : Nat} {tf te : TypeId} {A : Option Addr} {fs : List Fr} {vs : List Value} (hl : fs.length = N) (h : w.ownsRow base tf 2 (.slice A N c) N vs) (hf : OwnFr w base te fs vs) : RdFr w w.heap.size A N fs := by
  subst hl
  refine ⟨rfl, fun j hj => ?_⟩
  obtain ⟨b, o, e, hb, hc⟩ := (Rd.of_own h).2 (by omega)
  obtain ⟨A', c', h1, h2, h3⟩ := hf.2 j hj
  exact ⟨b, o, A', c', e, hb, hc _ _ h1, hc _ _ h2, (own_cap h3).1, (own_cap h3).2, Rd.of_own h3⟩

set_option maxRecDepth 100000 in
set_option maxHeartbeats 4000000 in
theorem lsame_any (w : World) (k : UInt8) (A : Option Addr) (n cap : Nat) (xs : List UInt8) (k' : UInt8) (A' : Option Addr) (n' cap' : Nat) (ys : List UInt8) (B B' : Nat) (hB : B ≤ w.heap.size) (hB' : B' ≤ w.heap.size) (h : Rd w B 1 A n (byts xs)) (h' : Rd w B' 1 A' n' (byts ys))
    (hn : n ≤ 140737488351232) (hn' : n' ≤ 140737488351232) (r : Bool) (hr : decide ((k, xs) = (k', ys)) = r) :
    Calls Try.prog 23 #[.agg #[.int .u8 (k.toNat : Nat), .slice A n cap], .agg #[.int .u8 (k'.toNat : Nat), .slice A' n' cap']] w fun en w' => en = .returned (.bool r) ∧ Below w.heap.size w w' := by
  have hr1 := (h.alloc hB (.cells #[.int .u8 (k.toNat : Nat), .slice A n cap] 26)).alloc (Nat.le_trans hB (below1 w (.cells #[.int .u8 (k.toNat : Nat), .slice A n cap] 26)).size) (.cells #[.int .u8 (k'.toNat : Nat), .slice A' n' cap'] 30)
  have hr2 := (h'.alloc hB' (.cells #[.int .u8 (k.toNat : Nat), .slice A n cap] 26)).alloc (Nat.le_trans hB' (below1 w (.cells #[.int .u8 (k.toNat : Nat), .slice A n cap] 26)).size) (.cells #[.int .u8 (k'.toNat : Nat), .slice A' n' cap'] 30)
  have hb := (below1 w (.cells #[.int .u8 (k.toNat : Nat), .slice A n cap] 26)).trans ((below1 (w.alloc (.cells #[.int .u8 (k.toNat : Nat), .slice A n cap] 26)) (.cells #[.int .u8 (k'.toNat : Nat), .slice A' n' cap'] 30)).mono (below1 w (.cells #[.int .u8 (k.toNat : Nat), .slice A n cap] 26)).size)
  have HR1 := Lib.hid hr1
  have HR2 := Lib.hid hr2
  have HB := Lib.hid hb
  clear h h' hr1 hr2 hb
  by_cases hk : k = k'
  · subst hk
    have hd : decide (xs = ys) = r := by rw [← hr]; simp
    have HD := Lib.hid hd
    clear hr hd
    go_enter Try.func23, Try.ntmps23
    go_wp2_with fail
    refine (same_any _ A n cap xs A' n' cap' ys B B' (Nat.le_trans hB HB.out.size) (Nat.le_trans hB' HB.out.size) HR1.out HR2.out hn hn' r HD.out).mono ?_
    rintro en w2 ⟨rfl, hb2⟩
    have hb3 := HB.out.trans (hb2.mono HB.out.size)
    clear hb2
    go_wp2_with fail
    go_ret
    exact ⟨rfl, hb3⟩
  · have t1 : (((k.toNat : Nat) : Int) == ((k'.toNat : Nat) : Int)) = false := by
      rw [beq_eq_false_iff_ne]
      intro h
      exact hk (UInt8.toNat_inj.1 (by omega))
    have HRR := Lib.hid (show false = r from by rw [← hr]; simp [hk])
    obtain ⟨x, hx⟩ : ∃ x, k.toNat = x := ⟨_, rfl⟩
    obtain ⟨y, hy⟩ : ∃ y, k'.toNat = y := ⟨_, rfl⟩
    rw [hx, hy] at HB t1 ⊢
    clear hk hr HR1 HR2 hx hy
    go_enter Try.func23, Try.ntmps23
    go_wp2_with fail
    go_ret
    exact ⟨by rw [← HRR.out]; rfl, HB.out⟩

set_option maxRecDepth 100000 in
set_option maxHeartbeats 4000000 in
theorem lsameAll_any (w : World) (A : Option Addr) (N cap : Nat) (fs : List Fr) (A' : Option Addr) (N' cap' : Nat) (gs : List Fr) (B B' : Nat) (hB : B ≤ w.heap.size) (hB' : B' ≤ w.heap.size) (h : RdFr w B A N fs) (h' : RdFr w B' A' N' gs)
    (hN : N ≤ 1000000) (hN' : N' ≤ 1000000) (hf : ∀ f ∈ fs, f.2.length ≤ 140737488351232) (hg : ∀ f ∈ gs, f.2.length ≤ 140737488351232) (r : Bool) (hr : decide (fs = gs) = r) :
    Calls Try.prog 24 #[.slice A N cap, .slice A' N' cap'] w fun en w' => en = .returned (.bool r) ∧ Below w.heap.size w w' := by
  have HR := Lib.hid hr
  have HF := Lib.hid hf
  have HG := Lib.hid hg
  clear hr hf hg
  by_cases hne : N = N'
  · subst hne
    have H := Lib.hid h
    have H' := Lib.hid h'
    have HL := Lib.hid h.1
    have HL' := Lib.hid h'.1
    clear h h'
    go_enter Try.func24, Try.ntmps24
    go_wp2_with fail
    go_loopw [5] (fun i wr => ∃ k : Nat, k ≤ N ∧ i = .int .i64 k ∧ Hid (fs.take k = gs.take k) ∧ Ext w wr) (fun i _ => N - (intOf i).toNat)
    case atStart => exact ⟨0, by omega, rfl, rfl, Below.refl _ _⟩
    case round =>
      obtain ⟨k, hk, rfl, HT, hx⟩ := hrel
      by_cases hlt : k < N
      · have hk1 : k < fs.length := by have := HL.out; omega
        have hk2 : k < gs.length := by have := HL'.out; omega
        obtain ⟨b1, o1, A1, c1, rfl, hb1, hp1, hq1, _, _, hr1⟩ := (H.out.below (hx.mono hB)).2 k hk1
        obtain ⟨b2, o2, A2, c2, rfl, hb2, hp2, hq2, _, _, hr2⟩ := (H'.out.below (hx.mono hB')).2 k hk2
        have hm1 := HF.out fs[k] (List.getElem_mem hk1)
        have hm2 := HG.out gs[k] (List.getElem_mem hk2)
        have HB1 := Lib.hid (Nat.le_trans hB hx.size)
        have HB2 := Lib.hid (Nat.le_trans hB' hx.size)
        have L1 := Lib.hid (Nat.lt_of_lt_of_le hb1 HB1.out)
        have L2 := Lib.hid (Nat.lt_of_lt_of_le hb2 HB2.out)
        have hd : decide ((k : Int) < (N : Int)) = true := by simp; omega
        have d1 : (0 : Int) ≤ (k : Int) := by omega
        have d2 : (k : Int) < (N : Int) := by omega
        obtain ⟨f, hf⟩ : ∃ f, fs[k] = f := ⟨_, rfl⟩
        obtain ⟨g, hg⟩ : ∃ f, gs[k] = f := ⟨_, rfl⟩
        obtain ⟨e, he⟩ : ∃ e, decide (f = g) = e := ⟨_, rfl⟩
        rw [hf] at hp1 hq1 hr1 hm1
        rw [hg] at hp2 hq2 hr2 hm2
        have HFK := Lib.hid hf
        have HGK := Lib.hid hg
        obtain ⟨x, xs⟩ := f
        obtain ⟨y, ys⟩ := g
        have HE := Lib.hid he
        simp only at hp1 hq1 hr1 hm1 hp2 hq2 hr2 hm2
        obtain ⟨m1, e1⟩ : ∃ m, xs.length = m := ⟨_, rfl⟩
        obtain ⟨m2, e2⟩ : ∃ m, ys.length = m := ⟨_, rfl⟩
        rw [e1] at hq1 hr1 hm1
        rw [e2] at hq2 hr2 hm2
        have P1 := Lib.hid hp1
        have Q1 := Lib.hid hq1
        have P2 := Lib.hid hp2
        have Q2 := Lib.hid hq2
        have HX := Lib.hid hr1
        have HY := Lib.hid hr2
        clear hp1 hq1 hr1 hp2 hq2 hr2 hf hg he e1 e2 hb1 hb2
        cases e
        · go_wp2_with fail
          refine wp_region_grow (fun k' => List.lookup k' [(3, .fix (.agg #[.int .u8 (x.toNat : Nat), .slice A1 m1 c1])), (7, .fix (.agg #[.int .u8 (y.toNat : Nat), .slice A2 m2 c2])), (8, .fix (.bool false))]) (by as_aux_lemma => kernel_rfl) (by as_aux_lemma => kernel_rfl) ?_
          repeat (refine wpGrow_pure rfl (fun K hK => ?_); go_simp; refine hK.out _ ?_; clear hK K)
          refine wpGrow_eff _ rfl (fun wx he hcl => ?_) (fun _ K hK => ?_) rfl
          · clear hcl
            have hq0 := (he.cell (p := ⟨b1, o1 + k * 2, none⟩) L1.out).trans P1.out
            have hq1 := (he.cell (p := ⟨b1, o1 + k * 2 + 1, none⟩) L1.out).trans Q1.out
            go_simp
            exact Below.refl _ _
          go_simp
          refine hK.out _ ?_
          clear hK K
          repeat (refine wpGrow_pure rfl (fun K hK => ?_); go_simp; refine hK.out _ ?_; clear hK K)
          refine wpGrow_eff _ rfl (fun wx he hcl => ?_) (fun _ K hK => ?_) rfl
          · clear hcl
            have hq0 := (he.cell (p := ⟨b2, o2 + k * 2, none⟩) L2.out).trans P2.out
            have hq1 := (he.cell (p := ⟨b2, o2 + k * 2 + 1, none⟩) L2.out).trans Q2.out
            go_simp
            exact Below.refl _ _
          go_simp
          refine hK.out _ ?_
          clear hK K
          repeat (refine wpGrow_pure rfl (fun K hK => ?_); go_simp; refine hK.out _ ?_; clear hK K)
          refine wpGrow_eff _ rfl (fun wx he hcl => ?_) (fun _ K hK => ?_) rfl
          · clear hcl
            have hcon := lsame_any wx x A1 m1 c1 xs y A2 m2 c2 ys B B' (Nat.le_trans HB1.out he.size) (Nat.le_trans HB2.out he.size) (HX.out.below (he.mono HB1.out)) (HY.out.below (he.mono HB2.out)) (by omega) (by omega) false HE.out
            go_simp
            all_goals exact hcon
          go_simp
          refine hK.out _ ?_
          clear hK K
          repeat (refine wpGrow_pure rfl (fun K hK => ?_); go_simp; refine hK.out _ ?_; clear hK K)
          refine wpGrow_nil fun wx he hfin => ?_
          clear hfin
          have hxx := Ext.trans hx he
          clear he hx
          go_wp2_with fail
          go_ret
          refine ⟨?_, hxx⟩
          have h1 : r = false := by
            rw [← HR.out, decide_eq_false_iff_not]
            intro h
            have h2 := of_decide_eq_false HE.out
            apply h2
            rw [← HFK.out, ← HGK.out]
            simp only [h]
          rw [h1]
          rfl
        · go_wp2_with fail
          refine wp_region_grow (fun k' => List.lookup k' [(3, .fix (.agg #[.int .u8 (x.toNat : Nat), .slice A1 m1 c1])), (7, .fix (.agg #[.int .u8 (y.toNat : Nat), .slice A2 m2 c2])), (8, .fix (.bool true))]) (by as_aux_lemma => kernel_rfl) (by as_aux_lemma => kernel_rfl) ?_
          repeat (refine wpGrow_pure rfl (fun K hK => ?_); go_simp; refine hK.out _ ?_; clear hK K)
          refine wpGrow_eff _ rfl (fun wx he hcl => ?_) (fun _ K hK => ?_) rfl
          · clear hcl
            have hq0 := (he.cell (p := ⟨b1, o1 + k * 2, none⟩) L1.out).trans P1.out
            have hq1 := (he.cell (p := ⟨b1, o1 + k * 2 + 1, none⟩) L1.out).trans Q1.out
            go_simp
            exact Below.refl _ _
          go_simp
          refine hK.out _ ?_
          clear hK K
          repeat (refine wpGrow_pure rfl (fun K hK => ?_); go_simp; refine hK.out _ ?_; clear hK K)
          refine wpGrow_eff _ rfl (fun wx he hcl => ?_) (fun _ K hK => ?_) rfl
          · clear hcl
            have hq0 := (he.cell (p := ⟨b2, o2 + k * 2, none⟩) L2.out).trans P2.out
            have hq1 := (he.cell (p := ⟨b2, o2 + k * 2 + 1, none⟩) L2.out).trans Q2.out
            go_simp
            exact Below.refl _ _
          go_simp
          refine hK.out _ ?_
          clear hK K
          repeat (refine wpGrow_pure rfl (fun K hK => ?_); go_simp; refine hK.out _ ?_; clear hK K)
          refine wpGrow_eff _ rfl (fun wx he hcl => ?_) (fun _ K hK => ?_) rfl
          · clear hcl
            have hcon := lsame_any wx x A1 m1 c1 xs y A2 m2 c2 ys B B' (Nat.le_trans HB1.out he.size) (Nat.le_trans HB2.out he.size) (HX.out.below (he.mono HB1.out)) (HY.out.below (he.mono HB2.out)) (by omega) (by omega) true HE.out
            go_simp
            all_goals exact hcon
          go_simp
          refine hK.out _ ?_
          clear hK K
          repeat (refine wpGrow_pure rfl (fun K hK => ?_); go_simp; refine hK.out _ ?_; clear hK K)
          refine wpGrow_nil fun wx he hfin => ?_
          clear hfin
          have hxx := Ext.trans hx he
          clear he hx
          go_wp2_with fail
          go_roundw
          case rel =>
            refine ⟨k + 1, by omega, by go_num, Lib.hid ?_, hxx⟩
            rw [List.take_succ_eq_append_getElem hk1, List.take_succ_eq_append_getElem hk2, HT.out, HFK.out, HGK.out, of_decide_eq_true HE.out]
          case measure => simp [intOf]; omega
      · obtain rfl : k = N := by omega
        have hd : decide ((k : Int) < (k : Int)) = false := by simp
        go_wp2_with fail
        go_ret
        refine ⟨?_, hx⟩
        have h1 : fs = gs := by
          have := HT.out
          rw [List.take_of_length_le (by rw [HL.out]; omega), List.take_of_length_le (by rw [HL'.out]; omega)] at this
          exact this
        have h2 : r = true := by rw [← HR.out]; exact decide_eq_true h1
        rw [h2]
        rfl
  · have hnn : (((N : Nat) : Int) != ((N' : Nat) : Int)) = true := by rw [bne_iff_ne]; omega
    have hf : decide (fs = gs) = false := by
      rw [decide_eq_false_iff_not]
      intro h0
      subst h0
      have h1 := h.1
      have h2 := h'.1
      omega
    have HFF := Lib.hid (show false = r from by rw [← HR.out]; exact hf.symm)
    clear h h' hne hf
    go_enter Try.func24, Try.ntmps24
    go_wp2_with fail
    go_ret
    exact ⟨by rw [← HFF.out]; rfl, Below.refl _ _⟩

end Go.Proofs.Ytnncohajlmbedaa
