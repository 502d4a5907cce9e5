/-
  The walk of FramePuts: it returns true.
-/
import Derived.Test.YtnncohajlmbedaaFraBack
namespace Go.Proofs.Ytnncohajlmbedaa
open Go.RowKit
attribute [local go_sem] match_undef Oper.growAt Oper.growUpon GSpec.fix GSpec.row GSpec.wh GSpec.own GSpec.frow GSpec.fld
attribute [local irreducible] wpList
theorem Fra.cat_le : ∀ (fs : List Fr), (∀ j (hj : j < fs.length), fs[j].2.length ≤ 65535) → (Fra.cat fs).length ≤ fs.length * 65550
  | [], _ => by simp [Fra.cat]
  | f :: fs, h => by
    have h1 := Fra.cat_le fs (fun j hj => h (j + 1) (by simp; omega))
    have h2 := h 0 (by simp)
    simp only [List.getElem_cons_zero] at h2
    have h3 := Fra.bytes_length f.1 f.2
    have h4 := (Fra.head_le f.1 f.2).2
    have e : Fra.cat (f :: fs) = Fra.bytes f.1 f.2 ++ Fra.cat fs := by unfold Fra.cat; rw [List.flatMap_cons]
    rw [e, List.length_append, List.length_cons]
    omega
theorem Fra.joinB_le (fs : List Fr) : (Fra.joinB fs).length ≤ fs.length * 65550 := by
  unfold Fra.joinB
  split
  · simp
  · rename_i h
    refine Fra.cat_le fs fun j hj => ?_
    rcases Nat.lt_or_ge 65535 fs[j].2.length with h1 | h1
    · exact absurd (Fra.over_at hj h1) h
    · exact h1
theorem Fra.putB_le (k : UInt8) (b : List UInt8) : (Fra.putB k b).length ≤ 65550 := by
  unfold Fra.putB
  split
  · simp
  · have h3 := Fra.bytes_length k b
    have h4 := (Fra.head_le k b).2
    omega

set_option maxRecDepth 100000 in
set_option maxHeartbeats 20000000 in
theorem framePuts_few (w : World) (A : Option Addr) (N cap : Nat) (fs : List Fr) (h : RdFr w w.heap.size A N fs) (hf : ∀ f ∈ fs, f.2.length ≤ 140737488351232) (hr : decide ((∀ a (ha : a < fs.length), a < 11 → fs[a].2.length ≤ 400) ∧ N ≤ 10) = true) :
    Calls Try.prog 5 #[.slice A N cap] w fun en w' => en = .returned (.bool true) ∧ Below w.heap.size w w' := by
  have HL := Lib.hid h.1
  have H := Lib.hid h
  have HFM := Lib.hid hf
  have hb : Below w.heap.size w w := Below.refl _ _
  clear h hf
  have HR := Lib.hid hr
  have hN10 : N ≤ 10 := (of_decide_eq_true hr).2
  clear hr
  go_enter Try.func5, Try.ntmps5
  go_wp2_with fail
  refine (few_any w A N cap fs w.heap.size (Nat.le_refl _) H.out (by omega) true HR.out).mono ?_
  rintro en w1 ⟨rfl, rfl⟩
  clear hb
  go_wp2_with fail
  refine (refs_any _ A N cap fs w.heap.size (Nat.le_refl _) H.out (by omega) HFM.out).mono ?_
  rintro en w3 ⟨D3, c3, v3, rfl, ho3, hof3, hb3⟩
  have HO3 := Lib.hid ho3
  have HF3 := Lib.hid hof3
  have HC3 := Lib.hid (own_cap ho3)
  have HB3 := Lib.hid hb3
  clear ho3 hof3 hb3
  obtain ⟨JB, hJB⟩ : ∃ JB, Fra.joinB fs = JB := ⟨_, rfl⟩
  obtain ⟨X, hX⟩ : ∃ X, JB.length = X := ⟨_, rfl⟩
  obtain ⟨xe, hxe⟩ : ∃ x, Fra.joinE fs = x := ⟨_, rfl⟩
  have hXl : X ≤ 655500 := by
    have h1 := Fra.joinB_le fs
    rw [hJB, hX, HL.out] at h1
    omega
  have HJB := Lib.hid hJB
  have HX := Lib.hid hX
  have HXE := Lib.hid hxe
  clear hJB hX hxe
  go_wp2_with fail
  go_loopw [4] (fun t wr => ∃ k : Nat, k ≤ 2 ∧ t = .int .i64 k ∧ Below w3.heap.size w3 wr) (fun t _ => 2 - (intOf t).toNat)
  case atStart => exact ⟨0, by omega, rfl, Below.refl _ _⟩
  case round =>
    obtain ⟨k, hk, rfl, hx⟩ := hrel
    have HBR := Lib.hid (HB3.out.trans (hx.mono HB3.out.size))
    by_cases hlt : k < 2
    · have d : decide ((k : Int) < 2) = true := by simp; omega
      have HXX := Lib.hid hx
      clear hx
      go_wp2_with fail
      have hcon := fjoin_any wr A N cap fs w.heap.size HBR.out.size (H.out.below HBR.out) (by omega) HFM.out
      unfold BytP at hcon
      rw [HJB.out, HX.out, HXE.out] at hcon
      refine hcon.mono ?_
      clear hcon
      rintro en w4 ⟨D5, c5, rfl, ho5, hb4⟩
      have HO5 := Lib.hid ho5
      have HBJ := Lib.hid hb4
      have HXX4 := Lib.hid (HXX.out.trans (hb4.mono HXX.out.size))
      clear ho5 hb4
      go_wp2_with fail
      have hcon := rjoin_any w4 D3 N c3 fs w4.heap.size (Nat.le_refl _) (RdFr.of_own HL.out (own_ext HO3.out HXX4.out) (HF3.out.ext HXX4.out)) (by omega) HFM.out
      unfold BytP at hcon
      rw [HJB.out, HX.out, HXE.out] at hcon
      refine hcon.mono ?_
      clear hcon
      rintro en w5 ⟨D7, c7, rfl, ho7, hb5⟩
      have HO7 := Lib.hid ho7
      replace HO5 := Lib.hid (own_ext HO5.out hb5)
      replace HBJ := Lib.hid (HBJ.out.trans (hb5.mono HBJ.out.size))
      clear ho7 hb5 HXX4
      have dx : (((xe : Nat) : Int) != ((xe : Nat) : Int)) = false := by simp
      go_wp2_with fail
      refine (same_any w5 D5 X c5 JB D7 X c7 JB w5.heap.size w5.heap.size (Nat.le_refl _) (Nat.le_refl _) (Rd.of_own HO5.out) (Rd.of_own HO7.out) (by omega) (by omega) true (by simp)).mono ?_
      rintro en w6 ⟨rfl, hb6⟩
      replace HO5 := Lib.hid (own_ext HO5.out hb6)
      replace HBJ := Lib.hid (HBJ.out.trans (hb6.mono HBJ.out.size))
      clear hb6 dx HO7
      go_wp2_with fail
      refine (spoil_any w6 D5 X c5 (byts JB) wr.heap.size 5 HO5.out (by omega)).mono ?_
      rintro en w7 ⟨rfl, _, hb7⟩
      have hx7 := HXX.out.trans ((HBJ.out.trans hb7).mono HXX.out.size)
      clear hb7 HBJ HO5 HXX HBR
      go_wp2_with fail
      go_roundw
      case rel => exact ⟨k + 1, by omega, by go_num, hx7⟩
      case measure => simp [intOf] <;> omega
    · have d : decide ((k : Int) < 2) = false := by simp; omega
      have HO4 := Lib.hid (own_ext HO3.out hx)
      have HF4 := Lib.hid (HF3.out.ext hx)
      clear HO3 HF3 HB3 hx
      obtain ⟨w4, hw4⟩ : ∃ w4, w4 = wr := ⟨_, rfl⟩
      rw [← hw4] at HBR HO4 HF4 ⊢
      clear hw4
      go_wp2_with fail
      go_loopw [9] (fun i wr => ∃ j : Nat, j ≤ N ∧ i = .int .i64 j ∧ Below w4.heap.size w4 wr) (fun i _ => N - (intOf i).toNat)
      case atStart => exact ⟨0, by omega, rfl, Below.refl _ _⟩
      case round =>
        obtain ⟨j, hj, rfl, hx⟩ := hrel
        have HBS := Lib.hid (HBR.out.trans (hx.mono HBR.out.size))
        by_cases hlt : j < N
        · have hjl : j < fs.length := by have := HL.out; omega
          obtain ⟨b1, o1, A1, c1, rfl, hb1, hp1, hq1, hm1, hm2, hr1⟩ := (H.out.below HBS.out).2 j hjl
          have hle := HFM.out fs[j] (List.getElem_mem hjl)
          obtain ⟨g3, cur3, rfl, hg3a, hg3b, hg3c⟩ := own_whole HO4.out (by omega)
          obtain ⟨A2, c2, hv0, hv1, hv2⟩ := HF4.out.2 j hjl
          obtain ⟨f, hfj⟩ : ∃ f, fs[j] = f := ⟨_, rfl⟩
          rw [hfj] at hp1 hq1 hr1 hm1 hle hv0 hv1 hv2
          obtain ⟨k2, bd⟩ := f
          simp only at hp1 hq1 hr1 hm1 hle hv0 hv1 hv2
          obtain ⟨m1, em⟩ : ∃ m, bd.length = m := ⟨_, rfl⟩
          rw [em] at hq1 hr1 hm1 hle hv1 hv2
          obtain ⟨y, hy⟩ : ∃ y, (Fra.bytes k2 bd).length = y := ⟨_, rfl⟩
          obtain ⟨PB, hPB⟩ : ∃ PB, Fra.putB k2 bd = PB := ⟨_, rfl⟩
          obtain ⟨pl, hpl⟩ : ∃ pl, PB.length = pl := ⟨_, rfl⟩
          obtain ⟨pe, hpe⟩ : ∃ pe, Fra.putE bd = pe := ⟨_, rfl⟩
          have hpll : pl ≤ 65550 := by have h1 := Fra.putB_le k2 bd; rw [hPB, hpl] at h1; exact h1
          obtain ⟨bb, oo, ee, _, hcc⟩ := (Rd.of_own HO4.out).2 (by omega)
          have hrp : w4.cell? ⟨g3, j * 2, none⟩ = some (.int .u8 (k2.toNat : Nat)) ∧ w4.cell? ⟨g3, j * 2 + 1, none⟩ = some (.slice A2 m1 c2) := by
            injection ee with ee
            injection ee with e1 e2
            subst e1 e2
            have h1 := hcc _ _ hv0
            have h2 := hcc _ _ hv1
            rw [Nat.zero_add] at h1 h2
            exact ⟨h1, h2⟩
          have hl3 : g3 < w4.heap.size := hg3b.lt
          have HP2 := Lib.hid hrp.1
          have HQ2 := Lib.hid hrp.2
          have HL3 := Lib.hid hl3
          have HR2 := Lib.hid hv2
          have HM := Lib.hid em
          have HY := Lib.hid hy
          have HPB := Lib.hid hPB
          have HPL := Lib.hid hpl
          have HPE := Lib.hid hpe
          have HR1 := Lib.hid hr1
          have P1 := Lib.hid hp1
          have Q1 := Lib.hid hq1
          have HB1L := Lib.hid hb1
          have HXX := Lib.hid hx
          have d : decide ((j : Int) < (N : Int)) = true := by simp; omega
          have d1 : (0 : Int) ≤ (j : Int) := by omega
          have d2 : (j : Int) < (N : Int) := by omega
          have hlb := Nat.lt_of_lt_of_le hb1 HBS.out.size
          clear hg3a hg3b hg3c hv0 hv1 hv2 hfj em hy hPB hpl hpe hcc hrp hl3 hr1 hb1 hx ee
          go_wp2_with fail
          have hcon := fput_any wr k2 A1 m1 c1 bd w.heap.size HBS.out.size HR1.out (by omega)
          rw [HPB.out, HPL.out, HPE.out] at hcon
          refine hcon.mono ?_
          clear hcon
          rintro en w6 ⟨D10, c10, rfl, ho10, hbn⟩
          have HO10 := Lib.hid ho10
          have HB6 := Lib.hid (HBS.out.trans (hbn.mono HBS.out.size))
          replace HR1 := Lib.hid (HR1.out.below (hbn.mono HBS.out.size))
          replace P1 := Lib.hid ((hbn.cell (p := ⟨b1, o1 + j * 2, none⟩) hlb).trans P1.out)
          replace Q1 := Lib.hid ((hbn.cell (p := ⟨b1, o1 + j * 2 + 1, none⟩) hlb).trans Q1.out)
          have HX6 := Lib.hid (HXX.out.trans (hbn.mono HXX.out.size))
          clear ho10 hbn hlb hp1 hq1
          have hp2 := (HX6.out.cell (p := ⟨g3, j * 2, none⟩) HL3.out).trans HP2.out
          have hq2 := (HX6.out.cell (p := ⟨g3, j * 2 + 1, none⟩) HL3.out).trans HQ2.out
          have hl3 := Nat.lt_of_lt_of_le HL3.out HX6.out.size
          go_wp2_with fail
          have hcon := rput_any w6 k2 A2 m1 c2 bd w6.heap.size (Nat.le_refl _) (Rd.of_own (own_ext HR2.out HX6.out)) (by omega)
          rw [HPB.out, HPL.out, HPE.out] at hcon
          refine hcon.mono ?_
          clear hcon
          rintro en w7 ⟨D12, c12, rfl, ho12, hbn⟩
          have HO12 := Lib.hid ho12
          replace HO10 := Lib.hid (own_ext HO10.out hbn)
          have HB7 := Lib.hid (HB6.out.trans (hbn.mono HB6.out.size))
          have HB2 := Lib.hid HB7.out.size
          replace HR1 := Lib.hid (HR1.out.below (hbn.mono HB6.out.size))
          replace P1 := Lib.hid ((hbn.cell (p := ⟨b1, o1 + j * 2, none⟩) (Nat.lt_of_lt_of_le HB1L.out HB6.out.size)).trans P1.out)
          replace Q1 := Lib.hid ((hbn.cell (p := ⟨b1, o1 + j * 2 + 1, none⟩) (Nat.lt_of_lt_of_le HB1L.out HB6.out.size)).trans Q1.out)
          have LB := Lib.hid (Nat.lt_of_lt_of_le HB1L.out HB2.out)
          have HX7 := Lib.hid (HX6.out.trans (hbn.mono HX6.out.size))
          have LB3 := Lib.hid (Nat.lt_of_lt_of_le HL3.out HX7.out.size)
          have P2 := Lib.hid ((HX7.out.cell (p := ⟨g3, j * 2, none⟩) HL3.out).trans HP2.out)
          have Q2 := Lib.hid ((HX7.out.cell (p := ⟨g3, j * 2 + 1, none⟩) HL3.out).trans HQ2.out)
          replace HR2 := Lib.hid (own_ext HR2.out HX7.out)
          clear ho12 hbn hp2 hq2 hl3 HX6 HB6 HBS HXX
          have dx : (((pe : Nat) : Int) != ((pe : Nat) : Int)) = false := by simp
          have dy : (((y : Nat) : Int) != ((y : Nat) : Int)) = false := by simp
          go_wp2_with fail
          refine wp_region_grow (fun k' => List.lookup k' [(6, .fix (.bool true)), (13, .fix (.agg #[.int .u8 (k2.toNat : Nat), .slice A1 m1 c1])), (14, .fix (.int .i64 (y : Nat))), (18, .fix (.agg #[.int .u8 (k2.toNat : Nat), .slice A2 m1 c2])), (19, .fix (.int .i64 (y : Nat)))]) (by as_aux_lemma => kernel_rfl) (by as_aux_lemma => kernel_rfl) ?_
          repeat (refine wpGrow_pure rfl (fun K hK => ?_); go_simp; refine hK.out _ ?_; clear hK K)
          refine wpGrow_eff _ rfl (fun wx he hcl => ?_) (fun _ K hK => ?_) rfl
          · clear hcl
            have hcon := same_any wx D10 pl c10 PB D12 pl c12 PB wx.heap.size wx.heap.size (Nat.le_refl _) (Nat.le_refl _) (Rd.of_own (own_ext HO10.out he)) (Rd.of_own (own_ext HO12.out he)) (by omega) (by omega) true (by simp)
            go_simp
            all_goals exact hcon
          go_simp
          refine hK.out _ ?_
          clear hK K
          repeat (refine wpGrow_pure rfl (fun K hK => ?_); go_simp; refine hK.out _ ?_; clear hK K)
          refine wpGrow_eff _ rfl (fun wx he hcl => ?_) (fun _ K hK => ?_) rfl
          · clear hcl
            have hq0 := (he.cell (p := ⟨b1, o1 + j * 2, none⟩) LB.out).trans P1.out
            have hq1 := (he.cell (p := ⟨b1, o1 + j * 2 + 1, none⟩) LB.out).trans Q1.out
            go_simp
            exact Below.refl _ _
          go_simp
          refine hK.out _ ?_
          clear hK K
          repeat (refine wpGrow_pure rfl (fun K hK => ?_); go_simp; refine hK.out _ ?_; clear hK K)
          refine wpGrow_eff _ rfl (fun wx he hcl => ?_) (fun _ K hK => ?_) rfl
          · clear hcl
            have hcon := fsize_any wx k2 A1 m1 c1 bd w.heap.size (Nat.le_trans HB2.out he.size) (HR1.out.below (he.mono HB2.out)) (by omega)
            rw [HY.out] at hcon
            go_simp
            all_goals exact hcon
          go_simp
          refine hK.out _ ?_
          clear hK K
          repeat (refine wpGrow_pure rfl (fun K hK => ?_); go_simp; refine hK.out _ ?_; clear hK K)
          refine wpGrow_eff _ rfl (fun wx he hcl => ?_) (fun _ K hK => ?_) rfl
          · clear hcl
            have hq0 := (he.cell (p := ⟨g3, j * 2, none⟩) LB3.out).trans P2.out
            have hq1 := (he.cell (p := ⟨g3, j * 2 + 1, none⟩) LB3.out).trans Q2.out
            go_simp
            exact Below.refl _ _
          go_simp
          refine hK.out _ ?_
          clear hK K
          repeat (refine wpGrow_pure rfl (fun K hK => ?_); go_simp; refine hK.out _ ?_; clear hK K)
          refine wpGrow_eff _ rfl (fun wx he hcl => ?_) (fun _ K hK => ?_) rfl
          · clear hcl
            have hcon := rsize_any wx k2 A2 m1 c2 bd wx.heap.size (Nat.le_refl _) (Rd.of_own (own_ext HR2.out he)) (by omega)
            rw [HY.out] at hcon
            go_simp
            all_goals exact hcon
          go_simp
          refine hK.out _ ?_
          clear hK K
          repeat (refine wpGrow_pure rfl (fun K hK => ?_); go_simp; refine hK.out _ ?_; clear hK K)
          refine wpGrow_nil fun wx he hfin => ?_
          clear hfin
          have hx8 := HX7.out.trans (he.mono HX7.out.size)
          clear he dx dy
          go_wp2_with fail
          go_roundw
          case rel => exact ⟨j + 1, by omega, by go_num, hx8⟩
          case measure => simp [intOf] <;> omega
        · obtain rfl : N = j := by omega
          have d : decide ((N : Int) < (N : Int)) = false := by simp
          have HXX := Lib.hid hx
          clear hx
          go_wp2_with fail
          refine (lsameAll_any wr A N cap fs D3 N c3 fs w.heap.size wr.heap.size HBS.out.size (Nat.le_refl _) (H.out.below HBS.out) (RdFr.of_own HL.out (own_ext HO4.out HXX.out) (HF4.out.ext HXX.out)) (by omega) (by omega) HFM.out HFM.out true (by simp)).mono ?_
          rintro en w9 ⟨rfl, hb9⟩
          have hb := HBS.out.trans (hb9.mono HBS.out.size)
          clear hb9 HBS HXX
          go_wp2_with fail
          refine (fworks_any _).mono ?_
          rintro en wz ⟨rfl, hbz⟩
          replace hb := hb.trans (hbz.mono hb.size)
          go_wp2_with fail
          go_ret
          exact ⟨rfl, hb⟩

set_option maxRecDepth 100000 in
set_option maxHeartbeats 20000000 in
theorem framePuts_big (w : World) (A : Option Addr) (N cap : Nat) (fs : List Fr) (h : RdFr w w.heap.size A N fs) (hf : ∀ f ∈ fs, f.2.length ≤ 140737488351232) (hr : decide ((∀ a (ha : a < fs.length), a < 11 → fs[a].2.length ≤ 400) ∧ N ≤ 10) = false) (hN1 : N = 1) (hlen : ∀ (h0 : 0 < fs.length), 65535 < fs[0].2.length) :
    Calls Try.prog 5 #[.slice A N cap] w fun en w' => en = .returned (.bool true) ∧ Below w.heap.size w w' := by
  have HL := Lib.hid h.1
  have H := Lib.hid h
  have HFM := Lib.hid hf
  have hb : Below w.heap.size w w := Below.refl _ _
  clear h hf
  have HR := Lib.hid hr
  have HN1 := Lib.hid hN1
  have h0l : 0 < fs.length := by rw [HL.out]; omega
  obtain ⟨b0, o0, A0, c0, rfl, hb0, hp0, hq0, hm0, hm02, hr0⟩ := H.out.2 0 h0l
  obtain ⟨m0, em0⟩ : ∃ m, fs[0].2.length = m := ⟨_, rfl⟩
  have hbig : 65535 < m0 := by rw [← em0]; exact hlen h0l
  rw [em0] at hq0
  rw [Nat.zero_mul] at hq0
  rw [Nat.add_zero] at hq0
  have hN0 : (0 : Int) < (N : Int) := by omega
  have hn1 : ((N : Int) != 1) = false := by rw [hN1]; rfl
  have dm : decide ((m0 : Int) ≤ 65535) = false := by simp; omega
  have hN10 : N ≤ 10 := by omega
  have hlb0 := hb0
  clear hr hlen hr0 hp0 em0 hN1 h0l hm0 hb
  go_enter Try.func5, Try.ntmps5
  go_wp2_with fail
  refine (few_any w _ N cap fs w.heap.size (Nat.le_refl _) H.out (by omega) false HR.out).mono ?_
  rintro en w1 ⟨rfl, rfl⟩
  go_wp2_with fail
  clear dm hn1 hN0 hq0
  refine (refs_any _ _ N cap fs w.heap.size (Nat.le_refl _) H.out (by omega) HFM.out).mono ?_
  rintro en w3 ⟨D3, c3, v3, rfl, ho3, hof3, hb3⟩
  have HO3 := Lib.hid ho3
  have HF3 := Lib.hid hof3
  have HC3 := Lib.hid (own_cap ho3)
  have HB3 := Lib.hid hb3
  clear ho3 hof3 hb3
  obtain ⟨JB, hJB⟩ : ∃ JB, Fra.joinB fs = JB := ⟨_, rfl⟩
  obtain ⟨X, hX⟩ : ∃ X, JB.length = X := ⟨_, rfl⟩
  obtain ⟨xe, hxe⟩ : ∃ x, Fra.joinE fs = x := ⟨_, rfl⟩
  have hXl : X ≤ 655500 := by
    have h1 := Fra.joinB_le fs
    rw [hJB, hX, HL.out] at h1
    omega
  have HJB := Lib.hid hJB
  have HX := Lib.hid hX
  have HXE := Lib.hid hxe
  clear hJB hX hxe
  go_wp2_with fail
  go_loopw [4] (fun t wr => ∃ k : Nat, k ≤ 2 ∧ t = .int .i64 k ∧ Below w3.heap.size w3 wr) (fun t _ => 2 - (intOf t).toNat)
  case atStart => exact ⟨0, by omega, rfl, Below.refl _ _⟩
  case round =>
    obtain ⟨k, hk, rfl, hx⟩ := hrel
    have HBR := Lib.hid (HB3.out.trans (hx.mono HB3.out.size))
    by_cases hlt : k < 2
    · have d : decide ((k : Int) < 2) = true := by simp; omega
      have HXX := Lib.hid hx
      clear hx
      go_wp2_with fail
      have hcon := fjoin_any wr _ N cap fs w.heap.size HBR.out.size (H.out.below HBR.out) (by omega) HFM.out
      unfold BytP at hcon
      rw [HJB.out, HX.out, HXE.out] at hcon
      refine hcon.mono ?_
      clear hcon
      rintro en w4 ⟨D5, c5, rfl, ho5, hb4⟩
      have HO5 := Lib.hid ho5
      have HBJ := Lib.hid hb4
      have HXX4 := Lib.hid (HXX.out.trans (hb4.mono HXX.out.size))
      clear ho5 hb4
      go_wp2_with fail
      have hcon := rjoin_any w4 D3 N c3 fs w4.heap.size (Nat.le_refl _) (RdFr.of_own HL.out (own_ext HO3.out HXX4.out) (HF3.out.ext HXX4.out)) (by omega) HFM.out
      unfold BytP at hcon
      rw [HJB.out, HX.out, HXE.out] at hcon
      refine hcon.mono ?_
      clear hcon
      rintro en w5 ⟨D7, c7, rfl, ho7, hb5⟩
      have HO7 := Lib.hid ho7
      replace HO5 := Lib.hid (own_ext HO5.out hb5)
      replace HBJ := Lib.hid (HBJ.out.trans (hb5.mono HBJ.out.size))
      clear ho7 hb5 HXX4
      have dx : (((xe : Nat) : Int) != ((xe : Nat) : Int)) = false := by simp
      go_wp2_with fail
      refine (same_any w5 D5 X c5 JB D7 X c7 JB w5.heap.size w5.heap.size (Nat.le_refl _) (Nat.le_refl _) (Rd.of_own HO5.out) (Rd.of_own HO7.out) (by omega) (by omega) true (by simp)).mono ?_
      rintro en w6 ⟨rfl, hb6⟩
      replace HO5 := Lib.hid (own_ext HO5.out hb6)
      replace HBJ := Lib.hid (HBJ.out.trans (hb6.mono HBJ.out.size))
      clear hb6 dx HO7
      go_wp2_with fail
      refine (spoil_any w6 D5 X c5 (byts JB) wr.heap.size 5 HO5.out (by omega)).mono ?_
      rintro en w7 ⟨rfl, _, hb7⟩
      have hx7 := HXX.out.trans ((HBJ.out.trans hb7).mono HXX.out.size)
      clear hb7 HBJ HO5 HXX HBR
      go_wp2_with fail
      go_roundw
      case rel => exact ⟨k + 1, by omega, by go_num, hx7⟩
      case measure => simp [intOf] <;> omega
    · have d : decide ((k : Int) < 2) = false := by simp; omega
      have HO4 := Lib.hid (own_ext HO3.out hx)
      have HF4 := Lib.hid (HF3.out.ext hx)
      clear HO3 HF3 HB3 hx
      obtain ⟨w4, hw4⟩ : ∃ w4, w4 = wr := ⟨_, rfl⟩
      rw [← hw4] at HBR HO4 HF4 ⊢
      clear hw4
      go_wp2_with fail
      go_loopw [9] (fun i wr => ∃ j : Nat, j ≤ N ∧ i = .int .i64 j ∧ Below w4.heap.size w4 wr) (fun i _ => N - (intOf i).toNat)
      case atStart => exact ⟨0, by omega, rfl, Below.refl _ _⟩
      case round =>
        obtain ⟨j, hj, rfl, hx⟩ := hrel
        have HBS := Lib.hid (HBR.out.trans (hx.mono HBR.out.size))
        by_cases hlt : j < N
        · have hjl : j < fs.length := by have := HL.out; omega
          obtain ⟨b1, o1, A1, c1, hAe, hb1, hp1, hq1, hm1, hm2, hr1⟩ := (H.out.below HBS.out).2 j hjl
          obtain ⟨e1, e2⟩ : b1 = b0 ∧ o1 = o0 := by injection hAe with e; injection e with e1 e2; exact ⟨e1.symm, e2.symm⟩
          subst e1 e2
          clear hAe
          have hle := HFM.out fs[j] (List.getElem_mem hjl)
          obtain ⟨g3, cur3, rfl, hg3a, hg3b, hg3c⟩ := own_whole HO4.out (by omega)
          obtain ⟨A2, c2, hv0, hv1, hv2⟩ := HF4.out.2 j hjl
          obtain ⟨f, hfj⟩ : ∃ f, fs[j] = f := ⟨_, rfl⟩
          rw [hfj] at hp1 hq1 hr1 hm1 hle hv0 hv1 hv2
          obtain ⟨k2, bd⟩ := f
          simp only at hp1 hq1 hr1 hm1 hle hv0 hv1 hv2
          obtain ⟨m1, em⟩ : ∃ m, bd.length = m := ⟨_, rfl⟩
          rw [em] at hq1 hr1 hm1 hle hv1 hv2
          obtain ⟨y, hy⟩ : ∃ y, (Fra.bytes k2 bd).length = y := ⟨_, rfl⟩
          obtain ⟨PB, hPB⟩ : ∃ PB, Fra.putB k2 bd = PB := ⟨_, rfl⟩
          obtain ⟨pl, hpl⟩ : ∃ pl, PB.length = pl := ⟨_, rfl⟩
          obtain ⟨pe, hpe⟩ : ∃ pe, Fra.putE bd = pe := ⟨_, rfl⟩
          have hpll : pl ≤ 65550 := by have h1 := Fra.putB_le k2 bd; rw [hPB, hpl] at h1; exact h1
          obtain ⟨bb, oo, ee, _, hcc⟩ := (Rd.of_own HO4.out).2 (by omega)
          have hrp : w4.cell? ⟨g3, j * 2, none⟩ = some (.int .u8 (k2.toNat : Nat)) ∧ w4.cell? ⟨g3, j * 2 + 1, none⟩ = some (.slice A2 m1 c2) := by
            injection ee with ee
            injection ee with e1 e2
            subst e1 e2
            have h1 := hcc _ _ hv0
            have h2 := hcc _ _ hv1
            rw [Nat.zero_add] at h1 h2
            exact ⟨h1, h2⟩
          have hl3 : g3 < w4.heap.size := hg3b.lt
          have HP2 := Lib.hid hrp.1
          have HQ2 := Lib.hid hrp.2
          have HL3 := Lib.hid hl3
          have HR2 := Lib.hid hv2
          have HM := Lib.hid em
          have HY := Lib.hid hy
          have HPB := Lib.hid hPB
          have HPL := Lib.hid hpl
          have HPE := Lib.hid hpe
          have HR1 := Lib.hid hr1
          have P1 := Lib.hid hp1
          have Q1 := Lib.hid hq1
          have HB1L := Lib.hid hb1
          have HXX := Lib.hid hx
          have d : decide ((j : Int) < (N : Int)) = true := by simp; omega
          have d1 : (0 : Int) ≤ (j : Int) := by omega
          have d2 : (j : Int) < (N : Int) := by omega
          have hlb := Nat.lt_of_lt_of_le hb1 HBS.out.size
          clear hg3a hg3b hg3c hv0 hv1 hv2 hfj em hy hPB hpl hpe hcc hrp hl3 hr1 hb1 hx ee
          go_wp2_with fail
          have hcon := fput_any wr k2 A1 m1 c1 bd w.heap.size HBS.out.size HR1.out (by omega)
          rw [HPB.out, HPL.out, HPE.out] at hcon
          refine hcon.mono ?_
          clear hcon
          rintro en w6 ⟨D10, c10, rfl, ho10, hbn⟩
          have HO10 := Lib.hid ho10
          have HB6 := Lib.hid (HBS.out.trans (hbn.mono HBS.out.size))
          replace HR1 := Lib.hid (HR1.out.below (hbn.mono HBS.out.size))
          replace P1 := Lib.hid ((hbn.cell (p := ⟨b1, o1 + j * 2, none⟩) hlb).trans P1.out)
          replace Q1 := Lib.hid ((hbn.cell (p := ⟨b1, o1 + j * 2 + 1, none⟩) hlb).trans Q1.out)
          have HX6 := Lib.hid (HXX.out.trans (hbn.mono HXX.out.size))
          clear ho10 hbn hlb hp1 hq1
          have hp2 := (HX6.out.cell (p := ⟨g3, j * 2, none⟩) HL3.out).trans HP2.out
          have hq2 := (HX6.out.cell (p := ⟨g3, j * 2 + 1, none⟩) HL3.out).trans HQ2.out
          have hl3 := Nat.lt_of_lt_of_le HL3.out HX6.out.size
          go_wp2_with fail
          have hcon := rput_any w6 k2 A2 m1 c2 bd w6.heap.size (Nat.le_refl _) (Rd.of_own (own_ext HR2.out HX6.out)) (by omega)
          rw [HPB.out, HPL.out, HPE.out] at hcon
          refine hcon.mono ?_
          clear hcon
          rintro en w7 ⟨D12, c12, rfl, ho12, hbn⟩
          have HO12 := Lib.hid ho12
          replace HO10 := Lib.hid (own_ext HO10.out hbn)
          have HB7 := Lib.hid (HB6.out.trans (hbn.mono HB6.out.size))
          have HB2 := Lib.hid HB7.out.size
          replace HR1 := Lib.hid (HR1.out.below (hbn.mono HB6.out.size))
          replace P1 := Lib.hid ((hbn.cell (p := ⟨b1, o1 + j * 2, none⟩) (Nat.lt_of_lt_of_le HB1L.out HB6.out.size)).trans P1.out)
          replace Q1 := Lib.hid ((hbn.cell (p := ⟨b1, o1 + j * 2 + 1, none⟩) (Nat.lt_of_lt_of_le HB1L.out HB6.out.size)).trans Q1.out)
          have LB := Lib.hid (Nat.lt_of_lt_of_le HB1L.out HB2.out)
          have HX7 := Lib.hid (HX6.out.trans (hbn.mono HX6.out.size))
          have LB3 := Lib.hid (Nat.lt_of_lt_of_le HL3.out HX7.out.size)
          have P2 := Lib.hid ((HX7.out.cell (p := ⟨g3, j * 2, none⟩) HL3.out).trans HP2.out)
          have Q2 := Lib.hid ((HX7.out.cell (p := ⟨g3, j * 2 + 1, none⟩) HL3.out).trans HQ2.out)
          replace HR2 := Lib.hid (own_ext HR2.out HX7.out)
          clear ho12 hbn hp2 hq2 hl3 HX6 HB6 HBS HXX
          have dx : (((pe : Nat) : Int) != ((pe : Nat) : Int)) = false := by simp
          have dy : (((y : Nat) : Int) != ((y : Nat) : Int)) = false := by simp
          go_wp2_with fail
          refine wp_region_grow (fun k' => List.lookup k' [(6, .fix (.bool true)), (13, .fix (.agg #[.int .u8 (k2.toNat : Nat), .slice A1 m1 c1])), (14, .fix (.int .i64 (y : Nat))), (18, .fix (.agg #[.int .u8 (k2.toNat : Nat), .slice A2 m1 c2])), (19, .fix (.int .i64 (y : Nat)))]) (by as_aux_lemma => kernel_rfl) (by as_aux_lemma => kernel_rfl) ?_
          repeat (refine wpGrow_pure rfl (fun K hK => ?_); go_simp; refine hK.out _ ?_; clear hK K)
          refine wpGrow_eff _ rfl (fun wx he hcl => ?_) (fun _ K hK => ?_) rfl
          · clear hcl
            have hcon := same_any wx D10 pl c10 PB D12 pl c12 PB wx.heap.size wx.heap.size (Nat.le_refl _) (Nat.le_refl _) (Rd.of_own (own_ext HO10.out he)) (Rd.of_own (own_ext HO12.out he)) (by omega) (by omega) true (by simp)
            go_simp
            all_goals exact hcon
          go_simp
          refine hK.out _ ?_
          clear hK K
          repeat (refine wpGrow_pure rfl (fun K hK => ?_); go_simp; refine hK.out _ ?_; clear hK K)
          refine wpGrow_eff _ rfl (fun wx he hcl => ?_) (fun _ K hK => ?_) rfl
          · clear hcl
            have hq0 := (he.cell (p := ⟨b1, o1 + j * 2, none⟩) LB.out).trans P1.out
            have hq1 := (he.cell (p := ⟨b1, o1 + j * 2 + 1, none⟩) LB.out).trans Q1.out
            go_simp
            exact Below.refl _ _
          go_simp
          refine hK.out _ ?_
          clear hK K
          repeat (refine wpGrow_pure rfl (fun K hK => ?_); go_simp; refine hK.out _ ?_; clear hK K)
          refine wpGrow_eff _ rfl (fun wx he hcl => ?_) (fun _ K hK => ?_) rfl
          · clear hcl
            have hcon := fsize_any wx k2 A1 m1 c1 bd w.heap.size (Nat.le_trans HB2.out he.size) (HR1.out.below (he.mono HB2.out)) (by omega)
            rw [HY.out] at hcon
            go_simp
            all_goals exact hcon
          go_simp
          refine hK.out _ ?_
          clear hK K
          repeat (refine wpGrow_pure rfl (fun K hK => ?_); go_simp; refine hK.out _ ?_; clear hK K)
          refine wpGrow_eff _ rfl (fun wx he hcl => ?_) (fun _ K hK => ?_) rfl
          · clear hcl
            have hq0 := (he.cell (p := ⟨g3, j * 2, none⟩) LB3.out).trans P2.out
            have hq1 := (he.cell (p := ⟨g3, j * 2 + 1, none⟩) LB3.out).trans Q2.out
            go_simp
            exact Below.refl _ _
          go_simp
          refine hK.out _ ?_
          clear hK K
          repeat (refine wpGrow_pure rfl (fun K hK => ?_); go_simp; refine hK.out _ ?_; clear hK K)
          refine wpGrow_eff _ rfl (fun wx he hcl => ?_) (fun _ K hK => ?_) rfl
          · clear hcl
            have hcon := rsize_any wx k2 A2 m1 c2 bd wx.heap.size (Nat.le_refl _) (Rd.of_own (own_ext HR2.out he)) (by omega)
            rw [HY.out] at hcon
            go_simp
            all_goals exact hcon
          go_simp
          refine hK.out _ ?_
          clear hK K
          repeat (refine wpGrow_pure rfl (fun K hK => ?_); go_simp; refine hK.out _ ?_; clear hK K)
          refine wpGrow_nil fun wx he hfin => ?_
          clear hfin
          have hx8 := HX7.out.trans (he.mono HX7.out.size)
          clear he dx dy
          go_wp2_with fail
          go_roundw
          case rel => exact ⟨j + 1, by omega, by go_num, hx8⟩
          case measure => simp [intOf] <;> omega
        · obtain rfl : N = j := by omega
          have d : decide ((N : Int) < (N : Int)) = false := by simp
          have HXX := Lib.hid hx
          clear hx
          go_wp2_with fail
          refine (lsameAll_any wr _ N cap fs D3 N c3 fs w.heap.size wr.heap.size HBS.out.size (Nat.le_refl _) (H.out.below HBS.out) (RdFr.of_own HL.out (own_ext HO4.out HXX.out) (HF4.out.ext HXX.out)) (by omega) (by omega) HFM.out HFM.out true (by simp)).mono ?_
          rintro en w9 ⟨rfl, hb9⟩
          have hb := HBS.out.trans (hb9.mono HBS.out.size)
          clear hb9 HBS HXX
          go_wp2_with fail
          refine (fworks_any _).mono ?_
          rintro en wz ⟨rfl, hbz⟩
          replace hb := hb.trans (hbz.mono hb.size)
          go_wp2_with fail
          go_ret
          exact ⟨rfl, hb⟩

end Go.Proofs.Ytnncohajlmbedaa
