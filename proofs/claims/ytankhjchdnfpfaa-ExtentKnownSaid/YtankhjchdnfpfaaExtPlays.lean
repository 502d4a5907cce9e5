/-
  Files in parts: ExtentPlays, the law's walk.
-/
import Derived.Test.YtankhjchdnfpfaaExtPlay
import Derived.Test.YtankhjchdnfpfaaExtWorks
namespace Go.Proofs.Ytankhjchdnfpfaa
open Go.RowKit
attribute [local go_sem] match_undef Oper.growAt Oper.growUpon GSpec.fix GSpec.row GSpec.wh GSpec.own GSpec.fout
attribute [local irreducible] wpList
set_option maxRecDepth 100000 in
set_option maxHeartbeats 16000000 in
theorem plays_any (w : World) (A : Option Addr) (N cap : Nat) (ls : List (List UInt8)) (HR0 : RdRows w w.heap.size A N ls) (hN : N ≤ 9223372036854775807) (A2 : Option Addr) (N2 cap2 : Nat) (acts : List Ac) (HA0 : RdAc w w.heap.size A2 N2 acts) (hN2 : N2 ≤ 9223372036854775807) :
    Calls Try.prog 3 #[.slice A N cap, .slice A2 N2 cap2] w fun en w' => en = .returned (.bool true) ∧ Below w.heap.size w w' := by
  have HR := Lib.hid HR0
  have HA := Lib.hid HA0
  have HWK := Lib.hid works_any
  clear HR0 HA0
  by_cases hF : Few acts 30
  · have HC := Lib.hid (show Calls Try.prog 6 #[.slice A2 N2 cap2, .int .i64 30] w (fun en w' => en = .returned (.bool true) ∧ w = w') from few_any w A2 N2 cap2 acts w.heap.size HA.out hN2 30 true (by simp [hF]))
    have HS := Lib.hid (hF.all (by omega))
    have hN3 : N2 ≤ 30 := by rw [← HA.out.1]; exact hF.2
    clear hF
    by_cases h20 : 20 < N
    · have t20 : decide ((20 : Int) < (N : Int)) = true := by simp; omega
      go_enter Try.func3, Try.ntmps3
      go_wp2_with fail
      refine HC.out.mono ?_
      clear HC
      rintro en w2 ⟨rfl, rfl⟩
      go_wp2_with fail
      refine (HWK.out w).mono ?_
      rintro en w2 ⟨rfl, hb⟩
      go_wp2_with fail
      go_ret
      exact ⟨rfl, hb⟩
    · have t20 : decide ((20 : Int) < (N : Int)) = false := by simp; omega
      go_enter Try.func3, Try.ntmps3
      go_wp2_with fail
      refine HC.out.mono ?_
      clear HC
      rintro en w2 ⟨rfl, rfl⟩
      go_wp2_with fail
      go_loopw [5, 6] (fun v i wr => ∃ (j : Nat) (D : Option Addr) (c : Nat), j ≤ N ∧ v = .slice D j c ∧ i = .int .i64 j ∧ Hid (∃ vs, wr.ownsRow w.heap.size 26 1 (.slice D j c) j vs ∧ OwnRows wr w.heap.size 5 (ls.take j) vs) ∧ Hid (∀ l ∈ ls.take j, l.length ≤ 30) ∧ Below w.heap.size w wr) (fun _ i _ => N - (intOf i).toNat)
      case atStart => exact ⟨0, none, 0, by omega, rfl, rfl, ⟨[], World.ownsRow_nil _ _ _ _, OwnRows.nil _ _ _⟩, (fun l hl => by simp at hl), Below.refl _ _⟩
      case round =>
        obtain ⟨j, D, c, hj, rfl, rfl, HO, HL, hb⟩ := hrel
        by_cases hlt : j < N
        · obtain ⟨b1, o1, A1, m, c1, rfl, hb1, hp1, hm1, hm2, hr1⟩ := (HR.out.below hb).2 j hlt
          have hjl : j < ls.length := by rw [HR.out.1]; exact hlt
          have hg : ls.getD j [] = ls[j] := by simp [List.getD, List.getElem?_eq_getElem hjl]
          rw [hg] at hr1
          have hml := hr1.blen
          have hd : decide ((j : Int) < (N : Int)) = true := by simp; omega
          have d1 : (0 : Int) ≤ (j : Int) := by omega
          have d2 : (j : Int) < (N : Int) := by omega
          by_cases hov : 30 < m
          · have t1 : decide ((30 : Int) < (m : Int)) = true := by simp; omega
            clear hr1 hg hml
            go_wp2_with fail
            refine (HWK.out wr).mono ?_
            rintro en w2 ⟨rfl, hb2⟩
            have hb3 := hb.trans (hb2.mono hb.size)
            clear hb2 hb
            go_wp2_with fail
            go_ret
            exact ⟨rfl, hb3⟩
          · have t1 : decide ((30 : Int) < (m : Int)) = false := by simp; omega
            have HC := Lib.hid (own_any wr A1 m c1 ls[j] w.heap.size hr1 (by omega))
            rw [hml] at HC
            have HML := Lib.hid hml
            clear hr1 hg hml
            go_wp2_with fail
            refine HC.out.mono ?_
            clear HC
            rintro en w2 ⟨D2, c2, rfl, ho2, hb2⟩
            obtain ⟨vs, ho, hrow⟩ := HO.out
            have hbl := below1 w2 (.cells #[.slice D2 m c2] 26)
            have hbx := hb2.trans (hbl.mono hb2.size)
            have HO3 := Lib.hid (own_ext ho hbx)
            have HW3 := Lib.hid (hrow.ext hbx)
            have HD2 := Lib.hid (own_ext (own_base ho2 hb.size) hbl)
            have hb3 := hb.trans (hbx.mono hb.size)
            have HB3 := Lib.hid hb3
            have hs3 := hb3.size
            have HRD := Lib.hid (show Rd (w2.alloc (.cells #[.slice D2 m c2] 26)) (w2.alloc (.cells #[.slice D2 m c2] 26)).heap.size 1 (some ⟨w2.heap.size, 0, none⟩) 1 [.slice D2 m c2] from ⟨rfl, fun _ => ⟨w2.heap.size, 0, rfl, (Whole.new w2 26 #[.slice D2 m c2]).lt, fun a u hu => by rw [Nat.zero_add, (Whole.new w2 26 #[.slice D2 m c2]).cell a, ← hu]; simp⟩⟩)
            have HTK := Lib.hid (show ls.take (j + 1) = ls.take j ++ [ls[j]] from List.take_succ_eq_append_getElem hjl)
            clear ho2 hb2 ho hrow hbl hbx hb3 hb HO
            go_wp2_with (at_builtin; refine wpList_append_rd _ rfl (.tmp 34) (.tmp 40) _ rfl rowsV w.heap.size _ j _ rfl HO3.out _ (some ⟨w2.heap.size, 0, none⟩) 1 1 _ rfl HRD.out (one_slice _ _ _) (by unfold maxLen; omega) (by omega) hs3 ?_; intro D7 c7 w3 ho3 hb3 hg3 _; have HROW := Lib.hid ((HW3.out.kept hg3 HO3.out (Ne.symm rpart_ne.2.2.2.2.2.2.2.2.2)).snoc HML.out (own_kept HD2.out hg3 HO3.out (Ne.symm rpart_ne.2.2.2.2.2.2.2.2.2))); have HO7 := Lib.hid ho3; have hb4 := HB3.out.trans hb3; clear ho3 hb3 hg3)
            have HL2 := Lib.hid (show ∀ l ∈ ls.take (j + 1), l.length ≤ 30 from fun l hl => by
              rw [HTK.out, List.mem_append, List.mem_singleton] at hl
              rcases hl with hl | hl
              · exact HL.out l hl
              · subst hl
                rw [HML.out]
                omega)
            go_roundw
            case rel => exact ⟨j + 1, D7, c7, by omega, rfl, by go_num, ⟨_, HO7.out, by rw [HTK.out]; exact HROW.out⟩, HL2, hb4⟩
            case measure => simp [intOf] <;> omega
        · obtain rfl : j = N := by omega
          have ht : ls.take j = ls := List.take_of_length_le (by rw [HR.out.1]; omega)
          obtain ⟨vs, ho, hrow⟩ := HO.out
          have hll := HL.out
          rw [ht] at hrow hll
          have hlen := HR.out.1
          have hgt := hb.size
          have HSF := Lib.hid (Soft.of_rows hrow hll (Nat.le_refl wr.heap.size))
          have HE := Lib.hid (eof_any wr D j c ls wr.heap.size (Nat.le_refl _) (RdRows.of_own hlen ho hrow) (by omega) (fun l hl => by have := hll l hl; omega))
          have HOW := Lib.hid ho
          have HLL := Lib.hid hll
          have HFM := Lib.hid (Exn.of_mem hll)
          have hfl := Exn.of_len ls
          rw [hlen] at hfl
          obtain ⟨FF, hFF⟩ : ∃ F, Exn.of_ ls = F := ⟨_, rfl⟩
          have HFF := Lib.hid hFF
          rw [hFF] at HE HFM hfl
          clear ho hrow hll ht hFF hlen HO HL
          go_wp2_with fail
          refine HE.out.mono ?_
          clear HE
          rintro en w2 ⟨Af, nf, cf, rfl, hf, hb2⟩
          obtain ⟨gf, hgf⟩ : ∃ g, w2.heap.size = g := ⟨_, rfl⟩
          have hlaid := Holds.laid hf
          have hbl := hb2.trans ((below1 w2 (.cells #[.slice Af nf cf] 30)).mono hb2.size)
          have hs2 := hb2.size
          have hz2 : (w2.alloc (.cells #[.slice Af nf cf] 30)).heap.size = w2.heap.size + 1 := by simp
          rw [hgf] at hlaid hs2 hz2
          have HLF := Lib.hid hlaid
          have HBL := Lib.hid hbl
          have HE := Lib.hid (rof_any (w2.alloc (.cells #[.slice Af nf cf] 30)) (fun g => wr.heap.size ≤ g) (fun g hg => Nat.le_trans hbl.size hg) A j cap ls w.heap.size (Nat.le_trans hgt hbl.size) (HR.out.below (hb.trans (hbl.mono hgt))) (by omega) (fun l hl => by have := HLL.out l hl; omega))
          rw [HFF.out] at HE
          clear hf hb2 hlaid hbl
          go_wp2_with fail
          generalize w2.alloc (.cells #[.slice Af nf cf] 30) = w3 at HLF HBL HE hz2 ⊢
          clear hgf
          refine HE.out.mono ?_
          clear HE
          rintro en w4 ⟨Ar, nr, cr, rfl, hf, hb4⟩
          obtain ⟨gr, hgr⟩ : ∃ g, w4.heap.size = g := ⟨_, rfl⟩
          have hlr : HoldsR (w4.alloc (.cells #[.slice Ar nr cr] 34)) w4.heap.size (fun g => wr.heap.size ≤ g) FF := ⟨Ar, nr, cr, Whole.new _ _ _, hf.ext (below1 _ _)⟩
          have hbl := hb4.trans ((below1 w4 (.cells #[.slice Ar nr cr] 34)).mono hb4.size)
          have hs4 := hb4.size
          rw [hgr] at hlr hs4
          have nfr : ¬ gf = gr := by omega
          have nrf : ¬ gr = gf := by omega
          have HLR := Lib.hid hlr
          have HLF2 := Lib.hid (HLF.out.ext hbl)
          have hb5 := HBL.out.trans (hbl.mono HBL.out.size)
          have HOW2 := Lib.hid (own_ext HOW.out hb5)
          have HSF2 := Lib.hid (show ∀ v ∈ vs, Soft (w4.alloc (.cells #[.slice Ar nr cr] 34)) w.heap.size wr.heap.size v from fun v hv => (HSF.out v hv).ext hb5)
          have HB5 := Lib.hid (hb.trans (hb5.mono hgt))
          have HGF := Lib.hid (show w.heap.size ≤ gf from by omega)
          have HGR := Lib.hid (show w.heap.size ≤ gr from by omega)
          obtain ⟨T, hT⟩ : ∃ T, wr.heap.size = T := ⟨_, rfl⟩
          rw [hT] at HLF2 HLR HSF2
          clear hf hb4 hlr hbl hb5 hs4 HLF HBL HSF HOW hb hgt hs2 hz2 HLL
          go_wp2_with fail
          clear hT hgr
          go_loopw [9] (fun i wx => ∃ k : Nat, k ≤ j ∧ i = .int .i64 k ∧ Hid (Holds wx gf (fun g => T ≤ g) FF) ∧ Hid (HoldsR wx gr (fun g => T ≤ g) FF) ∧ Hid (wx.ownsRow w.heap.size 26 1 (.slice D j c) j vs) ∧ Hid (∀ v ∈ vs, Soft wx w.heap.size T v) ∧ Below w.heap.size w wx) (fun i _ => j - (intOf i).toNat)
          case atStart => exact ⟨0, by omega, rfl, HLF2, HLR, HOW2, HSF2, HB5.out⟩
          case round =>
            rename World => wx
            obtain ⟨k, hk, rfl, H1, H2, H3, H4, hb⟩ := hrel
            by_cases hkj : k < j
            · have hd : decide ((k : Int) < (j : Int)) = true := by simp; omega
              have d1 : (0 : Int) ≤ (k : Int) := by omega
              have d2 : (k : Int) < (j : Int) := by omega
              obtain ⟨gd, _, rfl, _⟩ := own_whole H3.out (by omega)
              have hkv : k < vs.length := by have := H3.out.1; omega
              have hq := own_cell H3.out (List.getElem?_eq_getElem hkv)
              obtain ⟨A1, m, c1, xs, hv, ho, hm, hAb⟩ := H4.out _ (List.getElem_mem hkv)
              rw [hv] at hq ho
              have HOO := Lib.hid ho
              have HAB := Lib.hid hAb
              have HC := Lib.hid (spoil_more wx A1 m c1 xs w.heap.size 5 ho (by omega))
              clear ho hv hAb
              go_wp2_with fail
              refine HC.out.mono ?_
              clear HC
              rintro en wy ⟨rfl, hg, hbw, ys, hy⟩
              have hG : ∀ g, T ≤ g → some g ≠ (Value.slice A1 m c1).ownBlock := fun g hg2 e => by
                cases A1 with
                | none => simp [Value.ownBlock] at e
                | some a =>
                  obtain ⟨ab, ao, af⟩ := a
                  rcases HOO.out.2 with ⟨hv, _⟩ | ⟨g', cap', cur', hv, _⟩
                  · cases hv
                  · injection hv with e1
                    injection e1 with e1
                    injection e1 with e1 e2 e3
                    subst e1 e2 e3
                    have h1 := HAB.out ab 0 rfl
                    simp [Value.ownBlock] at e
                    omega
              have H1n := Lib.hid (H1.out.over HOO.out hg hG)
              have H2n := Lib.hid (H2.out.over HOO.out hg hG)
              have H3n := Lib.hid (own_kept H3.out hg HOO.out rpart_ne.2.2.2.2.2.2.2.2.2)
              have H4n := Lib.hid (show ∀ v ∈ vs, Soft wy w.heap.size T v from fun v hv => (H4.out v hv).over HOO.out hg hy)
              have hb2 := hb.trans hbw
              clear hg hbw hy hG HOO HAB H1 H2 H3 H4 hb
              go_wp2_with fail
              go_roundw
              case rel => exact ⟨k + 1, by omega, by go_num, H1n, H2n, H3n, H4n, hb2⟩
              case measure => simp [intOf] <;> omega
            · obtain rfl : k = j := by omega
              have HX1 := Lib.hid (H1.out.weak (G' := AnyG) fun _ _ _ => trivial)
              have HX2 := Lib.hid (H2.out.weak (G' := AnyG) fun _ _ _ => trivial)
              clear H1 H2 H3 H4 HLF2 HLR HOW2 HSF2 HB5
              go_wp2_with fail
              go_loopw [10, 11] (fun i _ wx => ∃ (j : Nat) (fs : List Pa), j ≤ N2 ∧ i = .int .i64 j ∧ Hid (Holds wx gf AnyG fs) ∧ Hid (HoldsR wx gr AnyG fs) ∧ fs.length ≤ 20 + j ∧ Hid (∀ p ∈ fs, p.1.length ≤ 30) ∧ Below w.heap.size w wx) (fun i _ _ => N2 - (intOf i).toNat)
              case atStart => exact ⟨0, FF, by omega, rfl, HX1, HX2, by omega, HFM, hb⟩
              case round =>
                clear HX1 HX2 hb
                rename World => wz
                obtain ⟨j, fs, hj, rfl, H1, H2, hfl2, HFM2, hb⟩ := hrel
                by_cases hlt : j < N2
                · have hjl : j < acts.length := by rw [HA.out.1]; exact hlt
                  obtain ⟨ab, ao, B1, e1, B2, e2, rfl, hab, hp0, hp1, hp2, hr1, hm1, hr2, hm2⟩ := (HA.out.below hb).2 j hjl
                  have hd : decide ((j : Int) < (N2 : Int)) = true := by simp; omega
                  have d1 : (0 : Int) ≤ (j : Int) := by omega
                  have d2 : (j : Int) < (N2 : Int) := by omega
                  obtain ⟨hs1, hs2⟩ := HS.out _ (List.getElem_mem hjl)
                  obtain ⟨z, hz⟩ : ∃ z, acts[j].1 = z := ⟨_, rfl⟩
                  obtain ⟨bs, hbs⟩ : ∃ z, acts[j].2.1 = z := ⟨_, rfl⟩
                  obtain ⟨ks, hks⟩ : ∃ z, acts[j].2.2 = z := ⟨_, rfl⟩
                  rw [hz] at hp0
                  rw [hbs] at hp1 hr1 hs1 hm1
                  rw [hks] at hp2 hr2 hs2 hm2
                  obtain ⟨m, hm⟩ : ∃ z, bs.length = z := ⟨_, rfl⟩
                  obtain ⟨q, hq⟩ : ∃ z, ks.length = z := ⟨_, rfl⟩
                  rw [hm] at hp1 hr1 hs1 hm1
                  rw [hq] at hp2 hr2 hs2 hm2
                  have HM := Lib.hid hm
                  have HQ := Lib.hid hq
                  have HR1 := Lib.hid hr1
                  have HR2 := Lib.hid hr2
                  have HP0 := Lib.hid hp0
                  have HP1 := Lib.hid hp1
                  have HP2 := Lib.hid hp2
                  have HSB := Lib.hid hb.size
                  have HPL := Lib.hid (Nat.lt_of_lt_of_le hab hb.size)
                  have HC := Lib.hid (show Calls Try.prog 12 #[.int .i64 z, .int .i64 4] wz (fun en w' => en = .returned (.int .i64 (z % 4)) ∧ Below wz.heap.size wz w') from pick_any wz z 4 (by omega) (by omega))
                  clear hz hbs hks hm hq hr1 hr2 hp1 hp2
                  go_wp2_with fail
                  clear hp0
                  refine HC.out.mono ?_
                  clear HC
                  obtain ⟨y, hy⟩ : ∃ y, z % 4 = y := ⟨_, rfl⟩
                  rw [hy]
                  clear hy
                  rintro en w1 ⟨rfl, hbp⟩
                  have K1 := Lib.hid (H1.out.ext hbp)
                  have K2 := Lib.hid (H2.out.ext hbp)
                  have X1 := Lib.hid (HR1.out.below (hbp.mono HSB.out))
                  have X2 := Lib.hid (HR2.out.below (hbp.mono HSB.out))
                  have Q0 := Lib.hid ((hbp.cell (p := ⟨ab, ao + j * 3, none⟩) HPL.out).trans HP0.out)
                  have Q1 := Lib.hid ((hbp.cell (p := ⟨ab, ao + j * 3 + 1, none⟩) HPL.out).trans HP1.out)
                  have Q2 := Lib.hid ((hbp.cell (p := ⟨ab, ao + j * 3 + 2, none⟩) HPL.out).trans HP2.out)
                  have Q1L := Lib.hid (Nat.lt_of_lt_of_le HPL.out hbp.size)
                  have Q2L := Q1L
                  have HB := Lib.hid (hb.trans (hbp.mono hb.size))
                  clear H1 H2 HR1 HR2 HP0 HP1 HP2 HPL HSB hbp hb
                  by_cases hy2 : y = 2
                  · subst hy2
                    have HC := Lib.hid (sync_any w1 gf AnyG fs K1.out (by omega))
                    go_wp2_with fail
                    refine HC.out.mono ?_
                    clear HC
                    rintro en w2 hdone
                    obtain ⟨rfl, h2, hg2⟩ := hdone.holds
                    have L1 := Lib.hid h2
                    have L2 := Lib.hid (K2.out.aside K1.out hg2 nfr)
                    have hbn := HB.out.grown hg2 HB.out.size (fun k hk => by injection hk with hk; have := HGF.out; omega)
                    have LB := Lib.hid hbn
                    clear hdone h2 hg2 hbn K1 K2 HB
                    obtain ⟨A3, n3, c3, hw3, hf3⟩ := L2.out
                    have hn3 : n3 ≤ 1000000 := by rw [← hf3.1]; omega
                    have q3 := hw3.cell 0
                    simp at q3
                    have HC := Lib.hid (rsync_any w2 AnyG (anyG _) A3 n3 c3 fs hf3.rd hn3 (fun p hp => by have := HFM2.out p hp; omega))
                    have HW3 := Lib.hid hw3
                    clear hf3 hw3
                    go_wp2_with fail
                    refine HC.out.mono ?_
                    clear HC q3
                    rintro en w3 ⟨A4, n4, c4, rfl, hf4, hb4⟩
                    have hw4 := HW3.out.below hb4 HW3.out.lt
                    obtain ⟨A5, n5, c5, hw5, hf5⟩ := L1.out.ext hb4
                    obtain ⟨W, hW⟩ : ∃ W, w3.setCell ⟨gr, 0, none⟩ (.slice A4 n4 c4) = W := ⟨_, rfl⟩
                    obtain ⟨p1, p2, p3, p4, p5⟩ := put_ref hw5 hf5 hw4 rfl hf4 nrf hW
                    have HWf := Lib.hid p1
                    have HFf := Lib.hid p2
                    have HWr := Lib.hid p3
                    have HFr := Lib.hid p4
                    have HBW := Lib.hid ((LB.out.trans (hb4.mono LB.out.size)).grown p5 (LB.out.trans (hb4.mono LB.out.size)).size (fun k hk => by injection hk with hk; have := HGR.out; omega))
                    have q5 := hw5.cell 0
                    have q4 := hw4.cell 0
                    have f4 := hw4.frozen 0
                    simp at q5 q4
                    have HWW := Lib.hid hW
                    clear hw4 hf4 hb4 hw5 hf5 p1 p2 p3 p4 p5 hW L1 L2 LB
                    go_wp2_with fail
                    rw [HWW.out]
                    clear q4 q5 f4 HWW
                    have HC := Lib.hid (is_both W A5 n5 c5 A4 n4 c4 AnyG AnyG (Exn.sync fs) HFf.out HFr.out (by have := (show (Exn.sync fs).length ≤ 20 + j from Nat.le_trans (Exn.sync_le fs) (by omega)); omega) (Exn.sync_mem HFM2.out))
                    refine HC.out.mono ?_
                    clear HC
                    rintro en w9 ⟨rfl, hb9⟩
                    have Z1 := Lib.hid (show Holds w9 gf AnyG (Exn.sync fs) from ⟨A5, n5, c5, HWf.out.below hb9 HWf.out.lt, HFf.out.ext hb9⟩)
                    have Z2 := Lib.hid (show HoldsR w9 gr AnyG (Exn.sync fs) from ⟨A4, n4, c4, HWr.out.below hb9 HWr.out.lt, HFr.out.ext hb9⟩)
                    have hbz := HBW.out.trans (hb9.mono HBW.out.size)
                    have Z3 := Lib.hid (show ∀ p ∈ Exn.sync fs, p.1.length ≤ 30 from (Exn.sync_mem HFM2.out))
                    have hz4 := (show (Exn.sync fs).length ≤ 20 + j from Nat.le_trans (Exn.sync_le fs) (by omega))
                    clear hb9 HWf HFf HWr HFr HBW
                    go_wp2_with fail
                    go_roundw
                    case rel => exact ⟨j + 1, _, by omega, by go_num, Z1, Z2, by omega, Z3, hbz⟩
                    case measure => simp [intOf] <;> omega
                  · have yb2 : (y == 2) = false := by simp [hy2]
                    by_cases hy3 : y = 3
                    · subst hy3
                      have HKG := Lib.hid (show 0 < q → ∀ b o, B2 = some ⟨b, o, none⟩ → b ≠ gf from fun h0 b o e => by
                        obtain ⟨b', o', e', hb', _⟩ := X2.out.2 h0
                        rw [e'] at e
                        injection e with e
                        injection e with e
                        have := HGF.out
                        omega)
                      have q2 := Q2.out
                      have HC := Lib.hid (fail_any w1 gf AnyG (anyG _) fs K1.out (by omega) (fun p hp => by have := HFM2.out p hp; omega) B2 q e2 ks (X2.out.more HB.out.size) hm2 HKG.out)
                      go_wp2_with fail
                      refine HC.out.mono ?_
                      clear HC
                      rintro en w2 hdone
                      obtain ⟨rfl, h2, hg2⟩ := hdone.holds
                      have L1 := Lib.hid h2
                      have L2 := Lib.hid (K2.out.aside K1.out hg2 nfr)
                      have hbn := HB.out.grown hg2 HB.out.size (fun k hk => by injection hk with hk; have := HGF.out; omega)
                      have LB := Lib.hid hbn
                      have S2 := Lib.hid ((World.cell?_of_block (hg2.block ab Q2L.out (fun e => by injection e with e; have := HGF.out; omega))).trans Q2.out)
                      have S2L := Lib.hid (Nat.lt_of_lt_of_le Q2L.out hg2.size)
                      have Y2 := Lib.hid (X2.out.keep (w' := w2) fun p hp => World.cell?_of_block (hg2.block p.block (by have := HB.out.size; omega) (fun e => by injection e with e; have := HGF.out; omega)))
                      clear hdone h2 hg2 hbn K1 K2 HB q2
                      obtain ⟨A3, n3, c3, hw3, hf3⟩ := L2.out
                      have hn3 : n3 ≤ 1000000 := by rw [← hf3.1]; omega
                      have q3 := hw3.cell 0
                      simp at q3
                      have QR := Lib.hid q3
                      have QRL := Lib.hid hw3.lt
                      have HF3 := Lib.hid hf3
                      have HW3 := Lib.hid hw3
                      have HSW := Lib.hid LB.out.size
                      clear hf3 hw3 q3
                      go_wp2_with fail
                      refine wp_region_tail 7 (fun k' => List.lookup k' [(0, .fix (.agg #[.slice A3 n3 c3])), (5, .fix (.slice B2 q e2)), (6, .fout AnyG (Exn.fail fs ks))]) (by as_aux_lemma => kernel_rfl) (by as_aux_lemma => kernel_rfl) (by as_aux_lemma => kernel_rfl) ?_
                      simp only [List.take_succ_cons, List.take_zero]
                      repeat (refine wpGrow_pure rfl (fun K hK => ?_); go_simp; refine hK.out _ ?_; clear hK K)
                      refine wpGrow_eff _ rfl (fun wx he hcl => ?_) (fun _ K hK => ?_) rfl
                      · clear hcl
                        have hq := (he.cell (p := ⟨gr, 0, none⟩) QRL.out).trans QR.out
                        go_simp
                        exact Below.refl _ _
                      go_simp
                      refine hK.out _ ?_
                      clear hK K
                      repeat (refine wpGrow_pure rfl (fun K hK => ?_); go_simp; refine hK.out _ ?_; clear hK K)
                      refine wpGrow_eff _ rfl (fun wx he hcl => ?_) (fun _ K hK => ?_) rfl
                      · clear hcl
                        have hq := (he.cell (p := ⟨ab, ao + j * 3 + 2, none⟩) S2L.out).trans S2.out
                        go_simp
                        exact Below.refl _ _
                      go_simp
                      refine hK.out _ ?_
                      clear hK K
                      repeat (refine wpGrow_pure rfl (fun K hK => ?_); go_simp; refine hK.out _ ?_; clear hK K)
                      refine wpGrow_eff _ rfl (fun wx he hcl => ?_) (fun (x7 : Option Addr × Nat × Nat) K hK => ?_) rfl
                      · clear hcl
                        have hcon := rfail_any wx AnyG (anyG _) A3 n3 c3 fs (HF3.out.ext he).rd hn3 (fun p hp => by have := HFM2.out p hp; omega) B2 q e2 ks ((Y2.out.below (he.mono HSW.out)).more (Nat.le_trans HSW.out he.size))
                        go_simp
                        exact hcon.mono fun e w2 ⟨D, k, c, he2, hf, hb⟩ => ⟨D, k, c, he2, hf, hb⟩
                      go_simp
                      refine hK.out _ ?_
                      clear hK K
                      repeat (refine wpGrow_pure rfl (fun K hK => ?_); go_simp; refine hK.out _ ?_; clear hK K)
                      refine wpGrow_nil fun wx he hfin => ?_
                      have hf4 : File wx AnyG 57 5 x7.1 x7.2.1 x7.2.2 (Exn.fail fs ks) := hfin.out 6
                      clear hfin
                      obtain ⟨A4, n4, c4⟩ := x7
                      simp only at hf4 ⊢
                      have hw4 := HW3.out.below he HW3.out.lt
                      obtain ⟨A5, n5, c5, hw5, hf5⟩ := L1.out.ext he
                      obtain ⟨W, hW⟩ : ∃ W, wx.setCell ⟨gr, 0, none⟩ (.slice A4 n4 c4) = W := ⟨_, rfl⟩
                      obtain ⟨p1, p2, p3, p4, p5⟩ := put_ref hw5 hf5 hw4 rfl hf4 nrf hW
                      have HWf := Lib.hid p1
                      have HFf := Lib.hid p2
                      have HWr := Lib.hid p3
                      have HFr := Lib.hid p4
                      have HBW := Lib.hid ((LB.out.trans (he.mono LB.out.size)).grown p5 (LB.out.trans (he.mono LB.out.size)).size (fun k hk => by injection hk with hk; have := HGR.out; omega))
                      have q5 := hw5.cell 0
                      have q4 := hw4.cell 0
                      have f4 := hw4.frozen 0
                      simp at q5 q4
                      have HWW := Lib.hid hW
                      clear hw4 hf4 he hw5 hf5 p1 p2 p3 p4 p5 hW L1 L2 LB
                      simp only [List.drop_succ_cons, List.drop_zero]
                      go_wp2_with fail
                      rw [HWW.out]
                      clear q4 q5 f4 HWW
                      have HC := Lib.hid (is_both W A5 n5 c5 A4 n4 c4 AnyG AnyG (Exn.fail fs ks) HFf.out HFr.out (by have := (show (Exn.fail fs ks).length ≤ 20 + j from Nat.le_trans (Exn.fail_len fs ks) (by omega)); omega) (Exn.fail_mem HFM2.out))
                      refine HC.out.mono ?_
                      clear HC
                      rintro en w9 ⟨rfl, hb9⟩
                      have Z1 := Lib.hid (show Holds w9 gf AnyG (Exn.fail fs ks) from ⟨A5, n5, c5, HWf.out.below hb9 HWf.out.lt, HFf.out.ext hb9⟩)
                      have Z2 := Lib.hid (show HoldsR w9 gr AnyG (Exn.fail fs ks) from ⟨A4, n4, c4, HWr.out.below hb9 HWr.out.lt, HFr.out.ext hb9⟩)
                      have hbz := HBW.out.trans (hb9.mono HBW.out.size)
                      have Z3 := Lib.hid (show ∀ p ∈ Exn.fail fs ks, p.1.length ≤ 30 from (Exn.fail_mem HFM2.out))
                      have hz4 := (show (Exn.fail fs ks).length ≤ 20 + j from Nat.le_trans (Exn.fail_len fs ks) (by omega))
                      clear hb9 HWf HFf HWr HFr HBW
                      go_wp2_with fail
                      go_roundw
                      case rel => exact ⟨j + 1, _, by omega, by go_num, Z1, Z2, by omega, Z3, hbz⟩
                      case measure => simp [intOf] <;> omega
                    · have yb3 : (y == 3) = false := by simp [hy3]
                      have q1 := Q1.out
                      have HC := Lib.hid (own_any w1 B1 m e1 bs w.heap.size X1.out (by omega))
                      rw [HM.out] at HC
                      go_wp2_with fail
                      refine HC.out.mono ?_
                      clear HC q1
                      rintro en wb ⟨Db, cb, rfl, hob, hbb⟩
                      obtain ⟨ob, hobe⟩ : ∃ ob, (Value.slice Db m cb).ownBlock = ob := ⟨_, rfl⟩
                      have hobl : ∀ g, ob = some g → w1.heap.size ≤ g ∧ g < wb.heap.size := fun g hg => hob.lt g (by rw [hobe]; exact hg)
                      have HOL := Lib.hid hobl
                      have HOE := Lib.hid hobe
                      have HOB := Lib.hid hob
                      have HGW := Lib.hid (show ∀ g, wb.heap.size ≤ g → (fun g => some g ≠ ob) g from fun g hg e => by have := hobl g e.symm; omega)
                      have J1 := Lib.hid ((K1.out.weak (G' := fun g => some g ≠ ob) (fun g hg _ e => by have := hobl g e.symm; omega)).ext hbb)
                      have J2 := Lib.hid (K2.out.ext hbb)
                      have HBY := Lib.hid HB.out.size
                      have JB := Lib.hid (HB.out.trans (hbb.mono HB.out.size))
                      have R1 := Lib.hid ((hbb.cell (p := ⟨ab, ao + j * 3 + 1, none⟩) Q1L.out).trans Q1.out)
                      have R1L := Lib.hid (Nat.lt_of_lt_of_le Q1L.out hbb.size)
                      have Y1 := Lib.hid (X1.out.below (hbb.mono HB.out.size))
                      clear hob hobe hobl hbb K1 K2 HB
                      have HC := Lib.hid (app_any wb gf (fun g => some g ≠ ob) HGW.out fs J1.out (by omega) Db m cb bs wb.heap.size (Nat.le_refl _) (Rd.of_own HOB.out) (by omega))
                      go_wp2_with fail
                      refine HC.out.mono ?_
                      clear HC
                      rintro en w2 hdone
                      obtain ⟨rfl, h2, hg2⟩ := hdone.holds
                      have L1 := Lib.hid h2
                      have L2 := Lib.hid (J2.out.aside J1.out hg2 nfr)
                      have hbn := JB.out.grown hg2 JB.out.size (fun k hk => by injection hk with hk; have := HGF.out; omega)
                      have LB := Lib.hid hbn
                      have S1 := Lib.hid ((World.cell?_of_block (hg2.block ab R1L.out (fun e => by injection e with e; have := HGF.out; omega))).trans R1.out)
                      have S1L := Lib.hid (Nat.lt_of_lt_of_le R1L.out hg2.size)
                      have Z1 := Lib.hid (Y1.out.keep (w' := w2) fun p hp => World.cell?_of_block (hg2.block p.block (by have := JB.out.size; omega) (fun e => by injection e with e; have := HGF.out; omega)))
                      obtain ⟨cgf, hcgf⟩ := J1.out.whole
                      have OB2 := Lib.hid (own_far HOB.out hcgf hg2 rpart_ne.2.1)
                      have HSB2 := Lib.hid (show wb.heap.size ≤ w2.heap.size from hg2.size)
                      clear hdone h2 hg2 hbn hcgf J1 J2 JB R1 R1L Y1
                      obtain ⟨A3, n3, c3, hw3, hf3⟩ := L2.out
                      have hn3 : n3 ≤ 1000000 := by rw [← hf3.1]; omega
                      have q3 := hw3.cell 0
                      simp at q3
                      have QR := Lib.hid q3
                      have QRL := Lib.hid hw3.lt
                      have HF3 := Lib.hid hf3
                      have HW3 := Lib.hid hw3
                      have HSW := Lib.hid LB.out.size
                      clear hf3 hw3 q3
                      go_wp2_with fail
                      refine wp_region_tail 7 (fun k' => List.lookup k' [(0, .fix (.agg #[.slice A3 n3 c3])), (5, .fix (.slice B1 m e1)), (6, .fout (fun g => some g ≠ ob) (Exn.app fs bs))]) (by as_aux_lemma => kernel_rfl) (by as_aux_lemma => kernel_rfl) (by as_aux_lemma => kernel_rfl) ?_
                      simp only [List.take_succ_cons, List.take_zero]
                      repeat (refine wpGrow_pure rfl (fun K hK => ?_); go_simp; refine hK.out _ ?_; clear hK K)
                      refine wpGrow_eff _ rfl (fun wx he hcl => ?_) (fun _ K hK => ?_) rfl
                      · clear hcl
                        have hq := (he.cell (p := ⟨gr, 0, none⟩) QRL.out).trans QR.out
                        go_simp
                        exact Below.refl _ _
                      go_simp
                      refine hK.out _ ?_
                      clear hK K
                      repeat (refine wpGrow_pure rfl (fun K hK => ?_); go_simp; refine hK.out _ ?_; clear hK K)
                      refine wpGrow_eff _ rfl (fun wx he hcl => ?_) (fun _ K hK => ?_) rfl
                      · clear hcl
                        have hq := (he.cell (p := ⟨ab, ao + j * 3 + 1, none⟩) S1L.out).trans S1.out
                        go_simp
                        exact Below.refl _ _
                      go_simp
                      refine hK.out _ ?_
                      clear hK K
                      repeat (refine wpGrow_pure rfl (fun K hK => ?_); go_simp; refine hK.out _ ?_; clear hK K)
                      refine wpGrow_eff _ rfl (fun wx he hcl => ?_) (fun (x7 : Option Addr × Nat × Nat) K hK => ?_) rfl
                      · clear hcl
                        have hcon := rapp_any wx (fun g => some g ≠ ob) (fun g hg => HGW.out g (Nat.le_trans HSB2.out (Nat.le_trans he.size hg))) A3 n3 c3 fs (HF3.out.ext he).rd hn3 (fun p hp => by have := HFM2.out p hp; omega) B1 m e1 bs ((Z1.out.below (he.mono HSW.out)).more (Nat.le_trans HSW.out he.size)) (by omega)
                        go_simp
                        exact hcon.mono fun e w2 ⟨D, k, c, he2, hf, hb⟩ => ⟨D, k, c, he2, hf, hb⟩
                      go_simp
                      refine hK.out _ ?_
                      clear hK K
                      repeat (refine wpGrow_pure rfl (fun K hK => ?_); go_simp; refine hK.out _ ?_; clear hK K)
                      refine wpGrow_nil fun wx he hfin => ?_
                      have hf4 : File wx (fun g => some g ≠ ob) 57 5 x7.1 x7.2.1 x7.2.2 (Exn.app fs bs) := hfin.out 6
                      clear hfin
                      obtain ⟨A4, n4, c4⟩ := x7
                      simp only at hf4 ⊢
                      have hw4 := HW3.out.below he HW3.out.lt
                      obtain ⟨A5, n5, c5, hw5, hf5⟩ := L1.out.ext he
                      obtain ⟨W, hW⟩ : ∃ W, wx.setCell ⟨gr, 0, none⟩ (.slice A4 n4 c4) = W := ⟨_, rfl⟩
                      obtain ⟨p1, p2, p3, p4, p5⟩ := put_ref hw5 hf5 hw4 rfl hf4 nrf hW
                      have HWf := Lib.hid p1
                      have HFf := Lib.hid p2
                      have HWr := Lib.hid p3
                      have HFr := Lib.hid p4
                      have HBW := Lib.hid ((LB.out.trans (he.mono LB.out.size)).grown p5 (LB.out.trans (he.mono LB.out.size)).size (fun k hk => by injection hk with hk; have := HGR.out; omega))
                      have hgp : wx.grownBy W (some gr) := p5
                      have OB3 := Lib.hid (own_far (own_ext OB2.out he) hw4 hgp rpart_ne.2.2.2.1)
                      have q5 := hw5.cell 0
                      have q4 := hw4.cell 0
                      have f4 := hw4.frozen 0
                      simp at q5 q4
                      have HWW := Lib.hid hW
                      clear hw4 hf4 he hw5 hf5 p1 p2 p3 p4 p5 hgp hW L1 L2 LB
                      simp only [List.drop_succ_cons, List.drop_zero]
                      go_wp2_with fail
                      rw [HWW.out]
                      clear q4 q5 f4 HWW
                      have HC := Lib.hid (spoil_any W Db m cb _ _ _ OB3.out (by omega))
                      have q5 := HWf.out.cell 0
                      have q4 := HWr.out.cell 0
                      refine HC.out.mono ?_
                      clear HC
                      rintro en W8 ⟨rfl, hg8, hb8⟩
                      rw [HOE.out] at hg8
                      have hG8 : ∀ g, (fun g => some g ≠ ob) g → some g ≠ (Value.slice Db m cb).ownBlock := fun g h => by rw [HOE.out]; exact h
                      have hg9 : W.grownBy W8 (Value.slice Db m cb).ownBlock := by rw [HOE.out]; exact hg8
                      have HFf2 := (HFf.out.over OB3.out hg9 rpart_ne.2.2.2.2.2.1 hG8).weak (G' := AnyG) (fun _ _ _ => trivial)
                      have HFr2 := (HFr.out.over OB3.out hg9 rpart_ne.2.2.2.2.2.2.1 hG8).weak (G' := AnyG) (fun _ _ _ => trivial)
                      have HWf2 := HWf.out.kept hg9 OB3.out (Ne.symm rpart_ne.2.2.2.2.2.2.2.1)
                      have HWr2 := HWr.out.kept hg9 OB3.out (Ne.symm rpart_ne.2.2.2.2.2.2.2.2.1)
                      have HBW2 := HBW.out.trans (hb8.mono HBY.out)
                      clear q5 q4 hG8 hg9 hg8 hb8 HFf HFr HWf HWr HBW OB3 OB2
                      have HFf := Lib.hid HFf2
                      have HFr := Lib.hid HFr2
                      have HWf := Lib.hid HWf2
                      have HWr := Lib.hid HWr2
                      have HBW := Lib.hid HBW2
                      have q5 := HWf2.cell 0
                      have q4 := HWr2.cell 0
                      simp at q5 q4
                      clear HFf2 HFr2 HWf2 HWr2 HBW2
                      have HC := Lib.hid (is_both W8 A5 n5 c5 A4 n4 c4 AnyG AnyG (Exn.app fs bs) HFf.out HFr.out (by have := (show (Exn.app fs bs).length ≤ 20 + (j + 1) from Nat.le_trans (Exn.app_len fs bs) (by omega)); omega) (Exn.app_mem HFM2.out (by rw [HM.out]; exact hs1)))
                      go_wp2_with fail
                      refine HC.out.mono ?_
                      clear HC
                      rintro en w9 ⟨rfl, hb9⟩
                      have Z1 := Lib.hid (show Holds w9 gf AnyG (Exn.app fs bs) from ⟨A5, n5, c5, HWf.out.below hb9 HWf.out.lt, HFf.out.ext hb9⟩)
                      have Z2 := Lib.hid (show HoldsR w9 gr AnyG (Exn.app fs bs) from ⟨A4, n4, c4, HWr.out.below hb9 HWr.out.lt, HFr.out.ext hb9⟩)
                      have hbz := HBW.out.trans (hb9.mono HBW.out.size)
                      have Z3 := Lib.hid (show ∀ p ∈ Exn.app fs bs, p.1.length ≤ 30 from (Exn.app_mem HFM2.out (by rw [HM.out]; exact hs1)))
                      have hz4 := (show (Exn.app fs bs).length ≤ 20 + (j + 1) from Nat.le_trans (Exn.app_len fs bs) (by omega))
                      clear hb9 HWf HFf HWr HFr HBW
                      go_wp2_with fail
                      go_roundw
                      case rel => exact ⟨j + 1, _, by omega, by go_num, Z1, Z2, by omega, Z3, hbz⟩
                      case measure => simp [intOf] <;> omega
                · obtain rfl : j = N2 := by omega
                  obtain ⟨A5, n5, c5, hw5, hf5⟩ := H1.out
                  obtain ⟨A4, n4, c4, hw4, hf4⟩ := H2.out
                  have q5 := hw5.cell 0
                  have q4 := hw4.cell 0
                  simp at q5 q4
                  have HC := Lib.hid (is_both wz A5 n5 c5 A4 n4 c4 AnyG AnyG fs hf5 hf4 (by omega) HFM2.out)
                  clear hw5 hf5 hw4 hf4
                  go_wp2_with fail
                  refine HC.out.mono ?_
                  clear HC
                  rintro en w6 ⟨rfl, hb6⟩
                  have hb7 := hb.trans (hb6.mono hb.size)
                  clear hb6
                  go_wp2_with fail
                  refine (HWK.out w6).mono ?_
                  rintro en w7 ⟨rfl, hb8⟩
                  have hb9 := hb7.trans (hb8.mono hb7.size)
                  clear hb8
                  go_wp2_with fail
                  go_ret
                  exact ⟨rfl, hb9⟩
  · have HC := Lib.hid (show Calls Try.prog 6 #[.slice A2 N2 cap2, .int .i64 30] w (fun en w' => en = .returned (.bool false) ∧ w = w') from few_any w A2 N2 cap2 acts w.heap.size HA.out hN2 30 false (by simp [hF]))
    clear hF
    go_enter Try.func3, Try.ntmps3
    go_wp2_with fail
    refine HC.out.mono ?_
    clear HC
    rintro en w2 ⟨rfl, rfl⟩
    go_wp2_with fail
    refine (HWK.out w).mono ?_
    rintro en w2 ⟨rfl, hb⟩
    go_wp2_with fail
    go_ret
    exact ⟨rfl, hb⟩
end Go.Proofs.Ytankhjchdnfpfaa
