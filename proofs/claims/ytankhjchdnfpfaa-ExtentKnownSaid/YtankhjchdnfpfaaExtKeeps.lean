/-
  Files in parts: ExtentKeeps, the law's walk.
-/
import Derived.Test.YtankhjchdnfpfaaExtPlay
import Derived.Test.YtankhjchdnfpfaaExtWorks
import Derived.Test.YtankhjchdnfpfaaExtKeepLaw
namespace Go.Proofs.Ytankhjchdnfpfaa
open Go.RowKit
attribute [local go_sem] match_undef Oper.growAt Oper.growUpon GSpec.fix GSpec.row GSpec.wh GSpec.own GSpec.fout
attribute [local irreducible] wpList
theorem of_nil (w : World) :
    Calls Try.prog 9 #[.slice none 0 0] w fun en w' => ∃ A n c, en = .returned (.agg #[.slice A n c]) ∧ File w' AnyG 52 5 A n c [] ∧ Below w.heap.size w w' := by
  refine (eof_any _ none 0 0 [] 0 (Nat.zero_le _) ⟨rfl, fun j hj => absurd hj (by simp)⟩ (by omega) (by decide)).mono ?_
  rintro en w' ⟨A, n, c, rfl, hf, hb⟩
  exact ⟨A, n, c, rfl, hf.weak (fun _ _ _ => trivial), hb⟩
theorem len_call (w : World) (A : Option Addr) (n c : Nat) (fs : List Pa) (L : Nat) (h : File w AnyG 52 5 A n c fs) (hn : n ≤ 1000000) (hl : (Exn.bytes fs).length = L) (hL : L ≤ 1000000) :
    Calls Try.prog 20 #[.agg #[.slice A n c]] w fun en w' => en = .returned (.int .i64 (L : Nat)) ∧ Below w.heap.size w w' := by
  have h1 := elen_any w A n c fs w.heap.size (Nat.le_refl _) h.rd hn (by omega)
  rw [hl] at h1
  exact h1
theorem Exn.small (fs : List Pa) (hf : ∀ p ∈ fs, p.1.length ≤ 30) : (Exn.bytes fs).length ≤ fs.length * 30 := by
  induction fs with
  | nil => simp [Exn.bytes]
  | cons p ps ih =>
    have e : Exn.bytes (p :: ps) = p.1 ++ Exn.bytes ps := rfl
    rw [e, List.length_append, List.length_cons]
    have h1 := hf p List.mem_cons_self
    have h2 := ih (fun q hq => hf q (List.mem_cons_of_mem _ hq))
    omega
set_option maxRecDepth 100000 in
set_option maxHeartbeats 16000000 in
theorem keeps_any (w : World) (A : Option Addr) (N cap : Nat) (acts : List Ac) (HA0 : RdAc w w.heap.size A N acts) (hN : N ≤ 9223372036854775807) (K1 : Option Addr) (n1 c1 : Nat) (ks : List Bool) (r1 : Rd w w.heap.size 1 K1 n1 (bools ks)) (le1 : n1 ≤ c1) (K2 : Option Addr) (n2 c2 : Nat) (ks2 : List Bool) (r2 : Rd w w.heap.size 1 K2 n2 (bools ks2)) (le2 : n2 ≤ c2) :
    Calls Try.prog 4 #[.slice A N cap, .slice K1 n1 c1, .slice K2 n2 c2] w fun en w' => en = .returned (.bool true) ∧ Below w.heap.size w w' := by
  have HA := Lib.hid HA0
  have HK1 := Lib.hid r1
  have HK2 := Lib.hid r2
  have HWK := Lib.hid works_any
  clear HA0 r1 r2
  by_cases hF : Few acts 30
  · have HC := Lib.hid (show Calls Try.prog 6 #[.slice A N cap, .int .i64 30] w (fun en w' => en = .returned (.bool true) ∧ w = w') from few_any w A N cap acts w.heap.size HA.out hN 30 true (by simp [hF]))
    have HS := Lib.hid (hF.all (by omega))
    have hN3 : N ≤ 30 := by rw [← HA.out.1]; exact hF.2
    clear hF
    by_cases h1 : 30 < n1
    · have t20 : decide ((30 : Int) < (n1 : Int)) = true := by simp; omega
      go_enter Try.func4, Try.ntmps4
      go_wp2_with fail
      refine HC.out.mono ?_
      clear HC
      rintro en w2 ⟨rfl, rfl⟩
      go_wp2_with fail
      refine (HWK.out w).mono ?_
      rintro en wk ⟨rfl, hbk⟩
      go_wp2_with fail
      go_ret
      exact ⟨rfl, hbk⟩
    · have t20 : decide ((30 : Int) < (n1 : Int)) = false := by simp; omega
      by_cases h2 : 30 < n2
      · have t21 : decide ((30 : Int) < (n2 : Int)) = true := by simp; omega
        go_enter Try.func4, Try.ntmps4
        go_wp2_with fail
        refine HC.out.mono ?_
        clear HC
        rintro en w2 ⟨rfl, rfl⟩
        go_wp2_with fail
        refine (HWK.out w).mono ?_
        rintro en wk ⟨rfl, hbk⟩
        go_wp2_with fail
        go_ret
        exact ⟨rfl, hbk⟩
      · have t21 : decide ((30 : Int) < (n2 : Int)) = false := by simp; omega
        go_enter Try.func4, Try.ntmps4
        go_wp2_with fail
        refine HC.out.mono ?_
        clear HC
        rintro en w2 ⟨rfl, rfl⟩
        have HC := Lib.hid (of_nil w)
        go_wp2_with fail
        refine HC.out.mono ?_
        clear HC
        rintro en w2 ⟨Af, nf, cf, rfl, hf, hb2⟩
        have hlaid := Holds.laid hf
        have hbl := hb2.trans ((below1 w2 (.cells #[.slice Af nf cf] 30)).mono hb2.size)
        have hs2 := hb2.size
        obtain ⟨gf, hgf⟩ : ∃ g, w2.heap.size = g := ⟨_, rfl⟩
        rw [hgf] at hlaid hs2
        have HLF := Lib.hid hlaid
        have HBL := Lib.hid hbl
        have HGF := Lib.hid hs2
        clear hf hb2 hlaid hbl hs2
        go_wp2_with fail
        generalize w2.alloc (.cells #[.slice Af nf cf] 30) = w3 at HLF HBL ⊢
        clear hgf
        go_loopw [8, 9] (fun s i wr => ∃ (j sv : Nat) (fs : List Pa), j ≤ N ∧ s = .int .i64 sv ∧ i = .int .i64 j ∧ Hid (Holds wr gf AnyG fs) ∧ Hid (Exn.Sure fs sv) ∧ fs.length ≤ j ∧ sv ≤ 900 ∧ Hid (∀ p ∈ fs, p.1.length ≤ 30) ∧ Hid (Below w.heap.size w wr)) (fun _ i _ => N - (intOf i).toNat)
        case atStart => exact ⟨0, 0, [], by omega, rfl, rfl, HLF, Exn.sure_nil, by simp, by omega, (fun p hp => by cases hp), HBL⟩
        case round =>
          clear HLF HBL
          obtain ⟨j, sv, fs, hj, rfl, rfl, H1, HSU, hfl, hsv, HFM, HB⟩ := hrel
          by_cases hlt : j < N
          · have hjl : j < acts.length := by rw [HA.out.1]; exact hlt
            obtain ⟨ab, ao, B1, e1, B2, e2, rfl, hab, hp0, hp1, hp2, hr1, hm1, hr2, hm2⟩ := (HA.out.below HB.out).2 j hjl
            have hd : decide ((j : Int) < (N : Int)) = true := by simp; omega
            have d1 : (0 : Int) ≤ (j : Int) := by omega
            have d2 : (j : Int) < (N : Int) := by omega
            obtain ⟨hs1, hs2⟩ := HS.out _ (List.getElem_mem hjl)
            obtain ⟨z, hz⟩ : ∃ z, acts[j].1 = z := ⟨_, rfl⟩
            obtain ⟨bs, hbs⟩ : ∃ z, acts[j].2.1 = z := ⟨_, rfl⟩
            rw [hz] at hp0
            rw [hbs] at hp1 hr1 hs1 hm1
            obtain ⟨m, hm⟩ : ∃ z, bs.length = z := ⟨_, rfl⟩
            rw [hm] at hp1 hr1 hs1 hm1
            have HM := Lib.hid hm
            have HR1 := Lib.hid hr1
            have HP1 := Lib.hid hp1
            have HPL := Lib.hid (Nat.lt_of_lt_of_le hab HB.out.size)
            have HC := Lib.hid (show Calls Try.prog 12 #[.int .i64 z, .int .i64 4] wr (fun en w' => en = .returned (.int .i64 (z % 4)) ∧ Below wr.heap.size wr w') from pick_any wr z 4 (by omega) (by omega))
            clear hz hbs hm hr1 hr2 hp1 hp2 hs2 hm2
            go_wp2_with fail
            clear hp0
            refine HC.out.mono ?_
            clear HC
            obtain ⟨y, hy⟩ : ∃ y, z % 4 = y := ⟨_, rfl⟩
            rw [hy]
            clear hy
            rintro en w1 ⟨rfl, hbp⟩
            have HP := Lib.hid (H1.out.ext hbp)
            have X1 := Lib.hid (HR1.out.below (hbp.mono HB.out.size))
            have Q1 := Lib.hid ((hbp.cell (p := ⟨ab, ao + j * 3 + 1, none⟩) HPL.out).trans HP1.out)
            have hbn := HB.out.trans (hbp.mono HB.out.size)
            clear H1 HR1 HP1 HPL hbp HB
            have H1 := HP
            have HB := Lib.hid hbn
            clear HP hbn
            by_cases hy2 : y = 2
            · subst hy2
              have HC := Lib.hid (sync_any w1 gf AnyG fs H1.out (by omega))
              go_wp2_with fail
              refine HC.out.mono ?_
              clear HC
              rintro en w2b hdone
              obtain ⟨rfl, hme, hgr⟩ := hdone.holds
              have hbn := HB.out.grown hgr HB.out.size (fun k hk => by injection hk with hk; have := HGF.out; omega)
              clear hdone H1 HB
              have H1 := Lib.hid hme
              have HB := Lib.hid hbn
              clear hme hgr hbn
              have hsl : (Exn.sync fs).length ≤ j := Nat.le_trans (Exn.sync_le fs) hfl
              have HFN := Lib.hid (show ∀ p ∈ Exn.sync fs, p.1.length ≤ 30 from Exn.sync_mem HFM.out)
              have hlen := Exn.small _ HFN.out
              obtain ⟨L, hL⟩ : ∃ L, (Exn.bytes (Exn.sync fs)).length = L := ⟨_, rfl⟩
              have HSN := Lib.hid (show Exn.Sure (Exn.sync fs) L from by rw [← hL]; exact Exn.sure_sync fs)
              rw [hL] at hlen
              obtain ⟨A5, n5, c5, hw5, hf5⟩ := H1.out
              have hn5 : n5 ≤ 1000000 := by rw [← hf5.1]; omega
              have q5 := hw5.cell 0
              simp at q5
              have HC := Lib.hid (len_call w2b A5 n5 c5 (Exn.sync fs) L hf5 hn5 hL (by omega))
              clear hw5 hf5 hL
              go_wp2_with fail
              refine HC.out.mono ?_
              clear HC q5
              rintro en w4 ⟨rfl, hb4⟩
              have HN1 := Lib.hid (H1.out.ext hb4)
              have HNB := Lib.hid (HB.out.trans (hb4.mono HB.out.size))
              clear hb4 H1 HB
              go_wp2_with fail
              go_roundw
              case rel => exact ⟨j + 1, L, _, by omega, rfl, by go_num, HN1, HSN, by omega, by omega, HFN, HNB⟩
              case measure => simp [intOf] <;> omega
            · have yb2 : (y == 2) = false := by simp [hy2]
              have q1 := Q1.out
              have HC := Lib.hid (app_any w1 gf AnyG (anyG _) fs H1.out (by omega) B1 m e1 bs w.heap.size HB.out.size X1.out (by omega))
              go_wp2_with fail
              refine HC.out.mono ?_
              clear HC
              rintro en w2b hdone
              obtain ⟨rfl, hme, hgr⟩ := hdone.holds
              have hbn := HB.out.grown hgr HB.out.size (fun k hk => by injection hk with hk; have := HGF.out; omega)
              have hal := Exn.app_len fs bs
              have HFN := Lib.hid (show ∀ p ∈ Exn.app fs bs, p.1.length ≤ 30 from Exn.app_mem HFM.out (by rw [HM.out]; exact hs1))
              have HSN := Lib.hid (Exn.sure_app HSU.out bs)
              have HN1 := Lib.hid hme
              have HNB := Lib.hid hbn
              clear hdone H1 HB hme hgr hbn q1 Q1 X1
              go_wp2_with fail
              go_roundw
              case rel => exact ⟨j + 1, sv, _, by omega, rfl, by go_num, HN1, HSN, by omega, by omega, HFN, HNB⟩
              case measure => simp [intOf] <;> omega
          · obtain rfl : j = N := by omega
            have hlen := Exn.small _ HFM.out
            obtain ⟨k1, k2, k3, k4⟩ := Exn.keeps HSU.out ks
            have HK3 := Lib.hid k3
            have HK4 := Lib.hid k4
            have hgl := Exn.fail_len fs ks
            have HGM := Lib.hid (Exn.fail_mem (ks := ks) HFM.out)
            have HGG := Lib.hid (Exn.fail_again fs ks ks2)
            have HGV := Lib.hid (Exn.fail_vol fs ks)
            obtain ⟨g, hg⟩ : ∃ g, Exn.fail fs ks = g := ⟨_, rfl⟩
            have HG := Lib.hid hg
            rw [hg] at k1 k2 HK3 HK4 hgl HGM HGG HGV
            obtain ⟨V, hV⟩ : ∃ V, Exn.vol fs = V := ⟨_, rfl⟩
            have HV := Lib.hid hV
            have hvl := Exn.vol_le fs
            rw [hV] at HK3 HK4 hvl
            obtain ⟨was, hwas⟩ : ∃ x, Exn.bytes fs = x := ⟨_, rfl⟩
            have HWAS := Lib.hid hwas
            rw [hwas] at hlen k1 HK3 HK4
            obtain ⟨now, hnow⟩ : ∃ x, Exn.bytes g = x := ⟨_, rfl⟩
            have HNOW := Lib.hid hnow
            rw [hnow] at k1 k2 HK3 HK4
            obtain ⟨L0, hL0⟩ : ∃ x, was.length = x := ⟨_, rfl⟩
            obtain ⟨L1, hL1⟩ : ∃ x, now.length = x := ⟨_, rfl⟩
            have HL0 := Lib.hid hL0
            have HL1 := Lib.hid hL1
            rw [hL0] at hlen k1
            rw [hL1] at k1 k2
            have HBK := Lib.hid (show (Exn.bytes (Exn.fail (Exn.sync (Exn.app g was)) ks2)).length = L1 + L0 from by rw [Exn.all_back, hnow, hL0, hL1])
            clear k3 k4 hg hV hwas hnow hL0 hL1
            obtain ⟨A5, n5, c5, hw5, hf5⟩ := H1.out
            have hn5 : n5 ≤ 1000000 := by rw [← hf5.1]; omega
            have q5 := hw5.cell 0
            simp at q5
            have HC := Lib.hid (bytes_call wr A5 n5 c5 fs was L0 hf5 hn5 HWAS.out HL0.out (by omega))
            clear hw5 hf5
            go_wp2_with fail
            refine HC.out.mono ?_
            clear HC q5
            rintro en W1 ⟨Dw, dw, rfl, how, hb4⟩
            have HOW := Lib.hid (own_base how HB.out.size)
            have HN1 := Lib.hid (H1.out.ext hb4)
            have HNB := Lib.hid (HB.out.trans (hb4.mono HB.out.size))
            clear how hb4 H1 HB hlt
            have H1 := HN1
            have HB := HNB
            clear HN1 HNB
            go_wp2_with fail
            go_loopw [11, 12] (fun v i wx => ∃ k : Nat, k ≤ V ∧ v = .bool (Exn.allB ks k) ∧ i = .int .i64 k ∧ Hid (Below W1.heap.size W1 wx)) (fun _ i _ => V - (intOf i).toNat)
            case atStart => exact ⟨0, by omega, rfl, rfl, Below.refl _ _⟩
            case round =>
              rename World => wx
              obtain ⟨k, hk, rfl, rfl, HX⟩ := hrel
              have H2 := Lib.hid (H1.out.ext HX.out)
              obtain ⟨A5, n5, c5, hw5, hf5⟩ := H2.out
              have hn5 : n5 ≤ 1000000 := by rw [← hf5.1]; omega
              have q5 := hw5.cell 0
              simp at q5
              have HC := Lib.hid (vol_call wx A5 n5 c5 fs V hf5 hn5 HV.out)
              clear hw5 hf5
              go_wp2_with fail
              refine HC.out.mono ?_
              clear HC q5
              rintro en wy ⟨rfl, hb5⟩
              have HXY := Lib.hid (HX.out.trans (hb5.mono HX.out.size))
              have HBY := Lib.hid (HB.out.trans (HXY.out.mono HB.out.size))
              clear hb5 HX H2
              by_cases hkv : k < V
              · have hd : decide ((k : Int) < (V : Int)) = true := by simp; omega
                have HSU2 := Lib.hid (Exn.allB_succ ks k)
                have hksl : ks.length = n1 := by have := HK1.out.1; rw [bools_length] at this; omega
                cases hal : Exn.allB ks k with
                | false =>
                  have HRS := Lib.hid (show Exn.allB ks (k + 1) = false from by rw [HSU2.out, hal]; rfl)
                  clear hal HSU2
                  go_wp2_with fail
                  go_roundw
                  case rel => exact ⟨k + 1, by omega, by rw [HRS.out], by go_num, HXY⟩
                  case measure => simp [intOf] <;> omega
                | true =>
                  by_cases hkn : k < n1
                  · have hkl : k < ks.length := by omega
                    obtain ⟨kb, ko, rfl, hkb, hks⟩ := (HK1.out.below HBY.out).2 (by omega)
                    have hk0 := hks k (.bool ks[k]) (bools_get hkl)
                    have t1 : decide ((k : Int) < (n1 : Int)) = true := by simp; omega
                    have t2 : (0 : Int) ≤ (k : Int) := by omega
                    have t3 : (k : Int) < (n1 : Int) := by omega
                    have HRS := Lib.hid (show Exn.allB ks (k + 1) = ks[k] from by rw [HSU2.out, hal, List.getElem?_eq_getElem hkl]; rfl)
                    clear hal HSU2 hks
                    obtain ⟨kv, hkv2⟩ : ∃ v, ks[k] = v := ⟨_, rfl⟩
                    rw [hkv2] at hk0 HRS
                    clear hkv2
                    go_wp2_with fail
                    go_roundw
                    case rel => exact ⟨k + 1, by omega, by rw [HRS.out], by go_num, HXY⟩
                    case measure => simp [intOf] <;> omega
                  · have t1 : decide ((k : Int) < (n1 : Int)) = false := by simp; omega
                    have HRS := Lib.hid (show Exn.allB ks (k + 1) = false from by rw [HSU2.out, hal, List.getElem?_eq_none (by omega)]; rfl)
                    clear hal HSU2
                    go_wp2_with fail
                    go_roundw
                    case rel => exact ⟨k + 1, by omega, by rw [HRS.out], by go_num, HXY⟩
                    case measure => simp [intOf] <;> omega
              · obtain rfl : k = V := by omega
                have hd : decide ((k : Int) < (k : Int)) = false := by simp
                have HKG : ∀ (K : Option Addr) (n : Nat) (bs : List Value), Rd w w.heap.size 1 K n bs → 0 < n → ∀ b o, K = some ⟨b, o, none⟩ → b ≠ gf := fun K n bs hr h0 b o e => by
                  obtain ⟨b', o', e', hb', _⟩ := hr.2 h0
                  rw [e'] at e
                  injection e with e
                  injection e with e
                  have := HGF.out
                  omega
                have HKGH := Lib.hid HKG
                have HP1 := Lib.hid (H1.out.ext HXY.out)
                have HOW2 := Lib.hid (own_ext HOW.out HXY.out)
                clear H1 HB HOW HXY HKG
                have H1 := HP1
                have HB := HBY
                have HOW := HOW2
                clear HP1 HBY HOW2
                obtain ⟨al, hal⟩ : ∃ b, Exn.allB ks k = b := ⟨_, rfl⟩
                rw [hal] at HK3 HK4 ⊢
                clear hal
                have HC := Lib.hid (fail_any wy gf AnyG (anyG _) fs H1.out (by omega) (fun p hp => by have := HFM.out p hp; omega) K1 n1 c1 ks ((HK1.out.below HB.out).more HB.out.size) le1 (HKGH.out K1 n1 _ HK1.out))
                go_wp2_with fail
                refine HC.out.mono ?_
                clear HC
                rintro en w6 hdone
                obtain ⟨rfl, hme, hgr⟩ := hdone.holds
                have hbn := HB.out.grown hgr HB.out.size (fun k hk => by injection hk with hk; have := HGF.out; omega)
                rw [HG.out] at hme
                obtain ⟨cgf, hcgf⟩ := H1.out.whole
                have HOW2 := Lib.hid (own_far HOW.out hcgf hgr rpart_ne.2.1)
                have HP1 := Lib.hid hme
                have HP2 := Lib.hid hbn
                clear hdone H1 HB HOW hme hgr hbn hcgf
                have H1 := HP1
                have HB := HP2
                have HOW := HOW2
                clear HP1 HP2 HOW2
                obtain ⟨A5, n5, c5, hw5, hf5⟩ := H1.out
                have hn5 : n5 ≤ 1000000 := by rw [← hf5.1]; omega
                have q5 := hw5.cell 0
                simp at q5
                have HC := Lib.hid (bytes_call w6 A5 n5 c5 g now L1 hf5 hn5 HNOW.out HL1.out (by omega))
                clear hw5 hf5
                go_wp2_with fail
                refine HC.out.mono ?_
                clear HC q5
                rintro en w7 ⟨Dn, dn, rfl, hon, hb7⟩
                have HON := Lib.hid (own_base hon HB.out.size)
                have HP1 := Lib.hid (H1.out.ext hb7)
                have HP2 := Lib.hid (HB.out.trans (hb7.mono HB.out.size))
                have HOW2 := Lib.hid (own_ext HOW.out hb7)
                clear hon hb7 H1 HB HOW
                have H1 := HP1
                have HB := HP2
                have HOW := HOW2
                clear HP1 HP2 HOW2
                have u1 : decide (L0 < L1) = false := by simp; omega
                have u2 : decide (L1 < sv) = false := by simp; omega
                obtain ⟨A5, n5, c5, hw5, hf5⟩ := H1.out
                have hn5 : n5 ≤ 1000000 := by rw [← hf5.1]; omega
                have q5 := hw5.cell 0
                simp at q5
                have HC := Lib.hid (vol_call w7 A5 n5 c5 g 0 hf5 hn5 HGV.out)
                clear hw5 hf5
                go_wp2_with fail
                refine HC.out.mono ?_
                clear HC q5
                rintro en w8 ⟨rfl, hb8⟩
                have HP1 := Lib.hid (H1.out.ext hb8)
                have HP2 := Lib.hid (HB.out.trans (hb8.mono HB.out.size))
                have HOW2 := Lib.hid (own_ext HOW.out hb8)
                have HON2 := Lib.hid (own_ext HON.out hb8)
                clear hb8 H1 HB HOW HON
                have H1 := HP1
                have HB := HP2
                have HOW := HOW2
                have HON := HON2
                clear HP1 HP2 HOW2 HON2
                have hnl := own_cap HON.out
                have HGL := Lib.hid hgl
                cases al with
                | true =>
                  have hee := HK3.out rfl
                  rw [HL1.out, HL0.out] at hee
                  obtain rfl : L1 = L0 := hee
                  go_wp2_with fail
                  go_loopw [14] (fun v wx => ∃ i : Nat, i ≤ L1 ∧ v = .int .i64 i ∧ Hid (Below w8.heap.size w8 wx)) (fun i _ => L1 - (intOf i).toNat)
                  case atStart => exact ⟨0, by omega, rfl, Below.refl _ _⟩
                  case round =>
                    rename World => wz
                    obtain ⟨i, hi, rfl, HZ⟩ := hrel
                    by_cases hil : i < L1
                    · have hd : decide ((i : Int) < (L1 : Int)) = true := by simp; omega
                      have e1 : (0 : Int) ≤ (i : Int) := by omega
                      have e2 : (i : Int) < (L1 : Int) := by omega
                      have e3 : (i : Int) < (L1 : Int) := by omega
                      obtain ⟨nb, no, rfl, hnb, hnc⟩ := ((Rd.of_own HON.out).below HZ.out).2 (by omega)
                      obtain ⟨wb, wo, rfl, hwb, hwc⟩ := ((Rd.of_own HOW.out).below HZ.out).2 (by omega)
                      have hi1 : i < now.length := by rw [HL1.out]; exact hil
                      have hi0 : i < was.length := by rw [HL0.out]; omega
                      have h1 := hnc i _ (byts_get hi1)
                      have h0 := hwc i _ (byts_get hi0)
                      have hk4 := HK4.out i hi1 hi0
                      obtain ⟨x, hx⟩ : ∃ x, now[i] = x := ⟨_, rfl⟩
                      obtain ⟨y, hy⟩ : ∃ x, was[i] = x := ⟨_, rfl⟩
                      rw [hx] at h1 hk4
                      rw [hy] at h0 hk4
                      have CNL := Lib.hid (Nat.lt_of_lt_of_le hnb HZ.out.size)
                      have CWL := Lib.hid (Nat.lt_of_lt_of_le hwb HZ.out.size)
                      clear hnc hwc hx hy hi1 hi0
                      by_cases hxy : x = y
                      · subst hxy
                        have CN := Lib.hid h1
                        have CW := Lib.hid h0
                        have hself : ((x.toNat : Int) == (x.toNat : Int)) = true := by simp
                        clear h1 h0 hk4
                        go_wp2_with fail
                        refine wp_region_grow (fun k' => List.lookup k' [(3, .fix (.int .u8 (x.toNat : Nat))), (7, .fix (.int .u8 (x.toNat : Nat)))]) (by as_aux_lemma => kernel_rfl) (by as_aux_lemma => kernel_rfl) ?_
                        repeat (refine wpGrow_pure rfl (fun K hK => ?_); go_simp; refine hK.out _ ?_; clear hK K)
                        refine wpGrow_eff _ rfl (fun wx he hcl => ?_) (fun _ K hK => ?_) rfl
                        · clear hcl
                          have hq := (he.cell (p := ⟨nb, no + i, none⟩) CNL.out).trans CN.out
                          go_simp
                          exact Below.refl _ _
                        go_simp
                        refine hK.out _ ?_
                        clear hK K
                        repeat (refine wpGrow_pure rfl (fun K hK => ?_); go_simp; refine hK.out _ ?_; clear hK K)
                        refine wpGrow_eff _ rfl (fun wx he hcl => ?_) (fun _ K hK => ?_) rfl
                        · clear hcl
                          have hq := (he.cell (p := ⟨wb, wo + i, none⟩) CWL.out).trans CW.out
                          go_simp
                          exact Below.refl _ _
                        go_simp
                        refine hK.out _ ?_
                        clear hK K
                        repeat (refine wpGrow_pure rfl (fun K hK => ?_); go_simp; refine hK.out _ ?_; clear hK K)
                        refine wpGrow_nil fun wq he hfin => ?_
                        clear hfin
                        have HZ2 := Lib.hid (HZ.out.trans (he.mono HZ.out.size))
                        clear he HZ
                        go_wp2_with fail
                        go_roundw
                        case rel => exact ⟨i + 1, by omega, by go_num, HZ2⟩
                        case measure => simp [intOf] <;> omega
                      · have hk5 := hk4.resolve_left hxy
                        exact absurd hk5.2.2 (by simp)
                    · obtain rfl : i = L1 := by omega
                      have hd : decide ((i : Int) < (i : Int)) = false := by simp
                      have HP1 := Lib.hid (H1.out.ext HZ.out)
                      have HP2 := Lib.hid (HB.out.trans (HZ.out.mono HB.out.size))
                      have HOW2 := Lib.hid (own_ext HOW.out HZ.out)
                      have HON2 := Lib.hid (own_ext HON.out HZ.out)
                      clear H1 HB HOW HON HZ
                      have H1 := HP1
                      have HB := HP2
                      have HOW := HOW2
                      have HON := HON2
                      clear HP1 HP2 HOW2 HON2
                      have hgl2 := HGL.out
                      have HKX := Lib.hid (show ∀ W : World, Below w.heap.size w W → Rd W W.heap.size 1 K2 n2 (bools ks2) from fun _ hb => (HK2.out.below hb).more hb.size)
                      have HKY := Lib.hid (HKGH.out K2 n2 _ HK2.out)
                      have HC := Lib.hid (fail_any wz gf AnyG (anyG _) g H1.out (by omega) (fun p hp => by have := HGM.out p hp; omega) K2 n2 c2 ks2 (HKX.out _ HB.out) le2 HKY.out)
                      go_wp2_with fail
                      refine HC.out.mono ?_
                      clear HC
                      rintro en w9 hdone
                      obtain ⟨rfl, hme, hgr⟩ := hdone.holds
                      rw [HGG.out] at hme
                      have hbn := HB.out.grown hgr HB.out.size (fun k hk => by injection hk with hk; have := HGF.out; omega)
                      obtain ⟨cgf, hcgf⟩ := H1.out.whole
                      have HOW2 := Lib.hid (own_far HOW.out hcgf hgr rpart_ne.2.1)
                      have HON2 := Lib.hid (own_far HON.out hcgf hgr rpart_ne.2.1)
                      have HP1 := Lib.hid hme
                      have HP2 := Lib.hid hbn
                      clear hdone H1 HB HOW HON hme hgr hbn hcgf
                      have H1 := HP1
                      have HB := HP2
                      have HOW := HOW2
                      have HON := HON2
                      clear HP1 HP2 HOW2 HON2
                      obtain ⟨A5, n5, c5, hw5, hf5⟩ := H1.out
                      have hn5 : n5 ≤ 1000000 := by rw [← hf5.1]; omega
                      have q5 := hw5.cell 0
                      simp at q5
                      have HC := Lib.hid (bytes_call w9 A5 n5 c5 g now i hf5 hn5 HNOW.out HL1.out (by omega))
                      clear hw5 hf5
                      go_wp2_with fail
                      refine HC.out.mono ?_
                      clear HC q5
                      rintro en w10 ⟨Ds, ds, rfl, hos, hb10⟩
                      have HP1 := Lib.hid (H1.out.ext hb10)
                      have HP2 := Lib.hid (HB.out.trans (hb10.mono HB.out.size))
                      have HOW2 := Lib.hid (own_ext HOW.out hb10)
                      have hon2 := own_ext HON.out hb10
                      have HC := Lib.hid (same_any w10 Ds i ds now Dn i dn now w10.heap.size w10.heap.size (Nat.le_refl _) (Nat.le_refl _) (Rd.of_own hos) (Rd.of_own hon2) (by omega) (by omega) true (by simp))
                      clear hos hon2 hb10 H1 HB HOW HON
                      have H1 := HP1
                      have HB := HP2
                      have HOW := HOW2
                      clear HP1 HP2 HOW2
                      go_wp2_with fail
                      refine HC.out.mono ?_
                      clear HC
                      rintro en w11 ⟨rfl, hb11⟩
                      have HP1 := Lib.hid (H1.out.ext hb11)
                      have HP2 := Lib.hid (HB.out.trans (hb11.mono HB.out.size))
                      have HOW2 := Lib.hid (own_ext HOW.out hb11)
                      clear hb11 H1 HB HOW
                      have H1 := HP1
                      have HB := HP2
                      have HOW := HOW2
                      clear HP1 HP2 HOW2
                      have hap := Exn.app_len g was
                      have HAM := Lib.hid (show ∀ p ∈ Exn.app g was, p.1.length ≤ 1000 from Exn.app_mem (fun p hp => by have := HGM.out p hp; omega) (by rw [HL0.out]; omega))
                      have hsy := Exn.sync_le (Exn.app g was)
                      have HSM := Lib.hid (Exn.sync_mem HAM.out)
                      have hfz := Exn.fail_len (Exn.sync (Exn.app g was)) ks2
                      have HC := Lib.hid (app_any w11 gf AnyG (anyG _) g H1.out (by omega) Dw i dw was w11.heap.size (Nat.le_refl _) (Rd.of_own HOW.out) (by omega))
                      go_wp2_with fail
                      refine HC.out.mono ?_
                      clear HC
                      rintro en w12 hdone
                      obtain ⟨rfl, hme, hgr⟩ := hdone.holds
                      have hbn := HB.out.grown hgr HB.out.size (fun k hk => by injection hk with hk; have := HGF.out; omega)
                      have HP1 := Lib.hid hme
                      have HP2 := Lib.hid hbn
                      clear hdone H1 HB hme hgr hbn
                      have H1 := HP1
                      have HB := HP2
                      clear HP1 HP2
                      have HC := Lib.hid (sync_any w12 gf AnyG (Exn.app g was) H1.out (by omega))
                      go_wp2_with fail
                      refine HC.out.mono ?_
                      clear HC
                      rintro en w13 hdone
                      obtain ⟨rfl, hme, hgr⟩ := hdone.holds
                      have hbn := HB.out.grown hgr HB.out.size (fun k hk => by injection hk with hk; have := HGF.out; omega)
                      have HP1 := Lib.hid hme
                      have HP2 := Lib.hid hbn
                      clear hdone H1 HB hme hgr hbn
                      have H1 := HP1
                      have HB := HP2
                      clear HP1 HP2
                      have HC := Lib.hid (fail_any w13 gf AnyG (anyG _) (Exn.sync (Exn.app g was)) H1.out (by omega) (fun p hp => by have := HSM.out p hp; omega) K2 n2 c2 ks2 (HKX.out _ HB.out) le2 HKY.out)
                      go_wp2_with fail
                      refine HC.out.mono ?_
                      clear HC
                      rintro en w14 hdone
                      obtain ⟨rfl, hme, hgr⟩ := hdone.holds
                      have hbn := HB.out.grown hgr HB.out.size (fun k hk => by injection hk with hk; have := HGF.out; omega)
                      have HP1 := Lib.hid hme
                      have HP2 := Lib.hid hbn
                      clear hdone H1 HB hme hgr hbn
                      have H1 := HP1
                      have HB := HP2
                      clear HP1 HP2
                      obtain ⟨A5, n5, c5, hw5, hf5⟩ := H1.out
                      have hn5 : n5 ≤ 1000000 := by rw [← hf5.1]; omega
                      have q5 := hw5.cell 0
                      simp at q5
                      have HC := Lib.hid (len_call w14 A5 n5 c5 _ (i + i) hf5 hn5 HBK.out (by omega))
                      clear hw5 hf5
                      have hwp : IntKind.i64.wrap ((i : Int) + (i : Int)) = (i : Int) + (i : Int) := by rw [IntKind.wrap_i64]; omega
                      go_wp2_with fail
                      refine HC.out.mono ?_
                      clear HC q5
                      rintro en w15 ⟨rfl, hb15⟩
                      have hb16 := HB.out.trans (hb15.mono HB.out.size)
                      clear hb15 H1 HB
                      go_wp2_with fail
                      refine (HWK.out w15).mono ?_
                      rintro en wk ⟨rfl, hbk⟩
                      have hb17 := hb16.trans (hbk.mono hb16.size)
                      clear hbk
                      go_wp2_with fail
                      go_ret
                      exact ⟨rfl, hb17⟩
                | false =>
                  go_wp2_with fail
                  go_loopw [14] (fun v wx => ∃ i : Nat, i ≤ L1 ∧ v = .int .i64 i ∧ Hid (Below w8.heap.size w8 wx)) (fun i _ => L1 - (intOf i).toNat)
                  case atStart => exact ⟨0, by omega, rfl, Below.refl _ _⟩
                  case round =>
                    rename World => wz
                    obtain ⟨i, hi, rfl, HZ⟩ := hrel
                    by_cases hil : i < L1
                    · have hd : decide ((i : Int) < (L1 : Int)) = true := by simp; omega
                      have e1 : (0 : Int) ≤ (i : Int) := by omega
                      have e2 : (i : Int) < (L1 : Int) := by omega
                      have e3 : (i : Int) < (L0 : Int) := by omega
                      obtain ⟨nb, no, rfl, hnb, hnc⟩ := ((Rd.of_own HON.out).below HZ.out).2 (by omega)
                      obtain ⟨wb, wo, rfl, hwb, hwc⟩ := ((Rd.of_own HOW.out).below HZ.out).2 (by omega)
                      have hi1 : i < now.length := by rw [HL1.out]; exact hil
                      have hi0 : i < was.length := by rw [HL0.out]; omega
                      have h1 := hnc i _ (byts_get hi1)
                      have h0 := hwc i _ (byts_get hi0)
                      have hk4 := HK4.out i hi1 hi0
                      obtain ⟨x, hx⟩ : ∃ x, now[i] = x := ⟨_, rfl⟩
                      obtain ⟨y, hy⟩ : ∃ x, was[i] = x := ⟨_, rfl⟩
                      rw [hx] at h1 hk4
                      rw [hy] at h0 hk4
                      have CNL := Lib.hid (Nat.lt_of_lt_of_le hnb HZ.out.size)
                      have CWL := Lib.hid (Nat.lt_of_lt_of_le hwb HZ.out.size)
                      clear hnc hwc hx hy hi1 hi0
                      by_cases hxy : x = y
                      · subst hxy
                        have CN := Lib.hid h1
                        have CW := Lib.hid h0
                        have hself : ((x.toNat : Int) == (x.toNat : Int)) = true := by simp
                        clear h1 h0 hk4
                        go_wp2_with fail
                        refine wp_region_grow (fun k' => List.lookup k' [(3, .fix (.int .u8 (x.toNat : Nat))), (7, .fix (.int .u8 (x.toNat : Nat)))]) (by as_aux_lemma => kernel_rfl) (by as_aux_lemma => kernel_rfl) ?_
                        repeat (refine wpGrow_pure rfl (fun K hK => ?_); go_simp; refine hK.out _ ?_; clear hK K)
                        refine wpGrow_eff _ rfl (fun wx he hcl => ?_) (fun _ K hK => ?_) rfl
                        · clear hcl
                          have hq := (he.cell (p := ⟨nb, no + i, none⟩) CNL.out).trans CN.out
                          go_simp
                          exact Below.refl _ _
                        go_simp
                        refine hK.out _ ?_
                        clear hK K
                        repeat (refine wpGrow_pure rfl (fun K hK => ?_); go_simp; refine hK.out _ ?_; clear hK K)
                        refine wpGrow_eff _ rfl (fun wx he hcl => ?_) (fun _ K hK => ?_) rfl
                        · clear hcl
                          have hq := (he.cell (p := ⟨wb, wo + i, none⟩) CWL.out).trans CW.out
                          go_simp
                          exact Below.refl _ _
                        go_simp
                        refine hK.out _ ?_
                        clear hK K
                        repeat (refine wpGrow_pure rfl (fun K hK => ?_); go_simp; refine hK.out _ ?_; clear hK K)
                        refine wpGrow_nil fun wq he hfin => ?_
                        clear hfin
                        have HZ2 := Lib.hid (HZ.out.trans (he.mono HZ.out.size))
                        clear he HZ
                        go_wp2_with fail
                        go_roundw
                        case rel => exact ⟨i + 1, by omega, by go_num, HZ2⟩
                        case measure => simp [intOf] <;> omega
                      · have hk5 := hk4.resolve_left hxy

                        obtain ⟨hx0, hsi, _⟩ := hk5
                        subst hx0
                        have CN := Lib.hid (show wz.cell? ⟨nb, no + i, none⟩ = some (.int .u8 0) from h1)
                        have CW := Lib.hid h0
                        have hy0 : ¬ y.toNat = 0 := fun h => hxy (by
                          have h2 : y = UInt8.ofNat y.toNat := by simp
                          rw [h2, h]
                          rfl)
                        have g1 : ((0 : Int) == (y.toNat : Int)) = false := by simp; omega
                        have g2 : ((y.toNat : Int) == 0) = false := by simp; omega
                        have g5 : ((0 : Int) != (y.toNat : Int)) = true := by simp; omega
                        have g6 : ¬ (0 : Int) = (y.toNat : Int) := by omega
                        have g7 : ¬ 0 = y.toNat := by omega
                        have g4 : decide ((i : Int) < (sv : Int)) = false := by simp; omega
                        clear h1 h0 hk4 hxy
                        go_wp2_with fail
                        refine wp_region_grow (fun k' => List.lookup k' [(3, .fix (.int .u8 0)), (7, .fix (.int .u8 (y.toNat : Nat))), (8, .fix (.bool true)), (13, .fix (.int .u8 0))]) (by as_aux_lemma => kernel_rfl) (by as_aux_lemma => kernel_rfl) ?_
                        repeat (refine wpGrow_pure rfl (fun K hK => ?_); go_simp; refine hK.out _ ?_; clear hK K)
                        refine wpGrow_eff _ rfl (fun wx he hcl => ?_) (fun _ K hK => ?_) rfl
                        · clear hcl
                          have hq := (he.cell (p := ⟨nb, no + i, none⟩) CNL.out).trans CN.out
                          go_simp
                          exact Below.refl _ _
                        go_simp
                        refine hK.out _ ?_
                        clear hK K
                        repeat (refine wpGrow_pure rfl (fun K hK => ?_); go_simp; refine hK.out _ ?_; clear hK K)
                        refine wpGrow_eff _ rfl (fun wx he hcl => ?_) (fun _ K hK => ?_) rfl
                        · clear hcl
                          have hq := (he.cell (p := ⟨wb, wo + i, none⟩) CWL.out).trans CW.out
                          go_simp
                          exact Below.refl _ _
                        go_simp
                        refine hK.out _ ?_
                        clear hK K
                        repeat (refine wpGrow_pure rfl (fun K hK => ?_); go_simp; refine hK.out _ ?_; clear hK K)
                        refine wpGrow_eff _ rfl (fun wx he hcl => ?_) (fun _ K hK => ?_) rfl
                        · clear hcl
                          go_simp
                          all_goals first | exact ⟨g5, Below.refl _ _⟩ | exact ⟨g6, Below.refl _ _⟩ | exact ⟨g7, Below.refl _ _⟩ | exact Below.refl _ _
                        go_simp
                        refine hK.out _ ?_
                        clear hK K
                        repeat (refine wpGrow_pure rfl (fun K hK => ?_); go_simp; refine hK.out _ ?_; clear hK K)
                        refine wpGrow_eff _ rfl (fun wx he hcl => ?_) (fun _ K hK => ?_) rfl
                        · clear hcl
                          have hq := (he.cell (p := ⟨nb, no + i, none⟩) CNL.out).trans CN.out
                          go_simp
                          exact Below.refl _ _
                        go_simp
                        refine hK.out _ ?_
                        clear hK K
                        repeat (refine wpGrow_pure rfl (fun K hK => ?_); go_simp; refine hK.out _ ?_; clear hK K)
                        refine wpGrow_nil fun wq he hfin => ?_
                        clear hfin
                        have HZ2 := Lib.hid (HZ.out.trans (he.mono HZ.out.size))
                        clear he HZ
                        go_wp2_with fail
                        go_roundw
                        case rel => exact ⟨i + 1, by omega, by go_num, HZ2⟩
                        case measure => simp [intOf] <;> omega
                    · obtain rfl : i = L1 := by omega
                      have hd : decide ((i : Int) < (i : Int)) = false := by simp
                      have HP1 := Lib.hid (H1.out.ext HZ.out)
                      have HP2 := Lib.hid (HB.out.trans (HZ.out.mono HB.out.size))
                      have HOW2 := Lib.hid (own_ext HOW.out HZ.out)
                      have HON2 := Lib.hid (own_ext HON.out HZ.out)
                      clear H1 HB HOW HON HZ
                      have H1 := HP1
                      have HB := HP2
                      have HOW := HOW2
                      have HON := HON2
                      clear HP1 HP2 HOW2 HON2
                      have hgl2 := HGL.out
                      have HKX := Lib.hid (show ∀ W : World, Below w.heap.size w W → Rd W W.heap.size 1 K2 n2 (bools ks2) from fun _ hb => (HK2.out.below hb).more hb.size)
                      have HKY := Lib.hid (HKGH.out K2 n2 _ HK2.out)
                      have HC := Lib.hid (fail_any wz gf AnyG (anyG _) g H1.out (by omega) (fun p hp => by have := HGM.out p hp; omega) K2 n2 c2 ks2 (HKX.out _ HB.out) le2 HKY.out)
                      go_wp2_with fail
                      refine HC.out.mono ?_
                      clear HC
                      rintro en w9 hdone
                      obtain ⟨rfl, hme, hgr⟩ := hdone.holds
                      rw [HGG.out] at hme
                      have hbn := HB.out.grown hgr HB.out.size (fun k hk => by injection hk with hk; have := HGF.out; omega)
                      obtain ⟨cgf, hcgf⟩ := H1.out.whole
                      have HOW2 := Lib.hid (own_far HOW.out hcgf hgr rpart_ne.2.1)
                      have HON2 := Lib.hid (own_far HON.out hcgf hgr rpart_ne.2.1)
                      have HP1 := Lib.hid hme
                      have HP2 := Lib.hid hbn
                      clear hdone H1 HB HOW HON hme hgr hbn hcgf
                      have H1 := HP1
                      have HB := HP2
                      have HOW := HOW2
                      have HON := HON2
                      clear HP1 HP2 HOW2 HON2
                      obtain ⟨A5, n5, c5, hw5, hf5⟩ := H1.out
                      have hn5 : n5 ≤ 1000000 := by rw [← hf5.1]; omega
                      have q5 := hw5.cell 0
                      simp at q5
                      have HC := Lib.hid (bytes_call w9 A5 n5 c5 g now i hf5 hn5 HNOW.out HL1.out (by omega))
                      clear hw5 hf5
                      go_wp2_with fail
                      refine HC.out.mono ?_
                      clear HC q5
                      rintro en w10 ⟨Ds, ds, rfl, hos, hb10⟩
                      have HP1 := Lib.hid (H1.out.ext hb10)
                      have HP2 := Lib.hid (HB.out.trans (hb10.mono HB.out.size))
                      have HOW2 := Lib.hid (own_ext HOW.out hb10)
                      have hon2 := own_ext HON.out hb10
                      have HC := Lib.hid (same_any w10 Ds i ds now Dn i dn now w10.heap.size w10.heap.size (Nat.le_refl _) (Nat.le_refl _) (Rd.of_own hos) (Rd.of_own hon2) (by omega) (by omega) true (by simp))
                      clear hos hon2 hb10 H1 HB HOW HON
                      have H1 := HP1
                      have HB := HP2
                      have HOW := HOW2
                      clear HP1 HP2 HOW2
                      go_wp2_with fail
                      refine HC.out.mono ?_
                      clear HC
                      rintro en w11 ⟨rfl, hb11⟩
                      have HP1 := Lib.hid (H1.out.ext hb11)
                      have HP2 := Lib.hid (HB.out.trans (hb11.mono HB.out.size))
                      have HOW2 := Lib.hid (own_ext HOW.out hb11)
                      clear hb11 H1 HB HOW
                      have H1 := HP1
                      have HB := HP2
                      have HOW := HOW2
                      clear HP1 HP2 HOW2
                      have hap := Exn.app_len g was
                      have HAM := Lib.hid (show ∀ p ∈ Exn.app g was, p.1.length ≤ 1000 from Exn.app_mem (fun p hp => by have := HGM.out p hp; omega) (by rw [HL0.out]; omega))
                      have hsy := Exn.sync_le (Exn.app g was)
                      have HSM := Lib.hid (Exn.sync_mem HAM.out)
                      have hfz := Exn.fail_len (Exn.sync (Exn.app g was)) ks2
                      have HC := Lib.hid (app_any w11 gf AnyG (anyG _) g H1.out (by omega) Dw L0 dw was w11.heap.size (Nat.le_refl _) (Rd.of_own HOW.out) (by omega))
                      go_wp2_with fail
                      refine HC.out.mono ?_
                      clear HC
                      rintro en w12 hdone
                      obtain ⟨rfl, hme, hgr⟩ := hdone.holds
                      have hbn := HB.out.grown hgr HB.out.size (fun k hk => by injection hk with hk; have := HGF.out; omega)
                      have HP1 := Lib.hid hme
                      have HP2 := Lib.hid hbn
                      clear hdone H1 HB hme hgr hbn
                      have H1 := HP1
                      have HB := HP2
                      clear HP1 HP2
                      have HC := Lib.hid (sync_any w12 gf AnyG (Exn.app g was) H1.out (by omega))
                      go_wp2_with fail
                      refine HC.out.mono ?_
                      clear HC
                      rintro en w13 hdone
                      obtain ⟨rfl, hme, hgr⟩ := hdone.holds
                      have hbn := HB.out.grown hgr HB.out.size (fun k hk => by injection hk with hk; have := HGF.out; omega)
                      have HP1 := Lib.hid hme
                      have HP2 := Lib.hid hbn
                      clear hdone H1 HB hme hgr hbn
                      have H1 := HP1
                      have HB := HP2
                      clear HP1 HP2
                      have HC := Lib.hid (fail_any w13 gf AnyG (anyG _) (Exn.sync (Exn.app g was)) H1.out (by omega) (fun p hp => by have := HSM.out p hp; omega) K2 n2 c2 ks2 (HKX.out _ HB.out) le2 HKY.out)
                      go_wp2_with fail
                      refine HC.out.mono ?_
                      clear HC
                      rintro en w14 hdone
                      obtain ⟨rfl, hme, hgr⟩ := hdone.holds
                      have hbn := HB.out.grown hgr HB.out.size (fun k hk => by injection hk with hk; have := HGF.out; omega)
                      have HP1 := Lib.hid hme
                      have HP2 := Lib.hid hbn
                      clear hdone H1 HB hme hgr hbn
                      have H1 := HP1
                      have HB := HP2
                      clear HP1 HP2
                      obtain ⟨A5, n5, c5, hw5, hf5⟩ := H1.out
                      have hn5 : n5 ≤ 1000000 := by rw [← hf5.1]; omega
                      have q5 := hw5.cell 0
                      simp at q5
                      have HC := Lib.hid (len_call w14 A5 n5 c5 _ (i + L0) hf5 hn5 HBK.out (by omega))
                      clear hw5 hf5
                      have hwp : IntKind.i64.wrap ((i : Int) + (L0 : Int)) = (i : Int) + (L0 : Int) := by rw [IntKind.wrap_i64]; omega
                      go_wp2_with fail
                      refine HC.out.mono ?_
                      clear HC q5
                      rintro en w15 ⟨rfl, hb15⟩
                      have hb16 := HB.out.trans (hb15.mono HB.out.size)
                      clear hb15 H1 HB
                      go_wp2_with fail
                      refine (HWK.out w15).mono ?_
                      rintro en wk ⟨rfl, hbk⟩
                      have hb17 := hb16.trans (hbk.mono hb16.size)
                      clear hbk
                      go_wp2_with fail
                      go_ret
                      exact ⟨rfl, hb17⟩
  · have HC := Lib.hid (show Calls Try.prog 6 #[.slice A N cap, .int .i64 30] w (fun en w' => en = .returned (.bool false) ∧ w = w') from few_any w A N cap acts w.heap.size HA.out hN 30 false (by simp [hF]))
    clear hF
    go_enter Try.func4, Try.ntmps4
    go_wp2_with fail
    refine HC.out.mono ?_
    clear HC
    rintro en w2 ⟨rfl, rfl⟩
    go_wp2_with fail
    refine (HWK.out w).mono ?_
    rintro en wk ⟨rfl, hbk⟩
    go_wp2_with fail
    go_ret
    exact ⟨rfl, hbk⟩
end Go.Proofs.Ytankhjchdnfpfaa
