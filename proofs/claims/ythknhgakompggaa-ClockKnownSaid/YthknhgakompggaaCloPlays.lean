/-
  The walk of ClockPlays: it returns true.
-/
import Derived.Test.YthknhgakompggaaCloWorks
import Derived.Test.YthknhgakompggaaCloRefSkew
import Derived.Test.YthknhgakompggaaCloSame
import Derived.Test.YthknhgakompggaaCloRows
import Derived.Test.YthknhgakompggaaCloActs
import Derived.StillTailTactics
import Derived.Deep.DeepCutAuto
namespace Go.Proofs.Ythknhgakompggaa
open Go.RowKit
attribute [local go_sem] match_undef Oper.growAt Oper.growUpon GSpec.fix GSpec.row GSpec.wh GSpec.own
attribute [local irreducible] wpList
theorem skewOf_eq (l : List UInt64) (n : Nat) : (if n = 0 then 0 else skew l n) = skewTo l n n := by
  split
  · rename_i h; subst h; rfl
  · exact (skew_same l n (by omega)).symm

set_option maxRecDepth 100000 in
set_option maxHeartbeats 6000000 in
theorem clockPlays_any (w : World) (A : Option Addr) (n cap : Nat) (l : List UInt64) (h : Rd w w.heap.size 1 A n (nums l)) (A2 : Option Addr) (m cap2 : Nat) (xs : List CAct) (h2 : Rd w w.heap.size 2 A2 m (xs.flatMap CAct.cs)) (hn2 : xs.length = m) (s : Nat) :
    Calls Try.prog 8 #[.slice A n cap, .slice A2 m cap2, .int .u64 (s : Nat)] w fun en w' => en = .returned (.bool true) ∧ Below w.heap.size w w' := by
  have H := Lib.hid h
  have H2 := Lib.hid h2
  have HN2 := Lib.hid hn2
  clear h h2 hn2
  have hb : Below w.heap.size w w := Below.refl _ _
  by_cases hbig : 70 < n ∨ 60 < m
  · go_enter Try.func8, Try.ntmps8
    go_wp2_with fail
    all_goals
      refine (clo_works_any _).mono ?_
      rintro en w1 ⟨rfl, hbn⟩
      replace hb := hb.trans (hbn.mono hb.size)
      go_wp2_with fail
      go_ret
      exact ⟨rfl, hb⟩
  · have hn70 : n ≤ 70 := by omega
    have hm60 : m ≤ 60 := by omega
    clear hbig
    go_enter Try.func8, Try.ntmps8
    go_wp2_with (at_builtin; first
      | (refine wpList_append_rd _ rfl (.tmp 25) (.tmp 26) _ rfl numsV w.heap.size _ 0 _ rfl (World.ownsRow_nil _ _ _ _) w.heap.size A n cap _ rfl H.out (nums_one _) (by unfold maxLen; omega) (by omega) (Nat.le_refl _) ?_
         intro D1 c1 w1 ho1 hb1 _ _
         rw [Nat.zero_add, List.nil_append] at ho1
         have HNOW := Lib.hid ho1
         have HD1 := Lib.hid (own_lt ho1)
         have hb := hb1
         clear ho1 hb1)
      | (refine wpList_append_rd _ rfl (.tmp 28) (.tmp 29) _ rfl numsV w1.heap.size _ 0 _ rfl (World.ownsRow_nil _ _ _ _) w.heap.size A n cap _ rfl (H.out.below hb) (nums_one _) (by unfold maxLen; omega) (by omega) (Nat.le_refl _) ?_
         intro D2 c2 w2 ho2 hb2 _ _
         rw [Nat.zero_add, List.nil_append] at ho2
         have HOWN := Lib.hid ho2
         have HOW2 := Lib.hid (fun b hb => (own_lt ho2 b hb).2)
         replace HNOW := Lib.hid (own_ext HNOW.out hb2)
         have hz1 := hb.size
         replace hb := hb.trans (hb2.mono hb.size)
         have hz2 := hb2.size
         clear ho2 hb2))
    refine (clo_of_any w2 D2 n c2 l w2.heap.size (Nat.le_refl _) (Rd.of_own HOWN.out) (by omega)).mono ?_
    rintro en w3 ⟨g, D3, c3, rfl, hk, hbn⟩
    have HK := Lib.hid hk
    replace HNOW := Lib.hid (own_ext HNOW.out hbn)
    replace HOWN := Lib.hid (own_ext HOWN.out hbn)
    replace hb := hb.trans (hbn.mono hb.size)
    clear hk hbn
    have hg1 : w2.heap.size ≤ g := HK.out.1
    go_wp2_with fail
    have hzs : ∃ zs, World.ownsRow w3 w1.heap.size 22 1 (.slice D2 n c2) n (nums zs) := ⟨l, HOWN.out⟩
    clear HOWN
    have HOWN := Lib.hid hzs
    clear hzs
    go_loopw [10] (fun x wr => ∃ k : Nat, k ≤ n ∧ x = .int .i64 k ∧ Hid (∃ zs, wr.ownsRow w1.heap.size 22 1 (.slice D2 n c2) n (nums zs)) ∧ Hid (wr.ownsRow w.heap.size 22 1 (.slice D1 n c1) n (nums l)) ∧ Hid (ClkAt wr w2.heap.size g D3 c3 n l) ∧ Below w.heap.size w wr) (fun x _ => n - (intOf x).toNat)
    case atStart => exact ⟨0, by omega, rfl, HOWN, HNOW, HK, hb⟩
    case round =>
      obtain ⟨k, hk, rfl, HOWN, HNOW, HK, hb⟩ := hrel
      by_cases hlt : k < n
      · obtain ⟨zs, hzs⟩ := HOWN.out
        obtain ⟨d2, hA, hd2, hdl, hf, ⟨v, hv⟩, hset⟩ := own_set hzs hlt 77
        have HLT2 := Lib.hid (HOW2.out d2 hA)
        have e77 : (((77 : UInt64).toNat : Nat) : Int) = 77 := by decide
        rw [e77] at hset
        have HSET := Lib.hid hset
        clear hset hzs e77 HOWN
        subst hA
        have hd : decide ((k : Int) < (n : Int)) = true := by simp; omega
        have p1 : (0 : Int) ≤ (k : Int) := by omega
        have p2 : (k : Int) < (n : Int) := by omega
        go_wp2_with fail
        go_roundw
        case rel => exact ⟨k + 1, by omega, by go_num, ⟨_, HSET.out⟩, own_far HNOW.out (fun b hb => by have := (HD1.out b hb).2; show b ≠ d2; omega) _, HK.out.far HLT2.out _, hb.setCell (by show w.heap.size ≤ d2; omega) _⟩
        case measure => simp [intOf] <;> omega
      · obtain rfl : n = k := by omega
        clear HOWN HOW2
        have hlen : l.length = n := HK.out.len
        have HL0 := Lib.hid hlen
        clear hlen
        go_wp2_with fail
        go_loopw [11] (fun x wr => ∃ (k : Nat) (L : List UInt64), k ≤ m ∧ x = .int .i64 k ∧ Hid (L.length = n) ∧ Hid (wr.ownsRow w.heap.size 22 1 (.slice D1 n c1) n (nums L)) ∧ Hid (ClkAt wr w2.heap.size g D3 c3 n L) ∧ Below w.heap.size w wr) (fun x _ => m - (intOf x).toNat)
        case atStart => exact ⟨0, l, by omega, rfl, HL0, HNOW, HK, hb⟩
        case round =>
          obtain ⟨k, L, hk, rfl, HLEN, HNOW, HK, hb⟩ := hrel
          by_cases hlt : k < m
          · obtain ⟨b0, o, hkl, hA, hbB, hat⟩ := (H2.out.below hb).elem CAct.cs_length HN2.out hlt
            subst hA
            obtain ⟨z, y, hxk⟩ : ∃ a b, xs[k] = ⟨a, b⟩ := ⟨_, _, rfl⟩
            rw [hxk] at hat
            have q0 : wr.cell? ⟨b0, o + k * 2, none⟩ = some (.int .i64 z) := hat 0 _ rfl
            have q1 : wr.cell? ⟨b0, o + k * 2 + 1, none⟩ = some (.int .u64 (y.toNat : Nat)) := hat 1 _ rfl
            clear hat hxk
            have hd1 : decide ((k : Int) < (m : Int)) = true := by simp; omega
            have hk1 : (0 : Int) ≤ (k : Int) := by omega
            have hk2 : (k : Int) < (m : Int) := by omega
            go_wp2_with fail
            refine wp_region_still_tail 11 (by kernel_rfl) (by kernel_rfl) ?_
            simp only [List.take_succ_cons, List.take_zero, List.drop_succ_cons, List.drop_zero]
            repeat still_step
            refine wpStill_nil ?_
            change wpList _ _ _ _ _ wr.drew
            go_wp2_with fail
            have f1 : World.ownsRow wr.drew w.heap.size 22 1 (.slice D1 n c1) n (nums L) := HNOW.out
            have f2 : ClkAt wr.drew w2.heap.size g D3 c3 n L := HK.out
            have f3 : Below w.heap.size w wr.drew := hb.drew
            have f4 : wr.drew.cell? ⟨b0, o + k * 2, none⟩ = some (.int .i64 z) := q0
            have f5 : wr.drew.cell? ⟨b0, o + k * 2 + 1, none⟩ = some (.int .u64 (y.toNat : Nat)) := q1
            generalize wr.drew = wd at f1 f2 f3 f4 f5 ⊢
            clear q0 q1 hb HNOW HK
            have HNOW := Lib.hid f1
            have HK := Lib.hid f2
            have hb := f3
            clear f1 f2 f3
            by_cases hz : 0 ≤ z ∧ z < (n : Int)
            · obtain ⟨j, rfl⟩ : ∃ j : Nat, z = (j : Int) := ⟨z.toNat, by omega⟩
              have hjn : j < n := by omega
              have hjl : j < L.length := by have := HLEN.out; omega
              obtain ⟨v, hv⟩ : ∃ v, L[j] = v := ⟨_, rfl⟩
              obtain ⟨t, ht⟩ : ∃ t : UInt64, UInt64.ofNat (till v.toNat y.toNat) = t := ⟨_, rfl⟩
              have htn : t.toNat = till v.toNat y.toNat := by rw [← ht, ofNat_till]
              have htv : ¬ t.toNat < v.toNat := by have := till_ge (b := y.toNat) v.toNat_lt; omega
              refine (clo_tick_in wd _ g D3 c3 n L HK.out j hjl y).mono ?_
              rintro en w4 ⟨rfl, hk4, hb4⟩
              rw [hv, ht] at hk4
              have hzw : w.heap.size ≤ w2.heap.size := Nat.le_trans hz1 hz2
              have q0 := (hb4.cell (p := ⟨b0, o + k * 2, none⟩) (Nat.lt_of_lt_of_le hbB hzw)).trans f4
              have q1 := (hb4.cell (p := ⟨b0, o + k * 2 + 1, none⟩) (Nat.lt_of_lt_of_le hbB hzw)).trans f5
              have hnow4 := own_under HNOW.out hb4 (fun b hb => by have := (HD1.out b hb).2; omega)
              replace HK := Lib.hid hk4
              replace hb := hb.trans (hb4.mono hzw)
              obtain ⟨d1, hA, hd1b, hd1l, -, -, -⟩ := own_set hnow4 hjn t
              have HD1L := Lib.hid (HD1.out d1 hA).2
              subst hA
              obtain ⟨b1, o1, _, hA, -, hcj⟩ := (Rd.of_own hnow4).num hjn
              injection hA with hA
              injection hA with e1 e2 _
              subst e1 e2
              rw [hv, Nat.zero_add] at hcj
              have HN4 := Lib.hid hnow4
              have HV := Lib.hid hv
              have HTN := Lib.hid htn
              have HJN := Lib.hid hjn
              have t1 : decide ((j : Int) < 0) = false := by simp
              have t2 : decide ((n : Int) ≤ (j : Int)) = false := by simp; omega
              have p1 : (0 : Int) ≤ (j : Int) := by omega
              have p2 : (j : Int) < (n : Int) := by omega
              clear hv ht htn hk4 hb4 hnow4 f4 f5 HNOW hz
              go_wp2_with fail
              have B0L := Lib.hid (Nat.lt_of_lt_of_le hbB hb.size)
              have Q0 := Lib.hid q0
              have Q1 := Lib.hid q1
              clear q0 q1 hcj
              refine wp_region_last (fun k' => List.lookup k' [(5, .fix (.int .i64 (j : Nat))), (11, .fix (.int .u64 (y.toNat : Nat))), (12, .fix (.int .u64 (t.toNat : Nat)))]) _ rfl (by kernel_rfl) (by kernel_rfl) (by kernel_rfl) (by kernel_rfl) rfl rfl ?_
              simp only [List.dropLast]
              repeat (refine wpGrow_pure rfl (fun K hK => ?_); go_simp; refine hK.out _ ?_; clear hK K)
              refine wpGrow_eff _ rfl (fun wx he hcl => ?_) (fun _ K hK => ?_) rfl
              · clear hcl
                have hq := (he.cell (p := ⟨b0, o + k * 2, none⟩) B0L.out).trans Q0.out
                go_simp
                exact Below.refl _ _
              go_simp
              refine hK.out _ ?_
              clear hK K
              repeat (refine wpGrow_pure rfl (fun K hK => ?_); go_simp; refine hK.out _ ?_; clear hK K)
              refine wpGrow_eff _ rfl (fun wx he hcl => ?_) (fun _ K hK => ?_) rfl
              · clear hcl
                have hq := (he.cell (p := ⟨b0, o + k * 2 + 1, none⟩) B0L.out).trans Q1.out
                go_simp
                exact Below.refl _ _
              go_simp
              refine hK.out _ ?_
              clear hK K
              repeat (refine wpGrow_pure rfl (fun K hK => ?_); go_simp; refine hK.out _ ?_; clear hK K)
              refine wpGrow_eff _ rfl (fun wx he hcl => ?_) (fun _ K hK => ?_) rfl
              · clear hcl
                have hcon := cref_add_any wx v.toNat y.toNat v.toNat_lt y.toNat_lt
                rw [← HTN.out] at hcon
                go_simp
                all_goals exact hcon
              go_simp
              refine hK.out _ ?_
              clear hK K
              repeat (refine wpGrow_pure rfl (fun K hK => ?_); go_simp; refine hK.out _ ?_; clear hK K)
              refine wpGrow_nil fun wx he hfin => ?_
              clear hfin
              have hnx := own_ext HN4.out he
              replace HK := Lib.hid (HK.out.below he)
              replace hb := hb.trans (he.mono hb.size)
              obtain ⟨d1', hA, hd1b', hd1l', hf, ⟨v0, hv0⟩, hset⟩ := own_set hnx HJN.out t
              have hdd : d1 = d1' := by injection hA with hA; injection hA with e1 _ _
              clear hA
              subst hdd
              have q0 := (he.cell (p := ⟨b0, o + k * 2, none⟩) B0L.out).trans Q0.out
              have HSET := Lib.hid hset
              have HKS := Lib.hid (HK.out.far (p := ⟨d1, j, none⟩) (by show d1 < w2.heap.size; have := HD1L.out; omega) (.int .u64 (t.toNat : Nat)))
              have hb2 := hb.setCell (p := ⟨d1, j, none⟩) (by show w.heap.size ≤ d1; exact hd1b') (.int .u64 (t.toNat : Nat))
              have hq2 : (wx.setCell ⟨d1, j, none⟩ (.int .u64 (t.toNat : Nat))).cell? ⟨b0, o + k * 2, none⟩ = some (.int .i64 (j : Nat)) := by
                rw [World.cell?_setCell_other _ _ _ _ (by intro h; injection h with h _ _; omega)]
                exact q0
              clear hset hnx he Q0 Q1 q0 HN4 HNOW HD1L B0L
              go_upto_region 20 with fail
              clear hf hv0 hd1l' hd1b' hd1l
              generalize World.setCell wx ⟨d1, j, none⟩ (.int .u64 (t.toNat : Nat)) = wy at HSET HKS hb2 hq2 ⊢
              have HNOW := HSET
              replace HK := HKS
              replace hb := hb2
              have B0L := Lib.hid (Nat.lt_of_lt_of_le hbB hb.size)
              have Q0 := Lib.hid hq2
              obtain ⟨b1, o1, hl1, hA, hb1l, hcj⟩ := (Rd.of_own HNOW.out).num HJN.out
              have hdd : d1 = b1 ∧ 0 = o1 := by injection hA with hA; injection hA with e1 e2 _; exact ⟨e1, e2⟩
              obtain ⟨rfl, rfl⟩ := hdd
              clear hA
              rw [Nat.zero_add, List.getElem_set_self] at hcj
              have QJ := Lib.hid hcj
              have D1L := Lib.hid hb1l
              have JL := Lib.hid hl1
              clear hcj hb1l hl1 HSET HKS hb2 hq2
              refine wp_region_grow (fun k' => List.lookup k' [(8, .fix (.int .i64 (j : Nat))), (9, .fix (.int .u64 (t.toNat : Nat))), (15, .fix (.int .i64 (j : Nat))), (17, .fix (.int .u64 (t.toNat : Nat))), (26, .fix (.int .i64 (j : Nat))), (27, .fix (.int .u64 (t.toNat : Nat)))]) (by kernel_rfl) (by kernel_rfl) ?_
              repeat (refine wpGrow_pure rfl (fun K hK => ?_); go_simp; refine hK.out _ ?_; clear hK K)
              refine wpGrow_eff _ rfl (fun wx he hcl => ?_) (fun _ K hK => ?_) rfl
              · clear hcl
                have hq := (he.cell (p := ⟨b0, o + k * 2, none⟩) B0L.out).trans Q0.out
                go_simp
                exact Below.refl _ _
              go_simp
              refine hK.out _ ?_
              clear hK K
              repeat (refine wpGrow_pure rfl (fun K hK => ?_); go_simp; refine hK.out _ ?_; clear hK K)
              refine wpGrow_eff _ rfl (fun wx he hcl => ?_) (fun _ K hK => ?_) rfl
              · clear hcl
                have hcon := clo_read_in wx _ g D3 c3 n (L.set j t) (HK.out.below he) j JL.out
                rw [List.getElem_set_self] at hcon
                go_simp
                all_goals exact hcon
              go_simp
              refine hK.out _ ?_
              clear hK K
              repeat (refine wpGrow_pure rfl (fun K hK => ?_); go_simp; refine hK.out _ ?_; clear hK K)
              refine wpGrow_eff _ rfl (fun wx he hcl => ?_) (fun _ K hK => ?_) rfl
              · clear hcl
                have hq := (he.cell (p := ⟨b0, o + k * 2, none⟩) B0L.out).trans Q0.out
                go_simp
                exact Below.refl _ _
              go_simp
              refine hK.out _ ?_
              clear hK K
              repeat (refine wpGrow_pure rfl (fun K hK => ?_); go_simp; refine hK.out _ ?_; clear hK K)
              refine wpGrow_eff _ rfl (fun wx he hcl => ?_) (fun _ K hK => ?_) rfl
              · clear hcl
                have hq := (he.cell (p := ⟨d1, j, none⟩) D1L.out).trans QJ.out
                go_simp
                exact Below.refl _ _
              go_simp
              refine hK.out _ ?_
              clear hK K
              repeat (refine wpGrow_pure rfl (fun K hK => ?_); go_simp; refine hK.out _ ?_; clear hK K)
              refine wpGrow_eff _ rfl (fun wx he hcl => ?_) (fun _ K hK => ?_) rfl
              · clear hcl
                have hq := (he.cell (p := ⟨b0, o + k * 2, none⟩) B0L.out).trans Q0.out
                go_simp
                exact Below.refl _ _
              go_simp
              refine hK.out _ ?_
              clear hK K
              repeat (refine wpGrow_pure rfl (fun K hK => ?_); go_simp; refine hK.out _ ?_; clear hK K)
              refine wpGrow_eff _ rfl (fun wx he hcl => ?_) (fun _ K hK => ?_) rfl
              · clear hcl
                have hcon := clo_read_in wx _ g D3 c3 n (L.set j t) (HK.out.below he) j JL.out
                rw [List.getElem_set_self] at hcon
                go_simp
                all_goals exact hcon
              go_simp
              refine hK.out _ ?_
              clear hK K
              repeat (refine wpGrow_pure rfl (fun K hK => ?_); go_simp; refine hK.out _ ?_; clear hK K)
              refine wpGrow_nil fun wx he hfin => ?_
              clear hfin
              replace HNOW := Lib.hid (own_ext HNOW.out he)
              replace HK := Lib.hid (HK.out.below he)
              replace hb := hb.trans (he.mono hb.size)
              clear he Q0 QJ
              go_wp2_with fail
              go_roundw
              case rel => exact ⟨k + 1, L.set j t, by omega, by go_num, Lib.hid (by rw [List.length_set]; exact HLEN.out), HNOW, HK, hb⟩
              case measure => simp [intOf] <;> omega
            · refine (clo_tick_out wd _ g D3 c3 n L HK.out z hz y.toNat).mono ?_
              rintro en w4 ⟨rfl, hbn⟩
              have q0 := (hbn.cell (p := ⟨b0, o + k * 2, none⟩) (Nat.lt_of_lt_of_le hbB hb.size)).trans f4
              replace HNOW := Lib.hid (own_ext HNOW.out hbn)
              replace HK := Lib.hid (HK.out.below hbn)
              replace hb := hb.trans (hbn.mono hb.size)
              clear hbn f4 f5
              have HZ := Lib.hid hz
              by_cases hz0 : z < 0
              all_goals
                have t2 : decide ((n : Int) ≤ z) = true ∨ z < 0 := by simp; omega
                first
                  | (have t1 : decide (z < 0) = true := by simp; omega)
                  | (have t1 : decide (z < 0) = false := by simp; omega
                     replace t2 : decide ((n : Int) ≤ z) = true := by simp; omega)
                clear hz
                go_wp2_with fail
                refine (clo_read_out w4 _ g D3 c3 n L HK.out z HZ.out).mono ?_
                rintro en w5 ⟨rfl, hbn⟩
                replace HNOW := Lib.hid (own_ext HNOW.out hbn)
                replace HK := Lib.hid (HK.out.below hbn)
                replace hb := hb.trans (hbn.mono hb.size)
                clear hbn q0
                go_wp2_with fail
                go_roundw
                case rel => exact ⟨k + 1, L, by omega, by go_num, HLEN, HNOW, HK, hb⟩
                case measure => simp [intOf] <;> omega
          · obtain rfl : m = k := by omega
            obtain ⟨wo, rfl⟩ : ∃ wo : World, wo = wr := ⟨_, rfl⟩
            obtain ⟨S, hS⟩ : ∃ S, skewTo L n n = S := ⟨_, rfl⟩
            have HSK := Lib.hid ((skewOf_eq L n).trans hS)
            have HS := Lib.hid hS
            clear hS
            have HZ0 := Lib.hid hb.size
            have hd1 : decide ((m : Int) < (m : Int)) = false := by simp
            go_wp2_with fail
            refine (clo_hands_any wo _ g D3 c3 n L HK.out (by omega)).mono ?_
            rintro en w5 ⟨D4, c4, rfl, ho4, hbn⟩
            have HOH := Lib.hid ho4
            have hbl := hbn
            clear ho4 hbn
            go_wp2_with fail
            refine (clockSame_any w5 _ n _ L _ n _ w5.heap.size w5.heap.size (Nat.le_refl _) (Nat.le_refl _) (Rd.of_own HOH.out) (Rd.of_own (own_ext HNOW.out hbl)) (by omega) (by omega)).mono ?_
            rintro en w6 ⟨rfl, hbn⟩
            replace HOH := Lib.hid (own_ext HOH.out hbn)
            replace hbl := hbl.trans (hbn.mono hbl.size)
            clear hbn
            go_wp2_with fail
            have hzs : ∃ zs, World.ownsRow w6 wo.heap.size 22 1 (.slice D4 n c4) n (nums zs) := ⟨L, HOH.out⟩
            clear HOH
            have HOH := Lib.hid hzs
            clear hzs
            go_loopw [15] (fun x wr => ∃ k : Nat, k ≤ n ∧ x = .int .i64 k ∧ Hid (∃ zs, wr.ownsRow wo.heap.size 22 1 (.slice D4 n c4) n (nums zs)) ∧ Below wo.heap.size wo wr) (fun x _ => n - (intOf x).toNat)
            case atStart => exact ⟨0, by omega, rfl, HOH, hbl⟩
            case round =>
              obtain ⟨k, hk, rfl, HOH, hbl⟩ := hrel
              by_cases hlt : k < n
              · obtain ⟨zs, hzs⟩ := HOH.out
                obtain ⟨d4, hA, hd4, hdl, hf, ⟨v, hv⟩, hset⟩ := own_set hzs hlt 5
                have e5 : (((5 : UInt64).toNat : Nat) : Int) = 5 := by decide
                rw [e5] at hset
                have HSET := Lib.hid hset
                clear hset hzs e5 HOH
                subst hA
                have hd : decide ((k : Int) < (n : Int)) = true := by simp; omega
                have p1 : (0 : Int) ≤ (k : Int) := by omega
                have p2 : (k : Int) < (n : Int) := by omega
                go_wp2_with fail
                go_roundw
                case rel => exact ⟨k + 1, by omega, by go_num, Lib.hid ⟨_, HSET.out⟩, hbl.setCell (by show wo.heap.size ≤ d4; exact hd4) _⟩
                case measure => simp [intOf] <;> omega
              · obtain rfl : n = k := by omega
                have hd : decide ((n : Int) < (n : Int)) = false := by simp
                replace HNOW := Lib.hid (own_ext HNOW.out hbl)
                replace HK := Lib.hid (HK.out.below hbl)
                replace hb := hb.trans (hbl.mono hb.size)
                clear hbl HOH
                go_wp2_with fail
                refine (clo_hands_any wr _ g D3 c3 n L HK.out (by omega)).mono ?_
                rintro en w7 ⟨D5, c5, rfl, ho5, hbn⟩
                have HOH := Lib.hid ho5
                replace HNOW := Lib.hid (own_ext HNOW.out hbn)
                replace HK := Lib.hid (HK.out.below hbn)
                replace hb := hb.trans (hbn.mono hb.size)
                clear ho5 hbn
                go_wp2_with fail
                refine (clockSame_any w7 _ n _ L _ n _ w7.heap.size w7.heap.size (Nat.le_refl _) (Nat.le_refl _) (Rd.of_own HOH.out) (Rd.of_own HNOW.out) (by omega) (by omega)).mono ?_
                rintro en w8 ⟨rfl, hbn⟩
                replace HNOW := Lib.hid (own_ext HNOW.out hbn)
                replace HK := Lib.hid (HK.out.below hbn)
                replace hb := hb.trans (hbn.mono hb.size)
                clear hbn HOH
                go_wp2_with fail
                refine (clo_skew_any w8 _ g D3 c3 n L HK.out (by omega)).mono ?_
                rintro en w9 ⟨rfl, hbn⟩
                rw [HSK.out]
                replace HNOW := Lib.hid (own_ext HNOW.out hbn)
                replace HK := Lib.hid (HK.out.below hbn)
                replace hb := hb.trans (hbn.mono hb.size)
                clear hbn
                go_wp2_with fail
                refine (cref_skew_any w9 _ n _ L _ (Nat.le_refl _) (Rd.of_own HNOW.out) (by omega)).mono ?_
                rintro en w10 ⟨rfl, hbn⟩
                rw [HS.out]
                replace HNOW := Lib.hid (own_ext HNOW.out hbn)
                replace HK := Lib.hid (HK.out.below hbn)
                replace hb := hb.trans (hbn.mono hb.size)
                clear hbn
                go_wp2_with fail
                refine (clo_within_any w10 _ g D3 c3 n L HK.out (by omega) s).mono ?_
                rintro en w11 ⟨rfl, hbn⟩
                rw [show skewOf L n = S from HSK.out]
                replace HNOW := Lib.hid (own_ext HNOW.out hbn)
                replace HK := Lib.hid (HK.out.below hbn)
                replace hb := hb.trans (hbn.mono hb.size)
                clear hbn
                go_wp2_with fail
                refine (cref_skew_any w11 _ n _ L _ (Nat.le_refl _) (Rd.of_own HNOW.out) (by omega)).mono ?_
                rintro en w12 ⟨rfl, hbn⟩
                rw [HS.out]
                replace hb := hb.trans (hbn.mono hb.size)
                clear hbn
                go_wp2_with fail
                refine (clo_works_any _).mono ?_
                rintro en w13 ⟨rfl, hbn⟩
                replace hb := hb.trans (hbn.mono hb.size)
                go_wp2_with fail
                go_ret
                exact ⟨rfl, hb⟩

end Go.Proofs.Ythknhgakompggaa
