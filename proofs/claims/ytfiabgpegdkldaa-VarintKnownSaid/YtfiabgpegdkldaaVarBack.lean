/-
  The walk of VarintBack: it returns true.
-/
import Derived.Test.YtfiabgpegdkldaaVarBackLaw
import Derived.Test.YtfiabgpegdkldaaVarPuts
namespace Go.Proofs.Ytfiabgpegdkldaa
open Go.RowKit
attribute [local go_sem] Oper.growAt Oper.growUpon GSpec.fix GSpec.row GSpec.wh GSpec.own
theorem own_low {w : World} {base base' : Nat} {te : TypeId} {s n : Nat} {v : Value} {xs : List Value} (h : w.ownsRow base te s v n xs) (hb : base' ≤ base) : w.ownsRow base' te s v n xs := by
  refine ⟨h.1, ?_⟩
  rcases h.2 with h | ⟨g, cap, cur, h1, h2, h3⟩
  · exact .inl h
  · exact .inr ⟨g, cap, cur, h1, Nat.le_trans hb h2, h3⟩
theorem nums_natv (l : List UInt64) : nums l = natv (l.map UInt64.toNat) := by simp [nums, natv]
theorem size_at (w : World) (n : Nat) (hn : n < 18446744073709551616) (Z : Nat) (hz : (Var.put n).length = Z) :
    Calls Try.prog 29 #[.int .u64 (n : Nat)] w fun e w' => e = .returned (.int .i64 (Z : Nat)) ∧ Below w.heap.size w w' := by
  have h := size_any w n hn
  rw [hz] at h
  exact h
set_option maxHeartbeats 10000000 in
set_option maxRecDepth 100000 in
theorem varBack_any (w : World) (A : Option Addr) (n cap : Nat) (l : List UInt64) (h : Rd w w.heap.size 1 A n (nums l)) (s : ByteArray)
    (A2 : Option Addr) (n2 cap2 : Nat) (ah : List UInt8) (h2 : Rd w w.heap.size 1 A2 n2 (byts ah)) (A3 : Option Addr) (n3 cap3 : Nat) (bh : List UInt8) (h3 : Rd w w.heap.size 1 A3 n3 (byts bh)) (hc3 : n3 ≤ cap3) (hm3 : cap3 ≤ maxLen) :
    Calls Try.prog 10 #[.slice A n cap, .string s, .slice A2 n2 cap2, .slice A3 n3 cap3] w fun e w' => e = .returned (.bool true) ∧ Below w.heap.size w w' := by
  have hb : Below w.heap.size w w := Below.refl _ _
  have H := Lib.hid h
  have H2 := Lib.hid h2
  have H3 := Lib.hid h3
  have HM3 := Lib.hid hm3
  unfold maxLen at hm3
  clear h h2 h3
  by_cases hbig : 50 < n ∨ 1000 < s.size ∨ 1000 < n2 ∨ 1000 < n3
  · go_enter Try.func10, Try.ntmps10
    go_wp2_with fail
    all_goals
      refine (varWorks_any _).mono ?_
      rintro e w1 ⟨rfl, hb1⟩
      go_wp2_with fail
      go_ret
      exact ⟨rfl, hb1⟩
  · have hn : n ≤ 50 := by omega
    have hs : s.size ≤ 1000 := by omega
    have hn2 : n2 ≤ 1000 := by omega
    have hn3 : n3 ≤ 1000 := by omega
    clear hbig
    obtain ⟨bs, hbs⟩ : ∃ bs, puts l = bs := ⟨_, rfl⟩
    obtain ⟨L, hL⟩ : ∃ L, bs.length = L := ⟨_, rfl⟩
    obtain ⟨ts, hts⟩ : ∃ ts, Var.put s.size ++ s.data.toList = ts := ⟨_, rfl⟩
    obtain ⟨M, hM⟩ : ∃ M, ts.length = M := ⟨_, rfl⟩
    have hL5 : L ≤ 500 := by
      have := puts_le l
      rw [hbs, hL, H.out.nlen] at this
      omega
    have hM5 : M ≤ 1010 := by
      have := (Var.put_length s.size).2
      rw [← hM, ← hts, List.length_append]
      have : s.data.toList.length = s.size := by simp
      omega
    obtain ⟨all, hall⟩ : ∃ all, ((ah ++ bs) ++ ts) ++ bh = all := ⟨_, rfl⟩
    have hra : Var.rall all ((n : Nat) : Int).toNat ((n2 : Nat) : Int) = (l.map UInt64.toNat, ((n2 : Nat) : Int) + (L : Nat), 0) := by
      have h := Var.rall_puts ah (ts ++ bh) l
      rw [hbs, hL, H.out.nlen, H2.out.blen, Int.natCast_add] at h
      rw [← hall, Int.toNat_natCast, List.append_assoc, List.append_assoc]
      exact h
    have hrt : Var.ttext all (((n2 : Nat) : Int) + (L : Nat)) = (s.data.toList, ((n2 : Nat) : Int) + (L : Nat) + (M : Nat), 0) := by
      have h := Var.ttext_put (ah ++ bs) s.data.toList bh (by simp; omega)
      have hz : s.data.toList.length = s.size := by simp
      rw [hz, hts, hM, List.length_append, hL, H2.out.blen, Int.natCast_add, Int.natCast_add] at h
      rw [← hall, List.append_assoc (ah ++ bs)]
      exact h
    have hln : (l.map UInt64.toNat).length = n := by rw [List.length_map, H.out.nlen]
    have HBS := Lib.hid hbs
    have HL := Lib.hid hL
    have HTS := Lib.hid hts
    have HM := Lib.hid hM
    have HALL := Lib.hid hall
    have HRA := Lib.hid hra
    have HRT := Lib.hid hrt
    have HLN := Lib.hid hln
    clear hbs hL hts hM hall hra hrt hln
    go_enter Try.func10, Try.ntmps10
    go_wp2_with fail
    refine (own_at w A2 n2 cap2 ah _ H2.out (by omega)).mono ?_
    rintro e w1 ⟨D1, c1, rfl, ho1, hb2⟩
    replace hb := hb.trans hb2
    have HO1 := Lib.hid ho1
    clear ho1 hb2
    go_wp2_with fail
    refine (all_at w1 A n cap l _ hb.size (H.out.below hb) (by omega) bs L HBS.out HL.out).mono ?_
    rintro e w2 ⟨D2, c2, rfl, ho2, hb2⟩
    replace HO1 := Lib.hid (own_ext HO1.out hb2)
    replace hb := hb.trans (hb2.mono hb.size)
    have HO2 := Lib.hid ho2
    clear ho2 hb2
    go_wp2_with (at_builtin; refine wpList_append_rd _ rfl (.tmp 43) (.tmp 45) _ rfl bytesV w.heap.size _ n2 _ rfl HO1.out w2.heap.size D2 L c2 _ rfl (Rd.of_own HO2.out) (byts_one _) (by unfold maxLen; omega) (by omega) hb.size ?_; intro D3 c3 w3 ho3 hb3 _ _)
    replace hb := hb.trans hb3
    rw [← byts_append] at ho3
    have HO3 := Lib.hid ho3
    clear ho3 hb3 HO1 HO2
    go_wp2_with fail
    refine (text_at w3 s (by omega) ts M HTS.out HM.out).mono ?_
    rintro e w4 ⟨D4, c4, rfl, ho4, hb2⟩
    replace HO3 := Lib.hid (own_ext HO3.out hb2)
    replace hb := hb.trans (hb2.mono hb.size)
    have HO4 := Lib.hid ho4
    clear ho4 hb2
    go_wp2_with (at_builtin; first
      | (refine wpList_append_rd _ rfl (.tmp 49) (.tmp 51) _ rfl bytesV w.heap.size _ (n2 + L) _ rfl HO3.out w4.heap.size D4 M c4 _ rfl (Rd.of_own HO4.out) (byts_one _) (by unfold maxLen; omega) (by omega) hb.size ?_
         intro D5 c5 w5 ho5 hb3 _ _
         replace hb := hb.trans hb3
         rw [← byts_append] at ho5
         have HO5 := Lib.hid ho5
         clear ho5 hb3 HO3 HO4)
      | (refine wpList_append_rd _ rfl (.tmp 55) (.tmp 56) _ rfl bytesV w.heap.size _ (n2 + L + M) _ rfl HO5.out w.heap.size A3 n3 cap3 _ rfl (H3.out.below hb) (byts_one _) (by unfold maxLen; omega) (by omega) hb.size ?_
         intro D6 c6 w6 ho6 hb3 _ _
         replace hb := hb.trans hb3
         rw [← byts_append, HALL.out] at ho6
         have hcap6 := (own_cap ho6).1
         have HO6 := Lib.hid ho6
         clear ho6 hb3 HO5))
    refine (takeAll_at w6 D6 (n2 + L + M + n3) c6 all _ (Nat.le_refl _) (Rd.of_own HO6.out) hcap6 (by omega) _ (by omega) (by omega) _ (by omega) _ _ _ n HLN.out HRA.out).mono ?_
    rintro e w7 ⟨D7, c7, rfl, ho7, hb2⟩
    replace HO6 := Lib.hid (own_ext HO6.out hb2)
    replace hb := hb.trans (hb2.mono hb.size)
    have HO7 := Lib.hid ho7
    clear ho7 hb2
    go_wp2_with fail
    refine (takeText_at w7 D6 (n2 + L + M + n3) c6 all _ (Rd.of_own HO6.out) hcap6 (by omega) _ (by omega) (by omega) _ _ _ HRT.out).mono ?_
    rintro e w8 ⟨rfl, rfl⟩
    rw [show (⟨s.data.toList.toArray⟩ : ByteArray) = s by simp]
    go_wp2_with fail
    refine (lawSame_any w7 A n cap (l.map UInt64.toNat) D7 n c7 (l.map UInt64.toNat) _ _ hb.size (Nat.le_refl _) (by rw [← nums_natv]; exact H.out.below hb) (Rd.of_own HO7.out) (by omega) (by omega) true (by simp)).mono ?_
    rintro e w8 ⟨rfl, hb2⟩
    replace hb := hb.trans (hb2.mono hb.size)
    clear hb2
    go_wp2_with fail
    have hcap3 : n3 ≤ maxLen := by have := HM3.out; omega
    rcases Var.take_cases bh 0 with ⟨v, nx, q, ht, hq0, hq, hnx, hv⟩ | ht | ht
    · obtain rfl : q = 0 := by omega
      have hback := Var.take_back bh v nx ht
      obtain ⟨ps, hps⟩ : ∃ ps, Var.put v = ps := ⟨_, rfl⟩
      have hnx3 : nx ≤ n3 := by rw [H3.out.blen] at hnx; exact hnx
      have hpl : ps.length = nx := by rw [← hps, hback, List.length_take]; omega
      have HR := Lib.hid (show Rd w w.heap.size 1 A3 nx (byts ps) from by rw [← hps, hback]; exact H3.out.front hnx3)
      have HT := Lib.hid ht
      have HV := Lib.hid hv
      have HPS := Lib.hid hps
      have HPL := Lib.hid hpl
      have hnc : nx ≤ cap3 := by omega
      have hle1 : ¬ nx = 0 := by omega
      have hle3 : ¬ n3 < nx := by omega
      have hle2 : decide ((n3 : Int) < (nx : Int)) = false := by simp; omega
      clear ht hv hps hpl hback hnx hq0
      refine (take_at w8 A3 n3 cap3 bh _ (H3.out.below hb) hc3 (by omega) 0 (by omega) (by omega) _ _ _ HT.out).mono ?_
      rintro e w9 ⟨rfl, rfl⟩
      go_wp2_with fail
      refine wp_region_grow (fun k' => List.lookup k' [(13, .own w8.heap.size 5 1 nx (byts ps)), (17, .fix (.bool true))]) (by kernel_rfl) (by kernel_rfl) ?_
      repeat (refine wpGrow_pure rfl (fun K hK => ?_); go_simp; refine hK.out _ ?_; clear hK K)
      refine wpGrow_eff _ rfl (fun wx he hcl => ?_) (fun D9 K hK => ?_) rfl
      · clear hcl
        have hz : w8.heap.size ≤ wx.heap.size := he.size
        go_simp
        refine (put_at wx v HV.out ps nx HPS.out HPL.out).mono ?_
        rintro e w9 ⟨D9, c9, rfl, ho9, hb9⟩
        exact ⟨D9, c9, rfl, own_low ho9 hz, hb9⟩
      go_simp
      refine hK.out _ ?_
      clear hK K
      repeat (refine wpGrow_pure rfl (fun K hK => ?_); go_simp; refine hK.out _ ?_; clear hK K)
      refine wpGrow_eff _ rfl (fun wx he hcl => ?_) (fun _ K hK => ?_) rfl
      · have ho := hcl.out 13 rfl
        clear hcl
        have hz : w8.heap.size ≤ wx.heap.size := he.size
        go_simp
        exact same_any wx _ nx _ ps A3 nx cap3 ps _ _ (Nat.le_refl _) (Nat.le_trans hb.size hz) (Rd.of_own ho) (HR.out.below (hb.trans (he.mono hb.size))) (by omega) (by omega) true (by simp)
      go_simp
      refine hK.out _ ?_
      clear hK K
      repeat (refine wpGrow_pure rfl (fun K hK => ?_); go_simp; refine hK.out _ ?_; clear hK K)
      refine wpGrow_nil fun wx he hfin => ?_
      clear hfin
      have hbx : Below w.heap.size w wx := hb.trans (he.mono hb.size)
      clear he
      go_wp2_with fail
      go_loopw [21] (fun i wr => ∃ k : Nat, k ≤ n ∧ i = .int .i64 k ∧ Below w.heap.size w wr) (fun i _ => n - (intOf i).toNat)
      case atStart => exact ⟨0, by omega, rfl, hbx⟩
      case round =>
        obtain ⟨k, hk, rfl, hbx⟩ := hrel
        by_cases hlt : k + 1 < n
        · have hd : decide ((k : Int) + 1 < (n : Int)) = true := by simp; omega
          obtain ⟨b0, o, hkl, hA, hbB, hc1⟩ := (H.out.below hbx).num (k := k) (by omega)
          subst hA
          obtain ⟨b0', o', hkl2, hA, _, hc2⟩ := (H.out.below hbx).num hlt
          injection hA with hA
          injection hA with h1 h2 _
          subst h1 h2
          obtain ⟨x, hx⟩ : ∃ x, x = l[k].toNat := ⟨_, rfl⟩
          obtain ⟨y, hy⟩ : ∃ y, y = l[k + 1].toNat := ⟨_, rfl⟩
          have hxl : x < 18446744073709551616 := by rw [hx]; exact l[k].toNat_lt
          have hyl : y < 18446744073709551616 := by rw [hy]; exact l[k + 1].toNat_lt
          rw [← hx] at hc1
          rw [← hy] at hc2
          have HXL := Lib.hid hxl
          have HYL := Lib.hid hyl
          have HC1 := Lib.hid hc1
          have HC2 := Lib.hid hc2
          have hbz : b0 < wr.heap.size := Nat.lt_of_lt_of_le hbB hbx.size
          have hk1 : (0 : Int) ≤ (k : Int) := by omega
          have hk2 : (k : Int) < (n : Int) := by omega
          have hk3 : (0 : Int) ≤ (k : Int) + 1 := by omega
          have hk4 : (k : Int) + 1 < (n : Int) := by omega
          have HK6 := Lib.hid (show IntKind.i64.wrap ((k : Int) + 1) = (k : Int) + 1 by rw [IntKind.wrap_i64]; omega)
          have HK7 := Lib.hid (show ((k : Int) + 1).toNat = k + 1 by omega)
          clear hx hy hxl hyl hc1 hc2
          obtain ⟨Zx, hZx⟩ : ∃ Z, (Var.put x).length = Z := ⟨_, rfl⟩
          obtain ⟨Zy, hZy⟩ : ∃ Z, (Var.put y).length = Z := ⟨_, rfl⟩
          have HZx := Lib.hid hZx
          have HZy := Lib.hid hZy
          have hz10 : Zx ≤ 10 := by rw [← hZx]; exact (Var.put_length x).2
          have hz11 : Zy ≤ 10 := by rw [← hZy]; exact (Var.put_length y).2
          by_cases hxy : x ≤ y
          · have hzz : ¬ Zy < Zx := by
              have := Var.put_le hxy
              omega
            clear hZx hZy
            go_wp2_with fail
            refine wp_region_grow (fun k' => List.lookup k' [(3, .fix (.int .u64 (x : Nat))), (8, .fix (.int .u64 (y : Nat))), (14, .fix (.int .u64 (x : Nat))), (15, .fix (.int .i64 (Zx : Nat))), (20, .fix (.int .u64 (y : Nat))), (21, .fix (.int .i64 (Zy : Nat)))]) (by kernel_rfl) (by kernel_rfl) ?_
            repeat (refine wpGrow_pure rfl (fun K hK => ?_); go_simp; refine hK.out _ ?_; clear hK K)
            refine wpGrow_eff _ rfl (fun wx2 he2 hcl => ?_) (fun _ K hK => ?_) rfl
            · clear hcl
              have hq : wx2.cell? ⟨b0, o + k, none⟩ = some (.int .u64 (x : Nat)) := (he2.cell hbz).trans HC1.out
              go_simp
              exact Below.refl _ _
            go_simp
            refine hK.out _ ?_
            clear hK K
            iterate 2 (refine wpGrow_pure rfl (fun K hK => ?_); go_simp; refine hK.out _ ?_; clear hK K)
            (refine wpGrow_pure rfl (fun K hK => ?_); go_simp; rw [HK6.out]; refine hK.out _ ?_; clear hK K)
            (refine wpGrow_pure rfl (fun K hK => ?_); go_simp; (try rw [HK7.out]); refine hK.out _ ?_; clear hK K)
            refine wpGrow_eff _ rfl (fun wx2 he2 hcl => ?_) (fun _ K hK => ?_) rfl
            · clear hcl
              have hq : wx2.cell? ⟨b0, o + (k + 1), none⟩ = some (.int .u64 (y : Nat)) := (he2.cell hbz).trans HC2.out
              go_simp
              exact Below.refl _ _
            go_simp
            refine hK.out _ ?_
            clear hK K
            repeat (refine wpGrow_pure rfl (fun K hK => ?_); go_simp; refine hK.out _ ?_; clear hK K)
            refine wpGrow_eff _ rfl (fun wx2 he2 hcl => ?_) (fun _ K hK => ?_) rfl
            · clear hcl
              have hq : wx2.cell? ⟨b0, o + k, none⟩ = some (.int .u64 (x : Nat)) := (he2.cell hbz).trans HC1.out
              go_simp
              exact Below.refl _ _
            go_simp
            refine hK.out _ ?_
            clear hK K
            repeat (refine wpGrow_pure rfl (fun K hK => ?_); go_simp; refine hK.out _ ?_; clear hK K)
            refine wpGrow_eff _ rfl (fun wx2 he2 hcl => ?_) (fun _ K hK => ?_) rfl
            · clear hcl
              go_simp
              exact size_at wx2 x HXL.out Zx HZx.out
            go_simp
            refine hK.out _ ?_
            clear hK K
            iterate 2 (refine wpGrow_pure rfl (fun K hK => ?_); go_simp; refine hK.out _ ?_; clear hK K)
            (refine wpGrow_pure rfl (fun K hK => ?_); go_simp; rw [HK6.out]; refine hK.out _ ?_; clear hK K)
            (refine wpGrow_pure rfl (fun K hK => ?_); go_simp; (try rw [HK7.out]); refine hK.out _ ?_; clear hK K)
            refine wpGrow_eff _ rfl (fun wx2 he2 hcl => ?_) (fun _ K hK => ?_) rfl
            · clear hcl
              have hq : wx2.cell? ⟨b0, o + (k + 1), none⟩ = some (.int .u64 (y : Nat)) := (he2.cell hbz).trans HC2.out
              go_simp
              exact Below.refl _ _
            go_simp
            refine hK.out _ ?_
            clear hK K
            repeat (refine wpGrow_pure rfl (fun K hK => ?_); go_simp; refine hK.out _ ?_; clear hK K)
            refine wpGrow_eff _ rfl (fun wx2 he2 hcl => ?_) (fun _ K hK => ?_) rfl
            · clear hcl
              go_simp
              exact size_at wx2 y HYL.out Zy HZy.out
            go_simp
            refine hK.out _ ?_
            clear hK K
            repeat (refine wpGrow_pure rfl (fun K hK => ?_); go_simp; refine hK.out _ ?_; clear hK K)
            refine wpGrow_nil fun wx2 he2 hfin => ?_
            clear hfin
            have hbx2 : Below w.heap.size w wx2 := hbx.trans (he2.mono hbx.size)
            clear he2
            go_wp2_with fail
            go_roundw
            case rel => exact ⟨k + 1, by omega, by go_num, hbx2⟩
            case measure => simp [intOf]; omega
          · clear hZx hZy
            go_wp2_with fail
            refine wp_region_grow (fun k' => List.lookup k' [(3, .fix (.int .u64 (x : Nat))), (8, .fix (.int .u64 (y : Nat))), (14, .fix (.int .u64 (x : Nat))), (15, .fix (.int .i64 (Zx : Nat))), (20, .fix (.int .u64 (y : Nat))), (21, .fix (.int .i64 (Zy : Nat)))]) (by kernel_rfl) (by kernel_rfl) ?_
            repeat (refine wpGrow_pure rfl (fun K hK => ?_); go_simp; refine hK.out _ ?_; clear hK K)
            refine wpGrow_eff _ rfl (fun wx2 he2 hcl => ?_) (fun _ K hK => ?_) rfl
            · clear hcl
              have hq : wx2.cell? ⟨b0, o + k, none⟩ = some (.int .u64 (x : Nat)) := (he2.cell hbz).trans HC1.out
              go_simp
              exact Below.refl _ _
            go_simp
            refine hK.out _ ?_
            clear hK K
            iterate 2 (refine wpGrow_pure rfl (fun K hK => ?_); go_simp; refine hK.out _ ?_; clear hK K)
            (refine wpGrow_pure rfl (fun K hK => ?_); go_simp; rw [HK6.out]; refine hK.out _ ?_; clear hK K)
            (refine wpGrow_pure rfl (fun K hK => ?_); go_simp; (try rw [HK7.out]); refine hK.out _ ?_; clear hK K)
            refine wpGrow_eff _ rfl (fun wx2 he2 hcl => ?_) (fun _ K hK => ?_) rfl
            · clear hcl
              have hq : wx2.cell? ⟨b0, o + (k + 1), none⟩ = some (.int .u64 (y : Nat)) := (he2.cell hbz).trans HC2.out
              go_simp
              exact Below.refl _ _
            go_simp
            refine hK.out _ ?_
            clear hK K
            repeat (refine wpGrow_pure rfl (fun K hK => ?_); go_simp; refine hK.out _ ?_; clear hK K)
            refine wpGrow_skip (by go_simp; all_goals decide) (fun K hK => ?_)
            go_simp
            refine hK.out _ ?_
            clear hK K
            repeat (refine wpGrow_pure rfl (fun K hK => ?_); go_simp; refine hK.out _ ?_; clear hK K)
            refine wpGrow_skip (by go_simp; all_goals decide) (fun K hK => ?_)
            go_simp
            refine hK.out _ ?_
            clear hK K
            repeat (refine wpGrow_pure rfl (fun K hK => ?_); go_simp; refine hK.out _ ?_; clear hK K)
            refine wpGrow_skip (by go_simp; all_goals decide) (fun K hK => ?_)
            go_simp
            refine hK.out _ ?_
            clear hK K
            repeat (refine wpGrow_pure rfl (fun K hK => ?_); go_simp; refine hK.out _ ?_; clear hK K)
            refine wpGrow_skip (by go_simp; all_goals decide) (fun K hK => ?_)
            go_simp
            refine hK.out _ ?_
            clear hK K
            repeat (refine wpGrow_pure rfl (fun K hK => ?_); go_simp; refine hK.out _ ?_; clear hK K)
            refine wpGrow_nil fun wx2 he2 hfin => ?_
            clear hfin
            have hbx2 : Below w.heap.size w wx2 := hbx.trans (he2.mono hbx.size)
            clear he2
            go_wp2_with fail
            go_roundw
            case rel => exact ⟨k + 1, by omega, by go_num, hbx2⟩
            case measure => simp [intOf]; omega
        · have hd : decide ((k : Int) + 1 < (n : Int)) = false := by simp; omega
          go_wp2_with fail
          refine (varWorks_any _).mono ?_
          rintro e w11 ⟨rfl, hb2⟩
          replace hbx := hbx.trans (hb2.mono hbx.size)
          go_wp2_with fail
          go_ret
          exact ⟨rfl, hbx⟩
    · have HT := Lib.hid ht
      clear ht
      refine (take_at w8 A3 n3 cap3 bh _ (H3.out.below hb) hc3 (by omega) 0 (by omega) (by omega) _ _ _ HT.out).mono ?_
      rintro e w9 ⟨rfl, rfl⟩
      go_wp2_with fail
      refine wp_region_grow (fun k' => List.lookup k' [(13, .own w8.heap.size 5 1 0 []), (17, .fix (.bool true))]) (by kernel_rfl) (by kernel_rfl) ?_
      repeat (refine wpGrow_pure rfl (fun K hK => ?_); go_simp; refine hK.out _ ?_; clear hK K)
      refine wpGrow_skip (by go_simp; all_goals decide) (fun K hK => ?_)
      go_simp
      refine hK.out _ ?_
      clear hK K
      repeat (refine wpGrow_pure rfl (fun K hK => ?_); go_simp; refine hK.out _ ?_; clear hK K)
      refine wpGrow_skip (by go_simp; all_goals decide) (fun K hK => ?_)
      go_simp
      refine hK.out _ ?_
      clear hK K
      repeat (refine wpGrow_pure rfl (fun K hK => ?_); go_simp; refine hK.out _ ?_; clear hK K)
      refine wpGrow_nil fun wx he hfin => ?_
      clear hfin
      have hbx : Below w.heap.size w wx := hb.trans (he.mono hb.size)
      clear he
      go_wp2_with fail
      go_loopw [21] (fun i wr => ∃ k : Nat, k ≤ n ∧ i = .int .i64 k ∧ Below w.heap.size w wr) (fun i _ => n - (intOf i).toNat)
      case atStart => exact ⟨0, by omega, rfl, hbx⟩
      case round =>
        obtain ⟨k, hk, rfl, hbx⟩ := hrel
        by_cases hlt : k + 1 < n
        · have hd : decide ((k : Int) + 1 < (n : Int)) = true := by simp; omega
          obtain ⟨b0, o, hkl, hA, hbB, hc1⟩ := (H.out.below hbx).num (k := k) (by omega)
          subst hA
          obtain ⟨b0', o', hkl2, hA, _, hc2⟩ := (H.out.below hbx).num hlt
          injection hA with hA
          injection hA with h1 h2 _
          subst h1 h2
          obtain ⟨x, hx⟩ : ∃ x, x = l[k].toNat := ⟨_, rfl⟩
          obtain ⟨y, hy⟩ : ∃ y, y = l[k + 1].toNat := ⟨_, rfl⟩
          have hxl : x < 18446744073709551616 := by rw [hx]; exact l[k].toNat_lt
          have hyl : y < 18446744073709551616 := by rw [hy]; exact l[k + 1].toNat_lt
          rw [← hx] at hc1
          rw [← hy] at hc2
          have HXL := Lib.hid hxl
          have HYL := Lib.hid hyl
          have HC1 := Lib.hid hc1
          have HC2 := Lib.hid hc2
          have hbz : b0 < wr.heap.size := Nat.lt_of_lt_of_le hbB hbx.size
          have hk1 : (0 : Int) ≤ (k : Int) := by omega
          have hk2 : (k : Int) < (n : Int) := by omega
          have hk3 : (0 : Int) ≤ (k : Int) + 1 := by omega
          have hk4 : (k : Int) + 1 < (n : Int) := by omega
          have HK6 := Lib.hid (show IntKind.i64.wrap ((k : Int) + 1) = (k : Int) + 1 by rw [IntKind.wrap_i64]; omega)
          have HK7 := Lib.hid (show ((k : Int) + 1).toNat = k + 1 by omega)
          clear hx hy hxl hyl hc1 hc2
          obtain ⟨Zx, hZx⟩ : ∃ Z, (Var.put x).length = Z := ⟨_, rfl⟩
          obtain ⟨Zy, hZy⟩ : ∃ Z, (Var.put y).length = Z := ⟨_, rfl⟩
          have HZx := Lib.hid hZx
          have HZy := Lib.hid hZy
          have hz10 : Zx ≤ 10 := by rw [← hZx]; exact (Var.put_length x).2
          have hz11 : Zy ≤ 10 := by rw [← hZy]; exact (Var.put_length y).2
          by_cases hxy : x ≤ y
          · have hzz : ¬ Zy < Zx := by
              have := Var.put_le hxy
              omega
            clear hZx hZy
            go_wp2_with fail
            refine wp_region_grow (fun k' => List.lookup k' [(3, .fix (.int .u64 (x : Nat))), (8, .fix (.int .u64 (y : Nat))), (14, .fix (.int .u64 (x : Nat))), (15, .fix (.int .i64 (Zx : Nat))), (20, .fix (.int .u64 (y : Nat))), (21, .fix (.int .i64 (Zy : Nat)))]) (by kernel_rfl) (by kernel_rfl) ?_
            repeat (refine wpGrow_pure rfl (fun K hK => ?_); go_simp; refine hK.out _ ?_; clear hK K)
            refine wpGrow_eff _ rfl (fun wx2 he2 hcl => ?_) (fun _ K hK => ?_) rfl
            · clear hcl
              have hq : wx2.cell? ⟨b0, o + k, none⟩ = some (.int .u64 (x : Nat)) := (he2.cell hbz).trans HC1.out
              go_simp
              exact Below.refl _ _
            go_simp
            refine hK.out _ ?_
            clear hK K
            iterate 2 (refine wpGrow_pure rfl (fun K hK => ?_); go_simp; refine hK.out _ ?_; clear hK K)
            (refine wpGrow_pure rfl (fun K hK => ?_); go_simp; rw [HK6.out]; refine hK.out _ ?_; clear hK K)
            (refine wpGrow_pure rfl (fun K hK => ?_); go_simp; (try rw [HK7.out]); refine hK.out _ ?_; clear hK K)
            refine wpGrow_eff _ rfl (fun wx2 he2 hcl => ?_) (fun _ K hK => ?_) rfl
            · clear hcl
              have hq : wx2.cell? ⟨b0, o + (k + 1), none⟩ = some (.int .u64 (y : Nat)) := (he2.cell hbz).trans HC2.out
              go_simp
              exact Below.refl _ _
            go_simp
            refine hK.out _ ?_
            clear hK K
            repeat (refine wpGrow_pure rfl (fun K hK => ?_); go_simp; refine hK.out _ ?_; clear hK K)
            refine wpGrow_eff _ rfl (fun wx2 he2 hcl => ?_) (fun _ K hK => ?_) rfl
            · clear hcl
              have hq : wx2.cell? ⟨b0, o + k, none⟩ = some (.int .u64 (x : Nat)) := (he2.cell hbz).trans HC1.out
              go_simp
              exact Below.refl _ _
            go_simp
            refine hK.out _ ?_
            clear hK K
            repeat (refine wpGrow_pure rfl (fun K hK => ?_); go_simp; refine hK.out _ ?_; clear hK K)
            refine wpGrow_eff _ rfl (fun wx2 he2 hcl => ?_) (fun _ K hK => ?_) rfl
            · clear hcl
              go_simp
              exact size_at wx2 x HXL.out Zx HZx.out
            go_simp
            refine hK.out _ ?_
            clear hK K
            iterate 2 (refine wpGrow_pure rfl (fun K hK => ?_); go_simp; refine hK.out _ ?_; clear hK K)
            (refine wpGrow_pure rfl (fun K hK => ?_); go_simp; rw [HK6.out]; refine hK.out _ ?_; clear hK K)
            (refine wpGrow_pure rfl (fun K hK => ?_); go_simp; (try rw [HK7.out]); refine hK.out _ ?_; clear hK K)
            refine wpGrow_eff _ rfl (fun wx2 he2 hcl => ?_) (fun _ K hK => ?_) rfl
            · clear hcl
              have hq : wx2.cell? ⟨b0, o + (k + 1), none⟩ = some (.int .u64 (y : Nat)) := (he2.cell hbz).trans HC2.out
              go_simp
              exact Below.refl _ _
            go_simp
            refine hK.out _ ?_
            clear hK K
            repeat (refine wpGrow_pure rfl (fun K hK => ?_); go_simp; refine hK.out _ ?_; clear hK K)
            refine wpGrow_eff _ rfl (fun wx2 he2 hcl => ?_) (fun _ K hK => ?_) rfl
            · clear hcl
              go_simp
              exact size_at wx2 y HYL.out Zy HZy.out
            go_simp
            refine hK.out _ ?_
            clear hK K
            repeat (refine wpGrow_pure rfl (fun K hK => ?_); go_simp; refine hK.out _ ?_; clear hK K)
            refine wpGrow_nil fun wx2 he2 hfin => ?_
            clear hfin
            have hbx2 : Below w.heap.size w wx2 := hbx.trans (he2.mono hbx.size)
            clear he2
            go_wp2_with fail
            go_roundw
            case rel => exact ⟨k + 1, by omega, by go_num, hbx2⟩
            case measure => simp [intOf]; omega
          · clear hZx hZy
            go_wp2_with fail
            refine wp_region_grow (fun k' => List.lookup k' [(3, .fix (.int .u64 (x : Nat))), (8, .fix (.int .u64 (y : Nat))), (14, .fix (.int .u64 (x : Nat))), (15, .fix (.int .i64 (Zx : Nat))), (20, .fix (.int .u64 (y : Nat))), (21, .fix (.int .i64 (Zy : Nat)))]) (by kernel_rfl) (by kernel_rfl) ?_
            repeat (refine wpGrow_pure rfl (fun K hK => ?_); go_simp; refine hK.out _ ?_; clear hK K)
            refine wpGrow_eff _ rfl (fun wx2 he2 hcl => ?_) (fun _ K hK => ?_) rfl
            · clear hcl
              have hq : wx2.cell? ⟨b0, o + k, none⟩ = some (.int .u64 (x : Nat)) := (he2.cell hbz).trans HC1.out
              go_simp
              exact Below.refl _ _
            go_simp
            refine hK.out _ ?_
            clear hK K
            iterate 2 (refine wpGrow_pure rfl (fun K hK => ?_); go_simp; refine hK.out _ ?_; clear hK K)
            (refine wpGrow_pure rfl (fun K hK => ?_); go_simp; rw [HK6.out]; refine hK.out _ ?_; clear hK K)
            (refine wpGrow_pure rfl (fun K hK => ?_); go_simp; (try rw [HK7.out]); refine hK.out _ ?_; clear hK K)
            refine wpGrow_eff _ rfl (fun wx2 he2 hcl => ?_) (fun _ K hK => ?_) rfl
            · clear hcl
              have hq : wx2.cell? ⟨b0, o + (k + 1), none⟩ = some (.int .u64 (y : Nat)) := (he2.cell hbz).trans HC2.out
              go_simp
              exact Below.refl _ _
            go_simp
            refine hK.out _ ?_
            clear hK K
            repeat (refine wpGrow_pure rfl (fun K hK => ?_); go_simp; refine hK.out _ ?_; clear hK K)
            refine wpGrow_skip (by go_simp; all_goals decide) (fun K hK => ?_)
            go_simp
            refine hK.out _ ?_
            clear hK K
            repeat (refine wpGrow_pure rfl (fun K hK => ?_); go_simp; refine hK.out _ ?_; clear hK K)
            refine wpGrow_skip (by go_simp; all_goals decide) (fun K hK => ?_)
            go_simp
            refine hK.out _ ?_
            clear hK K
            repeat (refine wpGrow_pure rfl (fun K hK => ?_); go_simp; refine hK.out _ ?_; clear hK K)
            refine wpGrow_skip (by go_simp; all_goals decide) (fun K hK => ?_)
            go_simp
            refine hK.out _ ?_
            clear hK K
            repeat (refine wpGrow_pure rfl (fun K hK => ?_); go_simp; refine hK.out _ ?_; clear hK K)
            refine wpGrow_skip (by go_simp; all_goals decide) (fun K hK => ?_)
            go_simp
            refine hK.out _ ?_
            clear hK K
            repeat (refine wpGrow_pure rfl (fun K hK => ?_); go_simp; refine hK.out _ ?_; clear hK K)
            refine wpGrow_nil fun wx2 he2 hfin => ?_
            clear hfin
            have hbx2 : Below w.heap.size w wx2 := hbx.trans (he2.mono hbx.size)
            clear he2
            go_wp2_with fail
            go_roundw
            case rel => exact ⟨k + 1, by omega, by go_num, hbx2⟩
            case measure => simp [intOf]; omega
        · have hd : decide ((k : Int) + 1 < (n : Int)) = false := by simp; omega
          go_wp2_with fail
          refine (varWorks_any _).mono ?_
          rintro e w11 ⟨rfl, hb2⟩
          replace hbx := hbx.trans (hb2.mono hbx.size)
          go_wp2_with fail
          go_ret
          exact ⟨rfl, hbx⟩
    · have HT := Lib.hid ht
      clear ht
      refine (take_at w8 A3 n3 cap3 bh _ (H3.out.below hb) hc3 (by omega) 0 (by omega) (by omega) _ _ _ HT.out).mono ?_
      rintro e w9 ⟨rfl, rfl⟩
      go_wp2_with fail
      refine wp_region_grow (fun k' => List.lookup k' [(13, .own w8.heap.size 5 1 0 []), (17, .fix (.bool true))]) (by kernel_rfl) (by kernel_rfl) ?_
      repeat (refine wpGrow_pure rfl (fun K hK => ?_); go_simp; refine hK.out _ ?_; clear hK K)
      refine wpGrow_skip (by go_simp; all_goals decide) (fun K hK => ?_)
      go_simp
      refine hK.out _ ?_
      clear hK K
      repeat (refine wpGrow_pure rfl (fun K hK => ?_); go_simp; refine hK.out _ ?_; clear hK K)
      refine wpGrow_skip (by go_simp; all_goals decide) (fun K hK => ?_)
      go_simp
      refine hK.out _ ?_
      clear hK K
      repeat (refine wpGrow_pure rfl (fun K hK => ?_); go_simp; refine hK.out _ ?_; clear hK K)
      refine wpGrow_nil fun wx he hfin => ?_
      clear hfin
      have hbx : Below w.heap.size w wx := hb.trans (he.mono hb.size)
      clear he
      go_wp2_with fail
      go_loopw [21] (fun i wr => ∃ k : Nat, k ≤ n ∧ i = .int .i64 k ∧ Below w.heap.size w wr) (fun i _ => n - (intOf i).toNat)
      case atStart => exact ⟨0, by omega, rfl, hbx⟩
      case round =>
        obtain ⟨k, hk, rfl, hbx⟩ := hrel
        by_cases hlt : k + 1 < n
        · have hd : decide ((k : Int) + 1 < (n : Int)) = true := by simp; omega
          obtain ⟨b0, o, hkl, hA, hbB, hc1⟩ := (H.out.below hbx).num (k := k) (by omega)
          subst hA
          obtain ⟨b0', o', hkl2, hA, _, hc2⟩ := (H.out.below hbx).num hlt
          injection hA with hA
          injection hA with h1 h2 _
          subst h1 h2
          obtain ⟨x, hx⟩ : ∃ x, x = l[k].toNat := ⟨_, rfl⟩
          obtain ⟨y, hy⟩ : ∃ y, y = l[k + 1].toNat := ⟨_, rfl⟩
          have hxl : x < 18446744073709551616 := by rw [hx]; exact l[k].toNat_lt
          have hyl : y < 18446744073709551616 := by rw [hy]; exact l[k + 1].toNat_lt
          rw [← hx] at hc1
          rw [← hy] at hc2
          have HXL := Lib.hid hxl
          have HYL := Lib.hid hyl
          have HC1 := Lib.hid hc1
          have HC2 := Lib.hid hc2
          have hbz : b0 < wr.heap.size := Nat.lt_of_lt_of_le hbB hbx.size
          have hk1 : (0 : Int) ≤ (k : Int) := by omega
          have hk2 : (k : Int) < (n : Int) := by omega
          have hk3 : (0 : Int) ≤ (k : Int) + 1 := by omega
          have hk4 : (k : Int) + 1 < (n : Int) := by omega
          have HK6 := Lib.hid (show IntKind.i64.wrap ((k : Int) + 1) = (k : Int) + 1 by rw [IntKind.wrap_i64]; omega)
          have HK7 := Lib.hid (show ((k : Int) + 1).toNat = k + 1 by omega)
          clear hx hy hxl hyl hc1 hc2
          obtain ⟨Zx, hZx⟩ : ∃ Z, (Var.put x).length = Z := ⟨_, rfl⟩
          obtain ⟨Zy, hZy⟩ : ∃ Z, (Var.put y).length = Z := ⟨_, rfl⟩
          have HZx := Lib.hid hZx
          have HZy := Lib.hid hZy
          have hz10 : Zx ≤ 10 := by rw [← hZx]; exact (Var.put_length x).2
          have hz11 : Zy ≤ 10 := by rw [← hZy]; exact (Var.put_length y).2
          by_cases hxy : x ≤ y
          · have hzz : ¬ Zy < Zx := by
              have := Var.put_le hxy
              omega
            clear hZx hZy
            go_wp2_with fail
            refine wp_region_grow (fun k' => List.lookup k' [(3, .fix (.int .u64 (x : Nat))), (8, .fix (.int .u64 (y : Nat))), (14, .fix (.int .u64 (x : Nat))), (15, .fix (.int .i64 (Zx : Nat))), (20, .fix (.int .u64 (y : Nat))), (21, .fix (.int .i64 (Zy : Nat)))]) (by kernel_rfl) (by kernel_rfl) ?_
            repeat (refine wpGrow_pure rfl (fun K hK => ?_); go_simp; refine hK.out _ ?_; clear hK K)
            refine wpGrow_eff _ rfl (fun wx2 he2 hcl => ?_) (fun _ K hK => ?_) rfl
            · clear hcl
              have hq : wx2.cell? ⟨b0, o + k, none⟩ = some (.int .u64 (x : Nat)) := (he2.cell hbz).trans HC1.out
              go_simp
              exact Below.refl _ _
            go_simp
            refine hK.out _ ?_
            clear hK K
            iterate 2 (refine wpGrow_pure rfl (fun K hK => ?_); go_simp; refine hK.out _ ?_; clear hK K)
            (refine wpGrow_pure rfl (fun K hK => ?_); go_simp; rw [HK6.out]; refine hK.out _ ?_; clear hK K)
            (refine wpGrow_pure rfl (fun K hK => ?_); go_simp; (try rw [HK7.out]); refine hK.out _ ?_; clear hK K)
            refine wpGrow_eff _ rfl (fun wx2 he2 hcl => ?_) (fun _ K hK => ?_) rfl
            · clear hcl
              have hq : wx2.cell? ⟨b0, o + (k + 1), none⟩ = some (.int .u64 (y : Nat)) := (he2.cell hbz).trans HC2.out
              go_simp
              exact Below.refl _ _
            go_simp
            refine hK.out _ ?_
            clear hK K
            repeat (refine wpGrow_pure rfl (fun K hK => ?_); go_simp; refine hK.out _ ?_; clear hK K)
            refine wpGrow_eff _ rfl (fun wx2 he2 hcl => ?_) (fun _ K hK => ?_) rfl
            · clear hcl
              have hq : wx2.cell? ⟨b0, o + k, none⟩ = some (.int .u64 (x : Nat)) := (he2.cell hbz).trans HC1.out
              go_simp
              exact Below.refl _ _
            go_simp
            refine hK.out _ ?_
            clear hK K
            repeat (refine wpGrow_pure rfl (fun K hK => ?_); go_simp; refine hK.out _ ?_; clear hK K)
            refine wpGrow_eff _ rfl (fun wx2 he2 hcl => ?_) (fun _ K hK => ?_) rfl
            · clear hcl
              go_simp
              exact size_at wx2 x HXL.out Zx HZx.out
            go_simp
            refine hK.out _ ?_
            clear hK K
            iterate 2 (refine wpGrow_pure rfl (fun K hK => ?_); go_simp; refine hK.out _ ?_; clear hK K)
            (refine wpGrow_pure rfl (fun K hK => ?_); go_simp; rw [HK6.out]; refine hK.out _ ?_; clear hK K)
            (refine wpGrow_pure rfl (fun K hK => ?_); go_simp; (try rw [HK7.out]); refine hK.out _ ?_; clear hK K)
            refine wpGrow_eff _ rfl (fun wx2 he2 hcl => ?_) (fun _ K hK => ?_) rfl
            · clear hcl
              have hq : wx2.cell? ⟨b0, o + (k + 1), none⟩ = some (.int .u64 (y : Nat)) := (he2.cell hbz).trans HC2.out
              go_simp
              exact Below.refl _ _
            go_simp
            refine hK.out _ ?_
            clear hK K
            repeat (refine wpGrow_pure rfl (fun K hK => ?_); go_simp; refine hK.out _ ?_; clear hK K)
            refine wpGrow_eff _ rfl (fun wx2 he2 hcl => ?_) (fun _ K hK => ?_) rfl
            · clear hcl
              go_simp
              exact size_at wx2 y HYL.out Zy HZy.out
            go_simp
            refine hK.out _ ?_
            clear hK K
            repeat (refine wpGrow_pure rfl (fun K hK => ?_); go_simp; refine hK.out _ ?_; clear hK K)
            refine wpGrow_nil fun wx2 he2 hfin => ?_
            clear hfin
            have hbx2 : Below w.heap.size w wx2 := hbx.trans (he2.mono hbx.size)
            clear he2
            go_wp2_with fail
            go_roundw
            case rel => exact ⟨k + 1, by omega, by go_num, hbx2⟩
            case measure => simp [intOf]; omega
          · clear hZx hZy
            go_wp2_with fail
            refine wp_region_grow (fun k' => List.lookup k' [(3, .fix (.int .u64 (x : Nat))), (8, .fix (.int .u64 (y : Nat))), (14, .fix (.int .u64 (x : Nat))), (15, .fix (.int .i64 (Zx : Nat))), (20, .fix (.int .u64 (y : Nat))), (21, .fix (.int .i64 (Zy : Nat)))]) (by kernel_rfl) (by kernel_rfl) ?_
            repeat (refine wpGrow_pure rfl (fun K hK => ?_); go_simp; refine hK.out _ ?_; clear hK K)
            refine wpGrow_eff _ rfl (fun wx2 he2 hcl => ?_) (fun _ K hK => ?_) rfl
            · clear hcl
              have hq : wx2.cell? ⟨b0, o + k, none⟩ = some (.int .u64 (x : Nat)) := (he2.cell hbz).trans HC1.out
              go_simp
              exact Below.refl _ _
            go_simp
            refine hK.out _ ?_
            clear hK K
            iterate 2 (refine wpGrow_pure rfl (fun K hK => ?_); go_simp; refine hK.out _ ?_; clear hK K)
            (refine wpGrow_pure rfl (fun K hK => ?_); go_simp; rw [HK6.out]; refine hK.out _ ?_; clear hK K)
            (refine wpGrow_pure rfl (fun K hK => ?_); go_simp; (try rw [HK7.out]); refine hK.out _ ?_; clear hK K)
            refine wpGrow_eff _ rfl (fun wx2 he2 hcl => ?_) (fun _ K hK => ?_) rfl
            · clear hcl
              have hq : wx2.cell? ⟨b0, o + (k + 1), none⟩ = some (.int .u64 (y : Nat)) := (he2.cell hbz).trans HC2.out
              go_simp
              exact Below.refl _ _
            go_simp
            refine hK.out _ ?_
            clear hK K
            repeat (refine wpGrow_pure rfl (fun K hK => ?_); go_simp; refine hK.out _ ?_; clear hK K)
            refine wpGrow_skip (by go_simp; all_goals decide) (fun K hK => ?_)
            go_simp
            refine hK.out _ ?_
            clear hK K
            repeat (refine wpGrow_pure rfl (fun K hK => ?_); go_simp; refine hK.out _ ?_; clear hK K)
            refine wpGrow_skip (by go_simp; all_goals decide) (fun K hK => ?_)
            go_simp
            refine hK.out _ ?_
            clear hK K
            repeat (refine wpGrow_pure rfl (fun K hK => ?_); go_simp; refine hK.out _ ?_; clear hK K)
            refine wpGrow_skip (by go_simp; all_goals decide) (fun K hK => ?_)
            go_simp
            refine hK.out _ ?_
            clear hK K
            repeat (refine wpGrow_pure rfl (fun K hK => ?_); go_simp; refine hK.out _ ?_; clear hK K)
            refine wpGrow_skip (by go_simp; all_goals decide) (fun K hK => ?_)
            go_simp
            refine hK.out _ ?_
            clear hK K
            repeat (refine wpGrow_pure rfl (fun K hK => ?_); go_simp; refine hK.out _ ?_; clear hK K)
            refine wpGrow_nil fun wx2 he2 hfin => ?_
            clear hfin
            have hbx2 : Below w.heap.size w wx2 := hbx.trans (he2.mono hbx.size)
            clear he2
            go_wp2_with fail
            go_roundw
            case rel => exact ⟨k + 1, by omega, by go_num, hbx2⟩
            case measure => simp [intOf]; omega
        · have hd : decide ((k : Int) + 1 < (n : Int)) = false := by simp; omega
          go_wp2_with fail
          refine (varWorks_any _).mono ?_
          rintro e w11 ⟨rfl, hb2⟩
          replace hbx := hbx.trans (hb2.mono hbx.size)
          go_wp2_with fail
          go_ret
          exact ⟨rfl, hbx⟩
end Go.Proofs.Ytfiabgpegdkldaa
