/-
  The walk of CrcXors: it returns true.
-/
import Derived.Test.YtfiabgpegdkldaaCrcWorks
import Derived.Test.YtfiabgpegdkldaaGrow
import Derived.BigRegion
namespace Go.Proofs.Ytfiabgpegdkldaa
open Go.RowKit
attribute [local go_sem] Oper.growAt Oper.growUpon GSpec.fix GSpec.row GSpec.wh GSpec.own
/-- What stands behind k rounds. -/
def xorsTo (l m : List UInt8) (n k : Nat) : List UInt8 := (Crc.xors l m).take k ++ List.replicate (n - k) 0
theorem xorsTo_set (l m : List UInt8) {n k : Nat} (hl : l.length = n) (hm : m.length = n) (hk : k < n) (hkl : k < l.length) (hkm : k < m.length) : (xorsTo l m n k).set k (l[k] ^^^ m[k]) = xorsTo l m n (k + 1) := by
  have hx : (Crc.xors l m).length = n := by rw [Crc.xors_length l m (by omega)]; exact hl
  have hg : (Crc.xors l m)[k]'(by omega) = l[k] ^^^ m[k] := by unfold Crc.xors; rw [List.getElem_zipWith]
  unfold xorsTo
  have h1 : ((Crc.xors l m).take k).length = k := by rw [List.length_take]; omega
  have h2 : n - k = (n - (k + 1)) + 1 := by omega
  rw [List.set_append_right _ _ (by omega), h1, Nat.sub_self, h2, List.replicate_succ, List.set_cons_zero, List.take_succ_eq_append_getElem (by omega), hg, List.append_assoc, List.singleton_append]
theorem xorsTo_length (l m : List UInt8) {n k : Nat} (hl : l.length = n) (hm : m.length = n) (hk : k ≤ n) : (xorsTo l m n k).length = n := by
  unfold xorsTo
  rw [List.length_append, List.length_take, List.length_replicate, Crc.xors_length _ _ (by omega), hl]
  omega
theorem makeB : (Try.prog.info? 5).map (fun i => (i.zero, i.size, i.bytes)) = some (some (.int .u8 0), 1, 1) := by kernel_rfl
set_option maxHeartbeats 1000000 in
set_option maxRecDepth 100000 in
theorem crcXors_any (w : World) (A : Option Addr) (la ca : Nat) (xa : List UInt8) (B : Option Addr) (lb cb : Nat) (xb : List UInt8) (ha : Rd w w.heap.size 1 A la (byts xa)) (hca : la ≤ ca) (hma : ca ≤ maxLen)
    (hb : Rd w w.heap.size 1 B lb (byts xb)) (hcb : lb ≤ cb) (hmb : cb ≤ maxLen) :
    Calls Try.prog 4 #[.slice A la ca, .slice B lb cb] w fun e w' => e = .returned (.bool true) ∧ Below w.heap.size w w' := by
  obtain ⟨n, hn, hna, hnb⟩ : ∃ n : Nat, (if lb < la then (lb : Int) else (la : Int)) = n ∧ n ≤ la ∧ n ≤ lb := ⟨min la lb, by split <;> omega, by omega, by omega⟩
  have HMA := Lib.hid hma
  have HMB := Lib.hid hmb
  have HA := Lib.hid ha
  have HB := Lib.hid hb
  clear ha hb
  unfold maxLen at hma hmb
  by_cases hbig : 300 < n
  · go_enter Try.func4, Try.ntmps4
    go_wp2_with fail
    refine (crcWorks_any _).mono ?_
    rintro e w1 ⟨rfl, hb1⟩
    go_wp2_with fail
    go_ret
    exact ⟨rfl, hb1⟩
  · have hmk := fun w => run_make_bytes (P := Try.prog) Try.underlying22 makeB .i64 .i64 n (by omega) w
    have hxl : (xa.take n).length = n := by rw [List.length_take, HA.out.blen]; omega
    have hyl : (xb.take n).length = n := by rw [List.length_take, HB.out.blen]; omega
    obtain ⟨xs, hxs⟩ : ∃ xs, xs = xa.take n := ⟨_, rfl⟩
    obtain ⟨ys, hys⟩ : ∃ ys, ys = xb.take n := ⟨_, rfl⟩
    rw [← hxs] at hxl
    rw [← hys] at hyl
    have HX := Lib.hid (show Rd w w.heap.size 1 A n (byts xs) from hxs ▸ HA.out.front hna)
    have HY := Lib.hid (show Rd w w.heap.size 1 B n (byts ys) from hys ▸ HB.out.front hnb)
    have HXL := Lib.hid hxl
    have HYL := Lib.hid hyl
    clear hxs hys hxl hyl
    go_enter Try.func4, Try.ntmps4
    go_wp2_with fail
    clear hmk
    go_loopw [7] (fun i wr => ∃ (k : Nat) (cur : Array Value), k ≤ n ∧ i = .int .i64 k ∧ Whole wr w.heap.size 5 cur ∧ cur.toList.take n = byts (xorsTo xs ys n k) ∧ Below w.heap.size w wr) (fun i _ => n - (intOf i).toNat)
    case atStart =>
      refine ⟨0, zrow n, by omega, rfl, Whole.new w _ _, ?_, (Below.refl _ _).alloc (Nat.le_refl _) _⟩
      rw [zrow_byts, List.take_of_length_le (by simp [byts])]
      unfold xorsTo
      simp
    case round =>
      obtain ⟨k, cur, hk, rfl, hw, ht, hb⟩ := hrel
      by_cases hlt : k < n
      · obtain ⟨b1, o1, hkx, rfl, hb1, hc1⟩ := (HX.out.below hb).byte hlt
        obtain ⟨b2, o2, hky, rfl, hb2, hc2⟩ := (HY.out.below hb).byte hlt
        obtain ⟨x, hx⟩ : ∃ x, x = xs[k].toNat := ⟨_, rfl⟩
        obtain ⟨y, hy⟩ : ∃ y, y = ys[k].toNat := ⟨_, rfl⟩
        rw [← hx] at hc1
        rw [← hy] at hc2
        have he : bits BinOp.xor IntKind.u8 (↑x) (↑y) = (((xs[k] ^^^ ys[k]).toNat : Nat) : Int) := by
          rw [hx, hy, u8_xor_nat _ _ (Crc.byte_lt _) (Crc.byte_lt _), UInt8.toNat_xor]
        obtain ⟨cur2, hw2, ht2, hb3⟩ := put_byte (j := k) (xs[k] ^^^ ys[k]) hw ht (Nat.le_refl w.heap.size)
        rw [xorsTo_set xs ys HXL.out HYL.out hlt hkx hky] at ht2
        have hu := hw.byte ht hlt (by rw [xorsTo_length xs ys HXL.out HYL.out hk]; exact hlt)
        generalize (xorsTo xs ys n k)[k]'_ = u at hu
        have hfr := hw.frozen k
        have HE := Lib.hid he
        have HW2 := Lib.hid hw2
        have HT2 := Lib.hid ht2
        have hB := hb.trans hb3
        clear hw ht he hw2 ht2 hb hb3 hx hy
        have hd : decide ((k : Int) < (n : Int)) = true := by simp; omega
        go_wp2_with fail
        go_region
        rw [HE.out]
        generalize wr.setCell ⟨w.heap.size, k, none⟩ (.int .u8 ((xs[k] ^^^ ys[k]).toNat : Int)) = w2' at *
        go_wp2_with fail
        go_roundw
        case rel => exact ⟨k + 1, cur2, by omega, by go_num, HW2.out, HT2.out, hB.drew⟩
        case measure => simp [intOf]; omega
      · obtain rfl : k = n := by omega
        rw [show xorsTo xs ys k k = Crc.xors xs ys from by unfold xorsTo; rw [Nat.sub_self, List.replicate_zero, List.append_nil, List.take_of_length_le (by rw [Crc.xors_length _ _ (by rw [HXL.out, HYL.out]), HXL.out]; omega)]] at ht
        obtain ⟨N1, hN1⟩ : ∃ N, Crc.update 0 (Crc.xors xs ys) = N := ⟨_, rfl⟩
        obtain ⟨NA, hNA⟩ : ∃ N, Crc.update 0 xs = N := ⟨_, rfl⟩
        obtain ⟨NB, hNB⟩ : ∃ N, Crc.update 0 ys = N := ⟨_, rfl⟩
        obtain ⟨NZ, hNZ⟩ : ∃ N, Crc.update 0 (List.replicate k 0) = N := ⟨_, rfl⟩
        have q1 : bits BinOp.xor IntKind.u32 (↑NA) (↑NB) = ((NA ^^^ NB : Nat) : Int) := u32_xor_nat _ _ (by rw [← hNA]; exact Crc.update_lt (by omega) _) (by rw [← hNB]; exact Crc.update_lt (by omega) _)
        have q2 : bits BinOp.xor IntKind.u32 ((NA ^^^ NB : Nat) : Int) (↑NZ) = ((N1 : Nat) : Int) := by
          rw [u32_xor_nat _ _ (Crc.xor_lt (by rw [← hNA]; exact Crc.update_lt (by omega) _) (by rw [← hNB]; exact Crc.update_lt (by omega) _)) (by rw [← hNZ]; exact Crc.update_lt (by omega) _)]
          rw [← hN1, Crc.sum_xors xs ys (by rw [HXL.out, HYL.out]), hNA, hNB, HXL.out, hNZ]
        have hR : Rd wr wr.heap.size 1 (some ⟨w.heap.size, 0, none⟩) k (byts (Crc.xors xs ys)) := by
          rw [← ht]
          refine Rd.of_heap hw hw.lt ?_
          have h1 : (cur.toList.take k).length = k := by rw [ht, byts_length, Crc.xors_length _ _ (by rw [HXL.out, HYL.out]), HXL.out]
          rw [List.length_take] at h1
          simp at h1
          omega
        have HN1 := Lib.hid hN1
        have HNA := Lib.hid hNA
        have HNB := Lib.hid hNB
        have HNZ := Lib.hid hNZ
        have HR := Lib.hid hR
        have HRX := Lib.hid ((HX.out.below hb).more hb.size)
        have HRY := Lib.hid ((HY.out.below hb).more hb.size)
        have hmk := fun w => run_make_bytes (P := Try.prog) Try.underlying22 makeB .i64 .i64 k (by omega) w
        have hka : k ≤ ca := by omega
        have hkb : k ≤ cb := by omega
        clear hN1 hNA hNB hNZ hR hw ht
        go_wp2_with fail
        refine wp_region_grow (fun k' => List.lookup k' [(1, .row 22 1), (2, .fix (.int .u32 N1)), (6, .row 22 1), (7, .fix (.int .u32 NA)), (11, .row 22 1), (12, .fix (.int .u32 NB)), (15, .wh 5 k (zrow k)), (16, .row 22 1),
          (17, .fix (.int .u32 NZ)), (21, .fix (.bool true))]) (by kernel_rfl) (by kernel_rfl) ?_
        repeat (refine wpGrow_pure rfl (fun K hK => ?_); go_simp; refine hK.out _ ?_; clear hK K)
        refine wpGrow_eff _ rfl (fun wx he hcl => ?_) (fun g1 K hK => ?_) rfl
        · go_simp
          exact ⟨Whole.new _ _ _, (Below.refl _ _).alloc (Nat.le_refl _) _⟩
        go_simp
        refine hK.out _ ?_
        clear hK K
        refine wpGrow_eff _ rfl (fun wx he hcl => ?_) (fun _ K hK => ?_) rfl
        · have hz : wr.heap.size ≤ wx.heap.size := he.size
          go_simp
          have hw : Whole wx g1 22 #[.slice (some ⟨w.heap.size, 0, none⟩) k k] := hcl.out 1 rfl
          exact crcSum_at wx g1 _ _ k k _ hw ((HR.out.below he).more hz) (Nat.le_refl _) (by unfold maxLen; omega) N1 HN1.out
        go_simp
        refine hK.out _ ?_
        clear hK K
        repeat (refine wpGrow_pure rfl (fun K hK => ?_); go_simp; refine hK.out _ ?_; clear hK K)
        refine wpGrow_eff _ rfl (fun wx he hcl => ?_) (fun g2 K hK => ?_) rfl
        · go_simp
          exact ⟨Whole.new _ _ _, (Below.refl _ _).alloc (Nat.le_refl _) _⟩
        go_simp
        refine hK.out _ ?_
        clear hK K
        refine wpGrow_eff _ rfl (fun wx he hcl => ?_) (fun _ K hK => ?_) rfl
        · have hz : wr.heap.size ≤ wx.heap.size := he.size
          go_simp
          have hw : Whole wx g2 22 #[.slice A k ca] := hcl.out 6 rfl
          exact crcSum_at wx g2 _ _ k ca _ hw ((HRX.out.below he).more hz) hka HMA.out NA HNA.out
        go_simp
        refine hK.out _ ?_
        clear hK K
        repeat (refine wpGrow_pure rfl (fun K hK => ?_); go_simp; refine hK.out _ ?_; clear hK K)
        refine wpGrow_eff _ rfl (fun wx he hcl => ?_) (fun g3 K hK => ?_) rfl
        · go_simp
          exact ⟨Whole.new _ _ _, (Below.refl _ _).alloc (Nat.le_refl _) _⟩
        go_simp
        refine hK.out _ ?_
        clear hK K
        refine wpGrow_eff _ rfl (fun wx he hcl => ?_) (fun _ K hK => ?_) rfl
        · have hz : wr.heap.size ≤ wx.heap.size := he.size
          go_simp
          have hw : Whole wx g3 22 #[.slice B k cb] := hcl.out 11 rfl
          exact crcSum_at wx g3 _ _ k cb _ hw ((HRY.out.below he).more hz) hkb HMB.out NB HNB.out
        go_simp
        refine hK.out _ ?_
        clear hK K
        repeat (refine wpGrow_pure rfl (fun K hK => ?_); go_simp; refine hK.out _ ?_; clear hK K)
        refine wpGrow_eff _ rfl (fun wx he hcl => ?_) (fun g4 K hK => ?_) rfl
        · go_simp
          exact ⟨Whole.new _ _ _, (Below.refl _ _).alloc (Nat.le_refl _) _⟩
        go_simp
        refine hK.out _ ?_
        clear hK K
        refine wpGrow_eff _ rfl (fun wx he hcl => ?_) (fun g5 K hK => ?_) rfl
        · go_simp
          exact ⟨Whole.new _ _ _, (Below.refl _ _).alloc (Nat.le_refl _) _⟩
        go_simp
        refine hK.out _ ?_
        clear hK K
        refine wpGrow_eff _ rfl (fun wx he hcl => ?_) (fun _ K hK => ?_) rfl
        · have hz : wr.heap.size ≤ wx.heap.size := he.size
          go_simp
          have hw : Whole wx g5 22 #[.slice (some ⟨g4, 0, none⟩) k k] := hcl.out 16 rfl
          have hw4 : Whole wx g4 5 (zrow k) := hcl.out 15 rfl
          have hz4 : Rd wx wx.heap.size 1 (some ⟨g4, 0, none⟩) k (byts (List.replicate k 0)) := by
            have := Rd.of_heap hw4 hw4.lt (n := k) (by rw [zrow_size]; exact Nat.le_refl _)
            rw [zrow_byts, List.take_of_length_le (by simp [byts])] at this
            exact this
          exact crcSum_at wx g5 _ _ k k _ hw hz4 (Nat.le_refl _) (by unfold maxLen; omega) NZ HNZ.out
        go_simp
        refine hK.out _ ?_
        clear hK K
        repeat (refine wpGrow_pure rfl (fun K hK => ?_); go_simp; refine hK.out _ ?_; clear hK K)
        refine wpGrow_eff _ rfl (fun wx he hcl => ?_) (fun _ K hK => ?_) rfl
        · have hz : wr.heap.size ≤ wx.heap.size := he.size
          go_simp
          exact crcWorks_any wx
        go_simp
        refine hK.out _ ?_
        clear hK K
        repeat (refine wpGrow_pure rfl (fun K hK => ?_); go_simp; refine hK.out _ ?_; clear hK K)
        refine wpGrow_nil fun wx he hfin => ?_
        clear hfin
        go_wp2_with fail
        all_goals (go_ret; exact ⟨rfl, hb.trans (he.mono hb.size)⟩)
end Go.Proofs.Ytfiabgpegdkldaa
