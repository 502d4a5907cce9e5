/-
  The walk of CrcParts: it returns true.
-/
import Derived.Test.YtfiabgpegdkldaaCrcWorks
import Derived.Test.YtfiabgpegdkldaaGrow
import Derived.Deep.DrawnRows
namespace Go.Proofs.Ytfiabgpegdkldaa
open Go.RowKit
attribute [local go_sem] Oper.growAt Oper.growUpon GSpec.fix GSpec.row GSpec.wh GSpec.own
set_option maxHeartbeats 1000000 in
set_option maxRecDepth 100000 in
theorem crcParts_any (w : World) (A : Option Addr) (n cap : Nat) (xs : List UInt8) (i k : Nat) (hi : i < 65536) (hk : k < 65536) (h : Rd w w.heap.size 1 A n (byts xs)) (hc : n ≤ cap) (hm : cap ≤ maxLen) :
    Calls Try.prog 5 #[.slice A n cap, .int .u16 (i : Nat), .int .u16 (k : Nat)] w fun e w' => e = .returned (.bool true) ∧ Below w.heap.size w w' := by
  have hl := h.blen
  by_cases hbig : 400 < n
  · unfold maxLen at hm
    clear hl
    go_enter Try.func5, Try.ntmps5
    go_wp2_with fail
    refine (crcWorks_any _).mono ?_
    rintro e w1 ⟨rfl, hb1⟩
    go_wp2_with fail
    go_ret
    exact ⟨rfl, hb1⟩
  · obtain ⟨p, hp, hp2⟩ : ∃ p : Nat, ((i : Int) % ((n : Int) + 1)) = p ∧ p ≤ n := ⟨i % (n + 1), by simp, by have := Nat.mod_lt i (show 0 < n + 1 by omega); omega⟩
    obtain ⟨q, hq, hq2⟩ : ∃ q : Nat, (p : Int) + ((k : Int) % ((n : Int) - p + 1)) = q ∧ p ≤ q ∧ q ≤ n := ⟨p + k % (n - p + 1), by
      have : (n : Int) - p + 1 = ((n - p + 1 : Nat) : Int) := by omega
      rw [this]; simp, by omega, by have := Nat.mod_lt k (show 0 < n - p + 1 by omega); omega⟩
    have HC := Lib.hid hm
    have HL := Lib.hid hl
    clear hl
    unfold maxLen at hm
    go_enter Try.func5, Try.ntmps5
    go_wp2_with fail
    have hpc : p ≤ cap := by omega
    obtain ⟨hpq, hqn⟩ := hq2
    have hqc : q ≤ cap := by omega
    obtain ⟨N, hN⟩ : ∃ N, Crc.update 0 xs = N := ⟨_, rfl⟩
    refine (crcSum_one w A n cap xs w.heap.size (Nat.le_refl _) h hc HC.out N hN _ rfl).mono ?_
    rintro e w1 ⟨rfl, hb1⟩
    have HN := Lib.hid hN
    clear hN
    obtain ⟨N1, hN1⟩ : ∃ N1, Crc.update 0 (xs.take p) = N1 := ⟨_, rfl⟩
    obtain ⟨N2, hN2⟩ : ∃ N2, Crc.update 0 (xs.take q) = N2 := ⟨_, rfl⟩
    have HN1 := Lib.hid hN1
    have HN2 := Lib.hid hN2
    have H1 := Lib.hid (h.below hb1)
    rw [hp]
    clear hN1 hN2 h hp hq
    go_wp2_with fail
    refine wp_region_grow (fun k => List.lookup k [(10, .row 22 3), (11, .fix (.int .u32 N)), (18, .row 22 1), (19, .fix (.int .u32 N1)), (23, .fix (.int .u32 N)), (31, .fix (.int .u32 N1)), (36, .fix (.int .u32 N2)), (40, .fix (.int .u32 N)),
      (46, .row 5 0), (47, .row 22 3), (48, .fix (.int .u32 N)), (53, .fix (.bool true))]) (by kernel_rfl) (by kernel_rfl) ?_
    repeat (refine wpGrow_pure rfl (fun K hK => ?_); go_simp; refine hK.out _ ?_; clear hK K)
    refine wpGrow_eff _ rfl (fun wx he hcl => ?_) (fun g1 K hK => ?_) rfl
    · go_simp
      exact ⟨Whole.new _ _ _, (Below.refl _ _).alloc (Nat.le_refl _) _⟩
    go_simp
    refine hK.out _ ?_
    clear hK K
    refine wpGrow_eff _ rfl (fun wx he hcl => ?_) (fun _ K hK => ?_) rfl
    · have hr := H1.out.below (he.mono hb1.size)
      have hz : w.heap.size ≤ wx.heap.size := Nat.le_trans hb1.size he.size
      have HR := Lib.hid hr
      clear hr
      go_simp
      have hw : Whole wx g1 22 #[.slice A p cap, .slice (if cap = p then A else Option.map (fun x => x.add p) A) (q - p) (cap - p), .slice (if cap = q then A else Option.map (fun x => x.add q) A) (n - q) (cap - q)] := hcl.out 10 rfl
      have hM := HC.out
      refine (crcSum_any wx _ 3 3 [xs.take p, (xs.take q).drop p, xs.drop q] wx.heap.size (Nat.le_refl _) (RdRows.of3 hw hw.lt ⟨hpc, hM⟩ ((HR.out.front hp2).more hz) ⟨by omega, by omega⟩ ((HR.out.mid hpq hqn hc).more hz) ⟨by omega, by omega⟩ ((HR.out.back hqn hc).more hz)) (by unfold maxLen; omega)).mono fun e w' ⟨h1, h2⟩ => ⟨?_, h2⟩
      rw [h1, ← HN.out]
      have e3 : [xs.take p, (xs.take q).drop p, xs.drop q].flatten = xs := by
        simp only [List.flatten_cons, List.flatten_nil, List.append_nil]
        have e4 : xs.take p = (xs.take q).take p := by rw [List.take_take, Nat.min_eq_left hpq]
        rw [e4, ← List.append_assoc, List.take_append_drop, List.take_append_drop]
      rw [e3]
    go_simp
    refine hK.out _ ?_
    clear hK K
    repeat (refine wpGrow_pure rfl (fun K hK => ?_); go_simp; refine hK.out _ ?_; clear hK K)
    refine wpGrow_eff _ rfl (fun wx he hcl => ?_) (fun g2 K hK => ?_) rfl
    · go_simp
      exact ⟨Whole.new _ _ _, (Below.refl _ _).alloc (Nat.le_refl _) _⟩
    go_simp
    refine hK.out _ ?_
    clear hK K
    refine wpGrow_eff _ rfl (fun wx he hcl => ?_) (fun _ K hK => ?_) rfl
    · have hr := H1.out.below (he.mono hb1.size)
      have hz : w.heap.size ≤ wx.heap.size := Nat.le_trans hb1.size he.size
      have HR := Lib.hid hr
      clear hr
      go_simp
      have hw : Whole wx g2 22 #[.slice A p cap] := hcl.out 18 rfl
      exact crcSum_at wx g2 _ A p cap (xs.take p) hw ((HR.out.front hp2).more hz) hpc HC.out N1 HN1.out
    go_simp
    refine hK.out _ ?_
    clear hK K
    repeat (refine wpGrow_pure rfl (fun K hK => ?_); go_simp; refine hK.out _ ?_; clear hK K)
    refine wpGrow_eff _ rfl (fun wx he hcl => ?_) (fun _ K hK => ?_) rfl
    · have hr := H1.out.below (he.mono hb1.size)
      have hz : w.heap.size ≤ wx.heap.size := Nat.le_trans hb1.size he.size
      have HR := Lib.hid hr
      clear hr
      go_simp
      refine (crcUpdate_any wx N1 (by rw [← HN1.out]; exact Crc.update_lt (by omega) _) _ _ _ (xs.drop p) w.heap.size hz (HR.out.back hp2 hc) (by have := HC.out; omega)).mono fun e w' ⟨h1, h2⟩ => ⟨?_, h2⟩
      rw [h1, ← HN.out, ← HN1.out, Crc.update_append, List.take_append_drop]
    go_simp
    refine hK.out _ ?_
    clear hK K
    repeat (refine wpGrow_pure rfl (fun K hK => ?_); go_simp; refine hK.out _ ?_; clear hK K)
    refine wpGrow_eff _ rfl (fun wx he hcl => ?_) (fun _ K hK => ?_) rfl
    · have hr := H1.out.below (he.mono hb1.size)
      have hz : w.heap.size ≤ wx.heap.size := Nat.le_trans hb1.size he.size
      have HR := Lib.hid hr
      clear hr
      go_simp
      refine (crcUpdate_any wx 0 (by omega) _ _ _ (xs.take p) w.heap.size hz (HR.out.front hp2) (by have := HC.out; omega)).mono fun e w' ⟨h1, h2⟩ => ⟨?_, h2⟩
      rw [h1, ← HN1.out]
    go_simp
    refine hK.out _ ?_
    clear hK K
    repeat (refine wpGrow_pure rfl (fun K hK => ?_); go_simp; refine hK.out _ ?_; clear hK K)
    refine wpGrow_eff _ rfl (fun wx he hcl => ?_) (fun _ K hK => ?_) rfl
    · have hr := H1.out.below (he.mono hb1.size)
      have hz : w.heap.size ≤ wx.heap.size := Nat.le_trans hb1.size he.size
      have HR := Lib.hid hr
      clear hr
      go_simp
      refine (crcUpdate_any wx N1 (by rw [← HN1.out]; exact Crc.update_lt (by omega) _) _ _ _ ((xs.take q).drop p) w.heap.size hz (HR.out.mid hpq hqn hc) (by have := HC.out; omega)).mono fun e w' ⟨h1, h2⟩ => ⟨?_, h2⟩
      have e4 : xs.take p = (xs.take q).take p := by rw [List.take_take, Nat.min_eq_left hpq]
      rw [h1, ← HN2.out, ← HN1.out, Crc.update_append, e4, List.take_append_drop]
    go_simp
    refine hK.out _ ?_
    clear hK K
    repeat (refine wpGrow_pure rfl (fun K hK => ?_); go_simp; refine hK.out _ ?_; clear hK K)
    refine wpGrow_eff _ rfl (fun wx he hcl => ?_) (fun _ K hK => ?_) rfl
    · have hr := H1.out.below (he.mono hb1.size)
      have hz : w.heap.size ≤ wx.heap.size := Nat.le_trans hb1.size he.size
      have HR := Lib.hid hr
      clear hr
      go_simp
      refine (crcUpdate_any wx N2 (by rw [← HN2.out]; exact Crc.update_lt (by omega) _) _ _ _ (xs.drop q) w.heap.size hz (HR.out.back hqn hc) (by have := HC.out; omega)).mono fun e w' ⟨h1, h2⟩ => ⟨?_, h2⟩
      rw [h1, ← HN.out, ← HN2.out, Crc.update_append, List.take_append_drop]
    go_simp
    refine hK.out _ ?_
    clear hK K
    repeat (refine wpGrow_pure rfl (fun K hK => ?_); go_simp; refine hK.out _ ?_; clear hK K)
    refine wpGrow_eff _ rfl (fun wx he hcl => ?_) (fun g3 K hK => ?_) rfl
    · go_simp
      exact ⟨Whole.new _ _ _, (Below.refl _ _).alloc (Nat.le_refl _) _⟩
    go_simp
    refine hK.out _ ?_
    clear hK K
    refine wpGrow_eff _ rfl (fun wx he hcl => ?_) (fun g4 K hK => ?_) rfl
    · go_simp
      exact ⟨Whole.new _ _ _, (Below.refl _ _).alloc (Nat.le_refl _) _⟩
    go_simp
    refine hK.out _ ?_
    clear hK K
    refine wpGrow_eff _ rfl (fun wx he hcl => ?_) (fun _ K hK => ?_) rfl
    · have hr := H1.out.below (he.mono hb1.size)
      have hz : w.heap.size ≤ wx.heap.size := Nat.le_trans hb1.size he.size
      have HR := Lib.hid hr
      clear hr
      go_simp
      have hw : Whole wx g4 22 #[.slice none 0 0, .slice A n cap, .slice (some ⟨g3, 0, none⟩) 0 0] := hcl.out 47 rfl
      have hM := HC.out
      refine (crcSum_any wx _ 3 3 [[], xs, []] wx.heap.size (Nat.le_refl _) (RdRows.of3 hw hw.lt ⟨by omega, by omega⟩ (Rd.nil_ _ _ _ _) ⟨hc, hM⟩ (HR.out.more hz) ⟨by omega, by omega⟩ (Rd.nil_ _ _ _ _)) (by unfold maxLen; omega)).mono fun e w' ⟨h1, h2⟩ => ⟨?_, h2⟩
      rw [h1, ← HN.out]
      simp
    go_simp
    refine hK.out _ ?_
    clear hK K
    repeat (refine wpGrow_pure rfl (fun K hK => ?_); go_simp; refine hK.out _ ?_; clear hK K)
    refine wpGrow_eff _ rfl (fun wx he hcl => ?_) (fun _ K hK => ?_) rfl
    · have hr := H1.out.below (he.mono hb1.size)
      have hz : w.heap.size ≤ wx.heap.size := Nat.le_trans hb1.size he.size
      have HR := Lib.hid hr
      clear hr
      go_simp
      exact crcWorks_any wx
    go_simp
    refine hK.out _ ?_
    clear hK K
    repeat (refine wpGrow_pure rfl (fun K hK => ?_); go_simp; refine hK.out _ ?_; clear hK K)
    refine wpGrow_nil fun wx he hfin => ?_
    clear hfin
    go_wp2_with fail
    all_goals (go_ret; exact ⟨rfl, hb1.trans (he.mono hb1.size)⟩)
end Go.Proofs.Ytfiabgpegdkldaa
