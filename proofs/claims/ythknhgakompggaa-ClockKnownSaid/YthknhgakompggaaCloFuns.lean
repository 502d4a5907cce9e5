/-
  Clocks: a row copied; clocks made, read, and told.
-/
import Derived.Test.YthknhgakompggaaCloSums
import Derived.Test.YthknhgakompggaaLeaRefs
import Derived.Lib.SliceRun
import Derived.Test.YthknhgakompggaaGrowLast
namespace Go.Proofs.Ythknhgakompggaa
open Go.RowKit
attribute [local go_sem] match_undef Oper.growAt Oper.growUpon GSpec.fix GSpec.row GSpec.wh GSpec.own
attribute [local irreducible] wpList
theorem numsV : ElemOK Try.prog 59 22 1 8 := ElemOK.mk_ (z := .int .u64 0) Try.underlying59 (by kernel_rfl) rfl (by omega)
theorem nums_nil (w : World) (a : Option Addr) (n c : Nat) : (binOp .eql 59 (.slice a n c) (.slice none 0 0)).run Try.prog w = .ok (.bool a.isNone) w := Lib.run_eql_slice_nil w _ _ a n c 0 0 Try.underlying59
attribute [local go_sem] nums_nil
theorem own_empty (w : World) (e : TypeId) (base : Nat) (hb : base ≤ w.heap.size) : (w.alloc (.cells #[] e)).ownsRow base e 1 (.slice (some ⟨w.heap.size, 0, none⟩) 0 0) 0 [] :=
  ⟨rfl, .inr ⟨w.heap.size, 0, #[], rfl, hb, heap_alloc_new w _, Nat.le_refl _, Nat.zero_le _, rfl, by first | rfl | simp | exact ⟨rfl, fun _ h => by cases h⟩⟩⟩

set_option maxRecDepth 100000 in
set_option maxHeartbeats 1000000 in
theorem clone_any (w : World) (A : Option Addr) (n cap : Nat) (l : List UInt64) (B : Nat) (hB : B ≤ w.heap.size) (h : Rd w B 1 A n (nums l)) (hn : n ≤ 17592186044416) :
    Calls Try.prog 53 #[.slice A n cap] w (Fresh w.heap.size 22 1 n (nums l) w) := by
  have H := Lib.hid h
  clear h
  cases A with
  | none =>
    obtain rfl : n = 0 := by
      rcases Nat.eq_zero_or_pos n with h | h
      · exact h
      · obtain ⟨b, o, e, _⟩ := H.out.2 h
        cases e
    have hl : nums l = [] := List.eq_nil_of_length_eq_zero (by have := H.out.1; omega)
    have HL := Lib.hid hl
    clear hl
    go_enter Try.func53, Try.ntmps53
    go_wp2_with fail
    go_ret
    exact ⟨none, 0, rfl, by rw [HL.out]; exact World.ownsRow_nil _ _ _ _, Below.refl _ _⟩
  | some a =>
    go_enter Try.func53, Try.ntmps53
    go_wp2_with (at_builtin; refine wpList_append_rd _ rfl (.tmp 5) (.tmp 6) _ rfl numsV w.heap.size _ 0 _ rfl (own_empty w 22 w.heap.size (Nat.le_refl _)) B (some a) n cap _ rfl (H.out.alloc hB _) (nums_one _) (by unfold maxLen; omega) (by omega) (by simp) ?_; intro D2 c2 w3 ho2 hb2 _ _)
    rw [Nat.zero_add, List.nil_append] at ho2
    have HO2 := Lib.hid ho2
    clear ho2
    have hb3 := (below1 w (.cells #[] 22)).trans hb2
    go_wp2_with fail
    go_ret
    exact ⟨D2, c2, rfl, HO2.out, hb3⟩

/-- Clocks at block g: their hands are the numbers l, in a row of their own. -/
def ClkAt (w : World) (base g : Nat) (D : Option Addr) (c n : Nat) (l : List UInt64) : Prop :=
  base ≤ g ∧ Whole w g 84 #[.slice D n c] ∧ w.ownsRow base 22 1 (.slice D n c) n (nums l)
theorem ClkAt.below {w w' : World} {base g : Nat} {D : Option Addr} {c n : Nat} {l : List UInt64} (h : ClkAt w base g D c n l) (hb : Below w.heap.size w w') : ClkAt w' base g D c n l :=
  ⟨h.1, h.2.1.below hb h.2.1.lt, own_ext h.2.2 hb⟩
theorem ClkAt.len {w : World} {base g : Nat} {D : Option Addr} {c n : Nat} {l : List UInt64} (h : ClkAt w base g D c n l) : l.length = n := by
  have := h.2.2.1
  rw [nums_length] at this
  omega

set_option maxRecDepth 100000 in
set_option maxHeartbeats 1000000 in
theorem clo_of_any (w : World) (A : Option Addr) (n cap : Nat) (l : List UInt64) (B : Nat) (hB : B ≤ w.heap.size) (h : Rd w B 1 A n (nums l)) (hn : n ≤ 17592186044416) :
    Calls Try.prog 35 #[.slice A n cap] w fun en w' => ∃ g D c, en = .returned (.pointer (some ⟨g, 0, none⟩)) ∧ ClkAt w' w.heap.size g D c n l ∧ Below w.heap.size w w' := by
  go_enter Try.func35, Try.ntmps35
  go_wp2_with fail
  refine (clone_any w A n cap l B hB h hn).mono ?_
  rintro en w1 ⟨D, c, rfl, ho, hb⟩
  have HO := Lib.hid ho
  clear ho
  go_wp2_with fail
  go_ret
  exact ⟨w1.heap.size, D, c, rfl, ⟨hb.size, Whole.new w1 _ _, HO.out.alloc _⟩, hb.alloc hb.size _⟩

set_option maxRecDepth 100000 in
set_option maxHeartbeats 1000000 in
theorem clo_has_any (w : World) (base g : Nat) (D : Option Addr) (c n : Nat) (l : List UInt64) (h : ClkAt w base g D c n l) (z : Int) :
    Calls Try.prog 54 #[.pointer (some ⟨g, 0, none⟩), .int .i64 z] w fun en w' => en = .returned (.bool (decide (0 ≤ z) && decide (z < (n : Int)))) ∧ Below w.heap.size w w' := by
  have q0 := h.2.1.cell 0
  simp at q0
  clear h
  by_cases h0 : 0 ≤ z
  · have e0 : decide (0 ≤ z) = true := by simp [h0]
    go_enter Try.func54, Try.ntmps54
    go_wp2_with fail
    go_ret
    exact ⟨by simp [e0], Below.refl _ _⟩
  · have e0 : decide (0 ≤ z) = false := by simp; omega
    go_enter Try.func54, Try.ntmps54
    go_wp2_with fail
    go_ret
    exact ⟨by simp, Below.refl _ _⟩

set_option maxRecDepth 100000 in
set_option maxHeartbeats 1000000 in
theorem clo_read_in (w : World) (base g : Nat) (D : Option Addr) (c n : Nat) (l : List UInt64) (h : ClkAt w base g D c n l) (k : Nat) (hk : k < l.length) :
    Calls Try.prog 37 #[.pointer (some ⟨g, 0, none⟩), .int .i64 (k : Nat)] w fun en w' => en = .returned (.int .u64 (l[k].toNat : Nat)) ∧ Below w.heap.size w w' := by
  have hkn : k < n := by have := h.len; omega
  have q0 := h.2.1.cell 0
  simp at q0
  obtain ⟨b, o, hkl, rfl, hbB, hcell⟩ := (Rd.of_own h.2.2).num hkn
  have H := Lib.hid h
  clear h
  obtain ⟨x, hx⟩ : ∃ x, x = l[k].toNat := ⟨_, rfl⟩
  rw [← hx] at hcell ⊢
  have h1 : (0 : Int) ≤ (k : Int) := by omega
  have h2 : (k : Int) < (n : Int) := by omega
  clear hx
  go_enter Try.func37, Try.ntmps37
  go_wp2_with fail
  refine (clo_has_any w base g _ c n l H.out k).mono ?_
  rintro en w1 ⟨rfl, hb⟩
  rw [show (decide ((0 : Int) ≤ (k : Int)) && decide ((k : Int) < (n : Int))) = true from by simp; omega]
  have p0 := (hb.cell (p := ⟨g, 0, none⟩) H.out.2.1.lt).trans q0
  have p1 := (hb.cell (p := ⟨b, o + k, none⟩) hbB).trans hcell
  clear q0 hcell
  go_wp2_with fail
  go_ret
  exact ⟨rfl, hb⟩
set_option maxRecDepth 100000 in
set_option maxHeartbeats 1000000 in
theorem clo_read_out (w : World) (base g : Nat) (D : Option Addr) (c n : Nat) (l : List UInt64) (h : ClkAt w base g D c n l) (z : Int) (hz : ¬ (0 ≤ z ∧ z < n)) :
    Calls Try.prog 37 #[.pointer (some ⟨g, 0, none⟩), .int .i64 z] w fun en w' => en = .returned (.int .u64 0) ∧ Below w.heap.size w w' := by
  have H := Lib.hid h
  clear h
  have HZ := Lib.hid (show (decide (0 ≤ z) && decide (z < (n : Int))) = false from by simp; omega)
  clear hz
  go_enter Try.func37, Try.ntmps37
  go_wp2_with fail
  refine (clo_has_any w base g _ c n l H.out z).mono ?_
  rintro en w1 ⟨rfl, hb⟩
  rw [HZ.out]
  go_wp2_with fail
  go_ret
  exact ⟨rfl, hb⟩

set_option maxRecDepth 100000 in
set_option maxHeartbeats 1000000 in
theorem clo_hands_any (w : World) (base g : Nat) (D : Option Addr) (c n : Nat) (l : List UInt64) (h : ClkAt w base g D c n l) (hn : n ≤ 1000000) :
    Calls Try.prog 39 #[.pointer (some ⟨g, 0, none⟩)] w (Fresh w.heap.size 22 1 n (nums l) w) := by
  have q0 := h.2.1.cell 0
  simp at q0
  have H := Lib.hid h
  clear h
  go_enter Try.func39, Try.ntmps39
  go_wp2_with fail
  refine (clone_any w D n c l _ (Nat.le_refl _) (Rd.of_own H.out.2.2) (by omega)).mono ?_
  rintro en w1 ⟨D1, c1, rfl, ho, hb⟩
  have HO := Lib.hid ho
  clear ho
  go_wp2_with fail
  go_ret
  exact ⟨D1, c1, rfl, HO.out, hb⟩

theorem ClkAt.row {w : World} {base g : Nat} {D : Option Addr} {c n : Nat} {l : List UInt64} (h : ClkAt w base g D c n l) (hn : 0 < n) :
    ∃ d cur, D = some ⟨d, 0, none⟩ ∧ base ≤ d ∧ ¬ g = d ∧ Whole w d 22 cur ∧ n ≤ c ∧ c ≤ maxLen ∧ cur.size = c ∧ cur.toList.take n = nums l := by
  obtain ⟨h0, h1, h2, h3⟩ := h
  rcases h3 with ⟨hv, hz⟩ | ⟨d, cap, cur, hv, hb, hh, hc1, hc2, hs, ht⟩
  · omega
  · injection hv with e1 e2 e3
    subst e3
    refine ⟨d, cur, e1, hb, ?_, hh, hc1, hc2, by rw [hs, Nat.mul_one], by rw [Nat.mul_one] at ht; exact ht⟩
    intro hgd
    subst hgd
    have h4 : (some (Obj.cells _ _ _) : Option Obj) = some (Obj.cells _ _ _) := h1.symm.trans hh
    injection h4 with h4
    injection h4 with _ h5
    exact absurd h5 (by decide)
theorem ClkAt.put {w : World} {base g d k : Nat} {c n : Nat} {l : List UInt64} {cur : Array Value} (y : UInt64) (hg : base ≤ g) (hd : base ≤ d) (hgd : ¬ g = d) (h1 : Whole w g 84 #[.slice (some ⟨d, 0, none⟩) n c]) (h2 : Whole w d 22 cur)
    (hc1 : n ≤ c) (hc2 : c ≤ maxLen) (hs : cur.size = c) (ht : cur.toList.take n = nums l) (hl : l.length = n) :
    ClkAt (w.setCell ⟨d, k, none⟩ (.int .u64 (y.toNat : Nat))) base g (some ⟨d, 0, none⟩) c n (l.set k y) := by
  refine ⟨hg, h1.far (p := ⟨d, k, none⟩) hgd _, by rw [nums_length, List.length_set, hl, Nat.mul_one], .inr ⟨d, c, _, rfl, hd, h2.put_ k _, hc1, hc2, by rw [Array.size_setIfInBounds, hs, Nat.mul_one], ?_⟩⟩
  rw [Nat.mul_one, Array.toList_setIfInBounds, List.take_set, ht]
  unfold nums
  rw [List.map_set]
theorem sum2 (x b : UInt64) : sumTo [x, b] 2 = till x.toNat b.toNat := by
  have h0 : till 0 x.toNat = x.toNat := by unfold till; have := x.toNat_lt; rw [if_pos (by omega)]; omega
  show till (till 0 x.toNat) b.toNat = _
  rw [h0]
theorem ofNat_till (a b : Nat) : (UInt64.ofNat (till a b)).toNat = till a b := by
  have := till_lt a b
  rw [UInt64.toNat_ofNat', Nat.mod_eq_of_lt (by omega)]
theorem Rd.two (w : World) (t : TypeId) (x y : UInt64) : Rd (w.alloc (.cells #[.int .u64 (x.toNat : Nat), .int .u64 (y.toNat : Nat)] t)) (w.heap.size + 1) 1 (some ⟨w.heap.size, 0, none⟩) 2 (nums [x, y]) :=
  Rd.of_heap (Whole.new w t _) (Nat.lt_succ_self _) (n := 2) (Nat.le_refl _)
set_option maxRecDepth 100000 in
set_option maxHeartbeats 2000000 in
theorem clo_tick_in (w : World) (base g : Nat) (D : Option Addr) (c n : Nat) (l : List UInt64) (h : ClkAt w base g D c n l) (k : Nat) (hk : k < l.length) (y : UInt64) :
    Calls Try.prog 36 #[.pointer (some ⟨g, 0, none⟩), .int .i64 (k : Nat), .int .u64 (y.toNat : Nat)] w fun en w' => en = .returned (.int .i64 0) ∧ ClkAt w' base g D c n (l.set k (UInt64.ofNat (till l[k].toNat y.toNat))) ∧ Below base w w' := by
  have hkn : k < n := by have := h.len; omega
  obtain ⟨d, cur, rfl, hd, hgd, hw, hc1, hc2, hs, ht⟩ := h.row (by omega)
  have q0 := h.2.1.cell 0
  simp at q0
  obtain ⟨b, o, hkl, hA, hbB, hcell⟩ := (Rd.of_own h.2.2).num hkn
  injection hA with hA
  injection hA with h1 h2 _
  subst h1 h2
  rw [Nat.zero_add] at hcell
  have HLEN := Lib.hid h.len
  have H := Lib.hid h
  clear h
  have HW := Lib.hid hw
  have HS := Lib.hid hs
  have HT := Lib.hid ht
  clear hw hs ht
  obtain ⟨x, hx⟩ : ∃ x, x = l[k] := ⟨_, rfl⟩
  rw [← hx] at hcell ⊢
  have p1 : (0 : Int) ≤ (k : Int) := by omega
  have p2 : (k : Int) < (n : Int) := by omega
  clear hx
  go_enter Try.func36, Try.ntmps36
  go_wp2_with fail
  refine (clo_has_any w base g _ c n l H.out k).mono ?_
  rintro en w1 ⟨rfl, hb⟩
  rw [show (decide ((0 : Int) ≤ (k : Int)) && decide ((k : Int) < (n : Int))) = true from by simp; omega]
  have p3 := (hb.cell (p := ⟨g, 0, none⟩) H.out.2.1.lt).trans q0
  have p4 := (hb.cell (p := ⟨d, k, none⟩) hbB).trans hcell
  clear q0 hcell
  go_wp2_with fail
  have HG1 := Lib.hid (Nat.lt_of_lt_of_le H.out.2.1.lt hb.size)
  have HD1 := Lib.hid (Nat.lt_of_lt_of_le hbB hb.size)
  have P3 := Lib.hid p3
  have P4 := Lib.hid p4
  clear p3 p4
  obtain ⟨t, ht⟩ : ∃ t, till x.toNat y.toNat = t := ⟨_, rfl⟩
  have HTT := Lib.hid ht
  clear ht
  refine wp_region_last (fun k' => List.lookup k' [(3, .fix (.slice (some ⟨d, 0, none⟩) n c)), (8, .fix (.slice (some ⟨d, 0, none⟩) n c)), (11, .fix (.int .u64 (x.toNat : Nat))), (13, .wh 22 2 #[.int .u64 (x.toNat : Nat), .int .u64 (y.toNat : Nat)]), (14, .fix (.int .u64 (t : Nat)))]) _ rfl (by kernel_rfl) (by kernel_rfl) (by kernel_rfl) (by kernel_rfl) rfl rfl ?_
  simp only [List.dropLast]
  repeat (refine wpGrow_pure rfl (fun K hK => ?_); go_simp; refine hK.out _ ?_; clear hK K)
  refine wpGrow_eff _ rfl (fun wx he hcl => ?_) (fun _ K hK => ?_) rfl
  · clear hcl
    have hq := (he.cell (p := ⟨g, 0, none⟩) HG1.out).trans P3.out
    go_simp
    exact Below.refl _ _
  go_simp
  refine hK.out _ ?_
  clear hK K
  repeat (refine wpGrow_pure rfl (fun K hK => ?_); go_simp; refine hK.out _ ?_; clear hK K)
  refine wpGrow_eff _ rfl (fun wx he hcl => ?_) (fun _ K hK => ?_) rfl
  · clear hcl
    have hq := (he.cell (p := ⟨g, 0, none⟩) HG1.out).trans P3.out
    go_simp
    exact Below.refl _ _
  go_simp
  refine hK.out _ ?_
  clear hK K
  repeat (refine wpGrow_pure rfl (fun K hK => ?_); go_simp; refine hK.out _ ?_; clear hK K)
  refine wpGrow_eff _ rfl (fun wx he hcl => ?_) (fun _ K hK => ?_) rfl
  · clear hcl
    have hq := (he.cell (p := ⟨d, k, none⟩) HD1.out).trans P4.out
    go_simp
    exact Below.refl _ _
  go_simp
  refine hK.out _ ?_
  clear hK K
  repeat (refine wpGrow_pure rfl (fun K hK => ?_); go_simp; refine hK.out _ ?_; clear hK K)
  refine wpGrow_eff _ rfl (fun wx he hcl => ?_) (fun (g7 : Nat) K hK => ?_) rfl
  · clear hcl
    go_simp
    exact ⟨Whole.new _ _ _, (Below.refl _ _).alloc (Nat.le_refl _) _⟩
  go_simp
  refine hK.out _ ?_
  clear hK K
  repeat (refine wpGrow_pure rfl (fun K hK => ?_); go_simp; refine hK.out _ ?_; clear hK K)
  refine wpGrow_eff _ rfl (fun wx he hcl => ?_) (fun _ K hK => ?_) rfl
  · have hw7 : Whole wx g7 22 #[.int .u64 (x.toNat : Nat), .int .u64 (y.toNat : Nat)] := hcl.out 13 rfl
    clear hcl
    have hcon := clo_sum_any wx (some ⟨g7, 0, none⟩) 2 2 [x, y] wx.heap.size (Nat.le_refl _) (Rd.of_heap hw7 hw7.lt (n := 2) (Nat.le_refl _)) (by omega)
    rw [sum2, HTT.out] at hcon
    go_simp
    all_goals exact hcon
  go_simp
  refine hK.out _ ?_
  clear hK K
  repeat (refine wpGrow_pure rfl (fun K hK => ?_); go_simp; refine hK.out _ ?_; clear hK K)
  refine wpGrow_nil fun wx he hfin => ?_
  clear hfin
  have hbx : Below w.heap.size w wx := hb.trans (he.mono hb.size)
  have kg := Whole.below H.out.2.1 hbx H.out.2.1.lt
  have kd := Whole.below HW.out hbx hbB
  have q1 := kd.frozen k
  have q2 := (he.cell (p := ⟨d, k, none⟩) HD1.out).trans P4.out
  clear he
  go_wp2_with fail
  go_ret
  have key := ClkAt.put (k := k) (UInt64.ofNat (till x.toNat y.toNat)) H.out.1 hd hgd kg kd hc1 hc2 HS.out HT.out HLEN.out
  rw [ofNat_till, HTT.out] at key
  rw [HTT.out]
  exact ⟨rfl, key, (hbx.mono (Nat.le_trans H.out.1 (Nat.le_of_lt H.out.2.1.lt))).setCell hd _⟩
set_option maxRecDepth 100000 in
set_option maxHeartbeats 2000000 in
theorem clo_tick_out (w : World) (base g : Nat) (D : Option Addr) (c n : Nat) (l : List UInt64) (h : ClkAt w base g D c n l) (z : Int) (hz : ¬ (0 ≤ z ∧ z < n)) (y : Nat) :
    Calls Try.prog 36 #[.pointer (some ⟨g, 0, none⟩), .int .i64 z, .int .u64 (y : Nat)] w fun en w' => en = .returned (.int .i64 2) ∧ Below w.heap.size w w' := by
  have H := Lib.hid h
  clear h
  have HZ := Lib.hid (show (decide (0 ≤ z) && decide (z < (n : Int))) = false from by simp; omega)
  clear hz
  go_enter Try.func36, Try.ntmps36
  go_wp2_with fail
  refine (clo_has_any w base g _ c n l H.out z).mono ?_
  rintro en w1 ⟨rfl, hb⟩
  rw [HZ.out]
  go_wp2_with fail
  go_ret
  exact ⟨rfl, hb⟩

end Go.Proofs.Ythknhgakompggaa
