/-
  The walk of VarintKnown (a closed statement): it returns true.
-/
import Derived.Test.YtfiabgpegdkldaaVarBack
import Derived.Test.YtfiabgpegdkldaaVarTakes
import Derived.Deep.DeepCutAuto
namespace Go.Proofs.Ytfiabgpegdkldaa
open Go.RowKit
attribute [local go_sem] Oper.growAt Oper.growUpon GSpec.fix GSpec.row GSpec.wh GSpec.own
attribute [local irreducible] wpList
theorem u64_some (z : Int) : ∃ x : Nat, IntKind.u64.wrap z = (x : Int) ∧ x < 18446744073709551616 :=
  ⟨(z % 18446744073709551616).toNat, by rw [IntKind.wrap_u64]; omega, by omega⟩
theorem bits_some (op : BinOp) (a b : Int) : ∃ x : Nat, bits op .u64 a b = (x : Int) ∧ x < 18446744073709551616 := u64_some _
theorem wf_int (z : Int) (h1 : -1 ≤ z) (h2 : z ≤ 5) : (Lit.int .i64 z).wf = true := by
  have : z = -1 ∨ z = 0 ∨ z = 1 ∨ z = 2 ∨ z = 3 ∨ z = 4 ∨ z = 5 := by omega
  rcases this with rfl | rfl | rfl | rfl | rfl | rfl | rfl <;> decide
theorem vals_cell {w : World} {g : Nat} {t : TypeId} (h : Whole w g t #[.int .u8 0, .int .u8 1, .int .u8 2, .int .u8 127, .int .u8 128, .int .u8 129, .int .u8 255]) (r : Nat) (hr : r < 7) : ∃ b : UInt8, w.cell? ⟨g, r, none⟩ = some (.int .u8 (b.toNat : Nat)) := by
  have : r = 0 ∨ r = 1 ∨ r = 2 ∨ r = 3 ∨ r = 4 ∨ r = 5 ∨ r = 6 := by omega
  rcases this with rfl | rfl | rfl | rfl | rfl | rfl | rfl
  · exact ⟨0, h.cell 0⟩
  · exact ⟨1, h.cell 1⟩
  · exact ⟨2, h.cell 2⟩
  · exact ⟨127, h.cell 3⟩
  · exact ⟨128, h.cell 4⟩
  · exact ⟨129, h.cell 5⟩
  · exact ⟨255, h.cell 6⟩
theorem num64 {x : Nat} (h : x < 18446744073709551616) : Value.int .u64 ((UInt64.ofNat x).toNat : Nat) = .int .u64 (x : Nat) := by
  rw [UInt64.toNat_ofNat', Nat.mod_eq_of_lt (show x < 2 ^ 64 by omega)]
theorem nums_ofNat : ∀ (xs : List Nat), (∀ x ∈ xs, x < 18446744073709551616) → nums (xs.map UInt64.ofNat) = xs.map fun x => Value.int .u64 (x : Nat)
  | [], _ => rfl
  | x :: xs, h => by
    have h1 := nums_ofNat xs (fun y hy => h y (List.mem_cons_of_mem _ hy))
    have h2 := num64 (h x (List.mem_cons_self))
    unfold nums at h1 ⊢
    rw [List.map_cons, List.map_cons, List.map_cons, h1, h2]
theorem Rd.newn (w : World) (t : TypeId) (xs : List Nat) (hx : ∀ x ∈ xs, x < 18446744073709551616) (cs : Array Value) (L : Nat) (h : (xs.map fun x => Value.int .u64 (x : Nat)) = cs.toList) (hL : xs.length = L) :
    Rd (w.alloc (.cells cs t)) (w.heap.size + 1) 1 (some ⟨w.heap.size, 0, none⟩) L (nums (xs.map UInt64.ofNat)) := by
  have e : nums (xs.map UInt64.ofNat) = cs.toList.take L := by
    rw [nums_ofNat xs hx, h, List.take_of_length_le]
    have := congrArg List.length h
    simp at this ⊢
    omega
  rw [e]
  refine Rd.of_heap (Whole.new w t _) (Nat.lt_succ_self _) ?_
  have := congrArg List.length h
  simp at this
  omega
set_option maxRecDepth 100000 in
set_option maxHeartbeats 9000000 in
theorem varKnown_any (w : World) :
    Calls Try.prog 11 #[] w fun en w' => en = .returned (.bool true) ∧ Below w.heap.size w w' := by
  have hb : Below w.heap.size w w := Below.refl _ _
  go_enter Try.func11, Try.ntmps11
  go_wp2_with fail
  go_loopw [1] (fun x wr => ∃ k : Nat, k ≤ 64 ∧ x = .int .i64 k ∧ Below w.heap.size w wr) (fun x _ => 64 - (intOf x).toNat)
  case atStart => exact ⟨0, by omega, rfl, hb⟩
  case round =>
    obtain ⟨k, hk, rfl, hb⟩ := hrel
    by_cases hlt : k < 64
    · have hd1 : decide ((k : Int) < 64) = true := by simp; omega
      obtain ⟨N, hN, hNl⟩ := u64_some (2 ^ k)
      obtain ⟨x0, h0, l0⟩ := u64_some ((N : Int) - 1)
      obtain ⟨x2, h2, l2⟩ := u64_some ((N : Int) + 1)
      obtain ⟨x3, h3, l3⟩ := bits_some BinOp.xor IntKind.u64.max (N : Int)
      have HNL := Lib.hid hNl
      go_wp2_with fail
      clear hN h0 h2 h3
      obtain ⟨g, hg⟩ : ∃ g, g = wr.heap.size := ⟨_, rfl⟩
      have kv : Whole (wr.alloc (.cells #[.int .u64 (x0 : Nat), .int .u64 (N : Nat), .int .u64 (x2 : Nat), .int .u64 (x3 : Nat)] 44)) g 44 #[.int .u64 (x0 : Nat), .int .u64 (N : Nat), .int .u64 (x2 : Nat), .int .u64 (x3 : Nat)] := by rw [hg]; exact Whole.new wr _ _
      replace hb := hb.alloc hb.size (.cells #[.int .u64 (x0 : Nat), .int .u64 (N : Nat), .int .u64 (x2 : Nat), .int .u64 (x3 : Nat)] 44)
      generalize World.alloc wr _ = v1 at kv hb ⊢
      rw [← hg]
      clear hg
      go_loopw [28] (fun y wz => ∃ j : Nat, j ≤ 4 ∧ y = .int .i64 j ∧ Below w.heap.size w wz ∧ Whole wz g 44 #[.int .u64 (x0 : Nat), .int .u64 (N : Nat), .int .u64 (x2 : Nat), .int .u64 (x3 : Nat)]) (fun y _ => 4 - (intOf y).toNat)
      case atStart => exact ⟨0, by omega, rfl, hb, kv⟩
      case round =>
        obtain ⟨j, hj, rfl, hb, kv⟩ := hrel
        by_cases hlj : j < 4
        · have hd2 : decide ((j : Int) < 4) = true := by simp; omega
          have hj1 : (0 : Int) ≤ (j : Int) := by omega
          have hj2 : (j : Int) < 4 := by omega
          obtain ⟨X, hX, hXc⟩ : ∃ X : Nat, X < 18446744073709551616 ∧ wr.cell? ⟨g, j, none⟩ = some (.int .u64 (X : Nat)) := by
            have : j = 0 ∨ j = 1 ∨ j = 2 ∨ j = 3 := by omega
            rcases this with rfl | rfl | rfl | rfl
            · exact ⟨x0, l0, kv.cell 0⟩
            · exact ⟨N, hNl, kv.cell 1⟩
            · exact ⟨x2, l2, kv.cell 2⟩
            · exact ⟨x3, l3, kv.cell 3⟩
          have HX := Lib.hid hX
          clear hX
          go_wp2_with fail
          refine (varPuts_any _ _ 2 2 _ ((Rd.newn wr 44 [X, N] (by intro x hx; simp at hx; rcases hx with rfl | rfl; exact HX.out; exact HNL.out) #[.int .u64 (X : Nat), .int .u64 (N : Nat)] 2 rfl rfl).more (by simp)) _).mono ?_
          rintro en w2 ⟨rfl, hbn⟩
          replace hb := (hb.alloc hb.size (.cells #[.int .u64 (X : Nat), .int .u64 (N : Nat)] 44)).trans (hbn.mono (Nat.le_trans hb.size (by simp)))
          replace kv := (kv.alloc (.cells #[.int .u64 (X : Nat), .int .u64 (N : Nat)] 44)).below hbn (Nat.lt_of_lt_of_le kv.lt (by simp))
          clear hbn hXc
          go_wp2_with fail
          have hr := (Rd.newn w2 44 [X, N, 0] (by intro x hx; simp at hx; rcases hx with rfl | rfl | rfl; exact HX.out; exact HNL.out; omega) #[.int .u64 (X : Nat), .int .u64 (N : Nat), .int .u64 0] 3 rfl rfl)
          generalize hv : World.alloc w2 _ = v2 at hr
          obtain ⟨g3, hg3⟩ : ∃ g, g = w2.heap.size := ⟨_, rfl⟩
          rw [← hg3] at hr ⊢
          have hz3 : g3 < v2.heap.size := by rw [← hv, hg3]; simp
          replace hb : Below w.heap.size w v2 := by rw [← hv]; exact hb.alloc hb.size _
          replace kv : Whole v2 g 44 #[.int .u64 (x0 : Nat), .int .u64 (N : Nat), .int .u64 (x2 : Nat), .int .u64 (x3 : Nat)] := by rw [← hv]; exact kv.alloc _
          clear hv hg3
          have HR := Lib.hid (hr.more (show g3 + 1 ≤ v2.heap.size from hz3))
          clear hr
          obtain ⟨ps, hps⟩ : ∃ l, Var.put X = l := ⟨_, rfl⟩
          obtain ⟨qs, hqs⟩ : ∃ l, Var.put N = l := ⟨_, rfl⟩
          have HPS := Lib.hid hps
          have HQS := Lib.hid hqs
          clear hps hqs
          obtain ⟨P, hP⟩ : ∃ n, ps.length = n := ⟨_, rfl⟩
          obtain ⟨Q, hQ⟩ : ∃ n, qs.length = n := ⟨_, rfl⟩
          have HP := Lib.hid hP
          have HQ := Lib.hid hQ
          clear hP hQ
          refine (put_at v2 X HX.out ps P HPS.out HP.out).mono ?_
          rintro en w3 ⟨D1, c1, rfl, ho1, hbn⟩
          have HO1 := Lib.hid ho1
          replace HR := Lib.hid ((HR.out.below hbn).more hbn.size)
          replace hb := hb.trans (hbn.mono hb.size)
          replace kv := kv.below hbn kv.lt
          clear ho1 hbn
          go_wp2_with fail
          refine (put_at w3 N HNL.out qs Q HQS.out HQ.out).mono ?_
          rintro en w4 ⟨D2, c2, rfl, ho2, hbn⟩
          replace HO1 := Lib.hid (own_ext HO1.out hbn)
          have HO2 := Lib.hid ho2
          replace HR := Lib.hid ((HR.out.below hbn).more hbn.size)
          replace hb := hb.trans (hbn.mono hb.size)
          replace kv := kv.below hbn kv.lt
          clear ho2 hbn
          go_wp2_with fail
          refine (varBack_any w4 _ 3 3 _ HR.out _ D1 P c1 ps (Rd.of_own HO1.out) D2 Q c2 qs (Rd.of_own HO2.out) (own_cap HO2.out).1 (own_cap HO2.out).2).mono ?_
          rintro en w5 ⟨rfl, hbn⟩
          replace hb := hb.trans (hbn.mono hb.size)
          replace kv := kv.below hbn kv.lt
          clear hbn
          go_wp2_with fail
          go_roundw
          case rel => exact ⟨j + 1, by omega, by go_num, hb, kv⟩
          case measure => simp [intOf] <;> omega
        · have hd2 : decide ((j : Int) < 4) = false := by simp; omega
          go_wp2_with fail
          go_roundw
          case rel => exact ⟨k + 1, by omega, by go_num, hb⟩
          case measure => simp [intOf] <;> omega
    · have hd1 : decide ((k : Int) < 64) = false := by simp; omega
      go_wp2_with fail
      obtain ⟨gv, hgv⟩ : ∃ g, g = wr.heap.size := ⟨_, rfl⟩
      have kv : Whole (wr.alloc (.cells #[Value.int .u8 0, .int .u8 1, .int .u8 2, .int .u8 127, .int .u8 128, .int .u8 129, .int .u8 255] 5)) gv 5 #[Value.int .u8 0, .int .u8 1, .int .u8 2, .int .u8 127, .int .u8 128, .int .u8 129, .int .u8 255] := by rw [hgv]; exact Whole.new wr _ _
      replace hb := hb.alloc hb.size (.cells #[Value.int .u8 0, .int .u8 1, .int .u8 2, .int .u8 127, .int .u8 128, .int .u8 129, .int .u8 255] 5)
      generalize World.alloc wr _ = v1 at kv hb ⊢
      rw [← hgv]
      clear hgv hd1 hlt hk
      go_loopw [6] (fun x wz => ∃ i : Nat, i ≤ 343 ∧ x = .int .i64 i ∧ Below w.heap.size w wz ∧ Whole wz gv 5 #[Value.int .u8 0, .int .u8 1, .int .u8 2, .int .u8 127, .int .u8 128, .int .u8 129, .int .u8 255]) (fun x _ => 343 - (intOf x).toNat)
      case atStart => exact ⟨0, by omega, rfl, hb, kv⟩
      case round =>
        obtain ⟨i, hi, rfl, hb, kv⟩ := hrel
        by_cases hlt : i < 343
        · have hd1 : decide ((i : Int) < 343) = true := by simp; omega
          obtain ⟨i1, hi1⟩ : ∃ r, r = i % 7 := ⟨_, rfl⟩
          obtain ⟨i0, hi0⟩ : ∃ r, r = i / 7 := ⟨_, rfl⟩
          obtain ⟨i2, hi2⟩ : ∃ r, r = i0 % 7 := ⟨_, rfl⟩
          obtain ⟨i3, hi3⟩ : ∃ r, r = i / 49 := ⟨_, rfl⟩
          obtain ⟨b1, hb1⟩ := vals_cell kv i1 (by omega)
          obtain ⟨b2, hb2⟩ := vals_cell kv i2 (by omega)
          obtain ⟨b3, hb3⟩ := vals_cell kv i3 (by omega)
          have B1C := Lib.hid hb1
          have B2C := Lib.hid hb2
          have B3C := Lib.hid hb3
          have HKV := Lib.hid kv
          clear hb1 hb2 hb3 kv
          have p1 : (0 : Int) ≤ (i1 : Int) := by omega
          have p2 : (i1 : Int) < 7 := by omega
          have p3 : (0 : Int) ≤ (i2 : Int) := by omega
          have p4 : (i2 : Int) < 7 := by omega
          have p5 : (0 : Int) ≤ (i3 : Int) := by omega
          have p6 : (i3 : Int) < 7 := by omega
          have e1 : (i : Int) % 7 = (i1 : Int) := by omega
          have e2 : (i : Int) / 7 = (i0 : Int) := by omega
          have e3 : (i0 : Int) % 7 = (i2 : Int) := by omega
          have e4 : (i : Int) / 49 = (i3 : Int) := by omega
          have e5 : (i : Int).tmod 7 = (i1 : Int) := by rw [Int.tmod_eq_emod_of_nonneg (by omega)]; exact e1
          have e6 : (i : Int).tdiv 7 = (i0 : Int) := by rw [Int.tdiv_eq_ediv_of_nonneg (by omega)]; exact e2
          have e7 : (i0 : Int).tmod 7 = (i2 : Int) := by rw [Int.tmod_eq_emod_of_nonneg (by omega)]; exact e3
          have e8 : (i : Int).tdiv 49 = (i3 : Int) := by rw [Int.tdiv_eq_ediv_of_nonneg (by omega)]; exact e4
          have e9 : IntKind.i64.wrap (i0 : Int) = (i0 : Int) := by rw [IntKind.wrap_i64]; omega
          have e10 : IntKind.i64.wrap (i3 : Int) = (i3 : Int) := by rw [IntKind.wrap_i64]; omega
          clear hi1 hi0 hi2 hi3
          go_wp2_with fail
          refine wp_region_grow (fun k' => List.lookup k' [(4, .fix (.int .u8 (b1.toNat : Nat))), (10, .fix (.int .u8 (b2.toNat : Nat))), (15, .fix (.int .u8 (b3.toNat : Nat))), (16, .wh 5 3 #[Value.int .u8 (b1.toNat : Nat), .int .u8 (b2.toNat : Nat), .int .u8 (b3.toNat : Nat)])]) (by kernel_rfl) (by kernel_rfl) ?_
          repeat (refine wpGrow_pure rfl (fun K hK => ?_); go_simp; refine hK.out _ ?_; clear hK K)
          refine wpGrow_eff _ rfl (fun wx he hcl => ?_) (fun _ K hK => ?_) rfl
          · clear hcl
            have hq : wx.cell? ⟨gv, i1, none⟩ = some (.int .u8 (b1.toNat : Nat)) := (he.cell HKV.out.lt).trans B1C.out
            go_simp
            exact Below.refl _ _
          go_simp
          refine hK.out _ ?_
          clear hK K
          repeat (refine wpGrow_pure rfl (fun K hK => ?_); go_simp; refine hK.out _ ?_; clear hK K)
          refine wpGrow_eff _ rfl (fun wx he hcl => ?_) (fun _ K hK => ?_) rfl
          · clear hcl
            have hq : wx.cell? ⟨gv, i2, none⟩ = some (.int .u8 (b2.toNat : Nat)) := (he.cell HKV.out.lt).trans B2C.out
            go_simp
            exact Below.refl _ _
          go_simp
          refine hK.out _ ?_
          clear hK K
          repeat (refine wpGrow_pure rfl (fun K hK => ?_); go_simp; refine hK.out _ ?_; clear hK K)
          refine wpGrow_eff _ rfl (fun wx he hcl => ?_) (fun _ K hK => ?_) rfl
          · clear hcl
            have hq : wx.cell? ⟨gv, i3, none⟩ = some (.int .u8 (b3.toNat : Nat)) := (he.cell HKV.out.lt).trans B3C.out
            go_simp
            exact Below.refl _ _
          go_simp
          refine hK.out _ ?_
          clear hK K
          repeat (refine wpGrow_pure rfl (fun K hK => ?_); go_simp; refine hK.out _ ?_; clear hK K)
          refine wpGrow_eff _ rfl (fun wx he hcl => ?_) (fun (g7 : Nat) K hK => ?_) rfl
          · clear hcl
            go_simp
            exact ⟨Whole.new _ _ _, (Below.refl _ _).alloc (Nat.le_refl _) _⟩
          go_simp
          refine hK.out _ ?_
          clear hK K
          repeat (refine wpGrow_pure rfl (fun K hK => ?_); go_simp; refine hK.out _ ?_; clear hK K)
          refine wpGrow_nil fun wx he hfin => ?_
          have k7 : Whole wx g7 5 #[Value.int .u8 (b1.toNat : Nat), .int .u8 (b2.toNat : Nat), .int .u8 (b3.toNat : Nat)] := hfin.out 16
          clear hfin
          replace hb := hb.trans (he.mono hb.size)
          have kv : Whole wx gv 5 #[Value.int .u8 0, .int .u8 1, .int .u8 2, .int .u8 127, .int .u8 128, .int .u8 129, .int .u8 255] := HKV.out.below he HKV.out.lt
          clear he HKV B1C B2C B3C e1 e2 e3 e4 e5 e6 e7 e8 e9 e10 p1 p2 p3 p4 p5 p6
          go_wp2_with fail
          obtain ⟨ge, hge⟩ : ∃ g, g = wx.heap.size := ⟨_, rfl⟩
          have hg7 : g7 < ge := by rw [hge]; exact k7.lt
          have hgv : gv < ge := by rw [hge]; exact kv.lt
          have hgw : w.heap.size ≤ ge := by rw [hge]; exact hb.size
          have ho : World.ownsRow (wx.alloc (.cells #[] 5)) ge 5 1 (.slice (some ⟨ge, 0, none⟩) 0 0) 0 (byts []) := by
            rw [hge]
            exact ⟨rfl, .inr ⟨wx.heap.size, 0, #[], rfl, Nat.le_refl _, heap_alloc_new wx _, Nat.le_refl _, Nat.zero_le _, rfl, by first | rfl | simp | exact ⟨rfl, fun _ h => by cases h⟩⟩⟩
          have hsz : ge ≤ (wx.alloc (.cells #[] 5)).heap.size := by rw [hge]; simp
          replace hb := hb.alloc hb.size (.cells #[] 5)
          replace kv := kv.alloc (.cells #[] 5)
          replace k7 := k7.alloc (.cells #[] 5)
          generalize World.alloc wx _ = v3 at ho hsz hb kv k7 ⊢
          rw [← hge]
          clear hge
          have HO := Lib.hid ho
          clear ho
          go_loopw [8, 9] (fun v y wz => ∃ (j L : Nat) (acc : List UInt8) (D : Option Addr) (c : Nat), j ≤ 3 ∧ y = .int .i64 j ∧ v = .slice D L c ∧ Hid (L = 3 * j ∧ wz.ownsRow ge 5 1 (.slice D L c) L (byts acc)) ∧ ge ≤ wz.heap.size ∧ Below w.heap.size w wz ∧ Whole wz gv 5 #[Value.int .u8 0, .int .u8 1, .int .u8 2, .int .u8 127, .int .u8 128, .int .u8 129, .int .u8 255] ∧ Whole wz g7 5 #[Value.int .u8 (b1.toNat : Nat), .int .u8 (b2.toNat : Nat), .int .u8 (b3.toNat : Nat)]) (fun _ y _ => 3 - (intOf y).toNat)
          case atStart => exact ⟨0, 0, [], _, _, by omega, rfl, rfl, ⟨rfl, HO.out⟩, hsz, hb, kv, k7⟩
          case round =>
            obtain ⟨j, L, acc, D, c, hj, rfl, rfl, HA, hsz, hb, kv, k7⟩ := hrel
            have hL : L ≤ 9 := by have := HA.out.1; omega
            by_cases hlj : j < 3
            · have hd2 : decide ((j : Int) < 3) = true := by simp; omega
              have hj1 : (0 : Int) ≤ (j : Int) := by omega
              have hj2 : (j : Int) < 7 := by omega
              obtain ⟨b, hbc⟩ := vals_cell kv j (by omega)
              go_wp2_with (at_builtin; refine wpList_append_rd _ rfl (.tmp 76) (.tmp 81) _ rfl bytesV ge _ L _ rfl (HA.out.2.alloc _) (wr.heap.size + 1) (some ⟨wr.heap.size, 0, none⟩) 3 3 _ rfl (Rd.newb wr 5 [128, 255, b] #[.int .u8 128, .int .u8 255, .int .u8 (b.toNat : Nat)] 3 rfl rfl) (byts_one _) (by unfold maxLen; omega) (by omega) (by simp; omega) ?_; intro D2 c2 w3 ho2 hb2 _ _)
              rw [← byts_append] at ho2
              have HO2 := Lib.hid ho2
              have hb3 : Below w.heap.size w w3 := (hb.alloc hb.size _).trans (hb2.mono hgw)
              have kv3 := (kv.alloc (.cells #[.int .u8 128, .int .u8 255, .int .u8 (b.toNat : Nat)] 5)).below hb2 hgv
              have k73 := (k7.alloc (.cells #[.int .u8 128, .int .u8 255, .int .u8 (b.toNat : Nat)] 5)).below hb2 hg7
              have hsz3 : ge ≤ w3.heap.size := Nat.le_trans hsz (Nat.le_trans (by simp) hb2.size)
              clear ho2 hb2 hbc hb kv k7
              go_wp2_with fail
              go_roundw
              case rel => exact ⟨j + 1, L + 3, acc ++ [128, 255, b], D2, c2, by omega, by go_num, rfl, ⟨by have := HA.out.1; omega, HO2.out⟩, hsz3, hb3, kv3, k73⟩
              case measure => simp [intOf] <;> omega
            · have hd2 : decide ((j : Int) < 3) = false := by simp; omega
              have hr3 : Rd wr wr.heap.size 1 (some ⟨g7, 0, none⟩) 3 (byts [b1, b2, b3]) := Rd.of_heap k7 k7.lt (n := 3) (Nat.le_refl _)
              have HR3 := Lib.hid hr3
              clear hr3
              go_wp2_with (at_builtin; refine wpList_append_rd _ rfl (.tmp 83) (.tmp 84) _ rfl bytesV ge _ L _ rfl HA.out.2 wr.heap.size (some ⟨g7, 0, none⟩) 3 3 _ rfl HR3.out (byts_one _) (by unfold maxLen; omega) (by omega) hsz ?_; intro D2 c2 w3 ho2 hb2 _ _)
              rw [← byts_append] at ho2
              have HO2 := Lib.hid ho2
              have hb3 : Below w.heap.size w w3 := hb.trans (hb2.mono hgw)
              have kv3 := kv.below hb2 hgv
              have k73 := k7.below hb2 hg7
              clear ho2 hb2 hb kv k7 HR3 HA
              go_wp2_with fail
              go_loopw [10] (fun y wz => ∃ z : Int, -1 ≤ z ∧ z ≤ 5 ∧ y = .int .i64 z ∧ Hid (wz.ownsRow ge 5 1 (.slice D2 (L + 3) c2) (L + 3) (byts (acc ++ [b1, b2, b3]))) ∧ Below w.heap.size w wz ∧ Whole wz gv 5 #[Value.int .u8 0, .int .u8 1, .int .u8 2, .int .u8 127, .int .u8 128, .int .u8 129, .int .u8 255] ∧ Whole wz g7 5 #[Value.int .u8 (b1.toNat : Nat), .int .u8 (b2.toNat : Nat), .int .u8 (b3.toNat : Nat)]) (fun y _ => (5 - intOf y).toNat)
              case atStart => exact ⟨-1, by omega, by omega, rfl, HO2.out, hb3, kv3, k73⟩
              case round =>
                obtain ⟨z, hz1, hz2, rfl, HZ, hb, kv, k7⟩ := hrel
                by_cases hlz : z < 5
                · have hd3 : decide (z < 5) = true := by simp; omega
                  go_wp2_with fail
                  refine (varTakes_any _ _ 3 3 [b1, b2, b3] (Rd.of_heap k7 k7.lt (n := 3) (Nat.le_refl _)) (by omega) (by unfold maxLen; omega) z (wf_int z hz1 hz2) z).mono ?_
                  rintro en w5 ⟨rfl, hbn⟩
                  replace HZ := Lib.hid (own_ext HZ.out hbn)
                  replace hb := hb.trans (hbn.mono hb.size)
                  replace kv := kv.below hbn kv.lt
                  replace k7 := k7.below hbn k7.lt
                  clear hbn
                  go_wp2_with fail
                  refine (varTakes_any _ _ (L + 3) c2 _ (Rd.of_own HZ.out) (own_cap HZ.out).1 (own_cap HZ.out).2 z (wf_int z hz1 hz2) 2).mono ?_
                  rintro en w6 ⟨rfl, hbn⟩
                  replace HZ := Lib.hid (own_ext HZ.out hbn)
                  replace hb := hb.trans (hbn.mono hb.size)
                  replace kv := kv.below hbn kv.lt
                  replace k7 := k7.below hbn k7.lt
                  clear hbn
                  go_wp2_with fail
                  go_roundw
                  case rel => exact ⟨z + 1, by omega, by omega, by go_num, HZ, hb, kv, k7⟩
                  case measure => simp [intOf] <;> omega
                · have hd3 : decide (z < 5) = false := by simp; omega
                  go_wp2_with fail
                  go_roundw
                  case rel => exact ⟨i + 1, by omega, by go_num, hb, kv⟩
                  case measure => simp [intOf] <;> omega
        · have hd1 : decide ((i : Int) < 343) = false := by simp; omega
          go_wp2_with fail
          obtain ⟨gn, hgn⟩ : ∃ g, g = wr.heap.size := ⟨_, rfl⟩
          have kn : Whole (wr.alloc (.cells #[Value.int .u8 255, Value.int .u8 255, Value.int .u8 255, Value.int .u8 255, Value.int .u8 255, Value.int .u8 255, Value.int .u8 255, Value.int .u8 255, Value.int .u8 255] 5)) gn 5 #[Value.int .u8 255, Value.int .u8 255, Value.int .u8 255, Value.int .u8 255, Value.int .u8 255, Value.int .u8 255, Value.int .u8 255, Value.int .u8 255, Value.int .u8 255] := by rw [hgn]; exact Whole.new wr _ _
          replace hb := hb.alloc hb.size (.cells #[Value.int .u8 255, Value.int .u8 255, Value.int .u8 255, Value.int .u8 255, Value.int .u8 255, Value.int .u8 255, Value.int .u8 255, Value.int .u8 255, Value.int .u8 255] 5)
          generalize World.alloc wr _ = v5 at kn hb ⊢
          rw [← hgn]
          clear hgn hd1 hlt hi kv
          go_loopw [12] (fun y wz => ∃ c : Nat, c ≤ 256 ∧ y = .int .i64 c ∧ Below w.heap.size w wz ∧ Whole wz gn 5 #[Value.int .u8 255, Value.int .u8 255, Value.int .u8 255, Value.int .u8 255, Value.int .u8 255, Value.int .u8 255, Value.int .u8 255, Value.int .u8 255, Value.int .u8 255]) (fun y _ => 256 - (intOf y).toNat)
          case atStart => exact ⟨0, by omega, rfl, hb, kn⟩
          case round =>
            obtain ⟨c, hc, rfl, hb, kn⟩ := hrel
            by_cases hlc : c < 256
            · have hd2 : decide ((c : Int) < 256) = true := by simp; omega
              have q4 : IntKind.u8.wrap (c : Int) = (c : Int) := by rw [IntKind.wrap_u8']; omega
              have q5 : (c : Int) % 256 = (c : Int) := by omega
              have hcb : byts [UInt8.ofNat c, UInt8.ofNat c] = [Value.int .u8 (c : Int), .int .u8 (c : Int)] := by
                show [Value.int .u8 (((UInt8.ofNat c).toNat : Nat) : Int), Value.int .u8 (((UInt8.ofNat c).toNat : Nat) : Int)] = _
                rw [UInt8.toNat_ofNat', Nat.mod_eq_of_lt (show c < 2 ^ 8 by omega)]
              have HCB := Lib.hid hcb
              clear hcb
              go_wp2_with fail
              refine (own_at _ _ 9 9 [255, 255, 255, 255, 255, 255, 255, 255, 255] _ (Rd.of_heap kn kn.lt (n := 9) (Nat.le_refl _) : Rd _ _ 1 (some ⟨gn, 0, none⟩) 9 (byts [255, 255, 255, 255, 255, 255, 255, 255, 255])) (by omega)).mono ?_
              rintro en w6 ⟨D, cc, rfl, ho, hbn⟩
              have HO := Lib.hid ho
              have hgl := kn.lt
              have hsz6 := hbn.size
              have hszw := hb.size
              replace kn := kn.below hbn kn.lt
              replace hb := hb.trans (hbn.mono hb.size)
              clear ho hbn
              go_wp2_with (at_builtin; refine wpList_append_rd _ rfl (.tmp 107) (.tmp 112) _ rfl bytesV wr.heap.size _ 9 _ rfl (HO.out.alloc _) (w6.heap.size + 1) (some ⟨w6.heap.size, 0, none⟩) 2 2 _ rfl (Rd.newb w6 5 [UInt8.ofNat c, UInt8.ofNat c] #[.int .u8 (c : Int), .int .u8 (c : Int)] 2 HCB.out rfl) (byts_one _) (by unfold maxLen; omega) (by omega) (by simp; omega) ?_; intro D2 c2 w3 ho2 hb2 _ _)
              rw [← byts_append] at ho2
              have HO2 := Lib.hid ho2
              have hb3 : Below w.heap.size w w3 := (hb.alloc hb.size _).trans (hb2.mono hszw)
              have kn3 := (kn.alloc (.cells #[.int .u8 (c : Int), .int .u8 (c : Int)] 5)).below hb2 hgl
              clear ho2 hb2 hb kn
              refine (varTakes_any _ _ 11 c2 _ (Rd.of_own HO2.out) (own_cap HO2.out).1 (own_cap HO2.out).2 0 (by decide) 1).mono ?_
              rintro en w7 ⟨rfl, hbn⟩
              replace hb3 := hb3.trans (hbn.mono hb3.size)
              replace kn3 := kn3.below hbn kn3.lt
              clear hbn
              go_wp2_with fail
              go_roundw
              case rel => exact ⟨c + 1, by omega, by go_num, hb3, kn3⟩
              case measure => simp [intOf] <;> omega
            · have hd2 : decide ((c : Int) < 256) = false := by simp; omega
              have hmx : (11 : Nat) ≤ maxLen := by unfold maxLen; omega
              go_wp2_with fail
              refine (varTakes_any _ _ 9 9 [255, 255, 255, 255, 255, 255, 255, 255, 255] (Rd.of_heap kn kn.lt (n := 9) (Nat.le_refl _) : Rd _ _ 1 (some ⟨gn, 0, none⟩) 9 (byts [255, 255, 255, 255, 255, 255, 255, 255, 255])) (by omega) (by omega) 0 (by decide) 1).mono ?_
              rintro en w6 ⟨rfl, hbn⟩
              replace hb := hb.trans (hbn.mono hb.size)
              clear hbn
              go_wp2_with fail
              refine (varTakes_any _ none 0 0 [] (Rd.nil_ _ _ _ _) (by omega) (by omega) 0 (by decide) 0).mono ?_
              rintro en w7 ⟨rfl, hbn⟩
              replace hb := hb.trans (hbn.mono hb.size)
              clear hbn
              go_wp2_with fail
              refine (varTakes_any _ _ 3 3 [3, 97, 97] ((Rd.newb w7 5 [3, 97, 97] #[.int .u8 3, .int .u8 97, .int .u8 97] 3 rfl rfl).more (by simp)) (by omega) (by omega) 0 (by decide) (-1)).mono ?_
              rintro en w8 ⟨rfl, hbn⟩
              replace hb := (hb.alloc hb.size (.cells #[.int .u8 3, .int .u8 97, .int .u8 97] 5)).trans (hbn.mono (Nat.le_trans hb.size (by simp)))
              clear hbn
              go_wp2_with fail
              refine (varTakes_any _ _ 11 11 [255, 255, 255, 255, 255, 255, 255, 255, 255, 1, 97] ((Rd.newb w8 5 [255, 255, 255, 255, 255, 255, 255, 255, 255, 1, 97] #[.int .u8 255, .int .u8 255, .int .u8 255, .int .u8 255, .int .u8 255, .int .u8 255, .int .u8 255, .int .u8 255, .int .u8 255, .int .u8 1, .int .u8 97] 11 rfl rfl).more (by simp)) (by omega) hmx 0 (by decide) 1).mono ?_
              rintro en w9 ⟨rfl, hbn⟩
              replace hb := (hb.alloc hb.size (.cells #[.int .u8 255, .int .u8 255, .int .u8 255, .int .u8 255, .int .u8 255, .int .u8 255, .int .u8 255, .int .u8 255, .int .u8 255, .int .u8 1, .int .u8 97] 5)).trans (hbn.mono (Nat.le_trans hb.size (by simp)))
              clear hbn
              go_wp2_with fail
              refine (varBack_any _ none 0 0 [] (Rd.nil_ _ _ _ _) _ none 0 0 [] (Rd.nil_ _ _ _ _) none 0 0 [] (Rd.nil_ _ _ _ _) (by omega) (by omega)).mono ?_
              rintro en w10 ⟨rfl, hbn⟩
              replace hb := hb.trans (hbn.mono hb.size)
              clear hbn
              go_wp2_with fail
              refine (varWorks_any _).mono ?_
              rintro en w11 ⟨rfl, hbn⟩
              replace hb := hb.trans (hbn.mono hb.size)
              clear hbn
              go_wp2_with fail
              go_ret
              exact ⟨rfl, hb⟩
end Go.Proofs.Ytfiabgpegdkldaa
