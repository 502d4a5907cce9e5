/-
  Journals: the payload at a place, by its reference; references compared.
-/
import Derived.Test.YtnncohajlmbedaaJouMore
import Derived.Laws.StructEq
namespace Go.Proofs.Ytnncohajlmbedaa
open Go.RowKit
theorem jref_guard (op : BinOp) (x y : Operand) (xs ys : Array Value) (w : World) : (eqGuard op 73 x y (.agg xs) (.agg ys)).run Try.prog w = .ok () w := run_eqGuard_agg w op _ x y xs ys (by kernel_rfl)
theorem jref_equalIn (w : World) (a0 a1 b0 b1 : Int) :
    (Op.equalIn 10000 73 (.agg #[.int .u64 a0, .int .u64 a1]) (.agg #[.int .u64 b0, .int .u64 b1])).run Try.prog w = .ok (a0 == b0 && a1 == b1) w := by
  have hS : Try.prog.underlying 73 = some (.struct (Try.prog.fieldsOf 73)) := by kernel_rfl
  have hp : Try.prog.stoodInHeld 73 = false := by kernel_rfl
  rw [show (10000 : Nat) = 9999 + 1 from rfl, run_equalIn_agg w 9999 _ _ _ hS hp]
  simp only [Program.fieldsOf, Try.underlying73]
  have u1 := Try.underlying61
  have z1 := Try.isAgg61
  have z3 := Try.sizeOf61
  go_simp
  by_cases h0 : a0 = b0 <;> by_cases h1 : a1 = b1 <;> simp [h0, h1]
theorem jref_eql (w : World) (a0 a1 b0 b1 : Int) :
    (binOp .eql 73 (.agg #[.int .u64 a0, .int .u64 a1]) (.agg #[.int .u64 b0, .int .u64 b1])).run Try.prog w = .ok (.bool (a0 == b0 && a1 == b1)) w := by
  rw [run_eql_struct, jref_equalIn]
  rfl
theorem jref_neq (w : World) (a0 a1 b0 b1 : Int) :
    (binOp .neq 73 (.agg #[.int .u64 a0, .int .u64 a1]) (.agg #[.int .u64 b0, .int .u64 b1])).run Try.prog w = .ok (.bool (!(a0 == b0 && a1 == b1))) w := by
  rw [run_neq_struct, jref_equalIn]
  rfl
namespace Jou
/-- The payload at a place, if it is the one that is meant; the error. -/
def get (b : List UInt8) (p : Int) (rn rs : Nat) : List UInt8 × Nat :=
  if (next b p).2.2 ≠ 0 then ([], (next b p).2.2) else if (next b p).1.length = rn ∧ Crc.update 0 (next b p).1 = rs then ((next b p).1, 0) else ([], 110)
end Jou
attribute [local go_sem] match_undef Oper.growAt Oper.growUpon GSpec.fix GSpec.row GSpec.wh GSpec.own jref_guard jref_eql jref_neq jref_equalIn
attribute [local irreducible] wpList

set_option maxRecDepth 100000 in
set_option maxHeartbeats 8000000 in
theorem jget_any (w : World) (A : Option Addr) (n cap : Nat) (b : List UInt8) (B : Nat) (hB : B ≤ w.heap.size) (h : Rd w B 1 A n (byts b)) (hc : n ≤ cap) (hm : cap ≤ maxLen) (hn : n ≤ 1000000) (p : Int) (hp1 : -9223372036854775808 ≤ p) (hp2 : p ≤ 9223372036854775807) (rn rs : Nat) (r : List UInt8) (x : Nat) (hr : Jou.get b p rn rs = (r, x)) :
    Calls Try.prog 57 #[.slice A n cap, .int .i64 p, .agg #[.int .u64 (rn : Nat), .int .u64 (rs : Nat)]] w (BytP r x 5 w) := by
  have KB := Lib.hid (Whole.new w 73 #[.int .u64 (rn : Nat), .int .u64 (rs : Nat)])
  have hb0 := below1 w (.cells #[.int .u64 (rn : Nat), .int .u64 (rs : Nat)] 73)
  have hnx := jnext_any (w.alloc (.cells #[.int .u64 (rn : Nat), .int .u64 (rs : Nat)] 73)) A n cap b B (by simp; omega) (h.alloc hB (.cells #[.int .u64 (rn : Nat), .int .u64 (rs : Nat)] 73)) hc hm hn p hp1 hp2
  obtain ⟨t, ht⟩ : ∃ t, Jou.next b p = t := ⟨_, rfl⟩
  have hlen := Jou.next_len b p
  have hbl := h.blen
  rw [ht] at hnx hlen
  obtain ⟨bd, nx, y⟩ := t
  unfold JouP at hnx
  simp only at hnx hlen
  unfold Jou.get at hr
  rw [ht] at hr
  simp only at hr
  obtain ⟨m, hm1⟩ : ∃ m, bd.length = m := ⟨_, rfl⟩
  obtain ⟨S, hS⟩ : ∃ S, Crc.update 0 bd = S := ⟨_, rfl⟩
  rw [hm1] at hnx hr
  rw [hS] at hr
  have hml : m ≤ n := by omega
  have HNX := Lib.hid hnx
  have HM := Lib.hid hm1
  have HS := Lib.hid hS
  clear hnx ht hm1 hS h hlen hbl
  by_cases hy : y = 0
  · subst hy
    rw [if_neg (by simp)] at hr
    by_cases hsame : m = rn ∧ S = rs
    · rw [if_pos hsame] at hr
      obtain ⟨e1, e2⟩ := hsame
      obtain ⟨hr1, hr2⟩ : bd = r ∧ 0 = x := by injection hr with a b; exact ⟨a, b⟩
      subst hr1 hr2 e1 e2
      clear hr
      have t1 : (((m : Nat) : Int) == (m : Int)) = true := by simp
      have t2 : (((S : Nat) : Int) == (S : Int)) = true := by simp
      go_enter Try.func57, Try.ntmps57
      go_wp2_with fail
      refine HNX.out.mono ?_
      clear HNX
      rintro en w2 ⟨E, e, rfl, ho, hbn⟩
      have HO := Lib.hid ho
      have hb2 := hb0.trans (hbn.mono hb0.size)
      replace KB := Lib.hid (KB.out.below hbn KB.out.lt)
      clear ho hbn hb0
      go_wp2_with fail
      refine wp_region_grow (fun k' => List.lookup k' [(1, .fix (.agg #[.int .u64 (m : Nat), .int .u64 (S : Nat)])), (2, .fix (.agg #[.int .u64 (m : Nat), .int .u64 (S : Nat)]))]) (by as_aux_lemma => kernel_rfl) (by as_aux_lemma => kernel_rfl) ?_
      repeat (refine wpGrow_pure rfl (fun K hK => ?_); go_simp; refine hK.out _ ?_; clear hK K)
      refine wpGrow_eff _ rfl (fun wx he hcl => ?_) (fun _ K hK => ?_) rfl
      · clear hcl
        have hcon := jof_any wx E m e bd wx.heap.size (Nat.le_refl _) (Rd.of_own (own_ext HO.out he)) (own_cap HO.out).1 (own_cap HO.out).2 (by omega)
        rw [HS.out] at hcon
        go_simp
        all_goals exact hcon
      go_simp
      refine hK.out _ ?_
      clear hK K
      repeat (refine wpGrow_pure rfl (fun K hK => ?_); go_simp; refine hK.out _ ?_; clear hK K)
      refine wpGrow_eff _ rfl (fun wx he hcl => ?_) (fun _ K hK => ?_) rfl
      · clear hcl
        have kk := KB.out.below he KB.out.lt
        have hq0 := kk.cell 0
        have hq1 := kk.cell 1
        simp at hq0 hq1
        go_simp
        exact Below.refl _ _
      go_simp
      refine hK.out _ ?_
      clear hK K
      repeat (refine wpGrow_pure rfl (fun K hK => ?_); go_simp; refine hK.out _ ?_; clear hK K)
      refine wpGrow_nil fun wx he hfin => ?_
      clear hfin
      have hb3 := hb2.trans (he.mono hb2.size)
      replace HO := Lib.hid (own_ext HO.out he)
      clear he
      go_wp2_with fail
      go_ret2
      unfold BytP
      rw [HM.out]
      exact ⟨E, e, rfl, own_base HO.out (by simp), hb3⟩
    · rw [if_neg hsame] at hr
      obtain ⟨hr1, hr2⟩ : [] = r ∧ 110 = x := by injection hr with a b; exact ⟨a, b⟩
      subst hr1 hr2
      clear hr
      by_cases h1 : m = rn
      · subst h1
        have t1 : (((m : Nat) : Int) == (m : Int)) = true := by simp
        have t2 : (((S : Nat) : Int) == (rs : Int)) = false := by rw [beq_eq_false_iff_ne]; omega
        go_enter Try.func57, Try.ntmps57
        go_wp2_with fail
        refine HNX.out.mono ?_
        clear HNX
        rintro en w2 ⟨E, e, rfl, ho, hbn⟩
        have HO := Lib.hid ho
        have hb2 := hb0.trans (hbn.mono hb0.size)
        replace KB := Lib.hid (KB.out.below hbn KB.out.lt)
        clear ho hbn hb0
        go_wp2_with fail
        refine wp_region_grow (fun k' => List.lookup k' [(1, .fix (.agg #[.int .u64 (m : Nat), .int .u64 (S : Nat)])), (2, .fix (.agg #[.int .u64 (m : Nat), .int .u64 (rs : Nat)]))]) (by as_aux_lemma => kernel_rfl) (by as_aux_lemma => kernel_rfl) ?_
        repeat (refine wpGrow_pure rfl (fun K hK => ?_); go_simp; refine hK.out _ ?_; clear hK K)
        refine wpGrow_eff _ rfl (fun wx he hcl => ?_) (fun _ K hK => ?_) rfl
        · clear hcl
          have hcon := jof_any wx E m e bd wx.heap.size (Nat.le_refl _) (Rd.of_own (own_ext HO.out he)) (own_cap HO.out).1 (own_cap HO.out).2 (by omega)
          rw [HS.out] at hcon
          go_simp
          all_goals exact hcon
        go_simp
        refine hK.out _ ?_
        clear hK K
        repeat (refine wpGrow_pure rfl (fun K hK => ?_); go_simp; refine hK.out _ ?_; clear hK K)
        refine wpGrow_eff _ rfl (fun wx he hcl => ?_) (fun _ K hK => ?_) rfl
        · clear hcl
          have kk := KB.out.below he KB.out.lt
          have hq0 := kk.cell 0
          have hq1 := kk.cell 1
          simp at hq0 hq1
          go_simp
          exact Below.refl _ _
        go_simp
        refine hK.out _ ?_
        clear hK K
        repeat (refine wpGrow_pure rfl (fun K hK => ?_); go_simp; refine hK.out _ ?_; clear hK K)
        refine wpGrow_nil fun wx he hfin => ?_
        clear hfin
        have hb3 := hb2.trans (he.mono hb2.size)
        clear he
        go_wp2_with fail
        go_ret2
        exact ⟨none, 0, rfl, World.ownsRow_nil _ _ _ _, hb3⟩
      · have t1 : (((m : Nat) : Int) == (rn : Int)) = false := by rw [beq_eq_false_iff_ne]; omega
        go_enter Try.func57, Try.ntmps57
        go_wp2_with fail
        refine HNX.out.mono ?_
        clear HNX
        rintro en w2 ⟨E, e, rfl, ho, hbn⟩
        have HO := Lib.hid ho
        have hb2 := hb0.trans (hbn.mono hb0.size)
        replace KB := Lib.hid (KB.out.below hbn KB.out.lt)
        clear ho hbn hb0
        go_wp2_with fail
        refine wp_region_grow (fun k' => List.lookup k' [(1, .fix (.agg #[.int .u64 (m : Nat), .int .u64 (S : Nat)])), (2, .fix (.agg #[.int .u64 (rn : Nat), .int .u64 (rs : Nat)]))]) (by as_aux_lemma => kernel_rfl) (by as_aux_lemma => kernel_rfl) ?_
        repeat (refine wpGrow_pure rfl (fun K hK => ?_); go_simp; refine hK.out _ ?_; clear hK K)
        refine wpGrow_eff _ rfl (fun wx he hcl => ?_) (fun _ K hK => ?_) rfl
        · clear hcl
          have hcon := jof_any wx E m e bd wx.heap.size (Nat.le_refl _) (Rd.of_own (own_ext HO.out he)) (own_cap HO.out).1 (own_cap HO.out).2 (by omega)
          rw [HS.out] at hcon
          go_simp
          all_goals exact hcon
        go_simp
        refine hK.out _ ?_
        clear hK K
        repeat (refine wpGrow_pure rfl (fun K hK => ?_); go_simp; refine hK.out _ ?_; clear hK K)
        refine wpGrow_eff _ rfl (fun wx he hcl => ?_) (fun _ K hK => ?_) rfl
        · clear hcl
          have kk := KB.out.below he KB.out.lt
          have hq0 := kk.cell 0
          have hq1 := kk.cell 1
          simp at hq0 hq1
          go_simp
          exact Below.refl _ _
        go_simp
        refine hK.out _ ?_
        clear hK K
        repeat (refine wpGrow_pure rfl (fun K hK => ?_); go_simp; refine hK.out _ ?_; clear hK K)
        refine wpGrow_nil fun wx he hfin => ?_
        clear hfin
        have hb3 := hb2.trans (he.mono hb2.size)
        clear he
        go_wp2_with fail
        go_ret2
        exact ⟨none, 0, rfl, World.ownsRow_nil _ _ _ _, hb3⟩
  · rw [if_pos hy] at hr
    obtain ⟨hr1, hr2⟩ : [] = r ∧ y = x := by injection hr with a b; exact ⟨a, b⟩
    subst hr1 hr2
    clear hr
    have hyy : (((y : Nat) : Int) != 0) = true := by rw [bne_iff_ne]; omega
    go_enter Try.func57, Try.ntmps57
    go_wp2_with fail
    refine HNX.out.mono ?_
    clear HNX
    rintro en w2 ⟨E, e, rfl, ho, hbn⟩
    have HO := Lib.hid ho
    have hb2 := hb0.trans (hbn.mono hb0.size)
    replace KB := Lib.hid (KB.out.below hbn KB.out.lt)
    clear ho hbn hb0
    go_wp2_with fail
    go_ret2
    exact ⟨none, 0, rfl, World.ownsRow_nil _ _ _ _, hb2⟩

end Go.Proofs.Ytnncohajlmbedaa
