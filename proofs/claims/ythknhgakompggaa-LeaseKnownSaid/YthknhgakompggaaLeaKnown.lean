/-
  The walk of LeaseKnown: it returns true.
-/
import Derived.Test.YthknhgakompggaaLeaTells
import Derived.Test.YthknhgakompggaaLeaClocks
import Derived.Test.YthknhgakompggaaLeaFences
import Derived.Test.YthknhgakompggaaLeaChanges
import Derived.Test.YthknhgakompggaaGrowLast
namespace Go.Proofs.Ythknhgakompggaa
open Go.RowKit
/-- A new block of known cells: what 'alloc' makes of a variable. -/
def GSpec.box (base : Nat) (E : TypeId) (cs : Array Value) : GSpec :=
  ⟨Nat, 0, fun g => .pointer (some ⟨g, 0, none⟩), fun _ _ g w => base ≤ g ∧ Whole w g E cs, fun _ _ _ _ => rfl, fun _ _ _ _ _ h k => ⟨h.1, h.2.below k h.2.lt⟩⟩
attribute [local go_sem] match_undef Oper.growAt Oper.growUpon GSpec.fix GSpec.row GSpec.wh GSpec.own GSpec.box lease_guard lease_eql
attribute [local irreducible] wpList
theorem Rd.num0 {w : World} {B n g k : Nat} {l : List UInt64} (h : Rd w B 1 (some ⟨g, 0, none⟩) n (nums l)) (hk : k < n) : ∃ x : UInt64, w.cell? ⟨g, k, none⟩ = some (.int .u64 (x.toNat : Nat)) := by
  obtain ⟨b, o, hl, hA, _, hc⟩ := h.num hk
  injection hA with hA
  injection hA with e1 e2 _
  subst e1 e2
  rw [Nat.zero_add] at hc
  exact ⟨_, hc⟩
theorem Rd.leases3 {w : World} {g : Nat} {t : TypeId} {a b c : Ls} (h : Whole w g t (a.cs ++ b.cs ++ c.cs).toArray) : Rd w w.heap.size 5 (some ⟨g, 0, none⟩) 3 ([a, b, c].flatMap Ls.cs) := by
  refine ⟨by simp [Ls.cs], fun _ => ⟨g, 0, rfl, h.lt, fun j u hu => ?_⟩⟩
  rw [Nat.zero_add, h.cell j]
  simpa [Ls.cs] using hu
theorem Rd.acts3 {w : World} {g : Nat} {t : TypeId} {a b c : LAct} (h : Whole w g t (a.cs ++ b.cs ++ c.cs).toArray) : Rd w w.heap.size 4 (some ⟨g, 0, none⟩) 3 ([a, b, c].flatMap LAct.cs) := by
  refine ⟨by simp [LAct.cs], fun _ => ⟨g, 0, rfl, h.lt, fun j u hu => ?_⟩⟩
  rw [Nat.zero_add, h.cell j]
  simpa [LAct.cs] using hu

set_option maxRecDepth 100000 in
set_option maxHeartbeats 20000000 in
theorem leaKnown_any (w : World) :
    Calls Try.prog 7 #[] w fun en w' => en = .returned (.bool true) ∧ Below w.heap.size w w' := by
  obtain ⟨L, hL⟩ : ∃ L : List UInt64, L = [0, 1, 2, 9, 10, 11, 18446744073709551614, 18446744073709551615] := ⟨_, rfl⟩
  have hr : Rd (w.alloc (.cells #[.int .u64 0, .int .u64 1, .int .u64 2, .int .u64 9, .int .u64 10, .int .u64 11, .int .u64 18446744073709551614, .int .u64 18446744073709551615] 22)) (w.alloc (.cells #[.int .u64 0, .int .u64 1, .int .u64 2, .int .u64 9, .int .u64 10, .int .u64 11, .int .u64 18446744073709551614, .int .u64 18446744073709551615] 22)).heap.size 1 (some ⟨w.heap.size, 0, none⟩) 8 (nums L) := by
    subst hL
    exact Rd.of_heap (Whole.new _ _ _) (by simp) (n := 8) (by decide)
  clear hL
  have hb0 := below1 w (.cells #[.int .u64 0, .int .u64 1, .int .u64 2, .int .u64 9, .int .u64 10, .int .u64 11, .int .u64 18446744073709551614, .int .u64 18446744073709551615] 22)
  have H := Lib.hid hr
  have HB0 := Lib.hid hb0
  clear hr hb0
  go_enter Try.func7, Try.ntmps7
  go_wp2_with fail
  generalize World.alloc w (.cells #[.int .u64 0, .int .u64 1, .int .u64 2, .int .u64 9, .int .u64 10, .int .u64 11, .int .u64 18446744073709551614, .int .u64 18446744073709551615] 22) = w1 at H HB0 ⊢
  have HGZ := Lib.hid ((H.out.2 (by omega)).elim fun b hh => hh.elim fun o ho => show w.heap.size < w1.heap.size from by have h1 := ho.1; injection h1 with h1; injection h1 with h1 _ _; have := ho.2.1; omega)
  have hbz := Below.refl w1.heap.size w1
  go_loopw [3] (fun x wr => ∃ i : Nat, i ≤ 8 ∧ x = .int .i64 i ∧ Below w1.heap.size w1 wr) (fun x _ => 8 - (intOf x).toNat)
  case atStart => exact ⟨0, by omega, rfl, hbz⟩
  case round =>
    clear hbz
    obtain ⟨i, hi, rfl, hb⟩ := hrel
    by_cases hlt : i < 8
    · have hd : decide ((i : Int) < 8) = true := by simp; omega
      obtain ⟨wa, rfl⟩ : ∃ wa : World, wa = wr := ⟨_, rfl⟩
      go_wp2_with fail
      go_loopw [4] (fun x wr => ∃ k : Nat, k ≤ 8 ∧ x = .int .i64 k ∧ Below w1.heap.size w1 wr) (fun x _ => 8 - (intOf x).toNat)
      case atStart => exact ⟨0, by omega, rfl, hb⟩
      case round =>
        clear hb
        obtain ⟨k, hk, rfl, hb⟩ := hrel
        by_cases hlt2 : k < 8
        · have hd2 : decide ((k : Int) < 8) = true := by simp; omega
          obtain ⟨wb, rfl⟩ : ∃ wb : World, wb = wr := ⟨_, rfl⟩
          go_wp2_with fail
          go_loopw [5] (fun x wr => ∃ n : Nat, n ≤ 8 ∧ x = .int .i64 n ∧ Below w1.heap.size w1 wr) (fun x _ => 8 - (intOf x).toNat)
          case atStart => exact ⟨0, by omega, rfl, hb⟩
          case round =>
            clear hb
            obtain ⟨n, hn, rfl, hb⟩ := hrel
            by_cases hlt3 : n < 8
            · have hd3 : decide ((n : Int) < 8) = true := by simp; omega
              go_wp2_with fail
              obtain ⟨m, hm⟩ : ∃ m : Nat, (k + n) % 8 = m := ⟨_, rfl⟩
              have hm8 : m < 8 := by omega
              have s1 : IntKind.i64.wrap ((i : Int) + (k : Int)) = (i : Int) + (k : Int) := by rw [IntKind.wrap_i64]; omega
              have s2 : IntKind.i64.wrap ((i : Int) + (k : Int) + (n : Int)) = (i : Int) + (k : Int) + (n : Int) := by rw [IntKind.wrap_i64]; omega
              have s3 : IntKind.i64.wrap ((k : Int) + (n : Int)) = (k : Int) + (n : Int) := by rw [IntKind.wrap_i64]; omega
              have s4 : ((k : Int) + (n : Int)).tmod 8 = (m : Int) := by rw [Int.tmod_eq_emod_of_nonneg (by omega)]; omega
              obtain ⟨B, s5⟩ : ∃ B, decide ((0 : Int) < ((i : Int) + (k : Int) + (n : Int)).tmod 3) = B := ⟨_, rfl⟩
              obtain ⟨x, qx⟩ := Rd.num0 H.out hlt
              obtain ⟨y, qy⟩ := Rd.num0 H.out hlt2
              obtain ⟨z, qz⟩ := Rd.num0 H.out hlt3
              obtain ⟨v, qv⟩ := Rd.num0 H.out hm8
              have Qx0 := Lib.hid qx
              have Qy0 := Lib.hid qy
              have Qz0 := Lib.hid qz
              have Qv0 := Lib.hid qv
              have Qx := Lib.hid ((hb.cell (p := ⟨w.heap.size, i, none⟩) HGZ.out).trans Qx0.out)
              have Qy := Lib.hid ((hb.cell (p := ⟨w.heap.size, k, none⟩) HGZ.out).trans Qy0.out)
              have Qz := Lib.hid ((hb.cell (p := ⟨w.heap.size, n, none⟩) HGZ.out).trans Qz0.out)
              have Qv := Lib.hid ((hb.cell (p := ⟨w.heap.size, m, none⟩) HGZ.out).trans Qv0.out)
              have GL := Lib.hid (Nat.lt_of_lt_of_le HGZ.out hb.size)
              have HL := Lib.hid (show Ls.ok ⟨z.toNat, 1, y.toNat, x.toNat, B⟩ from ⟨z.toNat_lt, by show 1 < _; omega, y.toNat_lt, x.toNat_lt⟩)
              have HX := Lib.hid (show ∀ a ∈ ([⟨(n : Nat), 1, y.toNat, z.toNat⟩, ⟨(k : Nat), 2, 0, 0⟩, ⟨(i : Nat), 1, y.toNat, 0⟩] : List LAct), a.ok from by
                have h1 := y.toNat_lt
                have h2 := z.toNat_lt
                intro a ha
                simp only [List.mem_cons, List.not_mem_nil, or_false] at ha
                rcases ha with rfl | rfl | rfl <;> (unfold LAct.ok; simp only; omega))
              clear qx qy qz qv hm
              have i1 : (0 : Int) ≤ (i : Int) := by omega
              have i2 : (i : Int) < 8 := by omega
              have k1 : (0 : Int) ≤ (k : Int) := by omega
              have k2 : (k : Int) < 8 := by omega
              have n1 : (0 : Int) ≤ (n : Int) := by omega
              have n2 : (n : Int) < 8 := by omega
              have m1 : (0 : Int) ≤ (m : Int) := by omega
              have m2 : (m : Int) < 8 := by omega
              refine wp_region_last (fun k' => List.lookup k' [(3, .fix (.int .u64 (z.toNat : Nat))), (7, .fix (.int .u64 (y.toNat : Nat))), (11, .fix (.int .u64 (x.toNat : Nat))), (20, .box wr.heap.size 24 #[.int .u64 0, .int .u64 0, .int .u64 0, .int .u64 0, .bool false])]) _ rfl (by as_aux_lemma => kernel_rfl) (by as_aux_lemma => kernel_rfl) (by as_aux_lemma => kernel_rfl) (by as_aux_lemma => kernel_rfl) rfl rfl ?_
              simp only [List.dropLast]
              repeat (refine wpGrow_pure rfl (fun K hK => ?_); go_simp; refine hK.out _ ?_; clear hK K)
              refine wpGrow_eff _ rfl (fun wx he hcl => ?_) (fun _ K hK => ?_) rfl
              · clear hcl
                have hq := (he.cell (p := ⟨w.heap.size, n, none⟩) GL.out).trans Qz.out
                go_simp
                exact Below.refl _ _
              go_simp
              refine hK.out _ ?_
              clear hK K
              repeat (refine wpGrow_pure rfl (fun K hK => ?_); go_simp; refine hK.out _ ?_; clear hK K)
              refine wpGrow_eff _ rfl (fun wx he hcl => ?_) (fun _ K hK => ?_) rfl
              · clear hcl
                have hq := (he.cell (p := ⟨w.heap.size, k, none⟩) GL.out).trans Qy.out
                go_simp
                exact Below.refl _ _
              go_simp
              refine hK.out _ ?_
              clear hK K
              repeat (refine wpGrow_pure rfl (fun K hK => ?_); go_simp; refine hK.out _ ?_; clear hK K)
              refine wpGrow_eff _ rfl (fun wx he hcl => ?_) (fun _ K hK => ?_) rfl
              · clear hcl
                have hq := (he.cell (p := ⟨w.heap.size, i, none⟩) GL.out).trans Qx.out
                go_simp
                exact Below.refl _ _
              go_simp
              refine hK.out _ ?_
              clear hK K
              repeat (refine wpGrow_pure rfl (fun K hK => ?_); go_simp; refine hK.out _ ?_; clear hK K)
              refine wpGrow_eff _ rfl (fun wx he hcl => ?_) (fun (g6 : Nat) K hK => ?_) rfl
              · clear hcl
                have hez := he.size
                go_simp
                exact ⟨Whole.new _ _ _, (Below.refl _ _).alloc (Nat.le_refl _) _⟩
              go_simp
              refine hK.out _ ?_
              clear hK K
              repeat (refine wpGrow_pure rfl (fun K hK => ?_); go_simp; refine hK.out _ ?_; clear hK K)
              refine wpGrow_nil fun wx he hfin => ?_
              have hw6 : wr.heap.size ≤ g6 ∧ Whole wx g6 24 #[.int .u64 0, .int .u64 0, .int .u64 0, .int .u64 0, .bool false] := hfin.out 20
              obtain ⟨hg6, ka⟩ := hw6
              have hg6b : w1.heap.size ≤ g6 := Nat.le_trans hb.size hg6
              have hba := hb.trans (he.mono hb.size)
              have q0 := ka.cell 0
              have q1 := ka.cell 1
              have q2 := ka.cell 2
              have q3 := ka.cell 3
              have q4 := ka.cell 4
              simp at q0 q1 q2 q3 q4
              have f0 := ka.frozen 0
              have f1 := ka.frozen 1
              have f2 := ka.frozen 2
              have f3 := ka.frozen 3
              have f4 := ka.frozen 4
              clear hfin he hb Qx Qy Qz Qv GL s1 s2
              have hb5 := below5 (g := g6) hba hg6b (.int .u64 (z.toNat : Nat)) (.int .u64 1) (.int .u64 (y.toNat : Nat)) (.int .u64 (x.toNat : Nat)) (.bool B)
              have k1n := whole5 ka (.int .u64 (z.toNat : Nat)) (.int .u64 1) (.int .u64 (y.toNat : Nat)) (.int .u64 (x.toNat : Nat)) (.bool B)
              go_wp2_with fail
              generalize World.setCell (World.setCell (World.setCell (World.setCell (World.setCell _ _ _) _ _) _ _) _ _) _ _ = w9 at k1n hb5 ⊢
              clear q0 q1 q2 q3 q4 f0 f1 f2 f3 f4 ka hba hg6 hg6b s5
              have HW6 := Lib.hid k1n
              have hb := hb5
              clear k1n hb5
              have Qx := Lib.hid ((hb.cell (p := ⟨w.heap.size, i, none⟩) HGZ.out).trans Qx0.out)
              have Qy := Lib.hid ((hb.cell (p := ⟨w.heap.size, k, none⟩) HGZ.out).trans Qy0.out)
              have Qz := Lib.hid ((hb.cell (p := ⟨w.heap.size, n, none⟩) HGZ.out).trans Qz0.out)
              have Qv := Lib.hid ((hb.cell (p := ⟨w.heap.size, m, none⟩) HGZ.out).trans Qv0.out)
              have GL := Lib.hid (Nat.lt_of_lt_of_le HGZ.out hb.size)
              simp only [List.append_eq, List.cons_append, List.nil_append]
              refine wp_region_grow (fun k' => List.lookup k' [(0, .fix (.agg #[.int .u64 (z.toNat : Nat), .int .u64 1, .int .u64 (y.toNat : Nat), .int .u64 (x.toNat : Nat), .bool B])), (4, .fix (.int .u64 (y.toNat : Nat))), (8, .fix (.int .u64 (z.toNat : Nat))), (12, .fix (.int .u64 (y.toNat : Nat))), (16, .fix (.int .u64 (z.toNat : Nat))), (17, .fix (.bool true)), (20, .fix (.agg #[.int .u64 (z.toNat : Nat), .int .u64 1, .int .u64 (y.toNat : Nat), .int .u64 (x.toNat : Nat), .bool B])), (24, .fix (.int .u64 (z.toNat : Nat))), (28, .fix (.int .u64 (y.toNat : Nat))), (32, .fix (.int .u64 (z.toNat : Nat))), (33, .fix (.bool true)), (37, .fix (.agg #[.int .u64 (z.toNat : Nat), .int .u64 1, .int .u64 (y.toNat : Nat), .int .u64 (x.toNat : Nat), .bool B])), (41, .fix (.int .u64 (y.toNat : Nat))), (45, .fix (.int .u64 (z.toNat : Nat))), (49, .fix (.int .u64 (y.toNat : Nat))), (50, .fix (.agg #[.int .u64 (z.toNat : Nat), .int .u64 1, .int .u64 (y.toNat : Nat), .int .u64 (x.toNat : Nat), .bool B])), (54, .fix (.int .u64 (y.toNat : Nat))), (59, .fix (.int .u64 (z.toNat : Nat))), (61, .wh 24 3 #[.int .u64 (z.toNat : Nat), .int .u64 1, .int .u64 (y.toNat : Nat), .int .u64 (x.toNat : Nat), .bool B, .int .u64 (y.toNat : Nat), .int .u64 0, .int .u64 0, .int .u64 0, .bool false, .int .u64 (z.toNat : Nat), .int .u64 9, .int .u64 0, .int .u64 0, .bool false]), (62, .fix (.bool true)), (66, .fix (.agg #[.int .u64 (z.toNat : Nat), .int .u64 1, .int .u64 (y.toNat : Nat), .int .u64 (x.toNat : Nat), .bool B])), (70, .fix (.int .u64 (y.toNat : Nat))), (74, .fix (.int .u64 (z.toNat : Nat))), (81, .fix (.int .u64 (v.toNat : Nat))), (82, .fix (.bool true))]) (by as_aux_lemma => kernel_rfl) (by as_aux_lemma => kernel_rfl) ?_
              repeat (refine wpGrow_pure rfl (fun K hK => ?_); go_simp; refine hK.out _ ?_; clear hK K)
              refine wpGrow_eff _ rfl (fun wx he hcl => ?_) (fun _ K hK => ?_) rfl
              · clear hcl
                have hw := HW6.out.below he HW6.out.lt
                have q0 := hw.cell 0
                have q1 := hw.cell 1
                have q2 := hw.cell 2
                have q3 := hw.cell 3
                have q4 := hw.cell 4
                simp at q0 q1 q2 q3 q4
                go_simp
                exact Below.refl _ _
              go_simp
              refine hK.out _ ?_
              clear hK K
              repeat (refine wpGrow_pure rfl (fun K hK => ?_); go_simp; refine hK.out _ ?_; clear hK K)
              refine wpGrow_eff _ rfl (fun wx he hcl => ?_) (fun _ K hK => ?_) rfl
              · clear hcl
                have hq := (he.cell (p := ⟨w.heap.size, k, none⟩) GL.out).trans Qy.out
                go_simp
                exact Below.refl _ _
              go_simp
              refine hK.out _ ?_
              clear hK K
              repeat (refine wpGrow_pure rfl (fun K hK => ?_); go_simp; refine hK.out _ ?_; clear hK K)
              refine wpGrow_eff _ rfl (fun wx he hcl => ?_) (fun _ K hK => ?_) rfl
              · clear hcl
                have hq := (he.cell (p := ⟨w.heap.size, n, none⟩) GL.out).trans Qz.out
                go_simp
                exact Below.refl _ _
              go_simp
              refine hK.out _ ?_
              clear hK K
              repeat (refine wpGrow_pure rfl (fun K hK => ?_); go_simp; refine hK.out _ ?_; clear hK K)
              refine wpGrow_eff _ rfl (fun wx he hcl => ?_) (fun _ K hK => ?_) rfl
              · clear hcl
                have hq := (he.cell (p := ⟨w.heap.size, k, none⟩) GL.out).trans Qy.out
                go_simp
                exact Below.refl _ _
              go_simp
              refine hK.out _ ?_
              clear hK K
              repeat (refine wpGrow_pure rfl (fun K hK => ?_); go_simp; refine hK.out _ ?_; clear hK K)
              refine wpGrow_eff _ rfl (fun wx he hcl => ?_) (fun _ K hK => ?_) rfl
              · clear hcl
                have hq := (he.cell (p := ⟨w.heap.size, n, none⟩) GL.out).trans Qz.out
                go_simp
                exact Below.refl _ _
              go_simp
              refine hK.out _ ?_
              clear hK K
              repeat (refine wpGrow_pure rfl (fun K hK => ?_); go_simp; refine hK.out _ ?_; clear hK K)
              refine wpGrow_eff _ rfl (fun wx he hcl => ?_) (fun _ K hK => ?_) rfl
              · clear hcl
                have hcon := leaTells_any wx ⟨z.toNat, 1, y.toNat, x.toNat, B⟩ HL.out y.toNat z.toNat 1 y.toNat z.toNat y.toNat_lt z.toNat_lt
                go_simp
                all_goals exact hcon
              go_simp
              refine hK.out _ ?_
              clear hK K
              repeat (refine wpGrow_pure rfl (fun K hK => ?_); go_simp; refine hK.out _ ?_; clear hK K)
              refine wpGrow_eff _ rfl (fun wx he hcl => ?_) (fun _ K hK => ?_) rfl
              · clear hcl
                have hw := HW6.out.below he HW6.out.lt
                have q0 := hw.cell 0
                have q1 := hw.cell 1
                have q2 := hw.cell 2
                have q3 := hw.cell 3
                have q4 := hw.cell 4
                simp at q0 q1 q2 q3 q4
                go_simp
                exact Below.refl _ _
              go_simp
              refine hK.out _ ?_
              clear hK K
              repeat (refine wpGrow_pure rfl (fun K hK => ?_); go_simp; refine hK.out _ ?_; clear hK K)
              refine wpGrow_eff _ rfl (fun wx he hcl => ?_) (fun _ K hK => ?_) rfl
              · clear hcl
                have hq := (he.cell (p := ⟨w.heap.size, n, none⟩) GL.out).trans Qz.out
                go_simp
                exact Below.refl _ _
              go_simp
              refine hK.out _ ?_
              clear hK K
              repeat (refine wpGrow_pure rfl (fun K hK => ?_); go_simp; refine hK.out _ ?_; clear hK K)
              refine wpGrow_eff _ rfl (fun wx he hcl => ?_) (fun _ K hK => ?_) rfl
              · clear hcl
                have hq := (he.cell (p := ⟨w.heap.size, k, none⟩) GL.out).trans Qy.out
                go_simp
                exact Below.refl _ _
              go_simp
              refine hK.out _ ?_
              clear hK K
              repeat (refine wpGrow_pure rfl (fun K hK => ?_); go_simp; refine hK.out _ ?_; clear hK K)
              refine wpGrow_eff _ rfl (fun wx he hcl => ?_) (fun _ K hK => ?_) rfl
              · clear hcl
                have hq := (he.cell (p := ⟨w.heap.size, n, none⟩) GL.out).trans Qz.out
                go_simp
                exact Below.refl _ _
              go_simp
              refine hK.out _ ?_
              clear hK K
              repeat (refine wpGrow_pure rfl (fun K hK => ?_); go_simp; refine hK.out _ ?_; clear hK K)
              refine wpGrow_eff _ rfl (fun wx he hcl => ?_) (fun _ K hK => ?_) rfl
              · clear hcl
                have hcon := leaTells_any wx ⟨z.toNat, 1, y.toNat, x.toNat, B⟩ HL.out z.toNat y.toNat 1 2 z.toNat z.toNat_lt y.toNat_lt
                go_simp
                all_goals exact hcon
              go_simp
              refine hK.out _ ?_
              clear hK K
              repeat (refine wpGrow_pure rfl (fun K hK => ?_); go_simp; refine hK.out _ ?_; clear hK K)
              refine wpGrow_eff _ rfl (fun wx he hcl => ?_) (fun _ K hK => ?_) rfl
              · clear hcl
                have hw := HW6.out.below he HW6.out.lt
                have q0 := hw.cell 0
                have q1 := hw.cell 1
                have q2 := hw.cell 2
                have q3 := hw.cell 3
                have q4 := hw.cell 4
                simp at q0 q1 q2 q3 q4
                go_simp
                exact Below.refl _ _
              go_simp
              refine hK.out _ ?_
              clear hK K
              repeat (refine wpGrow_pure rfl (fun K hK => ?_); go_simp; refine hK.out _ ?_; clear hK K)
              refine wpGrow_eff _ rfl (fun wx he hcl => ?_) (fun _ K hK => ?_) rfl
              · clear hcl
                have hq := (he.cell (p := ⟨w.heap.size, k, none⟩) GL.out).trans Qy.out
                go_simp
                exact Below.refl _ _
              go_simp
              refine hK.out _ ?_
              clear hK K
              repeat (refine wpGrow_pure rfl (fun K hK => ?_); go_simp; refine hK.out _ ?_; clear hK K)
              refine wpGrow_eff _ rfl (fun wx he hcl => ?_) (fun _ K hK => ?_) rfl
              · clear hcl
                have hq := (he.cell (p := ⟨w.heap.size, n, none⟩) GL.out).trans Qz.out
                go_simp
                exact Below.refl _ _
              go_simp
              refine hK.out _ ?_
              clear hK K
              repeat (refine wpGrow_pure rfl (fun K hK => ?_); go_simp; refine hK.out _ ?_; clear hK K)
              refine wpGrow_eff _ rfl (fun wx he hcl => ?_) (fun _ K hK => ?_) rfl
              · clear hcl
                have hq := (he.cell (p := ⟨w.heap.size, k, none⟩) GL.out).trans Qy.out
                go_simp
                exact Below.refl _ _
              go_simp
              refine hK.out _ ?_
              clear hK K
              repeat (refine wpGrow_pure rfl (fun K hK => ?_); go_simp; refine hK.out _ ?_; clear hK K)
              refine wpGrow_eff _ rfl (fun wx he hcl => ?_) (fun _ K hK => ?_) rfl
              · clear hcl
                have hw := HW6.out.below he HW6.out.lt
                have q0 := hw.cell 0
                have q1 := hw.cell 1
                have q2 := hw.cell 2
                have q3 := hw.cell 3
                have q4 := hw.cell 4
                simp at q0 q1 q2 q3 q4
                go_simp
                exact Below.refl _ _
              go_simp
              refine hK.out _ ?_
              clear hK K
              repeat (refine wpGrow_pure rfl (fun K hK => ?_); go_simp; refine hK.out _ ?_; clear hK K)
              refine wpGrow_eff _ rfl (fun wx he hcl => ?_) (fun _ K hK => ?_) rfl
              · clear hcl
                have hq := (he.cell (p := ⟨w.heap.size, k, none⟩) GL.out).trans Qy.out
                go_simp
                exact Below.refl _ _
              go_simp
              refine hK.out _ ?_
              clear hK K
              repeat (refine wpGrow_pure rfl (fun K hK => ?_); go_simp; refine hK.out _ ?_; clear hK K)
              refine wpGrow_eff _ rfl (fun wx he hcl => ?_) (fun _ K hK => ?_) rfl
              · clear hcl
                have hq := (he.cell (p := ⟨w.heap.size, n, none⟩) GL.out).trans Qz.out
                go_simp
                exact Below.refl _ _
              go_simp
              refine hK.out _ ?_
              clear hK K
              repeat (refine wpGrow_pure rfl (fun K hK => ?_); go_simp; refine hK.out _ ?_; clear hK K)
              refine wpGrow_eff _ rfl (fun wx he hcl => ?_) (fun (g110 : Nat) K hK => ?_) rfl
              · clear hcl
                go_simp
                exact ⟨Whole.new _ _ _, (Below.refl _ _).alloc (Nat.le_refl _) _⟩
              go_simp
              refine hK.out _ ?_
              clear hK K
              repeat (refine wpGrow_pure rfl (fun K hK => ?_); go_simp; refine hK.out _ ?_; clear hK K)
              refine wpGrow_eff _ rfl (fun wx he hcl => ?_) (fun _ K hK => ?_) rfl
              · have hw110 : Whole wx g110 24 #[.int .u64 (z.toNat : Nat), .int .u64 1, .int .u64 (y.toNat : Nat), .int .u64 (x.toNat : Nat), .bool B, .int .u64 (y.toNat : Nat), .int .u64 0, .int .u64 0, .int .u64 0, .bool false, .int .u64 (z.toNat : Nat), .int .u64 9, .int .u64 0, .int .u64 0, .bool false] := hcl.out 61 rfl
                clear hcl
                have hcon := leaChanges_any wx ⟨z.toNat, 1, y.toNat, x.toNat, B⟩ HL.out y.toNat z.toNat y.toNat (some ⟨g110, 0, none⟩) 3 3 [⟨z.toNat, 1, y.toNat, x.toNat, B⟩, ⟨y.toNat, 0, 0, 0, false⟩, ⟨z.toNat, 9, 0, 0, false⟩] (Rd.leases3 hw110) rfl
                go_simp
                all_goals exact hcon
              go_simp
              refine hK.out _ ?_
              clear hK K
              repeat (refine wpGrow_pure rfl (fun K hK => ?_); go_simp; refine hK.out _ ?_; clear hK K)
              refine wpGrow_eff _ rfl (fun wx he hcl => ?_) (fun _ K hK => ?_) rfl
              · clear hcl
                have hw := HW6.out.below he HW6.out.lt
                have q0 := hw.cell 0
                have q1 := hw.cell 1
                have q2 := hw.cell 2
                have q3 := hw.cell 3
                have q4 := hw.cell 4
                simp at q0 q1 q2 q3 q4
                go_simp
                exact Below.refl _ _
              go_simp
              refine hK.out _ ?_
              clear hK K
              repeat (refine wpGrow_pure rfl (fun K hK => ?_); go_simp; refine hK.out _ ?_; clear hK K)
              refine wpGrow_eff _ rfl (fun wx he hcl => ?_) (fun _ K hK => ?_) rfl
              · clear hcl
                have hq := (he.cell (p := ⟨w.heap.size, k, none⟩) GL.out).trans Qy.out
                go_simp
                exact Below.refl _ _
              go_simp
              refine hK.out _ ?_
              clear hK K
              repeat (refine wpGrow_pure rfl (fun K hK => ?_); go_simp; refine hK.out _ ?_; clear hK K)
              refine wpGrow_eff _ rfl (fun wx he hcl => ?_) (fun _ K hK => ?_) rfl
              · clear hcl
                have hq := (he.cell (p := ⟨w.heap.size, n, none⟩) GL.out).trans Qz.out
                go_simp
                exact Below.refl _ _
              go_simp
              refine hK.out _ ?_
              clear hK K
              repeat (refine wpGrow_pure rfl (fun K hK => ?_); go_simp; refine hK.out _ ?_; clear hK K)
              refine wpGrow_eff _ rfl (fun wx he hcl => ?_) (fun _ K hK => ?_) rfl
              · clear hcl
                have hq := (he.cell (p := ⟨w.heap.size, m, none⟩) GL.out).trans Qv.out
                go_simp
                exact Below.refl _ _
              go_simp
              refine hK.out _ ?_
              clear hK K
              repeat (refine wpGrow_pure rfl (fun K hK => ?_); go_simp; refine hK.out _ ?_; clear hK K)
              refine wpGrow_eff _ rfl (fun wx he hcl => ?_) (fun _ K hK => ?_) rfl
              · clear hcl
                have hcon := leaClocks_any wx ⟨z.toNat, 1, y.toNat, x.toNat, B⟩ HL.out y.toNat z.toNat v.toNat y.toNat_lt z.toNat_lt v.toNat_lt
                go_simp
                all_goals exact hcon
              go_simp
              refine hK.out _ ?_
              clear hK K
              repeat (refine wpGrow_pure rfl (fun K hK => ?_); go_simp; refine hK.out _ ?_; clear hK K)
              refine wpGrow_nil fun wx he hfin => ?_
              clear hfin
              replace HW6 := Lib.hid (HW6.out.below he HW6.out.lt)
              replace hb := hb.trans (he.mono hb.size)
              clear he Qx Qy Qz Qv GL s3 s4
              go_wp2_with fail
              have Qx := Lib.hid ((hb.cell (p := ⟨w.heap.size, i, none⟩) HGZ.out).trans Qx0.out)
              have Qy := Lib.hid ((hb.cell (p := ⟨w.heap.size, k, none⟩) HGZ.out).trans Qy0.out)
              have Qz := Lib.hid ((hb.cell (p := ⟨w.heap.size, n, none⟩) HGZ.out).trans Qz0.out)
              have Qv := Lib.hid ((hb.cell (p := ⟨w.heap.size, m, none⟩) HGZ.out).trans Qv0.out)
              have GL := Lib.hid (Nat.lt_of_lt_of_le HGZ.out hb.size)
              refine wp_region_grow (fun k' => List.lookup k' [(0, .fix (.agg #[.int .u64 (z.toNat : Nat), .int .u64 1, .int .u64 (y.toNat : Nat), .int .u64 (x.toNat : Nat), .bool B])), (5, .fix (.int .u64 (y.toNat : Nat))), (9, .fix (.int .u64 (z.toNat : Nat))), (17, .fix (.int .u64 (y.toNat : Nat))), (19, .wh 43 3 #[.int .i64 (n : Nat), .int .u64 1, .int .u64 (y.toNat : Nat), .int .u64 (z.toNat : Nat), .int .i64 (k : Nat), .int .u64 2, .int .u64 0, .int .u64 0, .int .i64 (i : Nat), .int .u64 1, .int .u64 (y.toNat : Nat), .int .u64 0]), (23, .fix (.int .u64 (y.toNat : Nat))), (27, .fix (.int .u64 (z.toNat : Nat))), (28, .fix (.bool true))]) (by as_aux_lemma => kernel_rfl) (by as_aux_lemma => kernel_rfl) ?_
              repeat (refine wpGrow_pure rfl (fun K hK => ?_); go_simp; refine hK.out _ ?_; clear hK K)
              refine wpGrow_eff _ rfl (fun wx he hcl => ?_) (fun _ K hK => ?_) rfl
              · clear hcl
                have hw := HW6.out.below he HW6.out.lt
                have q0 := hw.cell 0
                have q1 := hw.cell 1
                have q2 := hw.cell 2
                have q3 := hw.cell 3
                have q4 := hw.cell 4
                simp at q0 q1 q2 q3 q4
                go_simp
                exact Below.refl _ _
              go_simp
              refine hK.out _ ?_
              clear hK K
              repeat (refine wpGrow_pure rfl (fun K hK => ?_); go_simp; refine hK.out _ ?_; clear hK K)
              refine wpGrow_eff _ rfl (fun wx he hcl => ?_) (fun _ K hK => ?_) rfl
              · clear hcl
                have hq := (he.cell (p := ⟨w.heap.size, k, none⟩) GL.out).trans Qy.out
                go_simp
                exact Below.refl _ _
              go_simp
              refine hK.out _ ?_
              clear hK K
              repeat (refine wpGrow_pure rfl (fun K hK => ?_); go_simp; refine hK.out _ ?_; clear hK K)
              refine wpGrow_eff _ rfl (fun wx he hcl => ?_) (fun _ K hK => ?_) rfl
              · clear hcl
                have hq := (he.cell (p := ⟨w.heap.size, n, none⟩) GL.out).trans Qz.out
                go_simp
                exact Below.refl _ _
              go_simp
              refine hK.out _ ?_
              clear hK K
              repeat (refine wpGrow_pure rfl (fun K hK => ?_); go_simp; refine hK.out _ ?_; clear hK K)
              refine wpGrow_eff _ rfl (fun wx he hcl => ?_) (fun _ K hK => ?_) rfl
              · clear hcl
                have hq := (he.cell (p := ⟨w.heap.size, k, none⟩) GL.out).trans Qy.out
                go_simp
                exact Below.refl _ _
              go_simp
              refine hK.out _ ?_
              clear hK K
              repeat (refine wpGrow_pure rfl (fun K hK => ?_); go_simp; refine hK.out _ ?_; clear hK K)
              refine wpGrow_eff _ rfl (fun wx he hcl => ?_) (fun (g153 : Nat) K hK => ?_) rfl
              · clear hcl
                go_simp
                exact ⟨Whole.new _ _ _, (Below.refl _ _).alloc (Nat.le_refl _) _⟩
              go_simp
              refine hK.out _ ?_
              clear hK K
              repeat (refine wpGrow_pure rfl (fun K hK => ?_); go_simp; refine hK.out _ ?_; clear hK K)
              refine wpGrow_eff _ rfl (fun wx he hcl => ?_) (fun _ K hK => ?_) rfl
              · clear hcl
                have hq := (he.cell (p := ⟨w.heap.size, k, none⟩) GL.out).trans Qy.out
                go_simp
                exact Below.refl _ _
              go_simp
              refine hK.out _ ?_
              clear hK K
              repeat (refine wpGrow_pure rfl (fun K hK => ?_); go_simp; refine hK.out _ ?_; clear hK K)
              refine wpGrow_eff _ rfl (fun wx he hcl => ?_) (fun _ K hK => ?_) rfl
              · clear hcl
                have hq := (he.cell (p := ⟨w.heap.size, n, none⟩) GL.out).trans Qz.out
                go_simp
                exact Below.refl _ _
              go_simp
              refine hK.out _ ?_
              clear hK K
              repeat (refine wpGrow_pure rfl (fun K hK => ?_); go_simp; refine hK.out _ ?_; clear hK K)
              refine wpGrow_eff _ rfl (fun wx he hcl => ?_) (fun _ K hK => ?_) rfl
              · have hw153 : Whole wx g153 43 #[.int .i64 (n : Nat), .int .u64 1, .int .u64 (y.toNat : Nat), .int .u64 (z.toNat : Nat), .int .i64 (k : Nat), .int .u64 2, .int .u64 0, .int .u64 0, .int .i64 (i : Nat), .int .u64 1, .int .u64 (y.toNat : Nat), .int .u64 0] := hcl.out 19 rfl
                clear hcl
                have hcon := leaFences_any wx ⟨z.toNat, 1, y.toNat, x.toNat, B⟩ HL.out (some ⟨g153, 0, none⟩) 3 3 [⟨(n : Nat), 1, y.toNat, z.toNat⟩, ⟨(k : Nat), 2, 0, 0⟩, ⟨(i : Nat), 1, y.toNat, 0⟩] (Rd.acts3 hw153) rfl HX.out 1 y.toNat z.toNat z.toNat_lt
                go_simp
                all_goals exact hcon
              go_simp
              refine hK.out _ ?_
              clear hK K
              repeat (refine wpGrow_pure rfl (fun K hK => ?_); go_simp; refine hK.out _ ?_; clear hK K)
              refine wpGrow_nil fun wx he hfin => ?_
              clear hfin
              replace hb := hb.trans (he.mono hb.size)
              clear he
              go_wp2_with fail
              go_roundw
              case rel => exact ⟨n + 1, by omega, by go_num, hb⟩
              case measure => simp [intOf] <;> omega
            · obtain rfl : n = 8 := by omega
              go_wp2_with fail
              go_roundw
              case rel => exact ⟨k + 1, by omega, by go_num, hb⟩
              case measure => simp [intOf] <;> omega
        · obtain rfl : k = 8 := by omega
          go_wp2_with fail
          go_roundw
          case rel => exact ⟨i + 1, by omega, by go_num, hb⟩
          case measure => simp [intOf] <;> omega
    · obtain rfl : i = 8 := by omega
      replace hb := HB0.out.trans (hb.mono HB0.out.size)
      clear H HGZ HB0
      go_wp2_with fail
      refine (lea_last_any wr none 0 0 [] 0 (Nat.zero_le _) (Rd.nil_ _ _ _ _) rfl (by omega)).mono ?_
      rintro en w2 ⟨rfl, hbn⟩
      rw [show (Ls.lastTo [] 0).v = Value.agg #[.int .u64 0, .int .u64 0, .int .u64 0, .int .u64 0, .bool false] from rfl]
      replace hb := hb.trans (hbn.mono hb.size)
      clear hbn
      go_wp2_with fail
      refine (lea_works_any _).mono ?_
      rintro en w3 ⟨rfl, hbn⟩
      replace hb := hb.trans (hbn.mono hb.size)
      go_wp2_with fail
      go_ret
      exact ⟨rfl, hb⟩

end Go.Proofs.Ythknhgakompggaa
