/-
  The walk of ClockKnown: it returns true.
-/
import Derived.Test.YthknhgakompggaaCloPlays
import Derived.Test.YthknhgakompggaaCloPast
import Derived.Test.YthknhgakompggaaCloNone
namespace Go.Proofs.Ythknhgakompggaa
open Go.RowKit
attribute [local go_sem] match_undef Oper.growAt Oper.growUpon GSpec.fix GSpec.row GSpec.wh GSpec.own
theorem Rd.num0 {w : World} {B n g k : Nat} {l : List UInt64} (h : Rd w B 1 (some ⟨g, 0, none⟩) n (nums l)) (hk : k < n) : ∃ x : UInt64, w.cell? ⟨g, k, none⟩ = some (.int .u64 (x.toNat : Nat)) := by
  obtain ⟨b, o, hl, hA, _, hc⟩ := h.num hk
  injection hA with hA
  injection hA with e1 e2 _
  subst e1 e2
  rw [Nat.zero_add] at hc
  exact ⟨_, hc⟩
theorem Rd.acts {w : World} {g : Nat} {t : TypeId} {a b : CAct} (h : Whole w g t #[.int .i64 a.p, .int .u64 (a.y.toNat : Nat), .int .i64 b.p, .int .u64 (b.y.toNat : Nat)]) : Rd w w.heap.size 2 (some ⟨g, 0, none⟩) 2 ([a, b].flatMap CAct.cs) := by
  refine ⟨by simp [CAct.cs], fun _ => ⟨g, 0, rfl, h.lt, fun j u hu => ?_⟩⟩
  rw [Nat.zero_add, h.cell j]
  simpa [CAct.cs] using hu
attribute [local irreducible] wpList

set_option maxRecDepth 100000 in
set_option maxHeartbeats 20000000 in
theorem clo_new3 (w : World) :
    Calls Try.prog 48 #[.int .i64 3] w fun en w' => ∃ g D c, en = .returned (.pointer (some ⟨g, 0, none⟩)) ∧ ClkAt w' w.heap.size g D c 3 [0, 0, 0] ∧ Below w.heap.size w w' := by
  have hmk : ∀ w : World, (Instr.makeSlice 59 (.int .i64 3) (.int .i64 3)).run Try.prog w = .ok (.slice (some ⟨w.heap.size, 0, none⟩) 3 3) (w.alloc (.cells #[.int .u64 0, .int .u64 0, .int .u64 0] 22)) := fun _ => by kernel_rfl
  go_enter Try.func48, Try.ntmps48
  go_wp2_with fail
  go_ret
  refine ⟨(w.alloc (.cells #[.int .u64 0, .int .u64 0, .int .u64 0] 22)).heap.size, some ⟨w.heap.size, 0, none⟩, 3, by simp, ⟨by simp, Whole.new _ _ _, ?_⟩, ((Below.refl _ _).alloc (Nat.le_refl _) _).alloc (by simp) _⟩
  refine ⟨by simp [nums], .inr ⟨w.heap.size, 3, #[.int .u64 0, .int .u64 0, .int .u64 0], rfl, Nat.le_refl _, (Whole.new w 22 #[.int .u64 0, .int .u64 0, .int .u64 0]).alloc _, by omega, by unfold maxLen; omega, rfl, rfl⟩⟩

set_option maxRecDepth 100000 in
set_option maxHeartbeats 20000000 in
theorem clo_newm (w : World) :
    Calls Try.prog 48 #[.int .i64 (-1)] w fun en w' => ∃ g D c, en = .returned (.pointer (some ⟨g, 0, none⟩)) ∧ ClkAt w' w.heap.size g D c 0 [] ∧ Below w.heap.size w w' := by
  have hmk : ∀ w : World, (Instr.makeSlice 59 (.int .i64 0) (.int .i64 0)).run Try.prog w = .ok (.slice (some ⟨w.heap.size, 0, none⟩) 0 0) (w.alloc (.cells #[] 22)) := fun _ => by kernel_rfl
  go_enter Try.func48, Try.ntmps48
  go_wp2_with fail
  go_ret
  refine ⟨(w.alloc (.cells #[] 22)).heap.size, some ⟨w.heap.size, 0, none⟩, 0, by simp, ⟨by simp, Whole.new _ _ _, ?_⟩, ((Below.refl _ _).alloc (Nat.le_refl _) _).alloc (by simp) _⟩
  refine ⟨by simp [nums], .inr ⟨w.heap.size, 0, #[], rfl, Nat.le_refl _, (Whole.new w 22 #[]).alloc _, by omega, by unfold maxLen; omega, rfl, rfl⟩⟩

set_option maxRecDepth 100000 in
set_option maxHeartbeats 20000000 in
theorem clockKnown_any (w : World) :
    Calls Try.prog 12 #[] w fun en w' => en = .returned (.bool true) ∧ Below w.heap.size w w' := by
  obtain ⟨L, hL⟩ : ∃ L : List UInt64, L = [0, 1, 2, 9223372036854775807, 9223372036854775808, 18446744073709551614, 18446744073709551615] := ⟨_, rfl⟩
  have hr : Rd (w.alloc (.cells #[.int .u64 0, .int .u64 1, .int .u64 2, .int .u64 9223372036854775807, .int .u64 9223372036854775808, .int .u64 18446744073709551614, .int .u64 18446744073709551615] 22)) (w.alloc (.cells #[.int .u64 0, .int .u64 1, .int .u64 2, .int .u64 9223372036854775807, .int .u64 9223372036854775808, .int .u64 18446744073709551614, .int .u64 18446744073709551615] 22)).heap.size 1 (some ⟨w.heap.size, 0, none⟩) 7 (nums L) := by
    subst hL
    exact Rd.of_heap (Whole.new _ _ _) (by simp) (n := 7) (by decide)
  clear hL
  have hb0 := below1 w (.cells #[.int .u64 0, .int .u64 1, .int .u64 2, .int .u64 9223372036854775807, .int .u64 9223372036854775808, .int .u64 18446744073709551614, .int .u64 18446744073709551615] 22)
  have H := Lib.hid hr
  have HB0 := Lib.hid hb0
  clear hr hb0
  go_enter Try.func12, Try.ntmps12
  go_wp2_with fail
  generalize World.alloc w (.cells #[.int .u64 0, .int .u64 1, .int .u64 2, .int .u64 9223372036854775807, .int .u64 9223372036854775808, .int .u64 18446744073709551614, .int .u64 18446744073709551615] 22) = w1 at H HB0 ⊢
  have HGZ := Lib.hid ((H.out.2 (by omega)).elim fun b hh => hh.elim fun o ho => show w.heap.size < w1.heap.size from by have h1 := ho.1; injection h1 with h1; injection h1 with h1 _ _; have := ho.2.1; omega)
  have hbz := Below.refl w1.heap.size w1
  go_loopw [2] (fun x wr => ∃ i : Nat, i ≤ 7 ∧ x = .int .i64 i ∧ Below w1.heap.size w1 wr) (fun x _ => 7 - (intOf x).toNat)
  case atStart => exact ⟨0, by omega, rfl, hbz⟩
  case round =>
    clear hbz
    obtain ⟨i, hi, rfl, hb⟩ := hrel
    by_cases hlt : i < 7
    · have hd : decide ((i : Int) < 7) = true := by simp; omega
      obtain ⟨wa, rfl⟩ : ∃ wa : World, wa = wr := ⟨_, rfl⟩
      go_wp2_with fail
      go_loopw [3] (fun x wr => ∃ k : Nat, k ≤ 7 ∧ x = .int .i64 k ∧ Below w1.heap.size w1 wr) (fun x _ => 7 - (intOf x).toNat)
      case atStart => exact ⟨0, by omega, rfl, hb⟩
      case round =>
        clear hb
        obtain ⟨k, hk, rfl, hb⟩ := hrel
        by_cases hlt2 : k < 7
        · have hd2 : decide ((k : Int) < 7) = true := by simp; omega
          obtain ⟨wb, rfl⟩ : ∃ wb : World, wb = wr := ⟨_, rfl⟩
          go_wp2_with fail
          go_loopw [4] (fun x wr => ∃ n : Nat, n ≤ 7 ∧ x = .int .i64 n ∧ Below w1.heap.size w1 wr) (fun x _ => 7 - (intOf x).toNat)
          case atStart => exact ⟨0, by omega, rfl, hb⟩
          case round =>
            clear hb
            obtain ⟨n, hn, rfl, hb⟩ := hrel
            by_cases hlt3 : n < 7
            · have hd3 : decide ((n : Int) < 7) = true := by simp; omega
              go_wp2_with fail
              obtain ⟨x, qx⟩ := Rd.num0 (H.out.below hb) hlt
              obtain ⟨y, qy⟩ := Rd.num0 (H.out.below hb) hlt2
              obtain ⟨z, qz⟩ := Rd.num0 (H.out.below hb) hlt3
              have Qx := Lib.hid qx
              have Qy := Lib.hid qy
              have Qz := Lib.hid qz
              clear qx qy qz
              have GL := Lib.hid (Nat.lt_of_lt_of_le HGZ.out hb.size)
              have i1 : (0 : Int) ≤ (i : Int) := by omega
              have i2 : (i : Int) < 7 := by omega
              have k1 : (0 : Int) ≤ (k : Int) := by omega
              have k2 : (k : Int) < 7 := by omega
              have n1 : (0 : Int) ≤ (n : Int) := by omega
              have n2 : (n : Int) < 7 := by omega
              simp only [List.append_eq, List.cons_append, List.nil_append]
              refine wp_region_grow (fun k' => List.lookup k' [(3, .fix (.int .u64 (x.toNat : Nat))), (7, .fix (.int .u64 (y.toNat : Nat))), (11, .fix (.int .u64 (z.toNat : Nat))), (12, .wh 22 3 #[.int .u64 (x.toNat : Nat), .int .u64 (y.toNat : Nat), .int .u64 (z.toNat : Nat)]), (16, .fix (.int .u64 (x.toNat : Nat))), (20, .fix (.int .u64 (y.toNat : Nat))), (24, .fix (.int .u64 (z.toNat : Nat))), (25, .fix (.bool true)), (31, .fix (.int .u64 (x.toNat : Nat))), (35, .fix (.int .u64 (y.toNat : Nat))), (36, .wh 22 3 #[.int .u64 (x.toNat : Nat), .int .u64 (y.toNat : Nat), .int .u64 5]), (43, .fix (.int .u64 (z.toNat : Nat))), (47, .fix (.int .u64 (y.toNat : Nat))), (51, .fix (.int .u64 (x.toNat : Nat))), (52, .fix (.bool true)), (59, .fix (.int .u64 (x.toNat : Nat))), (63, .fix (.int .u64 (y.toNat : Nat))), (64, .wh 22 2 #[.int .u64 (x.toNat : Nat), .int .u64 (y.toNat : Nat)]), (71, .fix (.int .u64 (z.toNat : Nat))), (76, .fix (.int .u64 (x.toNat : Nat))), (78, .wh 65 2 #[.int .i64 (IntKind.i64.wrap ((n : Int).tmod 4 - 1)), .int .u64 (z.toNat : Nat), .int .i64 1, .int .u64 (x.toNat : Nat)]), (82, .fix (.int .u64 (z.toNat : Nat))), (83, .fix (.bool true))]) (by kernel_rfl) (by kernel_rfl) ?_
              repeat (refine wpGrow_pure rfl (fun K hK => ?_); go_simp; refine hK.out _ ?_; clear hK K)
              refine wpGrow_eff _ rfl (fun wx he hcl => ?_) (fun _ K hK => ?_) rfl
              · clear hcl
                have hq := (he.cell (p := ⟨w.heap.size, i, none⟩) GL.out).trans Qx.out
                go_simp
                exact Below.refl _ _
              go_simp
              refine hK.out _ ?_
              clear hK K
              repeat (refine wpGrow_pure rfl (fun K hK => ?_); go_simp; refine hK.out _ ?_; clear hK K)
              refine wpGrow_eff _ rfl (fun wx he hcl => ?_) (fun _ K hK => ?_) rfl
              · clear hcl
                have hq := (he.cell (p := ⟨w.heap.size, k, none⟩) GL.out).trans Qy.out
                go_simp
                exact Below.refl _ _
              go_simp
              refine hK.out _ ?_
              clear hK K
              repeat (refine wpGrow_pure rfl (fun K hK => ?_); go_simp; refine hK.out _ ?_; clear hK K)
              refine wpGrow_eff _ rfl (fun wx he hcl => ?_) (fun _ K hK => ?_) rfl
              · clear hcl
                have hq := (he.cell (p := ⟨w.heap.size, n, none⟩) GL.out).trans Qz.out
                go_simp
                exact Below.refl _ _
              go_simp
              refine hK.out _ ?_
              clear hK K
              repeat (refine wpGrow_pure rfl (fun K hK => ?_); go_simp; refine hK.out _ ?_; clear hK K)
              refine wpGrow_eff _ rfl (fun wx he hcl => ?_) (fun (g37 : Nat) K hK => ?_) rfl
              · clear hcl
                go_simp
                exact ⟨Whole.new _ _ _, (Below.refl _ _).alloc (Nat.le_refl _) _⟩
              go_simp
              refine hK.out _ ?_
              clear hK K
              repeat (refine wpGrow_pure rfl (fun K hK => ?_); go_simp; refine hK.out _ ?_; clear hK K)
              refine wpGrow_eff _ rfl (fun wx he hcl => ?_) (fun _ K hK => ?_) rfl
              · clear hcl
                have hq := (he.cell (p := ⟨w.heap.size, i, none⟩) GL.out).trans Qx.out
                go_simp
                exact Below.refl _ _
              go_simp
              refine hK.out _ ?_
              clear hK K
              repeat (refine wpGrow_pure rfl (fun K hK => ?_); go_simp; refine hK.out _ ?_; clear hK K)
              refine wpGrow_eff _ rfl (fun wx he hcl => ?_) (fun _ K hK => ?_) rfl
              · clear hcl
                have hq := (he.cell (p := ⟨w.heap.size, k, none⟩) GL.out).trans Qy.out
                go_simp
                exact Below.refl _ _
              go_simp
              refine hK.out _ ?_
              clear hK K
              repeat (refine wpGrow_pure rfl (fun K hK => ?_); go_simp; refine hK.out _ ?_; clear hK K)
              refine wpGrow_eff _ rfl (fun wx he hcl => ?_) (fun _ K hK => ?_) rfl
              · clear hcl
                have hq := (he.cell (p := ⟨w.heap.size, n, none⟩) GL.out).trans Qz.out
                go_simp
                exact Below.refl _ _
              go_simp
              refine hK.out _ ?_
              clear hK K
              repeat (refine wpGrow_pure rfl (fun K hK => ?_); go_simp; refine hK.out _ ?_; clear hK K)
              refine wpGrow_eff _ rfl (fun wx he hcl => ?_) (fun _ K hK => ?_) rfl
              · have hw37 : Whole wx g37 22 #[.int .u64 (x.toNat : Nat), .int .u64 (y.toNat : Nat), .int .u64 (z.toNat : Nat)] := hcl.out 12 rfl
                clear hcl
                have hcon := clockSums_any wx (some ⟨g37, 0, none⟩) 3 3 [x, y, z] (Rd.of_heap hw37 hw37.lt (n := 3) (Nat.le_refl _)) x.toNat y.toNat z.toNat y.toNat_lt z.toNat_lt
                go_simp
                all_goals exact hcon
              go_simp
              refine hK.out _ ?_
              clear hK K
              repeat (refine wpGrow_pure rfl (fun K hK => ?_); go_simp; refine hK.out _ ?_; clear hK K)
              refine wpGrow_eff _ rfl (fun wx he hcl => ?_) (fun _ K hK => ?_) rfl
              · clear hcl
                have hq := (he.cell (p := ⟨w.heap.size, i, none⟩) GL.out).trans Qx.out
                go_simp
                exact Below.refl _ _
              go_simp
              refine hK.out _ ?_
              clear hK K
              repeat (refine wpGrow_pure rfl (fun K hK => ?_); go_simp; refine hK.out _ ?_; clear hK K)
              refine wpGrow_eff _ rfl (fun wx he hcl => ?_) (fun _ K hK => ?_) rfl
              · clear hcl
                have hq := (he.cell (p := ⟨w.heap.size, k, none⟩) GL.out).trans Qy.out
                go_simp
                exact Below.refl _ _
              go_simp
              refine hK.out _ ?_
              clear hK K
              repeat (refine wpGrow_pure rfl (fun K hK => ?_); go_simp; refine hK.out _ ?_; clear hK K)
              refine wpGrow_eff _ rfl (fun wx he hcl => ?_) (fun (g61 : Nat) K hK => ?_) rfl
              · clear hcl
                go_simp
                exact ⟨Whole.new _ _ _, (Below.refl _ _).alloc (Nat.le_refl _) _⟩
              go_simp
              refine hK.out _ ?_
              clear hK K
              repeat (refine wpGrow_pure rfl (fun K hK => ?_); go_simp; refine hK.out _ ?_; clear hK K)
              refine wpGrow_eff _ rfl (fun wx he hcl => ?_) (fun _ K hK => ?_) rfl
              · clear hcl
                have hq := (he.cell (p := ⟨w.heap.size, n, none⟩) GL.out).trans Qz.out
                go_simp
                exact Below.refl _ _
              go_simp
              refine hK.out _ ?_
              clear hK K
              repeat (refine wpGrow_pure rfl (fun K hK => ?_); go_simp; refine hK.out _ ?_; clear hK K)
              refine wpGrow_eff _ rfl (fun wx he hcl => ?_) (fun _ K hK => ?_) rfl
              · clear hcl
                have hq := (he.cell (p := ⟨w.heap.size, k, none⟩) GL.out).trans Qy.out
                go_simp
                exact Below.refl _ _
              go_simp
              refine hK.out _ ?_
              clear hK K
              repeat (refine wpGrow_pure rfl (fun K hK => ?_); go_simp; refine hK.out _ ?_; clear hK K)
              refine wpGrow_eff _ rfl (fun wx he hcl => ?_) (fun _ K hK => ?_) rfl
              · clear hcl
                have hq := (he.cell (p := ⟨w.heap.size, i, none⟩) GL.out).trans Qx.out
                go_simp
                exact Below.refl _ _
              go_simp
              refine hK.out _ ?_
              clear hK K
              repeat (refine wpGrow_pure rfl (fun K hK => ?_); go_simp; refine hK.out _ ?_; clear hK K)
              refine wpGrow_eff _ rfl (fun wx he hcl => ?_) (fun _ K hK => ?_) rfl
              · have hw61 : Whole wx g61 22 #[.int .u64 (x.toNat : Nat), .int .u64 (y.toNat : Nat), .int .u64 5] := hcl.out 36 rfl
                clear hcl
                have hcon := clockPast_any wx (some ⟨g61, 0, none⟩) 3 3 [x, y, 5] (Rd.of_heap hw61 hw61.lt (n := 3) (Nat.le_refl _)) (by omega) (IntKind.i64.wrap ((n : Int).tmod 4 - 1)) z.toNat y.toNat x z.toNat_lt y.toNat_lt
                go_simp
                all_goals exact hcon
              go_simp
              refine hK.out _ ?_
              clear hK K
              repeat (refine wpGrow_pure rfl (fun K hK => ?_); go_simp; refine hK.out _ ?_; clear hK K)
              refine wpGrow_eff _ rfl (fun wx he hcl => ?_) (fun _ K hK => ?_) rfl
              · clear hcl
                have hq := (he.cell (p := ⟨w.heap.size, i, none⟩) GL.out).trans Qx.out
                go_simp
                exact Below.refl _ _
              go_simp
              refine hK.out _ ?_
              clear hK K
              repeat (refine wpGrow_pure rfl (fun K hK => ?_); go_simp; refine hK.out _ ?_; clear hK K)
              refine wpGrow_eff _ rfl (fun wx he hcl => ?_) (fun _ K hK => ?_) rfl
              · clear hcl
                have hq := (he.cell (p := ⟨w.heap.size, k, none⟩) GL.out).trans Qy.out
                go_simp
                exact Below.refl _ _
              go_simp
              refine hK.out _ ?_
              clear hK K
              repeat (refine wpGrow_pure rfl (fun K hK => ?_); go_simp; refine hK.out _ ?_; clear hK K)
              refine wpGrow_eff _ rfl (fun wx he hcl => ?_) (fun (g89 : Nat) K hK => ?_) rfl
              · clear hcl
                go_simp
                exact ⟨Whole.new _ _ _, (Below.refl _ _).alloc (Nat.le_refl _) _⟩
              go_simp
              refine hK.out _ ?_
              clear hK K
              repeat (refine wpGrow_pure rfl (fun K hK => ?_); go_simp; refine hK.out _ ?_; clear hK K)
              refine wpGrow_eff _ rfl (fun wx he hcl => ?_) (fun _ K hK => ?_) rfl
              · clear hcl
                have hq := (he.cell (p := ⟨w.heap.size, n, none⟩) GL.out).trans Qz.out
                go_simp
                exact Below.refl _ _
              go_simp
              refine hK.out _ ?_
              clear hK K
              repeat (refine wpGrow_pure rfl (fun K hK => ?_); go_simp; refine hK.out _ ?_; clear hK K)
              refine wpGrow_eff _ rfl (fun wx he hcl => ?_) (fun _ K hK => ?_) rfl
              · clear hcl
                have hq := (he.cell (p := ⟨w.heap.size, i, none⟩) GL.out).trans Qx.out
                go_simp
                exact Below.refl _ _
              go_simp
              refine hK.out _ ?_
              clear hK K
              repeat (refine wpGrow_pure rfl (fun K hK => ?_); go_simp; refine hK.out _ ?_; clear hK K)
              refine wpGrow_eff _ rfl (fun wx he hcl => ?_) (fun (g103 : Nat) K hK => ?_) rfl
              · clear hcl
                go_simp
                exact ⟨Whole.new _ _ _, (Below.refl _ _).alloc (Nat.le_refl _) _⟩
              go_simp
              refine hK.out _ ?_
              clear hK K
              repeat (refine wpGrow_pure rfl (fun K hK => ?_); go_simp; refine hK.out _ ?_; clear hK K)
              refine wpGrow_eff _ rfl (fun wx he hcl => ?_) (fun _ K hK => ?_) rfl
              · clear hcl
                have hq := (he.cell (p := ⟨w.heap.size, n, none⟩) GL.out).trans Qz.out
                go_simp
                exact Below.refl _ _
              go_simp
              refine hK.out _ ?_
              clear hK K
              repeat (refine wpGrow_pure rfl (fun K hK => ?_); go_simp; refine hK.out _ ?_; clear hK K)
              refine wpGrow_eff _ rfl (fun wx he hcl => ?_) (fun _ K hK => ?_) rfl
              · have hw89 : Whole wx g89 22 #[.int .u64 (x.toNat : Nat), .int .u64 (y.toNat : Nat)] := hcl.out 64 rfl
                have hw103 : Whole wx g103 65 #[.int .i64 (IntKind.i64.wrap ((n : Int).tmod 4 - 1)), .int .u64 (z.toNat : Nat), .int .i64 1, .int .u64 (x.toNat : Nat)] := hcl.out 78 rfl
                clear hcl
                have hcon := clockPlays_any wx (some ⟨g89, 0, none⟩) 2 2 [x, y] (Rd.of_heap hw89 hw89.lt (n := 2) (Nat.le_refl _)) (some ⟨g103, 0, none⟩) 2 2 [⟨IntKind.i64.wrap ((n : Int).tmod 4 - 1), z⟩, ⟨1, x⟩] (Rd.acts hw103) rfl z.toNat
                go_simp
                all_goals exact hcon
              go_simp
              refine hK.out _ ?_
              clear hK K
              repeat (refine wpGrow_pure rfl (fun K hK => ?_); go_simp; refine hK.out _ ?_; clear hK K)
              refine wpGrow_nil fun wx he hfin => ?_
              clear hfin
              go_wp2_with fail
              go_roundw
              case rel => exact ⟨n + 1, by omega, by go_num, hb.trans (he.mono hb.size)⟩
              case measure => simp [intOf] <;> omega
            · obtain rfl : n = 7 := by omega
              go_wp2_with fail
              go_roundw
              case rel => exact ⟨k + 1, by omega, by go_num, hb⟩
              case measure => simp [intOf] <;> omega
        · obtain rfl : k = 7 := by omega
          go_wp2_with fail
          go_roundw
          case rel => exact ⟨i + 1, by omega, by go_num, hb⟩
          case measure => simp [intOf] <;> omega
    · obtain rfl : i = 7 := by omega
      replace hb := HB0.out.trans (hb.mono HB0.out.size)
      clear H HGZ HB0
      go_wp2_with fail
      refine (clo_new3 wr).mono ?_
      rintro en w2 ⟨g, D, c, rfl, hk, hbn⟩
      have HK := Lib.hid hk
      replace hb := hb.trans (hbn.mono hb.size)
      clear hk hbn
      go_wp2_with fail
      refine (clo_hands_any w2 _ g D c 3 [0, 0, 0] HK.out (by omega)).mono ?_
      rintro en w3 ⟨D4, c4, rfl, ho4, hbn⟩
      replace hb := hb.trans (hbn.mono hb.size)
      have HOH := Lib.hid (own_ext ho4 (below1 w3 (.cells #[.int .u64 0, .int .u64 0, .int .u64 0] 22)))
      have hr : Rd (w3.alloc (.cells #[.int .u64 0, .int .u64 0, .int .u64 0] 22)) (w3.alloc (.cells #[.int .u64 0, .int .u64 0, .int .u64 0] 22)).heap.size 1 (some ⟨w3.heap.size, 0, none⟩) 3 (nums [0, 0, 0]) := Rd.of_heap (Whole.new _ _ _) (by simp) (n := 3) (by decide)
      have HR := Lib.hid hr
      replace hb := hb.trans ((below1 w3 (.cells #[.int .u64 0, .int .u64 0, .int .u64 0] 22)).mono hb.size)
      clear hbn ho4 hr HK
      go_wp2_with fail
      generalize World.alloc w3 (.cells #[.int .u64 0, .int .u64 0, .int .u64 0] 22) = w4 at HOH HR hb ⊢
      refine (clockSame_any w4 _ 3 _ [0, 0, 0] _ 3 _ _ _ (Nat.le_refl _) (Nat.le_refl _) (Rd.of_own HOH.out) HR.out (by omega) (by omega)).mono ?_
      rintro en w5 ⟨rfl, hbn⟩
      replace hb := hb.trans (hbn.mono hb.size)
      clear hbn HOH HR
      go_wp2_with fail
      refine (clo_newm w5).mono ?_
      rintro en w6 ⟨g, D, c, rfl, hk, hbn⟩
      have HK := Lib.hid hk
      replace hb := hb.trans (hbn.mono hb.size)
      clear hk hbn
      go_wp2_with fail
      refine (clo_hands_any w6 _ g D c 0 [] HK.out (by omega)).mono ?_
      rintro en w7 ⟨D4, c4, rfl, ho4, hbn⟩
      replace hb := hb.trans (hbn.mono hb.size)
      clear hbn HK ho4
      go_wp2_with fail
      refine (clockNone_any w7 0 0).mono ?_
      rintro en w8 ⟨rfl, hbn⟩
      replace hb := hb.trans (hbn.mono hb.size)
      clear hbn
      go_wp2_with fail
      refine (clockPlays_any w8 none 0 0 [] (Rd.nil_ _ _ _ _) none 0 0 [] (Rd.nil_ _ _ _ _) rfl 0).mono ?_
      rintro en w9 ⟨rfl, hbn⟩
      replace hb := hb.trans (hbn.mono hb.size)
      clear hbn
      go_wp2_with fail
      refine (clockSums_any w9 none 0 0 [] (Rd.nil_ _ _ _ _) 0 0 0 (by omega) (by omega)).mono ?_
      rintro en w10 ⟨rfl, hbn⟩
      replace hb := hb.trans (hbn.mono hb.size)
      clear hbn
      go_wp2_with fail
      refine (clo_works_any _).mono ?_
      rintro en w11 ⟨rfl, hbn⟩
      replace hb := hb.trans (hbn.mono hb.size)
      go_wp2_with fail
      go_ret
      exact ⟨rfl, hb⟩

end Go.Proofs.Ythknhgakompggaa
