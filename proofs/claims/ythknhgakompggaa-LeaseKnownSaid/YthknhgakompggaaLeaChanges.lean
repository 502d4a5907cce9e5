/-
  The walk of LeaseChanges: it returns true.
-/
import Derived.Test.YthknhgakompggaaLeaWorks
import Derived.Test.YthknhgakompggaaLeaEq
import Derived.Test.YthknhgakompggaaLeaLasts
namespace Go.Proofs.Ythknhgakompggaa
open Go.RowKit
attribute [local go_sem] Oper.growAt Oper.growUpon GSpec.fix GSpec.row GSpec.wh GSpec.own match_undef rlease_guard rlease_eql rlease_equalIn
attribute [local irreducible] wpList
theorem rleaseV : ElemOK Try.prog 51 25 5 40 := ElemOK.mk_ (z := .agg #[.int .u64 0, .int .u64 0, .int .u64 0, .int .u64 0, .bool false]) Try.underlying51 (by kernel_rfl) rfl (by omega)
theorem cs_one (l : Ls) : ∀ u ∈ l.cs, u.oneCell' = true := by
  intro u hu
  simp [Ls.cs] at hu
  rcases hu with rfl | rfl | rfl | rfl | rfl <;> rfl
/-- One lease in a new block: what 'append(r, x)' lays. -/
theorem Rd.lease1 (w : World) (t : TypeId) (a0 a1 a2 a3 : Nat) (a4 : Bool) :
    Rd (w.alloc (.cells #[.int .u64 (a0 : Nat), .int .u64 (a1 : Nat), .int .u64 (a2 : Nat), .int .u64 (a3 : Nat), .bool a4] t)) (w.heap.size + 1) 5 (some ⟨w.heap.size, 0, none⟩) 1 (Ls.cs ⟨a0, a1, a2, a3, a4⟩) := by
  refine ⟨rfl, fun _ => ⟨w.heap.size, 0, rfl, by omega, fun j u hu => ?_⟩⟩
  rw [Nat.zero_add, (Whole.new w t _).cell j]
  rw [← hu]
  simp [Ls.cs]
theorem flat_take {xs : List Ls} {k : Nat} (h : k < xs.length) : (xs.take (k + 1)).flatMap Ls.cs = (xs.take k).flatMap Ls.cs ++ xs[k].cs := by
  rw [List.take_succ_eq_append_getElem h, List.flatMap_append]
  simp

set_option maxRecDepth 100000 in
set_option maxHeartbeats 40000000 in
theorem leaChanges_any (w : World) (l : Ls) (hl : l.ok) (p i u : Nat) (A : Option Addr) (n cap : Nat) (xs : List Ls) (h : Rd w w.heap.size 5 A n (xs.flatMap Ls.cs)) (hn : xs.length = n) :
    Calls Try.prog 6 #[l.v, .int .u64 (p : Nat), .int .u64 (i : Nat), .int .u64 (u : Nat), .slice A n cap] w fun en w' => en = .returned (.bool true) ∧ Below w.heap.size w w' := by
  have H := Lib.hid h
  have HN := Lib.hid hn
  have HL := Lib.hid hl
  clear h hn hl
  obtain ⟨e0, e1, e2, e3, e4⟩ := l
  by_cases hbig : 20 < n
  · have hb : Below w.heap.size w (w.alloc (.cells #[Value.int .u64 (e0 : Nat), .int .u64 (e1 : Nat), .int .u64 (e2 : Nat), .int .u64 (e3 : Nat), .bool e4] 24)) := below1 w _
    simp only [Ls.v]
    go_enter Try.func6, Try.ntmps6
    go_wp2_with fail
    refine (lea_works_any _).mono ?_
    rintro en w2 ⟨rfl, hb2⟩
    replace hb := hb.trans (hb2.mono hb.size)
    go_wp2_with fail
    go_ret
    exact ⟨rfl, hb⟩
  · simp only [Ls.v]
    go_enter Try.func6, Try.ntmps6
    go_wp2_with fail
    go_loopw [11, 12] (fun v x wr => ∃ (k : Nat) (D : Option Addr) (c : Nat), k ≤ n ∧ x = .int .i64 k ∧ v = .slice D k c ∧ Hid (wr.ownsRow (w.heap.size + 1) 25 5 (.slice D k c) k ((xs.take k).flatMap Ls.cs)) ∧ Whole wr w.heap.size 24 #[Value.int .u64 (e0 : Nat), .int .u64 (e1 : Nat), .int .u64 (e2 : Nat), .int .u64 (e3 : Nat), .bool e4] ∧ Below w.heap.size w wr) (fun _ x _ => n - (intOf x).toNat)
    case atStart =>
      exact ⟨0, none, 0, by omega, rfl, rfl, World.ownsRow_nil _ _ _ _, Whole.new w _ _, below1 w _⟩
    case round =>
      obtain ⟨k, D, c, hk, rfl, rfl, HR, k1, hb⟩ := hrel
      by_cases hlt : k < n
      · obtain ⟨b0, o, hkl, hA, hbB, hat⟩ := (H.out.below hb).elem Ls.cs_length HN.out hlt
        subst hA
        obtain ⟨m0, m1, m2, m3, m4, hxk⟩ : ∃ a b c d e, xs[k] = ⟨a, b, c, d, e⟩ := ⟨_, _, _, _, _, rfl⟩
        have HT := Lib.hid (show (xs.take (k + 1)).flatMap Ls.cs = (xs.take k).flatMap Ls.cs ++ Ls.cs ⟨m0, m1, m2, m3, m4⟩ from by rw [flat_take hkl, hxk])
        rw [hxk] at hat
        have c0 : wr.cell? ⟨b0, o + k * 5, none⟩ = some (.int .u64 (m0 : Nat)) := hat 0 _ rfl
        have c1 : wr.cell? ⟨b0, o + k * 5 + 1, none⟩ = some (.int .u64 (m1 : Nat)) := hat 1 _ rfl
        have c2 : wr.cell? ⟨b0, o + k * 5 + 2, none⟩ = some (.int .u64 (m2 : Nat)) := hat 2 _ rfl
        have c3 : wr.cell? ⟨b0, o + k * 5 + 3, none⟩ = some (.int .u64 (m3 : Nat)) := hat 3 _ rfl
        have c4 : wr.cell? ⟨b0, o + k * 5 + 4, none⟩ = some (.bool m4) := hat 4 _ rfl
        clear hat hxk
        have hd1 : decide ((k : Int) < (n : Int)) = true := by simp; omega
        have hgw : w.heap.size + 1 ≤ wr.heap.size := k1.lt
        go_wp2_with fail
        refine (lea_ref_any _ ⟨m0, m1, m2, m3, m4⟩).mono ?_
        rintro en w2 ⟨rfl, hbn⟩
        simp only [Ls.v]
        replace HR := Lib.hid (own_ext HR.out hbn)
        replace k1 := k1.below hbn k1.lt
        replace hb := hb.trans (hbn.mono hb.size)
        have hgw2 := Nat.le_trans hgw hbn.size
        clear hbn c0 c1 c2 c3 c4
        go_wp2_with (at_builtin; refine wpList_append_rd _ rfl (.tmp 27) (.tmp 33) _ rfl rleaseV (w.heap.size + 1) _ k _ rfl (HR.out.alloc _) (w2.heap.size + 1) (some ⟨w2.heap.size, 0, none⟩) 1 1 _ rfl (Rd.lease1 w2 _ m0 m1 m2 m3 m4) (cs_one _) (by unfold maxLen; omega) (by omega) (by simp; omega) ?_; intro D2 c2 w3 ho2 hb2 _ _)
        have hb3 : Below w.heap.size w w3 := (hb.alloc hb.size _).trans (hb2.mono (by omega))
        have k3 : Whole w3 w.heap.size 24 #[Value.int .u64 (e0 : Nat), .int .u64 (e1 : Nat), .int .u64 (e2 : Nat), .int .u64 (e3 : Nat), .bool e4] := (k1.alloc _).below hb2 (by omega)
        have HO := Lib.hid ho2
        clear ho2 hb2 k1 hb
        go_wp2_with fail
        go_roundw
        case rel =>
          exact ⟨k + 1, D2, c2, by omega, by go_num, rfl, (show World.ownsRow _ _ _ _ _ _ _ from by rw [HT.out]; exact HO.out), k3, hb3⟩
        case measure => simp [intOf] <;> omega
      · obtain rfl : k = n := by omega
        rw [List.take_of_length_le (by rw [HN.out]; omega)] at HR
        obtain ⟨G, hG⟩ : ∃ G, Ls.grant ⟨e0, e1, e2, e3, e4⟩ p i u = G := ⟨_, rfl⟩
        have HG := Lib.hid hG
        clear hG
        obtain ⟨g0, g1, g2, g3, g4⟩ := G
        obtain ⟨ne, hne⟩ : ∃ m, Ls.nextE ⟨e0, e1, e2, e3, e4⟩ = m := ⟨_, rfl⟩
        have HNE := Lib.hid hne
        clear hne
        obtain ⟨mx, hmx⟩ : ∃ m, max e3 u = m := ⟨_, rfl⟩
        have HMX := Lib.hid hmx
        clear hmx
        obtain ⟨LA, hla⟩ : ∃ m, Ls.lastTo xs k = m := ⟨_, rfl⟩
        have HLA := Lib.hid hla
        have HLB := Lib.hid (show Ls.backTo xs k = LA from by rw [← hla, ← HN.out]; exact (Ls.last_same xs).symm)
        clear hla
        obtain ⟨a0, a1, a2, a3, a4⟩ := LA
        have q0 := k1.cell 0
        have q1 := k1.cell 1
        have q2 := k1.cell 2
        have q3 := k1.cell 3
        have q4 := k1.cell 4
        simp at q0 q1 q2 q3 q4
        go_wp2_with fail
        refine (lea_grant_any _ ⟨e0, e1, e2, e3, e4⟩ HL.out p i u).mono ?_
        rintro en w2 ⟨rfl, hbn⟩
        rw [HG.out, HNE.out, show (Ls.v ⟨g0, g1, g2, g3, g4⟩) = Value.agg #[Value.int .u64 (g0 : Nat), .int .u64 (g1 : Nat), .int .u64 (g2 : Nat), .int .u64 (g3 : Nat), .bool g4] from rfl]
        clear q0 q1 q2 q3 q4
        replace hb := hb.trans (hbn.mono hb.size)
        replace HR := Lib.hid (own_ext HR.out hbn)
        replace k1 := k1.below hbn k1.lt
        clear hbn
        have ka := k1.alloc (.cells #[Value.int .u64 (g0 : Nat), .int .u64 (g1 : Nat), .int .u64 (g2 : Nat), .int .u64 (g3 : Nat), .bool g4] 24)
        have q0 := ka.cell 0
        have q1 := ka.cell 1
        have q2 := ka.cell 2
        have q3 := ka.cell 3
        have q4 := ka.cell 4
        simp at q0 q1 q2 q3 q4
        go_wp2_with fail
        clear q0 q1 q2 q3 q4 ka
        obtain ⟨g13, hg13⟩ : ∃ g, g = w2.heap.size := ⟨_, rfl⟩
        have hz2 := hb.size
        have hz3 : w.heap.size + 1 ≤ w2.heap.size := k1.lt
        generalize hv : World.alloc w2 _ = v2
        have k13 : Whole v2 g13 24 #[Value.int .u64 (g0 : Nat), .int .u64 (g1 : Nat), .int .u64 (g2 : Nat), .int .u64 (g3 : Nat), .bool g4] := by rw [← hv, hg13]; exact Whole.new w2 _ _
        replace hb : Below w.heap.size w v2 := by rw [← hv]; exact hb.alloc hb.size _
        replace k1 : Whole v2 w.heap.size 24 #[Value.int .u64 (e0 : Nat), .int .u64 (e1 : Nat), .int .u64 (e2 : Nat), .int .u64 (e3 : Nat), .bool e4] := by rw [← hv]; exact k1.alloc _
        replace HR := Lib.hid (show World.ownsRow v2 _ _ _ _ _ _ from by rw [← hv]; exact HR.out.alloc _)
        rw [← hg13]
        clear hv hg13 hz2 hz3
        refine (lea_ref_any _ ⟨e0, e1, e2, e3, e4⟩).mono ?_
        rintro en w3 ⟨rfl, hbn⟩
        rw [show (Ls.v ⟨e0, e1, e2, e3, e4⟩) = Value.agg #[Value.int .u64 (e0 : Nat), .int .u64 (e1 : Nat), .int .u64 (e2 : Nat), .int .u64 (e3 : Nat), .bool e4] from rfl]
        replace hb := hb.trans (hbn.mono hb.size)
        replace HR := Lib.hid (own_ext HR.out hbn)
        replace k1 := k1.below hbn k1.lt
        replace k13 := k13.below hbn k13.lt
        clear hbn
        go_wp2_with fail
        refine (lref_grant_any _ ⟨e0, e1, e2, e3, e4⟩ HL.out p i u).mono ?_
        rintro en w4 ⟨rfl, hbn⟩
        rw [HG.out, HNE.out, show (Ls.v ⟨g0, g1, g2, g3, g4⟩) = Value.agg #[Value.int .u64 (g0 : Nat), .int .u64 (g1 : Nat), .int .u64 (g2 : Nat), .int .u64 (g3 : Nat), .bool g4] from rfl]
        replace hb := hb.trans (hbn.mono hb.size)
        replace HR := Lib.hid (own_ext HR.out hbn)
        replace k1 := k1.below hbn k1.lt
        replace k13 := k13.below hbn k13.lt
        clear hbn
        go_wp2_with fail
        obtain ⟨g15, hg15⟩ : ∃ g, g = w4.heap.size := ⟨_, rfl⟩
        generalize hv : World.alloc w4 _ = v4
        have k15 : Whole v4 g15 25 #[Value.int .u64 (g0 : Nat), .int .u64 (g1 : Nat), .int .u64 (g2 : Nat), .int .u64 (g3 : Nat), .bool g4] := by rw [← hv, hg15]; exact Whole.new w4 _ _
        replace hb : Below w.heap.size w v4 := by rw [← hv]; exact hb.alloc hb.size _
        replace k1 : Whole v4 w.heap.size 24 #[Value.int .u64 (e0 : Nat), .int .u64 (e1 : Nat), .int .u64 (e2 : Nat), .int .u64 (e3 : Nat), .bool e4] := by rw [← hv]; exact k1.alloc _
        replace k13 : Whole v4 g13 24 #[Value.int .u64 (g0 : Nat), .int .u64 (g1 : Nat), .int .u64 (g2 : Nat), .int .u64 (g3 : Nat), .bool g4] := by rw [← hv]; exact k13.alloc _
        replace HR := Lib.hid (show World.ownsRow v4 _ _ _ _ _ _ from by rw [← hv]; exact HR.out.alloc _)
        rw [← hg15]
        clear hv hg15
        have K1 := Lib.hid k1
        have K13 := Lib.hid k13
        have K15 := Lib.hid k15
        clear k1 k13 k15
        refine wp_region_grow (fun k' => List.lookup k' [(0, .fix (.agg #[Value.int .u64 (g0 : Nat), .int .u64 (g1 : Nat), .int .u64 (g2 : Nat), .int .u64 (g3 : Nat), .bool g4])), (1, .fix (.agg #[Value.int .u64 (g0 : Nat), .int .u64 (g1 : Nat), .int .u64 (g2 : Nat), .int .u64 (g3 : Nat), .bool g4])), (2, .fix (.agg #[Value.int .u64 (g0 : Nat), .int .u64 (g1 : Nat), .int .u64 (g2 : Nat), .int .u64 (g3 : Nat), .bool g4])), (10, .fix (.agg #[Value.int .u64 (e0 : Nat), .int .u64 (e1 : Nat), .int .u64 (e2 : Nat), .int .u64 (e3 : Nat), .bool e4])), (12, .fix (.agg #[Value.int .u64 (e0 : Nat), .int .u64 (e1 : Nat), .int .u64 (e2 : Nat), .int .u64 (mx : Nat), .bool e4])), (13, .fix (.agg #[Value.int .u64 (e0 : Nat), .int .u64 (e1 : Nat), .int .u64 (e2 : Nat), .int .u64 (mx : Nat), .bool e4])), (14, .fix (.agg #[Value.int .u64 (e0 : Nat), .int .u64 (e1 : Nat), .int .u64 (e2 : Nat), .int .u64 (e3 : Nat), .bool e4])), (15, .fix (.agg #[Value.int .u64 (e0 : Nat), .int .u64 (e1 : Nat), .int .u64 (e2 : Nat), .int .u64 (e3 : Nat), .bool e4])), (17, .fix (.agg #[Value.int .u64 (e0 : Nat), .int .u64 (e1 : Nat), .int .u64 (e2 : Nat), .int .u64 (mx : Nat), .bool e4])), (21, .fix (.agg #[Value.int .u64 (e0 : Nat), .int .u64 (e1 : Nat), .int .u64 (e2 : Nat), .int .u64 (e3 : Nat), .bool e4])), (22, .fix (.agg #[Value.int .u64 (e0 : Nat), .int .u64 (e1 : Nat), .int .u64 (e2 : Nat), .int .u64 (e3 : Nat), .bool false])), (23, .fix (.agg #[Value.int .u64 (e0 : Nat), .int .u64 (e1 : Nat), .int .u64 (e2 : Nat), .int .u64 (e3 : Nat), .bool false])), (24, .fix (.agg #[Value.int .u64 (e0 : Nat), .int .u64 (e1 : Nat), .int .u64 (e2 : Nat), .int .u64 (e3 : Nat), .bool e4])), (25, .fix (.agg #[Value.int .u64 (e0 : Nat), .int .u64 (e1 : Nat), .int .u64 (e2 : Nat), .int .u64 (e3 : Nat), .bool e4])), (26, .fix (.agg #[Value.int .u64 (e0 : Nat), .int .u64 (e1 : Nat), .int .u64 (e2 : Nat), .int .u64 (e3 : Nat), .bool false])), (31, .fix (.agg #[Value.int .u64 (a0 : Nat), .int .u64 (a1 : Nat), .int .u64 (a2 : Nat), .int .u64 (a3 : Nat), .bool a4])), (32, .fix (.agg #[Value.int .u64 (a0 : Nat), .int .u64 (a1 : Nat), .int .u64 (a2 : Nat), .int .u64 (a3 : Nat), .bool a4])), (34, .fix (.agg #[Value.int .u64 (a0 : Nat), .int .u64 (a1 : Nat), .int .u64 (a2 : Nat), .int .u64 (a3 : Nat), .bool a4])), (38, .fix (.bool true))]) (by kernel_rfl) (by kernel_rfl) ?_
        repeat (refine wpGrow_pure rfl (fun K hK => ?_); go_simp; refine hK.out _ ?_; clear hK K)
        refine wpGrow_eff _ rfl (fun wx he hcl => ?_) (fun _ K hK => ?_) rfl
        · clear hcl
          have kx := Whole.below K13.out he K13.out.lt
          have z0 := kx.cell 0
          have z1 := kx.cell 1
          have z2 := kx.cell 2
          have z3 := kx.cell 3
          have z4 := kx.cell 4
          simp at z0 z1 z2 z3 z4
          go_simp
          exact Below.refl _ _
        go_simp
        refine hK.out _ ?_
        clear hK K
        repeat (refine wpGrow_pure rfl (fun K hK => ?_); go_simp; refine hK.out _ ?_; clear hK K)
        refine wpGrow_eff _ rfl (fun wx he hcl => ?_) (fun _ K hK => ?_) rfl
        · clear hcl
          have hcon := lea_ref_any wx ⟨g0, g1, g2, g3, g4⟩
          go_simp
          all_goals exact hcon
        go_simp
        refine hK.out _ ?_
        clear hK K
        repeat (refine wpGrow_pure rfl (fun K hK => ?_); go_simp; refine hK.out _ ?_; clear hK K)
        refine wpGrow_eff _ rfl (fun wx he hcl => ?_) (fun _ K hK => ?_) rfl
        · clear hcl
          have kx := Whole.below K15.out he K15.out.lt
          have z0 := kx.cell 0
          have z1 := kx.cell 1
          have z2 := kx.cell 2
          have z3 := kx.cell 3
          have z4 := kx.cell 4
          simp at z0 z1 z2 z3 z4
          go_simp
          exact Below.refl _ _
        go_simp
        refine hK.out _ ?_
        clear hK K
        repeat (refine wpGrow_pure rfl (fun K hK => ?_); go_simp; refine hK.out _ ?_; clear hK K)
        refine wpGrow_eff _ rfl (fun wx he hcl => ?_) (fun _ K hK => ?_) rfl
        · clear hcl
          have kx := Whole.below K1.out he K1.out.lt
          have z0 := kx.cell 0
          have z1 := kx.cell 1
          have z2 := kx.cell 2
          have z3 := kx.cell 3
          have z4 := kx.cell 4
          simp at z0 z1 z2 z3 z4
          go_simp
          exact Below.refl _ _
        go_simp
        refine hK.out _ ?_
        clear hK K
        repeat (refine wpGrow_pure rfl (fun K hK => ?_); go_simp; refine hK.out _ ?_; clear hK K)
        refine wpGrow_eff _ rfl (fun wx he hcl => ?_) (fun _ K hK => ?_) rfl
        · clear hcl
          have hcon := lea_renew_any wx ⟨e0, e1, e2, e3, e4⟩ u
          rw [show (Ls.renew ⟨e0, e1, e2, e3, e4⟩ u).v = Value.agg #[Value.int .u64 (e0 : Nat), .int .u64 (e1 : Nat), .int .u64 (e2 : Nat), .int .u64 (mx : Nat), .bool e4] from by rw [← HMX.out]; rfl] at hcon
          go_simp
          all_goals exact hcon
        go_simp
        refine hK.out _ ?_
        clear hK K
        repeat (refine wpGrow_pure rfl (fun K hK => ?_); go_simp; refine hK.out _ ?_; clear hK K)
        refine wpGrow_eff _ rfl (fun wx he hcl => ?_) (fun _ K hK => ?_) rfl
        · clear hcl
          have hcon := lea_ref_any wx ⟨e0, e1, e2, mx, e4⟩
          go_simp
          all_goals exact hcon
        go_simp
        refine hK.out _ ?_
        clear hK K
        repeat (refine wpGrow_pure rfl (fun K hK => ?_); go_simp; refine hK.out _ ?_; clear hK K)
        refine wpGrow_eff _ rfl (fun wx he hcl => ?_) (fun _ K hK => ?_) rfl
        · clear hcl
          have kx := Whole.below K1.out he K1.out.lt
          have z0 := kx.cell 0
          have z1 := kx.cell 1
          have z2 := kx.cell 2
          have z3 := kx.cell 3
          have z4 := kx.cell 4
          simp at z0 z1 z2 z3 z4
          go_simp
          exact Below.refl _ _
        go_simp
        refine hK.out _ ?_
        clear hK K
        repeat (refine wpGrow_pure rfl (fun K hK => ?_); go_simp; refine hK.out _ ?_; clear hK K)
        refine wpGrow_eff _ rfl (fun wx he hcl => ?_) (fun _ K hK => ?_) rfl
        · clear hcl
          have hcon := lea_ref_any wx ⟨e0, e1, e2, e3, e4⟩
          go_simp
          all_goals exact hcon
        go_simp
        refine hK.out _ ?_
        clear hK K
        repeat (refine wpGrow_pure rfl (fun K hK => ?_); go_simp; refine hK.out _ ?_; clear hK K)
        refine wpGrow_eff _ rfl (fun wx he hcl => ?_) (fun _ K hK => ?_) rfl
        · clear hcl
          have hcon := lref_renew_any wx ⟨e0, e1, e2, e3, e4⟩ u
          rw [show (Ls.renew ⟨e0, e1, e2, e3, e4⟩ u).v = Value.agg #[Value.int .u64 (e0 : Nat), .int .u64 (e1 : Nat), .int .u64 (e2 : Nat), .int .u64 (mx : Nat), .bool e4] from by rw [← HMX.out]; rfl] at hcon
          go_simp
          all_goals exact hcon
        go_simp
        refine hK.out _ ?_
        clear hK K
        repeat (refine wpGrow_pure rfl (fun K hK => ?_); go_simp; refine hK.out _ ?_; clear hK K)
        refine wpGrow_eff _ rfl (fun wx he hcl => ?_) (fun _ K hK => ?_) rfl
        · clear hcl
          have kx := Whole.below K1.out he K1.out.lt
          have z0 := kx.cell 0
          have z1 := kx.cell 1
          have z2 := kx.cell 2
          have z3 := kx.cell 3
          have z4 := kx.cell 4
          simp at z0 z1 z2 z3 z4
          go_simp
          exact Below.refl _ _
        go_simp
        refine hK.out _ ?_
        clear hK K
        repeat (refine wpGrow_pure rfl (fun K hK => ?_); go_simp; refine hK.out _ ?_; clear hK K)
        refine wpGrow_eff _ rfl (fun wx he hcl => ?_) (fun _ K hK => ?_) rfl
        · clear hcl
          have hcon := lea_release_any wx ⟨e0, e1, e2, e3, e4⟩
          go_simp
          all_goals exact hcon
        go_simp
        refine hK.out _ ?_
        clear hK K
        repeat (refine wpGrow_pure rfl (fun K hK => ?_); go_simp; refine hK.out _ ?_; clear hK K)
        refine wpGrow_eff _ rfl (fun wx he hcl => ?_) (fun _ K hK => ?_) rfl
        · clear hcl
          have hcon := lea_ref_any wx ⟨e0, e1, e2, e3, false⟩
          go_simp
          all_goals exact hcon
        go_simp
        refine hK.out _ ?_
        clear hK K
        repeat (refine wpGrow_pure rfl (fun K hK => ?_); go_simp; refine hK.out _ ?_; clear hK K)
        refine wpGrow_eff _ rfl (fun wx he hcl => ?_) (fun _ K hK => ?_) rfl
        · clear hcl
          have kx := Whole.below K1.out he K1.out.lt
          have z0 := kx.cell 0
          have z1 := kx.cell 1
          have z2 := kx.cell 2
          have z3 := kx.cell 3
          have z4 := kx.cell 4
          simp at z0 z1 z2 z3 z4
          go_simp
          exact Below.refl _ _
        go_simp
        refine hK.out _ ?_
        clear hK K
        repeat (refine wpGrow_pure rfl (fun K hK => ?_); go_simp; refine hK.out _ ?_; clear hK K)
        refine wpGrow_eff _ rfl (fun wx he hcl => ?_) (fun _ K hK => ?_) rfl
        · clear hcl
          have hcon := lea_ref_any wx ⟨e0, e1, e2, e3, e4⟩
          go_simp
          all_goals exact hcon
        go_simp
        refine hK.out _ ?_
        clear hK K
        repeat (refine wpGrow_pure rfl (fun K hK => ?_); go_simp; refine hK.out _ ?_; clear hK K)
        refine wpGrow_eff _ rfl (fun wx he hcl => ?_) (fun _ K hK => ?_) rfl
        · clear hcl
          have hcon := lref_release_any wx ⟨e0, e1, e2, e3, e4⟩
          go_simp
          all_goals exact hcon
        go_simp
        refine hK.out _ ?_
        clear hK K
        repeat (refine wpGrow_pure rfl (fun K hK => ?_); go_simp; refine hK.out _ ?_; clear hK K)
        refine wpGrow_eff _ rfl (fun wx he hcl => ?_) (fun _ K hK => ?_) rfl
        · clear hcl
          have hcon := lea_last_any wx A k cap xs w.heap.size (Nat.le_trans hb.size he.size) (H.out.below (hb.trans (he.mono hb.size))) HN.out (by omega)
          rw [HLA.out] at hcon
          go_simp
          all_goals exact hcon
        go_simp
        refine hK.out _ ?_
        clear hK K
        repeat (refine wpGrow_pure rfl (fun K hK => ?_); go_simp; refine hK.out _ ?_; clear hK K)
        refine wpGrow_eff _ rfl (fun wx he hcl => ?_) (fun _ K hK => ?_) rfl
        · clear hcl
          have hcon := lea_ref_any wx ⟨a0, a1, a2, a3, a4⟩
          go_simp
          all_goals exact hcon
        go_simp
        refine hK.out _ ?_
        clear hK K
        repeat (refine wpGrow_pure rfl (fun K hK => ?_); go_simp; refine hK.out _ ?_; clear hK K)
        refine wpGrow_eff _ rfl (fun wx he hcl => ?_) (fun _ K hK => ?_) rfl
        · clear hcl
          have hcon := lref_last_any wx D k c xs wx.heap.size (Nat.le_refl _) (Rd.of_own (own_ext HR.out he)) HN.out (by omega)
          rw [HLB.out] at hcon
          go_simp
          all_goals exact hcon
        go_simp
        refine hK.out _ ?_
        clear hK K
        repeat (refine wpGrow_pure rfl (fun K hK => ?_); go_simp; refine hK.out _ ?_; clear hK K)
        refine wpGrow_eff _ rfl (fun wx he hcl => ?_) (fun _ K hK => ?_) rfl
        · clear hcl
          have hcon := lea_works_any wx
          go_simp
          all_goals exact hcon
        go_simp
        refine hK.out _ ?_
        clear hK K
        repeat (refine wpGrow_pure rfl (fun K hK => ?_); go_simp; refine hK.out _ ?_; clear hK K)
        refine wpGrow_nil fun wx he hfin => ?_
        clear hfin
        replace hb := hb.trans (he.mono hb.size)
        go_wp2_with fail
        go_ret
        exact ⟨rfl, hb⟩

end Go.Proofs.Ythknhgakompggaa
