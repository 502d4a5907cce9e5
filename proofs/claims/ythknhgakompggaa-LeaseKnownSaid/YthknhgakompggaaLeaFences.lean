/-
  The walk of LeaseFences: it returns true.
-/
import Derived.Test.YthknhgakompggaaLeaWorks
import Derived.Test.YthknhgakompggaaLeaEq
import Derived.Test.YthknhgakompggaaUndef
import Derived.Test.YthknhgakompggaaOpenMore
import Derived.Deep.DeepCutAuto
namespace Go.Proofs.Ythknhgakompggaa
open Go.RowKit
attribute [local go_sem] lease_guard lease_eql lease_neq lease_equalIn match_undef
attribute [local irreducible] wpList

theorem pick3_law (z : Int) : ((z.tmod 3) + 3) % 3 = z % 3 ∧ -3 < z.tmod 3 ∧ z.tmod 3 < 3 := by
  have h : z.tmod 3 = if 0 ≤ z then z % 3 else -((-z) % 3) := by
    split
    · exact Int.tmod_eq_emod_of_nonneg (by assumption)
    · rw [← Int.tmod_eq_emod_of_nonneg (show 0 ≤ -z by omega), Int.neg_tmod, Int.neg_neg]
  have hp : 0 ≤ z.tmod 3 + 3 := by rw [h]; split <;> omega
  rw [h] at hp ⊢
  split <;> omega

set_option maxHeartbeats 400000 in
theorem pick3_any (w : World) (z : Int) :
    Calls Try.prog 25 #[.int .i64 z, .int .i64 3] w fun en w' => en = .returned (.int .i64 (z % 3)) ∧ Below w.heap.size w w' := by
  obtain ⟨h1, h2, h3⟩ := pick3_law z
  have HP := Lib.hid h1
  have e1 : IntKind.i64.wrap (z.tmod 3 + 3) = z.tmod 3 + 3 := by rw [IntKind.wrap_i64]; omega
  clear h1
  go_enter Try.func25, Try.ntmps25
  go_wp2_with fail
  go_ret
  exact ⟨by rw [← HP.out]; rfl, Below.refl _ _⟩

theorem Ls.fence_of {l : Ls} {p i e : Nat} {b : Bool} (h : l.owns p i e = b) : l.fence p i e = if b = true then 0 else 200 := by unfold Ls.fence; rw [h]

set_option maxRecDepth 100000 in
set_option maxHeartbeats 40000000 in
theorem leaFences_any (w : World) (l : Ls) (hl : l.ok) (A : Option Addr) (n cap : Nat) (xs : List LAct) (h : Rd w w.heap.size 4 A n (xs.flatMap LAct.cs)) (hn : xs.length = n) (hx : ∀ x ∈ xs, x.ok) (p i e : Nat) (he : e < 18446744073709551616) :
    Calls Try.prog 5 #[l.v, .slice A n cap, .int .u64 (p : Nat), .int .u64 (i : Nat), .int .u64 (e : Nat)] w fun en w' => en = .returned (.bool true) ∧ Below w.heap.size w w' := by
  have H := Lib.hid h
  have HX := Lib.hid hx
  have HN := Lib.hid hn
  have HE := Lib.hid he
  clear h hx hn he
  obtain ⟨ep0, pr0, inc0, un0, hd0⟩ := l
  have HL := Lib.hid hl
  clear hl
  by_cases hbig : 30 < n
  · have hb : Below w.heap.size w (w.alloc (.cells #[Value.int .u64 (ep0 : Nat), .int .u64 (pr0 : Nat), .int .u64 (inc0 : Nat), .int .u64 (un0 : Nat), .bool hd0] 24)) := below1 w _
    simp only [Ls.v]
    go_enter Try.func5, Try.ntmps5
    go_wp2_with fail
    refine (lea_works_any _).mono ?_
    rintro en w2 ⟨rfl, hb2⟩
    replace hb := hb.trans (hb2.mono hb.size)
    go_wp2_with fail
    go_ret
    exact ⟨rfl, hb⟩
  · simp only [Ls.v]
    go_enter Try.func5, Try.ntmps5
    go_wp2_with fail
    go_loopw [11, 12] (fun f x wr => ∃ (k : Nat) (l : Ls) (fb : Bool), k ≤ n ∧ x = .int .i64 k ∧ f = .bool fb ∧ Whole wr w.heap.size 24 #[Value.int .u64 (l.ep : Nat), .int .u64 (l.pr : Nat), .int .u64 (l.inc : Nat), .int .u64 (l.un : Nat), .bool l.hd] ∧ Hid (l.ok ∧ (fb = true → e ≤ l.ep ∧ l.owns p i e = false)) ∧ Below w.heap.size w wr) (fun _ x _ => n - (intOf x).toNat)
    case atStart =>
      exact ⟨0, ⟨ep0, pr0, inc0, un0, hd0⟩, false, by omega, rfl, rfl, Whole.new w _ _, ⟨HL.out, fun h => by cases h⟩, below1 w _⟩
    case round =>
      obtain ⟨k, ⟨ep, pr, inc, un, hd⟩, fb, hk, rfl, rfl, k1, HI, hb⟩ := hrel
      simp only at k1
      by_cases hlt : k < n
      · obtain ⟨b0, o, hkl, hA, hbB, hat⟩ := (H.out.below hb).elem LAct.cs_length HN.out hlt
        subst hA
        obtain ⟨kd, ap, ai, au, hxk⟩ : ∃ a b c d, xs[k] = ⟨a, b, c, d⟩ := ⟨_, _, _, _, rfl⟩
        have hok : (⟨kd, ap, ai, au⟩ : LAct).ok := by rw [← hxk]; exact HX.out _ (List.getElem_mem hkl)
        rw [hxk] at hat
        have c0 : wr.cell? ⟨b0, o + k * 4, none⟩ = some (.int .i64 kd) := hat 0 _ rfl
        have c1 : wr.cell? ⟨b0, o + k * 4 + 1, none⟩ = some (.int .u64 (ap : Nat)) := hat 1 _ rfl
        have c2 : wr.cell? ⟨b0, o + k * 4 + 2, none⟩ = some (.int .u64 (ai : Nat)) := hat 2 _ rfl
        have c3 : wr.cell? ⟨b0, o + k * 4 + 3, none⟩ = some (.int .u64 (au : Nat)) := hat 3 _ rfl
        clear hat hxk
        have hd1 : decide ((k : Int) < (n : Int)) = true := by simp; omega
        go_upto_region 8 with fail
        obtain ⟨g2, hg2⟩ : ∃ g, g = wr.heap.size := ⟨_, rfl⟩
        generalize hv : World.alloc wr _ = v1
        have hgw : w.heap.size < g2 := by rw [hg2]; exact k1.lt
        have k2 : Whole v1 g2 43 #[Value.int .i64 kd, .int .u64 (ap : Nat), .int .u64 (ai : Nat), .int .u64 (au : Nat)] := by rw [← hv, hg2]; exact Whole.new wr _ _
        have hz0 := hb.size
        replace hb : Below w.heap.size w v1 := by rw [← hv]; exact hb.alloc hb.size _
        replace k1 : Whole v1 w.heap.size 24 #[Value.int .u64 (ep : Nat), .int .u64 (pr : Nat), .int .u64 (inc : Nat), .int .u64 (un : Nat), .bool hd] := by rw [← hv]; exact k1.alloc _
        rw [← hg2]
        clear hv hg2 hz0 c0 c1 c2 c3
        have q0 := k1.cell 0
        have q1 := k1.cell 1
        have q2 := k1.cell 2
        have q3 := k1.cell 3
        have q4 := k1.cell 4
        simp at q0 q1 q2 q3 q4
        go_cut [11] (fun f wx => ∃ nf : Bool, f = .bool nf ∧ Whole wx w.heap.size 24 #[Value.int .u64 (ep : Nat), .int .u64 (pr : Nat), .int .u64 (inc : Nat), .int .u64 (un : Nat), .bool hd] ∧ Whole wx g2 43 #[Value.int .i64 kd, .int .u64 (ap : Nat), .int .u64 (ai : Nat), .int .u64 (au : Nat)] ∧ Hid (nf = true → e ≤ ep ∧ Ls.owns ⟨ep, pr, inc, un, hd⟩ p i e = false) ∧ Below w.heap.size w wx)
        case first =>
          cases fb
          · by_cases hee : e ≤ ep
            · have t1 : decide ((e : Int) ≤ (ep : Int)) = true := by simp; omega
              cases how : Ls.owns ⟨ep, pr, inc, un, hd⟩ p i e
              all_goals
                have HOW := Lib.hid how
                clear how
                go_wp2_with fail
                refine (lea_fence_any _ ⟨ep, pr, inc, un, hd⟩ p i e).mono ?_
                rintro en w2 ⟨rfl, hbn⟩
                rw [Ls.fence_of HOW.out]
                go_wp2_with fail
                go_meet
                refine ⟨_, rfl, k1.below hbn k1.lt, k2.below hbn k2.lt, ?_, hb.trans (hbn.mono hb.size)⟩
                intro hh
                first | exact ⟨hee, HOW.out⟩ | (exact absurd hh (by decide))
            · have t1 : decide ((e : Int) ≤ (ep : Int)) = false := by simp; omega
              go_wp2_with fail
              go_meet
              exact ⟨false, rfl, k1, k2, (fun (hh : false = true) => Bool.noConfusion hh), hb⟩
          · go_wp2_with fail
            go_meet
            exact ⟨true, rfl, k1, k2, (fun _ => HI.out.2 trivial), hb⟩
        case rest =>
          obtain ⟨nf, rfl, k1, k2, HNF, hb⟩ := hcut
          clear q0 q1 q2 q3 q4
          have q0 := k1.cell 0
          have q1 := k1.cell 1
          have q2 := k1.cell 2
          have q3 := k1.cell 3
          have q4 := k1.cell 4
          simp at q0 q1 q2 q3 q4
          have a0 := k2.cell 0
          have a1 := k2.cell 1
          have a2 := k2.cell 2
          have a3 := k2.cell 3
          simp at a0 a1 a2 a3
          have ka := k1.alloc (.cells #[Value.int .u64 (ep : Nat), .int .u64 (pr : Nat), .int .u64 (inc : Nat), .int .u64 (un : Nat), .bool hd] 24)
          have kb := k2.alloc (.cells #[Value.int .u64 (ep : Nat), .int .u64 (pr : Nat), .int .u64 (inc : Nat), .int .u64 (un : Nat), .bool hd] 24)
          have x0 := ka.cell 0
          have x1 := ka.cell 1
          have x2 := ka.cell 2
          have x3 := ka.cell 3
          have x4 := ka.cell 4
          simp at x0 x1 x2 x3 x4
          have y0 := kb.cell 0
          have y1 := kb.cell 1
          have y2 := kb.cell 2
          have y3 := kb.cell 3
          simp at y0 y1 y2 y3
          clear ka kb
          go_wp2_with fail
          have hg3w := hb.size
          obtain ⟨g3, hg3⟩ : ∃ g, g = wc.heap.size := ⟨_, rfl⟩
          generalize hv : World.alloc wc _ = v2
          have hgn : ¬ g3 = w.heap.size := by have := k1.lt; omega
          have k3 : Whole v2 g3 24 #[Value.int .u64 (ep : Nat), .int .u64 (pr : Nat), .int .u64 (inc : Nat), .int .u64 (un : Nat), .bool hd] := by rw [← hv, hg3]; exact Whole.new wc _ _
          replace hb : Below w.heap.size w v2 := by rw [← hv]; exact hb.alloc hb.size _
          replace k1 : Whole v2 w.heap.size 24 #[Value.int .u64 (ep : Nat), .int .u64 (pr : Nat), .int .u64 (inc : Nat), .int .u64 (un : Nat), .bool hd] := by rw [← hv]; exact k1.alloc _
          replace k2 : Whole v2 g2 43 #[Value.int .i64 kd, .int .u64 (ap : Nat), .int .u64 (ai : Nat), .int .u64 (au : Nat)] := by rw [← hv]; exact k2.alloc _
          rw [← hg3]
          clear hv hg3 hg3w q0 q1 q2 q3 q4 a0 a1 a2 a3 x0 x1 x2 x3 x4 y0 y1 y2 y3
          refine (pick3_any _ kd).mono ?_
          rintro en w3 ⟨rfl, hbn⟩
          replace hb := hb.trans (hbn.mono hb.size)
          replace k1 := k1.below hbn k1.lt
          replace k2 := k2.below hbn k2.lt
          replace k3 := k3.below hbn k3.lt
          clear hbn
          obtain ⟨z, hz⟩ : ∃ z, kd % 3 = z := ⟨_, rfl⟩
          have hz3 : z = 0 ∨ z = 1 ∨ z = 2 := by omega
          rw [hz]
          clear hz
          have q0 := k1.cell 0
          have q1 := k1.cell 1
          have q2 := k1.cell 2
          have q3 := k1.cell 3
          have q4 := k1.cell 4
          simp at q0 q1 q2 q3 q4
          have a0 := k2.cell 0
          have a1 := k2.cell 1
          have a2 := k2.cell 2
          have a3 := k2.cell 3
          simp at a0 a1 a2 a3
          have v0 := k3.cell 0
          have v1 := k3.cell 1
          have v2 := k3.cell 2
          have v3 := k3.cell 3
          have v4 := k3.cell 4
          simp at v0 v1 v2 v3 v4
          have HOK := Lib.hid hok
          have hHL := HI.out.1
          obtain ⟨o1, o2, o3, o4⟩ := hHL
          obtain ⟨_, _, p1, p2, p3⟩ := hok
          simp only at o1 o2 o3 o4 p1 p2 p3
          rcases hz3 with rfl | rfl | rfl
          · go_wp2_with fail
            by_cases hmx : ep = 18446744073709551615
            · have HMX := Lib.hid hmx
              clear hmx
              refine (lea_grant_any _ ⟨ep, pr, inc, un, hd⟩ HI.out.1 ap ai au).mono ?_
              rintro en w4 ⟨rfl, hbn⟩
              rw [Ls.nextE_max (l := ⟨ep, pr, inc, un, hd⟩) HMX.out, Ls.grant_max (l := ⟨ep, pr, inc, un, hd⟩) HMX.out, show (Ls.v ⟨ep, pr, inc, un, hd⟩) = Value.agg #[Value.int .u64 (ep : Nat), .int .u64 (pr : Nat), .int .u64 (inc : Nat), .int .u64 (un : Nat), .bool hd] from rfl]
              have HNEW : Hid (Ls.ok ⟨ep, pr, inc, un, hd⟩ ∧ (nf = true → e ≤ ep ∧ Ls.owns ⟨ep, pr, inc, un, hd⟩ p i e = false)) := ⟨⟨o1, o2, o3, o4⟩, HNF.out⟩
              replace hb := hb.trans (hbn.mono hb.size)
              replace k1 := k1.below hbn k1.lt
              clear q0 q1 q2 q3 q4
              have q0 := k1.cell 0
              have q1 := k1.cell 1
              have q2 := k1.cell 2
              have q3 := k1.cell 3
              have q4 := k1.cell 4
              simp at q0 q1 q2 q3 q4
              replace k2 := k2.below hbn k2.lt
              clear a0 a1 a2 a3
              have a0 := k2.cell 0
              have a1 := k2.cell 1
              have a2 := k2.cell 2
              have a3 := k2.cell 3
              simp at a0 a1 a2 a3
              replace k3 := k3.below hbn k3.lt
              clear v0 v1 v2 v3 v4
              have v0 := k3.cell 0
              have v1 := k3.cell 1
              have v2 := k3.cell 2
              have v3 := k3.cell 3
              have v4 := k3.cell 4
              simp at v0 v1 v2 v3 v4
              clear hbn
              have hg4w := hb.size
              obtain ⟨g4, hg4⟩ : ∃ g, g = w4.heap.size := ⟨_, rfl⟩
              have k5 : Whole (w4.alloc (.cells #[Value.int .u64 (ep : Nat), .int .u64 (pr : Nat), .int .u64 (inc : Nat), .int .u64 (un : Nat), .bool hd] 24)) g4 24 #[Value.int .u64 (ep : Nat), .int .u64 (pr : Nat), .int .u64 (inc : Nat), .int .u64 (un : Nat), .bool hd] := by rw [hg4]; exact Whole.new w4 _ _
              have k1b := k1.alloc (.cells #[Value.int .u64 (ep : Nat), .int .u64 (pr : Nat), .int .u64 (inc : Nat), .int .u64 (un : Nat), .bool hd] 24)
              have k2b := k2.alloc (.cells #[Value.int .u64 (ep : Nat), .int .u64 (pr : Nat), .int .u64 (inc : Nat), .int .u64 (un : Nat), .bool hd] 24)
              have k3b := k3.alloc (.cells #[Value.int .u64 (ep : Nat), .int .u64 (pr : Nat), .int .u64 (inc : Nat), .int .u64 (un : Nat), .bool hd] 24)
              clear q0 q1 q2 q3 q4 a0 a1 a2 a3 v0 v1 v2 v3 v4
              have q0 := k1b.cell 0
              have q1 := k1b.cell 1
              have q2 := k1b.cell 2
              have q3 := k1b.cell 3
              have q4 := k1b.cell 4
              simp at q0 q1 q2 q3 q4
              have a0 := k2b.cell 0
              have a1 := k2b.cell 1
              have a2 := k2b.cell 2
              have a3 := k2b.cell 3
              simp at a0 a1 a2 a3
              have v0 := k3b.cell 0
              have v1 := k3b.cell 1
              have v2 := k3b.cell 2
              have v3 := k3b.cell 3
              have v4 := k3b.cell 4
              simp at v0 v1 v2 v3 v4
              have hb4 : Below w.heap.size w (w4.alloc (.cells #[Value.int .u64 (ep : Nat), .int .u64 (pr : Nat), .int .u64 (inc : Nat), .int .u64 (un : Nat), .bool hd] 24)) := hb.alloc hb.size _
              clear k1 k2 k3 hb
              have k1 := k1b
              have k3 := k3b
              have hb := hb4
              clear k1b k2b k3b hb4
              have f0 := k1.frozen 0
              have f1 := k1.frozen 1
              have f2 := k1.frozen 2
              have f3 := k1.frozen 3
              have f4 := k1.frozen 4
              go_upto_region 19 with fail
              have hb5 := below5 (g := w.heap.size) hb (Nat.le_refl _) (.int .u64 (ep : Nat)) (.int .u64 (pr : Nat)) (.int .u64 (inc : Nat)) (.int .u64 (un : Nat)) (.bool hd)
              have k1n := whole5 k1 (.int .u64 (ep : Nat)) (.int .u64 (pr : Nat)) (.int .u64 (inc : Nat)) (.int .u64 (un : Nat)) (.bool hd)
              have k3n := ((((((((((k3).far (p := ⟨w.heap.size, 0, none⟩) hgn (.int .u64 (ep : Nat)))).far (p := ⟨w.heap.size, 1, none⟩) hgn (.int .u64 (pr : Nat)))).far (p := ⟨w.heap.size, 2, none⟩) hgn (.int .u64 (inc : Nat)))).far (p := ⟨w.heap.size, 3, none⟩) hgn (.int .u64 (un : Nat)))).far (p := ⟨w.heap.size, 4, none⟩) hgn (.bool hd))
              generalize World.setCell (World.setCell (World.setCell (World.setCell (World.setCell _ _ _) _ _) _ _) _ _) _ _ = w9 at k1n k3n hb5 ⊢
              clear q0 q1 q2 q3 q4 v0 v1 v2 v3 v4 f0 f1 f2 f3 f4 a0 a1 a2 a3
              have q0 := k1n.cell 0
              have q1 := k1n.cell 1
              have q2 := k1n.cell 2
              have q3 := k1n.cell 3
              have q4 := k1n.cell 4
              simp at q0 q1 q2 q3 q4
              have v0 := k3n.cell 0
              have v1 := k3n.cell 1
              have v2 := k3n.cell 2
              have v3 := k3n.cell 3
              have v4 := k3n.cell 4
              simp at v0 v1 v2 v3 v4
              have t9 : decide ((ep : Int) < (ep : Int)) = false := by simp <;> omega
              cases nf
              · go_wp2_with fail
                go_roundw
                case rel =>
                  exact ⟨k + 1, ⟨ep, pr, inc, un, hd⟩, false, by omega, by go_num, rfl, k1n, ⟨HNEW.out.1, fun hh => Bool.noConfusion hh⟩, hb5⟩
                case measure => simp [intOf]; omega
              · go_wp2_with fail
                refine (lea_fence_any _ ⟨ep, pr, inc, un, hd⟩ p i e).mono ?_
                rintro en w10 ⟨rfl, hbn⟩
                rw [Ls.fence_of (HNEW.out.2 trivial).2]
                go_wp2_with fail
                go_roundw
                case rel =>
                  exact ⟨k + 1, ⟨ep, pr, inc, un, hd⟩, true, by omega, by go_num, rfl, k1n.below hbn k1n.lt, ⟨HNEW.out.1, fun _ => HNEW.out.2 trivial⟩, hb5.trans (hbn.mono hb5.size)⟩
                case measure => simp [intOf]; omega
            
            · obtain ⟨ep1, hep1⟩ : ∃ m, m = ep + 1 := ⟨_, rfl⟩
              have w1x : IntKind.u64.wrap ((ep : Int) + 1) = (ep1 : Int) := by rw [IntKind.wrap_u64]; omega
              have hle1 : ep < ep1 := by omega
              have hle2 : ep1 < 18446744073709551616 := by omega
              obtain ⟨ap', hap', hap⟩ : ∃ m : Nat, IntKind.u64.wrap ((ap : Int) + 1) = (m : Int) ∧ ¬ ap = m := by
                by_cases h : ap = 18446744073709551615
                · exact ⟨0, by rw [IntKind.wrap_u64]; omega, by omega⟩
                · exact ⟨ap + 1, by rw [IntKind.wrap_u64]; omega, by omega⟩
              obtain ⟨ai', hai', hai⟩ : ∃ m : Nat, IntKind.u64.wrap ((ai : Int) + 1) = (m : Int) ∧ ¬ ai = m := by
                by_cases h : ai = 18446744073709551615
                · exact ⟨0, by rw [IntKind.wrap_u64]; omega, by omega⟩
                · exact ⟨ai + 1, by rw [IntKind.wrap_u64]; omega, by omega⟩
              refine (lea_grant_any _ ⟨ep, pr, inc, un, hd⟩ HI.out.1 ap ai au).mono ?_
              rintro en w4 ⟨rfl, hbn⟩
              rw [Ls.nextE_less (l := ⟨ep, pr, inc, un, hd⟩) hmx, show Ls.grant ⟨ep, pr, inc, un, hd⟩ ap ai au = ⟨ep1, ap, ai, au, true⟩ from by rw [Ls.grant_less (l := ⟨ep, pr, inc, un, hd⟩) hmx, hep1], show (Ls.v ⟨ep1, ap, ai, au, true⟩) = Value.agg #[Value.int .u64 (ep1 : Nat), .int .u64 (ap : Nat), .int .u64 (ai : Nat), .int .u64 (au : Nat), .bool true] from rfl]
              have HNEW : Hid (Ls.ok ⟨ep1, ap, ai, au, true⟩ ∧ (nf = true → e ≤ ep1 ∧ Ls.owns ⟨ep1, ap, ai, au, true⟩ p i e = false)) := ⟨⟨hle2, p1, p2, p3⟩, fun hh => ⟨by have := (HNF.out hh).1; omega, by have := (HNF.out hh).1; simp [Ls.owns]; omega⟩⟩
              have O1 := Lib.hid (show Ls.owns ⟨ep1, ap, ai, au, true⟩ ap ai ep1 = true from by simp [Ls.owns])
              have O2 := Lib.hid (show Ls.owns ⟨ep1, ap, ai, au, true⟩ ap ai ep = false from by simp [Ls.owns]; omega)
              have O3 := Lib.hid (show Ls.owns ⟨ep1, ap, ai, au, true⟩ ap' ai ep1 = false from by simp [Ls.owns]; omega)
              have O4 := Lib.hid (show Ls.owns ⟨ep1, ap, ai, au, true⟩ ap ai' ep1 = false from by simp [Ls.owns]; omega)
              clear hmx hep1 hap hai
              replace hb := hb.trans (hbn.mono hb.size)
              replace k1 := k1.below hbn k1.lt
              clear q0 q1 q2 q3 q4
              have q0 := k1.cell 0
              have q1 := k1.cell 1
              have q2 := k1.cell 2
              have q3 := k1.cell 3
              have q4 := k1.cell 4
              simp at q0 q1 q2 q3 q4
              replace k2 := k2.below hbn k2.lt
              clear a0 a1 a2 a3
              have a0 := k2.cell 0
              have a1 := k2.cell 1
              have a2 := k2.cell 2
              have a3 := k2.cell 3
              simp at a0 a1 a2 a3
              replace k3 := k3.below hbn k3.lt
              clear v0 v1 v2 v3 v4
              have v0 := k3.cell 0
              have v1 := k3.cell 1
              have v2 := k3.cell 2
              have v3 := k3.cell 3
              have v4 := k3.cell 4
              simp at v0 v1 v2 v3 v4
              clear hbn
              have hg4w := hb.size
              obtain ⟨g4, hg4⟩ : ∃ g, g = w4.heap.size := ⟨_, rfl⟩
              have k5 : Whole (w4.alloc (.cells #[Value.int .u64 (ep1 : Nat), .int .u64 (ap : Nat), .int .u64 (ai : Nat), .int .u64 (au : Nat), .bool true] 24)) g4 24 #[Value.int .u64 (ep1 : Nat), .int .u64 (ap : Nat), .int .u64 (ai : Nat), .int .u64 (au : Nat), .bool true] := by rw [hg4]; exact Whole.new w4 _ _
              have k1b := k1.alloc (.cells #[Value.int .u64 (ep1 : Nat), .int .u64 (ap : Nat), .int .u64 (ai : Nat), .int .u64 (au : Nat), .bool true] 24)
              have k2b := k2.alloc (.cells #[Value.int .u64 (ep1 : Nat), .int .u64 (ap : Nat), .int .u64 (ai : Nat), .int .u64 (au : Nat), .bool true] 24)
              have k3b := k3.alloc (.cells #[Value.int .u64 (ep1 : Nat), .int .u64 (ap : Nat), .int .u64 (ai : Nat), .int .u64 (au : Nat), .bool true] 24)
              clear q0 q1 q2 q3 q4 a0 a1 a2 a3 v0 v1 v2 v3 v4
              have q0 := k1b.cell 0
              have q1 := k1b.cell 1
              have q2 := k1b.cell 2
              have q3 := k1b.cell 3
              have q4 := k1b.cell 4
              simp at q0 q1 q2 q3 q4
              have a0 := k2b.cell 0
              have a1 := k2b.cell 1
              have a2 := k2b.cell 2
              have a3 := k2b.cell 3
              simp at a0 a1 a2 a3
              have v0 := k3b.cell 0
              have v1 := k3b.cell 1
              have v2 := k3b.cell 2
              have v3 := k3b.cell 3
              have v4 := k3b.cell 4
              simp at v0 v1 v2 v3 v4
              have hb4 : Below w.heap.size w (w4.alloc (.cells #[Value.int .u64 (ep1 : Nat), .int .u64 (ap : Nat), .int .u64 (ai : Nat), .int .u64 (au : Nat), .bool true] 24)) := hb.alloc hb.size _
              go_wp2_with fail
              generalize World.alloc w4 _ = w5 at k5 k1b k2b k3b hb4 q0 q1 q2 q3 q4 a0 a1 a2 a3 v0 v1 v2 v3 v4 ⊢
              rw [← hg4]
              clear hg4 hg4w k1 k2 k3 hb
              have k1 := k1b
              have k2 := k2b
              have k3 := k3b
              have hb := hb4
              clear k1b k2b k3b hb4
              have m0 := k5.cell 0
              have m1 := k5.cell 1
              have m2 := k5.cell 2
              have m3 := k5.cell 3
              have m4 := k5.cell 4
              simp at m0 m1 m2 m3 m4
              refine (lea_owns_any _ ⟨ep1, ap, ai, au, true⟩ ap ai ep1).mono ?_
              rintro en w6 ⟨rfl, hbn⟩
              rw [O1.out]
              replace hb := hb.trans (hbn.mono hb.size)
              replace k1 := k1.below hbn k1.lt
              clear q0 q1 q2 q3 q4
              have q0 := k1.cell 0
              have q1 := k1.cell 1
              have q2 := k1.cell 2
              have q3 := k1.cell 3
              have q4 := k1.cell 4
              simp at q0 q1 q2 q3 q4
              replace k2 := k2.below hbn k2.lt
              clear a0 a1 a2 a3
              have a0 := k2.cell 0
              have a1 := k2.cell 1
              have a2 := k2.cell 2
              have a3 := k2.cell 3
              simp at a0 a1 a2 a3
              replace k3 := k3.below hbn k3.lt
              clear v0 v1 v2 v3 v4
              have v0 := k3.cell 0
              have v1 := k3.cell 1
              have v2 := k3.cell 2
              have v3 := k3.cell 3
              have v4 := k3.cell 4
              simp at v0 v1 v2 v3 v4
              replace k5 := k5.below hbn k5.lt
              clear m0 m1 m2 m3 m4
              have m0 := k5.cell 0
              have m1 := k5.cell 1
              have m2 := k5.cell 2
              have m3 := k5.cell 3
              have m4 := k5.cell 4
              simp at m0 m1 m2 m3 m4
              clear hbn
              go_wp2_with fail
              refine (lea_fence_any _ ⟨ep1, ap, ai, au, true⟩ ap ai ep).mono ?_
              rintro en w7 ⟨rfl, hbn⟩
              rw [Ls.fence_of O2.out]
              replace hb := hb.trans (hbn.mono hb.size)
              replace k1 := k1.below hbn k1.lt
              clear q0 q1 q2 q3 q4
              have q0 := k1.cell 0
              have q1 := k1.cell 1
              have q2 := k1.cell 2
              have q3 := k1.cell 3
              have q4 := k1.cell 4
              simp at q0 q1 q2 q3 q4
              replace k2 := k2.below hbn k2.lt
              clear a0 a1 a2 a3
              have a0 := k2.cell 0
              have a1 := k2.cell 1
              have a2 := k2.cell 2
              have a3 := k2.cell 3
              simp at a0 a1 a2 a3
              replace k3 := k3.below hbn k3.lt
              clear v0 v1 v2 v3 v4
              have v0 := k3.cell 0
              have v1 := k3.cell 1
              have v2 := k3.cell 2
              have v3 := k3.cell 3
              have v4 := k3.cell 4
              simp at v0 v1 v2 v3 v4
              replace k5 := k5.below hbn k5.lt
              clear m0 m1 m2 m3 m4
              have m0 := k5.cell 0
              have m1 := k5.cell 1
              have m2 := k5.cell 2
              have m3 := k5.cell 3
              have m4 := k5.cell 4
              simp at m0 m1 m2 m3 m4
              clear hbn
              go_wp2_with fail
              refine (lea_fence_any _ ⟨ep1, ap, ai, au, true⟩ ap' ai ep1).mono ?_
              rintro en w8 ⟨rfl, hbn⟩
              rw [Ls.fence_of O3.out]
              replace hb := hb.trans (hbn.mono hb.size)
              replace k1 := k1.below hbn k1.lt
              clear q0 q1 q2 q3 q4
              have q0 := k1.cell 0
              have q1 := k1.cell 1
              have q2 := k1.cell 2
              have q3 := k1.cell 3
              have q4 := k1.cell 4
              simp at q0 q1 q2 q3 q4
              replace k2 := k2.below hbn k2.lt
              clear a0 a1 a2 a3
              have a0 := k2.cell 0
              have a1 := k2.cell 1
              have a2 := k2.cell 2
              have a3 := k2.cell 3
              simp at a0 a1 a2 a3
              replace k3 := k3.below hbn k3.lt
              clear v0 v1 v2 v3 v4
              have v0 := k3.cell 0
              have v1 := k3.cell 1
              have v2 := k3.cell 2
              have v3 := k3.cell 3
              have v4 := k3.cell 4
              simp at v0 v1 v2 v3 v4
              replace k5 := k5.below hbn k5.lt
              clear m0 m1 m2 m3 m4
              have m0 := k5.cell 0
              have m1 := k5.cell 1
              have m2 := k5.cell 2
              have m3 := k5.cell 3
              have m4 := k5.cell 4
              simp at m0 m1 m2 m3 m4
              clear hbn
              go_wp2_with fail
              refine (lea_fence_any _ ⟨ep1, ap, ai, au, true⟩ ap ai' ep1).mono ?_
              rintro en w9 ⟨rfl, hbn⟩
              rw [Ls.fence_of O4.out]
              replace hb := hb.trans (hbn.mono hb.size)
              replace k1 := k1.below hbn k1.lt
              clear q0 q1 q2 q3 q4
              have q0 := k1.cell 0
              have q1 := k1.cell 1
              have q2 := k1.cell 2
              have q3 := k1.cell 3
              have q4 := k1.cell 4
              simp at q0 q1 q2 q3 q4
              replace k2 := k2.below hbn k2.lt
              clear a0 a1 a2 a3
              have a0 := k2.cell 0
              have a1 := k2.cell 1
              have a2 := k2.cell 2
              have a3 := k2.cell 3
              simp at a0 a1 a2 a3
              replace k3 := k3.below hbn k3.lt
              clear v0 v1 v2 v3 v4
              have v0 := k3.cell 0
              have v1 := k3.cell 1
              have v2 := k3.cell 2
              have v3 := k3.cell 3
              have v4 := k3.cell 4
              simp at v0 v1 v2 v3 v4
              replace k5 := k5.below hbn k5.lt
              clear m0 m1 m2 m3 m4
              have m0 := k5.cell 0
              have m1 := k5.cell 1
              have m2 := k5.cell 2
              have m3 := k5.cell 3
              have m4 := k5.cell 4
              simp at m0 m1 m2 m3 m4
              clear hbn
              clear hap' hai' w1x
              have f0 := k1.frozen 0
              have f1 := k1.frozen 1
              have f2 := k1.frozen 2
              have f3 := k1.frozen 3
              have f4 := k1.frozen 4
              go_upto_region 19 with fail
              have hb5 := below5 (g := w.heap.size) hb (Nat.le_refl _) (.int .u64 (ep1 : Nat)) (.int .u64 (ap : Nat)) (.int .u64 (ai : Nat)) (.int .u64 (au : Nat)) (.bool true)
              have k1n := whole5 k1 (.int .u64 (ep1 : Nat)) (.int .u64 (ap : Nat)) (.int .u64 (ai : Nat)) (.int .u64 (au : Nat)) (.bool true)
              have k3n := ((((((((((k3).far (p := ⟨w.heap.size, 0, none⟩) hgn (.int .u64 (ep1 : Nat)))).far (p := ⟨w.heap.size, 1, none⟩) hgn (.int .u64 (ap : Nat)))).far (p := ⟨w.heap.size, 2, none⟩) hgn (.int .u64 (ai : Nat)))).far (p := ⟨w.heap.size, 3, none⟩) hgn (.int .u64 (au : Nat)))).far (p := ⟨w.heap.size, 4, none⟩) hgn (.bool true))
              generalize World.setCell (World.setCell (World.setCell (World.setCell (World.setCell _ _ _) _ _) _ _) _ _) _ _ = w9 at k1n k3n hb5 ⊢
              clear q0 q1 q2 q3 q4 v0 v1 v2 v3 v4 f0 f1 f2 f3 f4 a0 a1 a2 a3
              have q0 := k1n.cell 0
              have q1 := k1n.cell 1
              have q2 := k1n.cell 2
              have q3 := k1n.cell 3
              have q4 := k1n.cell 4
              simp at q0 q1 q2 q3 q4
              have v0 := k3n.cell 0
              have v1 := k3n.cell 1
              have v2 := k3n.cell 2
              have v3 := k3n.cell 3
              have v4 := k3n.cell 4
              simp at v0 v1 v2 v3 v4
              have t9 : decide ((ep1 : Int) < (ep : Int)) = false := by simp <;> omega
              cases nf
              · go_wp2_with fail
                go_roundw
                case rel =>
                  exact ⟨k + 1, ⟨ep1, ap, ai, au, true⟩, false, by omega, by go_num, rfl, k1n, ⟨HNEW.out.1, fun hh => Bool.noConfusion hh⟩, hb5⟩
                case measure => simp [intOf]; omega
              · go_wp2_with fail
                refine (lea_fence_any _ ⟨ep1, ap, ai, au, true⟩ p i e).mono ?_
                rintro en w10 ⟨rfl, hbn⟩
                rw [Ls.fence_of (HNEW.out.2 trivial).2]
                go_wp2_with fail
                go_roundw
                case rel =>
                  exact ⟨k + 1, ⟨ep1, ap, ai, au, true⟩, true, by omega, by go_num, rfl, k1n.below hbn k1n.lt, ⟨HNEW.out.1, fun _ => HNEW.out.2 trivial⟩, hb5.trans (hbn.mono hb5.size)⟩
                case measure => simp [intOf]; omega
          · go_wp2_with fail
            obtain ⟨mx, hmx⟩ : ∃ m, m = max un au := ⟨_, rfl⟩
            refine (lea_renew_any _ ⟨ep, pr, inc, un, hd⟩ au).mono ?_
            rintro en w4 ⟨rfl, hbn⟩
            rw [show (Ls.renew ⟨ep, pr, inc, un, hd⟩ au).v = Value.agg #[Value.int .u64 (ep : Nat), .int .u64 (pr : Nat), .int .u64 (inc : Nat), .int .u64 (mx : Nat), .bool hd] from by rw [hmx]; rfl]
            have HNEW : Hid (Ls.ok ⟨ep, pr, inc, mx, hd⟩ ∧ (nf = true → e ≤ ep ∧ Ls.owns ⟨ep, pr, inc, mx, hd⟩ p i e = false)) := ⟨⟨o1, o2, o3, by show mx < _; omega⟩, HNF.out⟩
            clear hmx
            replace hb := hb.trans (hbn.mono hb.size)
            replace k1 := k1.below hbn k1.lt
            clear q0 q1 q2 q3 q4
            have q0 := k1.cell 0
            have q1 := k1.cell 1
            have q2 := k1.cell 2
            have q3 := k1.cell 3
            have q4 := k1.cell 4
            simp at q0 q1 q2 q3 q4
            replace k2 := k2.below hbn k2.lt
            clear a0 a1 a2 a3
            have a0 := k2.cell 0
            have a1 := k2.cell 1
            have a2 := k2.cell 2
            have a3 := k2.cell 3
            simp at a0 a1 a2 a3
            replace k3 := k3.below hbn k3.lt
            clear v0 v1 v2 v3 v4
            have v0 := k3.cell 0
            have v1 := k3.cell 1
            have v2 := k3.cell 2
            have v3 := k3.cell 3
            have v4 := k3.cell 4
            simp at v0 v1 v2 v3 v4
            clear hbn
            have f0 := k1.frozen 0
            have f1 := k1.frozen 1
            have f2 := k1.frozen 2
            have f3 := k1.frozen 3
            have f4 := k1.frozen 4
            go_upto_region 19 with fail
            have hb5 := below5 (g := w.heap.size) hb (Nat.le_refl _) (.int .u64 (ep : Nat)) (.int .u64 (pr : Nat)) (.int .u64 (inc : Nat)) (.int .u64 (mx : Nat)) (.bool hd)
            have k1n := whole5 k1 (.int .u64 (ep : Nat)) (.int .u64 (pr : Nat)) (.int .u64 (inc : Nat)) (.int .u64 (mx : Nat)) (.bool hd)
            have k3n := ((((((((((k3).far (p := ⟨w.heap.size, 0, none⟩) hgn (.int .u64 (ep : Nat)))).far (p := ⟨w.heap.size, 1, none⟩) hgn (.int .u64 (pr : Nat)))).far (p := ⟨w.heap.size, 2, none⟩) hgn (.int .u64 (inc : Nat)))).far (p := ⟨w.heap.size, 3, none⟩) hgn (.int .u64 (mx : Nat)))).far (p := ⟨w.heap.size, 4, none⟩) hgn (.bool hd))
            generalize World.setCell (World.setCell (World.setCell (World.setCell (World.setCell _ _ _) _ _) _ _) _ _) _ _ = w9 at k1n k3n hb5 ⊢
            clear q0 q1 q2 q3 q4 v0 v1 v2 v3 v4 f0 f1 f2 f3 f4 a0 a1 a2 a3
            have q0 := k1n.cell 0
            have q1 := k1n.cell 1
            have q2 := k1n.cell 2
            have q3 := k1n.cell 3
            have q4 := k1n.cell 4
            simp at q0 q1 q2 q3 q4
            have v0 := k3n.cell 0
            have v1 := k3n.cell 1
            have v2 := k3n.cell 2
            have v3 := k3n.cell 3
            have v4 := k3n.cell 4
            simp at v0 v1 v2 v3 v4
            have t9 : decide ((ep : Int) < (ep : Int)) = false := by simp <;> omega
            cases nf
            · go_wp2_with fail
              go_roundw
              case rel =>
                exact ⟨k + 1, ⟨ep, pr, inc, mx, hd⟩, false, by omega, by go_num, rfl, k1n, ⟨HNEW.out.1, fun hh => Bool.noConfusion hh⟩, hb5⟩
              case measure => simp [intOf]; omega
            · go_wp2_with fail
              refine (lea_fence_any _ ⟨ep, pr, inc, mx, hd⟩ p i e).mono ?_
              rintro en w10 ⟨rfl, hbn⟩
              rw [Ls.fence_of (HNEW.out.2 trivial).2]
              go_wp2_with fail
              go_roundw
              case rel =>
                exact ⟨k + 1, ⟨ep, pr, inc, mx, hd⟩, true, by omega, by go_num, rfl, k1n.below hbn k1n.lt, ⟨HNEW.out.1, fun _ => HNEW.out.2 trivial⟩, hb5.trans (hbn.mono hb5.size)⟩
              case measure => simp [intOf]; omega
          · go_wp2_with fail
            refine (lea_release_any _ ⟨ep, pr, inc, un, hd⟩).mono ?_
            rintro en w4 ⟨rfl, hbn⟩
            rw [show (Ls.release ⟨ep, pr, inc, un, hd⟩).v = Value.agg #[Value.int .u64 (ep : Nat), .int .u64 (pr : Nat), .int .u64 (inc : Nat), .int .u64 (un : Nat), .bool false] from rfl]
            have HNEW : Hid (Ls.ok ⟨ep, pr, inc, un, false⟩ ∧ (nf = true → e ≤ ep ∧ Ls.owns ⟨ep, pr, inc, un, false⟩ p i e = false)) := ⟨⟨o1, o2, o3, o4⟩, fun hh => ⟨(HNF.out hh).1, rfl⟩⟩
            replace hb := hb.trans (hbn.mono hb.size)
            replace k1 := k1.below hbn k1.lt
            clear q0 q1 q2 q3 q4
            have q0 := k1.cell 0
            have q1 := k1.cell 1
            have q2 := k1.cell 2
            have q3 := k1.cell 3
            have q4 := k1.cell 4
            simp at q0 q1 q2 q3 q4
            replace k2 := k2.below hbn k2.lt
            clear a0 a1 a2 a3
            have a0 := k2.cell 0
            have a1 := k2.cell 1
            have a2 := k2.cell 2
            have a3 := k2.cell 3
            simp at a0 a1 a2 a3
            replace k3 := k3.below hbn k3.lt
            clear v0 v1 v2 v3 v4
            have v0 := k3.cell 0
            have v1 := k3.cell 1
            have v2 := k3.cell 2
            have v3 := k3.cell 3
            have v4 := k3.cell 4
            simp at v0 v1 v2 v3 v4
            clear hbn
            have f0 := k1.frozen 0
            have f1 := k1.frozen 1
            have f2 := k1.frozen 2
            have f3 := k1.frozen 3
            have f4 := k1.frozen 4
            go_upto_region 19 with fail
            have hb5 := below5 (g := w.heap.size) hb (Nat.le_refl _) (.int .u64 (ep : Nat)) (.int .u64 (pr : Nat)) (.int .u64 (inc : Nat)) (.int .u64 (un : Nat)) (.bool false)
            have k1n := whole5 k1 (.int .u64 (ep : Nat)) (.int .u64 (pr : Nat)) (.int .u64 (inc : Nat)) (.int .u64 (un : Nat)) (.bool false)
            have k3n := ((((((((((k3).far (p := ⟨w.heap.size, 0, none⟩) hgn (.int .u64 (ep : Nat)))).far (p := ⟨w.heap.size, 1, none⟩) hgn (.int .u64 (pr : Nat)))).far (p := ⟨w.heap.size, 2, none⟩) hgn (.int .u64 (inc : Nat)))).far (p := ⟨w.heap.size, 3, none⟩) hgn (.int .u64 (un : Nat)))).far (p := ⟨w.heap.size, 4, none⟩) hgn (.bool false))
            generalize World.setCell (World.setCell (World.setCell (World.setCell (World.setCell _ _ _) _ _) _ _) _ _) _ _ = w9 at k1n k3n hb5 ⊢
            clear q0 q1 q2 q3 q4 v0 v1 v2 v3 v4 f0 f1 f2 f3 f4 a0 a1 a2 a3
            have q0 := k1n.cell 0
            have q1 := k1n.cell 1
            have q2 := k1n.cell 2
            have q3 := k1n.cell 3
            have q4 := k1n.cell 4
            simp at q0 q1 q2 q3 q4
            have v0 := k3n.cell 0
            have v1 := k3n.cell 1
            have v2 := k3n.cell 2
            have v3 := k3n.cell 3
            have v4 := k3n.cell 4
            simp at v0 v1 v2 v3 v4
            have t9 : decide ((ep : Int) < (ep : Int)) = false := by simp <;> omega
            cases nf
            · go_wp2_with fail
              go_roundw
              case rel =>
                exact ⟨k + 1, ⟨ep, pr, inc, un, false⟩, false, by omega, by go_num, rfl, k1n, ⟨HNEW.out.1, fun hh => Bool.noConfusion hh⟩, hb5⟩
              case measure => simp [intOf]; omega
            · go_wp2_with fail
              refine (lea_fence_any _ ⟨ep, pr, inc, un, false⟩ p i e).mono ?_
              rintro en w10 ⟨rfl, hbn⟩
              rw [Ls.fence_of (HNEW.out.2 trivial).2]
              go_wp2_with fail
              go_roundw
              case rel =>
                exact ⟨k + 1, ⟨ep, pr, inc, un, false⟩, true, by omega, by go_num, rfl, k1n.below hbn k1n.lt, ⟨HNEW.out.1, fun _ => HNEW.out.2 trivial⟩, hb5.trans (hbn.mono hb5.size)⟩
              case measure => simp [intOf]; omega
      · obtain rfl : k = n := by omega
        go_wp2_with fail
        refine (lea_works_any _).mono ?_
        rintro en w2 ⟨rfl, hb2⟩
        replace hb := hb.trans (hb2.mono hb.size)
        go_wp2_with fail
        go_ret
        exact ⟨rfl, hb⟩

end Go.Proofs.Ythknhgakompggaa
