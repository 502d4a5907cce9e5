/-
  Files in parts: Append, Sync.
-/
import Derived.Test.YtankhjchdnfpfaaExtTidy
namespace Go.Proofs.Ytankhjchdnfpfaa
open Go.RowKit
theorem Rd.part1 (w : World) (t : TypeId) (u v : Value) : Rd (w.alloc (.cells #[u, v] t)) (w.heap.size + 1) 2 (some ⟨w.heap.size, 0, none⟩) 1 [u, v] := by
  refine ⟨rfl, fun _ => ⟨w.heap.size, 0, rfl, by omega, fun j x hx => ?_⟩⟩
  rw [Nat.zero_add, (Whole.new w t #[u, v]).cell j]
  rw [← hx]
  simp
theorem one_part (A : Option Addr) (n c : Nat) (d : Bool) : ∀ u ∈ [Value.slice A n c, .bool d], u.oneCell' = true := by
  intro u hu
  simp at hu
  rcases hu with rfl | rfl <;> rfl
theorem grow_put {w : World} {g : Nat} (u : Value) : w.grownBy (w.setCell ⟨g, 0, none⟩ u) (some g) := ⟨rfl, rfl, rfl, by simp [World.setCell], fun k hk hne => Below.heap_setCell _ _ _ _ (fun e => hne (by rw [e]))⟩
theorem grow_below {w w' : World} {r : Option Nat} (h : Below w.heap.size w w') : w.grownBy w' r := ⟨h.os, h.tape, h.output, h.size, fun k hk _ => h.block k hk⟩
set_option maxRecDepth 100000 in
set_option maxHeartbeats 8000000 in
theorem app_any (w : World) (gf : Nat) (G : Nat → Prop) (hG : ∀ g, w.heap.size ≤ g → G g) (fs : List Pa) (h : Holds w gf G fs) (hn : fs.length ≤ 1000000) (A : Option Addr) (m cap : Nat) (b : List UInt8) (B : Nat) (hB : B ≤ w.heap.size) (hr : Rd w B 1 A m (byts b)) (hm : m ≤ 140737488351232) :
    Calls Try.prog 17 #[.pointer (some ⟨gf, 0, none⟩), .slice A m cap] w (Done gf G (Exn.app fs b) w) := by
  obtain ⟨A0, n, c0, hW, hF⟩ := h
  have hl := hF.1
  obtain ⟨_, vs, h1, h2⟩ := hF
  have q0 := hW.cell 0
  simp at q0
  have hcap := own_cap h1
  have W := Lib.hid hW
  have H1 := Lib.hid h1
  have H2 := Lib.hid h2
  have HBB := Lib.hid hB
  have HGG := Lib.hid hG
  have HL := Lib.hid hl
  have HR := Lib.hid hr
  have HLB := Lib.hid hr.blen
  have hgf := hW.lt
  clear hW h1 h2 hl hr hG
  go_enter Try.func17, Try.ntmps17
  go_wp2_with fail
  refine (clip_any w A0 n c0 hcap.1).mono ?_
  rintro en w2 ⟨rfl, hb2⟩
  have HC := Lib.hid (bclone_any w2 A m cap b B (Nat.le_trans HBB.out hb2.size) (HR.out.below (hb2.mono HBB.out)) hm)
  have HB2 := Lib.hid hb2
  clear hb2
  go_wp2_with fail
  refine HC.out.mono ?_
  clear HC
  rintro en w3 ⟨D, c3, rfl, ho3, hb3⟩
  have hb03 := HB2.out.trans (hb3.mono HB2.out.size)
  have HB03 := Lib.hid hb03
  have HG3 := Lib.hid (show ∀ g o, D = some ⟨g, o, none⟩ → G g from fun g o e => by
    subst e
    exact HGG.out g (Nat.le_trans HB2.out.size (ho3.lt g rfl).1))
  have HO3 := Lib.hid (own_base ho3 (Nat.zero_le _))
  have HRV := Lib.hid (((Rd.of_own H1.out).below hb03).alloc hb03.size (.cells #[.slice D m c3, .bool false] 52))
  have HBS := Lib.hid (Nat.le_trans hb03.size (below1 w3 (.cells #[.slice D m c3, .bool false] 52)).size)
  have HRN := Lib.hid (Rd.part1 w3 52 (.slice D m c3) (.bool false))
  clear ho3 hb3 hb03 HB2
  go_wp2_with (at_builtin; refine wpList_append_full _ rfl (.tmp 11) (.tmp 15) _ rfl partV w.heap.size w.heap.size A0 n vs rfl HRV.out (w3.heap.size + 1) (some ⟨w3.heap.size, 0, none⟩) 1 1 _ rfl HRN.out (by omega) (by unfold maxLen; have := HL.out; omega) (by have := HL.out; omega) HBS.out ?_; intro D4 c4 w4 ho4 hb4; have hba := below1 w3 (.cells #[.slice D m c3, .bool false] 52); have hb34 := hba.trans (hb4.mono hba.size); have hb04 := HB03.out.trans (hb34.mono HB03.out.size); have W4 := W.out.below hb04 hgf; have q4 := W4.cell 0; have f4 := W4.frozen 0; simp at q4; have HW4 := Lib.hid W4; have HO4 := Lib.hid ho4; have HB04 := Lib.hid hb04; have HP4 := Lib.hid (((H2.out.ext HB03.out).snoc (d := false) HLB.out HO3.out HG3.out).ext hb34); clear ho4 hb4 hba hb34 hb04 W4)
  have hgw := grow_put (w := w4) (g := gf) (.slice D4 (n + 1) c4)
  have HH := Lib.hid (show Holds (w4.setCell ⟨gf, 0, none⟩ (.slice D4 (n + 1) c4)) gf G (fs ++ [(b, false)]) from ⟨D4, n + 1, c4, HW4.out.put_ 0 _, by rw [List.length_append, HL.out]; rfl, _, own_far (own_base HO4.out (Nat.zero_le _)) HW4.out hgw part_ne.2.2.2.1, HP4.out.keep fun _ _ _ ho => own_far ho HW4.out hgw part_ne.2.2.1⟩)
  have hs4 : w.heap.size ≤ (w4.setCell ⟨gf, 0, none⟩ (.slice D4 (n + 1) c4)).heap.size := by simpa [World.setCell] using HB04.out.size
  have HG := Lib.hid (World.grownBy.trans (grow_below (r := some gf) HB04.out) hgw)
  refine (tidy_any _ gf G _ HH.out (by rw [List.length_append, List.length_singleton]; omega)).mono ?_
  rintro en w5 ⟨rfl, ⟨A5, c5, vs5, h1, h2, h3⟩, hg5⟩
  have H51 := Lib.hid h1
  have H52 := Lib.hid h2
  have H53 := Lib.hid h3
  have HG5 := Lib.hid hg5
  clear h1 h2 h3 hg5
  go_wp2_with fail
  go_end0
  exact ⟨rfl, ⟨A5, c5, vs5, H51.out, own_base H52.out hs4, H53.out⟩, World.grownBy.trans HG.out HG5.out⟩
theorem bool_one (d : Bool) : (Value.bool d).oneCell' = true := rfl
theorem OwnPa.mark {w : World} {G : Nat → Prop} {te : TypeId} {fs : List Pa} {vs : List Value} (h : OwnPa w G te fs vs) {i : Nat} (hi : i < fs.length) (d : Bool) : OwnPa w G te (fs.set i (fs[i].1, d)) (vs.set (i * 2 + 1) (.bool d)) := by
  obtain ⟨A, c, h1, _, h3, h5⟩ := h.2 i hi
  have h4 := h.put hi (d := d) rfl h3 h5
  have hl := h.1
  rw [List.getElem?_eq_getElem (by omega)] at h1
  injection h1 with h1
  rw [← h1, List.set_getElem_self] at h4
  exact h4
theorem OwnPa.swap {w : World} {G : Nat → Prop} {te : TypeId} {fs : List Pa} {vs : List Value} (h : OwnPa w G te fs vs) {i : Nat} (hi : i < fs.length) {l : List UInt8} {A : Option Addr} {c n : Nat} (hn : l.length = n) (ho : w.ownsRow 0 te 1 (.slice A n c) n (byts l)) (hG : ∀ g o, A = some ⟨g, o, none⟩ → G g) : OwnPa w G te (fs.set i (l, fs[i].2)) (vs.set (i * 2) (.slice A n c)) := by
  obtain ⟨A', c', _, h2, _, _⟩ := h.2 i hi
  have h4 := h.put hi (d := fs[i].2) hn ho hG
  have hl := h.1
  rw [List.getElem?_eq_getElem (by omega)] at h2
  injection h2 with h2
  have e : (vs.set (i * 2) (.slice A n c)).set (i * 2 + 1) (.bool fs[i].2) = vs.set (i * 2) (.slice A n c) := by
    rw [List.set_comm _ _ (by omega), ← h2, List.set_getElem_self]
  rw [e] at h4
  exact h4
theorem grow_new {w w2 w3 : World} {r : Option Nat} {g : Nat} (h : w.grownBy w2 r) (hg : w.heap.size ≤ g) (h2 : w2.grownBy w3 (some g)) : w.grownBy w3 r :=
  ⟨h2.os.trans h.os, h2.tape.trans h.tape, h2.output.trans h.output, Nat.le_trans h.size h2.size, fun k hk hne => (h2.block k (Nat.lt_of_lt_of_le hk h.size) (fun e => by injection e with e; omega)).trans (h.block k hk hne)⟩
theorem Whole.far_of {w w' : World} {g g' : Nat} {t : TypeId} {cs : Array Value} (h : Whole w g t cs) (hg : w.grownBy w' (some g')) (hne : g' ≠ g) : Whole w' g t cs := (hg.block g h.lt (fun e => hne (by injection e with e; exact e.symm))).trans h
/-- How far Sync has come. -/
def Half (t gs : List Pa) (j : Nat) : Prop := gs = (t.take j).map (fun p => (p.1, true)) ++ t.drop j
theorem Half.step {t gs : List Pa} {j : Nat} (h : Half t gs j) (hj : j < t.length) : Half t (gs.set j (t[j].1, true)) (j + 1) ∧ ∃ hg : j < gs.length, gs[j] = t[j] := by
  have hm : ((t.take j).map (fun p : Pa => (p.1, true))).length = j := by rw [List.length_map, List.length_take]; omega
  unfold Half at h ⊢
  subst h
  refine ⟨?_, by rw [List.length_append, hm, List.length_drop]; omega, ?_⟩
  · rw [List.set_append_right _ _ (by omega), hm, Nat.sub_self, List.drop_eq_getElem_cons hj, List.set_cons_zero, List.take_succ_eq_append_getElem hj, List.map_append, List.append_assoc]
    rfl
  · rw [List.getElem_append_right (by omega), List.getElem_drop]
    congr 1
    omega
set_option maxRecDepth 100000 in
set_option maxHeartbeats 8000000 in
theorem sync_any (w : World) (gf : Nat) (G : Nat → Prop) (fs : List Pa) (h : Holds w gf G fs) (hn : fs.length ≤ 1000000) :
    Calls Try.prog 13 #[.pointer (some ⟨gf, 0, none⟩)] w (Done gf G (Exn.sync fs) w) := by
  have HT := Lib.hid (tidy_any w gf G fs h (by omega))
  have hgf : gf < w.heap.size := by
    obtain ⟨_, _, _, hW, _⟩ := h
    exact hW.lt
  have hlen := Exn.tidy_le fs
  clear h
  go_enter Try.func13, Try.ntmps13
  go_wp2_with fail
  refine HT.out.mono ?_
  clear HT
  obtain ⟨t, ht⟩ : ∃ t, Exn.tidy fs = t := ⟨_, rfl⟩
  have HS := Lib.hid (show Exn.sync fs = t.map fun p => (p.1, true) from by unfold Exn.sync; rw [ht])
  rw [ht] at hlen ⊢
  clear ht
  rintro en w2 ⟨rfl, ⟨A, c, vs, h1, h2, h3⟩, hg⟩
  obtain ⟨N, hN⟩ : ∃ N, t.length = N := ⟨_, rfl⟩
  rw [hN] at h1 h2 hlen
  have HN := Lib.hid hN
  have H1 := Lib.hid h1
  have H2 := Lib.hid h2
  have H3 := Lib.hid h3
  have q0 := h1.cell 0
  simp at q0
  clear h1 h2 h3 hN
  go_wp2_with fail
  go_loopw [2, 12] (fun _ i wr => ∃ (j : Nat) (gs : List Pa) (us : List Value), j ≤ N ∧ i = .int .i64 j ∧ Hid (Half t gs j) ∧ Hid (Whole wr gf 30 #[.slice A N c]) ∧ Hid (wr.ownsRow w.heap.size 52 2 (.slice A N c) N us) ∧ Hid (OwnPa wr G 5 gs us) ∧ w.grownBy wr (some gf)) (fun _ i _ => N - (intOf i).toNat)
  case atStart => exact ⟨0, t, vs, by omega, rfl, rfl, H1.out, H2.out, H3.out, hg⟩
  case round =>
    obtain ⟨j, gs, us, hj, rfl, HH, HW, HO, HP, hgr⟩ := hrel
    have qr := HW.out.cell 0
    simp at qr
    by_cases hlt : j < N
    · have hd : decide ((j : Int) < (N : Int)) = true := by simp; omega
      have d1 : (0 : Int) ≤ (j : Int) := by omega
      have d2 : (j : Int) < (N : Int) := by omega
      have hjt : j < t.length := by have := HN.out; omega
      obtain ⟨hH2, hjg, hgj⟩ := HH.out.step hjt
      obtain ⟨g, cur, hA, hgB, hw, htk⟩ := own_whole HO.out (by omega)
      subst hA
      obtain ⟨A1, c1, hp1, hq1, ho1⟩ := HP.out.2 j hjg
      have HQ1 := Lib.hid hq1
      have HP1 := Lib.hid hp1
      have HO1 := Lib.hid ho1
      have HH2 := Lib.hid hH2
      have HWR := Lib.hid hw
      replace hq1 := own_cell HO.out hq1
      have fr := hw.frozen (j * 2 + 1)
      have hst := HO.out.stored (j * 2 + 1) (.bool true)
      have HST := Lib.hid hst
      have hne : g ≠ gf := fun e => by
        subst e
        have h1 := HW.out
        unfold Whole at h1 hw
        rw [hw] at h1
        injection h1 with h1
        injection h1 with _ h2
        exact part_ne.2.2.2.1 h2
      clear hp1 ho1 hH2 htk hw hst
      have hg3 := grow_new hgr hgB HST.out.2
      have HW3 := Lib.hid (HW.out.far_of HST.out.2 hne)
      have HP3 := Lib.hid ((HP.out.mark hjg true).keep fun _ _ _ ho => own_far ho HWR.out HST.out.2 part_ne.1)
      have HG := Lib.hid hgj
      clear hgj
      go_wp2_with fail
      go_roundw
      case rel => exact ⟨j + 1, _, _, by omega, by go_num, HH2, HW3, HST.out.1, by have := HP3.out; simp only [HG.out] at this; exact this, hg3⟩
      case measure => simp [intOf] <;> omega
    · obtain rfl : j = N := by omega
      go_wp2_with fail
      go_end0
      have hgs : gs = Exn.sync fs := by
        rw [HS.out]
        have := HH.out
        unfold Half at this
        rw [this, List.take_of_length_le (by rw [HN.out]; omega), List.drop_of_length_le (by rw [HN.out]; omega), List.append_nil]
      have hgl : gs.length = j := by rw [hgs, HS.out, List.length_map, HN.out]
      rw [← hgs]
      refine ⟨rfl, ⟨A, c, us, by rw [hgl]; exact HW.out, by rw [hgl]; exact HO.out, HP.out⟩, hgr⟩
end Go.Proofs.Ytankhjchdnfpfaa
