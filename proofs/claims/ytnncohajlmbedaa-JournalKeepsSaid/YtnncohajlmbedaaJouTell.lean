/-
  Journals: the payloads of a segment, told one after the other.
-/
import Derived.Test.YtnncohajlmbedaaJouNext
import Derived.Test.YtnncohajlmbedaaRange
import Derived.Shelf.Abstract
import Derived.Shelf.RegionOpen
import Derived.OwnWalkIn
import Derived.TacticsInMore
import Derived.LoopNIn
import Derived.LoopIn
namespace Go.Proofs.Ytnncohajlmbedaa
open Go.RowKit
/-- What is told: the place behind, where the payload lies, the payload. -/
abbrev Pay := Nat × (Option Addr × Nat) × List UInt8
def encPay (x : Pay) : Array Value := #[.int .i64 (x.1 : Nat), .slice x.2.1.1 x.2.2.length x.2.1.2]
def keepsBox (n0 g : Nat) (A B : World) : Prop := Below n0 A B ∧ B.heap[g]? = A.heap[g]?
theorem keepsBox.trans {n0 g : Nat} (A B C : World) (h : keepsBox n0 g A B) (k : keepsBox n0 g B C) : keepsBox n0 g A C := ⟨h.1.trans k.1, k.2.trans h.2⟩
theorem keepsBox.calm {n0 g n : Nat} (hn : n0 ≤ n) (hg : g < n) (A B : World) (h : Calm n A B) : keepsBox n0 g A B := ⟨h.below.mono hn, h.below.block g hg⟩
def payAt (n0 : Nat) (pre : List Pay) (x : Pay) (w : World) : Prop := pre.length ≤ 1000000 ∧ w.ownsRow n0 5 1 (.slice x.2.1.1 x.2.2.length x.2.1.2) x.2.2.length (byts x.2.2)
def lastPlace (xs : List Pay) : Nat := (xs.getLast?.map (·.1)).getD 0
theorem lastPlace_snoc (xs : List Pay) (x : Pay) : lastPlace (xs ++ [x]) = x.1 := by unfold lastPlace; simp
def paid (b : List UInt8) (xs : List Pay) : Prop := (xs.map (·.2.2), lastPlace xs) = Jou.all b
attribute [local go_sem] match_undef

set_option maxRecDepth 100000 in
set_option maxHeartbeats 4000000 in
theorem payloads_any (w : World) (A : Option Addr) (n cap : Nat) :
    Calls Try.prog 84 #[.slice A n cap] w fun en w' => en = .returned (.func (.func 95) #[] #[.pointer (some ⟨w.heap.size, 0, none⟩)]) ∧ w.alloc (.cells #[.slice A n cap] 22) = w' := by
  go_enter Try.func84, Try.ntmps84
  go_wp2_with fail
  go_ret
  exact ⟨rfl, rfl⟩

attribute [local go_sem] Oper.semAt_some
set_option maxRecDepth 100000 in
set_option maxHeartbeats 4000000 in
theorem payloads_tell (n : Nat) (hn1 : 1 ≤ n) (g n0 : Nat) (A : Option Addr) (m cap : Nat) (b : List UInt8) (w : World) (hn0 : n0 ≤ w.heap.size) (hbox : Whole w g 22 #[.slice A m cap])
    (h : Rd w n0 1 A m (byts b)) (hc : m ≤ cap) (hm : cap ≤ maxLen) (hmn : m ≤ 1000000) :
    SeqM Try.prog n 95 #[.pointer (some ⟨g, 0, none⟩)] encPay (keepsBox n0 g) (payAt n0) (paid b) w := by
  have HR := Lib.hid h
  have HL := Lib.hid h.blen
  have HBOX := Lib.hid hbox
  have HN0 := Lib.hid hn0
  clear h hbox hn0
  intro l J W hW hJ hY h0
  have HRW := Lib.hid (HR.out.below (hW.mono HN0.out))
  have HBW := Lib.hid (HBOX.out.below hW HBOX.out.lt)
  have HNW := Lib.hid (Nat.le_trans HN0.out hW.size)
  clear hW HR HBOX HN0
  refine callsIn_of_wp Try.func95 rfl trivial ?_ rfl
  simp only [Try.ntmps95, List.size_toArray, List.length_cons, List.length_nil, Nat.reduceAdd, Nat.reduceSub, Array.replicate_succ, Array.replicate_zero, List.push_toArray, List.append_toArray, List.nil_append, List.cons_append]
  gi_wp2
  gi_loopw [3] (fun p wr => ∃ (pre : List Pay) (q : Nat), p = .int .i64 q ∧ Hid (Jou.At b (pre.map (·.2.2)) q) ∧ Hid (lastPlace pre = q) ∧ Hid (J pre wr) ∧ Hid (Whole wr g 22 #[.slice A m cap]) ∧ Below n0 W wr) (fun p _ => m - (intOf p).toNat)
  case atStart => exact ⟨[], 0, rfl, Jou.At.start b, rfl, h0, HBW, Below.refl _ _⟩
  case round =>
    obtain ⟨pre, q, rfl, HAT, HLP, HJ, HBX, hb⟩ := hrel
    have hq : q ≤ m := by have := HAT.out.1; have := HL.out; omega
    have hbox := HBX.out.cell 0
    simp at hbox
    have hz := Nat.le_trans HNW.out hb.size
    have hlg := HBX.out.lt
    have hnx := jnext_any wr A m cap b n0 hz (HRW.out.below hb) hc hm hmn (q : Nat) (by omega) (by omega)
    obtain ⟨t, ht⟩ : ∃ t, Jou.next b ((q : Nat) : Int) = t := ⟨_, rfl⟩
    rw [ht] at hnx
    obtain ⟨bd, nx, x⟩ := t
    unfold JouP at hnx
    simp only at hnx
    have HNX := Lib.hid hnx
    have HT := Lib.hid ht
    clear hnx ht
    by_cases hx : x = 0
    · subst hx
      have hbd := Jou.next_bound (b := b) (p := (q : Nat)) (by rw [HT.out])
      rw [HT.out] at hbd
      simp only at hbd
      obtain ⟨r, rfl⟩ : ∃ r : Nat, nx = r := ⟨nx.toNat, by omega⟩
      have hst := HAT.out.step HT.out
      have HST := Lib.hid hst.1
      have hqr := hst.2
      have hlen : pre.length ≤ 1000000 := by have := HAT.out.2.1; rw [List.length_map] at this; omega
      clear hst hbd
      gi_wp2
      refine ⟨trivial, ?_⟩
      refine (callsIn_wide.2 HNX.out).mono ?_
      clear HNX
      rintro en w2 ⟨D, c, rfl, ho, hbn⟩
      have hJ2 := hJ _ _ _ HJ.out hbn
      obtain ⟨fn, tmps, assign, body, hyr, hR⟩ := hY pre (r, (D, c), bd) w2 hJ2 ⟨hlen, own_base ho hz⟩
      have hb2 := hb.trans (hbn.mono hz)
      have HBX2 := Lib.hid (HBX.out.below hbn HBX.out.lt)
      have HRR := Lib.hid hR
      have HB2 := Lib.hid hb2
      clear hJ2 hR hb2 hbn ho hb hbox hlg HT
      dsimp only [encPay] at hyr
      gi_wp2
      refine HRR.out.mono ?_
      clear HRR
      rintro en w3 ⟨rfl, hJ3, hk3⟩
      have HJ3 := Lib.hid hJ3
      have HB3 := Lib.hid (HB2.out.trans hk3.1)
      have HBX3 := Lib.hid (show Whole w3 g 22 #[.slice A m cap] from hk3.2.trans HBX2.out)
      clear hJ3 hk3 hyr HB2
      gi_wp2
      refine ⟨⟨pre ++ [(r, (D, c), bd)], r, rfl, by rw [List.map_append]; exact HST, Lib.hid (lastPlace_snoc _ _), HJ3, HBX3, HB3.out⟩, ?_⟩
      have := HST.out.1
      have := HL.out
      simp [intOf]
      omega
    · have hxx : (((x : Nat) : Int) != 0) = true := by rw [bne_iff_ne]; omega
      have HALL := Lib.hid (HAT.out.stop (by rw [HT.out]; exact hx))
      clear HT hx
      gi_wp2
      refine ⟨trivial, ?_⟩
      refine (callsIn_wide.2 HNX.out).mono ?_
      clear HNX
      rintro en w2 ⟨D, c, rfl, ho, hbn⟩
      have hJ2 := Lib.hid (hJ _ _ _ HJ.out hbn)
      clear ho hbn hb hbox hlg
      gi_wp2
      refine ⟨fun _ h => (by cases h), ?_⟩
      gi_wp2
      refine bodyPost_ret (results_none rfl _ _ _) rfl ?_

      exact ⟨⟨_, rfl⟩, pre, by unfold paid; rw [HALL.out, HLP.out], hJ2.out⟩

end Go.Proofs.Ytnncohajlmbedaa
