/-
  Files in parts: the document's Fail.
-/
import Derived.Test.YtankhjchdnfpfaaExtRefs
import Derived.Test.YtankhjchdnfpfaaExtFail
namespace Go.Proofs.Ytankhjchdnfpfaa
open Go.RowKit
attribute [local go_sem] match_undef
attribute [local irreducible] wpList
namespace Exn
/-- How many parts are told by the row that is handed in. -/
def told (fs : List Pa) : Nat := (fs.filter fun p => !p.2).length
theorem told_snoc (fs : List Pa) (p : Pa) : told (fs ++ [p]) = told fs + if p.2 then 0 else 1 := by
  unfold told
  rw [List.filter_append, List.length_append]
  cases h : p.2 <;> simp [List.filter, h]
theorem told_cons (p : Pa) (fs : List Pa) : told (p :: fs) = (if p.2 then 0 else 1) + told fs := by
  unfold told
  cases h : p.2 <;> simp [List.filter, h] <;> omega
theorem told_le (fs : List Pa) : told fs ≤ fs.length := List.length_filter_le ..
theorem stays_snoc (fs : List Pa) (p : Pa) (ks : List Bool) : stays (fs ++ [p]) ks = stays fs ks ++ [p.2 || (ks[told fs]?).getD false] := by
  induction fs generalizing ks with
  | nil => cases ks <;> rfl
  | cons q qs ih =>
    rw [List.cons_append]
    show (q.2 || ks.headD false) :: stays (qs ++ [p]) (if q.2 then ks else ks.tail) = (q.2 || ks.headD false) :: stays qs (if q.2 then ks else ks.tail) ++ [p.2 || (ks[told (q :: qs)]?).getD false]
    rw [ih, told_cons, List.cons_append]
    congr 3
    cases hq : q.2
    · simp only [Bool.false_eq_true, if_false]
      rw [List.getElem?_tail, Nat.add_comm]
    · simp
/-- What the failed file holds of its first i parts. -/
def upto (fs : List Pa) (ks : List Bool) (i : Nat) : List Pa := (List.zipWith after (tidy fs) (stays (tidy fs) ks)).take i
theorem upto_fail (fs : List Pa) (ks : List Bool) : upto fs ks (lastOf (stays (tidy fs) ks)) = fail fs ks := rfl
theorem upto_succ {fs : List Pa} {ks : List Bool} {i : Nat} (h1 : i < (tidy fs).length) (h2 : i < (stays (tidy fs) ks).length) : put (upto fs ks i) (after (tidy fs)[i] (stays (tidy fs) ks)[i]).1 true = upto fs ks (i + 1) := by
  have hz : i < (List.zipWith after (tidy fs) (stays (tidy fs) ks)).length := by rw [List.length_zipWith]; omega
  have hp := (tidy_mem (List.getElem_mem h1)).2
  have hl : (after (tidy fs)[i] (stays (tidy fs) ks)[i]).1.length = (tidy fs)[i].1.length := by
    unfold after
    cases (stays (tidy fs) ks)[i] <;> simp
  unfold upto put
  rw [if_pos (by rw [hl]; exact hp), List.take_succ_eq_append_getElem hz, List.getElem_zipWith]
  rfl
theorem upto_le (fs : List Pa) (ks : List Bool) (i : Nat) : (upto fs ks i).length ≤ i := by
  unfold upto
  rw [List.length_take]
  omega
theorem tidy_take_succ {fs : List Pa} {j : Nat} (hj : j < fs.length) : tidy (fs.take (j + 1)) = if 0 < fs[j].1.length then tidy (fs.take j) ++ [fs[j]] else tidy (fs.take j) := by
  rw [List.take_succ_eq_append_getElem hj, tidy_append, tidy_one]
  by_cases h : 0 < fs[j].1.length <;> simp [h]
end Exn
/-- Cells of parts whose bytes are read in older memory. -/
def Seen (w : World) (B : Nat) (fs : List Pa) (vs : List Value) : Prop :=
  vs.length = fs.length * 2 ∧ ∀ j (hj : j < fs.length), ∃ A c, vs[j * 2]? = some (.slice A fs[j].1.length c) ∧ vs[j * 2 + 1]? = some (.bool fs[j].2) ∧ Rd w B 1 A fs[j].1.length (byts fs[j].1)
theorem Seen.nil (w : World) (B : Nat) : Seen w B [] [] := ⟨rfl, fun j hj => absurd hj (by simp)⟩
theorem Seen.below {w w' : World} {B : Nat} {fs : List Pa} {vs : List Value} (h : Seen w B fs vs) (hb : Below B w w') : Seen w' B fs vs :=
  ⟨h.1, fun j hj => by obtain ⟨A, c, h1, h2, h3⟩ := h.2 j hj; exact ⟨A, c, h1, h2, h3.below hb⟩⟩
theorem Seen.snoc {w : World} {B : Nat} {fs : List Pa} {vs : List Value} (h : Seen w B fs vs) {l : List UInt8} {d : Bool} {A : Option Addr} {c n : Nat} (hn : l.length = n) (ho : Rd w B 1 A n (byts l)) :
    Seen w B (fs ++ [(l, d)]) (vs ++ [.slice A n c, .bool d]) := by
  subst hn
  refine ⟨by simp [h.1]; omega, fun j hj => ?_⟩
  rw [List.length_append, List.length_singleton] at hj
  by_cases hlt : j < fs.length
  · obtain ⟨A', c', h1, h2, h3⟩ := h.2 j hlt
    rw [List.getElem_append_left hlt]
    exact ⟨A', c', by rw [List.getElem?_append_left (by rw [h.1]; omega)]; exact h1, by rw [List.getElem?_append_left (by rw [h.1]; omega)]; exact h2, h3⟩
  · obtain rfl : j = fs.length := by omega
    rw [List.getElem_concat_length rfl]
    refine ⟨A, c, ?_, ?_, ho⟩
    · rw [← h.1, List.getElem?_append_right (Nat.le_refl _)]; simp
    · rw [← h.1, List.getElem?_append_right (by omega)]; simp
theorem boolE : ElemOK Try.prog 38 4 1 1 := ElemOK.mk_ (z := .bool false) Try.underlying38 (by kernel_rfl) rfl (by omega)
theorem bools_one (ks : List Bool) : ∀ u ∈ bools ks, u.oneCell' = true := by
  intro u hu
  unfold bools at hu
  obtain ⟨k, _, rfl⟩ := List.mem_map.1 hu
  rfl
theorem bools_append (a b : List Bool) : bools (a ++ b) = bools a ++ bools b := List.map_append
theorem bool_ne' : 4 ≠ 34 ∧ 57 ≠ 4 ∧ 4 ≠ 57 := by decide
/-- What the first loop of Fail holds behind j parts. -/
def SeenF (w : World) (wr : World) (ks : List Bool) (T : List Pa) (D5 : Option Addr) (c5 : Nat) (D6 : Option Addr) (c6 n : Nat) : Prop :=
  T.length = n ∧ (∃ vs, wr.ownsRow w.heap.size 57 2 (.slice D5 n c5) n vs ∧ Seen wr w.heap.size T vs) ∧ wr.ownsRow w.heap.size 4 1 (.slice D6 n c6) n (bools (Exn.stays T ks))
theorem SeenF.below {w w' wr : World} {ks : List Bool} {T : List Pa} {D5 D6 : Option Addr} {c5 c6 n : Nat} (h : SeenF w wr ks T D5 c5 D6 c6 n) (hb : Below wr.heap.size wr w') (hs : w.heap.size ≤ wr.heap.size) : SeenF w w' ks T D5 c5 D6 c6 n := by
  obtain ⟨h1, ⟨vs, h2, h3⟩, h4⟩ := h
  exact ⟨h1, ⟨vs, own_ext h2 hb, h3.below (hb.mono hs)⟩, own_ext h4 hb⟩
set_option maxRecDepth 100000 in
set_option maxHeartbeats 16000000 in
theorem rfail_any (w : World) (G : Nat → Prop) (hG : ∀ g, w.heap.size ≤ g → G g) (A : Option Addr) (N cap : Nat) (fs : List Pa) (h : RdPa w w.heap.size A N fs) (hN : N ≤ 1000000) (hf : ∀ p ∈ fs, p.1.length ≤ 1000000) (K : Option Addr) (nk ck : Nat) (ks : List Bool) (hk : Rd w w.heap.size 1 K nk (bools ks)) :
    Calls Try.prog 16 #[.agg #[.slice A N cap], .slice K nk ck] w (FileOut G (Exn.fail fs ks) w) := by
  have HL := Lib.hid h.1
  have H := Lib.hid h
  have HF := Lib.hid hf
  have HGG := Lib.hid hG
  have HKK := Lib.hid hk
  have hb1 := below1 w (.cells #[.slice A N cap] 34)
  have hb3 := hb1.trans ((below1 (w.alloc (.cells #[.slice A N cap] 34)) (.cells #[.slice none 0 0] 34)).mono hb1.size)
  have HB3 := Lib.hid hb3
  have HW6 := Whole.new (w.alloc (.cells #[.slice A N cap] 34)) 34 #[.slice none 0 0]
  have HW5 := Lib.hid ((Whole.new w 34 #[.slice A N cap]).alloc (.cells #[.slice none 0 0] 34))
  have hz1 : (w.alloc (.cells #[.slice A N cap] 34)).heap.size = w.heap.size + 1 := by simp
  rw [hz1] at HW6
  replace HW6 := Lib.hid HW6
  clear h hf hG hk hb1 hb3 hz1
  go_enter Try.func16, Try.ntmps16
  go_wp2_with fail
  generalize (w.alloc (.cells #[.slice A N cap] 34)).alloc (.cells #[.slice none 0 0] 34) = W3 at HB3 HW5 HW6 ⊢
  obtain ⟨gr, hgr⟩ : ∃ gr, w.heap.size + 1 = gr := ⟨_, rfl⟩
  obtain ⟨gb, hgb⟩ : ∃ gb, w.heap.size = gb := ⟨_, rfl⟩
  have HGR := Lib.hid (show w.heap.size ≤ gr by omega)
  rw [hgr] at HW6 ⊢
  have HW5b := Lib.hid (show Whole W3 gb 34 #[.slice A N cap] from by rw [← hgb]; exact HW5.out)
  rw [show (Value.pointer (some { block := w.heap.size, off := 0 })) = Value.pointer (some { block := gb, off := 0 }) from by rw [hgb]]
  clear hgr hgb HW5
  go_loopw [5, 6, 7, 8, 9, 10, 11] (fun v5 v6 v7 v8 v9 _ _ wr => ∃ (j n k l : Nat) (D5 : Option Addr) (c5 : Nat) (D6 : Option Addr) (c6 : Nat), j ≤ N ∧ n ≤ j ∧ k ≤ j ∧ l ≤ n ∧ v5 = .slice D5 n c5 ∧ v6 = .slice D6 n c6 ∧ v7 = .int .i64 k ∧ v8 = .int .i64 l ∧ v9 = .int .i64 j ∧ Hid (SeenF w wr ks (Exn.tidy (fs.take j)) D5 c5 D6 c6 n) ∧ Hid (Exn.told (Exn.tidy (fs.take j)) = k) ∧ Hid (Exn.lastOf (Exn.stays (Exn.tidy (fs.take j)) ks) = l) ∧ Hid (Whole wr gb 34 #[.slice A N cap]) ∧ Hid (Whole wr gr 34 #[.slice none 0 0]) ∧ Below w.heap.size w wr) (fun _ _ _ _ i _ _ _ => N - (intOf i).toNat)
  case atStart => exact ⟨0, 0, 0, 0, none, 0, none, 0, by omega, by omega, by omega, by omega, rfl, rfl, rfl, rfl, rfl, ⟨rfl, ⟨[], World.ownsRow_nil _ _ _ _, Seen.nil _ _⟩, World.ownsRow_nil _ _ _ _⟩, rfl, rfl, HW5b.out, HW6.out, HB3.out⟩
  case round =>
    obtain ⟨j, n, k, l, D5, c5, D6, c6, hj, hnj, hkj, hln, rfl, rfl, rfl, rfl, rfl, HSF, HTO, HLA, HWB, HWR, hb⟩ := hrel
    have qb := HWB.out.cell 0
    simp at qb
    by_cases hlt : j < N
    · have hjl : j < fs.length := by have := HL.out; omega
      obtain ⟨b1, o1, A1, c1, rfl, hb1, hp1, hq1, _, _, hr1⟩ := (H.out.below hb).2 j hjl
      have hd : decide ((j : Int) < (N : Int)) = true := by simp; omega
      have d1 : (0 : Int) ≤ (j : Int) := by omega
      have d2 : (j : Int) < (N : Int) := by omega
      have hm1 := HF.out _ (List.getElem_mem hjl)
      have htk := Exn.tidy_take_succ hjl
      obtain ⟨p, hp⟩ : ∃ p, fs[j] = p := ⟨_, rfl⟩
      rw [hp] at hp1 hq1 hr1 hm1 htk
      obtain ⟨ll, d⟩ := p
      simp only at hp1 hq1 hr1 hm1 htk
      obtain ⟨m, hm⟩ : ∃ m, ll.length = m := ⟨_, rfl⟩
      rw [hm] at hp1 hr1 hm1 htk
      have HLM := Lib.hid hm
      have HR1 := Lib.hid hr1
      clear hm hr1 hp
      by_cases h0 : m = 0
      · subst h0
        have HTK := Lib.hid (show Exn.tidy (fs.take (j + 1)) = Exn.tidy (fs.take j) from by rw [htk, if_neg (by omega)])
        have hbA := below1 wr (.cells #[.slice A1 0 c1, .bool d] 57)
        have HF1 := Lib.hid (HSF.out.below hbA hb.size)
        have HWB0 := Lib.hid (HWB.out.below hbA HWB.out.lt)
        have HWR0 := Lib.hid (HWR.out.below hbA HWR.out.lt)
        have hb6 := hb.trans (hbA.mono hb.size)
        clear htk
        go_wp2_with fail
        go_roundw
        case rel => exact ⟨j + 1, n, k, l, D5, c5, D6, c6, by omega, by omega, by omega, by omega, rfl, rfl, rfl, rfl, by go_num, by rw [HTK.out]; exact HF1, by rw [HTK.out]; exact HTO, by rw [HTK.out]; exact HLA, HWB0, HWR0, hb6⟩
        case measure => simp [intOf] <;> omega
      · have HTK := Lib.hid (show Exn.tidy (fs.take (j + 1)) = Exn.tidy (fs.take j) ++ [(ll, d)] from by rw [htk, if_pos (by omega)])
        clear htk
        cases d with
        | true =>
          obtain ⟨d, hdd⟩ : ∃ d, true = d := ⟨_, rfl⟩
          have HSTAY := Lib.hid (show ((true : Bool) || (ks[k]?).getD false) = true from rfl)
          clear hdd d
          have hbA := below1 wr (.cells #[.slice A1 m c1, .bool true] 57)
          have hbB := hbA.trans ((below1 (wr.alloc (.cells #[.slice A1 m c1, .bool true] 57)) (.cells #[.slice A1 m c1, .bool true] 57)).mono hbA.size)
          obtain ⟨hT0, ⟨vs, ho0, hs0⟩, hy0⟩ := HSF.out.below hbB hb.size
          have HT0 := Lib.hid hT0
          have HO0 := Lib.hid ho0
          have HS0 := Lib.hid (hs0.snoc (d := true) (c := c1) HLM.out (HR1.out.below (hbB.mono hb.size)))
          have HY0 := Lib.hid hy0
          have HWB0 := Lib.hid (HWB.out.below hbB HWB.out.lt)
          have HWR0 := Lib.hid (HWR.out.below hbB HWR.out.lt)
          have HBB0 := Lib.hid (hb.trans (hbB.mono hb.size))
          have hs1 := HBB0.out.size
          have HRD := Lib.hid (show Rd ((wr.alloc (.cells #[.slice A1 m c1, .bool true] 57)).alloc (.cells #[.slice A1 m c1, .bool true] 57)) ((wr.alloc (.cells #[.slice A1 m c1, .bool true] 57)).alloc (.cells #[.slice A1 m c1, .bool true] 57)).heap.size 2 (some ⟨wr.heap.size + 1, 0, none⟩) 1 [.slice A1 m c1, .bool true] from by
            have hw23 := Whole.new (wr.alloc (.cells #[.slice A1 m c1, .bool true] 57)) 57 #[.slice A1 m c1, .bool true]
            have hz : (wr.alloc (.cells #[.slice A1 m c1, .bool true] 57)).heap.size = wr.heap.size + 1 := by simp
            rw [hz] at hw23
            exact ⟨rfl, fun _ => ⟨_, 0, rfl, hw23.lt, fun a u hu => by
              rw [Nat.zero_add, hw23.cell a, ← hu]
              simp⟩⟩)
          clear hT0 ho0 hs0 hy0
          go_wp2_with first
            | (at_builtin; refine wpList_append_rd _ rfl (.tmp 48) (.tmp 50) _ rfl rpartV w.heap.size _ n _ rfl HO0.out _ (some ⟨wr.heap.size + 1, 0, none⟩) 1 1 _ rfl HRD.out (one_part _ _ _ _) (by unfold maxLen; omega) (by omega) hs1 ?_; intro D7 c7 w3 ho3 hb3 hg3 _; have HO3 := Lib.hid (own_ext ho3 (below1 w3 (.cells #[.bool true] 4))); have hb4 := hb3.trans ((below1 w3 (.cells #[.bool true] 4)).mono (Nat.le_trans hs1 hb3.size)); have HS3 := Lib.hid (HS0.out.below hb4); have HY3 := Lib.hid (own_ext (own_kept HY0.out hg3 HO0.out bool_ne'.2.2) (below1 w3 (.cells #[.bool true] 4))); have HWB3 := Lib.hid ((HWB0.out.kept hg3 HO0.out part_ne'.1).alloc (.cells #[.bool true] 4)); have HWR3 := Lib.hid ((HWR0.out.kept hg3 HO0.out part_ne'.1).alloc (.cells #[.bool true] 4)); have HBB3 := Lib.hid (HBB0.out.trans hb4); have hs3 := HBB3.out.size; have HRB := Lib.hid (show Rd (w3.alloc (.cells #[.bool true] 4)) (w3.alloc (.cells #[.bool true] 4)).heap.size 1 (some ⟨w3.heap.size, 0, none⟩) 1 (bools [true]) from ⟨rfl, fun _ => ⟨_, 0, rfl, (Whole.new w3 4 #[.bool true]).lt, fun a u hu => by rw [Nat.zero_add, (Whole.new w3 4 #[.bool true]).cell a, ← hu]; simp [bools]⟩⟩); clear ho3 hb3 hb4 hg3)
            | (at_builtin; refine wpList_append_rd _ rfl (.tmp 52) (.tmp 54) _ rfl boolE w.heap.size _ n _ rfl HY3.out _ (some ⟨w3.heap.size, 0, none⟩) 1 1 _ rfl HRB.out (bools_one _) (by unfold maxLen; omega) (by omega) hs3 ?_; intro D8 c8 w5 ho5 hb5 hg5 _; have HY5 := Lib.hid ho5; have HO5 := Lib.hid (own_kept HO3.out hg5 HY3.out bool_ne'.2.1); have HS5 := Lib.hid (HS3.out.below hb5); have HWB5 := Lib.hid (HWB3.out.kept hg5 HY3.out bool_ne'.1); have HWR5 := Lib.hid (HWR3.out.kept hg5 HY3.out bool_ne'.1); have hb6 := HBB3.out.trans hb5; clear ho5 hb5 hg5)
          have hst : Exn.stays (Exn.tidy (fs.take (j + 1))) ks = Exn.stays (Exn.tidy (fs.take j)) ks ++ [true] := by rw [HTK.out, Exn.stays_snoc, HTO.out, HSTAY.out]
          have HL1 := Lib.hid (show Exn.lastOf (Exn.stays (Exn.tidy (fs.take (j + 1))) ks) = n + 1 from by rw [hst, Exn.lastOf_snoc]; simp only [if_true]; rw [Exn.stays_length, HT0.out])
          have HF1 := Lib.hid (show SeenF w w5 ks (Exn.tidy (fs.take (j + 1))) D7 c7 D8 c8 (n + 1) from ⟨by rw [HTK.out, List.length_append, HT0.out]; rfl, ⟨_, HO5.out, by rw [HTK.out]; exact HS5.out⟩, by rw [hst, bools_append]; exact HY5.out⟩)
          have HT1 := Lib.hid (show Exn.told (Exn.tidy (fs.take (j + 1))) = k from by rw [HTK.out, Exn.told_snoc, HTO.out]; rfl)
          go_roundw
          case rel => exact ⟨j + 1, n + 1, k, n + 1, D7, c7, D8, c8, by omega, by omega, by omega, by omega, rfl, rfl, by first | rfl | go_num, by first | rfl | go_num, by go_num, HF1, HT1, HL1, HWB5, HWR5, hb6⟩
          case measure => simp [intOf] <;> omega
        | false =>
          by_cases hkn : k < nk
          · have hkl : k < ks.length := by have := HKK.out.1; rw [bools_length] at this; omega
            obtain ⟨kb, ko, rfl, hkb, hks⟩ := (HKK.out.below hb).2 (by omega)
            have hk0 := hks k (.bool ks[k]) (bools_get hkl)
            have HKV := Lib.hid (show (ks[k]?).getD false = ks[k] from by rw [List.getElem?_eq_getElem hkl]; rfl)
            have t1 : decide ((k : Int) < (nk : Int)) = true := by simp; omega
            have t2 : (0 : Int) ≤ (k : Int) := by omega
            have t3 : (k : Int) < (nk : Int) := by omega
            have hkne : ¬ kb = wr.heap.size := by have := hb.size; omega
            clear hks
            cases hkv : ks[k] with
            | true =>
              have HSTAY := Lib.hid (show ((false : Bool) || (ks[k]?).getD false) = true from by rw [HKV.out, hkv]; rfl)
              rw [hkv] at hk0
              clear hkv
              have hk1 := ((below1 wr (.cells #[.slice A1 m c1, .bool false] 57)).cell (p := ⟨kb, ko + k, none⟩) (show kb < wr.heap.size by have := hb.size; omega)).trans hk0
              have hbA := below1 wr (.cells #[.slice A1 m c1, .bool false] 57)
              have hbB := hbA.trans ((below1 (wr.alloc (.cells #[.slice A1 m c1, .bool false] 57)) (.cells #[.slice A1 m c1, .bool false] 57)).mono hbA.size)
              obtain ⟨hT0, ⟨vs, ho0, hs0⟩, hy0⟩ := HSF.out.below hbB hb.size
              have HT0 := Lib.hid hT0
              have HO0 := Lib.hid ho0
              have HS0 := Lib.hid (hs0.snoc (d := false) (c := c1) HLM.out (HR1.out.below (hbB.mono hb.size)))
              have HY0 := Lib.hid hy0
              have HWB0 := Lib.hid (HWB.out.below hbB HWB.out.lt)
              have HWR0 := Lib.hid (HWR.out.below hbB HWR.out.lt)
              have HBB0 := Lib.hid (hb.trans (hbB.mono hb.size))
              have hs1 := HBB0.out.size
              have HRD := Lib.hid (show Rd ((wr.alloc (.cells #[.slice A1 m c1, .bool false] 57)).alloc (.cells #[.slice A1 m c1, .bool false] 57)) ((wr.alloc (.cells #[.slice A1 m c1, .bool false] 57)).alloc (.cells #[.slice A1 m c1, .bool false] 57)).heap.size 2 (some ⟨wr.heap.size + 1, 0, none⟩) 1 [.slice A1 m c1, .bool false] from by
                have hw23 := Whole.new (wr.alloc (.cells #[.slice A1 m c1, .bool false] 57)) 57 #[.slice A1 m c1, .bool false]
                have hz : (wr.alloc (.cells #[.slice A1 m c1, .bool false] 57)).heap.size = wr.heap.size + 1 := by simp
                rw [hz] at hw23
                exact ⟨rfl, fun _ => ⟨_, 0, rfl, hw23.lt, fun a u hu => by
                  rw [Nat.zero_add, hw23.cell a, ← hu]
                  simp⟩⟩)
              clear hT0 ho0 hs0 hy0
              go_wp2_with first
                | (at_builtin; refine wpList_append_rd _ rfl (.tmp 48) (.tmp 50) _ rfl rpartV w.heap.size _ n _ rfl HO0.out _ (some ⟨wr.heap.size + 1, 0, none⟩) 1 1 _ rfl HRD.out (one_part _ _ _ _) (by unfold maxLen; omega) (by omega) hs1 ?_; intro D7 c7 w3 ho3 hb3 hg3 _; have HO3 := Lib.hid (own_ext ho3 (below1 w3 (.cells #[.bool true] 4))); have hb4 := hb3.trans ((below1 w3 (.cells #[.bool true] 4)).mono (Nat.le_trans hs1 hb3.size)); have HS3 := Lib.hid (HS0.out.below hb4); have HY3 := Lib.hid (own_ext (own_kept HY0.out hg3 HO0.out bool_ne'.2.2) (below1 w3 (.cells #[.bool true] 4))); have HWB3 := Lib.hid ((HWB0.out.kept hg3 HO0.out part_ne'.1).alloc (.cells #[.bool true] 4)); have HWR3 := Lib.hid ((HWR0.out.kept hg3 HO0.out part_ne'.1).alloc (.cells #[.bool true] 4)); have HBB3 := Lib.hid (HBB0.out.trans hb4); have hs3 := HBB3.out.size; have HRB := Lib.hid (show Rd (w3.alloc (.cells #[.bool true] 4)) (w3.alloc (.cells #[.bool true] 4)).heap.size 1 (some ⟨w3.heap.size, 0, none⟩) 1 (bools [true]) from ⟨rfl, fun _ => ⟨_, 0, rfl, (Whole.new w3 4 #[.bool true]).lt, fun a u hu => by rw [Nat.zero_add, (Whole.new w3 4 #[.bool true]).cell a, ← hu]; simp [bools]⟩⟩); clear ho3 hb3 hb4 hg3)
                | (at_builtin; refine wpList_append_rd _ rfl (.tmp 52) (.tmp 54) _ rfl boolE w.heap.size _ n _ rfl HY3.out _ (some ⟨w3.heap.size, 0, none⟩) 1 1 _ rfl HRB.out (bools_one _) (by unfold maxLen; omega) (by omega) hs3 ?_; intro D8 c8 w5 ho5 hb5 hg5 _; have HY5 := Lib.hid ho5; have HO5 := Lib.hid (own_kept HO3.out hg5 HY3.out bool_ne'.2.1); have HS5 := Lib.hid (HS3.out.below hb5); have HWB5 := Lib.hid (HWB3.out.kept hg5 HY3.out bool_ne'.1); have HWR5 := Lib.hid (HWR3.out.kept hg5 HY3.out bool_ne'.1); have hb6 := HBB3.out.trans hb5; clear ho5 hb5 hg5)
              have hst : Exn.stays (Exn.tidy (fs.take (j + 1))) ks = Exn.stays (Exn.tidy (fs.take j)) ks ++ [true] := by rw [HTK.out, Exn.stays_snoc, HTO.out, HSTAY.out]
              have HL1 := Lib.hid (show Exn.lastOf (Exn.stays (Exn.tidy (fs.take (j + 1))) ks) = n + 1 from by rw [hst, Exn.lastOf_snoc]; simp only [if_true]; rw [Exn.stays_length, HT0.out])
              have HF1 := Lib.hid (show SeenF w w5 ks (Exn.tidy (fs.take (j + 1))) D7 c7 D8 c8 (n + 1) from ⟨by rw [HTK.out, List.length_append, HT0.out]; rfl, ⟨_, HO5.out, by rw [HTK.out]; exact HS5.out⟩, by rw [hst, bools_append]; exact HY5.out⟩)
              have HT1 := Lib.hid (show Exn.told (Exn.tidy (fs.take (j + 1))) = k + 1 from by rw [HTK.out, Exn.told_snoc, HTO.out]; rfl)
              go_roundw
              case rel => exact ⟨j + 1, n + 1, k + 1, n + 1, D7, c7, D8, c8, by omega, by omega, by omega, by omega, rfl, rfl, by first | rfl | go_num, by first | rfl | go_num, by go_num, HF1, HT1, HL1, HWB5, HWR5, hb6⟩
              case measure => simp [intOf] <;> omega
            | false =>
              have HSTAY := Lib.hid (show ((false : Bool) || (ks[k]?).getD false) = false from by rw [HKV.out, hkv]; rfl)
              rw [hkv] at hk0
              clear hkv
              have hk1 := ((below1 wr (.cells #[.slice A1 m c1, .bool false] 57)).cell (p := ⟨kb, ko + k, none⟩) (show kb < wr.heap.size by have := hb.size; omega)).trans hk0
              have hbA := below1 wr (.cells #[.slice A1 m c1, .bool false] 57)
              have hbB := hbA.trans ((below1 (wr.alloc (.cells #[.slice A1 m c1, .bool false] 57)) (.cells #[.slice A1 m c1, .bool false] 57)).mono hbA.size)
              obtain ⟨hT0, ⟨vs, ho0, hs0⟩, hy0⟩ := HSF.out.below hbB hb.size
              have HT0 := Lib.hid hT0
              have HO0 := Lib.hid ho0
              have HS0 := Lib.hid (hs0.snoc (d := false) (c := c1) HLM.out (HR1.out.below (hbB.mono hb.size)))
              have HY0 := Lib.hid hy0
              have HWB0 := Lib.hid (HWB.out.below hbB HWB.out.lt)
              have HWR0 := Lib.hid (HWR.out.below hbB HWR.out.lt)
              have HBB0 := Lib.hid (hb.trans (hbB.mono hb.size))
              have hs1 := HBB0.out.size
              have HRD := Lib.hid (show Rd ((wr.alloc (.cells #[.slice A1 m c1, .bool false] 57)).alloc (.cells #[.slice A1 m c1, .bool false] 57)) ((wr.alloc (.cells #[.slice A1 m c1, .bool false] 57)).alloc (.cells #[.slice A1 m c1, .bool false] 57)).heap.size 2 (some ⟨wr.heap.size + 1, 0, none⟩) 1 [.slice A1 m c1, .bool false] from by
                have hw23 := Whole.new (wr.alloc (.cells #[.slice A1 m c1, .bool false] 57)) 57 #[.slice A1 m c1, .bool false]
                have hz : (wr.alloc (.cells #[.slice A1 m c1, .bool false] 57)).heap.size = wr.heap.size + 1 := by simp
                rw [hz] at hw23
                exact ⟨rfl, fun _ => ⟨_, 0, rfl, hw23.lt, fun a u hu => by
                  rw [Nat.zero_add, hw23.cell a, ← hu]
                  simp⟩⟩)
              clear hT0 ho0 hs0 hy0
              go_wp2_with first
                | (at_builtin; refine wpList_append_rd _ rfl (.tmp 48) (.tmp 50) _ rfl rpartV w.heap.size _ n _ rfl HO0.out _ (some ⟨wr.heap.size + 1, 0, none⟩) 1 1 _ rfl HRD.out (one_part _ _ _ _) (by unfold maxLen; omega) (by omega) hs1 ?_; intro D7 c7 w3 ho3 hb3 hg3 _; have HO3 := Lib.hid (own_ext ho3 (below1 w3 (.cells #[.bool false] 4))); have hb4 := hb3.trans ((below1 w3 (.cells #[.bool false] 4)).mono (Nat.le_trans hs1 hb3.size)); have HS3 := Lib.hid (HS0.out.below hb4); have HY3 := Lib.hid (own_ext (own_kept HY0.out hg3 HO0.out bool_ne'.2.2) (below1 w3 (.cells #[.bool false] 4))); have HWB3 := Lib.hid ((HWB0.out.kept hg3 HO0.out part_ne'.1).alloc (.cells #[.bool false] 4)); have HWR3 := Lib.hid ((HWR0.out.kept hg3 HO0.out part_ne'.1).alloc (.cells #[.bool false] 4)); have HBB3 := Lib.hid (HBB0.out.trans hb4); have hs3 := HBB3.out.size; have HRB := Lib.hid (show Rd (w3.alloc (.cells #[.bool false] 4)) (w3.alloc (.cells #[.bool false] 4)).heap.size 1 (some ⟨w3.heap.size, 0, none⟩) 1 (bools [false]) from ⟨rfl, fun _ => ⟨_, 0, rfl, (Whole.new w3 4 #[.bool false]).lt, fun a u hu => by rw [Nat.zero_add, (Whole.new w3 4 #[.bool false]).cell a, ← hu]; simp [bools]⟩⟩); clear ho3 hb3 hb4 hg3)
                | (at_builtin; refine wpList_append_rd _ rfl (.tmp 52) (.tmp 54) _ rfl boolE w.heap.size _ n _ rfl HY3.out _ (some ⟨w3.heap.size, 0, none⟩) 1 1 _ rfl HRB.out (bools_one _) (by unfold maxLen; omega) (by omega) hs3 ?_; intro D8 c8 w5 ho5 hb5 hg5 _; have HY5 := Lib.hid ho5; have HO5 := Lib.hid (own_kept HO3.out hg5 HY3.out bool_ne'.2.1); have HS5 := Lib.hid (HS3.out.below hb5); have HWB5 := Lib.hid (HWB3.out.kept hg5 HY3.out bool_ne'.1); have HWR5 := Lib.hid (HWR3.out.kept hg5 HY3.out bool_ne'.1); have hb6 := HBB3.out.trans hb5; clear ho5 hb5 hg5)
              have hst : Exn.stays (Exn.tidy (fs.take (j + 1))) ks = Exn.stays (Exn.tidy (fs.take j)) ks ++ [false] := by rw [HTK.out, Exn.stays_snoc, HTO.out, HSTAY.out]
              have HL1 := Lib.hid (show Exn.lastOf (Exn.stays (Exn.tidy (fs.take (j + 1))) ks) = l from by rw [hst, Exn.lastOf_snoc]; simp only [Bool.false_eq_true, if_false]; exact HLA.out)
              have HF1 := Lib.hid (show SeenF w w5 ks (Exn.tidy (fs.take (j + 1))) D7 c7 D8 c8 (n + 1) from ⟨by rw [HTK.out, List.length_append, HT0.out]; rfl, ⟨_, HO5.out, by rw [HTK.out]; exact HS5.out⟩, by rw [hst, bools_append]; exact HY5.out⟩)
              have HT1 := Lib.hid (show Exn.told (Exn.tidy (fs.take (j + 1))) = k + 1 from by rw [HTK.out, Exn.told_snoc, HTO.out]; rfl)
              go_roundw
              case rel => exact ⟨j + 1, n + 1, k + 1, l, D7, c7, D8, c8, by omega, by omega, by omega, by omega, rfl, rfl, by first | rfl | go_num, by first | rfl | go_num, by go_num, HF1, HT1, HL1, HWB5, HWR5, hb6⟩
              case measure => simp [intOf] <;> omega
          · have t1 : decide ((k : Int) < (nk : Int)) = false := by simp; omega
            have HSTAY := Lib.hid (show ((false : Bool) || (ks[k]?).getD false) = false from by
              rw [List.getElem?_eq_none (by have := HKK.out.1; rw [bools_length] at this; omega)]
              rfl)
            have hbA := below1 wr (.cells #[.slice A1 m c1, .bool false] 57)
            have hbB := hbA.trans ((below1 (wr.alloc (.cells #[.slice A1 m c1, .bool false] 57)) (.cells #[.slice A1 m c1, .bool false] 57)).mono hbA.size)
            obtain ⟨hT0, ⟨vs, ho0, hs0⟩, hy0⟩ := HSF.out.below hbB hb.size
            have HT0 := Lib.hid hT0
            have HO0 := Lib.hid ho0
            have HS0 := Lib.hid (hs0.snoc (d := false) (c := c1) HLM.out (HR1.out.below (hbB.mono hb.size)))
            have HY0 := Lib.hid hy0
            have HWB0 := Lib.hid (HWB.out.below hbB HWB.out.lt)
            have HWR0 := Lib.hid (HWR.out.below hbB HWR.out.lt)
            have HBB0 := Lib.hid (hb.trans (hbB.mono hb.size))
            have hs1 := HBB0.out.size
            have HRD := Lib.hid (show Rd ((wr.alloc (.cells #[.slice A1 m c1, .bool false] 57)).alloc (.cells #[.slice A1 m c1, .bool false] 57)) ((wr.alloc (.cells #[.slice A1 m c1, .bool false] 57)).alloc (.cells #[.slice A1 m c1, .bool false] 57)).heap.size 2 (some ⟨wr.heap.size + 1, 0, none⟩) 1 [.slice A1 m c1, .bool false] from by
              have hw23 := Whole.new (wr.alloc (.cells #[.slice A1 m c1, .bool false] 57)) 57 #[.slice A1 m c1, .bool false]
              have hz : (wr.alloc (.cells #[.slice A1 m c1, .bool false] 57)).heap.size = wr.heap.size + 1 := by simp
              rw [hz] at hw23
              exact ⟨rfl, fun _ => ⟨_, 0, rfl, hw23.lt, fun a u hu => by
                rw [Nat.zero_add, hw23.cell a, ← hu]
                simp⟩⟩)
            clear hT0 ho0 hs0 hy0
            go_wp2_with first
              | (at_builtin; refine wpList_append_rd _ rfl (.tmp 48) (.tmp 50) _ rfl rpartV w.heap.size _ n _ rfl HO0.out _ (some ⟨wr.heap.size + 1, 0, none⟩) 1 1 _ rfl HRD.out (one_part _ _ _ _) (by unfold maxLen; omega) (by omega) hs1 ?_; intro D7 c7 w3 ho3 hb3 hg3 _; have HO3 := Lib.hid (own_ext ho3 (below1 w3 (.cells #[.bool false] 4))); have hb4 := hb3.trans ((below1 w3 (.cells #[.bool false] 4)).mono (Nat.le_trans hs1 hb3.size)); have HS3 := Lib.hid (HS0.out.below hb4); have HY3 := Lib.hid (own_ext (own_kept HY0.out hg3 HO0.out bool_ne'.2.2) (below1 w3 (.cells #[.bool false] 4))); have HWB3 := Lib.hid ((HWB0.out.kept hg3 HO0.out part_ne'.1).alloc (.cells #[.bool false] 4)); have HWR3 := Lib.hid ((HWR0.out.kept hg3 HO0.out part_ne'.1).alloc (.cells #[.bool false] 4)); have HBB3 := Lib.hid (HBB0.out.trans hb4); have hs3 := HBB3.out.size; have HRB := Lib.hid (show Rd (w3.alloc (.cells #[.bool false] 4)) (w3.alloc (.cells #[.bool false] 4)).heap.size 1 (some ⟨w3.heap.size, 0, none⟩) 1 (bools [false]) from ⟨rfl, fun _ => ⟨_, 0, rfl, (Whole.new w3 4 #[.bool false]).lt, fun a u hu => by rw [Nat.zero_add, (Whole.new w3 4 #[.bool false]).cell a, ← hu]; simp [bools]⟩⟩); clear ho3 hb3 hb4 hg3)
              | (at_builtin; refine wpList_append_rd _ rfl (.tmp 52) (.tmp 54) _ rfl boolE w.heap.size _ n _ rfl HY3.out _ (some ⟨w3.heap.size, 0, none⟩) 1 1 _ rfl HRB.out (bools_one _) (by unfold maxLen; omega) (by omega) hs3 ?_; intro D8 c8 w5 ho5 hb5 hg5 _; have HY5 := Lib.hid ho5; have HO5 := Lib.hid (own_kept HO3.out hg5 HY3.out bool_ne'.2.1); have HS5 := Lib.hid (HS3.out.below hb5); have HWB5 := Lib.hid (HWB3.out.kept hg5 HY3.out bool_ne'.1); have HWR5 := Lib.hid (HWR3.out.kept hg5 HY3.out bool_ne'.1); have hb6 := HBB3.out.trans hb5; clear ho5 hb5 hg5)
            have hst : Exn.stays (Exn.tidy (fs.take (j + 1))) ks = Exn.stays (Exn.tidy (fs.take j)) ks ++ [false] := by rw [HTK.out, Exn.stays_snoc, HTO.out, HSTAY.out]
            have HL1 := Lib.hid (show Exn.lastOf (Exn.stays (Exn.tidy (fs.take (j + 1))) ks) = l from by rw [hst, Exn.lastOf_snoc]; simp only [Bool.false_eq_true, if_false]; exact HLA.out)
            have HF1 := Lib.hid (show SeenF w w5 ks (Exn.tidy (fs.take (j + 1))) D7 c7 D8 c8 (n + 1) from ⟨by rw [HTK.out, List.length_append, HT0.out]; rfl, ⟨_, HO5.out, by rw [HTK.out]; exact HS5.out⟩, by rw [hst, bools_append]; exact HY5.out⟩)
            have HT1 := Lib.hid (show Exn.told (Exn.tidy (fs.take (j + 1))) = k + 1 from by rw [HTK.out, Exn.told_snoc, HTO.out]; rfl)
            go_roundw
            case rel => exact ⟨j + 1, n + 1, k + 1, l, D7, c7, D8, c8, by omega, by omega, by omega, by omega, rfl, rfl, by first | rfl | go_num, by first | rfl | go_num, by go_num, HF1, HT1, HL1, HWB5, HWR5, hb6⟩
            case measure => simp [intOf] <;> omega
    · obtain rfl : j = N := by omega
      have ht : fs.take j = fs := List.take_of_length_le (by rw [HL.out]; omega)
      have hsf := HSF.out
      have hla := HLA.out
      rw [ht] at hsf hla
      obtain ⟨hT0, ⟨vs, ho0, hs0⟩, hy0⟩ := hsf
      have HT0 := Lib.hid hT0
      have HLA0 := Lib.hid hla
      have HPR := Lib.hid (Rd.of_own ho0)
      have HSR := Lib.hid (Rd.of_own hy0)
      have HSN := Lib.hid hs0
      have HSW := Lib.hid hb.size
      have HTM := Lib.hid (show ∀ p ∈ Exn.tidy fs, p.1.length ≤ 1000000 from fun p hp => HF.out p (Exn.tidy_mem hp).1)
      clear hT0 hla ho0 hs0 hy0 HSF HLA HTO ht
      obtain ⟨B5, hB5⟩ : ∃ B, wr.heap.size = B := ⟨_, rfl⟩
      have HBW := Lib.hid hb
      have hbz := below1 wr (.cells #[.slice none 0 0] 34)
      have HB5 := Lib.hid hbz
      have HW12 := Lib.hid (Whole.new wr 34 #[.slice none 0 0])
      have HWR2 := Lib.hid (HWR.out.below hbz HWR.out.lt)
      have hgl := HWR.out.lt
      rw [hB5] at HPR HSR HB5 HSW HW12 hgl
      have ne1 : ¬ B5 = gr := by omega
      have ne2 : ¬ gr = B5 := by omega
      clear hb hbz HWR HWB
      go_wp2_with fail
      clear qb
      generalize wr.alloc (.cells #[.slice none 0 0] 34) = W5 at HB5 HW12 HWR2 ⊢
      obtain ⟨g12, hg12⟩ : ∃ g, B5 = g := ⟨_, rfl⟩
      have HG12 := Lib.hid (show B5 ≤ g12 by omega)
      rw [hg12] at HW12 ne1 ne2 ⊢
      clear hg12
      go_loopw [13, 14] (fun v13 _ wx => ∃ (i : Nat), i ≤ l ∧ v13 = .int .i64 i ∧ Hid (HoldsR wx g12 G (Exn.upto fs ks i)) ∧ Hid (Whole wx gr 34 #[.slice none 0 0]) ∧ Below B5 wr wx) (fun i _ _ => l - (intOf i).toNat)
      case atStart => exact ⟨0, by omega, rfl, ⟨none, 0, 0, HW12.out, by have e : Exn.upto fs ks 0 = [] := rfl; rw [e]; exact File.nil _ _ _ _⟩, HWR2.out, HB5.out⟩
      case round =>
        rename World => wx
        obtain ⟨i, hi, rfl, HH, HWR3, hb2⟩ := hrel
        clear HWR2
        have HWR2 := HWR3
        clear HWR3
        obtain ⟨D3, n3, c3, hw3, hf3⟩ := HH.out
        have hb2s : B5 ≤ wx.heap.size := by rw [← hB5]; exact hb2.size
        have q3 := hw3.cell 0
        simp at q3
        by_cases hli : i < l
        · have hdi : decide ((i : Int) < (l : Int)) = true := by simp; omega
          have e1 : (0 : Int) ≤ (i : Int) := by omega
          have e2 : (i : Int) < (n : Int) := by omega
          have hit : i < (Exn.tidy fs).length := by have := HT0.out; omega
          have his : i < (Exn.stays (Exn.tidy fs) ks).length := by rw [Exn.stays_length]; exact hit
          have hn3 : n3 ≤ 1000000 := by
            have h1 := hf3.1
            have h2 := Exn.upto_le fs ks i
            omega
          obtain ⟨A1, c1, hv1, hv2, hrq⟩ := HSN.out.2 i hit
          obtain ⟨pb, po, rfl, hpb, hpc⟩ := (HPR.out.below hb2).2 (by omega)
          obtain ⟨sb, so, rfl, hsb, hsc⟩ := (HSR.out.below hb2).2 (by omega)
          have hp1 := hpc _ _ hv1
          have hst := hsc _ _ (bools_get his)
          have hqm := HTM.out _ (List.getElem_mem hit)
          obtain ⟨q, hq⟩ : ∃ q, (Exn.tidy fs)[i] = q := ⟨_, rfl⟩
          rw [hq] at hp1 hrq hqm
          obtain ⟨m, hm⟩ : ∃ m, q.1.length = m := ⟨_, rfl⟩
          rw [hm] at hp1 hrq hqm
          have HM := Lib.hid hm
          have HQI := Lib.hid hq
          have HRQ := Lib.hid (hrq.more HSW.out)
          clear hpc hsc hv1 hv2 hrq hm hq
          cases hsv : (Exn.stays (Exn.tidy fs) ks)[i] with
          | true =>
            have HSI := Lib.hid hsv
            rw [hsv] at hst
            clear hsv
            have HFZ := Lib.hid (show Exn.put (Exn.upto fs ks i) q.1 true = Exn.upto fs ks (i + 1) from by
              rw [← Exn.upto_succ hit his]
              unfold Exn.after
              rw [HSI.out, HQI.out]
              rfl)
            have HC := Lib.hid (rfput_any wx G (fun g hg => HGG.out g (Nat.le_trans (Nat.le_trans HSW.out hb2s) hg)) D3 n3 c3 _ hf3 (by omega) A1 m c1 q.1 B5 hb2s (HRQ.out.below hb2) (by omega) true)
            rw [HFZ.out] at HC
            clear hf3
            go_wp2_with fail
            refine HC.out.mono ?_
            clear HC
            rintro en w6 ⟨A6, n6, c6', rfl, hf6, hb6⟩
            have hw6 := (hw3).below hb6 (hw3).lt
            have f6 := hw6.frozen 0
            have q6 := hw6.cell 0
            simp at q6
            have hgw := grow_put (w := w6) (g := g12) (.slice A6 n6 c6')
            have HF6 := Lib.hid (hf6.far hw6 hgw part_ne'.1 part_ne'.2)
            have HW6 := Lib.hid (hw6.put_ 0 (.slice A6 n6 c6'))
            have HR6 := Lib.hid ((HWR2.out.below hb6 HWR2.out.lt).far_of hgw ne1)
            have hb7 := (hb2.trans (hb6.mono hb2s)).setCell (p := ⟨g12, 0, none⟩) HG12.out (.slice A6 n6 c6')
            clear hf6 hw6 hgw hb6
            go_wp2_with fail
            go_roundw
            case rel => exact ⟨i + 1, by omega, by go_num, ⟨A6, n6, c6', HW6.out, HF6.out⟩, HR6, hb7⟩
            case measure => simp [intOf] <;> omega
          | false =>
            have HSI := Lib.hid hsv
            rw [hsv] at hst
            clear hsv
            have HFZ := Lib.hid (show Exn.put (Exn.upto fs ks i) (List.replicate m 0) true = Exn.upto fs ks (i + 1) from by
              rw [← Exn.upto_succ hit his]
              unfold Exn.after
              rw [HSI.out, HQI.out]
              simp only [Bool.false_eq_true, if_false, HM.out])
            have MK := run_make_bytes (P := Try.prog) Try.underlying26 makeV .i64 .i64 m (by omega) wx
            have hbz := below1 wx (.cells (zrow m) 5)
            have HOZ := Lib.hid (Rd.of_own (own_zrow (Whole.new wx 5 (zrow m)) (by unfold maxLen; omega)))
            have HFX := Lib.hid (hf3.ext hbz)
            have HWX := Lib.hid (hw3.below hbz hw3.lt)
            have HWRX := Lib.hid (HWR2.out.below hbz HWR2.out.lt)
            have hbx := hb2.trans (hbz.mono hb2s)
            have hbxs := Nat.le_trans hb2s hbz.size
            have q3 := HWX.out.cell 0
            simp at q3
            have HC := Lib.hid (rfput_any (wx.alloc (.cells (zrow m) 5)) G (fun g hg => HGG.out g (Nat.le_trans (Nat.le_trans HSW.out hbxs) hg)) D3 n3 c3 _ HFX.out (by omega) (some ⟨wx.heap.size, 0, none⟩) m m (List.replicate m 0) (wx.alloc (.cells (zrow m) 5)).heap.size (Nat.le_refl _) HOZ.out (by omega) true)
            rw [HFZ.out] at HC
            clear hf3 hbz
            go_wp2_with fail
            refine HC.out.mono ?_
            clear HC
            rintro en w6 ⟨A6, n6, c6', rfl, hf6, hb6⟩
            have hw6 := (HWX.out).below hb6 (HWX.out).lt
            have f6 := hw6.frozen 0
            have q6 := hw6.cell 0
            simp at q6
            have hgw := grow_put (w := w6) (g := g12) (.slice A6 n6 c6')
            have HF6 := Lib.hid (hf6.far hw6 hgw part_ne'.1 part_ne'.2)
            have HW6 := Lib.hid (hw6.put_ 0 (.slice A6 n6 c6'))
            have HR6 := Lib.hid ((HWRX.out.below hb6 HWRX.out.lt).far_of hgw ne1)
            have hb7 := (hbx.trans (hb6.mono hbxs)).setCell (p := ⟨g12, 0, none⟩) HG12.out (.slice A6 n6 c6')
            clear hf6 hw6 hgw hb6
            go_wp2_with fail
            go_roundw
            case rel => exact ⟨i + 1, by omega, by go_num, ⟨A6, n6, c6', HW6.out, HF6.out⟩, HR6, hb7⟩
            case measure => simp [intOf] <;> omega
        · obtain rfl : i = l := by omega
          have qr := HWR2.out.cell 0
          have fr := HWR2.out.frozen 0
          simp at qr
          have HF3 := Lib.hid hf3
          rw [← HLA0.out] at HF3
          rw [Exn.upto_fail] at HF3
          have hbf := HBW.out.trans (hb2.mono HSW.out)
          clear hf3 HH
          go_wp2_with fail
          have hend := out_one (D := D3) (n := n3) (c := c3) hbf HWR2.out HGR.out HF3.out rfl
          generalize wx.setCell ⟨gr, 0, none⟩ (.slice D3 n3 c3) = w9 at hend ⊢
          obtain ⟨r0, hend⟩ := hend
          simp [bodyPost, results, Try.results16, go_sem, r0]
          exact hend
end Go.Proofs.Ytankhjchdnfpfaa
