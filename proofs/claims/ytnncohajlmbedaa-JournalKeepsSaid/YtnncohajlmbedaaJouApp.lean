/-
  Journals: a payload put behind bytes; all payloads, by the document (both).
-/
import Derived.Test.YtnncohajlmbedaaJouLeaf
import Derived.Test.YtnncohajlmbedaaJouLaw
namespace Go.Proofs.Ytnncohajlmbedaa
open Go.RowKit
attribute [local go_sem] match_undef
/-- A call hands back bytes in memory of its own (or nil), a place, a reference, and an error. -/
def AppP (b p : List UInt8) (e : TypeId) (w : World) (en : Ending) (w' : World) : Prop :=
  ∃ D c, en = .returned (.tuple #[.slice D (Jou.appB b p).length c, .int .i64 (Jou.appK b p : Nat), .agg #[.int .u64 (Jou.appN p : Nat), .int .u64 (Jou.appS p : Nat)], .int .i64 (Jou.appE p : Nat)]) ∧ w'.ownsRow w.heap.size e 1 (.slice D (Jou.appB b p).length c) (Jou.appB b p).length (byts (Jou.appB b p)) ∧ Below w.heap.size w w'

set_option maxRecDepth 100000 in
set_option maxHeartbeats 8000000 in
theorem japp_any (w : World) (A : Option Addr) (n cap : Nat) (b : List UInt8) (B : Nat) (hB : B ≤ w.heap.size) (h : Rd w B 1 A n (byts b)) (hc : n ≤ cap) (hm : cap ≤ maxLen) (hn : n ≤ 1000000) (A2 : Option Addr) (m cap2 : Nat) (p : List UInt8) (h2 : Rd w B 1 A2 m (byts p)) (hc2 : m ≤ cap2) (hm2 : cap2 ≤ maxLen) (hn2 : m ≤ 140737488351232) :
    Calls Try.prog 47 #[.slice A n cap, .slice A2 m cap2] w (AppP b p 5 w) := by
  have HL2 := Lib.hid h2.blen
  have hl := h.blen
  have k0 := (Whole.new w 73 #[.int .u64 0, .int .u64 0]).alloc (.cells #[.slice A2 m cap2] 22)
  have kr := Whole.new (w.alloc (.cells #[.int .u64 0, .int .u64 0] 73)) 22 #[.slice A2 m cap2]
  have hb0 := (below1 w (.cells #[.int .u64 0, .int .u64 0] 73)).trans ((below1 (w.alloc (.cells #[.int .u64 0, .int .u64 0] 73)) (.cells #[.slice A2 m cap2] 22)).mono (by simp))
  have H := Lib.hid ((h.alloc hB (.cells #[.int .u64 0, .int .u64 0] 73)).alloc (by simp; omega) (.cells #[.slice A2 m cap2] 22))
  have H2 := Lib.hid ((h2.alloc hB (.cells #[.int .u64 0, .int .u64 0] 73)).alloc (by simp; omega) (.cells #[.slice A2 m cap2] 22))
  have kz : (w.alloc (.cells #[.int .u64 0, .int .u64 0] 73)).heap.size < ((w.alloc (.cells #[.int .u64 0, .int .u64 0] 73)).alloc (.cells #[.slice A2 m cap2] 22)).heap.size := kr.lt
  rw [World.size_alloc] at kr kz
  have HL := Lib.hid hl
  obtain ⟨hj1, hj2⟩ := Jou.join_one p
  clear h h2 hl
  go_enter Try.func47, Try.ntmps47
  go_wp2_with fail
  obtain ⟨g, hg⟩ : ∃ g, w.heap.size = g := ⟨_, rfl⟩
  have HG := Lib.hid hg
  rw [hg] at k0 kr hb0 kz hB ⊢
  clear hg
  generalize (w.alloc (.cells #[.int .u64 0, .int .u64 0] 73)).alloc (.cells #[.slice A2 m cap2] 22) = w2 at *
  have hrow := RdRows.of1 kr (show g + 1 < w2.heap.size from kz) hc2 hm2 (H2.out.more (show B ≤ w2.heap.size by omega))
  have hput := jput_any w2 (some ⟨g + 1, 0, none⟩) 1 1 [p] w2.heap.size (Nat.le_refl _) hrow (by omega) (by intro l hl; simp at hl; subst hl; rw [HL2.out]; exact hn2)
  rw [hj1, hj2] at hput
  unfold BytP at hput
  have K0 := Lib.hid k0
  clear hj1 hj2 hrow kr k0
  by_cases hov : 65535 < m
  · have e1 : Fra.putB 9 p = [] := by unfold Fra.putB; rw [if_pos (by rw [HL2.out]; exact hov)]
    have e2 : Fra.putE p = 3 := by unfold Fra.putE; rw [if_pos (by rw [HL2.out]; exact hov)]
    rw [e1, e2] at hput
    refine hput.mono ?_
    clear hput e1 e2
    rintro en w3 ⟨D, c, rfl, _, hbn⟩
    have kn := K0.out.below hbn K0.out.lt
    have hb3 := hb0.trans (hbn.mono (by omega))
    have q0 := kn.cell 0
    have q1 := kn.cell 1
    have f0 := kn.frozen 0
    have f1 := kn.frozen 1
    have lg := kn.lt
    simp at q0 q1
    clear hbn hb0
    go_wp2_with fail
    have k9 := whole2 kn (.int .u64 0) (.int .u64 0)
    have hb9 := bel2 hb3 (Nat.le_refl g) (.int .u64 0) (.int .u64 0)
    have r0 := k9.cell 0
    have r1 := k9.cell 1
    simp at r0 r1
    clear q0 q1 f0 f1 kn hb3
    generalize (w3.setCell ⟨g, 0, none⟩ (.int .u64 0)).setCell ⟨g, 1, none⟩ (.int .u64 0) = w9 at *
    refine bodyPost_ret (v := .tuple #[.slice none 0 0, .int .i64 0, .agg #[.int .u64 0, .int .u64 0], .int .i64 3]) (by simp [results, Try.results47, go_sem, r0, r1]) rfl ?_
    have hp := HL2.out
    unfold AppP Jou.appB Jou.appK Jou.appN Jou.appS Jou.appE
    rw [HG.out, hp]
    simp only [hov, if_true]
    exact ⟨none, 0, rfl, World.ownsRow_nil _ _ _ _, hb9⟩
  · obtain ⟨Y, hY⟩ : ∃ Y, Fra.bytes 9 p = Y := ⟨_, rfl⟩
    obtain ⟨y, hy⟩ : ∃ y, Y.length = y := ⟨_, rfl⟩
    obtain ⟨K, hK⟩ : ∃ K, (Jou.all b).2 = K := ⟨_, rfl⟩
    obtain ⟨S, hS⟩ : ∃ S, Crc.update 0 p = S := ⟨_, rfl⟩
    have hKn : K ≤ n := by have h1 := (Jou.all_cat b).2.1; rw [hK, HL.out] at h1; exact h1
    have hyl : y ≤ 65550 := by
      have h1 := Fra.bytes_length 9 p
      have h2 := (Fra.head_le 9 p).2
      have h3 := HL2.out
      rw [hY, hy] at h1
      omega
    have e1 : Fra.putB 9 p = Y := by unfold Fra.putB; rw [if_neg (by rw [HL2.out]; exact hov), hY]
    have e2 : Fra.putE p = 0 := by unfold Fra.putE; rw [if_neg (by rw [HL2.out]; exact hov)]
    rw [e1, e2, hy] at hput
    have HY := Lib.hid hY
    have HYL := Lib.hid hy
    have HK := Lib.hid hK
    have HS := Lib.hid hS
    refine hput.mono ?_
    clear hput e1 e2 hY hy hK hS
    rintro en w3 ⟨D, c, rfl, ho, hbn⟩
    have HO := Lib.hid ho
    replace K0 := Lib.hid (K0.out.below hbn K0.out.lt)
    replace H := Lib.hid (H.out.below (hbn.mono (by omega)))
    replace H2 := Lib.hid (H2.out.below (hbn.mono (by omega)))
    have HB3 := Lib.hid (hb0.trans (hbn.mono (by omega)))
    have HZ3 := Lib.hid (show g + 1 < w3.heap.size from Nat.lt_of_lt_of_le kz hbn.size)
    clear ho hbn hb0 kz
    go_wp2_with fail
    refine (jcut_any w3 A n cap b B (by have := HZ3.out; omega) H.out hc hm hn K HK.out hKn).mono ?_
    rintro en w4 ⟨D4, c4, rfl, ho4, hbn⟩
    have HO4 := Lib.hid ho4
    replace HO := Lib.hid (own_ext HO.out hbn)
    replace K0 := Lib.hid (K0.out.below hbn K0.out.lt)
    replace H2 := Lib.hid (H2.out.below (hbn.mono (by have := HZ3.out; omega)))
    have HB4 := Lib.hid (HB3.out.trans (hbn.mono (by have := HZ3.out; omega)))
    have HR := Lib.hid (Rd.of_own HO.out)
    have hz4 := hbn.size
    have HKT := Lib.hid (show (b.take K).length = K by rw [List.length_take, HL.out]; omega)
    clear ho4 hbn
    go_wp2_with (at_builtin; refine wpList_append_rd _ rfl (.tmp 21) (.tmp 22) _ rfl bytesV w3.heap.size _ K _ rfl HO4.out w4.heap.size D y c _ rfl HR.out (byts_one _) (by unfold maxLen; omega) (by omega) hz4 ?_; intro D5 c5 w5 ho5 hb5 _ _; rw [← byts_append] at ho5; have HO5 := Lib.hid ho5; have HB5 := Lib.hid hb5; clear ho5 hb5)
    replace K0 := Lib.hid (K0.out.below HB5.out (by have := HZ3.out; omega))
    replace H2 := Lib.hid (H2.out.below (HB5.out.mono (by have := HZ3.out; omega)))
    replace HB4 := Lib.hid (HB4.out.trans (HB5.out.mono (by have := HZ3.out; omega)))
    have hof := jof_any w5 A2 m cap2 p B (by have := HB4.out.size; have := HG.out; omega) H2.out hc2 hm2 hn2
    rw [HS.out] at hof
    refine hof.mono ?_
    clear hof
    rintro en w6 ⟨rfl, hbn⟩
    have kn := K0.out.below hbn K0.out.lt
    have hb3 := HB4.out.trans (hbn.mono (by have := HB4.out.size; have := HG.out; omega))
    replace HO5 := Lib.hid (own_ext HO5.out hbn)
    have q0 := kn.cell 0
    have q1 := kn.cell 1
    have f0 := kn.frozen 0
    have f1 := kn.frozen 1
    have lg := kn.lt
    simp at q0 q1
    clear hbn
    go_wp2_with fail
    have k9 := whole2 kn (.int .u64 (m : Nat)) (.int .u64 (S : Nat))
    have hb9 := bel2 hb3 (Nat.le_refl g) (.int .u64 (m : Nat)) (.int .u64 (S : Nat))
    have hfar : ∀ q, D5 = some ⟨q, 0, none⟩ → q ≠ g := fun q hq => by have h1 := (own_lt HO5.out q hq).1; have h2 := HZ3.out; omega
    have ho9 := own_far (own_far HO5.out (p := ⟨g, 0, none⟩) hfar (.int .u64 (m : Nat))) (p := ⟨g, 1, none⟩) hfar (.int .u64 (S : Nat))
    have r0 := k9.cell 0
    have r1 := k9.cell 1
    simp at r0 r1
    clear q0 q1 f0 f1 kn hb3 HO5
    generalize (w6.setCell ⟨g, 0, none⟩ (.int .u64 (m : Nat))).setCell ⟨g, 1, none⟩ (.int .u64 (S : Nat)) = w9 at *
    refine bodyPost_ret (v := .tuple #[.slice D5 (K + y) c5, .int .i64 (K : Nat), .agg #[.int .u64 (m : Nat), .int .u64 (S : Nat)], .int .i64 0]) (by simp [results, Try.results47, go_sem, r0, r1]) rfl ?_
    have hp := HL2.out
    have hlen : (b.take K ++ Y).length = K + y := by rw [List.length_append, HKT.out, HYL.out]
    unfold AppP Jou.appB Jou.appK Jou.appN Jou.appS Jou.appE
    rw [HG.out, hp]
    simp only [hov, if_false]
    rw [HK.out, HS.out, HY.out, hlen]
    exact ⟨D5, c5, rfl, own_base ho9 (by have := HZ3.out; omega), hb9⟩

end Go.Proofs.Ytnncohajlmbedaa
