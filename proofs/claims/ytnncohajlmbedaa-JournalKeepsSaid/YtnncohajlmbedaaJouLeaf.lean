/-
  Journals: references, segments made, segments cut (both).
-/
import Derived.Test.YtnncohajlmbedaaJouWhole
namespace Go.Proofs.Ytnncohajlmbedaa
open Go.RowKit
attribute [local go_sem] match_undef
/-- The cells vs are those of frames of kind 9 with the bodies ls, each body anywhere below block B. -/
def LinkFr (w : World) (B : Nat) (ls : List (List UInt8)) (vs : List Value) : Prop :=
  vs.length = ls.length * 2 ∧ ∀ j (hj : j < ls.length), ∃ A c, vs[j * 2]? = some (.int .u8 (((9 : UInt8)).toNat : Nat)) ∧ vs[j * 2 + 1]? = some (.slice A ls[j].length c) ∧ ls[j].length ≤ c ∧ c ≤ maxLen ∧ Rd w B 1 A ls[j].length (byts ls[j])
theorem LinkFr.nil (w : World) (B : Nat) : LinkFr w B [] [] := ⟨rfl, fun j hj => absurd hj (by simp)⟩
theorem LinkFr.below {w w' : World} {B : Nat} {ls : List (List UInt8)} {vs : List Value} (h : LinkFr w B ls vs) (k : Below B w w') : LinkFr w' B ls vs :=
  ⟨h.1, fun j hj => by obtain ⟨A, c, h1, h2, h3, h4, h5⟩ := h.2 j hj; exact ⟨A, c, h1, h2, h3, h4, h5.below k⟩⟩
theorem LinkFr.snoc {w : World} {B : Nat} {ls : List (List UInt8)} {vs : List Value} (h : LinkFr w B ls vs) {l : List UInt8} {A : Option Addr} {c n : Nat} (hn : l.length = n) (h1 : n ≤ c) (h2 : c ≤ maxLen) (hr : Rd w B 1 A n (byts l)) :
    LinkFr w B (ls ++ [l]) (vs ++ [.int .u8 (((9 : UInt8)).toNat : Nat), .slice A n c]) := by
  subst hn
  refine ⟨by simp [h.1]; omega, fun j hj => ?_⟩
  rw [List.length_append, List.length_singleton] at hj
  by_cases hlt : j < ls.length
  · obtain ⟨A', c', g1, g2, g3, g4, g5⟩ := h.2 j hlt
    rw [List.getElem_append_left hlt]
    exact ⟨A', c', by rw [List.getElem?_append_left (by rw [h.1]; omega)]; exact g1, by rw [List.getElem?_append_left (by rw [h.1]; omega)]; exact g2, g3, g4, g5⟩
  · obtain rfl : j = ls.length := by omega
    rw [List.getElem_concat_length rfl]
    refine ⟨A, c, ?_, ?_, h1, h2, hr⟩
    · rw [← h.1, List.getElem?_append_right (Nat.le_refl _)]; simp
    · rw [← h.1, List.getElem?_append_right (by omega)]; simp
theorem LinkFr.rd {w : World} {B base N c : Nat} {te : TypeId} {D : Option Addr} {ls : List (List UInt8)} {vs : List Value} (h : LinkFr w B ls vs) (ho : w.ownsRow base te 2 (.slice D N c) N vs) (hl : ls.length = N) (hB : B ≤ w.heap.size) : RdFr w w.heap.size D N (Jou.frs ls) := by
  subst hl
  refine ⟨Jou.frs_length ls, fun j hj => ?_⟩
  have hj2 : j < ls.length := by rw [Jou.frs_length] at hj; exact hj
  obtain ⟨b, oo, e, hb, hc⟩ := (Rd.of_own ho).2 (by omega)
  obtain ⟨A', c', g1, g2, g3, g4, g5⟩ := h.2 j hj2
  rw [Jou.frs_get hj2]
  exact ⟨b, oo, A', c', e, hb, hc _ _ g1, hc _ _ g2, g3, g4, g5.more hB⟩

set_option maxRecDepth 100000 in
set_option maxHeartbeats 4000000 in
theorem jof_any (w : World) (A : Option Addr) (n cap : Nat) (b : List UInt8) (B : Nat) (hB : B ≤ w.heap.size) (h : Rd w B 1 A n (byts b)) (hc : n ≤ cap) (hm : cap ≤ maxLen) (hn : n ≤ 140737488351232) :
    Calls Try.prog 52 #[.slice A n cap] w fun en w' => en = .returned (.agg #[.int .u64 (n : Nat), .int .u64 (Crc.update 0 b : Nat)]) ∧ Below w.heap.size w w' := by
  obtain ⟨S, hS⟩ : ∃ S, Crc.update 0 b = S := ⟨_, rfl⟩
  have hSl : S < 4294967296 := by rw [← hS]; exact Crc.update_lt (by omega) _
  have HL := Lib.hid h.blen
  have HR := Lib.hid (h.alloc hB (.cells #[.int .u64 0, .int .u64 0] 73))
  have HS := Lib.hid hS
  rw [hS]
  clear h hS
  have k0 := Whole.new w 73 #[.int .u64 0, .int .u64 0]
  have hb0 := below1 w (.cells #[.int .u64 0, .int .u64 0] 73)
  go_enter Try.func52, Try.ntmps52
  go_wp2_with fail
  obtain ⟨g, hg⟩ : ∃ g, w.heap.size = g := ⟨_, rfl⟩
  rw [hg] at k0 hb0 ⊢
  have hz1 : (w.alloc (.cells #[.int .u64 0, .int .u64 0] 73)).heap.size = g + 1 := by simp [hg]
  generalize w.alloc (.cells #[.int .u64 0, .int .u64 0] 73) = w1 at *
  refine (crcSum_one w1 A n cap b B (by omega) HR.out hc hm S HS.out _ (by omega)).mono ?_
  rintro en w2 ⟨rfl, hb2⟩
  have kn := k0.below hb2 (by omega)
  have hb3 : Below g w w2 := hb0.trans (hb2.mono (by omega))
  have q0 := kn.cell 0
  have q1 := kn.cell 1
  have f0 := kn.frozen 0
  have f1 := kn.frozen 1
  have lg := kn.lt
  simp at q0 q1
  clear hb2 hb0 k0
  go_wp2_with fail
  have k9 := whole2 kn (.int .u64 (n : Nat)) (.int .u64 (S : Nat))
  have hb9 := bel2 hb3 (Nat.le_refl g) (.int .u64 (n : Nat)) (.int .u64 (S : Nat))
  have r0 := k9.cell 0
  have r1 := k9.cell 1
  simp at r0 r1
  clear q0 q1 f0 f1 kn hb3
  generalize (w2.setCell ⟨g, 0, none⟩ (.int .u64 (n : Nat))).setCell ⟨g, 1, none⟩ (.int .u64 (S : Nat)) = w9 at *
  refine bodyPost_ret (v := .agg #[.int .u64 (n : Nat), .int .u64 (S : Nat)]) (by simp [results, Try.results52, go_sem, r0, r1]) rfl ⟨rfl, ?_⟩
  rw [hg]
  exact hb9

set_option maxRecDepth 100000 in
set_option maxHeartbeats 4000000 in
theorem rjof_any (w : World) (A : Option Addr) (n cap : Nat) (b : List UInt8) (B : Nat) (hB : B ≤ w.heap.size) (h : Rd w B 1 A n (byts b)) (hc : n ≤ cap) (hm : cap ≤ maxLen) (hn : n ≤ 140737488351232) :
    Calls Try.prog 53 #[.slice A n cap] w fun en w' => en = .returned (.agg #[.int .u64 (n : Nat), .int .u64 (Crc.update 0 b : Nat)]) ∧ Below w.heap.size w w' := by
  obtain ⟨S, hS⟩ : ∃ S, Crc.update 0 b = S := ⟨_, rfl⟩
  have hSl : S < 4294967296 := by rw [← hS]; exact Crc.update_lt (by omega) _
  have HL := Lib.hid h.blen
  have HR := Lib.hid (h.alloc hB (.cells #[.int .u64 0, .int .u64 0] 76))
  have HS := Lib.hid hS
  rw [hS]
  clear h hS
  have k0 := Whole.new w 76 #[.int .u64 0, .int .u64 0]
  have hb0 := below1 w (.cells #[.int .u64 0, .int .u64 0] 76)
  go_enter Try.func53, Try.ntmps53
  go_wp2_with fail
  obtain ⟨g, hg⟩ : ∃ g, w.heap.size = g := ⟨_, rfl⟩
  rw [hg] at k0 hb0 ⊢
  have hz1 : (w.alloc (.cells #[.int .u64 0, .int .u64 0] 76)).heap.size = g + 1 := by simp [hg]
  generalize w.alloc (.cells #[.int .u64 0, .int .u64 0] 76) = w1 at *
  have hsum := refSum_any _ _ 1 1 [b] (w1.heap.size + 1) (by simp) (RdRows.one w1 22 (show B ≤ w1.heap.size by omega) hc hm HR.out) (by unfold maxLen; omega) (by simp [HL.out]; omega)
  simp only [List.flatten_cons, List.flatten_nil, List.append_nil, HS.out, hz1] at hsum
  refine hsum.mono ?_
  clear hsum
  rintro en w2 ⟨rfl, hb2⟩
  have kn := (k0.alloc (.cells #[.slice A n cap] 22)).below hb2 (by simp; omega)
  have hb3 : Below g w w2 := hb0.trans (((below1 w1 (.cells #[.slice A n cap] 22)).mono (by omega)).trans (hb2.mono (by simp; omega)))
  have q0 := kn.cell 0
  have q1 := kn.cell 1
  have f0 := kn.frozen 0
  have f1 := kn.frozen 1
  have lg := kn.lt
  simp at q0 q1
  clear hb2 hb0 k0
  go_wp2_with fail
  have k9 := whole2 kn (.int .u64 (n : Nat)) (.int .u64 (S : Nat))
  have hb9 := bel2 hb3 (Nat.le_refl g) (.int .u64 (n : Nat)) (.int .u64 (S : Nat))
  have r0 := k9.cell 0
  have r1 := k9.cell 1
  simp at r0 r1
  clear q0 q1 f0 f1 kn hb3
  generalize (w2.setCell ⟨g, 0, none⟩ (.int .u64 (n : Nat))).setCell ⟨g, 1, none⟩ (.int .u64 (S : Nat)) = w9 at *
  refine bodyPost_ret (v := .agg #[.int .u64 (n : Nat), .int .u64 (S : Nat)]) (by simp [results, Try.results53, go_sem, r0, r1]) rfl ⟨rfl, ?_⟩
  rw [hg]
  exact hb9

set_option maxRecDepth 100000 in
set_option maxHeartbeats 4000000 in
theorem jcut_any (w : World) (A : Option Addr) (m cap : Nat) (b : List UInt8) (B : Nat) (hB : B ≤ w.heap.size) (h : Rd w B 1 A m (byts b)) (hc : m ≤ cap) (hm : cap ≤ maxLen) (hmn : m ≤ 1000000) (K : Nat) (hK : (Jou.all b).2 = K) (hKm : K ≤ m) :
    Calls Try.prog 58 #[.slice A m cap] w (Fresh w.heap.size 5 1 K (byts (b.take K)) w) := by
  have H := Lib.hid h
  have HK := Lib.hid hK
  have e0 : (0 : Int) ≤ (K : Int) := by omega
  have e1 : (K : Int) ≤ (cap : Int) := by omega
  clear h hK
  go_enter Try.func58, Try.ntmps58
  go_wp2_with fail
  have hcon := whole_any w A m cap b B hB H.out hc hm hmn
  rw [HK.out] at hcon
  refine hcon.mono ?_
  clear hcon
  rintro en w2 ⟨rfl, hb⟩
  have HB := Lib.hid hb
  clear hb
  go_wp2_with fail
  refine (bclone_any w2 A K cap (b.take K) B (Nat.le_trans hB HB.out.size) ((H.out.below (HB.out.mono hB)).front hKm) (by omega)).mono ?_
  rintro en w3 ⟨D, c, rfl, ho, hb3⟩
  have HO := Lib.hid ho
  have HB3 := Lib.hid hb3
  clear ho hb3
  go_wp2_with fail
  go_ret
  exact ⟨D, c, rfl, own_base HO.out HB.out.size, HB.out.trans (HB3.out.mono HB.out.size)⟩

set_option maxRecDepth 100000 in
set_option maxHeartbeats 8000000 in
theorem jput_any (w : World) (A : Option Addr) (N cap : Nat) (ls : List (List UInt8)) (B : Nat) (hB : B ≤ w.heap.size) (h : RdRows w B A N ls) (hN : N ≤ 1000) (hf : ∀ l ∈ ls, l.length ≤ 140737488351232) :
    Calls Try.prog 49 #[.slice A N cap] w (BytP (Fra.joinB (Jou.frs ls)) (Fra.joinE (Jou.frs ls)) 5 w) := by
  have HL := Lib.hid h.1
  have H := Lib.hid h
  have HF := Lib.hid hf
  have HB := Lib.hid hB
  clear h hB hf
  go_enter Try.func49, Try.ntmps49
  go_wp2_with fail
  go_loopw [4, 9] (fun v i wr => ∃ (j : Nat) (D : Option Addr) (c : Nat) (vs : List Value), j ≤ N ∧ v = .slice D j c ∧ i = .int .i64 j ∧ Hid (wr.ownsRow w.heap.size 26 2 (.slice D j c) j vs) ∧ Hid (LinkFr wr B (ls.take j) vs) ∧ Below w.heap.size w wr) (fun _ i _ => N - (intOf i).toNat)
  case atStart => exact ⟨0, none, 0, [], by omega, rfl, rfl, World.ownsRow_nil _ _ _ _, LinkFr.nil _ _, Below.refl _ _⟩
  case round =>
    obtain ⟨j, D, c, vs, hj, rfl, rfl, HO, HLK, hb⟩ := hrel
    by_cases hlt : j < N
    · have hjl : j < ls.length := by have := HL.out; omega
      obtain ⟨b1, o1, A1, m1, c1, rfl, hb1, hc1, hm1, hm2, hr1⟩ := (H.out.below (hb.mono HB.out)).2 j hlt
      have hg : ls.getD j [] = ls[j] := by simp [List.getD, hjl]
      rw [hg] at hr1
      have HB2 := Lib.hid (Nat.le_trans HB.out hb.size)
      have hlb := Nat.lt_of_lt_of_le hb1 HB2.out
      have d : decide ((j : Int) < (N : Int)) = true := by simp; omega
      have d1 : (0 : Int) ≤ (j : Int) := by omega
      have d2 : (j : Int) < (N : Int) := by omega
      have HTK := Lib.hid (show ls.take (j + 1) = ls.take j ++ [ls[j]] from List.take_succ_eq_append_getElem hjl)
      have HR1 := Lib.hid hr1
      have HN := Lib.hid (Rd.frame1 wr 26 (.int .u8 9) (.slice A1 m1 c1))
      have hz2 : w.heap.size ≤ (wr.alloc (.cells #[.int .u8 9, .slice A1 m1 c1] 26)).heap.size := by have := hb.size; simp; omega
      clear hg hr1
      go_wp2_with (at_builtin; refine wpList_append_rd _ rfl (.tmp 13) (.tmp 16) _ rfl frameV w.heap.size _ j _ rfl (HO.out.alloc _) _ (some ⟨wr.heap.size, 0, none⟩) 1 1 _ rfl HN.out (one_frame _ _ _ _) (by unfold maxLen; omega) (by omega) hz2 ?_; intro D6 c6 w6 ho6 hb6 _ _; have HO6 := Lib.hid ho6; have HB6 := Lib.hid hb6; clear ho6 hb6)
      have hba := below1 wr (.cells #[.int .u8 9, .slice A1 m1 c1] 26)
      have hb7 := (hba.mono hb.size).trans HB6.out
      have HLN := Lib.hid ((HLK.out.below (hb7.mono HB.out)).snoc (l := ls[j]) HR1.out.blen hm1 hm2 (HR1.out.below (hb7.mono HB.out)))
      replace hb := hb.trans hb7
      clear hba hb7
      go_roundw
      case rel => exact ⟨j + 1, D6, c6, _, by omega, rfl, by go_num, HO6, by rw [HTK.out]; exact HLN, hb⟩
      case measure => simp [intOf] <;> omega
    · obtain rfl : N = j := by omega
      have d : decide ((N : Int) < (N : Int)) = false := by simp
      have htk : ls.take N = ls := List.take_of_length_le (by have := HL.out; omega)
      have hlk := HLK.out
      rw [htk] at hlk
      have hrd := hlk.rd HO.out HL.out (Nat.le_trans HB.out hb.size)
      have hcon := fjoin_any wr D N c (Jou.frs ls) wr.heap.size (Nat.le_refl _) hrd (by omega) (by intro f hf; unfold Jou.frs at hf; obtain ⟨l, hl, rfl⟩ := List.mem_map.1 hf; exact HF.out l hl)
      unfold BytP at hcon
      obtain ⟨JB, hJB⟩ : ∃ JB, Fra.joinB (Jou.frs ls) = JB := ⟨_, rfl⟩
      obtain ⟨X, hX⟩ : ∃ X, JB.length = X := ⟨_, rfl⟩
      obtain ⟨xe, hxe⟩ : ∃ x, Fra.joinE (Jou.frs ls) = x := ⟨_, rfl⟩
      rw [hJB, hX, hxe] at hcon
      have HCON := Lib.hid hcon
      have HJB := Lib.hid hJB
      have HX := Lib.hid hX
      have HXE := Lib.hid hxe
      clear hcon hrd hlk htk hJB hX hxe
      go_wp2_with fail
      refine HCON.out.mono ?_
      rintro en w2 ⟨E, e, rfl, ho, hb2⟩
      have HO2 := Lib.hid ho
      have HB2 := Lib.hid hb2
      clear ho hb2
      go_wp2_with fail
      go_ret2
      unfold BytP
      rw [HJB.out, HX.out, HXE.out]
      exact ⟨E, e, rfl, own_base HO2.out hb.size, hb.trans (HB2.out.mono hb.size)⟩

set_option maxRecDepth 100000 in
set_option maxHeartbeats 8000000 in
theorem rjput_any (w : World) (A : Option Addr) (N cap : Nat) (ls : List (List UInt8)) (B : Nat) (hB : B ≤ w.heap.size) (h : RdRows w B A N ls) (hN : N ≤ 2000000) (hf : ∀ l ∈ ls, l.length ≤ 140737488351232) :
    Calls Try.prog 50 #[.slice A N cap] w (BytP (Fra.joinB (Jou.frs ls)) (Fra.joinE (Jou.frs ls)) 5 w) := by
  have HL := Lib.hid h.1
  have HLF := Lib.hid (show (Jou.frs ls).length = N by rw [Jou.frs_length]; exact h.1)
  have H := Lib.hid h
  have HF := Lib.hid hf
  have HB := Lib.hid hB
  clear h hB hf
  go_enter Try.func50, Try.ntmps50
  go_wp2_with fail
  go_loopw [4, 5] (fun v i wr => ∃ (j : Nat) (D : Option Addr) (c X : Nat), j ≤ N ∧ v = .slice D X c ∧ i = .int .i64 j ∧ Hid ((Fra.cat ((Jou.frs ls).take j)).length = X) ∧ X ≤ j * 65550 ∧ Hid (∀ a (ha : a < (Jou.frs ls).length), a < j → (Jou.frs ls)[a].2.length ≤ 65535) ∧ Hid (wr.ownsRow w.heap.size 5 1 (.slice D X c) X (byts (Fra.cat ((Jou.frs ls).take j)))) ∧ Below w.heap.size w wr) (fun _ i _ => N - (intOf i).toNat)
  case atStart => exact ⟨0, none, 0, 0, by omega, rfl, rfl, rfl, by omega, fun a ha h0 => absurd h0 (by omega), World.ownsRow_nil _ _ _ _, Below.refl _ _⟩
  case round =>
    obtain ⟨j, D, c, X, hj, rfl, rfl, HX, hXl, HA, HO, hb⟩ := hrel
    by_cases hlt : j < N
    · have hjl : j < ls.length := by have := HL.out; omega
      have hjf : j < (Jou.frs ls).length := by have := HLF.out; omega
      obtain ⟨b1, o1, A1, m, c1, rfl, hb1, hc1, hm1, hm2, hr1⟩ := (H.out.below (hb.mono HB.out)).2 j hlt
      have hg : ls.getD j [] = ls[j] := by simp [List.getD, hjl]
      rw [hg] at hr1
      obtain ⟨bd, hbd⟩ : ∃ bd, ls[j] = bd := ⟨_, rfl⟩
      have hle := HF.out ls[j] (List.getElem_mem hjl)
      have hfj : (Jou.frs ls)[j] = (9, bd) := by rw [Jou.frs_get hjl, hbd]
      rw [hbd] at hr1 hle
      have HM := Lib.hid hr1.blen
      have hle2 : m ≤ 140737488351232 := by rw [← hr1.blen]; exact hle
      have HFJ := Lib.hid hfj
      have HB2 := Lib.hid (Nat.le_trans HB.out hb.size)
      have d : decide ((j : Int) < (N : Int)) = true := by simp; omega
      have d1 : (0 : Int) ≤ (j : Int) := by omega
      have d2 : (j : Int) < (N : Int) := by omega
      have HR1 := Lib.hid hr1
      have hlb := Nat.lt_of_lt_of_le hb1 HB2.out
      clear hg hbd hle hfj hr1
      by_cases hov : 65535 < m
      · have e1 : Fra.putB 9 bd = [] := by unfold Fra.putB; rw [if_pos (by rw [HM.out]; exact hov)]
        have e2 : Fra.putE bd = 3 := by unfold Fra.putE; rw [if_pos (by rw [HM.out]; exact hov)]
        have HOV := Lib.hid (Fra.over_at hjf (by rw [HFJ.out, HM.out]; exact hov))
        have hput := rput_any wr 9 A1 m c1 bd B HB2.out HR1.out (by omega)
        rw [e1, e2] at hput
        have HPUT := Lib.hid hput
        clear hput e1 e2
        go_wp2_with fail
        refine HPUT.out.mono ?_
        clear HPUT
        rintro en w2 ⟨D9, c9, rfl, _, hbn⟩
        replace hb := hb.trans (hbn.mono hb.size)
        clear hbn
        go_wp2_with fail
        go_ret2
        unfold BytP Fra.joinB Fra.joinE
        rw [if_pos HOV.out, if_pos HOV.out]
        exact ⟨none, 0, rfl, World.ownsRow_nil _ _ _ _, hb⟩
      · obtain ⟨Y, hY⟩ : ∃ Y, Fra.bytes 9 bd = Y := ⟨_, rfl⟩
        obtain ⟨y, hy⟩ : ∃ y, Y.length = y := ⟨_, rfl⟩
        have hyl : y ≤ 65550 := by
          have h1 := Fra.bytes_length 9 bd
          have h2 := (Fra.head_le 9 bd).2
          have h3 := HM.out
          rw [hY, hy] at h1
          omega
        have e1 : Fra.putB 9 bd = Y := by unfold Fra.putB; rw [if_neg (by rw [HM.out]; exact hov), hY]
        have e2 : Fra.putE bd = 0 := by unfold Fra.putE; rw [if_neg (by rw [HM.out]; exact hov)]
        have hput := rput_any wr 9 A1 m c1 bd B HB2.out HR1.out (by omega)
        rw [e1, e2, hy] at hput
        have HPUT := Lib.hid hput
        have HSN := Lib.hid (show Fra.cat ((Jou.frs ls).take (j + 1)) = Fra.cat ((Jou.frs ls).take j) ++ Y from by rw [Fra.cat_snoc hjf, HFJ.out, hY])
        have HY := Lib.hid hy
        have HA2 := Lib.hid (show ∀ a (ha : a < (Jou.frs ls).length), a < j + 1 → (Jou.frs ls)[a].2.length ≤ 65535 from fun a ha h0 => by
          rcases Nat.lt_or_eq_of_le (Nat.le_of_lt_succ h0) with h1 | h1
          · exact HA.out a ha h1
          · subst h1
            rw [HFJ.out, HM.out]
            omega)
        clear hput e1 e2 hY hy
        go_wp2_with fail
        refine HPUT.out.mono ?_
        clear HPUT
        rintro en w2 ⟨D9, c9, rfl, ho9, hbn⟩
        replace HO := Lib.hid (own_ext HO.out hbn)
        replace hb := hb.trans (hbn.mono hb.size)
        have HO9 := Lib.hid ho9
        have hz9 := hb.size
        clear hbn ho9
        go_wp2_with (at_builtin; refine wpList_append_rd _ rfl (.tmp 26) (.tmp 27) _ rfl bytesV w.heap.size _ X _ rfl HO.out w2.heap.size D9 y c9 _ rfl (Rd.of_own HO9.out) (byts_one _) (by unfold maxLen; omega) (by omega) hz9 ?_; intro D5 c5 w6 ho6 hb6 _ _)
        rw [← byts_append, ← HSN.out] at ho6
        have HO6 := Lib.hid ho6
        replace hb := hb.trans hb6
        clear ho6 hb6
        go_roundw
        case rel => exact ⟨j + 1, D5, c5, X + y, by omega, rfl, by go_num, Lib.hid (by rw [HSN.out, List.length_append, HX.out, HY.out]), by omega, HA2, HO6, hb⟩
        case measure => simp [intOf] <;> omega
    · obtain rfl : j = N := by omega
      have d : decide ((j : Int) < (j : Int)) = false := by simp
      have hnot := Lib.hid (Fra.over_not (fun a ha => HA.out a ha (by have := HLF.out; omega)))
      have htk : (Jou.frs ls).take j = Jou.frs ls := List.take_of_length_le (by have := HLF.out; omega)
      have HTK := Lib.hid htk
      clear htk
      go_wp2_with fail
      go_ret2
      unfold BytP Fra.joinB Fra.joinE
      rw [if_neg (by rw [hnot.out]; simp), if_neg (by rw [hnot.out]; simp)]
      have h1 := HO.out
      have h2 := HX.out
      rw [HTK.out] at h1 h2
      rw [h2]
      exact ⟨D, c, rfl, h1, hb⟩

set_option maxRecDepth 100000 in
set_option maxHeartbeats 4000000 in
theorem jsame_any (w : World) (n S : Nat) :
    Calls Try.prog 51 #[.agg #[.int .u64 (n : Nat), .int .u64 (S : Nat)], .agg #[.int .u64 (n : Nat), .int .u64 (S : Nat)]] w fun en w' => en = .returned (.bool true) ∧ Below w.heap.size w w' := by
  have hb := (below1 w (.cells #[.int .u64 (n : Nat), .int .u64 (S : Nat)] 73)).trans ((below1 (w.alloc (.cells #[.int .u64 (n : Nat), .int .u64 (S : Nat)] 73)) (.cells #[.int .u64 (n : Nat), .int .u64 (S : Nat)] 76)).mono (by simp))
  have d1 : (((n : Nat) : Int) == (n : Int)) = true := by simp
  have d2 : (((S : Nat) : Int) == (S : Int)) = true := by simp
  go_enter Try.func51, Try.ntmps51
  go_wp2_with fail
  go_ret
  exact ⟨rfl, hb⟩

end Go.Proofs.Ytnncohajlmbedaa
