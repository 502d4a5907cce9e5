/-
  Frames written one behind the other.
-/
import Derived.Test.YtnncohajlmbedaaFraTakes
namespace Go.Proofs.Ytnncohajlmbedaa
open Go.RowKit
attribute [local go_sem] match_undef
namespace Fra
def over (fs : List Fr) : Bool := fs.any fun f => decide (65535 < f.2.length)
def cat (fs : List Fr) : List UInt8 := fs.flatMap fun f => bytes f.1 f.2
def joinB (fs : List Fr) : List UInt8 := if over fs = true then [] else cat fs
def joinE (fs : List Fr) : Nat := if over fs = true then 3 else 0
theorem cat_snoc {fs : List Fr} {k : Nat} (h : k < fs.length) : cat (fs.take (k + 1)) = cat (fs.take k) ++ bytes fs[k].1 fs[k].2 := by
  unfold cat
  rw [List.take_succ_eq_append_getElem h, List.flatMap_append]
  simp
theorem over_at {fs : List Fr} {k : Nat} (h : k < fs.length) (ho : 65535 < fs[k].2.length) : over fs = true := by
  unfold over
  rw [List.any_eq_true]
  exact ⟨fs[k], List.getElem_mem h, by simpa using ho⟩
theorem over_not {fs : List Fr} (h : ∀ j (hj : j < fs.length), fs[j].2.length ≤ 65535) : over fs = false := by
  unfold over
  rw [List.any_eq_false]
  intro f hf
  obtain ⟨j, hj, rfl⟩ := List.getElem_of_mem hf
  have := h j hj
  simp
  omega
end Fra
/-- A call hands back bytes in memory of its own (or nil), and an error. -/
def BytP (l : List UInt8) (x : Nat) (e : TypeId) (w : World) (en : Ending) (w' : World) : Prop :=
  ∃ D c, en = .returned (.tuple #[.slice D l.length c, .int .i64 (x : Nat)]) ∧ w'.ownsRow w.heap.size e 1 (.slice D l.length c) l.length (byts l) ∧ Below w.heap.size w w'

set_option maxRecDepth 100000 in
set_option maxHeartbeats 8000000 in
theorem fjoin_any (w : World) (A : Option Addr) (N cap : Nat) (fs : List Fr) (B : Nat) (hB : B ≤ w.heap.size) (h : RdFr w B A N fs) (hN : N ≤ 1000) (hf : ∀ f ∈ fs, f.2.length ≤ 140737488351232) :
    Calls Try.prog 31 #[.slice A N cap] w (BytP (Fra.joinB fs) (Fra.joinE fs) 5 w) := by
  have HF := Lib.hid hf
  have HB := Lib.hid hB
  have HL := Lib.hid h.1
  have H := Lib.hid h
  clear h hB hf
  go_enter Try.func31, Try.ntmps31
  go_wp2_with fail
  go_loopw [4, 11] (fun v i wr => ∃ (j : Nat) (D : Option Addr) (c X : Nat), j ≤ N ∧ v = .slice D X c ∧ i = .int .i64 j ∧ Hid ((Fra.cat (fs.take j)).length = X) ∧ X ≤ j * 65550 ∧ Hid (∀ a (ha : a < fs.length), a < j → fs[a].2.length ≤ 65535) ∧ Hid (wr.ownsRow w.heap.size 5 1 (.slice D X c) X (byts (Fra.cat (fs.take j)))) ∧ Below w.heap.size w wr) (fun _ i _ => N - (intOf i).toNat)
  case atStart => exact ⟨0, none, 0, 0, by omega, rfl, rfl, rfl, by omega, fun a ha h0 => absurd h0 (by omega), World.ownsRow_nil _ _ _ _, Below.refl _ _⟩
  case round =>
    obtain ⟨j, D, c, X, hj, rfl, rfl, HX, hXl, HA, HO, hb⟩ := hrel
    by_cases hlt : j < N
    · have hjl : j < fs.length := by have := HL.out; omega
      obtain ⟨b1, o1, A1, c1, rfl, hb1, hp1, hq1, hm1, hm2, hr1⟩ := (H.out.below (hb.mono HB.out)).2 j hjl
      have hle := HF.out fs[j] (List.getElem_mem hjl)
      obtain ⟨f, hfj⟩ : ∃ f, fs[j] = f := ⟨_, rfl⟩
      rw [hfj] at hp1 hq1 hr1 hm1 hle
      have HFJ := Lib.hid hfj
      obtain ⟨k, bd⟩ := f
      simp only at hp1 hq1 hr1 hm1 hle
      obtain ⟨m, em⟩ : ∃ m, bd.length = m := ⟨_, rfl⟩
      rw [em] at hq1 hr1 hm1 hle
      have HM := Lib.hid em
      have HB2 := Lib.hid (Nat.le_trans HB.out hb.size)
      have hd : decide ((j : Int) < (N : Int)) = true := by simp; omega
      have d1 : (0 : Int) ≤ (j : Int) := by omega
      have d2 : (j : Int) < (N : Int) := by omega
      have HR1 := Lib.hid hr1
      have hlb := Nat.lt_of_lt_of_le hb1 HB2.out
      clear em hfj hr1
      by_cases hov : 65535 < m
      · have e1 : Fra.putB k bd = [] := by unfold Fra.putB; rw [if_pos (by rw [HM.out]; exact hov)]
        have e2 : Fra.putE bd = 3 := by unfold Fra.putE; rw [if_pos (by rw [HM.out]; exact hov)]
        have HOV := Lib.hid (Fra.over_at hjl (by rw [HFJ.out, HM.out]; exact hov))
        have hput := fput_any (wr.alloc (.cells #[.int .u8 (k.toNat : Nat), .slice A1 m c1] 26)) k A1 m c1 bd B (Nat.le_trans HB2.out (below1 wr (.cells #[.int .u8 (k.toNat : Nat), .slice A1 m c1] 26)).size) (HR1.out.alloc HB2.out (.cells #[.int .u8 (k.toNat : Nat), .slice A1 m c1] 26)) (by omega)
        rw [e1, e2] at hput
        have HPUT := Lib.hid hput
        clear hput e1 e2
        go_wp2_with fail
        refine HPUT.out.mono ?_
        clear HPUT
        rintro en w2 ⟨D9, c9, rfl, _, hbn⟩
        replace hb := (hb.alloc hb.size (.cells #[.int .u8 (k.toNat : Nat), .slice A1 m c1] 26)).trans (hbn.mono (hb.alloc hb.size (.cells #[.int .u8 (k.toNat : Nat), .slice A1 m c1] 26)).size)
        clear hbn
        go_wp2_with fail
        go_ret2
        unfold BytP Fra.joinB Fra.joinE
        rw [if_pos HOV.out, if_pos HOV.out]
        exact ⟨none, 0, rfl, World.ownsRow_nil _ _ _ _, hb⟩
      · obtain ⟨Y, hY⟩ : ∃ Y, Fra.bytes k bd = Y := ⟨_, rfl⟩
        obtain ⟨y, hy⟩ : ∃ y, Y.length = y := ⟨_, rfl⟩
        have hyl : y ≤ 65550 := by
          have h1 := Fra.bytes_length k bd
          have h2 := (Fra.head_le k bd).2
          have h3 := HM.out
          rw [hY, hy] at h1
          omega
        have e1 : Fra.putB k bd = Y := by unfold Fra.putB; rw [if_neg (by rw [HM.out]; exact hov), hY]
        have e2 : Fra.putE bd = 0 := by unfold Fra.putE; rw [if_neg (by rw [HM.out]; exact hov)]
        have hput := fput_any (wr.alloc (.cells #[.int .u8 (k.toNat : Nat), .slice A1 m c1] 26)) k A1 m c1 bd B (Nat.le_trans HB2.out (below1 wr (.cells #[.int .u8 (k.toNat : Nat), .slice A1 m c1] 26)).size) (HR1.out.alloc HB2.out (.cells #[.int .u8 (k.toNat : Nat), .slice A1 m c1] 26)) (by omega)
        rw [e1, e2, hy] at hput
        have HPUT := Lib.hid hput
        have HSN := Lib.hid (show Fra.cat (fs.take (j + 1)) = Fra.cat (fs.take j) ++ Y from by rw [Fra.cat_snoc hjl, HFJ.out, hY])
        have HY := Lib.hid hy
        have HA2 := Lib.hid (show ∀ a (ha : a < fs.length), a < j + 1 → fs[a].2.length ≤ 65535 from fun a ha h0 => by
          rcases Nat.lt_or_eq_of_le (Nat.le_of_lt_succ h0) with h1 | h1
          · exact HA.out a ha h1
          · subst h1
            rw [HFJ.out, HM.out]
            omega)
        clear hput e1 e2 hY hy
        go_wp2_with fail
        refine HPUT.out.mono ?_
        clear HPUT
        rintro en w2 ⟨D9, c9, rfl, ho9, hbn⟩
        replace HO := Lib.hid (own_ext (HO.out.alloc _) hbn)
        replace hb := (hb.alloc hb.size (.cells #[.int .u8 (k.toNat : Nat), .slice A1 m c1] 26)).trans (hbn.mono (hb.alloc hb.size (.cells #[.int .u8 (k.toNat : Nat), .slice A1 m c1] 26)).size)
        have HO9 := Lib.hid ho9
        have hz9 := hb.size
        clear hbn ho9
        go_wp2_with (at_builtin; refine wpList_append_rd _ rfl (.tmp 23) (.tmp 24) _ rfl bytesV w.heap.size _ X _ rfl HO.out w2.heap.size D9 y c9 _ rfl (Rd.of_own HO9.out) (byts_one _) (by unfold maxLen; omega) (by omega) hz9 ?_; intro D5 c5 w6 ho6 hb6 _ _)
        rw [← byts_append, ← HSN.out] at ho6
        have HO6 := Lib.hid ho6
        replace hb := hb.trans hb6
        clear ho6 hb6
        go_roundw
        case rel => exact ⟨j + 1, D5, c5, X + y, by omega, rfl, by go_num, Lib.hid (by rw [HSN.out, List.length_append, HX.out, HY.out]), by omega, HA2, HO6, hb⟩
        case measure => simp [intOf] <;> omega
    · obtain rfl : j = N := by omega
      have hd : decide ((j : Int) < (j : Int)) = false := by simp
      have hnot := Lib.hid (Fra.over_not (fun a ha => HA.out a ha (by have := HL.out; omega)))
      have htk : fs.take j = fs := List.take_of_length_le (by have := HL.out; omega)
      have HTK := Lib.hid htk
      clear htk
      go_wp2_with fail
      go_ret2
      unfold BytP Fra.joinB Fra.joinE
      rw [if_neg (by rw [hnot.out]; simp), if_neg (by rw [hnot.out]; simp)]
      have h1 := HO.out
      have h2 := HX.out
      rw [HTK.out] at h1 h2
      rw [h2]
      exact ⟨D, c, rfl, h1, hb⟩

set_option maxRecDepth 100000 in
set_option maxHeartbeats 8000000 in
theorem rjoin_any (w : World) (A : Option Addr) (N cap : Nat) (fs : List Fr) (B : Nat) (hB : B ≤ w.heap.size) (h : RdFr w B A N fs) (hN : N ≤ 1000) (hf : ∀ f ∈ fs, f.2.length ≤ 140737488351232) :
    Calls Try.prog 32 #[.slice A N cap] w (BytP (Fra.joinB fs) (Fra.joinE fs) 5 w) := by
  have HF := Lib.hid hf
  have HB := Lib.hid hB
  have HL := Lib.hid h.1
  have H := Lib.hid h
  clear h hB hf
  go_enter Try.func32, Try.ntmps32
  go_wp2_with fail
  go_loopw [4, 5] (fun v i wr => ∃ (j : Nat) (D : Option Addr) (c X : Nat), j ≤ N ∧ v = .slice D X c ∧ i = .int .i64 j ∧ Hid ((Fra.cat (fs.take j)).length = X) ∧ X ≤ j * 65550 ∧ Hid (∀ a (ha : a < fs.length), a < j → fs[a].2.length ≤ 65535) ∧ Hid (wr.ownsRow w.heap.size 5 1 (.slice D X c) X (byts (Fra.cat (fs.take j)))) ∧ Below w.heap.size w wr) (fun _ i _ => N - (intOf i).toNat)
  case atStart => exact ⟨0, none, 0, 0, by omega, rfl, rfl, rfl, by omega, fun a ha h0 => absurd h0 (by omega), World.ownsRow_nil _ _ _ _, Below.refl _ _⟩
  case round =>
    obtain ⟨j, D, c, X, hj, rfl, rfl, HX, hXl, HA, HO, hb⟩ := hrel
    by_cases hlt : j < N
    · have hjl : j < fs.length := by have := HL.out; omega
      obtain ⟨b1, o1, A1, c1, rfl, hb1, hp1, hq1, hm1, hm2, hr1⟩ := (H.out.below (hb.mono HB.out)).2 j hjl
      have hle := HF.out fs[j] (List.getElem_mem hjl)
      obtain ⟨f, hfj⟩ : ∃ f, fs[j] = f := ⟨_, rfl⟩
      rw [hfj] at hp1 hq1 hr1 hm1 hle
      have HFJ := Lib.hid hfj
      obtain ⟨k, bd⟩ := f
      simp only at hp1 hq1 hr1 hm1 hle
      obtain ⟨m, em⟩ : ∃ m, bd.length = m := ⟨_, rfl⟩
      rw [em] at hq1 hr1 hm1 hle
      have HM := Lib.hid em
      have HB2 := Lib.hid (Nat.le_trans HB.out hb.size)
      have hd : decide ((j : Int) < (N : Int)) = true := by simp; omega
      have d1 : (0 : Int) ≤ (j : Int) := by omega
      have d2 : (j : Int) < (N : Int) := by omega
      have HR1 := Lib.hid hr1
      have hlb := Nat.lt_of_lt_of_le hb1 HB2.out
      clear em hfj hr1
      by_cases hov : 65535 < m
      · have e1 : Fra.putB k bd = [] := by unfold Fra.putB; rw [if_pos (by rw [HM.out]; exact hov)]
        have e2 : Fra.putE bd = 3 := by unfold Fra.putE; rw [if_pos (by rw [HM.out]; exact hov)]
        have HOV := Lib.hid (Fra.over_at hjl (by rw [HFJ.out, HM.out]; exact hov))
        have hput := rput_any wr k A1 m c1 bd B HB2.out HR1.out (by omega)
        rw [e1, e2] at hput
        have HPUT := Lib.hid hput
        clear hput e1 e2
        go_wp2_with fail
        refine HPUT.out.mono ?_
        clear HPUT
        rintro en w2 ⟨D9, c9, rfl, _, hbn⟩
        replace hb := hb.trans (hbn.mono hb.size)
        clear hbn
        go_wp2_with fail
        go_ret2
        unfold BytP Fra.joinB Fra.joinE
        rw [if_pos HOV.out, if_pos HOV.out]
        exact ⟨none, 0, rfl, World.ownsRow_nil _ _ _ _, hb⟩
      · obtain ⟨Y, hY⟩ : ∃ Y, Fra.bytes k bd = Y := ⟨_, rfl⟩
        obtain ⟨y, hy⟩ : ∃ y, Y.length = y := ⟨_, rfl⟩
        have hyl : y ≤ 65550 := by
          have h1 := Fra.bytes_length k bd
          have h2 := (Fra.head_le k bd).2
          have h3 := HM.out
          rw [hY, hy] at h1
          omega
        have e1 : Fra.putB k bd = Y := by unfold Fra.putB; rw [if_neg (by rw [HM.out]; exact hov), hY]
        have e2 : Fra.putE bd = 0 := by unfold Fra.putE; rw [if_neg (by rw [HM.out]; exact hov)]
        have hput := rput_any wr k A1 m c1 bd B HB2.out HR1.out (by omega)
        rw [e1, e2, hy] at hput
        have HPUT := Lib.hid hput
        have HSN := Lib.hid (show Fra.cat (fs.take (j + 1)) = Fra.cat (fs.take j) ++ Y from by rw [Fra.cat_snoc hjl, HFJ.out, hY])
        have HY := Lib.hid hy
        have HA2 := Lib.hid (show ∀ a (ha : a < fs.length), a < j + 1 → fs[a].2.length ≤ 65535 from fun a ha h0 => by
          rcases Nat.lt_or_eq_of_le (Nat.le_of_lt_succ h0) with h1 | h1
          · exact HA.out a ha h1
          · subst h1
            rw [HFJ.out, HM.out]
            omega)
        clear hput e1 e2 hY hy
        go_wp2_with fail
        refine HPUT.out.mono ?_
        clear HPUT
        rintro en w2 ⟨D9, c9, rfl, ho9, hbn⟩
        replace HO := Lib.hid (own_ext HO.out hbn)
        replace hb := hb.trans (hbn.mono hb.size)
        have HO9 := Lib.hid ho9
        have hz9 := hb.size
        clear hbn ho9
        go_wp2_with (at_builtin; refine wpList_append_rd _ rfl (.tmp 25) (.tmp 26) _ rfl bytesV w.heap.size _ X _ rfl HO.out w2.heap.size D9 y c9 _ rfl (Rd.of_own HO9.out) (byts_one _) (by unfold maxLen; omega) (by omega) hz9 ?_; intro D5 c5 w6 ho6 hb6 _ _)
        rw [← byts_append, ← HSN.out] at ho6
        have HO6 := Lib.hid ho6
        replace hb := hb.trans hb6
        clear ho6 hb6
        go_roundw
        case rel => exact ⟨j + 1, D5, c5, X + y, by omega, rfl, by go_num, Lib.hid (by rw [HSN.out, List.length_append, HX.out, HY.out]), by omega, HA2, HO6, hb⟩
        case measure => simp [intOf] <;> omega
    · obtain rfl : j = N := by omega
      have hd : decide ((j : Int) < (j : Int)) = false := by simp
      have hnot := Lib.hid (Fra.over_not (fun a ha => HA.out a ha (by have := HL.out; omega)))
      have htk : fs.take j = fs := List.take_of_length_le (by have := HL.out; omega)
      have HTK := Lib.hid htk
      clear htk
      go_wp2_with fail
      go_ret2
      unfold BytP Fra.joinB Fra.joinE
      rw [if_neg (by rw [hnot.out]; simp), if_neg (by rw [hnot.out]; simp)]
      have h1 := HO.out
      have h2 := HX.out
      rw [HTK.out] at h1 h2
      rw [h2]
      exact ⟨D, c, rfl, h1, hb⟩

end Go.Proofs.Ytnncohajlmbedaa
