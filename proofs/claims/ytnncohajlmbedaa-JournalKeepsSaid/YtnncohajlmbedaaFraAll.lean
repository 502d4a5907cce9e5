/-
  Frames: all that stand in bytes, one behind the other.
-/
import Derived.Test.YtnncohajlmbedaaFraRows
import Derived.WalkMore
namespace Go.Proofs.Ytnncohajlmbedaa
open Go.RowKit
attribute [local go_sem] match_undef
attribute [local irreducible] wpList
theorem frameV : ElemOK Try.prog 33 26 2 32 := ElemOK.mk_ (z := .agg #[.int .u8 0, .slice none 0 0]) Try.underlying33 (by kernel_rfl) rfl (by omega)
theorem rframeV : ElemOK Try.prog 36 30 2 32 := ElemOK.mk_ (z := .agg #[.int .u8 0, .slice none 0 0]) Try.underlying36 (by kernel_rfl) rfl (by omega)
theorem Rd.frame1 (w : World) (t : TypeId) (u v : Value) : Rd (w.alloc (.cells #[u, v] t)) (w.heap.size + 1) 2 (some ⟨w.heap.size, 0, none⟩) 1 [u, v] := by
  refine ⟨rfl, fun _ => ⟨w.heap.size, 0, rfl, by omega, fun j x hx => ?_⟩⟩
  rw [Nat.zero_add, (Whole.new w t #[u, v]).cell j]
  rw [← hx]
  simp
theorem one_frame (z : Int) (A : Option Addr) (n c : Nat) : ∀ u ∈ [Value.int .u8 z, .slice A n c], u.oneCell' = true := by
  intro u hu
  simp at hu
  rcases hu with rfl | rfl <;> rfl
/-- A call hands back frames, in memory of its own, and a place. -/
def FrAll (fs : List Fr) (p : Nat) (tf te : TypeId) (w : World) (en : Ending) (w' : World) : Prop :=
  ∃ D c vs, en = .returned (.tuple #[.slice D fs.length c, .int .i64 (p : Nat)]) ∧ w'.ownsRow w.heap.size tf 2 (.slice D fs.length c) fs.length vs ∧ OwnFr w' w.heap.size te fs vs ∧ Below w.heap.size w w'
theorem frame_ne : 5 ≠ 26 ∧ 5 ≠ 30 := by decide

set_option maxRecDepth 100000 in
set_option maxHeartbeats 8000000 in
theorem fall_any (w : World) (A : Option Addr) (n cap : Nat) (b : List UInt8) (B : Nat) (hB : B ≤ w.heap.size) (h : Rd w B 1 A n (byts b)) (hc : n ≤ cap) (hm : cap ≤ maxLen) (hn : n ≤ 1000000) :
    Calls Try.prog 19 #[.slice A n cap] w (FrAll (Fra.all b).1 (Fra.all b).2 26 5 w) := by
  have HB := Lib.hid hB
  have H := Lib.hid h
  have hl := h.blen
  clear h hB
  go_enter Try.func19, Try.ntmps19
  go_wp2_with fail
  go_step3
  go_wp2_with fail
  go_step3
  go_wp2_with fail
  go_loopw [2, 3] (fun v i wr => ∃ (pre : List Fr) (p : Nat) (D : Option Addr) (c : Nat) (vs : List Value), v = .slice D pre.length c ∧ i = .int .i64 (p : Nat) ∧ Hid (Fra.At b pre p) ∧ Hid (wr.ownsRow w.heap.size 26 2 (.slice D pre.length c) pre.length vs) ∧ Hid (OwnFr wr w.heap.size 5 pre vs) ∧ Below w.heap.size w wr) (fun _ i _ => n + 1 - (intOf i).toNat)
  case atStart => exact ⟨[], 0, none, 0, [], rfl, rfl, Fra.At.start b, World.ownsRow_nil _ _ _ _, OwnFr.nil _ _ _, Below.refl _ _⟩
  case round =>
    obtain ⟨pre, p, D, c, vs, rfl, rfl, HAT, HOW, HFR, hb⟩ := hrel
    have hp := HAT.out.1
    have hpl := HAT.out.2.1
    have htk := ftake_any wr A n cap b B (Nat.le_trans HB.out hb.size) (H.out.below (hb.mono HB.out)) hc hm (by omega) (p : Nat) (by omega) (by omega)
    obtain ⟨t, ht⟩ : ∃ t, Fra.take b (p : Nat) = t := ⟨_, rfl⟩
    obtain ⟨k, bd, nx, x⟩ := t
    rw [ht] at htk
    have HT := Lib.hid ht
    clear ht
    simp only at htk
    by_cases hx : x = 0
    · subst hx
      obtain ⟨m, hm2⟩ : ∃ m : Nat, nx = m := ⟨nx.toNat, by have := (Fra.take_bound b p (by rw [HT.out])).2; rw [HT.out] at this; simp only at this; omega⟩
      subst hm2
      obtain ⟨hat2, hlt⟩ := HAT.out.step HT.out
      have hat3 := hat2.1
      have HAT2 := Lib.hid hat2
      clear hat2
      have HTK := Lib.hid htk
      clear htk
      go_wp2_with fail
      have htk := HTK.out
      clear HTK
      refine htk.mono ?_
      clear htk
      rintro en w2 ⟨D2, c2, rfl, ho2, hb2⟩
      have HO2 := Lib.hid (own_base ho2 hb.size)
      replace HOW := Lib.hid (own_ext HOW.out hb2)
      replace HFR := Lib.hid (HFR.out.ext hb2)
      replace hb := hb.trans (hb2.mono hb.size)
      clear ho2 hb2
      have hs1 : (w2.alloc (.cells #[.int .u8 (k.toNat : Nat), .slice D2 bd.length c2] 26)).heap.size = w2.heap.size + 1 := by simp
      have hfr := Rd.frame1 (w2.alloc (.cells #[.int .u8 (k.toNat : Nat), .slice D2 bd.length c2] 26)) 26 (.int .u8 (k.toNat : Nat)) (.slice D2 bd.length c2)
      rw [hs1] at hfr
      have HFRD := Lib.hid hfr
      have hz4 := Nat.le_trans hb.size (Nat.le_trans (below1 w2 (.cells #[.int .u8 (k.toNat : Nat), .slice D2 bd.length c2] 26)).size (below1 (w2.alloc (.cells #[.int .u8 (k.toNat : Nat), .slice D2 bd.length c2] 26)) (.cells #[.int .u8 (k.toNat : Nat), .slice D2 bd.length c2] 26)).size)
      have HZ4 := Lib.hid hz4
      clear hs1 hfr hz4
      go_wp2_with (at_builtin; first
        | (refine wpList_append_rd _ rfl (.tmp 16) (.tmp 18) _ rfl frameV w.heap.size _ pre.length _ rfl ((HOW.out.alloc _).alloc _) (w2.heap.size + 1 + 1) (some ⟨w2.heap.size + 1, 0, none⟩) 1 1 _ rfl HFRD.out (one_frame _ _ _ _) (by unfold maxLen; omega) (by omega) HZ4.out ?_
           intro D3 c3 w3 ho3 hb3 hg3 _
           have HF3 := Lib.hid (((HFR.out.snoc (k := k) rfl HO2.out).ext ((below1 w2 (.cells #[.int .u8 (k.toNat : Nat), .slice D2 bd.length c2] 26)).trans ((below1 (w2.alloc (.cells #[.int .u8 (k.toNat : Nat), .slice D2 bd.length c2] 26)) (.cells #[.int .u8 (k.toNat : Nat), .slice D2 bd.length c2] 26)).mono (below1 w2 (.cells #[.int .u8 (k.toNat : Nat), .slice D2 bd.length c2] 26)).size))).kept hg3 ((HOW.out.alloc _).alloc _) frame_ne.1)
           have HO3 := Lib.hid ho3
           replace hb := ((hb.alloc hb.size (.cells #[.int .u8 (k.toNat : Nat), .slice D2 bd.length c2] 26)).alloc (hb.alloc hb.size (.cells #[.int .u8 (k.toNat : Nat), .slice D2 bd.length c2] 26)).size (.cells #[.int .u8 (k.toNat : Nat), .slice D2 bd.length c2] 26)).trans hb3
           clear ho3 hb3 hg3))
      go_roundw
      case rel => exact ⟨pre ++ [(k, bd)], m, D3, c3, _, by rw [List.length_append]; rfl, rfl, HAT2, by rw [List.length_append]; exact HO3, HF3, hb⟩
      case measure => simp [intOf]; omega
    · have HALL := Lib.hid (HAT.out.stop (by rw [HT.out]; exact hx))
      have t0 : (((x : Nat) : Int) != 0) = true := by rw [bne_iff_ne]; omega
      have HTK := Lib.hid htk
      clear htk
      go_wp2_with fail

      have htk := HTK.out
      clear HTK
      refine htk.mono ?_
      clear htk
      rintro en w2 ⟨D2, c2, rfl, ho2, hb2⟩
      have HO2 := Lib.hid (own_base ho2 hb.size)
      replace HOW := Lib.hid (own_ext HOW.out hb2)
      replace HFR := Lib.hid (HFR.out.ext hb2)
      replace hb := hb.trans (hb2.mono hb.size)
      clear ho2 hb2
      go_wp2_with fail
      rw [Exit.noGoto_ret]
      go_ret2
      rw [HALL.out]
      exact ⟨D, c, vs, rfl, HOW.out.alloc _, HFR.out.ext (below1 w2 _), hb.alloc hb.size _⟩

set_option maxRecDepth 100000 in
set_option maxHeartbeats 8000000 in
theorem rall_any (w : World) (A : Option Addr) (n cap : Nat) (b : List UInt8) (B : Nat) (hB : B ≤ w.heap.size) (h : Rd w B 1 A n (byts b)) (hc : n ≤ cap) (hn : n ≤ 1000000) :
    Calls Try.prog 20 #[.slice A n cap] w (FrAll (Fra.all b).1 (Fra.all b).2 30 5 w) := by
  have HB := Lib.hid hB
  have H := Lib.hid h
  have hl := h.blen
  clear h hB
  go_enter Try.func20, Try.ntmps20
  go_wp2_with fail
  go_loopw [4, 5] (fun v i wr => ∃ (pre : List Fr) (p : Nat) (D : Option Addr) (c : Nat) (vs : List Value), v = .slice D pre.length c ∧ i = .int .i64 (p : Nat) ∧ Hid (Fra.At b pre p) ∧ Hid (wr.ownsRow w.heap.size 30 2 (.slice D pre.length c) pre.length vs) ∧ Hid (OwnFr wr w.heap.size 5 pre vs) ∧ Below w.heap.size w wr) (fun _ i _ => n + 1 - (intOf i).toNat)
  case atStart => exact ⟨[], 0, none, 0, [], rfl, rfl, Fra.At.start b, World.ownsRow_nil _ _ _ _, OwnFr.nil _ _ _, Below.refl _ _⟩
  case round =>
    obtain ⟨pre, p, D, c, vs, rfl, rfl, HAT, HOW, HFR, hb⟩ := hrel
    have hp := HAT.out.1
    have hpl := HAT.out.2.1
    have htk := rtake_any wr A n cap b B (Nat.le_trans HB.out hb.size) (H.out.below (hb.mono HB.out)) hc (by omega) (p : Nat) (by omega) (by omega)
    obtain ⟨t, ht⟩ : ∃ t, Fra.take b (p : Nat) = t := ⟨_, rfl⟩
    obtain ⟨k, bd, nx, x⟩ := t
    rw [ht] at htk
    have HT := Lib.hid ht
    clear ht
    simp only at htk
    by_cases hpn : p = n
    · have HALL := Lib.hid (HAT.out.stop (Fra.take_end (by omega)))
      subst hpn
      have hd : decide ((p : Int) < (p : Int)) = false := by simp
      clear htk HT
      go_wp2_with fail
      go_ret2
      rw [HALL.out]
      exact ⟨D, c, vs, rfl, HOW.out, HFR.out, hb⟩
    have hd : decide ((p : Int) < (n : Int)) = true := by simp; omega
    by_cases hx : x = 0
    · subst hx
      obtain ⟨m, hm2⟩ : ∃ m : Nat, nx = m := ⟨nx.toNat, by have := (Fra.take_bound b p (by rw [HT.out])).2; rw [HT.out] at this; simp only at this; omega⟩
      subst hm2
      obtain ⟨hat2, hlt⟩ := HAT.out.step HT.out
      have hat3 := hat2.1
      have HAT2 := Lib.hid hat2
      clear hat2
      have HTK := Lib.hid htk
      clear htk
      go_wp2_with fail
      have htk := HTK.out
      clear HTK
      refine htk.mono ?_
      clear htk
      rintro en w2 ⟨D2, c2, rfl, ho2, hb2⟩
      have HO2 := Lib.hid (own_base ho2 hb.size)
      replace HOW := Lib.hid (own_ext HOW.out hb2)
      replace HFR := Lib.hid (HFR.out.ext hb2)
      replace hb := hb.trans (hb2.mono hb.size)
      clear ho2 hb2
      have hs1 : (w2.alloc (.cells #[.int .u8 (k.toNat : Nat), .slice D2 bd.length c2] 30)).heap.size = w2.heap.size + 1 := by simp
      have hfr := Rd.frame1 (w2.alloc (.cells #[.int .u8 (k.toNat : Nat), .slice D2 bd.length c2] 30)) 30 (.int .u8 (k.toNat : Nat)) (.slice D2 bd.length c2)
      rw [hs1] at hfr
      have HFRD := Lib.hid hfr
      have hz4 := Nat.le_trans hb.size (Nat.le_trans (below1 w2 (.cells #[.int .u8 (k.toNat : Nat), .slice D2 bd.length c2] 30)).size (below1 (w2.alloc (.cells #[.int .u8 (k.toNat : Nat), .slice D2 bd.length c2] 30)) (.cells #[.int .u8 (k.toNat : Nat), .slice D2 bd.length c2] 30)).size)
      have HZ4 := Lib.hid hz4
      clear hs1 hfr hz4
      go_wp2_with (at_builtin; first
        | (refine wpList_append_rd _ rfl (.tmp 24) (.tmp 26) _ rfl rframeV w.heap.size _ pre.length _ rfl ((HOW.out.alloc _).alloc _) (w2.heap.size + 1 + 1) (some ⟨w2.heap.size + 1, 0, none⟩) 1 1 _ rfl HFRD.out (one_frame _ _ _ _) (by unfold maxLen; omega) (by omega) HZ4.out ?_
           intro D3 c3 w3 ho3 hb3 hg3 _
           have HF3 := Lib.hid (((HFR.out.snoc (k := k) rfl HO2.out).ext ((below1 w2 (.cells #[.int .u8 (k.toNat : Nat), .slice D2 bd.length c2] 30)).trans ((below1 (w2.alloc (.cells #[.int .u8 (k.toNat : Nat), .slice D2 bd.length c2] 30)) (.cells #[.int .u8 (k.toNat : Nat), .slice D2 bd.length c2] 30)).mono (below1 w2 (.cells #[.int .u8 (k.toNat : Nat), .slice D2 bd.length c2] 30)).size))).kept hg3 ((HOW.out.alloc _).alloc _) frame_ne.2)
           have HO3 := Lib.hid ho3
           replace hb := ((hb.alloc hb.size (.cells #[.int .u8 (k.toNat : Nat), .slice D2 bd.length c2] 30)).alloc (hb.alloc hb.size (.cells #[.int .u8 (k.toNat : Nat), .slice D2 bd.length c2] 30)).size (.cells #[.int .u8 (k.toNat : Nat), .slice D2 bd.length c2] 30)).trans hb3
           clear ho3 hb3 hg3))
      go_roundw
      case rel => exact ⟨pre ++ [(k, bd)], m, D3, c3, _, by rw [List.length_append]; rfl, rfl, HAT2, by rw [List.length_append]; exact HO3, HF3, hb⟩
      case measure => simp [intOf]; omega
    · have HALL := Lib.hid (HAT.out.stop (by rw [HT.out]; exact hx))
      have t0 : (((x : Nat) : Int) != 0) = true := by rw [bne_iff_ne]; omega
      have HTK := Lib.hid htk
      clear htk
      go_wp2_with fail

      have htk := HTK.out
      clear HTK
      refine htk.mono ?_
      clear htk
      rintro en w2 ⟨D2, c2, rfl, ho2, hb2⟩
      have HO2 := Lib.hid (own_base ho2 hb.size)
      replace HOW := Lib.hid (own_ext HOW.out hb2)
      replace HFR := Lib.hid (HFR.out.ext hb2)
      replace hb := hb.trans (hb2.mono hb.size)
      clear ho2 hb2
      go_wp2_with fail
      go_ret2
      rw [HALL.out]
      exact ⟨D, c, vs, rfl, HOW.out.alloc _, HFR.out.ext (below1 w2 _), hb.alloc hb.size _⟩

end Go.Proofs.Ytnncohajlmbedaa
