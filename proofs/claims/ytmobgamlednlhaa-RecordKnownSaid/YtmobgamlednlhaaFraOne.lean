/-
  Frames: one frame that is all of the bytes.
-/
import Derived.Test.YtmobgamlednlhaaFraRefTake
namespace Go.Proofs.Ytmobgamlednlhaa
open Go.RowKit
attribute [local go_sem] match_undef
theorem Fra.take_bound (b : List UInt8) (p : Int) (h : (Fra.take b p).2.2.2 = 0) : (Fra.take b p).2.2.1 ≤ (b.length : Int) ∧ p < (Fra.take b p).2.2.1 := by
  rcases Fra.way b p with ⟨h0, e⟩ | ⟨q, hp, hq, x, hx, hv, e⟩ | ⟨q, v, s, hp, hq, hv, hs, hs2, hbig, h64, e⟩ | ⟨q, v, s, hp, hq, hv, hs, hs2, hbig, hlen, e⟩ | ⟨q, v, s, hp, hq, hv, hs, hs2, hbig, hlen, hsum, e⟩ | ⟨q, v, s, hp, hq, hv, hs, hs2, hbig, hlen, hsum, e⟩ <;> rw [e] at h ⊢ <;> simp only at h ⊢ <;> omega
theorem Fra.take_err (b : List UInt8) (p : Int) : (Fra.take b p).2.2.2 < 100 := by
  rcases Fra.way b p with ⟨h0, e⟩ | ⟨q, hp, hq, x, hx, hv, e⟩ | ⟨q, v, s, hp, hq, hv, hs, hs2, hbig, h64, e⟩ | ⟨q, v, s, hp, hq, hv, hs, hs2, hbig, hlen, e⟩ | ⟨q, v, s, hp, hq, hv, hs, hs2, hbig, hlen, hsum, e⟩ | ⟨q, v, s, hp, hq, hv, hs, hs2, hbig, hlen, hsum, e⟩ <;> rw [e] <;> simp only <;> omega
/-- The one frame: kind, body, the error. -/
def Fra.one (b : List UInt8) : UInt8 × List UInt8 × Nat :=
  if (Fra.take b 0).2.2.2 ≠ 0 then (0, [], (Fra.take b 0).2.2.2)
  else if (Fra.take b 0).2.2.1 < (b.length : Int) then (0, [], 11)
  else ((Fra.take b 0).1, (Fra.take b 0).2.1, 0)
def FrOne (k : UInt8) (body : List UInt8) (x : Nat) (e : TypeId) (w : World) (en : Ending) (w' : World) : Prop :=
  ∃ D c, en = .returned (.tuple #[.agg #[.int .u8 (k.toNat : Nat), .slice D body.length c], .int .i64 (x : Nat)]) ∧ w'.ownsRow w.heap.size e 1 (.slice D body.length c) body.length (byts body) ∧ Below w.heap.size w w'
theorem FrOne.none {k : TypeId} {x : Nat} {w w' : World} {X : Int} (hX : X = (x : Nat)) (h : Below w.heap.size w w') : FrOne 0 [] x k w (.returned (.tuple #[.agg #[.int .u8 0, .slice none 0 0], .int .i64 X])) w' := by
  subst hX
  exact ⟨.none, 0, rfl, World.ownsRow_nil _ _ _ _, h⟩

set_option maxRecDepth 100000 in
set_option maxHeartbeats 4000000 in
theorem fone_any (w : World) (A : Option Addr) (n cap : Nat) (b : List UInt8) (B : Nat) (hB : B ≤ w.heap.size) (h : Rd w B 1 A n (byts b)) (hc : n ≤ cap) (hm : cap ≤ maxLen) (hn : n ≤ 100000000) :
    Calls Try.prog 34 #[.slice A n cap] w (FrOne (Fra.one b).1 (Fra.one b).2.1 (Fra.one b).2.2 5 w) := by
  have HB := Lib.hid hB
  have HN := Lib.hid hn
  have H := Lib.hid h
  have hl := h.blen
  have hbd := Fra.take_bound b 0
  have her := Fra.take_err b 0
  clear h hB
  obtain ⟨k, hk⟩ : ∃ k, Fra.take b 0 = k := ⟨_, rfl⟩
  obtain ⟨k, bd, nx, x⟩ := k
  have e1 : Fra.one b = if x ≠ 0 then (0, [], x) else if nx < (b.length : Int) then (0, [], 11) else (k, bd, 0) := by unfold Fra.one; rw [hk]
  rw [hk] at hbd her
  simp only at hbd her
  have HT := Lib.hid hk
  rw [e1]
  clear e1 hk
  by_cases hx : x = 0
  · subst hx
    rw [if_neg (by simp)]
    obtain ⟨hb1, hb2⟩ := hbd rfl
    by_cases hlt : nx < (b.length : Int)
    · rw [if_pos hlt]
      have t1 : decide (nx < (n : Int)) = true := by simp; omega
      have t5 : (nx != (n : Int)) = true := by rw [bne_iff_ne]; omega
      simp only
      go_enter Try.func34, Try.ntmps34
      go_wp2_with fail
      have htk := ftake_any (w.alloc (.cells #[.int .u8 0, .slice none 0 0] 64)) A n cap b B (Nat.le_trans HB.out (below1 w (.cells #[.int .u8 0, .slice none 0 0] 64)).size) (H.out.alloc HB.out (.cells #[.int .u8 0, .slice none 0 0] 64)) hc hm HN.out 0 (by omega) (by omega)
      rw [HT.out] at htk
      refine htk.mono ?_
      clear htk
      rintro en w2 ⟨D, c, rfl, ho, hb2⟩
      have K1 := Lib.hid (((Whole.new w 64 #[.int .u8 0, .slice none 0 0]).below hb2 (Whole.new w 64 #[.int .u8 0, .slice none 0 0]).lt))
      have hb := (below1 w (.cells #[.int .u8 0, .slice none 0 0] 64)).trans (hb2.mono (below1 w (.cells #[.int .u8 0, .slice none 0 0] 64)).size)
      have hz1 : (w.alloc (.cells #[.int .u8 0, .slice none 0 0] 64)).heap.size = w.heap.size + 1 := by simp
      rw [hz1] at ho
      obtain ⟨g, hg⟩ : ∃ g, w.heap.size = g := ⟨_, rfl⟩
      have HG := Lib.hid hg
      rw [hg] at K1 ho ⊢
      have HO := Lib.hid ho
      clear hb2 hg ho hz1
      clear hbd
      have hgl : g < w2.heap.size := K1.out.lt
      have q0 := K1.out.cell 0
      have q1 := K1.out.cell 1
      have f0 := K1.out.frozen 0
      have f1 := K1.out.frozen 1
      simp at q0 q1
      go_wp2_with fail
      have ka := (whole2 K1.out (.int .u8 0) (.slice none 0 0)).alloc (.cells #[.int .u8 (k.toNat : Nat), .slice D bd.length c] 64)
      have ho9 := (own_far (own_far HO.out (p := ⟨g, 0, none⟩) (fun bb hh => by have := (own_lt HO.out bb hh).1; show bb ≠ g; omega) (.int .u8 0)) (p := ⟨g, 1, none⟩) (fun bb hh => by have := (own_lt HO.out bb hh).1; show bb ≠ g; omega) (.slice none 0 0)).alloc (.cells #[.int .u8 (k.toNat : Nat), .slice D bd.length c] 64)
      have hb8 := bel2 hb (show w.heap.size ≤ g by rw [HG.out]; exact Nat.le_refl _) (.int .u8 0) (.slice none 0 0)
      have hb9 := hb8.alloc hb8.size (.cells #[.int .u8 (k.toNat : Nat), .slice D bd.length c] 64)
      clear hb8
      generalize World.alloc (World.setCell (World.setCell _ _ _) _ _) _ = w9 at ka hb9 ho9 ⊢
      have k9 := ka
      have r0 := k9.cell 0
      have r1 := k9.cell 1
      simp at r0 r1
      clear q0 q1 f0 f1 hb
      simp [bodyPost, results, Try.results34, go_sem, r0, r1]
      exact ⟨none, 0, rfl, World.ownsRow_nil _ _ _ _, hb9⟩
    · rw [if_neg hlt]
      obtain rfl : nx = (n : Int) := by omega
      simp only
      go_enter Try.func34, Try.ntmps34
      go_wp2_with fail
      have htk := ftake_any (w.alloc (.cells #[.int .u8 0, .slice none 0 0] 64)) A n cap b B (Nat.le_trans HB.out (below1 w (.cells #[.int .u8 0, .slice none 0 0] 64)).size) (H.out.alloc HB.out (.cells #[.int .u8 0, .slice none 0 0] 64)) hc hm HN.out 0 (by omega) (by omega)
      rw [HT.out] at htk
      refine htk.mono ?_
      clear htk
      rintro en w2 ⟨D, c, rfl, ho, hb2⟩
      have K1 := Lib.hid (((Whole.new w 64 #[.int .u8 0, .slice none 0 0]).below hb2 (Whole.new w 64 #[.int .u8 0, .slice none 0 0]).lt))
      have hb := (below1 w (.cells #[.int .u8 0, .slice none 0 0] 64)).trans (hb2.mono (below1 w (.cells #[.int .u8 0, .slice none 0 0] 64)).size)
      have hz1 : (w.alloc (.cells #[.int .u8 0, .slice none 0 0] 64)).heap.size = w.heap.size + 1 := by simp
      rw [hz1] at ho
      obtain ⟨g, hg⟩ : ∃ g, w.heap.size = g := ⟨_, rfl⟩
      have HG := Lib.hid hg
      rw [hg] at K1 ho ⊢
      have HO := Lib.hid ho
      clear hb2 hg ho hz1
      clear hbd
      have hgl : g < w2.heap.size := K1.out.lt
      have q0 := K1.out.cell 0
      have q1 := K1.out.cell 1
      have f0 := K1.out.frozen 0
      have f1 := K1.out.frozen 1
      simp at q0 q1
      go_wp2_with fail
      have ka := (whole2 K1.out (.int .u8 (k.toNat : Nat)) (.slice D bd.length c)).alloc (.cells #[.int .u8 (k.toNat : Nat), .slice D bd.length c] 64)
      have ho9 := (own_far (own_far HO.out (p := ⟨g, 0, none⟩) (fun bb hh => by have := (own_lt HO.out bb hh).1; show bb ≠ g; omega) (.int .u8 (k.toNat : Nat))) (p := ⟨g, 1, none⟩) (fun bb hh => by have := (own_lt HO.out bb hh).1; show bb ≠ g; omega) (.slice D bd.length c)).alloc (.cells #[.int .u8 (k.toNat : Nat), .slice D bd.length c] 64)
      have hb8 := bel2 hb (show w.heap.size ≤ g by rw [HG.out]; exact Nat.le_refl _) (.int .u8 (k.toNat : Nat)) (.slice D bd.length c)
      have hb9 := hb8.alloc hb8.size (.cells #[.int .u8 (k.toNat : Nat), .slice D bd.length c] 64)
      clear hb8
      generalize World.alloc (World.setCell (World.setCell _ _ _) _ _) _ = w9 at ka hb9 ho9 ⊢
      have k9 := ka
      have r0 := k9.cell 0
      have r1 := k9.cell 1
      simp at r0 r1
      clear q0 q1 f0 f1 hb
      simp [bodyPost, results, Try.results34, go_sem, r0, r1]
      exact ⟨D, c, rfl, own_base ho9 (by have := HG.out; omega), hb9⟩
  · rw [if_pos hx]
    have t0 : (((x : Nat) : Int) != 0) = true := by rw [bne_iff_ne]; omega
    simp only
    go_enter Try.func34, Try.ntmps34
    go_wp2_with fail
    have htk := ftake_any (w.alloc (.cells #[.int .u8 0, .slice none 0 0] 64)) A n cap b B (Nat.le_trans HB.out (below1 w (.cells #[.int .u8 0, .slice none 0 0] 64)).size) (H.out.alloc HB.out (.cells #[.int .u8 0, .slice none 0 0] 64)) hc hm HN.out 0 (by omega) (by omega)
    rw [HT.out] at htk
    refine htk.mono ?_
    clear htk
    rintro en w2 ⟨D, c, rfl, ho, hb2⟩
    have K1 := Lib.hid (((Whole.new w 64 #[.int .u8 0, .slice none 0 0]).below hb2 (Whole.new w 64 #[.int .u8 0, .slice none 0 0]).lt))
    have hb := (below1 w (.cells #[.int .u8 0, .slice none 0 0] 64)).trans (hb2.mono (below1 w (.cells #[.int .u8 0, .slice none 0 0] 64)).size)
    have hz1 : (w.alloc (.cells #[.int .u8 0, .slice none 0 0] 64)).heap.size = w.heap.size + 1 := by simp
    rw [hz1] at ho
    obtain ⟨g, hg⟩ : ∃ g, w.heap.size = g := ⟨_, rfl⟩
    have HG := Lib.hid hg
    rw [hg] at K1 ho ⊢
    have HO := Lib.hid ho
    clear hb2 hg ho hz1
    clear hbd
    have hgl : g < w2.heap.size := K1.out.lt
    have q0 := K1.out.cell 0
    have q1 := K1.out.cell 1
    have f0 := K1.out.frozen 0
    have f1 := K1.out.frozen 1
    simp at q0 q1
    go_wp2_with fail
    have ka := (whole2 K1.out (.int .u8 0) (.slice none 0 0)).alloc (.cells #[.int .u8 (k.toNat : Nat), .slice D bd.length c] 64)
    have ho9 := (own_far (own_far HO.out (p := ⟨g, 0, none⟩) (fun bb hh => by have := (own_lt HO.out bb hh).1; show bb ≠ g; omega) (.int .u8 0)) (p := ⟨g, 1, none⟩) (fun bb hh => by have := (own_lt HO.out bb hh).1; show bb ≠ g; omega) (.slice none 0 0)).alloc (.cells #[.int .u8 (k.toNat : Nat), .slice D bd.length c] 64)
    have hb8 := bel2 hb (show w.heap.size ≤ g by rw [HG.out]; exact Nat.le_refl _) (.int .u8 0) (.slice none 0 0)
    have hb9 := hb8.alloc hb8.size (.cells #[.int .u8 (k.toNat : Nat), .slice D bd.length c] 64)
    clear hb8
    generalize World.alloc (World.setCell (World.setCell _ _ _) _ _) _ = w9 at ka hb9 ho9 ⊢
    have k9 := ka
    have r0 := k9.cell 0
    have r1 := k9.cell 1
    simp at r0 r1
    clear q0 q1 f0 f1 hb
    simp [bodyPost, results, Try.results34, go_sem, r0, r1]
    exact ⟨none, 0, rfl, World.ownsRow_nil _ _ _ _, hb9⟩

set_option maxRecDepth 100000 in
set_option maxHeartbeats 4000000 in
theorem rone_any (w : World) (A : Option Addr) (n cap : Nat) (b : List UInt8) (B : Nat) (hB : B ≤ w.heap.size) (h : Rd w B 1 A n (byts b)) (hc : n ≤ cap) (hn : n ≤ 100000000) :
    Calls Try.prog 35 #[.slice A n cap] w (FrOne (Fra.one b).1 (Fra.one b).2.1 (Fra.one b).2.2 5 w) := by
  have HB := Lib.hid hB
  have HN := Lib.hid hn
  have H := Lib.hid h
  have hl := h.blen
  have hbd := Fra.take_bound b 0
  have her := Fra.take_err b 0
  clear h hB
  obtain ⟨k, hk⟩ : ∃ k, Fra.take b 0 = k := ⟨_, rfl⟩
  obtain ⟨k, bd, nx, x⟩ := k
  have e1 : Fra.one b = if x ≠ 0 then (0, [], x) else if nx < (b.length : Int) then (0, [], 11) else (k, bd, 0) := by unfold Fra.one; rw [hk]
  rw [hk] at hbd her
  simp only at hbd her
  have HT := Lib.hid hk
  rw [e1]
  clear e1 hk
  by_cases hx : x = 0
  · subst hx
    rw [if_neg (by simp)]
    obtain ⟨hb1, hb2⟩ := hbd rfl
    by_cases hlt : nx < (b.length : Int)
    · rw [if_pos hlt]
      have t1 : decide (nx < (n : Int)) = true := by simp; omega
      have t5 : (nx != (n : Int)) = true := by rw [bne_iff_ne]; omega
      simp only
      go_enter Try.func35, Try.ntmps35
      go_wp2_with fail
      have htk := rtake_any (w.alloc (.cells #[.int .u8 0, .slice none 0 0] 44)) A n cap b B (Nat.le_trans HB.out (below1 w (.cells #[.int .u8 0, .slice none 0 0] 44)).size) (H.out.alloc HB.out (.cells #[.int .u8 0, .slice none 0 0] 44)) hc HN.out 0 (by omega) (by omega)
      rw [HT.out] at htk
      refine htk.mono ?_
      clear htk
      rintro en w2 ⟨D, c, rfl, ho, hb2⟩
      have K1 := Lib.hid (((Whole.new w 44 #[.int .u8 0, .slice none 0 0]).below hb2 (Whole.new w 44 #[.int .u8 0, .slice none 0 0]).lt))
      have hb := (below1 w (.cells #[.int .u8 0, .slice none 0 0] 44)).trans (hb2.mono (below1 w (.cells #[.int .u8 0, .slice none 0 0] 44)).size)
      have hz1 : (w.alloc (.cells #[.int .u8 0, .slice none 0 0] 44)).heap.size = w.heap.size + 1 := by simp
      rw [hz1] at ho
      obtain ⟨g, hg⟩ : ∃ g, w.heap.size = g := ⟨_, rfl⟩
      have HG := Lib.hid hg
      rw [hg] at K1 ho ⊢
      have HO := Lib.hid ho
      clear hb2 hg ho hz1
      clear hbd
      have hgl : g < w2.heap.size := K1.out.lt
      have q0 := K1.out.cell 0
      have q1 := K1.out.cell 1
      have f0 := K1.out.frozen 0
      have f1 := K1.out.frozen 1
      simp at q0 q1
      go_wp2_with fail
      have ka := (whole2 K1.out (.int .u8 0) (.slice none 0 0)).alloc (.cells #[.int .u8 (k.toNat : Nat), .slice D bd.length c] 44)
      have ho9 := (own_far (own_far HO.out (p := ⟨g, 0, none⟩) (fun bb hh => by have := (own_lt HO.out bb hh).1; show bb ≠ g; omega) (.int .u8 0)) (p := ⟨g, 1, none⟩) (fun bb hh => by have := (own_lt HO.out bb hh).1; show bb ≠ g; omega) (.slice none 0 0)).alloc (.cells #[.int .u8 (k.toNat : Nat), .slice D bd.length c] 44)
      have hb8 := bel2 hb (show w.heap.size ≤ g by rw [HG.out]; exact Nat.le_refl _) (.int .u8 0) (.slice none 0 0)
      have hb9 := hb8.alloc hb8.size (.cells #[.int .u8 (k.toNat : Nat), .slice D bd.length c] 44)
      clear hb8
      generalize World.alloc (World.setCell (World.setCell _ _ _) _ _) _ = w9 at ka hb9 ho9 ⊢
      have k9 := ka
      have r0 := k9.cell 0
      have r1 := k9.cell 1
      simp at r0 r1
      clear q0 q1 f0 f1 hb
      simp [bodyPost, results, Try.results35, go_sem, r0, r1]
      exact ⟨none, 0, rfl, World.ownsRow_nil _ _ _ _, hb9⟩
    · rw [if_neg hlt]
      obtain rfl : nx = (n : Int) := by omega
      simp only
      go_enter Try.func35, Try.ntmps35
      go_wp2_with fail
      have htk := rtake_any (w.alloc (.cells #[.int .u8 0, .slice none 0 0] 44)) A n cap b B (Nat.le_trans HB.out (below1 w (.cells #[.int .u8 0, .slice none 0 0] 44)).size) (H.out.alloc HB.out (.cells #[.int .u8 0, .slice none 0 0] 44)) hc HN.out 0 (by omega) (by omega)
      rw [HT.out] at htk
      refine htk.mono ?_
      clear htk
      rintro en w2 ⟨D, c, rfl, ho, hb2⟩
      have K1 := Lib.hid (((Whole.new w 44 #[.int .u8 0, .slice none 0 0]).below hb2 (Whole.new w 44 #[.int .u8 0, .slice none 0 0]).lt))
      have hb := (below1 w (.cells #[.int .u8 0, .slice none 0 0] 44)).trans (hb2.mono (below1 w (.cells #[.int .u8 0, .slice none 0 0] 44)).size)
      have hz1 : (w.alloc (.cells #[.int .u8 0, .slice none 0 0] 44)).heap.size = w.heap.size + 1 := by simp
      rw [hz1] at ho
      obtain ⟨g, hg⟩ : ∃ g, w.heap.size = g := ⟨_, rfl⟩
      have HG := Lib.hid hg
      rw [hg] at K1 ho ⊢
      have HO := Lib.hid ho
      clear hb2 hg ho hz1
      clear hbd
      have hgl : g < w2.heap.size := K1.out.lt
      have q0 := K1.out.cell 0
      have q1 := K1.out.cell 1
      have f0 := K1.out.frozen 0
      have f1 := K1.out.frozen 1
      simp at q0 q1
      go_wp2_with fail
      have ka := (whole2 K1.out (.int .u8 (k.toNat : Nat)) (.slice D bd.length c)).alloc (.cells #[.int .u8 (k.toNat : Nat), .slice D bd.length c] 44)
      have ho9 := (own_far (own_far HO.out (p := ⟨g, 0, none⟩) (fun bb hh => by have := (own_lt HO.out bb hh).1; show bb ≠ g; omega) (.int .u8 (k.toNat : Nat))) (p := ⟨g, 1, none⟩) (fun bb hh => by have := (own_lt HO.out bb hh).1; show bb ≠ g; omega) (.slice D bd.length c)).alloc (.cells #[.int .u8 (k.toNat : Nat), .slice D bd.length c] 44)
      have hb8 := bel2 hb (show w.heap.size ≤ g by rw [HG.out]; exact Nat.le_refl _) (.int .u8 (k.toNat : Nat)) (.slice D bd.length c)
      have hb9 := hb8.alloc hb8.size (.cells #[.int .u8 (k.toNat : Nat), .slice D bd.length c] 44)
      clear hb8
      generalize World.alloc (World.setCell (World.setCell _ _ _) _ _) _ = w9 at ka hb9 ho9 ⊢
      have k9 := ka
      have r0 := k9.cell 0
      have r1 := k9.cell 1
      simp at r0 r1
      clear q0 q1 f0 f1 hb
      simp [bodyPost, results, Try.results35, go_sem, r0, r1]
      exact ⟨D, c, rfl, own_base ho9 (by have := HG.out; omega), hb9⟩
  · rw [if_pos hx]
    have t0 : (((x : Nat) : Int) != 0) = true := by rw [bne_iff_ne]; omega
    simp only
    go_enter Try.func35, Try.ntmps35
    go_wp2_with fail
    have htk := rtake_any (w.alloc (.cells #[.int .u8 0, .slice none 0 0] 44)) A n cap b B (Nat.le_trans HB.out (below1 w (.cells #[.int .u8 0, .slice none 0 0] 44)).size) (H.out.alloc HB.out (.cells #[.int .u8 0, .slice none 0 0] 44)) hc HN.out 0 (by omega) (by omega)
    rw [HT.out] at htk
    refine htk.mono ?_
    clear htk
    rintro en w2 ⟨D, c, rfl, ho, hb2⟩
    have K1 := Lib.hid (((Whole.new w 44 #[.int .u8 0, .slice none 0 0]).below hb2 (Whole.new w 44 #[.int .u8 0, .slice none 0 0]).lt))
    have hb := (below1 w (.cells #[.int .u8 0, .slice none 0 0] 44)).trans (hb2.mono (below1 w (.cells #[.int .u8 0, .slice none 0 0] 44)).size)
    have hz1 : (w.alloc (.cells #[.int .u8 0, .slice none 0 0] 44)).heap.size = w.heap.size + 1 := by simp
    rw [hz1] at ho
    obtain ⟨g, hg⟩ : ∃ g, w.heap.size = g := ⟨_, rfl⟩
    have HG := Lib.hid hg
    rw [hg] at K1 ho ⊢
    have HO := Lib.hid ho
    clear hb2 hg ho hz1
    clear hbd
    have hgl : g < w2.heap.size := K1.out.lt
    have q0 := K1.out.cell 0
    have q1 := K1.out.cell 1
    have f0 := K1.out.frozen 0
    have f1 := K1.out.frozen 1
    simp at q0 q1
    go_wp2_with fail
    have ka := (whole2 K1.out (.int .u8 0) (.slice none 0 0)).alloc (.cells #[.int .u8 (k.toNat : Nat), .slice D bd.length c] 44)
    have ho9 := (own_far (own_far HO.out (p := ⟨g, 0, none⟩) (fun bb hh => by have := (own_lt HO.out bb hh).1; show bb ≠ g; omega) (.int .u8 0)) (p := ⟨g, 1, none⟩) (fun bb hh => by have := (own_lt HO.out bb hh).1; show bb ≠ g; omega) (.slice none 0 0)).alloc (.cells #[.int .u8 (k.toNat : Nat), .slice D bd.length c] 44)
    have hb8 := bel2 hb (show w.heap.size ≤ g by rw [HG.out]; exact Nat.le_refl _) (.int .u8 0) (.slice none 0 0)
    have hb9 := hb8.alloc hb8.size (.cells #[.int .u8 (k.toNat : Nat), .slice D bd.length c] 44)
    clear hb8
    generalize World.alloc (World.setCell (World.setCell _ _ _) _ _) _ = w9 at ka hb9 ho9 ⊢
    have k9 := ka
    have r0 := k9.cell 0
    have r1 := k9.cell 1
    simp at r0 r1
    clear q0 q1 f0 f1 hb
    simp [bodyPost, results, Try.results35, go_sem, r0, r1]
    exact ⟨none, 0, rfl, World.ownsRow_nil _ _ _ _, hb9⟩

end Go.Proofs.Ytmobgamlednlhaa
