/-
  Journals: one payload at a place (both).
-/
import Derived.Test.YtnncohajlmbedaaJouPlain
namespace Go.Proofs.Ytnncohajlmbedaa
open Go.RowKit
attribute [local go_sem] match_undef

set_option maxRecDepth 100000 in
set_option maxHeartbeats 4000000 in
theorem jnext_any (w : World) (A : Option Addr) (n cap : Nat) (b : List UInt8) (B : Nat) (hB : B ≤ w.heap.size) (h : Rd w B 1 A n (byts b)) (hc : n ≤ cap) (hm : cap ≤ maxLen) (hn : n ≤ 1000000) (p : Int) (hp1 : -9223372036854775808 ≤ p) (hp2 : p ≤ 9223372036854775807) :
    Calls Try.prog 85 #[.slice A n cap, .int .i64 p] w (JouP (Jou.next b p).1 (Jou.next b p).2.1 (Jou.next b p).2.2 5 w) := by
  obtain ⟨t, ht⟩ : ∃ t, Fra.take b p = t := ⟨_, rfl⟩
  obtain ⟨k, bd, nx, x⟩ := t
  obtain ⟨m, hm1⟩ : ∃ m, bd.length = m := ⟨_, rfl⟩
  have htk := ftake_any w A n cap b B hB h hc hm (by omega) p hp1 hp2
  rw [ht] at htk
  unfold FrP at htk
  simp only [hm1] at htk
  have HTK := Lib.hid htk
  have HM := Lib.hid hm1
  have HT := Lib.hid ht
  clear htk hm1 ht h
  unfold JouP
  by_cases hx : x = 0
  · by_cases hk : k = 9
    · have hj := Jou.next_of (b := b) (p := p) (bd := bd) (nx := nx) (by rw [HT.out, hx, hk])
      rw [hj]
      simp only [HM.out]
      subst hx hk
      clear hj HT
      go_enter Try.func85, Try.ntmps85
      go_wp2_with fail
      refine HTK.out.mono ?_
      clear HTK
      rintro en w2 ⟨D, c, rfl, ho, hb⟩
      have HO := Lib.hid ho
      have HB := Lib.hid hb
      clear ho hb
      go_wp2_with fail
      go_ret3
      exact ⟨D, c, rfl, HO.out.alloc _, HB.out.alloc HB.out.size _⟩
    · have hj := Jou.next_kind (b := b) (p := p) (by rw [HT.out]; exact hx) (by rw [HT.out]; exact hk)
      rw [hj]
      subst hx
      have hkk : (((k.toNat : Nat) : Int) != 9) = true := by
        rw [bne_iff_ne]
        intro h0
        exact hk (UInt8.toNat_inj.1 (by show k.toNat = 9; omega))
      clear hj HT hk
      go_enter Try.func85, Try.ntmps85
      go_wp2_with fail
      refine HTK.out.mono ?_
      clear HTK
      rintro en w2 ⟨D, c, rfl, ho, hb⟩
      have HB := Lib.hid hb
      clear ho hb
      go_wp2_with fail
      go_ret3
      exact ⟨none, 0, rfl, World.ownsRow_nil _ _ _ _, HB.out.alloc HB.out.size _⟩
  · have hj := Jou.next_err (b := b) (p := p) (by rw [HT.out]; exact hx)
    rw [hj, HT.out]
    have hxx : (((x : Nat) : Int) != 0) = true := by rw [bne_iff_ne]; omega
    clear hj HT
    go_enter Try.func85, Try.ntmps85
    go_wp2_with fail
    refine HTK.out.mono ?_
    clear HTK
    rintro en w2 ⟨D, c, rfl, ho, hb⟩
    have HB := Lib.hid hb
    clear ho hb
    go_wp2_with fail
    go_ret3
    exact ⟨none, 0, rfl, World.ownsRow_nil _ _ _ _, HB.out.alloc HB.out.size _⟩

set_option maxRecDepth 100000 in
set_option maxHeartbeats 4000000 in
theorem rjnext_any (w : World) (A : Option Addr) (n cap : Nat) (b : List UInt8) (B : Nat) (hB : B ≤ w.heap.size) (h : Rd w B 1 A n (byts b)) (hc : n ≤ cap) (hn : n ≤ 1000000) (p : Int) (hp1 : -9223372036854775808 ≤ p) (hp2 : p ≤ 9223372036854775807) :
    Calls Try.prog 91 #[.slice A n cap, .int .i64 p] w (JouP (Jou.next b p).1 (Jou.next b p).2.1 (Jou.next b p).2.2 5 w) := by
  obtain ⟨t, ht⟩ : ∃ t, Fra.take b p = t := ⟨_, rfl⟩
  obtain ⟨k, bd, nx, x⟩ := t
  obtain ⟨m, hm1⟩ : ∃ m, bd.length = m := ⟨_, rfl⟩
  have htk := rtake_any w A n cap b B hB h hc (by omega) p hp1 hp2
  rw [ht] at htk
  unfold FrP at htk
  simp only [hm1] at htk
  have HTK := Lib.hid htk
  have HM := Lib.hid hm1
  have HT := Lib.hid ht
  clear htk hm1 ht h
  unfold JouP
  by_cases hx : x = 0
  · by_cases hk : k = 9
    · have hj := Jou.next_of (b := b) (p := p) (bd := bd) (nx := nx) (by rw [HT.out, hx, hk])
      rw [hj]
      simp only [HM.out]
      subst hx hk
      clear hj HT
      go_enter Try.func91, Try.ntmps91
      go_wp2_with fail
      refine HTK.out.mono ?_
      clear HTK
      rintro en w2 ⟨D, c, rfl, ho, hb⟩
      have HO := Lib.hid ho
      have HB := Lib.hid hb
      clear ho hb
      go_wp2_with fail
      go_ret3
      exact ⟨D, c, rfl, HO.out.alloc _, HB.out.alloc HB.out.size _⟩
    · have hj := Jou.next_kind (b := b) (p := p) (by rw [HT.out]; exact hx) (by rw [HT.out]; exact hk)
      rw [hj]
      subst hx
      have hkk : (((k.toNat : Nat) : Int) != 9) = true := by
        rw [bne_iff_ne]
        intro h0
        exact hk (UInt8.toNat_inj.1 (by show k.toNat = 9; omega))
      clear hj HT hk
      go_enter Try.func91, Try.ntmps91
      go_wp2_with fail
      refine HTK.out.mono ?_
      clear HTK
      rintro en w2 ⟨D, c, rfl, ho, hb⟩
      have HB := Lib.hid hb
      clear ho hb
      go_wp2_with fail
      go_ret3
      exact ⟨none, 0, rfl, World.ownsRow_nil _ _ _ _, HB.out.alloc HB.out.size _⟩
  · have hj := Jou.next_err (b := b) (p := p) (by rw [HT.out]; exact hx)
    rw [hj, HT.out]
    have hxx : (((x : Nat) : Int) != 0) = true := by rw [bne_iff_ne]; omega
    clear hj HT
    go_enter Try.func91, Try.ntmps91
    go_wp2_with fail
    refine HTK.out.mono ?_
    clear HTK
    rintro en w2 ⟨D, c, rfl, ho, hb⟩
    have HB := Lib.hid hb
    clear ho hb
    go_wp2_with fail
    go_ret3
    exact ⟨none, 0, rfl, World.ownsRow_nil _ _ _ _, HB.out.alloc HB.out.size _⟩

end Go.Proofs.Ytnncohajlmbedaa
