/-
  The chapter's examples of numbers in groups: works() returns true; and the law's comparison of two rows of numbers.
-/
import Derived.Test.YtfiabgpegdkldaaVarRefMore
namespace Go.Proofs.Ytfiabgpegdkldaa
open Go.RowKit
theorem Rd.newb (w : World) (t : TypeId) (l : List UInt8) (cs : Array Value) (L : Nat) (h : byts l = cs.toList) (hL : l.length = L) : Rd (w.alloc (.cells cs t)) (w.heap.size + 1) 1 (some ⟨w.heap.size, 0, none⟩) L (byts l) := by
  have e : byts l = cs.toList.take L := by rw [← h, List.take_of_length_le (by rw [byts_length]; omega)]
  rw [e]
  refine Rd.of_heap (Whole.new w t _) (Nat.lt_succ_self _) ?_
  have := congrArg List.length h
  rw [byts_length] at this
  simp at this
  omega
theorem put_at (w : World) (n : Nat) (hn : n < 18446744073709551616) (l : List UInt8) (L : Nat) (he : Var.put n = l) (hL : l.length = L) :
    Calls Try.prog 27 #[.int .u64 (n : Nat)] w (Fresh w.heap.size 5 1 L (byts l) w) := by
  have h := put_any w n hn
  rw [he, hL] at h
  exact h
theorem text_at (w : World) (s : ByteArray) (hs : s.size ≤ 100000) (l : List UInt8) (L : Nat) (he : Var.put s.size ++ s.data.toList = l) (hL : l.length = L) :
    Calls Try.prog 22 #[.string s] w (Fresh w.heap.size 5 1 L (byts l) w) := by
  have h := text_any w s hs
  rw [he, hL] at h
  exact h
theorem take_at (w : World) (A : Option Addr) (n cap : Nat) (b : List UInt8) (B : Nat) (h : Rd w B 1 A n (byts b)) (hc : n ≤ cap) (hm : n ≤ 100000000) (p : Int) (hp1 : -9223372036854775808 ≤ p) (hp2 : p ≤ 9223372036854775807) (v : Nat) (nx : Int) (e : Nat) (he : Var.take b p = (v, nx, e)) :
    Calls Try.prog 31 #[.slice A n cap, .int .i64 p] w fun en w' => en = .returned (.tuple #[.int .u64 (v : Nat), .int .i64 nx, .int .i64 (e : Nat)]) ∧ w = w' := by
  have h := take_any w A n cap b B h hc hm p hp1 hp2
  rw [he] at h
  exact h
theorem takeText_at (w : World) (A : Option Addr) (n cap : Nat) (b : List UInt8) (B : Nat) (h : Rd w B 1 A n (byts b)) (hc : n ≤ cap) (hm : n ≤ 100000000) (p : Int) (hp1 : -9223372036854775808 ≤ p) (hp2 : p ≤ 9223372036854775807) (v : List UInt8) (nx : Int) (e : Nat) (he : Var.ttext b p = (v, nx, e)) :
    Calls Try.prog 33 #[.slice A n cap, .int .i64 p] w fun en w' => en = .returned (.tuple #[.string ⟨v.toArray⟩, .int .i64 nx, .int .i64 (e : Nat)]) ∧ w = w' := by
  have h := takeText_any w A n cap b B h hc hm p hp1 hp2
  rw [he] at h
  exact h
set_option maxHeartbeats 1000000 in
set_option maxRecDepth 100000 in
theorem varWorks_any (w : World) : Calls Try.prog 20 #[] w fun e w' => e = .returned (.bool true) ∧ Below w.heap.size w w' := by
  have hb : Below w.heap.size w w := Below.refl _ _
  go_enter Try.func20, Try.ntmps20
  go_wp2_with fail
  refine (take_at _ _ 3 3 [172, 2, 5] _ (Rd.newb _ 5 [172, 2, 5] #[.int .u8 172, .int .u8 2, .int .u8 5] 3 rfl rfl) (by omega) (by omega) 0 (by omega) (by omega) 300 2 0 (by decide +kernel)).mono ?_
  rintro e w1 ⟨rfl, rfl⟩
  replace hb := hb.alloc hb.size (.cells #[.int .u8 172, .int .u8 2, .int .u8 5] 5)
  generalize World.alloc w (.cells #[.int .u8 172, .int .u8 2, .int .u8 5] 5) = v1 at *
  go_wp2_with fail
  refine (take_at _ _ 1 1 [128] _ (Rd.newb _ 5 [128] #[.int .u8 128] 1 rfl rfl) (by omega) (by omega) 0 (by omega) (by omega) 0 0 10 (by decide +kernel)).mono ?_
  rintro e w1 ⟨rfl, rfl⟩
  replace hb := hb.alloc hb.size (.cells #[.int .u8 128] 5)
  generalize World.alloc v1 (.cells #[.int .u8 128] 5) = v2 at *
  go_wp2_with fail
  refine (take_at _ _ 2 2 [128, 0] _ (Rd.newb _ 5 [128, 0] #[.int .u8 128, .int .u8 0] 2 rfl rfl) (by omega) (by omega) 0 (by omega) (by omega) 0 0 11 (by decide +kernel)).mono ?_
  rintro e w1 ⟨rfl, rfl⟩
  replace hb := hb.alloc hb.size (.cells #[.int .u8 128, .int .u8 0] 5)
  generalize World.alloc v2 (.cells #[.int .u8 128, .int .u8 0] 5) = v3 at *
  go_wp2_with fail
  refine (takeText_at _ _ 2 2 [2, 97] _ (Rd.newb _ 5 [2, 97] #[.int .u8 2, .int .u8 97] 2 rfl rfl) (by omega) (by omega) 0 (by omega) (by omega) [] 0 10 (by decide +kernel)).mono ?_
  rintro e w1 ⟨rfl, rfl⟩
  replace hb := hb.alloc hb.size (.cells #[.int .u8 2, .int .u8 97] 5)
  generalize World.alloc v3 (.cells #[.int .u8 2, .int .u8 97] 5) = v4 at *
  go_wp2_with fail
  refine (put_at _ 0 (by omega) [0] 1 (by decide +kernel) rfl).mono ?_
  rintro e w1 ⟨D1, c1, rfl, ho1, hb1⟩
  replace hb := hb.trans (hb1.mono hb.size)
  clear hb1
  have HO := Lib.hid ho1
  clear ho1
  go_wp2_with fail
  refine (same_any _ D1 1 c1 [0] _ 1 1 [0] _ _ (Nat.le_refl _) (by simp) (Rd.of_own (HO.out.alloc _)) (Rd.newb _ 5 [0] #[.int .u8 0] 1 rfl rfl) (by omega) (by omega) true (by decide)).mono ?_
  rintro e w2 ⟨rfl, hb2⟩
  replace hb := (hb.alloc hb.size (.cells #[.int .u8 0] 5)).trans (hb2.mono (by have := hb.size; simp; omega))
  clear hb2 HO
  go_wp2_with fail
  refine (put_at _ 127 (by omega) [127] 1 (by decide +kernel) rfl).mono ?_
  rintro e w1 ⟨D1, c1, rfl, ho1, hb1⟩
  replace hb := hb.trans (hb1.mono hb.size)
  clear hb1
  have HO := Lib.hid ho1
  clear ho1
  go_wp2_with fail
  refine (same_any _ D1 1 c1 [127] _ 1 1 [127] _ _ (Nat.le_refl _) (by simp) (Rd.of_own (HO.out.alloc _)) (Rd.newb _ 5 [127] #[.int .u8 127] 1 rfl rfl) (by omega) (by omega) true (by decide)).mono ?_
  rintro e w2 ⟨rfl, hb2⟩
  replace hb := (hb.alloc hb.size (.cells #[.int .u8 127] 5)).trans (hb2.mono (by have := hb.size; simp; omega))
  clear hb2 HO
  go_wp2_with fail
  refine (put_at _ 128 (by omega) [128, 1] 2 (by decide +kernel) rfl).mono ?_
  rintro e w1 ⟨D1, c1, rfl, ho1, hb1⟩
  replace hb := hb.trans (hb1.mono hb.size)
  clear hb1
  have HO := Lib.hid ho1
  clear ho1
  go_wp2_with fail
  refine (same_any _ D1 2 c1 [128, 1] _ 2 2 [128, 1] _ _ (Nat.le_refl _) (by simp) (Rd.of_own (HO.out.alloc _)) (Rd.newb _ 5 [128, 1] #[.int .u8 128, .int .u8 1] 2 rfl rfl) (by omega) (by omega) true (by decide)).mono ?_
  rintro e w2 ⟨rfl, hb2⟩
  replace hb := (hb.alloc hb.size (.cells #[.int .u8 128, .int .u8 1] 5)).trans (hb2.mono (by have := hb.size; simp; omega))
  clear hb2 HO
  go_wp2_with fail
  refine (put_at _ 300 (by omega) [172, 2] 2 (by decide +kernel) rfl).mono ?_
  rintro e w1 ⟨D1, c1, rfl, ho1, hb1⟩
  replace hb := hb.trans (hb1.mono hb.size)
  clear hb1
  have HO := Lib.hid ho1
  clear ho1
  go_wp2_with fail
  refine (same_any _ D1 2 c1 [172, 2] _ 2 2 [172, 2] _ _ (Nat.le_refl _) (by simp) (Rd.of_own (HO.out.alloc _)) (Rd.newb _ 5 [172, 2] #[.int .u8 172, .int .u8 2] 2 rfl rfl) (by omega) (by omega) true (by decide)).mono ?_
  rintro e w2 ⟨rfl, hb2⟩
  replace hb := (hb.alloc hb.size (.cells #[.int .u8 172, .int .u8 2] 5)).trans (hb2.mono (by have := hb.size; simp; omega))
  clear hb2 HO
  go_wp2_with fail
  refine (text_at _ ⟨#[97, 98]⟩ (by decide) [2, 97, 98] 3 (by decide +kernel) rfl).mono ?_
  rintro e w1 ⟨D1, c1, rfl, ho1, hb1⟩
  replace hb := hb.trans (hb1.mono hb.size)
  clear hb1
  have HO := Lib.hid ho1
  clear ho1
  go_wp2_with fail
  refine (same_any _ D1 3 c1 [2, 97, 98] _ 3 3 [2, 97, 98] _ _ (Nat.le_refl _) (by simp) (Rd.of_own (HO.out.alloc _)) (Rd.newb _ 5 [2, 97, 98] #[.int .u8 2, .int .u8 97, .int .u8 98] 3 rfl rfl) (by omega) (by omega) true (by decide)).mono ?_
  rintro e w2 ⟨rfl, hb2⟩
  replace hb := (hb.alloc hb.size (.cells #[.int .u8 2, .int .u8 97, .int .u8 98] 5)).trans (hb2.mono (by have := hb.size; simp; omega))
  clear hb2 HO
  go_wp2_with fail
  go_ret
  exact ⟨rfl, hb⟩
end Go.Proofs.Ytfiabgpegdkldaa
