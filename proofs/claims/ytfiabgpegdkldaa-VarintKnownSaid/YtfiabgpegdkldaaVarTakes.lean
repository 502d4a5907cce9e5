/-
  The walk of VarintTakes: it returns true.
-/
import Derived.Test.YtfiabgpegdkldaaVarWorks
import Derived.OpenShut
namespace Go.Proofs.Ytfiabgpegdkldaa
open Go.RowKit
theorem natv_length (xs : List Nat) : (natv xs).length = xs.length := List.length_map _
theorem natv_get {xs : List Nat} {k : Nat} (h : k < xs.length) : (natv xs)[k]? = some (.int .u64 ((xs[k] : Nat) : Int)) := by
  unfold natv
  rw [List.getElem?_map, List.getElem?_eq_getElem h]
  rfl
theorem Rd.natn {w : World} {B n : Nat} {A : Option Addr} {l : List Nat} (h : Rd w B 1 A n (natv l)) : l.length = n := by have := h.1; rw [natv_length] at this; omega
theorem Rd.nat {w : World} {B n : Nat} {A : Option Addr} {l : List Nat} {k : Nat} (h : Rd w B 1 A n (natv l)) (hk : k < n) : ∃ b o, ∃ hl : k < l.length, A = some ⟨b, o, none⟩ ∧ b < B ∧ w.cell? ⟨b, o + k, none⟩ = some (.int .u64 ((l[k] : Nat) : Int)) := by
  have hl : k < l.length := by have := h.1; rw [natv_length] at this; omega
  obtain ⟨b, o, u, e, hb, hu, hc⟩ := h.at_ hk
  rw [natv_get hl] at hu
  cases hu
  exact ⟨b, o, hl, e, hb, hc⟩
set_option maxHeartbeats 400000 in
set_option maxRecDepth 100000 in
theorem lawSame_any (w : World) (A : Option Addr) (n cap : Nat) (xs : List Nat) (A' : Option Addr) (n' cap' : Nat) (ys : List Nat) (B B' : Nat) (hB : B ≤ w.heap.size) (hB' : B' ≤ w.heap.size) (h : Rd w B 1 A n (natv xs)) (h' : Rd w B' 1 A' n' (natv ys))
    (hn : n ≤ 100000000) (hn' : n' ≤ 100000000) (r : Bool) (hr : decide (xs = ys) = r) :
    Calls Try.prog 37 #[.slice A n cap, .slice A' n' cap'] w fun e w' => e = .returned (.bool r) ∧ Below w.heap.size w w' := by
  have hl := h.natn
  have hl' := h'.natn
  have HR := Lib.hid hr
  clear hr
  by_cases hne : n = n'
  · subst hne
    have H := Lib.hid h
    have H' := Lib.hid h'
    have HL := Lib.hid hl
    have HL' := Lib.hid hl'
    clear h h' hl hl'
    go_enter Try.func37, Try.ntmps37
    go_wp2_with fail
    go_loopw [5] (fun i wr => ∃ k : Nat, k ≤ n ∧ i = .int .i64 k ∧ Hid (xs.take k = ys.take k) ∧ Ext w wr) (fun i _ => n - (intOf i).toNat)
    case atStart => exact ⟨0, by omega, rfl, rfl, Below.refl _ _⟩
    case round =>
      obtain ⟨k, hk, rfl, HE, hx⟩ := hrel
      by_cases hlt : k < n
      · obtain ⟨b, o, hkl, rfl, hbB, hc⟩ := (H.out.below (hx.mono hB)).nat hlt
        obtain ⟨b', o', hkl', rfl, hbB', hc'⟩ := (H'.out.below (hx.mono hB')).nat hlt
        have hd : decide ((k : Int) < (n : Int)) = true := by simp; omega
        have hk1 : (0 : Int) ≤ (k : Int) := by omega
        have hk2 : (k : Int) < (n : Int) := by omega
        by_cases he : xs[k] = ys[k]
        · have HEk := Lib.hid he
          rw [← he] at hc'
          obtain ⟨x, hx'⟩ : ∃ x, x = xs[k] := ⟨_, rfl⟩
          rw [← hx'] at hc hc'
          clear he hx'
          have hself : (((x : Nat) : Int) != (x : Int)) = false := by simp
          go_wp2_with fail
          go_quiet (fail)
          go_wp2_with fail
          go_roundw
          case rel =>
            refine ⟨k + 1, by omega, by go_num, ?_, Ext.trans hx ⟨rfl, rfl, rfl, Nat.le_refl _, fun _ _ => rfl⟩⟩
            show xs.take (k + 1) = ys.take (k + 1)
            rw [List.take_succ_eq_append_getElem hkl, List.take_succ_eq_append_getElem hkl', HE.out, HEk.out]
          case measure => simp [intOf]; omega
        · have hnx : (((xs[k] : Nat) : Int) != ((ys[k] : Nat) : Int)) = true := by
            rw [bne_iff_ne]
            intro h
            exact he (by omega)
          have hf : decide (xs = ys) = false := by
            rw [decide_eq_false_iff_not]
            intro h
            subst h
            exact he rfl
          have HF := Lib.hid (show false = r from by rw [← HR.out]; exact hf.symm)
          obtain ⟨x, hx'⟩ : ∃ x, x = xs[k] := ⟨_, rfl⟩
          obtain ⟨y, hy'⟩ : ∃ y, y = ys[k] := ⟨_, rfl⟩
          rw [← hx', ← hy'] at hnx
          rw [← hx'] at hc
          rw [← hy'] at hc'
          clear hx' hy' he hf
          go_wp2_with fail
          go_quiet (fail)
          go_wp2_with fail
          go_ret
          exact ⟨by rw [← HF.out]; rfl, Ext.trans hx ⟨rfl, rfl, rfl, Nat.le_refl _, fun _ _ => rfl⟩⟩
      · obtain rfl : k = n := by omega
        go_wp2_with fail
        go_ret
        refine ⟨?_, hx⟩
        have h1 : xs = ys := by
          have := HE.out
          rw [List.take_of_length_le (by rw [HL.out]; omega), List.take_of_length_le (by rw [HL'.out]; omega)] at this
          exact this
        have h2 : r = true := by rw [← HR.out]; exact decide_eq_true h1
        rw [h2]
        rfl
  · have hnn : (((n : Nat) : Int) != ((n' : Nat) : Int)) = true := by rw [bne_iff_ne]; omega
    have hf : decide (xs = ys) = false := by
      rw [decide_eq_false_iff_not]
      intro h
      subst h
      omega
    have HF := Lib.hid (show false = r from by rw [← HR.out]; exact hf.symm)
    clear h h' hl hl' hne hf
    go_enter Try.func37, Try.ntmps37
    go_wp2_with fail
    go_ret
    exact ⟨by rw [← HF.out]; rfl, Below.refl _ _⟩
theorem refTake_at (w : World) (A : Option Addr) (n cap : Nat) (b : List UInt8) (B : Nat) (hB : B ≤ w.heap.size) (h : Rd w B 1 A n (byts b)) (hm : n ≤ 100000000) (p : Int) (hp1 : -9223372036854775808 ≤ p) (hp2 : p ≤ 9223372036854775807) (v : Nat) (nx : Int) (e : Nat) (he : Var.take b p = (v, nx, e)) :
    Calls Try.prog 32 #[.slice A n cap, .int .i64 p] w fun en w' => en = .returned (.tuple #[.int .u64 (v : Nat), .int .i64 nx, .int .i64 (e : Nat)]) ∧ Below w.heap.size w w' := by
  have h := refTake_any w A n cap b B hB h hm p hp1 hp2
  rw [he] at h
  exact h
theorem refTakeText_at (w : World) (A : Option Addr) (n cap : Nat) (b : List UInt8) (B : Nat) (hB : B ≤ w.heap.size) (h : Rd w B 1 A n (byts b)) (hc : n ≤ cap) (hm : n ≤ 100000000) (p : Int) (hp1 : -9223372036854775808 ≤ p) (hp2 : p ≤ 9223372036854775807) (v : List UInt8) (nx : Int) (e : Nat) (he : Var.ttext b p = (v, nx, e)) :
    Calls Try.prog 34 #[.slice A n cap, .int .i64 p] w fun en w' => en = .returned (.tuple #[.string ⟨v.toArray⟩, .int .i64 nx, .int .i64 (e : Nat)]) ∧ Below w.heap.size w w' := by
  have h := refTakeText_any w A n cap b B hB h hc hm p hp1 hp2
  rw [he] at h
  exact h
theorem takeAll_at (w : World) (A : Option Addr) (n cap : Nat) (b : List UInt8) (B : Nat) (hB : B ≤ w.heap.size) (h : Rd w B 1 A n (byts b)) (hc : n ≤ cap) (hm : n ≤ 100000000) (p : Int) (hp1 : -9223372036854775808 ≤ p) (hp2 : p ≤ 9223372036854775807)
    (many : Int) (hm2 : many ≤ 100000) (vs : List Nat) (nx : Int) (er : Nat) (L : Nat) (hL : vs.length = L) (he : Var.rall b many.toNat p = (vs, nx, er)) :
    Calls Try.prog 35 #[.slice A n cap, .int .i64 p, .int .i64 many] w fun e w' => ∃ D c, e = .returned (.tuple #[.slice D L c, .int .i64 nx, .int .i64 (er : Nat)]) ∧
      w'.ownsRow w.heap.size 44 1 (.slice D L c) L (natv vs) ∧ Below w.heap.size w w' := by
  refine (takeAll_any w A n cap b B hB h hc hm p hp1 hp2 many hm2 _ rfl).mono ?_
  rintro e w' ⟨D, L2, c, rfl, ho, hb⟩
  rw [he] at ho ⊢
  have h1 : vs.length = L2 := (Rd.of_own ho).natn
  obtain rfl : L = L2 := by omega
  exact ⟨D, c, rfl, ho, hb⟩
theorem refTakeAll_at (w : World) (A : Option Addr) (n cap : Nat) (b : List UInt8) (B : Nat) (hB : B ≤ w.heap.size) (h : Rd w B 1 A n (byts b)) (hm : n ≤ 100000000) (p : Int) (hp1 : -9223372036854775808 ≤ p) (hp2 : p ≤ 9223372036854775807)
    (many : Int) (hm2 : many ≤ 100000) (vs : List Nat) (nx : Int) (er : Nat) (L : Nat) (hL : vs.length = L) (he : Var.rall b many.toNat p = (vs, nx, er)) :
    Calls Try.prog 36 #[.slice A n cap, .int .i64 p, .int .i64 many] w fun e w' => ∃ D c, e = .returned (.tuple #[.slice D L c, .int .i64 nx, .int .i64 (er : Nat)]) ∧
      w'.ownsRow w.heap.size 44 1 (.slice D L c) L (natv vs) ∧ Below w.heap.size w w' := by
  refine (refTakeAll_any w A n cap b B hB h hm p hp1 hp2 many hm2 _ rfl).mono ?_
  rintro e w' ⟨D, L2, c, rfl, ho, hb⟩
  rw [he] at ho ⊢
  have h1 : vs.length = L2 := (Rd.of_own ho).natn
  obtain rfl : L = L2 := by omega
  exact ⟨D, c, rfl, ho, hb⟩
theorem own_at (w : World) (A : Option Addr) (n cap : Nat) (l : List UInt8) (B : Nat) (h : Rd w B 1 A n (byts l)) (hn : n ≤ 1000000) :
    Calls Try.prog 30 #[.slice A n cap] w (Fresh w.heap.size 5 1 n (byts l) w) := by
  have h1 := own_any w A n cap l B h hn
  rw [h.blen] at h1
  exact h1
theorem Var.tall_length (b : List UInt8) : ∀ (k : Nat) (p : Int) (acc : List Nat), (Var.tall b k p acc).1.length ≤ acc.length + k
  | 0, p, acc => by simp [Var.tall]
  | k + 1, p, acc => by
    unfold Var.tall
    split
    · have := Var.tall_length b k (Var.take b p).2.1 (acc ++ [(Var.take b p).1])
      simp at this
      omega
    · simp
theorem Var.rall_length (b : List UInt8) (k : Nat) (p : Int) : (Var.rall b k p).1.length ≤ k := by
  unfold Var.rall
  split
  · have := Var.tall_length b k p []
    simpa using this
  · simp
set_option maxHeartbeats 1000000 in
set_option maxRecDepth 100000 in
theorem varTakes_any (w : World) (A : Option Addr) (n cap : Nat) (b : List UInt8) (h : Rd w w.heap.size 1 A n (byts b)) (hc : n ≤ cap) (hma : cap ≤ maxLen) (p : Int) (hp : (Lit.int .i64 p).wf = true) (many : Int) :
    Calls Try.prog 9 #[.slice A n cap, .int .i64 p, .int .i64 many] w fun e w' => e = .returned (.bool true) ∧ Below w.heap.size w w' := by
  obtain ⟨hp1, hp2⟩ := bounds_i64 hp
  have hb : Below w.heap.size w w := Below.refl _ _
  have H := Lib.hid h
  have HM := Lib.hid hma
  unfold maxLen at hma
  clear h hp
  by_cases hbig : 2000 < n ∨ 100 < many
  · go_enter Try.func9, Try.ntmps9
    go_wp2_with fail
    all_goals
      refine (varWorks_any _).mono ?_
      rintro e w1 ⟨rfl, hb1⟩
      go_wp2_with fail
      go_ret
      exact ⟨rfl, hb1⟩
  · have hn : n ≤ 2000 := by omega
    have hmany : many ≤ 100 := by omega
    have hn8 : n ≤ 100000000 := by omega
    clear hbig
    obtain ⟨v, nx, er, ht⟩ : ∃ v nx er, Var.take b p = (v, nx, er) := ⟨_, _, _, rfl⟩
    obtain ⟨tv, tx, te, htt⟩ : ∃ v nx er, Var.ttext b p = (v, nx, er) := ⟨_, _, _, rfl⟩
    obtain ⟨av, ax, ae, hta⟩ : ∃ v nx er, Var.rall b many.toNat p = (v, nx, er) := ⟨_, _, _, rfl⟩
    have hlen : av.length ≤ 100 := by
      have := Var.rall_length b many.toNat p
      rw [hta] at this
      simp only at this
      omega
    obtain ⟨L, hL⟩ : ∃ L, av.length = L := ⟨_, rfl⟩
    rw [hL] at hlen
    have HT := Lib.hid ht
    have HTT := Lib.hid htt
    have HTA := Lib.hid hta
    have HL := Lib.hid hL
    clear ht htt hta hL
    go_enter Try.func9, Try.ntmps9
    go_wp2_with fail
    refine (own_at w A n cap b _ H.out (by omega)).mono ?_
    rintro e w1 ⟨D1, c1, rfl, ho1, hb1⟩
    have hcap1 := (own_cap ho1).1
    replace hb := hb.trans hb1
    have HO1 := Lib.hid ho1
    clear ho1 hb1
    go_wp2_with fail
    refine (take_at w1 A n cap b _ (H.out.below hb) hc hn8 p hp1 hp2 _ _ _ HT.out).mono ?_
    rintro e w2 ⟨rfl, rfl⟩
    go_wp2_with fail
    refine (refTake_at w1 D1 n c1 b _ (Nat.le_refl _) (Rd.of_own HO1.out) hn8 p hp1 hp2 _ _ _ HT.out).mono ?_
    rintro e w2 ⟨rfl, hb2⟩
    replace HO1 := Lib.hid (own_ext HO1.out hb2)
    replace hb := hb.trans (hb2.mono hb.size)
    clear hb2
    go_wp2_with fail
    refine (takeText_at w2 A n cap b _ (H.out.below hb) hc hn8 p hp1 hp2 _ _ _ HTT.out).mono ?_
    rintro e w3 ⟨rfl, rfl⟩
    go_wp2_with fail
    refine (refTakeText_at w2 D1 n c1 b _ (Nat.le_refl _) (Rd.of_own HO1.out) hcap1 hn8 p hp1 hp2 _ _ _ HTT.out).mono ?_
    rintro e w3 ⟨rfl, hb2⟩
    replace HO1 := Lib.hid (own_ext HO1.out hb2)
    replace hb := hb.trans (hb2.mono hb.size)
    clear hb2
    go_wp2_with fail
    refine (takeAll_at w3 A n cap b _ hb.size (H.out.below hb) hc hn8 p hp1 hp2 many (by omega) _ _ _ L HL.out HTA.out).mono ?_
    rintro e w4 ⟨D4, c4, rfl, ho4, hb2⟩
    replace HO1 := Lib.hid (own_ext HO1.out hb2)
    replace hb := hb.trans (hb2.mono hb.size)
    have HO4 := Lib.hid ho4
    clear hb2 ho4
    go_wp2_with fail
    refine (refTakeAll_at w4 D1 n c1 b _ (Nat.le_refl _) (Rd.of_own HO1.out) hn8 p hp1 hp2 many (by omega) _ _ _ L HL.out HTA.out).mono ?_
    rintro e w5 ⟨D5, c5, rfl, ho5, hb2⟩
    replace HO1 := Lib.hid (own_ext HO1.out hb2)
    replace HO4 := Lib.hid (own_ext HO4.out hb2)
    replace hb := hb.trans (hb2.mono hb.size)
    have HO5 := Lib.hid ho5
    clear hb2 ho5
    go_wp2_with fail
    refine (lawSame_any w5 D4 L c4 av D5 L c5 av _ _ (Nat.le_refl _) (Nat.le_refl _) (Rd.of_own HO4.out) (Rd.of_own HO5.out) (by omega) (by omega) true (by simp)).mono ?_
    rintro e w6 ⟨rfl, hb2⟩
    replace HO1 := Lib.hid (own_ext HO1.out hb2)
    replace hb := hb.trans (hb2.mono hb.size)
    clear hb2
    go_wp2_with fail
    refine (same_any w6 A n cap b D1 n c1 b _ _ hb.size (Nat.le_refl _) (H.out.below hb) (Rd.of_own HO1.out) (by omega) (by omega) true (by simp)).mono ?_
    rintro e w7 ⟨rfl, hb2⟩
    replace hb := hb.trans (hb2.mono hb.size)
    clear hb2
    go_wp2_with fail
    refine (varWorks_any _).mono ?_
    rintro e w8 ⟨rfl, hb2⟩
    replace hb := hb.trans (hb2.mono hb.size)
    go_wp2_with fail
    go_ret
    exact ⟨rfl, hb⟩
end Go.Proofs.Ytfiabgpegdkldaa
