/-
  The walk of VarintPuts: it returns true.
-/
import Derived.Test.YtfiabgpegdkldaaVarTakes
namespace Go.Proofs.Ytfiabgpegdkldaa
open Go.RowKit
theorem all_at (w : World) (A : Option Addr) (n cap : Nat) (l : List UInt64) (B : Nat) (hB : B ≤ w.heap.size) (h : Rd w B 1 A n (nums l)) (hn : n ≤ 100000) (bs : List UInt8) (L : Nat) (he : puts l = bs) (hL : bs.length = L) :
    Calls Try.prog 21 #[.slice A n cap] w (Fresh w.heap.size 5 1 L (byts bs) w) := by
  have h1 := all_any w A n cap l B hB h hn
  rw [he, hL] at h1
  exact h1
theorem refAll_at (w : World) (A : Option Addr) (n cap : Nat) (l : List UInt64) (B : Nat) (hB : B ≤ w.heap.size) (h : Rd w B 1 A n (nums l)) (hn : n ≤ 100000) (bs : List UInt8) (L : Nat) (he : puts l = bs) (hL : bs.length = L) :
    Calls Try.prog 24 #[.slice A n cap] w (Fresh w.heap.size 5 1 L (byts bs) w) := by
  have h1 := refAll_any w A n cap l B hB h hn
  rw [he, hL] at h1
  exact h1
theorem refText_at (w : World) (s : ByteArray) (hs : s.size ≤ 100000) (l : List UInt8) (L : Nat) (he : Var.put s.size ++ s.data.toList = l) (hL : l.length = L) :
    Calls Try.prog 25 #[.string s] w (Fresh w.heap.size 5 1 L (byts l) w) := by
  have h := refText_any w s hs
  rw [he, hL] at h
  exact h
theorem refPut_at (w : World) (n : Nat) (hn : n < 18446744073709551616) (l : List UInt8) (L : Nat) (he : Var.put n = l) (hL : l.length = L) :
    Calls Try.prog 28 #[.int .u64 (n : Nat)] w (Fresh w.heap.size 5 1 L (byts l) w) := by
  have h := refPut_any w n hn
  rw [he, hL] at h
  exact h
theorem own_apart {w w' : World} {base : Nat} {te : TypeId} {s n : Nat} {v : Value} {xs : List Value} {u : Option Nat} (h : w.ownsRow base te s v n xs) (hg : w.grownBy w' u) (hu : ∀ k, u = some k → k < base) :
    w'.ownsRow base te s v n xs := by
  refine h.kept hg ?_
  rcases h.2 with ⟨rfl, _⟩ | ⟨g, cap, cur, rfl, hb, hh, _⟩
  · exact .inl rfl
  · right
    intro e
    have := hu g (by rw [← e]; rfl)
    omega
set_option maxHeartbeats 1000000 in
set_option maxRecDepth 100000 in
theorem varPuts_any (w : World) (A : Option Addr) (n cap : Nat) (l : List UInt64) (h : Rd w w.heap.size 1 A n (nums l)) (s : ByteArray) :
    Calls Try.prog 8 #[.slice A n cap, .string s] w fun e w' => e = .returned (.bool true) ∧ Below w.heap.size w w' := by
  have hb : Below w.heap.size w w := Below.refl _ _
  have H := Lib.hid h
  clear h
  by_cases hbig : 50 < n ∨ 2000 < s.size
  · go_enter Try.func8, Try.ntmps8
    go_wp2_with fail
    all_goals
      refine (varWorks_any _).mono ?_
      rintro e w1 ⟨rfl, hb1⟩
      go_wp2_with fail
      go_ret
      exact ⟨rfl, hb1⟩
  · have hn : n ≤ 50 := by omega
    have hs : s.size ≤ 2000 := by omega
    clear hbig
    obtain ⟨bs, hbs⟩ : ∃ bs, puts l = bs := ⟨_, rfl⟩
    obtain ⟨L, hL⟩ : ∃ L, bs.length = L := ⟨_, rfl⟩
    obtain ⟨ts, hts⟩ : ∃ ts, Var.put s.size ++ s.data.toList = ts := ⟨_, rfl⟩
    obtain ⟨M, hM⟩ : ∃ M, ts.length = M := ⟨_, rfl⟩
    have hL5 : L ≤ 500 := by
      have := puts_le l
      rw [hbs, hL, H.out.nlen] at this
      omega
    have hM5 : M ≤ 2010 := by
      have := (Var.put_length s.size).2
      rw [← hM, ← hts, List.length_append]
      have : s.data.toList.length = s.size := by simp
      omega
    have HBS := Lib.hid hbs
    have HL := Lib.hid hL
    have HTS := Lib.hid hts
    have HM := Lib.hid hM
    clear hbs hL hts hM
    go_enter Try.func8, Try.ntmps8
    go_wp2_with fail
    go_loopw [5] (fun i wr => ∃ k : Nat, k ≤ 2 ∧ i = .int .i64 k ∧ Below w.heap.size w wr) (fun i _ => 2 - (intOf i).toNat)
    case atStart => exact ⟨0, by omega, rfl, hb⟩
    case round =>
      obtain ⟨k, hk, rfl, hb⟩ := hrel
      by_cases hlt : k < 2
      · have hd : decide ((k : Int) < 2) = true := by simp; omega
        go_wp2_with fail
        refine (all_at wr A n cap l _ hb.size (H.out.below hb) (by omega) bs L HBS.out HL.out).mono ?_
        rintro e w1 ⟨D1, c1, rfl, ho1, hb2⟩
        have hz := hb.size
        have hw1 : w.heap.size ≤ w1.heap.size := Nat.le_trans hz hb2.size
        replace hb := hb.trans (hb2.mono hb.size)
        have HO1 := Lib.hid ho1
        have H1L := Lib.hid (fun k hk => (ho1.lt k hk).2)
        clear ho1 hb2
        go_wp2_with fail
        refine (text_at w1 s (by omega) ts M HTS.out HM.out).mono ?_
        rintro e w2 ⟨D2, c2, rfl, ho2, hb2⟩
        replace HO1 := Lib.hid (own_ext HO1.out hb2)
        replace hb := hb.trans (hb2.mono hb.size)
        have HO2 := Lib.hid ho2
        clear ho2 hb2
        go_wp2_with fail
        refine (refAll_at w2 A n cap l _ hb.size (H.out.below hb) (by omega) bs L HBS.out HL.out).mono ?_
        rintro e w3 ⟨D3, c3, rfl, ho3, hb2⟩
        replace HO1 := Lib.hid (own_ext HO1.out hb2)
        replace HO2 := Lib.hid (own_ext HO2.out hb2)
        replace hb := hb.trans (hb2.mono hb.size)
        have HO3 := Lib.hid ho3
        clear ho3 hb2
        go_wp2_with fail
        refine (same_any w3 D1 L c1 bs D3 L c3 bs _ _ (Nat.le_refl _) (Nat.le_refl _) (Rd.of_own HO1.out) (Rd.of_own HO3.out) (by omega) (by omega) true (by simp)).mono ?_
        rintro e w4 ⟨rfl, hb2⟩
        replace HO1 := Lib.hid (own_ext HO1.out hb2)
        replace HO2 := Lib.hid (own_ext HO2.out hb2)
        replace hb := hb.trans (hb2.mono hb.size)
        clear hb2
        go_wp2_with fail
        refine (refText_at w4 s (by omega) ts M HTS.out HM.out).mono ?_
        rintro e w5 ⟨D5, c5, rfl, ho5, hb2⟩
        replace HO1 := Lib.hid (own_ext HO1.out hb2)
        replace HO2 := Lib.hid (own_ext HO2.out hb2)
        replace hb := hb.trans (hb2.mono hb.size)
        have HO5 := Lib.hid ho5
        clear ho5 hb2
        go_wp2_with fail
        refine (same_any w5 D2 M c2 ts D5 M c5 ts _ _ (Nat.le_refl _) (Nat.le_refl _) (Rd.of_own HO2.out) (Rd.of_own HO5.out) (by omega) (by omega) true (by simp)).mono ?_
        rintro e w6 ⟨rfl, hb2⟩
        replace HO1 := Lib.hid (own_ext HO1.out hb2)
        replace HO2 := Lib.hid (own_ext HO2.out hb2)
        replace hb := hb.trans (hb2.mono hb.size)
        clear hb2
        go_wp2_with fail
        refine (spoil_any w6 D1 L c1 _ _ _ HO1.out (by omega)).mono ?_
        rintro e w7 ⟨rfl, hg, hb2⟩
        replace HO2 := Lib.hid (own_apart HO2.out hg H1L.out)
        replace hb := hb.trans (hb2.mono hz)
        clear hb2 hg
        go_wp2_with fail
        refine (spoil_any w7 D2 M c2 _ _ _ HO2.out (by omega)).mono ?_
        rintro e w8 ⟨rfl, hg, hb2⟩
        replace hb := hb.trans (hb2.mono hw1)
        clear hb2 hg
        go_wp2_with fail
        go_roundw
        case rel => exact ⟨k + 1, by omega, by go_num, hb⟩
        case measure => simp [intOf]; omega
      · have hd : decide ((k : Int) < 2) = false := by simp; omega
        go_wp2_with fail
        go_loopw [8] (fun i wr => ∃ k : Nat, k ≤ n ∧ i = .int .i64 k ∧ Below w.heap.size w wr) (fun i _ => n - (intOf i).toNat)
        case atStart => exact ⟨0, by omega, rfl, hb⟩
        case round =>
          obtain ⟨k, hk, rfl, hb⟩ := hrel
          by_cases hlt : k < n
          · have hd : decide ((k : Int) < (n : Int)) = true := by simp; omega
            have hk1 : (0 : Int) ≤ (k : Int) := by omega
            have hk2 : (k : Int) < (n : Int) := by omega
            obtain ⟨b0, o, hkl, hA, hbB, hcell⟩ := (H.out.below hb).num hlt
            subst hA
            obtain ⟨x, hx⟩ : ∃ x, x = l[k].toNat := ⟨_, rfl⟩
            have hxl : x < 18446744073709551616 := by rw [hx]; exact l[k].toNat_lt
            rw [← hx] at hcell
            clear hx
            have HXL := Lib.hid hxl
            obtain ⟨ps, hps⟩ : ∃ ps, Var.put x = ps := ⟨_, rfl⟩
            obtain ⟨Z, hZ⟩ : ∃ Z, ps.length = Z := ⟨_, rfl⟩
            have hZ10 : Z ≤ 10 := by rw [← hZ, ← hps]; exact (Var.put_length x).2
            have HPS := Lib.hid hps
            have HZ := Lib.hid hZ
            have HC := Lib.hid hcell
            clear hps hZ hxl
            go_wp2_with fail
            clear hcell
            refine (put_at _ x HXL.out ps Z HPS.out HZ.out).mono ?_
            rintro e w1 ⟨D1, c1, rfl, ho1, hb2⟩
            have hcell := (hb2.cell (Nat.lt_of_lt_of_le hbB hb.size)).trans HC.out
            replace HC := Lib.hid hcell
            replace hb := hb.trans (hb2.mono hb.size)
            have HO1 := Lib.hid ho1
            clear ho1 hb2
            go_wp2_with fail
            clear hcell
            refine (refPut_at _ x HXL.out ps Z HPS.out HZ.out).mono ?_
            rintro e w2 ⟨D2, c2, rfl, ho2, hb2⟩
            have hcell := (hb2.cell (Nat.lt_of_lt_of_le hbB hb.size)).trans HC.out
            replace HC := Lib.hid hcell
            replace HO1 := Lib.hid (own_ext HO1.out hb2)
            replace hb := hb.trans (hb2.mono hb.size)
            have HO2 := Lib.hid ho2
            clear ho2 hb2
            go_wp2_with fail
            refine (same_any w2 D1 Z c1 ps D2 Z c2 ps _ _ (Nat.le_refl _) (Nat.le_refl _) (Rd.of_own HO1.out) (Rd.of_own HO2.out) (by omega) (by omega) true (by simp)).mono ?_
            rintro e w3 ⟨rfl, hb2⟩
            replace hcell := (hb2.cell (Nat.lt_of_lt_of_le hbB hb.size)).trans HC.out
            replace hb := hb.trans (hb2.mono hb.size)
            clear hb2
            go_wp2_with fail
            clear hcell
            refine (size_any _ x HXL.out).mono ?_
            rintro e w4 ⟨rfl, hb2⟩
            replace hb := hb.trans (hb2.mono hb.size)
            clear hb2
            rw [HPS.out, HZ.out]
            go_wp2_with fail
            go_roundw
            case rel => exact ⟨k + 1, by omega, by go_num, hb⟩
            case measure => simp [intOf]; omega
          · obtain rfl : k = n := by omega
            go_wp2_with fail
            refine (varWorks_any _).mono ?_
            rintro e w8 ⟨rfl, hb2⟩
            replace hb := hb.trans (hb2.mono hb.size)
            go_wp2_with fail
            go_ret
            exact ⟨rfl, hb⟩
end Go.Proofs.Ytfiabgpegdkldaa
