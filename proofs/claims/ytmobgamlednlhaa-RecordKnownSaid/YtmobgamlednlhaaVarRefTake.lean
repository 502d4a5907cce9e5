/-
  Numbers in groups: what the document's reading computes.
-/
import Derived.Test.YtmobgamlednlhaaVarRefs
namespace Go.Proofs.Ytmobgamlednlhaa
open Go.RowKit
set_option maxHeartbeats 2000000 in
set_option maxRecDepth 100000 in
theorem refTake_any (w : World) (A : Option Addr) (n cap : Nat) (b : List UInt8) (B : Nat) (hB : B ≤ w.heap.size) (h : Rd w B 1 A n (byts b)) (hm : n ≤ 100000000) (p : Int) (hp1 : -9223372036854775808 ≤ p) (hp2 : p ≤ 9223372036854775807) :
    Calls Try.prog 38 #[.slice A n cap, .int .i64 p] w fun e w' => e = .returned (.tuple #[.int .u64 ((Var.take b p).1 : Nat), .int .i64 (Var.take b p).2.1, .int .i64 ((Var.take b p).2.2 : Nat)]) ∧ Below w.heap.size w w' := by
  have hl := h.blen
  by_cases hneg : p < 0
  · have e : Var.take b p = (0, p, 10) := by unfold Var.take; rw [if_pos (.inl hneg)]
    have HE := Lib.hid e
    clear h hl e
    go_enter Try.func38, Try.ntmps38
    go_wp2_with fail
    go_ret3
    exact ⟨by rw [HE.out]; rfl, Below.refl _ _⟩
  obtain ⟨q, rfl⟩ : ∃ q : Nat, p = q := ⟨p.toNat, by omega⟩
  by_cases hbig : n ≤ q
  · have e : Var.take b q = (0, (q : Int), 10) := by unfold Var.take; rw [if_pos (.inr (by omega))]
    have HE := Lib.hid e
    clear h hl e
    go_enter Try.func38, Try.ntmps38
    go_wp2_with fail
    go_ret3
    exact ⟨by rw [HE.out]; rfl, Below.refl _ _⟩
  · obtain ⟨l, hl2⟩ : ∃ l, b.drop q = l := ⟨_, rfl⟩
    have e : Var.take b q = if (Var.tk l 0 0).1 = 0 then ((Var.tk l 0 0).2.1, (q : Int) + (Var.tk l 0 0).2.2, 0) else (0, (q : Int), (Var.tk l 0 0).1) := by
      unfold Var.take
      rw [if_neg (by omega)]
      simp only [Int.toNat_natCast, hl2]
    have HE := Lib.hid e
    have HL2 := Lib.hid hl2
    have HB := Lib.hid hl
    have H := Lib.hid h
    have hqn : q < n := by omega
    clear h hl e hl2
    go_enter Try.func38, Try.ntmps38
    go_wp2_with fail
    go_loopw [7, 8] (fun x i wr => ∃ k acc : Nat, k ≤ 9 ∧ i = .int .i64 k ∧ x = .int .u64 acc ∧ acc < 2 ^ (7 * k) ∧ q + k ≤ n ∧ Hid (Var.tk l 0 0 = Var.tk (l.drop k) k acc ∧ acc = Var.val (l.take k) ∧ ∀ x ∈ l.take k, 128 ≤ x.toNat) ∧ Ext w wr) (fun _ i _ => 10 - (intOf i).toNat)
    case atStart => exact ⟨0, 0, by omega, rfl, rfl, by decide, by omega, ⟨rfl, rfl, fun x hx => by simp at hx⟩, Below.refl _ _⟩
    case round =>
      obtain ⟨k, acc, hk9, rfl, rfl, hacc, hqk, HT, hx⟩ := hrel
      have HA := Lib.hid hacc
      clear hacc
      have hd10 : decide ((k : Int) < 10) = true := by simp; omega
      by_cases hlt : q + k < n
      · obtain ⟨bb, o, hkl, rfl, hbB, hcell⟩ := (H.out.below (hx.mono hB)).byte hlt
        have hkd : k < l.length := by rw [← HL2.out, List.length_drop]; omega
        have hcd : Hid (l[k] = b[q + k]) := by
          show _ = _
          have := HL2.out
          subst this
          exact List.getElem_drop
        have HD := Lib.hid (List.drop_eq_getElem_cons hkd)
        have HTK := Lib.hid (List.take_succ_eq_append_getElem hkd)
        rw [hcd.out] at HD HTK
        obtain ⟨c, hc2⟩ : ∃ c, c = b[q + k] := ⟨_, rfl⟩
        rw [← hc2] at HD HTK hcell
        have hcl := c.toNat_lt
        obtain ⟨x, hxc⟩ : ∃ x, x = c.toNat := ⟨_, rfl⟩
        rw [← hxc] at hcell hcl
        have HX := Lib.hid hxc
        have hk1 : (0 : Int) ≤ (q : Int) + (k : Int) := by omega
        have hk2 : (q : Int) + (k : Int) < (n : Int) := by omega
        clear hc2 hcd
        by_cases h11 : (k = 9 ∧ 1 < x) ∨ (x < 128 ∧ x = 0 ∧ 0 < k)
        · have HE2 : Hid (Var.take b q = (0, (q : Int), 11)) := by
            have ht : Var.tk l 0 0 = (11, 0, 0) := by
              rw [HT.out.1, HD.out]
              exact Var.tk_long (by rw [← hxc]; exact h11)
            show _ = _
            rw [HE.out, ht]
            rfl
          by_cases h9 : k = 9 ∧ 1 < x
          · obtain ⟨rfl, h1⟩ := h9
            clear hxc
            have hd1 : decide ((1 : Int) < (x : Int)) = true := by simp; omega
            go_wp2_with fail
            go_ret3
            exact ⟨by rw [HE2.out]; rfl, hx⟩
          · obtain rfl : x = 0 := by omega
            have hk0 : 0 < k := by omega
            have hv : acc < 18446744073709551616 := by
              have h1 : 2 ^ (7 * k) ≤ 2 ^ (7 * 9) := Nat.pow_le_pow_right (by omega) (by omega)
              have := HA.out
              omega
            have hlk : (l.take k).length = k := by rw [List.length_take]; omega
            have hval : acc = Var.val (l.take k ++ [c]) := by
              rw [Var.val_append, ← HT.out.2.1, Var.val, Var.val, ← hxc]
              omega
            have hshort : (Var.put acc).length ≤ k := by
              have := Var.put_short (l.take k) c HT.out.2.2 hxc.symm (by intro e; rw [e] at hlk; simp at hlk; omega) (by rw [← hval]; exact hv)
              rw [← hval, hlk] at this
              exact this
            have HV := Lib.hid hv
            clear hxc hval hlk
            have hlen := (Var.put_length acc).1
            obtain ⟨Z, hZ⟩ : ∃ Z, Z = (Var.put acc).length := ⟨_, rfl⟩
            rw [← hZ] at hshort hlen
            have HZ := Lib.hid hZ
            have hne : ((k : Int) + 1 != (Z : Int)) = true := by rw [bne_iff_ne]; omega
            clear hZ
            have h9b : (((k : Int) == 9) = false) ∨ (((k : Int) == 9) = true) := by cases ((k : Int) == 9) <;> simp
            rcases h9b with h9b | h9b
            all_goals
              go_wp2_with fail
              refine (refPut_any wr acc HV.out).mono ?_
              rintro e w1 ⟨D1, c1, rfl, ho1, hb1⟩
              rw [← HZ.out] at ho1 ⊢
              have HO1 := Lib.hid ho1
              have he1 : Ext wr w1 := hb1
              clear ho1
              obtain ⟨r, hr⟩ : ∃ r, decide ((b.drop q).take Z = Var.put acc) = r := ⟨_, rfl⟩
              have HRR := Lib.hid hr
              clear hr
              go_wp2_with fail
              refine (refSame_any w1 _ n cap b q D1 Z c1 _ B w1.heap.size (Nat.le_trans hB (Nat.le_trans hx.size he1.size)) (Nat.le_refl _) (H.out.below (he1.mono (Nat.le_trans hB hx.size) |> fun h => (hx.mono hB).trans h)) (Rd.of_own HO1.out) hm (by omega) (by omega) r HRR.out).mono ?_
              rintro e w2 ⟨rfl, hb2⟩
              have he2 : Ext w w2 := Ext.trans hx (Ext.trans he1 hb2)
              cases r
              · go_wp2_with fail
                go_ret3
                exact ⟨by rw [HE2.out]; rfl, he2⟩
              · go_wp2_with fail
                refine (refPut_any w2 acc HV.out).mono ?_
                rintro e w3 ⟨D3, c3, rfl, ho3, hb3⟩
                rw [← HZ.out] at ho3 ⊢
                clear ho3
                go_wp2_with fail
                go_ret3
                exact ⟨by rw [HE2.out]; rfl, Ext.trans he2 hb3⟩
        · have h9b : (((k : Int) == 9) = false) ∨ (((k : Int) == 9) = true ∧ decide ((1 : Int) < (x : Int)) = false) := by
            by_cases h : k = 9
            · right
              exact ⟨by rw [beq_iff_eq]; omega, by simp; omega⟩
            · left
              rw [beq_eq_false_iff_ne]; omega
          have hdig := or_digit HA.out hcl hk9 (by omega)
          obtain ⟨P, hP⟩ : ∃ P : Nat, P = 2 ^ (7 * k) := ⟨_, rfl⟩
          have hP63 : P ≤ 9223372036854775808 := by
            have h1 : 2 ^ (7 * k) ≤ 2 ^ (7 * 9) := Nat.pow_le_pow_right (by omega) (by omega)
            rw [hP]
            exact h1
          have hacc : acc < P := by rw [hP]; exact HA.out
          obtain ⟨M, hM⟩ : ∃ M : Nat, M = x % 128 * P := ⟨_, rfl⟩
          have hM63 : acc + M < 18446744073709551616 := by
            by_cases h : k = 9
            · have h3 : x % 128 ≤ 1 := by omega
              have h4 : x % 128 * P ≤ 1 * P := Nat.mul_le_mul_right _ h3
              omega
            · have h1 : 2 ^ (7 * (k + 1)) ≤ 2 ^ (7 * 9) := Nat.pow_le_pow_right (by omega) (by omega)
              have := hdig.2
              rw [← hP, ← hM] at this
              omega
          have hw1 : IntKind.u64.wrap (2 ^ (7 * k)) = ((P : Nat) : Int) := by
            rw [hP, IntKind.wrap_u64]
            rw [hP] at hP63
            have : ((2 ^ (7 * k) : Nat) : Int) = (2 : Int) ^ (7 * k) := by push_cast; rfl
            rw [← this]
            omega
          have hw2 : IntKind.u64.wrap ((x : Int) % 128 * (P : Int)) = ((M : Nat) : Int) := by
            have : (x : Int) % 128 * (P : Int) = ((M : Nat) : Int) := by rw [hM]; push_cast; rfl
            rw [this, IntKind.wrap_u64]
            omega
          have HM : Hid (M = x % 128 * 2 ^ (7 * k)) := by show _ = _; rw [hM, hP]
          have HM64 := Lib.hid hM63
          clear hdig hP hM
          by_cases hlast : x < 128
          · have hdl : decide ((x : Int) < 128) = true := by simp; omega
            have HE2 : Hid (Var.take b q = (acc + M, (q : Int) + (k + 1 : Nat), 0)) := by
              have ht : Var.tk l 0 0 = (0, acc + M, k + 1) := by
                rw [HT.out.1, HD.out, Var.tk_last (by rw [← hxc]; exact h11) (by rw [← hxc]; exact hlast), ← hxc, HM.out]
              show _ = _
              rw [HE.out, ht]
              rfl
            have hlk : (l.take k).length = k := by rw [List.length_take]; omega
            have hval : acc + M = Var.val (l.take k ++ [c]) := by
              rw [Var.val_append, ← HT.out.2.1, Var.val, Var.val, ← hxc, hlk, HM.out, Nat.mul_zero, Nat.add_zero, Nat.mul_comm]
            have hput : Var.put (acc + M) = l.take (k + 1) := by
              rw [hval, HTK.out]
              refine Var.put_val (l.take k) c ⟨HT.out.2.2, by omega⟩ (by rw [← hval]; exact hM63) ?_
              by_cases h0 : k = 0
              · subst h0; right; rfl
              · left; omega
            have HPUT := Lib.hid hput
            have hplen : (Var.put (acc + M)).length = k + 1 := by rw [hput, List.length_take]; omega
            have HLEN := Lib.hid hplen
            have hne : ((k : Int) + 1 != ((k + 1 : Nat) : Int)) = false := by simp
            clear hxc hval hlk hput hplen
            have hcall := fun w => refPut_any w (acc + M) HM64.out
            rw [Int.natCast_add, HLEN.out] at hcall
            have hkn : k + 1 ≤ 100000000 := by omega
            have hqn2 : q ≤ n := by omega
            have hr : decide ((b.drop q).take (k + 1) = Var.put (acc + M)) = true := by
              rw [decide_eq_true_iff, HL2.out, HPUT.out]
            have HRR := Lib.hid hr
            clear hr
            rcases h9b with h9b | ⟨h9b, hd1⟩
            all_goals
              go_wp2_with fail
              refine (hcall wr).mono ?_
              rintro e w1 ⟨D1, c1, rfl, ho1, hb1⟩
              have HO1 := Lib.hid ho1
              have he1 : Ext wr w1 := hb1
              clear ho1
              go_wp2_with fail
              refine (refSame_any w1 _ n cap b q D1 (k + 1) c1 _ B w1.heap.size (Nat.le_trans hB (Nat.le_trans hx.size he1.size)) (Nat.le_refl _) (H.out.below (he1.mono (Nat.le_trans hB hx.size) |> fun h => (hx.mono hB).trans h)) (Rd.of_own HO1.out) hm hkn hqn2 true HRR.out).mono ?_
              rintro e w2 ⟨rfl, hb2⟩
              have he2 : Ext w w2 := Ext.trans hx (Ext.trans he1 hb2)
              go_wp2_with fail
              refine (hcall w2).mono ?_
              rintro e w3 ⟨D3, c3, rfl, ho3, hb3⟩
              clear ho3
              go_wp2_with fail
              go_ret3
              refine ⟨?_, Ext.trans he2 hb3⟩
              rw [HE2.out]
              first
                | rfl
                | (go_simp; omega)
          · have HE2 : Hid (Var.tk l 0 0 = Var.tk (l.drop (k + 1)) (k + 1) (acc + M)) := by
              show _ = _
              rw [HT.out.1, HD.out, Var.tk_more (by rw [← hxc]; exact h11) (by rw [← hxc]; exact hlast), ← hxc, HM.out]
            have hlk : (l.take k).length = k := by rw [List.length_take]; omega
            have hval : acc + M = Var.val (l.take (k + 1)) := by
              rw [HTK.out, Var.val_append, ← HT.out.2.1, Var.val, Var.val, ← hxc, hlk, HM.out, Nat.mul_zero, Nat.add_zero, Nat.mul_comm]
            have HVAL := Lib.hid hval
            have HG : Hid (∀ x ∈ l.take (k + 1), 128 ≤ x.toNat) := by
              show ∀ x ∈ _, _
              rw [HTK.out]
              intro y hy
              rcases List.mem_append.1 hy with hy | hy
              · exact HT.out.2.2 y hy
              · rw [List.mem_singleton] at hy
                subst hy
                omega
            have hbound : acc + M < 2 ^ (7 * (k + 1)) := by
              have := (or_digit HA.out hcl hk9 (by omega)).2
              rw [← HM.out] at this
              exact this
            have HBD := Lib.hid hbound
            have hdl : decide ((x : Int) < 128) = false := by simp; omega
            have hk9' : k ≠ 9 := by omega
            have h9c : ((k : Int) == 9) = false := by rw [beq_eq_false_iff_ne]; omega
            clear hxc hlk hval h9b hbound
            go_wp2_with fail
            go_roundw
            case rel =>
              exact ⟨k + 1, acc + M, by omega, by go_num, int_eq (by push_cast; rfl), HBD.out, by omega, ⟨HE2.out, HVAL.out, HG.out⟩, hx⟩
            case measure => simp [intOf]; omega
      · have hkl : l.length = k := by rw [← HL2.out, List.length_drop, HB.out]; omega
        have HE2 : Hid (Var.take b q = (0, (q : Int), 10)) := by
          have ht : Var.tk l 0 0 = (10, 0, 0) := by
            rw [HT.out.1, List.drop_of_length_le (by omega)]
            rfl
          show _ = _
          rw [HE.out, ht]
          rfl
        have hdn : decide ((n : Int) ≤ (q : Int) + (k : Int)) = true := by simp; omega
        go_wp2_with fail
        go_ret3
        exact ⟨by rw [HE2.out]; rfl, hx⟩
end Go.Proofs.Ytmobgamlednlhaa
