/-
  Files in parts: the program's file and the document's side by side; what is written over behind a call.
-/
import Derived.Test.YtankhjchdnfpfaaExtHold
import Derived.Test.YtankhjchdnfpfaaExtFew
namespace Go.Proofs.Ytankhjchdnfpfaa
open Go.RowKit
theorem rpart_ne : 57 ≠ 30 ∧ 5 ≠ 30 ∧ 52 ≠ 34 ∧ 5 ≠ 34 ∧ 57 ≠ 34 ∧ 52 ≠ 5 ∧ 57 ≠ 5 ∧ 30 ≠ 5 ∧ 34 ≠ 5 ∧ 26 ≠ 5 := by decide
theorem HoldsR.ext {w w' : World} {gr : Nat} {G : Nat → Prop} {fs : List Pa} (h : HoldsR w gr G fs) (hb : Below w.heap.size w w') : HoldsR w' gr G fs := by
  obtain ⟨A, n, c, hw, hf⟩ := h
  exact ⟨A, n, c, hw.below hb hw.lt, hf.ext hb⟩
theorem HoldsR.lt {w : World} {gr : Nat} {G : Nat → Prop} {fs : List Pa} (h : HoldsR w gr G fs) : gr < w.heap.size := by
  obtain ⟨A, n, c, hw, _⟩ := h
  exact hw.lt
/-- The program's file is changed: the document's stays. -/
theorem HoldsR.aside {w w' : World} {gf gr : Nat} {G G' : Nat → Prop} {fs gs : List Pa} (h : HoldsR w gr G fs) (ha : Holds w gf G' gs) (hg : w.grownBy w' (some gf)) (hne : gf ≠ gr) : HoldsR w' gr G fs := by
  obtain ⟨A, n, c, hw, hf⟩ := h
  obtain ⟨cs, ha⟩ := ha.whole
  exact ⟨A, n, c, hw.far_of hg hne, hf.far ha hg rpart_ne.1 rpart_ne.2.1⟩
/-- The document's variable is written: the program's file stays. -/
theorem put_ref {w w' : World} {gf gr : Nat} {G G' : Nat → Prop} {fs gs : List Pa} {A1 A : Option Addr} {n1 c1 n c : Nat} {cs : Array Value} (h1 : Whole w gf 30 #[.slice A1 n1 c1]) (h2 : File w G 52 5 A1 n1 c1 fs)
    (hw : Whole w gr 34 cs) (hcs : cs.size = 1) (hf : File w G' 57 5 A n c gs) (hne : gr ≠ gf) (he : w.setCell ⟨gr, 0, none⟩ (.slice A n c) = w') :
    Whole w' gf 30 #[.slice A1 n1 c1] ∧ File w' G 52 5 A1 n1 c1 fs ∧ Whole w' gr 34 #[.slice A n c] ∧ File w' G' 57 5 A n c gs ∧ w.grownBy w' (some gr) := by
  subst he
  have hg := grow_put (w := w) (g := gr) (.slice A n c)
  refine ⟨h1.far_of hg hne, h2.far hw hg rpart_ne.2.2.1 rpart_ne.2.2.2.1, ?_, hf.far hw hg rpart_ne.2.2.2.2.1 rpart_ne.2.2.2.1, hg⟩
  have h3 := hw.put_ 0 (.slice A n c)
  have e : cs.setIfInBounds 0 (.slice A n c) = #[.slice A n c] := by
    obtain ⟨l⟩ := cs
    cases l with
    | nil => cases hcs
    | cons x xs =>
      cases xs with
      | nil => rfl
      | cons y ys => simp at hcs
  rw [e] at h3
  exact h3
theorem own_miss {w w' : World} {base s n : Nat} {e : TypeId} {v : Value} {xs : List Value} {ob : Option Nat} (h : w.ownsRow base e s v n xs) (hg : w.grownBy w' ob) (hne : ∀ A m c, v = .slice A m c → ∀ g o, A = some ⟨g, o, none⟩ → some g ≠ ob) : w'.ownsRow base e s v n xs := by
  refine h.kept hg ?_
  rcases h.2 with ⟨rfl, _⟩ | ⟨k, cap, cur, rfl, _⟩
  · exact .inl rfl
  · right
    intro e2
    exact hne _ _ _ rfl k 0 rfl (by simpa [Value.ownBlock] using e2)
/-- A row of bytes is written over: a file whose bytes lie elsewhere stays. -/
theorem File.over {w w' : World} {n c base m : Nat} {G : Nat → Prop} {tp : TypeId} {A : Option Addr} {fs : List Pa} {u : Value} {ys : List Value} (h : File w G tp 5 A n c fs) (hu : w.ownsRow base 5 1 u m ys) (hg : w.grownBy w' u.ownBlock) (hne : tp ≠ 5) (hG : ∀ g, G g → some g ≠ u.ownBlock) : File w' G tp 5 A n c fs := by
  obtain ⟨h0, vs, h1, h2⟩ := h
  refine ⟨h0, vs, own_kept h1 hg hu hne, h2.1, fun j hj => ?_⟩
  obtain ⟨A1, c1, e1, e2, e3, e4⟩ := h2.2 j hj
  exact ⟨A1, c1, e1, e2, own_miss e3 hg (fun A m c e g o eA => by
    injection e with e
    exact hG g (e4 g o (by rw [e]; exact eA))), e4⟩
theorem Holds.over {w w' : World} {gf base m : Nat} {G : Nat → Prop} {fs : List Pa} {u : Value} {ys : List Value} (h : Holds w gf G fs) (hu : w.ownsRow base 5 1 u m ys) (hg : w.grownBy w' u.ownBlock) (hG : ∀ g, G g → some g ≠ u.ownBlock) : Holds w' gf G fs := by
  obtain ⟨A, n, c, hw, hf⟩ := h
  exact ⟨A, n, c, hw.kept hg hu (Ne.symm rpart_ne.2.2.2.2.2.2.2.1), hf.over hu hg rpart_ne.2.2.2.2.2.1 hG⟩
theorem HoldsR.over {w w' : World} {gr base m : Nat} {G : Nat → Prop} {fs : List Pa} {u : Value} {ys : List Value} (h : HoldsR w gr G fs) (hu : w.ownsRow base 5 1 u m ys) (hg : w.grownBy w' u.ownBlock) (hG : ∀ g, G g → some g ≠ u.ownBlock) : HoldsR w' gr G fs := by
  obtain ⟨A, n, c, hw, hf⟩ := h
  exact ⟨A, n, c, hw.kept hg hu (Ne.symm rpart_ne.2.2.2.2.2.2.2.2.1), hf.over hu hg rpart_ne.2.2.2.2.2.2.1 hG⟩
theorem Holds.weak {w : World} {gf : Nat} {G G' : Nat → Prop} {fs : List Pa} (h : Holds w gf G fs) (hk : ∀ g, g < w.heap.size → G g → G' g) : Holds w gf G' fs := by
  obtain ⟨A, n, c, hw, hf⟩ := h
  exact ⟨A, n, c, hw, hf.weak hk⟩
theorem HoldsR.weak {w : World} {gf : Nat} {G G' : Nat → Prop} {fs : List Pa} (h : HoldsR w gf G fs) (hk : ∀ g, g < w.heap.size → G g → G' g) : HoldsR w gf G' fs := by
  obtain ⟨A, n, c, hw, hf⟩ := h
  exact ⟨A, n, c, hw, hf.weak hk⟩
/-- The law's is, of the two. -/
theorem is_both (w : World) (A : Option Addr) (N cap : Nat) (A' : Option Addr) (N' cap' : Nat) (G G' : Nat → Prop) (fs : List Pa) (h : File w G 52 5 A N cap fs) (h' : File w G' 57 5 A' N' cap' fs) (hl : fs.length ≤ 1000) (hf : ∀ p ∈ fs, p.1.length ≤ 30) :
    Calls Try.prog 19 #[.agg #[.slice A N cap], .agg #[.slice A' N' cap']] w fun en w' => en = .returned (.bool true) ∧ Below w.heap.size w w' := by
  refine is_any w A N cap A' N' cap' fs h.rd h'.rd (by rw [← h.1]; omega) (fun p hp => by have := hf p hp; omega) ?_
  have : (Exn.bytes fs).length ≤ fs.length * 30 := by
    clear h h' hl
    induction fs with
    | nil => simp [Exn.bytes]
    | cons p ps ih =>
      have e : Exn.bytes (p :: ps) = p.1 ++ Exn.bytes ps := rfl
      rw [e, List.length_append, List.length_cons]
      have h1 := hf p List.mem_cons_self
      have h2 := ih (fun q hq => hf q (List.mem_cons_of_mem _ hq))
      omega
  omega
/-! What an act makes of a file. -/
namespace Exn
theorem app_len (fs : List Pa) (b : List UInt8) : (app fs b).length ≤ fs.length + 1 := by
  unfold app
  refine Nat.le_trans (tidy_le _) ?_
  simp
theorem app_mem {fs : List Pa} {b : List UInt8} {k : Nat} (h : ∀ p ∈ fs, p.1.length ≤ k) (hb : b.length ≤ k) : ∀ p ∈ app fs b, p.1.length ≤ k := by
  intro p hp
  have h1 := (tidy_mem hp).1
  rw [List.mem_append, List.mem_singleton] at h1
  rcases h1 with h1 | h1
  · exact h p h1
  · subst h1; exact hb
theorem sync_mem {fs : List Pa} {k : Nat} (h : ∀ p ∈ fs, p.1.length ≤ k) : ∀ p ∈ sync fs, p.1.length ≤ k := by
  intro p hp
  unfold sync at hp
  obtain ⟨q, hq, rfl⟩ := List.mem_map.1 hp
  exact h q (tidy_mem hq).1
theorem fail_len (fs : List Pa) (ks : List Bool) : (fail fs ks).length ≤ fs.length := by
  rw [fail_length]
  refine Nat.le_trans (lastOf_le _) ?_
  rw [stays_length]
  exact tidy_le fs
theorem after_len (p : Pa) (s : Bool) : (after p s).1.length = p.1.length := by
  unfold after
  cases s <;> simp
theorem fail_mem {fs : List Pa} {ks : List Bool} {k : Nat} (h : ∀ p ∈ fs, p.1.length ≤ k) : ∀ p ∈ fail fs ks, p.1.length ≤ k := by
  intro p hp
  obtain ⟨j, hj, rfl⟩ := List.mem_iff_getElem.1 hp
  have h1 := fail_length fs ks
  have h2 := lastOf_le (stays (tidy fs) ks)
  have h3 := stays_length (tidy fs) ks
  rw [fail_get hj (by omega) (by omega), after_len]
  exact h _ (tidy_mem (List.getElem_mem _)).1
theorem of_len (ls : List (List UInt8)) : (of_ ls).length ≤ ls.length := by
  unfold of_
  refine Nat.le_trans (tidy_le _) ?_
  unfold as_
  rw [List.length_map]
  exact Nat.le_refl _
theorem of_mem {ls : List (List UInt8)} {k : Nat} (h : ∀ l ∈ ls, l.length ≤ k) : ∀ p ∈ of_ ls, p.1.length ≤ k := by
  intro p hp
  have h1 := (tidy_mem hp).1
  unfold as_ at h1
  obtain ⟨l, hl, rfl⟩ := List.mem_map.1 h1
  exact h l hl
end Exn
theorem RdRows.of_own {w : World} {base base' N c : Nat} {te tr : TypeId} {D : Option Addr} {ls : List (List UInt8)} {vs : List Value} (hl : ls.length = N) (h : w.ownsRow base' tr 1 (.slice D N c) N vs) (hr : OwnRows w base te ls vs) : RdRows w w.heap.size D N ls := by
  refine ⟨hl, fun k hk => ?_⟩
  have hkl : k < ls.length := by omega
  obtain ⟨b, o, e, hb, hc⟩ := (Rd.of_own h).2 (by omega)
  obtain ⟨A', c', h1, h2⟩ := hr.2 k hkl
  have hg : ls.getD k [] = ls[k] := by simp [List.getD, List.getElem?_eq_getElem hkl]
  rw [hg]
  exact ⟨b, o, A', _, c', e, hb, hc _ _ h1, (own_cap h2).1, (own_cap h2).2, Rd.of_own h2⟩
theorem rowsV : ElemOK Try.prog 22 26 1 24 := ElemOK.mk_ (z := .slice none 0 0) Try.underlying22 (by kernel_rfl) rfl (by omega)
theorem one_slice (A : Option Addr) (n c : Nat) : ∀ u ∈ [Value.slice A n c], u.oneCell' = true := by
  intro u hu
  rw [List.mem_singleton] at hu
  subst hu
  rfl
/-! Rows of bytes that may be written over. -/
set_option maxHeartbeats 400000 in
set_option maxRecDepth 100000 in
theorem spoil_more (w : World) (A : Option Addr) (n cap : Nat) (xs : List Value) (base : Nat) (e0 : TypeId) (h : w.ownsRow base e0 1 (.slice A n cap) n xs) (hn : n ≤ 100000000) :
    Calls Try.prog 11 #[.slice A n cap] w fun e w' => e = .returned (.tuple #[]) ∧ w.grownBy w' (Value.slice A n cap).ownBlock ∧ Below base w w' ∧ ∃ ys, w'.ownsRow base e0 1 (.slice A n cap) n ys := by
  have H := Lib.hid h
  clear h
  go_enter Try.func11, Try.ntmps11
  go_wp2_with fail
  go_loopw [2] (fun i wr => ∃ (k : Nat), k ≤ n ∧ i = .int .i64 k ∧ w.grownBy wr (Value.slice A n cap).ownBlock ∧ Below base w wr ∧ Hid (∃ ys, wr.ownsRow base e0 1 (.slice A n cap) n ys)) (fun i _ => n - (intOf i).toNat)
  case atStart => exact ⟨0, by omega, rfl, World.grownBy.refl _ _, Below.refl _ _, ⟨xs, H.out⟩⟩
  case round =>
    obtain ⟨k, hk, rfl, hg, hb, HO⟩ := hrel
    by_cases hlt : k < n
    · obtain ⟨ys, ho⟩ := HO.out
      obtain ⟨g, cur, rfl, hgB, hw, htk⟩ := own_whole ho (by omega)
      have hcl : ∃ u, wr.cell? ⟨g, k, none⟩ = some u := by
        have hyl := ho.1
        refine ⟨ys[k]'(by omega), ?_⟩
        rw [hw.cell, ← List.getElem?_eq_getElem (by omega), ← htk]
        simp [hlt]
      obtain ⟨u, hu⟩ := hcl
      have hfr := hw.frozen k
      have hst := ho.stored k (.int .u8 165)
      have HS := Lib.hid hst
      have hd : decide ((k : Int) < (n : Int)) = true := by simp; omega
      have hg2 : w.grownBy (wr.setCell ⟨g, k, none⟩ (.int .u8 165)) (Value.slice (some ⟨g, 0, none⟩) n cap).ownBlock := by
        refine ⟨hg.os, hg.tape, hg.output, by simpa [World.setCell] using hg.size, fun i hi hne => ?_⟩
        rw [Below.heap_setCell _ _ _ _ (fun e => hne (by simp [Value.ownBlock, e]))]
        exact hg.block i hi hne
      have hb2 : Below base w (wr.setCell ⟨g, k, none⟩ (.int .u8 165)) := hb.setCell hgB _
      clear ho hw htk hst hg hb HO H
      go_wp2_with fail
      go_roundw
      case rel => exact ⟨k + 1, by omega, by go_num, hg2, hb2, ⟨_, HS.out.1⟩⟩
      case measure => simp [intOf]; omega
    · obtain rfl : k = n := by omega
      go_wp2_with fail
      go_end0
      exact ⟨rfl, hg, hb, HO.out⟩
/-- A slice of bytes in memory of one's own, its block ahead of top. -/
def Soft (w : World) (base top : Nat) (v : Value) : Prop := ∃ A n c xs, v = .slice A n c ∧ w.ownsRow base 5 1 v n xs ∧ n ≤ 30 ∧ ∀ g o, A = some ⟨g, o, none⟩ → g < top
theorem Soft.of_rows {w : World} {base top : Nat} {ls : List (List UInt8)} {vs : List Value} (h : OwnRows w base 5 ls vs) (hl : ∀ l ∈ ls, l.length ≤ 30) (ht : w.heap.size ≤ top) : ∀ v ∈ vs, Soft w base top v := by
  intro v hv
  obtain ⟨i, hi, rfl⟩ := List.mem_iff_getElem.1 hv
  have hil : i < ls.length := by rw [← h.1]; exact hi
  obtain ⟨A, c, h1, h2⟩ := h.2 i hil
  rw [List.getElem?_eq_getElem hi] at h1
  injection h1 with h1
  rw [h1]
  refine ⟨A, _, c, _, rfl, h2, hl _ (List.getElem_mem hil), fun g o e => ?_⟩
  subst e
  rcases h2.2 with ⟨hv, _⟩ | ⟨g', cap, cur, hv, _, hh, _⟩
  · cases hv
  · injection hv with e1
    injection e1 with e1
    injection e1 with e1
    subst e1
    exact Nat.lt_of_lt_of_le (Array.getElem?_eq_some_iff.1 hh).1 ht
theorem Soft.ext {w w' : World} {base top : Nat} {v : Value} (h : Soft w base top v) (hb : Below w.heap.size w w') : Soft w' base top v := by
  obtain ⟨A, n, c, xs, e, h1, h2⟩ := h
  exact ⟨A, n, c, xs, e, own_ext h1 hb, h2⟩
theorem Soft.over {w w' : World} {base top n c base' : Nat} {v : Value} {A : Option Addr} {xs ys : List Value} (h : Soft w base top v) (hu : w.ownsRow base' 5 1 (.slice A n c) n xs) (hg : w.grownBy w' (Value.slice A n c).ownBlock) (hy : w'.ownsRow base' 5 1 (.slice A n c) n ys) : Soft w' base top v := by
  obtain ⟨A1, m, c1, zs, rfl, h1, h2⟩ := h
  rcases h1.2 with ⟨hv, h0⟩ | ⟨g, cap, cur, hv, hb, hh, e1, e2, e3, e4⟩
  · rw [hv] at h1 ⊢
    injection hv with q1 q2 q3
    subst q1 q2 q3
    exact ⟨none, 0, 0, zs, rfl, own_miss h1 hg (fun A m c e g o eA => by injection e with e; rw [← e] at eA; cases eA), h2⟩
  · by_cases he : some g = (Value.slice A n c).ownBlock
    · rcases hu.2 with ⟨hv', _⟩ | ⟨g', cap', cur', hv', hb', hh', a1, a2, a3, a4⟩
      · rw [hv'] at he
        simp [Value.ownBlock] at he
      · rw [hv'] at he
        have hgg : g = g' := by simpa [Value.ownBlock] using he
        subst hgg
        rcases hy.2 with ⟨hv2, _⟩ | ⟨g2, cap2, cur2, hv2, _, hh2, _, _, b3, _⟩
        · rw [hv'] at hv2
          cases hv2
        · rw [hv'] at hv2
          injection hv2 with q1 _ q3
          injection q1 with q1
          injection q1 with q1
          subst q1 q3
          rw [hh] at hh'
          injection hh' with hh'
          injection hh' with hh'
          subst hh'
          have hcc : cap = cap' := by omega
          subst hcc
          refine ⟨A1, m, c1, cur2.toList.take (m * 1), rfl, ⟨?_, .inr ⟨g, cap, cur2, hv, hb, hh2, e1, e2, b3, rfl⟩⟩, h2⟩
          rw [List.length_take, Array.length_toList, b3]
          omega
    · exact ⟨A1, m, c1, zs, rfl, own_miss h1 hg (fun A2 m2 c2 e2 g2 o2 eA => by
        injection e2 with e2
        rw [← e2] at eA
        injection hv with hA
        rw [hA] at eA
        injection eA with eA
        injection eA with eA
        rw [← eA]
        exact he), h2⟩
end Go.Proofs.Ytankhjchdnfpfaa
