/-
  Files in parts: several files at once; calls with few bytes.
-/
import Derived.Test.YtankhjchdnfpfaaExtIs
import Derived.Test.YtankhjchdnfpfaaExtOf
namespace Go.Proofs.Ytankhjchdnfpfaa
open Go.RowKit
attribute [local go_sem] match_undef
def AnyG : Nat → Prop := fun _ => True
theorem anyG (w : World) : ∀ g, w.heap.size ≤ g → AnyG g := fun _ _ => trivial
theorem grow_at {w : World} {p : Addr} (u : Value) : w.grownBy (w.setCell p u) (some p.block) := ⟨rfl, rfl, rfl, by simp [World.setCell], fun k hk hne => Below.heap_setCell _ _ _ _ (fun e => hne (by rw [e]))⟩
theorem Holds.ext {w w' : World} {gf : Nat} {G : Nat → Prop} {fs : List Pa} (h : Holds w gf G fs) (hb : Below w.heap.size w w') : Holds w' gf G fs := by
  obtain ⟨A, n, c, hw, hf⟩ := h
  exact ⟨A, n, c, hw.below hb hw.lt, hf.ext hb⟩
theorem Holds.other {w w' : World} {ga gb : Nat} {G : Nat → Prop} {fs : List Pa} {cs : Array Value} (h : Holds w gb G fs) (ha : Whole w ga 30 cs) (hg : w.grownBy w' (some ga)) (hne : ga ≠ gb) : Holds w' gb G fs := by
  obtain ⟨A, n, c, hw, hf⟩ := h
  exact ⟨A, n, c, hw.far_of hg hne, hf.far ha hg part_ne.2.2.2.1 part_ne.2.2.1⟩
theorem Holds.whole {w : World} {gf : Nat} {G : Nat → Prop} {fs : List Pa} (h : Holds w gf G fs) : ∃ cs, Whole w gf 30 cs := by
  obtain ⟨A, n, c, hw, _⟩ := h
  exact ⟨_, hw⟩
theorem Holds.aside {w w' : World} {ga gb : Nat} {G G' : Nat → Prop} {fs gs : List Pa} (h : Holds w gb G fs) (ha : Holds w ga G' gs) (hg : w.grownBy w' (some ga)) (hne : ga ≠ gb) : Holds w' gb G fs := by
  obtain ⟨cs, hw⟩ := ha.whole
  exact h.other hw hg hne
theorem Holds.lt {w : World} {gf : Nat} {G : Nat → Prop} {fs : List Pa} (h : Holds w gf G fs) : gf < w.heap.size := by
  obtain ⟨cs, hw⟩ := h.whole
  exact hw.lt
theorem File.weak {w : World} {n c : Nat} {G G' : Nat → Prop} {tp te : TypeId} {A : Option Addr} {fs : List Pa} (h : File w G tp te A n c fs) (hk : ∀ g, g < w.heap.size → G g → G' g) : File w G' tp te A n c fs := by
  obtain ⟨h0, vs, h1, h2⟩ := h
  exact ⟨h0, vs, h1, h2.weak hk⟩
/-- A variable is laid with a file. -/
theorem Holds.laid {w : World} {G : Nat → Prop} {A : Option Addr} {n c : Nat} {fs : List Pa} (h : File w G 52 5 A n c fs) : Holds (w.alloc (.cells #[.slice A n c] 30)) w.heap.size G fs :=
  ⟨A, n, c, Whole.new _ _ _, h.ext (below1 _ _)⟩
theorem const_rd (w : World) (xs : List UInt8) (C : Array Value) (hC : byts xs = C.toList) (k : Nat × Nat) : Rd (w.alloc (.cells C 5 k)) (w.heap.size + 1) 1 (some ⟨w.heap.size, 0, none⟩) xs.length (byts xs) := by
  refine ⟨by rw [byts_length, Nat.mul_one], fun _ => ⟨w.heap.size, 0, rfl, Nat.lt_succ_self _, fun j u hu => ?_⟩⟩
  rw [Nat.zero_add]
  unfold World.cell?
  rw [heap_alloc_new w (.cells C 5 k)]
  rw [hC] at hu
  simpa using hu
theorem app_two (w : World) (gf : Nat) (fs : List Pa) (h : Holds w gf AnyG fs) (hn : fs.length ≤ 1000000) (xs : List UInt8) (hx : xs.length = 2) (C : Array Value) (hC : byts xs = C.toList) :
    Calls Try.prog 17 #[.pointer (some ⟨gf, 0, none⟩), .slice (some ⟨w.heap.size, 0, none⟩) 2 2] (w.alloc (.cells C 5 (2, 3))) (Done gf AnyG (Exn.app fs xs) (w.alloc (.cells C 5 (2, 3)))) := by
  have hr := const_rd w xs C hC (2, 3)
  rw [hx] at hr
  exact app_any _ gf AnyG (anyG _) fs (h.ext (below1 _ _)) hn _ 2 2 xs (w.heap.size + 1) (by simp) hr (by omega)
theorem fail_none (w : World) (gf : Nat) (fs : List Pa) (h : Holds w gf AnyG fs) (hn : fs.length ≤ 1000000) (hfl : ∀ p ∈ fs, p.1.length ≤ 1000000000) :
    Calls Try.prog 15 #[.pointer (some ⟨gf, 0, none⟩), .slice none 0 0] w (Done gf AnyG (Exn.fail fs []) w) :=
  fail_any w gf AnyG (anyG _) fs h hn hfl none 0 0 [] ⟨rfl, fun h => absurd h (by omega)⟩ (Nat.le_refl _) (fun h => absurd h (by omega))
theorem fail_new (w : World) (gf : Nat) (fs : List Pa) (h : Holds w gf AnyG fs) (hn : fs.length ≤ 1000000) (hfl : ∀ p ∈ fs, p.1.length ≤ 1000000000) (ks : List Bool) (n : Nat) (hl : ks.length = n) (C : Array Value) (hC : bools ks = C.toList) :
    Calls Try.prog 15 #[.pointer (some ⟨gf, 0, none⟩), .slice (some ⟨w.heap.size, 0, none⟩) n n] (w.alloc (.cells C 4)) (Done gf AnyG (Exn.fail fs ks) (w.alloc (.cells C 4))) := by
  have hw := Whole.new w 4 C
  have hlt := h.lt
  refine fail_any _ gf AnyG (anyG _) fs (h.ext (below1 _ _)) hn hfl _ n n ks ⟨by rw [bools_length, hl, Nat.mul_one], fun _ => ⟨w.heap.size, 0, rfl, hw.lt, fun j u hu => ?_⟩⟩ (Nat.le_refl _) (fun _ b o e => ?_)
  · rw [Nat.zero_add, hw.cell j]
    rw [hC] at hu
    simpa using hu
  · injection e with e
    injection e with e
    omega
def F0 : List Pa := [([97, 98], true)]
theorem of_ab (w : World) :
    Calls Try.prog 9 #[.slice (some ⟨w.heap.size + 1, 0, none⟩) 1 1] ((w.alloc (.cells #[.int .u8 97, .int .u8 98] 5 (2, 3))).alloc (.cells #[.slice (some ⟨w.heap.size, 0, none⟩) 2 2] 26)) fun en w' =>
      ∃ A n c, en = .returned (.agg #[.slice A n c]) ∧ File w' AnyG 52 5 A n c F0 ∧ Below w.heap.size w w' := by
  have hr := const_rd w [97, 98] #[.int .u8 97, .int .u8 98] rfl (2, 3)
  have hb1 := below1 w (.cells #[.int .u8 97, .int .u8 98] 5 (2, 3))
  have hb2 := below1 (w.alloc (.cells #[.int .u8 97, .int .u8 98] 5 (2, 3))) (.cells #[.slice (some ⟨w.heap.size, 0, none⟩) 2 2] 26)
  have hz : (w.alloc (.cells #[.int .u8 97, .int .u8 98] 5 (2, 3))).heap.size = w.heap.size + 1 := by simp
  have hw := Whole.new (w.alloc (.cells #[.int .u8 97, .int .u8 98] 5 (2, 3))) 26 #[.slice (some ⟨w.heap.size, 0, none⟩) 2 2]
  rw [hz] at hw
  have hr2 := hr.below (hb2.mono (by rw [hz]; exact Nat.le_refl _))
  have hrr : RdRows ((w.alloc (.cells #[.int .u8 97, .int .u8 98] 5 (2, 3))).alloc (.cells #[.slice (some ⟨w.heap.size, 0, none⟩) 2 2] 26)) ((w.alloc (.cells #[.int .u8 97, .int .u8 98] 5 (2, 3))).alloc (.cells #[.slice (some ⟨w.heap.size, 0, none⟩) 2 2] 26)).heap.size (some ⟨w.heap.size + 1, 0, none⟩) 1 [[97, 98]] := by
    refine ⟨rfl, fun j hj => ?_⟩
    obtain rfl : j = 0 := by omega
    refine ⟨w.heap.size + 1, 0, some ⟨w.heap.size, 0, none⟩, 2, 2, rfl, hw.lt, ?_, Nat.le_refl _, by unfold maxLen; omega, hr2.more (Nat.le_of_lt hw.lt)⟩
    rw [hw.cell 0]
    rfl
  refine (eof_any _ _ 1 1 [[97, 98]] _ (Nat.le_refl _) hrr (by omega) (by decide)).mono ?_
  rintro en w' ⟨A, n, c, rfl, hf, hb⟩
  exact ⟨A, n, c, rfl, hf.weak (fun _ _ _ => trivial), (hb1.trans (hb2.mono hb1.size)).trans (hb.mono (hb1.trans (hb2.mono hb1.size)).size)⟩
theorem of_none (w : World) :
    Calls Try.prog 9 #[.slice none 0 0] w fun en w' => ∃ A n c, en = .returned (.agg #[.slice A n c]) ∧ Below w.heap.size w w' := by
  refine (eof_any _ none 0 0 [] 0 (Nat.zero_le _) ⟨rfl, fun j hj => absurd hj (by simp)⟩ (by omega) (by decide)).mono ?_
  rintro en w' ⟨A, n, c, rfl, hf, hb⟩
  exact ⟨A, n, c, rfl, hb⟩
/-- Four files in a row; the first j hold F0. -/
def Row4 (w : World) (gr j : Nat) : Prop := ∃ vs : List (Option Addr × Nat × Nat), vs.length = 4 ∧ Whole w gr 30 (vs.map fun v => Value.slice v.1 v.2.1 v.2.2).toArray ∧ ∀ i v, i < j → vs[i]? = some v → File w AnyG 52 5 v.1 v.2.1 v.2.2 F0
theorem Row4.ext {w w' : World} {gr j : Nat} (h : Row4 w gr j) (hb : Below w.heap.size w w') : Row4 w' gr j := by
  obtain ⟨vs, h1, h2, h3⟩ := h
  exact ⟨vs, h1, h2.below hb h2.lt, fun i v hi hv => (h3 i v hi hv).ext hb⟩
theorem Row4.put {w : World} {gr j : Nat} (h : Row4 w gr j) {A : Option Addr} {n c : Nat} (hf : File w AnyG 52 5 A n c F0) (hj : j < 4) : Row4 (w.setCell ⟨gr, j, none⟩ (.slice A n c)) gr (j + 1) := by
  obtain ⟨vs, h1, h2, h3⟩ := h
  have hg : w.grownBy (w.setCell ⟨gr, j, none⟩ (.slice A n c)) (some gr) := grow_at (p := ⟨gr, j, none⟩) _
  refine ⟨vs.set j (A, n, c), by rw [List.length_set, h1], ?_, fun i v hi hv => ?_⟩
  · have := h2.put_ j (.slice A n c)
    rw [List.setIfInBounds_toArray] at this
    rw [List.map_set]
    exact this
  · by_cases e : i = j
    · subst e
      rw [List.getElem?_set_self (by omega)] at hv
      injection hv with hv
      subst hv
      exact hf.far h2 hg part_ne.2.2.2.1 part_ne.2.2.1
    · rw [List.getElem?_set_ne (by omega)] at hv
      exact (h3 i v (by omega) hv).far h2 hg part_ne.2.2.2.1 part_ne.2.2.1
theorem Row4.cells {w : World} {gr j : Nat} (h : Row4 w gr j) {i : Nat} (hi : i < 4) : gr < w.heap.size ∧ (∃ A n c, w.cell? ⟨gr, i, none⟩ = some (.slice A n c) ∧ (i < j → File w AnyG 52 5 A n c F0)) ∧ w.frozen? ⟨gr, i, none⟩ = false := by
  obtain ⟨vs, h1, h2, h3⟩ := h
  have hv : vs[i]? = some vs[i] := List.getElem?_eq_getElem (by omega)
  refine ⟨h2.lt, ⟨vs[i].1, vs[i].2.1, vs[i].2.2, ?_, fun hj => h3 i _ hj hv⟩, h2.frozen i⟩
  rw [h2.cell i]
  simp [hv]
end Go.Proofs.Ytankhjchdnfpfaa
