/-
  Words for memory: a slice that reads as a list; bytes and numbers as cells; a block known whole; what a call hands back in new memory. No function of the program in sight.
-/
import Derived.WalkKit
import Derived.WalkSpells
import Derived.WalkLawsBesides
import Derived.Lib.Hide
import Derived.Deep.Draws
import Derived.Deep.AppendLies
import Derived.Maps.AppendAt
namespace Go.Proofs.Ytmobgamlednlhaa
open Go.RowKit

def byts (xs : List UInt8) : List Value := xs.map fun x => .int .u8 (x.toNat : Int)
def nums (xs : List UInt64) : List Value := xs.map fun x => .int .u64 (x.toNat : Int)
theorem byts_length (xs : List UInt8) : (byts xs).length = xs.length := List.length_map _
theorem nums_length (xs : List UInt64) : (nums xs).length = xs.length := List.length_map _
theorem byts_get {xs : List UInt8} {k : Nat} (h : k < xs.length) : (byts xs)[k]? = some (.int .u8 (xs[k].toNat : Int)) := by
  unfold byts; rw [List.getElem?_map, List.getElem?_eq_getElem h]; rfl
theorem nums_get {xs : List UInt64} {k : Nat} (h : k < xs.length) : (nums xs)[k]? = some (.int .u64 (xs[k].toNat : Int)) := by
  unfold nums; rw [List.getElem?_map, List.getElem?_eq_getElem h]; rfl
theorem byts_append (xs ys : List UInt8) : byts (xs ++ ys) = byts xs ++ byts ys := List.map_append
theorem nums_append (xs ys : List UInt64) : nums (xs ++ ys) = nums xs ++ nums ys := List.map_append
theorem byts_one (xs : List UInt8) : ∀ u ∈ byts xs, u.oneCell' = true := by
  intro u hu
  obtain ⟨x, _, rfl⟩ := List.mem_map.1 hu
  rfl
theorem nums_one (xs : List UInt64) : ∀ u ∈ nums xs, u.oneCell' = true := by
  intro u hu
  obtain ⟨x, _, rfl⟩ := List.mem_map.1 hu
  rfl

/-- The slice value of address A and length n, of elements of 's' cells, holds the cells xs, all below block B. -/
def Rd (w : World) (B s : Nat) (A : Option Addr) (n : Nat) (xs : List Value) : Prop :=
  xs.length = n * s ∧ (0 < n → ∃ b o, A = some ⟨b, o, none⟩ ∧ b < B ∧ ∀ j u, xs[j]? = some u → w.cell? ⟨b, o + j, none⟩ = some u)

section
variable {w w' : World} {B B' s n : Nat} {A : Option Addr} {xs : List Value}
theorem Rd.nil_ (w : World) (B s : Nat) (A : Option Addr) : Rd w B s A 0 [] := ⟨by simp, fun h => absurd h (by omega)⟩
theorem Rd.keep (h : Rd w B s A n xs) (hk : ∀ p : Addr, p.block < B → w'.cell? p = w.cell? p) : Rd w' B s A n xs :=
  ⟨h.1, fun hn => by
    obtain ⟨b, o, e, hb, hc⟩ := h.2 hn
    exact ⟨b, o, e, hb, fun j u hu => (hk _ hb).trans (hc j u hu)⟩⟩
theorem Rd.more (h : Rd w B s A n xs) (hB : B ≤ B') : Rd w B' s A n xs :=
  ⟨h.1, fun hn => by
    obtain ⟨b, o, e, hb, hc⟩ := h.2 hn
    exact ⟨b, o, e, by omega, hc⟩⟩
theorem Rd.below (h : Rd w B s A n xs) (hb : Below B w w') : Rd w' B s A n xs := h.keep fun _ hp => hb.cell hp
theorem Rd.drew (h : Rd w B s A n xs) : Rd w.drew B s A n xs := h
theorem Rd.drewN (h : Rd w B s A n xs) (k : Nat) : Rd (w.drewN k) B s A n xs := h
theorem Rd.alloc (h : Rd w B s A n xs) (hB : B ≤ w.heap.size) (o : Obj) : Rd (w.alloc o) B s A n xs := h.keep fun p hp => World.cell?_alloc_lt w o p (by omega)
theorem Rd.setCell (h : Rd w B s A n xs) {p : Addr} (hB : B ≤ p.block) (u : Value) : Rd (w.setCell p u) B s A n xs :=
  h.keep fun q hq => World.cell?_setCell_other w p q u (fun e => by subst e; omega)
theorem Rd.grown (h : Rd w B s A n xs) {row : Option Nat} (hg : w.grownBy w' row) (hB : B ≤ w.heap.size) (hr : ∀ g, row = some g → B ≤ g) : Rd w' B s A n xs :=
  h.keep fun p hp => World.cell?_of_block (hg.block p.block (by omega) (fun e => by have := hr _ e.symm; omega))
/-- An element of one cell. -/
theorem Rd.at_ {k : Nat} (h : Rd w B 1 A n xs) (hk : k < n) : ∃ b o u, A = some ⟨b, o, none⟩ ∧ b < B ∧ xs[k]? = some u ∧ w.cell? ⟨b, o + k, none⟩ = some u := by
  obtain ⟨b, o, e, hb, hc⟩ := h.2 (by omega)
  have hl : k < xs.length := by have := h.1; omega
  exact ⟨b, o, xs[k], e, hb, List.getElem?_eq_getElem hl, hc k _ (List.getElem?_eq_getElem hl)⟩
theorem Rd.byte {l : List UInt8} {k : Nat} (h : Rd w B 1 A n (byts l)) (hk : k < n) : ∃ b o, ∃ hl : k < l.length, A = some ⟨b, o, none⟩ ∧ b < B ∧ w.cell? ⟨b, o + k, none⟩ = some (.int .u8 (l[k].toNat : Int)) := by
  have hl : k < l.length := by have := h.1; rw [byts_length] at this; omega
  obtain ⟨b, o, u, e, hb, hu, hc⟩ := h.at_ hk
  rw [byts_get hl] at hu
  cases hu
  exact ⟨b, o, hl, e, hb, hc⟩
theorem Rd.num {l : List UInt64} {k : Nat} (h : Rd w B 1 A n (nums l)) (hk : k < n) : ∃ b o, ∃ hl : k < l.length, A = some ⟨b, o, none⟩ ∧ b < B ∧ w.cell? ⟨b, o + k, none⟩ = some (.int .u64 (l[k].toNat : Int)) := by
  have hl : k < l.length := by have := h.1; rw [nums_length] at this; omega
  obtain ⟨b, o, u, e, hb, hu, hc⟩ := h.at_ hk
  rw [nums_get hl] at hu
  cases hu
  exact ⟨b, o, hl, e, hb, hc⟩
theorem Rd.blen {l : List UInt8} (h : Rd w B 1 A n (byts l)) : l.length = n := by have := h.1; rw [byts_length] at this; omega
theorem Rd.nlen {l : List UInt64} (h : Rd w B 1 A n (nums l)) : l.length = n := by have := h.1; rw [nums_length] at this; omega
/-- A cut from k on: 'x[k:]' keeps the address where k is the capacity. -/
theorem Rd.cut (h : Rd w B 1 A n xs) {k cap : Nat} (hk : k ≤ n) (hc : n ≤ cap) :
    Rd w B 1 (if cap = k then A else A.map (·.add k)) (n - k) (xs.drop k) := by
  refine ⟨by rw [List.length_drop, h.1]; omega, fun hn => ?_⟩
  obtain ⟨b, o, rfl, hb, hcell⟩ := h.2 (by omega)
  rw [if_neg (by omega)]
  refine ⟨b, o + k, ?_, hb, fun j u hu => ?_⟩
  · unfold Addr.add
    by_cases h0 : k = 0
    · subst h0; rfl
    · simp [h0]
  · have := hcell (k + j) u (by rw [← hu, List.getElem?_drop])
    rw [← Nat.add_assoc] at this
    exact this
/-- A cut up to k. -/
theorem Rd.upto (h : Rd w B 1 A n xs) {k : Nat} (hk : k ≤ n) : Rd w B 1 A k (xs.take k) := by
  refine ⟨by rw [List.length_take, h.1]; omega, fun hn => ?_⟩
  obtain ⟨b, o, e, hb, hcell⟩ := h.2 (by omega)
  refine ⟨b, o, e, hb, fun j u hu => hcell j u ?_⟩
  rw [List.getElem?_take] at hu
  split at hu
  · exact hu
  · cases hu
theorem Rd.of_own {base : Nat} {e : TypeId} {c : Nat} (h : w.ownsRow base e s (.slice A n c) n xs) : Rd w w.heap.size s A n xs := by
  refine ⟨h.1, fun hn => ?_⟩
  obtain ⟨g, cap, hv, _, hlt⟩ := h.form hn
  injection hv with hA
  subst hA
  refine ⟨g, 0, rfl, hlt, fun j u hu => ?_⟩
  have := h.cells (g := g) rfl j u hu
  have e : (⟨g, 0, none⟩ : Addr).add j = ⟨g, 0 + j, none⟩ := by
    unfold Addr.add
    by_cases h0 : j = 0
    · subst h0; rfl
    · simp [h0]
  rwa [e] at this
/-- Cells at an address, as the append's law wants them. -/
theorem Rd.cells (h : Rd w B s A n xs) (hn : 0 < n) : ∃ ad, A = some ad ∧ ad.block < B ∧ ∀ j u, xs[j]? = some u → w.cell? (ad.add j) = some u := by
  obtain ⟨b, o, e, hb, hc⟩ := h.2 hn
  refine ⟨_, e, hb, fun j u hu => ?_⟩
  have e : (⟨b, o, none⟩ : Addr).add j = ⟨b, o + j, none⟩ := by
    unfold Addr.add
    by_cases h0 : j = 0
    · subst h0; rfl
    · simp [h0]
  rw [e]
  exact hc j u hu
end

/-- A block that is known whole, none of it frozen. -/
def Whole (w : World) (g : Nat) (t : TypeId) (cs : Array Value) : Prop := w.heap[g]? = some (.cells cs t (0, 0))
section
variable {w w' : World} {g : Nat} {t : TypeId} {cs : Array Value}
theorem Whole.lt (h : Whole w g t cs) : g < w.heap.size := by
  rcases Nat.lt_or_ge g w.heap.size with hlt | hge
  · exact hlt
  · unfold Whole at h; rw [Array.getElem?_eq_none hge] at h; cases h
theorem Whole.cell (h : Whole w g t cs) (i : Nat) : w.cell? ⟨g, i, none⟩ = cs[i]? := cell_of_row w g i cs t (0, 0) h
theorem Whole.frozen (h : Whole w g t cs) (i : Nat) : w.frozen? ⟨g, i, none⟩ = false := frozen_of_row w g i cs t h
theorem Whole.new (w : World) (t : TypeId) (cs : Array Value) : Whole (w.alloc (.cells cs t)) w.heap.size t cs := heap_alloc_new w _
theorem Whole.drew (h : Whole w g t cs) : Whole w.drew g t cs := h
theorem Whole.drewN (h : Whole w g t cs) (n : Nat) : Whole (w.drewN n) g t cs := h
theorem Whole.alloc (h : Whole w g t cs) (o : Obj) : Whole (w.alloc o) g t cs := (Below.heap_alloc w o g h.lt).trans h
theorem Whole.put_ (h : Whole w g t cs) (i : Nat) (u : Value) : Whole (w.setCell ⟨g, i, none⟩ u) g t (cs.setIfInBounds i u) := heap_setCell_same w g i cs t u h
theorem Whole.far (h : Whole w g t cs) {p : Addr} (hp : g ≠ p.block) (u : Value) : Whole (w.setCell p u) g t cs := (Below.heap_setCell w p u g hp).trans h
theorem Whole.below {B : Nat} (h : Whole w g t cs) (hb : Below B w w') (hg : g < B) : Whole w' g t cs := (hb.block g hg).trans h
theorem Whole.grown {row : Option Nat} (h : Whole w g t cs) (hb : w.grownBy w' row) (hg : some g ≠ row) : Whole w' g t cs := (hb.block g h.lt hg).trans h
end

/-- A slice over a block that is known. -/
theorem Rd.of_heap {w : World} {g B n : Nat} {cs : Array Value} {t : TypeId} {fr : Nat × Nat} (h : w.heap[g]? = some (.cells cs t fr)) (hg : g < B) (hn : n ≤ cs.size) :
    Rd w B 1 (some ⟨g, 0, none⟩) n (cs.toList.take n) := by
  refine ⟨by simp; omega, fun _ => ⟨g, 0, rfl, hg, fun j u hu => ?_⟩⟩
  rw [Nat.zero_add, cell_of_row w g j cs t fr h]
  rw [List.getElem?_take] at hu
  split at hu
  · simpa using hu
  · cases hu
/-- A slice of slices of bytes. -/
def RdRows (w : World) (B : Nat) (A : Option Addr) (n : Nat) (ls : List (List UInt8)) : Prop :=
  ls.length = n ∧ ∀ k, k < n → ∃ b o A' m c, A = some ⟨b, o, none⟩ ∧ b < B ∧ w.cell? ⟨b, o + k, none⟩ = some (.slice A' m c) ∧ m ≤ c ∧ c ≤ maxLen ∧ Rd w B 1 A' m (byts (ls.getD k []))
section
variable {w w' : World} {B B' n : Nat} {A : Option Addr} {ls : List (List UInt8)}
theorem RdRows.keep (h : RdRows w B A n ls) (hk : ∀ p : Addr, p.block < B → w'.cell? p = w.cell? p) : RdRows w' B A n ls :=
  ⟨h.1, fun k hlt => by
    obtain ⟨b, o, A', m, c, e, hb, hc, h1, h2, hr⟩ := h.2 k hlt
    exact ⟨b, o, A', m, c, e, hb, (hk _ hb).trans hc, h1, h2, hr.keep hk⟩⟩
theorem RdRows.more (h : RdRows w B A n ls) (hB : B ≤ B') : RdRows w B' A n ls :=
  ⟨h.1, fun k hlt => by
    obtain ⟨b, o, A', m, c, e, hb, hc, h1, h2, hr⟩ := h.2 k hlt
    exact ⟨b, o, A', m, c, e, by omega, hc, h1, h2, hr.more hB⟩⟩
theorem RdRows.below (h : RdRows w B A n ls) (hb : Below B w w') : RdRows w' B A n ls := h.keep fun _ hp => hb.cell hp
theorem RdRows.alloc (h : RdRows w B A n ls) (hB : B ≤ w.heap.size) (o : Obj) : RdRows (w.alloc o) B A n ls := h.keep fun p hp => World.cell?_alloc_lt w o p (by omega)
/-- One row in a new block: what 'f(x)' lays for a variadic f. -/
theorem RdRows.one {A : Option Addr} {m c : Nat} {l : List UInt8} (w : World) (t : TypeId) (hB : B ≤ w.heap.size) (h1 : m ≤ c) (h2 : c ≤ maxLen) (h : Rd w B 1 A m (byts l)) :
    RdRows (w.alloc (.cells #[.slice A m c] t)) (w.heap.size + 1) (some ⟨w.heap.size, 0, none⟩) 1 [l] := by
  refine ⟨rfl, fun k hk => ?_⟩
  obtain rfl : k = 0 := by omega
  refine ⟨w.heap.size, 0, A, m, c, rfl, by omega, ?_, h1, h2, ((h.alloc hB _).more (by omega))⟩
  exact (Whole.new w t #[.slice A m c]).cell 0
end

theorem RdRows.of1 {w : World} {g B : Nat} {t : TypeId} {A : Option Addr} {m c : Nat} {l : List UInt8} (hw : Whole w g t #[.slice A m c]) (hg : g < B) (h1 : m ≤ c) (h2 : c ≤ maxLen) (h : Rd w B 1 A m (byts l)) :
    RdRows w B (some ⟨g, 0, none⟩) 1 [l] := by
  refine ⟨rfl, fun k hk => ?_⟩
  obtain rfl : k = 0 := by omega
  exact ⟨g, 0, A, m, c, rfl, hg, hw.cell 0, h1, h2, h⟩
theorem RdRows.of3 {w : World} {g B : Nat} {t : TypeId} {A A' A'' : Option Addr} {m c m' c' m'' c'' : Nat} {l l' l'' : List UInt8} (hw : Whole w g t #[.slice A m c, .slice A' m' c', .slice A'' m'' c'']) (hg : g < B)
    (h1 : m ≤ c ∧ c ≤ maxLen) (h : Rd w B 1 A m (byts l)) (h1' : m' ≤ c' ∧ c' ≤ maxLen) (h' : Rd w B 1 A' m' (byts l')) (h1'' : m'' ≤ c'' ∧ c'' ≤ maxLen) (h'' : Rd w B 1 A'' m'' (byts l'')) :
    RdRows w B (some ⟨g, 0, none⟩) 3 [l, l', l''] := by
  refine ⟨rfl, fun k hk => ?_⟩
  have hk3 : k = 0 ∨ k = 1 ∨ k = 2 := by omega
  rcases hk3 with rfl | rfl | rfl
  · exact ⟨g, 0, A, m, c, rfl, hg, hw.cell 0, h1.1, h1.2, h⟩
  · exact ⟨g, 0, A', m', c', rfl, hg, hw.cell 1, h1'.1, h1'.2, h'⟩
  · exact ⟨g, 0, A'', m'', c'', rfl, hg, hw.cell 2, h1''.1, h1''.2, h''⟩
theorem byts_take (l : List UInt8) (k : Nat) : byts (l.take k) = (byts l).take k := List.map_take
theorem byts_drop (l : List UInt8) (k : Nat) : byts (l.drop k) = (byts l).drop k := List.map_drop
/-- 'x[i:j]'. -/
theorem Rd.mid {w : World} {B n : Nat} {A : Option Addr} {l : List UInt8} (h : Rd w B 1 A n (byts l)) {i j cap : Nat} (hij : i ≤ j) (hj : j ≤ n) (hc : n ≤ cap) :
    Rd w B 1 (if cap = i then A else Option.map (fun x => x.add i) A) (j - i) (byts ((l.take j).drop i)) := by
  have h1 := (h.upto hj).cut hij (cap := cap) (by omega)
  rw [← byts_take, ← byts_drop] at h1
  exact h1
theorem Rd.front {w : World} {B n : Nat} {A : Option Addr} {l : List UInt8} (h : Rd w B 1 A n (byts l)) {j : Nat} (hj : j ≤ n) : Rd w B 1 A j (byts (l.take j)) := by
  have h1 := h.upto hj
  rw [← byts_take] at h1
  exact h1
theorem Rd.back {w : World} {B n : Nat} {A : Option Addr} {l : List UInt8} (h : Rd w B 1 A n (byts l)) {i cap : Nat} (hi : i ≤ n) (hc : n ≤ cap) :
    Rd w B 1 (if cap = i then A else Option.map (fun x => x.add i) A) (n - i) (byts (l.drop i)) := by
  have h1 := h.cut hi hc
  rw [← byts_drop] at h1
  exact h1
/-- A call hands back a slice in new memory (or nil), of type e's elements, with the cells xs. -/
def Fresh (base : Nat) (e s n : Nat) (xs : List Value) (w : World) (en : Ending) (w' : World) : Prop :=
  ∃ A c, en = .returned (.slice A n c) ∧ w'.ownsRow base e s (.slice A n c) n xs ∧ Below base w w'

theorem Fresh.of {base : Nat} {e L : Nat} {D : Option Addr} {c : Nat} {xs : List UInt8} {w w' : World} (hl : xs.length = L) (ho : w'.ownsRow base e 1 (.slice D L c) L (byts xs)) (hb : Below base w w') :
    Fresh base e 1 xs.length (byts xs) w (.returned (.slice D L c)) w' := by
  subst hl
  exact ⟨D, c, rfl, ho, hb⟩
theorem ret_eq {k : IntKind} {a b : Int} (h : a = b) : Ending.returned (.int k a) = .returned (.int k b) := by rw [h]
theorem int_eq {k : IntKind} {a b : Int} (h : a = b) : Value.int k a = Value.int k b := by rw [h]
theorem int_beq (a b : Nat) : (((a : Nat) : Int) == ((b : Nat) : Int)) = decide (a = b) := by
  rw [Bool.eq_iff_iff]; simp; omega
end Go.Proofs.Ytmobgamlednlhaa
