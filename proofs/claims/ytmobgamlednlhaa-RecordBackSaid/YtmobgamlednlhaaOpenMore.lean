/-
  Arguments opened: structs of fields of one cell each, and rows of structs, as lists. No function of the program in sight.
-/
import Derived.Test.YtmobgamlednlhaaOpen
import Derived.Deep.Slices
import Derived.Deep.Fields
import Derived.ChangeSame
namespace Go.Proofs.Ytmobgamlednlhaa
open Go.RowKit Go.ChangeShapes Go.WideShapes Go.Deep

/-- Of a list of things, each of 's' cells, cell r of thing i. -/
theorem flat_get {α : Type} {f : α → List Value} {s : Nat} (hs : ∀ x, (f x).length = s) : ∀ (xs : List α) (i r : Nat) (h : i < xs.length), r < s → (xs.flatMap f)[i * s + r]? = (f xs[i])[r]?
  | [], i, r, h, _ => absurd h (by simp)
  | x :: xs, 0, r, h, hr => by
    rw [List.flatMap_cons, Nat.zero_mul, Nat.zero_add, List.getElem?_append_left (by rw [hs]; omega)]
    rfl
  | x :: xs, i + 1, r, h, hr => by
    rw [List.flatMap_cons, List.getElem?_append_right (by rw [hs, Nat.succ_mul]; omega), hs]
    have e : (i + 1) * s + r - s = i * s + r := by rw [Nat.succ_mul]; omega
    rw [e, flat_get hs xs i r (by simpa using h) hr]
    rfl
theorem flat_length {α : Type} {f : α → List Value} {s : Nat} (hs : ∀ x, (f x).length = s) : ∀ xs : List α, (xs.flatMap f).length = xs.length * s
  | [] => by simp
  | x :: xs => by rw [List.flatMap_cons, List.length_append, hs, flat_length hs xs, List.length_cons, Nat.succ_mul]; omega
/-- Element k of a row of structs: where it lies. -/
theorem Rd.elem {α : Type} {f : α → List Value} {w : World} {B s n k : Nat} {A : Option Addr} {xs : List α} (hs : ∀ x, (f x).length = s) (hl : xs.length = n) (h : Rd w B s A n (xs.flatMap f)) (hk : k < n) :
    ∃ b o, ∃ hl : k < xs.length, A = some ⟨b, o, none⟩ ∧ b < B ∧ ∀ r u, (f xs[k])[r]? = some u → w.cell? ⟨b, o + (k * s + r), none⟩ = some u := by
  obtain ⟨b, o, e, hb, hc⟩ := h.2 (by omega)
  refine ⟨b, o, by omega, e, hb, fun r u hu => hc _ _ ?_⟩
  have hr : r < s := by
    rw [← hs xs[k]]
    rcases Nat.lt_or_ge r (f xs[k]).length with h' | h'
    · exact h'
    · rw [List.getElem?_eq_none h'] at hu; cases hu
  rw [flat_get hs xs k r (by omega) hr, hu]

section
variable {H : Type} {enc : TypeId × Value → H} {P : Program} {w : World}
/-- The cells of a struct of fields of one cell each. -/
theorem struct_cells {base : Nat} {sp : Nat → Bool} {hd : Bool} {t : TypeId} {fs : Array Field} {fuel : Nat} {cs : List Value} {x : DataW H × List MemPlace} (ht : P.underlying t = some (.struct fs)) (hone : oneCellFields P fs = true) (hC : P.cellsOf t = fs.size)
    (h : DataW.trod enc P w base sp hd fuel t cs = some x) :
    cs.length = fs.size ∧ ∀ (j : Nat) (f : Field), fs[j]? = some f → ∃ v n y, cs[j]? = some v ∧ DataW.trod enc P w base sp hd n f.type [v] = some y := by
  obtain ⟨xs, n, _, _, hlen, hxl, hf⟩ := DataW.trod_struct ht h
  rw [hC] at hlen
  refine ⟨hlen, fun j f hj => ?_⟩
  have hjl : j < fs.size := (Array.getElem?_eq_some_iff.1 hj).1
  obtain ⟨h1, h2⟩ := hone_of hone j f hj
  have h3 := hf j f hj
  rw [h1, h2, List.drop_eq_getElem_cons (by omega)] at h3
  exact ⟨cs[j]'(by omega), n, xs[j]'(by omega), List.getElem?_eq_getElem (by omega), h3.trans (List.getElem?_eq_getElem (by omega))⟩
theorem cell_u64 {base : Nat} {sp : Nat → Bool} {hd : Bool} {t : TypeId} {n : Nat} {v : Value} {y : DataW H × List MemPlace} (ht : P.underlying t = some (.int .u64)) (h : DataW.trod enc P w base sp hd n t [v] = some y) :
    ∃ m : Nat, v = .int .u64 (m : Nat) ∧ m < 18446744073709551616 := by
  obtain ⟨z, hc, _, hw⟩ := DataW.trod_int ht h
  have hb := bounds_u64 hw
  refine ⟨z.toNat, ?_, by omega⟩
  have e : ((z.toNat : Nat) : Int) = z := by omega
  rw [e]
  simpa using hc
theorem cell_i64 {base : Nat} {sp : Nat → Bool} {hd : Bool} {t : TypeId} {n : Nat} {v : Value} {y : DataW H × List MemPlace} (ht : P.underlying t = some (.int .i64)) (h : DataW.trod enc P w base sp hd n t [v] = some y) :
    ∃ z : Int, v = .int .i64 z ∧ -9223372036854775808 ≤ z ∧ z ≤ 9223372036854775807 := by
  obtain ⟨z, hc, _, hw⟩ := DataW.trod_int ht h
  have hb := bounds_i64 hw
  exact ⟨z, by simpa using hc, by omega, by omega⟩
theorem cell_bool {base : Nat} {sp : Nat → Bool} {hd : Bool} {t : TypeId} {n : Nat} {v : Value} {y : DataW H × List MemPlace} (ht : P.underlying t = some .bool) (h : DataW.trod enc P w base sp hd n t [v] = some y) :
    ∃ b : Bool, v = .bool b := by
  obtain ⟨b, hc, _⟩ := DataW.trod_bool ht h
  exact ⟨b, by simpa using hc⟩
/-- A row of structs that came in, as a list of what its elements are. -/
theorem open_list {α : Type} {f : α → List Value} {ok : α → Prop} {s : Nat} {t e : TypeId} {a : Option Addr} {len cap : Nat} {d : DataW H} {p : List MemPlace} (ht : P.underlying t = some (.slice e)) (hC : P.cellsOf e = s) (hs0 : 0 < s)
    (hs : ∀ x, (f x).length = s) (hel : ∀ fuel cs y, DataW.trod enc P w 0 (fun _ => true) true fuel e cs = some y → ∃ x, cs = f x ∧ ok x)
    (h : DataW.Trod enc P w 0 (fun _ => true) true t (.slice a len cap) d p) :
    len ≤ cap ∧ cap ≤ maxLen ∧ ∃ xs : List α, Rd w w.heap.size s a len (xs.flatMap f) ∧ xs.length = len ∧ ∀ x ∈ xs, ok x := by
  obtain ⟨fuel, hf⟩ := h
  rcases open_slice ht hf with ⟨hcs, _⟩ | ⟨x, l, c, m, n, D, Pl, hcs, _, hl, hm, hmm, _, hi⟩
  · simp [Value.cells] at hcs
    obtain ⟨rfl, rfl, rfl⟩ := hcs
    exact ⟨Nat.le_refl _, Nat.zero_le _, [], Rd.nil_ _ _ _ _, rfl, by simp⟩
  · simp [Value.cells] at hcs
    obtain ⟨rfl, rfl, rfl⟩ := hcs
    simp only [if_true] at hmm
    subst hmm
    refine ⟨hl, hm, ?_⟩
    have key : ∀ i, i < len → ∃ y : α, ok y ∧ ∀ r u, (f y)[r]? = some u → w.cell? (x.add (i * s + r)) = some u := by
      intro i hlt
      obtain ⟨cs', hc, ht'⟩ := hi i (by omega)
      obtain ⟨y, rfl, hy⟩ := hel _ _ _ ht'
      obtain ⟨_, hcl, hat⟩ := World.cells?_some hc
      refine ⟨y, hy, fun r u hu => ?_⟩
      have hr : r < s := by
        rw [← hs y]
        rcases Nat.lt_or_ge r (f y).length with h' | h'
        · exact h'
        · rw [List.getElem?_eq_none h'] at hu; cases hu
      have h1 := hat r (by rw [hC]; exact hr)
      rw [hC, add_add] at h1
      rw [h1, hu]
    have all : ∀ k, k ≤ len → ∃ xs : List α, xs.length = k ∧ (∀ y ∈ xs, ok y) ∧ ∀ i (h : i < xs.length) r u, (f xs[i])[r]? = some u → w.cell? (x.add (i * s + r)) = some u := by
      intro k
      induction k with
      | zero => intro _; exact ⟨[], rfl, by simp, fun i h => absurd h (by simp)⟩
      | succ k ih =>
        intro hk
        obtain ⟨xs, h1, h2, h3⟩ := ih (by omega)
        obtain ⟨y, hy, hat⟩ := key k (by omega)
        refine ⟨xs ++ [y], by simp [h1], ?_, ?_⟩
        · intro z hz
          rcases List.mem_append.1 hz with hz | hz
          · exact h2 z hz
          · simp at hz; subst hz; exact hy
        · intro i hi r u hu
          rw [List.length_append, List.length_singleton] at hi
          by_cases hik : i < xs.length
          · rw [List.getElem_append_left hik] at hu
            exact h3 i hik r u hu
          · have : i = xs.length := by omega
            subst this
            simp only [List.getElem_concat_length] at hu
            rw [h1]
            exact hat r u hu
    obtain ⟨xs, h1, h2, h3⟩ := all len (Nat.le_refl _)
    refine ⟨xs, ⟨by rw [flat_length hs, h1], fun h0 => ?_⟩, h1, h2⟩
    have hne : 0 < xs.length := by omega
    have h4 := h3 0 hne 0 ((f xs[0])[0]'(by rw [hs]; exact hs0)) (List.getElem?_eq_getElem _)
    have hx : x.add (0 * s + 0) = x := by unfold Addr.add; simp
    rw [hx] at h4
    obtain ⟨b, o, sp⟩ := x
    have hsp : sp = none := World.cell?_spot h4
    subst hsp
    refine ⟨b, o, rfl, World.block_lt_of_cell? w _ h4, fun j u hu => ?_⟩
    have hj : j < xs.length * s := by
      rw [← flat_length hs]
      rcases Nat.lt_or_ge j (xs.flatMap f).length with h' | h'
      · exact h'
      · rw [List.getElem?_eq_none h'] at hu; cases hu
    have hd : j / s < xs.length := (Nat.div_lt_iff_lt_mul hs0).2 hj
    have e : j / s * s + j % s = j := by rw [Nat.mul_comm]; exact Nat.div_add_mod j s
    have hu2 : (f xs[j / s])[j % s]? = some u := by
      rw [← flat_get hs xs (j / s) (j % s) hd (Nat.mod_lt _ hs0), e]
      exact hu
    have h5 := h3 (j / s) hd (j % s) u hu2
    rw [e, add_form] at h5
    exact h5
end
end Go.Proofs.Ytmobgamlednlhaa
