/-
  Arguments opened: bytes, numbers, slices of slices of bytes, as lists. No function of the program in sight.
-/
import Derived.Test.YtmobgamlednlhaaWords
import Derived.ProofKit
import Derived.OpenShut
import Derived.ShutString
import Derived.ChangeOld
import Derived.Deep.Matrix
namespace Go.Proofs.Ytmobgamlednlhaa
open Go.RowKit Go.ChangeShapes Go.WideShapes Go.Deep

theorem add_form (b o j : Nat) : (⟨b, o, none⟩ : Addr).add j = ⟨b, o + j, none⟩ := by
  unfold Addr.add
  by_cases h0 : j = 0
  · subst h0; rfl
  · simp [h0]
def toBytes (zs : List Int) : List UInt8 := zs.map fun z => UInt8.ofNat z.toNat
def toNums (zs : List Int) : List UInt64 := zs.map fun z => UInt64.ofNat z.toNat
theorem byts_toBytes {zs : List Int} (h : ∀ n ∈ zs, (Lit.int .u8 n).wf = true) : byts (toBytes zs) = zs.map (Value.int .u8) := by
  unfold byts toBytes
  rw [List.map_map]
  apply List.map_congr_left
  intro z hz
  have := bounds_u8 (h z hz)
  have e : ((UInt8.ofNat z.toNat).toNat : Int) = z := by
    rw [UInt8.toNat_ofNat']
    omega
  simp only [Function.comp, e]
theorem nums_toNums {zs : List Int} (h : ∀ n ∈ zs, (Lit.int .u64 n).wf = true) : nums (toNums zs) = zs.map (Value.int .u64) := by
  unfold nums toNums
  rw [List.map_map]
  apply List.map_congr_left
  intro z hz
  have := bounds_u64 (h z hz)
  have e : ((UInt64.ofNat z.toNat).toNat : Int) = z := by
    rw [UInt64.toNat_ofNat']
    omega
  simp only [Function.comp, e]
/-- The numbers of a slice that came in, as cells. -/
theorem rd_of_ints {w : World} {k : IntKind} {a : Option Addr} {len cap : Nat} {zs : List Int} (hl : len ≤ cap) (hz : zs.length = cap) (hn : a = none → cap = 0)
    (hc : ∀ a', a = some a' → ∀ c, c < cap → w.cell? (a'.add c) = some (.int k (zs.getD c 0))) : Rd w w.heap.size 1 a len ((zs.take len).map (Value.int k)) := by
  refine ⟨by simp; omega, fun h0 => ?_⟩
  cases a with
  | none => have := hn rfl; omega
  | some x =>
    have h1 := hc x rfl 0 (by omega)
    have hx : x.add 0 = x := by unfold Addr.add; rfl
    rw [hx] at h1
    obtain ⟨b, o, s⟩ := x
    have hs : s = none := World.cell?_spot h1
    subst hs
    refine ⟨b, o, rfl, World.block_lt_of_cell? w _ h1, fun j u hu => ?_⟩
    rw [List.getElem?_map] at hu
    have hj : j < len := by
      rcases Nat.lt_or_ge j len with h' | h'
      · exact h'
      · rw [List.getElem?_eq_none (by simp; omega)] at hu; cases hu
    have h2 := hc _ rfl j (by omega)
    rw [add_form] at h2
    rw [h2]
    rw [List.getElem?_take, if_pos hj] at hu
    rw [List.getElem?_eq_getElem (by omega)] at hu
    simp only [Option.map_some, Option.some.injEq] at hu
    rw [← hu]
    simp [List.getD, List.getElem?_eq_getElem (show j < zs.length by omega)]

section
variable {H : Type} {enc : TypeId × Value → H} {P : Program} {w : World}
theorem open_bytes {t e : TypeId} {a : Option Addr} {len cap : Nat} {d : DataW H} {p : List MemPlace} (ht : P.underlying t = some (.slice e)) (he : P.underlying e = some (.int .u8)) (ce : P.cellsOf e = 1)
    (h : DataW.Trod enc P w 0 (fun _ => true) true t (.slice a len cap) d p) : len ≤ cap ∧ cap ≤ maxLen ∧ ∃ xs : List UInt8, Rd w w.heap.size 1 a len (byts xs) := by
  obtain ⟨fuel, hf⟩ := h
  rcases open_ints ht he ce hf with ⟨hcs, _⟩ | ⟨x, l, c, zs, hcs, _, hl, hm, hz, _, hcell, hwz⟩
  · simp [Value.cells] at hcs
    obtain ⟨rfl, rfl, rfl⟩ := hcs
    exact ⟨Nat.le_refl _, Nat.zero_le _, [], Rd.nil_ _ _ _ _⟩
  · simp [Value.cells] at hcs
    obtain ⟨rfl, rfl, rfl⟩ := hcs
    simp only [if_true] at hz
    refine ⟨hl, hm, toBytes (zs.take len), ?_⟩
    rw [byts_toBytes (fun n hn => hwz n (List.mem_of_mem_take hn))]
    exact rd_of_ints hl hz (fun h => by cases h) (fun a' ha c hc => by cases ha; exact hcell c (by omega))
theorem open_nums {t e : TypeId} {a : Option Addr} {len cap : Nat} {d : DataW H} {p : List MemPlace} (ht : P.underlying t = some (.slice e)) (he : P.underlying e = some (.int .u64)) (ce : P.cellsOf e = 1)
    (h : DataW.Trod enc P w 0 (fun _ => true) true t (.slice a len cap) d p) : len ≤ cap ∧ cap ≤ maxLen ∧ ∃ xs : List UInt64, Rd w w.heap.size 1 a len (nums xs) := by
  obtain ⟨fuel, hf⟩ := h
  rcases open_ints ht he ce hf with ⟨hcs, _⟩ | ⟨x, l, c, zs, hcs, _, hl, hm, hz, _, hcell, hwz⟩
  · simp [Value.cells] at hcs
    obtain ⟨rfl, rfl, rfl⟩ := hcs
    exact ⟨Nat.le_refl _, Nat.zero_le _, [], Rd.nil_ _ _ _ _⟩
  · simp [Value.cells] at hcs
    obtain ⟨rfl, rfl, rfl⟩ := hcs
    simp only [if_true] at hz
    refine ⟨hl, hm, toNums (zs.take len), ?_⟩
    rw [nums_toNums (fun n hn => hwz n (List.mem_of_mem_take hn))]
    exact rd_of_ints hl hz (fun h => by cases h) (fun a' ha c hc => by cases ha; exact hcell c (by omega))
theorem open_rows {t e q : TypeId} {a : Option Addr} {len cap : Nat} {d : DataW H} {p : List MemPlace} (ht : P.underlying t = some (.slice e)) (he : P.underlying e = some (.slice q)) (hq : P.underlying q = some (.int .u8))
    (ce : P.cellsOf e = 1) (cq : P.cellsOf q = 1)
    (h : DataW.Trod enc P w 0 (fun _ => true) true t (.slice a len cap) d p) : len ≤ cap ∧ cap ≤ maxLen ∧ ∃ ls : List (List UInt8), RdRows w w.heap.size a len ls := by
  obtain ⟨fuel, hf⟩ := h
  rcases open_int_rows ht he hq ce cq hf with ⟨hcs, _⟩ | ⟨x, l, c, A, L, C, Z, hcs, _, hl, hm, _, hr⟩
  · simp [Value.cells] at hcs
    obtain ⟨rfl, rfl, rfl⟩ := hcs
    exact ⟨Nat.le_refl _, Nat.zero_le _, [], rfl, fun k hk => absurd hk (by omega)⟩
  · simp [Value.cells] at hcs
    obtain ⟨rfl, rfl, rfl⟩ := hcs
    refine ⟨hl, hm, (List.range len).map (fun r => toBytes ((Z r).take (L r))), by simp, fun k hk => ?_⟩
    obtain ⟨hc, h1, h2, h3, h4, h5, h6⟩ := hr k (by omega)
    have hx0 : x.add 0 = x := by unfold Addr.add; rfl
    have hc0 := (hr 0 (by omega)).1
    rw [hx0] at hc0
    obtain ⟨b, o, s⟩ := x
    have hs : s = none := World.cell?_spot hc0
    subst hs
    rw [add_form] at hc
    refine ⟨b, o, A k, L k, C k, rfl, World.block_lt_of_cell? w _ hc, hc, h1, h2, ?_⟩
    have e : ((List.range len).map (fun r => toBytes ((Z r).take (L r)))).getD k [] = toBytes ((Z k).take (L k)) := by
      simp [List.getD, hk]
    rw [e, byts_toBytes (fun n hn => h4 n (List.mem_of_mem_take hn))]
    exact rd_of_ints h1 h3 h5 (fun a' ha c hc => (h6 a' ha).2 c hc)
end
theorem nat_u8 {n : Int} (h : (Lit.int .u8 n).wf = true) : ∃ m : Nat, n = (m : Nat) ∧ m < 256 := ⟨n.toNat, by have := bounds_u8 h; omega, by have := bounds_u8 h; omega⟩
theorem nat_u16 {n : Int} (h : (Lit.int .u16 n).wf = true) : ∃ m : Nat, n = (m : Nat) ∧ m < 65536 := ⟨n.toNat, by have := bounds_u16 h; omega, by have := bounds_u16 h; omega⟩
theorem nat_u32 {n : Int} (h : (Lit.int .u32 n).wf = true) : ∃ m : Nat, n = (m : Nat) ∧ m < 4294967296 := ⟨n.toNat, by have := bounds_u32 h; omega, by have := bounds_u32 h; omega⟩
theorem nat_u64 {n : Int} (h : (Lit.int .u64 n).wf = true) : ∃ m : UInt64, n = (m.toNat : Nat) := ⟨UInt64.ofNat n.toNat, by have := bounds_u64 h; rw [UInt64.toNat_ofNat']; omega⟩
end Go.Proofs.Ytmobgamlednlhaa
