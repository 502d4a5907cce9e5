/-
  How long a row of numbers that came in can be. No function of the program in sight.
-/
import Derived.Test.YthknhgakompggaaOpen
import Derived.SizedLaws
namespace Go.Proofs.Ythknhgakompggaa
open Go.RowKit Go.ChangeShapes Go.WideShapes Go.Deep
theorem nums_sized {H : Type} {enc : TypeId × Value → H} {P : Program} {w : World} {ts : List TypeId} {ds : List (DataW H)} (hsz : (DataW.weightsEach P ts ds).all (· ≤ reachBytes) = true) {j : Nat} {t e : TypeId} {a : Option Addr} {len cap : Nat} {d : DataW H} {p : List MemPlace}
    (hj : ts[j]? = some t) (hd : ds[j]? = some d) (ht : P.underlying t = some (.slice e)) (he : P.underlying e = some (.int .u64)) (ce : P.cellsOf e = 1) (hb : P.bytesOf e = 8)
    (h : DataW.Trod enc P w 0 (fun _ => true) true t (.slice a len cap) d p) : len ≤ 17592186044416 := by
  obtain ⟨fuel, hf⟩ := h
  rcases open_ints ht he ce hf with ⟨hcs, _⟩ | ⟨x, l, c, zs, hcs, _, hl, hm, hz, hx, _, _⟩
  · simp [Value.cells] at hcs
    omega
  · simp [Value.cells] at hcs
    obtain ⟨rfl, rfl, rfl⟩ := hcs
    simp only [if_true] at hz
    injection hx with hx1 hx2
    subst hx1
    have h1 := sized_slice hsz hj hd ht
    have h2 := reachBytes_lt
    rw [hb] at h1
    simp [lits] at h1
    omega
end Go.Proofs.Ythknhgakompggaa
