/-
  How long bytes that came in can be. No function of the program in sight.
-/
import Derived.Test.YtnncohajlmbedaaOpenMore
import Derived.SizedLaws
namespace Go.Proofs.Ytnncohajlmbedaa
open Go.RowKit Go.ChangeShapes Go.WideShapes Go.Deep
section
variable {H : Type} {enc : TypeId × Value → H} {w : World}
theorem bytes_weigh {P : Program} {t e : TypeId} {fuel : Nat} {a : Option Addr} {len cap : Nat} {y : DataW H × List MemPlace} (ht : P.underlying t = some (.slice e)) (he : P.underlying e = some (.int .u8)) (ce : P.cellsOf e = 1) (hb : P.bytesOf e = 1)
    (h : DataW.trod enc P w 0 (fun _ => true) true fuel t [.slice a len cap] = some y) (hw : ∀ n ∈ y.1.weights P t, n ≤ reachBytes) : len ≤ 140737488351232 := by
  rcases open_ints ht he ce h with ⟨hcs, _⟩ | ⟨x, l, c, zs, hcs, _, hl, hm, hz, hx, _, _⟩
  · simp at hcs
    omega
  · simp at hcs
    obtain ⟨rfl, rfl, rfl⟩ := hcs
    simp only [if_true] at hz
    subst hx
    have h1 := hw _ (by simp only [DataW.weights, ht]; exact List.mem_cons_self)
    have h2 : reachBytes = 140737488351232 := by decide
    rw [hb] at h1
    simp [lits] at h1
    omega
theorem bytes_sized {P : Program} {ts : List TypeId} {ds : List (DataW H)} (hsz : (DataW.weightsEach P ts ds).all (· ≤ reachBytes) = true) {j : Nat} {t e : TypeId} {a : Option Addr} {len cap : Nat} {d : DataW H} {p : List MemPlace}
    (hj : ts[j]? = some t) (hd : ds[j]? = some d) (ht : P.underlying t = some (.slice e)) (he : P.underlying e = some (.int .u8)) (ce : P.cellsOf e = 1) (hb : P.bytesOf e = 1)
    (h : DataW.Trod enc P w 0 (fun _ => true) true t (.slice a len cap) d p) : len ≤ 140737488351232 := by
  obtain ⟨fuel, hf⟩ := h
  refine bytes_weigh ht he ce hb (y := (d, p)) (fuel := fuel) hf fun n hn => ?_
  have := List.all_eq_true.1 hsz _ (DataW.weights_mem_each hj hd n hn)
  simpa using this
end
end Go.Proofs.Ytnncohajlmbedaa
