/-
  How long bytes that came in can be, alone and inside frames. No function of the program in sight.
-/
import Derived.Test.YtnncohajlmbedaaFraOpens
import Derived.SizedLaws
namespace Go.Proofs.Ytnncohajlmbedaa
open Go.RowKit Go.ChangeShapes Go.WideShapes Go.Deep
section
variable {H : Type} {enc : TypeId × Value → H} {w : World}
theorem bytes_weigh {P : Program} {t e : TypeId} {fuel : Nat} {a : Option Addr} {len cap : Nat} {y : DataW H × List MemPlace} (ht : P.underlying t = some (.slice e)) (he : P.underlying e = some (.int .u8)) (ce : P.cellsOf e = 1) (hb : P.bytesOf e = 1)
    (h : DataW.trod enc P w 0 (fun _ => true) true fuel t [.slice a len cap] = some y) (hw : ∀ n ∈ y.1.weights P t, n ≤ reachBytes) : len ≤ 140737488351232 := by
  rcases open_ints ht he ce h with ⟨hcs, _⟩ | ⟨x, l, c, zs, hcs, _, hl, hm, hz, hx, _, _⟩
  · simp at hcs
    omega
  · simp at hcs
    obtain ⟨rfl, rfl, rfl⟩ := hcs
    simp only [if_true] at hz
    subst hx
    have h1 := hw _ (by simp only [DataW.weights, ht]; exact List.mem_cons_self)
    have h2 : reachBytes = 140737488351232 := by decide
    rw [hb] at h1
    simp [lits] at h1
    omega
theorem bytes_sized {P : Program} {ts : List TypeId} {ds : List (DataW H)} (hsz : (DataW.weightsEach P ts ds).all (· ≤ reachBytes) = true) {j : Nat} {t e : TypeId} {a : Option Addr} {len cap : Nat} {d : DataW H} {p : List MemPlace}
    (hj : ts[j]? = some t) (hd : ds[j]? = some d) (ht : P.underlying t = some (.slice e)) (he : P.underlying e = some (.int .u8)) (ce : P.cellsOf e = 1) (hb : P.bytesOf e = 1)
    (h : DataW.Trod enc P w 0 (fun _ => true) true t (.slice a len cap) d p) : len ≤ 140737488351232 := by
  obtain ⟨fuel, hf⟩ := h
  refine bytes_weigh ht he ce hb (y := (d, p)) (fuel := fuel) hf fun n hn => ?_
  have := List.all_eq_true.1 hsz _ (DataW.weights_mem_each hj hd n hn)
  simpa using this
theorem weights_all {P : Program} {e : TypeId} : ∀ (l : List (DataW H)) (d : DataW H), d ∈ l → ∀ n ∈ d.weights P e, n ∈ DataW.weightsAll P e l
  | x :: l, d, hd, n, hn => by
    simp only [DataW.weightsAll, List.mem_append]
    rcases List.mem_cons.1 hd with rfl | hd
    · exact .inl hn
    · exact .inr (weights_all l d hd n hn)
set_option maxRecDepth 100000 in
theorem frame_weigh {fuel : Nat} {cs : List Value} {y : DataW H × List MemPlace} (h : DataW.trod enc Try.prog w 0 (fun _ => true) true fuel 26 cs = some y) (hw : ∀ n ∈ y.1.weights Try.prog 26, n ≤ reachBytes)
    {u : Value} {a : Option Addr} {len cap : Nat} (hcs : cs = [u, .slice a len cap]) : len ≤ 140737488351232 := by
  obtain ⟨fs, ht, hs, hone, hC, ⟨f0, e0, t0⟩, f1, e1, t1⟩ := frame_one
  obtain ⟨xs, n, _, hy, hlen, hxl, hf⟩ := DataW.trod_struct ht h
  obtain ⟨g1, g2⟩ := hone_of hone 1 f1 e1
  have h3 := hf 1 f1 e1
  rw [g1, g2, t1, hcs] at h3
  simp only [List.drop_succ_cons, List.drop_zero] at h3
  rw [hs] at hxl
  rw [List.getElem?_eq_getElem (by omega : 1 < xs.length)] at h3
  refine bytes_weigh Try.underlying22 Try.underlying5 (by kernel_rfl) (by kernel_rfl) (fuel := n) (by simpa using h3) fun m hm => hw m ?_
  rw [hy]
  simp only [DataW.weights, ht]
  refine DataW.weights_mem_each (j := 1) (t := 22) (d := (xs[1]'(by omega)).1) ?_ ?_ m hm
  · rw [List.getElem?_map, ← Array.getElem?_toList] at *
    rw [e1]
    simp [t1]
  · rw [List.getElem?_map, List.getElem?_eq_getElem (by omega)]
    rfl
set_option maxRecDepth 100000 in
theorem frames_sized {ts : List TypeId} {ds : List (DataW H)} (hsz : (DataW.weightsEach Try.prog ts ds).all (· ≤ reachBytes) = true) {j : Nat} {a : Option Addr} {len cap : Nat} {d : DataW H} {p : List MemPlace}
    (hj : ts[j]? = some 33) (hd : ds[j]? = some d) (h : DataW.Trod enc Try.prog w 0 (fun _ => true) true 33 (.slice a len cap) d p) {fs : List Fr} (hr : RdFr w w.heap.size a len fs) : ∀ f ∈ fs, f.2.length ≤ 140737488351232 := by
  obtain ⟨fuel, hf⟩ := h
  intro f hfm
  obtain ⟨i, hi, rfl⟩ := List.getElem_of_mem hfm
  obtain ⟨b, o, A', c, hA, hb, hc0, hc1, _, _, _⟩ := hr.2 i hi
  have hC : Try.prog.cellsOf 26 = 2 := by kernel_rfl
  rcases open_slice Try.underlying33 hf with ⟨hcs, _⟩ | ⟨x, l, cc, m, n, D, Pl, hcs, _, hl, hm, hmm, hx, hit⟩
  · simp [Value.cells] at hcs
    rw [hcs.1] at hA
    cases hA
  · simp [Value.cells] at hcs
    obtain ⟨rfl, rfl, rfl⟩ := hcs
    injection hA with hA
    subst hA
    simp only [if_true] at hmm
    subst hmm
    have hil : i < len := by have := hr.1; omega
    obtain ⟨cs', hcc, ht'⟩ := hit i (by omega)
    obtain ⟨_, hcl, hat⟩ := World.cells?_some hcc
    rw [hC] at hcl
    have a1 := hat 1 (by rw [hC]; omega)
    rw [hC, add_add, add_form, ← Nat.add_assoc, hc1] at a1
    match cs', hcl with
    | [u0, u1], _ =>
      simp at a1
      subst a1
      refine frame_weigh ht' (fun q hq => ?_) rfl
      have h1 : q ∈ d.weights Try.prog 33 := by
        injection hx with hx1 _
        rw [hx1]
        simp only [DataW.weights, Try.underlying33, List.mem_cons, List.mem_append]
        right; left
        exact weights_all _ (D i) (by simp only [List.mem_map, List.mem_range]; exact ⟨i, hil, rfl⟩) q hq
      have := List.all_eq_true.1 hsz _ (DataW.weights_mem_each hj hd q h1)
      simpa using this
end
end Go.Proofs.Ytnncohajlmbedaa
