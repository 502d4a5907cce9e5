/-
  Regions that draw their order and whose last operations come one behind the other, each behind all of the first n, which only make memory or compute: the first n by one walk in the text's order, then the last ones as they stand.
-/
import Derived.Test.YtmobgamlednlhaaGrowLast
import Derived.StillTail
namespace Go.Proofs.Ytmobgamlednlhaa
open Go.RowKit
section
variable {P : Program} {S : Nat → Option GSpec} {w0 : World} {l tl : List Oper}
def ancT (ops : Array Oper) (n : Nat) : Bool := (List.range ops.size).all fun j => decide (j < n) || (List.range n).all fun i => anc ops j i
def guardB (l : List Oper) : Bool := l.all fun o => match o.guard with
  | some (i, _) => decide (i < l.length)
  | none => true
def reps (n m : Nat) : Array Bool := Array.replicate n true ++ Array.replicate m false
def tailB (l2 : List Oper) (n : Nat) : Bool := depsB l2.toArray && ancT l2.toArray n && guardB (l2.take n) && Region.seqB .any l2.toArray (l2.drop n).length n (reps n (l2.drop n).length) && decide (n ≤ l2.length)
theorem ops_ltT {j : Nat} (h : j < l.length) : (l ++ tl).toArray[j]? = l.toArray[j]? := by
  simp [List.getElem?_append_left h]
theorem wanted_sameT (hG : guardB l = true) {j : Nat} {o : Oper} (ho : l.toArray[j]? = some o) (tmps : Array Value) : Region.wanted o (yielded (l ++ tl).toArray tmps) = Region.wanted o (yielded l.toArray tmps) := by
  have hm : o ∈ l := by
    have h1 := Array.mem_of_getElem? ho
    simpa using h1
  have h2 := List.all_eq_true.1 hG o hm
  unfold Region.wanted
  cases hg : o.guard with
  | none => rfl
  | some g =>
    obtain ⟨i, b⟩ := g
    rw [hg] at h2
    simp only [decide_eq_true_eq] at h2
    have e : yielded (l ++ tl).toArray tmps i = yielded l.toArray tmps i := by
      unfold yielded
      rw [ops_ltT h2]
    simp only [e]
theorem app_lt {listed rep : Array Bool} {j : Nat} (d : Bool) (h : j < listed.size) : (listed ++ rep).getD j d = listed.getD j d := by
  rw [Array.getD_eq_getD_getElem?, Array.getD_eq_getD_getElem?, Array.getElem?_append_left h]
theorem set_app {listed rep : Array Bool} {i : Nat} (h : i < listed.size) : (listed ++ rep).setIfInBounds i true = listed.setIfInBounds i true ++ rep := by
  apply Array.ext_getElem?
  intro k
  rw [Array.getElem?_setIfInBounds]
  rcases Nat.lt_or_ge k listed.size with hk | hk
  · rw [Array.getElem?_append_left hk, Array.getElem?_append_left (show k < (listed.setIfInBounds i true).size by simpa using hk), Array.getElem?_setIfInBounds]
    by_cases h1 : i = k
    · subst h1; rw [if_pos rfl, if_pos rfl, if_pos h, if_pos (by simp; omega)]
    · rw [if_neg h1, if_neg h1]
  · rw [if_neg (by omega), Array.getElem?_append_right hk, Array.getElem?_append_right (by simpa using hk)]
    simp
theorem ready_subT {m : Nat} (hD : depsB (l ++ tl).toArray = true) {listed : Array Bool} (hs : listed.size = l.length) {j : Nat} (hj : j < l.length) :
    j ∈ Region.ready .any (l ++ tl).toArray (listed ++ Array.replicate m false) ↔ j ∈ Region.ready .any l.toArray listed := by
  rw [mem_ready, mem_ready, app_lt _ (by omega)]
  refine and_congr_right fun _ => ?_
  constructor
  · rintro ⟨o, ho, hall⟩
    refine ⟨o, by rw [← ops_ltT (tl := tl) hj]; exact ho, fun e he hb => ?_⟩
    have h1 := hall e he hb
    have h2 := depsB_spec hD ho e he hb
    rwa [app_lt _ (by omega)] at h1
  · rintro ⟨o, ho, hall⟩
    have ho2 : (l ++ tl).toArray[j]? = some o := by rw [ops_ltT hj]; exact ho
    refine ⟨o, ho2, fun e he hb => ?_⟩
    have h2 := depsB_spec hD ho2 e he hb
    rw [app_lt _ (by omega)]
    exact hall e he hb
theorem all_listedT (hD : depsB (l ++ tl).toArray = true) {listed : Array Bool} (hs : listed.size = l.length) (h0 : Region.ready .any l.toArray listed = []) : ∀ j, j < l.length → listed.getD j false = true := by
  intro j
  induction j using Nat.strongRecOn with
  | ind j ih =>
    intro hj
    cases hl : listed.getD j false
    · exfalso
      have ho : l.toArray[j]? = some l[j] := by simp [hj]
      have hm : j ∈ Region.ready .any l.toArray listed := mem_ready.2 ⟨by rw [getD_any (by omega) true false]; exact hl, l[j], ho, fun e he hb => by
        have h2 := depsB_spec hD (by rw [ops_ltT hj]; exact ho) e he hb
        exact ih e.on h2 (by omega)⟩
      rw [h0] at hm
      cases hm
    · rfl
theorem seq_fuel {ops : Array Oper} {Q' : Exit → Act → World → Prop} : ∀ (l : List Oper) (k : Nat) (listed : Array Bool) (a : Act) (w : World) (fuel : Nat), (∀ j, l[j]? = ops[k + j]?) →
    Region.seqB .any ops l.length k listed = true → wpList P ops Q' l a w → wpAny P .any ops Q' (l.length + fuel) listed a w
  | [], _, listed, a, w, fuel, _, hB, h => by
    have h0 : Region.ready .any ops listed = [] := by simpa [Region.seqB] using hB
    cases fuel with
    | zero => exact ⟨h0, h⟩
    | succ f => exact ⟨fun _ => h, fun i hi => by rw [h0] at hi; cases hi⟩
  | o :: l, k, listed, a, w, fuel, hl, hB, h => by
    have h0 : ops[k]? = some o := by simpa using (hl 0).symm
    simp only [List.length_cons, Region.seqB, Bool.and_eq_true, decide_eq_true_eq] at hB
    rw [List.length_cons, show l.length + 1 + fuel = (l.length + fuel) + 1 by omega]
    refine ⟨fun h1 => (by rw [hB.1] at h1; cases h1), fun i hi => ?_⟩
    rw [hB.1] at hi
    have hik : i = k := by simpa using hi
    subst hik
    have hw : wpOp P ops Q' i (wpList P ops Q' l) a w := by unfold wpOp; simp only [h0]; exact h
    exact wpOp_mono (fun a' w' h' => seq_fuel l (i + 1) _ a' w' fuel (fun j => by have := hl (j + 1); simpa [Nat.add_assoc, Nat.add_comm 1 j] using this) hB.2 h') hw
theorem at_tail {Q : Act → World → Prop} {Q' : Exit → Act → World → Prop} (hS : Region.seqB .any (l ++ tl).toArray tl.length l.length (reps l.length tl.length) = true)
    (hQ : ∀ a w, Q a w → wpList P (l ++ tl).toArray Q' tl a w) {listed : Array Bool} (hs : listed.size = l.length) (hall : ∀ j, j < l.length → listed.getD j false = true) {a : Act} {w : World} (h : Q a w) (fuel : Nat) :
    wpAny P .any (l ++ tl).toArray Q' (fuel + tl.length) (listed ++ Array.replicate tl.length false) a w := by
  have e : listed = Array.replicate l.length true := by
    apply Array.ext_getElem?
    intro k
    rcases Nat.lt_or_ge k l.length with hk | hk
    · have h1 := hall k hk
      rw [Array.getD_eq_getD_getElem?, Array.getElem?_eq_getElem (by omega), Option.getD_some] at h1
      rw [Array.getElem?_eq_getElem (by omega), h1]
      simp [hk]
    · rw [Array.getElem?_eq_none (by omega), Array.getElem?_eq_none (by simp; omega)]
  subst e
  rw [Nat.add_comm]
  exact seq_fuel tl l.length _ a w fuel (fun j => by simp [List.getElem?_append_right]) hS (hQ a w h)
theorem wpAny_of_growT {Q : Act → World → Prop} {Q' : Exit → Act → World → Prop} (hD : depsB (l ++ tl).toArray = true) (hA : ancT (l ++ tl).toArray l.length = true) (hG : guardB l = true)
    (hS : Region.seqB .any (l ++ tl).toArray tl.length l.length (reps l.length tl.length) = true)
    (hQ : ∀ a w, Q a w → wpList P (l ++ tl).toArray Q' tl a w) : ∀ (fuel : Nat) (listed : Array Bool) (f : Nat → World → Prop) (a : Act) (w : World), listed.size = l.length → Shut (l ++ tl).toArray (listed ++ Array.replicate tl.length false) →
    Ext w0 w → (∀ i, f i w) → (∀ i w w', f i w → Ext w w' → f i w') → wpAnyG P l.toArray S w0 Q fuel listed f a → wpAny P .any (l ++ tl).toArray Q' (fuel + tl.length) (listed ++ Array.replicate tl.length false) a w
  | 0, listed, f, a, w, hs, _, hw, hf, _, h => at_tail hS hQ hs (all_listedT hD hs h.1) (h.2 w hw hf) 0
  | fuel + 1, listed, f, a, w, hs, hsh, hw, hf, hk, h => by
    by_cases h0 : Region.ready .any l.toArray listed = []
    · exact at_tail hS hQ hs (all_listedT hD hs h0) (h.1 h0 w hw hf) (fuel + 1)
    · rw [show fuel + 1 + tl.length = (fuel + tl.length) + 1 by omega]
      refine ⟨fun h1 => ?_, fun j hj => ?_⟩
      · exfalso
        obtain ⟨j, hj⟩ := List.exists_mem_of_ne_nil _ h0
        have hlt : j < l.length := by
          obtain ⟨_, o, ho, _⟩ := mem_ready.1 hj
          simpa using (Array.getElem?_eq_some_iff.1 ho).1
        have := (ready_subT (m := tl.length) hD hs hlt).2 hj
        rw [h1] at this
        cases this
      · have hjl : j < l.length := by
          obtain ⟨h1, o, ho, hall⟩ := mem_ready.1 hj
          have hlt : j < (l ++ tl).toArray.size := (Array.getElem?_eq_some_iff.1 ho).1
          rcases Nat.lt_or_ge j l.length with h' | h'
          · exact h'
          · exfalso
            refine h0 (List.eq_nil_iff_forall_not_mem.2 fun i hi => ?_)
            obtain ⟨g1, o', ho', _⟩ := mem_ready.1 hi
            have hil : i < l.length := by simpa using (Array.getElem?_eq_some_iff.1 ho').1
            have h2 := List.all_eq_true.1 hA j (List.mem_range.2 hlt)
            simp only [Bool.or_eq_true, decide_eq_true_eq] at h2
            have h2' := h2.resolve_left (by omega)
            have h3 := List.all_eq_true.1 h2' i (List.mem_range.2 hil)
            have h4 := anc_listed hsh (fun o'' ho'' => by rw [ho] at ho''; cases ho''; exact hall) h3
            rw [app_lt _ (by omega)] at h4
            rw [getD_any (by omega) true false, h4] at g1
            cases g1
        have hjr := (ready_subT (m := tl.length) hD hs hjl).1 hj
        have hg2 := h.2 j hjr
        have hsh2 : Shut (l ++ tl).toArray (listed.setIfInBounds j true ++ Array.replicate tl.length false) := by rw [← set_app (by omega)]; exact shut_set hsh hj
        have hs2 : (listed.setIfInBounds j true).size = l.length := by rw [Array.size_setIfInBounds, hs]
        unfold gOp at hg2
        unfold wpOp
        rw [ops_ltT hjl, set_app (by omega)]
        split
        · rename_i ho; simp only [ho] at hg2
          exact wpAny_of_growT hD hA hG hS hQ fuel _ f a w hs2 hsh2 hw hf hk hg2
        · rename_i o ho
          simp only [ho] at hg2
          rw [wanted_sameT hG ho]
          split
          · rename_i hwn
            simp only [hwn, if_true] at hg2
            left
            split at hg2
            · obtain ⟨v, h1, h2⟩ := hg2
              unfold Oper.wp
              rw [h1 w]
              simp only [Oper.upon]
              exact wpAny_of_growT hD hA hG hS hQ fuel _ f _ w hs2 hsh2 hw hf hk h2
            · rename_i s hs'
              have h1 := hg2.1 w ⟨hw, fun i _ => hf i⟩
              have step : ∀ x w', s.F o a.eval x w' → Ext w w' → wpAny P .any (l ++ tl).toArray Q' (fuel + tl.length) (listed.setIfInBounds j true ++ Array.replicate tl.length false) (a.put o.dst (s.val x)) w' := fun x w' hF he =>
                wpAny_of_growT hD hA hG hS hQ fuel _ (updF f j (s.F o a.eval x)) _ w' hs2 hsh2 (Ext.trans hw he) (fun i => by
                  unfold updF; split
                  · exact hF
                  · exact hk i w w' (hf i) he) (fun i u u' => by
                  unfold updF; split
                  · exact fun h1 h2 => s.keep o a.eval x u u' h1 h2
                  · exact hk i u u') (hg2.2 x)
              unfold Oper.growAt at h1
              unfold Oper.wp
              generalize (execOp a.eval o).run P w = r at *
              cases r with
              | ok n w' =>
                cases n <;> simp only [Oper.growUpon] at h1 <;> simp only [Oper.upon]
                case value u =>
                  obtain ⟨x, rfl, hF, he⟩ := h1
                  exact step x _ hF he
                case skip =>
                  obtain ⟨x, e, hF, he⟩ := h1
                  rw [e]
                  exact step x _ hF he
                case enter g args =>
                  obtain ⟨rfl, hc⟩ := h1
                  exact hc.mono fun e w'' ⟨x, he, hF, hx⟩ => by subst he; exact step x _ hF hx
              | halt x w' => simp only [Oper.growUpon] at h1
          · rename_i hwn
            simp only [hwn] at hg2
            exact wpAny_of_growT hD hA hG hS hQ fuel _ f _ w hs2 hsh2 hw hf hk hg2
end
/-- A region whose operations from n on come one behind the other, behind all others. -/
theorem wp_region_tail {P : Program} {id : Nat} {Q : Exit → Act → World → Prop} {a : Act} {w : World} {l2 : List Oper} (n : Nat) (S : Nat → Option GSpec) (hm : P.follows .mixedOrders = true) (hB : Region.lexB .any (l2.take n).toArray = true) (hT : tailB l2 n = true)
    (h : Held (wpGrow P (l2.take n).toArray S w (fun a' w' => wpList P l2.toArray Q (l2.drop n) a' w') 0 (l2.take n) (fun _ _ => True) a)) : (Code.region id l2.toArray true).wp P Q a w := by
  have hst : l2 = l2.take n ++ l2.drop n := (List.take_append_drop n l2).symm
  unfold tailB at hT
  simp only [Bool.and_eq_true, decide_eq_true_eq] at hT
  obtain ⟨⟨⟨⟨hD, hA⟩, hG⟩, hS⟩, hn⟩ := hT
  have hlen : n = (l2.take n).length := by rw [List.length_take]; omega
  generalize l2.take n = l at *
  generalize l2.drop n = tl at *
  subst hst
  subst hlen
  simp only [Region.lexB, Bool.and_eq_true] at hB
  have e1 : Array.replicate (l ++ tl).toArray.size false = Array.replicate l.toArray.size false ++ Array.replicate tl.length false := by
    simp [Array.replicate_append_replicate]
  have e2 : (l ++ tl).toArray.size = l.toArray.size + tl.length := by simp
  refine wp_region_any hm ?_
  rw [e1, e2]
  have h2 := wpAnyG_lex (P := P) (S := S) (w0 := w) (Q := fun a' w' => wpList P (l ++ tl).toArray Q tl a' w') hB.1 l 0 (Array.replicate l.toArray.size false) (fun _ _ => True) a (by simp)
    (by intro j o _ hj; exfalso; simp [Array.getElem?_replicate] at hj; split at hj <;> simp at hj) (by simpa using hB.2) h.out
  refine wpAny_of_growT (S := S) (w0 := w) hD hA hG hS (fun _ _ h => h) _ _ (fun _ _ => True) _ _ (by simp) ?_ ⟨rfl, rfl, rfl, Nat.le_refl _, fun _ _ => rfl⟩ (fun _ => trivial) (fun _ _ _ _ _ => trivial) (by simpa using h2)
  intro j o _ hj
  exfalso
  rw [Array.getD_eq_getD_getElem?, Array.getElem?_append] at hj
  split at hj
  · simp [Array.getElem?_replicate] at hj
    split at hj <;> simp at hj
  · simp [Array.getElem?_replicate] at hj
    split at hj <;> simp at hj
end Go.Proofs.Ytmobgamlednlhaa
