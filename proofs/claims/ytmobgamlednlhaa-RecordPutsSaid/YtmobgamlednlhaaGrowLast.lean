/-
  Regions that draw their order and end in one operation on which nothing leans and which leans on all others (a store, say): the others only make memory or compute.
-/
import Derived.Test.YtmobgamlednlhaaGrow
namespace Go.Proofs.Ytmobgamlednlhaa
open Go.RowKit
section
variable {P : Program} {S : Nat → Option GSpec} {w0 : World} {l : List Oper} {st : Oper}
def depsB (ops : Array Oper) : Bool := (List.range ops.size).all fun j => match ops[j]? with
  | some o => o.after.all fun e => !(Region.binds .any e) || decide (e.on < j)
  | none => true
def ancB (ops : Array Oper) (n : Nat) : Bool := (List.range n).all fun j => anc ops n j
theorem depsB_spec {ops : Array Oper} (h : depsB ops = true) {j : Nat} {o : Oper} (ho : ops[j]? = some o) : ∀ e ∈ o.after, Region.binds .any e = true → e.on < j := by
  intro e he hb
  have hlt : j < ops.size := (Array.getElem?_eq_some_iff.1 ho).1
  have h1 := List.all_eq_true.1 h j (List.mem_range.2 hlt)
  rw [ho] at h1
  have h2 := Array.all_eq_true_iff_forall_mem.1 h1 e he
  rw [hb] at h2
  simpa using h2
theorem ops_lt {j : Nat} (h : j < l.length) : (l ++ [st]).toArray[j]? = l.toArray[j]? := by
  simp [List.getElem?_append_left h]
theorem ops_last : (l ++ [st]).toArray[l.length]? = some st := by simp
theorem yielded_same (hd : st.dst = none) (tmps : Array Value) : yielded (l ++ [st]).toArray tmps = yielded l.toArray tmps := by
  funext j
  unfold yielded
  rcases Nat.lt_trichotomy j l.length with h | h | h
  · rw [ops_lt h]
  · subst h
    rw [ops_last]
    simp [hd]
  · have e1 : (l ++ [st]).toArray[j]? = none := by simp; omega
    have e2 : l.toArray[j]? = none := by simp; omega
    rw [e1, e2]
theorem push_lt {listed : Array Bool} {j : Nat} (d : Bool) (h : j < listed.size) : (listed.push false).getD j d = listed.getD j d := by
  rw [Array.getD_eq_getD_getElem?, Array.getD_eq_getD_getElem?, Array.getElem?_push, if_neg (by omega)]
theorem push_at {listed : Array Bool} (d : Bool) : (listed.push false).getD listed.size d = false := by
  rw [Array.getD_eq_getD_getElem?, Array.getElem?_push, if_pos rfl, Option.getD_some]
theorem getD_any {listed : Array Bool} {j : Nat} (h : j < listed.size) (d d' : Bool) : listed.getD j d = listed.getD j d' := by
  rw [Array.getD_eq_getD_getElem?, Array.getD_eq_getD_getElem?, Array.getElem?_eq_getElem h, Option.getD_some, Option.getD_some]
/-- What may come up among all, below the last, may come up among the others. -/
theorem ready_sub (hD : depsB (l ++ [st]).toArray = true) {listed : Array Bool} (hs : listed.size = l.length) {j : Nat} (hj : j < l.length) :
    j ∈ Region.ready .any (l ++ [st]).toArray (listed.push false) ↔ j ∈ Region.ready .any l.toArray listed := by
  rw [mem_ready, mem_ready, push_lt _ (by omega)]
  refine and_congr_right fun _ => ?_
  constructor
  · rintro ⟨o, ho, hall⟩
    refine ⟨o, by rw [← ops_lt hj]; exact ho, fun e he hb => ?_⟩
    have h1 := hall e he hb
    have h2 := depsB_spec hD ho e he hb
    rwa [push_lt _ (by omega)] at h1
  · rintro ⟨o, ho, hall⟩
    have ho2 : (l ++ [st]).toArray[j]? = some o := by rw [ops_lt hj]; exact ho
    refine ⟨o, ho2, fun e he hb => ?_⟩
    have h2 := depsB_spec hD ho2 e he hb
    rw [push_lt _ (by omega)]
    exact hall e he hb
/-- Where nothing may come up any more among the others, all of them have. -/
theorem all_listed (hD : depsB (l ++ [st]).toArray = true) {listed : Array Bool} (hs : listed.size = l.length) (h0 : Region.ready .any l.toArray listed = []) : ∀ j, j < l.length → listed.getD j false = true := by
  intro j
  induction j using Nat.strongRecOn with
  | ind j ih =>
    intro hj
    cases hl : listed.getD j false
    · exfalso
      have ho : l.toArray[j]? = some l[j] := by simp [hj]
      have hm : j ∈ Region.ready .any l.toArray listed := mem_ready.2 ⟨by rw [getD_any (by omega) true false]; exact hl, l[j], ho, fun e he hb => by
        have h2 := depsB_spec hD (by rw [ops_lt hj]; exact ho) e he hb
        exact ih e.on h2 (by omega)⟩
      rw [h0] at hm
      cases hm
    · rfl
theorem none_ready {listed : Array Bool} (h : ∀ j, j < (l ++ [st]).length → listed.getD j true = true) : Region.ready .any (l ++ [st]).toArray listed = [] := by
  refine List.eq_nil_iff_forall_not_mem.2 fun j hj => ?_
  obtain ⟨h1, o, ho, _⟩ := mem_ready.1 hj
  have hlt : j < (l ++ [st]).toArray.size := (Array.getElem?_eq_some_iff.1 ho).1
  rw [h j (by simpa using hlt)] at h1
  cases h1
theorem set_push {listed : Array Bool} {i : Nat} (h : i < listed.size) : (listed.push false).setIfInBounds i true = (listed.setIfInBounds i true).push false := by
  apply Array.ext_getElem?
  intro k
  rw [Array.getElem?_setIfInBounds, Array.getElem?_push, Array.getElem?_push, Array.getElem?_setIfInBounds, Array.size_setIfInBounds, Array.size_push]
  by_cases h1 : i = k
  · subst h1
    rw [if_pos rfl, if_pos (by omega), if_neg (by omega), if_pos rfl, if_pos h]
  · rw [if_neg h1, if_neg h1]
theorem at_last {Q : Act → World → Prop} {Q' : Exit → Act → World → Prop} (hD : depsB (l ++ [st]).toArray = true) (hg : st.guard = none)
    (hQ : ∀ a w, Q a w → st.wp P a w (fun a' w' => Q' .normal a' w') Q') {listed : Array Bool} (hs : listed.size = l.length) (hall : ∀ j, j < l.length → listed.getD j false = true) {a : Act} {w : World} (h : Q a w) (fuel : Nat) :
    wpAny P .any (l ++ [st]).toArray Q' (fuel + 1) (listed.push false) a w := by
  have hmem : l.length ∈ Region.ready .any (l ++ [st]).toArray (listed.push false) := mem_ready.2 ⟨by rw [← hs]; exact push_at true, st, ops_last, fun e he hb => by
    have h2 := depsB_spec hD ops_last e he hb
    rw [push_lt _ (by omega)]
    exact hall e.on h2⟩
  refine ⟨fun h0 => (by rw [h0] at hmem; cases hmem), fun i hi => ?_⟩
  have hin : i = l.length := by
    obtain ⟨h1, o, ho, _⟩ := mem_ready.1 hi
    have hlt : i < (l ++ [st]).toArray.size := (Array.getElem?_eq_some_iff.1 ho).1
    simp at hlt
    rcases Nat.lt_or_ge i l.length with h' | h'
    · rw [push_lt _ (by omega), getD_any (by omega) true false, hall i h'] at h1
      cases h1
    · omega
  subst hin
  unfold wpOp
  rw [ops_last]
  have hwn : Region.wanted st (yielded (l ++ [st]).toArray a.tmps) = true := by unfold Region.wanted; rw [hg]
  simp only [hwn, if_true]
  left
  have hnone : Region.ready .any (l ++ [st]).toArray ((listed.push false).setIfInBounds l.length true) = [] := none_ready fun j hj => by
    simp at hj
    rcases Nat.lt_or_ge j l.length with h' | h'
    · rw [getD_any (by simp; omega) true false]
      exact getD_set_true (by rw [push_lt _ (by omega)]; exact hall j h')
    · obtain rfl : j = l.length := by omega
      rw [Array.getD_eq_getD_getElem?]
      simp [hs]
  refine Oper.wp_mono (fun a' w' h' => ?_) (hQ a w h)
  cases fuel with
  | zero => exact ⟨hnone, h'⟩
  | succ fuel => exact ⟨fun _ => h', fun i hi => by rw [hnone] at hi; cases hi⟩
theorem wpAny_of_growL {Q : Act → World → Prop} {Q' : Exit → Act → World → Prop} (hD : depsB (l ++ [st]).toArray = true) (hA : ancB (l ++ [st]).toArray l.length = true) (hg : st.guard = none) (hd : st.dst = none)
    (hQ : ∀ a w, Q a w → st.wp P a w (fun a' w' => Q' .normal a' w') Q') : ∀ (fuel : Nat) (listed : Array Bool) (f : Nat → World → Prop) (a : Act) (w : World), listed.size = l.length → Shut (l ++ [st]).toArray (listed.push false) →
    Ext w0 w → (∀ i, f i w) → (∀ i w w', f i w → Ext w w' → f i w') → wpAnyG P l.toArray S w0 Q fuel listed f a → wpAny P .any (l ++ [st]).toArray Q' (fuel + 1) (listed.push false) a w
  | 0, listed, f, a, w, hs, _, hw, hf, _, h => at_last hD hg hQ hs (all_listed hD hs h.1) (h.2 w hw hf) 0
  | fuel + 1, listed, f, a, w, hs, hsh, hw, hf, hk, h => by
    by_cases h0 : Region.ready .any l.toArray listed = []
    · exact at_last hD hg hQ hs (all_listed hD hs h0) (h.1 h0 w hw hf) (fuel + 1)
    · refine ⟨fun h1 => ?_, fun j hj => ?_⟩
      · exfalso
        obtain ⟨j, hj⟩ := List.exists_mem_of_ne_nil _ h0
        have hlt : j < l.length := by
          obtain ⟨_, o, ho, _⟩ := mem_ready.1 hj
          simpa using (Array.getElem?_eq_some_iff.1 ho).1
        have := (ready_sub hD hs hlt).2 hj
        rw [h1] at this
        cases this
      · have hjl : j < l.length := by
          obtain ⟨h1, o, ho, hall⟩ := mem_ready.1 hj
          have hlt : j < (l ++ [st]).toArray.size := (Array.getElem?_eq_some_iff.1 ho).1
          simp at hlt
          rcases Nat.lt_or_ge j l.length with h' | h'
          · exact h'
          · exfalso
            obtain rfl : j = l.length := by omega
            refine h0 (List.eq_nil_iff_forall_not_mem.2 fun i hi => ?_)
            obtain ⟨g1, o', ho', _⟩ := mem_ready.1 hi
            have hil : i < l.length := by simpa using (Array.getElem?_eq_some_iff.1 ho').1
            have h2 : anc (l ++ [st]).toArray l.length i = true := List.all_eq_true.1 hA i (List.mem_range.2 hil)
            have h3 := anc_listed hsh (fun o'' ho'' => by rw [ho] at ho''; cases ho''; exact hall) h2
            rw [push_lt _ (by omega)] at h3
            rw [getD_any (by omega) true false, h3] at g1
            cases g1
        have hjr := (ready_sub hD hs hjl).1 hj
        have hg2 := h.2 j hjr
        have hsh2 : Shut (l ++ [st]).toArray ((listed.setIfInBounds j true).push false) := by rw [← set_push (by omega)]; exact shut_set hsh hj
        have hs2 : (listed.setIfInBounds j true).size = l.length := by rw [Array.size_setIfInBounds, hs]
        unfold gOp at hg2
        unfold wpOp
        rw [ops_lt hjl, yielded_same hd, set_push (by omega)]
        split
        · rename_i ho; simp only [ho] at hg2
          exact wpAny_of_growL hD hA hg hd hQ fuel _ f a w hs2 hsh2 hw hf hk hg2
        · rename_i o ho
          simp only [ho] at hg2
          split
          · rename_i hwn
            simp only [hwn, if_true] at hg2
            left
            split at hg2
            · obtain ⟨v, h1, h2⟩ := hg2
              unfold Oper.wp
              rw [h1 w]
              simp only [Oper.upon]
              exact wpAny_of_growL hD hA hg hd hQ fuel _ f _ w hs2 hsh2 hw hf hk h2
            · rename_i s hs'
              have h1 := hg2.1 w ⟨hw, fun i _ => hf i⟩
              have step : ∀ x w', s.F o a.eval x w' → Ext w w' → wpAny P .any (l ++ [st]).toArray Q' (fuel + 1) ((listed.setIfInBounds j true).push false) (a.put o.dst (s.val x)) w' := fun x w' hF he =>
                wpAny_of_growL hD hA hg hd hQ fuel _ (updF f j (s.F o a.eval x)) _ w' hs2 hsh2 (Ext.trans hw he) (fun i => by
                  unfold updF; split
                  · exact hF
                  · exact hk i w w' (hf i) he) (fun i u u' => by
                  unfold updF; split
                  · exact fun h1 h2 => s.keep o a.eval x u u' h1 h2
                  · exact hk i u u') (hg2.2 x)
              unfold Oper.growAt at h1
              unfold Oper.wp
              generalize (execOp a.eval o).run P w = r at *
              cases r with
              | ok n w' =>
                cases n <;> simp only [Oper.growUpon] at h1 <;> simp only [Oper.upon]
                case value u =>
                  obtain ⟨x, rfl, hF, he⟩ := h1
                  exact step x _ hF he
                case skip =>
                  obtain ⟨x, e, hF, he⟩ := h1
                  rw [e]
                  exact step x _ hF he
                case enter g args =>
                  obtain ⟨rfl, hc⟩ := h1
                  exact hc.mono fun e w'' ⟨x, he, hF, hx⟩ => by subst he; exact step x _ hF hx
              | halt x w' => simp only [Oper.growUpon] at h1
          · rename_i hwn
            simp only [hwn] at hg2
            exact wpAny_of_growL hD hA hg hd hQ fuel _ f _ w hs2 hsh2 hw hf hk hg2
end
/-- A region that ends in one operation st which leans on all others. -/
theorem wp_region_last {P : Program} {id : Nat} {Q : Exit → Act → World → Prop} {a : Act} {w : World} {l2 : List Oper} (S : Nat → Option GSpec) (st : Oper) (hst : l2 = l2.dropLast ++ [st]) (hm : P.follows .mixedOrders = true) (hB : Region.lexB .any l2.dropLast.toArray = true)
    (hD : depsB l2.toArray = true) (hA : ancB l2.toArray l2.dropLast.length = true) (hg : st.guard = none) (hd : st.dst = none)
    (h : Held (wpGrow P l2.dropLast.toArray S w (fun a' w' => st.wp P a' w' (fun a' w' => Q .normal a' w') Q) 0 l2.dropLast (fun _ _ => True) a)) : (Code.region id l2.toArray true).wp P Q a w := by
  generalize l2.dropLast = l at *
  subst hst
  simp only [Region.lexB, Bool.and_eq_true] at hB
  have e1 : Array.replicate (l ++ [st]).toArray.size false = (Array.replicate l.toArray.size false).push false := by
    simp [Array.replicate_succ]
  have e2 : (l ++ [st]).toArray.size = l.toArray.size + 1 := by simp
  refine wp_region_any hm ?_
  rw [e1, e2]
  have h2 := wpAnyG_lex (P := P) (S := S) (w0 := w) (Q := fun a' w' => st.wp P a' w' (fun a' w' => Q .normal a' w') Q) hB.1 l 0 (Array.replicate l.toArray.size false) (fun _ _ => True) a (by simp)
    (by intro j o _ hj; exfalso; simp [Array.getElem?_replicate] at hj; split at hj <;> simp at hj) (by simpa using hB.2) h.out
  refine wpAny_of_growL (S := S) (w0 := w) hD hA hg hd (fun _ _ h => h) _ _ (fun _ _ => True) _ _ (by simp) ?_ ⟨rfl, rfl, rfl, Nat.le_refl _, fun _ _ => rfl⟩ (fun _ => trivial) (fun _ _ _ _ _ => trivial) (by simpa using h2)
  intro j o _ hj
  exfalso
  rw [Array.getD_eq_getD_getElem?, Array.getElem?_push] at hj
  split at hj
  · simp at hj
  · simp [Array.getElem?_replicate] at hj
    split at hj <;> simp at hj
end Go.Proofs.Ytmobgamlednlhaa
