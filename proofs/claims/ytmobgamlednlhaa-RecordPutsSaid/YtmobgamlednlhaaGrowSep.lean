/-
  Regions that draw their order, with several new variables: the blocks of these differ, whatever the order.
-/
import Derived.Test.YtmobgamlednlhaaGrowTail
namespace Go.Proofs.Ytmobgamlednlhaa
open Go.RowKit
theorem run_zero_same {P : Program} {t : TypeId} {w w' : World} {z : Value} (h : (zeroValue t).run P w = .ok z w') : w' = w := by
  unfold zeroValue typeInfo at h
  simp only [Sem.run_bind] at h
  cases hi : P.info? t with
  | none => simp [hi] at h
  | some i =>
    cases hz : i.zero with
    | none => simp [hi, hz] at h
    | some z0 => simp [hi, hz] at h; exact h.2.symm
theorem run_alloc_new {P : Program} {o : Oper} {t : TypeId} (ho : o.op = .alloc t) (r : Operand → Value) {w w' : World} {n : Next} (h : (execOp r o).run P w = .ok n w') :
    n = .value (.pointer (some ⟨w.heap.size, 0, none⟩)) ∧ w.heap.size < w'.heap.size := by
  unfold execOp at h
  simp only [ho, Instr.alloc, Sem.run_bind] at h
  cases hz : (zeroValue t).run P w with
  | halt x y => simp [hz] at h
  | ok z w1 =>
    have := run_zero_same hz
    subst this
    simp [hz, newVar, newRow] at h
    obtain ⟨h1, h2⟩ := h
    rw [← h1, ← h2]
    exact ⟨rfl, by simp⟩
section
variable {P : Program} {S : Nat → Option GSpec} {w0 : World} {l tl : List Oper}
/-- The operations D make new variables, each in a slot of its own. -/
def sepB (l : List Oper) (D : List Nat) : Bool := D.all fun i => match l[i]? with
  | some o => (match o.op with | .alloc _ => true | _ => false) && o.guard.isNone && (match o.dst with
    | some d => (List.range l.length).all fun k => decide (k = i) || decide ((l[k]?).bind (·.dst) ≠ some d)
    | none => false)
  | none => false
theorem sepB_spec {D : List Nat} (h : sepB l D = true) {i : Nat} (hi : i ∈ D) :
    ∃ o t d, l[i]? = some o ∧ o.op = .alloc t ∧ o.guard = none ∧ o.dst = some d ∧ ∀ k o', l[k]? = some o' → k ≠ i → o'.dst ≠ some d := by
  have h1 := List.all_eq_true.1 h i hi
  cases ho : l[i]? with
  | none => simp [ho] at h1
  | some o =>
    simp only [ho, Bool.and_eq_true] at h1
    obtain ⟨⟨h2, h3⟩, h4⟩ := h1
    cases hd : o.dst with
    | none => simp [hd] at h4
    | some d =>
      simp only [hd] at h4
      have h2' : ∃ t, o.op = .alloc t := by
        cases hop : o.op <;> simp [hop] at h2
        exact ⟨_, rfl⟩
      obtain ⟨t, ht⟩ := h2'
      refine ⟨o, t, d, rfl, ht, by simpa using h3, hd, fun k o' hk hne e => ?_⟩
      have hkl : k < l.length := (List.getElem?_eq_some_iff.1 hk).1
      have h5 := List.all_eq_true.1 h4 k (List.mem_range.2 hkl)
      simp only [Bool.or_eq_true, decide_eq_true_eq] at h5
      rcases h5 with h5 | h5
      · exact hne h5
      · exact h5 (by rw [hk]; exact e)
def Pts (a : Act) (d g : Nat) : Prop := a.eval (.tmp d) = .pointer (some ⟨g, 0, none⟩)
/-- What has been made so far differs. -/
def SepI (l : List Oper) (D : List Nat) (listed : Array Bool) (a : Act) (w : World) : Prop :=
  ∃ γ : Nat → Nat, (∀ i ∈ D, listed.getD i false = true → (∀ o d, l[i]? = some o → o.dst = some d → ∀ g, Pts a d g → g = γ i) ∧ γ i < w.heap.size) ∧
    ∀ i ∈ D, ∀ k ∈ D, listed.getD i false = true → listed.getD k false = true → i ≠ k → γ i ≠ γ k
/-- The blocks differ. -/
def Sep (l : List Oper) (D : List Nat) (a : Act) : Prop :=
  ∀ i ∈ D, ∀ k ∈ D, i ≠ k → ∀ oi ok d e, l[i]? = some oi → l[k]? = some ok → oi.dst = some d → ok.dst = some e → ∀ g, Pts a d g → ¬ Pts a e g
theorem SepI.done {D : List Nat} {listed : Array Bool} {a : Act} {w : World} (h : SepI l D listed a w) (hall : ∀ j, j < l.length → listed.getD j false = true) : Sep l D a := by
  obtain ⟨γ, h1, h2⟩ := h
  intro i hi k hk hne oi ok d e hoi hok hd he g hp hq
  have li := hall i (List.getElem?_eq_some_iff.1 hoi).1
  have lk := hall k (List.getElem?_eq_some_iff.1 hok).1
  have e1 := (h1 i hi li).1 oi d hoi hd g hp
  have e2 := (h1 k hk lk).1 ok e hok he g hq
  exact h2 i hi k hk li lk hne (e1.symm.trans e2)
theorem getD_set_iff {listed : Array Bool} {i j : Nat} (hne : i ≠ j) : (listed.setIfInBounds j true).getD i false = listed.getD i false := getD_set_ne false (Ne.symm hne)
theorem SepI.other {D : List Nat} {listed : Array Bool} {a : Act} {w w' : World} {j : Nat} {o : Oper} {v : Value} (hB : sepB l D = true) (h : SepI l D listed a w) (hj : j ∉ D) (ho : l[j]? = some o) (hw : w.heap.size ≤ w'.heap.size) :
    SepI l D (listed.setIfInBounds j true) (a.put o.dst v) w' := by
  obtain ⟨γ, h1, h2⟩ := h
  have hne : ∀ i ∈ D, i ≠ j := fun i hi e => hj (e ▸ hi)
  refine ⟨γ, fun i hi hli => ?_, fun i hi k hk hli hlk hik => ?_⟩
  · rw [getD_set_iff (hne i hi)] at hli
    obtain ⟨g1, g2⟩ := h1 i hi hli
    refine ⟨fun oi d hoi hd g hp => g1 oi d hoi hd g ?_, by omega⟩
    obtain ⟨o', t, d', ho', _, _, hd', hall⟩ := sepB_spec hB hi
    rw [hoi] at ho'
    cases ho'
    rw [hd] at hd'
    cases hd'
    unfold Pts at hp ⊢
    rw [← hp]
    exact (Act.eval_put (fun d2 hd2 e => by
      injection e with e
      subst e
      exact hall j o ho (Ne.symm (hne i hi)) hd2)).symm
  · rw [getD_set_iff (hne i hi)] at hli
    rw [getD_set_iff (hne k hk)] at hlk
    exact h2 i hi k hk hli hlk hik
theorem SepI.none_ {D : List Nat} {listed : Array Bool} {a : Act} {w : World} {j : Nat} (hB : sepB l D = true) (h : SepI l D listed a w) (ho : l[j]? = none) : SepI l D (listed.setIfInBounds j true) a w := by
  have hj : j ∉ D := fun hj => by
    obtain ⟨o, _, _, ho', _⟩ := sepB_spec hB hj
    rw [ho] at ho'
    cases ho'
  obtain ⟨γ, h1, h2⟩ := h
  have hne : ∀ i ∈ D, i ≠ j := fun i hi e => hj (e ▸ hi)
  refine ⟨γ, fun i hi hli => ?_, fun i hi k hk hli hlk hik => ?_⟩
  · rw [getD_set_iff (hne i hi)] at hli
    exact h1 i hi hli
  · rw [getD_set_iff (hne i hi)] at hli
    rw [getD_set_iff (hne k hk)] at hlk
    exact h2 i hi k hk hli hlk hik
theorem SepI.new {D : List Nat} {listed : Array Bool} {a : Act} {w w' : World} {j : Nat} {o : Oper} (hB : sepB l D = true) (h : SepI l D listed a w) (hj : j ∈ D) (ho : l[j]? = some o) (hw : w.heap.size < w'.heap.size) :
    SepI l D (listed.setIfInBounds j true) (a.put o.dst (.pointer (some ⟨w.heap.size, 0, none⟩))) w' := by
  obtain ⟨γ, h1, h2⟩ := h
  refine ⟨fun i => if i = j then w.heap.size else γ i, fun i hi hli => ?_, fun i hi k hk hli hlk hik => ?_⟩
  · dsimp only
    by_cases e : i = j
    · subst e
      rw [if_pos rfl]
      refine ⟨fun oi d hoi hd g hp => ?_, hw⟩
      rw [ho] at hoi
      cases hoi
      rw [hd] at hp
      unfold Pts at hp
      by_cases hin : d < a.tmps.size
      · have h3 : (a.put (some d) (.pointer (some ⟨w.heap.size, 0, none⟩))).eval (.tmp d) = .pointer (some ⟨w.heap.size, 0, none⟩) := by
          simp [Act.put, Act.eval, hin]
        rw [h3] at hp
        injection hp with hp
        injection hp with hp
        injection hp with hp
        exact hp.symm
      · exfalso
        have h3 : (a.put (some d) (.pointer (some ⟨w.heap.size, 0, none⟩))).eval (.tmp d) = undef := by
          simp [Act.put, Act.eval, hin]
        rw [h3] at hp
        cases hp
    · rw [if_neg e]
      rw [getD_set_iff e] at hli
      obtain ⟨g1, g2⟩ := h1 i hi hli
      refine ⟨fun oi d hoi hd g hp => g1 oi d hoi hd g ?_, by omega⟩
      obtain ⟨o', t, d', ho', _, _, hd', hall⟩ := sepB_spec hB hi
      rw [hoi] at ho'
      cases ho'
      rw [hd] at hd'
      cases hd'
      unfold Pts at hp ⊢
      rw [← hp]
      exact (Act.eval_put (fun d2 hd2 e2 => by
        injection e2 with e2
        subst e2
        exact hall j o ho (Ne.symm e) hd2)).symm
  · dsimp only
    by_cases e : i = j
    · subst e
      rw [getD_set_iff (Ne.symm hik)] at hlk
      rw [if_pos rfl, if_neg (Ne.symm hik)]
      have := (h1 k hk hlk).2
      omega
    · rw [getD_set_iff e] at hli
      rw [if_neg e]
      by_cases e2 : k = j
      · subst e2
        rw [if_pos rfl]
        have := (h1 i hi hli).2
        omega
      · rw [getD_set_iff e2] at hlk
        rw [if_neg e2]
        exact h2 i hi k hk hli hlk hik
theorem guard_none {o : Oper} (hg : o.guard = none) (g : Nat → Option Bool) : Region.wanted o g = true := by
  unfold Region.wanted
  rw [hg]
theorem wpAny_of_growS {Q : Act → World → Prop} {Q' : Exit → Act → World → Prop} {D : List Nat} (hE : sepB l D = true) (hD : depsB (l ++ tl).toArray = true) (hA : ancT (l ++ tl).toArray l.length = true) (hG : guardB l = true)
    (hS : Region.seqB .any (l ++ tl).toArray tl.length l.length (reps l.length tl.length) = true)
    (hQ : ∀ a w, Q a w → wpList P (l ++ tl).toArray Q' tl a w) : ∀ (fuel : Nat) (listed : Array Bool) (f : Nat → World → Prop) (a : Act) (w : World), listed.size = l.length → Shut (l ++ tl).toArray (listed ++ Array.replicate tl.length false) →
    Ext w0 w → (∀ i, f i w) → (∀ i w w', f i w → Ext w w' → f i w') → SepI l D listed a w → wpAnyG P l.toArray S w0 (fun a w => Sep l D a → Q a w) fuel listed f a → wpAny P .any (l ++ tl).toArray Q' (fuel + tl.length) (listed ++ Array.replicate tl.length false) a w
  | 0, listed, f, a, w, hs, _, hw, hf, _, hi, h => at_tail hS hQ hs (all_listedT hD hs h.1) (h.2 w hw hf (hi.done (all_listedT hD hs h.1))) 0
  | fuel + 1, listed, f, a, w, hs, hsh, hw, hf, hk, hi, h => by
    by_cases h0 : Region.ready .any l.toArray listed = []
    · exact at_tail hS hQ hs (all_listedT hD hs h0) (h.1 h0 w hw hf (hi.done (all_listedT hD hs h0))) (fuel + 1)
    · rw [show fuel + 1 + tl.length = (fuel + tl.length) + 1 by omega]
      refine ⟨fun h1 => ?_, fun j hj => ?_⟩
      · exfalso
        obtain ⟨j, hj⟩ := List.exists_mem_of_ne_nil _ h0
        have hlt : j < l.length := by
          obtain ⟨_, o, ho, _⟩ := mem_ready.1 hj
          simpa using (Array.getElem?_eq_some_iff.1 ho).1
        have := (ready_subT (m := tl.length) hD hs hlt).2 hj
        rw [h1] at this
        cases this
      · have hjl : j < l.length := by
          obtain ⟨h1, o, ho, hall⟩ := mem_ready.1 hj
          have hlt : j < (l ++ tl).toArray.size := (Array.getElem?_eq_some_iff.1 ho).1
          rcases Nat.lt_or_ge j l.length with h' | h'
          · exact h'
          · exfalso
            refine h0 (List.eq_nil_iff_forall_not_mem.2 fun i hi => ?_)
            obtain ⟨g1, o', ho', _⟩ := mem_ready.1 hi
            have hil : i < l.length := by simpa using (Array.getElem?_eq_some_iff.1 ho').1
            have h2 := List.all_eq_true.1 hA j (List.mem_range.2 hlt)
            simp only [Bool.or_eq_true, decide_eq_true_eq] at h2
            have h2' := h2.resolve_left (by omega)
            have h3 := List.all_eq_true.1 h2' i (List.mem_range.2 hil)
            have h4 := anc_listed hsh (fun o'' ho'' => by rw [ho] at ho''; cases ho''; exact hall) h3
            rw [app_lt _ (by omega)] at h4
            rw [getD_any (by omega) true false, h4] at g1
            cases g1
        have hjr := (ready_subT (m := tl.length) hD hs hjl).1 hj
        have hg2 := h.2 j hjr
        have hsh2 : Shut (l ++ tl).toArray (listed.setIfInBounds j true ++ Array.replicate tl.length false) := by rw [← set_app (by omega)]; exact shut_set hsh hj
        have hs2 : (listed.setIfInBounds j true).size = l.length := by rw [Array.size_setIfInBounds, hs]
        unfold gOp at hg2
        unfold wpOp
        rw [ops_ltT hjl, set_app (by omega)]
        split
        · rename_i ho
          have : l[j]? = some l[j] := List.getElem?_eq_getElem hjl
          simp [this] at ho
        · rename_i o ho
          have hol : l[j]? = some o := by simpa using ho
          simp only [ho] at hg2
          rw [wanted_sameT hG ho]
          split
          · rename_i hwn
            simp only [hwn, if_true] at hg2
            left
            split at hg2
            · obtain ⟨v, h1, h2⟩ := hg2
              have hjD : j ∉ D := fun hjD => by
                obtain ⟨o', t, d, ho', ht, _⟩ := sepB_spec hE hjD
                rw [hol] at ho'
                cases ho'
                have := (run_alloc_new ht a.eval (h1 w)).2
                omega
              unfold Oper.wp
              rw [h1 w]
              simp only [Oper.upon]
              exact wpAny_of_growS hE hD hA hG hS hQ fuel _ f _ w hs2 hsh2 hw hf hk (hi.other hE hjD hol (Nat.le_refl _)) h2
            · rename_i s hs'
              have h1 := hg2.1 w ⟨hw, fun i _ => hf i⟩
              have step : ∀ x w', s.F o a.eval x w' → Ext w w' → SepI l D (listed.setIfInBounds j true) (a.put o.dst (s.val x)) w' → wpAny P .any (l ++ tl).toArray Q' (fuel + tl.length) (listed.setIfInBounds j true ++ Array.replicate tl.length false) (a.put o.dst (s.val x)) w' := fun x w' hF he hi2 =>
                wpAny_of_growS hE hD hA hG hS hQ fuel _ (updF f j (s.F o a.eval x)) _ w' hs2 hsh2 (Ext.trans hw he) (fun i => by
                  unfold updF; split
                  · exact hF
                  · exact hk i w w' (hf i) he) (fun i u u' => by
                  unfold updF; split
                  · exact fun h1 h2 => s.keep o a.eval x u u' h1 h2
                  · exact hk i u u') hi2 (hg2.2 x)
              unfold Oper.growAt at h1
              unfold Oper.wp
              have hrun : ∀ n w', (execOp a.eval o).run P w = .ok n w' → j ∈ D → n = .value (.pointer (some ⟨w.heap.size, 0, none⟩)) ∧ w.heap.size < w'.heap.size := fun n w' hr hjD => by
                obtain ⟨o', t, d, ho', ht, _⟩ := sepB_spec hE hjD
                rw [hol] at ho'
                cases ho'
                exact run_alloc_new ht a.eval hr
              generalize (execOp a.eval o).run P w = r at *
              cases r with
              | ok n w' =>
                have hr2 := hrun n w' rfl
                cases n <;> simp only [Oper.growUpon] at h1 <;> simp only [Oper.upon]
                case value u =>
                  obtain ⟨x, rfl, hF, he⟩ := h1
                  refine step x _ hF he ?_
                  by_cases hjD : j ∈ D
                  · obtain ⟨e1, e2⟩ := hr2 hjD
                    injection e1 with e1
                    rw [e1]
                    exact hi.new hE hjD hol e2
                  · exact hi.other hE hjD hol he.size
                case skip =>
                  obtain ⟨x, e, hF, he⟩ := h1
                  rw [e]
                  refine step x _ hF he ?_
                  by_cases hjD : j ∈ D
                  · exact absurd (hr2 hjD).1 (by simp)
                  · exact hi.other hE hjD hol he.size
                case enter g args =>
                  obtain ⟨rfl, hc⟩ := h1
                  exact hc.mono fun e w'' ⟨x, he, hF, hx⟩ => by
                    subst he
                    refine step x _ hF hx ?_
                    by_cases hjD : j ∈ D
                    · exact absurd (hr2 hjD).1 (by simp)
                    · exact hi.other hE hjD hol hx.size
              | halt x w' => simp only [Oper.growUpon] at h1
          · rename_i hwn
            have hjD : j ∉ D := fun hjD => by
              obtain ⟨o', t, d, ho', _, hgd, _⟩ := sepB_spec hE hjD
              rw [hol] at ho'
              cases ho'
              exact hwn (guard_none hgd _)
            simp only [hwn] at hg2
            exact wpAny_of_growS hE hD hA hG hS hQ fuel _ f _ w hs2 hsh2 hw hf hk (hi.other hE hjD hol (Nat.le_refl _)) hg2
end
/-- A region whose operations from n on come one behind the other, behind all others; the new variables' blocks differ. -/
theorem wp_region_sep {P : Program} {id : Nat} {Q : Exit → Act → World → Prop} {a : Act} {w : World} {l2 : List Oper} (n : Nat) (D : List Nat) (S : Nat → Option GSpec) (hm : P.follows .mixedOrders = true) (hB : Region.lexB .any (l2.take n).toArray = true) (hT : tailB l2 n = true) (hE : sepB (l2.take n) D = true)
    (h : Held (wpGrow P (l2.take n).toArray S w (fun a' w' => Sep (l2.take n) D a' → wpList P l2.toArray Q (l2.drop n) a' w') 0 (l2.take n) (fun _ _ => True) a)) : (Code.region id l2.toArray true).wp P Q a w := by
  have hst : l2 = l2.take n ++ l2.drop n := (List.take_append_drop n l2).symm
  unfold tailB at hT
  simp only [Bool.and_eq_true, decide_eq_true_eq] at hT
  obtain ⟨⟨⟨⟨hD, hA⟩, hG⟩, hS⟩, hn⟩ := hT
  have hlen : n = (l2.take n).length := by rw [List.length_take]; omega
  generalize l2.take n = l at *
  generalize l2.drop n = tl at *
  subst hst
  subst hlen
  simp only [Region.lexB, Bool.and_eq_true] at hB
  have e1 : Array.replicate (l ++ tl).toArray.size false = Array.replicate l.toArray.size false ++ Array.replicate tl.length false := by
    simp [Array.replicate_append_replicate]
  have e2 : (l ++ tl).toArray.size = l.toArray.size + tl.length := by simp
  refine wp_region_any hm ?_
  rw [e1, e2]
  have h2 := wpAnyG_lex (P := P) (S := S) (w0 := w) (Q := fun a' w' => Sep l D a' → wpList P (l ++ tl).toArray Q tl a' w') hB.1 l 0 (Array.replicate l.toArray.size false) (fun _ _ => True) a (by simp)
    (by intro j o _ hj; exfalso; simp [Array.getElem?_replicate] at hj; split at hj <;> simp at hj) (by simpa using hB.2) h.out
  have nol : ∀ j, (Array.replicate l.toArray.size false).getD j false = true → False := fun j hj => by
    rw [Array.getD_eq_getD_getElem?] at hj
    simp [Array.getElem?_replicate] at hj
    split at hj <;> simp at hj
  refine wpAny_of_growS (S := S) (w0 := w) (D := D) hE hD hA hG hS (fun _ _ h => h) _ _ (fun _ _ => True) _ _ (by simp) ?_ ⟨rfl, rfl, rfl, Nat.le_refl _, fun _ _ => rfl⟩ (fun _ => trivial) (fun _ _ _ _ _ => trivial) ⟨fun _ => 0, fun i _ hli => (nol i hli).elim, fun i _ _ _ hli => (nol i hli).elim⟩ (by simpa using h2)
  intro j o _ hj
  exfalso
  rw [Array.getD_eq_getD_getElem?, Array.getElem?_append] at hj
  split at hj
  · simp [Array.getElem?_replicate] at hj
    split at hj <;> simp at hj
  · simp [Array.getElem?_replicate] at hj
    split at hj <;> simp at hj
end Go.Proofs.Ytmobgamlednlhaa
