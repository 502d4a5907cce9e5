/-
  Journals: what is whole, all payloads.
-/
import Derived.Test.YtnncohajlmbedaaJouTell
namespace Go.Proofs.Ytnncohajlmbedaa
open Go.RowKit
theorem wpListIn_append_rd {F : Fence} {nF : Nat} {P : Program} {w : World} {ops : Array Oper} {rest : List Oper} {o : Oper} {a : Act} {Q : Exit → Act → World → Prop} (hgd : o.guard = none) (s x : Operand) (t : TypeId)
    (ho : o.op = .call { callee := .builtin .append, args := #[s, x], argTypes := #[t, t] })
    {e : TypeId} {size bytes : Nat} (he : ElemOK P t e size bytes) (base : Nat)
    (v : Value) (n : Nat) (xs : List Value) (hs : a.eval s = v) (hown : w.ownsRow base e size v n xs)
    (B : Nat) (A : Option Addr) (m c : Nat) (news : List Value) (hx : a.eval x = .slice A m c) (hr : Rd w B size A m news) (h1 : ∀ u ∈ news, u.oneCell' = true)
    (h63 : n + m ≤ maxLen) (hbytes : (n + m) * bytes ≤ 140737488355328) (hbase : base ≤ w.heap.size)
    (h : ∀ A' c' w', w'.ownsRow base e size (.slice A' (n + m) c') (n + m) (xs ++ news) → Below base w w' → w.grownBy w' v.ownBlock → wpListIn F nF P ops Q rest (a.put o.dst (.slice A' (n + m) c')) w') : wpListIn F nF P ops Q (o :: rest) a w := by
  refine wpListIn_plain hgd fun K hK => ?_
  obtain ⟨A', c', w', hrun, h2, h3, h4, _⟩ := run_append_rd (P := P) w (ty := o.type) he base v n xs hown B A m c news hr h1 h63 hbytes hbase
  unfold Oper.wpIn
  refine ⟨by simp [Oper.about, ho, resolve, Target.leads, Sem.run_pure], ?_⟩
  rw [Oper.semAt_plain F _ _ (by rw [ho]; intro c hc'; cases hc')]
  simp [execOp, ho, resolve, invoke, builtin, hs, hx, hrun, Result.andThen]
  exact hK _ _ (h A' c' w' h2 h4 h3)
theorem rowsW : ElemOK Try.prog 60 22 1 24 := ElemOK.mk_ (z := .slice none 0 0) Try.underlying60 (by kernel_rfl) rfl (by omega)
/-- Rows of bytes handed back, in memory of the call's own. -/
def JRows (ls : List (List UInt8)) (tr te : TypeId) (w : World) (en : Ending) (w' : World) : Prop :=
  ∃ D c vs, en = .returned (.slice D ls.length c) ∧ w'.ownsRow w.heap.size tr 1 (.slice D ls.length c) ls.length vs ∧ OwnRows w' w.heap.size te ls vs ∧ Below w.heap.size w w'
theorem OwnRows.calm {n base : Nat} {te : TypeId} {ls : List (List UInt8)} {vs : List Value} {A B : World} (h : OwnRows A base te ls vs) (k : Calm n A B) : OwnRows B base te ls vs :=
  ⟨h.1, fun j hj => by obtain ⟨A', c, h1, h2⟩ := h.2 j hj; exact ⟨A', c, h1, own_calm h2 k⟩⟩
theorem own_setFar {A : World} {base s n g o : Nat} {te t : TypeId} {v : Value} {xs : List Value} {cs : Array Value} (h : A.ownsRow base te s v n xs) (hw : Whole A g t cs) (hne : te ≠ t) (u : Value) : (A.setCell ⟨g, o, none⟩ u).ownsRow base te s v n xs := by
  refine ⟨h.1, h.2.imp id ?_⟩
  rintro ⟨k, cap, cur, hv, hk, hh, hr⟩
  refine ⟨k, cap, cur, hv, hk, (Below.heap_setCell A _ u k fun e => ?_).trans hh, hr⟩
  simp only at e
  subst e
  have h2 : A.heap[k]? = some (.cells cs t (0, 0)) := hw
  rw [hh] at h2
  injection h2 with h2
  injection h2 with _ h3
  exact hne h3
theorem OwnRows.setFar {A : World} {base g o : Nat} {te t : TypeId} {ls : List (List UInt8)} {vs : List Value} {cs : Array Value} (h : OwnRows A base te ls vs) (hw : Whole A g t cs) (hne : te ≠ t) (u : Value) : OwnRows (A.setCell ⟨g, o, none⟩ u) base te ls vs :=
  ⟨h.1, fun j hj => by obtain ⟨A', c, h1, h2⟩ := h.2 j hj; exact ⟨A', c, h1, own_setFar h2 hw hne u⟩⟩
theorem KeepsOthers.own {A B : World} {base s n : Nat} {te : TypeId} {v : Value} {xs : List Value} (h : A.ownsRow base te s v n xs) (hg : A.grownBy B v.ownBlock) : KeepsOthers A B :=
  KeepsOthers.of_grownBy hg fun j o e ho => by
    rcases h.2 with ⟨rfl, _⟩ | ⟨g, cap, cur, rfl, _, hh, _⟩
    · simp [Value.ownBlock] at e
    · have e2 : g = j := by simpa [Value.ownBlock] using e
      subst e2
      rw [hh] at ho
      cases ho
      rfl
theorem jou_ne : 5 ≠ 60 ∧ 22 ≠ 60 ∧ 5 ≠ 22 := by decide
theorem KeepsOthers.ext {A B : World} (h : Below A.heap.size A B) : KeepsOthers A B := ⟨h.size, fun k _ hk _ => (h.block k (Array.getElem?_eq_some_iff.1 hk).1).trans hk⟩
attribute [local go_sem] match_undef Oper.semAt_some

set_option maxRecDepth 100000 in
set_option maxHeartbeats 4000000 in
theorem whole_any (w : World) (A : Option Addr) (m cap : Nat) (b : List UInt8) (B : Nat) (hB : B ≤ w.heap.size) (h : Rd w B 1 A m (byts b)) (hc : m ≤ cap) (hm : cap ≤ maxLen) (hmn : m ≤ 1000000) :
    Calls Try.prog 54 #[.slice A m cap] w fun en w' => en = .returned (.int .i64 ((Jou.all b).2 : Nat)) ∧ Below w.heap.size w w' := by
  refine (callsIn_wide (n := 5)).1 (callsIn_of_wp_marks Try.func54 rfl trivial ?_ rfl)
  simp only [Try.ntmps54, List.size_toArray, List.length_cons, List.length_nil, Nat.reduceAdd, Nat.reduceSub, Array.replicate_succ, Array.replicate_zero, List.push_toArray, List.append_toArray, List.nil_append, List.cons_append]
  gi_wp2
  refine ⟨trivial, ?_⟩
  refine (callsIn_wide.2 (payloads_any _ A m cap)).mono ?_
  rintro en w1 ⟨rfl, rfl⟩
  gi_wp2
  have k0 := (Whole.new w 3 #[.int .i64 0]).alloc (.cells #[.slice A m cap] 22)
  have kb := Whole.new (w.alloc (.cells #[.int .i64 0] 3)) 22 #[.slice A m cap]
  rw [World.size_alloc] at kb
  have hb2 := (below1 w (.cells #[.int .i64 0] 3)).trans ((below1 (w.alloc (.cells #[.int .i64 0] 3)) (.cells #[.slice A m cap] 22)).mono (by simp))
  generalize (w.alloc (.cells #[.int .i64 0] 3)).alloc (.cells #[.slice A m cap] 22) = w2 at *
  have hz : w.heap.size + 1 < w2.heap.size := kb.lt
  refine range_mem rfl (enters_of Try.func95 (by kernel_rfl) rfl)
    (payloads_tell (5 - 1) (by omega) (w.heap.size + 1) w.heap.size A m cap b w2 (by omega) kb ((h.below (hb2.mono hB)).more hB) hc hm hmn) (Below.refl _ _) (fun _ _ _ h k => h.trans _ _ _ k) (keepsBox.calm (by omega) hz) (fun _ => rfl)
    (fun pre W => Whole W w.heap.size 3 #[.int .i64 (lastPlace pre : Nat)] ∧ Below w.heap.size w W) (fun pre x _ W => Whole W w.heap.size 3 #[.int .i64 (x.1 : Nat)] ∧ Below w.heap.size w W)
    (fun s A B hs hc => ⟨hs.1.calm hc, hs.2.trans (hc.below.mono (by omega))⟩) (fun s x b A B hs hc => ⟨hs.1.calm hc, hs.2.trans (hc.below.mono (by omega))⟩) ⟨k0, hb2⟩ ?assign ?body ?done
  case assign =>
    rintro l pre x W ⟨hw, hbw⟩ hx
    have c0 := hw.cell 0
    have f0 := hw.frozen 0
    have l0 := hw.lt
    simp at c0
    dsimp only [encPay]
    gi_wp2
    exact ⟨⟨hw.put_ 0 _, hbw.setCell (Nat.le_refl _) _⟩, KeepsOthers.setCell _ _ _, (Below.refl w.heap.size W).setCell (p := ⟨w.heap.size, 0, none⟩) (Nat.le_refl _) _, Below.heap_setCell W _ _ _ (by simp)⟩
  case body =>
    rintro l pre x b W ⟨hw, hbw⟩
    gi_wp2
    exact ⟨KeepsOthers.refl _, ⟨Below.refl _ _, rfl⟩, by rw [lastPlace_snoc]; exact hw, hbw⟩
  case done =>
    rintro D xs W hD hS ⟨hw, hbw⟩ hK
    have c0 := hw.cell 0
    have f0 := hw.frozen 0
    have l0 := hw.lt
    simp at c0
    gi_wp2
    have hK3 := (KeepsOthers.setCell W ⟨w.heap.size, 0, none⟩ (.int .i64 (lastPlace xs : Nat))).same D _ hK rfl
    have w3 := hw.put_ 0 (.int .i64 (lastPlace xs : Nat))
    have cm : Calm w.heap.size _ _ := Calm.put (.deferred none) (by omega) hK3 rfl
    have w4 := w3.calm cm
    have c4 := w4.cell 0
    have b4 := (hbw.setCell (p := ⟨w.heap.size, 0, none⟩) (Nat.le_refl _) (.int .i64 (lastPlace xs : Nat))).trans cm.below
    simp at c4
    refine ⟨by simp, .inl ⟨_, _, rfl, run_takeDeferred hK3, ?_⟩⟩
    refine ⟨.int .i64 (lastPlace xs : Nat), by simp [results, Try.f54, go_sem, c4], ?_, b4⟩
    have := congrArg Prod.snd hS
    simp only at this
    rw [this]

set_option maxRecDepth 100000 in
set_option maxHeartbeats 8000000 in
theorem jall_any (w : World) (A : Option Addr) (m cap : Nat) (b : List UInt8) (B : Nat) (hB : B ≤ w.heap.size) (h : Rd w B 1 A m (byts b)) (hc : m ≤ cap) (hm : cap ≤ maxLen) (hmn : m ≤ 1000000) :
    Calls Try.prog 56 #[.slice A m cap] w (JRows (Jou.all b).1 22 5 w) := by
  refine (callsIn_wide (n := 5)).1 (callsIn_of_wp_marks Try.func56 rfl trivial ?_ rfl)
  simp only [Try.ntmps56, List.size_toArray, List.length_cons, List.length_nil, Nat.reduceAdd, Nat.reduceSub, Array.replicate_succ, Array.replicate_zero, List.push_toArray, List.append_toArray, List.nil_append, List.cons_append]
  gi_wp2
  refine ⟨trivial, ?_⟩
  refine (callsIn_wide.2 (payloads_any _ A m cap)).mono ?_
  rintro en w1 ⟨rfl, rfl⟩
  gi_wp2
  have k0 := (Whole.new w 60 #[.slice none 0 0]).alloc (.cells #[.slice A m cap] 22)
  have kb := Whole.new (w.alloc (.cells #[.slice none 0 0] 60)) 22 #[.slice A m cap]
  rw [World.size_alloc] at kb
  have hb2 := (below1 w (.cells #[.slice none 0 0] 60)).trans ((below1 (w.alloc (.cells #[.slice none 0 0] 60)) (.cells #[.slice A m cap] 22)).mono (by simp))
  generalize (w.alloc (.cells #[.slice none 0 0] 60)).alloc (.cells #[.slice A m cap] 22) = w2 at *
  have hz : w.heap.size + 1 < w2.heap.size := kb.lt
  have hR2 := Lib.hid ((h.below (hb2.mono hB)).more hB)
  clear h
  obtain ⟨g0, hg0⟩ : ∃ g, w.heap.size = g := ⟨_, rfl⟩
  obtain ⟨G, hG⟩ : ∃ G, w2.heap.size = G := ⟨_, rfl⟩
  rw [hg0] at kb k0 hb2 hR2 hB ⊢
  have hgG : g0 + 1 < G := by omega
  refine range_mem rfl (enters_of Try.func95 (by kernel_rfl) rfl)
    (payloads_tell (5 - 1) (by omega) (g0 + 1) g0 A m cap b w2 (by omega) kb hR2.out hc hm hmn) (Below.refl _ _) (fun _ _ _ h k => h.trans _ _ _ k) (keepsBox.calm (by omega) (by omega)) (fun _ => rfl)
    (fun pre W => pre.length ≤ 1000001 ∧ ∃ D c vs, Whole W g0 60 #[.slice D pre.length c] ∧ W.ownsRow G 22 1 (.slice D pre.length c) pre.length vs ∧ OwnRows W g0 5 (pre.map (·.2.2)) vs ∧ Below g0 w W ∧ G ≤ W.heap.size)
    (fun pre x a W => a = { tmps := #[.slice A m cap, undef, .pointer (some ⟨g0, 0, none⟩), undef, .slice x.2.1.1 x.2.2.length x.2.1.2, .slice A m cap, .func (.func 95) #[] #[.pointer (some ⟨g0 + 1, 0, none⟩)], .int .i64 (x.1 : Nat), .slice x.2.1.1 x.2.2.length x.2.1.2, undef, undef, undef, undef, undef], defers := [] } ∧ pre.length ≤ 1000000 ∧ W.ownsRow g0 5 1 (.slice x.2.1.1 x.2.2.length x.2.1.2) x.2.2.length (byts x.2.2) ∧
      ∃ D c vs, Whole W g0 60 #[.slice D pre.length c] ∧ W.ownsRow G 22 1 (.slice D pre.length c) pre.length vs ∧ OwnRows W g0 5 (pre.map (·.2.2)) vs ∧ Below g0 w W ∧ G ≤ W.heap.size)
    (fun s A B hs hc => by
      obtain ⟨h0, D, c, vs, h1, h2, h3, h4, h5⟩ := hs
      exact ⟨h0, D, c, vs, h1.calm hc, own_calm h2 hc, h3.calm hc, h4.trans (hc.below.mono (by omega)), Nat.le_trans h5 hc.below.size⟩)
    (fun s x a A B hs hc => by
      obtain ⟨ha, h0, hp, D, c, vs, h1, h2, h3, h4, h5⟩ := hs
      exact ⟨ha, h0, own_calm hp hc, D, c, vs, h1.calm hc, own_calm h2 hc, h3.calm hc, h4.trans (hc.below.mono (by omega)), Nat.le_trans h5 hc.below.size⟩)
    ⟨by simp, none, 0, [], k0, World.ownsRow_nil _ _ _ _, OwnRows.nil _ _ _, hb2, by omega⟩ ?assign ?body ?done
  case assign =>
    rintro l pre x W ⟨h0, D, c, vs, h1, h2, h3, h4, h5⟩ hx
    dsimp only [encPay]
    gi_wp2
    exact ⟨⟨by trivial, hx.1, hx.2, D, c, vs, h1, h2, h3, h4, h5⟩, KeepsOthers.refl _, Below.refl _ _, rfl⟩
  case body =>
    rintro l pre x a W ⟨rfl, h0, hp, D, c, vs, h1, h2, h3, h4, h5⟩
    obtain ⟨N, hN⟩ : ∃ N, pre.length = N := ⟨_, rfl⟩
    rw [hN] at h1 h2 h0
    have H1 := Lib.hid h1
    have H2 := Lib.hid h2
    have H3 := Lib.hid h3
    have H4 := Lib.hid h4
    have HP := Lib.hid hp
    have HN := Lib.hid hN
    have c0 := h1.cell 0
    have l0 := h1.lt
    simp at c0
    have HW := Lib.hid (Rd.new1 W 22 (.slice x.2.1.1 x.2.2.length x.2.1.2))
    have hz3 : G ≤ (W.alloc (.cells #[.slice x.2.1.1 x.2.2.length x.2.1.2] 22)).heap.size := by simp; omega
    clear h1 h2 h3 h4 hp hN
    gi_wp2_with (gi_at_builtin; refine wpListIn_append_rd rfl (.tmp 9) (.tmp 11) _ rfl rowsW G _ N _ rfl (H2.out.alloc _) _ (some ⟨W.heap.size, 0, none⟩) 1 1 _ rfl HW.out (by intro u hu; simp at hu; subst hu; rfl) (by unfold maxLen; omega) (by omega) hz3 ?_; intro D6 c6 w6 ho6 hb6 hg6; have kx := (H1.out.alloc (.cells #[.slice x.2.1.1 x.2.2.length x.2.1.2] 22)).below hb6 (by omega); have cx := kx.cell 0; have fx := kx.frozen 0; have lx := kx.lt; simp at cx; have HO6 := Lib.hid ho6; have HB6 := Lib.hid hb6; have HG6 := Lib.hid hg6; have KX := Lib.hid kx; clear ho6 hb6 hg6 kx)
    have ha := below1 W (.cells #[.slice x.2.1.1 x.2.2.length x.2.1.2] 22)
    have h6 := ha.mono (show g0 ≤ W.heap.size by omega)
    have b6 := h6.trans (HB6.out.mono (show g0 ≤ G by omega))
    have hrows := ((H3.out.ext ha).kept HG6.out (H2.out.alloc _) jou_ne.2.2).snoc rfl (own_kept (HP.out.alloc _) HG6.out (H2.out.alloc _) jou_ne.2.2)
    have e1 : (pre ++ [x]).length = N + 1 := by rw [List.length_append, List.length_singleton, HN.out]
    have hfar : ∀ q, D6 = some ⟨q, 0, none⟩ → q ≠ g0 := fun q hq => by have := (own_lt HO6.out q hq).1; omega
    refine ⟨?_, ⟨?_, ?_⟩, by rw [e1]; omega, D6, c6, vs ++ [.slice x.2.1.1 x.2.2.length x.2.1.2], ?_, ?_, ?_, ?_, ?_⟩
    · exact (KeepsOthers.alloc _ _).trans ((KeepsOthers.own (H2.out.alloc _) HG6.out).trans (KeepsOthers.setCell _ _ _))
    · exact b6.setCell (p := ⟨g0, 0, none⟩) (Nat.le_refl _) _
    · exact (Below.heap_setCell w6 _ _ (g0 + 1) (by simp)).trans ((HB6.out.block (g0 + 1) (by omega)).trans (ha.block (g0 + 1) (by omega)))
    · rw [e1]
      exact KX.out.put_ 0 _
    · rw [e1]
      exact own_far HO6.out hfar _
    · rw [List.map_append]
      exact OwnRows.setFar hrows KX.out jou_ne.1 _
    · exact (H4.out.trans b6).setCell (p := ⟨g0, 0, none⟩) (Nat.le_refl _) _
    · have := HB6.out.size
      simp at this ⊢
      omega
  case done =>
    rintro D xs W hD hS ⟨h0, E, c, vs, h1, h2, h3, h4, h5⟩ hK
    have c0 := h1.cell 0
    have f0 := h1.frozen 0
    have l0 := h1.lt
    simp at c0
    gi_wp2
    have hK3 := (KeepsOthers.setCell W ⟨g0, 0, none⟩ (.slice E xs.length c)).same D _ hK rfl
    have w3 := h1.put_ 0 (.slice E xs.length c)
    have cm : Calm g0 _ _ := Calm.put (.deferred none) (by omega) hK3 rfl
    have w4 := w3.calm cm
    have c4 := w4.cell 0
    have b4 := (h4.setCell (p := ⟨g0, 0, none⟩) (Nat.le_refl _) (.slice E xs.length c)).trans cm.below
    have o4 := own_calm (own_setFar (o := 0) h2 h1 jou_ne.2.1 (.slice E xs.length c)) cm
    have r4 := (OwnRows.setFar (o := 0) h3 h1 jou_ne.1 (.slice E xs.length c)).calm cm
    simp at c4
    have e1 : (Jou.all b).1 = xs.map (·.2.2) := (congrArg Prod.fst hS).symm
    have e2 : (Jou.all b).1.length = xs.length := by rw [e1, List.length_map]
    refine ⟨by simp, .inl ⟨_, _, rfl, run_takeDeferred hK3, ?_⟩⟩
    refine ⟨.slice E xs.length c, by simp [results, Try.f56, go_sem, c4], ?_⟩
    unfold JRows
    rw [hg0, e2, e1]
    exact ⟨E, c, vs, rfl, own_base o4 (by omega), r4, b4⟩

end Go.Proofs.Ytnncohajlmbedaa
