/-
  Files in parts: Fail.
-/
import Derived.Test.YtankhjchdnfpfaaExtApp
import Derived.Test.YtankhjchdnfpfaaGrowLast
import Derived.Test.YtankhjchdnfpfaaUndef
import Derived.BigRegion
namespace Go.Proofs.Ytankhjchdnfpfaa
open Go.RowKit
/-- A new row of known cells, from block lo on. -/
def GSpec.whb (lo : Nat) (E : TypeId) (n : Nat) (cs : Array Value) : GSpec :=
  ⟨Nat, 0, fun g => .slice (some ⟨g, 0, none⟩) n n, fun _ _ g w => lo ≤ g ∧ Whole w g E cs, fun _ _ _ _ => rfl, fun _ _ _ _ _ h k => ⟨h.1, h.2.below k h.2.lt⟩⟩
attribute [local go_sem] match_undef Oper.growAt Oper.growUpon GSpec.fix GSpec.row GSpec.wh GSpec.whb GSpec.own
attribute [local irreducible] wpList
def bools (ks : List Bool) : List Value := ks.map Value.bool
theorem bools_length (ks : List Bool) : (bools ks).length = ks.length := List.length_map _
theorem bools_get {ks : List Bool} {k : Nat} (h : k < ks.length) : (bools ks)[k]? = some (.bool ks[k]) := by
  unfold bools; rw [List.getElem?_map, List.getElem?_eq_getElem h]; rfl
theorem bools_set (ks : List Bool) (k : Nat) (b : Bool) : (bools ks).set k (.bool b) = bools (ks.set k b) := by
  unfold bools; rw [List.map_set]
theorem run_make_one {P : Program} {t e : TypeId} {z : Value} {by_ : Nat} (he : P.underlying t = some (.slice e)) (h : (P.info? e).map (fun i => (i.zero, i.size, i.bytes)) = some (some z, 1, by_)) (hz : z.cells = #[z]) (kl kc : IntKind) (n : Nat) (hn : by_ * n ≤ 281474976710656) (hn2 : n ≤ maxLen) (w : World) :
    (Instr.makeSlice t (.int kl (n : Int)) (.int kc (n : Int))).run P w = .ok (.slice (some ⟨w.heap.size, 0, none⟩) n n) (w.alloc (.cells (List.replicate n z).toArray e)) := by
  obtain ⟨i, hi, h0, h1, h2⟩ := info_parts h
  have hb : (i.bytes : Int) * (n : Int) ≤ 281474976710656 := by
    rw [h2]
    have h : ((by_ * n : Nat) : Int) ≤ 281474976710656 := by omega
    rwa [Int.natCast_mul] at h
  have hr := run_make (P := P) w t e i z he hi h0 kl kc n n (by omega) (by omega) hb (by unfold maxLen at hn2; omega)
  simp only [Int.toNat_natCast] at hr
  have e1 : madeCells z.cells (n * i.size) = (List.replicate n z).toArray := by
    rw [h1, Nat.mul_one, hz]
    apply Array.ext'
    rw [toList_madeCells_one]
  rw [hr, e1]
theorem boolV : (Try.prog.info? 4).map (fun i => (i.zero, i.size, i.bytes)) = some (some (.bool false), 1, 1) := by kernel_rfl
theorem bool_ne : 4 ≠ 30 ∧ 4 ≠ 52 ∧ 5 ≠ 4 ∧ 52 ≠ 4 := by decide
/-- How far the last loop of Fail has come. -/
def HalfF (F T gs : List Pa) (j : Nat) : Prop := gs = F.take j ++ T.drop j
theorem HalfF.step {F T gs : List Pa} {j : Nat} (h : HalfF F T gs j) (hl : F.length = T.length) (hj : j < F.length) : HalfF F T (gs.set j F[j]) (j + 1) ∧ ∃ hg : j < gs.length, gs[j] = T[j] := by
  have hm : (F.take j).length = j := by rw [List.length_take]; omega
  unfold HalfF at h ⊢
  subst h
  refine ⟨?_, by rw [List.length_append, hm, List.length_drop]; omega, ?_⟩
  · rw [List.set_append_right _ _ (by omega), hm, Nat.sub_self, List.drop_eq_getElem_cons (show j < T.length by omega), List.set_cons_zero, List.take_succ_eq_append_getElem hj, List.append_assoc]
    rfl
  · rw [List.getElem_append_right (by omega), List.getElem_drop]
    congr 1
    omega
/-- What is told so far, and what is left to tell with. -/
def Told (S : List Bool) (t : List Pa) (cur : List Bool) (ks : List Bool) (j : Nat) : Prop := cur.length = t.length ∧ cur.take j ++ Exn.stays (t.drop j) ks = S
theorem Told.step {S : List Bool} {t : List Pa} {cur ks : List Bool} {j : Nat} (h : Told S t cur ks j) (hj : j < t.length) (b : Bool) (hb : b = (t[j].2 || ks.headD false)) : Told S t (cur.set j b) (if t[j].2 then ks else ks.tail) (j + 1) := by
  obtain ⟨h1, h2⟩ := h
  refine ⟨by rw [List.length_set, h1], ?_⟩
  rw [List.drop_eq_getElem_cons hj] at h2
  have h3 := Exn.stays_step _ _ _ _ h2
  rw [List.take_succ_eq_append_getElem (by rw [List.length_set]; omega), List.getElem_set_self, List.take_set_of_le (Nat.le_refl _), hb]
  exact h3
theorem Rd.far_of {w w' : World} {s n g : Nat} {A : Option Addr} {xs : List Value} (h : Rd w w.heap.size s A n xs) (hg : w.grownBy w' (some g)) (hne : 0 < n → ∀ b o, A = some ⟨b, o, none⟩ → b ≠ g) : Rd w' w.heap.size s A n xs := by
  refine ⟨h.1, fun hn => ?_⟩
  obtain ⟨b, o, e, hb, hc⟩ := h.2 hn
  refine ⟨b, o, e, hb, fun j u hu => ?_⟩
  rw [World.cell?_of_block (hg.block b hb (fun e2 => hne hn b o e (by injection e2)))]
  exact hc j u hu
theorem own_short {w : World} {base : Nat} {e : TypeId} {s n : Nat} {A : Option Addr} {c i : Nat} {xs : List Value} (h : w.ownsRow base e s (.slice A n c) n xs) (hi : i ≤ n) : w.ownsRow base e s (.slice A i c) i (xs.take (i * s)) := by
  rcases h.2 with ⟨hv, h0⟩ | ⟨g, cap, cur, hv, hb, hh, h1, h2, h3, h4⟩
  · injection hv with h1 h2 h3
    subst h1
    subst h0
    subst h3
    obtain rfl : i = 0 := by omega
    refine ⟨by simp, .inl ⟨rfl, rfl⟩⟩
  · injection hv with e1 e2 e3
    subst e1
    subst e3
    refine own_cut h hh h3 ?_ hi
    rw [← h4, List.take_take, Nat.min_eq_left (Nat.mul_le_mul_right _ hi)]
theorem lastOf_zero {s : List Bool} (h : Exn.lastOf s = Exn.lastOf (s.take 0)) : Exn.lastOf s = 0 := by
  rw [h]
  simp [Exn.lastOf]
theorem Whole.ne {w : World} {g g' : Nat} {t t' : TypeId} {cs cs' : Array Value} (h : Whole w g t cs) (h' : Whole w g' t' cs') (hne : t ≠ t') : g ≠ g' := fun e => by
  subst e
  unfold Whole at h h'
  rw [h] at h'
  injection h' with h'
  injection h' with _ h2
  exact hne h2
theorem own_zrow {w : World} {y m : Nat} {e : TypeId} (hw : Whole w y e (zrow m)) (hm : m ≤ maxLen) : w.ownsRow 0 e 1 (.slice (some ⟨y, 0, none⟩) m m) m (byts (List.replicate m 0)) :=
  ⟨by rw [byts_length, List.length_replicate, Nat.mul_one], .inr ⟨y, m, zrow m, rfl, Nat.zero_le _, hw, Nat.le_refl _, hm, by rw [zrow_size, Nat.mul_one], by rw [zrow_byts, Nat.mul_one, List.take_of_length_le (by rw [byts_length, List.length_replicate]; exact Nat.le_refl _)]⟩⟩
set_option maxRecDepth 100000 in
set_option maxHeartbeats 16000000 in
theorem fail_any (w : World) (gf : Nat) (G : Nat → Prop) (hG : ∀ g, w.heap.size ≤ g → G g) (fs : List Pa) (h : Holds w gf G fs) (hn : fs.length ≤ 1000000) (hfl : ∀ p ∈ fs, p.1.length ≤ 1000000000) (K : Option Addr) (nk ck : Nat) (ks : List Bool) (hk : Rd w w.heap.size 1 K nk (bools ks)) (hck : nk ≤ ck) (hkg : 0 < nk → ∀ b o, K = some ⟨b, o, none⟩ → b ≠ gf) :
    Calls Try.prog 15 #[.pointer (some ⟨gf, 0, none⟩), .slice K nk ck] w (Done gf G (Exn.fail fs ks) w) := by
  have HT := Lib.hid (tidy_any w gf G fs h (by omega))
  have hgf : gf < w.heap.size := by
    obtain ⟨_, _, _, hW, _⟩ := h
    exact hW.lt
  have hlen := Exn.tidy_le fs
  have HGG := Lib.hid hG
  have HK := Lib.hid hk
  have HKG := Lib.hid hkg
  clear h hG hk hkg
  go_enter Try.func15, Try.ntmps15
  go_step3
  go_wp2_with fail
  refine HT.out.mono ?_
  clear HT
  obtain ⟨t, ht⟩ : ∃ t, Exn.tidy fs = t := ⟨_, rfl⟩
  obtain ⟨S, hS⟩ : ∃ S, Exn.stays t ks = S := ⟨_, rfl⟩
  have HFL := Lib.hid (show ∀ p ∈ t, p.1.length ≤ 1000000000 from fun p hp => hfl p (by rw [← ht] at hp; exact (Exn.tidy_mem hp).1))
  have HTT := Lib.hid ht
  have HSS := Lib.hid hS
  have hsl : S.length = t.length := by rw [← hS, Exn.stays_length]
  have HD0 := Lib.hid (show Told S t (List.replicate t.length false) ks 0 from ⟨by simp, by simpa using hS⟩)
  rw [ht] at hlen ⊢
  clear ht hS hfl
  rintro en w2 ⟨rfl, ⟨A, c, vs, h1, h2, h3⟩, hg⟩
  obtain ⟨N, hN⟩ : ∃ N, t.length = N := ⟨_, rfl⟩
  rw [hN] at h1 h2 hlen hsl
  have HSL := Lib.hid hsl
  have HN := Lib.hid hN
  have H1 := Lib.hid h1
  have H2 := Lib.hid h2
  have H3 := Lib.hid h3
  have q0 := h1.cell 0
  simp at q0
  have hgf2 := h1.lt
  replace HK := Lib.hid (HK.out.far_of hg HKG.out)
  have hmk := run_make_one (P := Try.prog) Try.underlying38 boolV rfl .i64 .i64 N (by omega) (by unfold maxLen; omega) w2
  have HG2 := Lib.hid hg
  have hcN := own_cap h2
  clear h1 h2 h3 hN hsl hg
  go_wp2_with fail
  have hbs := below1 w2 (.cells (List.replicate N (Value.bool false)).toArray 4)
  have HO0 := Lib.hid (show (w2.alloc (.cells (List.replicate N (Value.bool false)).toArray 4)).ownsRow w2.heap.size 4 1 (.slice (some ⟨w2.heap.size, 0, none⟩) N N) N (bools (List.replicate t.length false)) from by
    have h := World.ownsRow_lit (base := w2.heap.size) (e := 4) (size := 1) w2 (List.replicate N (Value.bool false)).toArray N (Nat.le_refl _) (by unfold maxLen; omega) (by simp)
    have e : bools (List.replicate t.length false) = (List.replicate N (Value.bool false)).toArray.toList := by unfold bools; rw [List.map_replicate, HN.out]
    rw [e]
    exact h)
  go_loopw [1, 5, 6, 24] (fun kv _ _ i wr => ∃ (j : Nat) (cur ks' : List Bool) (K' : Option Addr) (nk' ck' : Nat), j ≤ N ∧ i = .int .i64 j ∧ kv = .slice K' nk' ck' ∧ nk' ≤ ck' ∧ Hid (Told S t cur ks' j) ∧ Hid (Rd wr w.heap.size 1 K' nk' (bools ks')) ∧ Hid (wr.ownsRow w2.heap.size 4 1 (.slice (some ⟨w2.heap.size, 0, none⟩) N N) N (bools cur)) ∧ Below w2.heap.size w2 wr) (fun _ _ _ i _ => N - (intOf i).toNat)
  case atStart => exact ⟨0, _, ks, K, nk, ck, by omega, rfl, rfl, hck, HD0.out, HK.out.below (hbs.mono HG2.out.size), HO0.out, hbs⟩
  case round =>
    obtain ⟨j, cur, ks', K', nk', ck', hj, rfl, rfl, hck', HTD, HKR, HOR, hb⟩ := hrel
    by_cases hlt : j < N
    · have hd : decide ((j : Int) < (N : Int)) = true := by simp; omega
      have d1 : (0 : Int) ≤ (j : Int) := by omega
      have d2 : (j : Int) < (N : Int) := by omega
      have hjt : j < t.length := by have := HN.out; omega
      have hjc : j < cur.length := by have := HTD.out.1; omega
      obtain ⟨g, hA⟩ : ∃ g, A = some ⟨g, 0, none⟩ := by
        obtain ⟨g, _, e, _⟩ := own_whole H2.out (by omega)
        exact ⟨g, e⟩
      subst hA
      obtain ⟨A1, c1, hp1, hq1, _, _⟩ := H3.out.2 j hjt
      replace hp1 := own_cell (own_ext H2.out hb) hp1
      replace hq1 := own_cell (own_ext H2.out hb) hq1
      obtain ⟨p, hp⟩ : ∃ p, t[j] = p := ⟨_, rfl⟩
      have hst0 := HTD.out.step hjt
      rw [hp] at hp1 hq1 hst0
      obtain ⟨l, d⟩ := p
      simp only at hp1 hq1 hst0
      have HST0 := Lib.hid hst0
      clear hst0 hp
      have hoc := own_cell HOR.out (bools_get hjc)
      have hfz := HOR.out.frozenAt j
      obtain ⟨_, hwl, _⟩ := own_block HOR.out
      have hl2 : w2.heap.size < wr.heap.size := hwl.lt
      have hne1 : ¬ wr.heap.size = w2.heap.size := by omega
      have hne2 : ¬ w2.heap.size = wr.heap.size := by omega
      clear hwl
      have hKB : w.heap.size ≤ w2.heap.size := HG2.out.size
      have stp : ∀ (x : Bool) (ob : Obj), Hid (((wr.setCell ⟨w2.heap.size, j, none⟩ (.bool x)).alloc ob).ownsRow w2.heap.size 4 1 (.slice (some ⟨w2.heap.size, 0, none⟩) N N) N (bools (cur.set j x))) ∧ Hid (Rd ((wr.setCell ⟨w2.heap.size, j, none⟩ (.bool x)).alloc ob) w.heap.size 1 K' nk' (bools ks')) ∧ Below w2.heap.size w2 ((wr.setCell ⟨w2.heap.size, j, none⟩ (.bool x)).alloc ob) := by
        intro x ob
        have h1 := (HOR.out.stored j (.bool x)).1
        rw [bools_set] at h1
        have hb1 := hb.setCell (p := ⟨w2.heap.size, j, none⟩) (Nat.le_refl _) (.bool x)
        exact ⟨own_ext h1 (below1 _ ob), (HKR.out.setCell (p := ⟨w2.heap.size, j, none⟩) hKB (.bool x)).alloc (Nat.le_trans hKB hb1.size) ob, hb1.alloc hb1.size ob⟩
      have STP := Lib.hid stp
      clear stp
      cases d
      · by_cases h0 : nk' = 0
        · subst h0
          have hks : ks' = [] := List.eq_nil_of_length_eq_zero (by have := HKR.out.1; rw [bools_length] at this; omega)
          subst hks
          have hnew := Lib.hid (HST0.out false rfl)
          go_wp2_with fail
          go_roundw
          case rel =>
            obtain ⟨s1, s2, s3⟩ := STP.out false (.cells #[.slice A1 l.length c1, .bool false] 52)
            exact ⟨j + 1, _, [], K', 0, ck', by omega, by go_num, rfl, by omega, hnew, s2, s1, s3⟩
          case measure => simp [intOf] <;> omega
        · have t0 : decide ((0 : Int) < (nk' : Int)) = true := by simp; omega
          go_wp2_with fail
          obtain ⟨s1, s2, s3⟩ := STP.out false (.cells #[.slice A1 l.length c1, .bool false] 52)
          clear STP hp1 hq1 hoc hfz hne1 hne2 HKR HOR hb
          generalize (wr.setCell ⟨w2.heap.size, j, none⟩ (.bool false)).alloc (.cells #[.slice A1 l.length c1, .bool false] 52) = W at s1 s2 s3 ⊢
          obtain ⟨k, rest, rfl⟩ : ∃ k rest, ks' = k :: rest := by
            cases ks' with
            | nil =>
              have := s2.out.1
              rw [bools_length] at this
              simp at this
              omega
            | cons k rest => exact ⟨k, rest, rfl⟩
          have hnew := Lib.hid (HST0.out k (by simp))
          obtain ⟨b, o, rfl, hbb, hcs⟩ := s2.out.2 (by omega)
          have hk0 := hcs 0 (.bool k) rfl
          rw [Nat.add_zero] at hk0
          have hoc := own_cell s1.out (bools_get (show j < (cur.set j false).length by rw [List.length_set]; exact hjc))
          have hfz := s1.out.frozenAt j
          have hbne : ¬ b = w2.heap.size := by omega
          have e1 : (0 : Int) ≤ (j : Int) := by omega
          have e2 : (1 : Int) ≤ (nk' : Int) := by omega
          have e3 : (0 : Int) < (nk' : Int) := by omega
          have hst1 := (s1.out.stored j (.bool k)).1
          rw [bools_set, List.set_set] at hst1
          have HST1 := Lib.hid hst1
          clear hst1
          have HB1 := Lib.hid (s3.setCell (p := ⟨w2.heap.size, j, none⟩) (Nat.le_refl _) (.bool k))
          have HR1 := Lib.hid ((s2.out.cut (k := 1) (cap := ck') (by omega) hck').setCell (p := ⟨w2.heap.size, j, none⟩) hKB (.bool k))
          have HCS := Lib.hid hcs
          clear hcs
          by_cases hc1 : ck' = 1
          · subst hc1
            have hn1 : nk' = 1 := by omega
            subst hn1
            have hr2 : Rd (W.setCell ⟨w2.heap.size, j, none⟩ (.bool k)) w.heap.size 1 (some ⟨b, o, none⟩) 0 (bools rest) := HR1.out
            have HR2 := Lib.hid hr2
            clear hr2
            go_region_with fail
            go_wp2_with fail
            go_roundw
            case rel => exact ⟨j + 1, _, rest, _, 0, 0, by omega, by go_num, rfl, by omega, hnew, HR2, HST1, ⟨HB1.out.os, HB1.out.tape, HB1.out.output, HB1.out.size, HB1.out.block⟩⟩
            case measure => simp [intOf] <;> omega
          · have hr2 : Rd (W.setCell ⟨w2.heap.size, j, none⟩ (.bool k)) w.heap.size 1 (some ⟨b, o + 1, none⟩) (nk' - 1) (bools rest) := by
              have := HR1.out
              rw [if_neg hc1] at this
              exact this
            have HR2 := Lib.hid hr2
            clear hr2
            go_region_with fail
            go_wp2_with fail
            go_roundw
            case rel => exact ⟨j + 1, _, rest, _, nk' - 1, ck' - 1, by omega, by go_num, rfl, by omega, hnew, HR2, HST1, ⟨HB1.out.os, HB1.out.tape, HB1.out.output, HB1.out.size, HB1.out.block⟩⟩
            case measure => simp [intOf] <;> omega
      · have hnew := Lib.hid (HST0.out true rfl)
        go_wp2_with fail
        go_roundw
        case rel =>
          obtain ⟨s1, s2, s3⟩ := STP.out true (.cells #[.slice A1 l.length c1, .bool true] 52)
          exact ⟨j + 1, _, ks', K', nk', ck', by omega, by go_num, rfl, hck', hnew, s2, s1, s3⟩
        case measure => simp [intOf] <;> omega
    · obtain rfl : j = N := by omega
      go_wp2_with fail
      have HW3 := Lib.hid (H1.out.below hb hgf2)
      have HO3 := Lib.hid (own_ext H2.out hb)
      have HP3 := Lib.hid (H3.out.ext hb)
      have HG3 := Lib.hid (World.grownBy.trans HG2.out (grow_below (r := some gf) hb))
      have hcs : cur = S := by
        have h1 := HTD.out.2
        have h2 := HTD.out.1
        rw [List.take_of_length_le (by rw [h2, HN.out]; omega), List.drop_of_length_le (by rw [HN.out]; omega)] at h1
        simpa [Exn.stays] using h1
      subst hcs
      have HOS := Lib.hid (own_base HOR.out HG2.out.size)
      have HL2 := Lib.hid (show w.heap.size ≤ w2.heap.size from HG2.out.size)
      obtain ⟨sg, hsg⟩ : ∃ sg, w2.heap.size = sg := ⟨_, rfl⟩
      rw [hsg] at HOS HL2 ⊢
      clear HO0 hbs hmk HOR HTD HKR HD0 HK q0 H1 H2 H3 HG2 hb hsg
      have HLS := Lib.hid HSL.out
      clear HSL
      go_step3
      go_wp2_with fail
      go_loopw [7] (fun i wx => ∃ q : Nat, q ≤ j ∧ i = .int .i64 q ∧ Hid (Exn.lastOf cur = Exn.lastOf (cur.take q)) ∧ wx = wr) (fun i _ => (intOf i).toNat)
      case atStart => exact ⟨j, by omega, rfl, (by rw [List.take_of_length_le (by rw [HLS.out]; omega)]; rfl), rfl⟩
      case round =>
        obtain ⟨q, hq, rfl, HLQ, rfl⟩ := hrel
        have hcase : (∃ q', q = q' + 1 ∧ ∃ hc : q' < cur.length, cur[q'] = false) ∨ (q = 0) ∨ (∃ q', q = q' + 1 ∧ ∃ hc : q' < cur.length, cur[q'] = true) := by
          rcases Nat.eq_zero_or_pos q with h | h
          · exact .inr (.inl h)
          · have hc : q - 1 < cur.length := by have := HLS.out; omega
            cases hb : cur[q - 1] with
            | false => exact .inl ⟨q - 1, by omega, hc, hb⟩
            | true => exact .inr (.inr ⟨q - 1, by omega, hc, hb⟩)
        have e0 : (q : Int) ≤ (c : Int) := by omega
        rcases hcase with ⟨q', rfl, hqc, hqb⟩ | hq0 | ⟨q', hq0, hqc, hqb⟩
        · have hcb := own_cell HOS.out (bools_get hqc)
          rw [hqb] at hcb
          have HL3 := Lib.hid (show Exn.lastOf cur = Exn.lastOf (cur.take q') from by rw [HLQ.out, Exn.lastOf_take hqc, hqb]; rfl)
          have e1 : IntKind.i64.wrap (((q' + 1 : Nat) : Int) - 1) = (q' : Int) := by rw [IntKind.wrap_i64]; omega
          have e2 : decide ((0 : Int) < ((q' + 1 : Nat) : Int)) = true := by simp
          have e3 : (0 : Int) ≤ (q' : Int) := by omega
          have e4 : (q' : Int) < (j : Int) := by omega
          clear hqb
          go_wp2_with fail
          go_roundw
          case rel => exact ⟨q', by omega, rfl, HL3, by first | rfl | trivial⟩
          case measure => simp [intOf]
        · have HM := Lib.hid (show Exn.lastOf cur = q from by rw [hq0]; exact lastOf_zero (by rw [← hq0]; exact HLQ.out))
          have e2 : ¬ 0 < q := by omega
          have qf := HW3.out.cell 0
          have ff := HW3.out.frozen 0
          simp at qf
          clear hq0
          go_wp2_with fail
          have hgw := grow_put (w := wr) (g := gf) (.slice A q c)
          have HW4 := Lib.hid (HW3.out.put_ 0 (.slice A q c))
          have HO4 := Lib.hid (own_far (own_short HO3.out hq) HW3.out hgw part_ne.2.2.2.1)
          have HP4 := Lib.hid ((HP3.out.take (i := q) (by rw [HN.out]; exact hq)).keep fun _ _ _ ho => own_far ho HW3.out hgw part_ne.2.2.1)
          have HS4 := Lib.hid (own_far HOS.out HW3.out hgw bool_ne.1)
          have HG4 := Lib.hid (World.grownBy.trans HG3.out hgw)
          obtain ⟨F, hF⟩ : ∃ F, Exn.fail fs ks = F := ⟨_, rfl⟩
          have hFl : F.length = q := by rw [← hF, Exn.fail_length, HTT.out, HSS.out, HM.out]
          have hFg : ∀ i (h1 : i < F.length) (h2 : i < t.length) (h3 : i < cur.length), F[i] = Exn.after t[i] cur[i] := by
            intro i h1 h2 h3
            subst hF
            have h4 : i < (Exn.tidy fs).length := by rw [HTT.out]; exact h2
            have h5 : i < (Exn.stays (Exn.tidy fs) ks).length := by rw [HTT.out, HSS.out]; exact h3
            rw [Exn.fail_get h1 h4 h5]
            have h6 : (Exn.tidy fs)[i] = t[i] := List.getElem_of_eq HTT.out h4
            have h7 : (Exn.stays (Exn.tidy fs) ks)[i] = cur[i] := List.getElem_of_eq (by rw [HTT.out, HSS.out]) h5
            rw [h6, h7]
          have hTl : (t.take q).length = q := by rw [List.length_take, HN.out]; omega
          rw [hF]
          have HFL2 := Lib.hid hFl
          have HFG := Lib.hid hFg
          have HTL := Lib.hid hTl
          clear hF hFl hFg hTl hgw HG3 HW3 HO3 HP3 HOS
          go_loopw [8, 76] (fun _ i wx => ∃ (z : Nat) (gs : List Pa) (us : List Value), z ≤ q ∧ i = .int .i64 z ∧ Hid (HalfF F (t.take q) gs z) ∧ Hid (Whole wx gf 30 #[.slice A q c]) ∧ Hid (wx.ownsRow w.heap.size 52 2 (.slice A q c) q us) ∧ Hid (OwnPa wx G 5 gs us) ∧ Hid (wx.ownsRow w.heap.size 4 1 (.slice (some ⟨sg, 0, none⟩) j j) j (bools cur)) ∧ w.grownBy wx (some gf)) (fun _ i _ => q - (intOf i).toNat)
          case atStart => exact ⟨0, t.take q, _, by omega, rfl, (by unfold HalfF; simp : HalfF F (t.take q) (t.take q) 0), HW4.out, HO4.out, HP4.out, HS4.out, HG4.out⟩
          case round =>
            obtain ⟨z, gs, us, hz, rfl, HH, HW, HO, HP, HS, hgr⟩ := hrel
            clear HW4 HO4 HP4 HS4 HG4
            have qr := HW.out.cell 0
            simp at qr
            by_cases hlt : z < q
            · exfalso
              omega
            · obtain rfl : z = q := by omega
              go_wp2_with fail
              rw [Exit.noGoto_normal]
              go_end0
              have hgs : gs = F := by
                have := HH.out
                unfold HalfF at this
                rw [this, List.take_of_length_le (by rw [HFL2.out]; omega), List.drop_of_length_le (by rw [HTL.out]; omega), List.append_nil]
              rw [← hgs] at HFL2 ⊢
              refine ⟨rfl, ⟨A, c, us, ?_, ?_, HP.out⟩, hgr⟩
              · rw [HFL2.out]; exact HW.out
              · rw [HFL2.out]; exact HO.out
        · have hcb := own_cell HOS.out (bools_get hqc)
          rw [hqb] at hcb
          have HM := Lib.hid (show Exn.lastOf cur = q from by rw [HLQ.out, hq0, Exn.lastOf_take hqc, hqb]; rfl)
          rw [show q' = q - 1 from by omega] at hcb
          have e2 : 0 < q := by omega
          have qf := HW3.out.cell 0
          have ff := HW3.out.frozen 0
          simp at qf
          clear hqb hq0
          go_wp2_with fail
          have hgw := grow_put (w := wr) (g := gf) (.slice A q c)
          have HW4 := Lib.hid (HW3.out.put_ 0 (.slice A q c))
          have HO4 := Lib.hid (own_far (own_short HO3.out hq) HW3.out hgw part_ne.2.2.2.1)
          have HP4 := Lib.hid ((HP3.out.take (i := q) (by rw [HN.out]; exact hq)).keep fun _ _ _ ho => own_far ho HW3.out hgw part_ne.2.2.1)
          have HS4 := Lib.hid (own_far HOS.out HW3.out hgw bool_ne.1)
          have HG4 := Lib.hid (World.grownBy.trans HG3.out hgw)
          obtain ⟨F, hF⟩ : ∃ F, Exn.fail fs ks = F := ⟨_, rfl⟩
          have hFl : F.length = q := by rw [← hF, Exn.fail_length, HTT.out, HSS.out, HM.out]
          have hFg : ∀ i (h1 : i < F.length) (h2 : i < t.length) (h3 : i < cur.length), F[i] = Exn.after t[i] cur[i] := by
            intro i h1 h2 h3
            subst hF
            have h4 : i < (Exn.tidy fs).length := by rw [HTT.out]; exact h2
            have h5 : i < (Exn.stays (Exn.tidy fs) ks).length := by rw [HTT.out, HSS.out]; exact h3
            rw [Exn.fail_get h1 h4 h5]
            have h6 : (Exn.tidy fs)[i] = t[i] := List.getElem_of_eq HTT.out h4
            have h7 : (Exn.stays (Exn.tidy fs) ks)[i] = cur[i] := List.getElem_of_eq (by rw [HTT.out, HSS.out]) h5
            rw [h6, h7]
          have hTl : (t.take q).length = q := by rw [List.length_take, HN.out]; omega
          rw [hF]
          have HFL2 := Lib.hid hFl
          have HFG := Lib.hid hFg
          have HTL := Lib.hid hTl
          clear hF hFl hFg hTl hgw HG3 HW3 HO3 HP3 HOS
          go_loopw [8, 76] (fun _ i wx => ∃ (z : Nat) (gs : List Pa) (us : List Value), z ≤ q ∧ i = .int .i64 z ∧ Hid (HalfF F (t.take q) gs z) ∧ Hid (Whole wx gf 30 #[.slice A q c]) ∧ Hid (wx.ownsRow w.heap.size 52 2 (.slice A q c) q us) ∧ Hid (OwnPa wx G 5 gs us) ∧ Hid (wx.ownsRow w.heap.size 4 1 (.slice (some ⟨sg, 0, none⟩) j j) j (bools cur)) ∧ w.grownBy wx (some gf)) (fun _ i _ => q - (intOf i).toNat)
          case atStart => exact ⟨0, t.take q, _, by omega, rfl, (by unfold HalfF; simp : HalfF F (t.take q) (t.take q) 0), HW4.out, HO4.out, HP4.out, HS4.out, HG4.out⟩
          case round =>
            obtain ⟨z, gs, us, hz, rfl, HH, HW, HO, HP, HS, hgr⟩ := hrel
            clear HW4 HO4 HP4 HS4 HG4
            have qr := HW.out.cell 0
            simp at qr
            by_cases hlt : z < q
            · have hd : decide ((z : Int) < (q : Int)) = true := by simp; omega
              have d1 : (0 : Int) ≤ (z : Int) := by omega
              have d2 : (z : Int) < (q : Int) := by omega
              have d3 : (z : Int) < (j : Int) := by omega
              have hzt : z < t.length := by have := HN.out; omega
              have hzc : z < cur.length := by have := HLS.out; omega
              have hzF : z < F.length := by have := HFL2.out; omega
              obtain ⟨g, hA⟩ : ∃ g, A = some ⟨g, 0, none⟩ := by
                obtain ⟨g, _, e, _⟩ := own_whole HO.out (by omega)
                exact ⟨g, e⟩
              subst hA
              obtain ⟨cur2, hw, _, _, hgB⟩ := own_block HO.out
              obtain ⟨cur3, hws, _, _, _⟩ := own_block HS.out
              have n1 : ¬ g = gf := hw.ne HW.out part_ne.2.2.2.1
              have n2 : ¬ gf = g := fun e => n1 e.symm
              have n3 : ¬ sg = g := hws.ne hw bool_ne.2.1
              have n4 : ¬ g = sg := fun e => n3 e.symm
              obtain ⟨hH2, hzg, hgz⟩ := HH.out.step (by rw [HFL2.out, HTL.out]) hzF
              have hTz : (t.take q)[z]'(by rw [HTL.out]; exact hlt) = t[z] := List.getElem_take
              rw [hTz] at hgz
              have HFZ := Lib.hid (HFG.out z hzF hzt hzc)
              have HGZ := Lib.hid hgz
              have HH2 := Lib.hid hH2
              have hpm := HFL.out _ (List.getElem_mem hzt)
              obtain ⟨A1, c1, hp1, hq1, _, _⟩ := HP.out.2 z hzg
              rw [hgz] at hp1 hq1
              replace hp1 := own_cell HO.out hp1
              replace hq1 := own_cell HO.out hq1
              have hcb := own_cell HS.out (bools_get hzc)
              obtain ⟨m, hm⟩ : ∃ m, t[z].1.length = m := ⟨_, rfl⟩
              obtain ⟨d, hd2⟩ : ∃ m, t[z].2 = m := ⟨_, rfl⟩
              rw [hm] at hp1 hpm
              rw [hd2] at hq1
              have HM2 := Lib.hid hm
              have fr0 := hw.frozen (z * 2)
              have fr1 := hw.frozen (z * 2 + 1)
              have HWG := Lib.hid hw
              have hgl := hw.lt
              have hgfl := HW.out.lt
              clear hm hd2 hgz hH2 hTz hw hws
              have HGB := Lib.hid hgB
              clear hgB
              cases hb : cur[z] with
              | true =>
                rw [hb] at hcb
                have hFz : F[z] = (t[z].1, true) := by rw [HFZ.out, hb]; rfl
                have HFz := Lib.hid hFz
                have HST := Lib.hid (HO.out.stored (z * 2 + 1) (.bool true))
                clear hFz hb
                go_wp2_with fail
                have hg3 := grow_new hgr HGB.out HST.out.2
                have HW3 := Lib.hid (HW.out.far_of HST.out.2 n1)
                have HP3 := HP.out.mark hzg true
                rw [HGZ.out] at HP3
                have HP4 := Lib.hid (HP3.keep fun _ _ _ ho => own_far ho HWG.out HST.out.2 part_ne.1)
                have HS3 := Lib.hid (own_far HS.out HWG.out HST.out.2 bool_ne.2.1)
                have hH3 := HH2.out
                rw [HFz.out] at hH3
                go_roundw
                case rel => exact ⟨z + 1, _, _, by omega, by go_num, hH3, HW3, HST.out.1, HP4, HS3, hg3⟩
                case measure => simp [intOf] <;> omega
              | false =>
                rw [hb] at hcb
                have hFz : F[z] = (List.replicate m 0, true) := by rw [HFZ.out, hb, ← HM2.out]; rfl
                have HFz := Lib.hid hFz
                have MK := Lib.hid (fun w => run_make_bytes (P := Try.prog) Try.underlying26 makeV .i64 .i64 m (by omega) w)
                have QF := Lib.hid qr
                have QFL := Lib.hid hgfl
                have QJ := Lib.hid hp1
                have QJL := Lib.hid hgl
                clear hFz hb
                go_wp2_with fail
                clear qr hp1
                refine wp_region_last (fun k' => List.lookup k' [(3, .fix (.slice (some ⟨g, 0, none⟩) q c)), (8, .fix (.slice (some ⟨g, 0, none⟩) q c)), (12, .fix (.slice A1 m c1)), (14, .whb wr.heap.size 5 m (zrow m))]) _ rfl (by kernel_rfl) (by kernel_rfl) (by kernel_rfl) (by kernel_rfl) rfl rfl ?_
                simp only [List.dropLast]
                repeat (refine wpGrow_pure rfl (fun K hK => ?_); go_simp; refine hK.out _ ?_; clear hK K)
                refine wpGrow_eff _ rfl (fun wx he hcl => ?_) (fun _ K hK => ?_) rfl
                · clear hcl
                  have hq := (he.cell (p := ⟨gf, 0, none⟩) QFL.out).trans QF.out
                  go_simp
                  exact Below.refl _ _
                go_simp
                refine hK.out _ ?_
                clear hK K
                repeat (refine wpGrow_pure rfl (fun K hK => ?_); go_simp; refine hK.out _ ?_; clear hK K)
                refine wpGrow_eff _ rfl (fun wx he hcl => ?_) (fun _ K hK => ?_) rfl
                · clear hcl
                  have hq := (he.cell (p := ⟨gf, 0, none⟩) QFL.out).trans QF.out
                  go_simp
                  exact Below.refl _ _
                go_simp
                refine hK.out _ ?_
                clear hK K
                repeat (refine wpGrow_pure rfl (fun K hK => ?_); go_simp; refine hK.out _ ?_; clear hK K)
                refine wpGrow_eff _ rfl (fun wx he hcl => ?_) (fun _ K hK => ?_) rfl
                · clear hcl
                  have hq := (he.cell (p := ⟨g, z * 2, none⟩) QJL.out).trans QJ.out
                  go_simp
                  exact Below.refl _ _
                go_simp
                refine hK.out _ ?_
                clear hK K
                repeat (refine wpGrow_pure rfl (fun K hK => ?_); go_simp; refine hK.out _ ?_; clear hK K)
                refine wpGrow_eff _ rfl (fun wx he hcl => ?_) (fun (y : Nat) K hK => ?_) rfl
                · clear hcl
                  have hmk := MK.out wx
                  go_simp
                  exact ⟨⟨he.size, Whole.new _ _ _⟩, (Below.refl _ _).alloc (Nat.le_refl _) _⟩
                go_simp
                refine hK.out _ ?_
                clear hK K
                repeat (refine wpGrow_pure rfl (fun K hK => ?_); go_simp; refine hK.out _ ?_; clear hK K)
                refine wpGrow_nil fun wz he hfin => ?_
                have hmy : wr.heap.size ≤ y ∧ Whole wz y 5 (zrow m) := hfin.out 14
                have hmz := hmy.2
                have HYG := Lib.hid (show ∀ g o, some (⟨y, 0, none⟩ : Addr) = some ⟨g, o, none⟩ → G g from fun g o e => by
                  injection e with e
                  injection e with e
                  rw [← e]
                  exact HGG.out y (Nat.le_trans hgr.size hmy.1))
                clear hmy
                have hgw1 := (he.cell (p := ⟨gf, 0, none⟩) QFL.out).trans QF.out
                have hgw2 := (he.cell (p := ⟨g, z * 2, none⟩) QJL.out).trans QJ.out
                have hgw3 := (he.cell (p := ⟨g, z * 2 + 1, none⟩) QJL.out).trans hq1
                have WG := HWG.out.below he QJL.out
                have fz0 := WG.frozen (z * 2)
                have fz1 := WG.frozen (z * 2 + 1)
                have HWG2 := Lib.hid WG
                have HO5 := Lib.hid (own_ext HO.out he)
                have HP5 := Lib.hid (HP.out.ext he)
                have HS5 := Lib.hid (own_ext HS.out he)
                have HW5 := Lib.hid (HW.out.below he QFL.out)
                have hgr5 := World.grownBy.trans hgr (grow_below (r := some gf) he)
                have HMZ := Lib.hid hmz
                clear hfin WG hmz he hq1
                have HST := Lib.hid (HO5.out.stored (z * 2) (.slice (some ⟨y, 0, none⟩) m m))
                have HST2 := Lib.hid (HST.out.1.stored (z * 2 + 1) (.bool true))
                go_wp2_with fail
                have hg3 := grow_new (grow_new hgr5 HGB.out HST.out.2) HGB.out HST2.out.2
                have HW3 := Lib.hid ((HW5.out.far_of HST.out.2 n1).far_of HST2.out.2 n1)
                have HZR := Lib.hid (own_zrow HMZ.out (by unfold maxLen; omega))
                have HP3 := (HP5.out.swap hzg (by rw [List.length_replicate]) HZR.out HYG.out).mark (i := z) (by rw [List.length_set]; exact hzg) true
                rw [List.set_set, List.getElem_set_self] at HP3
                have HP4 := Lib.hid (HP3.keep fun _ _ _ ho => own_far (own_far ho HWG2.out HST.out.2 part_ne.1) (HWG2.out.put_ _ _) HST2.out.2 part_ne.1)
                have HS3 := Lib.hid (own_far (own_far HS5.out HWG2.out HST.out.2 bool_ne.2.1) (HWG2.out.put_ _ _) HST2.out.2 bool_ne.2.1)
                have hH3 := HH2.out
                rw [HFz.out] at hH3
                go_roundw
                case rel => exact ⟨z + 1, _, _, by omega, by go_num, hH3, HW3, HST2.out.1, HP4, HS3, hg3⟩
                case measure => simp [intOf] <;> omega
            · obtain rfl : z = q := by omega
              go_wp2_with fail
              rw [Exit.noGoto_normal]
              go_end0
              have hgs : gs = F := by
                have := HH.out
                unfold HalfF at this
                rw [this, List.take_of_length_le (by rw [HFL2.out]; omega), List.drop_of_length_le (by rw [HTL.out]; omega), List.append_nil]
              rw [← hgs] at HFL2 ⊢
              refine ⟨rfl, ⟨A, c, us, ?_, ?_, HP.out⟩, hgr⟩
              · rw [HFL2.out]; exact HW.out
              · rw [HFL2.out]; exact HO.out
end Go.Proofs.Ytankhjchdnfpfaa
