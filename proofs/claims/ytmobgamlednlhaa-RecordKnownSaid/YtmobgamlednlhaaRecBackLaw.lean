/-
  Records: what is written is parsed as it was; what is parsed is written as the bytes that it came of. Plain Lean, no function of the program in sight.
-/
import Derived.Test.YtmobgamlednlhaaRecPar
import Derived.Test.YtmobgamlednlhaaVarBackLaw
import Derived.Test.YtmobgamlednlhaaFraLaw
namespace Go.Proofs.Ytmobgamlednlhaa
open Go.RowKit
namespace Fra
theorem take_bytes (pre rest : List UInt8) (k : UInt8) (bd : List UInt8) (h : bd.length ≤ 65535) :
    take (pre ++ (bytes k bd ++ rest)) (pre.length : Nat) = (k, bd, ((pre.length + (bytes k bd).length : Nat) : Int), 0) := by
  have hL := bytes_length k bd
  have hh := head_length k bd
  obtain ⟨b, hb⟩ : ∃ b, pre ++ (bytes k bd ++ rest) = b := ⟨_, rfl⟩
  have hbl : b.length = pre.length + ((bytes k bd).length + rest.length) := by rw [← hb, List.length_append, List.length_append]
  have hq : pre.length < b.length := by omega
  have e1 : b = (pre ++ [k]) ++ (Var.put bd.length ++ (bd ++ sum4 (Crc.update 0 (up k bd)) ++ rest)) := by
    rw [← hb]; unfold bytes up head; simp
  have hv := Var.take_put (pre ++ [k]) (bd ++ sum4 (Crc.update 0 (up k bd)) ++ rest) bd.length (by omega)
  rw [← e1, List.length_append, List.length_singleton] at hv
  have hv2 : Var.take b ((pre.length : Int) + 1) = (bd.length, ((pre.length + 1 + (Var.put bd.length).length : Nat) : Int), 0) := by
    rw [← hv]; congr 1
  have hbq : b[pre.length] = k := by
    have h1 : b[pre.length]? = some k := by rw [← hb, List.getElem?_append_right (Nat.le_refl _)]; simp [bytes, up, head]
    rw [List.getElem?_eq_getElem hq] at h1
    injection h1
  have hbd : (b.take (pre.length + 1 + (Var.put bd.length).length + bd.length)).drop (pre.length + 1 + (Var.put bd.length).length) = bd := by
    rw [e1, ← List.append_assoc]
    have e2 : (pre ++ [k] ++ Var.put bd.length).length = pre.length + 1 + (Var.put bd.length).length := by simp; omega
    rw [← e2, List.take_length_add_append, List.drop_left]
    rw [List.append_assoc bd, List.take_left]
  have hput := (Var.put_length bd.length).1
  have hlen : pre.length + 1 + (Var.put bd.length).length + bd.length + 4 ≤ b.length := by omega
  have hat := bytes_at hq hv2 (by omega) hlen
  rw [hbq, hbd] at hat
  have hsum := hat.2.1 (by
    rw [← hat.1, ← hb, List.drop_left, List.take_left])
  rw [hb]
  unfold take
  rw [if_neg (by omega), hv2]
  simp only [Int.toNat_natCast]
  rw [if_neg (by simp), if_neg (by omega), if_neg (by omega), if_pos hsum, hbd]
  have h3 : b.getD pre.length 0 = k := by simp [List.getD, hq, hbq]
  rw [h3]
  congr 3
  omega
theorem one_bytes (k : UInt8) (bd : List UInt8) (h : bd.length ≤ 65535) : one (bytes k bd) = (k, bd, 0) := by
  have e := take_bytes [] [] k bd h
  simp only [List.nil_append, List.append_nil, List.length_nil, Nat.zero_add] at e
  have e0 : take (bytes k bd) 0 = (k, bd, ((bytes k bd).length : Int), 0) := e
  unfold one
  rw [e0]
  simp
theorem one_back {b : List UInt8} {k : UInt8} {bd : List UInt8} (h : one b = (k, bd, 0)) : b = bytes k bd ∧ bd.length ≤ 65535 := by
  unfold one at h
  split at h
  · rename_i h0
    injection h with _ h
    injection h with _ h
    exact absurd h h0
  · split at h
    · injection h with _ h
      injection h with _ h
      exact absurd h (by decide)
    · rename_i h0 h1
      rcases way b 0 with ⟨_, e⟩ | ⟨q, hp, hq, x, hx, hv, e⟩ | ⟨q, v, s, hp, hq, hv, hs, hs2, hbig, h64, e⟩ | ⟨q, v, s, hp, hq, hv, hs, hs2, hbig, hlen, e⟩ | ⟨q, v, s, hp, hq, hv, hs, hs2, hbig, hlen, hsum, e⟩ | ⟨q, v, s, hp, hq, hv, hs, hs2, hbig, hlen, hsum, e⟩
      · rw [e] at h0; exact absurd h0 (by simp)
      · rw [e] at h0; exact absurd h0 (by simp; omega)
      · rw [e] at h0; exact absurd h0 (by simp)
      · rw [e] at h0; exact absurd h0 (by simp)
      · rw [e] at h0; exact absurd h0 (by simp)
      · rw [e] at h h1
        simp only at h h1
        obtain rfl : q = 0 := by omega
        have hat := bytes_at hq hv hs hlen
        have h2 := hat.2.2 (by simpa using hsum)
        rw [List.drop_zero, List.take_of_length_le (by omega)] at h2
        injection h with e1 e2
        injection e2 with e2 _
        rw [← e1, ← e2]
        exact ⟨h2, by rw [List.length_drop, List.length_take]; omega⟩
end Fra
namespace Rc
/-- A place filled as in r. -/
def fillStep (r x : Rc) (i : Nat) : Rc := if i ≤ 9 then x.put i (r.at_ i) ⟨#[]⟩ else x.put i 0 (r.tat i)
theorem enc_cons (r : Rc) (i : Nat) (l : List Nat) : r.enc (i :: l) = r.encStep i ++ r.enc l := rfl
theorem step_enc (pre rest : List UInt8) (r x : Rc) (i : Nat) (hok : r.ok) : readStep (pre ++ (r.encStep i ++ rest)) (x, ((pre.length : Nat) : Int), 0) i = (fillStep r x i, ((pre.length + (r.encStep i).length : Nat) : Int), 0) := by
  unfold readStep
  rw [if_pos rfl]
  by_cases h : i ≤ 9
  · have e : r.encStep i = Var.put (r.at_ i) := by unfold encStep; rw [if_pos h]
    have ht := Var.take_put pre rest (r.at_ i) (ok_at hok i)
    rw [e, if_pos h]
    simp only [ht]
    unfold fillStep
    rw [if_pos h]
  · have e : r.encStep i = Var.put (r.tat i).size ++ (r.tat i).data.toList := by unfold encStep; rw [if_neg h]
    have hs := ok_tat hok i
    unfold maxLen at hs
    have ht := Var.ttext_put pre (r.tat i).data.toList rest (by rw [size_list]; omega)
    rw [size_list] at ht
    rw [e, if_neg h]
    simp only [ht, Array.toArray_toList]
    unfold fillStep
    rw [if_neg h]
theorem read_enc {r : Rc} (hok : r.ok) : ∀ (l : List Nat) (pre rest : List UInt8) (x : Rc), l.foldl (readStep (pre ++ (r.enc l ++ rest))) (x, ((pre.length : Nat) : Int), 0) = (l.foldl (fillStep r) x, ((pre.length + (r.enc l).length : Nat) : Int), 0)
  | [], pre, rest, x => by simp [enc]
  | i :: l, pre, rest, x => by
    rw [List.foldl_cons, List.foldl_cons, enc_cons, List.append_assoc, step_enc pre (r.enc l ++ rest) r x i hok]
    have h := read_enc hok l (pre ++ r.encStep i) rest (fillStep r x i)
    rw [List.append_assoc, List.length_append] at h
    rw [h, List.length_append]
    congr 3
    omega
theorem read_all_enc {r : Rc} (hok : r.ok) (x : Rc) (l : List Nat) : readAll (r.enc l) x l = (l.foldl (fillStep r) x, (((r.enc l).length : Nat) : Int), 0) := by
  have h := read_enc hok l [] [] x
  simp only [List.nil_append, List.append_nil, List.length_nil, Nat.zero_add] at h
  exact h
theorem right_k {r : Rc} (h : r.right = true) : 1 ≤ r.k ∧ r.k ≤ 11 := by
  unfold right at h
  simp only [Bool.and_eq_true, decide_eq_true_eq] at h
  exact h.1.1.1.1
theorem fill_right {r : Rc} (h : r.right = true) : (places r.k).foldl (fillStep r) (zero r.k) = r := by
  have hk := right_k h
  obtain ⟨k, n0, n1, n2, n3, n4, n5, n6, n7, n8, s0, s1⟩ := r
  obtain ⟨h1, h2⟩ := hk
  rcases twelve h1 h2 with e | e | e | e | e | e | e | e | e | e | e
  all_goals (simp only at e; subst e)
  · have h3 := (right1 n0 n1 n2 n3 n4 n5 n6 n7 n8 s0 s1).1 h
    have ht : (places 1).foldl (fillStep ⟨1, n0, n1, n2, n3, n4, n5, n6, n7, n8, s0, s1⟩) (zero 1) = (⟨1, n0, n1, n2, n3, n4, 0, 0, 0, 0, ⟨#[]⟩, ⟨#[]⟩⟩ : Rc) := rfl
    rw [ht]
    simp only [Rc.mk.injEq, eq_comm (a := (⟨#[]⟩ : ByteArray)), empty_iff]
    and_intros <;> first | exact True.intro | rfl | omega
  · have h3 := (right2 n0 n1 n2 n3 n4 n5 n6 n7 n8 s0 s1).1 h
    have ht : (places 2).foldl (fillStep ⟨2, n0, n1, n2, n3, n4, n5, n6, n7, n8, s0, s1⟩) (zero 2) = (⟨2, n0, n1, n2, n3, n4, 0, 0, 0, 0, ⟨#[]⟩, ⟨#[]⟩⟩ : Rc) := rfl
    rw [ht]
    simp only [Rc.mk.injEq, eq_comm (a := (⟨#[]⟩ : ByteArray)), empty_iff]
    and_intros <;> first | exact True.intro | rfl | omega
  · have h3 := (right3 n0 n1 n2 n3 n4 n5 n6 n7 n8 s0 s1).1 h
    have ht : (places 3).foldl (fillStep ⟨3, n0, n1, n2, n3, n4, n5, n6, n7, n8, s0, s1⟩) (zero 3) = (⟨3, n0, n1, n2, n3, 0, 0, 0, 0, 0, ⟨#[]⟩, ⟨#[]⟩⟩ : Rc) := rfl
    rw [ht]
    simp only [Rc.mk.injEq, eq_comm (a := (⟨#[]⟩ : ByteArray)), empty_iff]
    and_intros <;> first | exact True.intro | rfl | omega
  · have h3 := (right4 n0 n1 n2 n3 n4 n5 n6 n7 n8 s0 s1).1 h
    have ht : (places 4).foldl (fillStep ⟨4, n0, n1, n2, n3, n4, n5, n6, n7, n8, s0, s1⟩) (zero 4) = (⟨4, n0, n1, n2, n3, 0, n5, 0, n7, n8, ⟨#[]⟩, ⟨#[]⟩⟩ : Rc) := rfl
    rw [ht]
    simp only [Rc.mk.injEq, eq_comm (a := (⟨#[]⟩ : ByteArray)), empty_iff]
    and_intros <;> first | exact True.intro | rfl | omega
  · have h3 := (right5 n0 n1 n2 n3 n4 n5 n6 n7 n8 s0 s1).1 h
    have ht : (places 5).foldl (fillStep ⟨5, n0, n1, n2, n3, n4, n5, n6, n7, n8, s0, s1⟩) (zero 5) = (⟨5, n0, n1, n2, 0, n4, n5, 0, 0, 0, ⟨#[]⟩, ⟨#[]⟩⟩ : Rc) := rfl
    rw [ht]
    simp only [Rc.mk.injEq, eq_comm (a := (⟨#[]⟩ : ByteArray)), empty_iff]
    and_intros <;> first | exact True.intro | rfl | omega
  · have h3 := (right6 n0 n1 n2 n3 n4 n5 n6 n7 n8 s0 s1).1 h
    have ht : (places 6).foldl (fillStep ⟨6, n0, n1, n2, n3, n4, n5, n6, n7, n8, s0, s1⟩) (zero 6) = (⟨6, n0, n1, n2, 0, 0, n5, 0, 0, 0, ⟨#[]⟩, ⟨#[]⟩⟩ : Rc) := rfl
    rw [ht]
    simp only [Rc.mk.injEq, eq_comm (a := (⟨#[]⟩ : ByteArray)), empty_iff]
    and_intros <;> first | exact True.intro | rfl | omega
  · have h3 := (right7 n0 n1 n2 n3 n4 n5 n6 n7 n8 s0 s1).1 h
    have ht : (places 7).foldl (fillStep ⟨7, n0, n1, n2, n3, n4, n5, n6, n7, n8, s0, s1⟩) (zero 7) = (⟨7, n0, n1, n2, 0, 0, 0, 0, 0, 0, ⟨#[]⟩, ⟨#[]⟩⟩ : Rc) := rfl
    rw [ht]
    simp only [Rc.mk.injEq, eq_comm (a := (⟨#[]⟩ : ByteArray)), empty_iff]
    and_intros <;> first | exact True.intro | rfl | omega
  · have h3 := (right8 n0 n1 n2 n3 n4 n5 n6 n7 n8 s0 s1).1 h
    have ht : (places 8).foldl (fillStep ⟨8, n0, n1, n2, n3, n4, n5, n6, n7, n8, s0, s1⟩) (zero 8) = (⟨8, n0, n1, n2, 0, 0, 0, n6, 0, 0, ⟨#[]⟩, ⟨#[]⟩⟩ : Rc) := rfl
    rw [ht]
    simp only [Rc.mk.injEq, eq_comm (a := (⟨#[]⟩ : ByteArray)), empty_iff]
    and_intros <;> first | exact True.intro | rfl | omega
  · have h3 := (right9 n0 n1 n2 n3 n4 n5 n6 n7 n8 s0 s1).1 h
    have ht : (places 9).foldl (fillStep ⟨9, n0, n1, n2, n3, n4, n5, n6, n7, n8, s0, s1⟩) (zero 9) = (⟨9, n0, n1, n2, 0, 0, 0, 0, 0, 0, s0, ⟨#[]⟩⟩ : Rc) := rfl
    rw [ht]
    simp only [Rc.mk.injEq, eq_comm (a := (⟨#[]⟩ : ByteArray)), empty_iff]
    and_intros <;> first | exact True.intro | rfl | omega
  · have h3 := (right10 n0 n1 n2 n3 n4 n5 n6 n7 n8 s0 s1).1 h
    have ht : (places 10).foldl (fillStep ⟨10, n0, n1, n2, n3, n4, n5, n6, n7, n8, s0, s1⟩) (zero 10) = (⟨10, n0, n1, n2, 0, 0, 0, 0, 0, 0, s0, ⟨#[]⟩⟩ : Rc) := rfl
    rw [ht]
    simp only [Rc.mk.injEq, eq_comm (a := (⟨#[]⟩ : ByteArray)), empty_iff]
    and_intros <;> first | exact True.intro | rfl | omega
  · have h3 := (right11 n0 n1 n2 n3 n4 n5 n6 n7 n8 s0 s1).1 h
    have ht : (places 11).foldl (fillStep ⟨11, n0, n1, n2, n3, n4, n5, n6, n7, n8, s0, s1⟩) (zero 11) = (⟨11, n0, n1, n2, 0, 0, 0, 0, 0, 0, s0, s1⟩ : Rc) := rfl
    rw [ht]
    simp only [Rc.mk.injEq]
    and_intros <;> first | exact True.intro | rfl | omega
theorem parse_put {r : Rc} (h : r.right = true) (hok : r.ok) : parse r.putB = (r, 0) := by
  have hb : r.putB = Fra.bytes (UInt8.ofNat r.k) r.body := by unfold putB; rw [if_pos h]
  have hl := body_length h
  have hk := right_k h
  have h8 : (UInt8.ofNat r.k).toNat = r.k := by rw [UInt8.toNat_ofNat']; exact Nat.mod_eq_of_lt hok.1
  have hr : readAll r.body (zero r.k) (places r.k) = (r, ((r.body.length : Nat) : Int), 0) := by
    have e := read_all_enc hok (zero r.k) (places r.k)
    rw [fill_right h] at e
    exact e
  unfold parse
  rw [hb, Fra.one_bytes _ _ (by omega)]
  simp only [h8]
  unfold parseF
  rw [if_neg (by simp), if_neg (by omega), hr]
  simp [h]
theorem eleven {i : Nat} (h1 : 1 ≤ i) (h2 : i ≤ 11) : i = 1 ∨ i = 2 ∨ i = 3 ∨ i = 4 ∨ i = 5 ∨ i = 6 ∨ i = 7 ∨ i = 8 ∨ i = 9 ∨ i = 10 ∨ i = 11 := by omega
theorem encStep_put (x : Rc) {i j : Nat} (hi : 1 ≤ i ∧ i ≤ 11) (hj : 1 ≤ j ∧ j ≤ 11) (hne : i ≠ j) (n : Nat) (s : ByteArray) : (x.put j n s).encStep i = x.encStep i := by
  rcases eleven hi.1 hi.2 with rfl | rfl | rfl | rfl | rfl | rfl | rfl | rfl | rfl | rfl | rfl <;>
  rcases eleven hj.1 hj.2 with rfl | rfl | rfl | rfl | rfl | rfl | rfl | rfl | rfl | rfl | rfl <;> first | rfl | exact absurd rfl hne
theorem encStep_num (x : Rc) {i : Nat} (h1 : 1 ≤ i) (h2 : i ≤ 9) (n : Nat) (s : ByteArray) : (x.put i n s).encStep i = Var.put n := by
  rcases nine h1 h2 with rfl | rfl | rfl | rfl | rfl | rfl | rfl | rfl | rfl <;> rfl
theorem encStep_txt (x : Rc) {i : Nat} (h : i = 10 ∨ i = 11) (n : Nat) (s : ByteArray) : (x.put i n s).encStep i = Var.put s.size ++ s.data.toList := by
  rcases h with rfl | rfl <;> rfl
theorem step_back {b : List UInt8} {x0 x1 : Rc} {q0 i : Nat} {p1 : Int} (hi : 1 ≤ i ∧ i ≤ 11) (h : readStep b (x0, (q0 : Int), 0) i = (x1, p1, 0)) :
    ∃ n s, ∃ q1 : Nat, x1 = x0.put i n s ∧ p1 = q1 ∧ q0 < q1 ∧ q1 ≤ b.length ∧ x1.encStep i = (b.drop q0).take (q1 - q0) := by
  unfold readStep at h
  rw [if_pos rfl] at h
  by_cases h9 : i ≤ 9
  · rw [if_pos h9] at h
    simp only at h
    rcases Var.take_cases b (q0 : Int) with ⟨v, nx, q, hv, hq, g1, g2, g3⟩ | hv | hv
    · rw [hv] at h
      injection h with e1 e2
      injection e2 with e2 _
      obtain rfl : q0 = q := by omega
      refine ⟨v, ⟨#[]⟩, nx, e1.symm, e2.symm, g1, g2, ?_⟩
      rw [← e1]
      simp only
      rw [encStep_num x0 hi.1 h9, Fra.put_at_ hv g1 g2]
    · rw [hv] at h
      injection h with _ e2
      injection e2 with _ e2
      exact absurd e2 (by simp)
    · rw [hv] at h
      injection h with _ e2
      injection e2 with _ e2
      exact absurd e2 (by simp)
  · rw [if_neg h9] at h
    simp only at h
    unfold Var.ttext at h
    rcases Var.take_cases b (q0 : Int) with ⟨v, nx, q, hv, hq, g1, g2, g3⟩ | hv | hv
    · rw [hv] at h
      simp only [Int.toNat_natCast] at h
      rw [if_neg (by simp)] at h
      by_cases hl : b.length - nx < v
      · rw [if_pos hl] at h
        injection h with _ e2
        injection e2 with _ e2
        exact absurd e2 (by simp)
      · rw [if_neg hl] at h
        injection h with e1 e2
        injection e2 with e2 _
        obtain rfl : q0 = q := by omega
        have hlen : ((b.take (nx + v)).drop nx).length = v := by rw [List.length_drop, List.length_take]; omega
        refine ⟨0, ⟨((b.take (nx + v)).drop nx).toArray⟩, nx + v, e1.symm, by simp only at e2; omega, by omega, by omega, ?_⟩
        rw [← e1, encStep_txt x0 (by omega)]
        have e3 : (⟨((b.take (nx + v)).drop nx).toArray⟩ : ByteArray).size = v := by
          show ((b.take (nx + v)).drop nx).toArray.size = v
          rw [List.size_toArray, hlen]
        rw [e3, List.toList_toArray, Fra.put_at_ hv g1 g2, List.drop_take, show nx + v - nx = v by omega]
        rw [show nx + v - q0 = (nx - q0) + v by omega, List.take_add, List.drop_drop, show q0 + (nx - q0) = nx by omega]
    · rw [hv] at h
      simp only at h
      rw [if_pos (by decide)] at h
      injection h with _ e2
      injection e2 with _ e2
      exact absurd e2 (by simp)
    · rw [hv] at h
      simp only at h
      rw [if_pos (by decide)] at h
      injection h with _ e2
      injection e2 with _ e2
      exact absurd e2 (by simp)
theorem read_back {b : List UInt8} : ∀ (l : List Nat) (x0 x : Rc) (q0 : Nat) (p : Int), (∀ i ∈ l, 1 ≤ i ∧ i ≤ 11) → l.Nodup → q0 ≤ b.length → l.foldl (readStep b) (x0, (q0 : Int), 0) = (x, p, 0) →
    ∃ q : Nat, p = q ∧ q0 ≤ q ∧ q ≤ b.length ∧ x.enc l = (b.drop q0).take (q - q0) ∧ x.k = x0.k ∧ ∀ j, j ∉ l → 1 ≤ j ∧ j ≤ 11 → x.encStep j = x0.encStep j
  | [], x0, x, q0, p, _, _, hq, h => by
    injection h with e1 e2
    injection e2 with e2 _
    refine ⟨q0, e2.symm, Nat.le_refl _, hq, ?_, by rw [e1], fun j _ _ => by rw [e1]⟩
    rw [Nat.sub_self, List.take_zero]
    rfl
  | i :: l, x0, x, q0, p, hm, hd, hq, h => by
    rw [List.foldl_cons] at h
    obtain ⟨y, hy⟩ : ∃ y, readStep b (x0, (q0 : Int), 0) i = y := ⟨_, rfl⟩
    rw [hy] at h
    obtain ⟨x1, p1, e1⟩ := y
    by_cases he : e1 = 0
    · subst he
      have hi := hm i List.mem_cons_self
      obtain ⟨n, s, q1, hx1, hp1, g1, g2, g3⟩ := step_back hi hy
      subst hp1
      rw [List.nodup_cons] at hd
      obtain ⟨q, k1, k2, k3, k4, k5, k6⟩ := read_back l x1 x q1 p (fun j hj => hm j (List.mem_cons_of_mem _ hj)) hd.2 g2 h
      refine ⟨q, k1, by omega, k3, ?_, ?_, fun j hj hj2 => ?_⟩
      · rw [enc_cons, k6 i hd.1 hi, g3, k4, show q - q0 = (q1 - q0) + (q - q1) by omega, List.take_add, List.drop_drop, show q0 + (q1 - q0) = q1 by omega]
      · rw [k5, hx1]
        unfold put
        repeat' split
        all_goals rfl
      · rw [List.mem_cons, not_or] at hj
        rw [k6 j hj.2 hj2, hx1, encStep_put x0 hj2 hi hj.1]
    · rw [fold_err (by simpa using he)] at h
      injection h with _ e2
      injection e2 with _ e2
      exact absurd e2 he
theorem places_ok (k : Nat) : (places k).Nodup ∧ ∀ i ∈ places k, 1 ≤ i ∧ i ≤ 11 := by
  rcases Nat.lt_or_ge k 12 with h | h
  · have hc : k = 0 ∨ k = 1 ∨ k = 2 ∨ k = 3 ∨ k = 4 ∨ k = 5 ∨ k = 6 ∨ k = 7 ∨ k = 8 ∨ k = 9 ∨ k = 10 ∨ k = 11 := by omega
    rcases hc with rfl | rfl | rfl | rfl | rfl | rfl | rfl | rfl | rfl | rfl | rfl | rfl <;> decide
  · unfold places pl
    rw [List.getD_eq_getElem?_getD, List.getElem?_eq_none (by simpa using h)]
    decide
theorem parse_back {b : List UInt8} {x : Rc} {e : Nat} (hb : b.length ≤ 100000000) (h : parse b = (x, e)) : x.ok ∧ (e = 0 → x.right = true ∧ x.putB = b) := by
  have hk256 := (Fra.one b).1.toNat_lt
  have hbl := Fra.one_len b
  unfold parse at h
  obtain ⟨y, hy⟩ : ∃ y, Fra.one b = y := ⟨_, rfl⟩
  obtain ⟨kk, bd, ee⟩ := y
  rw [hy] at h hk256 hbl
  simp only at h hk256 hbl
  have hzo : (zero kk.toNat).ok := zero_ok (by omega)
  have hz0 : (zero 0).ok := zero_ok (by omega)
  have hri := readI (b := bd) (by omega) hzo (places kk.toNat)
  unfold parseF at h
  split at h
  · rename_i h0
    injection h with e1 e2
    exact ⟨by rw [← e1]; exact hz0, fun h3 => absurd (e2.trans h3) h0⟩
  · rename_i h0
    split at h
    · injection h with e1 e2
      exact ⟨by rw [← e1]; exact hz0, fun h3 => absurd (e2.trans h3) (by decide)⟩
    · rename_i hk
      split at h
      · rename_i h1
        injection h with e1 e2
        exact ⟨by rw [← e1]; exact hz0, fun h3 => absurd (e2.trans h3) h1⟩
      · rename_i h1
        split at h
        · injection h with e1 e2
          exact ⟨by rw [← e1]; exact hz0, fun h3 => absurd (e2.trans h3) (by decide)⟩
        · rename_i h2
          split at h
          · rename_i h3
            injection h with e1 e2
            refine ⟨by rw [← e1]; exact hri.1, fun _ => ?_⟩
            obtain ⟨z, hz⟩ : ∃ z, readAll bd (zero kk.toNat) (places kk.toNat) = z := ⟨_, rfl⟩
            obtain ⟨xz, pz, ez⟩ := z
            rw [hz] at h1 h2 h3 e1 hri
            simp only at h1 h2 h3 e1
            obtain rfl : ez = 0 := by omega
            subst e1
            obtain rfl : ee = 0 := by omega
            obtain ⟨hbb, hbl2⟩ := Fra.one_back hy
            have hpo := places_ok kk.toNat
            obtain ⟨q, k1, k2, k3, k4, k5, _⟩ := read_back (b := bd) (places kk.toNat) (zero kk.toNat) xz 0 pz hpo.2 hpo.1 (Nat.zero_le _) hz
            have hq : q = bd.length := by omega
            subst hq
            rw [List.drop_zero, Nat.sub_zero, List.take_length] at k4
            have hxk : xz.k = kk.toNat := k5
            refine ⟨h3, ?_⟩
            unfold putB body
            rw [if_pos h3, hxk, k4, UInt8.ofNat_toNat]
            exact hbb.symm
          · injection h with e1 e2
            exact ⟨by rw [← e1]; exact hz0, fun h3 => absurd (e2.trans h3) (by decide)⟩
theorem put_inj {r s : Rc} (hr : r.right = true) (hs : s.right = true) (ho : r.ok) (hp : s.ok) : decide (r.putB = s.putB) = r.eqB s := by
  rw [Bool.eq_iff_iff, decide_eq_true_eq, eqB_iff]
  constructor
  · intro h
    have h1 := parse_put hr ho
    rw [h, parse_put hs hp] at h1
    injection h1 with h1
    exact h1.symm
  · intro h
    rw [h]
end Rc
end Go.Proofs.Ytmobgamlednlhaa
