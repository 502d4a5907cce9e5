/-
  The plain law of the check: the register's step, its linearity, the table, sums of parts, flips, xors. No program in sight.
-/
namespace Go.Proofs.Ytmobgamlednlhaa.Crc

/-- One digit falls out of the register. -/
def stp (c : Nat) : Nat := (c / 2) ^^^ (2197175160 * (c % 2))
def stps : Nat → Nat → Nat
  | 0, c => c
  | k + 1, c => stp (stps k c)
/-- The table's entry. -/
def tabv (i : Nat) : Nat := stps 8 i
/-- A byte, by the table. -/
def upd (c x : Nat) : Nat := tabv ((c % 256) ^^^ x) ^^^ (c / 256)
def bup : Nat → Nat → Nat → Nat
  | 0, c, _ => c
  | k + 1, c, x => stp (bup k c x ^^^ (x / 2 ^ k % 2))
def run (c : Nat) (l : List UInt8) : Nat := l.foldl (fun c x => upd c x.toNat) c
def update (c : Nat) (l : List UInt8) : Nat := run (c ^^^ 4294967295) l ^^^ 4294967295
/-- The document's, digit by digit. -/
def refRun (c : Nat) (l : List UInt8) : Nat := l.foldl (fun c x => bup 8 c x.toNat) c

theorem xor_lt {a b : Nat} (ha : a < 4294967296) (hb : b < 4294967296) : a ^^^ b < 4294967296 := Nat.xor_lt_two_pow (n := 32) ha hb
theorem stp_lt {c : Nat} (h : c < 4294967296) : stp c < 4294967296 := by
  unfold stp
  refine xor_lt (by omega) ?_
  have : c % 2 = 0 ∨ c % 2 = 1 := by omega
  rcases this with h | h <;> rw [h] <;> omega
theorem stps_lt {c : Nat} (h : c < 4294967296) : ∀ k, stps k c < 4294967296
  | 0 => h
  | k + 1 => stp_lt (stps_lt h k)
theorem tabv_lt {c : Nat} (h : c < 4294967296) : tabv c < 4294967296 := stps_lt h 8

theorem xor_mod (a b k : Nat) : (a ^^^ b) % 2 ^ k = (a % 2 ^ k) ^^^ (b % 2 ^ k) := by
  apply Nat.eq_of_testBit_eq
  intro i
  simp only [Nat.testBit_xor, Nat.testBit_mod_two_pow]
  cases decide (i < k) <;> simp
theorem xor_div (a b k : Nat) : (a ^^^ b) / 2 ^ k = (a / 2 ^ k) ^^^ (b / 2 ^ k) := by
  apply Nat.eq_of_testBit_eq
  intro i
  simp only [Nat.testBit_xor, Nat.testBit_div_two_pow]
theorem split_xor (a k : Nat) : a = (a % 2 ^ k) ^^^ (2 ^ k * (a / 2 ^ k)) := by
  apply Nat.eq_of_testBit_eq
  intro i
  simp only [Nat.testBit_xor, Nat.testBit_mod_two_pow, Nat.testBit_two_pow_mul, Nat.testBit_div_two_pow]
  by_cases h : i < k
  · have h' : ¬ (i ≥ k) := by omega
    simp [h, h']
  · have h' : i ≥ k := by omega
    simp [h, h', Nat.sub_add_cancel h']

theorem mul_bit_xor (p x y : Nat) (hx : x < 2) (hy : y < 2) : p * (x ^^^ y) = (p * x) ^^^ (p * y) := by
  have hx' : x = 0 ∨ x = 1 := by omega
  have hy' : y = 0 ∨ y = 1 := by omega
  rcases hx' with rfl | rfl <;> rcases hy' with rfl | rfl <;> simp

theorem stp_xor (a b : Nat) : stp (a ^^^ b) = stp a ^^^ stp b := by
  unfold stp
  have h1 := xor_div a b 1
  have h2 := xor_mod a b 1
  simp only [Nat.pow_one] at h1 h2
  rw [h1, h2, mul_bit_xor _ _ _ (by omega) (by omega)]
  generalize 2197175160 * (a % 2) = p
  generalize 2197175160 * (b % 2) = q
  generalize a / 2 = x
  generalize b / 2 = y
  rw [Nat.xor_assoc, Nat.xor_assoc, ← Nat.xor_assoc y p q, Nat.xor_comm y p, Nat.xor_assoc p y q]
theorem stps_xor (a b : Nat) : ∀ k, stps k (a ^^^ b) = stps k a ^^^ stps k b
  | 0 => rfl
  | k + 1 => by simp only [stps]; rw [stps_xor a b k, stp_xor]
theorem stp_two (d : Nat) : stp (2 * d) = d := by unfold stp; simp
theorem stps_shift : ∀ k d, stps k (2 ^ k * d) = d
  | 0, d => by simp [stps]
  | k + 1, d => by
    have e : 2 ^ (k + 1) * d = 2 ^ k * (2 * d) := by rw [Nat.pow_succ, Nat.mul_assoc]
    rw [e, stps, stps_shift k, stp_two]
theorem stp_zero : stp 0 = 0 := by decide
theorem stps_zero : ∀ k, stps k 0 = 0
  | 0 => rfl
  | k + 1 => by rw [stps, stps_zero k, stp_zero]
theorem stp_ne {c : Nat} (h : c < 4294967296) (h0 : c ≠ 0) : stp c ≠ 0 := by
  unfold stp
  have : c % 2 = 0 ∨ c % 2 = 1 := by omega
  rcases this with e | e
  · rw [e]; simp; omega
  · rw [e]
    intro hx
    have h2 : c / 2 = 2197175160 := by
      have h3 : (c / 2 ^^^ 2197175160 * 1) ^^^ 2197175160 = 0 ^^^ 2197175160 := by rw [hx]
      rw [Nat.mul_one, Nat.xor_assoc, Nat.xor_self, Nat.xor_zero, Nat.zero_xor] at h3
      exact h3
    omega
theorem stps_ne {c : Nat} (h : c < 4294967296) (h0 : c ≠ 0) : ∀ k, stps k c ≠ 0
  | 0 => h0
  | k + 1 => stp_ne (stps_lt h k) (stps_ne h h0 k)

theorem upd_eq (c x : Nat) : upd c x = stps 8 (c ^^^ x) := by
  have h : c ^^^ x = ((c % 256) ^^^ x) ^^^ (2 ^ 8 * (c / 256)) := by
    have e := split_xor c 8
    simp only [show (2 : Nat) ^ 8 = 256 from rfl] at e ⊢
    generalize c % 256 = p at e ⊢
    generalize 256 * (c / 256) = q at e ⊢
    rw [e, Nat.xor_assoc, Nat.xor_comm q x, Nat.xor_assoc]
  rw [h, stps_xor, stps_shift]
  rfl
theorem bup_eq (c x : Nat) : ∀ k, bup k c x = stps k (c ^^^ (x % 2 ^ k))
  | 0 => by simp [bup, stps, Nat.mod_one]
  | k + 1 => by
    have h : x % 2 ^ (k + 1) = (x % 2 ^ k) ^^^ (2 ^ k * (x / 2 ^ k % 2)) := by
      have e := split_xor (x % 2 ^ (k + 1)) k
      have e1 : x % 2 ^ (k + 1) % 2 ^ k = x % 2 ^ k := Nat.mod_mod_of_dvd _ ⟨2, by rw [Nat.pow_succ]⟩
      have e2 : x % 2 ^ (k + 1) / 2 ^ k = x / 2 ^ k % 2 := by rw [Nat.pow_succ, Nat.mod_mul_right_div_self]
      rw [e1, e2] at e
      exact e
    rw [bup, bup_eq c x k, h, stps, ← Nat.xor_assoc, stps_xor _ (2 ^ k * _), stps_shift]
theorem bup8 (c x : Nat) (hx : x < 256) : bup 8 c x = upd c x := by
  rw [upd_eq, bup_eq, Nat.mod_eq_of_lt (by omega)]
theorem upd_lt {c x : Nat} (h : c < 4294967296) (hx : x < 256) : upd c x < 4294967296 := by
  rw [upd_eq]; exact stps_lt (xor_lt h (by omega)) 8
theorem upd_xor (a b x y : Nat) : upd (a ^^^ b) (x ^^^ y) = upd a x ^^^ upd b y := by
  rw [upd_eq, upd_eq, upd_eq, ← stps_xor]
  congr 1
  rw [Nat.xor_assoc, Nat.xor_assoc, ← Nat.xor_assoc b x y, Nat.xor_comm b x, Nat.xor_assoc x b y]
theorem bup_lt {c : Nat} (h : c < 4294967296) (x : Nat) : ∀ k, bup k c x < 4294967296
  | 0 => h
  | k + 1 => stp_lt (xor_lt (bup_lt h x k) (by omega))

theorem byte_lt (x : UInt8) : x.toNat < 256 := x.toNat_lt
theorem run_nil (c : Nat) : run c [] = c := rfl
theorem run_cons (c : Nat) (x : UInt8) (l : List UInt8) : run c (x :: l) = run (upd c x.toNat) l := rfl
theorem run_append (c : Nat) (l m : List UInt8) : run c (l ++ m) = run (run c l) m := List.foldl_append
theorem run_snoc (c : Nat) (l : List UInt8) (x : UInt8) : run c (l ++ [x]) = upd (run c l) x.toNat := by rw [run_append]; rfl
theorem run_lt {c : Nat} (h : c < 4294967296) : ∀ l, run c l < 4294967296
  | [] => h
  | x :: l => by rw [run_cons]; exact run_lt (upd_lt h (byte_lt x)) l
theorem run_take {c : Nat} {l : List UInt8} {k : Nat} (hk : k < l.length) : run c (l.take (k + 1)) = upd (run c (l.take k)) l[k].toNat := by
  rw [List.take_succ_eq_append_getElem hk, run_snoc]
theorem refRun_eq (c : Nat) (l : List UInt8) : refRun c l = run c l := by
  unfold refRun run
  congr 1
  funext c x
  exact bup8 c _ (byte_lt x)
theorem update_lt {c : Nat} (h : c < 4294967296) (l : List UInt8) : update c l < 4294967296 := xor_lt (run_lt (xor_lt h (by omega)) l) (by omega)
theorem update_append (c : Nat) (l m : List UInt8) : update (update c l) m = update c (l ++ m) := by
  unfold update
  rw [Nat.xor_assoc (run _ l), Nat.xor_self, Nat.xor_zero, run_append]
theorem update_nil (c : Nat) : update c [] = c := by
  unfold update
  rw [run_nil, Nat.xor_assoc, Nat.xor_self, Nat.xor_zero]

/-! ### two rows -/
def xors (l m : List UInt8) : List UInt8 := List.zipWith (· ^^^ ·) l m
theorem run_xor (a b : Nat) : ∀ (l m : List UInt8), l.length = m.length → run (a ^^^ b) (xors l m) = run a l ^^^ run b m := by
  intro l
  induction l generalizing a b with
  | nil => intro m h; cases m with
    | nil => rfl
    | cons y m => simp at h
  | cons x l ih => intro m h; cases m with
    | nil => simp at h
    | cons y m =>
      have e : xors (x :: l) (y :: m) = (x ^^^ y) :: xors l m := rfl
      rw [e, run_cons, run_cons, run_cons, UInt8.toNat_xor, upd_xor]
      exact ih _ _ m (by simpa using h)
theorem xors_zero : ∀ l : List UInt8, xors l (List.replicate l.length 0) = l
  | [] => rfl
  | x :: l => by
    rw [List.length_cons, List.replicate_succ]
    have e : xors (x :: l) (0 :: List.replicate l.length 0) = (x ^^^ 0) :: xors l (List.replicate l.length 0) := rfl
    rw [e, xors_zero l, UInt8.xor_zero]
theorem xors_length (l m : List UInt8) (h : l.length = m.length) : (xors l m).length = l.length := by
  unfold xors; rw [List.length_zipWith, h, Nat.min_self]
/-- The xor of two rows' checks, and that of noughts. -/
theorem sum_xors (l m : List UInt8) (h : l.length = m.length) :
    update 0 (xors l m) = update 0 l ^^^ update 0 m ^^^ update 0 (List.replicate l.length 0) := by
  have hx := xors_length l m h
  have e1 : run 4294967295 (xors l m) = run 4294967295 l ^^^ run 4294967295 m ^^^ run 4294967295 (List.replicate l.length 0) := by
    have e2 := run_xor 4294967295 4294967295 (xors l m) (List.replicate (xors l m).length 0) (by simp)
    rw [xors_zero, hx, run_xor 4294967295 4294967295 l m h] at e2
    rw [e2, Nat.xor_assoc, Nat.xor_self, Nat.xor_zero]
  unfold update
  rw [Nat.zero_xor, e1]
  generalize run 4294967295 l = x
  generalize run 4294967295 m = y
  generalize run 4294967295 (List.replicate l.length 0) = z
  apply Nat.eq_of_testBit_eq
  intro i
  simp only [Nat.testBit_xor]
  cases x.testBit i <;> cases y.testBit i <;> cases z.testBit i <;> cases (4294967295 : Nat).testBit i <;> rfl

/-! ### flips -/
theorem run_zeros_ne {c : Nat} (h : c < 4294967296) (h0 : c ≠ 0) : ∀ n, run c (List.replicate n 0) ≠ 0
  | 0 => h0
  | n + 1 => by
    rw [List.replicate_succ, run_cons]
    have e : upd c (0 : UInt8).toNat = stps 8 c := by rw [upd_eq, show (0 : UInt8).toNat = 0 from rfl, Nat.xor_zero]
    rw [e]
    exact run_zeros_ne (stps_lt h 8) (stps_ne h h0 8) n
theorem run_zeros : ∀ n, run 0 (List.replicate n 0) = 0
  | 0 => rfl
  | n + 1 => by
    rw [List.replicate_succ, run_cons]
    have e : upd 0 (0 : UInt8).toNat = 0 := by decide
    rw [e, run_zeros n]
/-- Rows whose difference has a check that is not 0 have other checks. -/
theorem update_ne (l m : List UInt8) (h : l.length = m.length) (hd : run 0 (xors l m) ≠ 0) : update 0 l ≠ update 0 m := by
  intro he
  apply hd
  have e := run_xor (0 ^^^ 4294967295) (0 ^^^ 4294967295) l m h
  rw [Nat.xor_self] at e
  rw [e]
  unfold update at he
  have e3 : run (0 ^^^ 4294967295) l = run (0 ^^^ 4294967295) m := by
    have e4 : (run (0 ^^^ 4294967295) l ^^^ 4294967295) ^^^ 4294967295 = (run (0 ^^^ 4294967295) m ^^^ 4294967295) ^^^ 4294967295 := by rw [he]
    simpa only [Nat.xor_assoc, Nat.xor_self, Nat.xor_zero] using e4
  rw [e3, Nat.xor_self]
theorem one_ne (i k : Nat) (p : UInt8) (hp : p ≠ 0) : run 0 (List.replicate i 0 ++ p :: List.replicate k 0) ≠ 0 := by
  rw [run_append, run_zeros, run_cons]
  have hp' : p.toNat ≠ 0 := fun h => hp (UInt8.toNat_inj.1 h)
  have hl := byte_lt p
  have e : upd 0 p.toNat = stps 8 p.toNat := by rw [upd_eq, Nat.zero_xor]
  rw [e]
  exact run_zeros_ne (stps_lt (by omega) 8) (stps_ne (by omega) hp' 8) k
theorem two_ne (i k : Nat) : run 0 (List.replicate i 0 ++ 128 :: 1 :: List.replicate k 0) ≠ 0 := by
  rw [run_append, run_zeros, run_cons, run_cons]
  have e : upd (upd 0 (128 : UInt8).toNat) (1 : UInt8).toNat = 1 ∨ upd (upd 0 (128 : UInt8).toNat) (1 : UInt8).toNat ≠ 1 := Nat.decEq _ _ |>.em
  have h1 : upd (upd 0 (128 : UInt8).toNat) (1 : UInt8).toNat < 4294967296 := upd_lt (upd_lt (by decide) (by decide)) (by decide)
  have h2 : upd (upd 0 (128 : UInt8).toNat) (1 : UInt8).toNat ≠ 0 := by decide
  exact run_zeros_ne h1 h2 k

theorem xors_self : ∀ l : List UInt8, xors l l = List.replicate l.length 0
  | [] => rfl
  | x :: l => by
    have e : xors (x :: l) (x :: l) = (x ^^^ x) :: xors l l := rfl
    rw [e, xors_self l, UInt8.xor_self, List.length_cons, List.replicate_succ]
theorem xors_app (a b c d : List UInt8) (h : a.length = b.length) : xors (a ++ c) (b ++ d) = xors a b ++ xors c d := by
  unfold xors
  exact List.zipWith_append h
theorem parted (l : List UInt8) {j : Nat} (hj : j < l.length) : l = l.take j ++ l[j] :: l.drop (j + 1) := by
  rw [← List.drop_eq_getElem_cons hj, List.take_append_drop]
theorem set_parted (l : List UInt8) {j : Nat} (hj : j < l.length) (y : UInt8) : l.set j y = l.take j ++ y :: l.drop (j + 1) := List.set_eq_take_append_cons_drop.trans (if_pos hj)
theorem xor_cancel (x p : UInt8) : (x ^^^ p) ^^^ x = p := by rw [UInt8.xor_comm x p, UInt8.xor_assoc, UInt8.xor_self, UInt8.xor_zero]
/-- One byte another one. -/
theorem flip_ne (l : List UInt8) {j : Nat} (hj : j < l.length) (y p : UInt8) (hy : y = l[j] ^^^ p) (hp : p ≠ 0) : update 0 (l.set j y) ≠ update 0 l := by
  refine update_ne _ _ (by simp) ?_
  have e : xors (l.set j y) l = List.replicate (l.take j).length 0 ++ p :: List.replicate (l.drop (j + 1)).length 0 := by
    rw [set_parted l hj]
    conv => lhs; arg 2; rw [parted l hj]
    rw [xors_app _ _ _ _ rfl, xors_self]
    have e2 : ∀ (a b : UInt8) (c d : List UInt8), xors (a :: c) (b :: d) = (a ^^^ b) :: xors c d := fun _ _ _ _ => rfl
    rw [e2, xors_self, hy, xor_cancel]
  rw [e]
  exact one_ne _ _ p hp
theorem set_two (a : List UInt8) (x x' y z : UInt8) (b : List UInt8) {j : Nat} (h : a.length = j) : ((a ++ x :: x' :: b).set j y).set (j + 1) z = a ++ y :: z :: b := by
  subst h
  rw [List.set_append_right _ _ (by omega), List.set_append_right _ _ (by omega)]
  simp
/-- The last digit of a byte, and the first of the next one. -/
theorem flip2_ne (l : List UInt8) {j : Nat} (hj : j + 1 < l.length) (y z : UInt8) (hy : y = l[j] ^^^ 128) (hz : z = l[j + 1] ^^^ 1) : update 0 ((l.set j y).set (j + 1) z) ≠ update 0 l := by
  refine update_ne _ _ (by simp) ?_
  have hl : l = l.take j ++ l[j] :: l[j + 1] :: l.drop (j + 1 + 1) := by
    rw [← List.drop_eq_getElem_cons hj, ← List.drop_eq_getElem_cons (by omega), List.take_append_drop]
  have hs : (l.set j y).set (j + 1) z = l.take j ++ y :: z :: l.drop (j + 1 + 1) := by
    have hlt : (l.take j).length = j := by rw [List.length_take]; omega
    have key := set_two (l.take j) l[j] l[j + 1] y z (l.drop (j + 1 + 1)) hlt
    rw [← hl] at key
    exact key
  have e : xors ((l.set j y).set (j + 1) z) l = List.replicate (l.take j).length 0 ++ 128 :: 1 :: List.replicate (l.drop (j + 1 + 1)).length 0 := by
    rw [hs]
    conv => lhs; arg 2; rw [hl]
    rw [xors_app _ _ _ _ rfl, xors_self]
    have e2 : ∀ (a b : UInt8) (c d : List UInt8), xors (a :: c) (b :: d) = (a ^^^ b) :: xors c d := fun _ _ _ _ => rfl
    rw [e2, e2, xors_self, hy, hz, xor_cancel, xor_cancel]
  rw [e]
  exact two_ne _ _
end Go.Proofs.Ytmobgamlednlhaa.Crc
