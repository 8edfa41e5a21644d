/- Numbers of the field Q(omega), by their four parts. No program in sight. · Plain laws: the negative of a number; gates and what they do to a state, as Lean functions. · Bits of small numbers in the machine's words. · Rows of gates, matrices of gates and of circuits, as Lean functions. No walk. · The value of a number of the program; equal values of valid numbers are equal numbers. No program in sight. · Finite sums of numbers of the field. No program in sight. · What products, matrices and gates come to in the field. No program in sight. · The matrix of a gate: its inverse, its adjoint; rows of gates. No program in sight. · The matrix of a row of gates. No program in sight. -/
import Derived.Test.YteckhaafdojoeaaGd
import Derived.WalkKit
/-! V1: Numbers of the field Q(omega), by their four parts. No program in sight. -/
namespace Go.Proofs.Yteckhaafdojoeaa
structure Q4 where
  a : Rat
  b : Rat
  c : Rat
  d : Rat
namespace Q4
protected def add (x y : Q4) : Q4 := ⟨x.a + y.a, x.b + y.b, x.c + y.c, x.d + y.d⟩
protected def neg (x : Q4) : Q4 := ⟨-x.a, -x.b, -x.c, -x.d⟩
protected def mul (x y : Q4) : Q4 :=
  ⟨x.a * y.a - x.b * y.d - x.c * y.c - x.d * y.b,
   x.a * y.b + x.b * y.a - x.c * y.d - x.d * y.c,
   x.a * y.c + x.b * y.b + x.c * y.a - x.d * y.d,
   x.a * y.d + x.b * y.c + x.c * y.b + x.d * y.a⟩
instance : Add Q4 := ⟨Q4.add⟩
instance : Neg Q4 := ⟨Q4.neg⟩
instance : Mul Q4 := ⟨Q4.mul⟩
instance : OfNat Q4 0 := ⟨⟨0, 0, 0, 0⟩⟩
instance : OfNat Q4 1 := ⟨⟨1, 0, 0, 0⟩⟩
theorem ext' {x y : Q4} (h1 : x.a = y.a) (h2 : x.b = y.b) (h3 : x.c = y.c) (h4 : x.d = y.d) : x = y := by
  cases x; cases y; simp_all
@[simp] theorem add_a (x y : Q4) : (x + y).a = x.a + y.a := rfl
@[simp] theorem add_b (x y : Q4) : (x + y).b = x.b + y.b := rfl
@[simp] theorem add_c (x y : Q4) : (x + y).c = x.c + y.c := rfl
@[simp] theorem add_d (x y : Q4) : (x + y).d = x.d + y.d := rfl
@[simp] theorem neg_a (x : Q4) : (-x).a = -x.a := rfl
@[simp] theorem neg_b (x : Q4) : (-x).b = -x.b := rfl
@[simp] theorem neg_c (x : Q4) : (-x).c = -x.c := rfl
@[simp] theorem neg_d (x : Q4) : (-x).d = -x.d := rfl
@[simp] theorem mul_a (x y : Q4) : (x * y).a = x.a * y.a - x.b * y.d - x.c * y.c - x.d * y.b := rfl
@[simp] theorem mul_b (x y : Q4) : (x * y).b = x.a * y.b + x.b * y.a - x.c * y.d - x.d * y.c := rfl
@[simp] theorem mul_c (x y : Q4) : (x * y).c = x.a * y.c + x.b * y.b + x.c * y.a - x.d * y.d := rfl
@[simp] theorem mul_d (x y : Q4) : (x * y).d = x.a * y.d + x.b * y.c + x.c * y.b + x.d * y.a := rfl
@[simp] theorem zero_a : (0 : Q4).a = 0 := rfl
@[simp] theorem zero_b : (0 : Q4).b = 0 := rfl
@[simp] theorem zero_c : (0 : Q4).c = 0 := rfl
@[simp] theorem zero_d : (0 : Q4).d = 0 := rfl
@[simp] theorem one_a : (1 : Q4).a = 1 := rfl
@[simp] theorem one_b : (1 : Q4).b = 0 := rfl
@[simp] theorem one_c : (1 : Q4).c = 0 := rfl
@[simp] theorem one_d : (1 : Q4).d = 0 := rfl
theorem add_comm (x y : Q4) : x + y = y + x := by refine ext' ?_ ?_ ?_ ?_ <;> simp <;> grind
theorem add_assoc (x y z : Q4) : x + y + z = x + (y + z) := by refine ext' ?_ ?_ ?_ ?_ <;> simp <;> grind
theorem mul_comm (x y : Q4) : x * y = y * x := by refine ext' ?_ ?_ ?_ ?_ <;> simp <;> grind
theorem mul_assoc (x y z : Q4) : x * y * z = x * (y * z) := by refine ext' ?_ ?_ ?_ ?_ <;> simp <;> grind
theorem add_zero (x : Q4) : x + 0 = x := by refine ext' ?_ ?_ ?_ ?_ <;> simp <;> grind
theorem mul_one (x : Q4) : x * 1 = x := by refine ext' ?_ ?_ ?_ ?_ <;> simp <;> grind
theorem mul_add (x y z : Q4) : x * (y + z) = x * y + x * z := by refine ext' ?_ ?_ ?_ ?_ <;> simp <;> grind
theorem mul_zero (x : Q4) : x * 0 = 0 := by refine ext' ?_ ?_ ?_ ?_ <;> simp <;> grind
theorem add_neg (x : Q4) : x + -x = 0 := by refine ext' ?_ ?_ ?_ ?_ <;> simp <;> grind
theorem mul_neg (x y : Q4) : x * -y = -(x * y) := by refine ext' ?_ ?_ ?_ ?_ <;> simp <;> grind
theorem neg_neg (x : Q4) : - -x = x := by refine ext' ?_ ?_ ?_ ?_ <;> simp <;> grind
theorem neg_add (x y : Q4) : -(x + y) = -x + -y := by refine ext' ?_ ?_ ?_ ?_ <;> simp <;> grind
instance : Std.Associative (α := Q4) (· + ·) := ⟨add_assoc⟩
instance : Std.Commutative (α := Q4) (· + ·) := ⟨add_comm⟩
instance : Std.Associative (α := Q4) (· * ·) := ⟨mul_assoc⟩
instance : Std.Commutative (α := Q4) (· * ·) := ⟨mul_comm⟩
theorem zero_add (x : Q4) : 0 + x = x := by rw [add_comm, add_zero]
theorem one_mul (x : Q4) : 1 * x = x := by rw [mul_comm, mul_one]
theorem add_mul (x y z : Q4) : (x + y) * z = x * z + y * z := by rw [mul_comm, mul_add, mul_comm z, mul_comm z]
theorem zero_mul (x : Q4) : 0 * x = 0 := by rw [mul_comm, mul_zero]
theorem neg_mul (x y : Q4) : -x * y = -(x * y) := by rw [mul_comm, mul_neg, mul_comm]
/-- The power. -/
def pw (x : Q4) : Nat → Q4
  | 0 => 1
  | n + 1 => pw x n * x
theorem pw_add (x : Q4) (m : Nat) : ∀ n, pw x (m + n) = pw x m * pw x n
  | 0 => by rw [Nat.add_zero, pw, mul_one]
  | n + 1 => by rw [← Nat.add_assoc, pw, pw, pw_add x m n, mul_assoc]
def conj (x : Q4) : Q4 := ⟨x.a, -x.d, -x.c, -x.b⟩
@[simp] theorem conj_a (x : Q4) : (conj x).a = x.a := rfl
@[simp] theorem conj_b (x : Q4) : (conj x).b = -x.d := rfl
@[simp] theorem conj_c (x : Q4) : (conj x).c = -x.c := rfl
@[simp] theorem conj_d (x : Q4) : (conj x).d = -x.b := rfl
theorem conj_add (x y : Q4) : conj (x + y) = conj x + conj y := by refine ext' ?_ ?_ ?_ ?_ <;> simp <;> grind
theorem conj_mul (x y : Q4) : conj (x * y) = conj x * conj y := by refine ext' ?_ ?_ ?_ ?_ <;> simp <;> grind
theorem conj_conj (x : Q4) : conj (conj x) = x := by refine ext' ?_ ?_ ?_ ?_ <;> simp <;> grind
theorem conj_neg (x : Q4) : conj (-x) = -conj x := by refine ext' ?_ ?_ ?_ ?_ <;> simp <;> grind
end Q4
end Go.Proofs.Yteckhaafdojoeaa

/-! M6: Plain laws: the negative of a number; gates and what they do to a state, as Lean functions. -/
namespace Go.Proofs.Yteckhaafdojoeaa

def Z4.neg (z : Z4) : Z4 := ⟨-z.a, -z.b, -z.c, -z.d⟩
def DO.neg (x : DO) : DO := ⟨x.n.neg, x.e⟩
theorem Z4.neg_ok (z : Z4) : z.neg.ok = z.ok := by
  rw [Bool.eq_iff_iff, Z4.ok_iff, Z4.ok_iff]
  simp only [Z4.neg]
  omega
theorem evn_neg {x y : Int} (h : y = -x) : evn y = evn x := by
  subst h
  rw [Bool.eq_iff_iff, evn_iff, evn_iff]
  omega
theorem divE_neg (z : Z4) : divE z.neg = divE z := by
  simp only [divE, Z4.neg]
  rw [evn_neg (x := z.b - z.d) (y := -z.b - -z.d) (by omega), evn_neg (x := z.a + z.c) (y := -z.a + -z.c) (by omega), evn_neg (x := z.b + z.d) (y := -z.b + -z.d) (by omega), evn_neg (x := z.c - z.a) (y := -z.c - -z.a) (by omega)]
theorem divZ_neg (z : Z4) : divZ z.neg = ((divZ z).1.neg, (divZ z).2) := by
  unfold divZ
  rw [Z4.neg_ok, divE_neg]
  by_cases h : (z.ok && divE z) = true
  · rw [if_pos h, if_pos h]
    simp only [Bool.and_eq_true, divE, evn_iff] at h
    obtain ⟨_, h1, h2, h3, h4⟩ := h
    simp only [Z4.neg, Prod.mk.injEq, Z4.mk.injEq, and_true]
    omega
  · rw [if_neg h, if_neg h]
    rfl
theorem newL_neg (k : Nat) : ∀ z : Z4, newL k z.neg = ((newL k z).1.neg, (newL k z).2) := by
  induction k with
  | zero => intro z; rfl
  | succ k ih =>
    intro z
    unfold newL
    rw [divZ_neg]
    by_cases h : (divZ z).2 = true
    · rw [if_pos h, if_pos h, ih]
    · rw [if_neg h, if_neg h]
theorem newD_neg (z : Z4) (k : Int) : newD z.neg k = ((newD z k).1.neg, (newD z k).2) := by
  unfold newD
  rw [Z4.neg_ok, newL_neg]
  split
  · split
    · rfl
    · rfl
  · rfl
theorem chkZ_neg (z : Z4) : chkZ z.neg = ((chkZ z).1.neg, (chkZ z).2) := by
  unfold chkZ
  rw [Z4.neg_ok]
  split <;> rfl
theorem mulRaw_neg (x y : Z4) : mulRaw x y.neg = (mulRaw x y).neg := by
  simp only [mulRaw, Z4.neg, Z4.mk.injEq, Int.mul_neg]
  omega
theorem mulZ_neg (x y : Z4) : mulZ x y.neg = ((mulZ x y).1.neg, (mulZ x y).2) := by
  unfold mulZ
  rw [Z4.neg_ok, mulRaw_neg, chkZ_neg]
  split <;> rfl
theorem DO.neg_ok (x : DO) : x.neg.ok = x.ok := by
  unfold DO.ok DO.neg
  rw [Z4.neg_ok, divZ_neg]
theorem negD_eq {x : DO} (h : x.ok = true) : negD x = x.neg := by
  rw [negD, if_pos h, negZ, if_pos ((DO.ok_iff x).1 h).1]
  rfl
theorem negD_ok {x : DO} (h : x.ok = true) : (negD x).ok = true := by rw [negD_eq h, DO.neg_ok, h]
theorem mulD_neg (x y : DO) : mulD x y.neg = ((mulD x y).1.neg, (mulD x y).2) := by
  unfold mulD
  rw [DO.neg_ok]
  split
  · simp only [DO.neg, mulZ_neg]
    split
    · exact newD_neg _ _
    · rfl
  · rfl
theorem newD_no {n : Z4} {k : Int} (h : ¬ (newD n k).2 = true) : (newD n k).1 = ⟨⟨0, 0, 0, 0⟩, 0⟩ := by
  unfold newD at *
  split at h
  · rename_i h1
    rw [if_pos h1]
    split at h
    · rename_i h2
      rw [if_pos h2]
    · exact absurd rfl h
  · rename_i h1
    rw [if_neg h1]
theorem mulD_no {x y : DO} (h : ¬ (mulD x y).2 = true) : (mulD x y).1 = ⟨⟨0, 0, 0, 0⟩, 0⟩ := by
  unfold mulD at *
  split at h
  · rename_i h1
    rw [if_pos h1]
    split at h
    · rename_i h2
      rw [if_pos h2]
      exact newD_no h
    · rename_i h2
      rw [if_neg h2]
  · rename_i h1
    rw [if_neg h1]
theorem mulD_negD {x y : DO} (hy : y.ok = true) : mulD x (negD y) = (negD (mulD x y).1, (mulD x y).2) := by
  rw [negD_eq hy, mulD_neg]
  by_cases h : (mulD x y).2 = true
  · rw [negD_eq (mulD_ok h)]
  · rw [mulD_no h]
    rfl

/-! ### gates -/
structure GT where
  k : Int
  a : Int
  b : Int
  c : Int
  deriving DecidableEq
/-- How many qubits a gate of this kind acts on. -/
def ar (k : Int) : Int := if 1 ≤ k ∧ k ≤ 8 then 1 else if 9 ≤ k ∧ k ≤ 11 then 2 else if k = 12 then 3 else 0
def GT.ok (g : GT) (n : Int) : Bool :=
  inR 1 4 n && (decide (ar g.k ≠ 0) && (inR 0 (n - 1) g.a && ((if ar g.k < 2 then decide (g.b = 0) else inR 0 (n - 1) g.b && decide (g.b ≠ g.a)) && (if ar g.k < 3 then decide (g.c = 0) else inR 0 (n - 1) g.c && (decide (g.c ≠ g.a) && decide (g.c ≠ g.b))))))
theorem ar_cases (k : Int) : (ar k = 1 ∧ 1 ≤ k ∧ k ≤ 8) ∨ (ar k = 2 ∧ 9 ≤ k ∧ k ≤ 11) ∨ (ar k = 3 ∧ k = 12) ∨ (ar k = 0 ∧ ¬ (1 ≤ k ∧ k ≤ 12)) := by
  unfold ar
  repeat' split
  all_goals omega
theorem GT.ok1 {g : GT} {n : Int} (h : ar g.k = 1) : g.ok n = true ↔ (1 ≤ n ∧ n ≤ 4) ∧ (0 ≤ g.a ∧ g.a ≤ n - 1) ∧ g.b = 0 ∧ g.c = 0 := by
  simp [GT.ok, h, inR_iff]
theorem GT.ok2 {g : GT} {n : Int} (h : ar g.k = 2) : g.ok n = true ↔ (1 ≤ n ∧ n ≤ 4) ∧ (0 ≤ g.a ∧ g.a ≤ n - 1) ∧ ((0 ≤ g.b ∧ g.b ≤ n - 1) ∧ g.b ≠ g.a) ∧ g.c = 0 := by
  simp [GT.ok, h, inR_iff]
theorem GT.ok3 {g : GT} {n : Int} (h : ar g.k = 3) : g.ok n = true ↔ (1 ≤ n ∧ n ≤ 4) ∧ (0 ≤ g.a ∧ g.a ≤ n - 1) ∧ ((0 ≤ g.b ∧ g.b ≤ n - 1) ∧ g.b ≠ g.a) ∧ (0 ≤ g.c ∧ g.c ≤ n - 1) ∧ g.c ≠ g.a ∧ g.c ≠ g.b := by
  simp [GT.ok, h, inR_iff]
theorem GT.ok0 {g : GT} {n : Int} (h : ar g.k = 0) : g.ok n = false := by
  simp [GT.ok, h]
/-- A valid gate's parts. -/
theorem GT.parts {g : GT} {n : Int} (h : g.ok n = true) : (1 ≤ n ∧ n ≤ 4) ∧ (1 ≤ g.k ∧ g.k ≤ 12) ∧ (0 ≤ g.a ∧ g.a < n) ∧ (0 ≤ g.b ∧ g.b < n) ∧ (0 ≤ g.c ∧ g.c < n) := by
  rcases ar_cases g.k with ⟨h0, h1⟩ | ⟨h0, h1⟩ | ⟨h0, h1⟩ | ⟨h0, h1⟩
  · have := (GT.ok1 h0).1 h; omega
  · have := (GT.ok2 h0).1 h; omega
  · have := (GT.ok3 h0).1 h; omega
  · rw [GT.ok0 h0] at h; cases h

/-- The check of place j of a gate's qubits, m the greatest qubit. -/
def GT.qs (g : GT) : List Int := [g.a, g.b, g.c]
def GT.chk (g : GT) (m : Int) (j : Nat) : Bool := if ar g.k ≤ j then decide (g.qs.getD j 0 = 0) else inR 0 m (g.qs.getD j 0) && !((g.qs.take j).contains (g.qs.getD j 0))
theorem GT.ok_chk (g : GT) (n : Int) : g.ok n = (inR 1 4 n && (decide (ar g.k ≠ 0) && (g.chk (n - 1) 0 && (g.chk (n - 1) 1 && g.chk (n - 1) 2)))) := by
  obtain ⟨k, a, b, c⟩ := g
  rcases ar_cases k with ⟨h, -⟩ | ⟨h, -⟩ | ⟨h, -⟩ | ⟨h, -⟩
  · simp [GT.ok, GT.chk, GT.qs, h]
  · simp [GT.ok, GT.chk, GT.qs, h, Bool.and_assoc]
  · simp [GT.ok, GT.chk, GT.qs, h, Bool.and_assoc]
  · simp [GT.ok, h]
theorem GT.ok_no {g : GT} {n : Int} {j : Nat} (hj : j < 3) (h : ¬ g.chk (n - 1) j = true) : g.ok n = false := by
  rw [GT.ok_chk]
  have : j = 0 ∨ j = 1 ∨ j = 2 := by omega
  rcases this with rfl | rfl | rfl <;> simp [h]
theorem GT.ok_yes {g : GT} {n : Int} (h1 : inR 1 4 n = true) (h0 : ar g.k ≠ 0) (h : ∀ j, j < 3 → g.chk (n - 1) j = true) : g.ok n = true := by
  rw [GT.ok_chk, h1, decide_eq_true h0, h 0 (by decide), h 1 (by decide), h 2 (by decide)]
  rfl
theorem chk_step {g : GT} {m : Int} {j : Nat} (h : ∀ i, i < j → g.chk m i = true) (hj : g.chk m j = true) : ∀ i, i < j + 1 → g.chk m i = true := fun i hi => by
  by_cases e : i = j
  · subst e; exact hj
  · exact h i (by omega)
theorem chk_ge {g : GT} {m : Int} {j : Nat} (h : ar g.k ≤ j) : g.chk m j = decide (g.qs.getD j 0 = 0) := by rw [GT.chk, if_pos h]
theorem chk_lt {g : GT} {m : Int} {j : Nat} (h : ¬ ar g.k ≤ j) : g.chk m j = (inR 0 m (g.qs.getD j 0) && !((g.qs.take j).contains (g.qs.getD j 0))) := by rw [GT.chk, if_neg h]

/-- The power of omega. -/
def ph : Nat → DO
  | 0 => ⟨⟨1, 0, 0, 0⟩, 0⟩
  | 1 => ⟨⟨0, 1, 0, 0⟩, 0⟩
  | 2 => ⟨⟨0, 0, 1, 0⟩, 0⟩
  | 3 => ⟨⟨0, 0, 0, 1⟩, 0⟩
  | 4 => ⟨⟨-1, 0, 0, 0⟩, 0⟩
  | 5 => ⟨⟨0, -1, 0, 0⟩, 0⟩
  | 6 => ⟨⟨0, 0, -1, 0⟩, 0⟩
  | 7 => ⟨⟨0, 0, 0, -1⟩, 0⟩
  | _ => ⟨⟨0, 0, 0, 0⟩, 0⟩
def hD : DO := ⟨⟨1, 0, 0, 0⟩, 1⟩
theorem hD_ok : hD.ok = true := rfl
theorem ph_ok : ∀ p, p < 8 → (ph p).ok = true := by decide
/-- The bit q of i. -/
def bit (q i : Nat) : Nat := i / 2 ^ q % 2
theorem bit_lt (q i : Nat) : bit q i < 2 := Nat.mod_lt _ (by decide)
/-- A gate other than H: where a basis state goes, and the power of omega. -/
def mv (k : Int) (A B C i : Nat) : Nat × Nat :=
  if k = 1 then (i ^^^ 2 ^ A, 0)
  else if k = 2 then (i ^^^ 2 ^ A, 2 + 4 * bit A i)
  else if k = 3 then (i, 4 * bit A i)
  else if k = 5 then (i, 2 * bit A i)
  else if k = 6 then (i, 6 * bit A i)
  else if k = 7 then (i, bit A i)
  else if k = 8 then (i, 7 * bit A i)
  else if k = 9 then (i ^^^ bit A i * 2 ^ B, 0)
  else if k = 10 then (i, 4 * (bit A i * bit B i))
  else if k = 11 then (if bit A i = bit B i then (i, 0) else (i ^^^ 2 ^ A ^^^ 2 ^ B, 0))
  else (i ^^^ bit A i * bit B i * 2 ^ C, 0)
theorem mv_ind {k : Int} {A B C i : Nat} {P : Nat × Nat → Prop} (h1 : P (i ^^^ 2 ^ A, 0)) (h2 : P (i ^^^ 2 ^ A, 2 + 4 * bit A i)) (h3 : P (i, 4 * bit A i)) (h5 : P (i, 2 * bit A i)) (h6 : P (i, 6 * bit A i)) (h7 : P (i, bit A i)) (h8 : P (i, 7 * bit A i))
    (h9 : P (i ^^^ bit A i * 2 ^ B, 0)) (h10 : P (i, 4 * (bit A i * bit B i))) (h11 : P (i, 0)) (h11' : P (i ^^^ 2 ^ A ^^^ 2 ^ B, 0)) (h12 : P (i ^^^ bit A i * bit B i * 2 ^ C, 0)) : P (mv k A B C i) := by
  unfold mv
  by_cases c1 : k = 1
  · rw [if_pos c1]; exact h1
  rw [if_neg c1]
  by_cases c2 : k = 2
  · rw [if_pos c2]; exact h2
  rw [if_neg c2]
  by_cases c3 : k = 3
  · rw [if_pos c3]; exact h3
  rw [if_neg c3]
  by_cases c5 : k = 5
  · rw [if_pos c5]; exact h5
  rw [if_neg c5]
  by_cases c6 : k = 6
  · rw [if_pos c6]; exact h6
  rw [if_neg c6]
  by_cases c7 : k = 7
  · rw [if_pos c7]; exact h7
  rw [if_neg c7]
  by_cases c8 : k = 8
  · rw [if_pos c8]; exact h8
  rw [if_neg c8]
  by_cases c9 : k = 9
  · rw [if_pos c9]; exact h9
  rw [if_neg c9]
  by_cases c10 : k = 10
  · rw [if_pos c10]; exact h10
  rw [if_neg c10]
  by_cases c11 : k = 11
  · rw [if_pos c11]
    by_cases cb : bit A i = bit B i
    · rw [if_pos cb]; exact h11
    · rw [if_neg cb]; exact h11'
  rw [if_neg c11]
  exact h12
theorem bit_mul_le (q i m : Nat) : bit q i * m ≤ m := by
  have := bit_lt q i
  rcases (show bit q i = 0 ∨ bit q i = 1 by omega) with h | h <;> rw [h] <;> omega
theorem mv_pow (k : Int) (A B C i : Nat) : (mv k A B C i).2 < 8 := by
  have hA := bit_lt A i
  have hm := bit_mul_le A i (bit B i)
  have hB := bit_lt B i
  refine mv_ind (P := fun p => p.2 < 8) ?_ ?_ ?_ ?_ ?_ ?_ ?_ ?_ ?_ ?_ ?_ ?_ <;> dsimp only <;> omega
/-- i with the bit q struck. -/
def low (q i : Nat) : Nat := i - bit q i * 2 ^ q
/-- Where an amplitude at i goes, and by what it is multiplied. -/
def goes (g : GT) (i : Nat) : List (Nat × DO) :=
  if g.k = 4 then [(low g.a.toNat i, hD), (low g.a.toNat i + 2 ^ g.a.toNat, if bit g.a.toNat i = 1 then negD hD else hD)]
  else [((mv g.k g.a.toNat g.b.toNat g.c.toNat i).1, ph (mv g.k g.a.toNat g.b.toNat g.c.toNat i).2)]
def addL : List DO → List (Nat × DO) → DO → List DO × Bool
  | out, [], _ => (out, true)
  | out, p :: r, x => if (mulD x p.2).2 && (addD (out.getD p.1 ⟨⟨0, 0, 0, 0⟩, 0⟩) (mulD x p.2).1).2 then addL (out.set p.1 (addD (out.getD p.1 ⟨⟨0, 0, 0, 0⟩, 0⟩) (mulD x p.2).1).1) r x else ([], false)
def applyL (g : GT) : Nat → List DO → List DO → List DO × Bool
  | _, [], out => (out, true)
  | i, x :: r, out => if (addL out (goes g i) x).2 then applyL g (i + 1) r (addL out (goes g i) x).1 else ([], false)
def applyG (g : GT) (v : List DO) : List DO × Bool :=
  if okS v && g.ok (qc v.length) then applyL g 0 v (List.replicate v.length ⟨⟨0, 0, 0, 0⟩, 0⟩) else ([], false)

/-! ### steps of a gate's walk over a state -/
theorem mulD_zero_ph {y : DO} (h : y.ok = true) : mulD ⟨⟨0, 0, 0, 0⟩, 0⟩ y = (⟨⟨0, 0, 0, 0⟩, 0⟩, true) := mulD_zero_left h
theorem getD_ok {out : List DO} (h : ∀ x ∈ out, x.ok = true) (t : Nat) : (out.getD t ⟨⟨0, 0, 0, 0⟩, 0⟩).ok = true := by
  rw [List.getD_eq_getElem?_getD]
  by_cases ht : t < out.length
  · rw [List.getElem?_eq_getElem ht]
    exact h _ (List.getElem_mem _)
  · rw [List.getElem?_eq_none (by omega)]
    rfl
theorem set_getD (out : List DO) (t : Nat) : out.set t (out.getD t ⟨⟨0, 0, 0, 0⟩, 0⟩) = out := by
  apply List.ext_getElem (by simp)
  intro i h1 h2
  by_cases h : t = i
  · subst h
    rw [List.getElem_set_self, List.getD_eq_getElem?_getD, List.getElem?_eq_getElem h2]
    rfl
  · rw [List.getElem_set_ne h]
theorem addL_zero {out : List DO} (h : ∀ x ∈ out, x.ok = true) : ∀ l : List (Nat × DO), (∀ p ∈ l, p.2.ok = true) → addL out l ⟨⟨0, 0, 0, 0⟩, 0⟩ = (out, true)
  | [], _ => rfl
  | p :: r, hl => by
    have hp := hl p (by simp)
    have hg := getD_ok h p.1
    rw [addL, mulD_zero_left hp, addD_zero hg]
    simp only [Bool.and_self, if_true]
    rw [set_getD]
    exact addL_zero h r fun q hq => hl q (by simp [hq])
theorem addL_len : ∀ (l : List (Nat × DO)) (out : List DO) (x : DO), (addL out l x).2 = true → (addL out l x).1.length = out.length
  | [], _, _, _ => rfl
  | p :: r, out, x, h => by
    rw [addL] at h ⊢
    split at h
    · rename_i hc
      rw [if_pos hc, addL_len r _ x h]
      simp
    · cases h
theorem addL_ok : ∀ (l : List (Nat × DO)) (out : List DO) (x : DO), (∀ y ∈ out, y.ok = true) → (addL out l x).2 = true → ∀ y ∈ (addL out l x).1, y.ok = true
  | [], _, _, h, _ => h
  | p :: r, out, x, h, h2 => by
    rw [addL] at h2 ⊢
    split at h2
    · rename_i hc
      rw [if_pos hc]
      refine addL_ok r _ x (fun y hy => ?_) h2
      simp only [Bool.and_eq_true] at hc
      rcases List.mem_or_eq_of_mem_set hy with hy | rfl
      · exact h y hy
      · exact addD_ok hc.2
    · cases h2
theorem goes_ok (g : GT) (i : Nat) (_hg : 1 ≤ g.k ∧ g.k ≤ 12) : ∀ p ∈ goes g i, p.2.ok = true := by
  intro p hp
  unfold goes at hp
  split at hp
  · simp only [List.mem_cons, List.not_mem_nil, or_false] at hp
    rcases hp with rfl | rfl
    · exact hD_ok
    · dsimp only
      split
      · exact negD_ok hD_ok
      · exact hD_ok
  · simp only [List.mem_cons, List.not_mem_nil, or_false] at hp
    subst hp
    exact ph_ok _ (mv_pow _ _ _ _ _)

theorem applyL_more {g : GT} {i : Nat} {v out : List DO} {R : List DO × Bool} (hi : i < v.length) (h : applyL g i (v.drop i) out = R) (ha : (addL out (goes g i) v[i]).2 = true) :
    applyL g (i + 1) (v.drop (i + 1)) (addL out (goes g i) v[i]).1 = R := by
  rw [List.drop_eq_getElem_cons hi, applyL, if_pos ha] at h
  exact h
theorem applyL_fail {g : GT} {i : Nat} {v out : List DO} {R : List DO × Bool} (hi : i < v.length) (h : applyL g i (v.drop i) out = R) (ha : ¬ (addL out (goes g i) v[i]).2 = true) : R = ([], false) := by
  rw [List.drop_eq_getElem_cons hi, applyL, if_neg ha] at h
  exact h.symm
theorem applyL_end {g : GT} {i : Nat} {v out : List DO} {R : List DO × Bool} (hi : ¬ i < v.length) (h : applyL g i (v.drop i) out = R) : R = (out, true) := by
  rw [List.drop_eq_nil_of_le (by omega), applyL] at h
  exact h.symm
theorem applyG_no {g : GT} {v : List DO} (h : (okS v && g.ok (qc v.length)) = false) : applyG g v = ([], false) := by
  rw [applyG, h]; rfl
theorem applyG_yes {g : GT} {v : List DO} (h1 : okS v = true) (h2 : g.ok (qc v.length) = true) : applyL g 0 (v.drop 0) (List.replicate v.length ⟨⟨0, 0, 0, 0⟩, 0⟩) = applyG g v := by
  rw [applyG, h1, h2]; rfl
/-- A gate other than H: one place. -/
theorem addL_one {g : GT} {i : Nat} {out : List DO} {x : DO} (hk : ¬ g.k = 4) : addL out (goes g i) x = addL out [((mv g.k g.a.toNat g.b.toNat g.c.toNat i).1, ph (mv g.k g.a.toNat g.b.toNat g.c.toNat i).2)] x := by
  rw [goes, if_neg hk]
theorem addL_sing_yes {out : List DO} {t : Nat} {y x : DO} (h1 : (mulD x y).2 = true) (h2 : (addD (out.getD t ⟨⟨0, 0, 0, 0⟩, 0⟩) (mulD x y).1).2 = true) : addL out [(t, y)] x = (out.set t (addD (out.getD t ⟨⟨0, 0, 0, 0⟩, 0⟩) (mulD x y).1).1, true) := by
  rw [addL, h1, h2]; rfl
theorem addL_sing_no {out : List DO} {t : Nat} {y x : DO} (h : ((mulD x y).2 && (addD (out.getD t ⟨⟨0, 0, 0, 0⟩, 0⟩) (mulD x y).1).2) = false) : addL out [(t, y)] x = ([], false) := by
  rw [addL, h]; rfl
theorem addL_cons_yes {out : List DO} {t : Nat} {y x : DO} {r : List (Nat × DO)} (h1 : (mulD x y).2 = true) (h2 : (addD (out.getD t ⟨⟨0, 0, 0, 0⟩, 0⟩) (mulD x y).1).2 = true) : addL out ((t, y) :: r) x = addL (out.set t (addD (out.getD t ⟨⟨0, 0, 0, 0⟩, 0⟩) (mulD x y).1).1) r x := by
  rw [addL, h1, h2]; rfl
theorem addL_cons_no {out : List DO} {t : Nat} {y x : DO} {r : List (Nat × DO)} (h : ((mulD x y).2 && (addD (out.getD t ⟨⟨0, 0, 0, 0⟩, 0⟩) (mulD x y).1).2) = false) : addL out ((t, y) :: r) x = ([], false) := by
  rw [addL, h]; rfl
/-- H, the program's way: the product once, its negative where the bit is set. -/
theorem mulD_other (q i : Nat) (x : DO) : mulD x (if bit q i = 1 then negD hD else hD) = (if bit q i = 1 then negD (mulD x hD).1 else (mulD x hD).1, (mulD x hD).2) := by
  split
  · exact mulD_negD hD_ok
  · rfl

end Go.Proofs.Yteckhaafdojoeaa

/-! M7: Bits of small numbers in the machine's words. -/
namespace Go.Proofs.Yteckhaafdojoeaa
open Go.RowKit

theorem bits_and1 : ∀ i, i < 16 → ∀ q, q < 4 → bits .and .i64 ((i : Nat) / 2 ^ q : Int) 1 = (bit q i : Int) := by decide +kernel
theorem bits_xor : ∀ i, i < 16 → ∀ j, j < 16 → bits .xor .i64 (i : Nat) (j : Nat) = ((i ^^^ j : Nat) : Int) := by decide +kernel
theorem bits_andNot : ∀ i, i < 16 → ∀ q, q < 4 → bits .andNot .i64 (i : Nat) ((2 ^ q : Nat) : Int) = (low q i : Int) := by decide +kernel
theorem bits_or : ∀ i, i < 16 → ∀ q, q < 4 → bits .or .i64 (i : Nat) ((2 ^ q : Nat) : Int) = ((low q i + 2 ^ q : Nat) : Int) := by decide +kernel
theorem xor_lt16 : ∀ i, i < 16 → ∀ j, j < 16 → i ^^^ j < 16 := by decide +kernel
theorem shl1 : ∀ q, q < 4 → IntKind.i64.wrap (1 * 2 ^ q) = ((2 ^ q : Nat) : Int) := by decide +kernel
theorem xor_shl : ∀ i, i < 16 → ∀ q, q < 4 → bits .xor .i64 (i : Nat) (wrap64 (2 ^ q)) = ((i ^^^ 2 ^ q : Nat) : Int) := by decide +kernel
theorem xor_shl1 : ∀ i, i < 16 → ∀ q, q < 4 → ∀ b, b < 2 → bits .xor .i64 (i : Nat) (wrap64 ((b : Nat) * 2 ^ q)) = ((i ^^^ b * 2 ^ q : Nat) : Int) := by decide +kernel
theorem andNot_shl : ∀ i, i < 16 → ∀ q, q < 4 → bits .andNot .i64 (i : Nat) (wrap64 (2 ^ q)) = (low q i : Int) := by decide +kernel
theorem or_shl : ∀ i, i < 16 → ∀ q, q < 4 → bits .or .i64 (i : Nat) (wrap64 (2 ^ q)) = ((low q i + 2 ^ q : Nat) : Int) := by decide +kernel
theorem pow_lt16 {q : Nat} (h : q < 4) : 2 ^ q < 16 := by
  have : ∀ q, q < 4 → 2 ^ q < 16 := by decide
  exact this q h

theorem qc_pow {n : Nat} (h : qc n ≠ 0) : n = 2 ^ qc n ∧ 1 ≤ qc n ∧ qc n ≤ 4 := by
  unfold qc at *
  repeat' split
  all_goals simp_all
theorem low_lt2 : ∀ N, N < 5 → ∀ i, i < 2 ^ N → ∀ q, q < N → low q i + 2 ^ q < 2 ^ N := by decide +kernel
theorem mv_lt {k : Int} {A B C i N : Nat} (hi : i < 2 ^ N) (hA : A < N) (hB : B < N) (hC : C < N) : (mv k A B C i).1 < 2 ^ N := by
  have hp : ∀ q, q < N → 2 ^ q < 2 ^ N := fun q hq => Nat.pow_lt_pow_right (by decide) hq
  have h1 : bit A i * 2 ^ B < 2 ^ N := Nat.lt_of_le_of_lt (bit_mul_le _ _ _) (hp B hB)
  have h2 : bit A i * bit B i * 2 ^ C < 2 ^ N := by
    rw [Nat.mul_assoc]
    exact Nat.lt_of_le_of_lt (bit_mul_le _ _ _) (Nat.lt_of_le_of_lt (bit_mul_le _ _ _) (hp C hC))
  refine mv_ind (P := fun p => p.1 < 2 ^ N) ?_ ?_ hi hi hi hi hi ?_ hi hi ?_ ?_
  · exact Nat.xor_lt_two_pow hi (hp A hA)
  · exact Nat.xor_lt_two_pow hi (hp A hA)
  · exact Nat.xor_lt_two_pow hi h1
  · exact Nat.xor_lt_two_pow (Nat.xor_lt_two_pow hi (hp A hA)) (hp B hB)
  · exact Nat.xor_lt_two_pow hi h2
theorem GT.nats {g : GT} {n : Nat} (h : g.ok n = true) : (1 ≤ n ∧ n ≤ 4) ∧ (1 ≤ g.k ∧ g.k ≤ 12) ∧ ∃ A B C : Nat, (g.a = A ∧ g.b = B ∧ g.c = C) ∧ A < n ∧ B < n ∧ C < n := by
  have hp := GT.parts h
  exact ⟨by omega, by omega, g.a.toNat, g.b.toNat, g.c.toNat, ⟨(Int.toNat_of_nonneg (by omega)).symm, (Int.toNat_of_nonneg (by omega)).symm, (Int.toNat_of_nonneg (by omega)).symm⟩, by omega, by omega, by omega⟩
theorem goes_lt {g : GT} {i len : Nat} (hq : qc len ≠ 0) (hg : g.ok (qc len) = true) (hi : i < len) : ∀ p ∈ goes g i, p.1 < len := by
  obtain ⟨h1, h2, h3⟩ := qc_pow hq
  obtain ⟨-, -, A, B, C, ⟨ga, gb, gc⟩, hA, hB, hC⟩ := GT.nats hg
  have hi' : i < 2 ^ qc len := by omega
  intro p hp
  rw [h1]
  unfold goes at hp
  rw [ga, gb, gc] at hp
  simp only [Int.toNat_natCast] at hp
  split at hp
  · simp only [List.mem_cons, List.not_mem_nil, or_false] at hp
    have := low_lt2 (qc len) (by omega) i hi' A hA
    rcases hp with rfl | rfl
    · exact Nat.lt_of_le_of_lt (Nat.le_add_right _ _) this
    · exact this
  · simp only [List.mem_cons, List.not_mem_nil, or_false] at hp
    subst hp
    exact mv_lt hi' hA hB hC

theorem stepG_yes {g : GT} {v out : List DO} {j t p : Nat} {x : DO} {R : List DO × Bool} (hj : j < v.length) (hk4 : ¬ g.k = 4) (hx : x = v[j]) (hmv : mv g.k g.a.toNat g.b.toNat g.c.toNat j = (t, p)) (hm : (mulD x (ph p)).2 = true)
    (ha : (addD (out.getD t ⟨⟨0, 0, 0, 0⟩, 0⟩) (mulD x (ph p)).1).2 = true) (h : applyL g j (v.drop j) out = R) : applyL g (j + 1) (v.drop (j + 1)) (out.set t (addD (out.getD t ⟨⟨0, 0, 0, 0⟩, 0⟩) (mulD x (ph p)).1).1) = R := by
  subst hx
  have e : addL out (goes g j) v[j] = (out.set t (addD (out.getD t ⟨⟨0, 0, 0, 0⟩, 0⟩) (mulD v[j] (ph p)).1).1, true) := by
    rw [addL_one hk4, hmv, addL_sing_yes hm ha]
  have := applyL_more hj h (by rw [e])
  rwa [e] at this
theorem stepG_no {g : GT} {v out : List DO} {j t p : Nat} {x : DO} {R : List DO × Bool} (hj : j < v.length) (hk4 : ¬ g.k = 4) (hx : x = v[j]) (hmv : mv g.k g.a.toNat g.b.toNat g.c.toNat j = (t, p))
    (ha : ((mulD x (ph p)).2 && (addD (out.getD t ⟨⟨0, 0, 0, 0⟩, 0⟩) (mulD x (ph p)).1).2) = false) (h : applyL g j (v.drop j) out = R) : R = ([], false) := by
  subst hx
  refine applyL_fail hj h ?_
  rw [addL_one hk4, hmv, addL_sing_no ha]
  simp
theorem mv_target {g : GT} {n j t p : Nat} (hq : qc n ≠ 0) (hg : g.ok (qc n) = true) (hj : j < n) (hmv : mv g.k g.a.toNat g.b.toNat g.c.toNat j = (t, p)) : t < n ∧ p < 8 := by
  obtain ⟨h1, h2, h3⟩ := qc_pow hq
  obtain ⟨-, -, A, B, C, ⟨ga, gb, gc⟩, hA, hB, hC⟩ := GT.nats hg
  have hi' : j < 2 ^ qc n := by omega
  have ht := mv_lt (k := g.k) hi' (show g.a.toNat < qc n by omega) (show g.b.toNat < qc n by omega) (show g.c.toNat < qc n by omega)
  have hp := mv_pow g.k g.a.toNat g.b.toNat g.c.toNat j
  rw [hmv] at ht hp
  exact ⟨by omega, hp⟩

theorem goesH (A j : Nat) : goes ⟨4, A, 0, 0⟩ j = [(low A j, hD), (low A j + 2 ^ A, if bit A j = 1 then negD hD else hD)] := by
  rw [goes, if_pos rfl, Int.toNat_natCast]
/-- The amplitude that H adds at the higher place. -/
def other (A j : Nat) (z : DO) : DO := if bit A j = 1 then negD z else z
theorem addL_H {out : List DO} {A j : Nat} {x : DO} (hm : (mulD x hD).2 = true) (ha : (addD (out.getD (low A j) ⟨⟨0, 0, 0, 0⟩, 0⟩) (mulD x hD).1).2 = true)
    {out1 : List DO} (ho : out1 = out.set (low A j) (addD (out.getD (low A j) ⟨⟨0, 0, 0, 0⟩, 0⟩) (mulD x hD).1).1) :
    addL out (goes ⟨4, A, 0, 0⟩ j) x = if (addD (out1.getD (low A j + 2 ^ A) ⟨⟨0, 0, 0, 0⟩, 0⟩) (other A j (mulD x hD).1)).2 then (out1.set (low A j + 2 ^ A) (addD (out1.getD (low A j + 2 ^ A) ⟨⟨0, 0, 0, 0⟩, 0⟩) (other A j (mulD x hD).1)).1, true) else ([], false) := by
  rw [goesH, addL_cons_yes hm ha, ← ho, addL, mulD_other, hm, other, Bool.true_and]
  rfl
theorem stepH_yes {g : GT} {v out out1 : List DO} {A j : Nat} {x : DO} {R : List DO × Bool} (hgd : g = ⟨4, A, 0, 0⟩) (hj : j < v.length) (hx : x = v[j]) (h : applyL g j (v.drop j) out = R)
    (hm : (mulD x hD).2 = true) (ha : (addD (out.getD (low A j) ⟨⟨0, 0, 0, 0⟩, 0⟩) (mulD x hD).1).2 = true) (ho : out1 = out.set (low A j) (addD (out.getD (low A j) ⟨⟨0, 0, 0, 0⟩, 0⟩) (mulD x hD).1).1)
    (hb : (addD (out1.getD (low A j + 2 ^ A) ⟨⟨0, 0, 0, 0⟩, 0⟩) (other A j (mulD x hD).1)).2 = true) : applyL g (j + 1) (v.drop (j + 1)) (out1.set (low A j + 2 ^ A) (addD (out1.getD (low A j + 2 ^ A) ⟨⟨0, 0, 0, 0⟩, 0⟩) (other A j (mulD x hD).1)).1) = R := by
  subst hx hgd
  have e := addL_H hm ha ho
  rw [if_pos hb] at e
  have := applyL_more hj h (by rw [e])
  rwa [e] at this
theorem stepH_no {g : GT} {v out out1 : List DO} {A j : Nat} {x : DO} {R : List DO × Bool} (hgd : g = ⟨4, A, 0, 0⟩) (hj : j < v.length) (hx : x = v[j]) (h : applyL g j (v.drop j) out = R)
    (hm : (mulD x hD).2 = true) (ha : (addD (out.getD (low A j) ⟨⟨0, 0, 0, 0⟩, 0⟩) (mulD x hD).1).2 = true) (ho : out1 = out.set (low A j) (addD (out.getD (low A j) ⟨⟨0, 0, 0, 0⟩, 0⟩) (mulD x hD).1).1)
    (hb : (addD (out1.getD (low A j + 2 ^ A) ⟨⟨0, 0, 0, 0⟩, 0⟩) (other A j (mulD x hD).1)).2 = false) : R = ([], false) := by
  subst hx hgd
  refine applyL_fail hj h ?_
  rw [addL_H hm ha ho, hb]
  simp
theorem stepH_no1 {g : GT} {v out : List DO} {A j : Nat} {x : DO} {R : List DO × Bool} (hgd : g = ⟨4, A, 0, 0⟩) (hj : j < v.length) (hx : x = v[j]) (h : applyL g j (v.drop j) out = R)
    (ha : ((mulD x hD).2 && (addD (out.getD (low A j) ⟨⟨0, 0, 0, 0⟩, 0⟩) (mulD x hD).1).2) = false) : R = ([], false) := by
  subst hx hgd
  refine applyL_fail hj h ?_
  rw [goesH, addL_cons_no ha]
  simp

end Go.Proofs.Yteckhaafdojoeaa

/-! M8: Rows of gates, matrices of gates and of circuits, as Lean functions. No walk. -/
namespace Go.Proofs.Yteckhaafdojoeaa

def runG : List GT → List DO → List DO × Bool
  | [], v => (v, true)
  | g :: r, v => if (applyG g v).2 then runG r (applyG g v).1 else ([], false)
def applyGs (l : List GT) (v : List DO) : List DO × Bool := if okS v then runG l v else ([], false)
def okC (n : Int) (l : List GT) : Bool := inR 1 4 n && (decide (l.length ≤ 60) && l.all (fun g => g.ok n))
def gateM (g : GT) (n : Int) : List (List DO) × Bool :=
  if g.ok n then (flip ((List.range (2 ^ n.toNat)).map fun i : Nat => (applyG g (basis n i)).1), true) else ([], false)
theorem runG_more {l : List GT} {v : List DO} {j : Nat} {R : List DO × Bool} (hj : j < l.length) (h : runG (l.drop j) v = R) (ha : (applyG l[j] v).2 = true) : runG (l.drop (j + 1)) (applyG l[j] v).1 = R := by
  rw [List.drop_eq_getElem_cons hj, runG, if_pos ha] at h
  exact h
theorem runG_fail {l : List GT} {v : List DO} {j : Nat} {R : List DO × Bool} (hj : j < l.length) (h : runG (l.drop j) v = R) (ha : ¬ (applyG l[j] v).2 = true) : R = ([], false) := by
  rw [List.drop_eq_getElem_cons hj, runG, if_neg ha] at h
  exact h.symm
theorem runG_end {l : List GT} {v : List DO} {j : Nat} {R : List DO × Bool} (hj : ¬ j < l.length) (h : runG (l.drop j) v = R) : R = (v, true) := by
  rw [List.drop_eq_nil_of_le (by omega), runG] at h
  exact h.symm
theorem applyGs_no {l : List GT} {v : List DO} (h : ¬ okS v = true) : applyGs l v = ([], false) := if_neg h
theorem applyGs_yes {l : List GT} {v : List DO} (h : okS v = true) : runG (l.drop 0) v = applyGs l v := (if_pos h).symm

end Go.Proofs.Yteckhaafdojoeaa

/-! V2: The value of a number of the program; equal values of valid numbers are equal numbers. No program in sight. -/
namespace Go.Proofs.Yteckhaafdojoeaa
def toQ (z : Z4) : Q4 := ⟨z.a, z.b, z.c, z.d⟩
def hq : Q4 := ⟨0, 1 / 2, 0, -1 / 2⟩
def rq : Q4 := ⟨0, 1, 0, -1⟩
theorem hr : hq * rq = 1 := by refine Q4.ext' ?_ ?_ ?_ ?_ <;> simp only [hq, rq, Q4.mul_a, Q4.mul_b, Q4.mul_c, Q4.mul_d, Q4.one_a, Q4.one_b, Q4.one_c, Q4.one_d] <;> grind
theorem toQ_inj {x y : Z4} (h : toQ x = toQ y) : x = y := by
  obtain ⟨a, b, c, d⟩ := x
  obtain ⟨a', b', c', d'⟩ := y
  simp only [toQ, Q4.mk.injEq, Rat.intCast_inj] at h
  simp only [Z4.mk.injEq]
  exact h
theorem toQ_add (x y : Z4) : toQ ⟨x.a + y.a, x.b + y.b, x.c + y.c, x.d + y.d⟩ = toQ x + toQ y := by
  refine Q4.ext' ?_ ?_ ?_ ?_ <;> simp only [toQ, Q4.add_a, Q4.add_b, Q4.add_c, Q4.add_d, Rat.intCast_add]
theorem toQ_mul (x y : Z4) : toQ (mulRaw x y) = toQ x * toQ y := by
  refine Q4.ext' ?_ ?_ ?_ ?_ <;> simp only [toQ, mulRaw, Q4.mul_a, Q4.mul_b, Q4.mul_c, Q4.mul_d, Rat.intCast_add, Rat.intCast_sub, Rat.intCast_mul]
theorem toQ_neg (x : Z4) : toQ x.neg = - toQ x := by
  refine Q4.ext' ?_ ?_ ?_ ?_ <;> simp only [toQ, Z4.neg, Q4.neg_a, Q4.neg_b, Q4.neg_c, Q4.neg_d, Rat.intCast_neg]
theorem toQ_r : toQ ⟨0, 1, 0, -1⟩ = rq := rfl
theorem toQ_0 : toQ ⟨0, 0, 0, 0⟩ = 0 := rfl
def val (x : DO) : Q4 := toQ x.n * Q4.pw hq x.e.toNat
theorem hr_pow (k : Nat) : Q4.pw hq k * Q4.pw rq k = 1 := by
  induction k with
  | zero => exact Q4.mul_one 1
  | succ k ih => rw [Q4.pw, Q4.pw, show Q4.pw hq k * hq * (Q4.pw rq k * rq) = (Q4.pw hq k * Q4.pw rq k) * (hq * rq) by ac_rfl, ih, hr, Q4.mul_one]
theorem divZ_val {n : Z4} (h : (divZ n).2 = true) : toQ n = toQ (divZ n).1 * rq := by
  unfold divZ at *
  split at h
  · rename_i hc
    rw [if_pos hc]
    simp only [Bool.and_eq_true, divE, evn_iff] at hc
    rw [← toQ_r, ← toQ_mul]
    congr 1
    obtain ⟨a, b, c, d⟩ := n
    simp only [mulRaw, Z4.mk.injEq]
    dsimp only at hc
    omega
  · cases h
theorem newL_val (k : Nat) : ∀ n : Z4, toQ (newL k n).1 * Q4.pw hq (newL k n).2 = toQ n * Q4.pw hq k := by
  induction k with
  | zero => intro n; rfl
  | succ k ih =>
    intro n
    unfold newL
    split
    · rename_i h
      rw [ih, divZ_val h, Q4.pw, show toQ (divZ n).1 * rq * (Q4.pw hq k * hq) = toQ (divZ n).1 * Q4.pw hq k * (hq * rq) by ac_rfl, hr, Q4.mul_one]
    · rfl
theorem newD_val {n : Z4} {k : Int} (h : (newD n k).2 = true) : val (newD n k).1 = toQ n * Q4.pw hq k.toNat := by
  unfold newD at *
  split at h
  · rename_i h1
    rw [if_pos h1]
    split at h
    · cases h
    · rename_i h2
      rw [if_neg h2]
      show toQ (newL k.toNat n).1 * Q4.pw hq (((newL k.toNat n).2 : Int).toNat) = _
      rw [Int.toNat_natCast, newL_val]
  · cases h
theorem mulZ_val {x y : Z4} (h : (mulZ x y).2 = true) : toQ (mulZ x y).1 = toQ x * toQ y := by
  unfold mulZ chkZ at *
  split at h
  · rename_i h1
    rw [if_pos h1]
    split at h
    · rename_i h2
      rw [if_pos h2, toQ_mul]
    · cases h
  · cases h
theorem addZ_val {x y : Z4} (h : (addZ x y).2 = true) : toQ (addZ x y).1 = toQ x + toQ y := by
  unfold addZ chkZ at *
  split at h
  · rename_i h1
    rw [if_pos h1]
    split at h
    · rename_i h2
      rw [if_pos h2, toQ_add]
    · cases h
  · cases h
theorem up_val (k : Nat) : ∀ n : Z4, (up k n).2 = true → toQ (up k n).1 = toQ n * Q4.pw rq k := by
  induction k with
  | zero => intro n _; rw [up, Q4.pw, Q4.mul_one]
  | succ k ih =>
    intro n h
    unfold up at h ⊢
    split at h
    · rename_i h1
      rw [if_pos h1, ih _ h, mulZ_val h1, toQ_r, Q4.pw]
      ac_rfl
    · cases h
theorem mulD_val {x y : DO} (h : (mulD x y).2 = true) : val (mulD x y).1 = val x * val y := by
  unfold mulD at *
  split at h
  · rename_i h1
    rw [if_pos h1]
    split at h
    · rename_i h2
      rw [if_pos h2, newD_val h, mulZ_val h2]
      simp only [Bool.and_eq_true, DO.ok_iff] at h1
      rw [show (x.e + y.e).toNat = x.e.toNat + y.e.toNat by omega, Q4.pw_add, val, val]
      ac_rfl
    · cases h
  · cases h
theorem addG_val {x y : DO} (hx : 0 ≤ x.e) (hy : 0 ≤ y.e) (hxy : y.e ≤ x.e) (h : (addG x y).2 = true) : val (addG x y).1 = val x + val y := by
  unfold addG at *
  split at h
  · rename_i h1
    rw [if_pos h1]
    split at h
    · rename_i h2
      rw [if_pos h2, newD_val h, addZ_val h2, up_val _ _ h1, val, val]
      obtain ⟨k, hk⟩ : ∃ k, x.e.toNat = y.e.toNat + k := ⟨x.e.toNat - y.e.toNat, by omega⟩
      rw [show (x.e - y.e).toNat = k by omega, hk, Q4.pw_add]
      rw [Q4.add_mul, show toQ y.n * Q4.pw rq k * (Q4.pw hq y.e.toNat * Q4.pw hq k) = toQ y.n * Q4.pw hq y.e.toNat * (Q4.pw hq k * Q4.pw rq k) by ac_rfl, hr_pow, Q4.mul_one]
    · cases h
  · cases h
theorem addD_val {x y : DO} (h : (addD x y).2 = true) : val (addD x y).1 = val x + val y := by
  unfold addD at *
  split at h
  · rename_i h1
    rw [if_pos h1]
    simp only [Bool.and_eq_true, DO.ok_iff] at h1
    split at h
    · rename_i h2
      rw [if_pos h2, addG_val (by omega) (by omega) (by omega) h, Q4.add_comm]
    · rename_i h2
      rw [if_neg h2, addG_val (by omega) (by omega) (by omega) h]
  · cases h
theorem negD_val {x : DO} (h : x.ok = true) : val (negD x) = - val x := by
  rw [negD_eq h, val, DO.neg, toQ_neg, val, Q4.neg_mul]
theorem divZ_of {n m : Z4} (hn : n.ok = true) (h : n = mulRaw m ⟨0, 1, 0, -1⟩) : (divZ n).2 = true := by
  unfold divZ
  have : divE n = true := by
    subst h
    obtain ⟨a, b, c, d⟩ := m
    simp only [divE, mulRaw, Bool.and_eq_true, evn_iff]
    omega
  rw [hn, this]
  rfl
theorem val_le {x y : DO} (hx : x.ok = true) (hy : y.ok = true) (hxy : x.e ≤ y.e) (h : val x = val y) : x = y := by
  have hx' := (DO.ok_iff x).1 hx
  have hy' := (DO.ok_iff y).1 hy
  obtain ⟨k, hk⟩ : ∃ k, y.e.toNat = x.e.toNat + k := ⟨y.e.toNat - x.e.toNat, by omega⟩
  have e1 : toQ y.n = toQ x.n * Q4.pw rq k := by
    rw [val, val, hk, Q4.pw_add] at h
    have h1 := hr_pow k
    have h2 := hr_pow x.e.toNat
    generalize Q4.pw hq x.e.toNat = p at *
    generalize Q4.pw rq x.e.toNat = q at *
    generalize Q4.pw hq k = u at *
    generalize Q4.pw rq k = v at *
    rw [show toQ y.n = toQ y.n * (p * q) * (u * v) by rw [h1, h2, Q4.mul_one, Q4.mul_one], show toQ y.n * (p * q) * (u * v) = toQ y.n * (p * u) * (q * v) by ac_rfl, ← h, show toQ x.n * p * (q * v) = toQ x.n * v * (p * q) by ac_rfl, h2, Q4.mul_one]
  cases k with
  | zero =>
    have : y.n = x.n := toQ_inj (by rw [e1, Q4.pw, Q4.mul_one])
    obtain ⟨n, e⟩ := x
    obtain ⟨n', e'⟩ := y
    simp only [DO.mk.injEq]
    dsimp only at *
    exact ⟨this.symm, by omega⟩
  | succ k =>
    exfalso
    have : ∃ m : Z4, toQ x.n * Q4.pw rq k = toQ m := by
      clear e1 hk
      induction k with
      | zero => exact ⟨x.n, by rw [Q4.pw, Q4.mul_one]⟩
      | succ k ih =>
        obtain ⟨m, hm⟩ := ih
        exact ⟨mulRaw m ⟨0, 1, 0, -1⟩, by rw [toQ_mul, ← hm, toQ_r, Q4.pw, Q4.mul_assoc]⟩
    obtain ⟨m, hm⟩ := this
    have e2 : y.n = mulRaw m ⟨0, 1, 0, -1⟩ := toQ_inj (by rw [e1, toQ_mul, ← hm, toQ_r, Q4.pw, Q4.mul_assoc])
    have e3 := divZ_of hy'.1 e2
    rcases hy'.2.2 with h0 | h0
    · omega
    · rw [e3] at h0; cases h0
theorem val_inj {x y : DO} (hx : x.ok = true) (hy : y.ok = true) (h : val x = val y) : x = y := by
  rcases Int.le_total x.e y.e with h1 | h1
  · exact val_le hx hy h1 h
  · exact (val_le hy hx h1 h.symm).symm
end Go.Proofs.Yteckhaafdojoeaa

/-! V3: Finite sums of numbers of the field. No program in sight. -/
namespace Go.Proofs.Yteckhaafdojoeaa

/-- The sum of f over the indices below n. -/
def sm : Nat → (Nat → Q4) → Q4
  | 0, _ => 0
  | n + 1, f => sm n f + f n
theorem sm_congr {f g : Nat → Q4} : ∀ n, (∀ i, i < n → f i = g i) → sm n f = sm n g
  | 0, _ => rfl
  | n + 1, h => by rw [sm, sm, sm_congr n fun i hi => h i (by omega), h n (by omega)]
theorem sm_add (f g : Nat → Q4) : ∀ n, sm n (fun i => f i + g i) = sm n f + sm n g
  | 0 => (Q4.add_zero 0).symm
  | n + 1 => by rw [sm, sm, sm, sm_add f g n]; ac_rfl
theorem sm_zero : ∀ n, sm n (fun _ => 0) = 0
  | 0 => rfl
  | n + 1 => by rw [sm, sm_zero n, Q4.add_zero]
theorem sm_mul (c : Q4) (f : Nat → Q4) : ∀ n, c * sm n f = sm n (fun i => c * f i)
  | 0 => Q4.mul_zero c
  | n + 1 => by rw [sm, sm, Q4.mul_add, sm_mul c f n]
theorem sm_mulr (c : Q4) (f : Nat → Q4) (n : Nat) : sm n f * c = sm n (fun i => f i * c) := by
  rw [Q4.mul_comm, sm_mul]
  exact sm_congr n fun i _ => Q4.mul_comm _ _
theorem sm_conj (f : Nat → Q4) : ∀ n, Q4.conj (sm n f) = sm n (fun i => Q4.conj (f i))
  | 0 => rfl
  | n + 1 => by rw [sm, sm, Q4.conj_add, sm_conj f n]
theorem sm_comm (f : Nat → Nat → Q4) (m : Nat) : ∀ n, sm n (fun i => sm m (fun j => f i j)) = sm m (fun j => sm n (fun i => f i j))
  | 0 => (sm_zero m).symm
  | n + 1 => by
    rw [sm, sm_comm f m n, ← sm_add]
    rfl
theorem sm_none {f : Nat → Q4} (n : Nat) (h : ∀ i, i < n → f i = 0) : sm n f = 0 := by
  rw [sm_congr n h, sm_zero]
theorem sm_one {f : Nat → Q4} {k : Nat} : ∀ n, k < n → (∀ i, i < n → i ≠ k → f i = 0) → sm n f = f k
  | 0, h, _ => absurd h (Nat.not_lt_zero _)
  | n + 1, hk, h => by
    rw [sm]
    by_cases e : k = n
    · subst e
      rw [sm_none k fun i hi => h i (by omega) (by omega), Q4.zero_add]
    · rw [sm_one n (by omega) fun i hi hne => h i (by omega) hne, h n (by omega) (by omega), Q4.add_zero]
/-- A sum over n + m indices, from 0 and from n on. -/
theorem sm_split (f : Nat → Q4) (n : Nat) : ∀ m, sm (n + m) f = sm n f + sm m (fun i => f (n + i))
  | 0 => (Q4.add_zero _).symm
  | m + 1 => by rw [← Nat.add_assoc, sm, sm_split f n m, sm, Q4.add_assoc]
theorem sm_head (f : Nat → Q4) (n : Nat) : sm (n + 1) f = f 0 + sm n (fun i => f (i + 1)) := by
  rw [Nat.add_comm n 1, sm_split f 1 n]
  have : sm 1 f = f 0 := Q4.zero_add _
  rw [this]
  congr 1
  exact sm_congr n fun i _ => by rw [Nat.add_comm]
/-- One where the indices agree. -/
def dl (i j : Nat) : Q4 := if i = j then 1 else 0
theorem dl_self (i : Nat) : dl i i = 1 := if_pos rfl
theorem dl_ne {i j : Nat} (h : i ≠ j) : dl i j = 0 := if_neg h
theorem dl_comm (i j : Nat) : dl i j = dl j i := by
  by_cases h : i = j
  · subst h; rfl
  · rw [dl_ne h, dl_ne (Ne.symm h)]
theorem sm_dl (f : Nat → Q4) {k n : Nat} (hk : k < n) : sm n (fun i => dl k i * f i) = f k := by
  rw [sm_one n hk fun i _ hne => by rw [dl_ne (Ne.symm hne), Q4.zero_mul], dl_self, Q4.one_mul]
theorem sm_dlr (f : Nat → Q4) {k n : Nat} (hk : k < n) : sm n (fun i => f i * dl i k) = f k := by
  rw [sm_one n hk fun i _ hne => by rw [dl_ne hne, Q4.mul_zero], dl_self, Q4.mul_one]

/-- What a state holds, as numbers of the field. -/
def vl (l : List DO) (i : Nat) : Q4 := val (l.getD i ⟨⟨0, 0, 0, 0⟩, 0⟩)
def vm (m : List (List DO)) (i j : Nat) : Q4 := vl (m.getD i []) j
theorem val_zero : val ⟨⟨0, 0, 0, 0⟩, 0⟩ = 0 := by
  show toQ ⟨0, 0, 0, 0⟩ * Q4.pw hq 0 = 0
  rw [toQ_0, Q4.zero_mul]
theorem val_one : val ⟨⟨1, 0, 0, 0⟩, 0⟩ = 1 := by
  show toQ ⟨1, 0, 0, 0⟩ * 1 = 1
  rw [Q4.mul_one]
  rfl
theorem vl_get {l : List DO} {i : Nat} (h : i < l.length) : vl l i = val l[i] := by
  rw [vl, List.getD_eq_getElem?_getD, List.getElem?_eq_getElem h]
  rfl
theorem vl_out {l : List DO} {i : Nat} (h : l.length ≤ i) : vl l i = 0 := by
  rw [vl, List.getD_eq_getElem?_getD, List.getElem?_eq_none h]
  exact val_zero
theorem vm_get {m : List (List DO)} {i : Nat} (h : i < m.length) (j : Nat) : vm m i j = vl m[i] j := by
  rw [vm, List.getD_eq_getElem?_getD, List.getElem?_eq_getElem h]
  rfl
/-- Two valid states with the same values are the same. -/
theorem vl_inj {a b : List DO} (hl : a.length = b.length) (ha : ∀ x ∈ a, x.ok = true) (hb : ∀ x ∈ b, x.ok = true) (h : ∀ i, i < a.length → vl a i = vl b i) : a = b := by
  apply List.ext_getElem hl
  intro i h1 h2
  have := h i h1
  rw [vl_get h1, vl_get h2] at this
  exact val_inj (ha _ (List.getElem_mem _)) (hb _ (List.getElem_mem _)) this
theorem vm_inj {a b : List (List DO)} (hl : a.length = b.length) (hr : ∀ i (h1 : i < a.length) (h2 : i < b.length), a[i].length = b[i].length) (ha : ∀ r ∈ a, ∀ x ∈ r, x.ok = true) (hb : ∀ r ∈ b, ∀ x ∈ r, x.ok = true)
    (h : ∀ i j, i < a.length → j < (a.getD i []).length → vm a i j = vm b i j) : a = b := by
  apply List.ext_getElem hl
  intro i h1 h2
  refine vl_inj (hr i h1 h2) (ha _ (List.getElem_mem _)) (hb _ (List.getElem_mem _)) fun j hj => ?_
  have := h i j h1 (by rw [List.getD_eq_getElem?_getD, List.getElem?_eq_getElem h1]; exact hj)
  rwa [vm_get h1, vm_get h2] at this

end Go.Proofs.Yteckhaafdojoeaa

/-! V4: What products, matrices and gates come to in the field. No program in sight. -/
namespace Go.Proofs.Yteckhaafdojoeaa

theorem conjD_eq {x : DO} (h : x.ok = true) : conjD x = ⟨⟨x.n.a, -x.n.d, -x.n.c, -x.n.b⟩, x.e⟩ := by
  rw [conjD, if_pos h, conjZ, if_pos ((DO.ok_iff x).1 h).1]
theorem conj_hq : Q4.conj hq = hq := by
  refine Q4.ext' ?_ ?_ ?_ ?_ <;> simp only [hq, Q4.conj_a, Q4.conj_b, Q4.conj_c, Q4.conj_d] <;> grind
theorem conj_pw (x : Q4) : ∀ k, Q4.conj (Q4.pw x k) = Q4.pw (Q4.conj x) k
  | 0 => by refine Q4.ext' ?_ ?_ ?_ ?_ <;> simp only [Q4.pw, Q4.conj_a, Q4.conj_b, Q4.conj_c, Q4.conj_d, Q4.one_a, Q4.one_b, Q4.one_c, Q4.one_d] <;> grind
  | k + 1 => by rw [Q4.pw, Q4.pw, Q4.conj_mul, conj_pw x k]
theorem conjD_val {x : DO} (h : x.ok = true) : val (conjD x) = Q4.conj (val x) := by
  rw [conjD_eq h, val, val, Q4.conj_mul, conj_pw, conj_hq]
  congr 1


theorem dotF_val : ∀ (l : List (DO × DO)) (s : DO), (dotF s l).2 = true →
    val (dotF s l).1 = val s + sm l.length (fun i => val (l.getD i (⟨⟨0, 0, 0, 0⟩, 0⟩, ⟨⟨0, 0, 0, 0⟩, 0⟩)).1 * val (l.getD i (⟨⟨0, 0, 0, 0⟩, 0⟩, ⟨⟨0, 0, 0, 0⟩, 0⟩)).2)
  | [], s, _ => (Q4.add_zero _).symm
  | p :: r, s, h => by
    rw [dotF] at h ⊢
    split at h
    · rename_i hc
      rw [if_pos hc, dotF_val r _ h]
      rw [Bool.and_eq_true] at hc
      rw [addD_val hc.2, mulD_val hc.1, List.length_cons, sm_head]
      simp only [List.getD_cons_zero, List.getD_cons_succ]
      rw [Q4.add_assoc]
    · cases h
theorem dotF_ok : ∀ (l : List (DO × DO)) (s : DO), s.ok = true → (dotF s l).2 = true → (dotF s l).1.ok = true
  | [], s, hs, _ => hs
  | p :: r, s, hs, h => by
    rw [dotF] at h ⊢
    split at h
    · rename_i hc
      rw [if_pos hc]
      rw [Bool.and_eq_true] at hc
      exact dotF_ok r _ (addD_ok hc.2) h
    · cases h
theorem dot_ok {u v : List DO} (h : (dot u v).2 = true) : (dot u v).1.ok = true := dotF_ok _ _ zero_ok h
theorem dot_val {u v : List DO} (hl : u.length = v.length) (h : (dot u v).2 = true) : val (dot u v).1 = sm v.length (fun i => vl u i * vl v i) := by
  unfold dot at *
  rw [dotF_val _ _ h, val_zero, Q4.zero_add, List.length_zip, hl, Nat.min_self]
  refine sm_congr _ fun i hi => ?_
  rw [List.getD_eq_getElem?_getD, List.getElem?_eq_getElem (by rw [List.length_zip]; omega)]
  rw [vl_get (by omega), vl_get hi]
  simp
theorem applyM_parts {m : List (List DO)} {v : List DO} (h : (applyM m v).2 = true) : okM m = true ∧ okS v = true ∧ m.length = v.length ∧ (applyM m v).1 = m.map (fun r => (dot r v).1) ∧ ∀ r ∈ m, (dot r v).2 = true := by
  unfold applyM at *
  split at h
  · rename_i h1
    rw [if_pos h1]
    simp only [Bool.and_eq_true, decide_eq_true_eq] at h1
    split at h
    · rename_i h2
      rw [if_pos h2]
      rw [List.all_eq_true] at h2
      exact ⟨h1.1, h1.2.1, h1.2.2, rfl, h2⟩
    · cases h
  · cases h
theorem applyM_okS {m : List (List DO)} {v : List DO} (h : (applyM m v).2 = true) : okS (applyM m v).1 = true := by
  obtain ⟨h1, h2, h3, h4, h5⟩ := applyM_parts h
  rw [h4]
  refine okS_yes ?_ fun i hi => ?_
  · rw [List.length_map, h3]
    rw [okS, Bool.and_eq_true] at h2
    simpa using h2.1
  · rw [List.getElem_map]
    exact dot_ok (h5 _ (List.getElem_mem _))
theorem applyM_val {m : List (List DO)} {v : List DO} (h : (applyM m v).2 = true) {i : Nat} (hi : i < m.length) : vl (applyM m v).1 i = sm v.length (fun j => vm m i j * vl v j) := by
  obtain ⟨h1, h2, h3, h4, h5⟩ := applyM_parts h
  rw [h4, vl_get (by rw [List.length_map]; exact hi), List.getElem_map]
  rw [dot_val ((okM_rows h1 (List.getElem_mem hi)).1.trans h3) (h5 _ (List.getElem_mem _))]
  exact sm_congr _ fun j _ => by rw [vm_get hi]
theorem colAt_get {m : List (List DO)} {i j : Nat} (hj : j < m.length) : vl (colAt m i) j = vm m j i := by
  rw [vl_get (by rw [colAt_length]; exact hj), vm_get hj]
  simp [colAt, vl]
theorem flip_val {m : List (List DO)} {i j : Nat} (hi : i < m.length) (hj : j < m.length) : vm (flip m) i j = vm m j i := by
  rw [vm_get (by rw [flip_length]; exact hi), flip_get, colAt_get hj]
theorem mulM_parts {a b : List (List DO)} (h : (mulM a b).2 = true) : okM a = true ∧ okM b = true ∧ a.length = b.length ∧ (mulM a b).1 = flip ((flip b).map fun c => (applyM a c).1) ∧ ∀ c ∈ flip b, (applyM a c).2 = true := by
  unfold mulM at *
  split at h
  · rename_i h1
    rw [if_pos h1]
    simp only [Bool.and_eq_true, decide_eq_true_eq] at h1
    split at h
    · rename_i h2
      rw [if_pos h2]
      rw [List.all_eq_true] at h2
      exact ⟨h1.1, h1.2.1, h1.2.2, rfl, h2⟩
    · cases h
  · cases h
theorem mulM_val {a b : List (List DO)} (h : (mulM a b).2 = true) {i j : Nat} (hi : i < a.length) (hj : j < a.length) : vm (mulM a b).1 i j = sm a.length (fun k => vm a i k * vm b k j) := by
  obtain ⟨h1, h2, h3, h4, h5⟩ := mulM_parts h
  have hl : ((flip b).map fun c => (applyM a c).1).length = a.length := by rw [List.length_map, flip_length, h3]
  have hjb : j < (flip b).length := by rw [flip_length]; omega
  rw [h4, flip_val (by omega) (by omega), vm_get (by omega), List.getElem_map, applyM_val (h5 _ (List.getElem_mem hjb)) hi, flip_get, colAt_length, ← h3]
  exact sm_congr _ fun k hk => by rw [colAt_get (by omega)]
theorem mulM_len {a b : List (List DO)} (h : (mulM a b).2 = true) : (mulM a b).1.length = a.length := by
  obtain ⟨h1, h2, h3, h4, h5⟩ := mulM_parts h
  rw [h4, flip_length, List.length_map, flip_length, h3]

/-! ### gates -/
/-- What the places of l say of place t. -/
def cfL : List (Nat × DO) → Nat → Q4
  | [], _ => 0
  | p :: r, t => (if p.1 = t then val p.2 else 0) + cfL r t
/-- The gate's matrix. -/
def cf (g : GT) (t i : Nat) : Q4 := cfL (goes g i) t
theorem vl_set {out : List DO} {t s : Nat} {x : DO} (ht : t < out.length) : vl (out.set t x) s = if t = s then val x else vl out s := by
  rw [vl, vl, List.getD_eq_getElem?_getD, List.getD_eq_getElem?_getD]
  by_cases e : t = s
  · subst e
    rw [if_pos rfl, List.getElem?_set_self ht]
    rfl
  · rw [if_neg e, List.getElem?_set_ne e]
theorem addL_val : ∀ (l : List (Nat × DO)) (out : List DO) (x : DO), (addL out l x).2 = true → (∀ p ∈ l, p.1 < out.length) → ∀ t, vl (addL out l x).1 t = vl out t + cfL l t * val x
  | [], out, x, _, _, t => by
    show vl out t = _
    rw [cfL, Q4.zero_mul, Q4.add_zero]
  | p :: r, out, x, h, hl, t => by
    rw [addL] at h ⊢
    split at h
    · rename_i hc
      rw [if_pos hc, addL_val r _ x h (fun q hq => by rw [List.length_set]; exact hl q (by simp [hq])) t]
      rw [Bool.and_eq_true] at hc
      rw [vl_set (hl p (by simp)), cfL]
      by_cases e : p.1 = t
      · rw [if_pos e, if_pos e, addD_val hc.2, mulD_val hc.1, Q4.add_mul, Q4.add_assoc, ← e]
        congr 2
        exact Q4.mul_comm _ _
      · rw [if_neg e, if_neg e, Q4.zero_add]
    · cases h
theorem applyL_val {g : GT} : ∀ (v : List DO) (i : Nat) (out : List DO), (applyL g i v out).2 = true → (∀ k, k < v.length → ∀ p ∈ goes g (i + k), p.1 < out.length) →
    ∀ t, vl (applyL g i v out).1 t = vl out t + sm v.length (fun k => cf g t (i + k) * vl v k)
  | [], i, out, _, _, t => by
    show vl out t = _
    exact (Q4.add_zero _).symm
  | x :: r, i, out, h, hl, t => by
    rw [applyL] at h ⊢
    split at h
    · rename_i hc
      rw [if_pos hc, applyL_val r (i + 1) _ h (fun k hk p hp => by
        rw [addL_len _ _ _ hc]
        refine hl (k + 1) (by simpa using hk) p ?_
        rw [show i + (k + 1) = i + 1 + k by omega]
        exact hp) t]
      rw [addL_val _ _ _ hc (hl 0 (by simp)) t, List.length_cons, sm_head, Q4.add_assoc]
      congr 2
      exact sm_congr _ fun k hk => by
        rw [show i + (k + 1) = i + 1 + k by omega]
        rfl
    · cases h
theorem applyL_ok {g : GT} (hg : 1 ≤ g.k ∧ g.k ≤ 12) : ∀ (v : List DO) (i : Nat) (out : List DO), (∀ y ∈ out, y.ok = true) → (applyL g i v out).2 = true → ∀ y ∈ (applyL g i v out).1, y.ok = true
  | [], _, _, h, _ => h
  | x :: r, i, out, h, h2 => by
    rw [applyL] at h2 ⊢
    split at h2
    · rename_i hc
      rw [if_pos hc]
      exact applyL_ok hg r (i + 1) _ (addL_ok _ _ _ h hc) h2
    · cases h2
theorem applyL_length {g : GT} : ∀ (v : List DO) (i : Nat) (out : List DO), (applyL g i v out).2 = true → (applyL g i v out).1.length = out.length
  | [], _, _, _ => rfl
  | x :: r, i, out, h => by
    rw [applyL] at h ⊢
    split at h
    · rename_i hc
      rw [if_pos hc, applyL_length r (i + 1) _ h, addL_len _ _ _ hc]
    · cases h
theorem okS_qc {v : List DO} (h : okS v = true) : qc v.length ≠ 0 := by
  rw [okS, Bool.and_eq_true] at h
  simpa using h.1
theorem applyG_parts {g : GT} {v : List DO} (h : (applyG g v).2 = true) : okS v = true ∧ g.ok (qc v.length) = true ∧ applyG g v = applyL g 0 v (List.replicate v.length ⟨⟨0, 0, 0, 0⟩, 0⟩) := by
  unfold applyG at *
  split at h
  · rename_i h1
    rw [if_pos h1]
    rw [Bool.and_eq_true] at h1
    exact ⟨h1.1, h1.2, rfl⟩
  · cases h
theorem applyG_len {g : GT} {v : List DO} (h : (applyG g v).2 = true) : (applyG g v).1.length = v.length := by
  obtain ⟨h1, h2, h3⟩ := applyG_parts h
  rw [h3] at h ⊢
  rw [applyL_length _ _ _ h, List.length_replicate]
theorem applyG_okS {g : GT} {v : List DO} (h : (applyG g v).2 = true) : okS (applyG g v).1 = true := by
  obtain ⟨h1, h2, h3⟩ := applyG_parts h
  have hl := applyG_len h
  refine okS_yes (by rw [hl]; exact okS_qc h1) fun i hi => ?_
  have hk := (GT.parts h2).2.1
  rw [h3] at h
  have := applyL_ok hk v 0 _ (fun y hy => by rw [List.eq_of_mem_replicate hy]; rfl) h
  rw [← h3] at this
  exact this _ (List.getElem_mem _)
theorem applyG_val {g : GT} {v : List DO} (h : (applyG g v).2 = true) (t : Nat) : vl (applyG g v).1 t = sm v.length (fun k => cf g t k * vl v k) := by
  obtain ⟨h1, h2, h3⟩ := applyG_parts h
  rw [h3] at h ⊢
  rw [applyL_val v 0 _ h (fun k hk p hp => by
    rw [List.length_replicate]
    rw [Nat.zero_add] at hp
    exact goes_lt (okS_qc h1) h2 hk p hp) t]
  have hz : vl (List.replicate v.length (⟨⟨0, 0, 0, 0⟩, 0⟩ : DO)) t = 0 := by
    by_cases ht : t < v.length
    · rw [vl_get (by simpa using ht), List.getElem_replicate, val_zero]
    · exact vl_out (by simpa using ht)
  rw [hz, Q4.zero_add]
  exact sm_congr _ fun k _ => by rw [Nat.zero_add]

end Go.Proofs.Yteckhaafdojoeaa

/-! V5: The matrix of a gate: its inverse, its adjoint; rows of gates. No program in sight. -/
namespace Go.Proofs.Yteckhaafdojoeaa

def invK (k : Int) : Int := if k = 5 then 6 else if k = 6 then 5 else if k = 7 then 8 else if k = 8 then 7 else k
def GT.inv (g : GT) : GT := ⟨invK g.k, g.a, g.b, g.c⟩
def nonH : List Int := [1, 2, 3, 5, 6, 7, 8, 9, 10, 11, 12]
theorem range_all {n : Nat} {f : Nat → Bool} (h : (List.range n).all f = true) {i : Nat} (hi : i < n) : f i = true := by
  rw [List.all_eq_true] at h
  exact h i (List.mem_range.2 hi)
def invOk (k : Int) (A B C i : Nat) : Bool :=
  (decide (9 ≤ k) && decide (B = A)) || ((decide (12 ≤ k) && (decide (C = A) || decide (C = B))) ||
    (decide ((mv (invK k) A B C (mv k A B C i).1).1 = i) && (decide (((mv (invK k) A B C (mv k A B C i).1).2 + (mv k A B C i).2) % 8 = 0) && decide ((mv (invK k) A B C i).1 = (mv k A B C i).1))))
theorem invOk_all : (nonH.all fun k => (List.range 4).all fun A => (List.range 4).all fun B => (List.range 4).all fun C => (List.range 16).all fun i => invOk k A B C i) = true := by decide +kernel
theorem mv_inv (k : Int) (hk : k ∈ nonH) (A : Nat) (hA : A < 4) (B : Nat) (hB : B < 4) (C : Nat) (hC : C < 4) (h1 : 9 ≤ k → B ≠ A) (h2 : 12 ≤ k → C ≠ A ∧ C ≠ B) (i : Nat) (hi : i < 16) :
    (mv (invK k) A B C (mv k A B C i).1).1 = i ∧ ((mv (invK k) A B C (mv k A B C i).1).2 + (mv k A B C i).2) % 8 = 0 ∧ (mv (invK k) A B C i).1 = (mv k A B C i).1 := by
  have h := invOk_all
  rw [List.all_eq_true] at h
  have h := range_all (range_all (range_all (range_all (h k hk) hA) hB) hC) hi
  simp only [invOk, Bool.or_eq_true, Bool.and_eq_true, decide_eq_true_eq] at h
  rcases h with h | h | h
  · exact absurd h.2 (h1 h.1)
  · exact absurd h.2 (by have := h2 h.1; omega)
  · exact h
theorem ph_add : ∀ p, p < 8 → ∀ q, q < 8 → mulRaw (ph p).n (ph q).n = (ph ((p + q) % 8)).n := by decide +kernel
theorem ph_exp : ∀ p, (ph p).e = 0
  | 0 | 1 | 2 | 3 | 4 | 5 | 6 | 7 => rfl
  | _ + 8 => rfl
theorem val_ph (p : Nat) : val (ph p) = toQ (ph p).n := by
  rw [val, ph_exp]
  exact Q4.mul_one _
theorem ph_mul {p q : Nat} (hp : p < 8) (hq : q < 8) : val (ph p) * val (ph q) = val (ph ((p + q) % 8)) := by
  rw [val_ph, val_ph, val_ph, ← toQ_mul, ph_add p hp q hq]
theorem ph_inv {p q : Nat} (hp : p < 8) (hq : q < 8) (h : (p + q) % 8 = 0) : val (ph p) * val (ph q) = 1 := by
  rw [ph_mul hp hq, h]
  exact val_one
def conjRaw (z : Z4) : Z4 := ⟨z.a, -z.d, -z.c, -z.b⟩
theorem toQ_conj (z : Z4) : toQ (conjRaw z) = Q4.conj (toQ z) := by
  refine Q4.ext' ?_ ?_ ?_ ?_ <;> simp only [toQ, conjRaw, Q4.conj_a, Q4.conj_b, Q4.conj_c, Q4.conj_d, Rat.intCast_neg]
theorem ph_conjRaw : ∀ p, p < 8 → ∀ q, q < 8 → (p + q) % 8 = 0 → conjRaw (ph p).n = (ph q).n := by decide +kernel
theorem ph_conj {p q : Nat} (hp : p < 8) (hq : q < 8) (h : (p + q) % 8 = 0) : Q4.conj (val (ph p)) = val (ph q) := by
  rw [val_ph, val_ph, ← toQ_conj, ph_conjRaw p hp q hq h]
theorem cf_mv {g : GT} (h : ¬ g.k = 4) (t i : Nat) : cf g t i = if (mv g.k g.a.toNat g.b.toNat g.c.toNat i).1 = t then val (ph (mv g.k g.a.toNat g.b.toNat g.c.toNat i).2) else 0 := by
  rw [cf, goes, if_neg h, cfL, cfL, Q4.add_zero]

/-! ### H -/
/-- A whole number of the field. -/
def iq (z : Int) : Q4 := toQ ⟨z, 0, 0, 0⟩
theorem iq_mul (x y : Int) : iq (x * y) = iq x * iq y := by
  rw [iq, iq, iq, ← toQ_mul]
  simp [mulRaw]
theorem iq_add (x y : Int) : iq (x + y) = iq x + iq y := by
  rw [iq, iq, iq, ← toQ_add]
  simp
theorem iq_zero : iq 0 = 0 := rfl
theorem iq_one : iq 1 = 1 := rfl
theorem iq_neg (x : Int) : iq (-x) = - iq x := by
  rw [iq, iq, ← toQ_neg]
  simp [Z4.neg]
theorem iq_conj (x : Int) : Q4.conj (iq x) = iq x := by
  rw [iq, ← toQ_conj]
  simp [conjRaw]
def smI : Nat → (Nat → Int) → Int
  | 0, _ => 0
  | n + 1, f => smI n f + f n
theorem iq_sm (f : Nat → Int) : ∀ n, iq (smI n f) = sm n (fun i => iq (f i))
  | 0 => iq_zero
  | n + 1 => by rw [smI, iq_add, iq_sm f n, sm]
def ch (A t i : Nat) : Int := if low A i = t then 1 else if low A i + 2 ^ A = t then (if bit A i = 1 then -1 else 1) else 0
theorem val_hD : val hD = hq := by
  show toQ ⟨1, 0, 0, 0⟩ * (1 * hq) = hq
  rw [Q4.one_mul]
  exact Q4.one_mul hq
theorem pow_pos2 (A : Nat) : 0 < 2 ^ A := Nat.pow_pos (by decide)
theorem cf_H (A t i : Nat) : cf ⟨4, A, 0, 0⟩ t i = iq (ch A t i) * hq := by
  have hp := pow_pos2 A
  rw [cf, goesH, cfL, cfL, cfL, Q4.add_zero, ch]
  by_cases h1 : low A i = t
  · rw [if_pos h1, if_pos h1, if_neg (by dsimp only; omega), Q4.add_zero, val_hD, iq_one, Q4.one_mul]
  · rw [if_neg h1, if_neg h1, Q4.zero_add]
    by_cases h2 : low A i + 2 ^ A = t
    · rw [if_pos h2, if_pos h2]
      by_cases h3 : bit A i = 1
      · rw [if_pos h3, if_pos h3, negD_val hD_ok, val_hD, iq_neg, iq_one, Q4.neg_mul, Q4.one_mul]
      · rw [if_neg h3, if_neg h3, val_hD, iq_one, Q4.one_mul]
    · rw [if_neg h2, if_neg h2, iq_zero, Q4.zero_mul]
theorem ch_sq : ∀ n, n < 5 → ∀ A, A < n → ∀ t, t < 2 ^ n → ∀ i, i < 2 ^ n → smI (2 ^ n) (fun s => ch A t s * ch A s i) = if t = i then 2 else 0 := by decide +kernel
theorem ch_sym : ∀ A, A < 4 → ∀ t, t < 16 → ∀ i, i < 16 → ch A t i = ch A i t := by decide +kernel
theorem hq_sq : iq 2 * (hq * hq) = 1 := by
  refine Q4.ext' ?_ ?_ ?_ ?_ <;> simp only [iq, toQ, hq, Q4.mul_a, Q4.mul_b, Q4.mul_c, Q4.mul_d, Q4.one_a, Q4.one_b, Q4.one_c, Q4.one_d] <;> grind

/-- A valid gate is H, or one of the others with qubits apart. -/
theorem GT.cases {g : GT} {n : Nat} (h : g.ok n = true) : (1 ≤ n ∧ n ≤ 4) ∧ ∃ A B C : Nat, g = ⟨g.k, A, B, C⟩ ∧ A < n ∧ B < n ∧ C < n ∧ ((g.k = 4 ∧ B = 0 ∧ C = 0) ∨ (g.k ∈ nonH ∧ (9 ≤ g.k → B ≠ A) ∧ (12 ≤ g.k → C ≠ A ∧ C ≠ B))) := by
  obtain ⟨h1, h2, A, B, C, ⟨ga, gb, gc⟩, hA, hB, hC⟩ := GT.nats h
  refine ⟨h1, A, B, C, ?_, hA, hB, hC, ?_⟩
  · obtain ⟨k, a, b, c⟩ := g
    dsimp only at *
    subst ga gb gc
    rfl
  · obtain ⟨k, a, b, c⟩ := g
    dsimp only at *
    subst ga gb gc
    by_cases h4 : k = 4
    · subst h4
      have := (GT.ok1 (g := ⟨4, A, B, C⟩) (n := n) rfl).1 h
      dsimp only at this
      left
      omega
    · right
      refine ⟨?_, ?_, ?_⟩
      · simp only [nonH, List.mem_cons, List.not_mem_nil, or_false]
        omega
      · intro h9
        rcases ar_cases k with ⟨h0, h1⟩ | ⟨h0, h1⟩ | ⟨h0, h1⟩ | ⟨h0, h1⟩
        · omega
        · have := (GT.ok2 (g := ⟨k, A, B, C⟩) (n := n) h0).1 h
          dsimp only at this
          omega
        · have := (GT.ok3 (g := ⟨k, A, B, C⟩) (n := n) h0).1 h
          dsimp only at this
          omega
        · omega
      · intro h12
        have := (GT.ok3 (g := ⟨k, A, B, C⟩) (n := n) (by show ar k = 3; rw [show k = 12 by omega]; rfl)).1 h
        dsimp only at this
        omega
theorem nonH_ne {k : Int} (h : k ∈ nonH) : ¬ k = 4 := by
  simp only [nonH, List.mem_cons, List.not_mem_nil, or_false] at h
  omega
theorem invK_nonH {k : Int} (h : k ∈ nonH) : invK k ∈ nonH := by
  revert k
  decide +kernel
theorem two_le16 {n : Nat} (h : n ≤ 4) : 2 ^ n ≤ 16 := Nat.pow_le_pow_right (by decide) h

theorem cf_inv {g : GT} {n : Nat} (hg : g.ok n = true) {t i : Nat} (ht : t < 2 ^ n) (hi : i < 2 ^ n) : sm (2 ^ n) (fun s => cf g.inv t s * cf g s i) = dl t i := by
  obtain ⟨⟨n1, n4⟩, A, B, C, hgd, hA, hB, hC, hk⟩ := GT.cases hg
  have h16 := two_le16 n4
  rcases hk with ⟨hk, rfl, rfl⟩ | ⟨hk, hd1, hd2⟩
  · rw [hk] at hgd
    subst hgd
    have e : GT.inv ⟨4, A, (0 : Nat), (0 : Nat)⟩ = ⟨4, A, 0, 0⟩ := rfl
    rw [e]
    rw [sm_congr (g := fun s => iq (ch A t s * ch A s i) * (hq * hq)) _ fun s _ => by
      show cf ⟨4, A, 0, 0⟩ t s * cf ⟨4, A, 0, 0⟩ s i = _
      rw [cf_H, cf_H, iq_mul]; ac_rfl]
    rw [← sm_mulr, ← iq_sm, ch_sq n (by omega) A hA t ht i hi]
    by_cases e : t = i
    · rw [if_pos e, e, dl_self, hq_sq]
    · rw [if_neg e, dl_ne e, iq_zero, Q4.zero_mul]
  · obtain ⟨k, a, b, c⟩ := g
    simp only [GT.mk.injEq, true_and] at hgd
    obtain ⟨rfl, rfl, rfl⟩ := hgd
    dsimp only at hk hd1 hd2
    have hm := mv_inv k hk A (by omega) B (by omega) C (by omega) hd1 hd2 i (by omega)
    have hlt : (mv k A B C i).1 < 2 ^ n := mv_lt hi hA hB hC
    have hp := mv_pow k A B C i
    have hp2 := mv_pow (invK k) A B C (mv k A B C i).1
    rw [sm_one (k := (mv k A B C i).1) (2 ^ n) hlt fun s _ hne => by
      rw [cf_mv (g := ⟨k, A, B, C⟩) (nonH_ne hk), if_neg (by simpa using Ne.symm hne), Q4.mul_zero]]
    rw [cf_mv (g := ⟨k, A, B, C⟩) (nonH_ne hk)]
    show _ * (if (mv k A B C i).1 = (mv k A B C i).1 then val (ph (mv k A B C i).2) else 0) = _
    rw [if_pos rfl, cf_mv (g := GT.inv ⟨k, A, B, C⟩) (nonH_ne (invK_nonH hk))]
    show (if (mv (invK k) A B C (mv k A B C i).1).1 = t then val (ph (mv (invK k) A B C (mv k A B C i).1).2) else 0) * val (ph (mv k A B C i).2) = dl t i
    rw [hm.1]
    by_cases e : t = i
    · rw [if_pos e.symm, e, dl_self, ph_inv hp2 hp hm.2.1]
    · rw [if_neg (Ne.symm e), dl_ne e, Q4.zero_mul]
theorem cf_adj {g : GT} {n : Nat} (hg : g.ok n = true) {t s : Nat} (ht : t < 2 ^ n) (hs : s < 2 ^ n) : cf g.inv t s = Q4.conj (cf g s t) := by
  obtain ⟨⟨n1, n4⟩, A, B, C, hgd, hA, hB, hC, hk⟩ := GT.cases hg
  have h16 := two_le16 n4
  rcases hk with ⟨hk, rfl, rfl⟩ | ⟨hk, hd1, hd2⟩
  · rw [hk] at hgd
    subst hgd
    show cf ⟨4, A, 0, 0⟩ t s = Q4.conj (cf ⟨4, A, 0, 0⟩ s t)
    rw [cf_H, cf_H, Q4.conj_mul, iq_conj, conj_hq, ch_sym A (by omega) t (by omega) s (by omega)]
  · obtain ⟨k, a, b, c⟩ := g
    simp only [GT.mk.injEq, true_and] at hgd
    obtain ⟨rfl, rfl, rfl⟩ := hgd
    dsimp only at hk hd1 hd2
    have hm := mv_inv k hk A (by omega) B (by omega) C (by omega) hd1 hd2
    rw [cf_mv (g := ⟨k, A, B, C⟩) (nonH_ne hk), cf_mv (g := GT.inv ⟨k, A, B, C⟩) (nonH_ne (invK_nonH hk))]
    show (if (mv (invK k) A B C s).1 = t then val (ph (mv (invK k) A B C s).2) else 0) = Q4.conj (if (mv k A B C t).1 = s then val (ph (mv k A B C t).2) else 0)
    have h1 := hm t (by omega)
    have h2 := hm s (by omega)
    have hp := mv_pow k A B C t
    by_cases e : (mv k A B C t).1 = s
    · rw [if_pos e]
      rw [e] at h1
      rw [if_pos h1.1, ph_conj hp (mv_pow _ _ _ _ _) (by rw [Nat.add_comm]; exact h1.2.1)]
    · rw [if_neg e, if_neg]
      · rfl
      · intro h
        rw [h2.2.2] at h
        have h3 := h2.1
        rw [h, h1.2.2] at h3
        exact e h3

end Go.Proofs.Yteckhaafdojoeaa

/-! V6: The matrix of a row of gates. No program in sight. -/
namespace Go.Proofs.Yteckhaafdojoeaa

def mcL (N : Nat) : List GT → Nat → Nat → Q4
  | [], t, i => dl t i
  | g :: r, t, i => sm N (fun s => mcL N r t s * cf g s i)
theorem applyGs_parts {l : List GT} {v : List DO} (h : (applyGs l v).2 = true) : okS v = true ∧ applyGs l v = runG l v := by
  unfold applyGs at *
  split at h
  · rename_i h1
    exact ⟨h1, if_pos h1⟩
  · cases h
theorem runG_len : ∀ (l : List GT) (v : List DO), (runG l v).2 = true → (runG l v).1.length = v.length
  | [], _, _ => rfl
  | g :: r, v, h => by
    rw [runG] at h ⊢
    split at h
    · rename_i hc
      rw [if_pos hc, runG_len r _ h, applyG_len hc]
    · cases h
theorem runG_okS : ∀ (l : List GT) (v : List DO), okS v = true → (runG l v).2 = true → okS (runG l v).1 = true
  | [], _, h, _ => h
  | g :: r, v, h0, h => by
    rw [runG] at h ⊢
    split at h
    · rename_i hc
      rw [if_pos hc]
      exact runG_okS r _ (applyG_okS hc) h
    · cases h
theorem runG_val : ∀ (l : List GT) (v : List DO), (runG l v).2 = true → ∀ t, t < v.length → vl (runG l v).1 t = sm v.length (fun i => mcL v.length l t i * vl v i)
  | [], v, _, t, ht => (sm_dl _ ht).symm
  | g :: r, v, h, t, ht => by
    rw [runG] at h ⊢
    split at h
    · rename_i hc
      have hl := applyG_len hc
      rw [if_pos hc, runG_val r _ h t (by omega), hl]
      rw [sm_congr (g := fun s => sm v.length (fun i => mcL v.length r t s * (cf g s i * vl v i))) _ fun s _ => by
        rw [applyG_val hc s, sm_mul]]
      rw [sm_comm]
      refine sm_congr _ fun i _ => ?_
      rw [mcL, sm_mulr]
      exact sm_congr _ fun s _ => (Q4.mul_assoc _ _ _).symm
    · cases h
theorem mcL_append {N : Nat} (b : List GT) : ∀ (a : List GT) {t i : Nat}, t < N → i < N → mcL N (a ++ b) t i = sm N (fun s => mcL N b t s * mcL N a s i)
  | [], t, i, _, hi => (sm_dlr _ hi).symm
  | g :: r, t, i, ht, hi => by
    rw [List.cons_append, mcL]
    rw [sm_congr (g := fun s => sm N (fun u => mcL N b t u * (mcL N r u s * cf g s i))) _ fun s hs => by
      rw [mcL_append b r ht hs, sm_mulr]
      exact sm_congr _ fun u _ => Q4.mul_assoc _ _ _]
    rw [sm_comm]
    refine sm_congr _ fun u _ => ?_
    rw [mcL, sm_mul]
theorem mcL_one {N : Nat} (g : GT) {t i : Nat} (ht : t < N) : mcL N [g] t i = cf g t i := by
  rw [mcL]
  exact sm_dl _ ht
def invL (l : List GT) : List GT := l.reverse.map GT.inv
theorem invL_cons (g : GT) (r : List GT) : invL (g :: r) = invL r ++ [g.inv] := by simp [invL]
theorem mcL_undo {n : Nat} : ∀ (l : List GT), (∀ g ∈ l, g.ok n = true) → ∀ t i, t < 2 ^ n → i < 2 ^ n → mcL (2 ^ n) (l ++ invL l) t i = dl t i
  | [], _, t, i, _, _ => rfl
  | g :: r, h, t, i, ht, hi => by
    have e : (g :: r) ++ invL (g :: r) = (g :: (r ++ invL r)) ++ [g.inv] := by rw [invL_cons]; simp
    rw [e, mcL_append _ _ ht hi]
    rw [sm_congr (g := fun s => cf g.inv t s * cf g s i) _ fun s hs => by
      rw [mcL_one _ ht, mcL]
      congr 1
      rw [sm_congr (g := fun u => dl s u * cf g u i) _ fun u hu => by rw [mcL_undo r (fun g hg => h g (by simp [hg])) s u hs hu]]
      exact sm_dl _ hs]
    exact cf_inv (h g (by simp)) ht hi
theorem conj_dl (i j : Nat) : Q4.conj (dl i j) = dl j i := by
  rw [dl_comm]
  unfold dl
  split
  · exact iq_conj 1
  · exact iq_conj 0
theorem mcL_adj {n : Nat} : ∀ (l : List GT), (∀ g ∈ l, g.ok n = true) → ∀ t i, t < 2 ^ n → i < 2 ^ n → mcL (2 ^ n) (invL l) i t = Q4.conj (mcL (2 ^ n) l t i)
  | [], _, t, i, _, _ => (conj_dl t i).symm
  | g :: r, h, t, i, ht, hi => by
    rw [invL_cons, mcL_append _ _ hi ht, mcL, sm_conj]
    refine sm_congr _ fun s hs => ?_
    rw [mcL_one _ hi, Q4.conj_mul, cf_adj (h g (by simp)) hi hs, mcL_adj r (fun g hg => h g (by simp [hg])) t s ht hs, Q4.mul_comm]
/-- A valid row's matrix is unitary. -/
theorem mcL_unitary {n : Nat} (l : List GT) (h : ∀ g ∈ l, g.ok n = true) {i j : Nat} (hi : i < 2 ^ n) (hj : j < 2 ^ n) : sm (2 ^ n) (fun t => Q4.conj (mcL (2 ^ n) l t i) * mcL (2 ^ n) l t j) = dl i j := by
  rw [← mcL_undo l h i j hi hj, mcL_append _ _ hi hj]
  exact sm_congr _ fun t ht => by rw [mcL_adj l h t i ht hi]

end Go.Proofs.Yteckhaafdojoeaa
