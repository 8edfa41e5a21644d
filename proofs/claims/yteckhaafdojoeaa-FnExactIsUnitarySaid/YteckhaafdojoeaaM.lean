/- Plain definitions: the numbers of the program as Lean functions, and what holds of them. No program in sight. -/
namespace Go.Proofs.Yteckhaafdojoeaa

structure Z4 where
  a : Int
  b : Int
  c : Int
  d : Int
  deriving DecidableEq

structure DO where
  n : Z4
  e : Int
  deriving DecidableEq

def inR (lo hi x : Int) : Bool := decide (lo ≤ x) && decide (x ≤ hi)
def Z4.ok (z : Z4) : Bool := inR (-1073741824) 1073741824 z.a && (inR (-1073741824) 1073741824 z.b && (inR (-1073741824) 1073741824 z.c && inR (-1073741824) 1073741824 z.d))
def chkZ (z : Z4) : Z4 × Bool := if z.ok then (z, true) else (⟨0, 0, 0, 0⟩, false)
def addZ (x y : Z4) : Z4 × Bool := if x.ok && y.ok then chkZ ⟨x.a + y.a, x.b + y.b, x.c + y.c, x.d + y.d⟩ else (⟨0, 0, 0, 0⟩, false)
def mulRaw (x y : Z4) : Z4 :=
  ⟨x.a * y.a - x.b * y.d - x.c * y.c - x.d * y.b,
   x.a * y.b + x.b * y.a - x.c * y.d - x.d * y.c,
   x.a * y.c + x.b * y.b + x.c * y.a - x.d * y.d,
   x.a * y.d + x.b * y.c + x.c * y.b + x.d * y.a⟩
def mulZ (x y : Z4) : Z4 × Bool := if x.ok && y.ok then chkZ (mulRaw x y) else (⟨0, 0, 0, 0⟩, false)
def negZ (x : Z4) : Z4 := if x.ok then ⟨-x.a, -x.b, -x.c, -x.d⟩ else ⟨0, 0, 0, 0⟩
def conjZ (x : Z4) : Z4 := if x.ok then ⟨x.a, -x.d, -x.c, -x.b⟩ else ⟨0, 0, 0, 0⟩
def evn (x : Int) : Bool := x % 2 == 0
def divE (x : Z4) : Bool := evn (x.b - x.d) && (evn (x.a + x.c) && (evn (x.b + x.d) && evn (x.c - x.a)))
def divZ (x : Z4) : Z4 × Bool :=
  if x.ok && divE x then (⟨(x.b - x.d) / 2, (x.a + x.c) / 2, (x.b + x.d) / 2, (x.c - x.a) / 2⟩, true) else (⟨0, 0, 0, 0⟩, false)
def DO.ok (x : DO) : Bool := x.n.ok && (inR 0 60 x.e && (x.e == 0 || !(divZ x.n).2))

theorem Z4.ok_iff (z : Z4) : z.ok = true ↔ (-1073741824 ≤ z.a ∧ z.a ≤ 1073741824) ∧ (-1073741824 ≤ z.b ∧ z.b ≤ 1073741824) ∧ (-1073741824 ≤ z.c ∧ z.c ≤ 1073741824) ∧ (-1073741824 ≤ z.d ∧ z.d ≤ 1073741824) := by
  simp [Z4.ok, inR]

theorem mulB1 {x y : Int} (h1 : -1073741824 ≤ x) (h2 : x ≤ 1073741824) (h3 : -1073741824 ≤ y) (h4 : y ≤ 1073741824) : -1152921504606846976 ≤ x * y ∧ x * y ≤ 1152921504606846976 := by
  have a1 : 0 ≤ (1073741824 - x) * (1073741824 - y) := Int.mul_nonneg (by omega) (by omega)
  have a2 : 0 ≤ (1073741824 + x) * (1073741824 + y) := Int.mul_nonneg (by omega) (by omega)
  have a3 : 0 ≤ (1073741824 - x) * (1073741824 + y) := Int.mul_nonneg (by omega) (by omega)
  have a4 : 0 ≤ (1073741824 + x) * (1073741824 - y) := Int.mul_nonneg (by omega) (by omega)
  simp only [Int.sub_mul, Int.add_mul, Int.mul_sub, Int.mul_add] at a1 a2 a3 a4
  omega

theorem mulB {a b c d a' b' c' d' : Int} (x1 : -1073741824 ≤ a) (x2 : a ≤ 1073741824) (x3 : -1073741824 ≤ b) (x4 : b ≤ 1073741824) (x5 : -1073741824 ≤ c) (x6 : c ≤ 1073741824) (x7 : -1073741824 ≤ d) (x8 : d ≤ 1073741824)
    (y1 : -1073741824 ≤ a') (y2 : a' ≤ 1073741824) (y3 : -1073741824 ≤ b') (y4 : b' ≤ 1073741824) (y5 : -1073741824 ≤ c') (y6 : c' ≤ 1073741824) (y7 : -1073741824 ≤ d') (y8 : d' ≤ 1073741824) :
    (-1152921504606846976 ≤ a * a' ∧ a * a' ≤ 1152921504606846976) ∧ (-1152921504606846976 ≤ a * b' ∧ a * b' ≤ 1152921504606846976) ∧ (-1152921504606846976 ≤ a * c' ∧ a * c' ≤ 1152921504606846976) ∧ (-1152921504606846976 ≤ a * d' ∧ a * d' ≤ 1152921504606846976) ∧
    (-1152921504606846976 ≤ b * a' ∧ b * a' ≤ 1152921504606846976) ∧ (-1152921504606846976 ≤ b * b' ∧ b * b' ≤ 1152921504606846976) ∧ (-1152921504606846976 ≤ b * c' ∧ b * c' ≤ 1152921504606846976) ∧ (-1152921504606846976 ≤ b * d' ∧ b * d' ≤ 1152921504606846976) ∧
    (-1152921504606846976 ≤ c * a' ∧ c * a' ≤ 1152921504606846976) ∧ (-1152921504606846976 ≤ c * b' ∧ c * b' ≤ 1152921504606846976) ∧ (-1152921504606846976 ≤ c * c' ∧ c * c' ≤ 1152921504606846976) ∧ (-1152921504606846976 ≤ c * d' ∧ c * d' ≤ 1152921504606846976) ∧
    (-1152921504606846976 ≤ d * a' ∧ d * a' ≤ 1152921504606846976) ∧ (-1152921504606846976 ≤ d * b' ∧ d * b' ≤ 1152921504606846976) ∧ (-1152921504606846976 ≤ d * c' ∧ d * c' ≤ 1152921504606846976) ∧ (-1152921504606846976 ≤ d * d' ∧ d * d' ≤ 1152921504606846976) :=
  ⟨mulB1 x1 x2 y1 y2, mulB1 x1 x2 y3 y4, mulB1 x1 x2 y5 y6, mulB1 x1 x2 y7 y8, mulB1 x3 x4 y1 y2, mulB1 x3 x4 y3 y4, mulB1 x3 x4 y5 y6, mulB1 x3 x4 y7 y8,
   mulB1 x5 x6 y1 y2, mulB1 x5 x6 y3 y4, mulB1 x5 x6 y5 y6, mulB1 x5 x6 y7 y8, mulB1 x7 x8 y1 y2, mulB1 x7 x8 y3 y4, mulB1 x7 x8 y5 y6, mulB1 x7 x8 y7 y8⟩

def newL : Nat → Z4 → Z4 × Nat
  | 0, n => (n, 0)
  | k + 1, n => if (divZ n).2 then newL k (divZ n).1 else (n, k + 1)
def newD (n : Z4) (k : Int) : DO × Bool :=
  if n.ok && inR 0 120 k then (if 60 < (newL k.toNat n).2 then (⟨⟨0, 0, 0, 0⟩, 0⟩, false) else (⟨(newL k.toNat n).1, (newL k.toNat n).2⟩, true)) else (⟨⟨0, 0, 0, 0⟩, 0⟩, false)
def up : Nat → Z4 → Z4 × Bool
  | 0, n => (n, true)
  | k + 1, n => if (mulZ n ⟨0, 1, 0, -1⟩).2 then up k (mulZ n ⟨0, 1, 0, -1⟩).1 else (⟨0, 0, 0, 0⟩, false)
/-- The sum, x the one with the greater exponent. -/
def addG (x y : DO) : DO × Bool :=
  if (up (x.e - y.e).toNat y.n).2 then
    (if (addZ x.n (up (x.e - y.e).toNat y.n).1).2 then newD (addZ x.n (up (x.e - y.e).toNat y.n).1).1 x.e else (⟨⟨0, 0, 0, 0⟩, 0⟩, false))
  else (⟨⟨0, 0, 0, 0⟩, 0⟩, false)
def addD (x y : DO) : DO × Bool := if x.ok && y.ok then (if x.e < y.e then addG y x else addG x y) else (⟨⟨0, 0, 0, 0⟩, 0⟩, false)
def mulD (x y : DO) : DO × Bool := if x.ok && y.ok then (if (mulZ x.n y.n).2 then newD (mulZ x.n y.n).1 (x.e + y.e) else (⟨⟨0, 0, 0, 0⟩, 0⟩, false)) else (⟨⟨0, 0, 0, 0⟩, 0⟩, false)
def negD (x : DO) : DO := if x.ok then ⟨negZ x.n, x.e⟩ else ⟨⟨0, 0, 0, 0⟩, 0⟩
def conjD (x : DO) : DO := if x.ok then ⟨conjZ x.n, x.e⟩ else ⟨⟨0, 0, 0, 0⟩, 0⟩

theorem inR_iff (lo hi x : Int) : inR lo hi x = true ↔ lo ≤ x ∧ x ≤ hi := by simp [inR]
theorem inR_false (lo hi x : Int) : inR lo hi x = false ↔ ¬ (lo ≤ x ∧ x ≤ hi) := by rw [← inR_iff]; simp
theorem DO.ok_iff (x : DO) : x.ok = true ↔ x.n.ok = true ∧ (0 ≤ x.e ∧ x.e ≤ 60) ∧ (x.e = 0 ∨ (divZ x.n).2 = false) := by
  simp [DO.ok, inR_iff]
theorem evn_iff (x : Int) : evn x = true ↔ x % 2 = 0 := by simp [evn]
theorem tmod_evn (x : Int) : (x.tmod 2 == 0) = evn x := by
  rw [Bool.eq_iff_iff, evn_iff, beq_iff_eq]
  constructor
  · intro h
    have := Int.emod_two_eq x
    have h2 := Int.dvd_of_tmod_eq_zero h
    omega
  · intro h
    exact Int.tmod_eq_zero_of_dvd (Int.dvd_of_emod_eq_zero h)
theorem tdiv_evn (x : Int) (h : evn x = true) : x.tdiv 2 = x / 2 := by
  rw [evn_iff] at h
  exact Int.tdiv_eq_ediv_of_dvd (Int.dvd_of_emod_eq_zero h)
theorem newL_le (k : Nat) (n : Z4) : (newL k n).2 ≤ k := by
  induction k generalizing n with
  | zero => simp [newL]
  | succ k ih =>
    unfold newL
    split
    · exact Nat.le_succ_of_le (ih _)
    · exact Nat.le_refl _
theorem divZ_ok {n : Z4} (h : (divZ n).2 = true) : (divZ n).1.ok = true := by
  unfold divZ at *
  split at h
  · rename_i hc
    rw [if_pos hc]
    simp only [Bool.and_eq_true] at hc
    have := (Z4.ok_iff _).1 hc.1
    rw [Z4.ok_iff]
    dsimp only
    omega
  · simp at h
theorem chkZ_ok {n : Z4} (h : (chkZ n).2 = true) : (chkZ n).1.ok = true := by
  unfold chkZ at *
  split at h <;> simp_all
theorem mulZ_ok {x y : Z4} (h : (mulZ x y).2 = true) : (mulZ x y).1.ok = true := by
  unfold mulZ at *
  split at h
  · rename_i hc; rw [if_pos hc]; exact chkZ_ok h
  · simp at h
theorem addZ_ok {x y : Z4} (h : (addZ x y).2 = true) : (addZ x y).1.ok = true := by
  unfold addZ at *
  split at h
  · rename_i hc; rw [if_pos hc]; exact chkZ_ok h
  · simp at h

theorem evn_facts {x : Int} (h : evn x = true) : x.tmod 2 = 0 ∧ x.tdiv 2 = x / 2 := by
  have := tmod_evn x
  rw [h, beq_iff_eq] at this
  exact ⟨this, tdiv_evn x h⟩
theorem odd_facts {x : Int} (h : evn x = false) : (x.tmod 2 == 0) = false ∧ (x.tmod 2 != 0) = true := by
  have := tmod_evn x
  rw [h] at this
  exact ⟨this, by simp only [bne, this, Bool.not_false]⟩

end Go.Proofs.Yteckhaafdojoeaa
