/- Plain definitions: the numbers of the program as Lean functions, and what holds of them. No program in sight. · More plain lemmas on the numbers. No program in sight. · Plain lemmas on the sum. No program in sight. · States and matrices as lists: what the functions on them come to. No program in sight. -/

/-! M: Plain definitions: the numbers of the program as Lean functions, and what holds of them. No program in sight. -/
namespace Go.Proofs.Yteckhaafdojoeaa

structure Z4 where
  a : Int
  b : Int
  c : Int
  d : Int
  deriving DecidableEq

structure DO where
  n : Z4
  e : Int
  deriving DecidableEq

def inR (lo hi x : Int) : Bool := decide (lo ≤ x) && decide (x ≤ hi)
def Z4.ok (z : Z4) : Bool := inR (-1073741824) 1073741824 z.a && (inR (-1073741824) 1073741824 z.b && (inR (-1073741824) 1073741824 z.c && inR (-1073741824) 1073741824 z.d))
def chkZ (z : Z4) : Z4 × Bool := if z.ok then (z, true) else (⟨0, 0, 0, 0⟩, false)
def addZ (x y : Z4) : Z4 × Bool := if x.ok && y.ok then chkZ ⟨x.a + y.a, x.b + y.b, x.c + y.c, x.d + y.d⟩ else (⟨0, 0, 0, 0⟩, false)
def mulRaw (x y : Z4) : Z4 :=
  ⟨x.a * y.a - x.b * y.d - x.c * y.c - x.d * y.b,
   x.a * y.b + x.b * y.a - x.c * y.d - x.d * y.c,
   x.a * y.c + x.b * y.b + x.c * y.a - x.d * y.d,
   x.a * y.d + x.b * y.c + x.c * y.b + x.d * y.a⟩
def mulZ (x y : Z4) : Z4 × Bool := if x.ok && y.ok then chkZ (mulRaw x y) else (⟨0, 0, 0, 0⟩, false)
def negZ (x : Z4) : Z4 := if x.ok then ⟨-x.a, -x.b, -x.c, -x.d⟩ else ⟨0, 0, 0, 0⟩
def conjZ (x : Z4) : Z4 := if x.ok then ⟨x.a, -x.d, -x.c, -x.b⟩ else ⟨0, 0, 0, 0⟩
def evn (x : Int) : Bool := x % 2 == 0
def divE (x : Z4) : Bool := evn (x.b - x.d) && (evn (x.a + x.c) && (evn (x.b + x.d) && evn (x.c - x.a)))
def divZ (x : Z4) : Z4 × Bool :=
  if x.ok && divE x then (⟨(x.b - x.d) / 2, (x.a + x.c) / 2, (x.b + x.d) / 2, (x.c - x.a) / 2⟩, true) else (⟨0, 0, 0, 0⟩, false)
def DO.ok (x : DO) : Bool := x.n.ok && (inR 0 60 x.e && (x.e == 0 || !(divZ x.n).2))

theorem Z4.ok_iff (z : Z4) : z.ok = true ↔ (-1073741824 ≤ z.a ∧ z.a ≤ 1073741824) ∧ (-1073741824 ≤ z.b ∧ z.b ≤ 1073741824) ∧ (-1073741824 ≤ z.c ∧ z.c ≤ 1073741824) ∧ (-1073741824 ≤ z.d ∧ z.d ≤ 1073741824) := by
  simp [Z4.ok, inR]

theorem mulB1 {x y : Int} (h1 : -1073741824 ≤ x) (h2 : x ≤ 1073741824) (h3 : -1073741824 ≤ y) (h4 : y ≤ 1073741824) : -1152921504606846976 ≤ x * y ∧ x * y ≤ 1152921504606846976 := by
  have a1 : 0 ≤ (1073741824 - x) * (1073741824 - y) := Int.mul_nonneg (by omega) (by omega)
  have a2 : 0 ≤ (1073741824 + x) * (1073741824 + y) := Int.mul_nonneg (by omega) (by omega)
  have a3 : 0 ≤ (1073741824 - x) * (1073741824 + y) := Int.mul_nonneg (by omega) (by omega)
  have a4 : 0 ≤ (1073741824 + x) * (1073741824 - y) := Int.mul_nonneg (by omega) (by omega)
  simp only [Int.sub_mul, Int.add_mul, Int.mul_sub, Int.mul_add] at a1 a2 a3 a4
  omega

theorem mulB {a b c d a' b' c' d' : Int} (x1 : -1073741824 ≤ a) (x2 : a ≤ 1073741824) (x3 : -1073741824 ≤ b) (x4 : b ≤ 1073741824) (x5 : -1073741824 ≤ c) (x6 : c ≤ 1073741824) (x7 : -1073741824 ≤ d) (x8 : d ≤ 1073741824)
    (y1 : -1073741824 ≤ a') (y2 : a' ≤ 1073741824) (y3 : -1073741824 ≤ b') (y4 : b' ≤ 1073741824) (y5 : -1073741824 ≤ c') (y6 : c' ≤ 1073741824) (y7 : -1073741824 ≤ d') (y8 : d' ≤ 1073741824) :
    (-1152921504606846976 ≤ a * a' ∧ a * a' ≤ 1152921504606846976) ∧ (-1152921504606846976 ≤ a * b' ∧ a * b' ≤ 1152921504606846976) ∧ (-1152921504606846976 ≤ a * c' ∧ a * c' ≤ 1152921504606846976) ∧ (-1152921504606846976 ≤ a * d' ∧ a * d' ≤ 1152921504606846976) ∧
    (-1152921504606846976 ≤ b * a' ∧ b * a' ≤ 1152921504606846976) ∧ (-1152921504606846976 ≤ b * b' ∧ b * b' ≤ 1152921504606846976) ∧ (-1152921504606846976 ≤ b * c' ∧ b * c' ≤ 1152921504606846976) ∧ (-1152921504606846976 ≤ b * d' ∧ b * d' ≤ 1152921504606846976) ∧
    (-1152921504606846976 ≤ c * a' ∧ c * a' ≤ 1152921504606846976) ∧ (-1152921504606846976 ≤ c * b' ∧ c * b' ≤ 1152921504606846976) ∧ (-1152921504606846976 ≤ c * c' ∧ c * c' ≤ 1152921504606846976) ∧ (-1152921504606846976 ≤ c * d' ∧ c * d' ≤ 1152921504606846976) ∧
    (-1152921504606846976 ≤ d * a' ∧ d * a' ≤ 1152921504606846976) ∧ (-1152921504606846976 ≤ d * b' ∧ d * b' ≤ 1152921504606846976) ∧ (-1152921504606846976 ≤ d * c' ∧ d * c' ≤ 1152921504606846976) ∧ (-1152921504606846976 ≤ d * d' ∧ d * d' ≤ 1152921504606846976) :=
  ⟨mulB1 x1 x2 y1 y2, mulB1 x1 x2 y3 y4, mulB1 x1 x2 y5 y6, mulB1 x1 x2 y7 y8, mulB1 x3 x4 y1 y2, mulB1 x3 x4 y3 y4, mulB1 x3 x4 y5 y6, mulB1 x3 x4 y7 y8,
   mulB1 x5 x6 y1 y2, mulB1 x5 x6 y3 y4, mulB1 x5 x6 y5 y6, mulB1 x5 x6 y7 y8, mulB1 x7 x8 y1 y2, mulB1 x7 x8 y3 y4, mulB1 x7 x8 y5 y6, mulB1 x7 x8 y7 y8⟩

def newL : Nat → Z4 → Z4 × Nat
  | 0, n => (n, 0)
  | k + 1, n => if (divZ n).2 then newL k (divZ n).1 else (n, k + 1)
def newD (n : Z4) (k : Int) : DO × Bool :=
  if n.ok && inR 0 120 k then (if 60 < (newL k.toNat n).2 then (⟨⟨0, 0, 0, 0⟩, 0⟩, false) else (⟨(newL k.toNat n).1, (newL k.toNat n).2⟩, true)) else (⟨⟨0, 0, 0, 0⟩, 0⟩, false)
def up : Nat → Z4 → Z4 × Bool
  | 0, n => (n, true)
  | k + 1, n => if (mulZ n ⟨0, 1, 0, -1⟩).2 then up k (mulZ n ⟨0, 1, 0, -1⟩).1 else (⟨0, 0, 0, 0⟩, false)
/-- The sum, x the one with the greater exponent. -/
def addG (x y : DO) : DO × Bool :=
  if (up (x.e - y.e).toNat y.n).2 then
    (if (addZ x.n (up (x.e - y.e).toNat y.n).1).2 then newD (addZ x.n (up (x.e - y.e).toNat y.n).1).1 x.e else (⟨⟨0, 0, 0, 0⟩, 0⟩, false))
  else (⟨⟨0, 0, 0, 0⟩, 0⟩, false)
def addD (x y : DO) : DO × Bool := if x.ok && y.ok then (if x.e < y.e then addG y x else addG x y) else (⟨⟨0, 0, 0, 0⟩, 0⟩, false)
def mulD (x y : DO) : DO × Bool := if x.ok && y.ok then (if (mulZ x.n y.n).2 then newD (mulZ x.n y.n).1 (x.e + y.e) else (⟨⟨0, 0, 0, 0⟩, 0⟩, false)) else (⟨⟨0, 0, 0, 0⟩, 0⟩, false)
def negD (x : DO) : DO := if x.ok then ⟨negZ x.n, x.e⟩ else ⟨⟨0, 0, 0, 0⟩, 0⟩
def conjD (x : DO) : DO := if x.ok then ⟨conjZ x.n, x.e⟩ else ⟨⟨0, 0, 0, 0⟩, 0⟩

theorem inR_iff (lo hi x : Int) : inR lo hi x = true ↔ lo ≤ x ∧ x ≤ hi := by simp [inR]
theorem inR_false (lo hi x : Int) : inR lo hi x = false ↔ ¬ (lo ≤ x ∧ x ≤ hi) := by rw [← inR_iff]; simp
theorem DO.ok_iff (x : DO) : x.ok = true ↔ x.n.ok = true ∧ (0 ≤ x.e ∧ x.e ≤ 60) ∧ (x.e = 0 ∨ (divZ x.n).2 = false) := by
  simp [DO.ok, inR_iff]
theorem evn_iff (x : Int) : evn x = true ↔ x % 2 = 0 := by simp [evn]
theorem tmod_evn (x : Int) : (x.tmod 2 == 0) = evn x := by
  rw [Bool.eq_iff_iff, evn_iff, beq_iff_eq]
  constructor
  · intro h
    have := Int.emod_two_eq x
    have h2 := Int.dvd_of_tmod_eq_zero h
    omega
  · intro h
    exact Int.tmod_eq_zero_of_dvd (Int.dvd_of_emod_eq_zero h)
theorem tdiv_evn (x : Int) (h : evn x = true) : x.tdiv 2 = x / 2 := by
  rw [evn_iff] at h
  exact Int.tdiv_eq_ediv_of_dvd (Int.dvd_of_emod_eq_zero h)
theorem newL_le (k : Nat) (n : Z4) : (newL k n).2 ≤ k := by
  induction k generalizing n with
  | zero => simp [newL]
  | succ k ih =>
    unfold newL
    split
    · exact Nat.le_succ_of_le (ih _)
    · exact Nat.le_refl _
theorem divZ_ok {n : Z4} (h : (divZ n).2 = true) : (divZ n).1.ok = true := by
  unfold divZ at *
  split at h
  · rename_i hc
    rw [if_pos hc]
    simp only [Bool.and_eq_true] at hc
    have := (Z4.ok_iff _).1 hc.1
    rw [Z4.ok_iff]
    dsimp only
    omega
  · simp at h
theorem chkZ_ok {n : Z4} (h : (chkZ n).2 = true) : (chkZ n).1.ok = true := by
  unfold chkZ at *
  split at h <;> simp_all
theorem mulZ_ok {x y : Z4} (h : (mulZ x y).2 = true) : (mulZ x y).1.ok = true := by
  unfold mulZ at *
  split at h
  · rename_i hc; rw [if_pos hc]; exact chkZ_ok h
  · simp at h
theorem addZ_ok {x y : Z4} (h : (addZ x y).2 = true) : (addZ x y).1.ok = true := by
  unfold addZ at *
  split at h
  · rename_i hc; rw [if_pos hc]; exact chkZ_ok h
  · simp at h

theorem evn_facts {x : Int} (h : evn x = true) : x.tmod 2 = 0 ∧ x.tdiv 2 = x / 2 := by
  have := tmod_evn x
  rw [h, beq_iff_eq] at this
  exact ⟨this, tdiv_evn x h⟩
theorem odd_facts {x : Int} (h : evn x = false) : (x.tmod 2 == 0) = false ∧ (x.tmod 2 != 0) = true := by
  have := tmod_evn x
  rw [h] at this
  exact ⟨this, by simp only [bne, this, Bool.not_false]⟩

end Go.Proofs.Yteckhaafdojoeaa

/-! M2: More plain lemmas on the numbers. No program in sight. -/
namespace Go.Proofs.Yteckhaafdojoeaa

theorem newD_great {n m : Z4} {k j : Int} (hn : n.ok = true) (hk : inR 0 120 k = true) (h : newL k.toNat n = (m, j.toNat)) (h6 : 60 < j) : newD n k = (⟨⟨0, 0, 0, 0⟩, 0⟩, false) := by
  have h6' : 60 < j.toNat := by omega
  simp [newD, hn, hk, h, h6']
theorem newD_small {n m : Z4} {k j : Int} (hn : n.ok = true) (hk : inR 0 120 k = true) (h : newL k.toNat n = (m, j.toNat)) (h0 : 0 ≤ j) (h6 : ¬ 60 < j) : newD n k = (⟨m, j⟩, true) := by
  have h6' : ¬ 60 < j.toNat := by omega
  have hj : ((j.toNat : Nat) : Int) = j := by omega
  simp only [newD, hn, hk, h, h6', hj, Bool.and_self, if_true, if_false]
theorem newL_more {k : Nat} {n m : Z4} {j : Int} (hj : 0 < j) (h : newL j.toNat n = newL k m) (hd : (divZ n).2 = true) : newL (j - 1).toNat (divZ n).1 = newL k m := by
  have e : j.toNat = (j - 1).toNat + 1 := by omega
  rw [e, newL, if_pos hd] at h
  exact h
theorem newL_end {k : Nat} {n m : Z4} {j : Int} (hj : 0 < j) (h : newL j.toNat n = newL k m) (hd : ¬ (divZ n).2 = true) : newL k m = (n, j.toNat) := by
  have e : j.toNat = (j - 1).toNat + 1 := by omega
  rw [e, newL, if_neg hd, ← e] at h
  exact h.symm
theorem newL_stop {k : Nat} {n m : Z4} {j : Int} (hj : ¬ 0 < j) (h : newL j.toNat n = newL k m) : newL k m = (n, j.toNat) := by
  have e : j.toNat = 0 := by omega
  rw [e, newL] at h
  rw [e]
  exact h.symm

end Go.Proofs.Yteckhaafdojoeaa

/-! M3: Plain lemmas on the sum. No program in sight. -/
namespace Go.Proofs.Yteckhaafdojoeaa

theorem up_more {n : Z4} {j h : Int} {U : Z4 × Bool} (hj : j < h) (hu : up (h - j).toNat n = U) (hm : (mulZ n ⟨0, 1, 0, -1⟩).2 = true) : up (h - (j + 1)).toNat (mulZ n ⟨0, 1, 0, -1⟩).1 = U := by
  have e : (h - j).toNat = (h - (j + 1)).toNat + 1 := by omega
  rw [e, up, if_pos hm] at hu
  exact hu
theorem up_fail {n : Z4} {j h : Int} {U : Z4 × Bool} (hj : j < h) (hu : up (h - j).toNat n = U) (hm : ¬ (mulZ n ⟨0, 1, 0, -1⟩).2 = true) : U = (⟨0, 0, 0, 0⟩, false) := by
  have e : (h - j).toNat = (h - (j + 1)).toNat + 1 := by omega
  rw [e, up, if_neg hm] at hu
  exact hu.symm
theorem up_stop {n : Z4} {j h : Int} {U : Z4 × Bool} (hj : ¬ j < h) (hu : up (h - j).toNat n = U) : U = (n, true) := by
  have e : (h - j).toNat = 0 := by omega
  rw [e, up] at hu
  exact hu.symm
theorem addG_fail {x y : DO} {n : Z4} (h : up (x.e - y.e).toNat y.n = (n, false)) : addG x y = (⟨⟨0, 0, 0, 0⟩, 0⟩, false) := by
  simp [addG, h]
theorem addG_no {x y : DO} {n : Z4} (h : up (x.e - y.e).toNat y.n = (n, true)) (ha : ¬ (addZ x.n n).2 = true) : addG x y = (⟨⟨0, 0, 0, 0⟩, 0⟩, false) := by
  simp [addG, h, ha]
theorem addG_yes {x y : DO} {n : Z4} (h : up (x.e - y.e).toNat y.n = (n, true)) (ha : (addZ x.n n).2 = true) : addG x y = newD (addZ x.n n).1 x.e := by
  simp [addG, h, ha]

theorem up_zero (n : Z4) (k : Int) : up (k - k).toNat n = (n, true) := by
  rw [show (k - k).toNat = 0 by omega]
  rfl
theorem addZ_comm (x y : Z4) : addZ x y = addZ y x := by
  simp only [addZ, Bool.and_comm y.ok, Int.add_comm]
/-- The sum as the reference makes it: both are lifted. -/
def addS (x y : DO) (m : Int) : DO × Bool :=
  if (up (m - x.e).toNat x.n).2 && (up (m - y.e).toNat y.n).2 && (addZ (up (m - x.e).toNat x.n).1 (up (m - y.e).toNat y.n).1).2 then newD (addZ (up (m - x.e).toNat x.n).1 (up (m - y.e).toNat y.n).1).1 m else (⟨⟨0, 0, 0, 0⟩, 0⟩, false)
theorem addS_left {x y : DO} (hx : x.ok = true) (hy : y.ok = true) (h : y.e < x.e) : addD x y = addS x y x.e := by
  rw [addD, if_pos (by simp [hx, hy]), if_neg (by omega), addG, addS, up_zero]
  by_cases h1 : (up (x.e - y.e).toNat y.n).2 = true <;> simp [h1]
theorem addS_right {x y : DO} (hx : x.ok = true) (hy : y.ok = true) (h : ¬ y.e < x.e) : addD x y = addS x y y.e := by
  rw [addD, if_pos (by simp [hx, hy])]
  by_cases he : x.e < y.e
  · rw [if_pos he, addG, addS, up_zero, addZ_comm]
    by_cases h1 : (up (y.e - x.e).toNat x.n).2 = true <;> simp [h1]
  · have e : x.e = y.e := by omega
    rw [if_neg he, addG, addS, e, up_zero, up_zero]
    simp
theorem addS_yes {x y : DO} {m : Int} {a b : Z4 × Bool} (ha : up (m - x.e).toNat x.n = a) (hb : up (m - y.e).toNat y.n = b) (h1 : a.2 = true) (h2 : b.2 = true) (h3 : (addZ a.1 b.1).2 = true) : addS x y m = newD (addZ a.1 b.1).1 m := by
  subst ha hb
  simp [addS, h1, h2, h3]
theorem addS_no {x y : DO} {m : Int} {a b : Z4 × Bool} (ha : up (m - x.e).toNat x.n = a) (hb : up (m - y.e).toNat y.n = b) (h : (a.2 && b.2 && (addZ a.1 b.1).2) = false) : addS x y m = (⟨⟨0, 0, 0, 0⟩, 0⟩, false) := by
  subst ha hb
  simp only [addS, h]
  rfl
/-- One round more of the lifting loop, counted upward. -/
theorem upc_more {n m : Z4} {t i : Int} (hi : i < t) (h : up (t - i).toNat n = up t.toNat m) (hm : (mulZ n ⟨0, 1, 0, -1⟩).2 = true) : up (t - (i + 1)).toNat (mulZ n ⟨0, 1, 0, -1⟩).1 = up t.toNat m := up_more hi h hm

end Go.Proofs.Yteckhaafdojoeaa

/-! M4: States and matrices as lists: what the functions on them come to. No program in sight. -/
namespace Go.Proofs.Yteckhaafdojoeaa

abbrev Z0 : Z4 := ⟨0, 0, 0, 0⟩
abbrev D0 : DO := ⟨⟨0, 0, 0, 0⟩, 0⟩

/-- The sum of products, from s on. -/
def dotF : DO → List (DO × DO) → DO × Bool
  | s, [] => (s, true)
  | s, p :: r => if (mulD p.1 p.2).2 && (addD s (mulD p.1 p.2).1).2 then dotF (addD s (mulD p.1 p.2).1).1 r else (⟨⟨0, 0, 0, 0⟩, 0⟩, false)
def dot (u v : List DO) : DO × Bool := dotF ⟨⟨0, 0, 0, 0⟩, 0⟩ (u.zip v)

theorem zip_drop {u v : List DO} {j : Nat} (hj : j < u.length) (hv : u.length ≤ v.length) : (u.zip v).drop j = (u[j], v[j]) :: (u.zip v).drop (j + 1) := by
  rw [List.drop_eq_getElem_cons (by rw [List.length_zip]; omega)]
  simp
theorem dotF_more {s : DO} {u v : List DO} {j : Nat} {R : DO × Bool} (hj : j < u.length) (hv : u.length ≤ v.length) (h : dotF s ((u.zip v).drop j) = R)
    (h1 : (mulD u[j] v[j]).2 = true) (h2 : (addD s (mulD u[j] v[j]).1).2 = true) : dotF (addD s (mulD u[j] v[j]).1).1 ((u.zip v).drop (j + 1)) = R := by
  rw [zip_drop hj hv, dotF] at h
  simpa [h1, h2] using h
theorem dotF_fail {s : DO} {u v : List DO} {j : Nat} {R : DO × Bool} (hj : j < u.length) (hv : u.length ≤ v.length) (h : dotF s ((u.zip v).drop j) = R)
    (h1 : ((mulD u[j] v[j]).2 && (addD s (mulD u[j] v[j]).1).2) = false) : R = (⟨⟨0, 0, 0, 0⟩, 0⟩, false) := by
  rw [zip_drop hj hv, dotF, if_neg (by rw [h1]; exact Bool.false_ne_true)] at h
  exact h.symm
theorem dotF_end {s : DO} {u v : List DO} {j : Nat} {R : DO × Bool} (hj : ¬ j < u.length) (hv : u.length ≤ v.length) (h : dotF s ((u.zip v).drop j) = R) : R = (s, true) := by
  rw [List.drop_eq_nil_of_le (by rw [List.length_zip]; omega), dotF] at h
  exact h.symm

end Go.Proofs.Yteckhaafdojoeaa
