/- Plain lemmas on the sum. No program in sight. -/
import Derived.Test.YteckhaafdojoeaaM2
namespace Go.Proofs.Yteckhaafdojoeaa

theorem up_more {n : Z4} {j h : Int} {U : Z4 × Bool} (hj : j < h) (hu : up (h - j).toNat n = U) (hm : (mulZ n ⟨0, 1, 0, -1⟩).2 = true) : up (h - (j + 1)).toNat (mulZ n ⟨0, 1, 0, -1⟩).1 = U := by
  have e : (h - j).toNat = (h - (j + 1)).toNat + 1 := by omega
  rw [e, up, if_pos hm] at hu
  exact hu
theorem up_fail {n : Z4} {j h : Int} {U : Z4 × Bool} (hj : j < h) (hu : up (h - j).toNat n = U) (hm : ¬ (mulZ n ⟨0, 1, 0, -1⟩).2 = true) : U = (⟨0, 0, 0, 0⟩, false) := by
  have e : (h - j).toNat = (h - (j + 1)).toNat + 1 := by omega
  rw [e, up, if_neg hm] at hu
  exact hu.symm
theorem up_stop {n : Z4} {j h : Int} {U : Z4 × Bool} (hj : ¬ j < h) (hu : up (h - j).toNat n = U) : U = (n, true) := by
  have e : (h - j).toNat = 0 := by omega
  rw [e, up] at hu
  exact hu.symm
theorem addG_fail {x y : DO} {n : Z4} (h : up (x.e - y.e).toNat y.n = (n, false)) : addG x y = (⟨⟨0, 0, 0, 0⟩, 0⟩, false) := by
  simp [addG, h]
theorem addG_no {x y : DO} {n : Z4} (h : up (x.e - y.e).toNat y.n = (n, true)) (ha : ¬ (addZ x.n n).2 = true) : addG x y = (⟨⟨0, 0, 0, 0⟩, 0⟩, false) := by
  simp [addG, h, ha]
theorem addG_yes {x y : DO} {n : Z4} (h : up (x.e - y.e).toNat y.n = (n, true)) (ha : (addZ x.n n).2 = true) : addG x y = newD (addZ x.n n).1 x.e := by
  simp [addG, h, ha]

theorem up_zero (n : Z4) (k : Int) : up (k - k).toNat n = (n, true) := by
  rw [show (k - k).toNat = 0 by omega]
  rfl
theorem addZ_comm (x y : Z4) : addZ x y = addZ y x := by
  simp only [addZ, Bool.and_comm y.ok, Int.add_comm]
/-- The sum as the reference makes it: both are lifted. -/
def addS (x y : DO) (m : Int) : DO × Bool :=
  if (up (m - x.e).toNat x.n).2 && (up (m - y.e).toNat y.n).2 && (addZ (up (m - x.e).toNat x.n).1 (up (m - y.e).toNat y.n).1).2 then newD (addZ (up (m - x.e).toNat x.n).1 (up (m - y.e).toNat y.n).1).1 m else (⟨⟨0, 0, 0, 0⟩, 0⟩, false)
theorem addS_left {x y : DO} (hx : x.ok = true) (hy : y.ok = true) (h : y.e < x.e) : addD x y = addS x y x.e := by
  rw [addD, if_pos (by simp [hx, hy]), if_neg (by omega), addG, addS, up_zero]
  by_cases h1 : (up (x.e - y.e).toNat y.n).2 = true <;> simp [h1]
theorem addS_right {x y : DO} (hx : x.ok = true) (hy : y.ok = true) (h : ¬ y.e < x.e) : addD x y = addS x y y.e := by
  rw [addD, if_pos (by simp [hx, hy])]
  by_cases he : x.e < y.e
  · rw [if_pos he, addG, addS, up_zero, addZ_comm]
    by_cases h1 : (up (y.e - x.e).toNat x.n).2 = true <;> simp [h1]
  · have e : x.e = y.e := by omega
    rw [if_neg he, addG, addS, e, up_zero, up_zero]
    simp
theorem addS_yes {x y : DO} {m : Int} {a b : Z4 × Bool} (ha : up (m - x.e).toNat x.n = a) (hb : up (m - y.e).toNat y.n = b) (h1 : a.2 = true) (h2 : b.2 = true) (h3 : (addZ a.1 b.1).2 = true) : addS x y m = newD (addZ a.1 b.1).1 m := by
  subst ha hb
  simp [addS, h1, h2, h3]
theorem addS_no {x y : DO} {m : Int} {a b : Z4 × Bool} (ha : up (m - x.e).toNat x.n = a) (hb : up (m - y.e).toNat y.n = b) (h : (a.2 && b.2 && (addZ a.1 b.1).2) = false) : addS x y m = (⟨⟨0, 0, 0, 0⟩, 0⟩, false) := by
  subst ha hb
  simp only [addS, h]
  rfl
/-- One round more of the lifting loop, counted upward. -/
theorem upc_more {n m : Z4} {t i : Int} (hi : i < t) (h : up (t - i).toNat n = up t.toNat m) (hm : (mulZ n ⟨0, 1, 0, -1⟩).2 = true) : up (t - (i + 1)).toNat (mulZ n ⟨0, 1, 0, -1⟩).1 = up t.toNat m := up_more hi h hm

end Go.Proofs.Yteckhaafdojoeaa
