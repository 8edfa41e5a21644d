/- More plain lemmas on the numbers. No program in sight. -/
import Derived.Test.YteckhaafdojoeaaM
namespace Go.Proofs.Yteckhaafdojoeaa

theorem newD_great {n m : Z4} {k j : Int} (hn : n.ok = true) (hk : inR 0 120 k = true) (h : newL k.toNat n = (m, j.toNat)) (h6 : 60 < j) : newD n k = (⟨⟨0, 0, 0, 0⟩, 0⟩, false) := by
  have h6' : 60 < j.toNat := by omega
  simp [newD, hn, hk, h, h6']
theorem newD_small {n m : Z4} {k j : Int} (hn : n.ok = true) (hk : inR 0 120 k = true) (h : newL k.toNat n = (m, j.toNat)) (h0 : 0 ≤ j) (h6 : ¬ 60 < j) : newD n k = (⟨m, j⟩, true) := by
  have h6' : ¬ 60 < j.toNat := by omega
  have hj : ((j.toNat : Nat) : Int) = j := by omega
  simp only [newD, hn, hk, h, h6', hj, Bool.and_self, if_true, if_false]
theorem newL_more {k : Nat} {n m : Z4} {j : Int} (hj : 0 < j) (h : newL j.toNat n = newL k m) (hd : (divZ n).2 = true) : newL (j - 1).toNat (divZ n).1 = newL k m := by
  have e : j.toNat = (j - 1).toNat + 1 := by omega
  rw [e, newL, if_pos hd] at h
  exact h
theorem newL_end {k : Nat} {n m : Z4} {j : Int} (hj : 0 < j) (h : newL j.toNat n = newL k m) (hd : ¬ (divZ n).2 = true) : newL k m = (n, j.toNat) := by
  have e : j.toNat = (j - 1).toNat + 1 := by omega
  rw [e, newL, if_neg hd, ← e] at h
  exact h.symm
theorem newL_stop {k : Nat} {n m : Z4} {j : Int} (hj : ¬ 0 < j) (h : newL j.toNat n = newL k m) : newL k m = (n, j.toNat) := by
  have e : j.toNat = 0 := by omega
  rw [e, newL] at h
  rw [e]
  exact h.symm

end Go.Proofs.Yteckhaafdojoeaa
