/- States and matrices as lists: what the functions on them come to. No program in sight. -/
import Derived.Test.YteckhaafdojoeaaM3
namespace Go.Proofs.Yteckhaafdojoeaa

abbrev Z0 : Z4 := ⟨0, 0, 0, 0⟩
abbrev D0 : DO := ⟨⟨0, 0, 0, 0⟩, 0⟩

/-- The sum of products, from s on. -/
def dotF : DO → List (DO × DO) → DO × Bool
  | s, [] => (s, true)
  | s, p :: r => if (mulD p.1 p.2).2 && (addD s (mulD p.1 p.2).1).2 then dotF (addD s (mulD p.1 p.2).1).1 r else (⟨⟨0, 0, 0, 0⟩, 0⟩, false)
def dot (u v : List DO) : DO × Bool := dotF ⟨⟨0, 0, 0, 0⟩, 0⟩ (u.zip v)

theorem zip_drop {u v : List DO} {j : Nat} (hj : j < u.length) (hv : u.length ≤ v.length) : (u.zip v).drop j = (u[j], v[j]) :: (u.zip v).drop (j + 1) := by
  rw [List.drop_eq_getElem_cons (by rw [List.length_zip]; omega)]
  simp
theorem dotF_more {s : DO} {u v : List DO} {j : Nat} {R : DO × Bool} (hj : j < u.length) (hv : u.length ≤ v.length) (h : dotF s ((u.zip v).drop j) = R)
    (h1 : (mulD u[j] v[j]).2 = true) (h2 : (addD s (mulD u[j] v[j]).1).2 = true) : dotF (addD s (mulD u[j] v[j]).1).1 ((u.zip v).drop (j + 1)) = R := by
  rw [zip_drop hj hv, dotF] at h
  simpa [h1, h2] using h
theorem dotF_fail {s : DO} {u v : List DO} {j : Nat} {R : DO × Bool} (hj : j < u.length) (hv : u.length ≤ v.length) (h : dotF s ((u.zip v).drop j) = R)
    (h1 : ((mulD u[j] v[j]).2 && (addD s (mulD u[j] v[j]).1).2) = false) : R = (⟨⟨0, 0, 0, 0⟩, 0⟩, false) := by
  rw [zip_drop hj hv, dotF, if_neg (by rw [h1]; exact Bool.false_ne_true)] at h
  exact h.symm
theorem dotF_end {s : DO} {u v : List DO} {j : Nat} {R : DO × Bool} (hj : ¬ j < u.length) (hv : u.length ≤ v.length) (h : dotF s ((u.zip v).drop j) = R) : R = (s, true) := by
  rw [List.drop_eq_nil_of_le (by rw [List.length_zip]; omega), dotF] at h
  exact h.symm

end Go.Proofs.Yteckhaafdojoeaa
