/- The reference's row by column is the program's: zeros add nothing. No walk. -/
import Derived.Test.YteckhaafdojoeaaS15
namespace Go.Proofs.Yteckhaafdojoeaa

theorem divZ_zero : divZ ⟨0, 0, 0, 0⟩ = (⟨0, 0, 0, 0⟩, true) := rfl
theorem newL_zero (k : Nat) : newL k ⟨0, 0, 0, 0⟩ = (⟨0, 0, 0, 0⟩, 0) := by
  induction k with
  | zero => rfl
  | succ k ih => rw [newL, divZ_zero]; exact ih
theorem newL_ok {k : Nat} {n : Z4} (h : n.ok = true) : (newL k n).1.ok = true ∧ ((newL k n).2 = 0 ∨ (divZ (newL k n).1).2 = false) := by
  induction k generalizing n with
  | zero => exact ⟨h, .inl rfl⟩
  | succ k ih =>
    rw [newL]
    by_cases hd : (divZ n).2 = true
    · rw [if_pos hd]; exact ih (divZ_ok hd)
    · rw [if_neg hd]; exact ⟨h, .inr (by simpa using hd)⟩
theorem newD_ok {n : Z4} {k : Int} (h : (newD n k).2 = true) : (newD n k).1.ok = true := by
  unfold newD at *
  split at h
  · rename_i hc
    rw [if_pos hc]
    rw [Bool.and_eq_true] at hc
    split at h
    · simp at h
    · rename_i h6
      rw [if_neg h6]
      obtain ⟨h1, h2⟩ := newL_ok (k := k.toNat) hc.1
      rw [DO.ok_iff]
      dsimp only
      refine ⟨h1, by omega, ?_⟩
      rcases h2 with h2 | h2
      · left; omega
      · exact .inr h2
  · simp at h
theorem newD_fix {x : DO} (h : x.ok = true) : newD x.n x.e = (x, true) := by
  obtain ⟨h1, ⟨h2, h3⟩, h4⟩ := (DO.ok_iff _).1 h
  have hl : newL x.e.toNat x.n = (x.n, x.e.toNat) := by
    rcases h4 with h4 | h4
    · rw [h4]; rfl
    · cases hk : x.e.toNat with
      | zero => rfl
      | succ k => rw [newL, if_neg (by rw [h4]; exact Bool.false_ne_true)]
  exact newD_small h1 ((inR_iff _ _ _).2 (by omega)) hl h2 (by omega)
theorem addD_ok {x y : DO} (h : (addD x y).2 = true) : (addD x y).1.ok = true := by
  unfold addD at *
  split at h
  · rename_i hc
    rw [if_pos hc]
    have key : ∀ a b : DO, (addG a b).2 = true → (addG a b).1.ok = true := fun a b hg => by
      unfold addG at *
      split at hg
      · rename_i h1
        rw [if_pos h1]
        split at hg
        · rename_i h2; rw [if_pos h2]; exact newD_ok hg
        · simp at hg
      · simp at hg
    split at h
    · rename_i h1; rw [if_pos h1]; exact key _ _ h
    · rename_i h1; rw [if_neg h1]; exact key _ _ h
  · simp at h
theorem mulD_ok {x y : DO} (h : (mulD x y).2 = true) : (mulD x y).1.ok = true := by
  unfold mulD at *
  split at h
  · rename_i hc
    rw [if_pos hc]
    split at h
    · rename_i h1; rw [if_pos h1]; exact newD_ok h
    · simp at h
  · simp at h
theorem zero_ok : DO.ok ⟨⟨0, 0, 0, 0⟩, 0⟩ = true := rfl
theorem mulZ_zero_left {y : Z4} (h : y.ok = true) : mulZ ⟨0, 0, 0, 0⟩ y = (⟨0, 0, 0, 0⟩, true) := by
  rw [mulZ, if_pos (by rw [h]; rfl)]
  simp [mulRaw, chkZ]
  rfl
theorem mulZ_zero_right {y : Z4} (h : y.ok = true) : mulZ y ⟨0, 0, 0, 0⟩ = (⟨0, 0, 0, 0⟩, true) := by
  rw [mulZ, if_pos (by rw [h]; rfl)]
  simp [mulRaw, chkZ]
  rfl
theorem newD_zero {k : Int} (h0 : 0 ≤ k) (h1 : k ≤ 120) : newD ⟨0, 0, 0, 0⟩ k = (⟨⟨0, 0, 0, 0⟩, 0⟩, true) := by
  rw [newD, if_pos (by rw [(inR_iff _ _ _).2 ⟨h0, h1⟩]; rfl), newL_zero]
  rfl
theorem mulD_zero_left {y : DO} (h : y.ok = true) : mulD ⟨⟨0, 0, 0, 0⟩, 0⟩ y = (⟨⟨0, 0, 0, 0⟩, 0⟩, true) := by
  obtain ⟨h1, ⟨h2, h3⟩, _⟩ := (DO.ok_iff _).1 h
  rw [mulD, if_pos (by rw [h]; rfl), mulZ_zero_left h1, if_pos rfl]
  exact newD_zero (by dsimp only; omega) (by dsimp only; omega)
theorem mulD_zero_right {y : DO} (h : y.ok = true) : mulD y ⟨⟨0, 0, 0, 0⟩, 0⟩ = (⟨⟨0, 0, 0, 0⟩, 0⟩, true) := by
  obtain ⟨h1, ⟨h2, h3⟩, _⟩ := (DO.ok_iff _).1 h
  rw [mulD, if_pos (by rw [h]; rfl), mulZ_zero_right h1, if_pos rfl]
  exact newD_zero (by dsimp only; omega) (by dsimp only; omega)
theorem up_zeroZ (k : Nat) : up k ⟨0, 0, 0, 0⟩ = (⟨0, 0, 0, 0⟩, true) := by
  induction k with
  | zero => rfl
  | succ k ih => rw [up, mulZ_zero_left rfl, if_pos rfl]; exact ih
theorem addD_zero {x : DO} (h : x.ok = true) : addD x ⟨⟨0, 0, 0, 0⟩, 0⟩ = (x, true) := by
  obtain ⟨h1, ⟨h2, h3⟩, _⟩ := (DO.ok_iff _).1 h
  have ha : addZ x.n ⟨0, 0, 0, 0⟩ = (x.n, true) := by
    rw [addZ, if_pos (by rw [h1]; rfl)]
    simp only [Int.add_zero]
    rw [chkZ, if_pos h1]
  rw [addD, if_pos (by rw [h]; rfl), if_neg (by dsimp only; omega), addG, up_zeroZ, if_pos rfl, ha, if_pos rfl]
  exact newD_fix h
theorem rowF_eq : ∀ (l : List (DO × DO)) (s : DO), s.ok = true → (∀ p ∈ l, p.1.ok = true ∧ p.2.ok = true) → rowF s l = dotF s l
  | [], _, _, _ => rfl
  | p :: l, s, hs, hl => by
    obtain ⟨h1, h2⟩ := hl p (List.mem_cons_self ..)
    have ih := fun s hs => rowF_eq l s hs (fun q hq => hl q (List.mem_cons_of_mem _ hq))
    rw [rowF, dotF]
    by_cases hz : p.1 = ⟨⟨0, 0, 0, 0⟩, 0⟩ ∨ p.2 = ⟨⟨0, 0, 0, 0⟩, 0⟩
    · have hm : mulD p.1 p.2 = (⟨⟨0, 0, 0, 0⟩, 0⟩, true) := by
        rcases hz with hz | hz
        · rw [hz]; exact mulD_zero_left h2
        · rw [hz]; exact mulD_zero_right h1
      rw [if_pos hz, hm, addD_zero hs]
      show rowF s l = dotF s l
      exact ih s hs
    · rw [if_neg hz]
      by_cases hc : ((mulD p.1 p.2).2 && (addD s (mulD p.1 p.2).1).2) = true
      · rw [if_pos hc, if_pos hc]
        rw [Bool.and_eq_true] at hc
        exact ih _ (addD_ok hc.2)
      · rw [if_neg hc, if_neg hc]
theorem okS_mem {l : List DO} (h : okS l = true) {x : DO} (hx : x ∈ l) : x.ok = true := by
  rw [okS, Bool.and_eq_true, List.all_eq_true] at h
  exact h.2 x hx
theorem row_eq {u v : List DO} (hu : okS u = true) (hv : okS v = true) : row u v = dot u v := by
  refine rowF_eq _ _ zero_ok fun p hp => ?_
  have := List.of_mem_zip (a := p.1) (b := p.2) hp
  exact ⟨okS_mem hu this.1, okS_mem hv this.2⟩

end Go.Proofs.Yteckhaafdojoeaa
