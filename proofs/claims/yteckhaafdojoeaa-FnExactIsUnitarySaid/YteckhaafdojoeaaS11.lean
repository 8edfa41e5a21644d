/- A number of a matrix of our own is written; the adjoint matrix (impl). -/
import Derived.Test.YteckhaafdojoeaaS10
namespace Go.Proofs.Yteckhaafdojoeaa
open Go.RowKit

/-- A number at place i of the block g. -/
def setD (w : World) (g i : Nat) (x : DO) : World :=
  ((((w.setCell ⟨g, i * 5, none⟩ (.int .i64 x.n.a)).setCell ⟨g, i * 5 + 1, none⟩ (.int .i64 x.n.b)).setCell ⟨g, i * 5 + 2, none⟩ (.int .i64 x.n.c)).setCell ⟨g, i * 5 + 3, none⟩ (.int .i64 x.n.d)).setCell ⟨g, i * 5 + 4, none⟩ (.int .i64 x.e)
theorem setD_block (w : World) (g i : Nat) (x : DO) (k : Nat) (h : k ≠ g) : (setD w g i x).heap[k]? = w.heap[k]? := by
  unfold setD
  rw [Below.heap_setCell _ _ _ _ h, Below.heap_setCell _ _ _ _ h, Below.heap_setCell _ _ _ _ h, Below.heap_setCell _ _ _ _ h, Below.heap_setCell _ _ _ _ h]
theorem setD_below {B : Nat} {w0 w : World} {g i : Nat} {x : DO} (h : Below B w0 w) (hg : B ≤ g) : Below B w0 (setD w g i x) :=
  ((((h.setCell hg _).setCell hg _).setCell hg _).setCell hg _).setCell hg _

theorem OwnM.at {w : World} {base : Nat} {v : Value} {m : List (List DO)} (h : OwnM w base v m) {k j : Nat} (hk : k < m.length) (hj : j < m[k].length) :
    ∃ ob oc g c, v = .slice (some ⟨ob, 0, none⟩) m.length oc ∧ base ≤ g ∧ g < w.heap.size ∧ ob < w.heap.size ∧ ob ≠ g ∧ w.cell? ⟨ob, k, none⟩ = some (.slice (some ⟨g, 0, none⟩) m[k].length c) ∧ DAt w g (j * 5) m[k][j] ∧
      (∀ o, w.frozen? ⟨g, o, none⟩ = false) ∧ ∀ w2 x, Below w.heap.size w w2 → OwnM (setD w2 g j x) base v (m.set k (m[k].set j x)) := by
  have h0 := h
  obtain ⟨vs, ho, hr, hd⟩ := h
  obtain ⟨x, hx, hS⟩ := hr k hk
  have hvl : vs.length = m.length := by have := ho.1; omega
  rcases ho.2 with ⟨_, h0'⟩ | ⟨ob, oc, ocur, hv, hob, hog, hon, hoc, hos, hot⟩
  · omega
  · subst hv
    have hS0 := hS
    rcases hS.2 with ⟨_, h0'⟩ | ⟨g, c, cur, hxv, hg, hgg, hgn, hgc, hgs, hgt⟩
    · omega
    · subst hxv
      have hne : ob ≠ g := fun e => by
        have := OwnS.apart hS0 ho
        simp [Value.ownBlock] at this
        exact this e.symm
      refine ⟨ob, oc, g, c, rfl, hg, (Array.getElem?_eq_some_iff.1 hgg).1, (Array.getElem?_eq_some_iff.1 hog).1, hne, ?_, hS0.cells hj, hS0.frozen, fun w2 y hb => ?_⟩
      · rw [World.ownsRow.cellAt ho k (by omega), hx]
      · have ho2 := ownsRow_below ho hb (Nat.le_refl _)
        have hS2 := hS0.below hb (Nat.le_refl _)
        refine ⟨vs, ?_, fun i hi => ?_, hd⟩
        · rw [List.length_set]
          refine ⟨ho2.1, ?_⟩
          rcases ho2.2 with h1 | ⟨g', cap', cur', hv', hb', hg', r'⟩
          · exact .inl h1
          · refine .inr ⟨g', cap', cur', hv', hb', ?_, r'⟩
            cases hv'
            rw [setD_block _ _ _ _ _ hne, hg']
        · have hi' : i < m.length := by simpa using hi
          by_cases hik : i = k
          · subst hik
            refine ⟨_, hx, ?_⟩
            rw [List.getElem_set_self]
            exact hS2.set j hj y
          · obtain ⟨z, hz, hSz⟩ := hr i hi'
            refine ⟨z, hz, ?_⟩
            rw [List.getElem_set_ne (fun e => hik e.symm)]
            have hSz2 := hSz.below hb (Nat.le_refl _)
            refine ⟨hSz2.1, ?_⟩
            rcases hSz2.2 with h1 | ⟨g', cap', cur', hv', hb', hg', r'⟩
            · exact .inl h1
            · refine .inr ⟨g', cap', cur', hv', hb', ?_, r'⟩
              subst hv'
              have : g' ≠ g := fun e => by
                subst e
                rcases Nat.lt_or_gt_of_ne hik with hlt | hgt
                · exact hd i k _ _ hlt hz hx g' rfl rfl
                · exact hd k i _ _ hgt hx hz g' rfl rfl
              rw [setD_block _ _ _ _ _ this, hg']

def adjM (m : List (List DO)) : List (List DO) := if okM m then (flip m).map (fun r => r.map conjD) else []
/-- Rows before k conjugated, of row k the numbers before j. -/
def adjP (m : List (List DO)) (k j : Nat) : List (List DO) := m.mapIdx fun i r => if i < k then r.map conjD else if i = k then r.mapIdx (fun q x => if q < j then conjD x else x) else r
theorem adjP_length (m : List (List DO)) (k j : Nat) : (adjP m k j).length = m.length := by simp [adjP]
theorem adjP_zero (m : List (List DO)) : adjP m 0 0 = m := by
  apply List.ext_getElem (by simp [adjP])
  intro i h1 h2
  simp only [adjP, List.getElem_mapIdx]
  by_cases hi : i = 0
  · subst hi
    simp
    apply List.ext_getElem (by simp)
    intro q h3 h4
    simp
  · simp [hi]
theorem adjP_next {m : List (List DO)} {k n : Nat} (hr : ∀ r ∈ m, r.length = n) : adjP m k n = adjP m (k + 1) 0 := by
  apply List.ext_getElem (by simp [adjP])
  intro i h1 h2
  simp only [adjP, List.getElem_mapIdx]
  have hi : i < m.length := by simpa [adjP] using h1
  have hl := hr m[i] (List.getElem_mem _)
  rcases Nat.lt_trichotomy i k with h | h | h
  · rw [if_pos h, if_pos (by omega)]
  · subst h
    rw [if_neg (Nat.lt_irrefl _), if_pos rfl, if_pos (by omega)]
    apply List.ext_getElem (by simp)
    intro q h3 h4
    have : q < n := by simpa [hl] using h3
    simp [this]
  · rw [if_neg (by omega), if_neg (by omega), if_neg (by omega)]
    by_cases hk : i = k + 1
    · rw [if_pos hk]
      apply List.ext_getElem (by simp)
      intro q h3 h4
      simp
    · rw [if_neg hk]
theorem adjP_row {m : List (List DO)} {k j : Nat} (hk : k < m.length) : (adjP m k j)[k]'(by rw [adjP_length]; exact hk) = m[k].mapIdx (fun q x => if q < j then conjD x else x) := by
  simp [adjP]
theorem adjP_step {m : List (List DO)} {k j : Nat} (hk : k < m.length) (hj : j < m[k].length) :
    (adjP m k j).set k (((adjP m k j)[k]'(by rw [adjP_length]; exact hk)).set j (conjD m[k][j])) = adjP m k (j + 1) := by
  apply List.ext_getElem (by simp [adjP])
  intro i h1 h2
  by_cases hi : i = k
  · subst hi
    rw [List.getElem_set_self, adjP_row hk, adjP_row hk]
    apply List.ext_getElem (by simp)
    intro q h3 h4
    simp only [List.getElem_set, List.getElem_mapIdx]
    by_cases hq : j = q
    · subst hq; simp
    · rw [if_neg hq]
      by_cases hqj : q < j
      · rw [if_pos hqj, if_pos (by omega)]
      · rw [if_neg hqj, if_neg (by omega)]
  · rw [List.getElem_set_ne (fun e => hi e.symm)]
    simp [adjP, hi]
theorem adjP_end {m : List (List DO)} {k : Nat} (hk : m.length ≤ k) : adjP m k 0 = m.map fun r => r.map conjD := by
  apply List.ext_getElem (by simp [adjP])
  intro i h1 h2
  have hi : i < m.length := by simpa [adjP] using h1
  simp only [adjP, List.getElem_mapIdx, List.getElem_map]
  rw [if_pos (by omega)]

end Go.Proofs.Yteckhaafdojoeaa
