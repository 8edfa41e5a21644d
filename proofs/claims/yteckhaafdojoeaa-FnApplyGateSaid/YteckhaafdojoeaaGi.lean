/- A valid gate never fails on a basis state; rows of columns. No walk. · Slices of records of one size in memory: gates, whole numbers. · The laws' helpers on rows of gates: size, copy, comparison, marks. · The laws' helpers: numbers written over a matrix of the call's own, and read back. · Rows of gates applied (ApplyGates, both sides). · The matrix of a gate (GateMatrix, both sides). · Circuits: valid ones (IsValidCircuit, both sides). · The laws' helpers on circuits: size, copy, comparison, marks. · The matrix of a circuit (l11Mat, CircuitMatrix, both sides). -/
import Derived.Test.YteckhaafdojoeaaGf
import Derived.Test.YteckhaafdojoeaaGh
import Derived.Test.YteckhaafdojoeaaGg
/-! M9: A valid gate never fails on a basis state; rows of columns. No walk. -/
namespace Go.Proofs.Yteckhaafdojoeaa

theorem mulD_one {y : DO} (h : y.ok = true) : mulD ⟨⟨1, 0, 0, 0⟩, 0⟩ y = (y, true) := by
  obtain ⟨h1, ⟨h2, h3⟩, _⟩ := (DO.ok_iff _).1 h
  have hm : mulZ ⟨1, 0, 0, 0⟩ y.n = (y.n, true) := by
    rw [mulZ, if_pos (by rw [h1]; rfl)]
    have : mulRaw ⟨1, 0, 0, 0⟩ y.n = y.n := by simp [mulRaw]
    rw [this, chkZ, if_pos h1]
  rw [mulD, if_pos (by rw [h]; rfl), hm, if_pos rfl]
  show newD y.n (0 + y.e) = _
  rw [Int.zero_add]
  exact newD_fix h
theorem addD_zero_left {x : DO} (h : x.ok = true) : addD ⟨⟨0, 0, 0, 0⟩, 0⟩ x = (x, true) := by
  obtain ⟨h1, ⟨h2, h3⟩, _⟩ := (DO.ok_iff _).1 h
  by_cases he : (0 : Int) < x.e
  · have := addD_zero h
    rw [addD, if_pos (by rw [h]; rfl), if_neg (by dsimp only; omega)] at this
    rw [addD, if_pos (by rw [h]; rfl), if_pos he]
    exact this
  · have ha : addZ ⟨0, 0, 0, 0⟩ x.n = (x.n, true) := by
      rw [addZ, if_pos (by rw [h1]; rfl)]
      simp only [Int.zero_add]
      rw [chkZ, if_pos h1]
    have e0 : x.e = 0 := by omega
    rw [addD, if_pos (by rw [h]; rfl), if_neg (by dsimp only; omega), addG]
    show (if (up (0 - x.e).toNat x.n).2 then _ else _) = _
    rw [e0]
    show (if (addZ ⟨0, 0, 0, 0⟩ x.n).2 then newD (addZ ⟨0, 0, 0, 0⟩ x.n).1 0 else _) = _
    rw [ha, if_pos rfl, ← e0]
    exact newD_fix h
theorem qc_two {n : Nat} (h1 : 1 ≤ n) (h4 : n ≤ 4) : qc (2 ^ n) = n := by
  have : n = 1 ∨ n = 2 ∨ n = 3 ∨ n = 4 := by omega
  rcases this with rfl | rfl | rfl | rfl <;> rfl
theorem basis_nat {n i : Nat} (h1 : 1 ≤ n) (h4 : n ≤ 4) (hi : i < 2 ^ n) : basis n i = (List.replicate (2 ^ n) (⟨⟨0, 0, 0, 0⟩, 0⟩ : DO)).set i ⟨⟨1, 0, 0, 0⟩, 0⟩ :=
  basis_yes ((inR_iff _ _ _).2 (by omega)) rfl hi
theorem basis_len {n i : Nat} (h1 : 1 ≤ n) (h4 : n ≤ 4) (hi : i < 2 ^ n) : (basis n i).length = 2 ^ n := by
  rw [basis_nat h1 h4 hi, List.length_set, List.length_replicate]
theorem basis_ok {n i : Nat} (h1 : 1 ≤ n) (h4 : n ≤ 4) (hi : i < 2 ^ n) : okS (basis n i) = true := by
  refine okS_yes ?_ fun k hk => ?_
  · rw [basis_len h1 h4 hi, qc_two h1 h4]; omega
  · have hk' := hk
    rw [basis_len h1 h4 hi] at hk'
    simp only [basis_nat h1 h4 hi]
    rw [List.getElem_set]
    split
    · rfl
    · rw [List.getElem_replicate]; rfl
theorem applyL_zeros {g : GT} (hg : 1 ≤ g.k ∧ g.k ≤ 12) : ∀ (k i : Nat) (out : List DO), (∀ x ∈ out, x.ok = true) → applyL g i (List.replicate k ⟨⟨0, 0, 0, 0⟩, 0⟩) out = (out, true)
  | 0, _, _, _ => rfl
  | k + 1, i, out, h => by
    rw [List.replicate_succ, applyL, addL_zero h (goes g i) (goes_ok g i hg), if_pos rfl]
    exact applyL_zeros hg k (i + 1) out h
theorem applyL_split {g : GT} : ∀ (a b : List DO) (i : Nat) (out : List DO), (applyL g i a out).2 = true → applyL g i (a ++ b) out = applyL g (i + a.length) b (applyL g i a out).1
  | [], _, _, _, _ => rfl
  | x :: a, b, i, out, h => by
    rw [applyL] at h
    rw [List.cons_append, applyL, applyL]
    split at h
    · rename_i hc
      rw [if_pos hc, if_pos hc, applyL_split a b (i + 1) _ h, List.length_cons, show i + 1 + a.length = i + (a.length + 1) by omega]
    · cases h
/-- A valid gate sends the number one to places of its own. -/
theorem addL_unit {N : Nat} (l : List (Nat × DO)) (hl : (∃ p, l = [p]) ∨ ∃ p q, l = [p, q] ∧ p.1 ≠ q.1) (hok : ∀ p ∈ l, p.2.ok = true) : (addL (List.replicate N ⟨⟨0, 0, 0, 0⟩, 0⟩) l ⟨⟨1, 0, 0, 0⟩, 0⟩).2 = true := by
  have hz : ∀ t, (List.replicate N (⟨⟨0, 0, 0, 0⟩, 0⟩ : DO)).getD t ⟨⟨0, 0, 0, 0⟩, 0⟩ = ⟨⟨0, 0, 0, 0⟩, 0⟩ := fun t => by
    rw [List.getD_eq_getElem?_getD, List.getElem?_replicate]
    split <;> rfl
  rcases hl with ⟨p, rfl⟩ | ⟨p, q, rfl, hne⟩
  · have hp := hok p (by simp)
    rw [addL, mulD_one hp, hz, addD_zero_left hp]
    rfl
  · have hp := hok p (by simp)
    have hq := hok q (by simp)
    rw [addL, mulD_one hp, hz, addD_zero_left hp]
    simp only [Bool.and_self, if_true]
    rw [addL, mulD_one hq]
    have : ((List.replicate N (⟨⟨0, 0, 0, 0⟩, 0⟩ : DO)).set p.1 p.2).getD q.1 ⟨⟨0, 0, 0, 0⟩, 0⟩ = ⟨⟨0, 0, 0, 0⟩, 0⟩ := by
      rw [List.getD_eq_getElem?_getD, List.getElem?_set_ne hne, ← List.getD_eq_getElem?_getD, hz]
    rw [this, addD_zero_left hq]
    rfl
theorem goes_form (g : GT) (i : Nat) : (∃ p, goes g i = [p]) ∨ ∃ p q, goes g i = [p, q] ∧ p.1 ≠ q.1 := by
  unfold goes
  split
  · right
    refine ⟨_, _, rfl, ?_⟩
    have : 0 < 2 ^ g.a.toNat := Nat.pow_pos (by decide)
    dsimp only
    omega
  · exact .inl ⟨_, rfl⟩
theorem applyG_basis {g : GT} {n i : Nat} (h1 : 1 ≤ n) (h4 : n ≤ 4) (hg : g.ok n = true) (hi : i < 2 ^ n) : (applyG g (basis n i)).2 = true := by
  have hk := (GT.parts hg).2.1
  have e : basis n i = List.replicate i ⟨⟨0, 0, 0, 0⟩, 0⟩ ++ (⟨⟨1, 0, 0, 0⟩, 0⟩ :: List.replicate (2 ^ n - 1 - i) ⟨⟨0, 0, 0, 0⟩, 0⟩) := by
    rw [basis_nat h1 h4 hi]
    apply List.ext_getElem (by simp; omega)
    intro k hk1 hk2
    rw [List.getElem_set]
    split
    · rename_i hik
      subst hik
      rw [List.getElem_append_right (by simp)]
      simp
    · rename_i hik
      rw [List.getElem_replicate]
      by_cases hlt : k < i
      · rw [List.getElem_append_left (by simpa using hlt), List.getElem_replicate]
      · rw [List.getElem_append_right (by simp; omega), List.getElem_cons]
        rw [dif_neg (by simp; omega), List.getElem_replicate]
  have hz : ∀ x ∈ List.replicate (2 ^ n) (⟨⟨0, 0, 0, 0⟩, 0⟩ : DO), x.ok = true := fun x hx => by rw [List.eq_of_mem_replicate hx]; rfl
  rw [applyG, basis_ok h1 h4 hi, basis_len h1 h4 hi, qc_two h1 h4, hg]
  simp only [Bool.and_self, if_true]
  have hp := applyL_zeros hk i 0 (List.replicate (2 ^ n) (⟨⟨0, 0, 0, 0⟩, 0⟩ : DO)) hz
  rw [e, applyL_split _ _ _ _ (by rw [hp]), hp, List.length_replicate, applyL]
  have hu := addL_unit (N := 2 ^ n) (goes g (0 + i)) (goes_form g _) (goes_ok g _ hk)
  rw [if_pos hu, applyL_zeros hk _ _ _ (addL_ok _ _ _ hz hu)]

/-! ### matrices by their columns -/
def colsM (F : Nat → List DO) (k : Nat) : List (List DO) := (List.range k).map F
theorem colsM_length (F : Nat → List DO) (k : Nat) : (colsM F k).length = k := by simp [colsM]
theorem colsM_succ (F : Nat → List DO) (k : Nat) : colsM F (k + 1) = colsM F k ++ [F k] := by simp [colsM, List.range_succ]
theorem colsM_mem {F : Nat → List DO} {k : Nat} {r : List DO} (h : r ∈ colsM F k) : ∃ i, i < k ∧ r = F i := by
  obtain ⟨i, hi, rfl⟩ := List.mem_map.1 h
  exact ⟨i, List.mem_range.1 hi, rfl⟩

/-- The matrix of a row of gates on n qubits. -/
def matG (n : Nat) (l : List GT) : List (List DO) × Bool :=
  if (List.range (2 ^ n)).all (fun i => (applyGs l (basis n i)).2) then (flip (colsM (fun i => (applyGs l (basis n i)).1) (2 ^ n)), true) else ([], false)
def circM (n : Int) (l : List GT) : List (List DO) × Bool := if okC n l then matG n.toNat l else ([], false)
theorem matG_yes {n N : Nat} {l : List GT} (hN : 2 ^ n = N) (h : ∀ i, i < N → (applyGs l (basis n i)).2 = true) : matG n l = (flip (colsM (fun i => (applyGs l (basis n i)).1) N), true) := by
  rw [matG, hN, if_pos]
  rw [List.all_eq_true]
  exact fun i hi => h i (List.mem_range.1 hi)
theorem matG_no {n N i : Nat} {l : List GT} (hN : 2 ^ n = N) (hi : i < N) (h : ¬ (applyGs l (basis n i)).2 = true) : matG n l = ([], false) := by
  rw [matG, if_neg]
  rw [List.all_eq_true]
  intro hh
  exact h (hh i (List.mem_range.2 (by omega)))
theorem circM_no {n : Int} {l : List GT} (h : ¬ okC n l = true) : circM n l = ([], false) := if_neg h
theorem circM_yes {n : Nat} {l : List GT} (h : okC n l = true) : circM n l = matG n l := if_pos h
theorem okC_iff (n : Int) (l : List GT) : okC n l = true ↔ inR 1 4 n = true ∧ l.length ≤ 60 ∧ ∀ g ∈ l, g.ok n = true := by
  rw [okC, Bool.and_eq_true, Bool.and_eq_true, decide_eq_true_eq, List.all_eq_true]
theorem okC_no1 {n : Int} {l : List GT} (h : ¬ inR 1 4 n = true) : okC n l = false := by
  rw [← Bool.not_eq_true, okC_iff]
  exact fun hh => h hh.1
theorem okC_no2 {n : Int} {l : List GT} (h : ¬ l.length ≤ 60) : okC n l = false := by
  rw [← Bool.not_eq_true, okC_iff]
  exact fun hh => h hh.2.1
theorem okC_no3 {n : Int} {l : List GT} {j : Nat} (hj : j < l.length) (h : ¬ l[j].ok n = true) : okC n l = false := by
  rw [← Bool.not_eq_true, okC_iff]
  exact fun hh => h (hh.2.2 _ (List.getElem_mem _))
theorem okC_yes {n : Int} {l : List GT} (h1 : inR 1 4 n = true) (h2 : l.length ≤ 60) (h : ∀ i (hi : i < l.length), l[i].ok n = true) : okC n l = true := by
  rw [okC_iff]
  refine ⟨h1, h2, fun g hg => ?_⟩
  obtain ⟨i, hi, rfl⟩ := List.getElem_of_mem hg
  exact h i hi
theorem gates_step {n : Int} {l : List GT} {j : Nat} (h : ∀ i (hi : i < l.length), i < j → l[i].ok n = true) {hj : j < l.length} (hx : l[j].ok n = true) : ∀ i (hi : i < l.length), i < j + 1 → l[i].ok n = true := fun i hi hij => by
  by_cases e : i = j
  · subst e; exact hx
  · exact h i hi (by omega)

end Go.Proofs.Yteckhaafdojoeaa

/-! S35: Slices of records of one size in memory: gates, whole numbers. -/
namespace Go.Proofs.Yteckhaafdojoeaa
open Go.RowKit

/-- A call's world under a name of its own. -/
theorem calls_gen {P : Program} {f : Nat} {args : Array Value} {w0 : World} {Q : Ending → World → Prop} (h : ∀ W, W = w0 → Calls P f args W Q) : Calls P f args w0 Q := h _ rfl

/-! ### rows of records of K cells each -/
def flatC {α : Type} (c : α → List Value) (l : List α) : List Value := l.flatMap c
section
variable {α : Type} {c : α → List Value} {K : Nat}
theorem flatC_snoc (l : List α) (x : α) : flatC c (l ++ [x]) = flatC c l ++ c x := by simp [flatC]
theorem flatC_append (l r : List α) : flatC c (l ++ r) = flatC c l ++ flatC c r := by simp [flatC]
theorem flatC_length (hc : ∀ x, (c x).length = K) (l : List α) : (flatC c l).length = l.length * K := by
  induction l with
  | nil => simp [flatC]
  | cons x l ih => simp only [flatC, List.flatMap_cons, List.length_append, List.length_cons] at *; rw [ih, hc, Nat.add_mul]; omega
theorem flatC_get (hc : ∀ x, (c x).length = K) : ∀ (l : List α) (i : Nat) (h : i < l.length) (j : Nat), j < K → (flatC c l)[i * K + j]? = (c l[i])[j]?
  | x :: l, 0, _, j, hj => by
    simp only [flatC, List.flatMap_cons, Nat.zero_mul, Nat.zero_add, List.getElem_cons_zero]
    rw [List.getElem?_append_left (by rw [hc]; exact hj)]
  | x :: l, i + 1, h, j, hj => by
    simp only [flatC, List.flatMap_cons, List.getElem_cons_succ]
    rw [List.getElem?_append_right (by rw [hc, Nat.add_mul]; omega), show (i + 1) * K + j - (c x).length = i * K + j by rw [hc, Nat.add_mul]; omega]
    exact flatC_get hc l i (by simpa using h) j hj
end

/-- The slice (ao, n) reads as l, each element's cells c. -/
def RdF {α : Type} (c : α → List Value) (K : Nat) (w : World) (ao : Option Addr) (l : List α) : Prop :=
  ∀ i (h : i < l.length), ∃ b o, ao = some ⟨b, o, none⟩ ∧ b < w.heap.size ∧ ∀ j, j < K → w.cell? ⟨b, o + i * K + j, none⟩ = (c l[i])[j]?
/-- v is a row of the call's own, in blocks from base on, that reads as l. -/
def OwnF {α : Type} (c : α → List Value) (K : Nat) (T : TypeId) (w : World) (base : Nat) (v : Value) (l : List α) : Prop := w.ownsRow base T K v l.length (flatC c l)
section
variable {α : Type} {c : α → List Value} {K : Nat} {T : TypeId}
theorem RdF.below {w w' : World} {ao : Option Addr} {l : List α} (h : RdF c K w ao l) (hb : Below w.heap.size w w') : RdF c K w' ao l := fun i hi => by
  obtain ⟨b, o, h1, h2, h3⟩ := h i hi
  exact ⟨b, o, h1, Nat.lt_of_lt_of_le h2 hb.size, fun j hj => by rw [hb.cell (p := ⟨b, o + i * K + j, none⟩) h2, h3 j hj]⟩
theorem OwnF.read (hc : ∀ x, (c x).length = K) {w : World} {base : Nat} {v : Value} {l : List α} (h : OwnF c K T w base v l) : ∃ ao cap, v = .slice ao l.length cap ∧ RdF c K w ao l ∧ l.length ≤ cap ∧ cap ≤ maxLen := by
  rcases h.2 with ⟨rfl, h0⟩ | ⟨g, cap, cur, rfl, hb, hg, hn, hcp, hs, ht⟩
  · exact ⟨none, 0, by rw [h0], fun i hi => absurd hi (by omega), by omega, by decide⟩
  · refine ⟨_, cap, rfl, fun i hi => ⟨g, 0, rfl, (Array.getElem?_eq_some_iff.1 hg).1, fun j hj => ?_⟩, hn, hcp⟩
    have hb : i * K + j < l.length * K := by
      have : (i + 1) * K ≤ l.length * K := Nat.mul_le_mul_right K hi
      rw [Nat.add_mul] at this
      omega
    rw [Nat.zero_add, World.ownsRow.cellAt h (i * K + j) hb, flatC_get hc l i hi j hj]
theorem OwnF.below {B : Nat} {w w' : World} {base : Nat} {v : Value} {l : List α} (h : OwnF c K T w base v l) (hb : Below B w w') (hB : w.heap.size ≤ B) : OwnF c K T w' base v l := ownsRow_below h hb hB
theorem OwnF.mono {w : World} {base base' : Nat} {v : Value} {l : List α} (h : OwnF c K T w base v l) (hb : base' ≤ base) : OwnF c K T w base' v l := ownsRow_mono h hb
theorem OwnF.nil (w : World) (base : Nat) : OwnF c K T w base (.slice none 0 0) ([] : List α) := by
  show w.ownsRow base T K (.slice none 0 0) 0 []
  exact World.ownsRow_nil _ _ _ _
theorem OwnF.snoc {w : World} {base : Nat} {v : Value} {l : List α} {x : α} (h : w.ownsRow base T K v (l.length + 1) (flatC c l ++ c x)) : OwnF c K T w base v (l ++ [x]) := by
  unfold OwnF
  rw [flatC_snoc, List.length_append]
  exact h
theorem OwnF.frame {w w' : World} {base : Nat} {v : Value} {l : List α} (h : OwnF c K T w base v l) (hf : ∀ g, base ≤ g → g < w.heap.size → w'.heap[g]? = w.heap[g]?) : OwnF c K T w' base v l := by
  refine ⟨h.1, ?_⟩
  rcases h.2 with h0 | ⟨g, cap, cur, hv, hbg, hg, r⟩
  · exact .inl h0
  · exact .inr ⟨g, cap, cur, hv, hbg, by rw [hf g hbg (Array.getElem?_eq_some_iff.1 hg).1, hg], r⟩
theorem OwnF.alloc {w : World} {base : Nat} {v : Value} {l : List α} (h : OwnF c K T w base v l) (o : Obj) : OwnF c K T (w.alloc o) base v l := World.ownsRow.alloc h o
theorem OwnF.empty {w : World} {base g : Nat} (hg : g = w.heap.size) (hb : base ≤ w.heap.size) : OwnF c K T (w.alloc (.cells #[] T)) base (.slice (some ⟨g, 0, none⟩) 0 0) ([] : List α) := by
  subst hg
  exact World.ownsRow_made (size := K) w #[] 0 hb (by decide) (by simp)
theorem OwnF.block {w : World} {base n cap : Nat} {ao : Option Addr} {l : List α} (h : OwnF c K T w base (.slice ao n cap) l) (h0 : 0 < l.length) : ∃ g, ao = some ⟨g, 0, none⟩ ∧ base ≤ g ∧ g < w.heap.size := by
  rcases h.2 with ⟨_, h1⟩ | ⟨g, cap, cur, hv, hbg, hg, r⟩
  · omega
  · cases hv
    exact ⟨g, rfl, hbg, (Array.getElem?_eq_some_iff.1 hg).1⟩
theorem OwnF.frozen {w : World} {base g n cap : Nat} {l : List α} (h : OwnF c K T w base (.slice (some ⟨g, 0, none⟩) n cap) l) (o : Nat) : w.frozen? ⟨g, o, none⟩ = false := by
  rcases h.2 with ⟨e, _⟩ | ⟨g', cap', cur, e, _, hg, _⟩
  · cases e
  · cases e
    simp [World.frozen?, hg]
theorem OwnF.lt {w : World} {base : Nat} {v : Value} {l : List α} (h : OwnF c K T w base v l) : ∀ k, v.ownBlock = some k → base ≤ k ∧ k < w.heap.size := World.ownsRow.lt h
end

/-! ### gates, whole numbers -/
abbrev TG : Nat := 59
def gcells (g : GT) : List Value := [.int .i64 g.k, .int .i64 g.a, .int .i64 g.b, .int .i64 g.c]
theorem gcells_len (g : GT) : (gcells g).length = 4 := rfl
abbrev RdG (w : World) (ao : Option Addr) (l : List GT) : Prop := RdF gcells 4 w ao l
abbrev OwnG (w : World) (base : Nat) (v : Value) (l : List GT) : Prop := OwnF gcells 4 TG w base v l
/-- The four cells of a gate at b, o. -/
def GAt (w : World) (b o : Nat) (g : GT) : Prop :=
  w.cell? ⟨b, o, none⟩ = some (.int .i64 g.k) ∧ w.cell? ⟨b, o + 1, none⟩ = some (.int .i64 g.a) ∧ w.cell? ⟨b, o + 2, none⟩ = some (.int .i64 g.b) ∧ w.cell? ⟨b, o + 3, none⟩ = some (.int .i64 g.c)
theorem RdF.gate {w : World} {ao : Option Addr} {l : List GT} (h : RdG w ao l) {i : Nat} (hi : i < l.length) : ∃ b o, ao = some ⟨b, o, none⟩ ∧ b < w.heap.size ∧ GAt w b (o + i * 4) l[i] := by
  obtain ⟨b, o, h1, h2, h3⟩ := h i hi
  exact ⟨b, o, h1, h2, h3 0 (by decide), h3 1 (by decide), h3 2 (by decide), h3 3 (by decide)⟩
def icells (x : Int) : List Value := [.int .i64 x]
theorem icells_len (x : Int) : (icells x).length = 1 := rfl
abbrev RdI (w : World) (ao : Option Addr) (l : List Int) : Prop := RdF icells 1 w ao l
abbrev OwnI (w : World) (base : Nat) (v : Value) (l : List Int) : Prop := OwnF icells 1 TN w base v l
theorem RdF.int {w : World} {ao : Option Addr} {l : List Int} (h : RdI w ao l) {i : Nat} (hi : i < l.length) : ∃ b o, ao = some ⟨b, o, none⟩ ∧ b < w.heap.size ∧ w.cell? ⟨b, o + i, none⟩ = some (.int .i64 l[i]) := by
  obtain ⟨b, o, h1, h2, h3⟩ := h i hi
  have := h3 0 (by decide)
  rw [Nat.mul_one, Nat.add_zero] at this
  exact ⟨b, o, h1, h2, this⟩
theorem infoG : (Try.prog.info? TG).map (fun i => (i.zero, i.size, i.bytes)) = some (some (.agg #[.int .i64 0, .int .i64 0, .int .i64 0, .int .i64 0]), 4, 32) := by kernel_rfl

/-- A made row of gates is zeros. -/
theorem made_gates (N : Nat) : (madeCells (Value.agg #[.int .i64 0, .int .i64 0, .int .i64 0, .int .i64 0]).cells (N * 4)).toList = flatC gcells (List.replicate N ⟨0, 0, 0, 0⟩) := by
  have e1 : flatC gcells (List.replicate N ⟨0, 0, 0, 0⟩) = List.replicate (N * 4) (.int .i64 0) := by
    rw [List.eq_replicate_iff, flatC_length gcells_len, List.length_replicate]
    refine ⟨rfl, fun b hb => ?_⟩
    simp only [flatC, List.mem_flatMap, List.mem_replicate] at hb
    obtain ⟨x, ⟨_, rfl⟩, hb⟩ := hb
    simp only [gcells, List.mem_cons, List.not_mem_nil, or_false, or_self] at hb
    exact hb
  rw [e1, List.eq_replicate_iff]
  refine ⟨by simp [madeCells], fun b hb => ?_⟩
  simp only [madeCells, Array.toList_map, List.mem_map] at hb
  obtain ⟨k, _, rfl⟩ := hb
  have h5 : k % 4 < 4 := Nat.mod_lt _ (by decide)
  generalize hk : k % 4 = r at h5
  show (#[(.int .i64 0 : Value), .int .i64 0, .int .i64 0, .int .i64 0])[k % 4]! = _
  rw [hk]
  match r, h5 with
  | 0, _ => rfl
  | 1, _ => rfl
  | 2, _ => rfl
  | 3, _ => rfl
theorem OwnG.made {w : World} {base : Nat} {v : Value} {N : Nat} (h : w.ownsRow base TG 4 v N (madeCells (Value.agg #[.int .i64 0, .int .i64 0, .int .i64 0, .int .i64 0]).cells (N * 4)).toList) : OwnG w base v (List.replicate N ⟨0, 0, 0, 0⟩) := by
  rw [made_gates] at h
  show w.ownsRow base TG 4 v (List.replicate N _).length _
  rw [List.length_replicate]
  exact h
/-- A gate stored to the row. -/
def setG (w : World) (g i : Nat) (x : GT) : World :=
  (((w.setCell ⟨g, i * 4, none⟩ (.int .i64 x.k)).setCell ⟨g, i * 4 + 1, none⟩ (.int .i64 x.a)).setCell ⟨g, i * 4 + 2, none⟩ (.int .i64 x.b)).setCell ⟨g, i * 4 + 3, none⟩ (.int .i64 x.c)
theorem gcells_set : ∀ (l : List GT) (i : Nat) (x : GT), i < l.length → ((((flatC gcells l).set (i * 4) (.int .i64 x.k)).set (i * 4 + 1) (.int .i64 x.a)).set (i * 4 + 2) (.int .i64 x.b)).set (i * 4 + 3) (.int .i64 x.c) = flatC gcells (l.set i x)
  | y :: l, 0, x, _ => by simp [flatC, gcells]
  | y :: l, i + 1, x, h => by
    have := gcells_set l i x (by simpa using h)
    simp only [flatC, List.flatMap_cons, List.set_cons_succ] at *
    rw [← this]
    simp [gcells, Nat.add_mul, Nat.add_assoc]
theorem OwnF.setGate {w : World} {base g n cap : Nat} {l : List GT} (h : OwnG w base (.slice (some ⟨g, 0, none⟩) n cap) l) (i : Nat) (hi : i < l.length) (x : GT) :
    OwnG (setG w g i x) base (.slice (some ⟨g, 0, none⟩) n cap) (l.set i x) := by
  have hn : n = l.length := by
    obtain ⟨ao, c, e, _⟩ := h.read gcells_len
    cases e
    rfl
  subst hn
  unfold OwnG OwnF setG at *
  rw [List.length_set, ← gcells_set l i x hi]
  have h1 := (World.ownsRow.stored h (i * 4) (.int .i64 x.k)).1
  have h2 := (World.ownsRow.stored h1 (i * 4 + 1) (.int .i64 x.a)).1
  have h3 := (World.ownsRow.stored h2 (i * 4 + 2) (.int .i64 x.b)).1
  exact (World.ownsRow.stored h3 (i * 4 + 3) (.int .i64 x.c)).1
theorem setG_block (w : World) (g i : Nat) (x : GT) (k : Nat) (h : k ≠ g) : (setG w g i x).heap[k]? = w.heap[k]? := by
  unfold setG
  rw [Below.heap_setCell _ _ _ _ h, Below.heap_setCell _ _ _ _ h, Below.heap_setCell _ _ _ _ h, Below.heap_setCell _ _ _ _ h]
theorem setG_below {B : Nat} {w0 w : World} {g i : Nat} {x : GT} (h : Below B w0 w) (hg : B ≤ g) : Below B w0 (setG w g i x) :=
  (((h.setCell hg _).setCell hg _).setCell hg _).setCell hg _
theorem setG_grown {w w2 : World} {g i : Nat} {x : GT} (hb : Below w.heap.size w w2) : w.grownBy (setG w2 g i x) (some g) := by
  have h := setG_below (g := g) (i := i) (x := x) (hb.mono (Nat.zero_le _)) (Nat.zero_le _)
  refine ⟨h.os, h.tape, h.output, h.size, fun k hk hne => ?_⟩
  rw [setG_block _ _ _ _ _ (by simpa using hne), hb.block k hk]
/-- A gate's cells in a row of the call's own, and what a store to them leaves. -/
theorem OwnF.gateAt {w : World} {base n cap g : Nat} {l : List GT} (h : OwnG w base (.slice (some ⟨g, 0, none⟩) n cap) l) {j : Nat} (hj : j < l.length) :
    GAt w g (j * 4) l[j] ∧ (∀ o, w.frozen? ⟨g, o, none⟩ = false) ∧ ∀ w2 x, Below w.heap.size w w2 → OwnG (setG w2 g j x) base (.slice (some ⟨g, 0, none⟩) n cap) (l.set j x) := by
  refine ⟨?_, h.frozen, fun w2 x hb => (h.below hb (Nat.le_refl _)).setGate j hj x⟩
  obtain ⟨ao, c, e, hR, _⟩ := h.read gcells_len
  cases e
  obtain ⟨b, o, e, _, hD⟩ := hR.gate hj
  cases e
  simpa using hD

end Go.Proofs.Yteckhaafdojoeaa

/-! L7: The laws' helpers on rows of gates: size, copy, comparison, marks. -/
namespace Go.Proofs.Yteckhaafdojoeaa
open Go.RowKit BigFrame

set_option maxHeartbeats 4000000 in
theorem lSzGs (ao : Option Addr) (n cap : Nat) (left : Int) (h0 : 0 ≤ left) (h1 : left ≤ 1048576) (hn : n ≤ 9223372036854775807) (w : World) :
    Calls Try.prog 56 #[.slice ao n cap, .int .i64 left] w fun e w' => e = .returned (.int .i64 (if left - n < 0 then -1 else left - n)) ∧ w = w' := by
  by_cases h : left - (n : Int) < 0
  · rw [if_pos h]
    go_enter Try.func56, Try.ntmps56
    go_wp2
    go_ret
    exact ⟨rfl, rfl⟩
  · rw [if_neg h]
    go_enter Try.func56, Try.ntmps56
    go_wp2
    go_ret
    exact ⟨by go_num, rfl⟩

set_option maxHeartbeats 4000000 in
theorem lToGs (ao : Option Addr) (l : List GT) (cap : Nat) (hn : l.length ≤ 2000000) (w : World) (h : RdG w ao l) :
    Calls Try.prog 58 #[.slice ao l.length cap] w fun e w' => ∃ v, e = .returned v ∧ OwnG w' w.heap.size v l ∧ Below w.heap.size w w' := by
  obtain ⟨iD, hiD, hzD0, hzD1, hzD2⟩ := info_parts infoG
  have hbytes : iD.bytes * l.length ≤ 281474976710656 := by rw [hzD2]; omega
  have hmax : l.length ≤ maxLen := by unfold maxLen; omega
  go_enter Try.func58, Try.ntmps58
  go_wp2_with (first | (at_make; refine wpList_make_full _ rfl _ _ 33 rfl w.heap.size TG iD _ 4 Try.underlying33 hiD hzD0 hzD1 _ _ _ _ l.length rfl rfl rfl rfl hbytes hmax (Nat.le_refl _) ?_))
  intro w1 hown hgrow
  have hS := OwnG.made (N := l.length) hown
  rw [← toP_zero] at hS
  have hb1 : Below w.heap.size w w1 := (Below.refl _ _).grown hgrow (Nat.le_refl _) (fun k hk => by cases hk)
  have hs1 := hb1.size
  have hlt : w.heap.size < w1.heap.size := (World.ownsRow.lt hS w.heap.size rfl).2
  clear hown hgrow
  go_wp2
  go_loopw [4] (fun x wr => ∃ j : Nat, x = .int .i64 j ∧ j ≤ l.length ∧ OwnG wr w.heap.size (.slice (some ⟨w.heap.size, 0, none⟩) l.length l.length) (toP ⟨0, 0, 0, 0⟩ l j) ∧ Below w.heap.size w wr ∧ w.heap.size < wr.heap.size) (fun x _ => l.length - (intOf x).toNat)
  case atStart => exact ⟨0, rfl, Nat.zero_le _, hS, hb1, hlt⟩
  case round =>
    obtain ⟨j, rfl, j0, hS4, hb4, hg4⟩ := hrel
    have hs4 := hb4.size
    by_cases hj : j < l.length
    · obtain ⟨b, o, rfl, hlb, hD⟩ := (h.below hb4).gate hj
      obtain ⟨d0, d1, d2, d3⟩ := hD
      have hjP : j < (toP (⟨0, 0, 0, 0⟩ : GT) l j).length := by rw [toP_length _ _ _ j0]; exact hj
      obtain ⟨hD, q7, q8⟩ := hS4.gateAt hjP
      have q9 := fun w2 hb => q8 w2 l[j] hb
      rw [toP_step _ _ hj] at q9
      have q8' := Lib.hid q9
      obtain ⟨x, hx⟩ : ∃ x, x = (toP (⟨0, 0, 0, 0⟩ : GT) l j)[j] := ⟨_, rfl⟩
      rw [← hx] at hD
      obtain ⟨e0, e1, e2, e3⟩ := hD
      clear q8 q9 hS4 hS h hx
      go_wp2_with (go_at_call 46; refine (lToGate l[j] _).mono ?_; rintro e wa ⟨rfl, hb⟩; obtain ⟨hc, hf, hz⟩ := bcell hb; (try simp only [World.size_drew, World.cell?_drew, World.frozen?_drew] at hc hf hz); (try simp at hz); (try have kk := fun o => hc (w.heap.size) o (by first | omega | (simp; done) | (simp; omega))); (try have kf := fun o => hf (w.heap.size) o (by first | omega | (simp; done) | (simp; omega))); (try have zz : w.heap.size < wa.heap.size := by omega))
      all_goals go_roundw
      all_goals first
        | exact ⟨j + 1, by go_num, by omega, q8'.out _ (by (repeat (first | with_reducible exact Below.refl _ _ | with_reducible assumption | with_reducible refine Below.setCell ?_ (by first | omega | (simp; done) | (simp; omega)) _ | with_reducible refine Below.alloc ?_ (by first | omega | (simp; done) | (simp; omega)) _ | with_reducible refine Below.drew ?_ | with_reducible refine belowDrewN ?_ _ | with_reducible refine Below.trans ?_ (Below.mono (by assumption) (by first | omega | (simp; done) | (simp; omega)))))), by (repeat (first | with_reducible exact Below.refl _ _ | with_reducible assumption | with_reducible refine Below.setCell ?_ (by first | omega | (simp; done) | (simp; omega)) _ | with_reducible refine Below.alloc ?_ (by first | omega | (simp; done) | (simp; omega)) _ | with_reducible refine Below.drew ?_ | with_reducible refine belowDrewN ?_ _ | with_reducible refine Below.trans ?_ (Below.mono (by assumption) (by first | omega | (simp; done) | (simp; omega))))), (by first | omega | (simp; done) | (simp; omega))⟩
        | (simp [intOf]; omega)
    · rw [toP_end _ _ (by omega)] at hS4
      go_wp2
      go_ret
      exact ⟨_, rfl, hS4, by (repeat (first | with_reducible exact Below.refl _ _ | with_reducible assumption | with_reducible refine Below.setCell ?_ (by first | omega | (simp; done) | (simp; omega)) _ | with_reducible refine Below.alloc ?_ (by first | omega | (simp; done) | (simp; omega)) _ | with_reducible refine Below.drew ?_ | with_reducible refine belowDrewN ?_ _ | with_reducible refine Below.trans ?_ (Below.mono (by assumption) (by first | omega | (simp; done) | (simp; omega)))))⟩

set_option maxHeartbeats 4000000 in
theorem lEqGate (g : GT) (w : World) :
    Calls Try.prog 133 #[Gv g, Gv g] w fun e w' => e = .returned (.bool true) ∧ Below w.heap.size w w' := by
  go_enter Try.func133, Try.ntmps133
  go_wp2
  go_ret
  exact ⟨rfl, by (repeat (first | with_reducible exact Below.refl _ _ | with_reducible assumption | with_reducible refine Below.setCell ?_ (by first | omega | (simp; done) | (simp; omega)) _ | with_reducible refine Below.alloc ?_ (by first | omega | (simp; done) | (simp; omega)) _ | with_reducible refine Below.drew ?_ | with_reducible refine belowDrewN ?_ _ | with_reducible refine Below.trans ?_ (Below.mono (by assumption) (by first | omega | (simp; done) | (simp; omega)))))⟩

set_option maxHeartbeats 4000000 in
theorem lEqGs (ao bo : Option Addr) (l : List GT) (ca cb : Nat) (hn : l.length ≤ 2000000) (w : World) (h : RdG w ao l) (h' : RdG w bo l) :
    Calls Try.prog 60 #[.slice ao l.length ca, .slice bo l.length cb] w fun e w' => e = .returned (.bool true) ∧ Below w.heap.size w w' := by
  have hl' : ((l.length : Int) != (l.length : Int)) = false := by simp
  go_enter Try.func60, Try.ntmps60
  go_wp2
  go_loopw [5] (fun x wr => ∃ j : Nat, x = .int .i64 j ∧ j ≤ l.length ∧ Below w.heap.size w wr) (fun x _ => l.length - (intOf x).toNat)
  case atStart => exact ⟨0, rfl, Nat.zero_le _, by (repeat (first | with_reducible exact Below.refl _ _ | with_reducible assumption | with_reducible refine Below.setCell ?_ (by first | omega | (simp; done) | (simp; omega)) _ | with_reducible refine Below.alloc ?_ (by first | omega | (simp; done) | (simp; omega)) _ | with_reducible refine Below.drew ?_ | with_reducible refine belowDrewN ?_ _ | with_reducible refine Below.trans ?_ (Below.mono (by assumption) (by first | omega | (simp; done) | (simp; omega)))))⟩
  case round =>
    obtain ⟨j, rfl, h0, hb0⟩ := hrel
    have hs0 := hb0.size
    by_cases hj : j < l.length
    · obtain ⟨b, o, rfl, hlt, hD⟩ := (h.below hb0).gate hj
      obtain ⟨d0, d1, d2, d3⟩ := hD
      obtain ⟨b', o', rfl, hlt', hD'⟩ := (h'.below hb0).gate hj
      obtain ⟨g0, g1, g2, g3⟩ := hD'
      go_wp2
      go_region_held3 (fun w' => Below wr.heap.size wr w' ∧ (∀ b o, b < wr.heap.size → w'.cell? ⟨b, o, none⟩ = wr.cell? ⟨b, o, none⟩) ∧ (∀ b o, b < wr.heap.size → w'.frozen? ⟨b, o, none⟩ = wr.frozen? ⟨b, o, none⟩) ∧ wr.heap.size ≤ w'.heap.size) ((exact bpack (by (repeat (first | with_reducible exact Below.refl _ _ | with_reducible assumption | with_reducible refine Below.setCell ?_ (by first | omega | (simp; done) | (simp; omega)) _ | with_reducible refine Below.alloc ?_ (by first | omega | (simp; done) | (simp; omega)) _ | with_reducible refine Below.drew ?_ | with_reducible refine belowDrewN ?_ _ | with_reducible refine Below.trans ?_ (Below.mono (by assumption) (by first | omega | (simp; done) | (simp; omega)))))))) (first | (go_at_call 133; refine (lEqGate l[j] _).mono ?_; rintro e wa ⟨rfl, hb⟩; obtain ⟨hc, hf, hz⟩ := bcell hb; (try simp only [World.size_drew, World.cell?_drew, World.frozen?_drew] at hc hf hz); (try simp at hz); (try have kk := fun o => hc (wr.heap.size) o (by first | omega | (simp; done) | (simp; omega))); (try have kf := fun o => hf (wr.heap.size) o (by first | omega | (simp; done) | (simp; omega))); (try have zz : wr.heap.size < wa.heap.size := by omega)))
      all_goals go_wp2
      all_goals go_roundw
      all_goals first
        | exact ⟨j + 1, by go_num, by omega, by (repeat (first | with_reducible exact Below.refl _ _ | with_reducible assumption | with_reducible refine Below.setCell ?_ (by first | omega | (simp; done) | (simp; omega)) _ | with_reducible refine Below.alloc ?_ (by first | omega | (simp; done) | (simp; omega)) _ | with_reducible refine Below.drew ?_ | with_reducible refine belowDrewN ?_ _ | with_reducible refine Below.trans ?_ (Below.mono (by assumption) (by first | omega | (simp; done) | (simp; omega)))))⟩
        | (simp [intOf]; omega)
    · go_wp2
      go_ret
      exact ⟨rfl, by (repeat (first | with_reducible exact Below.refl _ _ | with_reducible assumption | with_reducible refine Below.setCell ?_ (by first | omega | (simp; done) | (simp; omega)) _ | with_reducible refine Below.alloc ?_ (by first | omega | (simp; done) | (simp; omega)) _ | with_reducible refine Below.drew ?_ | with_reducible refine belowDrewN ?_ _ | with_reducible refine Below.trans ?_ (Below.mono (by assumption) (by first | omega | (simp; done) | (simp; omega)))))⟩

set_option maxHeartbeats 4000000 in
theorem lMarkGs (base : Nat) (x : Value) (l : List GT) (k : Nat) (hk : k ≤ 1000000000000) (hn : l.length ≤ 2000000) (w : World) (hS : OwnG w base x l) :
    Calls Try.prog 61 #[x, .int .i64 k] w fun e w' => e = .returned (.int .i64 (k + 4 * l.length : Nat)) ∧ w.grownBy w' x.ownBlock := by
  obtain ⟨xo, xc, rfl, _, _, _⟩ := hS.read gcells_len
  by_cases h0 : 0 < l.length
  · obtain ⟨g, rfl, hgb, hgs⟩ := hS.block h0
    show Calls _ _ _ _ fun e w' => _ ∧ w.grownBy w' (some g)
    generalize hN : l.length = n at *
    have HN := Lib.hid hN
    clear hN
    go_enter Try.func61, Try.ntmps61
    go_wp2
    go_loopw [1, 5] (fun y z wr => ∃ (j : Nat) (l2 : List GT), y = .int .i64 (k + 4 * j : Nat) ∧ z = .int .i64 j ∧ j ≤ n ∧ Hid (l2.length = n) ∧ OwnG wr base (.slice (some ⟨g, 0, none⟩) n xc) l2 ∧ w.grownBy wr (some g)) (fun _ z _ => n - (intOf z).toNat)
    case atStart => exact ⟨0, l, by simp, rfl, Nat.zero_le _, HN, hS, World.grownBy.refl _ _⟩
    case round =>
      obtain ⟨j, l2, rfl, rfl, j0, HL, hS1, hg1⟩ := hrel
      by_cases hj : j < n
      · obtain ⟨hD, q7, q8⟩ := hS1.gateAt (j := j) (by rw [HL.out]; exact hj)
        have q9 := q8 wr ⟨(k + 4 * j : Nat), (k + 4 * j + 1 : Nat), (k + 4 * j + 2 : Nat), (k + 4 * j + 3 : Nat)⟩ (Below.refl _ _)
        have hgr := grown_trans hg1 (setG_grown (g := g) (i := j) (x := ⟨(k + 4 * j : Nat), (k + 4 * j + 1 : Nat), (k + 4 * j + 2 : Nat), (k + 4 * j + 3 : Nat)⟩) (Below.refl wr.heap.size wr))
        have hs1 := hg1.size
        obtain ⟨d0, d1, d2, d3⟩ := hD
        have Q9 := Lib.hid q9
        have HG := Lib.hid hgr
        clear q8 q9 hgr hS hS1 hg1
        go_wp2
        go_roundw
        case rel => exact ⟨j + 1, _, by go_num, by go_num, by omega, by simp only [Hid, List.length_set]; exact HL.out, Q9.out, HG.out⟩
        case measure => simp [intOf]; omega
      · have hjn : j = n := by omega
        subst hjn
        go_wp2
        go_ret
        exact ⟨rfl, hg1⟩
  · have hz : l = [] := List.eq_nil_of_length_eq_zero (by omega)
    subst hz
    go_enter Try.func61, Try.ntmps61
    go_wp2
    refine wp_loop_rounds 1 ?_
    rw [rounds_succ]
    go_wp2
    go_ret
    exact ⟨rfl, World.grownBy.refl _ _⟩

end Go.Proofs.Yteckhaafdojoeaa

/-! L8: The laws' helpers: numbers written over a matrix of the call's own, and read back. -/
namespace Go.Proofs.Yteckhaafdojoeaa
open Go.RowKit

/-- How many numbers lie in the rows before row i. -/
def off (m : List (List DO)) (i : Nat) : Nat := ((m.take i).map List.length).sum
theorem off_zero (m : List (List DO)) : off m 0 = 0 := by simp [off]
theorem off_succ {m : List (List DO)} {i : Nat} (h : i < m.length) : off m (i + 1) = off m i + m[i].length := by
  rw [off, off, List.take_succ_eq_append_getElem h, List.map_append, List.sum_append]
  simp
theorem off_le {m : List (List DO)} (h : ∀ r ∈ m, r.length ≤ 100) : ∀ i, i ≤ m.length → off m i ≤ 100 * i
  | 0, _ => by rw [off_zero]; omega
  | i + 1, hi => by
    have := off_le h i (by omega)
    have := h m[i] (List.getElem_mem _)
    rw [off_succ (by omega)]
    omega
def mkMP (k : Nat) (m : List (List DO)) (j : Nat) : List (List DO) := m.mapIdx fun i r => if i < j then marks (k + 5 * off m i) r.length else r
theorem mkMP_length (k : Nat) (m : List (List DO)) (j : Nat) : (mkMP k m j).length = m.length := by simp [mkMP]
theorem mkMP_zero (k : Nat) (m : List (List DO)) : mkMP k m 0 = m := by
  apply List.ext_getElem (by simp [mkMP])
  intro i h1 h2
  simp [mkMP]
theorem mkMP_get {k : Nat} {m : List (List DO)} {j i : Nat} (h : i < (mkMP k m j).length) (hi : i < m.length) : (mkMP k m j)[i] = if i < j then marks (k + 5 * off m i) m[i].length else m[i] := by
  simp [mkMP]
theorem mkMP_rowlen {k : Nat} {m : List (List DO)} {j i : Nat} (h : i < (mkMP k m j).length) (hi : i < m.length) : (mkMP k m j)[i].length = m[i].length := by
  rw [mkMP_get h hi]
  split
  · rw [marks_length]
  · rfl
theorem mkMP_step {k : Nat} {m : List (List DO)} {j : Nat} (h : j < m.length) : (mkMP k m j).set j (marks (k + 5 * off m j) m[j].length) = mkMP k m (j + 1) := by
  apply List.ext_getElem (by simp [mkMP])
  intro i h1 h2
  have hi : i < m.length := by simpa [mkMP] using h2
  rw [mkMP_get h2 hi]
  by_cases e : i = j
  · subst e
    rw [List.getElem_set_self, if_pos (by omega)]
  · rw [List.getElem_set_ne (by omega), mkMP_get (by rw [mkMP_length]; exact hi) hi]
    by_cases h3 : i < j
    · rw [if_pos h3, if_pos (by omega)]
    · rw [if_neg h3, if_neg (by omega)]

/-- Row k of a matrix of the call's own, and what becomes of the matrix when that row is written over. -/
theorem OwnM.turn {w : World} {base : Nat} {v : Value} {m : List (List DO)} (h : OwnM w base v m) {k : Nat} (hk : k < m.length) :
    ∃ ob oc x, v = .slice (some ⟨ob, 0, none⟩) m.length oc ∧ ob < w.heap.size ∧ w.cell? ⟨ob, k, none⟩ = some x ∧ OwnS w base x m[k] ∧
      ∀ w' r', OwnS w' base x r' → w.grownBy w' x.ownBlock → OwnM w' base v (m.set k r') := by
  obtain ⟨vs, ho, hr, hd⟩ := h
  obtain ⟨x, hx, hS⟩ := hr k hk
  have ho' := ho
  rcases ho.2 with ⟨_, h0⟩ | ⟨g, cap, cur, hv, hb, hg, _⟩
  · omega
  · refine ⟨g, cap, x, hv, (Array.getElem?_eq_some_iff.1 hg).1, ?_, hS, fun w' r' hS' hgr => ⟨vs, ?_, fun i hi => ?_, hd⟩⟩
    · rw [hv] at ho'
      rw [World.ownsRow.cellAt ho' k (by omega), hx]
    · rw [List.length_set]
      refine World.ownsRow.kept ho hgr ?_
      rcases OwnS.apart hS ho with h1 | h1
      · rw [h1]
        rw [hv]
        exact .inr (by simp [Value.ownBlock])
      · exact .inr (Ne.symm h1)
    · have hi' : i < m.length := by simpa using hi
      by_cases e : i = k
      · subst e
        refine ⟨x, hx, ?_⟩
        rw [List.getElem_set_self]
        exact hS'
      · obtain ⟨y, hy, hSy⟩ := hr i hi'
        refine ⟨y, hy, ?_⟩
        rw [List.getElem_set_ne (by omega)]
        refine World.ownsRow.kept hSy hgr ?_
        cases hyb : y.ownBlock with
        | none => exact .inl rfl
        | some a =>
          right
          intro e2
          rcases Nat.lt_or_gt_of_ne e with hlt | hgt
          · exact hd i k y x hlt hy hx a hyb e2.symm
          · exact hd k i x y hgt hx hy a e2.symm hyb

set_option maxHeartbeats 4000000 in
theorem lMarkSS (base : Nat) (v : Value) (m : List (List DO)) (k : Nat) (hk : k ≤ 1000000) (hn : m.length ≤ 100) (hr : ∀ r ∈ m, r.length ≤ 100) (w : World) (hM : OwnM w base v m) (hbw : base ≤ w.heap.size) :
    Calls Try.prog 54 #[v, .int .i64 k] w fun e w' => e = .returned (.int .i64 (k + 5 * off m m.length : Nat)) ∧ OwnM w' base v (mkMP k m m.length) ∧ Below base w w' := by
  have HR := Lib.hid hr
  have HO := Lib.hid (off_le hr)
  obtain ⟨vo, vc, rfl, _, _, _⟩ := hM.read
  rw [← mkMP_zero k m, mkMP_length] at hM
  obtain ⟨n, hN⟩ : ∃ n, m.length = n := ⟨_, rfl⟩
  rw [hN] at hM hn ⊢
  have HN := Lib.hid hN
  clear hN hr
  go_enter Try.func54, Try.ntmps54
  go_wp2
  go_loopw [1, 5] (fun y z wr => ∃ j : Nat, y = .int .i64 (k + 5 * off m j : Nat) ∧ z = .int .i64 j ∧ j ≤ n ∧ OwnM wr base (.slice vo n vc) (mkMP k m j) ∧ Below base w wr) (fun _ z _ => n - (intOf z).toNat)
  case atStart => exact ⟨0, by rw [off_zero]; rfl, rfl, Nat.zero_le _, hM, Below.refl _ _⟩
  case round =>
    obtain ⟨j, rfl, rfl, j0, hM1, hb1⟩ := hrel
    have hs1 := hb1.size
    by_cases hj : j < n
    · have hjm : j < m.length := by rw [HN.out]; exact hj
      have hjP : j < (mkMP k m j).length := by rw [mkMP_length]; exact hjm
      obtain ⟨ob, oc, x, hv, hob, hcell, hS, hturn⟩ := hM1.turn hjP
      cases hv
      have hoff := HO.out j (by omega)
      have hlen := HR.out m[j] (List.getElem_mem _)
      have hrow : (mkMP k m j)[j] = m[j] := by rw [mkMP_get hjP hjm, if_neg (Nat.lt_irrefl _)]
      rw [hrow] at hS
      have hstep := fun w' => hturn w' (marks (k + 5 * off m j) (m[j]'hjm).length)
      rw [mkMP_step hjm] at hstep
      have HT := Lib.hid hstep
      have hos := off_succ hjm
      obtain ⟨f1, hf1⟩ : ∃ f1, f1 = off m (j + 1) := ⟨_, rfl⟩
      obtain ⟨f0, hf0⟩ : ∃ f0, f0 = off m j := ⟨_, rfl⟩
      rw [← hf0] at hoff hos HT ⊢
      rw [← hf1] at hos
      have HF := Lib.hid hf1
      have HF0 := Lib.hid hos
      obtain ⟨ro, rc, rfl, _, _, _⟩ := hS.read
      have hlt := Lib.hid (fun a ha => World.ownsRow.lt hS a ha)
      clear hturn hstep hrow hM1 hf1 hf0 hos hM
      go_wp2_with fail
      refine (lMarkS base _ m[j] (k + 5 * f0) (by omega) (by omega) _ hS).mono ?_
      rintro e w2 ⟨rfl, hS2, hg2⟩
      have hM2 := HT.out _ hS2 hg2
      have hb2 : Below base w w2 := hb1.grown hg2 (by omega) fun a ha => (hlt.out a ha).1
      have e1 : k + 5 * f0 + 5 * m[j].length = k + 5 * f1 := by have := HF0.out; omega
      rw [e1]
      clear e1 hS2 hg2 hS hlt HT HF0 hcell
      go_wp2
      go_roundw
      case rel => exact ⟨j + 1, by rw [← HF.out]; first | rfl | go_num, by go_num, by omega, hM2, hb2⟩
      case measure => simp [intOf]; omega
    · have hjn : j = n := by omega
      subst hjn
      go_wp2
      go_ret
      exact ⟨rfl, hM1, hb1⟩

set_option maxHeartbeats 4000000 in
theorem lHeldSS (ao : Option Addr) (cap : Nat) (m : List (List DO)) (k : Nat) (hk : k ≤ 1000000) (hn : m.length ≤ 100) (hr : ∀ r ∈ m, r.length ≤ 100) (w : World) (hM : MtR w ao (mkMP k m m.length)) :
    Calls Try.prog 55 #[.slice ao m.length cap, .int .i64 k] w fun e w' => e = .returned (.int .i64 (k + 5 * off m m.length : Nat)) ∧ w = w' := by
  have HR := Lib.hid hr
  have HO := Lib.hid (off_le hr)
  obtain ⟨n, hN⟩ : ∃ n, m.length = n := ⟨_, rfl⟩
  rw [hN] at hM hn ⊢
  have HN := Lib.hid hN
  clear hN hr
  go_enter Try.func55, Try.ntmps55
  go_wp2
  go_loopw [1, 5] (fun y z wr => ∃ j : Nat, y = .int .i64 (k + 5 * off m j : Nat) ∧ z = .int .i64 j ∧ j ≤ n ∧ w = wr) (fun _ z _ => n - (intOf z).toNat)
  case atStart => exact ⟨0, by rw [off_zero]; rfl, rfl, Nat.zero_le _, rfl⟩
  case round =>
    obtain ⟨j, rfl, rfl, j0, rfl⟩ := hrel
    by_cases hj : j < n
    · have hjm : j < m.length := by rw [HN.out]; exact hj
      have hjP : j < (mkMP k m n).length := by rw [mkMP_length]; exact hjm
      obtain ⟨b, o, rfl, hlt, ro, rc, hcell, hR⟩ := hM j hjP
      have hrow : (mkMP k m n)[j] = marks (k + 5 * off m j) m[j].length := by rw [mkMP_get hjP hjm, if_pos hj]
      rw [hrow] at hcell hR
      rw [marks_length] at hcell
      have hoff := HO.out j (by omega)
      have hlen := HR.out m[j] (List.getElem_mem _)
      have hos := off_succ hjm
      obtain ⟨f1, hf1⟩ : ∃ f1, f1 = off m (j + 1) := ⟨_, rfl⟩
      obtain ⟨f0, hf0⟩ : ∃ f0, f0 = off m j := ⟨_, rfl⟩
      rw [← hf0] at hoff hos hR ⊢
      rw [← hf1] at hos
      have HF := Lib.hid hf1
      have HF0 := Lib.hid hos
      clear hrow hf1 hf0 hos hM
      go_wp2_with fail
      refine (lHeldS _ m[j].length _ (k + 5 * f0) (by omega) (by omega) _ hR).mono ?_
      rintro e _ ⟨rfl, rfl⟩
      have e1 : k + 5 * f0 + 5 * m[j].length = k + 5 * f1 := by have := HF0.out; omega
      rw [e1]
      clear e1 HF0 hR hcell
      go_wp2
      go_roundw
      case rel => exact ⟨j + 1, by rw [← HF.out]; first | rfl | go_num, by go_num, by omega, by first | rfl | trivial⟩
      case measure => simp [intOf]; omega
    · have hjn : j = n := by omega
      subst hjn
      go_wp2
      go_ret
      exact ⟨rfl, rfl⟩

end Go.Proofs.Yteckhaafdojoeaa

/-! S36: Rows of gates applied (ApplyGates, both sides). -/
namespace Go.Proofs.Yteckhaafdojoeaa
open Go.RowKit BigFrame

theorem StR.news {w : World} {b o : Nat} {l : List DO} (h : StR w (some ⟨b, o, none⟩) l) : ∀ j u, (cellsD l)[j]? = some u → w.cell? ((⟨b, o, none⟩ : Addr).add j) = some u := fun j u hu => by
  have hj : j < l.length * 5 := by rw [← cellsD_length]; exact (List.getElem?_eq_some_iff.1 hu).1
  have hi : j / 5 < l.length := by omega
  obtain ⟨b', o', e, _, d0, d1, d2, d3, d4⟩ := h (j / 5) hi
  cases e
  have hr : j % 5 < 5 := Nat.mod_lt _ (by decide)
  have hjj : j = j / 5 * 5 + j % 5 := by omega
  have hg := cellsD_get l (j / 5) hi (j % 5) hr
  rw [← hjj, hu] at hg
  rw [Addr.add_lit, hg]
  rw [show o + j = o + j / 5 * 5 + j % 5 by omega]
  generalize j % 5 = r at *
  match r, hr with
  | 0, _ => exact d0
  | 1, _ => exact d1
  | 2, _ => exact d2
  | 3, _ => exact d3
  | 4, _ => exact d4
theorem cellsD_one (l : List DO) : ∀ u ∈ cellsD l, u.oneCell' = true := fun u hu => by
  simp only [cellsD, List.mem_flatMap] at hu
  obtain ⟨x, _, hx⟩ := hu
  exact dcells_one x u hx
theorem okS_pos {l : List DO} (h : okS l = true) : 0 < l.length := by
  rw [okS, Bool.and_eq_true] at h
  rcases Nat.eq_zero_or_pos l.length with h0 | h0
  · rw [h0] at h
    have := h.1
    simp [qc] at this
  · exact h0
theorem StR.some {w : World} {ao : Option Addr} {l : List DO} (h : StR w ao l) (h0 : 0 < l.length) : ∃ b o, ao = Option.some ⟨b, o, none⟩ ∧ b < w.heap.size := by
  obtain ⟨b, o, h1, h2, _⟩ := h 0 h0
  exact ⟨b, o, h1, h2⟩
theorem applyG_len' {g : GT} {v : List DO} (hn : v.length ≤ 2000000) : (applyG g v).1.length ≤ 2000000 := by
  have key : ∀ (v : List DO) (i : Nat) (out : List DO), (applyL g i v out).1.length ≤ out.length := fun v => by
    induction v with
    | nil => intro i out; exact Nat.le_refl _
    | cons x r ih =>
      intro i out
      rw [applyL]
      split
      · rename_i hc
        have := ih (i + 1) (addL out (goes g i) x).1
        rw [addL_len _ _ _ hc] at this
        exact this
      · exact Nat.zero_le _
  unfold applyG
  split
  · have := key v 0 (List.replicate v.length ⟨⟨0, 0, 0, 0⟩, 0⟩)
    rw [List.length_replicate] at this
    omega
  · exact Nat.zero_le _

theorem runG_len' : ∀ (l : List GT) (v : List DO), v.length ≤ 2000000 → (runG l v).1.length ≤ 2000000
  | [], _, h => h
  | g :: r, v, h => by
    rw [runG]
    split
    · exact runG_len' r _ (applyG_len' h)
    · exact Nat.zero_le _
theorem applyGs_len' {l : List GT} {v : List DO} (h : v.length ≤ 2000000) : (applyGs l v).1.length ≤ 2000000 := by
  unfold applyGs
  split
  · exact runG_len' l v h
  · exact Nat.zero_le _

set_option maxRecDepth 100000 in
set_option maxHeartbeats 4000000 in
theorem iApplyGates (ao bo : Option Addr) (l : List GT) (v : List DO) (ca cv : Nat) (hl : l.length ≤ 2000000) (hn : v.length ≤ 2000000) (w : World) (h : RdG w ao l) (h' : StR w bo v) :
    Calls Try.prog 59 #[.slice ao l.length ca, .slice bo v.length cv] w fun e w' => ∃ x, e = .returned (.tuple #[x, .bool (applyGs l v).2]) ∧ OwnS w' w.heap.size x (applyGs l v).1 ∧ Below w.heap.size w w' := by
  obtain ⟨iD, hiD, hzD0, hzD1, hzD2⟩ := info_parts infoD
  by_cases hs : okS v = true
  · obtain ⟨b, o, rfl, hlt⟩ := h'.some (okS_pos hs)
    have hp := okS_pos hs
    have hR := Lib.hid (applyGs_yes (l := l) hs)
    go_enter Try.func59, Try.ntmps59
    go_wp2_with fail
    refine (iIsValidState _ _ _ (by omega) _ h').mono ?_
    rintro e w1 ⟨rfl, hb1⟩
    have hs1 := hb1.size
    have hv1 : StR (w1.alloc (.cells #[] TD)) (some ⟨b, o, none⟩) v := (h'.below hb1).below ((Below.refl _ _).alloc (Nat.le_refl _) _)
    have hown0 : OwnS (w1.alloc (.cells #[] TD)) w.heap.size (.slice (some ⟨w1.heap.size, 0, none⟩) 0 0) [] := OwnS.empty' rfl hs1
    rw [hs]
    go_wp2_with (first | (at_builtin; refine wpList_append2 _ rfl _ _ 56 rfl w.heap.size TD iD _ 5 40 Try.underlying56 hiD hzD0 hzD1 hzD2 rfl (by decide) _ 0 [] rfl hown0 ⟨b, o, none⟩ v.length cv (by omega) (cellsD v) rfl ?c0 (StR.news hv1) (cellsD_one v) ?c3 ?c4 ?c5 ?_))
    case c0 => exact cellsD_length v
    case c3 => unfold maxLen; omega
    case c4 => omega
    case c5 => simp; omega
    intro v' w2 hown hgrow _
    have hS2 : OwnS w2 w.heap.size v' v := hown
    have hb2 : Below w.heap.size w w2 := (hb1.alloc hs1 _).grown hgrow (by simp; omega) fun k hk => (World.ownsRow.lt hown0 k hk).1
    have hs2 := hb2.size
    clear hown hgrow hown0 hv1 hb1
    go_wp2
    go_loopw [6, 19] (fun y z wr => ∃ (j : Nat) (out : List DO), z = .int .i64 j ∧ j ≤ l.length ∧ OwnS wr w.heap.size y out ∧ out.length ≤ 2000000 ∧ Hid (runG (l.drop j) out = applyGs l v) ∧ Below w.heap.size w wr) (fun _ z _ => l.length - (intOf z).toNat)
    case atStart => exact ⟨0, v, rfl, Nat.zero_le _, hS2, hn, hR.out, hb2⟩
    case round =>
      obtain ⟨j, out, rfl, j0, hS, ho, hinv, hb⟩ := hrel
      have hs3 := hb.size
      obtain ⟨yo, yc, rfl, hyR, _, _⟩ := hS.read
      by_cases hj : j < l.length
      · obtain ⟨gb, go, rfl, hlg, hD⟩ := (h.below hb).gate hj
        obtain ⟨d0, d1, d2, d3⟩ := hD
        have hmore := Lib.hid (fun ha => runG_more hj hinv.out ha)
        have hfail := Lib.hid (fun ha => runG_fail hj hinv.out ha)
        obtain ⟨R, m, hRm⟩ : ∃ R m, applyG l[j] out = (R, m) := ⟨_, _, rfl⟩
        have hRl := applyG_len' (g := l[j]) ho
        have hA : ∀ (ao : Option Addr) (cap : Nat) (w : World), StR w ao out → Calls Try.prog 48 #[Gv l[j], .slice ao out.length cap] w fun e w' => ∃ x, e = .returned (.tuple #[x, .bool m]) ∧ OwnS w' w.heap.size x R ∧ Below w.heap.size w w' := fun ao cap w h => by
          have := iApplyGate l[j] ao out cap ho w h
          rwa [hRm] at this
        rw [hRm] at hRl
        have HRM := Lib.hid hRm
        clear hinv hRm h' h hS2 hS
        go_wp2_with fail
        refine (hA _ _ _ (hyR.below (by (repeat (first | with_reducible exact Below.refl _ _ | with_reducible assumption | with_reducible refine Below.setCell ?_ (by first | omega | (simp; done) | (simp; omega)) _ | with_reducible refine Below.alloc ?_ (by first | omega | (simp; done) | (simp; omega)) _ | with_reducible refine Below.drew ?_ | with_reducible refine belowDrewN ?_ _ | with_reducible refine Below.trans ?_ (Below.mono (by assumption) (by first | omega | (simp; done) | (simp; omega)))))))).mono ?_
        rintro e w4 ⟨x, rfl, hx, hb4⟩
        have hs4 := hb4.size
        rw [World.size_alloc] at hs4
        cases m
        · have hfin := Lib.hid (hfail.out (by rw [HRM.out]; simp))
          go_wp2
          go_ret2
          exact ⟨.slice none 0 0, by rw [hfin.out]; rfl, by rw [hfin.out]; exact OwnS.nil _ _, by (repeat (first | with_reducible exact Below.refl _ _ | with_reducible assumption | with_reducible refine Below.setCell ?_ (by first | omega | (simp; done) | (simp; omega)) _ | with_reducible refine Below.alloc ?_ (by first | omega | (simp; done) | (simp; omega)) _ | with_reducible refine Below.drew ?_ | with_reducible refine belowDrewN ?_ _ | with_reducible refine Below.trans ?_ (Below.mono (by assumption) (by first | omega | (simp; done) | (simp; omega)))))⟩
        · have hn' := hmore.out (by rw [HRM.out])
          rw [HRM.out] at hn'
          have HN := Lib.hid hn'
          have hx' : OwnS w4 w.heap.size x R := hx.mono (by simp; omega)
          clear hn' hmore hfail HRM hA hx
          go_wp2
          go_roundw
          case rel => exact ⟨j + 1, R, by go_num, by omega, hx', hRl, HN.out, by (repeat (first | with_reducible exact Below.refl _ _ | with_reducible assumption | with_reducible refine Below.setCell ?_ (by first | omega | (simp; done) | (simp; omega)) _ | with_reducible refine Below.alloc ?_ (by first | omega | (simp; done) | (simp; omega)) _ | with_reducible refine Below.drew ?_ | with_reducible refine belowDrewN ?_ _ | with_reducible refine Below.trans ?_ (Below.mono (by assumption) (by first | omega | (simp; done) | (simp; omega)))))⟩
          case measure => simp [intOf]; omega
      · have hfin := Lib.hid (runG_end hj hinv.out)
        go_wp2
        go_ret2
        exact ⟨_, by rw [hfin.out]; rfl, by rw [hfin.out]; exact hS, hb⟩
  · have hfin := Lib.hid (applyGs_no (l := l) hs)
    have hs' : okS v = false := by simpa using hs
    go_enter Try.func59, Try.ntmps59
    go_wp2_with fail
    refine (iIsValidState _ _ _ (by omega) _ h').mono ?_
    rintro e w1 ⟨rfl, hb1⟩
    rw [hs']
    go_wp2
    go_ret2
    exact ⟨.slice none 0 0, by rw [hfin.out]; rfl, by rw [hfin.out]; exact OwnS.nil _ _, by (repeat (first | with_reducible exact Below.refl _ _ | with_reducible assumption | with_reducible refine Below.setCell ?_ (by first | omega | (simp; done) | (simp; omega)) _ | with_reducible refine Below.alloc ?_ (by first | omega | (simp; done) | (simp; omega)) _ | with_reducible refine Below.drew ?_ | with_reducible refine belowDrewN ?_ _ | with_reducible refine Below.trans ?_ (Below.mono (by assumption) (by first | omega | (simp; done) | (simp; omega)))))⟩

set_option maxRecDepth 100000 in
set_option maxHeartbeats 4000000 in
theorem sL6Copy (bo : Option Addr) (v : List DO) (cv : Nat) (h0 : 0 < v.length) (hn : v.length ≤ 2000000) (w : World) (h' : StR w bo v) :
    Calls Try.prog 132 #[.slice bo v.length cv] w fun e w' => ∃ x, e = .returned x ∧ OwnS w' w.heap.size x v ∧ Below w.heap.size w w' := by
  obtain ⟨iD, hiD, hzD0, hzD1, hzD2⟩ := info_parts infoD
  obtain ⟨b, o, rfl, hlt⟩ := h'.some h0
  have hv1 : StR (w.alloc (.cells #[] TD)) (some ⟨b, o, none⟩) v := h'.below ((Below.refl _ _).alloc (Nat.le_refl _) _)
  have hown0 : OwnS (w.alloc (.cells #[] TD)) w.heap.size (.slice (some ⟨w.heap.size, 0, none⟩) 0 0) [] := OwnS.empty' rfl (Nat.le_refl _)
  go_enter Try.func132, Try.ntmps132
  go_wp2_with (first | (at_builtin; refine wpList_append2 _ rfl _ _ 56 rfl w.heap.size TD iD _ 5 40 Try.underlying56 hiD hzD0 hzD1 hzD2 rfl (by decide) _ 0 [] rfl hown0 ⟨b, o, none⟩ v.length cv h0 (cellsD v) rfl ?c0 (StR.news hv1) (cellsD_one v) ?c3 ?c4 ?c5 ?_))
  case c0 => exact cellsD_length v
  case c3 => unfold maxLen; omega
  case c4 => omega
  case c5 => simp
  intro v' w2 hown hgrow _
  have hS2 : OwnS w2 w.heap.size v' v := hown
  have hb2 : Below w.heap.size w w2 := ((Below.refl _ _).alloc (Nat.le_refl _) _).grown hgrow (by simp) fun k hk => (World.ownsRow.lt hown0 k hk).1
  clear hown hgrow hown0 hv1
  go_wp2
  go_ret
  exact ⟨_, rfl, hS2, hb2⟩

set_option maxRecDepth 100000 in
set_option maxHeartbeats 4000000 in
theorem sApplyGates (ao bo : Option Addr) (l : List GT) (v : List DO) (ca cv : Nat) (hl : l.length ≤ 2000000) (hn : v.length ≤ 2000000) (w : World) (h : RdG w ao l) (h' : StR w bo v) :
    Calls Try.prog 57 #[.slice ao l.length ca, .slice bo v.length cv] w fun e w' => ∃ x, e = .returned (.tuple #[x, .bool (applyGs l v).2]) ∧ OwnS w' w.heap.size x (applyGs l v).1 ∧ Below w.heap.size w w' := by
  obtain ⟨iD, hiD, hzD0, hzD1, hzD2⟩ := info_parts infoD
  by_cases hs : okS v = true
  · obtain ⟨b, o, rfl, hlt⟩ := h'.some (okS_pos hs)
    have hp := okS_pos hs
    have hR := Lib.hid (applyGs_yes (l := l) hs)
    go_enter Try.func57, Try.ntmps57
    go_wp2_with fail
    refine (sIsValidState _ _ _ (by omega) _ h').mono ?_
    rintro e w1 ⟨rfl, hb1⟩
    have hs1 := hb1.size
    rw [hs]
    go_wp2_with fail
    refine (sL6Copy _ _ _ hp hn _ (h'.below hb1)).mono ?_
    rintro e w2 ⟨v', rfl, hS2, hb2⟩
    have hS2 := hS2.mono hs1
    have hb2 : Below w.heap.size w w2 := hb1.trans (hb2.mono hs1)
    have hs2 := hb2.size
    clear hb1
    go_wp2
    go_loopw [6, 7] (fun y z wr => ∃ (j : Nat) (out : List DO), z = .int .i64 j ∧ j ≤ l.length ∧ OwnS wr w.heap.size y out ∧ out.length ≤ 2000000 ∧ Hid (runG (l.drop j) out = applyGs l v) ∧ Below w.heap.size w wr) (fun _ z _ => l.length - (intOf z).toNat)
    case atStart => exact ⟨0, v, rfl, Nat.zero_le _, hS2, hn, hR.out, hb2⟩
    case round =>
      obtain ⟨j, out, rfl, j0, hS, ho, hinv, hb⟩ := hrel
      have hs3 := hb.size
      obtain ⟨yo, yc, rfl, hyR, _, _⟩ := hS.read
      by_cases hj : j < l.length
      · obtain ⟨gb, go, rfl, hlg, hD⟩ := (h.below hb).gate hj
        obtain ⟨d0, d1, d2, d3⟩ := hD
        have hmore := Lib.hid (fun ha => runG_more hj hinv.out ha)
        have hfail := Lib.hid (fun ha => runG_fail hj hinv.out ha)
        obtain ⟨R, m, hRm⟩ : ∃ R m, applyG l[j] out = (R, m) := ⟨_, _, rfl⟩
        have hRl := applyG_len' (g := l[j]) ho
        have hA : ∀ (ao : Option Addr) (cap : Nat) (w : World), StR w ao out → Calls Try.prog 45 #[Gv l[j], .slice ao out.length cap] w fun e w' => ∃ x, e = .returned (.tuple #[x, .bool m]) ∧ OwnS w' w.heap.size x R ∧ Below w.heap.size w w' := fun ao cap w h => by
          have := sApplyGate l[j] ao out cap ho w h
          rwa [hRm] at this
        rw [hRm] at hRl
        have HRM := Lib.hid hRm
        clear hinv hRm h' h hS2 hS
        go_wp2_with fail
        refine (hA _ _ _ (hyR.below (by (repeat (first | with_reducible exact Below.refl _ _ | with_reducible assumption | with_reducible refine Below.setCell ?_ (by first | omega | (simp; done) | (simp; omega)) _ | with_reducible refine Below.alloc ?_ (by first | omega | (simp; done) | (simp; omega)) _ | with_reducible refine Below.drew ?_ | with_reducible refine belowDrewN ?_ _ | with_reducible refine Below.trans ?_ (Below.mono (by assumption) (by first | omega | (simp; done) | (simp; omega)))))))).mono ?_
        rintro e w4 ⟨x, rfl, hx, hb4⟩
        have hs4 := hb4.size
        cases m
        · have hfin := Lib.hid (hfail.out (by rw [HRM.out]; simp))
          go_wp2
          go_ret2
          exact ⟨.slice (some ⟨_, 0, none⟩) 0 0, by rw [hfin.out]; rfl, by rw [hfin.out]; exact OwnS.empty' (by first | rfl | simp) (by first | omega | (simp; done) | (simp; omega)), by (repeat (first | with_reducible exact Below.refl _ _ | with_reducible assumption | with_reducible refine Below.setCell ?_ (by first | omega | (simp; done) | (simp; omega)) _ | with_reducible refine Below.alloc ?_ (by first | omega | (simp; done) | (simp; omega)) _ | with_reducible refine Below.drew ?_ | with_reducible refine belowDrewN ?_ _ | with_reducible refine Below.trans ?_ (Below.mono (by assumption) (by first | omega | (simp; done) | (simp; omega)))))⟩
        · have hn' := hmore.out (by rw [HRM.out])
          rw [HRM.out] at hn'
          have HN := Lib.hid hn'
          have hx' : OwnS w4 w.heap.size x R := hx.mono (by omega)
          clear hn' hmore hfail HRM hA hx
          go_wp2
          go_roundw
          case rel => exact ⟨j + 1, R, by go_num, by omega, hx', hRl, HN.out, by (repeat (first | with_reducible exact Below.refl _ _ | with_reducible assumption | with_reducible refine Below.setCell ?_ (by first | omega | (simp; done) | (simp; omega)) _ | with_reducible refine Below.alloc ?_ (by first | omega | (simp; done) | (simp; omega)) _ | with_reducible refine Below.drew ?_ | with_reducible refine belowDrewN ?_ _ | with_reducible refine Below.trans ?_ (Below.mono (by assumption) (by first | omega | (simp; done) | (simp; omega)))))⟩
          case measure => simp [intOf]; omega
      · have hfin := Lib.hid (runG_end hj hinv.out)
        go_wp2
        go_ret2
        exact ⟨_, by rw [hfin.out]; rfl, by rw [hfin.out]; exact hS, hb⟩
  · have hfin := Lib.hid (applyGs_no (l := l) hs)
    have hs' : okS v = false := by simpa using hs
    go_enter Try.func57, Try.ntmps57
    go_wp2_with fail
    refine (sIsValidState _ _ _ (by omega) _ h').mono ?_
    rintro e w1 ⟨rfl, hb1⟩
    have hs1 := hb1.size
    rw [hs']
    go_wp2
    go_ret2
    exact ⟨.slice (some ⟨_, 0, none⟩) 0 0, by rw [hfin.out]; rfl, by rw [hfin.out]; exact OwnS.empty' (by first | rfl | simp) (by first | omega | (simp; done) | (simp; omega)), by (repeat (first | with_reducible exact Below.refl _ _ | with_reducible assumption | with_reducible refine Below.setCell ?_ (by first | omega | (simp; done) | (simp; omega)) _ | with_reducible refine Below.alloc ?_ (by first | omega | (simp; done) | (simp; omega)) _ | with_reducible refine Below.drew ?_ | with_reducible refine belowDrewN ?_ _ | with_reducible refine Below.trans ?_ (Below.mono (by assumption) (by first | omega | (simp; done) | (simp; omega)))))⟩

end Go.Proofs.Yteckhaafdojoeaa

/-! S37: The matrix of a gate (GateMatrix, both sides). -/
namespace Go.Proofs.Yteckhaafdojoeaa
open Go.RowKit BigFrame

theorem gateM_no {g : GT} {n : Int} (h : ¬ g.ok n = true) : gateM g n = ([], false) := if_neg h
theorem gateM_yes {g : GT} {n N : Nat} (h : g.ok n = true) (hN : 2 ^ n = N) : gateM g n = (flip (colsM (fun i : Nat => (applyG g (basis n i)).1) N), true) := by
  rw [gateM, if_pos h, colsM, ← hN]
  rfl
theorem wrap_pow : ∀ n, n < 5 → wrap64 (2 ^ n) = ((2 ^ n : Nat) : Int) := by decide +kernel
/-- A matrix of the call's own grows by a column. -/
theorem OwnM.push {w w1 w2 : World} {base : Nat} {v v' : Value} {F : Nat → List DO} {j : Nat} {x : Value} {ob : Obj} {vs : List Value} (hbase : base ≤ w.heap.size) (ho : w.ownsRow base TS 1 v j vs) (hr : ∀ i (h : i < (colsM F j).length), ∃ x, vs[i]? = some x ∧ OwnS w base x (colsM F j)[i])
    (hd : ∀ (i k : Nat) (x y : Value), i < k → vs[i]? = some x → vs[k]? = some y → ∀ a, x.ownBlock = some a → y.ownBlock ≠ some a) (hb : Below w.heap.size w w1) (hx : OwnS w1 w.heap.size x (F j))
    (h2 : w2.ownsRow base TS 1 v' (j + 1) (vs ++ [x])) (hg : (w1.alloc ob).grownBy w2 v.ownBlock) : OwnM w2 base v' (colsM F (j + 1)) := by
  rw [colsM_succ]
  exact OwnM.snoc hbase (by rw [colsM_length]; exact ho) hr hd hb hx (by rw [colsM_length]; exact h2) hg
theorem OwnM.parts {w : World} {base : Nat} {v : Value} {F : Nat → List DO} {j : Nat} (h : OwnM w base v (colsM F j)) : ∃ vs : List Value, w.ownsRow base TS 1 v j vs ∧ (∀ i (h : i < (colsM F j).length), ∃ x, vs[i]? = some x ∧ OwnS w base x (colsM F j)[i]) ∧
    ∀ (i k : Nat) (x y : Value), i < k → vs[i]? = some x → vs[k]? = some y → ∀ a, x.ownBlock = some a → y.ownBlock ≠ some a := by
  obtain ⟨vs, ho, hr, hd⟩ := h
  rw [colsM_length] at ho
  exact ⟨vs, ho, hr, hd⟩

set_option maxRecDepth 100000 in
set_option maxHeartbeats 8000000 in
theorem iGateMatrix (g : GT) (n : Int) (w : World) :
    Calls Try.prog 53 #[Gv g, .int .i64 n] w fun e w' => ∃ x, e = .returned (.tuple #[x, .bool (gateM g n).2]) ∧ OwnM w' w.heap.size x (gateM g n).1 ∧ Below w.heap.size w w' := by
  obtain ⟨iS, hiS, hzS0, hzS1, hzS2⟩ := info_parts infoS
  by_cases hg : g.ok n = true
  · have hp := (GT.parts hg).1
    obtain ⟨n, rfl⟩ := Int.eq_ofNat_of_zero_le (show 0 ≤ n by omega)
    have hn1 : 1 ≤ n := by omega
    have hn4 : n ≤ 4 := by omega
    obtain ⟨N, hN⟩ : ∃ N, 2 ^ n = N := ⟨_, rfl⟩
    have hN16 : N ≤ 16 := by rw [← hN]; exact Nat.pow_le_pow_right (by decide) hn4
    obtain ⟨F, hF⟩ : ∃ F : Nat → List DO, F = fun i : Nat => (applyG g (basis n i)).1 := ⟨_, rfl⟩
    have hok : ∀ i, i < N → (applyG g (basis n i)).2 = true := fun i hi => applyG_basis hn1 hn4 hg (by omega)
    have hFl : ∀ i, i < N → (F i).length = N := fun i hi => by
      rw [hF]
      show ((applyG g (basis n i)).1).length = N
      rw [applyG_len (hok i hi), basis_len hn1 hn4 (by omega), hN]
    have hfin := gateM_yes hg hN
    rw [← hF] at hfin
    have hA : ∀ (i : Nat) (ao : Option Addr) (cap : Nat) (w : World), i < N → StR w ao (basis n i) → Calls Try.prog 48 #[Gv g, .slice ao (basis n i).length cap] w fun e w' => ∃ x, e = .returned (.tuple #[x, .bool true]) ∧ OwnS w' w.heap.size x (F i) ∧ Below w.heap.size w w' := fun i ao cap w hi h => by
      have := iApplyGate g ao (basis n i) cap (by rw [basis_len hn1 hn4 (by omega)]; omega) w h
      rw [hok i hi] at this
      rw [hF]
      exact this
    have HFL := Lib.hid hFl
    have HFIN := Lib.hid hfin
    have hV : ∀ w, Calls Try.prog 117 #[Gv g, .int .i64 n] w fun e w' => e = .returned (.bool true) ∧ Below w.heap.size w w' := fun w => by
      have := iIsValidGate g n w
      rwa [hg] at this
    have hcols : (colsM F N).length ≤ 2000000 ∧ ∀ r ∈ colsM F N, (colsM F N).length ≤ r.length ∧ r.length ≤ 2000000 := by
      refine ⟨by rw [colsM_length]; omega, fun r hr => ?_⟩
      obtain ⟨i, hi, rfl⟩ := colsM_mem hr
      have := hFl i hi
      rw [colsM_length]; omega
    have HCOLS := Lib.hid hcols
    have hw := wrap_pow n (by omega)
    rw [hN] at hw
    clear hok hFl hF hfin hN hp hg hcols
    go_enter Try.func53, Try.ntmps53
    go_wp2_with (go_at_call 117; refine (hV _).mono ?_; rintro e w1 ⟨rfl, hb⟩; obtain ⟨hc, hf, hz⟩ := bcell hb; (try simp only [World.size_drew, World.cell?_drew, World.frozen?_drew] at hc hf hz); (try simp at hz); (try have kk := fun o => hc (w.heap.size) o (by first | omega | (simp; done) | (simp; omega))); (try have kf := fun o => hf (w.heap.size) o (by first | omega | (simp; done) | (simp; omega))); (try have zz : w.heap.size < w1.heap.size := by omega))
    refine wp_gen fun W hW => ?_
    have hB : Blk W w.heap.size [.int .i64 g.k, .int .i64 g.a, .int .i64 g.b, .int .i64 g.c] 59 := by rw [hW]; (repeat (first | with_reducible assumption | with_reducible exact Blk.new' _ _ (by first | omega | (simp; done) | (simp; omega)) | with_reducible apply Blk.set5 | with_reducible apply Blk.set4 | with_reducible refine Blk.other ?_ (by first | omega | (simp; done) | (simp; omega)) _ | with_reducible refine Blk.drew ?_ | with_reducible refine Blk.alloc ?_ _ | with_reducible refine Blk.below ?_ (by assumption) (by first | omega | (simp; done) | (simp; omega))))
    have hb0 : Below w.heap.size w W := by rw [hW]; (repeat (first | with_reducible exact Below.refl _ _ | with_reducible assumption | with_reducible refine Below.setCell ?_ (by first | omega | (simp; done) | (simp; omega)) _ | with_reducible refine Below.alloc ?_ (by first | omega | (simp; done) | (simp; omega)) _ | with_reducible refine Below.drew ?_ | with_reducible refine belowDrewN ?_ _ | with_reducible refine Below.trans ?_ (Below.mono (by assumption) (by first | omega | (simp; done) | (simp; omega)))))
    have hM0 : OwnM W (w.heap.size + 1) (.slice (some ⟨w1.heap.size, 0, none⟩) 0 0) (colsM F 0) := by rw [hW]; exact OwnM.empty' rfl (by omega)
    clear hW hb hc hf kk kf
    go_loopw [6, 7] (fun y z wr => ∃ j : Nat, z = .int .i64 j ∧ j ≤ N ∧ OwnM wr (w.heap.size + 1) y (colsM F j) ∧ Blk wr w.heap.size [.int .i64 g.k, .int .i64 g.a, .int .i64 g.b, .int .i64 g.c] 59 ∧ Below w.heap.size w wr) (fun _ z _ => N - (intOf z).toNat)
    case atStart => exact ⟨0, rfl, Nat.zero_le _, hM0, hB, hb0⟩
    case round =>
      obtain ⟨j, rfl, j0, hM, hB, hb0⟩ := hrel
      have hs0 := hb0.size
      have hlt := hB.lt
      obtain ⟨yo, yc, rfl, hyR, hyc1, hyc2⟩ := hM.read
      by_cases hj : j < N
      · obtain ⟨vs, ho, hrows, hdist⟩ := hM.parts
        obtain ⟨cB, fB, sB⟩ := hB.facts
        have hAj := Lib.hid (fun ao cap w h => hA j ao cap w hj h)
        clear hyR hM
        go_wp2
        go_region_held3 (fun w' => Below wr.heap.size wr w' ∧ (∀ b o, b < wr.heap.size → w'.cell? ⟨b, o, none⟩ = wr.cell? ⟨b, o, none⟩) ∧ (∀ b o, b < wr.heap.size → w'.frozen? ⟨b, o, none⟩ = wr.frozen? ⟨b, o, none⟩) ∧ wr.heap.size ≤ w'.heap.size) ((exact bpack (by (repeat (first | with_reducible exact Below.refl _ _ | with_reducible assumption | with_reducible refine Below.setCell ?_ (by first | omega | (simp; done) | (simp; omega)) _ | with_reducible refine Below.alloc ?_ (by first | omega | (simp; done) | (simp; omega)) _ | with_reducible refine Below.drew ?_ | with_reducible refine belowDrewN ?_ _ | with_reducible refine Below.trans ?_ (Below.mono (by assumption) (by first | omega | (simp; done) | (simp; omega)))))))) (first | (go_at_call 97; refine (iBasisState _ _ _).mono ?_; rintro e wa ⟨x, rfl, hx, hb⟩; obtain ⟨xo, xc, rfl, hxR, hxc1, hxc2⟩ := hx.read) | (go_at_call 48; refine (hAj.out _ _ _ (by first | exact hxR | exact hxR.below (by (repeat (first | with_reducible exact Below.refl _ _ | with_reducible assumption | with_reducible refine Below.setCell ?_ (by first | omega | (simp; done) | (simp; omega)) _ | with_reducible refine Below.alloc ?_ (by first | omega | (simp; done) | (simp; omega)) _ | with_reducible refine Below.drew ?_ | with_reducible refine belowDrewN ?_ _ | with_reducible refine Below.trans ?_ (Below.mono (by assumption) (by first | omega | (simp; done) | (simp; omega)))))))).mono ?_; rintro e wc ⟨y, rfl, hy, hb2⟩; obtain ⟨uo, uc, rfl, huR, huc1, huc2⟩ := hy.read))
        have hwc : Below wr.heap.size wr wc := And.left (by assumption)
        have hy2 := hy.mono (base' := wr.heap.size) (by have := hb.size; simp at this; omega)
        have ho1 := ownsRow_below ho hwc (Nat.le_refl _)
        have hs1 := hwc.size
        have hb8 : Below w.heap.size w wc := hb0.trans (hwc.mono hs0)
        have hB8 := hB.below hwc hlt
        have hFl := HFL.out j hj
        have HF := Lib.hid hFl
        clear hFl hx hxR hy huR hb hb2 cB fB sB hAj hB hb0
        rw [HF.out]
        go_wp2_with (first | (at_builtin; refine wpList_append_own _ rfl _ _ 26 rfl (w.heap.size + 1) TS iS _ 1 24 Try.underlying26 hiS hzS0 hzS1 hzS2 rfl (by decide) _ _ _ (by rw [colsM_length]; rfl) (World.ownsRow.alloc ho1 _) ⟨wc.heap.size, 0, none⟩ 1 1 [.slice uo N uc] rfl rfl ?c1 ?c2 ?c3 ?c4 ?c5 ?_))
        case c1 => exact at_new _ [Value.slice uo N uc] _
        case c2 => exact slice_one _ _ _
        case c3 => unfold maxLen; omega
        case c4 => omega
        case c5 => simp; omega
        intro v' w' hown' hgrow _
        have hM' : OwnM w' (w.heap.size + 1) v' (colsM F (j + 1)) := OwnM.push (by omega) ho hrows hdist hwc (by rw [← HF.out]; exact hy2) hown' hgrow
        have hbb : Below w.heap.size w w' := (hb8.alloc (by omega) _).grown hgrow (by simp; omega) fun g hg => by have := (World.ownsRow.lt ho1 g hg).1; omega
        have hBB : Blk w' w.heap.size [.int .i64 g.k, .int .i64 g.a, .int .i64 g.b, .int .i64 g.c] 59 := (hgrow.block _ (by simp; omega) (fun e => by have := (World.ownsRow.lt ho1 _ e.symm).1; omega)).trans (hB8.alloc _)
        clear hown' hgrow ho ho1 hrows hdist
        go_wp2
        go_roundw
        case rel => exact ⟨j + 1, by go_num, by omega, hM', hBB, hbb⟩
        case measure => simp [intOf]; omega
      · have hjn : j = N := by omega
        subst hjn
        go_wp2_with fail
        refine (iFlipped _ (colsM F j) _ HCOLS.out.1 HCOLS.out.2 _ hyR).mono ?_
        rintro e w7 ⟨x, rfl, hx, hb7⟩
        have hx2 := hx.mono hs0
        rw [show flip (colsM F j) = (gateM g n).1 by rw [HFIN.out]] at hx2
        go_wp2
        go_ret2
        exact ⟨_, by rw [HFIN.out]; rfl, hx2, by (repeat (first | with_reducible exact Below.refl _ _ | with_reducible assumption | with_reducible refine Below.setCell ?_ (by first | omega | (simp; done) | (simp; omega)) _ | with_reducible refine Below.alloc ?_ (by first | omega | (simp; done) | (simp; omega)) _ | with_reducible refine Below.drew ?_ | with_reducible refine belowDrewN ?_ _ | with_reducible refine Below.trans ?_ (Below.mono (by assumption) (by first | omega | (simp; done) | (simp; omega)))))⟩
  · have hfin := Lib.hid (gateM_no hg)
    have hV : ∀ w, Calls Try.prog 117 #[Gv g, .int .i64 n] w fun e w' => e = .returned (.bool false) ∧ Below w.heap.size w w' := fun w => by
      have := iIsValidGate g n w
      have hg' : g.ok n = false := by simpa using hg
      rwa [hg'] at this
    go_enter Try.func53, Try.ntmps53
    go_wp2_with (go_at_call 117; refine (hV _).mono ?_; rintro e w1 ⟨rfl, hb⟩; obtain ⟨hc, hf, hz⟩ := bcell hb; (try simp only [World.size_drew, World.cell?_drew, World.frozen?_drew] at hc hf hz); (try simp at hz); (try have kk := fun o => hc (w.heap.size) o (by first | omega | (simp; done) | (simp; omega))); (try have kf := fun o => hf (w.heap.size) o (by first | omega | (simp; done) | (simp; omega))); (try have zz : w.heap.size < w1.heap.size := by omega))
    go_ret2
    exact ⟨.slice none 0 0, by rw [hfin.out]; rfl, by rw [hfin.out]; exact OwnM.nil _ _, by (repeat (first | with_reducible exact Below.refl _ _ | with_reducible assumption | with_reducible refine Below.setCell ?_ (by first | omega | (simp; done) | (simp; omega)) _ | with_reducible refine Below.alloc ?_ (by first | omega | (simp; done) | (simp; omega)) _ | with_reducible refine Below.drew ?_ | with_reducible refine belowDrewN ?_ _ | with_reducible refine Below.trans ?_ (Below.mono (by assumption) (by first | omega | (simp; done) | (simp; omega)))))⟩

set_option maxRecDepth 100000 in
set_option maxHeartbeats 8000000 in
theorem sGateMatrix (g : GT) (n : Int) (w : World) :
    Calls Try.prog 52 #[Gv g, .int .i64 n] w fun e w' => ∃ x, e = .returned (.tuple #[x, .bool (gateM g n).2]) ∧ OwnM w' w.heap.size x (gateM g n).1 ∧ Below w.heap.size w w' := by
  obtain ⟨iS, hiS, hzS0, hzS1, hzS2⟩ := info_parts infoS
  by_cases hg : g.ok n = true
  · have hp := (GT.parts hg).1
    obtain ⟨n, rfl⟩ := Int.eq_ofNat_of_zero_le (show 0 ≤ n by omega)
    have hn1 : 1 ≤ n := by omega
    have hn4 : n ≤ 4 := by omega
    obtain ⟨N, hN⟩ : ∃ N, 2 ^ n = N := ⟨_, rfl⟩
    have hN16 : N ≤ 16 := by rw [← hN]; exact Nat.pow_le_pow_right (by decide) hn4
    obtain ⟨F, hF⟩ : ∃ F : Nat → List DO, F = fun i : Nat => (applyG g (basis n i)).1 := ⟨_, rfl⟩
    have hok : ∀ i, i < N → (applyG g (basis n i)).2 = true := fun i hi => applyG_basis hn1 hn4 hg (by omega)
    have hFl : ∀ i, i < N → (F i).length = N := fun i hi => by
      rw [hF]
      show ((applyG g (basis n i)).1).length = N
      rw [applyG_len (hok i hi), basis_len hn1 hn4 (by omega), hN]
    have hfin := gateM_yes hg hN
    rw [← hF] at hfin
    have hA : ∀ (i : Nat) (ao : Option Addr) (cap : Nat) (w : World), i < N → StR w ao (basis n i) → Calls Try.prog 45 #[Gv g, .slice ao (basis n i).length cap] w fun e w' => ∃ x, e = .returned (.tuple #[x, .bool true]) ∧ OwnS w' w.heap.size x (F i) ∧ Below w.heap.size w w' := fun i ao cap w hi h => by
      have := sApplyGate g ao (basis n i) cap (by rw [basis_len hn1 hn4 (by omega)]; omega) w h
      rw [hok i hi] at this
      rw [hF]
      exact this
    have HFL := Lib.hid hFl
    have HFIN := Lib.hid hfin
    have hV : ∀ w, Calls Try.prog 118 #[Gv g, .int .i64 n] w fun e w' => e = .returned (.bool true) ∧ Below w.heap.size w w' := fun w => by
      have := sIsValidGate g n w
      rwa [hg] at this
    have hcols : (colsM F N).length ≤ 2000000 ∧ ∀ r ∈ colsM F N, (colsM F N).length ≤ r.length ∧ r.length ≤ 2000000 := by
      refine ⟨by rw [colsM_length]; omega, fun r hr => ?_⟩
      obtain ⟨i, hi, rfl⟩ := colsM_mem hr
      have := hFl i hi
      rw [colsM_length]; omega
    have HCOLS := Lib.hid hcols
    have hw := wrap_pow n (by omega)
    rw [hN] at hw
    clear hok hFl hF hfin hN hp hg hcols
    go_enter Try.func52, Try.ntmps52
    go_wp2_with (go_at_call 118; refine (hV _).mono ?_; rintro e w1 ⟨rfl, hb⟩; obtain ⟨hc, hf, hz⟩ := bcell hb; (try simp only [World.size_drew, World.cell?_drew, World.frozen?_drew] at hc hf hz); (try simp at hz); (try have kk := fun o => hc (w.heap.size) o (by first | omega | (simp; done) | (simp; omega))); (try have kf := fun o => hf (w.heap.size) o (by first | omega | (simp; done) | (simp; omega))); (try have zz : w.heap.size < w1.heap.size := by omega))
    refine wp_gen fun W hW => ?_
    have hB : Blk W w.heap.size [.int .i64 g.k, .int .i64 g.a, .int .i64 g.b, .int .i64 g.c] 59 := by rw [hW]; (repeat (first | with_reducible assumption | with_reducible exact Blk.new' _ _ (by first | omega | (simp; done) | (simp; omega)) | with_reducible apply Blk.set5 | with_reducible apply Blk.set4 | with_reducible refine Blk.other ?_ (by first | omega | (simp; done) | (simp; omega)) _ | with_reducible refine Blk.drew ?_ | with_reducible refine Blk.alloc ?_ _ | with_reducible refine Blk.below ?_ (by assumption) (by first | omega | (simp; done) | (simp; omega))))
    have hb0 : Below w.heap.size w W := by rw [hW]; (repeat (first | with_reducible exact Below.refl _ _ | with_reducible assumption | with_reducible refine Below.setCell ?_ (by first | omega | (simp; done) | (simp; omega)) _ | with_reducible refine Below.alloc ?_ (by first | omega | (simp; done) | (simp; omega)) _ | with_reducible refine Below.drew ?_ | with_reducible refine belowDrewN ?_ _ | with_reducible refine Below.trans ?_ (Below.mono (by assumption) (by first | omega | (simp; done) | (simp; omega)))))
    have hM0 : OwnM W (w.heap.size + 1) (.slice (some ⟨w1.heap.size, 0, none⟩) 0 0) (colsM F 0) := by rw [hW]; exact OwnM.empty' rfl (by omega)
    clear hW hb hc hf kk kf
    go_loopw [6, 7] (fun y z wr => ∃ j : Nat, z = .int .i64 j ∧ j ≤ N ∧ OwnM wr (w.heap.size + 1) y (colsM F j) ∧ Blk wr w.heap.size [.int .i64 g.k, .int .i64 g.a, .int .i64 g.b, .int .i64 g.c] 59 ∧ Below w.heap.size w wr) (fun _ z _ => N - (intOf z).toNat)
    case atStart => exact ⟨0, rfl, Nat.zero_le _, hM0, hB, hb0⟩
    case round =>
      obtain ⟨j, rfl, j0, hM, hB, hb0⟩ := hrel
      have hs0 := hb0.size
      have hlt := hB.lt
      obtain ⟨yo, yc, rfl, hyR, hyc1, hyc2⟩ := hM.read
      by_cases hj : j < N
      · obtain ⟨vs, ho, hrows, hdist⟩ := hM.parts
        obtain ⟨cB, fB, sB⟩ := hB.facts
        have hAj := Lib.hid (fun ao cap w h => hA j ao cap w hj h)
        clear hyR hM
        go_wp2
        go_region_held3 (fun w' => Below wr.heap.size wr w' ∧ (∀ b o, b < wr.heap.size → w'.cell? ⟨b, o, none⟩ = wr.cell? ⟨b, o, none⟩) ∧ (∀ b o, b < wr.heap.size → w'.frozen? ⟨b, o, none⟩ = wr.frozen? ⟨b, o, none⟩) ∧ wr.heap.size ≤ w'.heap.size) ((exact bpack (by (repeat (first | with_reducible exact Below.refl _ _ | with_reducible assumption | with_reducible refine Below.setCell ?_ (by first | omega | (simp; done) | (simp; omega)) _ | with_reducible refine Below.alloc ?_ (by first | omega | (simp; done) | (simp; omega)) _ | with_reducible refine Below.drew ?_ | with_reducible refine belowDrewN ?_ _ | with_reducible refine Below.trans ?_ (Below.mono (by assumption) (by first | omega | (simp; done) | (simp; omega)))))))) (first | (go_at_call 74; refine (sBasisState _ _ _).mono ?_; rintro e wa ⟨x, rfl, hx, hb⟩; obtain ⟨xo, xc, rfl, hxR, hxc1, hxc2⟩ := hx.read) | (go_at_call 45; refine (hAj.out _ _ _ (by first | exact hxR | exact hxR.below (by (repeat (first | with_reducible exact Below.refl _ _ | with_reducible assumption | with_reducible refine Below.setCell ?_ (by first | omega | (simp; done) | (simp; omega)) _ | with_reducible refine Below.alloc ?_ (by first | omega | (simp; done) | (simp; omega)) _ | with_reducible refine Below.drew ?_ | with_reducible refine belowDrewN ?_ _ | with_reducible refine Below.trans ?_ (Below.mono (by assumption) (by first | omega | (simp; done) | (simp; omega)))))))).mono ?_; rintro e wc ⟨y, rfl, hy, hb2⟩; obtain ⟨uo, uc, rfl, huR, huc1, huc2⟩ := hy.read))
        have hwc : Below wr.heap.size wr wc := And.left (by assumption)
        have hy2 := hy.mono (base' := wr.heap.size) (by have := hb.size; simp at this; omega)
        have ho1 := ownsRow_below ho hwc (Nat.le_refl _)
        have hs1 := hwc.size
        have hb8 : Below w.heap.size w wc := hb0.trans (hwc.mono hs0)
        have hB8 := hB.below hwc hlt
        have hFl := HFL.out j hj
        have HF := Lib.hid hFl
        clear hFl hx hxR hy huR hb hb2 cB fB sB hAj hB hb0
        rw [HF.out]
        go_wp2_with (first | (at_builtin; refine wpList_append_own _ rfl _ _ 26 rfl (w.heap.size + 1) TS iS _ 1 24 Try.underlying26 hiS hzS0 hzS1 hzS2 rfl (by decide) _ _ _ (by rw [colsM_length]; rfl) (World.ownsRow.alloc ho1 _) ⟨wc.heap.size, 0, none⟩ 1 1 [.slice uo N uc] rfl rfl ?c1 ?c2 ?c3 ?c4 ?c5 ?_))
        case c1 => exact at_new _ [Value.slice uo N uc] _
        case c2 => exact slice_one _ _ _
        case c3 => unfold maxLen; omega
        case c4 => omega
        case c5 => simp; omega
        intro v' w' hown' hgrow _
        have hM' : OwnM w' (w.heap.size + 1) v' (colsM F (j + 1)) := OwnM.push (by omega) ho hrows hdist hwc (by rw [← HF.out]; exact hy2) hown' hgrow
        have hbb : Below w.heap.size w w' := (hb8.alloc (by omega) _).grown hgrow (by simp; omega) fun g hg => by have := (World.ownsRow.lt ho1 g hg).1; omega
        have hBB : Blk w' w.heap.size [.int .i64 g.k, .int .i64 g.a, .int .i64 g.b, .int .i64 g.c] 59 := (hgrow.block _ (by simp; omega) (fun e => by have := (World.ownsRow.lt ho1 _ e.symm).1; omega)).trans (hB8.alloc _)
        clear hown' hgrow ho ho1 hrows hdist
        go_wp2
        go_roundw
        case rel => exact ⟨j + 1, by go_num, by omega, hM', hBB, hbb⟩
        case measure => simp [intOf]; omega
      · have hjn : j = N := by omega
        subst hjn
        go_wp2_with fail
        refine (sColumns _ (colsM F j) _ HCOLS.out.1 HCOLS.out.2 _ hyR).mono ?_
        rintro e w7 ⟨x, rfl, hx, hb7⟩
        have hx2 := hx.mono hs0
        rw [show flip (colsM F j) = (gateM g n).1 by rw [HFIN.out]] at hx2
        go_wp2
        go_ret2
        exact ⟨_, by rw [HFIN.out]; rfl, hx2, by (repeat (first | with_reducible exact Below.refl _ _ | with_reducible assumption | with_reducible refine Below.setCell ?_ (by first | omega | (simp; done) | (simp; omega)) _ | with_reducible refine Below.alloc ?_ (by first | omega | (simp; done) | (simp; omega)) _ | with_reducible refine Below.drew ?_ | with_reducible refine belowDrewN ?_ _ | with_reducible refine Below.trans ?_ (Below.mono (by assumption) (by first | omega | (simp; done) | (simp; omega)))))⟩
  · have hfin := Lib.hid (gateM_no hg)
    have hV : ∀ w, Calls Try.prog 118 #[Gv g, .int .i64 n] w fun e w' => e = .returned (.bool false) ∧ Below w.heap.size w w' := fun w => by
      have := sIsValidGate g n w
      have hg' : g.ok n = false := by simpa using hg
      rwa [hg'] at this
    go_enter Try.func52, Try.ntmps52
    go_wp2_with (go_at_call 118; refine (hV _).mono ?_; rintro e w1 ⟨rfl, hb⟩; obtain ⟨hc, hf, hz⟩ := bcell hb; (try simp only [World.size_drew, World.cell?_drew, World.frozen?_drew] at hc hf hz); (try simp at hz); (try have kk := fun o => hc (w.heap.size) o (by first | omega | (simp; done) | (simp; omega))); (try have kf := fun o => hf (w.heap.size) o (by first | omega | (simp; done) | (simp; omega))); (try have zz : w.heap.size < w1.heap.size := by omega))
    go_ret2
    exact ⟨.slice (some ⟨_, 0, none⟩) 0 0, by rw [hfin.out]; rfl, by rw [hfin.out]; exact OwnM.empty' (by first | rfl | simp) (by first | omega | (simp; done) | (simp; omega)), by (repeat (first | with_reducible exact Below.refl _ _ | with_reducible assumption | with_reducible refine Below.setCell ?_ (by first | omega | (simp; done) | (simp; omega)) _ | with_reducible refine Below.alloc ?_ (by first | omega | (simp; done) | (simp; omega)) _ | with_reducible refine Below.drew ?_ | with_reducible refine belowDrewN ?_ _ | with_reducible refine Below.trans ?_ (Below.mono (by assumption) (by first | omega | (simp; done) | (simp; omega)))))⟩

end Go.Proofs.Yteckhaafdojoeaa

/-! S38: Circuits: valid ones (IsValidCircuit, both sides). -/
namespace Go.Proofs.Yteckhaafdojoeaa
open Go.RowKit BigFrame

abbrev Cv (n : Int) (ao : Option Addr) (len cap : Nat) : Value := .agg #[.int .i64 n, .slice ao len cap]

set_option maxRecDepth 100000 in
set_option maxHeartbeats 8000000 in
theorem iIsValidCircuit (n : Int) (ao : Option Addr) (l : List GT) (cap : Nat) (hn : l.length ≤ 2000000) (w : World) (h : RdG w ao l) :
    Calls Try.prog 37 #[Cv n ao l.length cap] w fun e w' => e = .returned (.bool (okC n l)) ∧ Below w.heap.size w w' := by
  by_cases h1 : inR 1 4 n = true
  · by_cases h2 : l.length ≤ 60
    · have hd : decide (60 < l.length) = false := by simpa using h2
      go_enter Try.func37, Try.ntmps37
      go_wp2_with (go_at_call 116; refine (iIn _ _ _ _).mono ?_; rintro e w1 ⟨rfl, rfl⟩)
      have hB0 : Blk (w.alloc (.cells #[.int .i64 n, .slice ao l.length cap] 35)) w.heap.size [.int .i64 n, .slice ao l.length cap] 35 := Blk.new' _ _ rfl
      go_loopw [18] (fun z wr => ∃ j : Nat, z = .int .i64 j ∧ j ≤ l.length ∧ Hid (∀ i (hi : i < l.length), i < j → l[i].ok n = true) ∧ Blk wr w.heap.size [.int .i64 n, .slice ao l.length cap] 35 ∧ Below w.heap.size w wr) (fun z _ => l.length - (intOf z).toNat)
      case atStart => exact ⟨0, rfl, Nat.zero_le _, fun _ _ h => absurd h (Nat.not_lt_zero _), hB0, by (repeat (first | with_reducible exact Below.refl _ _ | with_reducible assumption | with_reducible refine Below.setCell ?_ (by first | omega | (simp; done) | (simp; omega)) _ | with_reducible refine Below.alloc ?_ (by first | omega | (simp; done) | (simp; omega)) _ | with_reducible refine Below.drew ?_ | with_reducible refine belowDrewN ?_ _ | with_reducible refine Below.trans ?_ (Below.mono (by assumption) (by first | omega | (simp; done) | (simp; omega)))))⟩
      case round =>
        obtain ⟨j, rfl, j0, hinv, hB, hb0⟩ := hrel
        have hs0 := hb0.size
        have hlt := hB.lt
        obtain ⟨cB, fB, sB⟩ := hB.facts
        by_cases hj : j < l.length
        · obtain ⟨gb, go, rfl, hlg, hD⟩ := (h.below hb0).gate hj
          obtain ⟨d0, d1, d2, d3⟩ := hD
          by_cases hx : l[j].ok n = true
          · have hst := Lib.hid (gates_step hinv.out hx)
            have hV : ∀ w, Calls Try.prog 117 #[Gv l[j], .int .i64 n] w fun e w' => e = .returned (.bool true) ∧ Below w.heap.size w w' := fun w => by
              have := iIsValidGate l[j] n w
              rwa [hx] at this
            clear hinv hx h
            go_wp2_with (go_at_call 117; refine (hV _).mono ?_; rintro e w1 ⟨rfl, hb⟩; obtain ⟨hc, hf, hz⟩ := bcell hb; (try simp only [World.size_drew, World.cell?_drew, World.frozen?_drew] at hc hf hz); (try simp at hz); (try have kk := fun o => hc (w.heap.size) o (by first | omega | (simp; done) | (simp; omega))); (try have kf := fun o => hf (w.heap.size) o (by first | omega | (simp; done) | (simp; omega))); (try have zz : w.heap.size < w1.heap.size := by omega))
            go_roundw
            case rel => exact ⟨j + 1, by go_num, by omega, hst.out, by (repeat (first | with_reducible assumption | with_reducible exact Blk.new' _ _ (by first | omega | (simp; done) | (simp; omega)) | with_reducible apply Blk.set5 | with_reducible apply Blk.set4 | with_reducible refine Blk.other ?_ (by first | omega | (simp; done) | (simp; omega)) _ | with_reducible refine Blk.drew ?_ | with_reducible refine Blk.alloc ?_ _ | with_reducible refine Blk.below ?_ (by assumption) (by first | omega | (simp; done) | (simp; omega)))), by (repeat (first | with_reducible exact Below.refl _ _ | with_reducible assumption | with_reducible refine Below.setCell ?_ (by first | omega | (simp; done) | (simp; omega)) _ | with_reducible refine Below.alloc ?_ (by first | omega | (simp; done) | (simp; omega)) _ | with_reducible refine Below.drew ?_ | with_reducible refine belowDrewN ?_ _ | with_reducible refine Below.trans ?_ (Below.mono (by assumption) (by first | omega | (simp; done) | (simp; omega)))))⟩
            case measure => simp [intOf]; omega
          · have hfin := Lib.hid (okC_no3 hj hx)
            have hV : ∀ w, Calls Try.prog 117 #[Gv l[j], .int .i64 n] w fun e w' => e = .returned (.bool false) ∧ Below w.heap.size w w' := fun w => by
              have := iIsValidGate l[j] n w
              have hx' : l[j].ok n = false := by simpa using hx
              rwa [hx'] at this
            clear hinv hx h
            go_wp2_with (go_at_call 117; refine (hV _).mono ?_; rintro e w1 ⟨rfl, hb⟩; obtain ⟨hc, hf, hz⟩ := bcell hb; (try simp only [World.size_drew, World.cell?_drew, World.frozen?_drew] at hc hf hz); (try simp at hz); (try have kk := fun o => hc (w.heap.size) o (by first | omega | (simp; done) | (simp; omega))); (try have kf := fun o => hf (w.heap.size) o (by first | omega | (simp; done) | (simp; omega))); (try have zz : w.heap.size < w1.heap.size := by omega))
            go_ret
            exact ⟨by rw [hfin.out]; rfl, by (repeat (first | with_reducible exact Below.refl _ _ | with_reducible assumption | with_reducible refine Below.setCell ?_ (by first | omega | (simp; done) | (simp; omega)) _ | with_reducible refine Below.alloc ?_ (by first | omega | (simp; done) | (simp; omega)) _ | with_reducible refine Below.drew ?_ | with_reducible refine belowDrewN ?_ _ | with_reducible refine Below.trans ?_ (Below.mono (by assumption) (by first | omega | (simp; done) | (simp; omega)))))⟩
        · have hfin := Lib.hid (okC_yes h1 h2 (fun i hi => hinv.out i hi (by omega)))
          go_wp2
          go_ret
          exact ⟨by rw [hfin.out]; rfl, hb0⟩
    · have hd : decide (60 < l.length) = true := by simp; omega
      have hfin := Lib.hid (okC_no2 (n := n) h2)
      go_enter Try.func37, Try.ntmps37
      go_wp2_with (go_at_call 116; refine (iIn _ _ _ _).mono ?_; rintro e w1 ⟨rfl, rfl⟩)
      all_goals go_ret
      all_goals exact ⟨by rw [hfin.out]; rfl, by (repeat (first | with_reducible exact Below.refl _ _ | with_reducible assumption | with_reducible refine Below.setCell ?_ (by first | omega | (simp; done) | (simp; omega)) _ | with_reducible refine Below.alloc ?_ (by first | omega | (simp; done) | (simp; omega)) _ | with_reducible refine Below.drew ?_ | with_reducible refine belowDrewN ?_ _ | with_reducible refine Below.trans ?_ (Below.mono (by assumption) (by first | omega | (simp; done) | (simp; omega)))))⟩
  · have hfin := Lib.hid (okC_no1 (l := l) h1)
    have h1' : inR 1 4 n = false := by simpa using h1
    clear h1
    go_enter Try.func37, Try.ntmps37
    go_wp2_with (go_at_call 116; refine (iIn _ _ _ _).mono ?_; rintro e w1 ⟨rfl, rfl⟩)
    all_goals go_ret
    all_goals exact ⟨by rw [hfin.out]; rfl, by (repeat (first | with_reducible exact Below.refl _ _ | with_reducible assumption | with_reducible refine Below.setCell ?_ (by first | omega | (simp; done) | (simp; omega)) _ | with_reducible refine Below.alloc ?_ (by first | omega | (simp; done) | (simp; omega)) _ | with_reducible refine Below.drew ?_ | with_reducible refine belowDrewN ?_ _ | with_reducible refine Below.trans ?_ (Below.mono (by assumption) (by first | omega | (simp; done) | (simp; omega)))))⟩

set_option maxRecDepth 100000 in
set_option maxHeartbeats 8000000 in
theorem sIsValidCircuit (n : Int) (ao : Option Addr) (l : List GT) (cap : Nat) (hn : l.length ≤ 2000000) (w : World) (h : RdG w ao l) :
    Calls Try.prog 38 #[Cv n ao l.length cap] w fun e w' => e = .returned (.bool (okC n l)) ∧ Below w.heap.size w w' := by
  go_enter Try.func38, Try.ntmps38
  go_wp2
  have hB0 : Blk (w.alloc (.cells #[.int .i64 n, .slice ao l.length cap] 35)) w.heap.size [.int .i64 n, .slice ao l.length cap] 35 := Blk.new' _ _ rfl
  go_loopw [3] (fun z wr => ∃ j : Nat, z = .int .i64 j ∧ j ≤ l.length ∧ Hid (∀ i (hi : i < l.length), i < j → l[i].ok n = true) ∧ Blk wr w.heap.size [.int .i64 n, .slice ao l.length cap] 35 ∧ Below w.heap.size w wr) (fun z _ => l.length - (intOf z).toNat)
  case atStart => exact ⟨0, rfl, Nat.zero_le _, fun _ _ h => absurd h (Nat.not_lt_zero _), hB0, by (repeat (first | with_reducible exact Below.refl _ _ | with_reducible assumption | with_reducible refine Below.setCell ?_ (by first | omega | (simp; done) | (simp; omega)) _ | with_reducible refine Below.alloc ?_ (by first | omega | (simp; done) | (simp; omega)) _ | with_reducible refine Below.drew ?_ | with_reducible refine belowDrewN ?_ _ | with_reducible refine Below.trans ?_ (Below.mono (by assumption) (by first | omega | (simp; done) | (simp; omega)))))⟩
  case round =>
    obtain ⟨j, rfl, j0, hinv, hB, hb0⟩ := hrel
    have hs0 := hb0.size
    have hlt := hB.lt
    obtain ⟨cB, fB, sB⟩ := hB.facts
    by_cases hj : j < l.length
    · obtain ⟨gb, go, rfl, hlg, hD⟩ := (h.below hb0).gate hj
      obtain ⟨d0, d1, d2, d3⟩ := hD
      by_cases hx : l[j].ok n = true
      · have hst := Lib.hid (gates_step hinv.out hx)
        have hV : ∀ w, Calls Try.prog 118 #[Gv l[j], .int .i64 n] w fun e w' => e = .returned (.bool true) ∧ Below w.heap.size w w' := fun w => by
          have := sIsValidGate l[j] n w
          rwa [hx] at this
        clear hinv hx h
        go_wp2
        go_region_held3 (fun w' => Below wr.heap.size wr w' ∧ (∀ b o, b < wr.heap.size → w'.cell? ⟨b, o, none⟩ = wr.cell? ⟨b, o, none⟩) ∧ (∀ b o, b < wr.heap.size → w'.frozen? ⟨b, o, none⟩ = wr.frozen? ⟨b, o, none⟩) ∧ wr.heap.size ≤ w'.heap.size) ((exact bpack (by (repeat (first | with_reducible exact Below.refl _ _ | with_reducible assumption | with_reducible refine Below.setCell ?_ (by first | omega | (simp; done) | (simp; omega)) _ | with_reducible refine Below.alloc ?_ (by first | omega | (simp; done) | (simp; omega)) _ | with_reducible refine Below.drew ?_ | with_reducible refine belowDrewN ?_ _ | with_reducible refine Below.trans ?_ (Below.mono (by assumption) (by first | omega | (simp; done) | (simp; omega)))))))) (first | (go_at_call 118; refine (hV _).mono ?_; rintro e w1 ⟨rfl, hb⟩; obtain ⟨hc, hf, hz⟩ := bcell hb; (try simp only [World.size_drew, World.cell?_drew, World.frozen?_drew] at hc hf hz); (try simp at hz); (try have kk := fun o => hc (w.heap.size) o (by first | omega | (simp; done) | (simp; omega))); (try have kf := fun o => hf (w.heap.size) o (by first | omega | (simp; done) | (simp; omega))); (try have zz : w.heap.size < w1.heap.size := by omega)))
        all_goals go_wp2
        all_goals go_roundw
        all_goals first
          | exact ⟨j + 1, by go_num, by omega, hst.out, by (repeat (first | with_reducible assumption | with_reducible exact Blk.new' _ _ (by first | omega | (simp; done) | (simp; omega)) | with_reducible apply Blk.set5 | with_reducible apply Blk.set4 | with_reducible refine Blk.other ?_ (by first | omega | (simp; done) | (simp; omega)) _ | with_reducible refine Blk.drew ?_ | with_reducible refine Blk.alloc ?_ _ | with_reducible refine Blk.below ?_ (by assumption) (by first | omega | (simp; done) | (simp; omega)))), by (repeat (first | with_reducible exact Below.refl _ _ | with_reducible assumption | with_reducible refine Below.setCell ?_ (by first | omega | (simp; done) | (simp; omega)) _ | with_reducible refine Below.alloc ?_ (by first | omega | (simp; done) | (simp; omega)) _ | with_reducible refine Below.drew ?_ | with_reducible refine belowDrewN ?_ _ | with_reducible refine Below.trans ?_ (Below.mono (by assumption) (by first | omega | (simp; done) | (simp; omega)))))⟩
          | (simp [intOf]; omega)
      · have hfin := Lib.hid (okC_no3 hj hx)
        have hV : ∀ w, Calls Try.prog 118 #[Gv l[j], .int .i64 n] w fun e w' => e = .returned (.bool false) ∧ Below w.heap.size w w' := fun w => by
          have := sIsValidGate l[j] n w
          have hx' : l[j].ok n = false := by simpa using hx
          rwa [hx'] at this
        clear hinv hx h
        go_wp2
        go_region_held3 (fun w' => Below wr.heap.size wr w' ∧ (∀ b o, b < wr.heap.size → w'.cell? ⟨b, o, none⟩ = wr.cell? ⟨b, o, none⟩) ∧ (∀ b o, b < wr.heap.size → w'.frozen? ⟨b, o, none⟩ = wr.frozen? ⟨b, o, none⟩) ∧ wr.heap.size ≤ w'.heap.size) ((exact bpack (by (repeat (first | with_reducible exact Below.refl _ _ | with_reducible assumption | with_reducible refine Below.setCell ?_ (by first | omega | (simp; done) | (simp; omega)) _ | with_reducible refine Below.alloc ?_ (by first | omega | (simp; done) | (simp; omega)) _ | with_reducible refine Below.drew ?_ | with_reducible refine belowDrewN ?_ _ | with_reducible refine Below.trans ?_ (Below.mono (by assumption) (by first | omega | (simp; done) | (simp; omega)))))))) (first | (go_at_call 118; refine (hV _).mono ?_; rintro e w1 ⟨rfl, hb⟩; obtain ⟨hc, hf, hz⟩ := bcell hb; (try simp only [World.size_drew, World.cell?_drew, World.frozen?_drew] at hc hf hz); (try simp at hz); (try have kk := fun o => hc (w.heap.size) o (by first | omega | (simp; done) | (simp; omega))); (try have kf := fun o => hf (w.heap.size) o (by first | omega | (simp; done) | (simp; omega))); (try have zz : w.heap.size < w1.heap.size := by omega)))
        all_goals go_wp2
        all_goals go_ret
        all_goals exact ⟨by rw [hfin.out]; rfl, by (repeat (first | with_reducible exact Below.refl _ _ | with_reducible assumption | with_reducible refine Below.setCell ?_ (by first | omega | (simp; done) | (simp; omega)) _ | with_reducible refine Below.alloc ?_ (by first | omega | (simp; done) | (simp; omega)) _ | with_reducible refine Below.drew ?_ | with_reducible refine belowDrewN ?_ _ | with_reducible refine Below.trans ?_ (Below.mono (by assumption) (by first | omega | (simp; done) | (simp; omega)))))⟩
    · by_cases h1 : inR 1 4 n = true
      · by_cases h2 : l.length ≤ 60
        · have hfin := Lib.hid (okC_yes h1 h2 (fun i hi => hinv.out i hi (by omega)))
          have hd : decide ((l.length : Int) ≤ 60) = true := by simp; omega
          have hd2 : decide (l.length ≤ 60) = true := by simpa using h2
          go_wp2_with (go_at_call 102; refine (sIn _ _ _ _).mono ?_; rintro e w1 ⟨rfl, rfl⟩)
          all_goals go_ret
          all_goals exact ⟨by rw [hfin.out]; rfl, hb0⟩
        · have hfin := Lib.hid (okC_no2 (n := n) h2)
          have hd : decide ((l.length : Int) ≤ 60) = false := by simp; omega
          have hd2 : decide (l.length ≤ 60) = false := by simpa using h2
          go_wp2_with (go_at_call 102; refine (sIn _ _ _ _).mono ?_; rintro e w1 ⟨rfl, rfl⟩)
          all_goals go_ret
          all_goals exact ⟨by rw [hfin.out]; rfl, hb0⟩
      · have hfin := Lib.hid (okC_no1 (l := l) h1)
        have h1' : inR 1 4 n = false := by simpa using h1
        clear h1
        go_wp2_with (go_at_call 102; refine (sIn _ _ _ _).mono ?_; rintro e w1 ⟨rfl, rfl⟩)
        all_goals go_ret
        all_goals exact ⟨by rw [hfin.out]; rfl, hb0⟩

end Go.Proofs.Yteckhaafdojoeaa

/-! L9: The laws' helpers on circuits: size, copy, comparison, marks. -/
namespace Go.Proofs.Yteckhaafdojoeaa
open Go.RowKit BigFrame

set_option maxHeartbeats 4000000 in
theorem lSzC (n : Int) (ao : Option Addr) (len cap : Nat) (hn : len ≤ 9223372036854775807) (w : World) :
    Calls Try.prog 78 #[Cv n ao len cap, .int .i64 1048576] w fun e w' => e = .returned (.int .i64 (if (1048576 : Int) - len < 0 then -1 else 1048576 - len)) ∧ Below w.heap.size w w' := by
  by_cases h : (1048576 : Int) - (len : Int) < 0
  · rw [if_pos h]
    go_enter Try.func78, Try.ntmps78
    go_wp2_with fail
    refine (lSzGs _ _ _ _ (by decide) (by decide) hn _).mono ?_
    rintro e _ ⟨rfl, rfl⟩
    rw [if_pos (by omega)]
    go_wp2
    go_ret
    exact ⟨rfl, by (repeat (first | with_reducible exact Below.refl _ _ | with_reducible assumption | with_reducible refine Below.setCell ?_ (by first | omega | (simp; done) | (simp; omega)) _ | with_reducible refine Below.alloc ?_ (by first | omega | (simp; done) | (simp; omega)) _ | with_reducible refine Below.drew ?_ | with_reducible refine belowDrewN ?_ _ | with_reducible refine Below.trans ?_ (Below.mono (by assumption) (by first | omega | (simp; done) | (simp; omega)))))⟩
  · rw [if_neg h]
    go_enter Try.func78, Try.ntmps78
    go_wp2_with fail
    refine (lSzGs _ _ _ _ (by decide) (by decide) hn _).mono ?_
    rintro e _ ⟨rfl, rfl⟩
    rw [if_neg (by omega)]
    go_wp2
    go_ret
    exact ⟨rfl, by (repeat (first | with_reducible exact Below.refl _ _ | with_reducible assumption | with_reducible refine Below.setCell ?_ (by first | omega | (simp; done) | (simp; omega)) _ | with_reducible refine Below.alloc ?_ (by first | omega | (simp; done) | (simp; omega)) _ | with_reducible refine Below.drew ?_ | with_reducible refine belowDrewN ?_ _ | with_reducible refine Below.trans ?_ (Below.mono (by assumption) (by first | omega | (simp; done) | (simp; omega)))))⟩

set_option maxRecDepth 100000 in
set_option maxHeartbeats 4000000 in
theorem lToC (n : Int) (ao : Option Addr) (l : List GT) (cap : Nat) (hn : l.length ≤ 2000000) (w : World) (h : RdG w ao l) :
    Calls Try.prog 80 #[Cv n ao l.length cap] w fun e w' => ∃ xo xc, e = .returned (Cv n xo l.length xc) ∧ OwnG w' w.heap.size (.slice xo l.length xc) l ∧ Below w.heap.size w w' := by
  go_enter Try.func80, Try.ntmps80
  go_wp2_with fail
  refine calls_gen fun W hW => ?_
  have hB1 : Blk W (w.heap.size + 1) [.int .i64 0, .slice none 0 0] 35 := by rw [hW]; (repeat (first | with_reducible assumption | with_reducible exact Blk.new' _ _ (by first | omega | (simp; done) | (simp; omega)) | with_reducible apply Blk.set5 | with_reducible apply Blk.set4 | with_reducible refine Blk.other ?_ (by first | omega | (simp; done) | (simp; omega)) _ | with_reducible refine Blk.drew ?_ | with_reducible refine Blk.alloc ?_ _ | with_reducible refine Blk.below ?_ (by assumption) (by first | omega | (simp; done) | (simp; omega))))
  have hB2 : Blk W (w.heap.size + 1 + 1) [.int .i64 n, .slice none 0 0] 35 := by rw [hW]; (repeat (first | with_reducible assumption | with_reducible exact Blk.new' _ _ (by first | omega | (simp; done) | (simp; omega)) | with_reducible apply Blk.set5 | with_reducible apply Blk.set4 | with_reducible refine Blk.other ?_ (by first | omega | (simp; done) | (simp; omega)) _ | with_reducible refine Blk.drew ?_ | with_reducible refine Blk.alloc ?_ _ | with_reducible refine Blk.below ?_ (by assumption) (by first | omega | (simp; done) | (simp; omega))))
  have hb0 : Below w.heap.size w W := by rw [hW]; (repeat (first | with_reducible exact Below.refl _ _ | with_reducible assumption | with_reducible refine Below.setCell ?_ (by first | omega | (simp; done) | (simp; omega)) _ | with_reducible refine Below.alloc ?_ (by first | omega | (simp; done) | (simp; omega)) _ | with_reducible refine Below.drew ?_ | with_reducible refine belowDrewN ?_ _ | with_reducible refine Below.trans ?_ (Below.mono (by assumption) (by first | omega | (simp; done) | (simp; omega)))))
  have hs0 : w.heap.size + 1 + 1 + 1 ≤ W.heap.size := by rw [hW]; simp
  clear hW
  refine (lToGs _ l _ hn _ (h.below hb0)).mono ?_
  rintro e w1 ⟨x, rfl, hx, hb1⟩
  obtain ⟨xo, xc, rfl, _, _, _⟩ := hx.read gcells_len
  have hC1 := hB1.below hb1 (by omega)
  have hC2 := hB2.below hb1 (by omega)
  have hs1 := hb1.size
  obtain ⟨cC1, fC1, sC1⟩ := hC1.facts
  obtain ⟨cC2, fC2, sC2⟩ := hC2.facts
  have hb01 : Below w.heap.size w w1 := hb0.trans (hb1.mono (by omega))
  have hx2 : ∀ w', (∀ g, W.heap.size ≤ g → g < w1.heap.size → w'.heap[g]? = w1.heap[g]?) → OwnG w' w.heap.size (.slice xo l.length xc) l := fun w' hf => (hx.frame hf).mono (by omega)
  clear hx h hB1 hB2 hC1 hC2
  go_wp2
  exact bodyPost_ret (v := Cv n xo l.length xc) (by simp [results, Try.results80, go_sem, *]) rfl
    ⟨xo, xc, rfl, hx2 _ (fun g h1 h2 => by rw [Below.heap_setCell _ _ _ _ (by simp; omega), Below.heap_setCell _ _ _ _ (by simp; omega), Below.heap_setCell _ _ _ _ (by simp; omega)]), by (repeat (first | with_reducible exact Below.refl _ _ | with_reducible assumption | with_reducible refine Below.setCell ?_ (by first | omega | (simp; done) | (simp; omega)) _ | with_reducible refine Below.alloc ?_ (by first | omega | (simp; done) | (simp; omega)) _ | with_reducible refine Below.drew ?_ | with_reducible refine belowDrewN ?_ _ | with_reducible refine Below.trans ?_ (Below.mono (by assumption) (by first | omega | (simp; done) | (simp; omega)))))⟩

set_option maxHeartbeats 4000000 in
theorem lEqC (n : Int) (ao bo : Option Addr) (l : List GT) (ca cb : Nat) (hn : l.length ≤ 2000000) (w : World) (h : RdG w ao l) (h' : RdG w bo l) :
    Calls Try.prog 81 #[Cv n ao l.length ca, Cv n bo l.length cb] w fun e w' => e = .returned (.bool true) ∧ Below w.heap.size w w' := by
  have hne : (n != n) = false := by simp
  go_enter Try.func81, Try.ntmps81
  go_wp2_with fail
  refine (lEqGs _ _ l _ _ hn _ (h.below (by (repeat (first | with_reducible exact Below.refl _ _ | with_reducible assumption | with_reducible refine Below.setCell ?_ (by first | omega | (simp; done) | (simp; omega)) _ | with_reducible refine Below.alloc ?_ (by first | omega | (simp; done) | (simp; omega)) _ | with_reducible refine Below.drew ?_ | with_reducible refine belowDrewN ?_ _ | with_reducible refine Below.trans ?_ (Below.mono (by assumption) (by first | omega | (simp; done) | (simp; omega))))))) (h'.below (by (repeat (first | with_reducible exact Below.refl _ _ | with_reducible assumption | with_reducible refine Below.setCell ?_ (by first | omega | (simp; done) | (simp; omega)) _ | with_reducible refine Below.alloc ?_ (by first | omega | (simp; done) | (simp; omega)) _ | with_reducible refine Below.drew ?_ | with_reducible refine belowDrewN ?_ _ | with_reducible refine Below.trans ?_ (Below.mono (by assumption) (by first | omega | (simp; done) | (simp; omega)))))))).mono ?_
  rintro e w1 ⟨rfl, hb1⟩
  go_wp2
  go_ret
  exact ⟨rfl, by (repeat (first | with_reducible exact Below.refl _ _ | with_reducible assumption | with_reducible refine Below.setCell ?_ (by first | omega | (simp; done) | (simp; omega)) _ | with_reducible refine Below.alloc ?_ (by first | omega | (simp; done) | (simp; omega)) _ | with_reducible refine Below.drew ?_ | with_reducible refine belowDrewN ?_ _ | with_reducible refine Below.trans ?_ (Below.mono (by assumption) (by first | omega | (simp; done) | (simp; omega)))))⟩

set_option maxHeartbeats 4000000 in
theorem lMarkC (base : Nat) (n : Int) (ao : Option Addr) (l : List GT) (cap k : Nat) (hk : k ≤ 1000000000000) (hn : l.length ≤ 2000000) (w : World) (hS : OwnG w base (.slice ao l.length cap) l) :
    Calls Try.prog 82 #[Cv n ao l.length cap, .int .i64 k] w fun e w' => e = .returned (.int .i64 (k + 4 * l.length : Nat)) ∧ w.grownBy w' (Value.slice ao l.length cap).ownBlock := by
  go_enter Try.func82, Try.ntmps82
  go_wp2_with fail
  refine (lMarkGs base _ l k hk hn _ (hS.alloc _)).mono ?_
  rintro e w1 ⟨rfl, hg⟩
  obtain ⟨q0, hq0⟩ : ∃ q0 : Nat, q0 = k + 4 * l.length := ⟨_, rfl⟩
  have HQ := Lib.hid hq0
  rw [← hq0]
  clear hq0
  have hg2 := grown_trans (World.grownBy_alloc w (.cells #[.int .i64 n, .slice ao l.length cap] 35) _) hg
  clear hg
  go_wp2
  go_ret
  exact ⟨by rw [HQ.out]; rfl, hg2⟩

end Go.Proofs.Yteckhaafdojoeaa

/-! S39: The matrix of a circuit (l11Mat, CircuitMatrix, both sides). -/
namespace Go.Proofs.Yteckhaafdojoeaa
open Go.RowKit BigFrame

theorem applyGs_len {l : List GT} {v : List DO} (h : (applyGs l v).2 = true) : (applyGs l v).1.length = v.length := by
  obtain ⟨h1, h2⟩ := applyGs_parts h
  rw [h2] at h ⊢
  exact runG_len l v h
theorem oks_step {f : Nat → Bool} {j : Nat} (h : ∀ i, i < j → f i = true) (hj : f j = true) : ∀ i, i < j + 1 → f i = true := fun i hi => by
  by_cases e : i = j
  · subst e; exact hj
  · exact h i (by omega)

set_option maxRecDepth 100000 in
set_option maxHeartbeats 8000000 in
theorem sL11Mat (n : Nat) (hn1 : 1 ≤ n) (hn4 : n ≤ 4) (ao : Option Addr) (l : List GT) (cap : Nat) (hl : l.length ≤ 2000000) (w : World) (h : RdG w ao l) :
    Calls Try.prog 147 #[.slice ao l.length cap, .int .i64 n] w fun e w' => ∃ x, e = .returned (.tuple #[x, .bool (matG n l).2]) ∧ OwnM w' w.heap.size x (matG n l).1 ∧ Below w.heap.size w w' := by
  obtain ⟨iS, hiS, hzS0, hzS1, hzS2⟩ := info_parts infoS
  obtain ⟨N, hN⟩ : ∃ N, 2 ^ n = N := ⟨_, rfl⟩
  have hN16 : N ≤ 16 := by rw [← hN]; exact two_le16 hn4
  obtain ⟨F, hF⟩ : ∃ F : Nat → List DO, F = fun i : Nat => (applyGs l (basis n i)).1 := ⟨_, rfl⟩
  obtain ⟨ok, hok⟩ : ∃ ok : Nat → Bool, ok = fun i : Nat => (applyGs l (basis n i)).2 := ⟨_, rfl⟩
  have hFl : ∀ i, i < N → ok i = true → (F i).length = N := fun i hi ho => by
    rw [hok] at ho
    rw [hF]
    show ((applyGs l (basis n i)).1).length = N
    rw [applyGs_len ho, basis_len hn1 hn4 (by omega), hN]
  have hFl2 : ∀ i, i < N → (F i).length ≤ 2000000 := fun i hi => by
    rw [hF]
    exact applyGs_len' (by rw [basis_len hn1 hn4 (by omega)]; omega)
  have hcols : (∀ i, i < N → ok i = true) → (colsM F N).length ≤ 2000000 ∧ ∀ r ∈ colsM F N, (colsM F N).length ≤ r.length ∧ r.length ≤ 2000000 := fun hall => by
    refine ⟨by rw [colsM_length]; omega, fun r hr => ?_⟩
    obtain ⟨i, hi, rfl⟩ := colsM_mem hr
    have := hFl i hi (hall i hi)
    rw [colsM_length]; omega
  have hyes : (∀ i, i < N → ok i = true) → matG n l = (flip (colsM F N), true) := fun hall => by
    rw [hF]
    exact matG_yes hN (fun i hi => by have := hall i hi; rwa [hok] at this)
  have hno : ∀ i, i < N → ok i = false → matG n l = ([], false) := fun i hi hoi => matG_no hN hi (by rw [hok] at hoi; simpa using hoi)
  have hA : ∀ (i : Nat) (ao bo : Option Addr) (ca cb : Nat) (w : World), i < N → RdG w ao l → StR w bo (basis n i) → Calls Try.prog 57 #[.slice ao l.length ca, .slice bo (basis n i).length cb] w fun e w' => ∃ x, e = .returned (.tuple #[x, .bool (ok i)]) ∧ OwnS w' w.heap.size x (F i) ∧ Below w.heap.size w w' := fun i ao bo ca cb w hi h1 h2 => by
    have := sApplyGates ao bo l (basis n i) ca cb hl (by rw [basis_len hn1 hn4 (by omega)]; omega) w h1 h2
    rw [hF, hok]
    exact this
  have HYES := Lib.hid hyes
  have HNO := Lib.hid hno
  have HCOLS := Lib.hid hcols
  have HFL := Lib.hid hFl
  have HA := Lib.hid hA
  have hw := wrap_pow n (by omega)
  rw [hN] at hw
  clear hok hFl hFl2 hF hN hcols hyes hno hA
  go_enter Try.func147, Try.ntmps147
  go_wp2
  have hM0 : OwnM (w.alloc (.cells #[] TS)) w.heap.size (.slice (some ⟨w.heap.size, 0, none⟩) 0 0) (colsM F 0) := OwnM.empty' rfl (Nat.le_refl _)
  go_loopw [6, 7] (fun y z wr => ∃ j : Nat, z = .int .i64 j ∧ j ≤ N ∧ OwnM wr w.heap.size y (colsM F j) ∧ Hid (∀ i, i < j → ok i = true) ∧ Below w.heap.size w wr) (fun _ z _ => N - (intOf z).toNat)
  case atStart => exact ⟨0, rfl, Nat.zero_le _, hM0, fun _ h => absurd h (Nat.not_lt_zero _), by (repeat (first | with_reducible exact Below.refl _ _ | with_reducible assumption | with_reducible refine Below.setCell ?_ (by first | omega | (simp; done) | (simp; omega)) _ | with_reducible refine Below.alloc ?_ (by first | omega | (simp; done) | (simp; omega)) _ | with_reducible refine Below.drew ?_ | with_reducible refine belowDrewN ?_ _ | with_reducible refine Below.trans ?_ (Below.mono (by assumption) (by first | omega | (simp; done) | (simp; omega)))))⟩
  case round =>
    obtain ⟨j, rfl, j0, hM, hall, hb0⟩ := hrel
    have hs0 := hb0.size
    obtain ⟨yo, yc, rfl, hyR, hyc1, hyc2⟩ := hM.read
    by_cases hj : j < N
    · obtain ⟨vs, ho, hrows, hdist⟩ := hM.parts
      clear hyR hM
      go_wp2_with fail
      refine (sBasisState _ _ _).mono ?_
      rintro e wa ⟨x, rfl, hx, hba⟩
      have hsa := hba.size
      obtain ⟨xo, xc, rfl, hxR, _, _⟩ := hx.read
      go_wp2_with fail
      refine (HA.out j _ _ _ _ _ hj (h.below (hb0.trans (hba.mono hs0))) hxR).mono ?_
      rintro e wc ⟨y, rfl, hy, hbc⟩
      have hsc := hbc.size
      obtain ⟨uo, uc, rfl, _, _, _⟩ := hy.read
      have hwc : Below wr.heap.size wr wc := hba.trans (hbc.mono hsa)
      have hy2 := hy.mono (base' := wr.heap.size) hsa
      have ho1 := ownsRow_below ho hwc (Nat.le_refl _)
      have hb8 : Below w.heap.size w wc := hb0.trans (hwc.mono hs0)
      clear hx hxR hy hba hbc hb0 h
      rcases hoj : ok j with _ | _
      · have hfin := Lib.hid (HNO.out j hj hoj)
        clear hoj
        go_wp2
        go_ret2
        exact ⟨.slice (some ⟨_, 0, none⟩) 0 0, by rw [hfin.out]; rfl, by rw [hfin.out]; exact OwnM.empty' (by first | rfl | simp) (by first | omega | (simp; done) | (simp; omega)), by (repeat (first | with_reducible exact Below.refl _ _ | with_reducible assumption | with_reducible refine Below.setCell ?_ (by first | omega | (simp; done) | (simp; omega)) _ | with_reducible refine Below.alloc ?_ (by first | omega | (simp; done) | (simp; omega)) _ | with_reducible refine Below.drew ?_ | with_reducible refine belowDrewN ?_ _ | with_reducible refine Below.trans ?_ (Below.mono (by assumption) (by first | omega | (simp; done) | (simp; omega)))))⟩
      · have hall2 := Lib.hid (oks_step hall.out hoj)
        have hFl := HFL.out j hj hoj
        have HF := Lib.hid hFl
        clear hFl hoj
        rw [HF.out]
        go_wp2_with (first | (at_builtin; refine wpList_append_own _ rfl _ _ 26 rfl w.heap.size TS iS _ 1 24 Try.underlying26 hiS hzS0 hzS1 hzS2 rfl (by decide) _ _ _ (by rw [colsM_length]; rfl) (World.ownsRow.alloc ho1 _) ⟨wc.heap.size, 0, none⟩ 1 1 [.slice uo N uc] rfl rfl ?c1 ?c2 ?c3 ?c4 ?c5 ?_))
        case c1 => exact at_new _ [Value.slice uo N uc] _
        case c2 => exact slice_one _ _ _
        case c3 => unfold maxLen; omega
        case c4 => omega
        case c5 => simp; omega
        intro v' w' hown' hgrow _
        have hM' : OwnM w' w.heap.size v' (colsM F (j + 1)) := OwnM.push (by omega) ho hrows hdist hwc (by rw [← HF.out]; exact hy2) hown' hgrow
        have hbb : Below w.heap.size w w' := (hb8.alloc (by omega) _).grown hgrow (by simp; omega) fun g hg => by have := (World.ownsRow.lt ho1 g hg).1; omega
        clear hown' hgrow ho ho1 hrows hdist
        go_wp2
        go_roundw
        case rel => exact ⟨j + 1, by go_num, by omega, hM', hall2.out, hbb⟩
        case measure => simp [intOf]; omega
    · have hjn : j = N := by omega
      subst hjn
      have HC := Lib.hid (HCOLS.out hall.out)
      have hfin := Lib.hid (HYES.out hall.out)
      go_wp2_with fail
      refine (sColumns _ (colsM F j) _ HC.out.1 HC.out.2 _ hyR).mono ?_
      rintro e w7 ⟨x, rfl, hx, hb7⟩
      have hx2 := hx.mono hs0
      rw [show flip (colsM F j) = (matG n l).1 by rw [hfin.out]] at hx2
      go_wp2
      go_ret2
      exact ⟨_, by rw [hfin.out]; rfl, hx2, by (repeat (first | with_reducible exact Below.refl _ _ | with_reducible assumption | with_reducible refine Below.setCell ?_ (by first | omega | (simp; done) | (simp; omega)) _ | with_reducible refine Below.alloc ?_ (by first | omega | (simp; done) | (simp; omega)) _ | with_reducible refine Below.drew ?_ | with_reducible refine belowDrewN ?_ _ | with_reducible refine Below.trans ?_ (Below.mono (by assumption) (by first | omega | (simp; done) | (simp; omega)))))⟩

set_option maxRecDepth 100000 in
set_option maxHeartbeats 8000000 in
theorem sCircuitMatrix (n : Int) (ao : Option Addr) (l : List GT) (cap : Nat) (hl : l.length ≤ 2000000) (w : World) (h : RdG w ao l) :
    Calls Try.prog 79 #[Cv n ao l.length cap] w fun e w' => ∃ x, e = .returned (.tuple #[x, .bool (circM n l).2]) ∧ OwnM w' w.heap.size x (circM n l).1 ∧ Below w.heap.size w w' := by
  by_cases hc : okC n l = true
  · have h14 := (inR_iff _ _ _).1 ((okC_iff n l).1 hc).1
    obtain ⟨n, rfl⟩ := Int.eq_ofNat_of_zero_le (show 0 ≤ n by omega)
    have hfin := Lib.hid (circM_yes hc)
    have hV : ∀ w, RdG w ao l → Calls Try.prog 38 #[Cv n ao l.length cap] w fun e w' => e = .returned (.bool true) ∧ Below w.heap.size w w' := fun w h => by
      have := sIsValidCircuit n ao l cap hl w h
      rwa [hc] at this
    have HM := Lib.hid (fun ao w h => sL11Mat n (by omega) (by omega) ao l cap hl w h)
    clear hc h14
    go_enter Try.func79, Try.ntmps79
    go_wp2_with fail
    refine (hV _ (h.below (by (repeat (first | with_reducible exact Below.refl _ _ | with_reducible assumption | with_reducible refine Below.setCell ?_ (by first | omega | (simp; done) | (simp; omega)) _ | with_reducible refine Below.alloc ?_ (by first | omega | (simp; done) | (simp; omega)) _ | with_reducible refine Below.drew ?_ | with_reducible refine belowDrewN ?_ _ | with_reducible refine Below.trans ?_ (Below.mono (by assumption) (by first | omega | (simp; done) | (simp; omega)))))))).mono ?_
    rintro e w1 ⟨rfl, hb1⟩
    have hB1 : Blk w1 w.heap.size [.int .i64 n, .slice ao l.length cap] 35 := (Blk.new' [.int .i64 n, .slice ao l.length cap] _ rfl).below hb1 (by simp)
    have hb01 : Below w.heap.size w w1 := by (repeat (first | with_reducible exact Below.refl _ _ | with_reducible assumption | with_reducible refine Below.setCell ?_ (by first | omega | (simp; done) | (simp; omega)) _ | with_reducible refine Below.alloc ?_ (by first | omega | (simp; done) | (simp; omega)) _ | with_reducible refine Below.drew ?_ | with_reducible refine belowDrewN ?_ _ | with_reducible refine Below.trans ?_ (Below.mono (by assumption) (by first | omega | (simp; done) | (simp; omega)))))
    have hs1 := hb01.size
    clear hb1
    obtain ⟨cB, fB, sB⟩ := hB1.facts
    go_wp2_with fail
    refine (HM.out _ _ (h.below hb01)).mono ?_
    rintro e w2 ⟨x, rfl, hx, hb2⟩
    have hx2 := hx.mono hs1
    have hb02 : Below w.heap.size w w2 := hb01.trans (hb2.mono hs1)
    go_wp2
    go_ret2
    exact ⟨_, by rw [hfin.out]; rfl, by rw [hfin.out]; exact hx2, hb02⟩
  · have hfin := Lib.hid (circM_no hc)
    have hV : ∀ w, RdG w ao l → Calls Try.prog 38 #[Cv n ao l.length cap] w fun e w' => e = .returned (.bool false) ∧ Below w.heap.size w w' := fun w h => by
      have := sIsValidCircuit n ao l cap hl w h
      have hc' : okC n l = false := by simpa using hc
      rwa [hc'] at this
    clear hc
    go_enter Try.func79, Try.ntmps79
    go_wp2_with fail
    refine (hV _ (h.below (by (repeat (first | with_reducible exact Below.refl _ _ | with_reducible assumption | with_reducible refine Below.setCell ?_ (by first | omega | (simp; done) | (simp; omega)) _ | with_reducible refine Below.alloc ?_ (by first | omega | (simp; done) | (simp; omega)) _ | with_reducible refine Below.drew ?_ | with_reducible refine belowDrewN ?_ _ | with_reducible refine Below.trans ?_ (Below.mono (by assumption) (by first | omega | (simp; done) | (simp; omega)))))))).mono ?_
    rintro e w1 ⟨rfl, hb1⟩
    have hb01 : Below w.heap.size w w1 := by (repeat (first | with_reducible exact Below.refl _ _ | with_reducible assumption | with_reducible refine Below.setCell ?_ (by first | omega | (simp; done) | (simp; omega)) _ | with_reducible refine Below.alloc ?_ (by first | omega | (simp; done) | (simp; omega)) _ | with_reducible refine Below.drew ?_ | with_reducible refine belowDrewN ?_ _ | with_reducible refine Below.trans ?_ (Below.mono (by assumption) (by first | omega | (simp; done) | (simp; omega)))))
    have hs1 := hb01.size
    go_wp2
    go_ret2
    exact ⟨.slice (some ⟨_, 0, none⟩) 0 0, by rw [hfin.out]; rfl, by rw [hfin.out]; exact OwnM.empty' (by first | rfl | simp) (by first | omega | (simp; done) | (simp; omega)), by (repeat (first | with_reducible exact Below.refl _ _ | with_reducible assumption | with_reducible refine Below.setCell ?_ (by first | omega | (simp; done) | (simp; omega)) _ | with_reducible refine Below.alloc ?_ (by first | omega | (simp; done) | (simp; omega)) _ | with_reducible refine Below.drew ?_ | with_reducible refine belowDrewN ?_ _ | with_reducible refine Below.trans ?_ (Below.mono (by assumption) (by first | omega | (simp; done) | (simp; omega)))))⟩

set_option maxRecDepth 100000 in
set_option maxHeartbeats 8000000 in
theorem iCircuitOk (n : Nat) (hn1 : 1 ≤ n) (hn4 : n ≤ 4) (ao : Option Addr) (l : List GT) (cap : Nat) (hl : l.length ≤ 2000000) (hc : okC n l = true) (w : World) (h : RdG w ao l) :
    Calls Try.prog 31 #[Cv n ao l.length cap] w fun e w' => ∃ x, e = .returned (.tuple #[x, .bool (matG n l).2]) ∧ OwnM w' w.heap.size x (matG n l).1 ∧ Below w.heap.size w w' := by
  obtain ⟨iS, hiS, hzS0, hzS1, hzS2⟩ := info_parts infoS
  obtain ⟨N, hN⟩ : ∃ N, 2 ^ n = N := ⟨_, rfl⟩
  have hN16 : N ≤ 16 := by rw [← hN]; exact two_le16 hn4
  obtain ⟨F, hF⟩ : ∃ F : Nat → List DO, F = fun i : Nat => (applyGs l (basis n i)).1 := ⟨_, rfl⟩
  obtain ⟨ok, hok⟩ : ∃ ok : Nat → Bool, ok = fun i : Nat => (applyGs l (basis n i)).2 := ⟨_, rfl⟩
  have hFl : ∀ i, i < N → ok i = true → (F i).length = N := fun i hi ho => by
    rw [hok] at ho
    rw [hF]
    show ((applyGs l (basis n i)).1).length = N
    rw [applyGs_len ho, basis_len hn1 hn4 (by omega), hN]
  have hFl2 : ∀ i, i < N → (F i).length ≤ 2000000 := fun i hi => by
    rw [hF]
    exact applyGs_len' (by rw [basis_len hn1 hn4 (by omega)]; omega)
  have hcols : (∀ i, i < N → ok i = true) → (colsM F N).length ≤ 2000000 ∧ ∀ r ∈ colsM F N, (colsM F N).length ≤ r.length ∧ r.length ≤ 2000000 := fun hall => by
    refine ⟨by rw [colsM_length]; omega, fun r hr => ?_⟩
    obtain ⟨i, hi, rfl⟩ := colsM_mem hr
    have := hFl i hi (hall i hi)
    rw [colsM_length]; omega
  have hyes : (∀ i, i < N → ok i = true) → matG n l = (flip (colsM F N), true) := fun hall => by
    rw [hF]
    exact matG_yes hN (fun i hi => by have := hall i hi; rwa [hok] at this)
  have hno : ∀ i, i < N → ok i = false → matG n l = ([], false) := fun i hi hoi => matG_no hN hi (by rw [hok] at hoi; simpa using hoi)
  have hA : ∀ (i : Nat) (ao bo : Option Addr) (ca cb : Nat) (w : World), i < N → RdG w ao l → StR w bo (basis n i) → Calls Try.prog 59 #[.slice ao l.length ca, .slice bo (basis n i).length cb] w fun e w' => ∃ x, e = .returned (.tuple #[x, .bool (ok i)]) ∧ OwnS w' w.heap.size x (F i) ∧ Below w.heap.size w w' := fun i ao bo ca cb w hi h1 h2 => by
    have := iApplyGates ao bo l (basis n i) ca cb hl (by rw [basis_len hn1 hn4 (by omega)]; omega) w h1 h2
    rw [hF, hok]
    exact this
  have HYES := Lib.hid hyes
  have HNO := Lib.hid hno
  have HCOLS := Lib.hid hcols
  have HFL := Lib.hid hFl
  have HA := Lib.hid hA
  have hw := wrap_pow n (by omega)
  rw [hN] at hw
  clear hok hFl hFl2 hF hN hcols hyes hno hA
  have hV : ∀ w, RdG w ao l → Calls Try.prog 37 #[Cv n ao l.length cap] w fun e w' => e = .returned (.bool true) ∧ Below w.heap.size w w' := fun w h => by
    have := iIsValidCircuit n ao l cap hl w h
    rwa [hc] at this
  clear hc
  go_enter Try.func31, Try.ntmps31
  go_wp2_with fail
  refine (hV _ (h.below (by (repeat (first | with_reducible exact Below.refl _ _ | with_reducible assumption | with_reducible refine Below.setCell ?_ (by first | omega | (simp; done) | (simp; omega)) _ | with_reducible refine Below.alloc ?_ (by first | omega | (simp; done) | (simp; omega)) _ | with_reducible refine Below.drew ?_ | with_reducible refine belowDrewN ?_ _ | with_reducible refine Below.trans ?_ (Below.mono (by assumption) (by first | omega | (simp; done) | (simp; omega)))))))).mono ?_
  rintro e w1 ⟨rfl, hb1⟩
  have hB1 : Blk w1 w.heap.size [.int .i64 n, .slice ao l.length cap] 35 := (Blk.new' [.int .i64 n, .slice ao l.length cap] _ rfl).below hb1 (by simp)
  have hb01 : Below w.heap.size w w1 := by (repeat (first | with_reducible exact Below.refl _ _ | with_reducible assumption | with_reducible refine Below.setCell ?_ (by first | omega | (simp; done) | (simp; omega)) _ | with_reducible refine Below.alloc ?_ (by first | omega | (simp; done) | (simp; omega)) _ | with_reducible refine Below.drew ?_ | with_reducible refine belowDrewN ?_ _ | with_reducible refine Below.trans ?_ (Below.mono (by assumption) (by first | omega | (simp; done) | (simp; omega)))))
  have hs1 := hb01.size
  have hlt1 := hB1.lt
  clear hb1
  go_wp2
  refine wp_gen fun W hW => ?_
  have hB : Blk W w.heap.size [.int .i64 n, .slice ao l.length cap] 35 := by rw [hW]; exact hB1.alloc _
  have hb0 : Below w.heap.size w W := by rw [hW]; exact hb01.alloc hs1 _
  have hM0 : OwnM W (w.heap.size + 1) (.slice (some ⟨w1.heap.size, 0, none⟩) 0 0) (colsM F 0) := by rw [hW]; exact OwnM.empty' rfl (by omega)
  clear hW hB1 hb01 hs1 hlt1 hV
  go_loopw [4, 5] (fun y z wr => ∃ j : Nat, z = .int .i64 j ∧ j ≤ N ∧ OwnM wr (w.heap.size + 1) y (colsM F j) ∧ Hid (∀ i, i < j → ok i = true) ∧ Blk wr w.heap.size [.int .i64 n, .slice ao l.length cap] 35 ∧ Below w.heap.size w wr) (fun _ z _ => N - (intOf z).toNat)
  case atStart => exact ⟨0, rfl, Nat.zero_le _, hM0, fun _ h => absurd h (Nat.not_lt_zero _), hB, hb0⟩
  case round =>
    obtain ⟨j, rfl, j0, hM, hall, hB, hb0⟩ := hrel
    have hs0 := hb0.size
    have hlt := hB.lt
    obtain ⟨yo, yc, rfl, hyR, hyc1, hyc2⟩ := hM.read
    obtain ⟨cB, fB, sB⟩ := hB.facts
    by_cases hj : j < N
    · obtain ⟨vs, ho, hrows, hdist⟩ := hM.parts
      have hAj := Lib.hid (fun ao bo ca cb w h1 h2 => HA.out j ao bo ca cb w hj h1 h2)
      have hlr := h.below hb0
      clear hyR hM
      go_wp2
      go_region_held3 (fun w' => Below wr.heap.size wr w' ∧ (∀ b o, b < wr.heap.size → w'.cell? ⟨b, o, none⟩ = wr.cell? ⟨b, o, none⟩) ∧ (∀ b o, b < wr.heap.size → w'.frozen? ⟨b, o, none⟩ = wr.frozen? ⟨b, o, none⟩) ∧ wr.heap.size ≤ w'.heap.size) ((exact bpack (by (repeat (first | with_reducible exact Below.refl _ _ | with_reducible assumption | with_reducible refine Below.setCell ?_ (by first | omega | (simp; done) | (simp; omega)) _ | with_reducible refine Below.alloc ?_ (by first | omega | (simp; done) | (simp; omega)) _ | with_reducible refine Below.drew ?_ | with_reducible refine belowDrewN ?_ _ | with_reducible refine Below.trans ?_ (Below.mono (by assumption) (by first | omega | (simp; done) | (simp; omega)))))))) (first | (go_at_call 97; refine (iBasisState _ _ _).mono ?_; rintro e wa ⟨x, rfl, hx, hb⟩; obtain ⟨xo, xc, rfl, hxR, hxc1, hxc2⟩ := hx.read) | (go_at_call 59; refine (hAj.out _ _ _ _ _ (hlr.below (by (repeat (first | with_reducible exact Below.refl _ _ | with_reducible assumption | with_reducible refine Below.setCell ?_ (by first | omega | (simp; done) | (simp; omega)) _ | with_reducible refine Below.alloc ?_ (by first | omega | (simp; done) | (simp; omega)) _ | with_reducible refine Below.drew ?_ | with_reducible refine belowDrewN ?_ _ | with_reducible refine Below.trans ?_ (Below.mono (by assumption) (by first | omega | (simp; done) | (simp; omega))))))) (by first | exact hxR | exact hxR.below (by (repeat (first | with_reducible exact Below.refl _ _ | with_reducible assumption | with_reducible refine Below.setCell ?_ (by first | omega | (simp; done) | (simp; omega)) _ | with_reducible refine Below.alloc ?_ (by first | omega | (simp; done) | (simp; omega)) _ | with_reducible refine Below.drew ?_ | with_reducible refine belowDrewN ?_ _ | with_reducible refine Below.trans ?_ (Below.mono (by assumption) (by first | omega | (simp; done) | (simp; omega)))))))).mono ?_; rintro e wc ⟨y, rfl, hy, hb2⟩; obtain ⟨uo, uc, rfl, huR, huc1, huc2⟩ := hy.read))
      have hwc : Below wr.heap.size wr wc := And.left (by assumption)
      have hy2 := hy.mono (base' := wr.heap.size) (by have := hb.size; simp at this; omega)
      have ho1 := ownsRow_below ho hwc (Nat.le_refl _)
      have hs1 := hwc.size
      have hb8 : Below w.heap.size w wc := hb0.trans (hwc.mono hs0)
      have hB8 := hB.below hwc hlt
      clear hx hxR hy huR hb hb2 cB fB sB hAj hB hb0 hlr h
      rcases hoj : ok j with _ | _
      · have hfin := Lib.hid (HNO.out j hj hoj)
        clear hoj
        go_wp2
        go_ret2
        exact ⟨.slice none 0 0, by rw [hfin.out]; rfl, by rw [hfin.out]; exact OwnM.nil _ _, hb8⟩
      · have hall2 := Lib.hid (oks_step hall.out hoj)
        have hFl := HFL.out j hj hoj
        have HF := Lib.hid hFl
        clear hFl hoj
        rw [HF.out]
        go_wp2_with (first | (at_builtin; refine wpList_append_own _ rfl _ _ 26 rfl (w.heap.size + 1) TS iS _ 1 24 Try.underlying26 hiS hzS0 hzS1 hzS2 rfl (by decide) _ _ _ (by rw [colsM_length]; rfl) (World.ownsRow.alloc ho1 _) ⟨wc.heap.size, 0, none⟩ 1 1 [.slice uo N uc] rfl rfl ?c1 ?c2 ?c3 ?c4 ?c5 ?_))
        case c1 => exact at_new _ [Value.slice uo N uc] _
        case c2 => exact slice_one _ _ _
        case c3 => unfold maxLen; omega
        case c4 => omega
        case c5 => simp; omega
        intro v' w' hown' hgrow _
        have hM' : OwnM w' (w.heap.size + 1) v' (colsM F (j + 1)) := OwnM.push (by omega) ho hrows hdist hwc (by rw [← HF.out]; exact hy2) hown' hgrow
        have hbb : Below w.heap.size w w' := (hb8.alloc (by omega) _).grown hgrow (by simp; omega) fun g hg => by have := (World.ownsRow.lt ho1 g hg).1; omega
        have hBB : Blk w' w.heap.size [.int .i64 n, .slice ao l.length cap] 35 := (hgrow.block _ (by simp; omega) (fun e => by have := (World.ownsRow.lt ho1 _ e.symm).1; omega)).trans (hB8.alloc _)
        clear hown' hgrow ho ho1 hrows hdist
        go_wp2
        go_roundw
        case rel => exact ⟨j + 1, by go_num, by omega, hM', hall2.out, hBB, hbb⟩
        case measure => simp [intOf]; omega
    · have hjn : j = N := by omega
      subst hjn
      have HC := Lib.hid (HCOLS.out hall.out)
      have hfin := Lib.hid (HYES.out hall.out)
      go_wp2_with fail
      refine (iFlipped _ (colsM F j) _ HC.out.1 HC.out.2 _ hyR).mono ?_
      rintro e w7 ⟨x, rfl, hx, hb7⟩
      have hx2 := hx.mono hs0
      rw [show flip (colsM F j) = (matG n l).1 by rw [hfin.out]] at hx2
      go_wp2
      go_ret2
      exact ⟨_, by rw [hfin.out]; rfl, hx2, by (repeat (first | with_reducible exact Below.refl _ _ | with_reducible assumption | with_reducible refine Below.setCell ?_ (by first | omega | (simp; done) | (simp; omega)) _ | with_reducible refine Below.alloc ?_ (by first | omega | (simp; done) | (simp; omega)) _ | with_reducible refine Below.drew ?_ | with_reducible refine belowDrewN ?_ _ | with_reducible refine Below.trans ?_ (Below.mono (by assumption) (by first | omega | (simp; done) | (simp; omega)))))⟩

set_option maxRecDepth 100000 in
set_option maxHeartbeats 8000000 in
theorem iCircuitMatrix (n : Int) (ao : Option Addr) (l : List GT) (cap : Nat) (hl : l.length ≤ 2000000) (w : World) (h : RdG w ao l) :
    Calls Try.prog 31 #[Cv n ao l.length cap] w fun e w' => ∃ x, e = .returned (.tuple #[x, .bool (circM n l).2]) ∧ OwnM w' w.heap.size x (circM n l).1 ∧ Below w.heap.size w w' := by
  by_cases hc : okC n l = true
  · have h14 := (inR_iff _ _ _).1 ((okC_iff n l).1 hc).1
    obtain ⟨n, rfl⟩ := Int.eq_ofNat_of_zero_le (show 0 ≤ n by omega)
    rw [circM_yes hc]
    exact iCircuitOk n (by omega) (by omega) ao l cap hl hc w h
  · have hfin := Lib.hid (circM_no hc)
    have hV : ∀ w, RdG w ao l → Calls Try.prog 37 #[Cv n ao l.length cap] w fun e w' => e = .returned (.bool false) ∧ Below w.heap.size w w' := fun w h => by
      have := iIsValidCircuit n ao l cap hl w h
      have hc' : okC n l = false := by simpa using hc
      rwa [hc'] at this
    clear hc
    go_enter Try.func31, Try.ntmps31
    go_wp2_with fail
    refine (hV _ (h.below (by (repeat (first | with_reducible exact Below.refl _ _ | with_reducible assumption | with_reducible refine Below.setCell ?_ (by first | omega | (simp; done) | (simp; omega)) _ | with_reducible refine Below.alloc ?_ (by first | omega | (simp; done) | (simp; omega)) _ | with_reducible refine Below.drew ?_ | with_reducible refine belowDrewN ?_ _ | with_reducible refine Below.trans ?_ (Below.mono (by assumption) (by first | omega | (simp; done) | (simp; omega)))))))).mono ?_
    rintro e w1 ⟨rfl, hb1⟩
    have hb01 : Below w.heap.size w w1 := by (repeat (first | with_reducible exact Below.refl _ _ | with_reducible assumption | with_reducible refine Below.setCell ?_ (by first | omega | (simp; done) | (simp; omega)) _ | with_reducible refine Below.alloc ?_ (by first | omega | (simp; done) | (simp; omega)) _ | with_reducible refine Below.drew ?_ | with_reducible refine belowDrewN ?_ _ | with_reducible refine Below.trans ?_ (Below.mono (by assumption) (by first | omega | (simp; done) | (simp; omega)))))
    go_wp2
    go_ret2
    exact ⟨.slice none 0 0, by rw [hfin.out]; rfl, by rw [hfin.out]; exact OwnM.nil _ _, hb01⟩

end Go.Proofs.Yteckhaafdojoeaa
