/- Arguments opened: a number, a state, a matrix of the laws' own types, from their reading. -/
import Derived.Test.YteckhaafdojoeaaGe
import Derived.Deep.Matrix
import Derived.ProofKit
namespace Go.Proofs.Yteckhaafdojoeaa
open Go.ChangeShapes Go.WideShapes Go.RowKit Go.Deep

abbrev LD : Nat := 132
/-- The slice (ao, n) reads as l, wherever it lies in its block. -/
def StRx (w : World) (ao : Option Addr) (l : List DO) : Prop := StR w ao l

theorem cell_lt {w : World} {b o : Nat} {v : Value} (h : w.cell? ⟨b, o, none⟩ = some v) : b < w.heap.size := by
  unfold World.cell? at h
  by_cases hb : b < w.heap.size
  · exact hb
  · rw [Array.getElem?_eq_none (by show w.heap.size ≤ b; omega)] at h
    simp at h

section
variable {H : Type} {enc : TypeId × Value → H} {w : World} {base : Nat} {spare : Nat → Bool} {held : Bool}

set_option maxRecDepth 100000 in
theorem open_num {fuel : Nat} {cs : List Value} {x : DataW H × List MemPlace} (h : DataW.trod enc Try.prog w base spare held fuel LD cs = some x) : x.2 = [] ∧ ∃ d : DO, cs = dcells d := by
  obtain ⟨y0, y1, n, rfl, hl, h0, h1⟩ := trod_struct2 (Try.underlying132) h
  have hl5 : cs.length = 5 := hl.trans (by kernel_rfl)
  match cs, hl5 with
  | [a, b, c, d, e], _ =>
    obtain ⟨xs, n', _, rfl, _, hlen, hf⟩ := DataW.trod_struct (Try.underlying130) h0
    obtain ⟨k4, q4, r4, _⟩ := DataW.trod_int (Try.underlying3) h1
    match xs, hlen with
    | [x0, x1, x2, x3], _ =>
      obtain ⟨k0, q0, r0, _⟩ := DataW.trod_int (Try.underlying3) (hf 0 _ rfl)
      obtain ⟨k1, q1, r1, _⟩ := DataW.trod_int (Try.underlying3) (hf 1 _ rfl)
      obtain ⟨k2, q2, r2, _⟩ := DataW.trod_int (Try.underlying3) (hf 2 _ rfl)
      obtain ⟨k3, q3, r3, _⟩ := DataW.trod_int (Try.underlying3) (hf 3 _ rfl)
      have c3 : Try.prog.cellsOf 3 = 1 := by kernel_rfl
      have cZ : Try.prog.cellsOf 130 = 4 := by kernel_rfl
      simp only [c3, cZ, List.getElem_toArray, List.getElem_cons_zero, List.getElem_cons_succ, List.drop_zero, List.drop_succ_cons, List.take_succ_cons, List.take_zero, List.cons.injEq, and_true] at q0 q1 q2 q3 q4
      subst q0 q1 q2 q3 q4 r0 r1 r2 r3 r4
      exact ⟨rfl, ⟨⟨⟨k0, k1, k2, k3⟩, k4⟩, rfl⟩⟩

/-- One list of states or matrices, by index. -/
def listOf {α : Type} [Inhabited α] (n : Nat) (f : Nat → α) : List α := (List.range n).map f
theorem listOf_length {α : Type} [Inhabited α] (n : Nat) (f : Nat → α) : (listOf n f).length = n := by simp [listOf]
theorem listOf_get {α : Type} [Inhabited α] (n : Nat) (f : Nat → α) (i : Nat) (h : i < (listOf n f).length) : (listOf n f)[i] = f i := by simp [listOf]
instance : Inhabited DO := ⟨⟨⟨0, 0, 0, 0⟩, 0⟩⟩

set_option maxRecDepth 100000 in
theorem open_state {fuel : Nat} {cs : List Value} {x : DataW H × List MemPlace} (h : DataW.trod enc Try.prog w base spare held fuel 54 cs = some x) :
    ∃ (ao : Option Addr) (l : List DO) (cap : Nat), cs = [.slice ao l.length cap] ∧ l.length ≤ maxLen ∧ StRx w ao l := by
  rcases open_slice (Try.underlying54) h with ⟨rfl, _⟩ | ⟨a, len, cap, m, n, D, Pl, rfl, hb, hl, hm, hmm, hx, hel⟩
  · exact ⟨none, [], 0, rfl, Nat.zero_le _, fun i hi => absurd hi (Nat.not_lt_zero _)⟩
  · have hle : len ≤ m := by rw [hmm]; split <;> omega
    have c5 : Try.prog.cellsOf 132 = 5 := by kernel_rfl
    have each : ∀ i, i < len → ∃ d : DO, w.cells? base (a.add (i * 5)) 5 = some (dcells d) := fun i hi' => by
      obtain ⟨cs', hc, ht⟩ := hel i (by omega)
      obtain ⟨_, d, rfl⟩ := open_num ht
      rw [c5] at hc
      exact ⟨d, hc⟩
    obtain ⟨f, hf⟩ := choose_lt each
    refine ⟨some a, listOf len f, cap, by rw [listOf_length], by rw [listOf_length]; omega, fun i hil => ?_⟩
    have hi : i < len := by simpa [listOf_length] using hil
    rw [listOf_get]
    obtain ⟨b, o, sp⟩ := a
    have hsp : sp = none := by
      obtain ⟨_, _, hat⟩ := World.cells?_some (hf 0 (by omega))
      have h0 := hat 0 (by omega)
      rw [Nat.zero_mul] at h0
      exact World.cell?_spot (a := ⟨b, o, sp⟩) (v := .int .i64 (f 0).n.a) h0
    subst hsp
    obtain ⟨_, _, hat⟩ := World.cells?_some (hf i hi)
    have key : ∀ j, j < 5 → w.cell? ⟨b, o + i * 5 + j, none⟩ = (dcells (f i))[j]? := fun j hj => by
      have := hat j hj
      rwa [Addr.add_lit, Addr.add_lit] at this
    refine ⟨b, o, rfl, ?_, key 0 (by omega), key 1 (by omega), key 2 (by omega), key 3 (by omega), key 4 (by omega)⟩
    have h0 : w.cell? ⟨b, o + i * 5 + 0, none⟩ = some (.int .i64 (f i).n.a) := key 0 (by omega)
    exact cell_lt h0

set_option maxRecDepth 100000 in
theorem open_matrix {fuel : Nat} {cs : List Value} {x : DataW H × List MemPlace} (h : DataW.trod enc Try.prog w base spare held fuel 48 cs = some x) :
    ∃ (ao : Option Addr) (m : List (List DO)) (cap : Nat), cs = [.slice ao m.length cap] ∧ m.length ≤ maxLen ∧ (∀ r ∈ m, r.length ≤ maxLen) ∧ MtR w ao m := by
  rcases open_slice1 (Try.underlying48) (by kernel_rfl) h with ⟨rfl, _⟩ | ⟨a, len, cap, m, n, V, D, Pl, rfl, hb, hl, hm, hmm, hx, hel⟩
  · exact ⟨none, [], 0, rfl, Nat.zero_le _, fun r hr => by simp at hr, fun i hi => absurd hi (Nat.not_lt_zero _)⟩
  · have hle : len ≤ m := by rw [hmm]; split <;> omega
    have each : ∀ i, i < len → ∃ l : List DO, ∃ ao c, w.cell? (a.add i) = some (.slice ao l.length c) ∧ l.length ≤ maxLen ∧ StR w ao l := fun i hi' => by
      obtain ⟨hc, ht⟩ := hel i (by omega)
      obtain ⟨ao, l, c, hv, hl, hS⟩ := open_state ht
      rw [List.cons.injEq] at hv
      rw [hv.1] at hc
      exact ⟨l, ao, c, hc, hl, hS⟩
    obtain ⟨f, hf⟩ := choose_lt each
    refine ⟨some a, listOf len f, cap, by rw [listOf_length], by rw [listOf_length]; omega, fun r hr => ?_, fun i hil => ?_⟩
    · obtain ⟨i, hil, rfl⟩ := List.getElem_of_mem hr
      have hi : i < len := by simpa [listOf_length] using hil
      rw [listOf_get]
      obtain ⟨ao, c, _, h1, _⟩ := hf i hi
      exact h1
    · have hi : i < len := by simpa [listOf_length] using hil
      rw [listOf_get]
      obtain ⟨b, o, sp⟩ := a
      have hsp : sp = none := by
        obtain ⟨ao, c, h1, _⟩ := hf 0 (by omega)
        exact World.cell?_spot (a := ⟨b, o, sp⟩) h1
      subst hsp
      obtain ⟨ao, c, h1, _, h3⟩ := hf i hi
      rw [Addr.add_lit] at h1
      exact ⟨b, o, rfl, cell_lt h1, ao, c, h1, h3⟩

end
end Go.Proofs.Yteckhaafdojoeaa
