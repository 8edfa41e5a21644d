/- Arguments opened: a slice of bytes, from its reading. -/
import Derived.Test.YteckhaafdojoeaaQz
import Derived.Test.YteckhaafdojoeaaGj
namespace Go.Proofs.Yteckhaafdojoeaa
open Go.ChangeShapes Go.WideShapes Go.RowKit Go.Deep

section
variable {H : Type} {enc : TypeId × Value → H} {w : World} {base : Nat} {spare : Nat → Bool} {held : Bool}

set_option maxRecDepth 100000 in
theorem open_code {fuel : Nat} {cs : List Value} {x : DataW H × List MemPlace} (h : DataW.trod enc Try.prog w base spare held fuel 22 cs = some x) :
    ∃ (ao : Option Addr) (l : List Int) (cap : Nat), cs = [.slice ao l.length cap] ∧ l.length ≤ maxLen ∧ RdU w ao l := by
  rcases open_slice1 (Try.underlying22) (by kernel_rfl) h with ⟨rfl, _⟩ | ⟨a, len, cap, m, n, V, D, Pl, rfl, hb, hl, hm, hmm, hx, hel⟩
  · exact ⟨none, [], 0, rfl, Nat.zero_le _, fun i hi => absurd hi (Nat.not_lt_zero _)⟩
  · have hle : len ≤ m := by rw [hmm]; split <;> omega
    have each : ∀ i, i < len → ∃ k : Int, w.cell? (a.add i) = some (.int .u8 k) := fun i hi' => by
      obtain ⟨hc, ht⟩ := hel i (by omega)
      obtain ⟨k, q, _, _⟩ := DataW.trod_int (Try.underlying5) ht
      rw [List.cons.injEq] at q
      rw [q.1] at hc
      exact ⟨k, hc⟩
    obtain ⟨f, hf⟩ := choose_lt each
    refine ⟨some a, listOf len f, cap, by rw [listOf_length], by rw [listOf_length]; omega, fun i hil => ?_⟩
    have hi : i < len := by simpa [listOf_length] using hil
    rw [listOf_get]
    obtain ⟨b, o, sp⟩ := a
    have hsp : sp = none := World.cell?_spot (a := ⟨b, o, sp⟩) (hf 0 (by omega))
    subst hsp
    have h1 := hf i hi
    rw [Addr.add_lit] at h1
    refine ⟨b, o, rfl, cell_lt h1, fun j hj => ?_⟩
    have : j = 0 := by omega
    subst this
    rw [Nat.mul_one, Nat.add_zero]
    exact h1
end
end Go.Proofs.Yteckhaafdojoeaa
