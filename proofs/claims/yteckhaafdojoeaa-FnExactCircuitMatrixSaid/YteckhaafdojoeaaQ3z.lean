/- Arguments opened: a row of gates of the laws' own type, from its reading. -/
import Derived.Test.YteckhaafdojoeaaQ2z
import Derived.Test.YteckhaafdojoeaaGi
namespace Go.Proofs.Yteckhaafdojoeaa
open Go.ChangeShapes Go.WideShapes Go.RowKit Go.Deep Go.Joins

section
variable {H : Type} {enc : TypeId × Value → H} {w : World} {base : Nat} {spare : Nat → Bool} {held : Bool}
instance : Inhabited GT := ⟨⟨0, 0, 0, 0⟩⟩

set_option maxRecDepth 100000 in
theorem open_gcells {fuel : Nat} {cs : List Value} {x : DataW H × List MemPlace} (h : DataW.trod enc Try.prog w base spare held fuel 53 cs = some x) : ∃ g : GT, cs = gcells g := by
  obtain ⟨y0, y1, y2, y3, n, rfl, hl, h0, h1, h2, h3⟩ := trod_struct4 (Try.underlying53) h
  have hl4 : cs.length = 4 := hl.trans (by kernel_rfl)
  match cs, hl4 with
  | [a, b, c, d], _ =>
    have c3 : Try.prog.cellsOf 3 = 1 := by kernel_rfl
    obtain ⟨k0, q0, _, _⟩ := DataW.trod_int (Try.underlying3) h0
    obtain ⟨k1, q1, _, _⟩ := DataW.trod_int (Try.underlying3) h1
    obtain ⟨k2, q2, _, _⟩ := DataW.trod_int (Try.underlying3) h2
    obtain ⟨k3, q3, _, _⟩ := DataW.trod_int (Try.underlying3) h3
    simp only [c3, List.drop_zero, List.drop_succ_cons, List.take_succ_cons, List.take_zero, List.cons.injEq, and_true] at q0 q1 q2 q3
    subst q0 q1 q2 q3
    exact ⟨⟨k0, k1, k2, k3⟩, rfl⟩

set_option maxRecDepth 100000 in
theorem open_gates {fuel : Nat} {cs : List Value} {x : DataW H × List MemPlace} (h : DataW.trod enc Try.prog w base spare held fuel 68 cs = some x) :
    ∃ (ao : Option Addr) (l : List GT) (cap : Nat), cs = [.slice ao l.length cap] ∧ l.length ≤ maxLen ∧ RdG w ao l := by
  rcases open_slice (Try.underlying68) h with ⟨rfl, _⟩ | ⟨a, len, cap, m, n, D, Pl, rfl, hb, hl, hm, hmm, hx, hel⟩
  · exact ⟨none, [], 0, rfl, Nat.zero_le _, fun i hi => absurd hi (Nat.not_lt_zero _)⟩
  · have hle : len ≤ m := by rw [hmm]; split <;> omega
    have c5 : Try.prog.cellsOf 53 = 4 := by kernel_rfl
    have each : ∀ i, i < len → ∃ d : GT, w.cells? base (a.add (i * 4)) 4 = some (gcells d) := fun i hi' => by
      obtain ⟨cs', hc, ht⟩ := hel i (by omega)
      obtain ⟨d, rfl⟩ := open_gcells ht
      rw [c5] at hc
      exact ⟨d, hc⟩
    obtain ⟨f, hf⟩ := choose_lt each
    refine ⟨some a, listOf len f, cap, by rw [listOf_length], by rw [listOf_length]; omega, fun i hil => ?_⟩
    have hi : i < len := by simpa [listOf_length] using hil
    rw [listOf_get]
    obtain ⟨b, o, sp⟩ := a
    have hsp : sp = none := by
      obtain ⟨_, _, hat⟩ := World.cells?_some (hf 0 (by omega))
      have h0 := hat 0 (by omega)
      rw [Nat.zero_mul] at h0
      exact World.cell?_spot (a := ⟨b, o, sp⟩) (v := .int .i64 (f 0).k) h0
    subst hsp
    obtain ⟨_, _, hat⟩ := World.cells?_some (hf i hi)
    have key : ∀ j, j < 4 → w.cell? ⟨b, o + i * 4 + j, none⟩ = (gcells (f i))[j]? := fun j hj => by
      have := hat j hj
      rwa [Addr.add_lit, Addr.add_lit] at this
    refine ⟨b, o, rfl, ?_, key⟩
    have h0 : w.cell? ⟨b, o + i * 4 + 0, none⟩ = some (.int .i64 (f i).k) := key 0 (by omega)
    exact cell_lt h0
end
end Go.Proofs.Yteckhaafdojoeaa
