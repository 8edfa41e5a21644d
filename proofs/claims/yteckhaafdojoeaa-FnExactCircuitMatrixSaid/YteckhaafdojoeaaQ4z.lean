/- Arguments opened: a circuit of the laws' own type, from its reading. -/
import Derived.Test.YteckhaafdojoeaaQ3z
import Derived.Test.YteckhaafdojoeaaGi
namespace Go.Proofs.Yteckhaafdojoeaa
open Go.ChangeShapes Go.WideShapes Go.RowKit Go.Deep Go.Joins

section
variable {H : Type} {enc : TypeId × Value → H} {w : World} {base : Nat} {spare : Nat → Bool} {held : Bool}

set_option maxRecDepth 100000 in
theorem open_circuit {r : Reach} {b0 : Nat} {v : Value} {d : DataW H} {p : List MemPlace} (hv : Value.okWide Try.prog w r b0 89 v) (h : DataW.Trod enc Try.prog w base spare held 89 v d p) :
    ∃ (n : Int) (ao : Option Addr) (l : List GT) (cap : Nat), v = Cv n ao l.length cap ∧ l.length ≤ maxLen ∧ RdG w ao l := by
  obtain ⟨v0, v1, y0, y1, n, rfl, _, _, h0, h1⟩ := open_agg2 (Try.underlying89) (by kernel_rfl) (by kernel_rfl) hv h
  obtain ⟨k0, q0, _, _⟩ := DataW.trod_int (Try.underlying3) h0
  obtain ⟨ao, l, cap, q1, hm, hR⟩ := open_gates h1
  simp only [List.cons.injEq, and_true] at q0 q1
  subst q0 q1
  exact ⟨k0, ao, l, cap, rfl, hm, hR⟩
end
end Go.Proofs.Yteckhaafdojoeaa
