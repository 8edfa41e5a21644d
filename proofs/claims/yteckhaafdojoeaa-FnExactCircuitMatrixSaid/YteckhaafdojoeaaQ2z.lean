/- Arguments opened: a gate of the laws' own type, from its reading. -/
import Derived.Test.YteckhaafdojoeaaQz
import Derived.Test.YteckhaafdojoeaaGg
import Derived.Lib.SmallJoins
namespace Go.Proofs.Yteckhaafdojoeaa
open Go.ChangeShapes Go.WideShapes Go.RowKit Go.Deep Go.Joins

section
variable {H : Type} {enc : TypeId × Value → H} {w : World} {base : Nat} {spare : Nat → Bool} {held : Bool}

set_option maxRecDepth 100000 in
theorem open_gate {r : Reach} {b0 : Nat} {v : Value} {d : DataW H} {p : List MemPlace} (hv : Value.okWide Try.prog w r b0 53 v) (h : DataW.Trod enc Try.prog w base spare held 53 v d p) : ∃ g : GT, v = Gv g := by
  obtain ⟨v0, v1, v2, v3, y0, y1, y2, y3, n, rfl, _, _, h0, h1, h2, h3⟩ := open_agg4 (Try.underlying53) (by kernel_rfl) (by kernel_rfl) hv h
  obtain ⟨k0, q0, _, _⟩ := DataW.trod_int (Try.underlying3) h0
  obtain ⟨k1, q1, _, _⟩ := DataW.trod_int (Try.underlying3) h1
  obtain ⟨k2, q2, _, _⟩ := DataW.trod_int (Try.underlying3) h2
  obtain ⟨k3, q3, _, _⟩ := DataW.trod_int (Try.underlying3) h3
  simp only [List.cons.injEq, and_true] at q0 q1 q2 q3
  subst q0 q1 q2 q3
  exact ⟨⟨k0, k1, k2, k3⟩, rfl⟩
end
end Go.Proofs.Yteckhaafdojoeaa
