/- Small lemmas on worlds, second part: the class of the worlds that keep what a world holds; matrices and states in memory. -/
import Derived.Test.YteckhaafdojoeaaW
import Derived.Deep.RegionHeld3
import Derived.Lib.Hide
namespace Go.Proofs.Yteckhaafdojoeaa
open Go.RowKit

/-- The class that a region with calls is walked in. -/
theorem bpack {W w' : World} (hb : Below W.heap.size W w') : Below W.heap.size W w' ∧ (∀ b o, b < W.heap.size → w'.cell? ⟨b, o, none⟩ = W.cell? ⟨b, o, none⟩) ∧ (∀ b o, b < W.heap.size → w'.frozen? ⟨b, o, none⟩ = W.frozen? ⟨b, o, none⟩) ∧ W.heap.size ≤ w'.heap.size :=
  ⟨hb, fun b o h => hb.cell (p := ⟨b, o, none⟩) h, fun b o h => hb.frozen (p := ⟨b, o, none⟩) h, hb.size⟩

/-- What the walk wants behind a call that keeps old memory: the last part lets it see, through several such worlds, that a block is there. -/
theorem bkeep {W w1 : World} (hb : Below W.heap.size W w1) : (∀ b o, b < W.heap.size → w1.cell? ⟨b, o, none⟩ = W.cell? ⟨b, o, none⟩) ∧ (∀ b o, b < W.heap.size → w1.frozen? ⟨b, o, none⟩ = W.frozen? ⟨b, o, none⟩) ∧ W.heap.size ≤ w1.heap.size ∧ (∀ x, x < W.heap.size → x < w1.heap.size) :=
  ⟨fun b o h => hb.cell (p := ⟨b, o, none⟩) h, fun b o h => hb.frozen (p := ⟨b, o, none⟩) h, hb.size, fun _ h => Nat.lt_of_lt_of_le h hb.size⟩

theorem belowDrewN {B : Nat} {a w : World} (h : Below B a w) (n : Nat) : Below B a (w.drewN n) := ⟨h.os, h.tape, h.output, h.size, h.block⟩

end Go.Proofs.Yteckhaafdojoeaa
