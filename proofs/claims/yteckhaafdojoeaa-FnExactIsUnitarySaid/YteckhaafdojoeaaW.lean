/- Small lemmas on the model's worlds that the walks lean on: what a call that leaves old memory alone keeps. -/
import Derived.Test.YteckhaafdojoeaaM
import Derived.WalkKit
import Derived.Below
import Derived.Deep.Draws
namespace Go.Proofs.Yteckhaafdojoeaa
open Go.RowKit

abbrev Zv (z : Z4) : Value := .agg #[.int .i64 z.a, .int .i64 z.b, .int .i64 z.c, .int .i64 z.d]
abbrev Dv (x : DO) : Value := .agg #[.int .i64 x.n.a, .int .i64 x.n.b, .int .i64 x.n.c, .int .i64 x.n.d, .int .i64 x.e]

theorem bcell {W w1 : World} (hb : Below W.heap.size W w1) : (∀ b o, b < W.heap.size → w1.cell? ⟨b, o, none⟩ = W.cell? ⟨b, o, none⟩) ∧ (∀ b o, b < W.heap.size → w1.frozen? ⟨b, o, none⟩ = W.frozen? ⟨b, o, none⟩) ∧ W.heap.size ≤ w1.heap.size :=
  ⟨fun b o h => hb.cell (p := ⟨b, o, none⟩) h, fun b o h => hb.frozen (p := ⟨b, o, none⟩) h, hb.size⟩

/-- Block b holds just these cells, none of them frozen. -/
def Blk (w : World) (b : Nat) (xs : List Value) (t : TypeId) : Prop := w.heap[b]? = some (.cells xs.toArray t (0, 0))

theorem Blk.lt {w : World} {b : Nat} {xs : List Value} {t : TypeId} (h : Blk w b xs t) : b < w.heap.size := by
  unfold Blk at h
  exact (Array.getElem?_eq_some_iff.1 h).1
theorem Blk.cell {w : World} {b : Nat} {xs : List Value} {t : TypeId} (h : Blk w b xs t) (o : Nat) : w.cell? ⟨b, o, none⟩ = xs[o]? := by
  unfold Blk at h
  simp [World.cell?, h]
theorem Blk.frozen {w : World} {b : Nat} {xs : List Value} {t : TypeId} (h : Blk w b xs t) (o : Nat) : w.frozen? ⟨b, o, none⟩ = false := by
  unfold Blk at h
  simp [World.frozen?, h]
theorem Blk.new (w : World) (xs : List Value) (t : TypeId) : Blk (w.alloc (.cells xs.toArray t)) w.heap.size xs t := by
  show (w.heap.push _)[w.heap.size]? = _
  simp
theorem Blk.alloc {w : World} {b : Nat} {xs : List Value} {t : TypeId} (h : Blk w b xs t) (o : Obj) : Blk (w.alloc o) b xs t := by
  have := h.lt
  unfold Blk at *
  rw [Below.heap_alloc _ _ _ this, h]
theorem Blk.drew {w : World} {b : Nat} {xs : List Value} {t : TypeId} (h : Blk w b xs t) : Blk w.drew b xs t := h
theorem Blk.drewN {w : World} {b : Nat} {xs : List Value} {t : TypeId} (h : Blk w b xs t) (n : Nat) : Blk (w.drewN n) b xs t := by
  unfold Blk at *
  rw [← h]
  cases n <;> rfl
theorem Blk.other {w : World} {b : Nat} {xs : List Value} {t : TypeId} (h : Blk w b xs t) {a : Addr} (hb : b ≠ a.block) (u : Value) : Blk (w.setCell a u) b xs t := by
  unfold Blk at *
  rw [Below.heap_setCell _ _ _ _ hb, h]
theorem Blk.set {w : World} {b : Nat} {xs : List Value} {t : TypeId} (h : Blk w b xs t) (o : Nat) (u : Value) : Blk (w.setCell ⟨b, o, none⟩ u) b (xs.set o u) t := by
  unfold Blk at *
  simp [World.setCell, Array.getElem?_modify, h]
theorem Blk.below {B : Nat} {w w' : World} {b : Nat} {xs : List Value} {t : TypeId} (h : Blk w b xs t) (hb : Below B w w') (hB : b < B) : Blk w' b xs t := by
  unfold Blk at *
  rw [hb.block b hB, h]
theorem Blk.eq {w : World} {b : Nat} {xs ys : List Value} {t : TypeId} (h : Blk w b xs t) (e : xs = ys) : Blk w b ys t := e ▸ h
/-- What the walk wants of a block. -/
theorem Blk.facts {w : World} {b : Nat} {xs : List Value} {t : TypeId} (h : Blk w b xs t) : (∀ o, w.cell? ⟨b, o, none⟩ = xs[o]?) ∧ (∀ o, w.frozen? ⟨b, o, none⟩ = false) ∧ b < w.heap.size :=
  ⟨h.cell, h.frozen, h.lt⟩

theorem Blk.new' {w : World} {b : Nat} (xs : List Value) (t : TypeId) (h : b = w.heap.size) : Blk (w.alloc (.cells xs.toArray t)) b xs t := h ▸ Blk.new w xs t
theorem Blk.set4 {w : World} {b : Nat} {y0 y1 y2 y3 : Value} {t : TypeId} (h : Blk w b [y0, y1, y2, y3] t) (x0 x1 x2 x3 : Value) :
    Blk ((((w.setCell ⟨b, 0, none⟩ x0).setCell ⟨b, 1, none⟩ x1).setCell ⟨b, 2, none⟩ x2).setCell ⟨b, 3, none⟩ x3) b [x0, x1, x2, x3] t :=
  (((h.set 0 x0).set 1 x1).set 2 x2).set 3 x3
theorem Blk.set5 {w : World} {b : Nat} {y0 y1 y2 y3 y4 : Value} {t : TypeId} (h : Blk w b [y0, y1, y2, y3, y4] t) (x0 x1 x2 x3 x4 : Value) :
    Blk (((((w.setCell ⟨b, 0, none⟩ x0).setCell ⟨b, 1, none⟩ x1).setCell ⟨b, 2, none⟩ x2).setCell ⟨b, 3, none⟩ x3).setCell ⟨b, 4, none⟩ x4) b [x0, x1, x2, x3, x4] t :=
  ((((h.set 0 x0).set 1 x1).set 2 x2).set 3 x3).set 4 x4

end Go.Proofs.Yteckhaafdojoeaa
