/- Memory that a call makes: a state of its own, a matrix of its own. -/
import Derived.Test.YteckhaafdojoeaaS4
import Derived.OwnWalk
namespace Go.Proofs.Yteckhaafdojoeaa
open Go.RowKit

abbrev TD : Nat := 114
abbrev TS : Nat := 56

def dcells (x : DO) : List Value := [.int .i64 x.n.a, .int .i64 x.n.b, .int .i64 x.n.c, .int .i64 x.n.d, .int .i64 x.e]
def cellsD (l : List DO) : List Value := l.flatMap dcells
theorem cellsD_snoc (l : List DO) (x : DO) : cellsD (l ++ [x]) = cellsD l ++ dcells x := by simp [cellsD]
theorem cellsD_length (l : List DO) : (cellsD l).length = l.length * 5 := by
  induction l with
  | nil => rfl
  | cons x l ih => simp only [cellsD, List.flatMap_cons, List.length_append, List.length_cons] at *; rw [ih]; simp [dcells]; omega
theorem cellsD_get : ∀ (l : List DO) (i : Nat) (h : i < l.length) (j : Nat), j < 5 → (cellsD l)[i * 5 + j]? = (dcells l[i])[j]?
  | x :: l, 0, _, j, hj => by
    simp only [cellsD, List.flatMap_cons, Nat.zero_mul, Nat.zero_add, List.getElem_cons_zero]
    rw [List.getElem?_append_left (by simpa [dcells] using hj)]
  | x :: l, i + 1, h, j, hj => by
    simp only [cellsD, List.flatMap_cons, List.getElem_cons_succ]
    rw [List.getElem?_append_right (by simp [dcells]; omega), show (i + 1) * 5 + j - (dcells x).length = i * 5 + j by simp [dcells]; omega]
    exact cellsD_get l i (by simpa using h) j hj

/-- v is a state of the call's own, in blocks from base on, that reads as l. -/
def OwnS (w : World) (base : Nat) (v : Value) (l : List DO) : Prop := w.ownsRow base TD 5 v l.length (cellsD l)

theorem OwnS.read {w : World} {base : Nat} {v : Value} {l : List DO} (h : OwnS w base v l) : ∃ ao cap, v = .slice ao l.length cap ∧ StR w ao l ∧ l.length ≤ cap ∧ cap ≤ maxLen := by
  rcases h.2 with ⟨rfl, h0⟩ | ⟨g, cap, cur, rfl, hb, hg, hn, hc, hs, ht⟩
  · exact ⟨none, 0, by rw [h0], fun i hi => absurd hi (by omega), by omega, by decide⟩
  · refine ⟨_, cap, rfl, fun i hi => ⟨g, 0, rfl, (Array.getElem?_eq_some_iff.1 hg).1, ?_⟩, hn, hc⟩
    have key : ∀ j, j < 5 → w.cell? ⟨g, 0 + i * 5 + j, none⟩ = (dcells l[i])[j]? := fun j hj => by
      rw [Nat.zero_add, World.ownsRow.cellAt h (i * 5 + j) (by omega), cellsD_get l i hi j hj]
    exact ⟨key 0 (by omega), key 1 (by omega), key 2 (by omega), key 3 (by omega), key 4 (by omega)⟩
theorem OwnS.below {B : Nat} {w w' : World} {base : Nat} {v : Value} {l : List DO} (h : OwnS w base v l) (hb : Below B w w') (hB : w.heap.size ≤ B) : OwnS w' base v l := by
  refine ⟨h.1, ?_⟩
  rcases h.2 with h0 | ⟨g, cap, cur, hv, hbg, hg, r⟩
  · exact .inl h0
  · exact .inr ⟨g, cap, cur, hv, hbg, by rw [hb.block g (Nat.lt_of_lt_of_le (Array.getElem?_eq_some_iff.1 hg).1 hB), hg], r⟩
theorem OwnS.mono {w : World} {base base' : Nat} {v : Value} {l : List DO} (h : OwnS w base v l) (hb : base' ≤ base) : OwnS w base' v l := by
  refine ⟨h.1, ?_⟩
  rcases h.2 with h0 | ⟨g, cap, cur, hv, hbg, r⟩
  · exact .inl h0
  · exact .inr ⟨g, cap, cur, hv, Nat.le_trans hb hbg, r⟩
theorem OwnS.nil (w : World) (base : Nat) : OwnS w base (.slice none 0 0) [] := World.ownsRow_nil _ _ _ _
theorem OwnS.snoc {w : World} {base : Nat} {v : Value} {l : List DO} {x : DO} (h : w.ownsRow base TD 5 v (l.length + 1) (cellsD l ++ dcells x)) : OwnS w base v (l ++ [x]) := by
  unfold OwnS
  rw [cellsD_snoc, List.length_append]
  exact h

/-- v is a matrix of the call's own: its rows lie apart. -/
def OwnM (w : World) (base : Nat) (v : Value) (m : List (List DO)) : Prop :=
  ∃ vs : List Value, w.ownsRow base TS 1 v m.length vs ∧ (∀ i (h : i < m.length), ∃ x, vs[i]? = some x ∧ OwnS w base x m[i]) ∧
    ∀ (i j : Nat) (x y : Value), i < j → vs[i]? = some x → vs[j]? = some y → ∀ a, x.ownBlock = some a → y.ownBlock ≠ some a
/-- The slice (ao, n) reads as the matrix m. -/
def MtR (w : World) (ao : Option Addr) (m : List (List DO)) : Prop :=
  ∀ i (h : i < m.length), ∃ b o, ao = some ⟨b, o, none⟩ ∧ b < w.heap.size ∧ ∃ ro cap, w.cell? ⟨b, o + i, none⟩ = some (.slice ro m[i].length cap) ∧ StR w ro m[i]
theorem MtR.below {w w' : World} {ao : Option Addr} {m : List (List DO)} (h : MtR w ao m) (hb : Below w.heap.size w w') : MtR w' ao m := fun i hi => by
  obtain ⟨b, o, h1, h2, ro, cap, h3, h4⟩ := h i hi
  exact ⟨b, o, h1, Nat.lt_of_lt_of_le h2 hb.size, ro, cap, by rw [hb.cell (p := ⟨b, o + i, none⟩) h2, h3], h4.below hb⟩
theorem OwnM.read {w : World} {base : Nat} {v : Value} {m : List (List DO)} (h : OwnM w base v m) : ∃ ao cap, v = .slice ao m.length cap ∧ MtR w ao m ∧ m.length ≤ cap ∧ cap ≤ maxLen := by
  obtain ⟨vs, ho, hr, _⟩ := h
  rcases ho.2 with ⟨rfl, h0⟩ | ⟨g, cap, cur, rfl, hb, hg, hn, hc, hs, ht⟩
  · exact ⟨none, 0, by rw [h0], fun i hi => absurd hi (by omega), by omega, by decide⟩
  · refine ⟨_, cap, rfl, fun i hi => ?_, hn, hc⟩
    obtain ⟨x, hx, hS⟩ := hr i hi
    obtain ⟨ro, c, rfl, hR, _⟩ := hS.read
    refine ⟨g, 0, rfl, (Array.getElem?_eq_some_iff.1 hg).1, ro, c, ?_, hR⟩
    rw [Nat.zero_add, World.ownsRow.cellAt ho i (by omega), hx]
theorem OwnM.below {B : Nat} {w w' : World} {base : Nat} {v : Value} {m : List (List DO)} (h : OwnM w base v m) (hb : Below B w w') (hB : w.heap.size ≤ B) : OwnM w' base v m := by
  obtain ⟨vs, ho, hr, hd⟩ := h
  refine ⟨vs, ⟨ho.1, ?_⟩, fun i hi => (hr i hi).imp fun x hx => ⟨hx.1, hx.2.below hb hB⟩, hd⟩
  rcases ho.2 with h0 | ⟨g, cap, cur, hv, hbg, hg, r⟩
  · exact .inl h0
  · exact .inr ⟨g, cap, cur, hv, hbg, by rw [hb.block g (Nat.lt_of_lt_of_le (Array.getElem?_eq_some_iff.1 hg).1 hB), hg], r⟩

/-- A row of slices and a state never lie in one block. -/
theorem OwnS.apart {w : World} {base b : Nat} {x v : Value} {l : List DO} {n : Nat} {vs : List Value} (h : OwnS w base x l) (ho : w.ownsRow b TS 1 v n vs) : x.ownBlock = none ∨ x.ownBlock ≠ v.ownBlock := by
  rcases h.2 with ⟨rfl, _⟩ | ⟨g, cap, cur, rfl, _, hg, _⟩
  · exact .inl rfl
  · rcases ho.2 with ⟨rfl, _⟩ | ⟨g', cap', cur', rfl, _, hg', _⟩
    · exact .inr (by simp [Value.ownBlock])
    · refine .inr fun e => ?_
      simp only [Value.ownBlock, Option.some.injEq] at e
      subst e
      rw [hg] at hg'
      simp [TD, TS] at hg'

theorem OwnM.snoc {w0 w1 w2 : World} {base : Nat} {v v' x : Value} {m : List (List DO)} {r : List DO} {vs : List Value} {ob : Obj} (hbase : base ≤ w0.heap.size)
    (ho : w0.ownsRow base TS 1 v m.length vs) (hr : ∀ i (h : i < m.length), ∃ x, vs[i]? = some x ∧ OwnS w0 base x m[i])
    (hd : ∀ (i j : Nat) (x y : Value), i < j → vs[i]? = some x → vs[j]? = some y → ∀ a, x.ownBlock = some a → y.ownBlock ≠ some a)
    (hb : Below w0.heap.size w0 w1) (hx : OwnS w1 w0.heap.size x r) (ho2 : w2.ownsRow base TS 1 v' (m.length + 1) (vs ++ [x])) (hg : (w1.alloc ob).grownBy w2 v.ownBlock) : OwnM w2 base v' (m ++ [r]) := by
  have ho1 : w1.ownsRow base TS 1 v m.length vs := by
    refine ⟨ho.1, ?_⟩
    rcases ho.2 with h0 | ⟨g, cap, cur, hv, hbg, hg, r⟩
    · exact .inl h0
    · exact .inr ⟨g, cap, cur, hv, hbg, by rw [hb.block g (Array.getElem?_eq_some_iff.1 hg).1, hg], r⟩
  have hl : vs.length = m.length := by have := ho.1; omega
  have keep : ∀ {y : Value} {l : List DO} {bb : Nat}, OwnS w1 bb y l → OwnS w2 bb y l := fun {y l bb} hy =>
    (World.ownsRow.alloc hy ob).kept hg (OwnS.apart hy ho1)
  refine ⟨vs ++ [x], by rw [List.length_append]; exact ho2, fun i hi => ?_, fun i j y z hij hy hz a ha => ?_⟩
  · by_cases him : i < m.length
    · obtain ⟨y, hy, hS⟩ := hr i him
      refine ⟨y, by rw [List.getElem?_append_left (by omega)]; exact hy, ?_⟩
      rw [List.getElem_append_left him]
      exact keep (hS.below hb (Nat.le_refl _))
    · have hi' : i = m.length := by simp at hi; omega
      subst hi'
      refine ⟨x, by rw [List.getElem?_append_right (by omega), hl]; simp, ?_⟩
      rw [List.getElem_append_right (Nat.le_refl _)]
      simp only [Nat.sub_self, List.getElem_cons_zero]
      exact (keep hx).mono hbase
  · have hjl : j < vs.length + 1 := by
      have := (List.getElem?_eq_some_iff.1 hz).1
      simpa using this
    have hil : i < vs.length := by omega
    rw [List.getElem?_append_left hil] at hy
    by_cases hj : j < vs.length
    · rw [List.getElem?_append_left hj] at hz
      exact hd i j y z hij hy hz a ha
    · have hj' : j = vs.length := by omega
      subst hj'
      rw [List.getElem?_append_right (Nat.le_refl _)] at hz
      simp only [Nat.sub_self, List.getElem?_cons_zero, Option.some.injEq] at hz
      subst hz
      intro hc
      obtain ⟨y', hy', hS⟩ := hr i (by omega)
      rw [hy] at hy'
      obtain rfl := Option.some.inj hy'
      have h1 := (World.ownsRow.lt hS a ha).2
      have h2 := (World.ownsRow.lt hx a hc).1
      omega

theorem infoD : (Try.prog.info? TD).map (fun i => (i.zero, i.size, i.bytes)) = some (some (.agg #[.int .i64 0, .int .i64 0, .int .i64 0, .int .i64 0, .int .i64 0]), 5, 40) := by kernel_rfl
theorem infoS : (Try.prog.info? TS).map (fun i => (i.zero, i.size, i.bytes)) = some (some (.slice none 0 0), 1, 24) := by kernel_rfl

end Go.Proofs.Yteckhaafdojoeaa
